/- Use: what stands in the book stays within bounds; the example; acts. -/
import Derived.Test.YtnceglkoolfncaaCg
import Derived.Test.YtnceglkoolfncaaOp
set_option linter.unusedSimpArgs false
set_option linter.unusedVariables false
namespace Go.Proofs.Ytnceglkoolfncaa.Us
open Go.RowKit Go.Pv Go.Proofs.Ytnceglkoolfncaa.Po Go.Proofs.YtnceglkoolfncaaW.PrintWords Go.Proofs.YtnceglkoolfncaaW.PrintLast Go.Proofs.Ytnceglkoolfncaa.Pr

theorem z6_get {al : UL} (h : GoodU al) (k : Int × Int) : In3 ((aget k al).getD z6).1 ∧ In3 ((aget k al).getD z6).2 ∧ fits ((aget k al).getD z6).1 ((aget k al).getD z6).2 := by
  cases e : aget k al with
  | none => exact ⟨z6_in, z6_in, by decide⟩
  | some s => exact h _ (aget_mem e)
theorem max3_in {a b : R3} (h : In3 a) (k : In3 b) : In3 (max3 a b) := by
  simp only [In3, max3] at *
  omega
theorem fits_max (a b : R3) : fits b (max3 a b) := by
  unfold fits
  refine r3_ext ?_ ?_ ?_ <;> simp only [max3] <;> omega
theorem fits_max_left (a b : R3) : fits a (max3 a b) := by
  unfold fits
  refine r3_ext ?_ ?_ ?_ <;> simp only [max3] <;> omega
theorem addS_good {s : US} (h1 : In3 s.1) (h2 : In3 s.2) (r : R3) : In3 (addS s r).1 ∧ In3 (addS s r).2 ∧ fits (addS s r).1 (addS s r).2 :=
  ⟨plus3_in _ _, max3_in h2 (plus3_in _ _), fits_max _ _⟩
theorem aset_memU {k : Int × Int} {v : US} {l : UL} {x : (Int × Int) × US} (h : x ∈ aset k v l) : x ∈ l ∨ x = (k, v) := by
  induction l with
  | nil => exact .inr (List.mem_singleton.1 h)
  | cons y ys ih =>
    simp only [aset] at h
    split at h
    · rcases List.mem_cons.1 h with h | h
      · exact .inr h
      · exact .inl (List.mem_cons_of_mem _ h)
    · rcases List.mem_cons.1 h with h | h
      · exact .inl (h ▸ List.mem_cons_self ..)
      · exact (ih h).imp (List.mem_cons_of_mem _) id
theorem addA_good {al : UL} (h : GoodU al) (k : Int × Int) (r : R3) : GoodU (addA k r al) := by
  intro x hx
  rcases aset_memU hx with h1 | h1
  · exact h x h1
  · rw [h1]
    have := z6_get h k
    exact addS_good this.1 this.2.1 r
theorem filter_goodU {al : UL} (f : (Int × Int) × US → Bool) (h : GoodU al) : GoodU (al.filter f) := fun r hr => h r (List.mem_filter.1 hr).1
theorem aset_lenU (k : Int × Int) (v : US) (al : UL) : (aset k v al).length ≤ al.length + 1 := by
  induction al with
  | nil => simp [aset]
  | cons x xs ih =>
    simp only [aset]
    split <;> simp only [List.length_cons] <;> omega
theorem adel_goodU {al : UL} (k : Int × Int) (nd : (al.map (·.1)).Nodup) (h : GoodU al) : GoodU (adel k al) := by
  rw [adel_filterU _ _ nd]
  exact filter_goodU _ h
theorem adel_lenU {al : UL} (k : Int × Int) (nd : (al.map (·.1)).Nodup) : (adel k al).length ≤ al.length := by
  rw [adel_filterU _ _ nd]
  exact List.length_filter_le _ _

/-- The book, within a law. -/
structure UV (u w : World) (p mb : Nat) (al : UL) : Prop where
  low : Below u.heap.size u w
  hp : u.heap.size ≤ p
  hm : u.heap.size ≤ mb
  bk : UBk w p mb al
  gd : GoodU al
section
variable {u w w' : World} {p mb : Nat} {al : UL}
theorem UV.later (h : UV u w p mb al) (hb : Below w.heap.size w w') : UV u w' p mb al := ⟨h.low.trans (hb.mono h.low.size), h.hp, h.hm, h.bk.below hb, h.gd⟩
theorem UV.alloc (h : UV u w p mb al) (o : Obj) : UV u (w.alloc o) p mb al := h.later ((Below.refl _ w).alloc (Nat.le_refl _) o)
theorem UV.step {al' : UL} (h : UV u w p mb al) (k : Keeps (fun i => i = mb) w w') (hb : UBk w' p mb al') (hg : GoodU al') : UV u w' p mb al' :=
  ⟨h.low.trans (k.below h.low.size (fun i hi => by rw [hi]; exact h.hm)), h.hp, h.hm, hb, hg⟩
theorem UV.add (h : UV u w p mb al) (b c : Int) (r : R3) : Calls Try.prog 81 #[.pointer (some ⟨p, 0, none⟩), .int .i64 b, .int .i64 c, rv r] w fun e w' => e = .returned (rv (addS ((aget (b, c) al).getD z6) r).1) ∧ UV u w' p mb (addA (b, c) r al) ∧ Keeps (fun i => i = mb) w w' :=
  (add_any' h.bk b c r (z6_get h.gd (b, c)).1).mono fun e w' ⟨h1, h2, h3⟩ => ⟨h1, h.step h3 h2 (addA_good h.gd _ _), h3⟩
theorem UV.drop (h : UV u w p mb al) (b c : Int) : Calls Try.prog 83 #[.pointer (some ⟨p, 0, none⟩), .int .i64 b, .int .i64 c] w fun e w' => e = .returned (.bool (decide ((adel (b, c) al).length < al.length))) ∧ UV u w' p mb (adel (b, c) al) ∧ Keeps (fun i => i = mb) w w' :=
  (drop_any h.bk b c).mono fun e w' ⟨h1, h2, h3⟩ => ⟨h1, h.step h3 h2 (adel_goodU _ h.bk.nd h.gd), h3⟩
theorem UV.gone (h : UV u w p mb al) (hl : al.length ≤ 1000) (b : Int) : Calls Try.prog 84 #[.pointer (some ⟨p, 0, none⟩), .int .i64 b] w fun e w' => e = .returned (.int .i64 ((al.length : Int) - ((al.filter fun r => !(r.1.1 == b)).length : Int))) ∧ UV u w' p mb (al.filter fun r => !(r.1.1 == b)) ∧ Keeps (fun i => i = mb) w w' :=
  (gone_use h.bk hl b).mono fun e w' ⟨h1, h2, h3⟩ => ⟨h1, h.step h3 h2 (filter_goodU _ h.gd), h3⟩
/-- A block that isn't the map's stays. -/
theorem blkU {g : Nat} {o : Obj} (h : w.heap[g]? = some o) (hb : UBk w p mb al) (ho : ∀ es c, o ≠ .map es c) (k : Keeps (fun i => i = mb) w w') : w'.heap[g]? = some o :=
  (k.block g (Array.getElem?_eq_some_iff.1 h).1 (fun e => by
    obtain ⟨es, clock, hm, _⟩ := hb.map
    rw [e, hm] at h
    exact ho _ _ (Option.some.inj h).symm)).trans h
end
def wa1 : UL := [((1, 1), ((5, 0, 0), (5, 0, 0)))]
def wa2 : UL := [((1, 1), ((0, 0, 0), (5, 0, 0)))]
theorem new_uv (w : World) : Calls Try.prog 79 #[] w fun e w' => e = .returned (.pointer (some ⟨w.heap.size + 1, 0, none⟩)) ∧ UV w w' (w.heap.size + 1) w.heap.size [] :=
  (new_any w).mono fun e w' ⟨h1, h2, h3⟩ => ⟨h1, h3, by omega, Nat.le_refl _, h2, fun r hr => by cases hr⟩
set_option maxRecDepth 10000 in
set_option maxHeartbeats 1000000 in
theorem works_any (w : World) : Calls Try.prog 92 #[] w fun e w' => e = .returned (.bool true) ∧ Below w.heap.size w w' := by
  have HN := hid (new_uv w)
  obtain ⟨mb, hmb⟩ : ∃ mb, mb = w.heap.size := ⟨_, rfl⟩
  obtain ⟨p, hp⟩ : ∃ p, p = mb + 1 := ⟨_, rfl⟩
  rw [← hmb, ← hp] at HN
  clear hmb hp
  have E5 : ∀ W, (Op.equalIn 10000 145 (.agg #[.int .i64 5, .int .i64 0, .int .i64 0]) (.agg #[.int .i64 5, .int .i64 0, .int .i64 0])).run Try.prog W = .ok true W := fun W => eq145 W (5, 0, 0) (5, 0, 0)
  have E0 : ∀ W, (Op.equalIn 10000 145 (.agg #[.int .i64 0, .int .i64 0, .int .i64 0]) (.agg #[.int .i64 0, .int .i64 0, .int .i64 0])).run Try.prog W = .ok true W := fun W => eq145 W (0, 0, 0) (0, 0, 0)
  go_enter Try.func92, Try.ntmps92
  go_wp2_with (first
    | (go_at_call 79; go_must (with_reducible refine HN.out.mono ?_); rintro e w1 ⟨rfl, h1⟩
       have ha := h1.add 1 1 (5, 0, 0)
       rw [show addS ((aget (1, 1) ([] : UL)).getD z6) (5, 0, 0) = ((5, 0, 0), (5, 0, 0)) by decide] at ha
       unfold rv at ha
       have HA1 := hid ha
       clear h1 ha)
    | (have hH := HA2.out; clear hH; go_at_call 81; go_must (with_reducible refine HA2.out.mono ?_); rintro e w3 ⟨rfl, h3, k3⟩
       replace h3 : UV w w3 p mb wa2 := h3
       have b3 := (blkU HB2.out H2.out.bk (by intro es c e; cases e) k3)
       obtain ⟨x0, x1, x2, -⟩ := cells145 b3
       obtain ⟨W4, hW4⟩ : ∃ W4, W4 = w3.alloc (.cells #[.int .i64 0, .int .i64 0, .int .i64 0] 145) := ⟨_, rfl⟩
       have h4 := h3.alloc (.cells #[.int .i64 0, .int .i64 0, .int .i64 0] 145)
       have hp4 := peak_any h4.bk 1 1
       rw [show ((aget (1, 1) wa2).getD z6).2 = (5, 0, 0) by decide] at hp4
       unfold rv at hp4
       have HPK := hid hp4
       have HU4 := hid h4
       have hlt3 := (Array.getElem?_eq_some_iff.1 b3).1
       have hne3 : ¬ (w2.heap.size = w3.heap.size) := by omega
       clear h3 k3 hp4 h4 b3 hW4)
    | (go_at_call 81; go_must (with_reducible refine HA1.out.mono ?_); rintro e w2 ⟨rfl, h2, k2⟩
       replace h2 : UV w w2 p mb wa1 := h2
       have h2a := h2.alloc (.cells #[.int .i64 5, .int .i64 0, .int .i64 0] 145)
       have ha := h2a.add 1 1 (-9, 0, 0)
       rw [show addS ((aget (1, 1) wa1).getD z6) (-9, 0, 0) = ((0, 0, 0), (5, 0, 0)) by decide] at ha
       unfold rv at ha
       have HA2 := hid ha
       have H2 := hid h2a
       have HB2 := hid (show (w2.alloc (.cells #[.int .i64 5, .int .i64 0, .int .i64 0] 145)).heap[w2.heap.size]? = some (.cells #[.int .i64 5, .int .i64 0, .int .i64 0] 145 (0, 0)) from heap_at _ _ _ rfl)
       clear h2 k2 ha h2a)
    | (go_at_call 88; go_must (with_reducible refine HPK.out.mono ?_); rintro e w5 ⟨rfl, b5⟩
       have HU5 := hid (HU4.out.later b5)
       have HL := hid (len_any HU5.out.bk)
       clear b5)
    | (go_at_call 86; go_must (with_reducible refine HL.out.mono ?_); rintro e w6 ⟨rfl, rfl⟩
       skip))
  go_ret
  exact ⟨rfl, HU5.out.low⟩
end Go.Proofs.Ytnceglkoolfncaa.Us
