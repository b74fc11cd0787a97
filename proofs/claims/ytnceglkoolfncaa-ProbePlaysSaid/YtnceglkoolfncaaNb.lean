/- Relist: the finder says a change: it stands behind those that were told. -/
import Derived.Test.YtnceglkoolfncaaNa
import Derived.Test.YtnceglkoolfncaaPa
set_option linter.unusedSimpArgs false
set_option linter.unusedVariables false
namespace Go.Proofs.Ytnceglkoolfncaa.Rl
open Go.RowKit Go.Pv Go.Proofs.Ytnceglkoolfncaa.Po Go.Proofs.YtnceglkoolfncaaW.PrintWords Go.Proofs.YtnceglkoolfncaaW.PrintLast
def says1.T : Bool × List (List Nat × List Nat) := (true, [([], []), ([], []), ([1], [1]), ([2], [2]), ([3], [3]), ([], []), ([], []), ([6], [6]), ([], []), ([8], [8]), ([], []), ([5, 7, 9, 10], [5, 7, 9, 10]), ([11], [11]), ([4, 12], [4, 12]), ([0, 0, 1, 2, 3, 4, 5, 6, 7, 8, 9, 10, 11, 12, 13], [0]), ([14, 0, 1, 2, 3, 4, 5, 6, 7, 8, 9, 10, 11, 12, 13], [14]), ([15, 13, 13, 0, 1, 2, 3, 4, 5, 6, 7, 8, 9, 10, 11, 12, 13], [13, 15])])
def says1.B : List Nat := [0, 0, 2, 6, 14, 0, 0, 64, 0, 256, 0, 2016, 4064, 8190, 16383, 32767, 65535]
theorem says1.tab : rtab .any (opsOf Try.f151 1) = says1.T := by kernel_rfl
theorem says1.bits : waitsOk says1.T.2 says1.B = true := by kernel_rfl

def encCh (c : Ch) : List Value := [.int .i64 c.1, .int .i64 c.2.1, .int .i64 c.2.2.1, .int .i64 c.2.2.2]

/-- These blocks are as they were. -/
def KX (X : Nat → Prop) (w w' : World) : Prop := ∀ k, X k → w'.heap[k]? = w.heap[k]?
theorem KX.refl (X : Nat → Prop) (w : World) : KX X w w := fun _ _ => rfl
theorem KX.trans {X : Nat → Prop} {a b c : World} (h : KX X a b) (k : KX X b c) : KX X a c := fun i hi => (k i hi).trans (h i hi)
theorem KX.mono {X Y : Nat → Prop} {a b : World} (h : KX X a b) (hY : ∀ k, Y k → X k) : KX Y a b := fun i hi => h i (hY i hi)

/-- The finder: where its list lies. What lay in u, and the blocks of X, are none of its own. -/
structure FI (u : World) (X : Nat → Prop) (pf : Nat) (L : List Ch) (w : World) : Prop where
  box : ∃ v, w.heap[pf]? = some (.cells #[v] 197 (0, 0)) ∧ SlOf w 104 4 encCh v L ∧ ∀ g, v.ownBlock = some g → u.heap.size ≤ g ∧ g ≠ pf ∧ ¬ X g
  base : u.heap.size ≤ pf
  npf : ¬ X pf
  low : Below u.heap.size u w
  xlt : ∀ k, X k → k < w.heap.size

theorem FI.below {u w w' : World} {X : Nat → Prop} {pf : Nat} {L : List Ch} (h : FI u X pf L w) (hb : Below w.heap.size w w') : FI u X pf L w' := by
  obtain ⟨⟨v, h1, h2, h3⟩, h4, h5, h6, h7⟩ := h
  exact ⟨⟨v, (hb.block pf (Array.getElem?_eq_some_iff.1 h1).1).trans h1, SlRow.kept h2 (Keeps.of_below (F := fun _ => False) hb) (by simp), h3⟩, h4, h5, h6.trans (hb.mono h6.size), fun k hk => Nat.lt_of_lt_of_le (h7 k hk) hb.size⟩
theorem FI.kx {u w w' : World} {X : Nat → Prop} {pf : Nat} {L : List Ch} (h : FI u X pf L w) (hb : Below w.heap.size w w') : KX X w w' := fun k hk => hb.block k (h.xlt k hk)
/-- One more block that is none of the finder's. -/
theorem FI.push {u w : World} {X : Nat → Prop} {pf : Nat} {L : List Ch} (h : FI u X pf L w) (o : Obj) : FI u (fun k => X k ∨ k = w.heap.size) pf L (w.alloc o) := by
  have h' := h.below ((Below.refl _ w).alloc (Nat.le_refl _) o)
  obtain ⟨⟨v, h1, h2, h3⟩, h4, h5, h6, h7⟩ := h
  have hpf := (Array.getElem?_eq_some_iff.1 h1).1
  refine ⟨?_, h4, ?_, h'.low, ?_⟩
  · obtain ⟨v', q1, q2, q3⟩ := h'.box
    have e : v' = v := by
      rw [Below.heap_alloc w o pf hpf, h1] at q1
      simpa using q1.symm
    subst e
    exact ⟨v', by rw [Below.heap_alloc w o pf hpf]; exact h1, q2, fun g hg => ⟨(h3 g hg).1, (h3 g hg).2.1, fun hx => hx.elim (h3 g hg).2.2 (fun e => by have := SlRow.lt h2 hg; omega)⟩⟩
  · rintro (hx | hx)
    · exact h5 hx
    · omega
  · rintro k (hx | hx)
    · have := h7 k hx; simp; omega
    · simp; omega
theorem FI.fewer {u w : World} {X Y : Nat → Prop} {pf : Nat} {L : List Ch} (h : FI u X pf L w) (hY : ∀ k, Y k → X k) : FI u Y pf L w := by
  obtain ⟨⟨v, h1, h2, h3⟩, h4, h5, h6, h7⟩ := h
  exact ⟨⟨v, h1, h2, fun g hg => ⟨(h3 g hg).1, (h3 g hg).2.1, fun hx => (h3 g hg).2.2 (hY g hx)⟩⟩, h4, fun hx => h5 (hY _ hx), h6, fun k hk => h7 k (hY k hk)⟩

theorem info104 : ∃ i, Try.prog.info? 104 = some i ∧ i.zero = some (.agg #[.int .i64 0, .int .i64 0, .int .i64 0, .int .i64 0]) ∧ i.size = 4 ∧ i.bytes = 32 :=
  info_parts (show (Try.prog.info? 104).map (fun i => (i.zero, i.size, i.bytes)) = some (some (.agg #[.int .i64 0, .int .i64 0, .int .i64 0, .int .i64 0]), 4, 32) by kernel_rfl)

set_option maxRecDepth 10000 in
set_option maxHeartbeats 1000000 in
theorem says_any {u w : World} {X : Nat → Prop} {pf : Nat} {L : List Ch} (h : FI u X pf L w) (hl : L.length ≤ 1000000) (kind id uid st n : Int) (sv : Value) :
    Calls Try.prog 151 #[.pointer (some ⟨pf, 0, none⟩), .int .i64 kind, .agg #[.int .i64 id, .int .i64 uid, .int .i64 st, sv], .int .i64 n] w fun e w' =>
      e = .returned (.tuple #[]) ∧ FI u X pf (L ++ [(kind, uid, id, n)]) w' ∧ KX X w w' := by
  obtain ⟨⟨v, b1, b2, b3⟩, hbase, hnpf, hlow, hxlt⟩ := h
  have hpl := (Array.getElem?_eq_some_iff.1 b1).1
  -- the worlds
  obtain ⟨W1, hW1⟩ : ∃ W1, W1 = (w.alloc (.cells #[.int .i64 id, .int .i64 uid, .int .i64 st, sv] 108)).drew := ⟨_, rfl⟩
  obtain ⟨W2, hW2⟩ : ∃ W2, W2 = W1.alloc (.cells #[.int .i64 kind, .int .i64 uid, .int .i64 id, .int .i64 n] 104) := ⟨_, rfl⟩
  have k2 : Below w.heap.size w W2 := by rw [hW2, hW1]; exact (((Below.refl _ w).alloc (Nat.le_refl _) _).drew).alloc (by simp) _
  have z1 : W1.heap.size = w.heap.size + 1 := by rw [hW1]; simp
  have z2 : W2.heap.size = w.heap.size + 2 := by rw [hW2]; simp [z1]
  have bx : W2.heap[W1.heap.size]? = some (.cells #[.int .i64 kind, .int .i64 uid, .int .i64 id, .int .i64 n] 104 (0, 0)) := by rw [hW2]; exact heap_at _ _ _ rfl
  have s2 : SlOf W2 104 4 encCh v L := SlRow.kept b2 (Keeps.of_below (F := fun _ => False) k2) (by simp)
  obtain ⟨i0, hi, hz0, hz1, hz2⟩ := info104
  obtain ⟨v', w3, hr, hs3, hk3, hloc, -, -⟩ := run_append_sl (P := Try.prog) W2 101 101 104 i0 _ 4 32 Try.underlying101 hi hz0 hz1 hz2 rfl _ _ _ s2
    (.slice (some ⟨W1.heap.size, 0, none⟩) 1 1) 1 [.int .i64 kind, .int .i64 uid, .int .i64 id, .int .i64 n]
    (.inr ⟨_, _, rfl, World.news_of_block (cs := #[.int .i64 kind, .int .i64 uid, .int .i64 id, .int .i64 n]) (t := 104) (fr := (0, 0)) bx⟩) rfl (by simp [Value.oneCell']) (by unfold maxLen; omega) (by omega)
  have p2 : W2.heap[pf]? = some (.cells #[v] 197 (0, 0)) := (k2.block pf hpl).trans b1
  have p3 : w3.heap[pf]? = some (.cells #[v] 197 (0, 0)) := (hk3.block pf (by omega) (fun e => (b3 _ e).2.1 rfl)).trans p2
  have c3 : w3.cell? ⟨pf, 0, none⟩ = some v := by rw [cell_of_row w3 pf 0 _ _ _ p3]; rfl
  have f3 : w3.frozen? ⟨pf, 0, none⟩ = false := by simp [World.frozen?, p3]
  have c0 : w.cell? ⟨pf, 0, none⟩ = some v := by rw [cell_of_row w pf 0 _ _ _ b1]; rfl
  have hpost : FI u X pf (L ++ [(kind, uid, id, n)]) (w3.setCell ⟨pf, 0, none⟩ v') ∧ KX X w (w3.setCell ⟨pf, 0, none⟩ v') := by
    have hz3 := hk3.size
    have hvl : ∀ g, v.ownBlock = some g → g < w.heap.size := fun g hg => SlRow.lt b2 hg
    have hne : ∀ g, v'.ownBlock = some g → u.heap.size ≤ g ∧ g ≠ pf ∧ ¬ X g := by
      intro g hg
      rcases hloc with h1 | h1
      · exact b3 g (h1 ▸ hg)
      · rw [h1] at hg
        simp only [Option.some.injEq] at hg
        have := hlow.size
        exact ⟨by omega, by omega, fun hx => by have := hxlt g hx; omega⟩
    refine ⟨⟨⟨v', heap_setCell_same w3 pf 0 _ 197 v' p3, ?_, hne⟩, hbase, hnpf, ?_, fun k hk => by have := hxlt k hk; simp; omega⟩, fun k hk => ?_⟩
    · have h9 : SlOf w3 104 4 encCh v' (L ++ [(kind, uid, id, n)]) := by
        unfold SlOf
        simpa [List.flatMap_append, encCh] using hs3
      exact SlRow.of_block h9 (fun g hg => Below.heap_setCell w3 ⟨pf, 0, none⟩ v' g (hne g hg).2.1)
    · have h1 : Below u.heap.size u W2 := hlow.trans (k2.mono hlow.size)
      have h2 : Below u.heap.size u w3 := h1.trans (hk3.below (B := u.heap.size) (by have := hlow.size; omega) (fun i hi => (b3 i hi).1))
      exact h2.setCell hbase _
    · rw [Below.heap_setCell w3 ⟨pf, 0, none⟩ v' k (fun e => hnpf (by subst e; exact hk))]
      have hkl := hxlt k hk
      exact (hk3.block k (by omega) (fun e => (b3 k e).2.2 hk)).trans (k2.block k hkl)
  have HS := hid (show (fun V : World => V.cell? ⟨pf, 0, none⟩ = some v ∧ V.cell? ⟨w.heap.size, 0, none⟩ = some (.int .i64 id) ∧ V.cell? ⟨w.heap.size, 1, none⟩ = some (.int .i64 uid)) W1 ∧ (fun V : World => V.cell? ⟨pf, 0, none⟩ = some v ∧ V.cell? ⟨w.heap.size, 0, none⟩ = some (.int .i64 id) ∧ V.cell? ⟨w.heap.size, 1, none⟩ = some (.int .i64 uid)) W2 ∧ (fun V : World => V.cell? ⟨pf, 0, none⟩ = some v ∧ V.cell? ⟨w.heap.size, 0, none⟩ = some (.int .i64 id) ∧ V.cell? ⟨w.heap.size, 1, none⟩ = some (.int .i64 uid)) w3 from by
    have n1 : W1.heap[w.heap.size]? = some (.cells #[.int .i64 id, .int .i64 uid, .int .i64 st, sv] 108 (0, 0)) := by rw [hW1]; exact heap_at w _ _ rfl
    have n2 : W2.heap[w.heap.size]? = some (.cells #[.int .i64 id, .int .i64 uid, .int .i64 st, sv] 108 (0, 0)) := by rw [hW2, Below.heap_alloc _ _ _ (by omega)]; exact n1
    have n3 := (hk3.block w.heap.size (by omega) (fun e => by have := SlRow.lt b2 e; omega)).trans n2
    have p1 : W1.heap[pf]? = some (.cells #[v] 197 (0, 0)) := by rw [hW1]; exact (Below.heap_alloc w _ pf hpl).trans b1
    exact ⟨⟨by rw [cell_of_row _ pf 0 _ _ _ p1]; rfl, by rw [cell_of_row _ _ 0 _ _ _ n1]; rfl, by rw [cell_of_row _ _ 1 _ _ _ n1]; rfl⟩, ⟨by rw [cell_of_row _ pf 0 _ _ _ p2]; rfl, by rw [cell_of_row _ _ 0 _ _ _ n2]; rfl, by rw [cell_of_row _ _ 1 _ _ _ n2]; rfl⟩, ⟨c3, by rw [cell_of_row _ _ 0 _ _ _ n3]; rfl, by rw [cell_of_row _ _ 1 _ _ _ n3]; rfl⟩⟩)
  obtain ⟨va', vn', vc', hv'⟩ : ∃ a n c, v' = .slice a n c := by
    rcases SlRow.form hs3 with ⟨h1, _⟩ | ⟨g, o, c, h1⟩
    · exact ⟨_, _, _, h1⟩
    · exact ⟨_, _, _, h1⟩
  subst hv'
  have HP := hid hpost
  have HR := hid hr
  have HW1 := hid hW1
  have HW2 := hid hW2
  clear hpost hr p3 p2 hs3 hk3 hloc s2 bx z2 z1 k2 hz0 hz1 hz2 hi b1 b2 b3 hlow hbase hW1 hW2 hnpf hxlt
  go_enter Try.func151, Try.ntmps151
  go_wp2
  refine start_ (n := 17) (S := fun V => V.cell? ⟨pf, 0, none⟩ = some v ∧ V.cell? ⟨w.heap.size, 0, none⟩ = some (.int .i64 id) ∧ V.cell? ⟨w.heap.size, 1, none⟩ = some (.int .i64 uid)) (ds := [16]) #[false, false, false, false, false, false, false, false, false, false, false, false, false, false, false, false, false] (by kernel_rfl) rfl rfl (by rw [← HW1.out]; exact HS.out.1) (fun hHeld => ?_); refine with_tabW says1.tab says1.bits (fun HT_ HW_ => ?_)
  rw [← HW1.out] at hHeld ⊢
  refine pure_ (i := 0) (N := some 8) (v := ?_) (a' := ?_) #[true, false, false, false, false, false, false, false, false, false, false, false, false, false, false, false, false] rfl rfl (any_of HT_.out (by kernel_rfl)) (fun _ _ _ h => h) (Or.inl ⟨by rfl, ?_⟩) ?_ ?_
  rotate_left
  · intro w'
    go_simp
    with_reducible rfl
  rotate_left
  · simp only [Act.put, List.setIfInBounds_toArray, List.set_cons_zero, List.set_cons_succ, i64_w, i32_w]
    rfl
  refine pure_ (i := 1) (N := some 9) (v := ?_) (a' := ?_) #[true, true, false, false, false, false, false, false, false, false, false, false, false, false, false, false, false] rfl rfl (any_of HT_.out (by kernel_rfl)) (fun _ _ _ h => h) (Or.inl ⟨by rfl, ?_⟩) ?_ ?_
  rotate_left
  · intro w'
    go_simp
    with_reducible rfl
  rotate_left
  · simp only [Act.put, List.setIfInBounds_toArray, List.set_cons_zero, List.set_cons_succ, i64_w, i32_w]
    rfl
  refine pure_ (i := 2) (N := some 10) (v := ?_) (a' := ?_) #[true, true, true, false, false, false, false, false, false, false, false, false, false, false, false, false, false] rfl rfl (any_of HT_.out (by kernel_rfl)) (fun _ _ _ h => h) (Or.inl ⟨by rfl, ?_⟩) ?_ ?_
  rotate_left
  · intro w'
    go_simp
    with_reducible rfl
  rotate_left
  · simp only [Act.put, List.setIfInBounds_toArray, List.set_cons_zero, List.set_cons_succ, i64_w, i32_w]
    rfl
  refine pure_ (i := 3) (N := some 11) (v := ?_) (a' := ?_) #[true, true, true, true, false, false, false, false, false, false, false, false, false, false, false, false, false] rfl rfl (any_of HT_.out (by kernel_rfl)) (fun _ _ _ h => h) (Or.inl ⟨by rfl, ?_⟩) ?_ ?_
  rotate_left
  · intro w'
    go_simp
    with_reducible rfl
  rotate_left
  · simp only [Act.put, List.setIfInBounds_toArray, List.set_cons_zero, List.set_cons_succ, i64_w, i32_w]
    rfl
  refine pure_ (i := 5) (N := some 13) (v := ?_) (a' := ?_) #[true, true, true, true, false, true, false, false, false, false, false, false, false, false, false, false, false] rfl rfl (any_of HT_.out (by kernel_rfl)) (fun _ _ _ h => h) (Or.inl ⟨by rfl, ?_⟩) ?_ ?_
  rotate_left
  · intro w'
    go_simp
    with_reducible rfl
  rotate_left
  · simp only [Act.put, List.setIfInBounds_toArray, List.set_cons_zero, List.set_cons_succ, i64_w, i32_w]
    rfl
  refine pure_ (i := 6) (N := some 14) (v := ?_) (a' := ?_) #[true, true, true, true, false, true, true, false, false, false, false, false, false, false, false, false, false] rfl rfl (any_of HT_.out (by kernel_rfl)) (fun _ _ _ h => h) (Or.inl ⟨by rfl, ?_⟩) ?_ ?_
  rotate_left
  · intro w'
    go_simp
    with_reducible rfl
  rotate_left
  · simp only [Act.put, List.setIfInBounds_toArray, List.set_cons_zero, List.set_cons_succ, i64_w, i32_w]
    rfl
  refine pure_ (i := 8) (N := some 16) (v := ?_) (a' := ?_) #[true, true, true, true, false, true, true, false, true, false, false, false, false, false, false, false, false] rfl rfl (any_of HT_.out (by kernel_rfl)) (fun _ _ _ h => h) (Or.inl ⟨by rfl, ?_⟩) ?_ ?_
  rotate_left
  · intro w'
    go_simp
    with_reducible rfl
  rotate_left
  · simp only [Act.put, List.setIfInBounds_toArray, List.set_cons_zero, List.set_cons_succ, i64_w, i32_w]
    rfl
  refine pure_ (i := 10) (N := some 18) (v := ?_) (a' := ?_) #[true, true, true, true, false, true, true, false, true, false, true, false, false, false, false, false, false] rfl rfl (any_of HT_.out (by kernel_rfl)) (fun _ _ _ h => h) (Or.inl ⟨by rfl, ?_⟩) ?_ ?_
  rotate_left
  · intro w'
    go_simp
    with_reducible rfl
  rotate_left
  · simp only [Act.put, List.setIfInBounds_toArray, List.set_cons_zero, List.set_cons_succ, i64_w, i32_w]
    rfl
  refine take_ (i := 4) (N := some 12) (v := ?_) (a' := ?_) #[true, true, true, true, true, true, true, false, true, false, true, false, false, false, false, false, false] rfl rfl (take_ofW HT_.out HW_.out (by kernel_rfl)) (fun _ _ _ h => h) (Or.inl ⟨by rfl, ?_⟩) hHeld ?_ ?_
  rotate_left
  · rintro w' ⟨s0, s1, s2⟩
    go_simp
    with_reducible rfl
  rotate_left
  · simp only [Act.put, List.setIfInBounds_toArray, List.set_cons_zero, List.set_cons_succ, i64_w, i32_w]
    rfl
  refine take_ (i := 7) (N := some 15) (v := ?_) (a' := ?_) #[true, true, true, true, true, true, true, true, true, false, true, false, false, false, false, false, false] rfl rfl (take_ofW HT_.out HW_.out (by kernel_rfl)) (fun _ _ _ h => h) (Or.inl ⟨by rfl, ?_⟩) hHeld ?_ ?_
  rotate_left
  · rintro w' ⟨s0, s1, s2⟩
    go_simp
    with_reducible rfl
  rotate_left
  · simp only [Act.put, List.setIfInBounds_toArray, List.set_cons_zero, List.set_cons_succ, i64_w, i32_w]
    rfl
  refine take_ (i := 9) (N := some 17) (v := ?_) (a' := ?_) #[true, true, true, true, true, true, true, true, true, true, true, false, false, false, false, false, false] rfl rfl (take_ofW HT_.out HW_.out (by kernel_rfl)) (fun _ _ _ h => h) (Or.inl ⟨by rfl, ?_⟩) hHeld ?_ ?_
  rotate_left
  · rintro w' ⟨s0, s1, s2⟩
    go_simp
    with_reducible rfl
  rotate_left
  · simp only [Act.put, List.setIfInBounds_toArray, List.set_cons_zero, List.set_cons_succ, i64_w, i32_w]
    rfl
  refine pure_ (i := 11) (N := some 19) (v := ?_) (a' := ?_) #[true, true, true, true, true, true, true, true, true, true, true, true, false, false, false, false, false] rfl rfl (any_of HT_.out (by kernel_rfl)) (fun _ _ _ h => h) (Or.inl ⟨by rfl, ?_⟩) ?_ ?_
  rotate_left
  · intro w'
    go_simp
    with_reducible rfl
  rotate_left
  · simp only [Act.put, List.setIfInBounds_toArray, List.set_cons_zero, List.set_cons_succ, i64_w, i32_w]
    rfl
  refine one_ (i := 12) (N := some 20) #[true, true, true, true, true, true, true, true, true, true, true, true, true, false, false, false, false] rfl rfl (one_of HT_.out (by kernel_rfl)) (by decide) (fun K hK => ?_)
  refine value_ (v := .slice (some ⟨W1.heap.size, 0, none⟩) 1 1) (w1 := W2) (by rfl) rfl (by rw [HW2.out]; go_simp) ?_
  refine hK.out _ _ HS.out.2.1 (fun hHeld => ?_)
  clear hK K
  refine norm_ (a' := ?_) ?_ ?_
  rotate_left
  · show Act.put _ (some 20) _ = _
    simp only [Act.put, List.setIfInBounds_toArray, List.set_cons_zero, List.set_cons_succ, i64_w, i32_w]
    rfl
  refine one_ (i := 13) (N := some 21) #[true, true, true, true, true, true, true, true, true, true, true, true, true, true, false, false, false] rfl rfl (one_of HT_.out (by kernel_rfl)) (by decide) (fun K hK => ?_)
  refine st_append rfl _ _ _ rfl ⟨_, _, HR.out, ?_⟩
  refine hK.out _ _ HS.out.2.2 (fun hHeld => ?_)
  clear hK K
  refine norm_ (a' := ?_) ?_ ?_
  rotate_left
  · show Act.put _ (some 21) _ = _
    simp only [Act.put, List.setIfInBounds_toArray, List.set_cons_zero, List.set_cons_succ, i64_w, i32_w]
    rfl
  refine pure_ (i := 14) (N := some 22) (v := ?_) (a' := ?_) #[true, true, true, true, true, true, true, true, true, true, true, true, true, true, true, false, false] rfl rfl (any_of HT_.out (by kernel_rfl)) (fun _ _ _ h => h) (Or.inl ⟨by rfl, ?_⟩) ?_ ?_
  rotate_left
  · intro w'
    go_simp
    with_reducible rfl
  rotate_left
  · simp only [Act.put, List.setIfInBounds_toArray, List.set_cons_zero, List.set_cons_succ, i64_w, i32_w]
    rfl
  refine pure_ (i := 15) (N := some 23) (v := ?_) (a' := ?_) #[true, true, true, true, true, true, true, true, true, true, true, true, true, true, true, true, false] rfl rfl (any_of HT_.out (by kernel_rfl)) (fun _ _ _ h => h) (Or.inl ⟨by rfl, ?_⟩) ?_ ?_
  rotate_left
  · intro w'
    go_simp
    with_reducible rfl
  rotate_left
  · simp only [Act.put, List.setIfInBounds_toArray, List.set_cons_zero, List.set_cons_succ, i64_w, i32_w]
    rfl
  refine last_ (i := 16) (N := none) #[true, true, true, true, true, true, true, true, true, true, true, true, true, true, true, true, true] rfl rfl (one_of HT_.out (by kernel_rfl)) (by decide) (fun K hK => ?_)
  refine skip_ (w1 := w3.setCell ⟨pf, 0, none⟩ (.slice va' vn' vc')) (by rfl) rfl (by go_simp) ?_
  refine hK.out _ _ ?_
  clear hK K
  refine done_ (done_of HT_.out (by kernel_rfl)) ?_
  go_end0
  exact ⟨rfl, HP.out⟩
end Go.Proofs.Ytnceglkoolfncaa.Rl
