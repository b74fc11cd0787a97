/- Use: the book: sums: sum, Of, All. -/
import Derived.Test.YtnceglkoolfncaaCe
set_option linter.unusedSimpArgs false
set_option linter.unusedVariables false
namespace Go.Proofs.Ytnceglkoolfncaa.Us
open Go.RowKit Go.Pv Go.Proofs.Ytnceglkoolfncaa.Po Go.Proofs.YtnceglkoolfncaaW.PrintWords Go.Proofs.YtnceglkoolfncaaW.PrintLast Go.Proofs.Ytnceglkoolfncaa.Pr

theorem add3_assoc (a b c : R3) : add3 (add3 a b) c = add3 a (add3 b c) := r3_ext (Int.add_assoc _ _ _) (Int.add_assoc _ _ _) (Int.add_assoc _ _ _)
theorem add3_comm (a b : R3) : add3 a b = add3 b a := r3_ext (Int.add_comm _ _) (Int.add_comm _ _) (Int.add_comm _ _)
theorem add3_zero (a : R3) : add3 a (0, 0, 0) = a := by simp [add3]
theorem zero_add3 (a : R3) : add3 (0, 0, 0) a = a := by simp [add3]
def sumR : List R3 → R3
  | [] => (0, 0, 0)
  | x :: l => add3 x (sumR l)
theorem sumR_append (l m : List R3) : sumR (l ++ m) = add3 (sumR l) (sumR m) := by
  induction l with
  | nil => simp [sumR, zero_add3]
  | cons x l ih => simp only [List.cons_append, sumR, ih, add3_assoc]
theorem sumR_perm {l m : List R3} (h : l.Perm m) : sumR l = sumR m := by
  induction h with
  | nil => rfl
  | cons x _ ih => simp only [sumR, ih]
  | swap x y l => simp only [sumR, ← add3_assoc, add3_comm x y]
  | trans _ _ ih1 ih2 => exact ih1.trans ih2
/-- What all use that are meant. -/
def sumM (meant : Int × Int → Bool) (al : UL) : R3 := sumR ((al.filter fun r => meant r.1).map fun r => r.2.1)
def nowOf (al : UL) (k : Int × Int) : R3 := ((aget k al).getD z6).1
def sumK (meant : Int × Int → Bool) (al : UL) (ks : List (Int × Int)) : R3 := sumR ((ks.filter meant).map (nowOf al))
theorem sumK_snoc (meant : Int × Int → Bool) (al : UL) (ks : List (Int × Int)) (k : Int × Int) : sumK meant al (ks ++ [k]) = if meant k then add3 (sumK meant al ks) (nowOf al k) else sumK meant al ks := by
  unfold sumK
  rw [List.filter_append, List.map_append, sumR_append]
  by_cases h : meant k = true
  · simp [h, sumR, add3_zero]
  · simp [h, sumR, add3_zero]
theorem sumK_all (meant : Int × Int → Bool) (al : UL) (nd : (al.map (·.1)).Nodup) {ks : List (Int × Int)} (h : ks.Perm (al.map (·.1))) : sumK meant al ks = sumM meant al := by
  unfold sumK sumM
  rw [sumR_perm ((h.filter meant).map (nowOf al)), List.filter_map, List.map_map]
  congr 1
  refine List.map_congr_left fun r hr => ?_
  have hm : r ∈ al := (List.mem_filter.1 hr).1
  show nowOf al r.1 = r.2.1
  unfold nowOf
  rw [aget_of_mem nd (k := r.1) (v := r.2) hm]
  rfl
/-- What stands in the book is within bounds. -/
def GoodU (al : UL) : Prop := ∀ r ∈ al, In3 r.2.1 ∧ In3 r.2.2 ∧ fits r.2.1 r.2.2
theorem z6_in : In3 z6.1 := by simp [In3, z6]
theorem nowOf_in {al : UL} (h : GoodU al) (k : Int × Int) : In3 (nowOf al k) := by
  unfold nowOf
  cases e : aget k al with
  | none => exact z6_in
  | some s => exact (h _ (aget_mem e)).1
theorem sumR_in (n : Nat) (l : List R3) (hl : l.length ≤ n) (h : ∀ r ∈ l, In3 r) : (0 ≤ (sumR l).1 ∧ (sumR l).1 ≤ 1099511627776 * n) ∧ (0 ≤ (sumR l).2.1 ∧ (sumR l).2.1 ≤ 1099511627776 * n) ∧ (0 ≤ (sumR l).2.2 ∧ (sumR l).2.2 ≤ 1099511627776 * n) := by
  induction l generalizing n with
  | nil => simp only [sumR]; omega
  | cons x l ih =>
    obtain ⟨m, rfl⟩ : ∃ m, n = m + 1 := ⟨n - 1, by simp at hl; omega⟩
    have h1 := ih m (by simpa using hl) (fun r hr => h r (List.mem_cons_of_mem _ hr))
    have h2 := h x (List.mem_cons_self ..)
    simp only [sumR, add3, In3] at *
    omega
theorem sumK_in {al : UL} (h : GoodU al) (meant : Int × Int → Bool) (ks : List (Int × Int)) (hl : ks.length ≤ 10000) : (0 ≤ (sumK meant al ks).1 ∧ (sumK meant al ks).1 ≤ 10995116277760000) ∧ (0 ≤ (sumK meant al ks).2.1 ∧ (sumK meant al ks).2.1 ≤ 10995116277760000) ∧ (0 ≤ (sumK meant al ks).2.2 ∧ (sumK meant al ks).2.2 ≤ 10995116277760000) := by
  have := sumR_in 10000 ((ks.filter meant).map (nowOf al)) (by rw [List.length_map]; exact Nat.le_trans (List.length_filter_le _ _) hl) (fun r hr => by obtain ⟨k, _, rfl⟩ := List.mem_map.1 hr; exact nowOf_in h k)
  unfold sumK
  omega

/-- Within sum. -/
structure SX (w V : World) (p mb : Nat) (al : UL) (A : Option Addr) (ks : List (Int × Int)) (acc : R3) : Prop where
  low : Below w.heap.size w V
  bk : UBk V p mb al
  hp : p < w.heap.size
  hm : mb < w.heap.size
  rt : V.heap[w.heap.size]? = some (.cells #[.int .i64 0, .int .i64 0, .int .i64 0] 145 (0, 0))
  sb : V.heap[w.heap.size + 1]? = some (.cells #[.int .i64 acc.1, .int .i64 acc.2.1, .int .i64 acc.2.2] 145 (0, 0))
  ks : DueAt V A ks
  ka : ∀ a, A = some a → w.heap.size + 2 ≤ a.block
section
variable {w V V' : World} {p mb : Nat} {al : UL} {A : Option Addr} {ks : List (Int × Int)} {acc : R3}
theorem dueAt_blocks {A : Option Addr} {L : List (Int × Int)} (h : DueAt V A L) (k : ∀ a, A = some a → a.block < V.heap.size → V'.heap[a.block]? = V.heap[a.block]?) (hs : V.heap.size ≤ V'.heap.size) : DueAt V' A L := fun i hi => by
  obtain ⟨b, o, h1, h2, h3, h4⟩ := h i hi
  have hb := k _ h1 h2
  have key : ∀ q, V'.cell? ⟨b, q, none⟩ = V.cell? ⟨b, q, none⟩ := fun q => by
    unfold World.cell?
    rw [show V'.heap[(⟨b, q, none⟩ : Addr).block]? = V.heap[(⟨b, q, none⟩ : Addr).block]? from hb]
  exact ⟨b, o, h1, Nat.lt_of_lt_of_le h2 hs, (key _).trans h3, (key _).trans h4⟩
theorem SX.later (h : SX w V p mb al A ks acc) (hb : Below V.heap.size V V') : SX w V' p mb al A ks acc :=
  ⟨h.low.trans (hb.mono h.low.size), h.bk.below hb, h.hp, h.hm, (hb.block _ (Array.getElem?_eq_some_iff.1 h.rt).1).trans h.rt, (hb.block _ (Array.getElem?_eq_some_iff.1 h.sb).1).trans h.sb, dueAt_blocks h.ks (fun a _ hl => hb.block _ hl) hb.size, h.ka⟩
theorem SX.put (h : SX w V p mb al A ks acc) (m n o : Int) : SX w (((V.setCell ⟨w.heap.size + 1, 0, none⟩ (.int .i64 m)).setCell ⟨w.heap.size + 1, 1, none⟩ (.int .i64 n)).setCell ⟨w.heap.size + 1, 2, none⟩ (.int .i64 o)) p mb al A ks (m, n, o) := by
  have k := (((Keeps.refl (fun i => i = w.heap.size + 1) V).setCell ⟨w.heap.size + 1, 0, none⟩ (.int .i64 m) (.inl rfl)).setCell ⟨w.heap.size + 1, 1, none⟩ (.int .i64 n) (.inl rfl)).setCell ⟨w.heap.size + 1, 2, none⟩ (.int .i64 o) (.inl rfl)
  have e1 := heap_setCell_same V _ 0 _ 145 (.int .i64 m) h.sb
  have e2 := heap_setCell_same _ _ 1 _ 145 (.int .i64 n) e1
  have e3 := heap_setCell_same _ _ 2 _ 145 (.int .i64 o) e2
  have l := h.low.size
  exact ⟨h.low.trans (k.below l (fun i hi => by omega)), h.bk.kept k (by have := h.hp; omega) (by have := h.hm; omega), h.hp, h.hm, (k.block _ (Array.getElem?_eq_some_iff.1 h.rt).1 (by omega)).trans h.rt, e3,
    dueAt_blocks h.ks (fun a e hl => k.block _ hl (fun e2 => by have := h.ka a e; omega)) k.size, h.ka⟩
theorem SX.s6 (h : SX w V p mb al A ks acc) {kb : Nat} {k1 k2 : Int} (hk : V.heap[kb]? = some (.cells #[.int .i64 k1, .int .i64 k2] 223 (0, 0))) {s : US} (hs : (aget (k1, k2) al).getD z6 = s) :
    V.cell? ⟨w.heap.size + 1, 0, none⟩ = some (.int .i64 acc.1) ∧ V.cell? ⟨w.heap.size + 1, 1, none⟩ = some (.int .i64 acc.2.1) ∧ V.cell? ⟨w.heap.size + 1, 2, none⟩ = some (.int .i64 acc.2.2) ∧ V.cell? ⟨p, 0, none⟩ = some (.map (some mb)) ∧ V.cell? ⟨kb, 0, none⟩ = some (.int .i64 k1) ∧ V.cell? ⟨kb, 1, none⟩ = some (.int .i64 k2) ∧
    (Instr.lookup 217 (.map (some mb)) (.agg #[.int .i64 k1, .int .i64 k2]) false).run Try.prog V = .ok (.agg #[.int .i64 s.1.1, .int .i64 s.1.2.1, .int .i64 s.1.2.2, .int .i64 s.2.1, .int .i64 s.2.2.1, .int .i64 s.2.2.2]) V := by
  obtain ⟨a0, a1, a2, -⟩ := cells145 h.sb
  have hl := h.bk.look (k1, k2)
  rw [hs] at hl
  exact ⟨a0, a1, a2, h.bk.c0, by rw [cell_of_row V _ _ _ _ _ hk]; rfl, by rw [cell_of_row V _ _ _ _ _ hk]; rfl, hl⟩
end
def sum6.T : Bool × List (List Nat × List Nat) := (true, [([], []), ([], []), ([1], [1]), ([2], [2]), ([3], [3]), ([], []), ([4, 5], [4, 5]), ([6], [6]), ([0, 7], [0, 7]), ([8], [8]), ([9], [9]), ([9], [9]), ([10, 8, 0, 1, 2, 3, 4, 5, 6, 7, 8, 9, 10], [10])])
def sum6.B : List Nat := [0, 0, 2, 6, 14, 0, 62, 126, 255, 511, 1023, 1023, 2047]
theorem sum6.tab : rtab .any (opsOf Try.f130 6) = sum6.T := by kernel_rfl
theorem sum6.bits : waitsOk sum6.T.2 sum6.B = true := by kernel_rfl
set_option maxRecDepth 100000 in
set_option maxHeartbeats 4000000 in
theorem sumOf_any {w : World} {p mb : Nat} {al : UL} (h : UBk w p mb al) (hg : GoodU al) (hl : al.length ≤ 1000) (meant : Int × Int → Bool) {qb : Nat} (HF : ∀ V, Below w.heap.size w V → ∀ k, Calls Try.prog 131 #[kp k, .pointer (some ⟨qb, 0, none⟩)] V fun e w' => e = .returned (.bool (meant k)) ∧ Below V.heap.size V w') :
    Calls Try.prog 130 #[.pointer (some ⟨p, 0, none⟩), .func (.func 131) #[] #[.pointer (some ⟨qb, 0, none⟩)]] w fun e w' => e = .returned (rv (sumM meant al)) ∧ Below w.heap.size w w' := by
  have HFF := hid HF
  have HG := hid hg
  have k2 : Below w.heap.size w ((w.alloc (.cells #[.int .i64 0, .int .i64 0, .int .i64 0] 145)).alloc (.cells #[.int .i64 0, .int .i64 0, .int .i64 0] 145)) := ((Below.refl _ w).alloc (Nat.le_refl _) _).alloc (by simp) _
  obtain ⟨W2, hW2⟩ : ∃ W2, W2 = ((w.alloc (.cells #[.int .i64 0, .int .i64 0, .int .i64 0] 145)).alloc (.cells #[.int .i64 0, .int .i64 0, .int .i64 0] 145)) := ⟨_, rfl⟩
  rw [← hW2] at k2
  have h2 := h.below k2
  have n0 : W2.heap[w.heap.size]? = some (.cells #[.int .i64 0, .int .i64 0, .int .i64 0] 145 (0, 0)) := by rw [hW2]; exact (Below.heap_alloc _ _ _ (by simp)).trans (heap_at _ _ _ rfl)
  have n1 : W2.heap[w.heap.size + 1]? = some (.cells #[.int .i64 0, .int .i64 0, .int .i64 0] 145 (0, 0)) := by rw [hW2]; exact heap_at _ _ _ (by simp)
  have z2 : W2.heap.size = w.heap.size + 2 := by rw [hW2]; simp
  have hk := keys_any h2.c0 h2.map (by rw [List.length_map]; omega)
  have HK0 := hid hk
  have HN := hid (And.intro k2 (And.intro h2 (And.intro n0 (And.intro n1 z2))))
  have HP := hid (And.intro h.lt.1 (And.intro h.lt.2 h.nd))
  have HW2 := hid hW2
  clear HF hg k2 h2 n0 n1 z2 hk h hW2
  unfold rv
  go_enter Try.func130, Try.ntmps130
  go_upto_region 2 with fail
  rw [← HW2.out]
  go_wp2_with (go_at_call 129; go_must (with_reducible refine HK0.out.mono ?_); rintro e_ w3 ⟨A, c, ks, rfl, hpm, hdu, hA, hb⟩; have HPM := hid (show ks.Perm (al.map (·.1)) by simpa [List.map_map, Function.comp_def] using hpm); have HX0 : Hid (SX w w3 p mb al A ks (sumK meant al [])) := hid ⟨HN.out.1.trans (hb.mono HN.out.1.size), HN.out.2.1.below hb, HP.out.1, HP.out.2.1, (hb.block _ (Array.getElem?_eq_some_iff.1 HN.out.2.2.1).1).trans HN.out.2.2.1, (hb.block _ (Array.getElem?_eq_some_iff.1 HN.out.2.2.2.1).1).trans HN.out.2.2.2.1, hdu, fun a e => by have h1 := hA a e; have h2 := HN.out.2.2.2.2; omega⟩; clear hpm hdu hA hb)
  have hkl : ks.length ≤ 1000 := by have := HPM.out.length_eq; rw [List.length_map] at this; omega
  clear HN HK0 HW2
  go_loopg [7, 11] ks.length (fun g s7 s11 wr => ∃ i : Nat, g = ks.length - i ∧ i ≤ ks.length ∧ s11 = .int .i64 i ∧ Hid (SX w wr p mb al A ks (sumK meant al (ks.take i))))
  case atStart => exact ⟨0, rfl, by omega, rfl, HX0⟩
  case round =>
    clear HX0
    obtain ⟨i, rfl, hi1, rfl, HX⟩ := hrel
    by_cases hlt : i < ks.length
    · obtain ⟨b, o, rfl, hb, d0, d1⟩ := HX.out.ks i hlt
      have hsn : sumK meant al (ks.take (i + 1)) = if meant ks[i] then add3 (sumK meant al (ks.take i)) (nowOf al ks[i]) else sumK meant al (ks.take i) := by
        rw [List.take_add_one, List.getElem?_eq_getElem hlt]
        exact sumK_snoc meant al _ _
      have hin := sumK_in HG.out meant (ks.take i) (by rw [List.length_take]; omega)
      obtain ⟨⟨k1, k2⟩, hk12⟩ : ∃ k, k = ks[i] := ⟨_, rfl⟩
      rw [← hk12] at d0 d1 hsn
      obtain ⟨⟨x, y, z⟩, hacc⟩ : ∃ q, q = sumK meant al (ks.take i) := ⟨_, rfl⟩
      rw [← hacc] at hsn HX hin
      obtain ⟨mt, hmt⟩ : ∃ mt, mt = meant (k1, k2) := ⟨_, rfl⟩
      have HSN := hid hsn
      have HIN := hid hin
      have HMT := hid hmt
      obtain ⟨kb, hkb⟩ : ∃ kb, kb = wr.heap.size := ⟨_, rfl⟩
      obtain ⟨Wk, hWk⟩ : ∃ Wk, Wk = wr.alloc (.cells #[.int .i64 k1, .int .i64 k2] 223) := ⟨_, rfl⟩
      have HXk := hid (show SX w Wk p mb al (some ⟨b, o, none⟩) ks (x, y, z) by rw [hWk]; exact HX.out.later ((Below.refl _ wr).alloc (Nat.le_refl _) _))
      have HKk := hid (show Wk.heap[kb]? = some (.cells #[.int .i64 k1, .int .i64 k2] 223 (0, 0)) by rw [hWk, hkb]; exact heap_at _ _ _ rfl)
      have hcl := HFF.out Wk HXk.out.low (k1, k2)
      rw [← hmt] at hcl
      unfold kp at hcl
      have HCL := hid hcl
      have ck0 : Wk.cell? ⟨kb, 0, none⟩ = some (.int .i64 k1) := by rw [cell_of_row Wk _ _ _ _ _ HKk.out]; rfl
      have ck1 : Wk.cell? ⟨kb, 1, none⟩ = some (.int .i64 k2) := by rw [cell_of_row Wk _ _ _ _ _ HKk.out]; rfl
      have HKB := hid hkb
      have HWK := hid hWk
      clear hsn hin hk12 hacc hmt HX hkb hWk hcl
      go_upto_region 5 with fail
      rw [← HWK.out, ← HKB.out]
      clear HWK HKB
      cases mt with
      | false =>
        go_wp2_with (go_at_call 131; go_must (with_reducible refine HCL.out.mono ?_); rintro e_ w5 ⟨rfl, hb⟩; have HX5 := hid (HXk.out.later hb); clear hb)
        go_roundg (ks.length - (i + 1))
        case measure => omega
        case rel => exact ⟨i + 1, rfl, by omega, by go_num, by rw [HSN.out, ← HMT.out]; exact HX5⟩
      | true =>
        obtain ⟨⟨⟨e0, e1, e2⟩, ⟨e3, e4, e5⟩⟩, hs⟩ : ∃ s, s = (aget (k1, k2) al).getD z6 := ⟨_, rfl⟩
        have HNO := hid (show nowOf al (k1, k2) = (e0, e1, e2) by unfold nowOf; rw [← hs])
        have hni := nowOf_in HG.out (k1, k2)
        rw [HNO.out] at hni
        have HLK := hid hs.symm
        have hadd := fun W => add_any (x, y, z) (e0, e1, e2) W (by
          have h1 := HIN.out
          have h2 := hni
          simp only [In3, Sml] at h1 h2 ⊢
          omega)
        simp only [rv, add3] at hadd
        have HADD := hid hadd
        have hf := fun W => (field225 e0 e1 e2 e3 e4 e5 W).1
        clear hs hni hadd
        go_upto_region 6 with (go_at_call 131; go_must (with_reducible refine HCL.out.mono ?_); rintro e_ w5 ⟨rfl, hb⟩; have HX := hid ((HXk.out.later hb).later (Below.refl _ w5).drew); have HK := hid ((((Below.refl _ w5).drew.block kb (by have := (Array.getElem?_eq_some_iff.1 HKk.out).1; have := hb.size; omega)).trans ((hb.block kb (Array.getElem?_eq_some_iff.1 HKk.out).1).trans HKk.out))); clear hb)
        clear ck0 ck1
        refine start_ (n := 13) (S := fun V : World => V.cell? ⟨w.heap.size + 1, 0, none⟩ = some (.int .i64 x) ∧ V.cell? ⟨w.heap.size + 1, 1, none⟩ = some (.int .i64 y) ∧ V.cell? ⟨w.heap.size + 1, 2, none⟩ = some (.int .i64 z) ∧ V.cell? ⟨p, 0, none⟩ = some (.map (some mb)) ∧ V.cell? ⟨kb, 0, none⟩ = some (.int .i64 k1) ∧ V.cell? ⟨kb, 1, none⟩ = some (.int .i64 k2) ∧ (Instr.lookup 217 (.map (some mb)) (.agg #[.int .i64 k1, .int .i64 k2]) false).run Try.prog V = .ok (.agg #[.int .i64 e0, .int .i64 e1, .int .i64 e2, .int .i64 e3, .int .i64 e4, .int .i64 e5]) V) (ds := [12]) #[false, false, false, false, false, false, false, false, false, false, false, false, false] (by kernel_rfl) rfl rfl (HX.out.s6 HK.out HLK.out) (fun hHeld => ?_); refine with_tabW sum6.tab sum6.bits (fun HT_ HW_ => ?_)
        refine pure_ (i := 1) (N := some 20) (v := ?_) (a' := ?_) #[false, true, false, false, false, false, false, false, false, false, false, false, false] rfl rfl (any_of HT_.out (by kernel_rfl)) (fun _ _ _ h => h) (Or.inl ⟨by rfl, ?_⟩) ?_ ?_
        rotate_left
        · intro w'
          go_simp
          with_reducible rfl
        rotate_left
        · simp only [Act.put, List.setIfInBounds_toArray, List.set_cons_zero, List.set_cons_succ, i64_w, i32_w]
          rfl
        refine pure_ (i := 2) (N := some 21) (v := ?_) (a' := ?_) #[false, true, true, false, false, false, false, false, false, false, false, false, false] rfl rfl (any_of HT_.out (by kernel_rfl)) (fun _ _ _ h => h) (Or.inl ⟨by rfl, ?_⟩) ?_ ?_
        rotate_left
        · intro w'
          go_simp
          with_reducible rfl
        rotate_left
        · simp only [Act.put, List.setIfInBounds_toArray, List.set_cons_zero, List.set_cons_succ, i64_w, i32_w]
          rfl
        refine pure_ (i := 3) (N := some 22) (v := ?_) (a' := ?_) #[false, true, true, true, false, false, false, false, false, false, false, false, false] rfl rfl (any_of HT_.out (by kernel_rfl)) (fun _ _ _ h => h) (Or.inl ⟨by rfl, ?_⟩) ?_ ?_
        rotate_left
        · intro w'
          go_simp
          with_reducible rfl
        rotate_left
        · simp only [Act.put, List.setIfInBounds_toArray, List.set_cons_zero, List.set_cons_succ, i64_w, i32_w]
          rfl
        refine take_ (i := 0) (N := some 19) (v := ?_) (a' := ?_) #[true, true, true, true, false, false, false, false, false, false, false, false, false] rfl rfl (take_ofW HT_.out HW_.out (by kernel_rfl)) (fun _ _ _ h => h) (Or.inl ⟨by rfl, ?_⟩) hHeld ?_ ?_
        rotate_left
        · rintro w' ⟨s0, s1, s2, s3, s4, s5, s6⟩
          go_simp
          with_reducible rfl
        rotate_left
        · simp only [Act.put, List.setIfInBounds_toArray, List.set_cons_zero, List.set_cons_succ, i64_w, i32_w]
          rfl
        refine take_ (i := 4) (N := some 23) (v := ?_) (a' := ?_) #[true, true, true, true, true, false, false, false, false, false, false, false, false] rfl rfl (take_ofW HT_.out HW_.out (by kernel_rfl)) (fun _ _ _ h => h) (Or.inl ⟨by rfl, ?_⟩) hHeld ?_ ?_
        rotate_left
        · rintro w' ⟨s0, s1, s2, s3, s4, s5, s6⟩
          go_simp
          with_reducible rfl
        rotate_left
        · simp only [Act.put, List.setIfInBounds_toArray, List.set_cons_zero, List.set_cons_succ, i64_w, i32_w]
          rfl
        refine take_ (i := 5) (N := some 24) (v := ?_) (a' := ?_) #[true, true, true, true, true, true, false, false, false, false, false, false, false] rfl rfl (take_ofW HT_.out HW_.out (by kernel_rfl)) (fun _ _ _ h => h) (Or.inl ⟨by rfl, ?_⟩) hHeld ?_ ?_
        rotate_left
        · rintro w' ⟨s0, s1, s2, s3, s4, s5, s6⟩
          go_simp
          with_reducible rfl
        rotate_left
        · simp only [Act.put, List.setIfInBounds_toArray, List.set_cons_zero, List.set_cons_succ, i64_w, i32_w]
          rfl
        refine take_ (i := 6) (N := some 25) (v := ?_) (a' := ?_) #[true, true, true, true, true, true, true, false, false, false, false, false, false] rfl rfl (take_ofW HT_.out HW_.out (by kernel_rfl)) (fun _ _ _ h => h) (Or.inl ⟨by rfl, ?_⟩) hHeld ?_ ?_
        rotate_left
        · rintro w' ⟨s0, s1, s2, s3, s4, s5, s6⟩
          go_simp
          with_reducible rfl
        rotate_left
        · simp only [Act.put, List.setIfInBounds_toArray, List.set_cons_zero, List.set_cons_succ, i64_w, i32_w]
          rfl
        refine pure_ (i := 7) (N := some 26) (v := ?_) (a' := ?_) #[true, true, true, true, true, true, true, true, false, false, false, false, false] rfl rfl (any_of HT_.out (by kernel_rfl)) (fun _ _ _ h => h) (Or.inl ⟨by rfl, ?_⟩) ?_ ?_
        rotate_left
        · intro w'
          go_simp
          with_reducible rfl
        rotate_left
        · simp only [Act.put, List.setIfInBounds_toArray, List.set_cons_zero, List.set_cons_succ, i64_w, i32_w]
          rfl
        refine one_ (i := 8) (N := some 27) #[true, true, true, true, true, true, true, true, true, false, false, false, false] rfl rfl (one_of HT_.out (by kernel_rfl)) (by decide) (fun K hK => ?_)
        refine goes_ Try.func94 (by kernel_rfl) rfl #[.agg #[.int .i64 x, .int .i64 y, .int .i64 z], .agg #[.int .i64 e0, .int .i64 e1, .int .i64 e2]] (by rfl) rfl rfl (by (try simp only [List.map_toArray, List.map_cons, List.map_nil]); first | done | rfl) ?_
        with_reducible refine (HADD.out _).mono ?_
        rintro e_ V8 ⟨rfl, hb⟩
        refine ⟨_, rfl, ?_⟩
        have HXN := hid (HX.out.later hb)
        have HKN := hid ((hb.block kb (Array.getElem?_eq_some_iff.1 HK.out).1).trans HK.out)
        clear HX HK hb
        have HX := HXN
        have HK := HKN
        clear HXN HKN
        refine hK.out _ _ (HX.out.s6 HK.out HLK.out) (fun hHeld => ?_)
        clear hK K
        refine norm_ (a' := ?_) ?_ ?_
        rotate_left
        · show Act.put _ (some 27) _ = _
          simp only [Act.put, List.setIfInBounds_toArray, List.set_cons_zero, List.set_cons_succ, i64_w, i32_w]
          rfl
        refine pure_ (i := 9) (N := some 18) (v := ?_) (a' := ?_) #[true, true, true, true, true, true, true, true, true, true, false, false, false] rfl rfl (any_of HT_.out (by kernel_rfl)) (fun _ _ _ h => h) (Or.inl ⟨by rfl, ?_⟩) ?_ ?_
        rotate_left
        · intro w'
          go_simp
          with_reducible rfl
        rotate_left
        · simp only [Act.put, List.setIfInBounds_toArray, List.set_cons_zero, List.set_cons_succ, i64_w, i32_w]
          rfl
        refine pure_ (i := 10) (N := some 28) (v := ?_) (a' := ?_) #[true, true, true, true, true, true, true, true, true, true, true, false, false] rfl rfl (any_of HT_.out (by kernel_rfl)) (fun _ _ _ h => h) (Or.inl ⟨by rfl, ?_⟩) ?_ ?_
        rotate_left
        · intro w'
          go_simp
          with_reducible rfl
        rotate_left
        · simp only [Act.put, List.setIfInBounds_toArray, List.set_cons_zero, List.set_cons_succ, i64_w, i32_w]
          rfl
        refine pure_ (i := 11) (N := some 29) (v := ?_) (a' := ?_) #[true, true, true, true, true, true, true, true, true, true, true, true, false] rfl rfl (any_of HT_.out (by kernel_rfl)) (fun _ _ _ h => h) (Or.inl ⟨by rfl, ?_⟩) ?_ ?_
        rotate_left
        · intro w'
          go_simp
          with_reducible rfl
        rotate_left
        · simp only [Act.put, List.setIfInBounds_toArray, List.set_cons_zero, List.set_cons_succ, i64_w, i32_w]
          rfl
        refine last_ (i := 12) (N := none) #[true, true, true, true, true, true, true, true, true, true, true, true, true] rfl rfl (one_of HT_.out (by kernel_rfl)) (by decide) (fun K hK => ?_)
        obtain ⟨W4, hW4⟩ : ∃ W4, W4 = ((V8.setCell ⟨w.heap.size + 1, 0, none⟩ (.int .i64 (x + e0))).setCell ⟨w.heap.size + 1, 1, none⟩ (.int .i64 (y + e1))).setCell ⟨w.heap.size + 1, 2, none⟩ (.int .i64 (z + e2)) := ⟨_, rfl⟩
        have HN := hid (show SX w W4 p mb al _ ks (x + e0, y + e1, z + e2) by rw [hW4]; exact HX.out.put _ _ _)
        have HW4 := hid hW4
        obtain ⟨y0, y1, y2, yf⟩ := cells145 HX.out.sb
        have yf0 := yf 0
        have yf1 := yf 1
        have yf2 := yf 2
        simp only at y0 y1 y2
        clear hW4 yf
        refine skip_ (w1 := W4) (by rfl) rfl (by rw [HW4.out]; go_simp) ?_
        clear y0 y1 y2 yf0 yf1 yf2 HX HW4
        refine hK.out _ _ ?_
        clear hK K
        refine done_ (done_of HT_.out (by kernel_rfl)) ?_
        go_wp2
        go_roundg (ks.length - (i + 1))
        case measure => omega
        case rel => exact ⟨i + 1, rfl, by omega, by go_num, by rw [HSN.out, ← HMT.out, if_pos rfl, HNO.out]; exact HN⟩
    · have hie : i = ks.length := by omega
      have hx := HX.out
      rw [hie, List.take_length, sumK_all meant al HP.out.2.2 HPM.out] at hx
      obtain ⟨⟨x, y, z⟩, hacc⟩ : ∃ q, q = sumM meant al := ⟨_, rfl⟩
      rw [← hacc] at hx
      obtain ⟨W9, hW9⟩ : ∃ W9, W9 = ((wr.setCell ⟨w.heap.size, 0, none⟩ (.int .i64 x)).setCell ⟨w.heap.size, 1, none⟩ (.int .i64 y)).setCell ⟨w.heap.size, 2, none⟩ (.int .i64 z) := ⟨_, rfl⟩
      have rt9 : W9.heap[w.heap.size]? = some (.cells #[.int .i64 x, .int .i64 y, .int .i64 z] 145 (0, 0)) := by
        rw [hW9]
        have e1 := heap_setCell_same wr _ 0 _ 145 (.int .i64 x) hx.rt
        have e2 := heap_setCell_same _ _ 1 _ 145 (.int .i64 y) e1
        exact heap_setCell_same _ _ 2 _ 145 (.int .i64 z) e2
      have low9 : Below w.heap.size w W9 := by rw [hW9]; exact ((hx.low.setCell (Nat.le_refl _) _).setCell (Nat.le_refl _) _).setCell (Nat.le_refl _) _
      obtain ⟨g0, g1, g2, -⟩ := cells145 rt9
      obtain ⟨t0, t1, t2, tf⟩ := cells145 hx.rt
      have tf0 := tf 0
      have tf1 := tf 1
      have tf2 := tf 2
      obtain ⟨s0, s1, s2, -⟩ := cells145 hx.sb
      simp only at s0 s1 s2
      have hnl : ¬ ((i : Int) < (ks.length : Int)) := by omega
      have HE := hid (And.intro hacc low9)
      have HW9 := hid hW9
      clear hacc hW9 tf hx HX rt9 low9
      go_wp2_with fail
      rw [← HW9.out]
      refine bodyPost_ret (v := .agg #[.int .i64 x, .int .i64 y, .int .i64 z]) (by simp [results, Try.results130, go_sem, g0, g1, g2]) rfl ⟨?_, HE.out.2⟩
      rw [← HE.out.1]
set_option maxRecDepth 100000 in
set_option maxHeartbeats 4000000 in
theorem sumAll_any {w : World} {p mb : Nat} {al : UL} (h : UBk w p mb al) (hg : GoodU al) (hl : al.length ≤ 1000) (meant : Int × Int → Bool) (HF : ∀ V, Below w.heap.size w V → ∀ k, Calls Try.prog 133 #[kp k] V fun e w' => e = .returned (.bool (meant k)) ∧ Below V.heap.size V w') :
    Calls Try.prog 130 #[.pointer (some ⟨p, 0, none⟩), .func (.func 133) #[] #[]] w fun e w' => e = .returned (rv (sumM meant al)) ∧ Below w.heap.size w w' := by
  have HFF := hid HF
  have HG := hid hg
  have k2 : Below w.heap.size w ((w.alloc (.cells #[.int .i64 0, .int .i64 0, .int .i64 0] 145)).alloc (.cells #[.int .i64 0, .int .i64 0, .int .i64 0] 145)) := ((Below.refl _ w).alloc (Nat.le_refl _) _).alloc (by simp) _
  obtain ⟨W2, hW2⟩ : ∃ W2, W2 = ((w.alloc (.cells #[.int .i64 0, .int .i64 0, .int .i64 0] 145)).alloc (.cells #[.int .i64 0, .int .i64 0, .int .i64 0] 145)) := ⟨_, rfl⟩
  rw [← hW2] at k2
  have h2 := h.below k2
  have n0 : W2.heap[w.heap.size]? = some (.cells #[.int .i64 0, .int .i64 0, .int .i64 0] 145 (0, 0)) := by rw [hW2]; exact (Below.heap_alloc _ _ _ (by simp)).trans (heap_at _ _ _ rfl)
  have n1 : W2.heap[w.heap.size + 1]? = some (.cells #[.int .i64 0, .int .i64 0, .int .i64 0] 145 (0, 0)) := by rw [hW2]; exact heap_at _ _ _ (by simp)
  have z2 : W2.heap.size = w.heap.size + 2 := by rw [hW2]; simp
  have hk := keys_any h2.c0 h2.map (by rw [List.length_map]; omega)
  have HK0 := hid hk
  have HN := hid (And.intro k2 (And.intro h2 (And.intro n0 (And.intro n1 z2))))
  have HP := hid (And.intro h.lt.1 (And.intro h.lt.2 h.nd))
  have HW2 := hid hW2
  clear HF hg k2 h2 n0 n1 z2 hk h hW2
  unfold rv
  go_enter Try.func130, Try.ntmps130
  go_upto_region 2 with fail
  rw [← HW2.out]
  go_wp2_with (go_at_call 129; go_must (with_reducible refine HK0.out.mono ?_); rintro e_ w3 ⟨A, c, ks, rfl, hpm, hdu, hA, hb⟩; have HPM := hid (show ks.Perm (al.map (·.1)) by simpa [List.map_map, Function.comp_def] using hpm); have HX0 : Hid (SX w w3 p mb al A ks (sumK meant al [])) := hid ⟨HN.out.1.trans (hb.mono HN.out.1.size), HN.out.2.1.below hb, HP.out.1, HP.out.2.1, (hb.block _ (Array.getElem?_eq_some_iff.1 HN.out.2.2.1).1).trans HN.out.2.2.1, (hb.block _ (Array.getElem?_eq_some_iff.1 HN.out.2.2.2.1).1).trans HN.out.2.2.2.1, hdu, fun a e => by have h1 := hA a e; have h2 := HN.out.2.2.2.2; omega⟩; clear hpm hdu hA hb)
  have hkl : ks.length ≤ 1000 := by have := HPM.out.length_eq; rw [List.length_map] at this; omega
  clear HN HK0 HW2
  go_loopg [7, 11] ks.length (fun g s7 s11 wr => ∃ i : Nat, g = ks.length - i ∧ i ≤ ks.length ∧ s11 = .int .i64 i ∧ Hid (SX w wr p mb al A ks (sumK meant al (ks.take i))))
  case atStart => exact ⟨0, rfl, by omega, rfl, HX0⟩
  case round =>
    clear HX0
    obtain ⟨i, rfl, hi1, rfl, HX⟩ := hrel
    by_cases hlt : i < ks.length
    · obtain ⟨b, o, rfl, hb, d0, d1⟩ := HX.out.ks i hlt
      have hsn : sumK meant al (ks.take (i + 1)) = if meant ks[i] then add3 (sumK meant al (ks.take i)) (nowOf al ks[i]) else sumK meant al (ks.take i) := by
        rw [List.take_add_one, List.getElem?_eq_getElem hlt]
        exact sumK_snoc meant al _ _
      have hin := sumK_in HG.out meant (ks.take i) (by rw [List.length_take]; omega)
      obtain ⟨⟨k1, k2⟩, hk12⟩ : ∃ k, k = ks[i] := ⟨_, rfl⟩
      rw [← hk12] at d0 d1 hsn
      obtain ⟨⟨x, y, z⟩, hacc⟩ : ∃ q, q = sumK meant al (ks.take i) := ⟨_, rfl⟩
      rw [← hacc] at hsn HX hin
      obtain ⟨mt, hmt⟩ : ∃ mt, mt = meant (k1, k2) := ⟨_, rfl⟩
      have HSN := hid hsn
      have HIN := hid hin
      have HMT := hid hmt
      obtain ⟨kb, hkb⟩ : ∃ kb, kb = wr.heap.size := ⟨_, rfl⟩
      obtain ⟨Wk, hWk⟩ : ∃ Wk, Wk = wr.alloc (.cells #[.int .i64 k1, .int .i64 k2] 223) := ⟨_, rfl⟩
      have HXk := hid (show SX w Wk p mb al (some ⟨b, o, none⟩) ks (x, y, z) by rw [hWk]; exact HX.out.later ((Below.refl _ wr).alloc (Nat.le_refl _) _))
      have HKk := hid (show Wk.heap[kb]? = some (.cells #[.int .i64 k1, .int .i64 k2] 223 (0, 0)) by rw [hWk, hkb]; exact heap_at _ _ _ rfl)
      have hcl := HFF.out Wk HXk.out.low (k1, k2)
      rw [← hmt] at hcl
      unfold kp at hcl
      have HCL := hid hcl
      have ck0 : Wk.cell? ⟨kb, 0, none⟩ = some (.int .i64 k1) := by rw [cell_of_row Wk _ _ _ _ _ HKk.out]; rfl
      have ck1 : Wk.cell? ⟨kb, 1, none⟩ = some (.int .i64 k2) := by rw [cell_of_row Wk _ _ _ _ _ HKk.out]; rfl
      have HKB := hid hkb
      have HWK := hid hWk
      clear hsn hin hk12 hacc hmt HX hkb hWk hcl
      go_upto_region 5 with fail
      rw [← HWK.out, ← HKB.out]
      clear HWK HKB
      cases mt with
      | false =>
        go_wp2_with (go_at_call 133; go_must (with_reducible refine HCL.out.mono ?_); rintro e_ w5 ⟨rfl, hb⟩; have HX5 := hid (HXk.out.later hb); clear hb)
        go_roundg (ks.length - (i + 1))
        case measure => omega
        case rel => exact ⟨i + 1, rfl, by omega, by go_num, by rw [HSN.out, ← HMT.out]; exact HX5⟩
      | true =>
        obtain ⟨⟨⟨e0, e1, e2⟩, ⟨e3, e4, e5⟩⟩, hs⟩ : ∃ s, s = (aget (k1, k2) al).getD z6 := ⟨_, rfl⟩
        have HNO := hid (show nowOf al (k1, k2) = (e0, e1, e2) by unfold nowOf; rw [← hs])
        have hni := nowOf_in HG.out (k1, k2)
        rw [HNO.out] at hni
        have HLK := hid hs.symm
        have hadd := fun W => add_any (x, y, z) (e0, e1, e2) W (by
          have h1 := HIN.out
          have h2 := hni
          simp only [In3, Sml] at h1 h2 ⊢
          omega)
        simp only [rv, add3] at hadd
        have HADD := hid hadd
        have hf := fun W => (field225 e0 e1 e2 e3 e4 e5 W).1
        clear hs hni hadd
        go_upto_region 6 with (go_at_call 133; go_must (with_reducible refine HCL.out.mono ?_); rintro e_ w5 ⟨rfl, hb⟩; have HX := hid ((HXk.out.later hb).later (Below.refl _ w5).drew); have HK := hid ((((Below.refl _ w5).drew.block kb (by have := (Array.getElem?_eq_some_iff.1 HKk.out).1; have := hb.size; omega)).trans ((hb.block kb (Array.getElem?_eq_some_iff.1 HKk.out).1).trans HKk.out))); clear hb)
        clear ck0 ck1
        refine start_ (n := 13) (S := fun V : World => V.cell? ⟨w.heap.size + 1, 0, none⟩ = some (.int .i64 x) ∧ V.cell? ⟨w.heap.size + 1, 1, none⟩ = some (.int .i64 y) ∧ V.cell? ⟨w.heap.size + 1, 2, none⟩ = some (.int .i64 z) ∧ V.cell? ⟨p, 0, none⟩ = some (.map (some mb)) ∧ V.cell? ⟨kb, 0, none⟩ = some (.int .i64 k1) ∧ V.cell? ⟨kb, 1, none⟩ = some (.int .i64 k2) ∧ (Instr.lookup 217 (.map (some mb)) (.agg #[.int .i64 k1, .int .i64 k2]) false).run Try.prog V = .ok (.agg #[.int .i64 e0, .int .i64 e1, .int .i64 e2, .int .i64 e3, .int .i64 e4, .int .i64 e5]) V) (ds := [12]) #[false, false, false, false, false, false, false, false, false, false, false, false, false] (by kernel_rfl) rfl rfl (HX.out.s6 HK.out HLK.out) (fun hHeld => ?_); refine with_tabW sum6.tab sum6.bits (fun HT_ HW_ => ?_)
        refine pure_ (i := 1) (N := some 20) (v := ?_) (a' := ?_) #[false, true, false, false, false, false, false, false, false, false, false, false, false] rfl rfl (any_of HT_.out (by kernel_rfl)) (fun _ _ _ h => h) (Or.inl ⟨by rfl, ?_⟩) ?_ ?_
        rotate_left
        · intro w'
          go_simp
          with_reducible rfl
        rotate_left
        · simp only [Act.put, List.setIfInBounds_toArray, List.set_cons_zero, List.set_cons_succ, i64_w, i32_w]
          rfl
        refine pure_ (i := 2) (N := some 21) (v := ?_) (a' := ?_) #[false, true, true, false, false, false, false, false, false, false, false, false, false] rfl rfl (any_of HT_.out (by kernel_rfl)) (fun _ _ _ h => h) (Or.inl ⟨by rfl, ?_⟩) ?_ ?_
        rotate_left
        · intro w'
          go_simp
          with_reducible rfl
        rotate_left
        · simp only [Act.put, List.setIfInBounds_toArray, List.set_cons_zero, List.set_cons_succ, i64_w, i32_w]
          rfl
        refine pure_ (i := 3) (N := some 22) (v := ?_) (a' := ?_) #[false, true, true, true, false, false, false, false, false, false, false, false, false] rfl rfl (any_of HT_.out (by kernel_rfl)) (fun _ _ _ h => h) (Or.inl ⟨by rfl, ?_⟩) ?_ ?_
        rotate_left
        · intro w'
          go_simp
          with_reducible rfl
        rotate_left
        · simp only [Act.put, List.setIfInBounds_toArray, List.set_cons_zero, List.set_cons_succ, i64_w, i32_w]
          rfl
        refine take_ (i := 0) (N := some 19) (v := ?_) (a' := ?_) #[true, true, true, true, false, false, false, false, false, false, false, false, false] rfl rfl (take_ofW HT_.out HW_.out (by kernel_rfl)) (fun _ _ _ h => h) (Or.inl ⟨by rfl, ?_⟩) hHeld ?_ ?_
        rotate_left
        · rintro w' ⟨s0, s1, s2, s3, s4, s5, s6⟩
          go_simp
          with_reducible rfl
        rotate_left
        · simp only [Act.put, List.setIfInBounds_toArray, List.set_cons_zero, List.set_cons_succ, i64_w, i32_w]
          rfl
        refine take_ (i := 4) (N := some 23) (v := ?_) (a' := ?_) #[true, true, true, true, true, false, false, false, false, false, false, false, false] rfl rfl (take_ofW HT_.out HW_.out (by kernel_rfl)) (fun _ _ _ h => h) (Or.inl ⟨by rfl, ?_⟩) hHeld ?_ ?_
        rotate_left
        · rintro w' ⟨s0, s1, s2, s3, s4, s5, s6⟩
          go_simp
          with_reducible rfl
        rotate_left
        · simp only [Act.put, List.setIfInBounds_toArray, List.set_cons_zero, List.set_cons_succ, i64_w, i32_w]
          rfl
        refine take_ (i := 5) (N := some 24) (v := ?_) (a' := ?_) #[true, true, true, true, true, true, false, false, false, false, false, false, false] rfl rfl (take_ofW HT_.out HW_.out (by kernel_rfl)) (fun _ _ _ h => h) (Or.inl ⟨by rfl, ?_⟩) hHeld ?_ ?_
        rotate_left
        · rintro w' ⟨s0, s1, s2, s3, s4, s5, s6⟩
          go_simp
          with_reducible rfl
        rotate_left
        · simp only [Act.put, List.setIfInBounds_toArray, List.set_cons_zero, List.set_cons_succ, i64_w, i32_w]
          rfl
        refine take_ (i := 6) (N := some 25) (v := ?_) (a' := ?_) #[true, true, true, true, true, true, true, false, false, false, false, false, false] rfl rfl (take_ofW HT_.out HW_.out (by kernel_rfl)) (fun _ _ _ h => h) (Or.inl ⟨by rfl, ?_⟩) hHeld ?_ ?_
        rotate_left
        · rintro w' ⟨s0, s1, s2, s3, s4, s5, s6⟩
          go_simp
          with_reducible rfl
        rotate_left
        · simp only [Act.put, List.setIfInBounds_toArray, List.set_cons_zero, List.set_cons_succ, i64_w, i32_w]
          rfl
        refine pure_ (i := 7) (N := some 26) (v := ?_) (a' := ?_) #[true, true, true, true, true, true, true, true, false, false, false, false, false] rfl rfl (any_of HT_.out (by kernel_rfl)) (fun _ _ _ h => h) (Or.inl ⟨by rfl, ?_⟩) ?_ ?_
        rotate_left
        · intro w'
          go_simp
          with_reducible rfl
        rotate_left
        · simp only [Act.put, List.setIfInBounds_toArray, List.set_cons_zero, List.set_cons_succ, i64_w, i32_w]
          rfl
        refine one_ (i := 8) (N := some 27) #[true, true, true, true, true, true, true, true, true, false, false, false, false] rfl rfl (one_of HT_.out (by kernel_rfl)) (by decide) (fun K hK => ?_)
        refine goes_ Try.func94 (by kernel_rfl) rfl #[.agg #[.int .i64 x, .int .i64 y, .int .i64 z], .agg #[.int .i64 e0, .int .i64 e1, .int .i64 e2]] (by rfl) rfl rfl (by (try simp only [List.map_toArray, List.map_cons, List.map_nil]); first | done | rfl) ?_
        with_reducible refine (HADD.out _).mono ?_
        rintro e_ V8 ⟨rfl, hb⟩
        refine ⟨_, rfl, ?_⟩
        have HXN := hid (HX.out.later hb)
        have HKN := hid ((hb.block kb (Array.getElem?_eq_some_iff.1 HK.out).1).trans HK.out)
        clear HX HK hb
        have HX := HXN
        have HK := HKN
        clear HXN HKN
        refine hK.out _ _ (HX.out.s6 HK.out HLK.out) (fun hHeld => ?_)
        clear hK K
        refine norm_ (a' := ?_) ?_ ?_
        rotate_left
        · show Act.put _ (some 27) _ = _
          simp only [Act.put, List.setIfInBounds_toArray, List.set_cons_zero, List.set_cons_succ, i64_w, i32_w]
          rfl
        refine pure_ (i := 9) (N := some 18) (v := ?_) (a' := ?_) #[true, true, true, true, true, true, true, true, true, true, false, false, false] rfl rfl (any_of HT_.out (by kernel_rfl)) (fun _ _ _ h => h) (Or.inl ⟨by rfl, ?_⟩) ?_ ?_
        rotate_left
        · intro w'
          go_simp
          with_reducible rfl
        rotate_left
        · simp only [Act.put, List.setIfInBounds_toArray, List.set_cons_zero, List.set_cons_succ, i64_w, i32_w]
          rfl
        refine pure_ (i := 10) (N := some 28) (v := ?_) (a' := ?_) #[true, true, true, true, true, true, true, true, true, true, true, false, false] rfl rfl (any_of HT_.out (by kernel_rfl)) (fun _ _ _ h => h) (Or.inl ⟨by rfl, ?_⟩) ?_ ?_
        rotate_left
        · intro w'
          go_simp
          with_reducible rfl
        rotate_left
        · simp only [Act.put, List.setIfInBounds_toArray, List.set_cons_zero, List.set_cons_succ, i64_w, i32_w]
          rfl
        refine pure_ (i := 11) (N := some 29) (v := ?_) (a' := ?_) #[true, true, true, true, true, true, true, true, true, true, true, true, false] rfl rfl (any_of HT_.out (by kernel_rfl)) (fun _ _ _ h => h) (Or.inl ⟨by rfl, ?_⟩) ?_ ?_
        rotate_left
        · intro w'
          go_simp
          with_reducible rfl
        rotate_left
        · simp only [Act.put, List.setIfInBounds_toArray, List.set_cons_zero, List.set_cons_succ, i64_w, i32_w]
          rfl
        refine last_ (i := 12) (N := none) #[true, true, true, true, true, true, true, true, true, true, true, true, true] rfl rfl (one_of HT_.out (by kernel_rfl)) (by decide) (fun K hK => ?_)
        obtain ⟨W4, hW4⟩ : ∃ W4, W4 = ((V8.setCell ⟨w.heap.size + 1, 0, none⟩ (.int .i64 (x + e0))).setCell ⟨w.heap.size + 1, 1, none⟩ (.int .i64 (y + e1))).setCell ⟨w.heap.size + 1, 2, none⟩ (.int .i64 (z + e2)) := ⟨_, rfl⟩
        have HN := hid (show SX w W4 p mb al _ ks (x + e0, y + e1, z + e2) by rw [hW4]; exact HX.out.put _ _ _)
        have HW4 := hid hW4
        obtain ⟨y0, y1, y2, yf⟩ := cells145 HX.out.sb
        have yf0 := yf 0
        have yf1 := yf 1
        have yf2 := yf 2
        simp only at y0 y1 y2
        clear hW4 yf
        refine skip_ (w1 := W4) (by rfl) rfl (by rw [HW4.out]; go_simp) ?_
        clear y0 y1 y2 yf0 yf1 yf2 HX HW4
        refine hK.out _ _ ?_
        clear hK K
        refine done_ (done_of HT_.out (by kernel_rfl)) ?_
        go_wp2
        go_roundg (ks.length - (i + 1))
        case measure => omega
        case rel => exact ⟨i + 1, rfl, by omega, by go_num, by rw [HSN.out, ← HMT.out, if_pos rfl, HNO.out]; exact HN⟩
    · have hie : i = ks.length := by omega
      have hx := HX.out
      rw [hie, List.take_length, sumK_all meant al HP.out.2.2 HPM.out] at hx
      obtain ⟨⟨x, y, z⟩, hacc⟩ : ∃ q, q = sumM meant al := ⟨_, rfl⟩
      rw [← hacc] at hx
      obtain ⟨W9, hW9⟩ : ∃ W9, W9 = ((wr.setCell ⟨w.heap.size, 0, none⟩ (.int .i64 x)).setCell ⟨w.heap.size, 1, none⟩ (.int .i64 y)).setCell ⟨w.heap.size, 2, none⟩ (.int .i64 z) := ⟨_, rfl⟩
      have rt9 : W9.heap[w.heap.size]? = some (.cells #[.int .i64 x, .int .i64 y, .int .i64 z] 145 (0, 0)) := by
        rw [hW9]
        have e1 := heap_setCell_same wr _ 0 _ 145 (.int .i64 x) hx.rt
        have e2 := heap_setCell_same _ _ 1 _ 145 (.int .i64 y) e1
        exact heap_setCell_same _ _ 2 _ 145 (.int .i64 z) e2
      have low9 : Below w.heap.size w W9 := by rw [hW9]; exact ((hx.low.setCell (Nat.le_refl _) _).setCell (Nat.le_refl _) _).setCell (Nat.le_refl _) _
      obtain ⟨g0, g1, g2, -⟩ := cells145 rt9
      obtain ⟨t0, t1, t2, tf⟩ := cells145 hx.rt
      have tf0 := tf 0
      have tf1 := tf 1
      have tf2 := tf 2
      obtain ⟨s0, s1, s2, -⟩ := cells145 hx.sb
      simp only at s0 s1 s2
      have hnl : ¬ ((i : Int) < (ks.length : Int)) := by omega
      have HE := hid (And.intro hacc low9)
      have HW9 := hid hW9
      clear hacc hW9 tf hx HX rt9 low9
      go_wp2_with fail
      rw [← HW9.out]
      refine bodyPost_ret (v := .agg #[.int .i64 x, .int .i64 y, .int .i64 z]) (by simp [results, Try.results130, go_sem, g0, g1, g2]) rfl ⟨?_, HE.out.2⟩
      rw [← HE.out.1]
end Go.Proofs.Ytnceglkoolfncaa.Us
