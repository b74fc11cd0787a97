/- Relist: merge, over sandboxes: both lists side by side. -/
import Derived.Test.YtnceglkoolfncaaNb
import Derived.StillTailTactics
import Derived.Deep.LoopGhost
import Derived.Deep.QuietTactic
import Derived.BigQuiet
set_option linter.unusedSimpArgs false
set_option linter.unusedVariables false
namespace Go.Proofs.Ytnceglkoolfncaa.Rl
open Go.RowKit Go.Pv Go.Proofs.Ytnceglkoolfncaa.Po Go.Proofs.YtnceglkoolfncaaW.PrintWords Go.Proofs.YtnceglkoolfncaaW.PrintLast
def mergeB3.T : Bool × List (List Nat × List Nat) := (true, [([], []), ([0], [0]), ([1], [1]), ([2], [2]), ([3], [3]), ([4, 3], [3, 4]), ([5, 3], [3, 5]), ([6, 3, 3], [3, 6]), ([7], [7]), ([7], [7]), ([9, 7], [7, 9]), ([10, 7], [7, 10]), ([8, 11, 7, 7], [7, 8, 11]), ([7], [7]), ([7], [7]), ([14, 7], [7, 14]), ([15, 7], [7, 15]), ([13, 16, 12, 7], [7, 13, 16]), ([12, 17, 7], [7, 12, 17]), ([7, 18, 3], [3, 7, 18]), ([3, 19], [3, 19]), ([20, 17], [20])])
def mergeB3.B : List Nat := [0, 1, 3, 7, 15, 31, 63, 127, 255, 255, 767, 1791, 4095, 255, 255, 16639, 49407, 131071, 262143, 524287, 1048575, 2097151]
theorem mergeB3.tab : rtab .any (opsOf Try.f112 3) = mergeB3.T := by kernel_rfl
theorem mergeB3.bits : waitsOk mergeB3.T.2 mergeB3.B = true := by kernel_rfl
def mergeB6.T : Bool × List (List Nat × List Nat) := (true, [([], []), ([0], [0]), ([1], [1]), ([2], [2]), ([3], [3]), ([3], [3]), ([5, 3], [3, 5]), ([6, 3], [3, 6]), ([4, 7, 3, 3], [3, 4, 7]), ([3], [3]), ([3], [3]), ([10, 3], [3, 10]), ([11, 3], [3, 11]), ([9, 12, 8, 3], [3, 9, 12]), ([8, 13, 3], [3, 8, 13]), ([3, 14], [3, 14]), ([15, 13], [15])])
def mergeB6.B : List Nat := [0, 1, 3, 7, 15, 15, 47, 111, 255, 15, 15, 1039, 3087, 8191, 16383, 32767, 65535]
theorem mergeB6.tab : rtab .any (opsOf Try.f112 6) = mergeB6.T := by kernel_rfl
theorem mergeB6.bits : waitsOk mergeB6.T.2 mergeB6.B = true := by kernel_rfl

set_option maxRecDepth 10000 in
theorem idB (i u s : Int) (v : Value) (w : World) : Calls Try.prog 113 #[.agg #[.int .i64 i, .int .i64 u, .int .i64 s, v]] w fun e w' => e = .returned (.int .i64 i) ∧ Below w.heap.size w w' := by
  go_enter Try.func113, Try.ntmps113
  go_wp2
  go_ret
  exact ⟨rfl, (Below.refl _ w).alloc (Nat.le_refl _) _⟩

theorem info108 : ∃ i, Try.prog.info? 108 = some i ∧ i.size = 4 := by
  have h : (Try.prog.info? 108).map (fun i => i.size) = some 4 := by kernel_rfl
  cases h0 : Try.prog.info? 108 with
  | none => rw [h0] at h; cases h
  | some i => rw [h0] at h; simp at h; exact ⟨i, rfl, h⟩

/-- What is told of both lists, and what is left of them. -/
structure MgB (u : World) (la lb : List BV) (one : Option BV → Option BV → List Ch) (I : List Ch → World → Prop) (m : Nat) (FIN : List Ch) (xs ys : List BV) (va vb : Value) (M : List Ch) (wr : World) : Prop where
  ra : Rz PRelistNone.k108 u va xs
  rb : Rz PRelistNone.k108 u vb ys
  ina : ∀ x ∈ xs, x ∈ la
  inb : ∀ y ∈ ys, y ∈ lb
  i : I M wr
  fin : M ++ mergeL (fun x : BV => x.f0) one (xs.length + ys.length) xs ys = FIN
  few : M.length + m * (xs.length + ys.length) ≤ 900000

section
variable {w : World} {la lb : List BV} {one : Option BV → Option BV → List Ch} {I : List Ch → World → Prop} {m : Nat} {FIN : List Ch} {xs ys : List BV} {x y : BV} {va vb va' vb' : Value} {M : List Ch} {wr w2 : World}
theorem MgB.left (h : MgB w la lb one I m FIN (x :: xs) ys va vb M wr) (hx : ∀ y, ys.head? = some y → x.f0 < y.f0) (hm : (one (some x) none).length ≤ m) (ha : Rz PRelistNone.k108 w va' xs) (hi : I (M ++ one (some x) none) w2) :
    MgB w la lb one I m FIN xs ys va' vb (M ++ one (some x) none) w2 := by
  refine ⟨ha, h.rb, fun z hz => h.ina z (by simp [hz]), h.inb, hi, ?_, ?_⟩
  · have := h.fin
    rw [mergeL_left hx, ← List.append_assoc] at this
    exact this
  · have := h.few
    simp only [List.length_cons, List.length_append, Nat.mul_add] at this ⊢
    omega
theorem MgB.right (h : MgB w la lb one I m FIN xs (y :: ys) va vb M wr) (hx : ∀ x, xs.head? = some x → y.f0 < x.f0) (hm : (one none (some y)).length ≤ m) (hb : Rz PRelistNone.k108 w vb' ys) (hi : I (M ++ one none (some y)) w2) :
    MgB w la lb one I m FIN xs ys va vb' (M ++ one none (some y)) w2 := by
  refine ⟨h.ra, hb, h.ina, fun z hz => h.inb z (by simp [hz]), hi, ?_, ?_⟩
  · have := h.fin
    rw [mergeL_right hx, ← List.append_assoc] at this
    exact this
  · have := h.few
    simp only [List.length_cons, List.length_append, Nat.mul_add] at this ⊢
    omega
theorem MgB.both (h : MgB w la lb one I m FIN (x :: xs) (y :: ys) va vb M wr) (h1 : ¬ x.f0 < y.f0) (h2 : ¬ y.f0 < x.f0) (hm : (one (some x) (some y)).length ≤ m) (ha : Rz PRelistNone.k108 w va' xs) (hb : Rz PRelistNone.k108 w vb' ys) (hi : I (M ++ one (some x) (some y)) w2) :
    MgB w la lb one I m FIN xs ys va' vb' (M ++ one (some x) (some y)) w2 := by
  refine ⟨ha, hb, fun z hz => h.ina z (by simp [hz]), fun z hz => h.inb z (by simp [hz]), hi, ?_, ?_⟩
  · have := h.fin
    rw [mergeL_both h1 h2, ← List.append_assoc] at this
    exact this
  · have := h.few
    simp only [List.length_cons, List.length_append, Nat.mul_add] at this ⊢
    omega
end

set_option maxRecDepth 10000 in
set_option maxHeartbeats 1000000 in
theorem mergeB {u w : World} {va vb : Value} {la lb : List BV} (ha : Rz PRelistNone.k108 u va la) (hb : Rz PRelistNone.k108 u vb lb) (x1 : Value) (one : Option BV → Option BV → List Ch) (I : List Ch → World → Prop) (m : Nat) (L : List Ch)
    (hI : ∀ L W W', I L W → Below W.heap.size W W' → I L W') (hlow : ∀ L W, I L W → Below u.heap.size u W)
    (hm : ∀ oa ob, (∀ x, oa = some x → x ∈ la) → (∀ x, ob = some x → x ∈ lb) → (one oa ob).length ≤ m)
    (hone : ∀ L W pa pb oa ob, I L W → L.length + m ≤ 900000 → Pt PRelistNone.k108 u pa oa → Pt PRelistNone.k108 u pb ob → (∀ x, oa = some x → x ∈ la) → (∀ x, ob = some x → x ∈ lb) → (oa = none → ob = none → False) →
      Calls Try.prog 114 #[pa, pb, x1] W fun e W' => e = .returned (.tuple #[]) ∧ I (L ++ one oa ob) W')
    (hL : L.length + m * (la.length + lb.length) ≤ 900000) (h0 : I L w) :
    Calls Try.prog 112 #[va, vb, .func (.func 113) #[] #[], .func (.func 114) #[] #[x1]] w fun e w' =>
      e = .returned (.tuple #[]) ∧ I (L ++ mergeL (fun x : BV => x.f0) one (la.length + lb.length) la lb) w' := by
  obtain ⟨j0, hj0, hjs⟩ := info108
  have HJ := hid hj0
  have HJS := hid hjs
  have HIn := hid hI
  have HLOW := hid hlow
  have HM := hid hm
  have HONE := hid hone
  obtain ⟨Aa0, ca0, rfl⟩ := ha.form
  obtain ⟨Ab0, cb0, rfl⟩ := hb.form
  obtain ⟨FIN, hFIN⟩ : ∃ FIN, FIN = L ++ mergeL (fun x : BV => x.f0) one (la.length + lb.length) la lb := ⟨_, rfl⟩
  have H0 := hid (show MgB u la lb one I m FIN la lb _ _ L w from ⟨ha, hb, fun _ h => h, fun _ h => h, h0, hFIN.symm, hL⟩)
  rw [← hFIN]
  clear ha hb hI hlow hm hone h0 hFIN hj0 hjs hL
  go_enter Try.func112, Try.ntmps112
  go_wp2
  go_loopg [0, 1] (la.length + lb.length) (fun g a b wr => ∃ (xs ys : List BV) (na nb : Nat) (Aa Ab : Option Addr) (ca cb : Nat) (M : List Ch), xs.length = na ∧ ys.length = nb ∧ g = na + nb ∧ a = .slice Aa na ca ∧ b = .slice Ab nb cb ∧
    Hid (MgB u la lb one I m FIN xs ys (.slice Aa na ca) (.slice Ab nb cb) M wr))
  case atStart => exact ⟨la, lb, _, _, _, _, _, _, L, rfl, rfl, rfl, rfl, rfl, H0⟩
  case round =>
    clear H0
    obtain ⟨xs, ys, na, nb, Aa, Ab, ca, cb, M, hna, hnb, rfl, rfl, rfl, HG⟩ := hrel
    cases xs with
    | nil =>
      obtain rfl : 0 = na := hna
      try clear hna
      cases ys with
      | nil =>
        obtain rfl : 0 = nb := hnb
        try clear hnb
        go_wp2
        go_end0
        have h9 := HG.out.fin
        rw [mergeL_nil, List.append_nil] at h9
        exact ⟨rfl, h9 ▸ HG.out.i⟩
      | cons y ys =>
        obtain ⟨nb', hnb'⟩ : ∃ k, k = ys.length := ⟨_, rfl⟩
        obtain rfl : nb' + 1 = nb := by rw [hnb']; exact hnb
        try clear hnb
        have HNB := hid hnb'
        clear hnb'
        obtain ⟨yb, yo, yc', ycs, hyv, yl, yK, yk⟩ := HG.out.rb.head (by decide)
        simp only [Value.slice.injEq] at hyv
        obtain ⟨rfl, -, -⟩ := hyv
        obtain ⟨A1, c1, hts, hrz⟩ := HG.out.rb.tail Try.underlying99 HJ.out HJS.out
        rw [← HNB.out] at hts hrz
        have HRZ := hid hrz
        have hpt : Pt PRelistNone.k108 u (.pointer (some ⟨yb, yo, none⟩)) (some y) := ⟨yb, yo, ycs, rfl, yl, yK, yk⟩
        have HPT := hid hpt
        clear hrz hpt yl yK yk
        have hp1 : 0 < nb' + 1 := by omega
        go_wp2
        refine start_ (n := 22) (S := fun _ : World => True) (ds := []) #[false, false, false, false, false, false, false, false, false, false, false, false, false, false, false, false, false, false, false, false, false, false] (by kernel_rfl) rfl rfl trivial (fun hHeld => ?_); refine with_tabW mergeB3.tab mergeB3.bits (fun HT_ HW_ => ?_)
        refine pure_ (i := 0) (N := some 27) (v := ?_) (a' := ?_) #[true, false, false, false, false, false, false, false, false, false, false, false, false, false, false, false, false, false, false, false, false, false] rfl rfl (any_of HT_.out (by kernel_rfl)) (fun _ _ _ h => h) (Or.inl ⟨by rfl, ?_⟩) ?_ ?_
        rotate_left
        · intro w'
          go_simp
          with_reducible rfl
        rotate_left
        · simp only [Act.put, List.setIfInBounds_toArray, List.set_cons_zero, List.set_cons_succ, i64_w, i32_w]
          rfl
        refine pure_ (i := 1) (N := some 28) (v := ?_) (a' := ?_) #[true, true, false, false, false, false, false, false, false, false, false, false, false, false, false, false, false, false, false, false, false, false] rfl rfl (any_of HT_.out (by kernel_rfl)) (fun _ _ _ h => h) (Or.inl ⟨by rfl, ?_⟩) ?_ ?_
        rotate_left
        · intro w'
          go_simp
          with_reducible rfl
        rotate_left
        · simp only [Act.put, List.setIfInBounds_toArray, List.set_cons_zero, List.set_cons_succ, i64_w, i32_w]
          rfl
        refine pure_ (i := 2) (N := some 29) (v := ?_) (a' := ?_) #[true, true, true, false, false, false, false, false, false, false, false, false, false, false, false, false, false, false, false, false, false, false] rfl rfl (any_of HT_.out (by kernel_rfl)) (fun _ _ _ h => h) (Or.inl ⟨by rfl, ?_⟩) ?_ ?_
        rotate_left
        · intro w'
          go_simp
          with_reducible rfl
        rotate_left
        · simp only [Act.put, List.setIfInBounds_toArray, List.set_cons_zero, List.set_cons_succ, i64_w, i32_w]
          rfl
        refine pure_ (i := 3) (N := some 30) (v := ?_) (a' := ?_) #[true, true, true, true, false, false, false, false, false, false, false, false, false, false, false, false, false, false, false, false, false, false] rfl rfl (any_of HT_.out (by kernel_rfl)) (fun _ _ _ h => h) (Or.inl ⟨by rfl, ?_⟩) ?_ ?_
        rotate_left
        · intro w'
          go_simp
          with_reducible rfl
        rotate_left
        · simp only [Act.put, List.setIfInBounds_toArray, List.set_cons_zero, List.set_cons_succ, i64_w, i32_w]
          rfl
        refine pure_ (i := 4) (N := some 31) (v := ?_) (a' := ?_) #[true, true, true, true, true, false, false, false, false, false, false, false, false, false, false, false, false, false, false, false, false, false] rfl rfl (any_of HT_.out (by kernel_rfl)) (fun _ _ _ h => h) (Or.inl ⟨by rfl, ?_⟩) ?_ ?_
        rotate_left
        · intro w'
          go_simp
          with_reducible rfl
        rotate_left
        · simp only [Act.put, List.setIfInBounds_toArray, List.set_cons_zero, List.set_cons_succ, i64_w, i32_w]
          rfl
        refine pure_ (i := 5) (N := some 32) (v := ?_) (a' := ?_) #[true, true, true, true, true, true, false, false, false, false, false, false, false, false, false, false, false, false, false, false, false, false] rfl rfl (any_of HT_.out (by kernel_rfl)) (fun _ _ _ h => h) (Or.inl ⟨by rfl, ?_⟩) ?_ ?_
        rotate_left
        · intro w'
          go_simp
          with_reducible rfl
        rotate_left
        · simp only [Act.put, List.setIfInBounds_toArray, List.set_cons_zero, List.set_cons_succ, i64_w, i32_w]
          rfl
        refine pure_ (i := 6) (N := some 33) (v := ?_) (a' := ?_) #[true, true, true, true, true, true, true, false, false, false, false, false, false, false, false, false, false, false, false, false, false, false] rfl rfl (any_of HT_.out (by kernel_rfl)) (fun _ _ _ h => h) (Or.inl ⟨by rfl, ?_⟩) ?_ ?_
        rotate_left
        · intro w'
          go_simp
          with_reducible rfl
        rotate_left
        · simp only [Act.put, List.setIfInBounds_toArray, List.set_cons_zero, List.set_cons_succ, i64_w, i32_w]
          rfl
        refine pure_ (i := 7) (N := some 34) (v := ?_) (a' := ?_) #[true, true, true, true, true, true, true, true, false, false, false, false, false, false, false, false, false, false, false, false, false, false] rfl rfl (any_of HT_.out (by kernel_rfl)) (fun _ _ _ h => h) (Or.inl ⟨by rfl, ?_⟩) ?_ ?_
        rotate_left
        · intro w'
          go_simp
          with_reducible rfl
        rotate_left
        · simp only [Act.put, List.setIfInBounds_toArray, List.set_cons_zero, List.set_cons_succ, i64_w, i32_w]
          rfl
        refine pure_ (i := 8) (N := some 35) (v := undef) (a' := ?_) #[true, true, true, true, true, true, true, true, true, false, false, false, false, false, false, false, false, false, false, false, false, false] rfl rfl (any_of HT_.out (by kernel_rfl)) (fun _ _ _ h => h) (Or.inr ⟨by rfl, rfl⟩) ?_ ?_
        rotate_left
        · simp only [Act.put, List.setIfInBounds_toArray, List.set_cons_zero, List.set_cons_succ, i64_w, i32_w]
          rfl
        refine pure_ (i := 9) (N := some 36) (v := undef) (a' := ?_) #[true, true, true, true, true, true, true, true, true, true, false, false, false, false, false, false, false, false, false, false, false, false] rfl rfl (any_of HT_.out (by kernel_rfl)) (fun _ _ _ h => h) (Or.inr ⟨by rfl, rfl⟩) ?_ ?_
        rotate_left
        · simp only [Act.put, List.setIfInBounds_toArray, List.set_cons_zero, List.set_cons_succ, i64_w, i32_w]
          rfl
        refine pure_ (i := 10) (N := some 37) (v := undef) (a' := ?_) #[true, true, true, true, true, true, true, true, true, true, true, false, false, false, false, false, false, false, false, false, false, false] rfl rfl (any_of HT_.out (by kernel_rfl)) (fun _ _ _ h => h) (Or.inr ⟨by rfl, rfl⟩) ?_ ?_
        rotate_left
        · simp only [Act.put, List.setIfInBounds_toArray, List.set_cons_zero, List.set_cons_succ, i64_w, i32_w]
          rfl
        refine pure_ (i := 11) (N := some 38) (v := undef) (a' := ?_) #[true, true, true, true, true, true, true, true, true, true, true, true, false, false, false, false, false, false, false, false, false, false] rfl rfl (any_of HT_.out (by kernel_rfl)) (fun _ _ _ h => h) (Or.inr ⟨by rfl, rfl⟩) ?_ ?_
        rotate_left
        · simp only [Act.put, List.setIfInBounds_toArray, List.set_cons_zero, List.set_cons_succ, i64_w, i32_w]
          rfl
        refine pure_ (i := 12) (N := some 39) (v := undef) (a' := ?_) #[true, true, true, true, true, true, true, true, true, true, true, true, true, false, false, false, false, false, false, false, false, false] rfl rfl (any_of HT_.out (by kernel_rfl)) (fun _ _ _ h => h) (Or.inr ⟨by rfl, rfl⟩) ?_ ?_
        rotate_left
        · simp only [Act.put, List.setIfInBounds_toArray, List.set_cons_zero, List.set_cons_succ, i64_w, i32_w]
          rfl
        refine pure_ (i := 13) (N := some 40) (v := undef) (a' := ?_) #[true, true, true, true, true, true, true, true, true, true, true, true, true, true, false, false, false, false, false, false, false, false] rfl rfl (any_of HT_.out (by kernel_rfl)) (fun _ _ _ h => h) (Or.inr ⟨by rfl, rfl⟩) ?_ ?_
        rotate_left
        · simp only [Act.put, List.setIfInBounds_toArray, List.set_cons_zero, List.set_cons_succ, i64_w, i32_w]
          rfl
        refine pure_ (i := 14) (N := some 41) (v := undef) (a' := ?_) #[true, true, true, true, true, true, true, true, true, true, true, true, true, true, true, false, false, false, false, false, false, false] rfl rfl (any_of HT_.out (by kernel_rfl)) (fun _ _ _ h => h) (Or.inr ⟨by rfl, rfl⟩) ?_ ?_
        rotate_left
        · simp only [Act.put, List.setIfInBounds_toArray, List.set_cons_zero, List.set_cons_succ, i64_w, i32_w]
          rfl
        refine pure_ (i := 15) (N := some 42) (v := undef) (a' := ?_) #[true, true, true, true, true, true, true, true, true, true, true, true, true, true, true, true, false, false, false, false, false, false] rfl rfl (any_of HT_.out (by kernel_rfl)) (fun _ _ _ h => h) (Or.inr ⟨by rfl, rfl⟩) ?_ ?_
        rotate_left
        · simp only [Act.put, List.setIfInBounds_toArray, List.set_cons_zero, List.set_cons_succ, i64_w, i32_w]
          rfl
        refine pure_ (i := 16) (N := some 43) (v := undef) (a' := ?_) #[true, true, true, true, true, true, true, true, true, true, true, true, true, true, true, true, true, false, false, false, false, false] rfl rfl (any_of HT_.out (by kernel_rfl)) (fun _ _ _ h => h) (Or.inr ⟨by rfl, rfl⟩) ?_ ?_
        rotate_left
        · simp only [Act.put, List.setIfInBounds_toArray, List.set_cons_zero, List.set_cons_succ, i64_w, i32_w]
          rfl
        refine pure_ (i := 17) (N := some 44) (v := undef) (a' := ?_) #[true, true, true, true, true, true, true, true, true, true, true, true, true, true, true, true, true, true, false, false, false, false] rfl rfl (any_of HT_.out (by kernel_rfl)) (fun _ _ _ h => h) (Or.inr ⟨by rfl, rfl⟩) ?_ ?_
        rotate_left
        · simp only [Act.put, List.setIfInBounds_toArray, List.set_cons_zero, List.set_cons_succ, i64_w, i32_w]
          rfl
        refine pure_ (i := 18) (N := some 45) (v := undef) (a' := ?_) #[true, true, true, true, true, true, true, true, true, true, true, true, true, true, true, true, true, true, true, false, false, false] rfl rfl (any_of HT_.out (by kernel_rfl)) (fun _ _ _ h => h) (Or.inr ⟨by rfl, rfl⟩) ?_ ?_
        rotate_left
        · simp only [Act.put, List.setIfInBounds_toArray, List.set_cons_zero, List.set_cons_succ, i64_w, i32_w]
          rfl
        refine pure_ (i := 19) (N := some 46) (v := ?_) (a' := ?_) #[true, true, true, true, true, true, true, true, true, true, true, true, true, true, true, true, true, true, true, true, false, false] rfl rfl (any_of HT_.out (by kernel_rfl)) (fun _ _ _ h => h) (Or.inl ⟨by rfl, ?_⟩) ?_ ?_
        rotate_left
        · intro w'
          go_simp
          with_reducible rfl
        rotate_left
        · simp only [Act.put, List.setIfInBounds_toArray, List.set_cons_zero, List.set_cons_succ, i64_w, i32_w]
          rfl
        refine pure_ (i := 20) (N := some 47) (v := ?_) (a' := ?_) #[true, true, true, true, true, true, true, true, true, true, true, true, true, true, true, true, true, true, true, true, true, false] rfl rfl (any_of HT_.out (by kernel_rfl)) (fun _ _ _ h => h) (Or.inl ⟨by rfl, ?_⟩) ?_ ?_
        rotate_left
        · intro w'
          go_simp
          with_reducible rfl
        rotate_left
        · simp only [Act.put, List.setIfInBounds_toArray, List.set_cons_zero, List.set_cons_succ, i64_w, i32_w]
          rfl
        refine pure_ (i := 21) (N := some 26) (v := ?_) (a' := ?_) #[true, true, true, true, true, true, true, true, true, true, true, true, true, true, true, true, true, true, true, true, true, true] rfl rfl (any_of HT_.out (by kernel_rfl)) (fun _ _ _ h => h) (Or.inl ⟨by rfl, ?_⟩) ?_ ?_
        rotate_left
        · intro w'
          go_simp
          with_reducible rfl
        rotate_left
        · simp only [Act.put, List.setIfInBounds_toArray, List.set_cons_zero, List.set_cons_succ, i64_w, i32_w]
          rfl
        refine done_ (done_of HT_.out (by kernel_rfl)) ?_
        go_wp2
        refine start_ (n := 17) (S := fun _ : World => True) (ds := []) #[false, false, false, false, false, false, false, false, false, false, false, false, false, false, false, false, false] (by kernel_rfl) rfl rfl trivial (fun hHeld => ?_); refine with_tabW mergeB6.tab mergeB6.bits (fun HT_ HW_ => ?_)
        refine pure_ (i := 0) (N := some 55) (v := ?_) (a' := ?_) #[true, false, false, false, false, false, false, false, false, false, false, false, false, false, false, false, false] rfl rfl (any_of HT_.out (by kernel_rfl)) (fun _ _ _ h => h) (Or.inl ⟨by rfl, ?_⟩) ?_ ?_
        rotate_left
        · intro w'
          go_simp
          with_reducible rfl
        rotate_left
        · simp only [Act.put, List.setIfInBounds_toArray, List.set_cons_zero, List.set_cons_succ, i64_w, i32_w]
          rfl
        refine pure_ (i := 1) (N := some 56) (v := ?_) (a' := ?_) #[true, true, false, false, false, false, false, false, false, false, false, false, false, false, false, false, false] rfl rfl (any_of HT_.out (by kernel_rfl)) (fun _ _ _ h => h) (Or.inl ⟨by rfl, ?_⟩) ?_ ?_
        rotate_left
        · intro w'
          go_simp
          with_reducible rfl
        rotate_left
        · simp only [Act.put, List.setIfInBounds_toArray, List.set_cons_zero, List.set_cons_succ, i64_w, i32_w]
          rfl
        refine pure_ (i := 2) (N := some 57) (v := ?_) (a' := ?_) #[true, true, true, false, false, false, false, false, false, false, false, false, false, false, false, false, false] rfl rfl (any_of HT_.out (by kernel_rfl)) (fun _ _ _ h => h) (Or.inl ⟨by rfl, ?_⟩) ?_ ?_
        rotate_left
        · intro w'
          go_simp
          with_reducible rfl
        rotate_left
        · simp only [Act.put, List.setIfInBounds_toArray, List.set_cons_zero, List.set_cons_succ, i64_w, i32_w]
          rfl
        refine pure_ (i := 3) (N := some 58) (v := ?_) (a' := ?_) #[true, true, true, true, false, false, false, false, false, false, false, false, false, false, false, false, false] rfl rfl (any_of HT_.out (by kernel_rfl)) (fun _ _ _ h => h) (Or.inl ⟨by rfl, ?_⟩) ?_ ?_
        rotate_left
        · intro w'
          go_simp
          with_reducible rfl
        rotate_left
        · simp only [Act.put, List.setIfInBounds_toArray, List.set_cons_zero, List.set_cons_succ, i64_w, i32_w]
          rfl
        refine pure_ (i := 4) (N := some 59) (v := undef) (a' := ?_) #[true, true, true, true, true, false, false, false, false, false, false, false, false, false, false, false, false] rfl rfl (any_of HT_.out (by kernel_rfl)) (fun _ _ _ h => h) (Or.inr ⟨by rfl, rfl⟩) ?_ ?_
        rotate_left
        · simp only [Act.put, List.setIfInBounds_toArray, List.set_cons_zero, List.set_cons_succ, i64_w, i32_w]
          rfl
        refine pure_ (i := 5) (N := some 60) (v := undef) (a' := ?_) #[true, true, true, true, true, true, false, false, false, false, false, false, false, false, false, false, false] rfl rfl (any_of HT_.out (by kernel_rfl)) (fun _ _ _ h => h) (Or.inr ⟨by rfl, rfl⟩) ?_ ?_
        rotate_left
        · simp only [Act.put, List.setIfInBounds_toArray, List.set_cons_zero, List.set_cons_succ, i64_w, i32_w]
          rfl
        refine pure_ (i := 6) (N := some 61) (v := undef) (a' := ?_) #[true, true, true, true, true, true, true, false, false, false, false, false, false, false, false, false, false] rfl rfl (any_of HT_.out (by kernel_rfl)) (fun _ _ _ h => h) (Or.inr ⟨by rfl, rfl⟩) ?_ ?_
        rotate_left
        · simp only [Act.put, List.setIfInBounds_toArray, List.set_cons_zero, List.set_cons_succ, i64_w, i32_w]
          rfl
        refine pure_ (i := 7) (N := some 62) (v := undef) (a' := ?_) #[true, true, true, true, true, true, true, true, false, false, false, false, false, false, false, false, false] rfl rfl (any_of HT_.out (by kernel_rfl)) (fun _ _ _ h => h) (Or.inr ⟨by rfl, rfl⟩) ?_ ?_
        rotate_left
        · simp only [Act.put, List.setIfInBounds_toArray, List.set_cons_zero, List.set_cons_succ, i64_w, i32_w]
          rfl
        refine pure_ (i := 8) (N := some 63) (v := undef) (a' := ?_) #[true, true, true, true, true, true, true, true, true, false, false, false, false, false, false, false, false] rfl rfl (any_of HT_.out (by kernel_rfl)) (fun _ _ _ h => h) (Or.inr ⟨by rfl, rfl⟩) ?_ ?_
        rotate_left
        · simp only [Act.put, List.setIfInBounds_toArray, List.set_cons_zero, List.set_cons_succ, i64_w, i32_w]
          rfl
        refine pure_ (i := 9) (N := some 64) (v := undef) (a' := ?_) #[true, true, true, true, true, true, true, true, true, true, false, false, false, false, false, false, false] rfl rfl (any_of HT_.out (by kernel_rfl)) (fun _ _ _ h => h) (Or.inr ⟨by rfl, rfl⟩) ?_ ?_
        rotate_left
        · simp only [Act.put, List.setIfInBounds_toArray, List.set_cons_zero, List.set_cons_succ, i64_w, i32_w]
          rfl
        refine pure_ (i := 10) (N := some 65) (v := undef) (a' := ?_) #[true, true, true, true, true, true, true, true, true, true, true, false, false, false, false, false, false] rfl rfl (any_of HT_.out (by kernel_rfl)) (fun _ _ _ h => h) (Or.inr ⟨by rfl, rfl⟩) ?_ ?_
        rotate_left
        · simp only [Act.put, List.setIfInBounds_toArray, List.set_cons_zero, List.set_cons_succ, i64_w, i32_w]
          rfl
        refine pure_ (i := 11) (N := some 66) (v := undef) (a' := ?_) #[true, true, true, true, true, true, true, true, true, true, true, true, false, false, false, false, false] rfl rfl (any_of HT_.out (by kernel_rfl)) (fun _ _ _ h => h) (Or.inr ⟨by rfl, rfl⟩) ?_ ?_
        rotate_left
        · simp only [Act.put, List.setIfInBounds_toArray, List.set_cons_zero, List.set_cons_succ, i64_w, i32_w]
          rfl
        refine pure_ (i := 12) (N := some 67) (v := undef) (a' := ?_) #[true, true, true, true, true, true, true, true, true, true, true, true, true, false, false, false, false] rfl rfl (any_of HT_.out (by kernel_rfl)) (fun _ _ _ h => h) (Or.inr ⟨by rfl, rfl⟩) ?_ ?_
        rotate_left
        · simp only [Act.put, List.setIfInBounds_toArray, List.set_cons_zero, List.set_cons_succ, i64_w, i32_w]
          rfl
        refine pure_ (i := 13) (N := some 68) (v := undef) (a' := ?_) #[true, true, true, true, true, true, true, true, true, true, true, true, true, true, false, false, false] rfl rfl (any_of HT_.out (by kernel_rfl)) (fun _ _ _ h => h) (Or.inr ⟨by rfl, rfl⟩) ?_ ?_
        rotate_left
        · simp only [Act.put, List.setIfInBounds_toArray, List.set_cons_zero, List.set_cons_succ, i64_w, i32_w]
          rfl
        refine pure_ (i := 14) (N := some 69) (v := undef) (a' := ?_) #[true, true, true, true, true, true, true, true, true, true, true, true, true, true, true, false, false] rfl rfl (any_of HT_.out (by kernel_rfl)) (fun _ _ _ h => h) (Or.inr ⟨by rfl, rfl⟩) ?_ ?_
        rotate_left
        · simp only [Act.put, List.setIfInBounds_toArray, List.set_cons_zero, List.set_cons_succ, i64_w, i32_w]
          rfl
        refine pure_ (i := 15) (N := some 70) (v := ?_) (a' := ?_) #[true, true, true, true, true, true, true, true, true, true, true, true, true, true, true, true, false] rfl rfl (any_of HT_.out (by kernel_rfl)) (fun _ _ _ h => h) (Or.inl ⟨by rfl, ?_⟩) ?_ ?_
        rotate_left
        · intro w'
          go_simp
          with_reducible rfl
        rotate_left
        · simp only [Act.put, List.setIfInBounds_toArray, List.set_cons_zero, List.set_cons_succ, i64_w, i32_w]
          rfl
        refine pure_ (i := 16) (N := some 54) (v := ?_) (a' := ?_) #[true, true, true, true, true, true, true, true, true, true, true, true, true, true, true, true, true] rfl rfl (any_of HT_.out (by kernel_rfl)) (fun _ _ _ h => h) (Or.inl ⟨by rfl, ?_⟩) ?_ ?_
        rotate_left
        · intro w'
          go_simp
          with_reducible rfl
        rotate_left
        · simp only [Act.put, List.setIfInBounds_toArray, List.set_cons_zero, List.set_cons_succ, i64_w, i32_w]
          rfl
        refine done_ (done_of HT_.out (by kernel_rfl)) ?_
        have hq := HONE.out M _ _ _ none (some y) (HIn.out _ _ _ HG.out.i ((Below.refl _ wr).drew.drew)) (by have := HG.out.few; simp only [List.length_cons, Nat.mul_add] at this; omega) (pt_none _ _) HPT.out (by simp) (by rintro x ⟨⟩; exact HG.out.inb _ (by simp)) (by simp)
        have HQ := hid hq
        clear hq
        go_wp2_with (go_at_call 114
                     with_reducible refine HQ.out.mono ?_
                     rintro e w2 ⟨rfl, hi2⟩
                     have HI2 := hid hi2
                     clear hi2)
        go_roundg (0 + nb')
        case measure => omega
        case rel => exact ⟨[], ys, _, _, _, _, _, _, _, rfl, HNB.out.symm, rfl, rfl, rfl, hid (HG.out.right (by simp) (HM.out _ _ (by simp) (by rintro x ⟨⟩; exact HG.out.inb _ (by simp))) HRZ.out HI2.out)⟩
    | cons x xs =>
      obtain ⟨na', hna'⟩ : ∃ k, k = xs.length := ⟨_, rfl⟩
      obtain rfl : na' + 1 = na := by rw [hna']; exact hna
      try clear hna
      have HNA := hid hna'
      clear hna'
      obtain ⟨xb, xo, xc', xcs, hxv, xl, xK, xk⟩ := HG.out.ra.head (by decide)
      simp only [Value.slice.injEq] at hxv
      obtain ⟨rfl, -, -⟩ := hxv
      obtain ⟨A1, c1, hts, hrz⟩ := HG.out.ra.tail Try.underlying99 HJ.out HJS.out
      rw [← HNA.out] at hts hrz
      have HRZ := hid hrz
      have hpt : Pt PRelistNone.k108 u (.pointer (some ⟨xb, xo, none⟩)) (some x) := ⟨xb, xo, xcs, rfl, xl, xK, xk⟩
      have HPT := hid hpt
      clear hrz hpt
      have hp0 : 0 < na' + 1 := by omega
      cases ys with
      | nil =>
        obtain rfl : 0 = nb := hnb
        try clear hnb
        clear xl xK xk
        go_wp2
        refine start_ (n := 22) (S := fun _ : World => True) (ds := []) #[false, false, false, false, false, false, false, false, false, false, false, false, false, false, false, false, false, false, false, false, false, false] (by kernel_rfl) rfl rfl trivial (fun hHeld => ?_); refine with_tabW mergeB3.tab mergeB3.bits (fun HT_ HW_ => ?_)
        refine pure_ (i := 0) (N := some 27) (v := ?_) (a' := ?_) #[true, false, false, false, false, false, false, false, false, false, false, false, false, false, false, false, false, false, false, false, false, false] rfl rfl (any_of HT_.out (by kernel_rfl)) (fun _ _ _ h => h) (Or.inl ⟨by rfl, ?_⟩) ?_ ?_
        rotate_left
        · intro w'
          go_simp
          with_reducible rfl
        rotate_left
        · simp only [Act.put, List.setIfInBounds_toArray, List.set_cons_zero, List.set_cons_succ, i64_w, i32_w]
          rfl
        refine pure_ (i := 1) (N := some 28) (v := ?_) (a' := ?_) #[true, true, false, false, false, false, false, false, false, false, false, false, false, false, false, false, false, false, false, false, false, false] rfl rfl (any_of HT_.out (by kernel_rfl)) (fun _ _ _ h => h) (Or.inl ⟨by rfl, ?_⟩) ?_ ?_
        rotate_left
        · intro w'
          go_simp
          with_reducible rfl
        rotate_left
        · simp only [Act.put, List.setIfInBounds_toArray, List.set_cons_zero, List.set_cons_succ, i64_w, i32_w]
          rfl
        refine pure_ (i := 2) (N := some 29) (v := ?_) (a' := ?_) #[true, true, true, false, false, false, false, false, false, false, false, false, false, false, false, false, false, false, false, false, false, false] rfl rfl (any_of HT_.out (by kernel_rfl)) (fun _ _ _ h => h) (Or.inl ⟨by rfl, ?_⟩) ?_ ?_
        rotate_left
        · intro w'
          go_simp
          with_reducible rfl
        rotate_left
        · simp only [Act.put, List.setIfInBounds_toArray, List.set_cons_zero, List.set_cons_succ, i64_w, i32_w]
          rfl
        refine pure_ (i := 3) (N := some 30) (v := ?_) (a' := ?_) #[true, true, true, true, false, false, false, false, false, false, false, false, false, false, false, false, false, false, false, false, false, false] rfl rfl (any_of HT_.out (by kernel_rfl)) (fun _ _ _ h => h) (Or.inl ⟨by rfl, ?_⟩) ?_ ?_
        rotate_left
        · intro w'
          go_simp
          with_reducible rfl
        rotate_left
        · simp only [Act.put, List.setIfInBounds_toArray, List.set_cons_zero, List.set_cons_succ, i64_w, i32_w]
          rfl
        refine pure_ (i := 4) (N := some 31) (v := undef) (a' := ?_) #[true, true, true, true, true, false, false, false, false, false, false, false, false, false, false, false, false, false, false, false, false, false] rfl rfl (any_of HT_.out (by kernel_rfl)) (fun _ _ _ h => h) (Or.inr ⟨by rfl, rfl⟩) ?_ ?_
        rotate_left
        · simp only [Act.put, List.setIfInBounds_toArray, List.set_cons_zero, List.set_cons_succ, i64_w, i32_w]
          rfl
        refine pure_ (i := 5) (N := some 32) (v := undef) (a' := ?_) #[true, true, true, true, true, true, false, false, false, false, false, false, false, false, false, false, false, false, false, false, false, false] rfl rfl (any_of HT_.out (by kernel_rfl)) (fun _ _ _ h => h) (Or.inr ⟨by rfl, rfl⟩) ?_ ?_
        rotate_left
        · simp only [Act.put, List.setIfInBounds_toArray, List.set_cons_zero, List.set_cons_succ, i64_w, i32_w]
          rfl
        refine pure_ (i := 6) (N := some 33) (v := undef) (a' := ?_) #[true, true, true, true, true, true, true, false, false, false, false, false, false, false, false, false, false, false, false, false, false, false] rfl rfl (any_of HT_.out (by kernel_rfl)) (fun _ _ _ h => h) (Or.inr ⟨by rfl, rfl⟩) ?_ ?_
        rotate_left
        · simp only [Act.put, List.setIfInBounds_toArray, List.set_cons_zero, List.set_cons_succ, i64_w, i32_w]
          rfl
        refine pure_ (i := 7) (N := some 34) (v := undef) (a' := ?_) #[true, true, true, true, true, true, true, true, false, false, false, false, false, false, false, false, false, false, false, false, false, false] rfl rfl (any_of HT_.out (by kernel_rfl)) (fun _ _ _ h => h) (Or.inr ⟨by rfl, rfl⟩) ?_ ?_
        rotate_left
        · simp only [Act.put, List.setIfInBounds_toArray, List.set_cons_zero, List.set_cons_succ, i64_w, i32_w]
          rfl
        refine pure_ (i := 8) (N := some 35) (v := undef) (a' := ?_) #[true, true, true, true, true, true, true, true, true, false, false, false, false, false, false, false, false, false, false, false, false, false] rfl rfl (any_of HT_.out (by kernel_rfl)) (fun _ _ _ h => h) (Or.inr ⟨by rfl, rfl⟩) ?_ ?_
        rotate_left
        · simp only [Act.put, List.setIfInBounds_toArray, List.set_cons_zero, List.set_cons_succ, i64_w, i32_w]
          rfl
        refine pure_ (i := 9) (N := some 36) (v := undef) (a' := ?_) #[true, true, true, true, true, true, true, true, true, true, false, false, false, false, false, false, false, false, false, false, false, false] rfl rfl (any_of HT_.out (by kernel_rfl)) (fun _ _ _ h => h) (Or.inr ⟨by rfl, rfl⟩) ?_ ?_
        rotate_left
        · simp only [Act.put, List.setIfInBounds_toArray, List.set_cons_zero, List.set_cons_succ, i64_w, i32_w]
          rfl
        refine pure_ (i := 10) (N := some 37) (v := undef) (a' := ?_) #[true, true, true, true, true, true, true, true, true, true, true, false, false, false, false, false, false, false, false, false, false, false] rfl rfl (any_of HT_.out (by kernel_rfl)) (fun _ _ _ h => h) (Or.inr ⟨by rfl, rfl⟩) ?_ ?_
        rotate_left
        · simp only [Act.put, List.setIfInBounds_toArray, List.set_cons_zero, List.set_cons_succ, i64_w, i32_w]
          rfl
        refine pure_ (i := 11) (N := some 38) (v := undef) (a' := ?_) #[true, true, true, true, true, true, true, true, true, true, true, true, false, false, false, false, false, false, false, false, false, false] rfl rfl (any_of HT_.out (by kernel_rfl)) (fun _ _ _ h => h) (Or.inr ⟨by rfl, rfl⟩) ?_ ?_
        rotate_left
        · simp only [Act.put, List.setIfInBounds_toArray, List.set_cons_zero, List.set_cons_succ, i64_w, i32_w]
          rfl
        refine pure_ (i := 12) (N := some 39) (v := undef) (a' := ?_) #[true, true, true, true, true, true, true, true, true, true, true, true, true, false, false, false, false, false, false, false, false, false] rfl rfl (any_of HT_.out (by kernel_rfl)) (fun _ _ _ h => h) (Or.inr ⟨by rfl, rfl⟩) ?_ ?_
        rotate_left
        · simp only [Act.put, List.setIfInBounds_toArray, List.set_cons_zero, List.set_cons_succ, i64_w, i32_w]
          rfl
        refine pure_ (i := 13) (N := some 40) (v := undef) (a' := ?_) #[true, true, true, true, true, true, true, true, true, true, true, true, true, true, false, false, false, false, false, false, false, false] rfl rfl (any_of HT_.out (by kernel_rfl)) (fun _ _ _ h => h) (Or.inr ⟨by rfl, rfl⟩) ?_ ?_
        rotate_left
        · simp only [Act.put, List.setIfInBounds_toArray, List.set_cons_zero, List.set_cons_succ, i64_w, i32_w]
          rfl
        refine pure_ (i := 14) (N := some 41) (v := undef) (a' := ?_) #[true, true, true, true, true, true, true, true, true, true, true, true, true, true, true, false, false, false, false, false, false, false] rfl rfl (any_of HT_.out (by kernel_rfl)) (fun _ _ _ h => h) (Or.inr ⟨by rfl, rfl⟩) ?_ ?_
        rotate_left
        · simp only [Act.put, List.setIfInBounds_toArray, List.set_cons_zero, List.set_cons_succ, i64_w, i32_w]
          rfl
        refine pure_ (i := 15) (N := some 42) (v := undef) (a' := ?_) #[true, true, true, true, true, true, true, true, true, true, true, true, true, true, true, true, false, false, false, false, false, false] rfl rfl (any_of HT_.out (by kernel_rfl)) (fun _ _ _ h => h) (Or.inr ⟨by rfl, rfl⟩) ?_ ?_
        rotate_left
        · simp only [Act.put, List.setIfInBounds_toArray, List.set_cons_zero, List.set_cons_succ, i64_w, i32_w]
          rfl
        refine pure_ (i := 16) (N := some 43) (v := undef) (a' := ?_) #[true, true, true, true, true, true, true, true, true, true, true, true, true, true, true, true, true, false, false, false, false, false] rfl rfl (any_of HT_.out (by kernel_rfl)) (fun _ _ _ h => h) (Or.inr ⟨by rfl, rfl⟩) ?_ ?_
        rotate_left
        · simp only [Act.put, List.setIfInBounds_toArray, List.set_cons_zero, List.set_cons_succ, i64_w, i32_w]
          rfl
        refine pure_ (i := 17) (N := some 44) (v := undef) (a' := ?_) #[true, true, true, true, true, true, true, true, true, true, true, true, true, true, true, true, true, true, false, false, false, false] rfl rfl (any_of HT_.out (by kernel_rfl)) (fun _ _ _ h => h) (Or.inr ⟨by rfl, rfl⟩) ?_ ?_
        rotate_left
        · simp only [Act.put, List.setIfInBounds_toArray, List.set_cons_zero, List.set_cons_succ, i64_w, i32_w]
          rfl
        refine pure_ (i := 18) (N := some 45) (v := undef) (a' := ?_) #[true, true, true, true, true, true, true, true, true, true, true, true, true, true, true, true, true, true, true, false, false, false] rfl rfl (any_of HT_.out (by kernel_rfl)) (fun _ _ _ h => h) (Or.inr ⟨by rfl, rfl⟩) ?_ ?_
        rotate_left
        · simp only [Act.put, List.setIfInBounds_toArray, List.set_cons_zero, List.set_cons_succ, i64_w, i32_w]
          rfl
        refine pure_ (i := 19) (N := some 46) (v := undef) (a' := ?_) #[true, true, true, true, true, true, true, true, true, true, true, true, true, true, true, true, true, true, true, true, false, false] rfl rfl (any_of HT_.out (by kernel_rfl)) (fun _ _ _ h => h) (Or.inr ⟨by rfl, rfl⟩) ?_ ?_
        rotate_left
        · simp only [Act.put, List.setIfInBounds_toArray, List.set_cons_zero, List.set_cons_succ, i64_w, i32_w]
          rfl
        refine pure_ (i := 20) (N := some 47) (v := ?_) (a' := ?_) #[true, true, true, true, true, true, true, true, true, true, true, true, true, true, true, true, true, true, true, true, true, false] rfl rfl (any_of HT_.out (by kernel_rfl)) (fun _ _ _ h => h) (Or.inl ⟨by rfl, ?_⟩) ?_ ?_
        rotate_left
        · intro w'
          go_simp
          with_reducible rfl
        rotate_left
        · simp only [Act.put, List.setIfInBounds_toArray, List.set_cons_zero, List.set_cons_succ, i64_w, i32_w]
          rfl
        refine pure_ (i := 21) (N := some 26) (v := ?_) (a' := ?_) #[true, true, true, true, true, true, true, true, true, true, true, true, true, true, true, true, true, true, true, true, true, true] rfl rfl (any_of HT_.out (by kernel_rfl)) (fun _ _ _ h => h) (Or.inl ⟨by rfl, ?_⟩) ?_ ?_
        rotate_left
        · intro w'
          go_simp
          with_reducible rfl
        rotate_left
        · simp only [Act.put, List.setIfInBounds_toArray, List.set_cons_zero, List.set_cons_succ, i64_w, i32_w]
          rfl
        refine done_ (done_of HT_.out (by kernel_rfl)) ?_
        have hq := HONE.out M _ _ _ (some x) none (HIn.out _ _ _ HG.out.i ((Below.refl _ wr).drew)) (by have := HG.out.few; simp only [List.length_cons, Nat.mul_add] at this; omega) HPT.out (pt_none _ _) (by rintro x ⟨⟩; exact HG.out.ina _ (by simp)) (by simp) (by simp)
        have HQ := hid hq
        clear hq
        go_wp2_with (go_at_call 114
                     with_reducible refine HQ.out.mono ?_
                     rintro e w2 ⟨rfl, hi2⟩
                     have HI2 := hid hi2
                     clear hi2)
        go_roundg (na' + 0)
        case measure => omega
        case rel => exact ⟨xs, [], _, _, _, _, _, _, _, HNA.out.symm, rfl, rfl, rfl, rfl, hid (HG.out.left (by simp) (HM.out _ _ (by rintro x ⟨⟩; exact HG.out.ina _ (by simp)) (by simp)) HRZ.out HI2.out)⟩
      | cons y ys =>
        obtain ⟨nb', hnb'⟩ : ∃ k, k = ys.length := ⟨_, rfl⟩
        obtain rfl : nb' + 1 = nb := by rw [hnb']; exact hnb
        try clear hnb
        have HNB := hid hnb'
        clear hnb'
        obtain ⟨yb, yo, yc', ycs, hyv, yl, yK, yk⟩ := HG.out.rb.head (by decide)
        simp only [Value.slice.injEq] at hyv
        obtain ⟨rfl, -, -⟩ := hyv
        obtain ⟨A2, c2, htt, hrz⟩ := HG.out.rb.tail Try.underlying99 HJ.out HJS.out
        rw [← HNB.out] at htt hrz
        have HRY := hid hrz
        have hpt : Pt PRelistNone.k108 u (.pointer (some ⟨yb, yo, none⟩)) (some y) := ⟨yb, yo, ycs, rfl, yl, yK, yk⟩
        have HPY := hid hpt
        clear hrz hpt
        obtain ⟨xA, xc, rfl, -, -⟩ := PRelistNone.k108_open xK
        obtain ⟨yA, yc, rfl, -, -⟩ := PRelistNone.k108_open yK
        have hp1 : 0 < nb' + 1 := by omega
        have hz1 : ((nb' : Int) + 1 == 0) = false := by simp; omega
        have hz0 : ((na' : Int) + 1 == 0) = false := by simp; omega
        have HSV := hid (show ∀ V, Below u.heap.size u V → (fun V : World => V.cell? ⟨xb, xo, none⟩ = some (.int .i64 x.f0) ∧ V.cell? ⟨xb, xo + 1, none⟩ = some (.int .i64 x.f1) ∧ V.cell? ⟨xb, xo + 2, none⟩ = some (.int .i64 x.f2) ∧ V.cell? ⟨xb, xo + 3, none⟩ = some (.slice xA x.f3.length xc) ∧ V.cell? ⟨yb, yo, none⟩ = some (.int .i64 y.f0) ∧ V.cell? ⟨yb, yo + 1, none⟩ = some (.int .i64 y.f1) ∧ V.cell? ⟨yb, yo + 2, none⟩ = some (.int .i64 y.f2) ∧ V.cell? ⟨yb, yo + 3, none⟩ = some (.slice yA y.f3.length yc)) V from fun V hV => ⟨(hV.cell (p := ⟨xb, xo, none⟩) xl).trans (xk 0 _ rfl), (hV.cell (p := ⟨xb, xo + 1, none⟩) xl).trans (xk 1 _ rfl), (hV.cell (p := ⟨xb, xo + 2, none⟩) xl).trans (xk 2 _ rfl), (hV.cell (p := ⟨xb, xo + 3, none⟩) xl).trans (xk 3 _ rfl), (hV.cell (p := ⟨yb, yo, none⟩) yl).trans (yk 0 _ rfl), (hV.cell (p := ⟨yb, yo + 1, none⟩) yl).trans (yk 1 _ rfl), (hV.cell (p := ⟨yb, yo + 2, none⟩) yl).trans (yk 2 _ rfl), (hV.cell (p := ⟨yb, yo + 3, none⟩) yl).trans (yk 3 _ rfl)⟩)
        clear xl xK xk yl yK yk
        obtain ⟨Wd, hWd⟩ : ∃ Wd, Wd = wr.drew := ⟨_, rfl⟩
        have HWD := hid hWd
        have kW : Below wr.heap.size wr Wd := by rw [hWd]; exact (Below.refl _ wr).drew
        have hb0 : Below Wd.heap.size Wd Wd := Below.refl _ _
        have hlw := HLOW.out _ _ HG.out.i
        have hlW : Below u.heap.size u Wd := hlw.trans (kW.mono hlw.size)
        have HSS := hid (show ∀ V, Below Wd.heap.size Wd V → (fun V : World => V.cell? ⟨xb, xo, none⟩ = some (.int .i64 x.f0) ∧ V.cell? ⟨xb, xo + 1, none⟩ = some (.int .i64 x.f1) ∧ V.cell? ⟨xb, xo + 2, none⟩ = some (.int .i64 x.f2) ∧ V.cell? ⟨xb, xo + 3, none⟩ = some (.slice xA x.f3.length xc) ∧ V.cell? ⟨yb, yo, none⟩ = some (.int .i64 y.f0) ∧ V.cell? ⟨yb, yo + 1, none⟩ = some (.int .i64 y.f1) ∧ V.cell? ⟨yb, yo + 2, none⟩ = some (.int .i64 y.f2) ∧ V.cell? ⟨yb, yo + 3, none⟩ = some (.slice yA y.f3.length yc)) V from fun V hV => HSV.out V (hlW.trans (hV.mono hlW.size)))
        have HHL := hid hlW
        have HKW := hid kW
        clear hWd hlw kW hlW
        go_wp2
        refine start_ (n := 22) (S := fun V : World => V.cell? ⟨xb, xo, none⟩ = some (.int .i64 x.f0) ∧ V.cell? ⟨xb, xo + 1, none⟩ = some (.int .i64 x.f1) ∧ V.cell? ⟨xb, xo + 2, none⟩ = some (.int .i64 x.f2) ∧ V.cell? ⟨xb, xo + 3, none⟩ = some (.slice xA x.f3.length xc) ∧ V.cell? ⟨yb, yo, none⟩ = some (.int .i64 y.f0) ∧ V.cell? ⟨yb, yo + 1, none⟩ = some (.int .i64 y.f1) ∧ V.cell? ⟨yb, yo + 2, none⟩ = some (.int .i64 y.f2) ∧ V.cell? ⟨yb, yo + 3, none⟩ = some (.slice yA y.f3.length yc)) (ds := []) #[false, false, false, false, false, false, false, false, false, false, false, false, false, false, false, false, false, false, false, false, false, false] (by kernel_rfl) rfl rfl (by have h := HSS.out _ hb0; rw [HWD.out] at h; exact h) (fun hHeld => ?_); refine with_tabW mergeB3.tab mergeB3.bits (fun HT_ HW_ => ?_)
        rw [← HWD.out] at hHeld ⊢
        refine pure_ (i := 0) (N := some 27) (v := ?_) (a' := ?_) #[true, false, false, false, false, false, false, false, false, false, false, false, false, false, false, false, false, false, false, false, false, false] rfl rfl (any_of HT_.out (by kernel_rfl)) (fun _ _ _ h => h) (Or.inl ⟨by rfl, ?_⟩) ?_ ?_
        rotate_left
        · intro w'
          go_simp
          with_reducible rfl
        rotate_left
        · simp only [Act.put, List.setIfInBounds_toArray, List.set_cons_zero, List.set_cons_succ, i64_w, i32_w]
          rfl
        refine pure_ (i := 1) (N := some 28) (v := ?_) (a' := ?_) #[true, true, false, false, false, false, false, false, false, false, false, false, false, false, false, false, false, false, false, false, false, false] rfl rfl (any_of HT_.out (by kernel_rfl)) (fun _ _ _ h => h) (Or.inl ⟨by rfl, ?_⟩) ?_ ?_
        rotate_left
        · intro w'
          go_simp
          with_reducible rfl
        rotate_left
        · simp only [Act.put, List.setIfInBounds_toArray, List.set_cons_zero, List.set_cons_succ, i64_w, i32_w]
          rfl
        refine pure_ (i := 2) (N := some 29) (v := ?_) (a' := ?_) #[true, true, true, false, false, false, false, false, false, false, false, false, false, false, false, false, false, false, false, false, false, false] rfl rfl (any_of HT_.out (by kernel_rfl)) (fun _ _ _ h => h) (Or.inl ⟨by rfl, ?_⟩) ?_ ?_
        rotate_left
        · intro w'
          go_simp
          with_reducible rfl
        rotate_left
        · simp only [Act.put, List.setIfInBounds_toArray, List.set_cons_zero, List.set_cons_succ, i64_w, i32_w]
          rfl
        refine pure_ (i := 3) (N := some 30) (v := ?_) (a' := ?_) #[true, true, true, true, false, false, false, false, false, false, false, false, false, false, false, false, false, false, false, false, false, false] rfl rfl (any_of HT_.out (by kernel_rfl)) (fun _ _ _ h => h) (Or.inl ⟨by rfl, ?_⟩) ?_ ?_
        rotate_left
        · intro w'
          go_simp
          with_reducible rfl
        rotate_left
        · simp only [Act.put, List.setIfInBounds_toArray, List.set_cons_zero, List.set_cons_succ, i64_w, i32_w]
          rfl
        refine pure_ (i := 4) (N := some 31) (v := ?_) (a' := ?_) #[true, true, true, true, true, false, false, false, false, false, false, false, false, false, false, false, false, false, false, false, false, false] rfl rfl (any_of HT_.out (by kernel_rfl)) (fun _ _ _ h => h) (Or.inl ⟨by rfl, ?_⟩) ?_ ?_
        rotate_left
        · intro w'
          go_simp
          with_reducible rfl
        rotate_left
        · simp only [Act.put, List.setIfInBounds_toArray, List.set_cons_zero, List.set_cons_succ, i64_w, i32_w]
          rfl
        refine pure_ (i := 5) (N := some 32) (v := ?_) (a' := ?_) #[true, true, true, true, true, true, false, false, false, false, false, false, false, false, false, false, false, false, false, false, false, false] rfl rfl (any_of HT_.out (by kernel_rfl)) (fun _ _ _ h => h) (Or.inl ⟨by rfl, ?_⟩) ?_ ?_
        rotate_left
        · intro w'
          go_simp
          with_reducible rfl
        rotate_left
        · simp only [Act.put, List.setIfInBounds_toArray, List.set_cons_zero, List.set_cons_succ, i64_w, i32_w]
          rfl
        refine pure_ (i := 6) (N := some 33) (v := ?_) (a' := ?_) #[true, true, true, true, true, true, true, false, false, false, false, false, false, false, false, false, false, false, false, false, false, false] rfl rfl (any_of HT_.out (by kernel_rfl)) (fun _ _ _ h => h) (Or.inl ⟨by rfl, ?_⟩) ?_ ?_
        rotate_left
        · intro w'
          go_simp
          with_reducible rfl
        rotate_left
        · simp only [Act.put, List.setIfInBounds_toArray, List.set_cons_zero, List.set_cons_succ, i64_w, i32_w]
          rfl
        refine pure_ (i := 7) (N := some 34) (v := ?_) (a' := ?_) #[true, true, true, true, true, true, true, true, false, false, false, false, false, false, false, false, false, false, false, false, false, false] rfl rfl (any_of HT_.out (by kernel_rfl)) (fun _ _ _ h => h) (Or.inl ⟨by rfl, ?_⟩) ?_ ?_
        rotate_left
        · intro w'
          go_simp
          with_reducible rfl
        rotate_left
        · simp only [Act.put, List.setIfInBounds_toArray, List.set_cons_zero, List.set_cons_succ, i64_w, i32_w]
          rfl
        refine pure_ (i := 8) (N := some 35) (v := ?_) (a' := ?_) #[true, true, true, true, true, true, true, true, true, false, false, false, false, false, false, false, false, false, false, false, false, false] rfl rfl (any_of HT_.out (by kernel_rfl)) (fun _ _ _ h => h) (Or.inl ⟨by rfl, ?_⟩) ?_ ?_
        rotate_left
        · intro w'
          go_simp
          with_reducible rfl
        rotate_left
        · simp only [Act.put, List.setIfInBounds_toArray, List.set_cons_zero, List.set_cons_succ, i64_w, i32_w]
          rfl
        refine pure_ (i := 9) (N := some 36) (v := ?_) (a' := ?_) #[true, true, true, true, true, true, true, true, true, true, false, false, false, false, false, false, false, false, false, false, false, false] rfl rfl (any_of HT_.out (by kernel_rfl)) (fun _ _ _ h => h) (Or.inl ⟨by rfl, ?_⟩) ?_ ?_
        rotate_left
        · intro w'
          go_simp
          with_reducible rfl
        rotate_left
        · simp only [Act.put, List.setIfInBounds_toArray, List.set_cons_zero, List.set_cons_succ, i64_w, i32_w]
          rfl
        refine pure_ (i := 10) (N := some 37) (v := ?_) (a' := ?_) #[true, true, true, true, true, true, true, true, true, true, true, false, false, false, false, false, false, false, false, false, false, false] rfl rfl (any_of HT_.out (by kernel_rfl)) (fun _ _ _ h => h) (Or.inl ⟨by rfl, ?_⟩) ?_ ?_
        rotate_left
        · intro w'
          go_simp
          with_reducible rfl
        rotate_left
        · simp only [Act.put, List.setIfInBounds_toArray, List.set_cons_zero, List.set_cons_succ, i64_w, i32_w]
          rfl
        refine pure_ (i := 13) (N := some 40) (v := ?_) (a' := ?_) #[true, true, true, true, true, true, true, true, true, true, true, false, false, true, false, false, false, false, false, false, false, false] rfl rfl (any_of HT_.out (by kernel_rfl)) (fun _ _ _ h => h) (Or.inl ⟨by rfl, ?_⟩) ?_ ?_
        rotate_left
        · intro w'
          go_simp
          with_reducible rfl
        rotate_left
        · simp only [Act.put, List.setIfInBounds_toArray, List.set_cons_zero, List.set_cons_succ, i64_w, i32_w]
          rfl
        refine pure_ (i := 14) (N := some 41) (v := ?_) (a' := ?_) #[true, true, true, true, true, true, true, true, true, true, true, false, false, true, true, false, false, false, false, false, false, false] rfl rfl (any_of HT_.out (by kernel_rfl)) (fun _ _ _ h => h) (Or.inl ⟨by rfl, ?_⟩) ?_ ?_
        rotate_left
        · intro w'
          go_simp
          with_reducible rfl
        rotate_left
        · simp only [Act.put, List.setIfInBounds_toArray, List.set_cons_zero, List.set_cons_succ, i64_w, i32_w]
          rfl
        refine pure_ (i := 15) (N := some 42) (v := ?_) (a' := ?_) #[true, true, true, true, true, true, true, true, true, true, true, false, false, true, true, true, false, false, false, false, false, false] rfl rfl (any_of HT_.out (by kernel_rfl)) (fun _ _ _ h => h) (Or.inl ⟨by rfl, ?_⟩) ?_ ?_
        rotate_left
        · intro w'
          go_simp
          with_reducible rfl
        rotate_left
        · simp only [Act.put, List.setIfInBounds_toArray, List.set_cons_zero, List.set_cons_succ, i64_w, i32_w]
          rfl
        refine take_ (i := 11) (N := some 38) (v := ?_) (a' := ?_) #[true, true, true, true, true, true, true, true, true, true, true, true, false, true, true, true, false, false, false, false, false, false] rfl rfl (take_ofW HT_.out HW_.out (by kernel_rfl)) (fun _ _ _ h => h) (Or.inl ⟨by rfl, ?_⟩) hHeld ?_ ?_
        rotate_left
        · rintro w' ⟨s0, s1, s2, s3, s4, s5, s6, s7⟩
          go_simp
          with_reducible rfl
        rotate_left
        · simp only [Act.put, List.setIfInBounds_toArray, List.set_cons_zero, List.set_cons_succ, i64_w, i32_w]
          rfl
        refine take_ (i := 16) (N := some 43) (v := ?_) (a' := ?_) #[true, true, true, true, true, true, true, true, true, true, true, true, false, true, true, true, true, false, false, false, false, false] rfl rfl (take_ofW HT_.out HW_.out (by kernel_rfl)) (fun _ _ _ h => h) (Or.inl ⟨by rfl, ?_⟩) hHeld ?_ ?_
        rotate_left
        · rintro w' ⟨s0, s1, s2, s3, s4, s5, s6, s7⟩
          go_simp
          with_reducible rfl
        rotate_left
        · simp only [Act.put, List.setIfInBounds_toArray, List.set_cons_zero, List.set_cons_succ, i64_w, i32_w]
          rfl
        refine one_ (i := 12) (N := some 39) #[true, true, true, true, true, true, true, true, true, true, true, true, true, true, true, true, true, false, false, false, false, false] rfl rfl (one_of HT_.out (by kernel_rfl)) (by decide) (fun K hK => ?_)
        refine goesV_ Try.func113 (by kernel_rfl) rfl #[] #[] #[.agg #[.int .i64 x.f0, .int .i64 x.f1, .int .i64 x.f2, .slice xA x.f3.length xc]] #[.agg #[.int .i64 x.f0, .int .i64 x.f1, .int .i64 x.f2, .slice xA x.f3.length xc]] (by rfl) rfl rfl (by rfl) (by (try simp only [List.map_toArray, List.map_cons, List.map_nil]); first | done | rfl) (by first | rfl | simp) ?_
        with_reducible refine (idB _ _ _ _ _).mono ?_
        rintro e V12 ⟨rfl, hbx⟩
        refine ⟨_, rfl, ?_⟩
        have hb12 : Below Wd.heap.size Wd V12 := hb0.trans (hbx.mono hb0.size)
        clear hbx
        refine hK.out _ _ (HSS.out _ hb12) (fun hHeld => ?_)
        clear hK K
        refine norm_ (a' := ?_) ?_ ?_
        rotate_left
        · show Act.put _ (some 39) _ = _
          simp only [Act.put, List.setIfInBounds_toArray, List.set_cons_zero, List.set_cons_succ, i64_w, i32_w]
          rfl
        refine one_ (i := 17) (N := some 44) #[true, true, true, true, true, true, true, true, true, true, true, true, true, true, true, true, true, true, false, false, false, false] rfl rfl (one_of HT_.out (by kernel_rfl)) (by decide) (fun K hK => ?_)
        refine goesV_ Try.func113 (by kernel_rfl) rfl #[] #[] #[.agg #[.int .i64 y.f0, .int .i64 y.f1, .int .i64 y.f2, .slice yA y.f3.length yc]] #[.agg #[.int .i64 y.f0, .int .i64 y.f1, .int .i64 y.f2, .slice yA y.f3.length yc]] (by rfl) rfl rfl (by rfl) (by (try simp only [List.map_toArray, List.map_cons, List.map_nil]); first | done | rfl) (by first | rfl | simp) ?_
        with_reducible refine (idB _ _ _ _ _).mono ?_
        rintro e V17 ⟨rfl, hbx⟩
        refine ⟨_, rfl, ?_⟩
        have hb17 : Below Wd.heap.size Wd V17 := hb12.trans (hbx.mono hb12.size)
        clear hbx
        refine hK.out _ _ (HSS.out _ hb17) (fun hHeld => ?_)
        clear hK K
        refine norm_ (a' := ?_) ?_ ?_
        rotate_left
        · show Act.put _ (some 44) _ = _
          simp only [Act.put, List.setIfInBounds_toArray, List.set_cons_zero, List.set_cons_succ, i64_w, i32_w]
          rfl
        refine pure_ (i := 18) (N := some 45) (v := ?_) (a' := ?_) #[true, true, true, true, true, true, true, true, true, true, true, true, true, true, true, true, true, true, true, false, false, false] rfl rfl (any_of HT_.out (by kernel_rfl)) (fun _ _ _ h => h) (Or.inl ⟨by rfl, ?_⟩) ?_ ?_
        rotate_left
        · intro w'
          go_simp
          with_reducible rfl
        rotate_left
        · simp only [Act.put, List.setIfInBounds_toArray, List.set_cons_zero, List.set_cons_succ, i64_w, i32_w]
          rfl
        refine pure_ (i := 19) (N := some 46) (v := ?_) (a' := ?_) #[true, true, true, true, true, true, true, true, true, true, true, true, true, true, true, true, true, true, true, true, false, false] rfl rfl (any_of HT_.out (by kernel_rfl)) (fun _ _ _ h => h) (Or.inl ⟨by rfl, ?_⟩) ?_ ?_
        rotate_left
        · intro w'
          go_simp
          with_reducible rfl
        rotate_left
        · simp only [Act.put, List.setIfInBounds_toArray, List.set_cons_zero, List.set_cons_succ, i64_w, i32_w]
          rfl
        refine pure_ (i := 20) (N := some 47) (v := ?_) (a' := ?_) #[true, true, true, true, true, true, true, true, true, true, true, true, true, true, true, true, true, true, true, true, true, false] rfl rfl (any_of HT_.out (by kernel_rfl)) (fun _ _ _ h => h) (Or.inl ⟨by rfl, ?_⟩) ?_ ?_
        rotate_left
        · intro w'
          go_simp
          with_reducible rfl
        rotate_left
        · simp only [Act.put, List.setIfInBounds_toArray, List.set_cons_zero, List.set_cons_succ, i64_w, i32_w]
          rfl
        refine pure_ (i := 21) (N := some 26) (v := ?_) (a' := ?_) #[true, true, true, true, true, true, true, true, true, true, true, true, true, true, true, true, true, true, true, true, true, true] rfl rfl (any_of HT_.out (by kernel_rfl)) (fun _ _ _ h => h) (Or.inl ⟨by rfl, ?_⟩) ?_ ?_
        rotate_left
        · intro w'
          go_simp
          with_reducible rfl
        rotate_left
        · simp only [Act.put, List.setIfInBounds_toArray, List.set_cons_zero, List.set_cons_succ, i64_w, i32_w]
          rfl
        refine done_ (done_of HT_.out (by kernel_rfl)) ?_

        have HB17 := hid hb17
        have HB0 := hid hb0
        clear hb17 hb12 hb0
        by_cases hlt : x.f0 < y.f0
        · have hq := HONE.out M _ _ _ (some x) none (HIn.out _ _ _ (HIn.out _ _ _ HG.out.i HKW.out) HB17.out) (by have := HG.out.few; simp only [List.length_cons, Nat.mul_add] at this; omega) HPT.out (pt_none _ _) (by rintro x ⟨⟩; exact HG.out.ina _ (by simp)) (by simp) (by simp)
          have HQ := hid hq
          clear hq
          go_wp2_with (go_at_call 114
                       with_reducible refine HQ.out.mono ?_
                       rintro e w2 ⟨rfl, hi2⟩
                       have HI2 := hid hi2
                       clear hi2)
          go_roundg (na' + (nb' + 1))
          case measure => omega
          case rel => exact ⟨xs, y :: ys, _, _, _, _, _, _, _, HNA.out.symm, by rw [HNB.out]; rfl, rfl, rfl, rfl, hid (HG.out.left (by rintro z ⟨⟩; exact hlt) (HM.out _ _ (by rintro x ⟨⟩; exact HG.out.ina _ (by simp)) (by simp)) HRZ.out HI2.out)⟩
        · have hdec : decide (x.f0 < y.f0) = false := by simpa using hlt
          obtain ⟨We, hWe⟩ : ∃ We, We = V17.drew := ⟨_, rfl⟩
          have HWE := hid hWe
          have kE : Below V17.heap.size V17 We := by rw [hWe]; exact (Below.refl _ V17).drew
          have hlE : Below Wd.heap.size Wd We := HB17.out.trans (kE.mono HB17.out.size)
          have hc0 : Below We.heap.size We We := Below.refl _ _
          have HSS2 := hid (show ∀ V, Below We.heap.size We V → (fun V : World => V.cell? ⟨xb, xo, none⟩ = some (.int .i64 x.f0) ∧ V.cell? ⟨xb, xo + 1, none⟩ = some (.int .i64 x.f1) ∧ V.cell? ⟨xb, xo + 2, none⟩ = some (.int .i64 x.f2) ∧ V.cell? ⟨xb, xo + 3, none⟩ = some (.slice xA x.f3.length xc) ∧ V.cell? ⟨yb, yo, none⟩ = some (.int .i64 y.f0) ∧ V.cell? ⟨yb, yo + 1, none⟩ = some (.int .i64 y.f1) ∧ V.cell? ⟨yb, yo + 2, none⟩ = some (.int .i64 y.f2) ∧ V.cell? ⟨yb, yo + 3, none⟩ = some (.slice yA y.f3.length yc)) V from fun V hV => HSS.out V (hlE.trans (hV.mono hlE.size)))
          have HLE := hid hlE
          clear hWe kE hlE
          go_wp2
          refine start_ (n := 17) (S := fun V : World => V.cell? ⟨xb, xo, none⟩ = some (.int .i64 x.f0) ∧ V.cell? ⟨xb, xo + 1, none⟩ = some (.int .i64 x.f1) ∧ V.cell? ⟨xb, xo + 2, none⟩ = some (.int .i64 x.f2) ∧ V.cell? ⟨xb, xo + 3, none⟩ = some (.slice xA x.f3.length xc) ∧ V.cell? ⟨yb, yo, none⟩ = some (.int .i64 y.f0) ∧ V.cell? ⟨yb, yo + 1, none⟩ = some (.int .i64 y.f1) ∧ V.cell? ⟨yb, yo + 2, none⟩ = some (.int .i64 y.f2) ∧ V.cell? ⟨yb, yo + 3, none⟩ = some (.slice yA y.f3.length yc)) (ds := []) #[false, false, false, false, false, false, false, false, false, false, false, false, false, false, false, false, false] (by kernel_rfl) rfl rfl (by have h := HSS2.out _ hc0; rw [HWE.out] at h; exact h) (fun hHeld => ?_); refine with_tabW mergeB6.tab mergeB6.bits (fun HT_ HW_ => ?_)
          rw [← HWE.out] at hHeld ⊢
          refine pure_ (i := 0) (N := some 55) (v := ?_) (a' := ?_) #[true, false, false, false, false, false, false, false, false, false, false, false, false, false, false, false, false] rfl rfl (any_of HT_.out (by kernel_rfl)) (fun _ _ _ h => h) (Or.inl ⟨by rfl, ?_⟩) ?_ ?_
          rotate_left
          · intro w'
            go_simp
            with_reducible rfl
          rotate_left
          · simp only [Act.put, List.setIfInBounds_toArray, List.set_cons_zero, List.set_cons_succ, i64_w, i32_w]
            rfl
          refine pure_ (i := 1) (N := some 56) (v := ?_) (a' := ?_) #[true, true, false, false, false, false, false, false, false, false, false, false, false, false, false, false, false] rfl rfl (any_of HT_.out (by kernel_rfl)) (fun _ _ _ h => h) (Or.inl ⟨by rfl, ?_⟩) ?_ ?_
          rotate_left
          · intro w'
            go_simp
            with_reducible rfl
          rotate_left
          · simp only [Act.put, List.setIfInBounds_toArray, List.set_cons_zero, List.set_cons_succ, i64_w, i32_w]
            rfl
          refine pure_ (i := 2) (N := some 57) (v := ?_) (a' := ?_) #[true, true, true, false, false, false, false, false, false, false, false, false, false, false, false, false, false] rfl rfl (any_of HT_.out (by kernel_rfl)) (fun _ _ _ h => h) (Or.inl ⟨by rfl, ?_⟩) ?_ ?_
          rotate_left
          · intro w'
            go_simp
            with_reducible rfl
          rotate_left
          · simp only [Act.put, List.setIfInBounds_toArray, List.set_cons_zero, List.set_cons_succ, i64_w, i32_w]
            rfl
          refine pure_ (i := 3) (N := some 58) (v := ?_) (a' := ?_) #[true, true, true, true, false, false, false, false, false, false, false, false, false, false, false, false, false] rfl rfl (any_of HT_.out (by kernel_rfl)) (fun _ _ _ h => h) (Or.inl ⟨by rfl, ?_⟩) ?_ ?_
          rotate_left
          · intro w'
            go_simp
            with_reducible rfl
          rotate_left
          · simp only [Act.put, List.setIfInBounds_toArray, List.set_cons_zero, List.set_cons_succ, i64_w, i32_w]
            rfl
          refine pure_ (i := 4) (N := some 59) (v := ?_) (a' := ?_) #[true, true, true, true, true, false, false, false, false, false, false, false, false, false, false, false, false] rfl rfl (any_of HT_.out (by kernel_rfl)) (fun _ _ _ h => h) (Or.inl ⟨by rfl, ?_⟩) ?_ ?_
          rotate_left
          · intro w'
            go_simp
            with_reducible rfl
          rotate_left
          · simp only [Act.put, List.setIfInBounds_toArray, List.set_cons_zero, List.set_cons_succ, i64_w, i32_w]
            rfl
          refine pure_ (i := 5) (N := some 60) (v := ?_) (a' := ?_) #[true, true, true, true, true, true, false, false, false, false, false, false, false, false, false, false, false] rfl rfl (any_of HT_.out (by kernel_rfl)) (fun _ _ _ h => h) (Or.inl ⟨by rfl, ?_⟩) ?_ ?_
          rotate_left
          · intro w'
            go_simp
            with_reducible rfl
          rotate_left
          · simp only [Act.put, List.setIfInBounds_toArray, List.set_cons_zero, List.set_cons_succ, i64_w, i32_w]
            rfl
          refine pure_ (i := 6) (N := some 61) (v := ?_) (a' := ?_) #[true, true, true, true, true, true, true, false, false, false, false, false, false, false, false, false, false] rfl rfl (any_of HT_.out (by kernel_rfl)) (fun _ _ _ h => h) (Or.inl ⟨by rfl, ?_⟩) ?_ ?_
          rotate_left
          · intro w'
            go_simp
            with_reducible rfl
          rotate_left
          · simp only [Act.put, List.setIfInBounds_toArray, List.set_cons_zero, List.set_cons_succ, i64_w, i32_w]
            rfl
          refine pure_ (i := 9) (N := some 64) (v := ?_) (a' := ?_) #[true, true, true, true, true, true, true, false, false, true, false, false, false, false, false, false, false] rfl rfl (any_of HT_.out (by kernel_rfl)) (fun _ _ _ h => h) (Or.inl ⟨by rfl, ?_⟩) ?_ ?_
          rotate_left
          · intro w'
            go_simp
            with_reducible rfl
          rotate_left
          · simp only [Act.put, List.setIfInBounds_toArray, List.set_cons_zero, List.set_cons_succ, i64_w, i32_w]
            rfl
          refine pure_ (i := 10) (N := some 65) (v := ?_) (a' := ?_) #[true, true, true, true, true, true, true, false, false, true, true, false, false, false, false, false, false] rfl rfl (any_of HT_.out (by kernel_rfl)) (fun _ _ _ h => h) (Or.inl ⟨by rfl, ?_⟩) ?_ ?_
          rotate_left
          · intro w'
            go_simp
            with_reducible rfl
          rotate_left
          · simp only [Act.put, List.setIfInBounds_toArray, List.set_cons_zero, List.set_cons_succ, i64_w, i32_w]
            rfl
          refine pure_ (i := 11) (N := some 66) (v := ?_) (a' := ?_) #[true, true, true, true, true, true, true, false, false, true, true, true, false, false, false, false, false] rfl rfl (any_of HT_.out (by kernel_rfl)) (fun _ _ _ h => h) (Or.inl ⟨by rfl, ?_⟩) ?_ ?_
          rotate_left
          · intro w'
            go_simp
            with_reducible rfl
          rotate_left
          · simp only [Act.put, List.setIfInBounds_toArray, List.set_cons_zero, List.set_cons_succ, i64_w, i32_w]
            rfl
          refine take_ (i := 7) (N := some 62) (v := ?_) (a' := ?_) #[true, true, true, true, true, true, true, true, false, true, true, true, false, false, false, false, false] rfl rfl (take_ofW HT_.out HW_.out (by kernel_rfl)) (fun _ _ _ h => h) (Or.inl ⟨by rfl, ?_⟩) hHeld ?_ ?_
          rotate_left
          · rintro w' ⟨s0, s1, s2, s3, s4, s5, s6, s7⟩
            go_simp
            with_reducible rfl
          rotate_left
          · simp only [Act.put, List.setIfInBounds_toArray, List.set_cons_zero, List.set_cons_succ, i64_w, i32_w]
            rfl
          refine take_ (i := 12) (N := some 67) (v := ?_) (a' := ?_) #[true, true, true, true, true, true, true, true, false, true, true, true, true, false, false, false, false] rfl rfl (take_ofW HT_.out HW_.out (by kernel_rfl)) (fun _ _ _ h => h) (Or.inl ⟨by rfl, ?_⟩) hHeld ?_ ?_
          rotate_left
          · rintro w' ⟨s0, s1, s2, s3, s4, s5, s6, s7⟩
            go_simp
            with_reducible rfl
          rotate_left
          · simp only [Act.put, List.setIfInBounds_toArray, List.set_cons_zero, List.set_cons_succ, i64_w, i32_w]
            rfl
          refine one_ (i := 8) (N := some 63) #[true, true, true, true, true, true, true, true, true, true, true, true, true, false, false, false, false] rfl rfl (one_of HT_.out (by kernel_rfl)) (by decide) (fun K hK => ?_)
          refine goesV_ Try.func113 (by kernel_rfl) rfl #[] #[] #[.agg #[.int .i64 y.f0, .int .i64 y.f1, .int .i64 y.f2, .slice yA y.f3.length yc]] #[.agg #[.int .i64 y.f0, .int .i64 y.f1, .int .i64 y.f2, .slice yA y.f3.length yc]] (by rfl) rfl rfl (by rfl) (by (try simp only [List.map_toArray, List.map_cons, List.map_nil]); first | done | rfl) (by first | rfl | simp) ?_
          with_reducible refine (idB _ _ _ _ _).mono ?_
          rintro e V8 ⟨rfl, hbx⟩
          refine ⟨_, rfl, ?_⟩
          have hb8 : Below We.heap.size We V8 := hc0.trans (hbx.mono hc0.size)
          clear hbx
          refine hK.out _ _ (HSS2.out _ hb8) (fun hHeld => ?_)
          clear hK K
          refine norm_ (a' := ?_) ?_ ?_
          rotate_left
          · show Act.put _ (some 63) _ = _
            simp only [Act.put, List.setIfInBounds_toArray, List.set_cons_zero, List.set_cons_succ, i64_w, i32_w]
            rfl
          refine one_ (i := 13) (N := some 68) #[true, true, true, true, true, true, true, true, true, true, true, true, true, true, false, false, false] rfl rfl (one_of HT_.out (by kernel_rfl)) (by decide) (fun K hK => ?_)
          refine goesV_ Try.func113 (by kernel_rfl) rfl #[] #[] #[.agg #[.int .i64 x.f0, .int .i64 x.f1, .int .i64 x.f2, .slice xA x.f3.length xc]] #[.agg #[.int .i64 x.f0, .int .i64 x.f1, .int .i64 x.f2, .slice xA x.f3.length xc]] (by rfl) rfl rfl (by rfl) (by (try simp only [List.map_toArray, List.map_cons, List.map_nil]); first | done | rfl) (by first | rfl | simp) ?_
          with_reducible refine (idB _ _ _ _ _).mono ?_
          rintro e V13 ⟨rfl, hbx⟩
          refine ⟨_, rfl, ?_⟩
          have hb13 : Below We.heap.size We V13 := hb8.trans (hbx.mono hb8.size)
          clear hbx
          refine hK.out _ _ (HSS2.out _ hb13) (fun hHeld => ?_)
          clear hK K
          refine norm_ (a' := ?_) ?_ ?_
          rotate_left
          · show Act.put _ (some 68) _ = _
            simp only [Act.put, List.setIfInBounds_toArray, List.set_cons_zero, List.set_cons_succ, i64_w, i32_w]
            rfl
          refine pure_ (i := 14) (N := some 69) (v := ?_) (a' := ?_) #[true, true, true, true, true, true, true, true, true, true, true, true, true, true, true, false, false] rfl rfl (any_of HT_.out (by kernel_rfl)) (fun _ _ _ h => h) (Or.inl ⟨by rfl, ?_⟩) ?_ ?_
          rotate_left
          · intro w'
            go_simp
            with_reducible rfl
          rotate_left
          · simp only [Act.put, List.setIfInBounds_toArray, List.set_cons_zero, List.set_cons_succ, i64_w, i32_w]
            rfl
          refine pure_ (i := 15) (N := some 70) (v := ?_) (a' := ?_) #[true, true, true, true, true, true, true, true, true, true, true, true, true, true, true, true, false] rfl rfl (any_of HT_.out (by kernel_rfl)) (fun _ _ _ h => h) (Or.inl ⟨by rfl, ?_⟩) ?_ ?_
          rotate_left
          · intro w'
            go_simp
            with_reducible rfl
          rotate_left
          · simp only [Act.put, List.setIfInBounds_toArray, List.set_cons_zero, List.set_cons_succ, i64_w, i32_w]
            rfl
          refine pure_ (i := 16) (N := some 54) (v := ?_) (a' := ?_) #[true, true, true, true, true, true, true, true, true, true, true, true, true, true, true, true, true] rfl rfl (any_of HT_.out (by kernel_rfl)) (fun _ _ _ h => h) (Or.inl ⟨by rfl, ?_⟩) ?_ ?_
          rotate_left
          · intro w'
            go_simp
            with_reducible rfl
          rotate_left
          · simp only [Act.put, List.setIfInBounds_toArray, List.set_cons_zero, List.set_cons_succ, i64_w, i32_w]
            rfl
          refine done_ (done_of HT_.out (by kernel_rfl)) ?_

          have HB13 := hid hb13
          clear hb13 hb8 hc0
          have hi13 : I M V13 := HIn.out _ _ _ (HIn.out _ _ _ (HIn.out _ _ _ HG.out.i HKW.out) HLE.out) HB13.out
          have HI13 := hid hi13
          clear hi13
          by_cases hgt : y.f0 < x.f0
          · have hq := HONE.out M _ _ _ none (some y) HI13.out (by have := HG.out.few; simp only [List.length_cons, Nat.mul_add] at this; omega) (pt_none _ _) HPY.out (by simp) (by rintro x ⟨⟩; exact HG.out.inb _ (by simp)) (by simp)
            have HQ := hid hq
            clear hq
            go_wp2_with (go_at_call 114
                         with_reducible refine HQ.out.mono ?_
                         rintro e w2 ⟨rfl, hi2⟩
                         have HI2 := hid hi2
                         clear hi2)
            go_roundg (na' + 1 + nb')
            case measure => omega
            case rel => exact ⟨x :: xs, ys, _, _, _, _, _, _, _, by rw [HNA.out]; rfl, HNB.out.symm, rfl, rfl, rfl, hid (HG.out.right (by rintro z ⟨⟩; exact hgt) (HM.out _ _ (by simp) (by rintro x ⟨⟩; exact HG.out.inb _ (by simp))) HRY.out HI2.out)⟩
          · have hdec2 : decide (y.f0 < x.f0) = false := by simpa using hgt
            go_wp2
            go_still_tail 5, (by kernel_rfl)
            change wpList _ _ _ _ _ _
            have hq := HONE.out M _ _ _ (some x) (some y) (HIn.out _ _ _ HI13.out ((Below.refl _ V13).drew)) (by have := HG.out.few; simp only [List.length_cons, Nat.mul_add] at this; omega) HPT.out HPY.out (by rintro x ⟨⟩; exact HG.out.ina _ (by simp)) (by rintro x ⟨⟩; exact HG.out.inb _ (by simp)) (by simp)
            have HQ := hid hq
            clear hq
            go_wp2_with (go_at_call 114
                         with_reducible refine HQ.out.mono ?_
                         rintro e w2 ⟨rfl, hi2⟩
                         have HI2 := hid hi2
                         clear hi2)
            go_quiet (fail)
            go_wp2
            go_roundg (na' + nb')
            case measure => omega
            case rel => exact ⟨xs, ys, _, _, _, _, _, _, _, HNA.out.symm, HNB.out.symm, rfl, rfl, rfl, hid (HG.out.both (by omega) (by omega) (HM.out _ _ (by rintro x ⟨⟩; exact HG.out.ina _ (by simp)) (by rintro x ⟨⟩; exact HG.out.inb _ (by simp))) HRZ.out HRY.out (HIn.out _ _ _ HI2.out (pw_below_drewN (Below.refl _ _) _)))⟩
end Go.Proofs.Ytnceglkoolfncaa.Rl
