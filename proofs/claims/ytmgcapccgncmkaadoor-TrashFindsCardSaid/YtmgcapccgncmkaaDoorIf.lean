/- Images: slices.SortStableFunc over at most 19 texts: each put in from the right, by a function that compares. -/
import Derived.Test.YtmgcapccgncmkaaDoorIe
set_option linter.unusedSimpArgs false
set_option linter.unusedVariables false
namespace Go.Proofs.YtmgcapccgncmkaaDoor.Im
open Go.RowKit Go.Pv Go.Proofs.YtmgcapccgncmkaaDoor.Tx Go.Proofs.YtmgcapccgncmkaaDoorW.PrintWords Go.Proofs.YtmgcapccgncmkaaDoorW.PrintLast

/-- Two neighbours change places. -/
def swp (l : List ByteArray) (j : Nat) : List ByteArray := (l.set (j + 1) (l.getD j ⟨#[]⟩)).set j (l.getD (j + 1) ⟨#[]⟩)
/-- An element goes left, as long as it is less. -/
def bub (c : ByteArray → ByteArray → Int) : Nat → List ByteArray → List ByteArray
  | 0, l => l
  | j + 1, l => if c (l.getD (j + 1) ⟨#[]⟩) (l.getD j ⟨#[]⟩) < 0 then bub c j (swp l j) else l
/-- The first i + 1 are put in order. -/
def insN (c : ByteArray → ByteArray → Int) : Nat → List ByteArray → List ByteArray
  | 0, l => l
  | i + 1, l => bub c (i + 1) (insN c i l)
def sortC (c : ByteArray → ByteArray → Int) (l : List ByteArray) : List ByteArray := insN c (l.length - 1) l
theorem swp_length (l : List ByteArray) (j : Nat) : (swp l j).length = l.length := by simp [swp]
theorem bub_length (c : ByteArray → ByteArray → Int) : ∀ (j : Nat) (l : List ByteArray), (bub c j l).length = l.length
  | 0, _ => rfl
  | j + 1, l => by
    unfold bub
    split
    · rw [bub_length c j, swp_length]
    · rfl
theorem insN_length (c : ByteArray → ByteArray → Int) : ∀ (i : Nat) (l : List ByteArray), (insN c i l).length = l.length
  | 0, _ => rfl
  | i + 1, l => by rw [insN, bub_length, insN_length c i]
theorem swp_perm : ∀ (l : List ByteArray) (j : Nat), j + 1 < l.length → (swp l j).Perm l
  | [], j, h => by simp at h
  | [a], j, h => by simp at h
  | a :: b :: r, 0, h => by simp [swp]; exact List.Perm.swap a b r
  | a :: r, j + 1, h => by
    have e : swp (a :: r) (j + 1) = a :: swp r j := by simp [swp]
    rw [e]
    exact (swp_perm r j (by simpa using h)).cons a
theorem bub_perm (c : ByteArray → ByteArray → Int) : ∀ (j : Nat) (l : List ByteArray), j < l.length → (bub c j l).Perm l
  | 0, l, _ => List.Perm.refl _
  | j + 1, l, h => by
    unfold bub
    split
    · exact (bub_perm c j _ (by rw [swp_length]; omega)).trans (swp_perm l j h)
    · exact List.Perm.refl _
theorem insN_perm (c : ByteArray → ByteArray → Int) : ∀ (i : Nat) (l : List ByteArray), i < l.length ∨ i = 0 → (insN c i l).Perm l
  | 0, l, _ => List.Perm.refl _
  | i + 1, l, h => by
    rw [insN]
    exact (bub_perm c (i + 1) _ (by rw [insN_length]; omega)).trans (insN_perm c i l (by omega))
theorem sortC_perm (c : ByteArray → ByteArray → Int) (l : List ByteArray) : (sortC c l).Perm l := by
  unfold sortC
  exact insN_perm c _ l (by omega)

theorem adne {g a b : Nat} (h : a ≠ b) : (⟨g, a, none⟩ : Addr) ≠ ⟨g, b, none⟩ := fun e => h (congrArg Addr.off e)
/-- A row of texts that is being sorted. -/
structure IS (w W : World) (g o : Nat) (xs : List ByteArray) : Prop where
  keeps : Keeps (fun i => i = g) w W
  cells : ∀ j x, xs[j]? = some x → W.cell? ⟨g, o + j, none⟩ = some (.string x) ∧ W.frozen? ⟨g, o + j, none⟩ = false
  lt : g < w.heap.size
section
variable {w W V : World} {g o : Nat} {xs : List ByteArray}
theorem IS.later (h : IS w W g o xs) (hb : Below W.heap.size W V) : IS w V g o xs := by
  have hg : g < W.heap.size := Nat.lt_of_lt_of_le h.lt h.keeps.size
  refine ⟨h.keeps.trans (Keeps.of_below (F := fun i => i = g) hb) (fun i hi => .inl hi), fun j x hx => ?_, h.lt⟩
  obtain ⟨h1, h2⟩ := h.cells j x hx
  exact ⟨(hb.cell (p := ⟨g, o + j, none⟩) hg).trans h1, (hb.frozen (p := ⟨g, o + j, none⟩) hg).trans h2⟩
theorem IS.get (h : IS w W g o xs) (j : Nat) (hj : j < xs.length) : W.cell? ⟨g, o + j, none⟩ = some (.string (xs.getD j ⟨#[]⟩)) ∧ W.frozen? ⟨g, o + j, none⟩ = false := by
  refine h.cells j _ ?_
  rw [List.getD_eq_getElem?_getD, List.getElem?_eq_getElem hj]
  rfl
theorem IS.swap (h : IS w W g o xs) (j : Nat) (hj : j + 1 < xs.length) : IS w ((W.setCell ⟨g, o + (j + 1), none⟩ (.string (xs.getD j ⟨#[]⟩))).setCell ⟨g, o + j, none⟩ (.string (xs.getD (j + 1) ⟨#[]⟩))) g o (swp xs j) := by
  refine ⟨(h.keeps.setCell ⟨g, o + (j + 1), none⟩ _ (.inl rfl)).setCell ⟨g, o + j, none⟩ _ (.inl rfl), fun i x hx => ?_, h.lt⟩
  obtain ⟨a1, a2⟩ := h.get (j + 1) hj
  obtain ⟨b1, b2⟩ := h.get j (by omega)
  have e1 : (⟨g, o + (j + 1), none⟩ : Addr) ≠ ⟨g, o + j, none⟩ := adne (by omega)
  have f1 : ∀ (U : World) (q r : Addr) (u : Value), (U.setCell q u).frozen? r = U.frozen? r := fun U q r u => World.frozen?_setCell U q r u
  unfold swp at hx
  rw [List.getElem?_set, List.getElem?_set] at hx
  refine ⟨?_, ?_⟩
  · by_cases hij : j = i
    · subst hij
      rw [if_pos rfl, List.length_set, if_pos (by omega)] at hx
      rw [World.cell?_setCell_same _ _ (.string (xs.getD (j + 1) ⟨#[]⟩)) ((World.cell?_setCell_other _ _ _ _ e1).trans b1)]
      rw [← Option.some.inj hx]
    · rw [if_neg hij] at hx
      have e2 : (⟨g, o + j, none⟩ : Addr) ≠ ⟨g, o + i, none⟩ := adne (by omega)
      rw [World.cell?_setCell_other _ _ _ _ e2]
      by_cases hi1 : j + 1 = i
      · subst hi1
        rw [if_pos rfl, if_pos hj] at hx
        rw [World.cell?_setCell_same _ _ _ a1, ← Option.some.inj hx]
      · rw [if_neg hi1] at hx
        have e3 : (⟨g, o + (j + 1), none⟩ : Addr) ≠ ⟨g, o + i, none⟩ := adne (by omega)
        rw [World.cell?_setCell_other _ _ _ _ e3]
        exact (h.cells i x hx).1
  · rw [f1, f1]
    by_cases hij : j = i
    · subst hij; exact b2
    · rw [if_neg hij] at hx
      by_cases hi1 : j + 1 = i
      · subst hi1; exact a2
      · rw [if_neg hi1] at hx; exact (h.cells i x hx).2
end
def reg4.T : Bool × List (List Nat × List Nat) := (true, [([], []), ([], []), ([0, 1], [0, 1]), ([2], [2]), ([3], [3]), ([3], [3]), ([3], [3]), ([5, 6, 3], [3, 5, 6]), ([7, 3], [3, 7]), ([3], [3]), ([3], [3]), ([10, 3], [3, 10]), ([9, 11, 3], [3, 9, 11]), ([12, 3], [3, 12]), ([4, 8, 13, 3, 3], [3, 4, 8, 13]), ([14, 3], [3, 14]), ([3, 15], [3, 15])])
def reg4.B : List Nat := [0, 0, 3, 7, 15, 15, 15, 111, 239, 15, 15, 1039, 3599, 7695, 16383, 32767, 65535]
theorem reg4.tab : rtab .any (opsOf Tryd.f114 4) = reg4.T := by kernel_rfl
theorem reg4.bits : waitsOk reg4.T.2 reg4.B = true := by kernel_rfl
def reg6.T : Bool × List (List Nat × List Nat) := (true, [([], []), ([], []), ([], []), ([], []), ([3], [3]), ([], []), ([], []), ([6], [6]), ([5, 7], [5, 7]), ([8], [8]), ([], []), ([], []), ([10, 11], [10, 11]), ([12], [12]), ([0, 1, 0, 1, 5, 6, 7, 8, 9, 13], [0, 1]), ([14, 9, 0, 1, 5, 6, 7, 8, 9, 13], [9, 14]), ([2, 4, 0, 1, 2, 3, 4, 5, 6, 7, 8, 9, 10, 11, 12, 13, 14, 15], [2, 4]), ([16, 13, 15, 0, 1, 2, 3, 4, 5, 6, 7, 8, 9, 10, 11, 12, 13, 14, 15], [13, 16])])
def reg6.B : List Nat := [0, 0, 0, 0, 8, 0, 0, 64, 224, 480, 0, 0, 3072, 7168, 16355, 32739, 65535, 131071]
theorem reg6.tab : rtab .any (opsOf Tryd.f114 6) = reg6.T := by kernel_rfl
theorem reg6.bits : waitsOk reg6.T.2 reg6.B = true := by kernel_rfl

theorem insN_step (c : ByteArray → ByteArray → Int) (i : Nat) (hi : 0 < i) (l : List ByteArray) : insN c i l = bub c i (insN c (i - 1) l) := by
  obtain ⟨k, rfl⟩ : ∃ k, i = k + 1 := ⟨i - 1, by omega⟩
  rfl
theorem bub_step (c : ByteArray → ByteArray → Int) (i m : Nat) (him : i = m + 1) (l : List ByteArray) : bub c i l = if c (l.getD i ⟨#[]⟩) (l.getD m ⟨#[]⟩) < 0 then bub c m (swp l m) else l := by
  subst him
  rfl
theorem IS.swap' {w W : World} {g o : Nat} {xs : List ByteArray} (h : IS w W g o xs) (i m : Nat) (him : i = m + 1) (hi : i < xs.length) {x y : ByteArray} (hx : x = xs.getD i ⟨#[]⟩) (hy : y = xs.getD m ⟨#[]⟩) : IS w ((W.setCell ⟨g, o + i, none⟩ (.string y)).setCell ⟨g, o + m, none⟩ (.string x)) g o (swp xs m) := by
  subst him hx hy
  exact h.swap m hi
set_option maxRecDepth 10000 in
set_option maxHeartbeats 2000000 in
theorem ins_any {w : World} {g o c0 : Nat} {xs : List ByteArray} {cmp : ByteArray → ByteArray → Int} {cap : Value} (h0 : IS w w g o xs) (hc0 : xs.length ≤ c0) (hn : xs.length < 1000)
    (hC : ∀ V, Keeps (fun i => i = g) w V → ∀ a b, Calls Tryd.prog 74 #[.string a, .string b, cap] V fun e V' => e = .returned (.int .i64 (cmp a b)) ∧ Below V.heap.size V V') :
    Calls Tryd.prog 114 #[.slice (some ⟨g, o, none⟩) xs.length c0, .int .i64 0, .int .i64 xs.length, .func (.func 74) #[] #[cap]] w fun e w' => e = .returned (.tuple #[]) ∧ IS w w' g o (sortC cmp xs) := by
  have H0 := hid h0
  have HC := hid hC
  have HIL := hid (insN_length cmp)
  unfold sortC
  obtain ⟨n, hnl⟩ : ∃ n, n = xs.length := ⟨_, rfl⟩
  have HNL := hid hnl
  rw [← hnl] at hc0 hn ⊢
  clear h0 hC hnl
  go_enter Tryd.func114, Tryd.ntmps114
  go_wp2_with fail
  go_loopg [8] (n - 1) (fun q s8 wr => ∃ i : Nat, s8 = .int .i64 (i : Int) ∧ q = n - i ∧ 0 < i ∧ (i ≤ n ∨ i = 1) ∧ Hid (IS w wr g o (insN cmp (i - 1) xs)))
  case atStart => exact ⟨1, rfl, by omega, by omega, by omega, H0⟩
  case round =>
    clear H0
    obtain ⟨i, rfl, rfl, hi0, hin, HI⟩ := hrel
    have hwi : IntKind.i64.wrap ((i : Int) + 1) = ((i + 1 : Nat) : Int) := by rw [IntWalk.i64_in _ (by omega)]; omega
    by_cases hlt : i < n
    · have hst := hid (insN_step cmp i hi0 xs)
      have hll : (insN cmp (i - 1) xs).length = n := by rw [HIL.out, ← HNL.out]
      generalize insN cmp (i - 1) xs = l0 at HI hst hll
      go_upto_block 2 with fail
      go_wp2_with fail
      go_loopg [9] i (fun q s9 wr => ∃ (k : Nat) (l : List ByteArray), s9 = .int .i64 (k : Int) ∧ k = q ∧ k ≤ i ∧ l.length = n ∧ Hid (IS w wr g o l) ∧ Hid (bub cmp k l = insN cmp i xs))
      case atStart => exact ⟨i, l0, rfl, rfl, Nat.le_refl _, hll, HI, hid hst.out.symm⟩
      case round =>
        clear HI hst hll l0
        obtain ⟨k, l, rfl, rfl, hki, hll, HI, HB⟩ := hrel
        have HD := hid (HI.out.later (Below.refl _ wr).drew)
        obtain ⟨Wd, hWd⟩ : ∃ Wd, Wd = wr.drew := ⟨_, rfl⟩
        have HWd := hid hWd
        rw [← hWd] at HD
        clear hWd
        by_cases hk : 0 < k
        · obtain ⟨m, hkm, hwm⟩ : ∃ m : Nat, k = m + 1 ∧ IntKind.i64.wrap ((k : Int) - 1) = (m : Int) := ⟨k - 1, by omega, by rw [IntWalk.i64_in _ (by omega)]; omega⟩
          have hbs := bub_step cmp k m hkm l
          rw [HB.out] at hbs
          have hkn : k < n := by omega
          have hmn : m < n := by omega
          have hmk : m < k := by omega
          obtain ⟨x, hx⟩ : ∃ x, x = l.getD k ⟨#[]⟩ := ⟨_, rfl⟩
          obtain ⟨y, hy⟩ : ∃ y, y = l.getD m ⟨#[]⟩ := ⟨_, rfl⟩
          have c1 := (HD.out.get k (by omega)).1
          have c2 := (HD.out.get m (by omega)).1
          rw [← hx, ← hy] at hbs
          rw [← hx] at c1
          rw [← hy] at c2
          have HCC := hid (fun V hV => HC.out V hV x y)
          have HX := hid hx
          have HY := hid hy
          have HKM := hid hkm
          clear hx hy hkm
          generalize cmp x y = z at hbs HCC
          have HS := hid (show (fun V : World => V.cell? ⟨g, o + k, none⟩ = some (.string x) ∧ V.cell? ⟨g, o + m, none⟩ = some (.string y)) Wd from ⟨c1, c2⟩)
          have HC1 := hid c1
          have HC2 := hid c2
          clear c1 c2
          by_cases hz : z < 0
          · have hd : decide (z < 0) = true := decide_eq_true hz
            rw [if_pos hz] at hbs
            have HBS := hid hbs
            clear hbs
            go_upto_region 4 with fail
            refine start_ (n := 17) (S := fun V : World => V.cell? ⟨g, o + k, none⟩ = some (.string x) ∧ V.cell? ⟨g, o + m, none⟩ = some (.string y)) (ds := []) #[false, false, false, false, false, false, false, false, false, false, false, false, false, false, false, false, false] (by kernel_rfl) rfl rfl (by rw [← HWd.out]; exact HS.out) (fun hHeld => ?_); refine with_tabW reg4.tab reg4.bits (fun HT_ HW_ => ?_)
            rw [← HWd.out] at hHeld ⊢
            refine pure_ (i := 0) (N := some 18) (v := ?_) (a' := ?_) #[true, false, false, false, false, false, false, false, false, false, false, false, false, false, false, false, false] rfl rfl (any_of HT_.out (by kernel_rfl)) (fun _ _ _ h => h) (Or.inl ⟨by rfl, ?_⟩) ?_ ?_
            rotate_left
            · intro w'
              go_simp
              with_reducible rfl
            rotate_left
            · simp only [Act.put, List.setIfInBounds_toArray, List.set_cons_zero, List.set_cons_succ, i64_w, i32_w]
              rfl
            refine pure_ (i := 1) (N := some 19) (v := ?_) (a' := ?_) #[true, true, false, false, false, false, false, false, false, false, false, false, false, false, false, false, false] rfl rfl (any_of HT_.out (by kernel_rfl)) (fun _ _ _ h => h) (Or.inl ⟨by rfl, ?_⟩) ?_ ?_
            rotate_left
            · intro w'
              go_simp
              with_reducible rfl
            rotate_left
            · simp only [Act.put, List.setIfInBounds_toArray, List.set_cons_zero, List.set_cons_succ, i64_w, i32_w]
              rfl
            refine pure_ (i := 2) (N := some 20) (v := ?_) (a' := ?_) #[true, true, true, false, false, false, false, false, false, false, false, false, false, false, false, false, false] rfl rfl (any_of HT_.out (by kernel_rfl)) (fun _ _ _ h => h) (Or.inl ⟨by rfl, ?_⟩) ?_ ?_
            rotate_left
            · intro w'
              go_simp
              with_reducible rfl
            rotate_left
            · simp only [Act.put, List.setIfInBounds_toArray, List.set_cons_zero, List.set_cons_succ, i64_w, i32_w]
              rfl
            refine pure_ (i := 3) (N := some 21) (v := ?_) (a' := ?_) #[true, true, true, true, false, false, false, false, false, false, false, false, false, false, false, false, false] rfl rfl (any_of HT_.out (by kernel_rfl)) (fun _ _ _ h => h) (Or.inl ⟨by rfl, ?_⟩) ?_ ?_
            rotate_left
            · intro w'
              go_simp
              with_reducible rfl
            rotate_left
            · simp only [Act.put, List.setIfInBounds_toArray, List.set_cons_zero, List.set_cons_succ, i64_w, i32_w]
              rfl
            refine pure_ (i := 4) (N := some 22) (v := ?_) (a' := ?_) #[true, true, true, true, true, false, false, false, false, false, false, false, false, false, false, false, false] rfl rfl (any_of HT_.out (by kernel_rfl)) (fun _ _ _ h => h) (Or.inl ⟨by rfl, ?_⟩) ?_ ?_
            rotate_left
            · intro w'
              go_simp
              with_reducible rfl
            rotate_left
            · simp only [Act.put, List.setIfInBounds_toArray, List.set_cons_zero, List.set_cons_succ, i64_w, i32_w]
              rfl
            refine pure_ (i := 5) (N := some 23) (v := ?_) (a' := ?_) #[true, true, true, true, true, true, false, false, false, false, false, false, false, false, false, false, false] rfl rfl (any_of HT_.out (by kernel_rfl)) (fun _ _ _ h => h) (Or.inl ⟨by rfl, ?_⟩) ?_ ?_
            rotate_left
            · intro w'
              go_simp
              with_reducible rfl
            rotate_left
            · simp only [Act.put, List.setIfInBounds_toArray, List.set_cons_zero, List.set_cons_succ, i64_w, i32_w]
              rfl
            refine pure_ (i := 6) (N := some 24) (v := ?_) (a' := ?_) #[true, true, true, true, true, true, true, false, false, false, false, false, false, false, false, false, false] rfl rfl (any_of HT_.out (by kernel_rfl)) (fun _ _ _ h => h) (Or.inl ⟨by rfl, ?_⟩) ?_ ?_
            rotate_left
            · intro w'
              go_simp
              with_reducible rfl
            rotate_left
            · simp only [Act.put, List.setIfInBounds_toArray, List.set_cons_zero, List.set_cons_succ, i64_w, i32_w]
              rfl
            refine pure_ (i := 7) (N := some 25) (v := ?_) (a' := ?_) #[true, true, true, true, true, true, true, true, false, false, false, false, false, false, false, false, false] rfl rfl (any_of HT_.out (by kernel_rfl)) (fun _ _ _ h => h) (Or.inl ⟨by rfl, ?_⟩) ?_ ?_
            rotate_left
            · intro w'
              go_simp
              with_reducible rfl
            rotate_left
            · simp only [Act.put, List.setIfInBounds_toArray, List.set_cons_zero, List.set_cons_succ, i64_w, i32_w]
              rfl
            refine pure_ (i := 9) (N := some 27) (v := ?_) (a' := ?_) #[true, true, true, true, true, true, true, true, false, true, false, false, false, false, false, false, false] rfl rfl (any_of HT_.out (by kernel_rfl)) (fun _ _ _ h => h) (Or.inl ⟨by rfl, ?_⟩) ?_ ?_
            rotate_left
            · intro w'
              go_simp
              with_reducible rfl
            rotate_left
            · simp only [Act.put, List.setIfInBounds_toArray, List.set_cons_zero, List.set_cons_succ, i64_w, i32_w]
              rfl
            refine pure_ (i := 10) (N := some 28) (v := ?_) (a' := ?_) #[true, true, true, true, true, true, true, true, false, true, true, false, false, false, false, false, false] rfl rfl (any_of HT_.out (by kernel_rfl)) (fun _ _ _ h => h) (Or.inl ⟨by rfl, ?_⟩) ?_ ?_
            rotate_left
            · intro w'
              go_simp
              with_reducible rfl
            rotate_left
            · simp only [Act.put, List.setIfInBounds_toArray, List.set_cons_zero, List.set_cons_succ, i64_w, i32_w]
              rfl
            refine pure_ (i := 11) (N := some 29) (v := ?_) (a' := ?_) #[true, true, true, true, true, true, true, true, false, true, true, true, false, false, false, false, false] rfl rfl (any_of HT_.out (by kernel_rfl)) (fun _ _ _ h => h) (Or.inl ⟨by rfl, ?_⟩) ?_ ?_
            rotate_left
            · intro w'
              go_simp
              with_reducible rfl
            rotate_left
            · simp only [Act.put, List.setIfInBounds_toArray, List.set_cons_zero, List.set_cons_succ, i64_w, i32_w]
              rfl
            refine pure_ (i := 12) (N := some 30) (v := ?_) (a' := ?_) #[true, true, true, true, true, true, true, true, false, true, true, true, true, false, false, false, false] rfl rfl (any_of HT_.out (by kernel_rfl)) (fun _ _ _ h => h) (Or.inl ⟨by rfl, ?_⟩) ?_ ?_
            rotate_left
            · intro w'
              go_simp
              with_reducible rfl
            rotate_left
            · simp only [Act.put, List.setIfInBounds_toArray, List.set_cons_zero, List.set_cons_succ, i64_w, i32_w]
              rfl
            refine take_ (i := 8) (N := some 26) (v := ?_) (a' := ?_) #[true, true, true, true, true, true, true, true, true, true, true, true, true, false, false, false, false] rfl rfl (take_ofW HT_.out HW_.out (by kernel_rfl)) (fun _ _ _ h => h) (Or.inl ⟨by rfl, ?_⟩) hHeld ?_ ?_
            rotate_left
            · rintro w' ⟨s0, s1⟩
              go_simp
              with_reducible rfl
            rotate_left
            · simp only [Act.put, List.setIfInBounds_toArray, List.set_cons_zero, List.set_cons_succ, i64_w, i32_w]
              rfl
            refine take_ (i := 13) (N := some 31) (v := ?_) (a' := ?_) #[true, true, true, true, true, true, true, true, true, true, true, true, true, true, false, false, false] rfl rfl (take_ofW HT_.out HW_.out (by kernel_rfl)) (fun _ _ _ h => h) (Or.inl ⟨by rfl, ?_⟩) hHeld ?_ ?_
            rotate_left
            · rintro w' ⟨s0, s1⟩
              go_simp
              with_reducible rfl
            rotate_left
            · simp only [Act.put, List.setIfInBounds_toArray, List.set_cons_zero, List.set_cons_succ, i64_w, i32_w]
              rfl
            refine one_ (i := 14) (N := some 32) #[true, true, true, true, true, true, true, true, true, true, true, true, true, true, true, false, false] rfl rfl (one_of HT_.out (by kernel_rfl)) (by decide) (fun K hK => ?_)
            refine goesV_ Tryd.func74 (by kernel_rfl) rfl #[] #[cap] #[.string x, .string y] #[.string x, .string y, cap] (by rfl) rfl rfl (by rfl) (by (try simp only [List.map_toArray, List.map_cons, List.map_nil]); first | done | rfl) (by first | rfl | simp) ?_
            with_reducible refine (HCC.out Wd HD.out.keeps).mono ?_
            rintro e W4 ⟨rfl, hb4⟩
            refine ⟨_, rfl, ?_⟩
            have HI4 := hid (HD.out.later hb4)
            have HS4 := hid (show (fun V : World => V.cell? ⟨g, o + k, none⟩ = some (.string x) ∧ V.cell? ⟨g, o + m, none⟩ = some (.string y)) W4 from ⟨cell_on hb4 HC1.out, cell_on hb4 HC2.out⟩)
            clear hb4
            refine hK.out _ _ HS4.out (fun hHeld => ?_)
            clear hK K
            refine norm_ (a' := ?_) ?_ ?_
            rotate_left
            · show Act.put _ (some 32) _ = _
              simp only [Act.put, List.setIfInBounds_toArray, List.set_cons_zero, List.set_cons_succ, i64_w, i32_w]
              rfl
            refine pure_ (i := 15) (N := some 33) (v := ?_) (a' := ?_) #[true, true, true, true, true, true, true, true, true, true, true, true, true, true, true, true, false] rfl rfl (any_of HT_.out (by kernel_rfl)) (fun _ _ _ h => h) (Or.inl ⟨by rfl, ?_⟩) ?_ ?_
            rotate_left
            · intro w'
              go_simp
              with_reducible rfl
            rotate_left
            · simp only [Act.put, List.setIfInBounds_toArray, List.set_cons_zero, List.set_cons_succ, i64_w, i32_w]
              rfl
            refine pure_ (i := 16) (N := some 34) (v := ?_) (a' := ?_) #[true, true, true, true, true, true, true, true, true, true, true, true, true, true, true, true, true] rfl rfl (any_of HT_.out (by kernel_rfl)) (fun _ _ _ h => h) (Or.inl ⟨by rfl, ?_⟩) ?_ ?_
            rotate_left
            · intro w'
              go_simp
              with_reducible rfl
            rotate_left
            · simp only [Act.put, List.setIfInBounds_toArray, List.set_cons_zero, List.set_cons_succ, i64_w, i32_w]
              rfl
            refine done_ (done_of HT_.out (by kernel_rfl)) ?_
            go_upto_region 6 with fail
            have HI5 := hid (HI4.out.later (Below.refl _ W4).drew)
            obtain ⟨We, hWe⟩ : ∃ We, We = W4.drew := ⟨_, rfl⟩
            have HWe := hid hWe
            rw [← hWe] at HI5
            clear hWe
            obtain ⟨y1, f1⟩ := HI5.out.get k (by omega)
            obtain ⟨y0, f0⟩ := HI5.out.get m (by omega)
            rw [← HX.out] at y1
            rw [← HY.out] at y0
            obtain ⟨W5, hW5⟩ : ∃ W5, W5 = We.setCell ⟨g, o + k, none⟩ (.string y) := ⟨_, rfl⟩
            obtain ⟨W6, hW6⟩ : ∃ W6, W6 = W5.setCell ⟨g, o + m, none⟩ (.string x) := ⟨_, rfl⟩
            have HN := hid (HI5.out.swap' k m HKM.out (by omega) HX.out HY.out)
            rw [← hW5, ← hW6] at HN
            have z0 : W5.cell? ⟨g, o + m, none⟩ = some (.string y) := by
              rw [hW5, World.cell?_setCell_other _ _ _ _ (adne (by have := HKM.out; omega))]
              exact y0
            have zf : W5.frozen? ⟨g, o + m, none⟩ = false := by
              rw [hW5, World.frozen?_setCell]
              exact f0
            have HW5 := hid hW5
            have HW6 := hid hW6
            have HSE := hid (show (fun V : World => V.cell? ⟨g, o + k, none⟩ = some (.string x) ∧ V.cell? ⟨g, o + m, none⟩ = some (.string y)) We from ⟨y1, y0⟩)
            clear hW5 hW6
            refine start_ (n := 18) (S := fun V : World => V.cell? ⟨g, o + k, none⟩ = some (.string x) ∧ V.cell? ⟨g, o + m, none⟩ = some (.string y)) (ds := [15, 17]) #[false, false, false, false, false, false, false, false, false, false, false, false, false, false, false, false, false, false] (by kernel_rfl) rfl rfl (by rw [← HWe.out]; exact HSE.out) (fun hHeld => ?_); refine with_tabW reg6.tab reg6.bits (fun HT_ HW_ => ?_)
            rw [← HWe.out] at hHeld ⊢
            refine pure_ (i := 0) (N := some 37) (v := ?_) (a' := ?_) #[true, false, false, false, false, false, false, false, false, false, false, false, false, false, false, false, false, false] rfl rfl (any_of HT_.out (by kernel_rfl)) (fun _ _ _ h => h) (Or.inl ⟨by rfl, ?_⟩) ?_ ?_
            rotate_left
            · intro w'
              go_simp
              with_reducible rfl
            rotate_left
            · simp only [Act.put, List.setIfInBounds_toArray, List.set_cons_zero, List.set_cons_succ, i64_w, i32_w]
              rfl
            refine pure_ (i := 1) (N := some 38) (v := ?_) (a' := ?_) #[true, true, false, false, false, false, false, false, false, false, false, false, false, false, false, false, false, false] rfl rfl (any_of HT_.out (by kernel_rfl)) (fun _ _ _ h => h) (Or.inl ⟨by rfl, ?_⟩) ?_ ?_
            rotate_left
            · intro w'
              go_simp
              with_reducible rfl
            rotate_left
            · simp only [Act.put, List.setIfInBounds_toArray, List.set_cons_zero, List.set_cons_succ, i64_w, i32_w]
              rfl
            refine pure_ (i := 2) (N := some 39) (v := ?_) (a' := ?_) #[true, true, true, false, false, false, false, false, false, false, false, false, false, false, false, false, false, false] rfl rfl (any_of HT_.out (by kernel_rfl)) (fun _ _ _ h => h) (Or.inl ⟨by rfl, ?_⟩) ?_ ?_
            rotate_left
            · intro w'
              go_simp
              with_reducible rfl
            rotate_left
            · simp only [Act.put, List.setIfInBounds_toArray, List.set_cons_zero, List.set_cons_succ, i64_w, i32_w]
              rfl
            refine pure_ (i := 3) (N := some 40) (v := ?_) (a' := ?_) #[true, true, true, true, false, false, false, false, false, false, false, false, false, false, false, false, false, false] rfl rfl (any_of HT_.out (by kernel_rfl)) (fun _ _ _ h => h) (Or.inl ⟨by rfl, ?_⟩) ?_ ?_
            rotate_left
            · intro w'
              go_simp
              with_reducible rfl
            rotate_left
            · simp only [Act.put, List.setIfInBounds_toArray, List.set_cons_zero, List.set_cons_succ, i64_w, i32_w]
              rfl
            refine pure_ (i := 4) (N := some 41) (v := ?_) (a' := ?_) #[true, true, true, true, true, false, false, false, false, false, false, false, false, false, false, false, false, false] rfl rfl (any_of HT_.out (by kernel_rfl)) (fun _ _ _ h => h) (Or.inl ⟨by rfl, ?_⟩) ?_ ?_
            rotate_left
            · intro w'
              go_simp
              with_reducible rfl
            rotate_left
            · simp only [Act.put, List.setIfInBounds_toArray, List.set_cons_zero, List.set_cons_succ, i64_w, i32_w]
              rfl
            refine pure_ (i := 5) (N := some 42) (v := ?_) (a' := ?_) #[true, true, true, true, true, true, false, false, false, false, false, false, false, false, false, false, false, false] rfl rfl (any_of HT_.out (by kernel_rfl)) (fun _ _ _ h => h) (Or.inl ⟨by rfl, ?_⟩) ?_ ?_
            rotate_left
            · intro w'
              go_simp
              with_reducible rfl
            rotate_left
            · simp only [Act.put, List.setIfInBounds_toArray, List.set_cons_zero, List.set_cons_succ, i64_w, i32_w]
              rfl
            refine pure_ (i := 6) (N := some 43) (v := ?_) (a' := ?_) #[true, true, true, true, true, true, true, false, false, false, false, false, false, false, false, false, false, false] rfl rfl (any_of HT_.out (by kernel_rfl)) (fun _ _ _ h => h) (Or.inl ⟨by rfl, ?_⟩) ?_ ?_
            rotate_left
            · intro w'
              go_simp
              with_reducible rfl
            rotate_left
            · simp only [Act.put, List.setIfInBounds_toArray, List.set_cons_zero, List.set_cons_succ, i64_w, i32_w]
              rfl
            refine pure_ (i := 7) (N := some 44) (v := ?_) (a' := ?_) #[true, true, true, true, true, true, true, true, false, false, false, false, false, false, false, false, false, false] rfl rfl (any_of HT_.out (by kernel_rfl)) (fun _ _ _ h => h) (Or.inl ⟨by rfl, ?_⟩) ?_ ?_
            rotate_left
            · intro w'
              go_simp
              with_reducible rfl
            rotate_left
            · simp only [Act.put, List.setIfInBounds_toArray, List.set_cons_zero, List.set_cons_succ, i64_w, i32_w]
              rfl
            refine pure_ (i := 8) (N := some 45) (v := ?_) (a' := ?_) #[true, true, true, true, true, true, true, true, true, false, false, false, false, false, false, false, false, false] rfl rfl (any_of HT_.out (by kernel_rfl)) (fun _ _ _ h => h) (Or.inl ⟨by rfl, ?_⟩) ?_ ?_
            rotate_left
            · intro w'
              go_simp
              with_reducible rfl
            rotate_left
            · simp only [Act.put, List.setIfInBounds_toArray, List.set_cons_zero, List.set_cons_succ, i64_w, i32_w]
              rfl
            refine pure_ (i := 10) (N := some 47) (v := ?_) (a' := ?_) #[true, true, true, true, true, true, true, true, true, false, true, false, false, false, false, false, false, false] rfl rfl (any_of HT_.out (by kernel_rfl)) (fun _ _ _ h => h) (Or.inl ⟨by rfl, ?_⟩) ?_ ?_
            rotate_left
            · intro w'
              go_simp
              with_reducible rfl
            rotate_left
            · simp only [Act.put, List.setIfInBounds_toArray, List.set_cons_zero, List.set_cons_succ, i64_w, i32_w]
              rfl
            refine pure_ (i := 11) (N := some 48) (v := ?_) (a' := ?_) #[true, true, true, true, true, true, true, true, true, false, true, true, false, false, false, false, false, false] rfl rfl (any_of HT_.out (by kernel_rfl)) (fun _ _ _ h => h) (Or.inl ⟨by rfl, ?_⟩) ?_ ?_
            rotate_left
            · intro w'
              go_simp
              with_reducible rfl
            rotate_left
            · simp only [Act.put, List.setIfInBounds_toArray, List.set_cons_zero, List.set_cons_succ, i64_w, i32_w]
              rfl
            refine pure_ (i := 12) (N := some 49) (v := ?_) (a' := ?_) #[true, true, true, true, true, true, true, true, true, false, true, true, true, false, false, false, false, false] rfl rfl (any_of HT_.out (by kernel_rfl)) (fun _ _ _ h => h) (Or.inl ⟨by rfl, ?_⟩) ?_ ?_
            rotate_left
            · intro w'
              go_simp
              with_reducible rfl
            rotate_left
            · simp only [Act.put, List.setIfInBounds_toArray, List.set_cons_zero, List.set_cons_succ, i64_w, i32_w]
              rfl
            refine take_ (i := 9) (N := some 46) (v := ?_) (a' := ?_) #[true, true, true, true, true, true, true, true, true, true, true, true, true, false, false, false, false, false] rfl rfl (take_ofW HT_.out HW_.out (by kernel_rfl)) (fun _ _ _ h => h) (Or.inl ⟨by rfl, ?_⟩) hHeld ?_ ?_
            rotate_left
            · rintro w' ⟨s0, s1⟩
              go_simp
              with_reducible rfl
            rotate_left
            · simp only [Act.put, List.setIfInBounds_toArray, List.set_cons_zero, List.set_cons_succ, i64_w, i32_w]
              rfl
            refine take_ (i := 13) (N := some 50) (v := ?_) (a' := ?_) #[true, true, true, true, true, true, true, true, true, true, true, true, true, true, false, false, false, false] rfl rfl (take_ofW HT_.out HW_.out (by kernel_rfl)) (fun _ _ _ h => h) (Or.inl ⟨by rfl, ?_⟩) hHeld ?_ ?_
            rotate_left
            · rintro w' ⟨s0, s1⟩
              go_simp
              with_reducible rfl
            rotate_left
            · simp only [Act.put, List.setIfInBounds_toArray, List.set_cons_zero, List.set_cons_succ, i64_w, i32_w]
              rfl
            refine pure_ (i := 14) (N := some 51) (v := ?_) (a' := ?_) #[true, true, true, true, true, true, true, true, true, true, true, true, true, true, true, false, false, false] rfl rfl (any_of HT_.out (by kernel_rfl)) (fun _ _ _ h => h) (Or.inl ⟨by rfl, ?_⟩) ?_ ?_
            rotate_left
            · intro w'
              go_simp
              with_reducible rfl
            rotate_left
            · simp only [Act.put, List.setIfInBounds_toArray, List.set_cons_zero, List.set_cons_succ, i64_w, i32_w]
              rfl
            refine last_ (i := 15) (N := none) #[true, true, true, true, true, true, true, true, true, true, true, true, true, true, true, true, false, false] rfl rfl (one_of HT_.out (by kernel_rfl)) (by decide) (fun K hK => ?_)
            refine skip_ (w1 := W5) (by rfl) rfl (by rw [HW5.out]; go_simp) ?_
            refine hK.out _ _ ?_
            clear hK K
            refine pure_ (i := 16) (N := some 52) (v := ?_) (a' := ?_) #[true, true, true, true, true, true, true, true, true, true, true, true, true, true, true, true, true, false] rfl rfl (any_of HT_.out (by kernel_rfl)) (fun _ _ _ h => h) (Or.inl ⟨by rfl, ?_⟩) ?_ ?_
            rotate_left
            · intro w'
              go_simp
              with_reducible rfl
            rotate_left
            · simp only [Act.put, List.setIfInBounds_toArray, List.set_cons_zero, List.set_cons_succ, i64_w, i32_w]
              rfl
            refine last_ (i := 17) (N := none) #[true, true, true, true, true, true, true, true, true, true, true, true, true, true, true, true, true, true] rfl rfl (one_of HT_.out (by kernel_rfl)) (by decide) (fun K hK => ?_)
            refine skip_ (w1 := W6) (by rfl) rfl (by rw [HW6.out]; go_simp) ?_
            refine hK.out _ _ ?_
            clear hK K
            refine done_ (done_of HT_.out (by kernel_rfl)) ?_
            go_wp2_with fail
            go_roundg m
            case measure => omega
            case rel => exact ⟨m, swp l m, rfl, rfl, by omega, by rw [swp_length]; exact hll, HN, hid HBS.out.symm⟩
          · have hd : decide (z < 0) = false := decide_eq_false hz
            rw [if_neg hz] at hbs
            have HBS := hid hbs
            clear hbs
            go_upto_region 4 with fail
            refine start_ (n := 17) (S := fun V : World => V.cell? ⟨g, o + k, none⟩ = some (.string x) ∧ V.cell? ⟨g, o + m, none⟩ = some (.string y)) (ds := []) #[false, false, false, false, false, false, false, false, false, false, false, false, false, false, false, false, false] (by kernel_rfl) rfl rfl (by rw [← HWd.out]; exact HS.out) (fun hHeld => ?_); refine with_tabW reg4.tab reg4.bits (fun HT_ HW_ => ?_)
            rw [← HWd.out] at hHeld ⊢
            refine pure_ (i := 0) (N := some 18) (v := ?_) (a' := ?_) #[true, false, false, false, false, false, false, false, false, false, false, false, false, false, false, false, false] rfl rfl (any_of HT_.out (by kernel_rfl)) (fun _ _ _ h => h) (Or.inl ⟨by rfl, ?_⟩) ?_ ?_
            rotate_left
            · intro w'
              go_simp
              with_reducible rfl
            rotate_left
            · simp only [Act.put, List.setIfInBounds_toArray, List.set_cons_zero, List.set_cons_succ, i64_w, i32_w]
              rfl
            refine pure_ (i := 1) (N := some 19) (v := ?_) (a' := ?_) #[true, true, false, false, false, false, false, false, false, false, false, false, false, false, false, false, false] rfl rfl (any_of HT_.out (by kernel_rfl)) (fun _ _ _ h => h) (Or.inl ⟨by rfl, ?_⟩) ?_ ?_
            rotate_left
            · intro w'
              go_simp
              with_reducible rfl
            rotate_left
            · simp only [Act.put, List.setIfInBounds_toArray, List.set_cons_zero, List.set_cons_succ, i64_w, i32_w]
              rfl
            refine pure_ (i := 2) (N := some 20) (v := ?_) (a' := ?_) #[true, true, true, false, false, false, false, false, false, false, false, false, false, false, false, false, false] rfl rfl (any_of HT_.out (by kernel_rfl)) (fun _ _ _ h => h) (Or.inl ⟨by rfl, ?_⟩) ?_ ?_
            rotate_left
            · intro w'
              go_simp
              with_reducible rfl
            rotate_left
            · simp only [Act.put, List.setIfInBounds_toArray, List.set_cons_zero, List.set_cons_succ, i64_w, i32_w]
              rfl
            refine pure_ (i := 3) (N := some 21) (v := ?_) (a' := ?_) #[true, true, true, true, false, false, false, false, false, false, false, false, false, false, false, false, false] rfl rfl (any_of HT_.out (by kernel_rfl)) (fun _ _ _ h => h) (Or.inl ⟨by rfl, ?_⟩) ?_ ?_
            rotate_left
            · intro w'
              go_simp
              with_reducible rfl
            rotate_left
            · simp only [Act.put, List.setIfInBounds_toArray, List.set_cons_zero, List.set_cons_succ, i64_w, i32_w]
              rfl
            refine pure_ (i := 4) (N := some 22) (v := ?_) (a' := ?_) #[true, true, true, true, true, false, false, false, false, false, false, false, false, false, false, false, false] rfl rfl (any_of HT_.out (by kernel_rfl)) (fun _ _ _ h => h) (Or.inl ⟨by rfl, ?_⟩) ?_ ?_
            rotate_left
            · intro w'
              go_simp
              with_reducible rfl
            rotate_left
            · simp only [Act.put, List.setIfInBounds_toArray, List.set_cons_zero, List.set_cons_succ, i64_w, i32_w]
              rfl
            refine pure_ (i := 5) (N := some 23) (v := ?_) (a' := ?_) #[true, true, true, true, true, true, false, false, false, false, false, false, false, false, false, false, false] rfl rfl (any_of HT_.out (by kernel_rfl)) (fun _ _ _ h => h) (Or.inl ⟨by rfl, ?_⟩) ?_ ?_
            rotate_left
            · intro w'
              go_simp
              with_reducible rfl
            rotate_left
            · simp only [Act.put, List.setIfInBounds_toArray, List.set_cons_zero, List.set_cons_succ, i64_w, i32_w]
              rfl
            refine pure_ (i := 6) (N := some 24) (v := ?_) (a' := ?_) #[true, true, true, true, true, true, true, false, false, false, false, false, false, false, false, false, false] rfl rfl (any_of HT_.out (by kernel_rfl)) (fun _ _ _ h => h) (Or.inl ⟨by rfl, ?_⟩) ?_ ?_
            rotate_left
            · intro w'
              go_simp
              with_reducible rfl
            rotate_left
            · simp only [Act.put, List.setIfInBounds_toArray, List.set_cons_zero, List.set_cons_succ, i64_w, i32_w]
              rfl
            refine pure_ (i := 7) (N := some 25) (v := ?_) (a' := ?_) #[true, true, true, true, true, true, true, true, false, false, false, false, false, false, false, false, false] rfl rfl (any_of HT_.out (by kernel_rfl)) (fun _ _ _ h => h) (Or.inl ⟨by rfl, ?_⟩) ?_ ?_
            rotate_left
            · intro w'
              go_simp
              with_reducible rfl
            rotate_left
            · simp only [Act.put, List.setIfInBounds_toArray, List.set_cons_zero, List.set_cons_succ, i64_w, i32_w]
              rfl
            refine pure_ (i := 9) (N := some 27) (v := ?_) (a' := ?_) #[true, true, true, true, true, true, true, true, false, true, false, false, false, false, false, false, false] rfl rfl (any_of HT_.out (by kernel_rfl)) (fun _ _ _ h => h) (Or.inl ⟨by rfl, ?_⟩) ?_ ?_
            rotate_left
            · intro w'
              go_simp
              with_reducible rfl
            rotate_left
            · simp only [Act.put, List.setIfInBounds_toArray, List.set_cons_zero, List.set_cons_succ, i64_w, i32_w]
              rfl
            refine pure_ (i := 10) (N := some 28) (v := ?_) (a' := ?_) #[true, true, true, true, true, true, true, true, false, true, true, false, false, false, false, false, false] rfl rfl (any_of HT_.out (by kernel_rfl)) (fun _ _ _ h => h) (Or.inl ⟨by rfl, ?_⟩) ?_ ?_
            rotate_left
            · intro w'
              go_simp
              with_reducible rfl
            rotate_left
            · simp only [Act.put, List.setIfInBounds_toArray, List.set_cons_zero, List.set_cons_succ, i64_w, i32_w]
              rfl
            refine pure_ (i := 11) (N := some 29) (v := ?_) (a' := ?_) #[true, true, true, true, true, true, true, true, false, true, true, true, false, false, false, false, false] rfl rfl (any_of HT_.out (by kernel_rfl)) (fun _ _ _ h => h) (Or.inl ⟨by rfl, ?_⟩) ?_ ?_
            rotate_left
            · intro w'
              go_simp
              with_reducible rfl
            rotate_left
            · simp only [Act.put, List.setIfInBounds_toArray, List.set_cons_zero, List.set_cons_succ, i64_w, i32_w]
              rfl
            refine pure_ (i := 12) (N := some 30) (v := ?_) (a' := ?_) #[true, true, true, true, true, true, true, true, false, true, true, true, true, false, false, false, false] rfl rfl (any_of HT_.out (by kernel_rfl)) (fun _ _ _ h => h) (Or.inl ⟨by rfl, ?_⟩) ?_ ?_
            rotate_left
            · intro w'
              go_simp
              with_reducible rfl
            rotate_left
            · simp only [Act.put, List.setIfInBounds_toArray, List.set_cons_zero, List.set_cons_succ, i64_w, i32_w]
              rfl
            refine take_ (i := 8) (N := some 26) (v := ?_) (a' := ?_) #[true, true, true, true, true, true, true, true, true, true, true, true, true, false, false, false, false] rfl rfl (take_ofW HT_.out HW_.out (by kernel_rfl)) (fun _ _ _ h => h) (Or.inl ⟨by rfl, ?_⟩) hHeld ?_ ?_
            rotate_left
            · rintro w' ⟨s0, s1⟩
              go_simp
              with_reducible rfl
            rotate_left
            · simp only [Act.put, List.setIfInBounds_toArray, List.set_cons_zero, List.set_cons_succ, i64_w, i32_w]
              rfl
            refine take_ (i := 13) (N := some 31) (v := ?_) (a' := ?_) #[true, true, true, true, true, true, true, true, true, true, true, true, true, true, false, false, false] rfl rfl (take_ofW HT_.out HW_.out (by kernel_rfl)) (fun _ _ _ h => h) (Or.inl ⟨by rfl, ?_⟩) hHeld ?_ ?_
            rotate_left
            · rintro w' ⟨s0, s1⟩
              go_simp
              with_reducible rfl
            rotate_left
            · simp only [Act.put, List.setIfInBounds_toArray, List.set_cons_zero, List.set_cons_succ, i64_w, i32_w]
              rfl
            refine one_ (i := 14) (N := some 32) #[true, true, true, true, true, true, true, true, true, true, true, true, true, true, true, false, false] rfl rfl (one_of HT_.out (by kernel_rfl)) (by decide) (fun K hK => ?_)
            refine goesV_ Tryd.func74 (by kernel_rfl) rfl #[] #[cap] #[.string x, .string y] #[.string x, .string y, cap] (by rfl) rfl rfl (by rfl) (by (try simp only [List.map_toArray, List.map_cons, List.map_nil]); first | done | rfl) (by first | rfl | simp) ?_
            with_reducible refine (HCC.out Wd HD.out.keeps).mono ?_
            rintro e W4 ⟨rfl, hb4⟩
            refine ⟨_, rfl, ?_⟩
            have HI4 := hid (HD.out.later hb4)
            have HS4 := hid (show (fun V : World => V.cell? ⟨g, o + k, none⟩ = some (.string x) ∧ V.cell? ⟨g, o + m, none⟩ = some (.string y)) W4 from ⟨cell_on hb4 HC1.out, cell_on hb4 HC2.out⟩)
            clear hb4
            refine hK.out _ _ HS4.out (fun hHeld => ?_)
            clear hK K
            refine norm_ (a' := ?_) ?_ ?_
            rotate_left
            · show Act.put _ (some 32) _ = _
              simp only [Act.put, List.setIfInBounds_toArray, List.set_cons_zero, List.set_cons_succ, i64_w, i32_w]
              rfl
            refine pure_ (i := 15) (N := some 33) (v := ?_) (a' := ?_) #[true, true, true, true, true, true, true, true, true, true, true, true, true, true, true, true, false] rfl rfl (any_of HT_.out (by kernel_rfl)) (fun _ _ _ h => h) (Or.inl ⟨by rfl, ?_⟩) ?_ ?_
            rotate_left
            · intro w'
              go_simp
              with_reducible rfl
            rotate_left
            · simp only [Act.put, List.setIfInBounds_toArray, List.set_cons_zero, List.set_cons_succ, i64_w, i32_w]
              rfl
            refine pure_ (i := 16) (N := some 34) (v := ?_) (a' := ?_) #[true, true, true, true, true, true, true, true, true, true, true, true, true, true, true, true, true] rfl rfl (any_of HT_.out (by kernel_rfl)) (fun _ _ _ h => h) (Or.inl ⟨by rfl, ?_⟩) ?_ ?_
            rotate_left
            · intro w'
              go_simp
              with_reducible rfl
            rotate_left
            · simp only [Act.put, List.setIfInBounds_toArray, List.set_cons_zero, List.set_cons_succ, i64_w, i32_w]
              rfl
            refine done_ (done_of HT_.out (by kernel_rfl)) ?_
            go_wp2_with fail
            go_roundg (n - (i + 1))
            case measure => omega
            case rel => exact ⟨i + 1, rfl, rfl, by omega, by omega, by rw [Nat.add_sub_cancel, HBS.out]; exact HI4⟩
        · have hke : l = insN cmp i xs := by
            rw [← HB.out, show k = 0 by omega]
            rfl
          have HKE := hid hke
          clear hke
          have HS : Hid ((fun V : World => True) Wd) := hid trivial
          go_upto_region 4 with fail
          refine start_ (n := 17) (S := fun V : World => True) (ds := []) #[false, false, false, false, false, false, false, false, false, false, false, false, false, false, false, false, false] (by kernel_rfl) rfl rfl trivial (fun hHeld => ?_); refine with_tabW reg4.tab reg4.bits (fun HT_ HW_ => ?_)
          rw [← HWd.out]
          refine pure_ (i := 0) (N := some 18) (v := ?_) (a' := ?_) #[true, false, false, false, false, false, false, false, false, false, false, false, false, false, false, false, false] rfl rfl (any_of HT_.out (by kernel_rfl)) (fun _ _ _ h => h) (Or.inl ⟨by rfl, ?_⟩) ?_ ?_
          rotate_left
          · intro w'
            go_simp
            with_reducible rfl
          rotate_left
          · simp only [Act.put, List.setIfInBounds_toArray, List.set_cons_zero, List.set_cons_succ, i64_w, i32_w]
            rfl
          refine pure_ (i := 1) (N := some 19) (v := ?_) (a' := ?_) #[true, true, false, false, false, false, false, false, false, false, false, false, false, false, false, false, false] rfl rfl (any_of HT_.out (by kernel_rfl)) (fun _ _ _ h => h) (Or.inl ⟨by rfl, ?_⟩) ?_ ?_
          rotate_left
          · intro w'
            go_simp
            with_reducible rfl
          rotate_left
          · simp only [Act.put, List.setIfInBounds_toArray, List.set_cons_zero, List.set_cons_succ, i64_w, i32_w]
            rfl
          refine pure_ (i := 2) (N := some 20) (v := ?_) (a' := ?_) #[true, true, true, false, false, false, false, false, false, false, false, false, false, false, false, false, false] rfl rfl (any_of HT_.out (by kernel_rfl)) (fun _ _ _ h => h) (Or.inl ⟨by rfl, ?_⟩) ?_ ?_
          rotate_left
          · intro w'
            go_simp
            with_reducible rfl
          rotate_left
          · simp only [Act.put, List.setIfInBounds_toArray, List.set_cons_zero, List.set_cons_succ, i64_w, i32_w]
            rfl
          refine pure_ (i := 3) (N := some 21) (v := ?_) (a' := ?_) #[true, true, true, true, false, false, false, false, false, false, false, false, false, false, false, false, false] rfl rfl (any_of HT_.out (by kernel_rfl)) (fun _ _ _ h => h) (Or.inl ⟨by rfl, ?_⟩) ?_ ?_
          rotate_left
          · intro w'
            go_simp
            with_reducible rfl
          rotate_left
          · simp only [Act.put, List.setIfInBounds_toArray, List.set_cons_zero, List.set_cons_succ, i64_w, i32_w]
            rfl
          refine pure_ (i := 4) (N := some 22) (v := undef) (a' := ?_) #[true, true, true, true, true, false, false, false, false, false, false, false, false, false, false, false, false] rfl rfl (any_of HT_.out (by kernel_rfl)) (fun _ _ _ h => h) (Or.inr ⟨by rfl, rfl⟩) ?_ ?_
          rotate_left
          · simp only [Act.put, List.setIfInBounds_toArray, List.set_cons_zero, List.set_cons_succ, i64_w, i32_w]
            rfl
          refine pure_ (i := 5) (N := some 23) (v := undef) (a' := ?_) #[true, true, true, true, true, true, false, false, false, false, false, false, false, false, false, false, false] rfl rfl (any_of HT_.out (by kernel_rfl)) (fun _ _ _ h => h) (Or.inr ⟨by rfl, rfl⟩) ?_ ?_
          rotate_left
          · simp only [Act.put, List.setIfInBounds_toArray, List.set_cons_zero, List.set_cons_succ, i64_w, i32_w]
            rfl
          refine pure_ (i := 6) (N := some 24) (v := undef) (a' := ?_) #[true, true, true, true, true, true, true, false, false, false, false, false, false, false, false, false, false] rfl rfl (any_of HT_.out (by kernel_rfl)) (fun _ _ _ h => h) (Or.inr ⟨by rfl, rfl⟩) ?_ ?_
          rotate_left
          · simp only [Act.put, List.setIfInBounds_toArray, List.set_cons_zero, List.set_cons_succ, i64_w, i32_w]
            rfl
          refine pure_ (i := 7) (N := some 25) (v := undef) (a' := ?_) #[true, true, true, true, true, true, true, true, false, false, false, false, false, false, false, false, false] rfl rfl (any_of HT_.out (by kernel_rfl)) (fun _ _ _ h => h) (Or.inr ⟨by rfl, rfl⟩) ?_ ?_
          rotate_left
          · simp only [Act.put, List.setIfInBounds_toArray, List.set_cons_zero, List.set_cons_succ, i64_w, i32_w]
            rfl
          refine pure_ (i := 8) (N := some 26) (v := undef) (a' := ?_) #[true, true, true, true, true, true, true, true, true, false, false, false, false, false, false, false, false] rfl rfl (any_of HT_.out (by kernel_rfl)) (fun _ _ _ h => h) (Or.inr ⟨by rfl, rfl⟩) ?_ ?_
          rotate_left
          · simp only [Act.put, List.setIfInBounds_toArray, List.set_cons_zero, List.set_cons_succ, i64_w, i32_w]
            rfl
          refine pure_ (i := 9) (N := some 27) (v := undef) (a' := ?_) #[true, true, true, true, true, true, true, true, true, true, false, false, false, false, false, false, false] rfl rfl (any_of HT_.out (by kernel_rfl)) (fun _ _ _ h => h) (Or.inr ⟨by rfl, rfl⟩) ?_ ?_
          rotate_left
          · simp only [Act.put, List.setIfInBounds_toArray, List.set_cons_zero, List.set_cons_succ, i64_w, i32_w]
            rfl
          refine pure_ (i := 10) (N := some 28) (v := undef) (a' := ?_) #[true, true, true, true, true, true, true, true, true, true, true, false, false, false, false, false, false] rfl rfl (any_of HT_.out (by kernel_rfl)) (fun _ _ _ h => h) (Or.inr ⟨by rfl, rfl⟩) ?_ ?_
          rotate_left
          · simp only [Act.put, List.setIfInBounds_toArray, List.set_cons_zero, List.set_cons_succ, i64_w, i32_w]
            rfl
          refine pure_ (i := 11) (N := some 29) (v := undef) (a' := ?_) #[true, true, true, true, true, true, true, true, true, true, true, true, false, false, false, false, false] rfl rfl (any_of HT_.out (by kernel_rfl)) (fun _ _ _ h => h) (Or.inr ⟨by rfl, rfl⟩) ?_ ?_
          rotate_left
          · simp only [Act.put, List.setIfInBounds_toArray, List.set_cons_zero, List.set_cons_succ, i64_w, i32_w]
            rfl
          refine pure_ (i := 12) (N := some 30) (v := undef) (a' := ?_) #[true, true, true, true, true, true, true, true, true, true, true, true, true, false, false, false, false] rfl rfl (any_of HT_.out (by kernel_rfl)) (fun _ _ _ h => h) (Or.inr ⟨by rfl, rfl⟩) ?_ ?_
          rotate_left
          · simp only [Act.put, List.setIfInBounds_toArray, List.set_cons_zero, List.set_cons_succ, i64_w, i32_w]
            rfl
          refine pure_ (i := 13) (N := some 31) (v := undef) (a' := ?_) #[true, true, true, true, true, true, true, true, true, true, true, true, true, true, false, false, false] rfl rfl (any_of HT_.out (by kernel_rfl)) (fun _ _ _ h => h) (Or.inr ⟨by rfl, rfl⟩) ?_ ?_
          rotate_left
          · simp only [Act.put, List.setIfInBounds_toArray, List.set_cons_zero, List.set_cons_succ, i64_w, i32_w]
            rfl
          refine pure_ (i := 14) (N := some 32) (v := undef) (a' := ?_) #[true, true, true, true, true, true, true, true, true, true, true, true, true, true, true, false, false] rfl rfl (any_of HT_.out (by kernel_rfl)) (fun _ _ _ h => h) (Or.inr ⟨by rfl, rfl⟩) ?_ ?_
          rotate_left
          · simp only [Act.put, List.setIfInBounds_toArray, List.set_cons_zero, List.set_cons_succ, i64_w, i32_w]
            rfl
          refine pure_ (i := 15) (N := some 33) (v := undef) (a' := ?_) #[true, true, true, true, true, true, true, true, true, true, true, true, true, true, true, true, false] rfl rfl (any_of HT_.out (by kernel_rfl)) (fun _ _ _ h => h) (Or.inr ⟨by rfl, rfl⟩) ?_ ?_
          rotate_left
          · simp only [Act.put, List.setIfInBounds_toArray, List.set_cons_zero, List.set_cons_succ, i64_w, i32_w]
            rfl
          refine pure_ (i := 16) (N := some 34) (v := ?_) (a' := ?_) #[true, true, true, true, true, true, true, true, true, true, true, true, true, true, true, true, true] rfl rfl (any_of HT_.out (by kernel_rfl)) (fun _ _ _ h => h) (Or.inl ⟨by rfl, ?_⟩) ?_ ?_
          rotate_left
          · intro w'
            go_simp
            with_reducible rfl
          rotate_left
          · simp only [Act.put, List.setIfInBounds_toArray, List.set_cons_zero, List.set_cons_succ, i64_w, i32_w]
            rfl
          refine done_ (done_of HT_.out (by kernel_rfl)) ?_
          go_wp2_with fail
          go_roundg (n - (i + 1))
          case measure => omega
          case rel => exact ⟨i + 1, rfl, rfl, by omega, by omega, by rw [Nat.add_sub_cancel, ← HKE.out]; exact HD⟩
    · have hie : i - 1 = n - 1 := by omega
      rw [hie] at HI
      clear hie
      go_wp2_with fail
      first
        | refine bodyPost_end (results_none rfl _ _ _) rfl ?_
        | refine bodyPost_ret (v := .tuple #[]) (by simp [results, Tryd.results114, go_sem]) rfl ?_
      exact ⟨rfl, HI.out⟩

set_option maxRecDepth 10000 in
set_option maxHeartbeats 2000000 in
theorem stable_any {w : World} {g o c0 : Nat} {xs : List ByteArray} {cmp : ByteArray → ByteArray → Int} {cap : Value} (h0 : IS w w g o xs) (hc0 : xs.length ≤ c0) (hn : xs.length < 20)
    (hC : ∀ V, Keeps (fun i => i = g) w V → ∀ a b, Calls Tryd.prog 74 #[.string a, .string b, cap] V fun e V' => e = .returned (.int .i64 (cmp a b)) ∧ Below V.heap.size V V') :
    Calls Tryd.prog 98 #[.slice (some ⟨g, o, none⟩) xs.length c0, .int .i64 xs.length, .func (.func 74) #[] #[cap]] w fun e w' => e = .returned (.tuple #[]) ∧ IS w w' g o (sortC cmp xs) := by
  have HI := hid (ins_any h0 hc0 (by omega) hC)
  clear h0 hC
  have b1 : decide ((20 : Int) ≤ (xs.length : Int)) = false := decide_eq_false (by omega)
  have b2 : decide ((20 : Int) < (xs.length : Int)) = false := decide_eq_false (by omega)
  have n1 : ¬ (20 : Int) ≤ (xs.length : Int) := by omega
  have n2 : ¬ (20 : Int) < (xs.length : Int) := by omega
  generalize xs.length = n at *
  go_enter Tryd.func98, Tryd.ntmps98
  go_wp2_with fail
  go_loopg [7, 8] 1 (fun q s7 s8 wr => s7 = .int .i64 0 ∧ s8 = .int .i64 20 ∧ w = wr)
  case atStart => exact ⟨rfl, rfl, rfl⟩
  case round =>
    obtain ⟨rfl, rfl, rfl⟩ := hrel
    go_wp2_with (go_at_call 114; go_must (with_reducible refine HI.out.mono ?_); rintro e w1 ⟨rfl, hI⟩; have HI2 := hid hI; clear hI)
    go_loopg [6] 1 (fun q s6 wr => s6 = .int .i64 20 ∧ w1 = wr)
    case atStart => exact ⟨rfl, rfl⟩
    case round =>
      obtain ⟨rfl, rfl⟩ := hrel
      go_wp2_with fail
      first
        | refine bodyPost_end (results_none rfl _ _ _) rfl ?_
        | refine bodyPost_ret (v := .tuple #[]) (by simp [results, Tryd.results98, go_sem]) rfl ?_
      exact ⟨rfl, HI2.out⟩
set_option maxRecDepth 10000 in
theorem sort_any {w : World} {g o c0 : Nat} {xs : List ByteArray} {cmp : ByteArray → ByteArray → Int} {cap : Value} (h0 : IS w w g o xs) (hc0 : xs.length ≤ c0) (hn : xs.length < 20)
    (hC : ∀ V, Keeps (fun i => i = g) w V → ∀ a b, Calls Tryd.prog 74 #[.string a, .string b, cap] V fun e V' => e = .returned (.int .i64 (cmp a b)) ∧ Below V.heap.size V V') :
    Calls Tryd.prog 73 #[.slice (some ⟨g, o, none⟩) xs.length c0, .func (.func 74) #[] #[cap]] w fun e w' => e = .returned (.tuple #[]) ∧ IS w w' g o (sortC cmp xs) := by
  have HI := hid (stable_any h0 hc0 hn hC)
  clear h0 hC
  generalize xs.length = n at *
  go_enter Tryd.func73, Tryd.ntmps73
  go_wp2_with (go_at_call 98; go_must (with_reducible refine HI.out.mono ?_); rintro e w1 ⟨rfl, hI⟩; have HI2 := hid hI; clear hI)
  first
    | refine bodyPost_end (results_none rfl _ _ _) rfl ?_
    | refine bodyPost_ret (v := .tuple #[]) (by simp [results, Tryd.results73, go_sem]) rfl ?_
  exact ⟨rfl, HI2.out⟩
end Go.Proofs.YtmgcapccgncmkaaDoor.Im
