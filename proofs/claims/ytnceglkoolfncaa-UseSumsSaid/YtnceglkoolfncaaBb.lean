/- Probes: Ask. -/
import Derived.Test.YtnceglkoolfncaaBa
import Derived.Test.YtnceglkoolfncaaWTab
set_option linter.unusedSimpArgs false
set_option linter.unusedVariables false
namespace Go.Proofs.Ytnceglkoolfncaa.Pr
open Go.RowKit Go.Pv Go.Proofs.Ytnceglkoolfncaa.Po Go.Proofs.YtnceglkoolfncaaW.PrintWords Go.Proofs.YtnceglkoolfncaaW.PrintLast
def ask2.T : Bool × List (List Nat × List Nat) := (true, [([], []), ([0], [0]), ([1], [1]), ([2], [2]), ([], []), ([3, 4], [3, 4]), ([5], [5]), ([6], [6]), ([6], [6]), ([], []), ([9, 7, 0, 1, 2, 3, 4, 5, 6, 7, 9], [7, 9]), ([8, 10, 0, 1, 2, 3, 4, 5, 6, 7, 8, 9, 10], [8])])
def ask2.B : List Nat := [0, 1, 3, 7, 0, 31, 63, 127, 127, 0, 767, 2047]
theorem ask2.tab : rtab .any (opsOf Try.f64 2) = ask2.T := by kernel_rfl
theorem ask2.bits : waitsOk ask2.T.2 ask2.B = true := by kernel_rfl

/-- What comes of asking: the state behind it. -/
def askedS (s : PS) (bad : Bool) (now : Int) : PS := (s.1, s.2.1, now + s.1, if bad then s.2.2.2 + 1 else 0)
def askB (k : Int × Int) (bad : Bool) (now : Int) (al : AL) : Bool := match aget k al with
  | none => false
  | some s => if now < s.2.2.1 then false else sickB (askedS s bad now)
def askA (k : Int × Int) (bad : Bool) (now : Int) (al : AL) : AL := match aget k al with
  | none => al
  | some s => if now < s.2.2.1 then al else aset k (askedS s bad now) al

/-- A state whose numbers are small. -/
def SmallS (s : PS) : Prop := -1000 ≤ s.1 ∧ s.1 ≤ 1000 ∧ 0 ≤ s.2.2.2 ∧ s.2.2.2 ≤ 1000000

set_option maxRecDepth 10000 in
set_option maxHeartbeats 4000000 in
theorem ask_any {w : World} {p mb : Nat} {al : AL} (h : PBk w p mb al) (b c : Int) (bad : Bool) (now : Int) (hn : 0 ≤ now ∧ now ≤ 1000000) (hs : ∀ r ∈ al, SmallS r.2) :
    Calls Try.prog 64 #[.pointer (some ⟨p, 0, none⟩), .int .i64 b, .int .i64 c, .bool bad, .int .i64 now] w fun r w' => r = .returned (.bool (askB (b, c) bad now al)) ∧ PBk w' p mb (askA (b, c) bad now al) ∧ Keeps (fun i => i = mb) w w' := by
  obtain ⟨⟨e, f, n, d⟩, hsd⟩ : ∃ s, s = (aget (b, c) al).getD (0, 0, 0, 0) := ⟨_, rfl⟩
  obtain ⟨ok, hok⟩ : ∃ ok, ok = (aget (b, c) al).isSome := ⟨_, rfl⟩
  obtain ⟨W1, hW1⟩ : ∃ W1, W1 = w.alloc (.cells #[.int .i64 b, .int .i64 c] 208) := ⟨_, rfl⟩
  have k1 : Below w.heap.size w W1 := by rw [hW1]; exact (Below.refl _ w).alloc (Nat.le_refl _) _
  have n1 : W1.heap[w.heap.size]? = some (.cells #[.int .i64 b, .int .i64 c] 208 (0, 0)) := by rw [hW1]; exact heap_at w _ _ rfl
  obtain ⟨Wd, hWd⟩ : ∃ Wd, Wd = W1.drew := ⟨_, rfl⟩
  have kd : Below w.heap.size w Wd := by rw [hWd]; exact k1.drew
  have nd : Wd.heap[w.heap.size]? = some (.cells #[.int .i64 b, .int .i64 c] 208 (0, 0)) := by rw [hWd]; exact n1
  have hd := h.below kd
  obtain ⟨W2, hW2⟩ : ∃ W2, W2 = Wd.alloc (.cells #[.int .i64 0, .int .i64 0, .int .i64 0, .int .i64 0] 210) := ⟨_, rfl⟩
  obtain ⟨W3, hW3⟩ : ∃ W3, W3 = (((W2.setCell ⟨Wd.heap.size, 0, none⟩ (.int .i64 e)).setCell ⟨Wd.heap.size, 1, none⟩ (.int .i64 f)).setCell ⟨Wd.heap.size, 2, none⟩ (.int .i64 n)).setCell ⟨Wd.heap.size, 3, none⟩ (.int .i64 d) := ⟨_, rfl⟩
  have k2 : Below Wd.heap.size Wd W2 := by rw [hW2]; exact (Below.refl _ Wd).alloc (Nat.le_refl _) _
  have k3 : Below Wd.heap.size Wd W3 := by rw [hW3]; exact (((k2.setCell (Nat.le_refl _) _).setCell (Nat.le_refl _) _).setCell (Nat.le_refl _) _).setCell (Nat.le_refl _) _
  have m2 : W2.heap[Wd.heap.size]? = some (.cells #[.int .i64 0, .int .i64 0, .int .i64 0, .int .i64 0] 210 (0, 0)) := by rw [hW2]; exact heap_at Wd _ _ rfl
  have m3 : W3.heap[Wd.heap.size]? = some (.cells #[.int .i64 e, .int .i64 f, .int .i64 n, .int .i64 d] 210 (0, 0)) := by
    rw [hW3]
    have e1 := heap_setCell_same W2 Wd.heap.size 0 _ 210 (.int .i64 e) m2
    have e2 := heap_setCell_same _ Wd.heap.size 1 _ 210 (.int .i64 f) e1
    have e3 := heap_setCell_same _ Wd.heap.size 2 _ 210 (.int .i64 n) e2
    exact heap_setCell_same _ Wd.heap.size 3 _ 210 (.int .i64 d) e3
  have HS := hid (show ∀ V, Below Wd.heap.size Wd V → (fun V : World => V.cell? ⟨p, 0, none⟩ = some (.map (some mb)) ∧ V.cell? ⟨w.heap.size, 0, none⟩ = some (.int .i64 b) ∧ V.cell? ⟨w.heap.size, 1, none⟩ = some (.int .i64 c) ∧ (Instr.lookup 203 (.map (some mb)) (.agg #[.int .i64 b, .int .i64 c]) true).run Try.prog V = .ok (.tuple #[.agg #[.int .i64 e, .int .i64 f, .int .i64 n, .int .i64 d], .bool ok]) V) V from fun V hV => by
    have hv := hd.below hV
    have nv := (hV.block w.heap.size (Array.getElem?_eq_some_iff.1 nd).1).trans nd
    have hl := hv.look_ok (b, c)
    rw [← hsd, ← hok] at hl
    exact ⟨hv.c0, by rw [cell_of_row V _ 0 _ _ _ nv]; rfl, by rw [cell_of_row V _ 1 _ _ _ nv]; rfl, hl⟩)
  have hz : Wd.heap.size = w.heap.size + 1 := by rw [hWd, hW1]; simp
  have z2 : ∀ j, W2.frozen? ⟨Wd.heap.size, j, none⟩ = false := fun j => by simp [World.frozen?, m2]
  have y0 : W2.cell? ⟨Wd.heap.size, 0, none⟩ = some (.int .i64 0) := by rw [cell_of_row W2 _ 0 _ _ _ m2]; rfl
  have y1 : W2.cell? ⟨Wd.heap.size, 1, none⟩ = some (.int .i64 0) := by rw [cell_of_row W2 _ 1 _ _ _ m2]; rfl
  have y2 : W2.cell? ⟨Wd.heap.size, 2, none⟩ = some (.int .i64 0) := by rw [cell_of_row W2 _ 2 _ _ _ m2]; rfl
  have y3 : W2.cell? ⟨Wd.heap.size, 3, none⟩ = some (.int .i64 0) := by rw [cell_of_row W2 _ 3 _ _ _ m2]; rfl
  have z20 := z2 0
  have z21 := z2 1
  have z22 := z2 2
  have z23 := z2 3
  have HW1 := hid hW1
  have HWD := hid hWd
  have HW2 := hid hW2
  have HW3 := hid hW3
  have HK2 := hid k2
  have HK3 := hid k3
  have HM3 := hid m3
  have HD3 := hid (hd.below k3)
  have HKD := hid kd
  have HND := hid nd
  have HSD := hid hsd
  have HOK := hid hok
  have HSM := hid hs
  have HZ := hid hz
  clear z2 hsd hok hs hW1 hWd hW2 hW3 k1 k2 k3 n1 nd hd m2 m3 h kd hz
  go_enter Try.func64, Try.ntmps64
  go_upto_region 2 with fail
  rw [← HW1.out]
  refine start_ (n := 12) (S := fun V : World => V.cell? ⟨p, 0, none⟩ = some (.map (some mb)) ∧ V.cell? ⟨w.heap.size, 0, none⟩ = some (.int .i64 b) ∧ V.cell? ⟨w.heap.size, 1, none⟩ = some (.int .i64 c) ∧ (Instr.lookup 203 (.map (some mb)) (.agg #[.int .i64 b, .int .i64 c]) true).run Try.prog V = .ok (.tuple #[.agg #[.int .i64 e, .int .i64 f, .int .i64 n, .int .i64 d], .bool ok]) V) (ds := []) #[false, false, false, false, false, false, false, false, false, false, false, false] (by kernel_rfl) rfl rfl (by rw [← HWD.out]; exact HS.out _ (Below.refl _ _)) (fun hHeld => ?_); refine with_tabW ask2.tab ask2.bits (fun HT_ HW_ => ?_)
  rw [← HWD.out] at hHeld ⊢
  refine pure_ (i := 0) (N := some 18) (v := ?_) (a' := ?_) #[true, false, false, false, false, false, false, false, false, false, false, false] rfl rfl (any_of HT_.out (by kernel_rfl)) (fun _ _ _ h => h) (Or.inl ⟨by rfl, ?_⟩) ?_ ?_
  rotate_left
  · intro w'
    go_simp
    with_reducible rfl
  rotate_left
  · simp only [Act.put, List.setIfInBounds_toArray, List.set_cons_zero, List.set_cons_succ, i64_w, i32_w]
    rfl
  refine pure_ (i := 1) (N := some 19) (v := ?_) (a' := ?_) #[true, true, false, false, false, false, false, false, false, false, false, false] rfl rfl (any_of HT_.out (by kernel_rfl)) (fun _ _ _ h => h) (Or.inl ⟨by rfl, ?_⟩) ?_ ?_
  rotate_left
  · intro w'
    go_simp
    with_reducible rfl
  rotate_left
  · simp only [Act.put, List.setIfInBounds_toArray, List.set_cons_zero, List.set_cons_succ, i64_w, i32_w]
    rfl
  refine pure_ (i := 2) (N := some 20) (v := ?_) (a' := ?_) #[true, true, true, false, false, false, false, false, false, false, false, false] rfl rfl (any_of HT_.out (by kernel_rfl)) (fun _ _ _ h => h) (Or.inl ⟨by rfl, ?_⟩) ?_ ?_
  rotate_left
  · intro w'
    go_simp
    with_reducible rfl
  rotate_left
  · simp only [Act.put, List.setIfInBounds_toArray, List.set_cons_zero, List.set_cons_succ, i64_w, i32_w]
    rfl
  refine take_ (i := 3) (N := some 21) (v := ?_) (a' := ?_) #[true, true, true, true, false, false, false, false, false, false, false, false] rfl rfl (take_ofW HT_.out HW_.out (by kernel_rfl)) (fun _ _ _ h => h) (Or.inl ⟨by rfl, ?_⟩) hHeld ?_ ?_
  rotate_left
  · rintro w' ⟨s0, s1, s2, s3⟩
    go_simp
    with_reducible rfl
  rotate_left
  · simp only [Act.put, List.setIfInBounds_toArray, List.set_cons_zero, List.set_cons_succ, i64_w, i32_w]
    rfl
  refine take_ (i := 4) (N := some 22) (v := ?_) (a' := ?_) #[true, true, true, true, true, false, false, false, false, false, false, false] rfl rfl (take_ofW HT_.out HW_.out (by kernel_rfl)) (fun _ _ _ h => h) (Or.inl ⟨by rfl, ?_⟩) hHeld ?_ ?_
  rotate_left
  · rintro w' ⟨s0, s1, s2, s3⟩
    go_simp
    with_reducible rfl
  rotate_left
  · simp only [Act.put, List.setIfInBounds_toArray, List.set_cons_zero, List.set_cons_succ, i64_w, i32_w]
    rfl
  refine take_ (i := 5) (N := some 23) (v := ?_) (a' := ?_) #[true, true, true, true, true, true, false, false, false, false, false, false] rfl rfl (take_ofW HT_.out HW_.out (by kernel_rfl)) (fun _ _ _ h => h) (Or.inl ⟨by rfl, ?_⟩) hHeld ?_ ?_
  rotate_left
  · rintro w' ⟨s0, s1, s2, s3⟩
    go_simp
    with_reducible rfl
  rotate_left
  · simp only [Act.put, List.setIfInBounds_toArray, List.set_cons_zero, List.set_cons_succ, i64_w, i32_w]
    rfl
  refine pure_ (i := 6) (N := some 17) (v := ?_) (a' := ?_) #[true, true, true, true, true, true, true, false, false, false, false, false] rfl rfl (any_of HT_.out (by kernel_rfl)) (fun _ _ _ h => h) (Or.inl ⟨by rfl, ?_⟩) ?_ ?_
  rotate_left
  · intro w'
    go_simp
    with_reducible rfl
  rotate_left
  · simp only [Act.put, List.setIfInBounds_toArray, List.set_cons_zero, List.set_cons_succ, i64_w, i32_w]
    rfl
  refine pure_ (i := 7) (N := some 24) (v := ?_) (a' := ?_) #[true, true, true, true, true, true, true, true, false, false, false, false] rfl rfl (any_of HT_.out (by kernel_rfl)) (fun _ _ _ h => h) (Or.inl ⟨by rfl, ?_⟩) ?_ ?_
  rotate_left
  · intro w'
    go_simp
    with_reducible rfl
  rotate_left
  · simp only [Act.put, List.setIfInBounds_toArray, List.set_cons_zero, List.set_cons_succ, i64_w, i32_w]
    rfl
  refine pure_ (i := 8) (N := some 25) (v := ?_) (a' := ?_) #[true, true, true, true, true, true, true, true, true, false, false, false] rfl rfl (any_of HT_.out (by kernel_rfl)) (fun _ _ _ h => h) (Or.inl ⟨by rfl, ?_⟩) ?_ ?_
  rotate_left
  · intro w'
    go_simp
    with_reducible rfl
  rotate_left
  · simp only [Act.put, List.setIfInBounds_toArray, List.set_cons_zero, List.set_cons_succ, i64_w, i32_w]
    rfl
  refine one_ (i := 9) (N := some 12) #[true, true, true, true, true, true, true, true, true, true, false, false] rfl rfl (one_of HT_.out (by kernel_rfl)) (by decide) (fun K hK => ?_)
  refine value_ (v := .pointer (some ⟨Wd.heap.size, 0, none⟩)) (w1 := W2) (by rfl) rfl (by rw [HW2.out]; go_simp) ?_
  refine hK.out _ _ (HS.out _ HK2.out) (fun hHeld => ?_)
  clear hK K
  refine norm_ (a' := ?_) ?_ ?_
  rotate_left
  · show Act.put _ (some 12) _ = _
    simp only [Act.put, List.setIfInBounds_toArray, List.set_cons_zero, List.set_cons_succ, i64_w, i32_w]
    rfl
  refine one_ (i := 10) (N := none) #[true, true, true, true, true, true, true, true, true, true, true, false] rfl rfl (one_of HT_.out (by kernel_rfl)) (by decide) (fun K hK => ?_)
  refine skip_ (w1 := W3) (by rfl) rfl (by rw [HW3.out]; go_simp) ?_
  refine hK.out _ _ (HS.out _ HK3.out) (fun hHeld => ?_)
  clear hK K
  refine pure_ (i := 11) (N := some 13) (v := ?_) (a' := ?_) #[true, true, true, true, true, true, true, true, true, true, true, true] rfl rfl (any_of HT_.out (by kernel_rfl)) (fun _ _ _ h => h) (Or.inl ⟨by rfl, ?_⟩) ?_ ?_
  rotate_left
  · intro w'
    go_simp
    with_reducible rfl
  rotate_left
  · simp only [Act.put, List.setIfInBounds_toArray, List.set_cons_zero, List.set_cons_succ, i64_w, i32_w]
    rfl
  refine done_ (done_of HT_.out (by kernel_rfl)) ?_
  clear y0 y1 y2 y3 z20 z21 z22 z23
  have b0 : W3.cell? ⟨Wd.heap.size, 0, none⟩ = some (.int .i64 e) := by rw [cell_of_row W3 _ 0 _ _ _ HM3.out]; rfl
  have b2 : W3.cell? ⟨Wd.heap.size, 2, none⟩ = some (.int .i64 n) := by rw [cell_of_row W3 _ 2 _ _ _ HM3.out]; rfl
  have b3 : W3.cell? ⟨Wd.heap.size, 3, none⟩ = some (.int .i64 d) := by rw [cell_of_row W3 _ 3 _ _ _ HM3.out]; rfl
  have g2 : W3.frozen? ⟨Wd.heap.size, 2, none⟩ = false := by simp [World.frozen?, HM3.out]
  have g3 : W3.frozen? ⟨Wd.heap.size, 3, none⟩ = false := by simp [World.frozen?, HM3.out]
  have HK03 := hid (show Keeps (fun i => i = mb) w W3 from Keeps.of_below (HKD.out.trans (HK3.out.mono HKD.out.size)))
  cases ok with
  | false =>
    go_wp2
    go_ret
    have hn0 : aget (b, c) al = none := by
      have := HOK.out
      cases h : aget (b, c) al with
      | none => rfl
      | some x => rw [h] at this; cases this
    exact ⟨by simp [askB, hn0], by simp only [askA, hn0]; exact HD3.out, HK03.out⟩
  | true =>
    have hsome : aget (b, c) al = some (e, f, n, d) := by
      have h1 := HOK.out
      have h2 := HSD.out
      cases h : aget (b, c) al with
      | none => rw [h] at h1; cases h1
      | some x => rw [h] at h2; simp at h2; rw [h2]
    have hsm := HSM.out _ (aget_mem hsome)
    obtain ⟨m1, m2, m3, m4⟩ := hsm
    simp only at m1 m2 m3 m4
    have HSOME := hid hsome
    clear hsome
    by_cases hnx : now < n
    · have hdx : decide (now < n) = true := by simpa using hnx
      have HX := hid hnx
      clear hnx
      go_wp2
      go_ret
      exact ⟨by simp [askB, HSOME.out, HX.out], by simp only [askA, HSOME.out]; rw [if_pos HX.out]; exact HD3.out, HK03.out⟩
    · have hdx : decide (now < n) = false := by simpa using hnx
      have HX := hid hnx
      clear hnx
      have w1 : IntKind.i64.wrap (d + 1) = d + 1 := IntWalk.i64_in _ (by omega)
      have w2 : IntKind.i64.wrap (now + e) = now + e := IntWalk.i64_in _ (by omega)
      have W1' := hid (And.intro w1 w2)
      cases bad with
      | false =>
        obtain ⟨W4, hW4⟩ : ∃ W4, W4 = ((W3.setCell ⟨Wd.heap.size, 3, none⟩ (.int .i64 (d + 1))).setCell ⟨Wd.heap.size, 3, none⟩ (.int .i64 0)).setCell ⟨Wd.heap.size, 2, none⟩ (.int .i64 (now + e)) := ⟨_, rfl⟩
        have k4 : Keeps (fun i => i = Wd.heap.size) W3 W4 := by rw [hW4]; exact (((Keeps.refl (fun i => i = Wd.heap.size) W3).setCell ⟨Wd.heap.size, 3, none⟩ _ (.inl rfl)).setCell ⟨Wd.heap.size, 3, none⟩ _ (.inl rfl)).setCell ⟨Wd.heap.size, 2, none⟩ _ (.inl rfl)
        have m4 : W4.heap[Wd.heap.size]? = some (.cells #[.int .i64 e, .int .i64 f, .int .i64 (now + e), .int .i64 (0)] 210 (0, 0)) := by
          rw [hW4]
          have e1 := heap_setCell_same W3 Wd.heap.size 3 _ 210 (.int .i64 (d + 1)) HM3.out
          have e2 := heap_setCell_same _ Wd.heap.size 3 _ 210 (.int .i64 0) e1
          exact heap_setCell_same _ Wd.heap.size 2 _ 210 (.int .i64 (now + e)) e2
        have hlt := HD3.out.lt
        have hz := HZ.out
        have hd4 : PBk W4 p mb al := HD3.out.kept k4 (fun e => by have h1 := HD3.out.cell; rw [e, HM3.out] at h1; cases h1) (fun e => by obtain ⟨es, clock, hb, _⟩ := HD3.out.map; rw [e, HM3.out] at hb; cases hb)
        obtain ⟨W5, hr5, h5, k5, -⟩ := PBk.set (w := W4.drew) (hd4.below (Below.refl _ W4).drew) (b, c) (e, f, now + e, 0)
        have hqm : Wd.heap.size ≠ mb := fun e => by obtain ⟨es, clock, hb, _⟩ := HD3.out.map; rw [← e, HM3.out] at hb; cases hb
        have m5 : W5.heap[Wd.heap.size]? = _ := (k5.block Wd.heap.size (Array.getElem?_eq_some_iff.1 m4).1 hqm).trans m4
        have n4 : W4.heap[w.heap.size]? = some (.cells #[.int .i64 b, .int .i64 c] 208 (0, 0)) := by
          have h3 := (HK3.out.block w.heap.size (by omega)).trans HND.out
          exact (k4.block w.heap.size (Array.getElem?_eq_some_iff.1 h3).1 (by omega)).trans h3
        have kfin : Keeps (fun i => i = mb) w W5 := by
          have h3 : Keeps (fun i => i = Wd.heap.size ∨ i = mb) w W5 := ((HK03.out.mono (fun i h => .inr h)).trans k4 (fun i h => .inl (.inl h))).drew.trans k5 (fun i h => .inl (.inr h))
          exact ⟨h3.os, h3.tape, h3.output, h3.size, fun i hi hn => h3.block i hi (fun h => h.elim (fun e => by omega) hn)⟩
        have c40 := hd4.c0
        have c41 : W4.cell? ⟨w.heap.size, 0, none⟩ = some (.int .i64 b) := by rw [cell_of_row W4 _ 0 _ _ _ n4]; rfl
        have c42 : W4.cell? ⟨w.heap.size, 1, none⟩ = some (.int .i64 c) := by rw [cell_of_row W4 _ 1 _ _ _ n4]; rfl
        have q0 : W4.cell? ⟨Wd.heap.size, 0, none⟩ = some (.int .i64 e) := by rw [cell_of_row W4 _ 0 _ _ _ m4]; rfl
        have q1 : W4.cell? ⟨Wd.heap.size, 1, none⟩ = some (.int .i64 f) := by rw [cell_of_row W4 _ 1 _ _ _ m4]; rfl
        have q2 : W4.cell? ⟨Wd.heap.size, 2, none⟩ = some (.int .i64 (now + e)) := by rw [cell_of_row W4 _ 2 _ _ _ m4]; rfl
        have q3 : W4.cell? ⟨Wd.heap.size, 3, none⟩ = some (.int .i64 (0)) := by rw [cell_of_row W4 _ 3 _ _ _ m4]; rfl
        have p0 : W5.cell? ⟨Wd.heap.size, 0, none⟩ = some (.int .i64 e) := by rw [cell_of_row W5 _ 0 _ _ _ m5]; rfl
        have p1 : W5.cell? ⟨Wd.heap.size, 1, none⟩ = some (.int .i64 f) := by rw [cell_of_row W5 _ 1 _ _ _ m5]; rfl
        have p2 : W5.cell? ⟨Wd.heap.size, 2, none⟩ = some (.int .i64 (now + e)) := by rw [cell_of_row W5 _ 2 _ _ _ m5]; rfl
        have p3 : W5.cell? ⟨Wd.heap.size, 3, none⟩ = some (.int .i64 (0)) := by rw [cell_of_row W5 _ 3 _ _ _ m5]; rfl
        unfold kp psv at hr5
        have HR5 := hid hr5
        have HW4 := hid hW4
        have HP := hid (And.intro h5 kfin)
        have HS5 := hid (sick_any (e, f, now + e, 0) W5)
        unfold psv at HS5
        clear hr5 hW4 h5 kfin k5 m5 n4 k4 m4 hd4 hlt hz hqm
        go_upto_region 9 with fail
        rw [← HW4.out]
        go_still_tail 6, (by kernel_rfl)
        change wpList _ _ _ _ _ _
        go_wp2_with (first
          | (at_mapUpdate; refine wl_mapUpdate rfl _ _ _ _ rfl ⟨_, HR5.out, ?_⟩)
          | (go_at_call 118; go_must (with_reducible refine HS5.out.mono ?_); rintro r w6 ⟨rfl, hb6⟩; have HB6 := hid hb6; clear hb6))
        go_ret
        refine ⟨?_, ?_, HP.out.2.trans (Keeps.of_below HB6.out) (fun i h => .inl h)⟩
        · simp only [askB, HSOME.out]; rw [if_neg (by have := HX.out; omega)]; rfl
        · simp only [askA, HSOME.out]; rw [if_neg (by have := HX.out; omega)]; exact HP.out.1.below HB6.out
      | true =>
        obtain ⟨W4, hW4⟩ : ∃ W4, W4 = (W3.setCell ⟨Wd.heap.size, 3, none⟩ (.int .i64 (d + 1))).setCell ⟨Wd.heap.size, 2, none⟩ (.int .i64 (now + e)) := ⟨_, rfl⟩
        have k4 : Keeps (fun i => i = Wd.heap.size) W3 W4 := by rw [hW4]; exact ((Keeps.refl (fun i => i = Wd.heap.size) W3).setCell ⟨Wd.heap.size, 3, none⟩ _ (.inl rfl)).setCell ⟨Wd.heap.size, 2, none⟩ _ (.inl rfl)
        have m4 : W4.heap[Wd.heap.size]? = some (.cells #[.int .i64 e, .int .i64 f, .int .i64 (now + e), .int .i64 (d + 1)] 210 (0, 0)) := by
          rw [hW4]
          have e1 := heap_setCell_same W3 Wd.heap.size 3 _ 210 (.int .i64 (d + 1)) HM3.out
          exact heap_setCell_same _ Wd.heap.size 2 _ 210 (.int .i64 (now + e)) e1
        have hlt := HD3.out.lt
        have hz := HZ.out
        have hd4 : PBk W4 p mb al := HD3.out.kept k4 (fun e => by have h1 := HD3.out.cell; rw [e, HM3.out] at h1; cases h1) (fun e => by obtain ⟨es, clock, hb, _⟩ := HD3.out.map; rw [e, HM3.out] at hb; cases hb)
        obtain ⟨W5, hr5, h5, k5, -⟩ := PBk.set (w := W4.drew) (hd4.below (Below.refl _ W4).drew) (b, c) (e, f, now + e, d + 1)
        have hqm : Wd.heap.size ≠ mb := fun e => by obtain ⟨es, clock, hb, _⟩ := HD3.out.map; rw [← e, HM3.out] at hb; cases hb
        have m5 : W5.heap[Wd.heap.size]? = _ := (k5.block Wd.heap.size (Array.getElem?_eq_some_iff.1 m4).1 hqm).trans m4
        have n4 : W4.heap[w.heap.size]? = some (.cells #[.int .i64 b, .int .i64 c] 208 (0, 0)) := by
          have h3 := (HK3.out.block w.heap.size (by omega)).trans HND.out
          exact (k4.block w.heap.size (Array.getElem?_eq_some_iff.1 h3).1 (by omega)).trans h3
        have kfin : Keeps (fun i => i = mb) w W5 := by
          have h3 : Keeps (fun i => i = Wd.heap.size ∨ i = mb) w W5 := ((HK03.out.mono (fun i h => .inr h)).trans k4 (fun i h => .inl (.inl h))).drew.trans k5 (fun i h => .inl (.inr h))
          exact ⟨h3.os, h3.tape, h3.output, h3.size, fun i hi hn => h3.block i hi (fun h => h.elim (fun e => by omega) hn)⟩
        have c40 := hd4.c0
        have c41 : W4.cell? ⟨w.heap.size, 0, none⟩ = some (.int .i64 b) := by rw [cell_of_row W4 _ 0 _ _ _ n4]; rfl
        have c42 : W4.cell? ⟨w.heap.size, 1, none⟩ = some (.int .i64 c) := by rw [cell_of_row W4 _ 1 _ _ _ n4]; rfl
        have q0 : W4.cell? ⟨Wd.heap.size, 0, none⟩ = some (.int .i64 e) := by rw [cell_of_row W4 _ 0 _ _ _ m4]; rfl
        have q1 : W4.cell? ⟨Wd.heap.size, 1, none⟩ = some (.int .i64 f) := by rw [cell_of_row W4 _ 1 _ _ _ m4]; rfl
        have q2 : W4.cell? ⟨Wd.heap.size, 2, none⟩ = some (.int .i64 (now + e)) := by rw [cell_of_row W4 _ 2 _ _ _ m4]; rfl
        have q3 : W4.cell? ⟨Wd.heap.size, 3, none⟩ = some (.int .i64 (d + 1)) := by rw [cell_of_row W4 _ 3 _ _ _ m4]; rfl
        have p0 : W5.cell? ⟨Wd.heap.size, 0, none⟩ = some (.int .i64 e) := by rw [cell_of_row W5 _ 0 _ _ _ m5]; rfl
        have p1 : W5.cell? ⟨Wd.heap.size, 1, none⟩ = some (.int .i64 f) := by rw [cell_of_row W5 _ 1 _ _ _ m5]; rfl
        have p2 : W5.cell? ⟨Wd.heap.size, 2, none⟩ = some (.int .i64 (now + e)) := by rw [cell_of_row W5 _ 2 _ _ _ m5]; rfl
        have p3 : W5.cell? ⟨Wd.heap.size, 3, none⟩ = some (.int .i64 (d + 1)) := by rw [cell_of_row W5 _ 3 _ _ _ m5]; rfl
        unfold kp psv at hr5
        have HR5 := hid hr5
        have HW4 := hid hW4
        have HP := hid (And.intro h5 kfin)
        have HS5 := hid (sick_any (e, f, now + e, d + 1) W5)
        unfold psv at HS5
        clear hr5 hW4 h5 kfin k5 m5 n4 k4 m4 hd4 hlt hz hqm
        go_upto_region 9 with fail
        rw [← HW4.out]
        go_still_tail 6, (by kernel_rfl)
        change wpList _ _ _ _ _ _
        go_wp2_with (first
          | (at_mapUpdate; refine wl_mapUpdate rfl _ _ _ _ rfl ⟨_, HR5.out, ?_⟩)
          | (go_at_call 118; go_must (with_reducible refine HS5.out.mono ?_); rintro r w6 ⟨rfl, hb6⟩; have HB6 := hid hb6; clear hb6))
        go_ret
        refine ⟨?_, ?_, HP.out.2.trans (Keeps.of_below HB6.out) (fun i h => .inl h)⟩
        · simp only [askB, HSOME.out]; rw [if_neg (by have := HX.out; omega)]; rfl
        · simp only [askA, HSOME.out]; rw [if_neg (by have := HX.out; omega)]; exact HP.out.1.below HB6.out
end Go.Proofs.Ytnceglkoolfncaa.Pr
