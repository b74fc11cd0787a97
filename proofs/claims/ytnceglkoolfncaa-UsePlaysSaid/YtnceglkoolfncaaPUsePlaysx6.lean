/- Printed contracts (print.sh) of ref14.Add and ref22.Of; the walk of ref14.Add is made by hand. -/
import Derived.Test.YtnceglkoolfncaaPUsePlaysx4
import Derived.Test.YtnceglkoolfncaaCc
namespace Go.Proofs.Ytnceglkoolfncaa.PUsePlays
open Go.RowKit Go.Proofs.YtnceglkoolfncaaW.PrintWords Go.Proofs.YtnceglkoolfncaaW.PrintLast Go.Proofs.YtnceglkoolfncaaW.PrintMore
attribute [local go_sem] max2_int min2_int max_two min_two max_three min_three max_four min_four   -- for this text's walks alone
set_option linter.unusedVariables false
set_option linter.unusedSimpArgs false

/-! ### provostref14_Add: function 132 -/
def provostref14_Add.f (a0_0 : Int) (a0_1 : Int) (a0_2 : Int) (a1_0 : Int) (a1_1 : Int) (a1_2 : Int) : Option (Int × Int × Int × Bool) := (provostref01_Add.f a0_0 a1_0).bind fun bt156 => ((provostref01_Add.f a0_1 a1_1).bind fun bt158 => ((provostref01_Add.f a0_2 a1_2).bind fun bt160 => (if bt156.2 = true then (if bt158.2 = true then (if bt160.2 = true then (some (bt156.1, bt158.1, bt160.1, true)) else (some (0, 0, 0, false))) else (some (0, 0, 0, false))) else (some (0, 0, 0, false)))))
set_option maxHeartbeats 8000000 in
set_option maxRecDepth 100000 in
theorem provostref14_Add.calls (a0_0 : Int) (a0_1 : Int) (a0_2 : Int) (a1_0 : Int) (a1_1 : Int) (a1_2 : Int) (r1 : Int) (r2 : Int) (r3 : Int) (r4 : Bool) (w : World) (h : provostref14_Add.f a0_0 a0_1 a0_2 a1_0 a1_1 a1_2 = some (r1, r2, r3, r4)) :
    Calls Try.prog 132 #[.agg #[.int .i64 a0_0, .int .i64 a0_1, .int .i64 a0_2], .agg #[.int .i64 a1_0, .int .i64 a1_1, .int .i64 a1_2]] w fun e w' => e = .returned (.tuple #[.agg #[.int .i64 r1, .int .i64 r2, .int .i64 r3], .bool r4]) ∧ Below w.heap.size w w' := by
  have hu145 := Try.underlying145
  have HB := Aside0.mk (Below.refl w.heap.size w)
  have H : ((provostref01_Add.f a0_0 a1_0).bind fun bt156 => ((provostref01_Add.f a0_1 a1_1).bind fun bt158 => ((provostref01_Add.f a0_2 a1_2).bind fun bt160 => (if bt156.2 = true then (if bt158.2 = true then (if bt160.2 = true then (some (bt156.1, bt158.1, bt160.1, true)) else (some (0, 0, 0, false))) else (some (0, 0, 0, false))) else (some (0, 0, 0, false)))))) = some (r1, r2, r3, r4) := h
  clear h
  replace H := Option.bind_eq_some_iff.mp H
  obtain ⟨⟨t156, t157⟩, A30, H⟩ := H
  replace H : ((provostref01_Add.f a0_1 a1_1).bind fun bt158 => ((provostref01_Add.f a0_2 a1_2).bind fun bt160 => (if t157 = true then (if bt158.2 = true then (if bt160.2 = true then (some (t156, bt158.1, bt160.1, true)) else (some (0, 0, 0, false))) else (some (0, 0, 0, false))) else (some (0, 0, 0, false))))) = some (r1, r2, r3, r4) := H
  have A3 := Aside0.mk A30
  clear A30
  replace H := Option.bind_eq_some_iff.mp H
  obtain ⟨⟨t158, t159⟩, A40, H⟩ := H
  replace H : ((provostref01_Add.f a0_2 a1_2).bind fun bt160 => (if t157 = true then (if t159 = true then (if bt160.2 = true then (some (t156, t158, bt160.1, true)) else (some (0, 0, 0, false))) else (some (0, 0, 0, false))) else (some (0, 0, 0, false)))) = some (r1, r2, r3, r4) := H
  have A4 := Aside0.mk A40
  clear A40
  replace H := Option.bind_eq_some_iff.mp H
  obtain ⟨⟨t160, t161⟩, A50, H⟩ := H
  replace H : (if t157 = true then (if t159 = true then (if t161 = true then (some (t156, t158, t160, true)) else (some (0, 0, 0, false))) else (some (0, 0, 0, false))) else (some (0, 0, 0, false))) = some (r1, r2, r3, r4) := H
  have A5 := Aside0.mk A50
  clear A50
  by_cases c6 : t157 = true
  · subst c6
    have H1 : (if t159 = true then (if t161 = true then (some (t156, t158, t160, true)) else (some (0, 0, 0, false))) else (some (0, 0, 0, false))) = some (r1, r2, r3, r4) := by rw [if_pos rfl] at H; exact H
    clear H
    have H := H1
    clear H1
    by_cases c7 : t159 = true
    · subst c7
      have H1 : (if t161 = true then (some (t156, t158, t160, true)) else (some (0, 0, 0, false))) = some (r1, r2, r3, r4) := by rw [if_pos rfl] at H; exact H
      clear H
      have H := H1
      clear H1
      by_cases c8 : t161 = true
      · subst c8
        have H1 : (some (t156, t158, t160, true)) = some (r1, r2, r3, r4) := by rw [if_pos rfl] at H; exact H
        clear H
        have H := H1
        clear H1
        simp only [Option.some.injEq, Prod.mk.injEq] at H
        obtain ⟨rfl, rfl, rfl, rfl⟩ := H
        have HP0 := Aside0.mk (Us.PP.start w (a0_0, a0_1, a0_2) (a1_0, a1_1, a1_2))
        obtain ⟨W0, hW0⟩ : ∃ W0, W0 = (((w.alloc (.cells #[.int .i64 a0_0, .int .i64 a0_1, .int .i64 a0_2] 145)).alloc (.cells #[.int .i64 a1_0, .int .i64 a1_1, .int .i64 a1_2] 145)).alloc (.cells #[.int .i64 0, .int .i64 0, .int .i64 0] 145)) := ⟨_, rfl⟩
        have HP1 : Aside0 (Us.PP w (a0_0, a0_1, a0_2) (a1_0, a1_1, a1_2) W0 none none) := by rw [hW0]; exact HP0
        have HW0 := Aside0.mk hW0
        clear HP0 hW0
        obtain ⟨c0, c1, c2, c3, c4, c5⟩ := HP1.out.cells
        simp only at c0 c1 c2 c3 c4 c5
        go_enter Try.func132, Try.ntmps132
        go_upto_region 1 with fail
        rw [← HW0.out]
        clear HW0
        go_wp2_with (first
          | (go_at_call 163; with_reducible refine (provostref01_Add.calls a0_0 a1_0 _ _ _ A3.out).mono ?_; rintro e_ w1_ ⟨rfl, hd⟩; have HP2 := Aside0.mk (HP1.out.later hd.below); obtain ⟨d0, d1, d2, d3, d4, d5⟩ := HP2.out.cells; simp only at d0 d1 d2 d3 d4 d5; clear hd)
          | (go_at_call 163; with_reducible refine (provostref01_Add.calls a0_1 a1_1 _ _ _ A4.out).mono ?_; rintro e_ w2_ ⟨rfl, hd⟩; have HP3 := Aside0.mk (HP2.out.later hd.below); obtain ⟨d0, d1, d2, d3, d4, d5⟩ := HP3.out.cells; simp only at d0 d1 d2 d3 d4 d5; clear hd)
          | (go_at_call 163; with_reducible refine (provostref01_Add.calls a0_2 a1_2 _ _ _ A5.out).mono ?_; rintro e_ w3_ ⟨rfl, hd⟩; have HP4 := Aside0.mk (HP3.out.later hd.below); obtain ⟨d0, d1, d2, d3, d4, d5⟩ := HP4.out.cells; simp only at d0 d1 d2 d3 d4 d5; clear hd; obtain ⟨q0, q1, q2, qf⟩ := Us.cells145 HP4.out.rt; have qf0 := qf 0; have qf1 := qf 1; have qf2 := qf 2; clear qf))
        have hl2 : w.heap.size + 1 + 1 < w3_.heap.size := (Array.getElem?_eq_some_iff.1 HP4.out.rt).1
        have hlow := HP4.out.low
        refine bodyPost_ret (v := .tuple #[.agg #[.int .i64 t156, .int .i64 t158, .int .i64 t160], .bool true]) (by simp [results, Try.results132, go_sem, qf0, qf1, qf2, q0, q1, q2]) rfl ⟨rfl, ?_⟩
        exact ((hlow.setCell (by simp; omega) _).setCell (by simp; omega) _).setCell (by simp; omega) _
      · replace c8 := Bool.eq_false_iff.mpr c8
        subst c8
        have H1 : (some (0, 0, 0, false)) = some (r1, r2, r3, r4) := by rw [if_neg (show ¬ (false = true) by decide)] at H; exact H
        clear H
        have H := H1
        clear H1
        simp only [Option.some.injEq, Prod.mk.injEq] at H
        obtain ⟨rfl, rfl, rfl, rfl⟩ := H
        have HP0 := Aside0.mk (Us.PP.start w (a0_0, a0_1, a0_2) (a1_0, a1_1, a1_2))
        obtain ⟨W0, hW0⟩ : ∃ W0, W0 = (((w.alloc (.cells #[.int .i64 a0_0, .int .i64 a0_1, .int .i64 a0_2] 145)).alloc (.cells #[.int .i64 a1_0, .int .i64 a1_1, .int .i64 a1_2] 145)).alloc (.cells #[.int .i64 0, .int .i64 0, .int .i64 0] 145)) := ⟨_, rfl⟩
        have HP1 : Aside0 (Us.PP w (a0_0, a0_1, a0_2) (a1_0, a1_1, a1_2) W0 none none) := by rw [hW0]; exact HP0
        have HW0 := Aside0.mk hW0
        clear HP0 hW0
        obtain ⟨c0, c1, c2, c3, c4, c5⟩ := HP1.out.cells
        simp only at c0 c1 c2 c3 c4 c5
        go_enter Try.func132, Try.ntmps132
        go_upto_region 1 with fail
        rw [← HW0.out]
        clear HW0
        go_wp2_with (first
          | (go_at_call 163; with_reducible refine (provostref01_Add.calls a0_0 a1_0 _ _ _ A3.out).mono ?_; rintro e_ w1_ ⟨rfl, hd⟩; have HP2 := Aside0.mk (HP1.out.later hd.below); obtain ⟨d0, d1, d2, d3, d4, d5⟩ := HP2.out.cells; simp only at d0 d1 d2 d3 d4 d5; clear hd)
          | (go_at_call 163; with_reducible refine (provostref01_Add.calls a0_1 a1_1 _ _ _ A4.out).mono ?_; rintro e_ w2_ ⟨rfl, hd⟩; have HP3 := Aside0.mk (HP2.out.later hd.below); obtain ⟨d0, d1, d2, d3, d4, d5⟩ := HP3.out.cells; simp only at d0 d1 d2 d3 d4 d5; clear hd)
          | (go_at_call 163; with_reducible refine (provostref01_Add.calls a0_2 a1_2 _ _ _ A5.out).mono ?_; rintro e_ w3_ ⟨rfl, hd⟩; have HP4 := Aside0.mk (HP3.out.later hd.below); obtain ⟨d0, d1, d2, d3, d4, d5⟩ := HP4.out.cells; simp only at d0 d1 d2 d3 d4 d5; clear hd; obtain ⟨q0, q1, q2, qf⟩ := Us.cells145 HP4.out.rt; have qf0 := qf 0; have qf1 := qf 1; have qf2 := qf 2; clear qf))
        have hl2 : w.heap.size + 1 + 1 < w3_.heap.size := (Array.getElem?_eq_some_iff.1 HP4.out.rt).1
        have hlow := HP4.out.low
        refine bodyPost_ret (v := .tuple #[.agg #[.int .i64 0, .int .i64 0, .int .i64 0], .bool false]) (by simp [results, Try.results132, go_sem, qf0, qf1, qf2, q0, q1, q2]) rfl ⟨rfl, ?_⟩
        exact ((hlow.setCell (by simp; omega) _).setCell (by simp; omega) _).setCell (by simp; omega) _
    · replace c7 := Bool.eq_false_iff.mpr c7
      subst c7
      have H1 : (some (0, 0, 0, false)) = some (r1, r2, r3, r4) := by rw [if_neg (show ¬ (false = true) by decide)] at H; exact H
      clear H
      have H := H1
      clear H1
      simp only [Option.some.injEq, Prod.mk.injEq] at H
      obtain ⟨rfl, rfl, rfl, rfl⟩ := H
      have HP0 := Aside0.mk (Us.PP.start w (a0_0, a0_1, a0_2) (a1_0, a1_1, a1_2))
      obtain ⟨W0, hW0⟩ : ∃ W0, W0 = (((w.alloc (.cells #[.int .i64 a0_0, .int .i64 a0_1, .int .i64 a0_2] 145)).alloc (.cells #[.int .i64 a1_0, .int .i64 a1_1, .int .i64 a1_2] 145)).alloc (.cells #[.int .i64 0, .int .i64 0, .int .i64 0] 145)) := ⟨_, rfl⟩
      have HP1 : Aside0 (Us.PP w (a0_0, a0_1, a0_2) (a1_0, a1_1, a1_2) W0 none none) := by rw [hW0]; exact HP0
      have HW0 := Aside0.mk hW0
      clear HP0 hW0
      obtain ⟨c0, c1, c2, c3, c4, c5⟩ := HP1.out.cells
      simp only at c0 c1 c2 c3 c4 c5
      go_enter Try.func132, Try.ntmps132
      go_upto_region 1 with fail
      rw [← HW0.out]
      clear HW0
      go_wp2_with (first
        | (go_at_call 163; with_reducible refine (provostref01_Add.calls a0_0 a1_0 _ _ _ A3.out).mono ?_; rintro e_ w1_ ⟨rfl, hd⟩; have HP2 := Aside0.mk (HP1.out.later hd.below); obtain ⟨d0, d1, d2, d3, d4, d5⟩ := HP2.out.cells; simp only at d0 d1 d2 d3 d4 d5; clear hd)
        | (go_at_call 163; with_reducible refine (provostref01_Add.calls a0_1 a1_1 _ _ _ A4.out).mono ?_; rintro e_ w2_ ⟨rfl, hd⟩; have HP3 := Aside0.mk (HP2.out.later hd.below); obtain ⟨d0, d1, d2, d3, d4, d5⟩ := HP3.out.cells; simp only at d0 d1 d2 d3 d4 d5; clear hd)
        | (go_at_call 163; with_reducible refine (provostref01_Add.calls a0_2 a1_2 _ _ _ A5.out).mono ?_; rintro e_ w3_ ⟨rfl, hd⟩; have HP4 := Aside0.mk (HP3.out.later hd.below); obtain ⟨d0, d1, d2, d3, d4, d5⟩ := HP4.out.cells; simp only at d0 d1 d2 d3 d4 d5; clear hd; obtain ⟨q0, q1, q2, qf⟩ := Us.cells145 HP4.out.rt; have qf0 := qf 0; have qf1 := qf 1; have qf2 := qf 2; clear qf))
      have hl2 : w.heap.size + 1 + 1 < w3_.heap.size := (Array.getElem?_eq_some_iff.1 HP4.out.rt).1
      have hlow := HP4.out.low
      refine bodyPost_ret (v := .tuple #[.agg #[.int .i64 0, .int .i64 0, .int .i64 0], .bool false]) (by simp [results, Try.results132, go_sem, qf0, qf1, qf2, q0, q1, q2]) rfl ⟨rfl, ?_⟩
      exact ((hlow.setCell (by simp; omega) _).setCell (by simp; omega) _).setCell (by simp; omega) _
  · replace c6 := Bool.eq_false_iff.mpr c6
    subst c6
    have H1 : (some (0, 0, 0, false)) = some (r1, r2, r3, r4) := by rw [if_neg (show ¬ (false = true) by decide)] at H; exact H
    clear H
    have H := H1
    clear H1
    simp only [Option.some.injEq, Prod.mk.injEq] at H
    obtain ⟨rfl, rfl, rfl, rfl⟩ := H
    have HP0 := Aside0.mk (Us.PP.start w (a0_0, a0_1, a0_2) (a1_0, a1_1, a1_2))
    obtain ⟨W0, hW0⟩ : ∃ W0, W0 = (((w.alloc (.cells #[.int .i64 a0_0, .int .i64 a0_1, .int .i64 a0_2] 145)).alloc (.cells #[.int .i64 a1_0, .int .i64 a1_1, .int .i64 a1_2] 145)).alloc (.cells #[.int .i64 0, .int .i64 0, .int .i64 0] 145)) := ⟨_, rfl⟩
    have HP1 : Aside0 (Us.PP w (a0_0, a0_1, a0_2) (a1_0, a1_1, a1_2) W0 none none) := by rw [hW0]; exact HP0
    have HW0 := Aside0.mk hW0
    clear HP0 hW0
    obtain ⟨c0, c1, c2, c3, c4, c5⟩ := HP1.out.cells
    simp only at c0 c1 c2 c3 c4 c5
    go_enter Try.func132, Try.ntmps132
    go_upto_region 1 with fail
    rw [← HW0.out]
    clear HW0
    go_wp2_with (first
      | (go_at_call 163; with_reducible refine (provostref01_Add.calls a0_0 a1_0 _ _ _ A3.out).mono ?_; rintro e_ w1_ ⟨rfl, hd⟩; have HP2 := Aside0.mk (HP1.out.later hd.below); obtain ⟨d0, d1, d2, d3, d4, d5⟩ := HP2.out.cells; simp only at d0 d1 d2 d3 d4 d5; clear hd)
      | (go_at_call 163; with_reducible refine (provostref01_Add.calls a0_1 a1_1 _ _ _ A4.out).mono ?_; rintro e_ w2_ ⟨rfl, hd⟩; have HP3 := Aside0.mk (HP2.out.later hd.below); obtain ⟨d0, d1, d2, d3, d4, d5⟩ := HP3.out.cells; simp only at d0 d1 d2 d3 d4 d5; clear hd)
      | (go_at_call 163; with_reducible refine (provostref01_Add.calls a0_2 a1_2 _ _ _ A5.out).mono ?_; rintro e_ w3_ ⟨rfl, hd⟩; have HP4 := Aside0.mk (HP3.out.later hd.below); obtain ⟨d0, d1, d2, d3, d4, d5⟩ := HP4.out.cells; simp only at d0 d1 d2 d3 d4 d5; clear hd; obtain ⟨q0, q1, q2, qf⟩ := Us.cells145 HP4.out.rt; have qf0 := qf 0; have qf1 := qf 1; have qf2 := qf 2; clear qf))
    have hl2 : w.heap.size + 1 + 1 < w3_.heap.size := (Array.getElem?_eq_some_iff.1 HP4.out.rt).1
    have hlow := HP4.out.low
    refine bodyPost_ret (v := .tuple #[.agg #[.int .i64 0, .int .i64 0, .int .i64 0], .bool false]) (by simp [results, Try.results132, go_sem, qf0, qf1, qf2, q0, q1, q2]) rfl ⟨rfl, ?_⟩
    exact ((hlow.setCell (by simp; omega) _).setCell (by simp; omega) _).setCell (by simp; omega) _

/-! ### provostref22_Of: function 90 -/
def provostref22_Of.l0 : Nat → List (S153) → Int → Bool → Int → Int → Int → Int → Option (Int × Int × Int)
  | 0, _, _, _, _, _, _, _ => none
  | k + 1, x0, x1, x2, x8, x164000, x164001, x164002 => if x8 < (x0.length : Int) then (if x2 = true then (if 0 ≤ x8 then ((provostref14_Add.f x164000 x164001 x164002 ((rd_T153 x0 x8).f2.f0) ((rd_T153 x0 x8).f2.f1) ((rd_T153 x0 x8).f2.f2)).bind fun bt165 => (provostref22_Of.l0 k x0 x1 x2 (wrap64 (x8 + 1)) bt165.1 bt165.2.1 bt165.2.2.1)) else (none)) else (if 0 ≤ x8 then (if ((rd_T153 x0 x8).f0) = x1 then ((provostref14_Add.f x164000 x164001 x164002 ((rd_T153 x0 x8).f2.f0) ((rd_T153 x0 x8).f2.f1) ((rd_T153 x0 x8).f2.f2)).bind fun bt171 => (provostref22_Of.l0 k x0 x1 x2 (wrap64 (x8 + 1)) bt171.1 bt171.2.1 bt171.2.2.1)) else (provostref22_Of.l0 k x0 x1 x2 (wrap64 (x8 + 1)) x164000 x164001 x164002)) else (none))) else (some (x164000, x164001, x164002))
def provostref22_Of.f (k : Nat) (l0 : List (S153)) (a1 : Int) (a2 : Bool) : Option (Int × Int × Int) := provostref22_Of.l0 k l0 a1 a2 0 0 0 0
theorem provostref22_Of.mono_l : ∀ k, (∀ y0 y1 y2 y3 y4 y5 y6, LeO (provostref22_Of.l0 k y0 y1 y2 y3 y4 y5 y6) (provostref22_Of.l0 (k + 1) y0 y1 y2 y3 y4 y5 y6))
  | 0 => fun _ _ _ _ _ _ _ r h => by simp [provostref22_Of.l0] at h
  | k + 1 => by
    have ih0 := provostref22_Of.mono_l k
    · intro y0 y1 y2 y3 y4 y5 y6
      unfold provostref22_Of.l0
      repeat' first
      | (with_reducible exact ih0 _ _ _ _ _ _ _)
      | (with_reducible exact LeO.refl _)
      | (with_reducible exact LeO.none _)
      | (with_reducible refine LeO.ite ?_ ?_)
      | (with_reducible refine LeO.bind ?_ (fun _ => ?_))
      | exact ih0 _ _ _ _ _ _ _
      | exact LeO.none _
      | refine LeO.ite ?_ ?_
      | refine LeO.bind ?_ (fun _ => ?_)
theorem provostref22_Of.mono : ∀ a0 a1 a2 k, LeO (provostref22_Of.f k a0 a1 a2) (provostref22_Of.f (k + 1) a0 a1 a2) := by
  intro a0 a1 a2 k
  have ih0 := provostref22_Of.mono_l k
  unfold provostref22_Of.f
  repeat' first
      | (with_reducible exact ih0 _ _ _ _ _ _ _)
      | (with_reducible exact LeO.refl _)
      | (with_reducible exact LeO.none _)
      | (with_reducible refine LeO.ite ?_ ?_)
      | (with_reducible refine LeO.bind ?_ (fun _ => ?_))
      | exact ih0 _ _ _ _ _ _ _
      | exact LeO.none _
      | refine LeO.ite ?_ ?_
      | refine LeO.bind ?_ (fun _ => ?_)
def provostref22_Of.T6 : Bool × List (List Nat × List Nat) := (true, [([], []), ([], []), ([], []), ([1, 2], [1, 2]), ([3], [3]), ([4], [4]), ([0, 5], [0, 5]), ([6], [6]), ([7], [7]), ([7], [7]), ([8, 6, 0, 1, 2, 3, 4, 5, 6, 7, 8], [8])])
def provostref22_Of.B6 : List Nat := [0, 0, 0, 6, 14, 30, 63, 127, 255, 255, 511]
theorem provostref22_Of.tab6 : rtab .any (opsOf Try.f90 6) = provostref22_Of.T6 := by kernel_rfl
theorem provostref22_Of.bits6 : waitsOk provostref22_Of.T6.2 provostref22_Of.B6 = true := by kernel_rfl
set_option maxHeartbeats 8000000 in
set_option maxRecDepth 100000 in
theorem provostref22_Of.calls (k : Nat) (A0 : Option Addr) (c0 : Nat) (l0 : List (S153)) (a1 : Int) (a2 : Bool) (r1 : Int) (r2 : Int) (r3 : Int) (w : World) (hr0 : Kd.C k153 w A0 l0.length l0) (hc0 : l0.length ≤ c0) (h : provostref22_Of.f k l0 a1 a2 = some (r1, r2, r3)) :
    Calls Try.prog 90 #[.slice A0 l0.length c0, .int .i64 a1, .bool a2] w fun e w' => e = .returned (.agg #[.int .i64 r1, .int .i64 r2, .int .i64 r3]) ∧ Below w.heap.size w w' := by
  have hu145 := Try.underlying145
  have HR0 := Aside0.mk hr0
  have HC0 := Aside0.mk hc0
  clear hr0 hc0
  have HB := Aside0.mk (Below.refl w.heap.size w)
  have H : (provostref22_Of.l0 k l0 a1 a2 0 0 0 0) = some (r1, r2, r3) := h
  clear h
  have H' := Aside0.mk H
  clear H
  go_enter Try.func90, Try.ntmps90
  go_wp2_with (first | ((with_reducible refine gate_dst (N := 6) rfl ?_); refine box_event ?hg (N := 6) ?hd (cs := #[.int .i64 0, .int .i64 0, .int .i64 0]) (t := 145) ?hr ?_; (case hd => rfl); (case hg => rfl); (case hr => first | (go_simp; done) | (go_simp; rfl)); intro gb162 hg w4 hbox hb; have n0_ := Aside0.mk (below_step (by repeat (first | (with_reducible first | exact HB.out | apply below_alloc | apply pw_below_drewN | apply below_drew1) | exact HB.out)) hb); have n1_ := Aside0.mk (hbox); have n2_ := Aside0.mk ((by rw [hg]; exact (below_size (by repeat (first | (with_reducible first | exact HB.out | apply below_alloc | apply pw_below_drewN | apply below_drew1) | exact HB.out))) : w.heap.size ≤ gb162)); have n3_ := Aside0.mk ((by rw [hg]; exact (below_size (by repeat (first | (with_reducible first | exact HB.out | apply below_alloc | apply pw_below_drewN | apply below_drew1) | exact HB.out))) : w.heap.size ≤ gb162)); clear HB; have HB := n0_; have BK162 := n1_; have GW162 := n2_; have GE162 := n3_; clear n0_ n1_ n2_ n3_; clear hb hbox hg) | ((with_reducible refine gate_dst (N := 7) rfl ?_); refine box_event ?hg (N := 7) ?hd (cs := #[.int .i64 0, .int .i64 0, .int .i64 0]) (t := 145) ?hr ?_; (case hd => rfl); (case hg => rfl); (case hr => first | (go_simp; done) | (go_simp; rfl)); intro gb163 hg w5 hbox hb; have n0_ := Aside0.mk (blk_below (g := gb162) (o := .cells #[.int .i64 0, .int .i64 0, .int .i64 0] 145 (0, 0)) (by (with_reducible repeat (first | refine blk_drewN ?_ _ | refine blk_drew ?_ | refine blk_alloc ?_ _)); exact BK162.out) hb); have n1_ := Aside0.mk (below_step (by repeat (first | (with_reducible first | exact HB.out | apply below_alloc | apply pw_below_drewN | apply below_drew1 | refine below_set ?_ GE162.out) | exact HB.out)) hb); have n2_ := Aside0.mk (hbox); have n3_ := Aside0.mk ((by rw [hg]; exact (below_size (by repeat (first | (with_reducible first | exact HB.out | apply below_alloc | apply pw_below_drewN | apply below_drew1 | refine below_set ?_ GE162.out) | exact HB.out))) : w.heap.size ≤ gb163)); have n4_ := Aside0.mk ((by rw [hg]; exact (below_size (by repeat (first | (with_reducible first | exact HB.out | apply below_alloc | apply pw_below_drewN | apply below_drew1 | refine below_set ?_ GE162.out) | exact HB.out))) : w.heap.size ≤ gb163)); have n5_ := Aside0.mk ((by rw [hg]; exact Nat.ne_of_lt (blk_lt (g := gb162) (o := .cells #[.int .i64 0, .int .i64 0, .int .i64 0] 145 (0, 0)) (by (with_reducible repeat (first | refine blk_drewN ?_ _ | refine blk_drew ?_ | refine blk_alloc ?_ _)); exact BK162.out)) : gb162 ≠ gb163)); have n6_ := Aside0.mk ((by rw [hg]; exact Nat.ne_of_gt (blk_lt (g := gb162) (o := .cells #[.int .i64 0, .int .i64 0, .int .i64 0] 145 (0, 0)) (by (with_reducible repeat (first | refine blk_drewN ?_ _ | refine blk_drew ?_ | refine blk_alloc ?_ _)); exact BK162.out)) : gb163 ≠ gb162)); clear BK162; clear HB; have BK162 := n0_; have HB := n1_; have BK163 := n2_; have GW163 := n3_; have GE163 := n4_; have NB162_163 := n5_; have NB163_162 := n6_; clear n0_ n1_ n2_ n3_ n4_ n5_ n6_; clear hb hbox hg))
  go_loopg [8] k (fun kq v8 w' => ∃ (x8_1 : Int) (x164000_1 : Int) (x164001_1 : Int) (x164002_1 : Int), v8 = .int .i64 x8_1 ∧ Aside0 (provostref22_Of.l0 kq l0 a1 a2 x8_1 x164000_1 x164001_1 x164002_1 = some (r1, r2, r3)) ∧ Aside0 (kq ≤ k) ∧ Aside0 (w'.heap[gb162]? = some (.cells #[.int .i64 0, .int .i64 0, .int .i64 0] 145 (0, 0))) ∧ Aside0 (w'.heap[gb163]? = some (.cells #[.int .i64 x164000_1, .int .i64 x164001_1, .int .i64 x164002_1] 145 (0, 0))) ∧ Aside0 (Below w.heap.size w w'))
  case atStart => exact ⟨(0), (0), (0), (0), (by first | rfl | (simp; done) | (simp [*]; done)), H', ⟨Nat.le_refl _⟩, ⟨by (with_reducible repeat (first | refine blk_drewN ?_ _ | refine blk_drew ?_ | refine blk_alloc ?_ _)); exact BK162.out⟩, ⟨by (with_reducible repeat (first | refine blk_drewN ?_ _ | refine blk_drew ?_ | refine blk_alloc ?_ _)); exact BK163.out⟩, ⟨by repeat (first | (with_reducible first | exact HB.out | apply below_alloc | apply pw_below_drewN | apply below_drew1 | refine below_set ?_ GE162.out | refine below_set ?_ GE163.out) | exact HB.out)⟩⟩
  case round =>
    clear H'
    try clear p2
    obtain ⟨x8_1, x164000_1, x164001_1, x164002_1, rfl, HA, HK1, BK162, BK163, HB⟩ := hrel
    cases gk with
    | zero => exact absurd HA.out (by simp [provostref22_Of.l0])
    | succ k1 =>
      have H := HA.out
      clear HA
      simp only [provostref22_Of.l0] at H
      by_cases c6 : x8_1 < (l0.length : Int)
      · rw [if_pos c6] at H
        have c6b0 : decide (x8_1 < (l0.length : Int)) = true := decide_eq_true c6
        clear c6
        by_cases c7 : a2 = true
        · subst c7
          have H1 : (if 0 ≤ x8_1 then ((provostref14_Add.f x164000_1 x164001_1 x164002_1 ((rd_T153 l0 x8_1).f2.f0) ((rd_T153 l0 x8_1).f2.f1) ((rd_T153 l0 x8_1).f2.f2)).bind fun bt165 => (provostref22_Of.l0 k1 l0 a1 true (wrap64 (x8_1 + 1)) bt165.1 bt165.2.1 bt165.2.2.1)) else (none)) = some (r1, r2, r3) := by rw [if_pos rfl] at H; exact H
          clear H
          have H := H1
          clear H1
          by_cases c8 : 0 ≤ x8_1
          · rw [if_pos c8] at H
            have c8b0 : decide (0 ≤ x8_1) = true := decide_eq_true c8
            clear c8
            replace H := Option.bind_eq_some_iff.mp H
            obtain ⟨⟨t165, t166, t167, t168⟩, A90, H⟩ := H
            replace H : (provostref22_Of.l0 k1 l0 a1 true (wrap64 (x8_1 + 1)) t165 t166 t167) = some (r1, r2, r3) := H
            have A9 := Aside0.mk A90
            clear A90
            have H' := Aside0.mk H
            clear H
            try go_wp2
            have n0_ := Aside0.mk (blk_drew BK162.out)
            have n1_ := Aside0.mk (blk_drew BK163.out)
            have n2_ := Aside0.mk (below_drew1 HB.out)
            clear BK162
            clear BK163
            clear HB
            have BK162 := n0_
            have BK163 := n1_
            have HB := n2_
            clear n0_ n1_ n2_
            have p164 : 0 ≤ (x8_1 : Int) := of_decide_eq_true (by first | (with_reducible assumption) | assumption)
            have q164 : x8_1 < (l0.length : Int) := of_decide_eq_true (by first | (with_reducible assumption) | assumption)
            obtain ⟨ad164, e164, hx164_0, hx164_1, hx164_2, hx164_3, hx164_4, hx164_5, hx164_6, hx164_7⟩ := at_T153 HR0.out x8_1 p164 q164
            have hw164_7 := hx164_7
            have hw164_6 := hx164_6
            have hw164_5 := hx164_5
            have hw164_4 := hx164_4
            have hw164_3 := hx164_3
            have hw164_2 := hx164_2
            have hw164_1 := hx164_1
            have hw164_0 := hx164_0
            cases e164
            replace hx164_0 := (HB.out.cell (World.block_lt_of_cell? w _ hx164_0)).trans hx164_0
            replace hx164_1 := (HB.out.cell (World.block_lt_of_cell? w _ hx164_1)).trans hx164_1
            replace hx164_2 := (HB.out.cell (World.block_lt_of_cell? w _ hx164_2)).trans hx164_2
            replace hx164_3 := (HB.out.cell (World.block_lt_of_cell? w _ hx164_3)).trans hx164_3
            replace hx164_4 := (HB.out.cell (World.block_lt_of_cell? w _ hx164_4)).trans hx164_4
            replace hx164_5 := (HB.out.cell (World.block_lt_of_cell? w _ hx164_5)).trans hx164_5
            replace hx164_6 := (HB.out.cell (World.block_lt_of_cell? w _ hx164_6)).trans hx164_6
            replace hx164_7 := (HB.out.cell (World.block_lt_of_cell? w _ hx164_7)).trans hx164_7
            replace p164 := eq_true p164
            replace q164 := eq_true q164
            refine start_ (n := 11) (S := fun w' => w'.cell? ⟨gb163, 0, none⟩ = some (.int .i64 x164000_1) ∧ w'.cell? ⟨gb163, 1, none⟩ = some (.int .i64 x164001_1) ∧ w'.cell? ⟨gb163, 2, none⟩ = some (.int .i64 x164002_1) ∧ w'.cell? (ad164.add ((x8_1).toNat * 8)) = some (.int .i64 ((rd_T153 l0 x8_1).f0)) ∧ w'.cell? ⟨(ad164.add ((x8_1).toNat * 8)).block, (ad164.add ((x8_1).toNat * 8)).off + 1, none⟩ = some (.int .i64 ((rd_T153 l0 x8_1).f1)) ∧ w'.cell? ⟨(ad164.add ((x8_1).toNat * 8)).block, (ad164.add ((x8_1).toNat * 8)).off + 2, none⟩ = some (.int .i64 ((rd_T153 l0 x8_1).f2.f0)) ∧ w'.cell? ⟨(ad164.add ((x8_1).toNat * 8)).block, (ad164.add ((x8_1).toNat * 8)).off + 3, none⟩ = some (.int .i64 ((rd_T153 l0 x8_1).f2.f1)) ∧ w'.cell? ⟨(ad164.add ((x8_1).toNat * 8)).block, (ad164.add ((x8_1).toNat * 8)).off + 4, none⟩ = some (.int .i64 ((rd_T153 l0 x8_1).f2.f2)) ∧ w'.cell? ⟨(ad164.add ((x8_1).toNat * 8)).block, (ad164.add ((x8_1).toNat * 8)).off + 5, none⟩ = some (.int .i64 ((rd_T153 l0 x8_1).f3.f0)) ∧ w'.cell? ⟨(ad164.add ((x8_1).toNat * 8)).block, (ad164.add ((x8_1).toNat * 8)).off + 6, none⟩ = some (.int .i64 ((rd_T153 l0 x8_1).f3.f1)) ∧ w'.cell? ⟨(ad164.add ((x8_1).toNat * 8)).block, (ad164.add ((x8_1).toNat * 8)).off + 7, none⟩ = some (.int .i64 ((rd_T153 l0 x8_1).f3.f2))) (ds := [10]) #[false, false, false, false, false, false, false, false, false, false, false] (by kernel_rfl) rfl rfl ⟨(blk_cell BK163.out 0).trans rfl, (blk_cell BK163.out 1).trans rfl, (blk_cell BK163.out 2).trans rfl, ((HB.out.cell (World.block_lt_of_cell? w _ hw164_0)).trans hw164_0), ((HB.out.cell (World.block_lt_of_cell? w _ hw164_1)).trans hw164_1), ((HB.out.cell (World.block_lt_of_cell? w _ hw164_2)).trans hw164_2), ((HB.out.cell (World.block_lt_of_cell? w _ hw164_3)).trans hw164_3), ((HB.out.cell (World.block_lt_of_cell? w _ hw164_4)).trans hw164_4), ((HB.out.cell (World.block_lt_of_cell? w _ hw164_5)).trans hw164_5), ((HB.out.cell (World.block_lt_of_cell? w _ hw164_6)).trans hw164_6), ((HB.out.cell (World.block_lt_of_cell? w _ hw164_7)).trans hw164_7)⟩ (fun hHeld => ?_); refine with_tabW provostref22_Of.tab6 provostref22_Of.bits6 (fun HT_ HW_ => ?_)
            generalize wr.drew = w10 at BK162 BK163 HB hx164_0 hx164_1 hx164_2 hx164_3 hx164_4 hx164_5 hx164_6 hx164_7 hHeld ⊢
            refine pure_ (i := 1) (N := some 27) (v := ?_) (a' := ?_) #[false, true, false, false, false, false, false, false, false, false, false] rfl rfl (any_of HT_.out (by kernel_rfl)) (fun _ _ _ h => h) (Or.inl ⟨by rfl, ?_⟩) ?_ ?_
            rotate_left
            · intro w'
              go_simp
              with_reducible rfl
            rotate_left
            · simp only [Act.put, List.setIfInBounds_toArray, List.set_cons_zero, List.set_cons_succ, i64_w, i32_w]
              rfl
            refine pure_ (i := 2) (N := some 28) (v := ?_) (a' := ?_) #[false, true, true, false, false, false, false, false, false, false, false] rfl rfl (any_of HT_.out (by kernel_rfl)) (fun _ _ _ h => h) (Or.inl ⟨by rfl, ?_⟩) ?_ ?_
            rotate_left
            · intro w'
              go_simp
              with_reducible rfl
            rotate_left
            · simp only [Act.put, List.setIfInBounds_toArray, List.set_cons_zero, List.set_cons_succ, i64_w, i32_w]
              rfl
            refine pure_ (i := 3) (N := some 29) (v := ?_) (a' := ?_) #[false, true, true, true, false, false, false, false, false, false, false] rfl rfl (any_of HT_.out (by kernel_rfl)) (fun _ _ _ h => h) (Or.inl ⟨by rfl, ?_⟩) ?_ ?_
            rotate_left
            · intro w'
              go_simp
              with_reducible rfl
            rotate_left
            · simp only [Act.put, List.setIfInBounds_toArray, List.set_cons_zero, List.set_cons_succ, i64_w, i32_w]
              rfl
            refine pure_ (i := 4) (N := some 30) (v := ?_) (a' := ?_) #[false, true, true, true, true, false, false, false, false, false, false] rfl rfl (any_of HT_.out (by kernel_rfl)) (fun _ _ _ h => h) (Or.inl ⟨by rfl, ?_⟩) ?_ ?_
            rotate_left
            · intro w'
              go_simp
              with_reducible rfl
            rotate_left
            · simp only [Act.put, List.setIfInBounds_toArray, List.set_cons_zero, List.set_cons_succ, i64_w, i32_w]
              rfl
            refine take_ (i := 0) (N := some 26) (v := ?_) (a' := ?_) #[true, true, true, true, true, false, false, false, false, false, false] rfl rfl (take_ofW HT_.out HW_.out (by kernel_rfl)) (fun _ _ _ h => h) (Or.inl ⟨by rfl, ?_⟩) hHeld ?_ ?_
            rotate_left
            · rintro w' ⟨s0, s1, s2, s3, s4, s5, s6, s7, s8, s9, s10⟩
              go_simp
              with_reducible rfl
            rotate_left
            · simp only [Act.put, List.setIfInBounds_toArray, List.set_cons_zero, List.set_cons_succ, i64_w, i32_w]
              rfl
            refine take_ (i := 5) (N := some 31) (v := ?_) (a' := ?_) #[true, true, true, true, true, true, false, false, false, false, false] rfl rfl (take_ofW HT_.out HW_.out (by kernel_rfl)) (fun _ _ _ h => h) (Or.inl ⟨by rfl, ?_⟩) hHeld ?_ ?_
            rotate_left
            · rintro w' ⟨s0, s1, s2, s3, s4, s5, s6, s7, s8, s9, s10⟩
              go_simp
              with_reducible rfl
            rotate_left
            · simp only [Act.put, List.setIfInBounds_toArray, List.set_cons_zero, List.set_cons_succ, i64_w, i32_w]
              rfl
            refine one_ (i := 6) (N := some 32) #[true, true, true, true, true, true, true, false, false, false, false] rfl rfl (one_of HT_.out (by kernel_rfl)) (by decide) (fun K hK => ?_)
            refine goes_ Try.func132 (by kernel_rfl) rfl #[.agg #[.int .i64 x164000_1, .int .i64 x164001_1, .int .i64 x164002_1], .agg #[.int .i64 ((rd_T153 l0 x8_1).f2.f0), .int .i64 ((rd_T153 l0 x8_1).f2.f1), .int .i64 ((rd_T153 l0 x8_1).f2.f2)]] (by rfl) rfl rfl (by (try simp only [List.map_toArray, List.map_cons, List.map_nil]); first | done | rfl | (simp only [List.length_drop, List.length_take]; rfl)) ?_
            with_reducible refine (provostref14_Add.calls x164000_1 x164001_1 x164002_1 ((rd_T153 l0 x8_1).f2.f0) ((rd_T153 l0 x8_1).f2.f1) ((rd_T153 l0 x8_1).f2.f2) t165 t166 t167 t168 _ A9.out).mono ?_
            rintro e w11 ⟨rfl, hb⟩
            refine ⟨_, rfl, ?_⟩
            have n0_ := Aside0.mk (blk_below (g := gb162) (o := .cells #[.int .i64 0, .int .i64 0, .int .i64 0] 145 (0, 0)) (by (with_reducible repeat (first | refine blk_drewN ?_ _ | refine blk_drew ?_ | refine blk_alloc ?_ _)); exact BK162.out) hb)
            have n1_ := Aside0.mk (blk_below (g := gb163) (o := .cells #[.int .i64 x164000_1, .int .i64 x164001_1, .int .i64 x164002_1] 145 (0, 0)) (by (with_reducible repeat (first | refine blk_drewN ?_ _ | refine blk_drew ?_ | refine blk_alloc ?_ _)); exact BK163.out) hb)
            have n2_ := Aside0.mk (below_step (by repeat (first | (with_reducible first | exact HB.out | apply below_alloc | apply pw_below_drewN | apply below_drew1 | refine below_set ?_ GE162.out | refine below_set ?_ GE163.out) | exact HB.out)) hb)
            clear BK162
            clear BK163
            clear HB
            have BK162 := n0_
            have BK163 := n1_
            have HB := n2_
            clear n0_ n1_ n2_
            (try clear hb)
            (try clear hb2)
            (try clear hk)
            (try clear hi)
            refine hK.out _ _ ⟨(blk_cell BK163.out 0).trans rfl, (blk_cell BK163.out 1).trans rfl, (blk_cell BK163.out 2).trans rfl, ((HB.out.cell (World.block_lt_of_cell? w _ hw164_0)).trans hw164_0), ((HB.out.cell (World.block_lt_of_cell? w _ hw164_1)).trans hw164_1), ((HB.out.cell (World.block_lt_of_cell? w _ hw164_2)).trans hw164_2), ((HB.out.cell (World.block_lt_of_cell? w _ hw164_3)).trans hw164_3), ((HB.out.cell (World.block_lt_of_cell? w _ hw164_4)).trans hw164_4), ((HB.out.cell (World.block_lt_of_cell? w _ hw164_5)).trans hw164_5), ((HB.out.cell (World.block_lt_of_cell? w _ hw164_6)).trans hw164_6), ((HB.out.cell (World.block_lt_of_cell? w _ hw164_7)).trans hw164_7)⟩ (fun hHeld => ?_)
            clear hK K
            refine norm_ (a' := ?_) ?_ ?_
            rotate_left
            · show Act.put _ (some 32) _ = _
              simp only [Act.put, List.setIfInBounds_toArray, List.set_cons_zero, List.set_cons_succ, i64_w, i32_w]
              rfl
            refine pure_ (i := 7) (N := some 25) (v := ?_) (a' := ?_) #[true, true, true, true, true, true, true, true, false, false, false] rfl rfl (any_of HT_.out (by kernel_rfl)) (fun _ _ _ h => h) (Or.inl ⟨by rfl, ?_⟩) ?_ ?_
            rotate_left
            · intro w'
              go_simp
              with_reducible rfl
            rotate_left
            · simp only [Act.put, List.setIfInBounds_toArray, List.set_cons_zero, List.set_cons_succ, i64_w, i32_w]
              rfl
            refine pure_ (i := 8) (N := some 33) (v := ?_) (a' := ?_) #[true, true, true, true, true, true, true, true, true, false, false] rfl rfl (any_of HT_.out (by kernel_rfl)) (fun _ _ _ h => h) (Or.inl ⟨by rfl, ?_⟩) ?_ ?_
            rotate_left
            · intro w'
              go_simp
              with_reducible rfl
            rotate_left
            · simp only [Act.put, List.setIfInBounds_toArray, List.set_cons_zero, List.set_cons_succ, i64_w, i32_w]
              rfl
            refine pure_ (i := 9) (N := some 34) (v := ?_) (a' := ?_) #[true, true, true, true, true, true, true, true, true, true, false] rfl rfl (any_of HT_.out (by kernel_rfl)) (fun _ _ _ h => h) (Or.inl ⟨by rfl, ?_⟩) ?_ ?_
            rotate_left
            · intro w'
              go_simp
              with_reducible rfl
            rotate_left
            · simp only [Act.put, List.setIfInBounds_toArray, List.set_cons_zero, List.set_cons_succ, i64_w, i32_w]
              rfl
            refine last_ (i := 10) (N := none) #[true, true, true, true, true, true, true, true, true, true, true] rfl rfl (one_of HT_.out (by kernel_rfl)) (by decide) (fun K hK => ?_)
            have hs12 : w11.cell? ⟨gb163, 0, none⟩ = some (.int .i64 x164000_1) := (blk_cell BK163.out 0).trans rfl
            have hfs12 := blk_frozen BK163.out 0
            have hns12_0 := NB162_163.out
            have hms12_0 := NB163_162.out
            have hs13 : w11.cell? ⟨gb163, 1, none⟩ = some (.int .i64 x164001_1) := (blk_cell BK163.out 1).trans rfl
            have hfs13 := blk_frozen BK163.out 1
            have hns13_0 := NB162_163.out
            have hms13_0 := NB163_162.out
            have hs14 : w11.cell? ⟨gb163, 2, none⟩ = some (.int .i64 x164002_1) := (blk_cell BK163.out 2).trans rfl
            have hfs14 := blk_frozen BK163.out 2
            have hns14_0 := NB162_163.out
            have hms14_0 := NB163_162.out
            refine skip_ (w1 := ?_) (by rfl) rfl ?_ ?_
            rotate_left
            · go_simp
              rfl
            refine hK.out _ _ ?_
            clear hK K
            refine done_ (done_of HT_.out (by kernel_rfl)) ?_
            try go_wp2
            go_roundg k1
            case measure => have := HK1.out; omega
            case rel => exact ⟨(wrap64 (x8_1 + 1)), (t165), (t166), (t167), (by first | rfl | (simp; done) | (simp [*]; done)), H', ⟨by have := HK1.out; omega⟩, ⟨by (with_reducible repeat (first | refine blk_drewN ?_ _ | refine blk_drew ?_ | refine blk_alloc ?_ _)); refine blk_far ?_ NB162_163.out _; (with_reducible repeat (first | refine blk_drewN ?_ _ | refine blk_drew ?_ | refine blk_alloc ?_ _)); refine blk_far ?_ NB162_163.out _; (with_reducible repeat (first | refine blk_drewN ?_ _ | refine blk_drew ?_ | refine blk_alloc ?_ _)); refine blk_far ?_ NB162_163.out _; (with_reducible repeat (first | refine blk_drewN ?_ _ | refine blk_drew ?_ | refine blk_alloc ?_ _)); exact BK162.out⟩, ⟨by (with_reducible repeat (first | refine blk_drewN ?_ _ | refine blk_drew ?_ | refine blk_alloc ?_ _)); refine blk_put (cs := #[.int .i64 t165, .int .i64 t166, .int .i64 x164002_1]) ?_ 2 _ rfl; (with_reducible repeat (first | refine blk_drewN ?_ _ | refine blk_drew ?_ | refine blk_alloc ?_ _)); refine blk_put (cs := #[.int .i64 t165, .int .i64 x164001_1, .int .i64 x164002_1]) ?_ 1 _ rfl; (with_reducible repeat (first | refine blk_drewN ?_ _ | refine blk_drew ?_ | refine blk_alloc ?_ _)); refine blk_put (cs := #[.int .i64 x164000_1, .int .i64 x164001_1, .int .i64 x164002_1]) ?_ 0 _ rfl; (with_reducible repeat (first | refine blk_drewN ?_ _ | refine blk_drew ?_ | refine blk_alloc ?_ _)); exact BK163.out⟩, ⟨by repeat (first | (with_reducible first | exact HB.out | apply below_alloc | apply pw_below_drewN | apply below_drew1 | refine below_set ?_ GE162.out | refine below_set ?_ GE163.out) | exact HB.out)⟩⟩
          · rw [if_neg c8] at H
            exact absurd H (by simp)
        · replace c7 := Bool.eq_false_iff.mpr c7
          subst c7
          have H1 : (if 0 ≤ x8_1 then (if ((rd_T153 l0 x8_1).f0) = a1 then ((provostref14_Add.f x164000_1 x164001_1 x164002_1 ((rd_T153 l0 x8_1).f2.f0) ((rd_T153 l0 x8_1).f2.f1) ((rd_T153 l0 x8_1).f2.f2)).bind fun bt171 => (provostref22_Of.l0 k1 l0 a1 false (wrap64 (x8_1 + 1)) bt171.1 bt171.2.1 bt171.2.2.1)) else (provostref22_Of.l0 k1 l0 a1 false (wrap64 (x8_1 + 1)) x164000_1 x164001_1 x164002_1)) else (none)) = some (r1, r2, r3) := by rw [if_neg (show ¬ (false = true) by decide)] at H; exact H
          clear H
          have H := H1
          clear H1
          by_cases c15 : 0 ≤ x8_1
          · rw [if_pos c15] at H
            have c15b0 : decide (0 ≤ x8_1) = true := decide_eq_true c15
            clear c15
            by_cases c16 : ((rd_T153 l0 x8_1).f0) = a1
            · rw [if_pos c16] at H
              have c16b0 : (((rd_T153 l0 x8_1).f0) == a1) = true := beq_iff_eq.mpr c16
              have c16b1 : (((rd_T153 l0 x8_1).f0) != a1) = false := bne_eq_false_iff_eq.mpr c16
              clear c16
              replace H := Option.bind_eq_some_iff.mp H
              obtain ⟨⟨t171, t172, t173, t174⟩, A170, H⟩ := H
              replace H : (provostref22_Of.l0 k1 l0 a1 false (wrap64 (x8_1 + 1)) t171 t172 t173) = some (r1, r2, r3) := H
              have A17 := Aside0.mk A170
              clear A170
              have H' := Aside0.mk H
              clear H
              have p169 : 0 ≤ (x8_1 : Int) := of_decide_eq_true (by first | (with_reducible assumption) | assumption)
              have q169 : x8_1 < (l0.length : Int) := of_decide_eq_true (by first | (with_reducible assumption) | assumption)
              obtain ⟨ad169, e169, hx169_0, hx169_1, hx169_2, hx169_3, hx169_4, hx169_5, hx169_6, hx169_7⟩ := at_T153 HR0.out x8_1 p169 q169
              cases e169
              replace hx169_0 := (HB.out.cell (World.block_lt_of_cell? w _ hx169_0)).trans hx169_0
              replace hx169_1 := (HB.out.cell (World.block_lt_of_cell? w _ hx169_1)).trans hx169_1
              replace hx169_2 := (HB.out.cell (World.block_lt_of_cell? w _ hx169_2)).trans hx169_2
              replace hx169_3 := (HB.out.cell (World.block_lt_of_cell? w _ hx169_3)).trans hx169_3
              replace hx169_4 := (HB.out.cell (World.block_lt_of_cell? w _ hx169_4)).trans hx169_4
              replace hx169_5 := (HB.out.cell (World.block_lt_of_cell? w _ hx169_5)).trans hx169_5
              replace hx169_6 := (HB.out.cell (World.block_lt_of_cell? w _ hx169_6)).trans hx169_6
              replace hx169_7 := (HB.out.cell (World.block_lt_of_cell? w _ hx169_7)).trans hx169_7
              replace p169 := eq_true p169
              replace q169 := eq_true q169
              try go_wp2
              have n0_ := Aside0.mk (blk_drew BK162.out)
              have n1_ := Aside0.mk (blk_drew BK163.out)
              have n2_ := Aside0.mk (below_drew1 HB.out)
              clear BK162
              clear BK163
              clear HB
              have BK162 := n0_
              have BK163 := n1_
              have HB := n2_
              clear n0_ n1_ n2_
              have p170 : 0 ≤ (x8_1 : Int) := of_decide_eq_true (by first | (with_reducible assumption) | assumption)
              have q170 : x8_1 < (l0.length : Int) := of_decide_eq_true (by first | (with_reducible assumption) | assumption)
              obtain ⟨ad170, e170, hx170_0, hx170_1, hx170_2, hx170_3, hx170_4, hx170_5, hx170_6, hx170_7⟩ := at_T153 HR0.out x8_1 p170 q170
              have hw170_7 := hx170_7
              have hw170_6 := hx170_6
              have hw170_5 := hx170_5
              have hw170_4 := hx170_4
              have hw170_3 := hx170_3
              have hw170_2 := hx170_2
              have hw170_1 := hx170_1
              have hw170_0 := hx170_0
              obtain rfl : ad169 = ad170 := (by injection e170)
              replace hx170_0 := (HB.out.cell (World.block_lt_of_cell? w _ hx170_0)).trans hx170_0
              replace hx170_1 := (HB.out.cell (World.block_lt_of_cell? w _ hx170_1)).trans hx170_1
              replace hx170_2 := (HB.out.cell (World.block_lt_of_cell? w _ hx170_2)).trans hx170_2
              replace hx170_3 := (HB.out.cell (World.block_lt_of_cell? w _ hx170_3)).trans hx170_3
              replace hx170_4 := (HB.out.cell (World.block_lt_of_cell? w _ hx170_4)).trans hx170_4
              replace hx170_5 := (HB.out.cell (World.block_lt_of_cell? w _ hx170_5)).trans hx170_5
              replace hx170_6 := (HB.out.cell (World.block_lt_of_cell? w _ hx170_6)).trans hx170_6
              replace hx170_7 := (HB.out.cell (World.block_lt_of_cell? w _ hx170_7)).trans hx170_7
              replace p170 := eq_true p170
              replace q170 := eq_true q170
              refine start_ (n := 11) (S := fun w' => w'.cell? ⟨gb163, 0, none⟩ = some (.int .i64 x164000_1) ∧ w'.cell? ⟨gb163, 1, none⟩ = some (.int .i64 x164001_1) ∧ w'.cell? ⟨gb163, 2, none⟩ = some (.int .i64 x164002_1) ∧ w'.cell? (ad169.add ((x8_1).toNat * 8)) = some (.int .i64 ((rd_T153 l0 x8_1).f0)) ∧ w'.cell? ⟨(ad169.add ((x8_1).toNat * 8)).block, (ad169.add ((x8_1).toNat * 8)).off + 1, none⟩ = some (.int .i64 ((rd_T153 l0 x8_1).f1)) ∧ w'.cell? ⟨(ad169.add ((x8_1).toNat * 8)).block, (ad169.add ((x8_1).toNat * 8)).off + 2, none⟩ = some (.int .i64 ((rd_T153 l0 x8_1).f2.f0)) ∧ w'.cell? ⟨(ad169.add ((x8_1).toNat * 8)).block, (ad169.add ((x8_1).toNat * 8)).off + 3, none⟩ = some (.int .i64 ((rd_T153 l0 x8_1).f2.f1)) ∧ w'.cell? ⟨(ad169.add ((x8_1).toNat * 8)).block, (ad169.add ((x8_1).toNat * 8)).off + 4, none⟩ = some (.int .i64 ((rd_T153 l0 x8_1).f2.f2)) ∧ w'.cell? ⟨(ad169.add ((x8_1).toNat * 8)).block, (ad169.add ((x8_1).toNat * 8)).off + 5, none⟩ = some (.int .i64 ((rd_T153 l0 x8_1).f3.f0)) ∧ w'.cell? ⟨(ad169.add ((x8_1).toNat * 8)).block, (ad169.add ((x8_1).toNat * 8)).off + 6, none⟩ = some (.int .i64 ((rd_T153 l0 x8_1).f3.f1)) ∧ w'.cell? ⟨(ad169.add ((x8_1).toNat * 8)).block, (ad169.add ((x8_1).toNat * 8)).off + 7, none⟩ = some (.int .i64 ((rd_T153 l0 x8_1).f3.f2))) (ds := [10]) #[false, false, false, false, false, false, false, false, false, false, false] (by kernel_rfl) rfl rfl ⟨(blk_cell BK163.out 0).trans rfl, (blk_cell BK163.out 1).trans rfl, (blk_cell BK163.out 2).trans rfl, ((HB.out.cell (World.block_lt_of_cell? w _ hw170_0)).trans hw170_0), ((HB.out.cell (World.block_lt_of_cell? w _ hw170_1)).trans hw170_1), ((HB.out.cell (World.block_lt_of_cell? w _ hw170_2)).trans hw170_2), ((HB.out.cell (World.block_lt_of_cell? w _ hw170_3)).trans hw170_3), ((HB.out.cell (World.block_lt_of_cell? w _ hw170_4)).trans hw170_4), ((HB.out.cell (World.block_lt_of_cell? w _ hw170_5)).trans hw170_5), ((HB.out.cell (World.block_lt_of_cell? w _ hw170_6)).trans hw170_6), ((HB.out.cell (World.block_lt_of_cell? w _ hw170_7)).trans hw170_7)⟩ (fun hHeld => ?_); refine with_tabW provostref22_Of.tab6 provostref22_Of.bits6 (fun HT_ HW_ => ?_)
              generalize wr.drew = w18 at BK162 BK163 HB hx170_0 hx170_1 hx170_2 hx170_3 hx170_4 hx170_5 hx170_6 hx170_7 hHeld ⊢
              refine pure_ (i := 1) (N := some 27) (v := ?_) (a' := ?_) #[false, true, false, false, false, false, false, false, false, false, false] rfl rfl (any_of HT_.out (by kernel_rfl)) (fun _ _ _ h => h) (Or.inl ⟨by rfl, ?_⟩) ?_ ?_
              rotate_left
              · intro w'
                go_simp
                with_reducible rfl
              rotate_left
              · simp only [Act.put, List.setIfInBounds_toArray, List.set_cons_zero, List.set_cons_succ, i64_w, i32_w]
                rfl
              refine pure_ (i := 2) (N := some 28) (v := ?_) (a' := ?_) #[false, true, true, false, false, false, false, false, false, false, false] rfl rfl (any_of HT_.out (by kernel_rfl)) (fun _ _ _ h => h) (Or.inl ⟨by rfl, ?_⟩) ?_ ?_
              rotate_left
              · intro w'
                go_simp
                with_reducible rfl
              rotate_left
              · simp only [Act.put, List.setIfInBounds_toArray, List.set_cons_zero, List.set_cons_succ, i64_w, i32_w]
                rfl
              refine pure_ (i := 3) (N := some 29) (v := ?_) (a' := ?_) #[false, true, true, true, false, false, false, false, false, false, false] rfl rfl (any_of HT_.out (by kernel_rfl)) (fun _ _ _ h => h) (Or.inl ⟨by rfl, ?_⟩) ?_ ?_
              rotate_left
              · intro w'
                go_simp
                with_reducible rfl
              rotate_left
              · simp only [Act.put, List.setIfInBounds_toArray, List.set_cons_zero, List.set_cons_succ, i64_w, i32_w]
                rfl
              refine pure_ (i := 4) (N := some 30) (v := ?_) (a' := ?_) #[false, true, true, true, true, false, false, false, false, false, false] rfl rfl (any_of HT_.out (by kernel_rfl)) (fun _ _ _ h => h) (Or.inl ⟨by rfl, ?_⟩) ?_ ?_
              rotate_left
              · intro w'
                go_simp
                with_reducible rfl
              rotate_left
              · simp only [Act.put, List.setIfInBounds_toArray, List.set_cons_zero, List.set_cons_succ, i64_w, i32_w]
                rfl
              refine take_ (i := 0) (N := some 26) (v := ?_) (a' := ?_) #[true, true, true, true, true, false, false, false, false, false, false] rfl rfl (take_ofW HT_.out HW_.out (by kernel_rfl)) (fun _ _ _ h => h) (Or.inl ⟨by rfl, ?_⟩) hHeld ?_ ?_
              rotate_left
              · rintro w' ⟨s0, s1, s2, s3, s4, s5, s6, s7, s8, s9, s10⟩
                go_simp
                with_reducible rfl
              rotate_left
              · simp only [Act.put, List.setIfInBounds_toArray, List.set_cons_zero, List.set_cons_succ, i64_w, i32_w]
                rfl
              refine take_ (i := 5) (N := some 31) (v := ?_) (a' := ?_) #[true, true, true, true, true, true, false, false, false, false, false] rfl rfl (take_ofW HT_.out HW_.out (by kernel_rfl)) (fun _ _ _ h => h) (Or.inl ⟨by rfl, ?_⟩) hHeld ?_ ?_
              rotate_left
              · rintro w' ⟨s0, s1, s2, s3, s4, s5, s6, s7, s8, s9, s10⟩
                go_simp
                with_reducible rfl
              rotate_left
              · simp only [Act.put, List.setIfInBounds_toArray, List.set_cons_zero, List.set_cons_succ, i64_w, i32_w]
                rfl
              refine one_ (i := 6) (N := some 32) #[true, true, true, true, true, true, true, false, false, false, false] rfl rfl (one_of HT_.out (by kernel_rfl)) (by decide) (fun K hK => ?_)
              refine goes_ Try.func132 (by kernel_rfl) rfl #[.agg #[.int .i64 x164000_1, .int .i64 x164001_1, .int .i64 x164002_1], .agg #[.int .i64 ((rd_T153 l0 x8_1).f2.f0), .int .i64 ((rd_T153 l0 x8_1).f2.f1), .int .i64 ((rd_T153 l0 x8_1).f2.f2)]] (by rfl) rfl rfl (by (try simp only [List.map_toArray, List.map_cons, List.map_nil]); first | done | rfl | (simp only [List.length_drop, List.length_take]; rfl)) ?_
              with_reducible refine (provostref14_Add.calls x164000_1 x164001_1 x164002_1 ((rd_T153 l0 x8_1).f2.f0) ((rd_T153 l0 x8_1).f2.f1) ((rd_T153 l0 x8_1).f2.f2) t171 t172 t173 t174 _ A17.out).mono ?_
              rintro e w19 ⟨rfl, hb⟩
              refine ⟨_, rfl, ?_⟩
              have n0_ := Aside0.mk (blk_below (g := gb162) (o := .cells #[.int .i64 0, .int .i64 0, .int .i64 0] 145 (0, 0)) (by (with_reducible repeat (first | refine blk_drewN ?_ _ | refine blk_drew ?_ | refine blk_alloc ?_ _)); exact BK162.out) hb)
              have n1_ := Aside0.mk (blk_below (g := gb163) (o := .cells #[.int .i64 x164000_1, .int .i64 x164001_1, .int .i64 x164002_1] 145 (0, 0)) (by (with_reducible repeat (first | refine blk_drewN ?_ _ | refine blk_drew ?_ | refine blk_alloc ?_ _)); exact BK163.out) hb)
              have n2_ := Aside0.mk (below_step (by repeat (first | (with_reducible first | exact HB.out | apply below_alloc | apply pw_below_drewN | apply below_drew1 | refine below_set ?_ GE162.out | refine below_set ?_ GE163.out) | exact HB.out)) hb)
              clear BK162
              clear BK163
              clear HB
              have BK162 := n0_
              have BK163 := n1_
              have HB := n2_
              clear n0_ n1_ n2_
              (try clear hb)
              (try clear hb2)
              (try clear hk)
              (try clear hi)
              refine hK.out _ _ ⟨(blk_cell BK163.out 0).trans rfl, (blk_cell BK163.out 1).trans rfl, (blk_cell BK163.out 2).trans rfl, ((HB.out.cell (World.block_lt_of_cell? w _ hw170_0)).trans hw170_0), ((HB.out.cell (World.block_lt_of_cell? w _ hw170_1)).trans hw170_1), ((HB.out.cell (World.block_lt_of_cell? w _ hw170_2)).trans hw170_2), ((HB.out.cell (World.block_lt_of_cell? w _ hw170_3)).trans hw170_3), ((HB.out.cell (World.block_lt_of_cell? w _ hw170_4)).trans hw170_4), ((HB.out.cell (World.block_lt_of_cell? w _ hw170_5)).trans hw170_5), ((HB.out.cell (World.block_lt_of_cell? w _ hw170_6)).trans hw170_6), ((HB.out.cell (World.block_lt_of_cell? w _ hw170_7)).trans hw170_7)⟩ (fun hHeld => ?_)
              clear hK K
              refine norm_ (a' := ?_) ?_ ?_
              rotate_left
              · show Act.put _ (some 32) _ = _
                simp only [Act.put, List.setIfInBounds_toArray, List.set_cons_zero, List.set_cons_succ, i64_w, i32_w]
                rfl
              refine pure_ (i := 7) (N := some 25) (v := ?_) (a' := ?_) #[true, true, true, true, true, true, true, true, false, false, false] rfl rfl (any_of HT_.out (by kernel_rfl)) (fun _ _ _ h => h) (Or.inl ⟨by rfl, ?_⟩) ?_ ?_
              rotate_left
              · intro w'
                go_simp
                with_reducible rfl
              rotate_left
              · simp only [Act.put, List.setIfInBounds_toArray, List.set_cons_zero, List.set_cons_succ, i64_w, i32_w]
                rfl
              refine pure_ (i := 8) (N := some 33) (v := ?_) (a' := ?_) #[true, true, true, true, true, true, true, true, true, false, false] rfl rfl (any_of HT_.out (by kernel_rfl)) (fun _ _ _ h => h) (Or.inl ⟨by rfl, ?_⟩) ?_ ?_
              rotate_left
              · intro w'
                go_simp
                with_reducible rfl
              rotate_left
              · simp only [Act.put, List.setIfInBounds_toArray, List.set_cons_zero, List.set_cons_succ, i64_w, i32_w]
                rfl
              refine pure_ (i := 9) (N := some 34) (v := ?_) (a' := ?_) #[true, true, true, true, true, true, true, true, true, true, false] rfl rfl (any_of HT_.out (by kernel_rfl)) (fun _ _ _ h => h) (Or.inl ⟨by rfl, ?_⟩) ?_ ?_
              rotate_left
              · intro w'
                go_simp
                with_reducible rfl
              rotate_left
              · simp only [Act.put, List.setIfInBounds_toArray, List.set_cons_zero, List.set_cons_succ, i64_w, i32_w]
                rfl
              refine last_ (i := 10) (N := none) #[true, true, true, true, true, true, true, true, true, true, true] rfl rfl (one_of HT_.out (by kernel_rfl)) (by decide) (fun K hK => ?_)
              have hs20 : w19.cell? ⟨gb163, 0, none⟩ = some (.int .i64 x164000_1) := (blk_cell BK163.out 0).trans rfl
              have hfs20 := blk_frozen BK163.out 0
              have hns20_0 := NB162_163.out
              have hms20_0 := NB163_162.out
              have hs21 : w19.cell? ⟨gb163, 1, none⟩ = some (.int .i64 x164001_1) := (blk_cell BK163.out 1).trans rfl
              have hfs21 := blk_frozen BK163.out 1
              have hns21_0 := NB162_163.out
              have hms21_0 := NB163_162.out
              have hs22 : w19.cell? ⟨gb163, 2, none⟩ = some (.int .i64 x164002_1) := (blk_cell BK163.out 2).trans rfl
              have hfs22 := blk_frozen BK163.out 2
              have hns22_0 := NB162_163.out
              have hms22_0 := NB163_162.out
              refine skip_ (w1 := ?_) (by rfl) rfl ?_ ?_
              rotate_left
              · go_simp
                rfl
              refine hK.out _ _ ?_
              clear hK K
              refine done_ (done_of HT_.out (by kernel_rfl)) ?_
              try go_wp2
              go_roundg k1
              case measure => have := HK1.out; omega
              case rel => exact ⟨(wrap64 (x8_1 + 1)), (t171), (t172), (t173), (by first | rfl | (simp; done) | (simp [*]; done)), H', ⟨by have := HK1.out; omega⟩, ⟨by (with_reducible repeat (first | refine blk_drewN ?_ _ | refine blk_drew ?_ | refine blk_alloc ?_ _)); refine blk_far ?_ NB162_163.out _; (with_reducible repeat (first | refine blk_drewN ?_ _ | refine blk_drew ?_ | refine blk_alloc ?_ _)); refine blk_far ?_ NB162_163.out _; (with_reducible repeat (first | refine blk_drewN ?_ _ | refine blk_drew ?_ | refine blk_alloc ?_ _)); refine blk_far ?_ NB162_163.out _; (with_reducible repeat (first | refine blk_drewN ?_ _ | refine blk_drew ?_ | refine blk_alloc ?_ _)); exact BK162.out⟩, ⟨by (with_reducible repeat (first | refine blk_drewN ?_ _ | refine blk_drew ?_ | refine blk_alloc ?_ _)); refine blk_put (cs := #[.int .i64 t171, .int .i64 t172, .int .i64 x164002_1]) ?_ 2 _ rfl; (with_reducible repeat (first | refine blk_drewN ?_ _ | refine blk_drew ?_ | refine blk_alloc ?_ _)); refine blk_put (cs := #[.int .i64 t171, .int .i64 x164001_1, .int .i64 x164002_1]) ?_ 1 _ rfl; (with_reducible repeat (first | refine blk_drewN ?_ _ | refine blk_drew ?_ | refine blk_alloc ?_ _)); refine blk_put (cs := #[.int .i64 x164000_1, .int .i64 x164001_1, .int .i64 x164002_1]) ?_ 0 _ rfl; (with_reducible repeat (first | refine blk_drewN ?_ _ | refine blk_drew ?_ | refine blk_alloc ?_ _)); exact BK163.out⟩, ⟨by repeat (first | (with_reducible first | exact HB.out | apply below_alloc | apply pw_below_drewN | apply below_drew1 | refine below_set ?_ GE162.out | refine below_set ?_ GE163.out) | exact HB.out)⟩⟩
            · rw [if_neg c16] at H
              have c16b0 : (((rd_T153 l0 x8_1).f0) == a1) = false := beq_eq_false_iff_ne.mpr c16
              have c16b1 : (((rd_T153 l0 x8_1).f0) != a1) = true := bne_iff_ne.mpr c16
              have H' := Aside0.mk H
              clear H
              have p169 : 0 ≤ (x8_1 : Int) := of_decide_eq_true (by first | (with_reducible assumption) | assumption)
              have q169 : x8_1 < (l0.length : Int) := of_decide_eq_true (by first | (with_reducible assumption) | assumption)
              obtain ⟨ad169, e169, hx169_0, hx169_1, hx169_2, hx169_3, hx169_4, hx169_5, hx169_6, hx169_7⟩ := at_T153 HR0.out x8_1 p169 q169
              cases e169
              replace hx169_0 := (HB.out.cell (World.block_lt_of_cell? w _ hx169_0)).trans hx169_0
              replace hx169_1 := (HB.out.cell (World.block_lt_of_cell? w _ hx169_1)).trans hx169_1
              replace hx169_2 := (HB.out.cell (World.block_lt_of_cell? w _ hx169_2)).trans hx169_2
              replace hx169_3 := (HB.out.cell (World.block_lt_of_cell? w _ hx169_3)).trans hx169_3
              replace hx169_4 := (HB.out.cell (World.block_lt_of_cell? w _ hx169_4)).trans hx169_4
              replace hx169_5 := (HB.out.cell (World.block_lt_of_cell? w _ hx169_5)).trans hx169_5
              replace hx169_6 := (HB.out.cell (World.block_lt_of_cell? w _ hx169_6)).trans hx169_6
              replace hx169_7 := (HB.out.cell (World.block_lt_of_cell? w _ hx169_7)).trans hx169_7
              replace p169 := eq_true p169
              replace q169 := eq_true q169
              go_wp2
              go_roundg k1
              case measure => have := HK1.out; omega
              case rel => exact ⟨(wrap64 (x8_1 + 1)), (x164000_1), (x164001_1), (x164002_1), (by first | rfl | (simp; done) | (simp [*]; done)), H', ⟨by have := HK1.out; omega⟩, ⟨by (with_reducible repeat (first | refine blk_drewN ?_ _ | refine blk_drew ?_ | refine blk_alloc ?_ _)); exact BK162.out⟩, ⟨by (with_reducible repeat (first | refine blk_drewN ?_ _ | refine blk_drew ?_ | refine blk_alloc ?_ _)); exact BK163.out⟩, ⟨by repeat (first | (with_reducible first | exact HB.out | apply below_alloc | apply pw_below_drewN | apply below_drew1 | refine below_set ?_ GE162.out | refine below_set ?_ GE163.out) | exact HB.out)⟩⟩
          · rw [if_neg c15] at H
            exact absurd H (by simp)
      · rw [if_neg c6] at H
        have c6b0 : decide (x8_1 < (l0.length : Int)) = false := decide_eq_false c6
        clear c6
        simp only [Option.some.injEq, Prod.mk.injEq] at H
        obtain ⟨rfl, rfl, rfl⟩ := H
        have hnb23 := NB163_162.out
        have hnc23 := NB162_163.out
        have hcz24_0 : wr.cell? ⟨gb163, 0, none⟩ = some (.int .i64 x164000_1) := (blk_cell BK163.out 0).trans rfl
        have hcz24_1 : wr.cell? ⟨gb163, 1, none⟩ = some (.int .i64 x164001_1) := (blk_cell BK163.out 1).trans rfl
        have hcz24_2 : wr.cell? ⟨gb163, 2, none⟩ = some (.int .i64 x164002_1) := (blk_cell BK163.out 2).trans rfl
        have hfz24_0 := blk_frozen BK163.out 0
        have hfz24_1 := blk_frozen BK163.out 1
        have hfz24_2 := blk_frozen BK163.out 2
        have hcz25_0 : wr.cell? ⟨gb162, 0, none⟩ = some (.int .i64 0) := (blk_cell BK162.out 0).trans rfl
        have hcz25_1 : wr.cell? ⟨gb162, 1, none⟩ = some (.int .i64 0) := (blk_cell BK162.out 1).trans rfl
        have hcz25_2 : wr.cell? ⟨gb162, 2, none⟩ = some (.int .i64 0) := (blk_cell BK162.out 2).trans rfl
        have hfz25_0 := blk_frozen BK162.out 0
        have hfz25_1 := blk_frozen BK162.out 1
        have hfz25_2 := blk_frozen BK162.out 2
        go_wp2
        refine bodyPost_ret (results_cell_row rfl _ _ gb162 145 #[.int .i64 x164000_1, .int .i64 x164001_1, .int .i64 x164002_1] (0, 0) _ rfl (by (with_reducible repeat (first | refine blk_drewN ?_ _ | refine blk_drew ?_ | refine blk_alloc ?_ _)); refine blk_put (cs := #[.int .i64 x164000_1, .int .i64 x164001_1, .int .i64 0]) ?_ 2 _ rfl; (with_reducible repeat (first | refine blk_drewN ?_ _ | refine blk_drew ?_ | refine blk_alloc ?_ _)); refine blk_put (cs := #[.int .i64 x164000_1, .int .i64 0, .int .i64 0]) ?_ 1 _ rfl; (with_reducible repeat (first | refine blk_drewN ?_ _ | refine blk_drew ?_ | refine blk_alloc ?_ _)); refine blk_put (cs := #[.int .i64 0, .int .i64 0, .int .i64 0]) ?_ 0 _ rfl; (with_reducible repeat (first | refine blk_drewN ?_ _ | refine blk_drew ?_ | refine blk_alloc ?_ _)); exact BK162.out) Try.underlying145 rfl (by kernel_rfl)) rfl ?_
        exact ⟨by first | rfl | (simp [errW_none, errW_some] <;> rfl) | (simp [*, errW_none, errW_some] <;> rfl), by repeat (first | (with_reducible first | exact HB.out | apply below_alloc | apply pw_below_drewN | apply below_drew1 | refine below_set ?_ GE162.out | refine below_set ?_ GE163.out) | exact HB.out)⟩

-- NOT PRINTED: function 91 (use_Book_All)

-- NOT PRINTED: function 92 (provostlaw22_works)

-- NOT PRINTED: function 12 (provostlaw22_UsePlays)

end Go.Proofs.Ytnceglkoolfncaa.PUsePlays
