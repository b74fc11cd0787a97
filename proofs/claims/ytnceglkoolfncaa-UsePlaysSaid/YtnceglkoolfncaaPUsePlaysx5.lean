/- Printed contract (print.sh) of ref22.Add, mended. -/
import Derived.Test.YtnceglkoolfncaaPUsePlaysx0
import Derived.Test.YtnceglkoolfncaaPUsePlaysx1
namespace Go.Proofs.Ytnceglkoolfncaa.PUsePlays
open Go.RowKit Go.Proofs.YtnceglkoolfncaaW.PrintWords Go.Proofs.YtnceglkoolfncaaW.PrintLast Go.Proofs.YtnceglkoolfncaaW.PrintMore
attribute [local go_sem] max2_int min2_int max_two min_two max_three min_three max_four min_four   -- for this text's walks alone
set_option linter.unusedVariables false
set_option linter.unusedSimpArgs false

/-! ### provostref22_Add: function 80 -/
def provostref22_Add.j0 : Nat → List (S153) → Int → Int → Int → Int → Option ((List (S153)) × Int × Int × Int)
  | 0, _, _, _, _, _ => none
  | k + 1, x0, x10, x110000, x110001, x110002 => if 0 ≤ x10 then (if x10 < (x0.length : Int) then ((provostref22_bound.f k ((rd_T153 x0 x10).f2.f0) x110000).bind fun t123 => ((provostref22_bound.f k ((rd_T153 x0 x10).f2.f1) x110001).bind fun t124 => ((provostref22_bound.f k ((rd_T153 x0 x10).f2.f2) x110002).bind fun t125 => ((some (x0.set (x10 : Int).toNat (⟨(rd_T153 x0 x10).f0, (rd_T153 x0 x10).f1, (⟨t123, t124, t125⟩ : S145), (⟨(rd_T153 x0 x10).f3.f0, (rd_T153 x0 x10).f3.f1, (rd_T153 x0 x10).f3.f2⟩ : S145)⟩ : S153) : List (S153))).bind fun y126 => ((provostref14_Max.f ((rd_T153 y126 x10).f3.f0) ((rd_T153 y126 x10).f3.f1) ((rd_T153 y126 x10).f3.f2) t123 t124 t125).bind fun bt128 => (some ((y126.set (x10 : Int).toNat (⟨(rd_T153 y126 x10).f0, (rd_T153 y126 x10).f1, (⟨(rd_T153 y126 x10).f2.f0, (rd_T153 y126 x10).f2.f1, (rd_T153 y126 x10).f2.f2⟩ : S145), (⟨bt128.1, bt128.2.1, bt128.2.2⟩ : S145)⟩ : S153)), t123, t124, t125))))))) else (none)) else (none)
def provostref22_Add.f (k : Nat) (l0 : List (S153)) (a1 : Int) (a2 : Int) (a3_0 : Int) (a3_1 : Int) (a3_2 : Int) : Option ((List (S153)) × Int × Int × Int) := (provostref22_Index.f k l0 a1 a2).bind fun t111 => ((some (([] : List (S153)) : List (S153))).bind fun y112 => (if y112.length + l0.length < 2199023255552 then ((some (y112 ++ l0 : List (S153))).bind fun y115 => (if t111 < 0 then (if y115.length < 2199023255552 then (provostref22_Add.j0 k (y115 ++ [(⟨a1, a2, (⟨0, 0, 0⟩ : S145), (⟨0, 0, 0⟩ : S145)⟩ : S153)]) (y115.length : Int) a3_0 a3_1 a3_2) else (none)) else (provostref22_Add.j0 k y115 t111 a3_0 a3_1 a3_2))) else (none)))
theorem provostref22_Add.mono_l : ∀ k, (∀ y0 y1 y2 y3 y4, LeO (provostref22_Add.j0 k y0 y1 y2 y3 y4) (provostref22_Add.j0 (k + 1) y0 y1 y2 y3 y4))
  | 0 => fun _ _ _ _ _ r h => by simp [provostref22_Add.j0] at h
  | k + 1 => by
    have ih0 := provostref22_Add.mono_l k
    · intro y0 y1 y2 y3 y4
      unfold provostref22_Add.j0
      repeat' first
      | (with_reducible exact ih0 _ _ _ _ _)
      | (with_reducible exact provostref22_Index.mono _ _ _ _)
      | (with_reducible exact provostref22_bound.mono _ _ _)
      | (with_reducible exact LeO.refl _)
      | (with_reducible exact LeO.none _)
      | (with_reducible refine LeO.ite ?_ ?_)
      | (with_reducible refine LeO.bind ?_ (fun _ => ?_))
      | exact ih0 _ _ _ _ _
      | exact provostref22_Index.mono _ _ _ _
      | exact provostref22_bound.mono _ _ _
      | exact LeO.none _
      | refine LeO.ite ?_ ?_
      | refine LeO.bind ?_ (fun _ => ?_)
theorem provostref22_Add.mono : ∀ a0 a1 a2 a3 a4 a5 k, LeO (provostref22_Add.f k a0 a1 a2 a3 a4 a5) (provostref22_Add.f (k + 1) a0 a1 a2 a3 a4 a5) := by
  intro a0 a1 a2 a3 a4 a5 k
  have ih0 := provostref22_Add.mono_l k
  unfold provostref22_Add.f
  repeat' first
      | (with_reducible exact ih0 _ _ _ _ _)
      | (with_reducible exact provostref22_Index.mono _ _ _ _)
      | (with_reducible exact provostref22_bound.mono _ _ _)
      | (with_reducible exact LeO.refl _)
      | (with_reducible exact LeO.none _)
      | (with_reducible refine LeO.ite ?_ ?_)
      | (with_reducible refine LeO.bind ?_ (fun _ => ?_))
      | exact ih0 _ _ _ _ _
      | exact provostref22_Index.mono _ _ _ _
      | exact provostref22_bound.mono _ _ _
      | exact LeO.none _
      | refine LeO.ite ?_ ?_
      | refine LeO.bind ?_ (fun _ => ?_)
def provostref22_Add.T7 : Bool × List (List Nat × List Nat) := (true, [([], []), ([0], [0]), ([], []), ([2], [2]), ([1, 3], [1, 3]), ([], []), ([5], [5]), ([], []), ([7], [7]), ([6, 8, 4], [6, 8]), ([], []), ([10], [10]), ([], []), ([12], [12]), ([11, 13, 9], [11, 13]), ([4, 9, 14], [4, 9, 14]), ([15, 14, 0, 1, 2, 3, 4, 5, 6, 7, 8, 9, 10, 11, 12, 13, 14, 15], [15])])
def provostref22_Add.B7 : List Nat := [0, 1, 0, 4, 15, 0, 32, 0, 128, 511, 0, 1024, 0, 4096, 16383, 32767, 65535]
theorem provostref22_Add.tab7 : rtab .any (opsOf Try.f80 7) = provostref22_Add.T7 := by kernel_rfl
theorem provostref22_Add.bits7 : waitsOk provostref22_Add.T7.2 provostref22_Add.B7 = true := by kernel_rfl
def provostref22_Add.T9 : Bool × List (List Nat × List Nat) := (true, [([], []), ([], []), ([], []), ([], []), ([2, 3], [2, 3]), ([4], [4]), ([5], [5]), ([], []), ([6, 7], [6, 7]), ([0, 1, 0, 1, 2, 3, 4, 5, 6, 7, 8], [0, 1]), ([9, 0, 1, 2, 3, 4, 5, 6, 7, 8], [9]), ([10, 8, 8, 0, 1, 2, 3, 4, 5, 6, 7, 8], [8, 10])])
def provostref22_Add.B9 : List Nat := [0, 0, 0, 0, 12, 28, 60, 0, 252, 511, 1023, 2047]
theorem provostref22_Add.tab9 : rtab .any (opsOf Try.f80 9) = provostref22_Add.T9 := by kernel_rfl
theorem provostref22_Add.bits9 : waitsOk provostref22_Add.T9.2 provostref22_Add.B9 = true := by kernel_rfl
set_option maxHeartbeats 8000000 in
set_option maxRecDepth 100000 in
theorem provostref22_Add.calls (k : Nat) (A0 : Option Addr) (c0 : Nat) (l0 : List (S153)) (a1 : Int) (a2 : Int) (a3_0 : Int) (a3_1 : Int) (a3_2 : Int) (r1 : List (S153)) (r2 : Int) (r3 : Int) (r4 : Int) (w : World) (hr0 : Kd.C k153 w A0 l0.length l0) (hc0 : l0.length ≤ c0) (h : provostref22_Add.f k l0 a1 a2 a3_0 a3_1 a3_2 = some (r1, r2, r3, r4)) :
    Calls Try.prog 80 #[.slice A0 l0.length c0, .int .i64 a1, .int .i64 a2, .agg #[.int .i64 a3_0, .int .i64 a3_1, .int .i64 a3_2]] w fun e w' => ∃ v0_ : Value, e = .returned (.tuple #[v0_, .agg #[.int .i64 r2, .int .i64 r3, .int .i64 r4]]) ∧ Kd.R k153 153 w' w.heap.size (fun _ => True) v0_ r1 ∧ Below w.heap.size w w' := by
  have hu145 := Try.underlying145
  have hu153 := Try.underlying153
  have HR0 := Aside0.mk hr0
  have HC0 := Aside0.mk hc0
  clear hr0 hc0
  have HB := Aside0.mk (Below.refl w.heap.size w)
  have H : ((provostref22_Index.f k l0 a1 a2).bind fun t111 => ((some (([] : List (S153)) : List (S153))).bind fun y112 => (if y112.length + l0.length < 2199023255552 then ((some (y112 ++ l0 : List (S153))).bind fun y115 => (if t111 < 0 then (if y115.length < 2199023255552 then (provostref22_Add.j0 k (y115 ++ [(⟨a1, a2, (⟨0, 0, 0⟩ : S145), (⟨0, 0, 0⟩ : S145)⟩ : S153)]) (y115.length : Int) a3_0 a3_1 a3_2) else (none)) else (provostref22_Add.j0 k y115 t111 a3_0 a3_1 a3_2))) else (none)))) = some (r1, r2, r3, r4) := h
  clear h
  replace H := Option.bind_eq_some_iff.mp H
  obtain ⟨t111, A50, H⟩ := H
  replace H : ((some (([] : List (S153)) : List (S153))).bind fun y112 => (if y112.length + l0.length < 2199023255552 then ((some (y112 ++ l0 : List (S153))).bind fun y115 => (if t111 < 0 then (if y115.length < 2199023255552 then (provostref22_Add.j0 k (y115 ++ [(⟨a1, a2, (⟨0, 0, 0⟩ : S145), (⟨0, 0, 0⟩ : S145)⟩ : S153)]) (y115.length : Int) a3_0 a3_1 a3_2) else (none)) else (provostref22_Add.j0 k y115 t111 a3_0 a3_1 a3_2))) else (none))) = some (r1, r2, r3, r4) := H
  have A5 := Aside0.mk A50
  clear A50
  obtain ⟨y112, hy112⟩ : ∃ y_ : List (S153), y_ = (([] : List (S153))) := ⟨_, rfl⟩
  replace H : (if y112.length + l0.length < 2199023255552 then ((some (y112 ++ l0 : List (S153))).bind fun y115 => (if t111 < 0 then (if y115.length < 2199023255552 then (provostref22_Add.j0 k (y115 ++ [(⟨a1, a2, (⟨0, 0, 0⟩ : S145), (⟨0, 0, 0⟩ : S145)⟩ : S153)]) (y115.length : Int) a3_0 a3_1 a3_2) else (none)) else (provostref22_Add.j0 k y115 t111 a3_0 a3_1 a3_2))) else (none)) = some (r1, r2, r3, r4) := by first | (rw [hy112]; with_reducible exact H) | (have H2_ := (Option.bind_some _ _).symm.trans H; rw [hy112]; with_reducible exact H2_) | (have H2_ := (Option.bind_some _ _).symm.trans H; with_reducible exact H2_) | with_reducible exact H | (rw [hy112]; exact H) | exact H
  have Ny112 := Aside0.mk hy112
  clear hy112
  by_cases c6 : y112.length + l0.length < 2199023255552
  · rw [if_pos c6] at H
    have LMc6 := Aside0.mk c6
    clear c6
    obtain ⟨y115, hy115⟩ : ∃ y_ : List (S153), y_ = (y112 ++ l0) := ⟨_, rfl⟩
    replace H : (if t111 < 0 then (if y115.length < 2199023255552 then (provostref22_Add.j0 k (y115 ++ [(⟨a1, a2, (⟨0, 0, 0⟩ : S145), (⟨0, 0, 0⟩ : S145)⟩ : S153)]) (y115.length : Int) a3_0 a3_1 a3_2) else (none)) else (provostref22_Add.j0 k y115 t111 a3_0 a3_1 a3_2)) = some (r1, r2, r3, r4) := by first | (rw [hy115]; with_reducible exact H) | (have H2_ := (Option.bind_some _ _).symm.trans H; rw [hy115]; with_reducible exact H2_) | (have H2_ := (Option.bind_some _ _).symm.trans H; with_reducible exact H2_) | with_reducible exact H | (rw [hy115]; exact H) | exact H
    have Ny115 := Aside0.mk hy115
    clear hy115
    have HC7 := Aside0.mk H
    clear H
    go_enter Try.func80, Try.ntmps80
    go_upto_if 20 with (first | ((with_reducible refine gate_dst (N := 7) rfl ?_); refine box_event ?hg (N := 7) ?hd (cs := #[.int .i64 a3_0, .int .i64 a3_1, .int .i64 a3_2]) (t := 145) ?hr ?_; (case hd => rfl); (case hg => rfl); (case hr => first | (go_simp; done) | (go_simp; rfl)); intro gb109 hg w8 hbox hb; have n0_ := Aside0.mk (below_step (by repeat (first | (with_reducible first | exact HB.out | apply below_alloc | apply pw_below_drewN | apply below_drew1) | exact HB.out)) hb); have n1_ := Aside0.mk (hbox); have n2_ := Aside0.mk ((by rw [hg]; exact (below_size (by repeat (first | (with_reducible first | exact HB.out | apply below_alloc | apply pw_below_drewN | apply below_drew1) | exact HB.out))) : w.heap.size ≤ gb109)); have n3_ := Aside0.mk ((by rw [hg]; exact (below_size (by repeat (first | (with_reducible first | exact HB.out | apply below_alloc | apply pw_below_drewN | apply below_drew1) | exact HB.out))) : w.heap.size ≤ gb109)); clear HB; have HB := n0_; have BK109 := n1_; have GW109 := n2_; have GE109 := n3_; clear n0_ n1_ n2_ n3_; clear hb hbox hg) | ((with_reducible refine gate_dst (N := 9) rfl ?_); refine box_event ?hg (N := 9) ?hd (cs := #[.int .i64 0, .int .i64 0, .int .i64 0]) (t := 145) ?hr ?_; (case hd => rfl); (case hg => rfl); (case hr => first | (go_simp; done) | (go_simp; rfl)); intro gb110 hg w9 hbox hb; have n0_ := Aside0.mk (blk_below (g := gb109) (o := .cells #[.int .i64 a3_0, .int .i64 a3_1, .int .i64 a3_2] 145 (0, 0)) (by (with_reducible repeat (first | refine blk_drewN ?_ _ | refine blk_drew ?_ | refine blk_alloc ?_ _)); exact BK109.out) hb); have n1_ := Aside0.mk (below_step (by repeat (first | (with_reducible first | exact HB.out | apply below_alloc | apply pw_below_drewN | apply below_drew1 | refine below_set ?_ GE109.out) | exact HB.out)) hb); have n2_ := Aside0.mk (hbox); have n3_ := Aside0.mk ((by rw [hg]; exact (below_size (by repeat (first | (with_reducible first | exact HB.out | apply below_alloc | apply pw_below_drewN | apply below_drew1 | refine below_set ?_ GE109.out) | exact HB.out))) : w.heap.size ≤ gb110)); have n4_ := Aside0.mk ((by rw [hg]; exact (below_size (by repeat (first | (with_reducible first | exact HB.out | apply below_alloc | apply pw_below_drewN | apply below_drew1 | refine below_set ?_ GE109.out) | exact HB.out))) : w.heap.size ≤ gb110)); have n5_ := Aside0.mk ((by rw [hg]; exact Nat.ne_of_lt (blk_lt (g := gb109) (o := .cells #[.int .i64 a3_0, .int .i64 a3_1, .int .i64 a3_2] 145 (0, 0)) (by (with_reducible repeat (first | refine blk_drewN ?_ _ | refine blk_drew ?_ | refine blk_alloc ?_ _)); exact BK109.out)) : gb109 ≠ gb110)); have n6_ := Aside0.mk ((by rw [hg]; exact Nat.ne_of_gt (blk_lt (g := gb109) (o := .cells #[.int .i64 a3_0, .int .i64 a3_1, .int .i64 a3_2] 145 (0, 0)) (by (with_reducible repeat (first | refine blk_drewN ?_ _ | refine blk_drew ?_ | refine blk_alloc ?_ _)); exact BK109.out)) : gb110 ≠ gb109)); clear BK109; clear HB; have BK109 := n0_; have HB := n1_; have BK110 := n2_; have GW110 := n3_; have GE110 := n4_; have NB109_110 := n5_; have NB110_109 := n6_; clear n0_ n1_ n2_ n3_ n4_ n5_ n6_; clear hb hbox hg) | ((with_reducible refine gate_callee (f := 124) rfl ?_); refine goesL_ (some 15) rfl rfl Try.func124 (by kernel_rfl) rfl #[.slice A0 l0.length c0, .int .i64 a1, .int .i64 a2] rfl (by (try simp only [List.map_toArray, List.map_cons, List.map_nil]); first | done | rfl | (simp only [List.length_drop, List.length_take]; rfl)) ?_; (with_reducible refine (provostref22_Index.calls k _ _ l0 a1 a2 t111 _ ?side1 ?side2 A5.out).mono ?_); (case side1 => repeat (first | exact (Kd.C_below HR0.out HB.out) | (with_reducible refine Kd.C_alloc ?_ _) | (with_reducible refine Kd.C_drewN ?_ _) | (with_reducible refine Kd.C_drew ?_))); (case side2 => exact HC0.out); rintro e w' ⟨rfl, ⟨nd, rfl⟩⟩; refine ⟨_, rfl, ?_⟩) | ((with_reducible refine gate_dst (N := 16) rfl ?_); refine Kd.R_lit k153 _ 153 ?hg (N := 16) ?hd (xs := ([] : List (S153))) (inner := []) (ok := fun _ => True) (okp := fun _ => True) ?hr ?hp (fun _ hk => hk) trivial (Below.refl _ _) (Nat.le_refl _) (by simp) ?_; (case hd => rfl); (case hg => rfl); (case hr => first | (go_simp; done) | (go_simp; rfl)); (case hp => exact (Reps.none _ _)); intro v113 w10 ho11 hb hg_ hnew_; clear hg_ hnew_; (first | rw [← Ny112.out] at ho11 | (simp only [Int.reduceToNat] at ho11; rw [← Ny112.out] at ho11)); have n0_ := Aside0.mk (Kd.R_lower ho11 (below_size (by repeat (first | (with_reducible first | exact HB.out | apply below_alloc | apply pw_below_drewN | apply below_drew1 | refine below_set ?_ GE109.out | refine below_set ?_ GE110.out) | exact HB.out)))); have n1_ := Aside0.mk (blk_below (g := gb109) (o := .cells #[.int .i64 a3_0, .int .i64 a3_1, .int .i64 a3_2] 145 (0, 0)) (by (with_reducible repeat (first | refine blk_drewN ?_ _ | refine blk_drew ?_ | refine blk_alloc ?_ _)); exact BK109.out) hb); have n2_ := Aside0.mk (blk_below (g := gb110) (o := .cells #[.int .i64 0, .int .i64 0, .int .i64 0] 145 (0, 0)) (by (with_reducible repeat (first | refine blk_drewN ?_ _ | refine blk_drew ?_ | refine blk_alloc ?_ _)); exact BK110.out) hb); have n3_ := Aside0.mk (below_step (by repeat (first | (with_reducible first | exact HB.out | apply below_alloc | apply pw_below_drewN | apply below_drew1 | refine below_set ?_ GE109.out | refine below_set ?_ GE110.out) | exact HB.out)) hb); clear BK109; clear BK110; clear HB; have HO114 := n0_; have BK109 := n1_; have BK110 := n2_; have HB := n3_; clear n0_ n1_ n2_ n3_; clear hb ho11) | ((with_reducible refine gate_builtin (b := .append) (xs := #[.tmp 16, .tmp 17]) rfl ?_); at_builtin; refine Kd.R_append_rows k153 (w0 := w) w.heap.size rfl (.tmp 16) (.tmp 17) 143 153 (.agg #[(.int .i64 0), (.int .i64 0), (.int .i64 0), (.int .i64 0), (.int .i64 0), (.int .i64 0), (.int .i64 0), (.int .i64 0)]) 64 rfl Try.underlying143 info153 rfl (by decide) (by omega) v113 y112 l0 _ _ _ (fun _ => True) (fun _ => False) rfl rfl ?aO ?aR (fun _ _ h => h) (fun _ h => h.elim) ?aF ?aB ?aS ?aL ?_; (case aR => repeat (first | exact (Kd.C_below HR0.out HB.out) | (with_reducible refine Kd.C_alloc ?_ _) | (with_reducible refine Kd.C_drewN ?_ _) | (with_reducible refine Kd.C_drew ?_))); (case aB => exact (by repeat (first | (with_reducible first | exact HB.out | apply below_alloc | apply pw_below_drewN | apply below_drew1 | refine below_set ?_ GE109.out | refine below_set ?_ GE110.out) | exact HB.out))); (case aF => exact (fun _ _ => trivial)); (case aO => exact (by (with_reducible repeat (first | apply Kd.R_alloc | apply Kd.R_drewN | apply Kd.R_drew)); exact HO114.out)); (case aS => exact (below_size (by repeat (first | (with_reducible first | exact HB.out | apply below_alloc | apply pw_below_drewN | apply below_drew1 | refine below_set ?_ GE109.out | refine below_set ?_ GE110.out) | exact HB.out)))); (case aL => have := LMc6.out; omega); intro v116 w12 ho hb hg hat; rw [← Ny115.out] at ho; have n0_ := Aside0.mk (blk_grown (g := gb109) (o := .cells #[.int .i64 a3_0, .int .i64 a3_1, .int .i64 a3_2] 145 (0, 0)) (by (with_reducible repeat (first | refine blk_drewN ?_ _ | refine blk_drew ?_ | refine blk_alloc ?_ _)); exact BK109.out) hg (Kd.R_ne HO114.out BK109.out (by decide))); have n1_ := Aside0.mk (blk_grown (g := gb110) (o := .cells #[.int .i64 0, .int .i64 0, .int .i64 0] 145 (0, 0)) (by (with_reducible repeat (first | refine blk_drewN ?_ _ | refine blk_drew ?_ | refine blk_alloc ?_ _)); exact BK110.out) hg (Kd.R_ne HO114.out BK110.out (by decide))); have n2_ := Aside0.mk (hb); have n3_ := Aside0.mk (ho); clear BK109; clear BK110; clear HB; clear HO114; have BK109 := n0_; have BK110 := n1_; have HB := n2_; have HO117 := n3_; clear n0_ n1_ n2_ n3_; clear ho hb hg hat))
    (try simp only [Act.put, List.setIfInBounds_toArray, List.set_cons_zero, List.set_cons_succ])
    go_cut [0, 10] (fun v0 v10 wc => ∃ (kq : Nat) (x0_6 : List (S153)) (x10_6 : Int), v10 = .int .i64 x10_6 ∧ Aside0 (provostref22_Add.j0 kq x0_6 x10_6 a3_0 a3_1 a3_2 = some (r1, r2, r3, r4)) ∧ Aside0 (kq ≤ k) ∧ Aside0 (Kd.R k153 153 wc w.heap.size (fun _ => True) v0 x0_6) ∧ Aside0 (wc.heap[gb109]? = some (.cells #[.int .i64 a3_0, .int .i64 a3_1, .int .i64 a3_2] 145 (0, 0))) ∧ Aside0 (wc.heap[gb110]? = some (.cells #[.int .i64 0, .int .i64 0, .int .i64 0] 145 (0, 0))) ∧ Aside0 (Below w.heap.size w wc))
    case first =>
      have H := HC7.out
      clear HC7
      by_cases c13 : t111 < 0
      · rw [if_pos c13] at H
        have c13b0 : decide (t111 < 0) = true := decide_eq_true c13
        clear c13
        (first | rw [c13b0] | (simp only [i64_w, i32_w]; rw [c13b0]) | skip)
        by_cases c14 : y115.length < 2199023255552
        · rw [if_pos c14] at H
          have LMc14 := Aside0.mk c14
          clear c14
          obtain ⟨y118, hy118⟩ : ∃ y_ : List (S153), y_ = (y115 ++ [(⟨a1, a2, (⟨0, 0, 0⟩ : S145), (⟨0, 0, 0⟩ : S145)⟩ : S153)]) := ⟨_, rfl⟩
          replace H : (provostref22_Add.j0 k y118 (y115.length : Int) a3_0 a3_1 a3_2) = some (r1, r2, r3, r4) := by first | (rw [hy118]; with_reducible exact H) | (have H2_ := (Option.bind_some _ _).symm.trans H; rw [hy118]; with_reducible exact H2_) | (have H2_ := (Option.bind_some _ _).symm.trans H; with_reducible exact H2_) | with_reducible exact H | (rw [hy118]; exact H) | exact H
          have Ny118 := Aside0.mk hy118
          clear hy118
          have H' := Aside0.mk H
          clear H
          obtain ⟨Ao15, co15, eo15⟩ := Kd.R_slice HO117.out
          subst eo15
          go_wp2_with (first | ((with_reducible refine gate_builtin (b := .append) (xs := #[.tmp 23, .tmp 27]) rfl ?_); at_builtin; refine Kd.R_append k153 (w0 := w) w.heap.size rfl (.tmp 23) (.tmp 27) 143 153 (.agg #[(.int .i64 0), (.int .i64 0), (.int .i64 0), (.int .i64 0), (.int .i64 0), (.int .i64 0), (.int .i64 0), (.int .i64 0)]) 64 rfl Try.underlying143 info153 rfl (by decide) (by omega) (.slice Ao15 y115.length co15) y115 (⟨a1, a2, (⟨0, 0, 0⟩ : S145), (⟨0, 0, 0⟩ : S145)⟩ : S153) [.int .i64 a1, .int .i64 a2, .int .i64 0, .int .i64 0, .int .i64 0, .int .i64 0, .int .i64 0, .int .i64 0] (fun _ => True) (fun _ => False) rfl rfl ?aP (fun _ hk => hk.elim) ?aF ?aO ?aB ?aS ?aL ?_; (case aP => exact k153_mkM _ _ _ (⟨a1, a2, (⟨0, 0, 0⟩ : S145), (⟨0, 0, 0⟩ : S145)⟩ : S153)); (case aB => exact (by repeat (first | (with_reducible first | exact HB.out | apply below_alloc | apply pw_below_drewN | apply below_drew1 | refine below_set ?_ GE109.out | refine below_set ?_ GE110.out) | exact HB.out))); (case aF => exact (fun _ _ => trivial)); (case aO => exact (by (with_reducible repeat (first | apply Kd.R_alloc | apply Kd.R_drewN | apply Kd.R_drew)); exact HO117.out)); (case aS => exact (below_size (by repeat (first | (with_reducible first | exact HB.out | apply below_alloc | apply pw_below_drewN | apply below_drew1 | refine below_set ?_ GE109.out | refine below_set ?_ GE110.out) | exact HB.out)))); (case aL => have := LMc14.out; omega); intro v119 w16 ho hb hg hat; rw [← Ny118.out] at ho; have n0_ := Aside0.mk (blk_grown (g := gb109) (o := .cells #[.int .i64 a3_0, .int .i64 a3_1, .int .i64 a3_2] 145 (0, 0)) (by (with_reducible repeat (first | refine blk_drewN ?_ _ | refine blk_drew ?_ | refine blk_alloc ?_ _)); exact BK109.out) hg (Kd.R_ne HO117.out BK109.out (by decide))); have n1_ := Aside0.mk (blk_grown (g := gb110) (o := .cells #[.int .i64 0, .int .i64 0, .int .i64 0] 145 (0, 0)) (by (with_reducible repeat (first | refine blk_drewN ?_ _ | refine blk_drew ?_ | refine blk_alloc ?_ _)); exact BK110.out) hg (Kd.R_ne HO117.out BK110.out (by decide))); have n2_ := Aside0.mk (hb); have n3_ := Aside0.mk (ho); clear BK109; clear BK110; clear HB; clear HO117; have BK109 := n0_; have BK110 := n1_; have HB := n2_; have HO120 := n3_; clear n0_ n1_ n2_ n3_; clear ho hb hg hat))
          go_meet
          case rel => exact ⟨_, (y118), ((y115.length : Int)), (by first | rfl | (simp; done) | (simp [*]; done)), H', ⟨by first | omega | exact Nat.le_refl _⟩, ⟨by (with_reducible repeat (first | apply Kd.R_alloc | apply Kd.R_drewN | apply Kd.R_drew)); exact HO120.out⟩, ⟨by (with_reducible repeat (first | refine blk_drewN ?_ _ | refine blk_drew ?_ | refine blk_alloc ?_ _)); exact BK109.out⟩, ⟨by (with_reducible repeat (first | refine blk_drewN ?_ _ | refine blk_drew ?_ | refine blk_alloc ?_ _)); exact BK110.out⟩, ⟨by repeat (first | (with_reducible first | exact HB.out | apply below_alloc | apply pw_below_drewN | apply below_drew1 | refine below_set ?_ GE109.out | refine below_set ?_ GE110.out) | exact HB.out)⟩⟩
        · rw [if_neg c14] at H
          exact absurd H (by simp)
      · rw [if_neg c13] at H
        have c13b0 : decide (t111 < 0) = false := decide_eq_false c13
        clear c13
        (first | rw [c13b0] | (simp only [i64_w, i32_w]; rw [c13b0]) | skip)
        have H' := Aside0.mk H
        clear H
        go_wp2
        go_meet
        case rel => exact ⟨_, (y115), (t111), (by first | rfl | (simp; done) | (simp [*]; done)), H', ⟨by first | omega | exact Nat.le_refl _⟩, ⟨by (with_reducible repeat (first | apply Kd.R_alloc | apply Kd.R_drewN | apply Kd.R_drew)); exact HO117.out⟩, ⟨by (with_reducible repeat (first | refine blk_drewN ?_ _ | refine blk_drew ?_ | refine blk_alloc ?_ _)); exact BK109.out⟩, ⟨by (with_reducible repeat (first | refine blk_drewN ?_ _ | refine blk_drew ?_ | refine blk_alloc ?_ _)); exact BK110.out⟩, ⟨by repeat (first | (with_reducible first | exact HB.out | apply below_alloc | apply pw_below_drewN | apply below_drew1 | refine below_set ?_ GE109.out | refine below_set ?_ GE110.out) | exact HB.out)⟩⟩
    case rest =>
      clear HC7
      try clear c1
      try clear p2
      try clear c6
      try clear c8
      try clear c12
      try clear c13
      try clear c13b0
      try clear c14
      obtain ⟨kq, x0_6, x10_6, rfl, HA, HJ6, HO_0, BK109, BK110, HB⟩ := hcut
      cases kq with
      | zero => exact absurd HA.out (by simp [provostref22_Add.j0])
      | succ kj6 =>
        have H := HA.out
        clear HA
        simp only [provostref22_Add.j0] at H
        by_cases c17 : 0 ≤ x10_6
        · rw [if_pos c17] at H
          have c17b0 : decide (0 ≤ x10_6) = true := decide_eq_true c17
          clear c17
          by_cases c18 : x10_6 < (x0_6.length : Int)
          · rw [if_pos c18] at H
            have c18b0 : decide (x10_6 < (x0_6.length : Int)) = true := decide_eq_true c18
            clear c18
            replace H := Option.bind_eq_some_iff.mp H
            obtain ⟨t123, A190, H⟩ := H
            replace H : ((provostref22_bound.f kj6 ((rd_T153 x0_6 x10_6).f2.f1) a3_1).bind fun t124 => ((provostref22_bound.f kj6 ((rd_T153 x0_6 x10_6).f2.f2) a3_2).bind fun t125 => ((some (x0_6.set (x10_6 : Int).toNat (⟨(rd_T153 x0_6 x10_6).f0, (rd_T153 x0_6 x10_6).f1, (⟨t123, t124, t125⟩ : S145), (⟨(rd_T153 x0_6 x10_6).f3.f0, (rd_T153 x0_6 x10_6).f3.f1, (rd_T153 x0_6 x10_6).f3.f2⟩ : S145)⟩ : S153) : List (S153))).bind fun y126 => ((provostref14_Max.f ((rd_T153 y126 x10_6).f3.f0) ((rd_T153 y126 x10_6).f3.f1) ((rd_T153 y126 x10_6).f3.f2) t123 t124 t125).bind fun bt128 => (some ((y126.set (x10_6 : Int).toNat (⟨(rd_T153 y126 x10_6).f0, (rd_T153 y126 x10_6).f1, (⟨(rd_T153 y126 x10_6).f2.f0, (rd_T153 y126 x10_6).f2.f1, (rd_T153 y126 x10_6).f2.f2⟩ : S145), (⟨bt128.1, bt128.2.1, bt128.2.2⟩ : S145)⟩ : S153)), t123, t124, t125)))))) = some (r1, r2, r3, r4) := H
            have A19 := Aside0.mk A190
            clear A190
            replace H := Option.bind_eq_some_iff.mp H
            obtain ⟨t124, A200, H⟩ := H
            replace H : ((provostref22_bound.f kj6 ((rd_T153 x0_6 x10_6).f2.f2) a3_2).bind fun t125 => ((some (x0_6.set (x10_6 : Int).toNat (⟨(rd_T153 x0_6 x10_6).f0, (rd_T153 x0_6 x10_6).f1, (⟨t123, t124, t125⟩ : S145), (⟨(rd_T153 x0_6 x10_6).f3.f0, (rd_T153 x0_6 x10_6).f3.f1, (rd_T153 x0_6 x10_6).f3.f2⟩ : S145)⟩ : S153) : List (S153))).bind fun y126 => ((provostref14_Max.f ((rd_T153 y126 x10_6).f3.f0) ((rd_T153 y126 x10_6).f3.f1) ((rd_T153 y126 x10_6).f3.f2) t123 t124 t125).bind fun bt128 => (some ((y126.set (x10_6 : Int).toNat (⟨(rd_T153 y126 x10_6).f0, (rd_T153 y126 x10_6).f1, (⟨(rd_T153 y126 x10_6).f2.f0, (rd_T153 y126 x10_6).f2.f1, (rd_T153 y126 x10_6).f2.f2⟩ : S145), (⟨bt128.1, bt128.2.1, bt128.2.2⟩ : S145)⟩ : S153)), t123, t124, t125))))) = some (r1, r2, r3, r4) := H
            have A20 := Aside0.mk A200
            clear A200
            replace H := Option.bind_eq_some_iff.mp H
            obtain ⟨t125, A210, H⟩ := H
            replace H : ((some (x0_6.set (x10_6 : Int).toNat (⟨(rd_T153 x0_6 x10_6).f0, (rd_T153 x0_6 x10_6).f1, (⟨t123, t124, t125⟩ : S145), (⟨(rd_T153 x0_6 x10_6).f3.f0, (rd_T153 x0_6 x10_6).f3.f1, (rd_T153 x0_6 x10_6).f3.f2⟩ : S145)⟩ : S153) : List (S153))).bind fun y126 => ((provostref14_Max.f ((rd_T153 y126 x10_6).f3.f0) ((rd_T153 y126 x10_6).f3.f1) ((rd_T153 y126 x10_6).f3.f2) t123 t124 t125).bind fun bt128 => (some ((y126.set (x10_6 : Int).toNat (⟨(rd_T153 y126 x10_6).f0, (rd_T153 y126 x10_6).f1, (⟨(rd_T153 y126 x10_6).f2.f0, (rd_T153 y126 x10_6).f2.f1, (rd_T153 y126 x10_6).f2.f2⟩ : S145), (⟨bt128.1, bt128.2.1, bt128.2.2⟩ : S145)⟩ : S153)), t123, t124, t125)))) = some (r1, r2, r3, r4) := H
            have A21 := Aside0.mk A210
            clear A210
            obtain ⟨y126, hy126⟩ : ∃ y_ : List (S153), y_ = (x0_6.set (x10_6 : Int).toNat (⟨(rd_T153 x0_6 x10_6).f0, (rd_T153 x0_6 x10_6).f1, (⟨t123, t124, t125⟩ : S145), (⟨(rd_T153 x0_6 x10_6).f3.f0, (rd_T153 x0_6 x10_6).f3.f1, (rd_T153 x0_6 x10_6).f3.f2⟩ : S145)⟩ : S153)) := ⟨_, rfl⟩
            replace H : ((provostref14_Max.f ((rd_T153 y126 x10_6).f3.f0) ((rd_T153 y126 x10_6).f3.f1) ((rd_T153 y126 x10_6).f3.f2) t123 t124 t125).bind fun bt128 => (some ((y126.set (x10_6 : Int).toNat (⟨(rd_T153 y126 x10_6).f0, (rd_T153 y126 x10_6).f1, (⟨(rd_T153 y126 x10_6).f2.f0, (rd_T153 y126 x10_6).f2.f1, (rd_T153 y126 x10_6).f2.f2⟩ : S145), (⟨bt128.1, bt128.2.1, bt128.2.2⟩ : S145)⟩ : S153)), t123, t124, t125))) = some (r1, r2, r3, r4) := by first | (rw [hy126]; with_reducible exact H) | (have H2_ := (Option.bind_some _ _).symm.trans H; rw [hy126]; with_reducible exact H2_) | (have H2_ := (Option.bind_some _ _).symm.trans H; with_reducible exact H2_) | with_reducible exact H | (rw [hy126]; exact H) | exact H
            have Ny126 := Aside0.mk hy126
            clear hy126
            replace H := Option.bind_eq_some_iff.mp H
            obtain ⟨⟨t128, t129, t130⟩, A230, H⟩ := H
            replace H : (some ((y126.set (x10_6 : Int).toNat (⟨(rd_T153 y126 x10_6).f0, (rd_T153 y126 x10_6).f1, (⟨(rd_T153 y126 x10_6).f2.f0, (rd_T153 y126 x10_6).f2.f1, (rd_T153 y126 x10_6).f2.f2⟩ : S145), (⟨t128, t129, t130⟩ : S145)⟩ : S153)), t123, t124, t125)) = some (r1, r2, r3, r4) := H
            have A23 := Aside0.mk A230
            clear A230
            obtain ⟨y131, hy131⟩ : ∃ y_ : List (S153), y_ = (y126.set (x10_6 : Int).toNat (⟨(rd_T153 y126 x10_6).f0, (rd_T153 y126 x10_6).f1, (⟨(rd_T153 y126 x10_6).f2.f0, (rd_T153 y126 x10_6).f2.f1, (rd_T153 y126 x10_6).f2.f2⟩ : S145), (⟨t128, t129, t130⟩ : S145)⟩ : S153)) := ⟨_, rfl⟩
            replace H : (some (y131, t123, t124, t125)) = some (r1, r2, r3, r4) := by first | (rw [hy131]; with_reducible exact H) | (have H2_ := (Option.bind_some _ _).symm.trans H; rw [hy131]; with_reducible exact H2_) | (have H2_ := (Option.bind_some _ _).symm.trans H; with_reducible exact H2_) | with_reducible exact H | (rw [hy131]; exact H) | exact H
            have Ny131 := Aside0.mk hy131
            clear hy131
            simp only [Option.some.injEq, Prod.mk.injEq] at H
            obtain ⟨rfl, rfl, rfl, rfl⟩ := H
            obtain ⟨Ao25, co25, eo25⟩ := Kd.R_slice HO_0.out
            subst eo25
            have p121 : 0 ≤ (x10_6 : Int) := of_decide_eq_true (by first | (with_reducible assumption) | assumption)
            have q121 : x10_6 < (x0_6.length : Int) := of_decide_eq_true (by first | (with_reducible assumption) | assumption)
            obtain ⟨ad121, e121, hx121_0, hx121_1, hx121_2, hx121_3, hx121_4, hx121_5, hx121_6, hx121_7⟩ := at_T153 (Kd.R_reads' HO_0.out).2.2 x10_6 p121 q121
            cases e121
            replace p121 := eq_true p121
            replace q121 := eq_true q121
            try go_wp2_with (first | ((with_reducible refine gate_dst (N := 11) rfl ?_); refine box_event ?hg (N := 11) ?hd (cs := #[.int .i64 0, .int .i64 0, .int .i64 0]) (t := 145) ?hr ?_; (case hd => rfl); (case hg => rfl); (case hr => first | (go_simp; done) | (go_simp; rfl)); intro gb122 hg w26 hbox hb; have n0_ := Aside0.mk (Kd.R_below (by (with_reducible repeat (first | apply Kd.R_alloc | apply Kd.R_drewN | apply Kd.R_drew)); exact HO_0.out) hb); have n1_ := Aside0.mk (blk_below (g := gb109) (o := .cells #[.int .i64 a3_0, .int .i64 a3_1, .int .i64 a3_2] 145 (0, 0)) (by (with_reducible repeat (first | refine blk_drewN ?_ _ | refine blk_drew ?_ | refine blk_alloc ?_ _)); exact BK109.out) hb); have n2_ := Aside0.mk (blk_below (g := gb110) (o := .cells #[.int .i64 0, .int .i64 0, .int .i64 0] 145 (0, 0)) (by (with_reducible repeat (first | refine blk_drewN ?_ _ | refine blk_drew ?_ | refine blk_alloc ?_ _)); exact BK110.out) hb); have n3_ := Aside0.mk (below_step (by repeat (first | (with_reducible first | exact HB.out | apply below_alloc | apply pw_below_drewN | apply below_drew1 | refine below_set ?_ GE109.out | refine below_set ?_ GE110.out) | exact HB.out)) hb); have n4_ := Aside0.mk (hbox); have n5_ := Aside0.mk ((by rw [hg]; exact (below_size (by repeat (first | (with_reducible first | exact HB.out | apply below_alloc | apply pw_below_drewN | apply below_drew1 | refine below_set ?_ GE109.out | refine below_set ?_ GE110.out) | exact HB.out))) : w.heap.size ≤ gb122)); have n6_ := Aside0.mk ((by rw [hg]; exact (below_size (by repeat (first | (with_reducible first | exact HB.out | apply below_alloc | apply pw_below_drewN | apply below_drew1 | refine below_set ?_ GE109.out | refine below_set ?_ GE110.out) | exact HB.out))) : w.heap.size ≤ gb122)); have n7_ := Aside0.mk ((by rw [hg]; exact Nat.ne_of_lt (blk_lt (g := gb109) (o := .cells #[.int .i64 a3_0, .int .i64 a3_1, .int .i64 a3_2] 145 (0, 0)) (by (with_reducible repeat (first | refine blk_drewN ?_ _ | refine blk_drew ?_ | refine blk_alloc ?_ _)); exact BK109.out)) : gb109 ≠ gb122)); have n8_ := Aside0.mk ((by rw [hg]; exact Nat.ne_of_gt (blk_lt (g := gb109) (o := .cells #[.int .i64 a3_0, .int .i64 a3_1, .int .i64 a3_2] 145 (0, 0)) (by (with_reducible repeat (first | refine blk_drewN ?_ _ | refine blk_drew ?_ | refine blk_alloc ?_ _)); exact BK109.out)) : gb122 ≠ gb109)); have n9_ := Aside0.mk ((by rw [hg]; exact Nat.ne_of_lt (blk_lt (g := gb110) (o := .cells #[.int .i64 0, .int .i64 0, .int .i64 0] 145 (0, 0)) (by (with_reducible repeat (first | refine blk_drewN ?_ _ | refine blk_drew ?_ | refine blk_alloc ?_ _)); exact BK110.out)) : gb110 ≠ gb122)); have n10_ := Aside0.mk ((by rw [hg]; exact Nat.ne_of_gt (blk_lt (g := gb110) (o := .cells #[.int .i64 0, .int .i64 0, .int .i64 0] 145 (0, 0)) (by (with_reducible repeat (first | refine blk_drewN ?_ _ | refine blk_drew ?_ | refine blk_alloc ?_ _)); exact BK110.out)) : gb122 ≠ gb110)); clear HO_0; clear BK109; clear BK110; clear HB; have HO_0 := n0_; have BK109 := n1_; have BK110 := n2_; have HB := n3_; have BK122 := n4_; have GW122 := n5_; have GE122 := n6_; have NB109_122 := n7_; have NB122_109 := n8_; have NB110_122 := n9_; have NB122_110 := n10_; clear n0_ n1_ n2_ n3_ n4_ n5_ n6_ n7_ n8_ n9_ n10_; clear hb hbox hg; have hnb27 := NB122_109.out; have hnc27 := NB109_122.out; have hnb28 := NB122_110.out; have hnc28 := NB110_122.out; have hcz29_0 : w26.cell? ⟨gb122, 0, none⟩ = some (.int .i64 0) := (blk_cell BK122.out 0).trans rfl; have hcz29_1 : w26.cell? ⟨gb122, 1, none⟩ = some (.int .i64 0) := (blk_cell BK122.out 1).trans rfl; have hcz29_2 : w26.cell? ⟨gb122, 2, none⟩ = some (.int .i64 0) := (blk_cell BK122.out 2).trans rfl; have hfz29_0 := blk_frozen BK122.out 0; have hfz29_1 := blk_frozen BK122.out 1; have hfz29_2 := blk_frozen BK122.out 2))
            have n0_ : Aside0 (Kd.R k153 153 (((w26.setCell ⟨gb122, 0, none⟩ (.int .i64 ((rd_T153 x0_6 x10_6).f2.f0))).setCell ⟨gb122, 1, none⟩ (.int .i64 ((rd_T153 x0_6 x10_6).f2.f1))).setCell ⟨gb122, 2, none⟩ (.int .i64 ((rd_T153 x0_6 x10_6).f2.f2))) w.heap.size (fun _ => True) (.slice (some ad121) x0_6.length co25) x0_6) := ⟨by (with_reducible repeat (first | apply Kd.R_alloc | apply Kd.R_drewN | apply Kd.R_drew)); exact Kd.R_mono (Kd.R_far (p := ⟨gb122, 2, none⟩) (Kd.R_far (p := ⟨gb122, 1, none⟩) (Kd.R_far (p := ⟨gb122, 0, none⟩) (Kd.R_types HO_0.out BK122.out (by decide)) (fun _ hk => hk.2) (.int .i64 ((rd_T153 x0_6 x10_6).f2.f0))) (fun _ hk => hk.2) (.int .i64 ((rd_T153 x0_6 x10_6).f2.f1))) (fun _ hk => hk.2) (.int .i64 ((rd_T153 x0_6 x10_6).f2.f2))) (fun _ hk => trivial)⟩
            have n1_ : Aside0 ((((w26.setCell ⟨gb122, 0, none⟩ (.int .i64 ((rd_T153 x0_6 x10_6).f2.f0))).setCell ⟨gb122, 1, none⟩ (.int .i64 ((rd_T153 x0_6 x10_6).f2.f1))).setCell ⟨gb122, 2, none⟩ (.int .i64 ((rd_T153 x0_6 x10_6).f2.f2))).heap[gb109]? = some (.cells #[.int .i64 a3_0, .int .i64 a3_1, .int .i64 a3_2] 145 (0, 0))) := ⟨by (with_reducible repeat (first | refine blk_drewN ?_ _ | refine blk_drew ?_ | refine blk_alloc ?_ _)); refine blk_far ?_ NB109_122.out _; (with_reducible repeat (first | refine blk_drewN ?_ _ | refine blk_drew ?_ | refine blk_alloc ?_ _)); refine blk_far ?_ NB109_122.out _; (with_reducible repeat (first | refine blk_drewN ?_ _ | refine blk_drew ?_ | refine blk_alloc ?_ _)); refine blk_far ?_ NB109_122.out _; (with_reducible repeat (first | refine blk_drewN ?_ _ | refine blk_drew ?_ | refine blk_alloc ?_ _)); exact BK109.out⟩
            have n2_ : Aside0 ((((w26.setCell ⟨gb122, 0, none⟩ (.int .i64 ((rd_T153 x0_6 x10_6).f2.f0))).setCell ⟨gb122, 1, none⟩ (.int .i64 ((rd_T153 x0_6 x10_6).f2.f1))).setCell ⟨gb122, 2, none⟩ (.int .i64 ((rd_T153 x0_6 x10_6).f2.f2))).heap[gb110]? = some (.cells #[.int .i64 0, .int .i64 0, .int .i64 0] 145 (0, 0))) := ⟨by (with_reducible repeat (first | refine blk_drewN ?_ _ | refine blk_drew ?_ | refine blk_alloc ?_ _)); refine blk_far ?_ NB110_122.out _; (with_reducible repeat (first | refine blk_drewN ?_ _ | refine blk_drew ?_ | refine blk_alloc ?_ _)); refine blk_far ?_ NB110_122.out _; (with_reducible repeat (first | refine blk_drewN ?_ _ | refine blk_drew ?_ | refine blk_alloc ?_ _)); refine blk_far ?_ NB110_122.out _; (with_reducible repeat (first | refine blk_drewN ?_ _ | refine blk_drew ?_ | refine blk_alloc ?_ _)); exact BK110.out⟩
            have n3_ : Aside0 ((((w26.setCell ⟨gb122, 0, none⟩ (.int .i64 ((rd_T153 x0_6 x10_6).f2.f0))).setCell ⟨gb122, 1, none⟩ (.int .i64 ((rd_T153 x0_6 x10_6).f2.f1))).setCell ⟨gb122, 2, none⟩ (.int .i64 ((rd_T153 x0_6 x10_6).f2.f2))).heap[gb122]? = some (.cells #[.int .i64 ((rd_T153 x0_6 x10_6).f2.f0), .int .i64 ((rd_T153 x0_6 x10_6).f2.f1), .int .i64 ((rd_T153 x0_6 x10_6).f2.f2)] 145 (0, 0))) := ⟨by (with_reducible repeat (first | refine blk_drewN ?_ _ | refine blk_drew ?_ | refine blk_alloc ?_ _)); refine blk_put (cs := #[.int .i64 ((rd_T153 x0_6 x10_6).f2.f0), .int .i64 ((rd_T153 x0_6 x10_6).f2.f1), .int .i64 0]) ?_ 2 _ rfl; (with_reducible repeat (first | refine blk_drewN ?_ _ | refine blk_drew ?_ | refine blk_alloc ?_ _)); refine blk_put (cs := #[.int .i64 ((rd_T153 x0_6 x10_6).f2.f0), .int .i64 0, .int .i64 0]) ?_ 1 _ rfl; (with_reducible repeat (first | refine blk_drewN ?_ _ | refine blk_drew ?_ | refine blk_alloc ?_ _)); refine blk_put (cs := #[.int .i64 0, .int .i64 0, .int .i64 0]) ?_ 0 _ rfl; (with_reducible repeat (first | refine blk_drewN ?_ _ | refine blk_drew ?_ | refine blk_alloc ?_ _)); exact BK122.out⟩
            have n4_ : Aside0 (Below w.heap.size w (((w26.setCell ⟨gb122, 0, none⟩ (.int .i64 ((rd_T153 x0_6 x10_6).f2.f0))).setCell ⟨gb122, 1, none⟩ (.int .i64 ((rd_T153 x0_6 x10_6).f2.f1))).setCell ⟨gb122, 2, none⟩ (.int .i64 ((rd_T153 x0_6 x10_6).f2.f2)))) := ⟨by repeat (first | (with_reducible first | exact HB.out | apply below_alloc | apply pw_below_drewN | apply below_drew1 | refine below_set ?_ GE109.out | refine below_set ?_ GE110.out | refine below_set ?_ GE122.out) | exact HB.out)⟩
            (try clear HO_0)
            (try clear BK109)
            (try clear BK110)
            (try clear BK122)
            (try clear HB)
            generalize (((w26.setCell ⟨gb122, 0, none⟩ (.int .i64 ((rd_T153 x0_6 x10_6).f2.f0))).setCell ⟨gb122, 1, none⟩ (.int .i64 ((rd_T153 x0_6 x10_6).f2.f1))).setCell ⟨gb122, 2, none⟩ (.int .i64 ((rd_T153 x0_6 x10_6).f2.f2))) = w30 at n0_ n1_ n2_ n3_ n4_ ⊢
            have HO_0 := n0_
            have BK109 := n1_
            have BK110 := n2_
            have BK122 := n3_
            have HB := n4_
            clear n0_ n1_ n2_ n3_ n4_
            have n0_ := Aside0.mk (Kd.R_drew HO_0.out)
            have n1_ := Aside0.mk (blk_drew BK109.out)
            have n2_ := Aside0.mk (blk_drew BK110.out)
            have n3_ := Aside0.mk (blk_drew BK122.out)
            have n4_ := Aside0.mk (below_drew1 HB.out)
            clear HO_0
            clear BK109
            clear BK110
            clear BK122
            clear HB
            have HO_0 := n0_
            have BK109 := n1_
            have BK110 := n2_
            have BK122 := n3_
            have HB := n4_
            clear n0_ n1_ n2_ n3_ n4_
            refine start_ (n := 17) (S := fun w' => w'.cell? ⟨gb122, 0, none⟩ = some (.int .i64 ((rd_T153 x0_6 x10_6).f2.f0)) ∧ w'.cell? ⟨gb122, 1, none⟩ = some (.int .i64 ((rd_T153 x0_6 x10_6).f2.f1)) ∧ w'.cell? ⟨gb122, 2, none⟩ = some (.int .i64 ((rd_T153 x0_6 x10_6).f2.f2)) ∧ w'.cell? ⟨gb109, 0, none⟩ = some (.int .i64 a3_0) ∧ w'.cell? ⟨gb109, 1, none⟩ = some (.int .i64 a3_1) ∧ w'.cell? ⟨gb109, 2, none⟩ = some (.int .i64 a3_2)) (ds := [16]) #[false, false, false, false, false, false, false, false, false, false, false, false, false, false, false, false, false] (by kernel_rfl) rfl rfl ⟨(blk_cell BK122.out 0).trans rfl, (blk_cell BK122.out 1).trans rfl, (blk_cell BK122.out 2).trans rfl, (blk_cell BK109.out 0).trans rfl, (blk_cell BK109.out 1).trans rfl, (blk_cell BK109.out 2).trans rfl⟩ (fun hHeld => ?_); refine with_tabW provostref22_Add.tab7 provostref22_Add.bits7 (fun HT_ HW_ => ?_)
            generalize w30.drew = w31 at HO_0 BK109 BK110 BK122 HB hHeld ⊢
            refine pure_ (i := 0) (N := some 34) (v := ?_) (a' := ?_) #[true, false, false, false, false, false, false, false, false, false, false, false, false, false, false, false, false] rfl rfl (any_of HT_.out (by kernel_rfl)) (fun _ _ _ h => h) (Or.inl ⟨by rfl, ?_⟩) ?_ ?_
            rotate_left
            · intro w'
              go_simp
              with_reducible rfl
            rotate_left
            · simp only [Act.put, List.setIfInBounds_toArray, List.set_cons_zero, List.set_cons_succ, i64_w, i32_w]
              rfl
            refine pure_ (i := 2) (N := some 36) (v := ?_) (a' := ?_) #[true, false, true, false, false, false, false, false, false, false, false, false, false, false, false, false, false] rfl rfl (any_of HT_.out (by kernel_rfl)) (fun _ _ _ h => h) (Or.inl ⟨by rfl, ?_⟩) ?_ ?_
            rotate_left
            · intro w'
              go_simp
              with_reducible rfl
            rotate_left
            · simp only [Act.put, List.setIfInBounds_toArray, List.set_cons_zero, List.set_cons_succ, i64_w, i32_w]
              rfl
            refine pure_ (i := 5) (N := some 39) (v := ?_) (a' := ?_) #[true, false, true, false, false, true, false, false, false, false, false, false, false, false, false, false, false] rfl rfl (any_of HT_.out (by kernel_rfl)) (fun _ _ _ h => h) (Or.inl ⟨by rfl, ?_⟩) ?_ ?_
            rotate_left
            · intro w'
              go_simp
              with_reducible rfl
            rotate_left
            · simp only [Act.put, List.setIfInBounds_toArray, List.set_cons_zero, List.set_cons_succ, i64_w, i32_w]
              rfl
            refine pure_ (i := 7) (N := some 41) (v := ?_) (a' := ?_) #[true, false, true, false, false, true, false, true, false, false, false, false, false, false, false, false, false] rfl rfl (any_of HT_.out (by kernel_rfl)) (fun _ _ _ h => h) (Or.inl ⟨by rfl, ?_⟩) ?_ ?_
            rotate_left
            · intro w'
              go_simp
              with_reducible rfl
            rotate_left
            · simp only [Act.put, List.setIfInBounds_toArray, List.set_cons_zero, List.set_cons_succ, i64_w, i32_w]
              rfl
            refine pure_ (i := 10) (N := some 44) (v := ?_) (a' := ?_) #[true, false, true, false, false, true, false, true, false, false, true, false, false, false, false, false, false] rfl rfl (any_of HT_.out (by kernel_rfl)) (fun _ _ _ h => h) (Or.inl ⟨by rfl, ?_⟩) ?_ ?_
            rotate_left
            · intro w'
              go_simp
              with_reducible rfl
            rotate_left
            · simp only [Act.put, List.setIfInBounds_toArray, List.set_cons_zero, List.set_cons_succ, i64_w, i32_w]
              rfl
            refine pure_ (i := 12) (N := some 46) (v := ?_) (a' := ?_) #[true, false, true, false, false, true, false, true, false, false, true, false, true, false, false, false, false] rfl rfl (any_of HT_.out (by kernel_rfl)) (fun _ _ _ h => h) (Or.inl ⟨by rfl, ?_⟩) ?_ ?_
            rotate_left
            · intro w'
              go_simp
              with_reducible rfl
            rotate_left
            · simp only [Act.put, List.setIfInBounds_toArray, List.set_cons_zero, List.set_cons_succ, i64_w, i32_w]
              rfl
            refine take_ (i := 1) (N := some 35) (v := ?_) (a' := ?_) #[true, true, true, false, false, true, false, true, false, false, true, false, true, false, false, false, false] rfl rfl (take_ofW HT_.out HW_.out (by kernel_rfl)) (fun _ _ _ h => h) (Or.inl ⟨by rfl, ?_⟩) hHeld ?_ ?_
            rotate_left
            · rintro w' ⟨s0, s1, s2, s3, s4, s5⟩
              go_simp
              with_reducible rfl
            rotate_left
            · simp only [Act.put, List.setIfInBounds_toArray, List.set_cons_zero, List.set_cons_succ, i64_w, i32_w]
              rfl
            refine take_ (i := 3) (N := some 37) (v := ?_) (a' := ?_) #[true, true, true, true, false, true, false, true, false, false, true, false, true, false, false, false, false] rfl rfl (take_ofW HT_.out HW_.out (by kernel_rfl)) (fun _ _ _ h => h) (Or.inl ⟨by rfl, ?_⟩) hHeld ?_ ?_
            rotate_left
            · rintro w' ⟨s0, s1, s2, s3, s4, s5⟩
              go_simp
              with_reducible rfl
            rotate_left
            · simp only [Act.put, List.setIfInBounds_toArray, List.set_cons_zero, List.set_cons_succ, i64_w, i32_w]
              rfl
            refine take_ (i := 6) (N := some 40) (v := ?_) (a' := ?_) #[true, true, true, true, false, true, true, true, false, false, true, false, true, false, false, false, false] rfl rfl (take_ofW HT_.out HW_.out (by kernel_rfl)) (fun _ _ _ h => h) (Or.inl ⟨by rfl, ?_⟩) hHeld ?_ ?_
            rotate_left
            · rintro w' ⟨s0, s1, s2, s3, s4, s5⟩
              go_simp
              with_reducible rfl
            rotate_left
            · simp only [Act.put, List.setIfInBounds_toArray, List.set_cons_zero, List.set_cons_succ, i64_w, i32_w]
              rfl
            refine take_ (i := 8) (N := some 42) (v := ?_) (a' := ?_) #[true, true, true, true, false, true, true, true, true, false, true, false, true, false, false, false, false] rfl rfl (take_ofW HT_.out HW_.out (by kernel_rfl)) (fun _ _ _ h => h) (Or.inl ⟨by rfl, ?_⟩) hHeld ?_ ?_
            rotate_left
            · rintro w' ⟨s0, s1, s2, s3, s4, s5⟩
              go_simp
              with_reducible rfl
            rotate_left
            · simp only [Act.put, List.setIfInBounds_toArray, List.set_cons_zero, List.set_cons_succ, i64_w, i32_w]
              rfl
            refine take_ (i := 11) (N := some 45) (v := ?_) (a' := ?_) #[true, true, true, true, false, true, true, true, true, false, true, true, true, false, false, false, false] rfl rfl (take_ofW HT_.out HW_.out (by kernel_rfl)) (fun _ _ _ h => h) (Or.inl ⟨by rfl, ?_⟩) hHeld ?_ ?_
            rotate_left
            · rintro w' ⟨s0, s1, s2, s3, s4, s5⟩
              go_simp
              with_reducible rfl
            rotate_left
            · simp only [Act.put, List.setIfInBounds_toArray, List.set_cons_zero, List.set_cons_succ, i64_w, i32_w]
              rfl
            refine take_ (i := 13) (N := some 47) (v := ?_) (a' := ?_) #[true, true, true, true, false, true, true, true, true, false, true, true, true, true, false, false, false] rfl rfl (take_ofW HT_.out HW_.out (by kernel_rfl)) (fun _ _ _ h => h) (Or.inl ⟨by rfl, ?_⟩) hHeld ?_ ?_
            rotate_left
            · rintro w' ⟨s0, s1, s2, s3, s4, s5⟩
              go_simp
              with_reducible rfl
            rotate_left
            · simp only [Act.put, List.setIfInBounds_toArray, List.set_cons_zero, List.set_cons_succ, i64_w, i32_w]
              rfl
            refine one_ (i := 4) (N := some 38) #[true, true, true, true, true, true, true, true, true, false, true, true, true, true, false, false, false] rfl rfl (one_of HT_.out (by kernel_rfl)) (by decide) (fun K hK => ?_)
            refine goes_ Try.func125 (by kernel_rfl) rfl #[.int .i64 ((rd_T153 x0_6 x10_6).f2.f0), .int .i64 a3_0] (by rfl) rfl rfl (by (try simp only [List.map_toArray, List.map_cons, List.map_nil]); first | done | rfl | (simp only [List.length_drop, List.length_take]; rfl)) ?_
            with_reducible refine (provostref22_bound.calls kj6 ((rd_T153 x0_6 x10_6).f2.f0) a3_0 t123 _ A19.out).mono ?_
            rintro e w' ⟨rfl, ⟨nd1, rfl⟩⟩
            refine ⟨_, rfl, ?_⟩
            refine hK.out _ _ ⟨(blk_cell BK122.out 0).trans rfl, (blk_cell BK122.out 1).trans rfl, (blk_cell BK122.out 2).trans rfl, (blk_cell BK109.out 0).trans rfl, (blk_cell BK109.out 1).trans rfl, (blk_cell BK109.out 2).trans rfl⟩ (fun hHeld => ?_)
            clear hK K
            refine norm_ (a' := ?_) ?_ ?_
            rotate_left
            · show Act.put _ (some 38) _ = _
              simp only [Act.put, List.setIfInBounds_toArray, List.set_cons_zero, List.set_cons_succ, i64_w, i32_w]
              rfl
            refine one_ (i := 9) (N := some 43) #[true, true, true, true, true, true, true, true, true, true, true, true, true, true, false, false, false] rfl rfl (one_of HT_.out (by kernel_rfl)) (by decide) (fun K hK => ?_)
            refine goes_ Try.func125 (by kernel_rfl) rfl #[.int .i64 ((rd_T153 x0_6 x10_6).f2.f1), .int .i64 a3_1] (by rfl) rfl rfl (by (try simp only [List.map_toArray, List.map_cons, List.map_nil]); first | done | rfl | (simp only [List.length_drop, List.length_take]; rfl)) ?_
            with_reducible refine (provostref22_bound.calls kj6 ((rd_T153 x0_6 x10_6).f2.f1) a3_1 t124 _ A20.out).mono ?_
            rintro e w' ⟨rfl, ⟨nd2, rfl⟩⟩
            refine ⟨_, rfl, ?_⟩
            refine hK.out _ _ ⟨(blk_cell BK122.out 0).trans rfl, (blk_cell BK122.out 1).trans rfl, (blk_cell BK122.out 2).trans rfl, (blk_cell BK109.out 0).trans rfl, (blk_cell BK109.out 1).trans rfl, (blk_cell BK109.out 2).trans rfl⟩ (fun hHeld => ?_)
            clear hK K
            refine norm_ (a' := ?_) ?_ ?_
            rotate_left
            · show Act.put _ (some 43) _ = _
              simp only [Act.put, List.setIfInBounds_toArray, List.set_cons_zero, List.set_cons_succ, i64_w, i32_w]
              rfl
            refine one_ (i := 14) (N := some 48) #[true, true, true, true, true, true, true, true, true, true, true, true, true, true, true, false, false] rfl rfl (one_of HT_.out (by kernel_rfl)) (by decide) (fun K hK => ?_)
            refine goes_ Try.func125 (by kernel_rfl) rfl #[.int .i64 ((rd_T153 x0_6 x10_6).f2.f2), .int .i64 a3_2] (by rfl) rfl rfl (by (try simp only [List.map_toArray, List.map_cons, List.map_nil]); first | done | rfl | (simp only [List.length_drop, List.length_take]; rfl)) ?_
            with_reducible refine (provostref22_bound.calls kj6 ((rd_T153 x0_6 x10_6).f2.f2) a3_2 t125 _ A21.out).mono ?_
            rintro e w' ⟨rfl, ⟨nd3, rfl⟩⟩
            refine ⟨_, rfl, ?_⟩
            refine hK.out _ _ ⟨(blk_cell BK122.out 0).trans rfl, (blk_cell BK122.out 1).trans rfl, (blk_cell BK122.out 2).trans rfl, (blk_cell BK109.out 0).trans rfl, (blk_cell BK109.out 1).trans rfl, (blk_cell BK109.out 2).trans rfl⟩ (fun hHeld => ?_)
            clear hK K
            refine norm_ (a' := ?_) ?_ ?_
            rotate_left
            · show Act.put _ (some 48) _ = _
              simp only [Act.put, List.setIfInBounds_toArray, List.set_cons_zero, List.set_cons_succ, i64_w, i32_w]
              rfl
            refine pure_ (i := 15) (N := some 49) (v := ?_) (a' := ?_) #[true, true, true, true, true, true, true, true, true, true, true, true, true, true, true, true, false] rfl rfl (any_of HT_.out (by kernel_rfl)) (fun _ _ _ h => h) (Or.inl ⟨by rfl, ?_⟩) ?_ ?_
            rotate_left
            · intro w'
              go_simp
              with_reducible rfl
            rotate_left
            · simp only [Act.put, List.setIfInBounds_toArray, List.set_cons_zero, List.set_cons_succ, i64_w, i32_w]
              rfl
            refine last_ (i := 16) (N := none) #[true, true, true, true, true, true, true, true, true, true, true, true, true, true, true, true, true] rfl rfl (one_of HT_.out (by kernel_rfl)) (by decide) (fun K hK => ?_)
            have n0_ := Aside0.mk (Kd.R_drewN (Kd.R_drewN (Kd.R_drewN HO_0.out nd1) nd2) nd3)
            have n1_ := Aside0.mk (blk_drewN (blk_drewN (blk_drewN BK109.out nd1) nd2) nd3)
            have n2_ := Aside0.mk (blk_drewN (blk_drewN (blk_drewN BK110.out nd1) nd2) nd3)
            have n3_ := Aside0.mk (blk_drewN (blk_drewN (blk_drewN BK122.out nd1) nd2) nd3)
            have n4_ := Aside0.mk (pw_below_drewN (pw_below_drewN (pw_below_drewN HB.out nd1) nd2) nd3)
            clear HO_0
            clear BK109
            clear BK110
            clear BK122
            clear HB
            generalize (((w31.drewN nd1).drewN nd2).drewN nd3) = w31 at n0_ n1_ n2_ n3_ n4_ ⊢
            have HO_0 := n0_
            have BK109 := n1_
            have BK110 := n2_
            have BK122 := n3_
            have HB := n4_
            clear n0_ n1_ n2_ n3_ n4_
            have hs32 : w31.cell? ⟨gb122, 0, none⟩ = some (.int .i64 ((rd_T153 x0_6 x10_6).f2.f0)) := (blk_cell BK122.out 0).trans rfl
            have hfs32 := blk_frozen BK122.out 0
            have hns32_0 := NB109_122.out
            have hns32_1 := NB110_122.out
            have hms32_0 := NB122_109.out
            have hms32_1 := NB122_110.out
            have hs33 : w31.cell? ⟨gb122, 1, none⟩ = some (.int .i64 ((rd_T153 x0_6 x10_6).f2.f1)) := (blk_cell BK122.out 1).trans rfl
            have hfs33 := blk_frozen BK122.out 1
            have hns33_0 := NB109_122.out
            have hns33_1 := NB110_122.out
            have hms33_0 := NB122_109.out
            have hms33_1 := NB122_110.out
            have hs34 : w31.cell? ⟨gb122, 2, none⟩ = some (.int .i64 ((rd_T153 x0_6 x10_6).f2.f2)) := (blk_cell BK122.out 2).trans rfl
            have hfs34 := blk_frozen BK122.out 2
            have hns34_0 := NB109_122.out
            have hns34_1 := NB110_122.out
            have hms34_0 := NB122_109.out
            have hms34_1 := NB122_110.out
            refine skip_ (w1 := ?_) (by rfl) rfl ?_ ?_
            rotate_left
            · go_simp
              rfl
            refine hK.out _ _ ?_
            clear hK K
            refine done_ (done_of HT_.out (by kernel_rfl)) ?_
            have n0_ : Aside0 (Kd.R k153 153 (((w31.setCell ⟨gb122, 0, none⟩ (.int .i64 t123)).setCell ⟨gb122, 1, none⟩ (.int .i64 t124)).setCell ⟨gb122, 2, none⟩ (.int .i64 t125)) w.heap.size (fun _ => True) (.slice (some ad121) x0_6.length co25) x0_6) := ⟨by (with_reducible repeat (first | apply Kd.R_alloc | apply Kd.R_drewN | apply Kd.R_drew)); exact Kd.R_mono (Kd.R_far (p := ⟨gb122, 2, none⟩) (Kd.R_far (p := ⟨gb122, 1, none⟩) (Kd.R_far (p := ⟨gb122, 0, none⟩) (Kd.R_types HO_0.out BK122.out (by decide)) (fun _ hk => hk.2) (.int .i64 t123)) (fun _ hk => hk.2) (.int .i64 t124)) (fun _ hk => hk.2) (.int .i64 t125)) (fun _ hk => trivial)⟩
            have n1_ : Aside0 ((((w31.setCell ⟨gb122, 0, none⟩ (.int .i64 t123)).setCell ⟨gb122, 1, none⟩ (.int .i64 t124)).setCell ⟨gb122, 2, none⟩ (.int .i64 t125)).heap[gb109]? = some (.cells #[.int .i64 a3_0, .int .i64 a3_1, .int .i64 a3_2] 145 (0, 0))) := ⟨by (with_reducible repeat (first | refine blk_drewN ?_ _ | refine blk_drew ?_ | refine blk_alloc ?_ _)); refine blk_far ?_ NB109_122.out _; (with_reducible repeat (first | refine blk_drewN ?_ _ | refine blk_drew ?_ | refine blk_alloc ?_ _)); refine blk_far ?_ NB109_122.out _; (with_reducible repeat (first | refine blk_drewN ?_ _ | refine blk_drew ?_ | refine blk_alloc ?_ _)); refine blk_far ?_ NB109_122.out _; (with_reducible repeat (first | refine blk_drewN ?_ _ | refine blk_drew ?_ | refine blk_alloc ?_ _)); exact BK109.out⟩
            have n2_ : Aside0 ((((w31.setCell ⟨gb122, 0, none⟩ (.int .i64 t123)).setCell ⟨gb122, 1, none⟩ (.int .i64 t124)).setCell ⟨gb122, 2, none⟩ (.int .i64 t125)).heap[gb110]? = some (.cells #[.int .i64 0, .int .i64 0, .int .i64 0] 145 (0, 0))) := ⟨by (with_reducible repeat (first | refine blk_drewN ?_ _ | refine blk_drew ?_ | refine blk_alloc ?_ _)); refine blk_far ?_ NB110_122.out _; (with_reducible repeat (first | refine blk_drewN ?_ _ | refine blk_drew ?_ | refine blk_alloc ?_ _)); refine blk_far ?_ NB110_122.out _; (with_reducible repeat (first | refine blk_drewN ?_ _ | refine blk_drew ?_ | refine blk_alloc ?_ _)); refine blk_far ?_ NB110_122.out _; (with_reducible repeat (first | refine blk_drewN ?_ _ | refine blk_drew ?_ | refine blk_alloc ?_ _)); exact BK110.out⟩
            have n3_ : Aside0 ((((w31.setCell ⟨gb122, 0, none⟩ (.int .i64 t123)).setCell ⟨gb122, 1, none⟩ (.int .i64 t124)).setCell ⟨gb122, 2, none⟩ (.int .i64 t125)).heap[gb122]? = some (.cells #[.int .i64 t123, .int .i64 t124, .int .i64 t125] 145 (0, 0))) := ⟨by (with_reducible repeat (first | refine blk_drewN ?_ _ | refine blk_drew ?_ | refine blk_alloc ?_ _)); refine blk_put (cs := #[.int .i64 t123, .int .i64 t124, .int .i64 ((rd_T153 x0_6 x10_6).f2.f2)]) ?_ 2 _ rfl; (with_reducible repeat (first | refine blk_drewN ?_ _ | refine blk_drew ?_ | refine blk_alloc ?_ _)); refine blk_put (cs := #[.int .i64 t123, .int .i64 ((rd_T153 x0_6 x10_6).f2.f1), .int .i64 ((rd_T153 x0_6 x10_6).f2.f2)]) ?_ 1 _ rfl; (with_reducible repeat (first | refine blk_drewN ?_ _ | refine blk_drew ?_ | refine blk_alloc ?_ _)); refine blk_put (cs := #[.int .i64 ((rd_T153 x0_6 x10_6).f2.f0), .int .i64 ((rd_T153 x0_6 x10_6).f2.f1), .int .i64 ((rd_T153 x0_6 x10_6).f2.f2)]) ?_ 0 _ rfl; (with_reducible repeat (first | refine blk_drewN ?_ _ | refine blk_drew ?_ | refine blk_alloc ?_ _)); exact BK122.out⟩
            have n4_ : Aside0 (Below w.heap.size w (((w31.setCell ⟨gb122, 0, none⟩ (.int .i64 t123)).setCell ⟨gb122, 1, none⟩ (.int .i64 t124)).setCell ⟨gb122, 2, none⟩ (.int .i64 t125))) := ⟨by repeat (first | (with_reducible first | exact HB.out | apply below_alloc | apply pw_below_drewN | apply below_drew1 | refine below_set ?_ GE109.out | refine below_set ?_ GE110.out | refine below_set ?_ GE122.out) | exact HB.out)⟩
            (try clear HO_0)
            (try clear BK109)
            (try clear BK110)
            (try clear BK122)
            (try clear HB)
            generalize (((w31.setCell ⟨gb122, 0, none⟩ (.int .i64 t123)).setCell ⟨gb122, 1, none⟩ (.int .i64 t124)).setCell ⟨gb122, 2, none⟩ (.int .i64 t125)) = w35 at n0_ n1_ n2_ n3_ n4_ ⊢
            have HO_0 := n0_
            have BK109 := n1_
            have BK110 := n2_
            have BK122 := n3_
            have HB := n4_
            clear n0_ n1_ n2_ n3_ n4_
            have hcz36_0 : w35.cell? ⟨gb122, 0, none⟩ = some (.int .i64 t123) := (blk_cell BK122.out 0).trans rfl
            have hcz36_1 : w35.cell? ⟨gb122, 1, none⟩ = some (.int .i64 t124) := (blk_cell BK122.out 1).trans rfl
            have hcz36_2 : w35.cell? ⟨gb122, 2, none⟩ = some (.int .i64 t125) := (blk_cell BK122.out 2).trans rfl
            have hfz36_0 := blk_frozen BK122.out 0
            have hfz36_1 := blk_frozen BK122.out 1
            have hfz36_2 := blk_frozen BK122.out 2
            have p22 : 0 ≤ (x10_6 : Int) := of_decide_eq_true (by first | (with_reducible assumption) | assumption)
            have q22 : (x10_6 : Int) < ((x0_6.length : Int) : Int) := of_decide_eq_true (by first | (with_reducible assumption) | assumption)
            obtain ⟨go22, co22, eo22, gb22, gl22, cl22, HG22⟩ := Kd.R_form HO_0.out (by omega)
            (first | cases eo22 | (injection eo22 with ea_ en_ ec_; (first | subst ea_ | (injection ea_ with ea_; subst ea_)); subst ec_; clear en_))
            have GB22 := Aside0.mk gb22
            have GG22 := Aside0.mk HG22
            clear gb22 gl22 HG22
            (first | simp only [add_plain] at hx121_0 | skip)
            (first | simp only [add_plain] at hx121_1 | skip)
            (first | simp only [add_plain] at hx121_2 | skip)
            (first | simp only [add_plain] at hx121_3 | skip)
            (first | simp only [add_plain] at hx121_4 | skip)
            (first | simp only [add_plain] at hx121_5 | skip)
            (first | simp only [add_plain] at hx121_6 | skip)
            (first | simp only [add_plain] at hx121_7 | skip)
            obtain ⟨ce22, hcl22, hM22, hcc22, hfr22⟩ := Kd.R_elem HO_0.out z153 (x10_6 : Int) p22 q22
            obtain rfl := k153_openM hM22
            have hx22_0 : w35.cell? ⟨go22, (x10_6 : Int).toNat * 8, none⟩ = some (.int .i64 ((rd_T153 x0_6 x10_6).f0)) := hcc22 0 _ rfl
            have hx22_1 : w35.cell? ⟨go22, (x10_6 : Int).toNat * 8 + 1, none⟩ = some (.int .i64 ((rd_T153 x0_6 x10_6).f1)) := hcc22 1 _ rfl
            have hx22_2 : w35.cell? ⟨go22, (x10_6 : Int).toNat * 8 + 2, none⟩ = some (.int .i64 ((rd_T153 x0_6 x10_6).f2.f0)) := hcc22 2 _ rfl
            have hx22_3 : w35.cell? ⟨go22, (x10_6 : Int).toNat * 8 + 3, none⟩ = some (.int .i64 ((rd_T153 x0_6 x10_6).f2.f1)) := hcc22 3 _ rfl
            have hx22_4 : w35.cell? ⟨go22, (x10_6 : Int).toNat * 8 + 4, none⟩ = some (.int .i64 ((rd_T153 x0_6 x10_6).f2.f2)) := hcc22 4 _ rfl
            have hx22_5 : w35.cell? ⟨go22, (x10_6 : Int).toNat * 8 + 5, none⟩ = some (.int .i64 ((rd_T153 x0_6 x10_6).f3.f0)) := hcc22 5 _ rfl
            have hx22_6 : w35.cell? ⟨go22, (x10_6 : Int).toNat * 8 + 6, none⟩ = some (.int .i64 ((rd_T153 x0_6 x10_6).f3.f1)) := hcc22 6 _ rfl
            have hx22_7 : w35.cell? ⟨go22, (x10_6 : Int).toNat * 8 + 7, none⟩ = some (.int .i64 ((rd_T153 x0_6 x10_6).f3.f2)) := hcc22 7 _ rfl
            have hf22_0 : w35.frozen? ⟨go22, (x10_6 : Int).toNat * 8, none⟩ = false := hfr22 0
            have hf22_1 : w35.frozen? ⟨go22, (x10_6 : Int).toNat * 8 + 1, none⟩ = false := hfr22 1
            have hf22_2 : w35.frozen? ⟨go22, (x10_6 : Int).toNat * 8 + 2, none⟩ = false := hfr22 2
            have hf22_3 : w35.frozen? ⟨go22, (x10_6 : Int).toNat * 8 + 3, none⟩ = false := hfr22 3
            have hf22_4 : w35.frozen? ⟨go22, (x10_6 : Int).toNat * 8 + 4, none⟩ = false := hfr22 4
            have hf22_5 : w35.frozen? ⟨go22, (x10_6 : Int).toNat * 8 + 5, none⟩ = false := hfr22 5
            have hf22_6 : w35.frozen? ⟨go22, (x10_6 : Int).toNat * 8 + 6, none⟩ = false := hfr22 6
            have hf22_7 : w35.frozen? ⟨go22, (x10_6 : Int).toNat * 8 + 7, none⟩ = false := hfr22 7
            clear hcl22 hcc22 hfr22 hM22
            replace p22 := eq_true p22
            replace q22 := eq_true q22
            have HX37 := Aside0.mk (show Kd.R k153 153 w35 w.heap.size (fun _ => True) (.slice (some ⟨go22, 0, none⟩) x0_6.length co25) x0_6 from (by (with_reducible repeat (first | apply Kd.R_alloc | apply Kd.R_drewN | apply Kd.R_drew)); exact HO_0.out))
            obtain ⟨ce37, hcl37, hM37, hcc37, hfr37⟩ := Kd.R_elem HX37.out z153 (x10_6 : Int) (of_decide_eq_true (by first | (with_reducible assumption) | assumption)) (by have h_ : (x10_6 : Int) < ((x0_6.length : Int) : Int) := of_decide_eq_true (by first | (with_reducible assumption) | assumption); first | exact h_ | (have e_ := (Kd.R_reads' HO_0.out).1; omega) | simpa using h_)
            obtain rfl := k153_openM hM37
            have HP37 := Kd.R_seg HX37.out (x10_6 : Int) (of_decide_eq_true (by first | (with_reducible assumption) | assumption)) (by have h_ : (x10_6 : Int) < ((x0_6.length : Int) : Int) := of_decide_eq_true (by first | (with_reducible assumption) | assumption); first | exact h_ | (have e_ := (Kd.R_reads' HO_0.out).1; omega) | simpa using h_) (seg := [.int .i64 t123, .int .i64 t124, .int .i64 t125]) (j := 2) hcl37 hcc37 (show 5 ≤ 8 from by decide) (x' := (⟨(rd_T153 x0_6 x10_6).f0, (rd_T153 x0_6 x10_6).f1, (⟨t123, t124, t125⟩ : S145), (⟨(rd_T153 x0_6 x10_6).f3.f0, (rd_T153 x0_6 x10_6).f3.f1, (rd_T153 x0_6 x10_6).f3.f2⟩ : S145)⟩ : S153)) (k153_mkM _ _ _ (⟨(rd_T153 x0_6 x10_6).f0, (rd_T153 x0_6 x10_6).f1, (⟨t123, t124, t125⟩ : S145), (⟨(rd_T153 x0_6 x10_6).f3.f0, (rd_T153 x0_6 x10_6).f3.f1, (rd_T153 x0_6 x10_6).f3.f2⟩ : S145)⟩ : S153) ) (fun _ hk => hk)
            have hx37_2 := hcc37 2 _ rfl
            (try simp only [show (k153).sz = 8 from rfl, Nat.mul_one, Nat.add_zero] at hx37_2)
            have hf37_2 := hfr37 2
            (try simp only [show (k153).sz = 8 from rfl, Nat.mul_one, Nat.add_zero] at hf37_2)
            have hx37_3 := hcc37 3 _ rfl
            (try simp only [show (k153).sz = 8 from rfl, Nat.mul_one, Nat.add_zero] at hx37_3)
            have hf37_3 := hfr37 3
            (try simp only [show (k153).sz = 8 from rfl, Nat.mul_one, Nat.add_zero] at hf37_3)
            have hx37_4 := hcc37 4 _ rfl
            (try simp only [show (k153).sz = 8 from rfl, Nat.mul_one, Nat.add_zero] at hx37_4)
            have hf37_4 := hfr37 4
            (try simp only [show (k153).sz = 8 from rfl, Nat.mul_one, Nat.add_zero] at hf37_4)
            clear hcl37 hcc37 hfr37 hM37
            try go_wp2_with (first | ((with_reducible refine gate_store (t := 145) (p := 54) rfl ?_); refine store_event (t := 145) (p := 54) (v := ?vo_w38) (w1 := (((w35.setCell ⟨go22, (x10_6 : Int).toNat * 8 + 2, none⟩ (.int .i64 t123)).setCell ⟨go22, (x10_6 : Int).toNat * 8 + 3, none⟩ (.int .i64 t124)).setCell ⟨go22, (x10_6 : Int).toNat * 8 + 4, none⟩ (.int .i64 t125))) ?hg ?ho ?hn ?hr ?_; (case ho => rfl); (case hg => rfl); (case hn => rfl); (case hr => first | (go_simp; done) | (go_simp; rfl)); intro w38 hw; have hg : w35.grownBy w38 (some go22) := (by rw [hw]; exact HP37.2); have hp_ : Kd.R k153 153 w38 w.heap.size (fun _ => True) (.slice (some ⟨go22, 0, none⟩) x0_6.length co25) y126 := (by rw [hw, Ny126.out]; exact HP37.1); clear HP37; have n0_ := Aside0.mk (hp_); have n1_ := Aside0.mk (blk_grown (g := gb109) (o := .cells #[.int .i64 a3_0, .int .i64 a3_1, .int .i64 a3_2] 145 (0, 0)) (by (with_reducible repeat (first | refine blk_drewN ?_ _ | refine blk_drew ?_ | refine blk_alloc ?_ _)); exact BK109.out) hg (Kd.R_ne HO_0.out BK109.out (by decide))); have n2_ := Aside0.mk (blk_grown (g := gb110) (o := .cells #[.int .i64 0, .int .i64 0, .int .i64 0] 145 (0, 0)) (by (with_reducible repeat (first | refine blk_drewN ?_ _ | refine blk_drew ?_ | refine blk_alloc ?_ _)); exact BK110.out) hg (Kd.R_ne HO_0.out BK110.out (by decide))); have n3_ := Aside0.mk (blk_grown (g := gb122) (o := .cells #[.int .i64 t123, .int .i64 t124, .int .i64 t125] 145 (0, 0)) (by (with_reducible repeat (first | refine blk_drewN ?_ _ | refine blk_drew ?_ | refine blk_alloc ?_ _)); exact BK122.out) hg (Kd.R_ne HO_0.out BK122.out (by decide))); have n4_ := Aside0.mk ((by rw [hw]; exact below_set (below_set (below_set (HB.out) GB22.out) GB22.out) GB22.out : Below w.heap.size w w38)); clear HO_0; clear BK109; clear BK110; clear BK122; clear HB; have HO_0 := n0_; have BK109 := n1_; have BK110 := n2_; have BK122 := n3_; have HB := n4_; clear n0_ n1_ n2_ n3_ n4_; clear hg hw hp_))
            have n0_ := Aside0.mk (Kd.R_drew HO_0.out)
            have n1_ := Aside0.mk (blk_drew BK109.out)
            have n2_ := Aside0.mk (blk_drew BK110.out)
            have n3_ := Aside0.mk (blk_drew BK122.out)
            have n4_ := Aside0.mk (below_drew1 HB.out)
            clear HO_0
            clear BK109
            clear BK110
            clear BK122
            clear HB
            have HO_0 := n0_
            have BK109 := n1_
            have BK110 := n2_
            have BK122 := n3_
            have HB := n4_
            clear n0_ n1_ n2_ n3_ n4_
            have p127 : 0 ≤ (x10_6 : Int) := of_decide_eq_true (by first | (with_reducible assumption) | assumption)
            have q127 : x10_6 < (y126.length : Int) := (by have h_ : (x10_6 : Int) < ((x0_6.length : Int) : Int) := of_decide_eq_true (by first | (with_reducible assumption) | assumption); first | (have e_ := (Kd.R_reads' HO_0.out).1; omega) | simpa only [Ny126.out, List.length_set] using h_)
            have ql127 : ((x10_6 : Int) < ((x0_6.length : Int) : Int)) = True := eq_true (of_decide_eq_true (by first | (with_reducible assumption) | assumption))
            obtain ⟨ad127, e127, hx127_0, hx127_1, hx127_2, hx127_3, hx127_4, hx127_5, hx127_6, hx127_7⟩ := at_T153 (Kd.R_reads' HO_0.out).2.2 x10_6 p127 q127
            obtain rfl : (⟨go22, 0, none⟩ : Addr) = ad127 := (by injection e127)
            (first | simp only [add_plain] at hx127_0 | simp only [add_at] at hx127_0 | simp only [Addr.add, Nat.zero_add] at hx127_0 | skip)
            (first | simp only [add_plain] at hx127_1 | simp only [add_at] at hx127_1 | simp only [Addr.add, Nat.zero_add] at hx127_1 | skip)
            (first | simp only [add_plain] at hx127_2 | simp only [add_at] at hx127_2 | simp only [Addr.add, Nat.zero_add] at hx127_2 | skip)
            (first | simp only [add_plain] at hx127_3 | simp only [add_at] at hx127_3 | simp only [Addr.add, Nat.zero_add] at hx127_3 | skip)
            (first | simp only [add_plain] at hx127_4 | simp only [add_at] at hx127_4 | simp only [Addr.add, Nat.zero_add] at hx127_4 | skip)
            (first | simp only [add_plain] at hx127_5 | simp only [add_at] at hx127_5 | simp only [Addr.add, Nat.zero_add] at hx127_5 | skip)
            (first | simp only [add_plain] at hx127_6 | simp only [add_at] at hx127_6 | simp only [Addr.add, Nat.zero_add] at hx127_6 | skip)
            (first | simp only [add_plain] at hx127_7 | simp only [add_at] at hx127_7 | simp only [Addr.add, Nat.zero_add] at hx127_7 | skip)
            replace p127 := eq_true p127
            replace q127 := eq_true q127
            refine start_ (n := 12) (S := fun w' => w'.cell? ⟨gb122, 0, none⟩ = some (.int .i64 t123) ∧ w'.cell? ⟨gb122, 1, none⟩ = some (.int .i64 t124) ∧ w'.cell? ⟨gb122, 2, none⟩ = some (.int .i64 t125) ∧ w'.cell? ⟨go22, (x10_6).toNat * 8, none⟩ = some (.int .i64 ((rd_T153 y126 x10_6).f0)) ∧ w'.cell? ⟨go22, (x10_6).toNat * 8 + 1, none⟩ = some (.int .i64 ((rd_T153 y126 x10_6).f1)) ∧ w'.cell? ⟨go22, (x10_6).toNat * 8 + 2, none⟩ = some (.int .i64 ((rd_T153 y126 x10_6).f2.f0)) ∧ w'.cell? ⟨go22, (x10_6).toNat * 8 + 3, none⟩ = some (.int .i64 ((rd_T153 y126 x10_6).f2.f1)) ∧ w'.cell? ⟨go22, (x10_6).toNat * 8 + 4, none⟩ = some (.int .i64 ((rd_T153 y126 x10_6).f2.f2)) ∧ w'.cell? ⟨go22, (x10_6).toNat * 8 + 5, none⟩ = some (.int .i64 ((rd_T153 y126 x10_6).f3.f0)) ∧ w'.cell? ⟨go22, (x10_6).toNat * 8 + 6, none⟩ = some (.int .i64 ((rd_T153 y126 x10_6).f3.f1)) ∧ w'.cell? ⟨go22, (x10_6).toNat * 8 + 7, none⟩ = some (.int .i64 ((rd_T153 y126 x10_6).f3.f2))) (ds := [11]) #[false, false, false, false, false, false, false, false, false, false, false, false] (by kernel_rfl) rfl rfl ⟨(blk_cell BK122.out 0).trans rfl, (blk_cell BK122.out 1).trans rfl, (blk_cell BK122.out 2).trans rfl, hx127_0, hx127_1, hx127_2, hx127_3, hx127_4, hx127_5, hx127_6, hx127_7⟩ (fun hHeld => ?_); refine with_tabW provostref22_Add.tab9 provostref22_Add.bits9 (fun HT_ HW_ => ?_)
            generalize w38.drew = w39 at HO_0 BK109 BK110 BK122 HB hx127_0 hx127_1 hx127_2 hx127_3 hx127_4 hx127_5 hx127_6 hx127_7 hHeld ⊢
            refine pure_ (i := 0) (N := some 55) (v := ?_) (a' := ?_) #[true, false, false, false, false, false, false, false, false, false, false, false] rfl rfl (any_of HT_.out (by kernel_rfl)) (fun _ _ _ h => h) (Or.inl ⟨by rfl, ?_⟩) ?_ ?_
            rotate_left
            · intro w'
              go_simp
              with_reducible rfl
            rotate_left
            · simp only [Act.put, List.setIfInBounds_toArray, List.set_cons_zero, List.set_cons_succ, i64_w, i32_w]
              rfl
            refine pure_ (i := 1) (N := some 56) (v := ?_) (a' := ?_) #[true, true, false, false, false, false, false, false, false, false, false, false] rfl rfl (any_of HT_.out (by kernel_rfl)) (fun _ _ _ h => h) (Or.inl ⟨by rfl, ?_⟩) ?_ ?_
            rotate_left
            · intro w'
              go_simp
              with_reducible rfl
            rotate_left
            · simp only [Act.put, List.setIfInBounds_toArray, List.set_cons_zero, List.set_cons_succ, i64_w, i32_w]
              rfl
            refine pure_ (i := 2) (N := some 57) (v := ?_) (a' := ?_) #[true, true, true, false, false, false, false, false, false, false, false, false] rfl rfl (any_of HT_.out (by kernel_rfl)) (fun _ _ _ h => h) (Or.inl ⟨by rfl, ?_⟩) ?_ ?_
            rotate_left
            · intro w'
              go_simp
              with_reducible rfl
            rotate_left
            · simp only [Act.put, List.setIfInBounds_toArray, List.set_cons_zero, List.set_cons_succ, i64_w, i32_w]
              rfl
            refine pure_ (i := 3) (N := some 58) (v := ?_) (a' := ?_) #[true, true, true, true, false, false, false, false, false, false, false, false] rfl rfl (any_of HT_.out (by kernel_rfl)) (fun _ _ _ h => h) (Or.inl ⟨by rfl, ?_⟩) ?_ ?_
            rotate_left
            · intro w'
              go_simp
              with_reducible rfl
            rotate_left
            · simp only [Act.put, List.setIfInBounds_toArray, List.set_cons_zero, List.set_cons_succ, i64_w, i32_w]
              rfl
            refine pure_ (i := 4) (N := some 59) (v := ?_) (a' := ?_) #[true, true, true, true, true, false, false, false, false, false, false, false] rfl rfl (any_of HT_.out (by kernel_rfl)) (fun _ _ _ h => h) (Or.inl ⟨by rfl, ?_⟩) ?_ ?_
            rotate_left
            · intro w'
              go_simp
              with_reducible rfl
            rotate_left
            · simp only [Act.put, List.setIfInBounds_toArray, List.set_cons_zero, List.set_cons_succ, i64_w, i32_w]
              rfl
            refine pure_ (i := 5) (N := some 60) (v := ?_) (a' := ?_) #[true, true, true, true, true, true, false, false, false, false, false, false] rfl rfl (any_of HT_.out (by kernel_rfl)) (fun _ _ _ h => h) (Or.inl ⟨by rfl, ?_⟩) ?_ ?_
            rotate_left
            · intro w'
              go_simp
              with_reducible rfl
            rotate_left
            · simp only [Act.put, List.setIfInBounds_toArray, List.set_cons_zero, List.set_cons_succ, i64_w, i32_w]
              rfl
            refine take_ (i := 6) (N := some 61) (v := ?_) (a' := ?_) #[true, true, true, true, true, true, true, false, false, false, false, false] rfl rfl (take_ofW HT_.out HW_.out (by kernel_rfl)) (fun _ _ _ h => h) (Or.inl ⟨by rfl, ?_⟩) hHeld ?_ ?_
            rotate_left
            · rintro w' ⟨s0, s1, s2, s3, s4, s5, s6, s7, s8, s9, s10⟩
              go_simp
              with_reducible rfl
            rotate_left
            · simp only [Act.put, List.setIfInBounds_toArray, List.set_cons_zero, List.set_cons_succ, i64_w, i32_w]
              rfl
            refine take_ (i := 7) (N := some 62) (v := ?_) (a' := ?_) #[true, true, true, true, true, true, true, true, false, false, false, false] rfl rfl (take_ofW HT_.out HW_.out (by kernel_rfl)) (fun _ _ _ h => h) (Or.inl ⟨by rfl, ?_⟩) hHeld ?_ ?_
            rotate_left
            · rintro w' ⟨s0, s1, s2, s3, s4, s5, s6, s7, s8, s9, s10⟩
              go_simp
              with_reducible rfl
            rotate_left
            · simp only [Act.put, List.setIfInBounds_toArray, List.set_cons_zero, List.set_cons_succ, i64_w, i32_w]
              rfl
            refine one_ (i := 8) (N := some 63) #[true, true, true, true, true, true, true, true, true, false, false, false] rfl rfl (one_of HT_.out (by kernel_rfl)) (by decide) (fun K hK => ?_)
            refine goes_ Try.func126 (by kernel_rfl) rfl #[.agg #[.int .i64 ((rd_T153 y126 x10_6).f3.f0), .int .i64 ((rd_T153 y126 x10_6).f3.f1), .int .i64 ((rd_T153 y126 x10_6).f3.f2)], .agg #[.int .i64 t123, .int .i64 t124, .int .i64 t125]] (by rfl) rfl rfl (by (try simp only [List.map_toArray, List.map_cons, List.map_nil]); first | done | rfl | (simp only [List.length_drop, List.length_take]; rfl)) ?_
            with_reducible refine (provostref14_Max.calls ((rd_T153 y126 x10_6).f3.f0) ((rd_T153 y126 x10_6).f3.f1) ((rd_T153 y126 x10_6).f3.f2) t123 t124 t125 t128 t129 t130 _ A23.out).mono ?_
            rintro e w40 ⟨rfl, hb⟩
            have HS3_ := (hb.cell (World.block_lt_of_cell? _ _ (hHeld.2.2.2.1))).trans (hHeld.2.2.2.1)
            have HS4_ := (hb.cell (World.block_lt_of_cell? _ _ (hHeld.2.2.2.2.1))).trans (hHeld.2.2.2.2.1)
            have HS5_ := (hb.cell (World.block_lt_of_cell? _ _ (hHeld.2.2.2.2.2.1))).trans (hHeld.2.2.2.2.2.1)
            have HS6_ := (hb.cell (World.block_lt_of_cell? _ _ (hHeld.2.2.2.2.2.2.1))).trans (hHeld.2.2.2.2.2.2.1)
            have HS7_ := (hb.cell (World.block_lt_of_cell? _ _ (hHeld.2.2.2.2.2.2.2.1))).trans (hHeld.2.2.2.2.2.2.2.1)
            have HS8_ := (hb.cell (World.block_lt_of_cell? _ _ (hHeld.2.2.2.2.2.2.2.2.1))).trans (hHeld.2.2.2.2.2.2.2.2.1)
            have HS9_ := (hb.cell (World.block_lt_of_cell? _ _ (hHeld.2.2.2.2.2.2.2.2.2.1))).trans (hHeld.2.2.2.2.2.2.2.2.2.1)
            have HS10_ := (hb.cell (World.block_lt_of_cell? _ _ (hHeld.2.2.2.2.2.2.2.2.2.2))).trans (hHeld.2.2.2.2.2.2.2.2.2.2)
            refine ⟨_, rfl, ?_⟩
            have n0_ := Aside0.mk (Kd.R_below (by (with_reducible repeat (first | apply Kd.R_alloc | apply Kd.R_drewN | apply Kd.R_drew)); exact HO_0.out) hb)
            have n1_ := Aside0.mk (blk_below (g := gb109) (o := .cells #[.int .i64 a3_0, .int .i64 a3_1, .int .i64 a3_2] 145 (0, 0)) (by (with_reducible repeat (first | refine blk_drewN ?_ _ | refine blk_drew ?_ | refine blk_alloc ?_ _)); exact BK109.out) hb)
            have n2_ := Aside0.mk (blk_below (g := gb110) (o := .cells #[.int .i64 0, .int .i64 0, .int .i64 0] 145 (0, 0)) (by (with_reducible repeat (first | refine blk_drewN ?_ _ | refine blk_drew ?_ | refine blk_alloc ?_ _)); exact BK110.out) hb)
            have n3_ := Aside0.mk (blk_below (g := gb122) (o := .cells #[.int .i64 t123, .int .i64 t124, .int .i64 t125] 145 (0, 0)) (by (with_reducible repeat (first | refine blk_drewN ?_ _ | refine blk_drew ?_ | refine blk_alloc ?_ _)); exact BK122.out) hb)
            have n4_ := Aside0.mk (below_step (by repeat (first | (with_reducible first | exact HB.out | apply below_alloc | apply pw_below_drewN | apply below_drew1 | refine below_set ?_ GE109.out | refine below_set ?_ GE110.out | refine below_set ?_ GE122.out) | exact HB.out)) hb)
            clear HO_0
            clear BK109
            clear BK110
            clear BK122
            clear HB
            have HO_0 := n0_
            have BK109 := n1_
            have BK110 := n2_
            have BK122 := n3_
            have HB := n4_
            clear n0_ n1_ n2_ n3_ n4_
            (try clear hb)
            (try clear hb2)
            (try clear hk)
            (try clear hi)
            have p24 : 0 ≤ (x10_6 : Int) := of_decide_eq_true (by first | (with_reducible assumption) | assumption)
            have q24 : (x10_6 : Int) < ((x0_6.length : Int) : Int) := of_decide_eq_true (by first | (with_reducible assumption) | assumption)
            obtain ⟨ce24, hcl24, hM24, hcc24, hfr24⟩ := Kd.R_elem HO_0.out z153 (x10_6 : Int) p24 q24
            obtain rfl := k153_openM hM24
            have hx24_0 : World.cell? _ ⟨go22, (x10_6 : Int).toNat * 8, none⟩ = some (.int .i64 ((rd_T153 y126 x10_6).f0)) := hcc24 0 _ rfl
            have hx24_1 : World.cell? _ ⟨go22, (x10_6 : Int).toNat * 8 + 1, none⟩ = some (.int .i64 ((rd_T153 y126 x10_6).f1)) := hcc24 1 _ rfl
            have hx24_2 : World.cell? _ ⟨go22, (x10_6 : Int).toNat * 8 + 2, none⟩ = some (.int .i64 ((rd_T153 y126 x10_6).f2.f0)) := hcc24 2 _ rfl
            have hx24_3 : World.cell? _ ⟨go22, (x10_6 : Int).toNat * 8 + 3, none⟩ = some (.int .i64 ((rd_T153 y126 x10_6).f2.f1)) := hcc24 3 _ rfl
            have hx24_4 : World.cell? _ ⟨go22, (x10_6 : Int).toNat * 8 + 4, none⟩ = some (.int .i64 ((rd_T153 y126 x10_6).f2.f2)) := hcc24 4 _ rfl
            have hx24_5 : World.cell? _ ⟨go22, (x10_6 : Int).toNat * 8 + 5, none⟩ = some (.int .i64 ((rd_T153 y126 x10_6).f3.f0)) := hcc24 5 _ rfl
            have hx24_6 : World.cell? _ ⟨go22, (x10_6 : Int).toNat * 8 + 6, none⟩ = some (.int .i64 ((rd_T153 y126 x10_6).f3.f1)) := hcc24 6 _ rfl
            have hx24_7 : World.cell? _ ⟨go22, (x10_6 : Int).toNat * 8 + 7, none⟩ = some (.int .i64 ((rd_T153 y126 x10_6).f3.f2)) := hcc24 7 _ rfl
            have hf24_0 : World.frozen? _ ⟨go22, (x10_6 : Int).toNat * 8, none⟩ = false := hfr24 0
            have hf24_1 : World.frozen? _ ⟨go22, (x10_6 : Int).toNat * 8 + 1, none⟩ = false := hfr24 1
            have hf24_2 : World.frozen? _ ⟨go22, (x10_6 : Int).toNat * 8 + 2, none⟩ = false := hfr24 2
            have hf24_3 : World.frozen? _ ⟨go22, (x10_6 : Int).toNat * 8 + 3, none⟩ = false := hfr24 3
            have hf24_4 : World.frozen? _ ⟨go22, (x10_6 : Int).toNat * 8 + 4, none⟩ = false := hfr24 4
            have hf24_5 : World.frozen? _ ⟨go22, (x10_6 : Int).toNat * 8 + 5, none⟩ = false := hfr24 5
            have hf24_6 : World.frozen? _ ⟨go22, (x10_6 : Int).toNat * 8 + 6, none⟩ = false := hfr24 6
            have hf24_7 : World.frozen? _ ⟨go22, (x10_6 : Int).toNat * 8 + 7, none⟩ = false := hfr24 7
            clear hcl24 hcc24 hfr24 hM24
            replace p24 := eq_true p24
            replace q24 := eq_true q24
            obtain ⟨ce41, hcl41, hM41, hcc41, hfr41⟩ := Kd.R_elem HO_0.out z153 (x10_6 : Int) (of_decide_eq_true (by first | (with_reducible assumption) | assumption)) (by have h_ : (x10_6 : Int) < ((x0_6.length : Int) : Int) := of_decide_eq_true (by first | (with_reducible assumption) | assumption); first | exact h_ | (have e_ := (Kd.R_reads' HO_0.out).1; omega) | simpa using h_)
            obtain rfl := k153_openM hM41
            have HP41 := (Kd.R_seg HO_0.out (x10_6 : Int) (of_decide_eq_true (by first | (with_reducible assumption) | assumption)) (by have h_ : (x10_6 : Int) < ((x0_6.length : Int) : Int) := of_decide_eq_true (by first | (with_reducible assumption) | assumption); first | exact h_ | (have e_ := (Kd.R_reads' HO_0.out).1; omega) | simpa using h_) (seg := [.int .i64 t128, .int .i64 t129, .int .i64 t130]) (j := 5) hcl41 hcc41 (show 8 ≤ 8 from by decide) (x' := (⟨(rd_T153 y126 x10_6).f0, (rd_T153 y126 x10_6).f1, (⟨(rd_T153 y126 x10_6).f2.f0, (rd_T153 y126 x10_6).f2.f1, (rd_T153 y126 x10_6).f2.f2⟩ : S145), (⟨t128, t129, t130⟩ : S145)⟩ : S153)) (k153_mkM _ _ _ (⟨(rd_T153 y126 x10_6).f0, (rd_T153 y126 x10_6).f1, (⟨(rd_T153 y126 x10_6).f2.f0, (rd_T153 y126 x10_6).f2.f1, (rd_T153 y126 x10_6).f2.f2⟩ : S145), (⟨t128, t129, t130⟩ : S145)⟩ : S153) ) (fun _ hk => hk)).1
            rw [← Ny131.out] at HP41
            have HQ41 := Aside0.mk HP41
            clear hcl41 hcc41 hfr41 hM41 HP41
            refine hK.out _ _ ⟨(blk_cell BK122.out 0).trans rfl, (blk_cell BK122.out 1).trans rfl, (blk_cell BK122.out 2).trans rfl, HS3_, HS4_, HS5_, HS6_, HS7_, HS8_, HS9_, HS10_⟩ (fun hHeld => ?_)
            clear hK K
            refine norm_ (a' := ?_) ?_ ?_
            rotate_left
            · show Act.put _ (some 63) _ = _
              simp only [Act.put, List.setIfInBounds_toArray, List.set_cons_zero, List.set_cons_succ, i64_w, i32_w]
              rfl
            refine pure_ (i := 9) (N := some 64) (v := ?_) (a' := ?_) #[true, true, true, true, true, true, true, true, true, true, false, false] rfl rfl (any_of HT_.out (by kernel_rfl)) (fun _ _ _ h => h) (Or.inl ⟨by rfl, ?_⟩) ?_ ?_
            rotate_left
            · intro w'
              go_simp
              with_reducible rfl
            rotate_left
            · simp only [Act.put, List.setIfInBounds_toArray, List.set_cons_zero, List.set_cons_succ, i64_w, i32_w]
              rfl
            refine pure_ (i := 10) (N := some 65) (v := ?_) (a' := ?_) #[true, true, true, true, true, true, true, true, true, true, true, false] rfl rfl (any_of HT_.out (by kernel_rfl)) (fun _ _ _ h => h) (Or.inl ⟨by rfl, ?_⟩) ?_ ?_
            rotate_left
            · intro w'
              go_simp
              with_reducible rfl
            rotate_left
            · simp only [Act.put, List.setIfInBounds_toArray, List.set_cons_zero, List.set_cons_succ, i64_w, i32_w]
              rfl
            refine last_ (i := 11) (N := none) #[true, true, true, true, true, true, true, true, true, true, true, true] rfl rfl (one_of HT_.out (by kernel_rfl)) (by decide) (fun K hK => ?_)
            refine skip_ (w1 := ?_) (by rfl) rfl ?_ ?_
            rotate_left
            · go_simp
              rfl
            refine hK.out _ _ ?_
            clear hK K
            refine done_ (done_of HT_.out (by kernel_rfl)) ?_
            have n0_ : Aside0 (Kd.R k153 153 (((w40.setCell ⟨go22, (x10_6 : Int).toNat * 8 + 5, none⟩ (.int .i64 t128)).setCell ⟨go22, (x10_6 : Int).toNat * 8 + 6, none⟩ (.int .i64 t129)).setCell ⟨go22, (x10_6 : Int).toNat * 8 + 7, none⟩ (.int .i64 t130)) w.heap.size (fun _ => True) (.slice (some ⟨go22, 0, none⟩) x0_6.length co25) y131) := ⟨by (with_reducible repeat (first | apply Kd.R_alloc | apply Kd.R_drewN | apply Kd.R_drew)); exact HQ41.out⟩
            have n1_ : Aside0 ((((w40.setCell ⟨go22, (x10_6 : Int).toNat * 8 + 5, none⟩ (.int .i64 t128)).setCell ⟨go22, (x10_6 : Int).toNat * 8 + 6, none⟩ (.int .i64 t129)).setCell ⟨go22, (x10_6 : Int).toNat * 8 + 7, none⟩ (.int .i64 t130)).heap[gb109]? = some (.cells #[.int .i64 a3_0, .int .i64 a3_1, .int .i64 a3_2] 145 (0, 0))) := ⟨by (with_reducible repeat (first | refine blk_drewN ?_ _ | refine blk_drew ?_ | refine blk_alloc ?_ _)); refine blk_far ?_ (by have h_ := Kd.R_ne HO_0.out BK109.out (by decide); intro e_; exact h_ (by rw [e_]; rfl)) _; (with_reducible repeat (first | refine blk_drewN ?_ _ | refine blk_drew ?_ | refine blk_alloc ?_ _)); refine blk_far ?_ (by have h_ := Kd.R_ne HO_0.out BK109.out (by decide); intro e_; exact h_ (by rw [e_]; rfl)) _; (with_reducible repeat (first | refine blk_drewN ?_ _ | refine blk_drew ?_ | refine blk_alloc ?_ _)); refine blk_far ?_ (by have h_ := Kd.R_ne HO_0.out BK109.out (by decide); intro e_; exact h_ (by rw [e_]; rfl)) _; (with_reducible repeat (first | refine blk_drewN ?_ _ | refine blk_drew ?_ | refine blk_alloc ?_ _)); exact BK109.out⟩
            have n2_ : Aside0 ((((w40.setCell ⟨go22, (x10_6 : Int).toNat * 8 + 5, none⟩ (.int .i64 t128)).setCell ⟨go22, (x10_6 : Int).toNat * 8 + 6, none⟩ (.int .i64 t129)).setCell ⟨go22, (x10_6 : Int).toNat * 8 + 7, none⟩ (.int .i64 t130)).heap[gb110]? = some (.cells #[.int .i64 0, .int .i64 0, .int .i64 0] 145 (0, 0))) := ⟨by (with_reducible repeat (first | refine blk_drewN ?_ _ | refine blk_drew ?_ | refine blk_alloc ?_ _)); refine blk_far ?_ (by have h_ := Kd.R_ne HO_0.out BK110.out (by decide); intro e_; exact h_ (by rw [e_]; rfl)) _; (with_reducible repeat (first | refine blk_drewN ?_ _ | refine blk_drew ?_ | refine blk_alloc ?_ _)); refine blk_far ?_ (by have h_ := Kd.R_ne HO_0.out BK110.out (by decide); intro e_; exact h_ (by rw [e_]; rfl)) _; (with_reducible repeat (first | refine blk_drewN ?_ _ | refine blk_drew ?_ | refine blk_alloc ?_ _)); refine blk_far ?_ (by have h_ := Kd.R_ne HO_0.out BK110.out (by decide); intro e_; exact h_ (by rw [e_]; rfl)) _; (with_reducible repeat (first | refine blk_drewN ?_ _ | refine blk_drew ?_ | refine blk_alloc ?_ _)); exact BK110.out⟩
            have n3_ : Aside0 ((((w40.setCell ⟨go22, (x10_6 : Int).toNat * 8 + 5, none⟩ (.int .i64 t128)).setCell ⟨go22, (x10_6 : Int).toNat * 8 + 6, none⟩ (.int .i64 t129)).setCell ⟨go22, (x10_6 : Int).toNat * 8 + 7, none⟩ (.int .i64 t130)).heap[gb122]? = some (.cells #[.int .i64 t123, .int .i64 t124, .int .i64 t125] 145 (0, 0))) := ⟨by (with_reducible repeat (first | refine blk_drewN ?_ _ | refine blk_drew ?_ | refine blk_alloc ?_ _)); refine blk_far ?_ (by have h_ := Kd.R_ne HO_0.out BK122.out (by decide); intro e_; exact h_ (by rw [e_]; rfl)) _; (with_reducible repeat (first | refine blk_drewN ?_ _ | refine blk_drew ?_ | refine blk_alloc ?_ _)); refine blk_far ?_ (by have h_ := Kd.R_ne HO_0.out BK122.out (by decide); intro e_; exact h_ (by rw [e_]; rfl)) _; (with_reducible repeat (first | refine blk_drewN ?_ _ | refine blk_drew ?_ | refine blk_alloc ?_ _)); refine blk_far ?_ (by have h_ := Kd.R_ne HO_0.out BK122.out (by decide); intro e_; exact h_ (by rw [e_]; rfl)) _; (with_reducible repeat (first | refine blk_drewN ?_ _ | refine blk_drew ?_ | refine blk_alloc ?_ _)); exact BK122.out⟩
            have n4_ : Aside0 (Below w.heap.size w (((w40.setCell ⟨go22, (x10_6 : Int).toNat * 8 + 5, none⟩ (.int .i64 t128)).setCell ⟨go22, (x10_6 : Int).toNat * 8 + 6, none⟩ (.int .i64 t129)).setCell ⟨go22, (x10_6 : Int).toNat * 8 + 7, none⟩ (.int .i64 t130))) := ⟨by repeat (first | (with_reducible first | exact HB.out | apply below_alloc | apply pw_below_drewN | apply below_drew1 | refine below_set ?_ GB22.out | refine below_set ?_ GB22.out | refine below_set ?_ GB22.out | refine below_set ?_ GE109.out | refine below_set ?_ GE110.out | refine below_set ?_ GE122.out) | exact HB.out)⟩
            (try clear HO_0)
            (try clear BK109)
            (try clear BK110)
            (try clear BK122)
            (try clear HB)
            generalize (((w40.setCell ⟨go22, (x10_6 : Int).toNat * 8 + 5, none⟩ (.int .i64 t128)).setCell ⟨go22, (x10_6 : Int).toNat * 8 + 6, none⟩ (.int .i64 t129)).setCell ⟨go22, (x10_6 : Int).toNat * 8 + 7, none⟩ (.int .i64 t130)) = w42 at n0_ n1_ n2_ n3_ n4_ ⊢
            have HO_0 := n0_
            have BK109 := n1_
            have BK110 := n2_
            have BK122 := n3_
            have HB := n4_
            clear n0_ n1_ n2_ n3_ n4_
            try go_wp2
            have n0_ := Aside0.mk (Kd.R_drew HO_0.out)
            have n1_ := Aside0.mk (blk_drew BK109.out)
            have n2_ := Aside0.mk (blk_drew BK110.out)
            have n3_ := Aside0.mk (blk_drew BK122.out)
            have n4_ := Aside0.mk (below_drew1 HB.out)
            clear HO_0
            clear BK109
            clear BK110
            clear BK122
            clear HB
            have HO_0 := n0_
            have BK109 := n1_
            have BK110 := n2_
            have BK122 := n3_
            have HB := n4_
            clear n0_ n1_ n2_ n3_ n4_
            refine start_ (n := 4) (S := fun w' => w'.cell? ⟨gb122, 0, none⟩ = some (.int .i64 t123) ∧ w'.cell? ⟨gb122, 1, none⟩ = some (.int .i64 t124) ∧ w'.cell? ⟨gb122, 2, none⟩ = some (.int .i64 t125)) (ds := []) #[false, false, false, false] (by kernel_rfl) rfl rfl ⟨(blk_cell BK122.out 0).trans rfl, (blk_cell BK122.out 1).trans rfl, (blk_cell BK122.out 2).trans rfl⟩ (fun hHeld => ?_)
            generalize w42.drew = w43 at HO_0 BK109 BK110 BK122 HB hHeld ⊢
            refine pure_ (i := 0) (N := some 66) (v := ?_) (a' := ?_) #[true, false, false, false] rfl rfl (by kernel_rfl) (fun _ _ _ h => h) (Or.inl ⟨by rfl, ?_⟩) ?_ ?_
            rotate_left
            · intro w'
              go_simp
              with_reducible rfl
            rotate_left
            · simp only [Act.put, List.setIfInBounds_toArray, List.set_cons_zero, List.set_cons_succ, i64_w, i32_w]
              rfl
            refine pure_ (i := 2) (N := some 8) (v := ?_) (a' := ?_) #[true, false, true, false] rfl rfl (by kernel_rfl) (fun _ _ _ h => h) (Or.inl ⟨by rfl, ?_⟩) ?_ ?_
            rotate_left
            · intro w'
              go_simp
              with_reducible rfl
            rotate_left
            · simp only [Act.put, List.setIfInBounds_toArray, List.set_cons_zero, List.set_cons_succ, i64_w, i32_w]
              rfl
            refine take_ (i := 1) (N := some 67) (v := ?_) (a' := ?_) #[true, true, true, false] rfl rfl (by kernel_rfl) (fun _ _ _ h => h) (Or.inl ⟨by rfl, ?_⟩) hHeld ?_ ?_
            rotate_left
            · rintro w' ⟨s0, s1, s2⟩
              go_simp
              with_reducible rfl
            rotate_left
            · simp only [Act.put, List.setIfInBounds_toArray, List.set_cons_zero, List.set_cons_succ, i64_w, i32_w]
              rfl
            refine one_ (i := 3) (N := none) #[true, true, true, true] rfl rfl (by kernel_rfl) (by decide) (fun K hK => ?_)
            have hs44 : w43.cell? ⟨gb110, 0, none⟩ = some (.int .i64 0) := (blk_cell BK110.out 0).trans rfl
            have hfs44 := blk_frozen BK110.out 0
            have hns44_0 := NB109_110.out
            have hns44_2 := NB122_110.out
            have hms44_0 := NB110_109.out
            have hms44_2 := NB110_122.out
            have hs45 : w43.cell? ⟨gb110, 1, none⟩ = some (.int .i64 0) := (blk_cell BK110.out 1).trans rfl
            have hfs45 := blk_frozen BK110.out 1
            have hns45_0 := NB109_110.out
            have hns45_2 := NB122_110.out
            have hms45_0 := NB110_109.out
            have hms45_2 := NB110_122.out
            have hs46 : w43.cell? ⟨gb110, 2, none⟩ = some (.int .i64 0) := (blk_cell BK110.out 2).trans rfl
            have hfs46 := blk_frozen BK110.out 2
            have hns46_0 := NB109_110.out
            have hns46_2 := NB122_110.out
            have hms46_0 := NB110_109.out
            have hms46_2 := NB110_122.out
            refine skip_ (w1 := ?_) (by rfl) rfl ?_ ?_
            rotate_left
            · go_simp
              rfl
            refine hK.out _ _ ⟨((cell_far (p := ⟨gb110, _, none⟩) NB122_110.out _).trans (((cell_far (p := ⟨gb110, _, none⟩) NB122_110.out _).trans (((cell_far (p := ⟨gb110, _, none⟩) NB122_110.out _).trans (hHeld.1)))))), ((cell_far (p := ⟨gb110, _, none⟩) NB122_110.out _).trans (((cell_far (p := ⟨gb110, _, none⟩) NB122_110.out _).trans (((cell_far (p := ⟨gb110, _, none⟩) NB122_110.out _).trans (hHeld.2.1)))))), ((cell_far (p := ⟨gb110, _, none⟩) NB122_110.out _).trans (((cell_far (p := ⟨gb110, _, none⟩) NB122_110.out _).trans (((cell_far (p := ⟨gb110, _, none⟩) NB122_110.out _).trans (hHeld.2.2))))))⟩ (fun hHeld => ?_)
            clear hK K
            refine done_ (by kernel_rfl) ?_
            try go_wp2
            refine bodyPost_ret (results_tc rfl _ _ gb110 145 #[.int .i64 t123, .int .i64 t124, .int .i64 t125] (0, 0) _ rfl (by (with_reducible repeat (first | refine blk_drewN ?_ _ | refine blk_drew ?_ | refine blk_alloc ?_ _)); refine blk_put (cs := #[.int .i64 t123, .int .i64 t124, .int .i64 0]) ?_ 2 _ rfl; (with_reducible repeat (first | refine blk_drewN ?_ _ | refine blk_drew ?_ | refine blk_alloc ?_ _)); refine blk_put (cs := #[.int .i64 t123, .int .i64 0, .int .i64 0]) ?_ 1 _ rfl; (with_reducible repeat (first | refine blk_drewN ?_ _ | refine blk_drew ?_ | refine blk_alloc ?_ _)); refine blk_put (cs := #[.int .i64 0, .int .i64 0, .int .i64 0]) ?_ 0 _ rfl; (with_reducible repeat (first | refine blk_drewN ?_ _ | refine blk_drew ?_ | refine blk_alloc ?_ _)); exact BK110.out) Try.underlying145 rfl (by kernel_rfl)) rfl ?_
            exact ⟨_, by first | rfl | (simp [errW_none, errW_some] <;> rfl) | (simp [*, errW_none, errW_some] <;> rfl), by (with_reducible repeat (first | apply Kd.R_alloc | apply Kd.R_drewN | apply Kd.R_drew)); exact Kd.R_mono (Kd.R_far (p := ⟨gb110, 2, none⟩) (Kd.R_far (p := ⟨gb110, 1, none⟩) (Kd.R_far (p := ⟨gb110, 0, none⟩) (Kd.R_types HO_0.out BK110.out (by decide)) (fun _ hk => hk.2) (.int .i64 t123)) (fun _ hk => hk.2) (.int .i64 t124)) (fun _ hk => hk.2) (.int .i64 t125)) (fun _ hk => trivial), by repeat (first | (with_reducible first | exact HB.out | apply below_alloc | apply pw_below_drewN | apply below_drew1 | refine below_set ?_ GE109.out | refine below_set ?_ GE110.out | refine below_set ?_ GE122.out) | exact HB.out)⟩
          · rw [if_neg c18] at H
            exact absurd H (by simp)
        · rw [if_neg c17] at H
          exact absurd H (by simp)
  · rw [if_neg c6] at H
    exact absurd H (by simp)


end Go.Proofs.Ytnceglkoolfncaa.PUsePlays
