-- PRINTED BY print.sh 35421559b90ae4d0a3588c463048766b98c2df88dd9212a6774a882060cdf62d: not written by this session
import Derived.Test.YtnceglkoolfncaaPProbePlaysx0
namespace Go.Proofs.Ytnceglkoolfncaa.PProbePlays
open Go.RowKit Go.Proofs.YtnceglkoolfncaaW.PrintWords Go.Proofs.YtnceglkoolfncaaW.PrintLast Go.Proofs.YtnceglkoolfncaaW.PrintMore
attribute [local go_sem] max2_int min2_int max_two min_two max_three min_three max_four min_four   -- for this text's walks alone
set_option linter.unusedVariables false
set_option linter.unusedSimpArgs false

/-! ### provostlaw26_small: function 61 -/
def provostlaw26_small.f (a0_0 : Int) (a0_1 : Int) : Option (Int × Int) := if a0_0 > 1000 then (some (0, a0_1)) else (if a0_0 < (-1000) then (some (0, a0_1)) else (some (a0_0, a0_1)))
set_option maxHeartbeats 8000000 in
set_option maxRecDepth 100000 in
theorem provostlaw26_small.calls (a0_0 : Int) (a0_1 : Int) (r1 : Int) (r2 : Int) (w : World) (h : provostlaw26_small.f a0_0 a0_1 = some (r1, r2)) :
    Calls Try.prog 61 #[.agg #[.int .i64 a0_0, .int .i64 a0_1]] w fun e w' => e = .returned (.agg #[.int .i64 r1, .int .i64 r2]) ∧ Below w.heap.size w w' := by
  have hu120 := Try.underlying120
  have HB := Aside0.mk (Below.refl w.heap.size w)
  have H : (if a0_0 > 1000 then (some (0, a0_1)) else (if a0_0 < (-1000) then (some (0, a0_1)) else (some (a0_0, a0_1)))) = some (r1, r2) := h
  clear h
  by_cases c2 : a0_0 > 1000
  · rw [if_pos c2] at H
    have c2b0 : decide (1000 < a0_0) = true := decide_eq_true c2
    clear c2
    simp only [Option.some.injEq, Prod.mk.injEq] at H
    obtain ⟨rfl, rfl⟩ := H
    go_enter Try.func61, Try.ntmps61
    go_wp2_with (first | ((with_reducible refine gate_dst (N := 1) rfl ?_); refine box_event ?hg (N := 1) ?hd (cs := #[.int .i64 a0_0, .int .i64 a0_1]) (t := 120) ?hr ?_; (case hd => rfl); (case hg => rfl); (case hr => first | (go_simp; done) | (go_simp; rfl)); intro gb188 hg w3 hbox hb; have n0_ := Aside0.mk (below_step (by repeat (first | (with_reducible first | exact HB.out | apply below_alloc | apply pw_below_drewN | apply below_drew1) | exact HB.out)) hb); have n1_ := Aside0.mk (hbox); have n2_ := Aside0.mk ((by rw [hg]; exact (below_size (by repeat (first | (with_reducible first | exact HB.out | apply below_alloc | apply pw_below_drewN | apply below_drew1) | exact HB.out))) : w.heap.size ≤ gb188)); have n3_ := Aside0.mk ((by rw [hg]; exact (below_size (by repeat (first | (with_reducible first | exact HB.out | apply below_alloc | apply pw_below_drewN | apply below_drew1) | exact HB.out))) : w.heap.size ≤ gb188)); clear HB; have HB := n0_; have BK188 := n1_; have GW188 := n2_; have GE188 := n3_; clear n0_ n1_ n2_ n3_; clear hb hbox hg) | ((with_reducible refine gate_dst (N := 2) rfl ?_); refine box_event ?hg (N := 2) ?hd (cs := #[.int .i64 0, .int .i64 0]) (t := 120) ?hr ?_; (case hd => rfl); (case hg => rfl); (case hr => first | (go_simp; done) | (go_simp; rfl)); intro gb189 hg w4 hbox hb; have n0_ := Aside0.mk (blk_below (g := gb188) (o := .cells #[.int .i64 a0_0, .int .i64 a0_1] 120 (0, 0)) (by (with_reducible repeat (first | refine blk_drewN ?_ _ | refine blk_drew ?_ | refine blk_alloc ?_ _)); exact BK188.out) hb); have n1_ := Aside0.mk (below_step (by repeat (first | (with_reducible first | exact HB.out | apply below_alloc | apply pw_below_drewN | apply below_drew1 | refine below_set ?_ GE188.out) | exact HB.out)) hb); have n2_ := Aside0.mk (hbox); have n3_ := Aside0.mk ((by rw [hg]; exact (below_size (by repeat (first | (with_reducible first | exact HB.out | apply below_alloc | apply pw_below_drewN | apply below_drew1 | refine below_set ?_ GE188.out) | exact HB.out))) : w.heap.size ≤ gb189)); have n4_ := Aside0.mk ((by rw [hg]; exact (below_size (by repeat (first | (with_reducible first | exact HB.out | apply below_alloc | apply pw_below_drewN | apply below_drew1 | refine below_set ?_ GE188.out) | exact HB.out))) : w.heap.size ≤ gb189)); have n5_ := Aside0.mk ((by rw [hg]; exact Nat.ne_of_lt (blk_lt (g := gb188) (o := .cells #[.int .i64 a0_0, .int .i64 a0_1] 120 (0, 0)) (by (with_reducible repeat (first | refine blk_drewN ?_ _ | refine blk_drew ?_ | refine blk_alloc ?_ _)); exact BK188.out)) : gb188 ≠ gb189)); have n6_ := Aside0.mk ((by rw [hg]; exact Nat.ne_of_gt (blk_lt (g := gb188) (o := .cells #[.int .i64 a0_0, .int .i64 a0_1] 120 (0, 0)) (by (with_reducible repeat (first | refine blk_drewN ?_ _ | refine blk_drew ?_ | refine blk_alloc ?_ _)); exact BK188.out)) : gb189 ≠ gb188)); clear BK188; clear HB; have BK188 := n0_; have HB := n1_; have BK189 := n2_; have GW189 := n3_; have GE189 := n4_; have NB188_189 := n5_; have NB189_188 := n6_; clear n0_ n1_ n2_ n3_ n4_ n5_ n6_; clear hb hbox hg; have hnb5 := NB188_189.out; have hnc5 := NB189_188.out; have hcz6_0 : w4.cell? ⟨gb188, 0, none⟩ = some (.int .i64 a0_0) := (blk_cell BK188.out 0).trans rfl; have hcz6_1 : w4.cell? ⟨gb188, 1, none⟩ = some (.int .i64 a0_1) := (blk_cell BK188.out 1).trans rfl; have hfz6_0 := blk_frozen BK188.out 0; have hfz6_1 := blk_frozen BK188.out 1; have hcz7_0 : w4.cell? ⟨gb189, 0, none⟩ = some (.int .i64 0) := (blk_cell BK189.out 0).trans rfl; have hcz7_1 : w4.cell? ⟨gb189, 1, none⟩ = some (.int .i64 0) := (blk_cell BK189.out 1).trans rfl; have hfz7_0 := blk_frozen BK189.out 0; have hfz7_1 := blk_frozen BK189.out 1))
    refine bodyPost_ret (results_cell_row rfl _ _ gb189 120 #[.int .i64 0, .int .i64 a0_1] (0, 0) _ rfl (by (with_reducible repeat (first | refine blk_drewN ?_ _ | refine blk_drew ?_ | refine blk_alloc ?_ _)); refine blk_put (cs := #[.int .i64 0, .int .i64 0]) ?_ 1 _ rfl; (with_reducible repeat (first | refine blk_drewN ?_ _ | refine blk_drew ?_ | refine blk_alloc ?_ _)); refine blk_put (cs := #[.int .i64 0, .int .i64 0]) ?_ 0 _ rfl; (with_reducible repeat (first | refine blk_drewN ?_ _ | refine blk_drew ?_ | refine blk_alloc ?_ _)); refine blk_far ?_ NB189_188.out _; (with_reducible repeat (first | refine blk_drewN ?_ _ | refine blk_drew ?_ | refine blk_alloc ?_ _)); exact BK189.out) Try.underlying120 rfl (by kernel_rfl)) rfl ?_
    exact ⟨by first | rfl | (simp [errW_none, errW_some] <;> rfl) | (simp [*, errW_none, errW_some] <;> rfl), by repeat (first | (with_reducible first | exact HB.out | apply below_alloc | apply pw_below_drewN | apply below_drew1 | refine below_set ?_ GE188.out | refine below_set ?_ GE189.out) | exact HB.out)⟩
  · rw [if_neg c2] at H
    have c2b0 : decide (1000 < a0_0) = false := decide_eq_false c2
    clear c2
    by_cases c8 : a0_0 < (-1000)
    · rw [if_pos c8] at H
      have c8b0 : decide (a0_0 < (-1000)) = true := decide_eq_true c8
      clear c8
      simp only [Option.some.injEq, Prod.mk.injEq] at H
      obtain ⟨rfl, rfl⟩ := H
      go_enter Try.func61, Try.ntmps61
      go_wp2_with (first | ((with_reducible refine gate_dst (N := 1) rfl ?_); refine box_event ?hg (N := 1) ?hd (cs := #[.int .i64 a0_0, .int .i64 a0_1]) (t := 120) ?hr ?_; (case hd => rfl); (case hg => rfl); (case hr => first | (go_simp; done) | (go_simp; rfl)); intro gb188 hg w9 hbox hb; have n0_ := Aside0.mk (below_step (by repeat (first | (with_reducible first | exact HB.out | apply below_alloc | apply pw_below_drewN | apply below_drew1) | exact HB.out)) hb); have n1_ := Aside0.mk (hbox); have n2_ := Aside0.mk ((by rw [hg]; exact (below_size (by repeat (first | (with_reducible first | exact HB.out | apply below_alloc | apply pw_below_drewN | apply below_drew1) | exact HB.out))) : w.heap.size ≤ gb188)); have n3_ := Aside0.mk ((by rw [hg]; exact (below_size (by repeat (first | (with_reducible first | exact HB.out | apply below_alloc | apply pw_below_drewN | apply below_drew1) | exact HB.out))) : w.heap.size ≤ gb188)); clear HB; have HB := n0_; have BK188 := n1_; have GW188 := n2_; have GE188 := n3_; clear n0_ n1_ n2_ n3_; clear hb hbox hg) | ((with_reducible refine gate_dst (N := 2) rfl ?_); refine box_event ?hg (N := 2) ?hd (cs := #[.int .i64 0, .int .i64 0]) (t := 120) ?hr ?_; (case hd => rfl); (case hg => rfl); (case hr => first | (go_simp; done) | (go_simp; rfl)); intro gb189 hg w10 hbox hb; have n0_ := Aside0.mk (blk_below (g := gb188) (o := .cells #[.int .i64 a0_0, .int .i64 a0_1] 120 (0, 0)) (by (with_reducible repeat (first | refine blk_drewN ?_ _ | refine blk_drew ?_ | refine blk_alloc ?_ _)); exact BK188.out) hb); have n1_ := Aside0.mk (below_step (by repeat (first | (with_reducible first | exact HB.out | apply below_alloc | apply pw_below_drewN | apply below_drew1 | refine below_set ?_ GE188.out) | exact HB.out)) hb); have n2_ := Aside0.mk (hbox); have n3_ := Aside0.mk ((by rw [hg]; exact (below_size (by repeat (first | (with_reducible first | exact HB.out | apply below_alloc | apply pw_below_drewN | apply below_drew1 | refine below_set ?_ GE188.out) | exact HB.out))) : w.heap.size ≤ gb189)); have n4_ := Aside0.mk ((by rw [hg]; exact (below_size (by repeat (first | (with_reducible first | exact HB.out | apply below_alloc | apply pw_below_drewN | apply below_drew1 | refine below_set ?_ GE188.out) | exact HB.out))) : w.heap.size ≤ gb189)); have n5_ := Aside0.mk ((by rw [hg]; exact Nat.ne_of_lt (blk_lt (g := gb188) (o := .cells #[.int .i64 a0_0, .int .i64 a0_1] 120 (0, 0)) (by (with_reducible repeat (first | refine blk_drewN ?_ _ | refine blk_drew ?_ | refine blk_alloc ?_ _)); exact BK188.out)) : gb188 ≠ gb189)); have n6_ := Aside0.mk ((by rw [hg]; exact Nat.ne_of_gt (blk_lt (g := gb188) (o := .cells #[.int .i64 a0_0, .int .i64 a0_1] 120 (0, 0)) (by (with_reducible repeat (first | refine blk_drewN ?_ _ | refine blk_drew ?_ | refine blk_alloc ?_ _)); exact BK188.out)) : gb189 ≠ gb188)); clear BK188; clear HB; have BK188 := n0_; have HB := n1_; have BK189 := n2_; have GW189 := n3_; have GE189 := n4_; have NB188_189 := n5_; have NB189_188 := n6_; clear n0_ n1_ n2_ n3_ n4_ n5_ n6_; clear hb hbox hg; have hnb11 := NB188_189.out; have hnc11 := NB189_188.out; have hcz12_0 : w10.cell? ⟨gb188, 0, none⟩ = some (.int .i64 a0_0) := (blk_cell BK188.out 0).trans rfl; have hcz12_1 : w10.cell? ⟨gb188, 1, none⟩ = some (.int .i64 a0_1) := (blk_cell BK188.out 1).trans rfl; have hfz12_0 := blk_frozen BK188.out 0; have hfz12_1 := blk_frozen BK188.out 1; have hcz13_0 : w10.cell? ⟨gb189, 0, none⟩ = some (.int .i64 0) := (blk_cell BK189.out 0).trans rfl; have hcz13_1 : w10.cell? ⟨gb189, 1, none⟩ = some (.int .i64 0) := (blk_cell BK189.out 1).trans rfl; have hfz13_0 := blk_frozen BK189.out 0; have hfz13_1 := blk_frozen BK189.out 1))
      refine bodyPost_ret (results_cell_row rfl _ _ gb189 120 #[.int .i64 0, .int .i64 a0_1] (0, 0) _ rfl (by (with_reducible repeat (first | refine blk_drewN ?_ _ | refine blk_drew ?_ | refine blk_alloc ?_ _)); refine blk_put (cs := #[.int .i64 0, .int .i64 0]) ?_ 1 _ rfl; (with_reducible repeat (first | refine blk_drewN ?_ _ | refine blk_drew ?_ | refine blk_alloc ?_ _)); refine blk_put (cs := #[.int .i64 0, .int .i64 0]) ?_ 0 _ rfl; (with_reducible repeat (first | refine blk_drewN ?_ _ | refine blk_drew ?_ | refine blk_alloc ?_ _)); refine blk_far ?_ NB189_188.out _; (with_reducible repeat (first | refine blk_drewN ?_ _ | refine blk_drew ?_ | refine blk_alloc ?_ _)); exact BK189.out) Try.underlying120 rfl (by kernel_rfl)) rfl ?_
      exact ⟨by first | rfl | (simp [errW_none, errW_some] <;> rfl) | (simp [*, errW_none, errW_some] <;> rfl), by repeat (first | (with_reducible first | exact HB.out | apply below_alloc | apply pw_below_drewN | apply below_drew1 | refine below_set ?_ GE188.out | refine below_set ?_ GE189.out) | exact HB.out)⟩
    · rw [if_neg c8] at H
      have c8b0 : decide (a0_0 < (-1000)) = false := decide_eq_false c8
      clear c8
      simp only [Option.some.injEq, Prod.mk.injEq] at H
      obtain ⟨rfl, rfl⟩ := H
      go_enter Try.func61, Try.ntmps61
      go_wp2_with (first | ((with_reducible refine gate_dst (N := 1) rfl ?_); refine box_event ?hg (N := 1) ?hd (cs := #[.int .i64 a0_0, .int .i64 a0_1]) (t := 120) ?hr ?_; (case hd => rfl); (case hg => rfl); (case hr => first | (go_simp; done) | (go_simp; rfl)); intro gb188 hg w14 hbox hb; have n0_ := Aside0.mk (below_step (by repeat (first | (with_reducible first | exact HB.out | apply below_alloc | apply pw_below_drewN | apply below_drew1) | exact HB.out)) hb); have n1_ := Aside0.mk (hbox); have n2_ := Aside0.mk ((by rw [hg]; exact (below_size (by repeat (first | (with_reducible first | exact HB.out | apply below_alloc | apply pw_below_drewN | apply below_drew1) | exact HB.out))) : w.heap.size ≤ gb188)); have n3_ := Aside0.mk ((by rw [hg]; exact (below_size (by repeat (first | (with_reducible first | exact HB.out | apply below_alloc | apply pw_below_drewN | apply below_drew1) | exact HB.out))) : w.heap.size ≤ gb188)); clear HB; have HB := n0_; have BK188 := n1_; have GW188 := n2_; have GE188 := n3_; clear n0_ n1_ n2_ n3_; clear hb hbox hg) | ((with_reducible refine gate_dst (N := 2) rfl ?_); refine box_event ?hg (N := 2) ?hd (cs := #[.int .i64 0, .int .i64 0]) (t := 120) ?hr ?_; (case hd => rfl); (case hg => rfl); (case hr => first | (go_simp; done) | (go_simp; rfl)); intro gb189 hg w15 hbox hb; have n0_ := Aside0.mk (blk_below (g := gb188) (o := .cells #[.int .i64 a0_0, .int .i64 a0_1] 120 (0, 0)) (by (with_reducible repeat (first | refine blk_drewN ?_ _ | refine blk_drew ?_ | refine blk_alloc ?_ _)); exact BK188.out) hb); have n1_ := Aside0.mk (below_step (by repeat (first | (with_reducible first | exact HB.out | apply below_alloc | apply pw_below_drewN | apply below_drew1 | refine below_set ?_ GE188.out) | exact HB.out)) hb); have n2_ := Aside0.mk (hbox); have n3_ := Aside0.mk ((by rw [hg]; exact (below_size (by repeat (first | (with_reducible first | exact HB.out | apply below_alloc | apply pw_below_drewN | apply below_drew1 | refine below_set ?_ GE188.out) | exact HB.out))) : w.heap.size ≤ gb189)); have n4_ := Aside0.mk ((by rw [hg]; exact (below_size (by repeat (first | (with_reducible first | exact HB.out | apply below_alloc | apply pw_below_drewN | apply below_drew1 | refine below_set ?_ GE188.out) | exact HB.out))) : w.heap.size ≤ gb189)); have n5_ := Aside0.mk ((by rw [hg]; exact Nat.ne_of_lt (blk_lt (g := gb188) (o := .cells #[.int .i64 a0_0, .int .i64 a0_1] 120 (0, 0)) (by (with_reducible repeat (first | refine blk_drewN ?_ _ | refine blk_drew ?_ | refine blk_alloc ?_ _)); exact BK188.out)) : gb188 ≠ gb189)); have n6_ := Aside0.mk ((by rw [hg]; exact Nat.ne_of_gt (blk_lt (g := gb188) (o := .cells #[.int .i64 a0_0, .int .i64 a0_1] 120 (0, 0)) (by (with_reducible repeat (first | refine blk_drewN ?_ _ | refine blk_drew ?_ | refine blk_alloc ?_ _)); exact BK188.out)) : gb189 ≠ gb188)); clear BK188; clear HB; have BK188 := n0_; have HB := n1_; have BK189 := n2_; have GW189 := n3_; have GE189 := n4_; have NB188_189 := n5_; have NB189_188 := n6_; clear n0_ n1_ n2_ n3_ n4_ n5_ n6_; clear hb hbox hg; have hnb16 := NB188_189.out; have hnc16 := NB189_188.out; have hcz17_0 : w15.cell? ⟨gb188, 0, none⟩ = some (.int .i64 a0_0) := (blk_cell BK188.out 0).trans rfl; have hcz17_1 : w15.cell? ⟨gb188, 1, none⟩ = some (.int .i64 a0_1) := (blk_cell BK188.out 1).trans rfl; have hfz17_0 := blk_frozen BK188.out 0; have hfz17_1 := blk_frozen BK188.out 1; have hcz18_0 : w15.cell? ⟨gb189, 0, none⟩ = some (.int .i64 0) := (blk_cell BK189.out 0).trans rfl; have hcz18_1 : w15.cell? ⟨gb189, 1, none⟩ = some (.int .i64 0) := (blk_cell BK189.out 1).trans rfl; have hfz18_0 := blk_frozen BK189.out 0; have hfz18_1 := blk_frozen BK189.out 1))
      refine bodyPost_ret (results_cell_row rfl _ _ gb189 120 #[.int .i64 a0_0, .int .i64 a0_1] (0, 0) _ rfl (by (with_reducible repeat (first | refine blk_drewN ?_ _ | refine blk_drew ?_ | refine blk_alloc ?_ _)); refine blk_put (cs := #[.int .i64 a0_0, .int .i64 0]) ?_ 1 _ rfl; (with_reducible repeat (first | refine blk_drewN ?_ _ | refine blk_drew ?_ | refine blk_alloc ?_ _)); refine blk_put (cs := #[.int .i64 0, .int .i64 0]) ?_ 0 _ rfl; (with_reducible repeat (first | refine blk_drewN ?_ _ | refine blk_drew ?_ | refine blk_alloc ?_ _)); exact BK189.out) Try.underlying120 rfl (by kernel_rfl)) rfl ?_
      exact ⟨by first | rfl | (simp [errW_none, errW_some] <;> rfl) | (simp [*, errW_none, errW_some] <;> rfl), by repeat (first | (with_reducible first | exact HB.out | apply below_alloc | apply pw_below_drewN | apply below_drew1 | refine below_set ?_ GE188.out | refine below_set ?_ GE189.out) | exact HB.out)⟩

-- NOT PRINTED: function 62 (probe_Book_Watch)

/-! ### provostref26_Index: function 70 -/
def provostref26_Index.l0 : Nat → List (S207) → Int → Int → Int → Option (Int)
  | 0, _, _, _, _ => none
  | k + 1, x0, x1, x2, x7 => if x7 < (x0.length : Int) then (if 0 ≤ x7 then (if ((rd_T207 x0 x7).f0) = x1 then (if ((rd_T207 x0 x7).f1) = x2 then (some x7) else (provostref26_Index.l0 k x0 x1 x2 (wrap64 (x7 + 1)))) else (provostref26_Index.l0 k x0 x1 x2 (wrap64 (x7 + 1)))) else (none)) else (some (-1))
def provostref26_Index.f (k : Nat) (l0 : List (S207)) (a1 : Int) (a2 : Int) : Option (Int) := provostref26_Index.l0 k l0 a1 a2 0
theorem provostref26_Index.mono_l : ∀ k, (∀ y0 y1 y2 y3, LeO (provostref26_Index.l0 k y0 y1 y2 y3) (provostref26_Index.l0 (k + 1) y0 y1 y2 y3))
  | 0 => fun _ _ _ _ r h => by simp [provostref26_Index.l0] at h
  | k + 1 => by
    have ih0 := provostref26_Index.mono_l k
    · intro y0 y1 y2 y3
      unfold provostref26_Index.l0
      repeat' first
      | (with_reducible exact ih0 _ _ _ _)
      | (with_reducible exact LeO.refl _)
      | (with_reducible exact LeO.none _)
      | (with_reducible refine LeO.ite ?_ ?_)
      | (with_reducible refine LeO.bind ?_ (fun _ => ?_))
      | exact ih0 _ _ _ _
      | exact LeO.none _
      | refine LeO.ite ?_ ?_
      | refine LeO.bind ?_ (fun _ => ?_)
theorem provostref26_Index.mono : ∀ a0 a1 a2 k, LeO (provostref26_Index.f k a0 a1 a2) (provostref26_Index.f (k + 1) a0 a1 a2) := by
  intro a0 a1 a2 k
  have ih0 := provostref26_Index.mono_l k
  unfold provostref26_Index.f
  repeat' first
      | (with_reducible exact ih0 _ _ _ _)
      | (with_reducible exact LeO.refl _)
      | (with_reducible exact LeO.none _)
      | (with_reducible refine LeO.ite ?_ ?_)
      | (with_reducible refine LeO.bind ?_ (fun _ => ?_))
      | exact ih0 _ _ _ _
      | exact LeO.none _
      | refine LeO.ite ?_ ?_
      | refine LeO.bind ?_ (fun _ => ?_)
set_option maxHeartbeats 8000000 in
set_option maxRecDepth 100000 in
theorem provostref26_Index.calls (k : Nat) (A0 : Option Addr) (c0 : Nat) (l0 : List (S207)) (a1 : Int) (a2 : Int) (r : Int) (w : World) (hr0 : Kd.C k207 w A0 l0.length l0) (hc0 : l0.length ≤ c0) (h : provostref26_Index.f k l0 a1 a2 = some r) :
    Calls Try.prog 70 #[.slice A0 l0.length c0, .int .i64 a1, .int .i64 a2] w fun e w' => e = .returned (.int .i64 r) ∧ Drawn0 w w' := by
  have HR0 := Aside0.mk hr0
  have HC0 := Aside0.mk hc0
  clear hr0 hc0
  have H : (provostref26_Index.l0 k l0 a1 a2 0) = some r := h
  clear h
  have H' := Aside0.mk H
  clear H
  go_enter Try.func70, Try.ntmps70
  go_wp2
  go_loopg [7] k (fun kq v7 w' => ∃ (x7_1 : Int), v7 = .int .i64 x7_1 ∧ Aside0 (provostref26_Index.l0 kq l0 a1 a2 x7_1 = some r) ∧ Aside0 (kq ≤ k) ∧ Drawn0 w w')
  case atStart => exact ⟨(0), (by first | rfl | (simp; done) | (simp [*]; done)), H', ⟨Nat.le_refl _⟩, by repeat (first | exact Drawn0.refl _ | apply Drawn0.step)⟩
  case round =>
    clear H'
    try clear p2
    obtain ⟨x7_1, rfl, HA, HK1, ⟨m1, rfl⟩⟩ := hrel
    cases gk with
    | zero => exact absurd HA.out (by simp [provostref26_Index.l0])
    | succ k1 =>
      have H := HA.out
      clear HA
      simp only [provostref26_Index.l0] at H
      by_cases c4 : x7_1 < (l0.length : Int)
      · rw [if_pos c4] at H
        have c4b0 : decide (x7_1 < (l0.length : Int)) = true := decide_eq_true c4
        clear c4
        by_cases c5 : 0 ≤ x7_1
        · rw [if_pos c5] at H
          have c5b0 : decide (0 ≤ x7_1) = true := decide_eq_true c5
          clear c5
          by_cases c6 : ((rd_T207 l0 x7_1).f0) = a1
          · rw [if_pos c6] at H
            have c6b0 : (((rd_T207 l0 x7_1).f0) == a1) = true := beq_iff_eq.mpr c6
            have c6b1 : (((rd_T207 l0 x7_1).f0) != a1) = false := bne_eq_false_iff_eq.mpr c6
            clear c6
            by_cases c7 : ((rd_T207 l0 x7_1).f1) = a2
            · rw [if_pos c7] at H
              have c7b0 : (((rd_T207 l0 x7_1).f1) == a2) = true := beq_iff_eq.mpr c7
              have c7b1 : (((rd_T207 l0 x7_1).f1) != a2) = false := bne_eq_false_iff_eq.mpr c7
              clear c7
              obtain rfl := Option.some.inj H
              have p190 : 0 ≤ (x7_1 : Int) := of_decide_eq_true (by first | (with_reducible assumption) | assumption)
              have q190 : x7_1 < (l0.length : Int) := of_decide_eq_true (by first | (with_reducible assumption) | assumption)
              obtain ⟨ad190, e190, hx190_0, hx190_1, hx190_2, hx190_3, hx190_4, hx190_5⟩ := at_T207 HR0.out x7_1 p190 q190
              cases e190
              replace p190 := eq_true p190
              replace q190 := eq_true q190
              have p191 : 0 ≤ (x7_1 : Int) := of_decide_eq_true (by first | (with_reducible assumption) | assumption)
              have q191 : x7_1 < (l0.length : Int) := of_decide_eq_true (by first | (with_reducible assumption) | assumption)
              obtain ⟨ad191, e191, hx191_0, hx191_1, hx191_2, hx191_3, hx191_4, hx191_5⟩ := at_T207 HR0.out x7_1 p191 q191
              obtain rfl : ad190 = ad191 := (by injection e191)
              replace p191 := eq_true p191
              replace q191 := eq_true q191
              go_wp2
              go_ret
              exact ⟨by first | rfl | (simp; done) | (simp [*]; done), by repeat (first | exact Drawn0.refl _ | apply Drawn0.step)⟩
            · rw [if_neg c7] at H
              have c7b0 : (((rd_T207 l0 x7_1).f1) == a2) = false := beq_eq_false_iff_ne.mpr c7
              have c7b1 : (((rd_T207 l0 x7_1).f1) != a2) = true := bne_iff_ne.mpr c7
              have H' := Aside0.mk H
              clear H
              have p190 : 0 ≤ (x7_1 : Int) := of_decide_eq_true (by first | (with_reducible assumption) | assumption)
              have q190 : x7_1 < (l0.length : Int) := of_decide_eq_true (by first | (with_reducible assumption) | assumption)
              obtain ⟨ad190, e190, hx190_0, hx190_1, hx190_2, hx190_3, hx190_4, hx190_5⟩ := at_T207 HR0.out x7_1 p190 q190
              cases e190
              replace p190 := eq_true p190
              replace q190 := eq_true q190
              have p191 : 0 ≤ (x7_1 : Int) := of_decide_eq_true (by first | (with_reducible assumption) | assumption)
              have q191 : x7_1 < (l0.length : Int) := of_decide_eq_true (by first | (with_reducible assumption) | assumption)
              obtain ⟨ad191, e191, hx191_0, hx191_1, hx191_2, hx191_3, hx191_4, hx191_5⟩ := at_T207 HR0.out x7_1 p191 q191
              obtain rfl : ad190 = ad191 := (by injection e191)
              replace p191 := eq_true p191
              replace q191 := eq_true q191
              go_wp2
              go_roundg k1
              case measure => have := HK1.out; omega
              case rel => exact ⟨(wrap64 (x7_1 + 1)), (by first | rfl | (simp; done) | (simp [*]; done)), H', ⟨by have := HK1.out; omega⟩, by repeat (first | exact Drawn0.refl _ | apply Drawn0.step)⟩
          · rw [if_neg c6] at H
            have c6b0 : (((rd_T207 l0 x7_1).f0) == a1) = false := beq_eq_false_iff_ne.mpr c6
            have c6b1 : (((rd_T207 l0 x7_1).f0) != a1) = true := bne_iff_ne.mpr c6
            have H' := Aside0.mk H
            clear H
            have p190 : 0 ≤ (x7_1 : Int) := of_decide_eq_true (by first | (with_reducible assumption) | assumption)
            have q190 : x7_1 < (l0.length : Int) := of_decide_eq_true (by first | (with_reducible assumption) | assumption)
            obtain ⟨ad190, e190, hx190_0, hx190_1, hx190_2, hx190_3, hx190_4, hx190_5⟩ := at_T207 HR0.out x7_1 p190 q190
            cases e190
            replace p190 := eq_true p190
            replace q190 := eq_true q190
            go_wp2
            go_roundg k1
            case measure => have := HK1.out; omega
            case rel => exact ⟨(wrap64 (x7_1 + 1)), (by first | rfl | (simp; done) | (simp [*]; done)), H', ⟨by have := HK1.out; omega⟩, by repeat (first | exact Drawn0.refl _ | apply Drawn0.step)⟩
        · rw [if_neg c5] at H
          exact absurd H (by simp)
      · rw [if_neg c4] at H
        have c4b0 : decide (x7_1 < (l0.length : Int)) = false := decide_eq_false c4
        clear c4
        obtain rfl := Option.some.inj H
        go_wp2
        go_ret
        exact ⟨by first | rfl | (simp; done) | (simp [*]; done), by repeat (first | exact Drawn0.refl _ | apply Drawn0.step)⟩

/-! ### provostref26_Sick: function 72 -/
def provostref26_Sick.f (k : Nat) (l0 : List (S207)) (a1 : Int) (a2 : Int) : Option (Bool) := (provostref26_Index.f k l0 a1 a2).bind fun t192 => (if t192 ≥ 0 then (if 0 ≤ t192 then (if t192 < (l0.length : Int) then (some (decide (((rd_T207 l0 t192).f4) ≥ ((rd_T207 l0 t192).f2.f1)))) else (none)) else (none)) else (some false))
theorem provostref26_Sick.mono : ∀ a0 a1 a2 k, LeO (provostref26_Sick.f k a0 a1 a2) (provostref26_Sick.f (k + 1) a0 a1 a2) := by
  intro a0 a1 a2 k
  unfold provostref26_Sick.f
  repeat' first
      | (with_reducible exact provostref26_Index.mono _ _ _ _)
      | (with_reducible exact LeO.refl _)
      | (with_reducible exact LeO.none _)
      | (with_reducible refine LeO.ite ?_ ?_)
      | (with_reducible refine LeO.bind ?_ (fun _ => ?_))
      | exact provostref26_Index.mono _ _ _ _
      | exact LeO.none _
      | refine LeO.ite ?_ ?_
      | refine LeO.bind ?_ (fun _ => ?_)
set_option maxHeartbeats 8000000 in
set_option maxRecDepth 100000 in
theorem provostref26_Sick.calls (k : Nat) (A0 : Option Addr) (c0 : Nat) (l0 : List (S207)) (a1 : Int) (a2 : Int) (r : Bool) (w : World) (hr0 : Kd.C k207 w A0 l0.length l0) (hc0 : l0.length ≤ c0) (h : provostref26_Sick.f k l0 a1 a2 = some r) :
    Calls Try.prog 72 #[.slice A0 l0.length c0, .int .i64 a1, .int .i64 a2] w fun e w' => e = .returned (.bool r) ∧ Drawn0 w w' := by
  have HR0 := Aside0.mk hr0
  have HC0 := Aside0.mk hc0
  clear hr0 hc0
  have H : ((provostref26_Index.f k l0 a1 a2).bind fun t192 => (if t192 ≥ 0 then (if 0 ≤ t192 then (if t192 < (l0.length : Int) then (some (decide (((rd_T207 l0 t192).f4) ≥ ((rd_T207 l0 t192).f2.f1)))) else (none)) else (none)) else (some false))) = some r := h
  clear h
  replace H := Option.bind_eq_some_iff.mp H
  obtain ⟨t192, A40, H⟩ := H
  replace H : (if t192 ≥ 0 then (if 0 ≤ t192 then (if t192 < (l0.length : Int) then (some (decide (((rd_T207 l0 t192).f4) ≥ ((rd_T207 l0 t192).f2.f1)))) else (none)) else (none)) else (some false)) = some r := H
  have A4 := Aside0.mk A40
  clear A40
  by_cases c5 : t192 ≥ 0
  · rw [if_pos c5] at H
    have c5b0 : decide (0 ≤ t192) = true := decide_eq_true c5
    clear c5
    by_cases c6 : 0 ≤ t192
    · rw [if_pos c6] at H
      have c6b0 : decide (0 ≤ t192) = true := decide_eq_true c6
      clear c6
      by_cases c7 : t192 < (l0.length : Int)
      · rw [if_pos c7] at H
        have c7b0 : decide (t192 < (l0.length : Int)) = true := decide_eq_true c7
        clear c7
        obtain rfl := Option.some.inj H
        go_enter Try.func72, Try.ntmps72
        go_wp2_with (first | (go_at_call 70; (with_reducible refine (provostref26_Index.calls k _ _ l0 a1 a2 t192 _ ?side1 ?side2 A4.out).mono ?_); (case side1 => repeat (first | exact HR0.out | (with_reducible refine Kd.C_alloc ?_ _) | (with_reducible refine Kd.C_drewN ?_ _) | (with_reducible refine Kd.C_drew ?_))); (case side2 => exact HC0.out); rintro e w' ⟨rfl, ⟨nd, rfl⟩⟩; (try first | exact ⟨rfl, _, World.drewN_drewN _ _ _⟩ | exact ⟨rfl, _, Eq.trans (World.drewN_drewN _ _ _) (congrArg (World.drewN _) (Nat.add_assoc _ _ _))⟩); have p193 : 0 ≤ (t192 : Int) := of_decide_eq_true (by first | (with_reducible assumption) | assumption); have q193 : t192 < (l0.length : Int) := of_decide_eq_true (by first | (with_reducible assumption) | assumption); obtain ⟨ad193, e193, hx193_0, hx193_1, hx193_2, hx193_3, hx193_4, hx193_5⟩ := at_T207 HR0.out t192 p193 q193; cases e193; replace p193 := eq_true p193; replace q193 := eq_true q193; have p194 : 0 ≤ (t192 : Int) := of_decide_eq_true (by first | (with_reducible assumption) | assumption); have q194 : t192 < (l0.length : Int) := of_decide_eq_true (by first | (with_reducible assumption) | assumption); obtain ⟨ad194, e194, hx194_0, hx194_1, hx194_2, hx194_3, hx194_4, hx194_5⟩ := at_T207 HR0.out t192 p194 q194; obtain rfl : ad193 = ad194 := (by injection e194); replace p194 := eq_true p194; replace q194 := eq_true q194))
        repeat (go_quiet (first | (go_at_call 70; (with_reducible refine (provostref26_Index.calls k _ _ l0 a1 a2 t192 _ ?side1 ?side2 A4.out).mono ?_); (case side1 => repeat (first | exact HR0.out | (with_reducible refine Kd.C_alloc ?_ _) | (with_reducible refine Kd.C_drewN ?_ _) | (with_reducible refine Kd.C_drew ?_))); (case side2 => exact HC0.out); rintro e w' ⟨rfl, ⟨nd, rfl⟩⟩; (try first | exact ⟨rfl, _, World.drewN_drewN _ _ _⟩ | exact ⟨rfl, _, Eq.trans (World.drewN_drewN _ _ _) (congrArg (World.drewN _) (Nat.add_assoc _ _ _))⟩); have p193 : 0 ≤ (t192 : Int) := of_decide_eq_true (by first | (with_reducible assumption) | assumption); have q193 : t192 < (l0.length : Int) := of_decide_eq_true (by first | (with_reducible assumption) | assumption); obtain ⟨ad193, e193, hx193_0, hx193_1, hx193_2, hx193_3, hx193_4, hx193_5⟩ := at_T207 HR0.out t192 p193 q193; cases e193; replace p193 := eq_true p193; replace q193 := eq_true q193; have p194 : 0 ≤ (t192 : Int) := of_decide_eq_true (by first | (with_reducible assumption) | assumption); have q194 : t192 < (l0.length : Int) := of_decide_eq_true (by first | (with_reducible assumption) | assumption); obtain ⟨ad194, e194, hx194_0, hx194_1, hx194_2, hx194_3, hx194_4, hx194_5⟩ := at_T207 HR0.out t192 p194 q194; obtain rfl : ad193 = ad194 := (by injection e194); replace p194 := eq_true p194; replace q194 := eq_true q194)); try go_wp2_with (first | (go_at_call 70; (with_reducible refine (provostref26_Index.calls k _ _ l0 a1 a2 t192 _ ?side1 ?side2 A4.out).mono ?_); (case side1 => repeat (first | exact HR0.out | (with_reducible refine Kd.C_alloc ?_ _) | (with_reducible refine Kd.C_drewN ?_ _) | (with_reducible refine Kd.C_drew ?_))); (case side2 => exact HC0.out); rintro e w' ⟨rfl, ⟨nd, rfl⟩⟩; (try first | exact ⟨rfl, _, World.drewN_drewN _ _ _⟩ | exact ⟨rfl, _, Eq.trans (World.drewN_drewN _ _ _) (congrArg (World.drewN _) (Nat.add_assoc _ _ _))⟩); have p193 : 0 ≤ (t192 : Int) := of_decide_eq_true (by first | (with_reducible assumption) | assumption); have q193 : t192 < (l0.length : Int) := of_decide_eq_true (by first | (with_reducible assumption) | assumption); obtain ⟨ad193, e193, hx193_0, hx193_1, hx193_2, hx193_3, hx193_4, hx193_5⟩ := at_T207 HR0.out t192 p193 q193; cases e193; replace p193 := eq_true p193; replace q193 := eq_true q193; have p194 : 0 ≤ (t192 : Int) := of_decide_eq_true (by first | (with_reducible assumption) | assumption); have q194 : t192 < (l0.length : Int) := of_decide_eq_true (by first | (with_reducible assumption) | assumption); obtain ⟨ad194, e194, hx194_0, hx194_1, hx194_2, hx194_3, hx194_4, hx194_5⟩ := at_T207 HR0.out t192 p194 q194; obtain rfl : ad193 = ad194 := (by injection e194); replace p194 := eq_true p194; replace q194 := eq_true q194)))
        go_ret
        exact ⟨by first | rfl | (simp; done) | (simp [*]; done), by repeat (first | exact Drawn0.refl _ | apply Drawn0.step)⟩
      · rw [if_neg c7] at H
        exact absurd H (by simp)
    · rw [if_neg c6] at H
      exact absurd H (by simp)
  · rw [if_neg c5] at H
    have c5b0 : decide (0 ≤ t192) = false := decide_eq_false c5
    clear c5
    obtain rfl := Option.some.inj H
    go_enter Try.func72, Try.ntmps72
    go_wp2_with (first | (go_at_call 70; (with_reducible refine (provostref26_Index.calls k _ _ l0 a1 a2 t192 _ ?side1 ?side2 A4.out).mono ?_); (case side1 => repeat (first | exact HR0.out | (with_reducible refine Kd.C_alloc ?_ _) | (with_reducible refine Kd.C_drewN ?_ _) | (with_reducible refine Kd.C_drew ?_))); (case side2 => exact HC0.out); rintro e w' ⟨rfl, ⟨nd, rfl⟩⟩; (try first | exact ⟨rfl, _, World.drewN_drewN _ _ _⟩ | exact ⟨rfl, _, Eq.trans (World.drewN_drewN _ _ _) (congrArg (World.drewN _) (Nat.add_assoc _ _ _))⟩)))
    repeat (go_quiet (first | (go_at_call 70; (with_reducible refine (provostref26_Index.calls k _ _ l0 a1 a2 t192 _ ?side1 ?side2 A4.out).mono ?_); (case side1 => repeat (first | exact HR0.out | (with_reducible refine Kd.C_alloc ?_ _) | (with_reducible refine Kd.C_drewN ?_ _) | (with_reducible refine Kd.C_drew ?_))); (case side2 => exact HC0.out); rintro e w' ⟨rfl, ⟨nd, rfl⟩⟩; (try first | exact ⟨rfl, _, World.drewN_drewN _ _ _⟩ | exact ⟨rfl, _, Eq.trans (World.drewN_drewN _ _ _) (congrArg (World.drewN _) (Nat.add_assoc _ _ _))⟩))); try go_wp2_with (first | (go_at_call 70; (with_reducible refine (provostref26_Index.calls k _ _ l0 a1 a2 t192 _ ?side1 ?side2 A4.out).mono ?_); (case side1 => repeat (first | exact HR0.out | (with_reducible refine Kd.C_alloc ?_ _) | (with_reducible refine Kd.C_drewN ?_ _) | (with_reducible refine Kd.C_drew ?_))); (case side2 => exact HC0.out); rintro e w' ⟨rfl, ⟨nd, rfl⟩⟩; (try first | exact ⟨rfl, _, World.drewN_drewN _ _ _⟩ | exact ⟨rfl, _, Eq.trans (World.drewN_drewN _ _ _) (congrArg (World.drewN _) (Nat.add_assoc _ _ _))⟩))))
    go_ret
    exact ⟨by first | rfl | (simp; done) | (simp [*]; done), by repeat (first | exact Drawn0.refl _ | apply Drawn0.step)⟩

/-! ### provostref26_Ask: function 63 -/
def provostref26_Ask.j0 : Nat → List (S207) → Int → Int → Bool → Int → Int → Bool → Option ((List (S207)) × Bool)
  | 0, _, _, _, _, _, _, _ => none
  | k + 1, x0, x1, x2, x3, x4, x12, x27 => if x27 = true then (some (x0, false)) else ((some (([] : List (S207)) : List (S207))).bind fun y197 => (if y197.length + x0.length < 2932031007402 then ((some (y197 ++ x0 : List (S207))).bind fun y200 => (if x3 = true then (if 0 ≤ x12 then (if x12 < (y200.length : Int) then ((some (y200.set (x12 : Int).toNat (⟨(rd_T207 y200 x12).f0, (rd_T207 y200 x12).f1, (⟨(rd_T207 y200 x12).f2.f0, (rd_T207 y200 x12).f2.f1⟩ : S120), (rd_T207 y200 x12).f3, wrap64 (((rd_T207 y200 x12).f4) + 1)⟩ : S207) : List (S207))).bind fun y204 => ((some (y204.set (x12 : Int).toNat (⟨(rd_T207 y204 x12).f0, (rd_T207 y204 x12).f1, (⟨(rd_T207 y204 x12).f2.f0, (rd_T207 y204 x12).f2.f1⟩ : S120), wrap64 (x4 + ((rd_T207 y204 x12).f2.f0)), (rd_T207 y204 x12).f4⟩ : S207) : List (S207))).bind fun y206 => ((provostref26_Sick.f k y206 x1 x2).bind fun t207 => (some (y206, t207))))) else (none)) else (none)) else (if 0 ≤ x12 then (if x12 < (y200.length : Int) then ((some (y200.set (x12 : Int).toNat (⟨(rd_T207 y200 x12).f0, (rd_T207 y200 x12).f1, (⟨(rd_T207 y200 x12).f2.f0, (rd_T207 y200 x12).f2.f1⟩ : S120), (rd_T207 y200 x12).f3, 0⟩ : S207) : List (S207))).bind fun y208 => ((some (y208.set (x12 : Int).toNat (⟨(rd_T207 y208 x12).f0, (rd_T207 y208 x12).f1, (⟨(rd_T207 y208 x12).f2.f0, (rd_T207 y208 x12).f2.f1⟩ : S120), wrap64 (x4 + ((rd_T207 y208 x12).f2.f0)), (rd_T207 y208 x12).f4⟩ : S207) : List (S207))).bind fun y210 => ((provostref26_Sick.f k y210 x1 x2).bind fun t211 => (some (y210, t211))))) else (none)) else (none)))) else (none)))
def provostref26_Ask.f (k : Nat) (l0 : List (S207)) (a1 : Int) (a2 : Int) (a3 : Bool) (a4 : Int) : Option ((List (S207)) × Bool) := (provostref26_Index.f k l0 a1 a2).bind fun t195 => (if t195 < 0 then (provostref26_Ask.j0 k l0 a1 a2 a3 a4 t195 true) else (if 0 ≤ t195 then (if t195 < (l0.length : Int) then (provostref26_Ask.j0 k l0 a1 a2 a3 a4 t195 (decide (((rd_T207 l0 t195).f3) > a4))) else (none)) else (none)))
theorem provostref26_Ask.mono_l : ∀ k, (∀ y0 y1 y2 y3 y4 y5 y6, LeO (provostref26_Ask.j0 k y0 y1 y2 y3 y4 y5 y6) (provostref26_Ask.j0 (k + 1) y0 y1 y2 y3 y4 y5 y6))
  | 0 => fun _ _ _ _ _ _ _ r h => by simp [provostref26_Ask.j0] at h
  | k + 1 => by
    have ih0 := provostref26_Ask.mono_l k
    · intro y0 y1 y2 y3 y4 y5 y6
      unfold provostref26_Ask.j0
      repeat' first
      | (with_reducible exact ih0 _ _ _ _ _ _ _)
      | (with_reducible exact provostref26_Index.mono _ _ _ _)
      | (with_reducible exact provostref26_Sick.mono _ _ _ _)
      | (with_reducible exact LeO.refl _)
      | (with_reducible exact LeO.none _)
      | (with_reducible refine LeO.ite ?_ ?_)
      | (with_reducible refine LeO.bind ?_ (fun _ => ?_))
      | exact ih0 _ _ _ _ _ _ _
      | exact provostref26_Index.mono _ _ _ _
      | exact provostref26_Sick.mono _ _ _ _
      | exact LeO.none _
      | refine LeO.ite ?_ ?_
      | refine LeO.bind ?_ (fun _ => ?_)
theorem provostref26_Ask.mono : ∀ a0 a1 a2 a3 a4 k, LeO (provostref26_Ask.f k a0 a1 a2 a3 a4) (provostref26_Ask.f (k + 1) a0 a1 a2 a3 a4) := by
  intro a0 a1 a2 a3 a4 k
  have ih0 := provostref26_Ask.mono_l k
  unfold provostref26_Ask.f
  repeat' first
      | (with_reducible exact ih0 _ _ _ _ _ _ _)
      | (with_reducible exact provostref26_Index.mono _ _ _ _)
      | (with_reducible exact provostref26_Sick.mono _ _ _ _)
      | (with_reducible exact LeO.refl _)
      | (with_reducible exact LeO.none _)
      | (with_reducible refine LeO.ite ?_ ?_)
      | (with_reducible refine LeO.bind ?_ (fun _ => ?_))
      | exact ih0 _ _ _ _ _ _ _
      | exact provostref26_Index.mono _ _ _ _
      | exact provostref26_Sick.mono _ _ _ _
      | exact LeO.none _
      | refine LeO.ite ?_ ?_
      | refine LeO.bind ?_ (fun _ => ?_)
set_option maxHeartbeats 8000000 in
set_option maxRecDepth 100000 in
theorem provostref26_Ask.calls (k : Nat) (P0_ : Nat → Prop) (u9000_ : Value) (l0 : List (S207)) (a1 : Int) (a2 : Int) (a3 : Bool) (a4 : Int) (r1 : List (S207)) (r2 : Bool) (w0 w : World) (hB : Below w0.heap.size w0 w) (ho0 : Kd.R k207 207 w w0.heap.size P0_ u9000_ l0) (h : provostref26_Ask.f k l0 a1 a2 a3 a4 = some (r1, r2)) :
    Calls Try.prog 63 #[u9000_, .int .i64 a1, .int .i64 a2, .bool a3, .int .i64 a4] w fun e w' => ∃ v0_ : Value, e = .returned (.tuple #[v0_, .bool r2]) ∧ Kd.R k207 207 w' w0.heap.size (fun k_ => (P0_ k_ ∨ w.heap.size ≤ k_)) v0_ r1 ∧ Below w0.heap.size w0 w' ∧ Kept w w' (fun k_ => P0_ k_) := by
  have HO0 := Aside0.mk (show Kd.R k207 207 w w0.heap.size (fun k_ => (P0_ k_ ∨ w.heap.size ≤ k_)) u9000_ l0 from Kd.R_mono ho0 (fun k_ hk => (.inl hk)))
  have HK := Aside0.mk (Kept.refl w (fun k_ => P0_ k_))
  have HW0 := Aside0.mk hB.size
  have HB := Aside0.mk hB
  clear hB
  have H : ((provostref26_Index.f k l0 a1 a2).bind fun t195 => (if t195 < 0 then (provostref26_Ask.j0 k l0 a1 a2 a3 a4 t195 true) else (if 0 ≤ t195 then (if t195 < (l0.length : Int) then (provostref26_Ask.j0 k l0 a1 a2 a3 a4 t195 (decide (((rd_T207 l0 t195).f3) > a4))) else (none)) else (none)))) = some (r1, r2) := h
  clear h
  replace H := Option.bind_eq_some_iff.mp H
  obtain ⟨t195, A60, H⟩ := H
  replace H : (if t195 < 0 then (provostref26_Ask.j0 k l0 a1 a2 a3 a4 t195 true) else (if 0 ≤ t195 then (if t195 < (l0.length : Int) then (provostref26_Ask.j0 k l0 a1 a2 a3 a4 t195 (decide (((rd_T207 l0 t195).f3) > a4))) else (none)) else (none))) = some (r1, r2) := H
  have A6 := Aside0.mk A60
  clear A60
  have HC7 := Aside0.mk H
  clear H
  obtain ⟨Ao8, co8, eo8⟩ := Kd.R_slice HO0.out
  subst eo8
  go_enter Try.func63, Try.ntmps63
  go_upto_region 2 with (first | ((with_reducible refine gate_callee (f := 70) rfl ?_); refine goesL_ (some 16) rfl rfl Try.func70 (by kernel_rfl) rfl #[.slice Ao8 l0.length co8, .int .i64 a1, .int .i64 a2] rfl (by (try simp only [List.map_toArray, List.map_cons, List.map_nil]); first | done | rfl | (simp only [List.length_drop, List.length_take]; rfl)) ?_; (with_reducible refine (provostref26_Index.calls k _ _ l0 a1 a2 t195 _ ?side1 ?side2 A6.out).mono ?_); (case side1 => repeat (first | exact (Kd.R_reads' HO0.out).2.2 | (with_reducible refine Kd.C_alloc ?_ _) | (with_reducible refine Kd.C_drewN ?_ _) | (with_reducible refine Kd.C_drew ?_))); (case side2 => exact (Kd.R_reads' HO0.out).2.1); rintro e w' ⟨rfl, ⟨nd, rfl⟩⟩; refine ⟨_, rfl, ?_⟩))
  (try simp only [Act.put, List.setIfInBounds_toArray, List.set_cons_zero, List.set_cons_succ])
  go_cut [27] (fun v27 wc => ∃ (kq : Nat) (x27_6 : Bool), v27 = .bool x27_6 ∧ Aside0 (provostref26_Ask.j0 kq l0 a1 a2 a3 a4 t195 x27_6 = some (r1, r2)) ∧ Aside0 (kq ≤ k) ∧ Aside0 (Kd.R k207 207 wc w0.heap.size (fun k_ => (P0_ k_ ∨ w.heap.size ≤ k_)) (.slice Ao8 l0.length co8) l0) ∧ Aside0 (Kept w wc (fun k_ => P0_ k_)) ∧ Aside0 (Below w0.heap.size w0 wc))
  case first =>
    have H := HC7.out
    clear HC7
    by_cases c9 : t195 < 0
    · rw [if_pos c9] at H
      have c9b0 : decide (t195 < 0) = true := decide_eq_true c9
      clear c9
      (first | rw [c9b0] | (simp only [i64_w, i32_w]; rw [c9b0]) | skip)
      have H' := Aside0.mk H
      clear H
      go_wp2
      go_meet
      case rel => exact ⟨_, (true), (by first | rfl | (simp; done) | (simp [*]; done)), H', ⟨by first | omega | exact Nat.le_refl _⟩, ⟨by (with_reducible repeat (first | apply Kd.R_alloc | apply Kd.R_drewN | apply Kd.R_drew)); exact HO0.out⟩, ⟨by repeat (first | (with_reducible first | exact HK.out | apply Kept.alloc | apply Kept.drewN | apply Kept.drew) | exact HK.out)⟩, ⟨by repeat (first | (with_reducible first | exact HB.out | apply below_alloc | apply pw_below_drewN | apply below_drew1) | exact HB.out)⟩⟩
    · rw [if_neg c9] at H
      have c9b0 : decide (t195 < 0) = false := decide_eq_false c9
      clear c9
      (first | rw [c9b0] | (simp only [i64_w, i32_w]; rw [c9b0]) | skip)
      by_cases c10 : 0 ≤ t195
      · rw [if_pos c10] at H
        have c10b0 : decide (0 ≤ t195) = true := decide_eq_true c10
        clear c10
        by_cases c11 : t195 < (l0.length : Int)
        · rw [if_pos c11] at H
          have c11b0 : decide (t195 < (l0.length : Int)) = true := decide_eq_true c11
          clear c11
          have H' := Aside0.mk H
          clear H
          have p196 : 0 ≤ (t195 : Int) := of_decide_eq_true (by first | (with_reducible assumption) | assumption)
          have q196 : t195 < (l0.length : Int) := of_decide_eq_true (by first | (with_reducible assumption) | assumption)
          obtain ⟨ad196, e196, hx196_0, hx196_1, hx196_2, hx196_3, hx196_4, hx196_5⟩ := at_T207 (Kd.R_reads' HO0.out).2.2 t195 p196 q196
          cases e196
          replace p196 := eq_true p196
          replace q196 := eq_true q196
          go_wp2
          go_meet
          case rel => exact ⟨_, (decide (((rd_T207 l0 t195).f3) > a4)), (by first | rfl | (simp; done) | (simp [*]; done)), H', ⟨by first | omega | exact Nat.le_refl _⟩, ⟨by (with_reducible repeat (first | apply Kd.R_alloc | apply Kd.R_drewN | apply Kd.R_drew)); exact HO0.out⟩, ⟨by repeat (first | (with_reducible first | exact HK.out | apply Kept.alloc | apply Kept.drewN | apply Kept.drew) | exact HK.out)⟩, ⟨by repeat (first | (with_reducible first | exact HB.out | apply below_alloc | apply pw_below_drewN | apply below_drew1) | exact HB.out)⟩⟩
        · rw [if_neg c11] at H
          exact absurd H (by simp)
      · rw [if_neg c10] at H
        exact absurd H (by simp)
  case rest =>
    clear HC7
    try clear c1
    try clear p1
    try clear q1
    try clear hx1
    try clear p2
    try clear c6
    try clear c7
    try clear c9
    try clear c9b0
    try clear c10
    try clear c10b0
    try clear c11
    try clear c11b0
    try clear hx196_0
    try clear hx196_1
    try clear hx196_2
    try clear hx196_3
    try clear hx196_4
    try clear hx196_5
    try clear p196
    try clear q196
    obtain ⟨kq, x27_6, rfl, HA, HJ6, HO_0, HK, HB⟩ := hcut
    cases kq with
    | zero => exact absurd HA.out (by simp [provostref26_Ask.j0])
    | succ kj6 =>
      have H := HA.out
      clear HA
      simp only [provostref26_Ask.j0] at H
      by_cases c12 : x27_6 = true
      · subst c12
        have H1 : (some (l0, false)) = some (r1, r2) := by rw [if_pos rfl] at H; exact H
        clear H
        have H := H1
        clear H1
        simp only [Option.some.injEq, Prod.mk.injEq] at H
        obtain ⟨rfl, rfl⟩ := H
        go_wp2
        go_ret2
        exact ⟨_, by first | rfl | (simp [errW_none, errW_some] <;> rfl) | (simp [*, errW_none, errW_some] <;> rfl), by (with_reducible repeat (first | apply Kd.R_alloc | apply Kd.R_drewN | apply Kd.R_drew)); exact HO_0.out, by repeat (first | (with_reducible first | exact HB.out | apply below_alloc | apply pw_below_drewN | apply below_drew1) | exact HB.out), by repeat (first | (with_reducible first | exact HK.out | apply Kept.alloc | apply Kept.drewN | apply Kept.drew) | exact HK.out)⟩
      · replace c12 := Bool.eq_false_iff.mpr c12
        subst c12
        have H1 : ((some (([] : List (S207)) : List (S207))).bind fun y197 => (if y197.length + l0.length < 2932031007402 then ((some (y197 ++ l0 : List (S207))).bind fun y200 => (if a3 = true then (if 0 ≤ t195 then (if t195 < (y200.length : Int) then ((some (y200.set (t195 : Int).toNat (⟨(rd_T207 y200 t195).f0, (rd_T207 y200 t195).f1, (⟨(rd_T207 y200 t195).f2.f0, (rd_T207 y200 t195).f2.f1⟩ : S120), (rd_T207 y200 t195).f3, wrap64 (((rd_T207 y200 t195).f4) + 1)⟩ : S207) : List (S207))).bind fun y204 => ((some (y204.set (t195 : Int).toNat (⟨(rd_T207 y204 t195).f0, (rd_T207 y204 t195).f1, (⟨(rd_T207 y204 t195).f2.f0, (rd_T207 y204 t195).f2.f1⟩ : S120), wrap64 (a4 + ((rd_T207 y204 t195).f2.f0)), (rd_T207 y204 t195).f4⟩ : S207) : List (S207))).bind fun y206 => ((provostref26_Sick.f kj6 y206 a1 a2).bind fun t207 => (some (y206, t207))))) else (none)) else (none)) else (if 0 ≤ t195 then (if t195 < (y200.length : Int) then ((some (y200.set (t195 : Int).toNat (⟨(rd_T207 y200 t195).f0, (rd_T207 y200 t195).f1, (⟨(rd_T207 y200 t195).f2.f0, (rd_T207 y200 t195).f2.f1⟩ : S120), (rd_T207 y200 t195).f3, 0⟩ : S207) : List (S207))).bind fun y208 => ((some (y208.set (t195 : Int).toNat (⟨(rd_T207 y208 t195).f0, (rd_T207 y208 t195).f1, (⟨(rd_T207 y208 t195).f2.f0, (rd_T207 y208 t195).f2.f1⟩ : S120), wrap64 (a4 + ((rd_T207 y208 t195).f2.f0)), (rd_T207 y208 t195).f4⟩ : S207) : List (S207))).bind fun y210 => ((provostref26_Sick.f kj6 y210 a1 a2).bind fun t211 => (some (y210, t211))))) else (none)) else (none)))) else (none))) = some (r1, r2) := by rw [if_neg (show ¬ (false = true) by decide)] at H; exact H
        clear H
        have H := H1
        clear H1
        obtain ⟨y197, hy197⟩ : ∃ y_ : List (S207), y_ = (([] : List (S207))) := ⟨_, rfl⟩
        replace H : (if y197.length + l0.length < 2932031007402 then ((some (y197 ++ l0 : List (S207))).bind fun y200 => (if a3 = true then (if 0 ≤ t195 then (if t195 < (y200.length : Int) then ((some (y200.set (t195 : Int).toNat (⟨(rd_T207 y200 t195).f0, (rd_T207 y200 t195).f1, (⟨(rd_T207 y200 t195).f2.f0, (rd_T207 y200 t195).f2.f1⟩ : S120), (rd_T207 y200 t195).f3, wrap64 (((rd_T207 y200 t195).f4) + 1)⟩ : S207) : List (S207))).bind fun y204 => ((some (y204.set (t195 : Int).toNat (⟨(rd_T207 y204 t195).f0, (rd_T207 y204 t195).f1, (⟨(rd_T207 y204 t195).f2.f0, (rd_T207 y204 t195).f2.f1⟩ : S120), wrap64 (a4 + ((rd_T207 y204 t195).f2.f0)), (rd_T207 y204 t195).f4⟩ : S207) : List (S207))).bind fun y206 => ((provostref26_Sick.f kj6 y206 a1 a2).bind fun t207 => (some (y206, t207))))) else (none)) else (none)) else (if 0 ≤ t195 then (if t195 < (y200.length : Int) then ((some (y200.set (t195 : Int).toNat (⟨(rd_T207 y200 t195).f0, (rd_T207 y200 t195).f1, (⟨(rd_T207 y200 t195).f2.f0, (rd_T207 y200 t195).f2.f1⟩ : S120), (rd_T207 y200 t195).f3, 0⟩ : S207) : List (S207))).bind fun y208 => ((some (y208.set (t195 : Int).toNat (⟨(rd_T207 y208 t195).f0, (rd_T207 y208 t195).f1, (⟨(rd_T207 y208 t195).f2.f0, (rd_T207 y208 t195).f2.f1⟩ : S120), wrap64 (a4 + ((rd_T207 y208 t195).f2.f0)), (rd_T207 y208 t195).f4⟩ : S207) : List (S207))).bind fun y210 => ((provostref26_Sick.f kj6 y210 a1 a2).bind fun t211 => (some (y210, t211))))) else (none)) else (none)))) else (none)) = some (r1, r2) := by first | (rw [hy197]; with_reducible exact H) | (have H2_ := (Option.bind_some _ _).symm.trans H; rw [hy197]; with_reducible exact H2_) | (have H2_ := (Option.bind_some _ _).symm.trans H; with_reducible exact H2_) | with_reducible exact H | (rw [hy197]; exact H) | exact H
        have Ny197 := Aside0.mk hy197
        clear hy197
        by_cases c13 : y197.length + l0.length < 2932031007402
        · rw [if_pos c13] at H
          have LMc13 := Aside0.mk c13
          clear c13
          obtain ⟨y200, hy200⟩ : ∃ y_ : List (S207), y_ = (y197 ++ l0) := ⟨_, rfl⟩
          replace H : (if a3 = true then (if 0 ≤ t195 then (if t195 < (y200.length : Int) then ((some (y200.set (t195 : Int).toNat (⟨(rd_T207 y200 t195).f0, (rd_T207 y200 t195).f1, (⟨(rd_T207 y200 t195).f2.f0, (rd_T207 y200 t195).f2.f1⟩ : S120), (rd_T207 y200 t195).f3, wrap64 (((rd_T207 y200 t195).f4) + 1)⟩ : S207) : List (S207))).bind fun y204 => ((some (y204.set (t195 : Int).toNat (⟨(rd_T207 y204 t195).f0, (rd_T207 y204 t195).f1, (⟨(rd_T207 y204 t195).f2.f0, (rd_T207 y204 t195).f2.f1⟩ : S120), wrap64 (a4 + ((rd_T207 y204 t195).f2.f0)), (rd_T207 y204 t195).f4⟩ : S207) : List (S207))).bind fun y206 => ((provostref26_Sick.f kj6 y206 a1 a2).bind fun t207 => (some (y206, t207))))) else (none)) else (none)) else (if 0 ≤ t195 then (if t195 < (y200.length : Int) then ((some (y200.set (t195 : Int).toNat (⟨(rd_T207 y200 t195).f0, (rd_T207 y200 t195).f1, (⟨(rd_T207 y200 t195).f2.f0, (rd_T207 y200 t195).f2.f1⟩ : S120), (rd_T207 y200 t195).f3, 0⟩ : S207) : List (S207))).bind fun y208 => ((some (y208.set (t195 : Int).toNat (⟨(rd_T207 y208 t195).f0, (rd_T207 y208 t195).f1, (⟨(rd_T207 y208 t195).f2.f0, (rd_T207 y208 t195).f2.f1⟩ : S120), wrap64 (a4 + ((rd_T207 y208 t195).f2.f0)), (rd_T207 y208 t195).f4⟩ : S207) : List (S207))).bind fun y210 => ((provostref26_Sick.f kj6 y210 a1 a2).bind fun t211 => (some (y210, t211))))) else (none)) else (none))) = some (r1, r2) := by first | (rw [hy200]; with_reducible exact H) | (have H2_ := (Option.bind_some _ _).symm.trans H; rw [hy200]; with_reducible exact H2_) | (have H2_ := (Option.bind_some _ _).symm.trans H; with_reducible exact H2_) | with_reducible exact H | (rw [hy200]; exact H) | exact H
          have Ny200 := Aside0.mk hy200
          clear hy200
          by_cases c14 : a3 = true
          · subst c14
            have H1 : (if 0 ≤ t195 then (if t195 < (y200.length : Int) then ((some (y200.set (t195 : Int).toNat (⟨(rd_T207 y200 t195).f0, (rd_T207 y200 t195).f1, (⟨(rd_T207 y200 t195).f2.f0, (rd_T207 y200 t195).f2.f1⟩ : S120), (rd_T207 y200 t195).f3, wrap64 (((rd_T207 y200 t195).f4) + 1)⟩ : S207) : List (S207))).bind fun y204 => ((some (y204.set (t195 : Int).toNat (⟨(rd_T207 y204 t195).f0, (rd_T207 y204 t195).f1, (⟨(rd_T207 y204 t195).f2.f0, (rd_T207 y204 t195).f2.f1⟩ : S120), wrap64 (a4 + ((rd_T207 y204 t195).f2.f0)), (rd_T207 y204 t195).f4⟩ : S207) : List (S207))).bind fun y206 => ((provostref26_Sick.f kj6 y206 a1 a2).bind fun t207 => (some (y206, t207))))) else (none)) else (none)) = some (r1, r2) := by rw [if_pos rfl] at H; exact H
            clear H
            have H := H1
            clear H1
            by_cases c15 : 0 ≤ t195
            · rw [if_pos c15] at H
              have c15b0 : decide (0 ≤ t195) = true := decide_eq_true c15
              clear c15
              by_cases c16 : t195 < (y200.length : Int)
              · rw [if_pos c16] at H
                have c16b0 : decide (t195 < (y200.length : Int)) = true := decide_eq_true c16
                clear c16
                obtain ⟨y204, hy204⟩ : ∃ y_ : List (S207), y_ = (y200.set (t195 : Int).toNat (⟨(rd_T207 y200 t195).f0, (rd_T207 y200 t195).f1, (⟨(rd_T207 y200 t195).f2.f0, (rd_T207 y200 t195).f2.f1⟩ : S120), (rd_T207 y200 t195).f3, wrap64 (((rd_T207 y200 t195).f4) + 1)⟩ : S207)) := ⟨_, rfl⟩
                replace H : ((some (y204.set (t195 : Int).toNat (⟨(rd_T207 y204 t195).f0, (rd_T207 y204 t195).f1, (⟨(rd_T207 y204 t195).f2.f0, (rd_T207 y204 t195).f2.f1⟩ : S120), wrap64 (a4 + ((rd_T207 y204 t195).f2.f0)), (rd_T207 y204 t195).f4⟩ : S207) : List (S207))).bind fun y206 => ((provostref26_Sick.f kj6 y206 a1 a2).bind fun t207 => (some (y206, t207)))) = some (r1, r2) := by first | (rw [hy204]; with_reducible exact H) | (have H2_ := (Option.bind_some _ _).symm.trans H; rw [hy204]; with_reducible exact H2_) | (have H2_ := (Option.bind_some _ _).symm.trans H; with_reducible exact H2_) | with_reducible exact H | (rw [hy204]; exact H) | exact H
                have Ny204 := Aside0.mk hy204
                clear hy204
                obtain ⟨y206, hy206⟩ : ∃ y_ : List (S207), y_ = (y204.set (t195 : Int).toNat (⟨(rd_T207 y204 t195).f0, (rd_T207 y204 t195).f1, (⟨(rd_T207 y204 t195).f2.f0, (rd_T207 y204 t195).f2.f1⟩ : S120), wrap64 (a4 + ((rd_T207 y204 t195).f2.f0)), (rd_T207 y204 t195).f4⟩ : S207)) := ⟨_, rfl⟩
                replace H : ((provostref26_Sick.f kj6 y206 a1 a2).bind fun t207 => (some (y206, t207))) = some (r1, r2) := by first | (rw [hy206]; with_reducible exact H) | (have H2_ := (Option.bind_some _ _).symm.trans H; rw [hy206]; with_reducible exact H2_) | (have H2_ := (Option.bind_some _ _).symm.trans H; with_reducible exact H2_) | with_reducible exact H | (rw [hy206]; exact H) | exact H
                have Ny206 := Aside0.mk hy206
                clear hy206
                replace H := Option.bind_eq_some_iff.mp H
                obtain ⟨t207, A190, H⟩ := H
                replace H : (some (y206, t207)) = some (r1, r2) := H
                have A19 := Aside0.mk A190
                clear A190
                simp only [Option.some.injEq, Prod.mk.injEq] at H
                obtain ⟨rfl, rfl⟩ := H
                go_wp2_with (first | ((with_reducible refine gate_dst (N := 29) rfl ?_); refine Kd.R_lit k207 _ 207 ?hg (N := 29) ?hd (xs := ([] : List (S207))) (inner := []) (ok := fun _ => True) (okp := fun _ => True) ?hr ?hp (fun _ hk => hk) trivial (Below.refl _ _) (Nat.le_refl _) (by simp) ?_; (case hd => rfl); (case hg => rfl); (case hr => first | (go_simp; done) | (go_simp; rfl)); (case hp => exact (Reps.none _ _)); intro v198 w20 ho21 hb hg_ hnew_; clear hg_ hnew_; (first | rw [← Ny197.out] at ho21 | (simp only [Int.reduceToNat] at ho21; rw [← Ny197.out] at ho21)); have n0_ := Aside0.mk (Kd.R_elder' (by (with_reducible repeat (first | apply Kd.R_alloc | apply Kd.R_drewN | apply Kd.R_drew)); exact HO_0.out) (Kd.R_base ho21) hb); have n1_ := Aside0.mk (Kd.R_lower (Kd.R_new' (Kd.R_newM (M := fun k_ => (P0_ k_ ∨ w.heap.size ≤ k_)) ho21 (by first | exact HK.out.1 | exact (show Kept w _ (fun k_ => P0_ k_) from by repeat (first | (with_reducible first | exact HK.out | apply Kept.alloc | apply Kept.drewN | apply Kept.drew) | exact HK.out)).1) (fun k_ h_ => .inr h_)) (Kd.R_lt (by (with_reducible repeat (first | apply Kd.R_alloc | apply Kd.R_drewN | apply Kd.R_drew)); exact HO_0.out))) (below_size (by repeat (first | (with_reducible first | exact HB.out | apply below_alloc | apply pw_below_drewN | apply below_drew1) | exact HB.out)))); have n2_ := Aside0.mk (Kept.below (S := (fun k_ => P0_ k_)) (by repeat (first | (with_reducible first | exact HK.out | apply Kept.alloc | apply Kept.drewN | apply Kept.drew) | exact HK.out)) hb); have n3_ := Aside0.mk (below_step (by repeat (first | (with_reducible first | exact HB.out | apply below_alloc | apply pw_below_drewN | apply below_drew1) | exact HB.out)) hb); clear HO_0; clear HK; clear HB; have HO_0 := n0_; have HO199 := n1_; have HK := n2_; have HB := n3_; clear n0_ n1_ n2_ n3_; clear hb ho21) | ((with_reducible refine gate_builtin (b := .append) (xs := #[.tmp 29, .tmp 30]) rfl ?_); at_builtin; refine Kd.R_append_rows k207 (w0 := w0) w0.heap.size rfl (.tmp 29) (.tmp 30) 118 207 (.agg #[(.int .i64 0), (.int .i64 0), (.int .i64 0), (.int .i64 0), (.int .i64 0), (.int .i64 0)]) 48 rfl Try.underlying118 info207 rfl (by decide) (by omega) v198 y197 l0 _ _ _ (fun k_ => (P0_ k_ ∨ w.heap.size ≤ k_) ∧ some k_ ≠ (.slice Ao8 l0.length co8 : Value).ownBlock) (fun _ => False) rfl rfl ?aO ?aR (fun _ _ h => h) (fun _ h => h.elim) ?aF ?aB ?aS ?aL ?_; (case aR => repeat (first | exact (Kd.R_reads' HO_0.out).2.2 | (with_reducible refine Kd.C_alloc ?_ _) | (with_reducible refine Kd.C_drewN ?_ _) | (with_reducible refine Kd.C_drew ?_))); (case aB => exact (by repeat (first | (with_reducible first | exact HB.out | apply below_alloc | apply pw_below_drewN | apply below_drew1) | exact HB.out))); (case aF => exact (fun k_ hk => ⟨(.inr (Nat.le_trans (by first | exact HK.out.1 | exact (show Kept w _ (fun k_ => P0_ k_) from by repeat (first | (with_reducible first | exact HK.out | apply Kept.alloc | apply Kept.drewN | apply Kept.drew) | exact HK.out)).1) hk)), Kd.fresh' (Kd.R_lt (by (with_reducible repeat (first | apply Kd.R_alloc | apply Kd.R_drewN | apply Kd.R_drew)); exact HO_0.out)) k_ hk⟩)); (case aO => exact (by (with_reducible repeat (first | apply Kd.R_alloc | apply Kd.R_drewN | apply Kd.R_drew)); exact Kd.R_mono HO199.out (fun _ hk => ⟨hk.1.1, hk.2⟩))); (case aS => exact (below_size (by repeat (first | (with_reducible first | exact HB.out | apply below_alloc | apply pw_below_drewN | apply below_drew1) | exact HB.out)))); (case aL => have := LMc13.out; omega); intro v201 w22 ho hb hg hat; rw [← Ny200.out] at ho; have n0_ := Aside0.mk (Kd.R_after (ok := (fun k_ => (P0_ k_ ∨ w.heap.size ≤ k_))) (by (with_reducible repeat (first | apply Kd.R_alloc | apply Kd.R_drewN | apply Kd.R_drew)); exact HO_0.out) hg hat); have n1_ := Aside0.mk (hb); have n2_ := Aside0.mk (Kept.of_grown (S := (fun k_ => P0_ k_)) hg (by repeat (first | (with_reducible first | exact HK.out | apply Kept.alloc | apply Kept.drewN | apply Kept.drew) | exact HK.out)) (fun k_ e_ => (HO199.out.1 k_ e_).1.1)); have n3_ := Aside0.mk (ho); clear HO_0; clear HB; clear HK; clear HO199; have HO_0 := n0_; have HB := n1_; have HK := n2_; have HO202 := n3_; clear n0_ n1_ n2_ n3_; clear ho hb hg hat; obtain ⟨Ao23, co23, eo23⟩ := Kd.R_slice HO202.out; subst eo23; have p203 : 0 ≤ (t195 : Int) := of_decide_eq_true (by first | (with_reducible assumption) | assumption); have q203 : t195 < (y200.length : Int) := of_decide_eq_true (by first | (with_reducible assumption) | assumption); obtain ⟨ad203, e203, hx203_0, hx203_1, hx203_2, hx203_3, hx203_4, hx203_5⟩ := at_T207 (Kd.R_reads' HO202.out).2.2 t195 p203 q203; cases e203; replace p203 := eq_true p203; replace q203 := eq_true q203; have p17 : 0 ≤ (t195 : Int) := of_decide_eq_true (by first | (with_reducible assumption) | assumption); have q17 : (t195 : Int) < ((y200.length : Int) : Int) := of_decide_eq_true (by first | (with_reducible assumption) | assumption); obtain ⟨go17, co17, eo17, gb17, gl17, cl17, HG17⟩ := Kd.R_form HO202.out (by omega); (first | cases eo17 | (injection eo17 with ea_ en_ ec_; (first | subst ea_ | (injection ea_ with ea_; subst ea_)); subst ec_; clear en_)); have GB17 := Aside0.mk gb17; have GG17 := Aside0.mk HG17; clear gb17 gl17 HG17; have HMgo17 := Aside0.mk (show (P0_ go17 ∨ w.heap.size ≤ go17) from (HO202.out.1 _ rfl).1); (first | simp only [add_plain] at hx203_0 | skip); (first | simp only [add_plain] at hx203_1 | skip); (first | simp only [add_plain] at hx203_2 | skip); (first | simp only [add_plain] at hx203_3 | skip); (first | simp only [add_plain] at hx203_4 | skip); (first | simp only [add_plain] at hx203_5 | skip); obtain ⟨ce17, hcl17, hM17, hcc17, hfr17⟩ := Kd.R_elem HO202.out z207 (t195 : Int) p17 q17; obtain rfl := k207_openM hM17; have hx17_0 : w22.cell? ⟨go17, (t195 : Int).toNat * 6, none⟩ = some (.int .i64 ((rd_T207 y200 t195).f0)) := hcc17 0 _ rfl; have hx17_1 : w22.cell? ⟨go17, (t195 : Int).toNat * 6 + 1, none⟩ = some (.int .i64 ((rd_T207 y200 t195).f1)) := hcc17 1 _ rfl; have hx17_2 : w22.cell? ⟨go17, (t195 : Int).toNat * 6 + 2, none⟩ = some (.int .i64 ((rd_T207 y200 t195).f2.f0)) := hcc17 2 _ rfl; have hx17_3 : w22.cell? ⟨go17, (t195 : Int).toNat * 6 + 3, none⟩ = some (.int .i64 ((rd_T207 y200 t195).f2.f1)) := hcc17 3 _ rfl; have hx17_4 : w22.cell? ⟨go17, (t195 : Int).toNat * 6 + 4, none⟩ = some (.int .i64 ((rd_T207 y200 t195).f3)) := hcc17 4 _ rfl; have hx17_5 : w22.cell? ⟨go17, (t195 : Int).toNat * 6 + 5, none⟩ = some (.int .i64 ((rd_T207 y200 t195).f4)) := hcc17 5 _ rfl; have hf17_0 : w22.frozen? ⟨go17, (t195 : Int).toNat * 6, none⟩ = false := hfr17 0; have hf17_1 : w22.frozen? ⟨go17, (t195 : Int).toNat * 6 + 1, none⟩ = false := hfr17 1; have hf17_2 : w22.frozen? ⟨go17, (t195 : Int).toNat * 6 + 2, none⟩ = false := hfr17 2; have hf17_3 : w22.frozen? ⟨go17, (t195 : Int).toNat * 6 + 3, none⟩ = false := hfr17 3; have hf17_4 : w22.frozen? ⟨go17, (t195 : Int).toNat * 6 + 4, none⟩ = false := hfr17 4; have hf17_5 : w22.frozen? ⟨go17, (t195 : Int).toNat * 6 + 5, none⟩ = false := hfr17 5; clear hcl17 hcc17 hfr17 hM17; replace p17 := eq_true p17; replace q17 := eq_true q17; have HX24 := Aside0.mk (show Kd.R k207 207 w22 w0.heap.size (fun k_ => (P0_ k_ ∨ w.heap.size ≤ k_) ∧ some k_ ≠ (.slice Ao8 l0.length co8 : Value).ownBlock) (.slice (some ⟨go17, 0, none⟩) y200.length co23) y200 from (by (with_reducible repeat (first | apply Kd.R_alloc | apply Kd.R_drewN | apply Kd.R_drew)); exact HO202.out)); obtain ⟨ce24, hcl24, hM24, hcc24, hfr24⟩ := Kd.R_elem HX24.out z207 (t195 : Int) (of_decide_eq_true (by first | (with_reducible assumption) | assumption)) (by have h_ : (t195 : Int) < ((y200.length : Int) : Int) := of_decide_eq_true (by first | (with_reducible assumption) | assumption); first | exact h_ | (have e_ := (Kd.R_reads' HO202.out).1; omega) | simpa using h_); obtain rfl := k207_openM hM24; have HP24 := Kd.R_seg HX24.out (t195 : Int) (of_decide_eq_true (by first | (with_reducible assumption) | assumption)) (by have h_ : (t195 : Int) < ((y200.length : Int) : Int) := of_decide_eq_true (by first | (with_reducible assumption) | assumption); first | exact h_ | (have e_ := (Kd.R_reads' HO202.out).1; omega) | simpa using h_) (seg := [.int .i64 (wrap64 (((rd_T207 y200 t195).f4) + 1))]) (j := 5) hcl24 hcc24 (show 6 ≤ 6 from by decide) (x' := (⟨(rd_T207 y200 t195).f0, (rd_T207 y200 t195).f1, (⟨(rd_T207 y200 t195).f2.f0, (rd_T207 y200 t195).f2.f1⟩ : S120), (rd_T207 y200 t195).f3, wrap64 (((rd_T207 y200 t195).f4) + 1)⟩ : S207)) (k207_mkM _ _ _ (⟨(rd_T207 y200 t195).f0, (rd_T207 y200 t195).f1, (⟨(rd_T207 y200 t195).f2.f0, (rd_T207 y200 t195).f2.f1⟩ : S120), (rd_T207 y200 t195).f3, wrap64 (((rd_T207 y200 t195).f4) + 1)⟩ : S207) ) (fun _ hk => hk); have hx24_5 := hcc24 5 _ rfl; (try simp only [show (k207).sz = 6 from rfl, Nat.mul_one, Nat.add_zero] at hx24_5); have hf24_5 := hfr24 5; (try simp only [show (k207).sz = 6 from rfl, Nat.mul_one, Nat.add_zero] at hf24_5); clear hcl24 hcc24 hfr24 hM24) | ((with_reducible refine gate_store (t := 3) (p := 42) rfl ?_); refine store_event (t := 3) (p := 42) (v := ?vo_w25) (w1 := (w22.setCell ⟨go17, (t195 : Int).toNat * 6 + 5, none⟩ (.int .i64 (wrap64 (((rd_T207 y200 t195).f4) + 1))))) ?hg ?ho ?hn ?hr ?_; (case ho => rfl); (case hg => rfl); (case hn => rfl); (case hr => first | (go_simp; done) | (go_simp; rfl)); intro w25 hw; have hg : w22.grownBy w25 (some go17) := (by rw [hw]; exact HP24.2); have hp_ : Kd.R k207 207 w25 w0.heap.size (fun k_ => (P0_ k_ ∨ w.heap.size ≤ k_) ∧ some k_ ≠ (.slice Ao8 l0.length co8 : Value).ownBlock) (.slice (some ⟨go17, 0, none⟩) y200.length co23) y204 := (by rw [hw, Ny204.out]; exact HP24.1); clear HP24; have n0_ := Aside0.mk (Kd.R_after (v := (.slice (some ⟨go17, 0, none⟩) y200.length co23)) (v1 := (.slice (some ⟨go17, 0, none⟩) y200.length co23)) (ok := (fun k_ => (P0_ k_ ∨ w.heap.size ≤ k_))) (by (with_reducible repeat (first | apply Kd.R_alloc | apply Kd.R_drewN | apply Kd.R_drew)); exact HO_0.out) hg (.inl rfl)); have n1_ := Aside0.mk (hp_); have n2_ := Aside0.mk ((by rw [hw]; exact below_set (HB.out) GB17.out : Below w0.heap.size w0 w25)); have n3_ := Aside0.mk (Kept.of_grown (S := (fun k_ => P0_ k_)) hg (by repeat (first | (with_reducible first | exact HK.out | apply Kept.alloc | apply Kept.drewN | apply Kept.drew) | exact HK.out)) (fun k_ e_ => (HO202.out.1 k_ e_).1)); clear HO_0; clear HO202; clear HB; clear HK; have HO_0 := n0_; have HO202 := n1_; have HB := n2_; have HK := n3_; clear n0_ n1_ n2_ n3_; clear hg hw hp_; have p205 : 0 ≤ (t195 : Int) := of_decide_eq_true (by first | (with_reducible assumption) | assumption); have q205 : t195 < (y204.length : Int) := (by have h_ : (t195 : Int) < ((y200.length : Int) : Int) := of_decide_eq_true (by first | (with_reducible assumption) | assumption); first | (have e_ := (Kd.R_reads' HO202.out).1; omega) | simpa only [Ny204.out, List.length_set] using h_); have ql205 : ((t195 : Int) < ((y200.length : Int) : Int)) = True := eq_true (of_decide_eq_true (by first | (with_reducible assumption) | assumption)); obtain ⟨ad205, e205, hx205_0, hx205_1, hx205_2, hx205_3, hx205_4, hx205_5⟩ := at_T207 (Kd.R_reads' HO202.out).2.2 t195 p205 q205; obtain rfl : (⟨go17, 0, none⟩ : Addr) = ad205 := (by injection e205); (first | simp only [add_plain] at hx205_0 | simp only [add_at] at hx205_0 | simp only [Addr.add, Nat.zero_add] at hx205_0 | skip); (first | simp only [add_plain] at hx205_1 | simp only [add_at] at hx205_1 | simp only [Addr.add, Nat.zero_add] at hx205_1 | skip); (first | simp only [add_plain] at hx205_2 | simp only [add_at] at hx205_2 | simp only [Addr.add, Nat.zero_add] at hx205_2 | skip); (first | simp only [add_plain] at hx205_3 | simp only [add_at] at hx205_3 | simp only [Addr.add, Nat.zero_add] at hx205_3 | skip); (first | simp only [add_plain] at hx205_4 | simp only [add_at] at hx205_4 | simp only [Addr.add, Nat.zero_add] at hx205_4 | skip); (first | simp only [add_plain] at hx205_5 | simp only [add_at] at hx205_5 | simp only [Addr.add, Nat.zero_add] at hx205_5 | skip); replace p205 := eq_true p205; replace q205 := eq_true q205; have p18 : 0 ≤ (t195 : Int) := of_decide_eq_true (by first | (with_reducible assumption) | assumption); have q18 : (t195 : Int) < ((y200.length : Int) : Int) := of_decide_eq_true (by first | (with_reducible assumption) | assumption); obtain ⟨ce18, hcl18, hM18, hcc18, hfr18⟩ := Kd.R_elem HO202.out z207 (t195 : Int) p18 q18; obtain rfl := k207_openM hM18; have hx18_0 : w25.cell? ⟨go17, (t195 : Int).toNat * 6, none⟩ = some (.int .i64 ((rd_T207 y204 t195).f0)) := hcc18 0 _ rfl; have hx18_1 : w25.cell? ⟨go17, (t195 : Int).toNat * 6 + 1, none⟩ = some (.int .i64 ((rd_T207 y204 t195).f1)) := hcc18 1 _ rfl; have hx18_2 : w25.cell? ⟨go17, (t195 : Int).toNat * 6 + 2, none⟩ = some (.int .i64 ((rd_T207 y204 t195).f2.f0)) := hcc18 2 _ rfl; have hx18_3 : w25.cell? ⟨go17, (t195 : Int).toNat * 6 + 3, none⟩ = some (.int .i64 ((rd_T207 y204 t195).f2.f1)) := hcc18 3 _ rfl; have hx18_4 : w25.cell? ⟨go17, (t195 : Int).toNat * 6 + 4, none⟩ = some (.int .i64 ((rd_T207 y204 t195).f3)) := hcc18 4 _ rfl; have hx18_5 : w25.cell? ⟨go17, (t195 : Int).toNat * 6 + 5, none⟩ = some (.int .i64 ((rd_T207 y204 t195).f4)) := hcc18 5 _ rfl; have hf18_0 : w25.frozen? ⟨go17, (t195 : Int).toNat * 6, none⟩ = false := hfr18 0; have hf18_1 : w25.frozen? ⟨go17, (t195 : Int).toNat * 6 + 1, none⟩ = false := hfr18 1; have hf18_2 : w25.frozen? ⟨go17, (t195 : Int).toNat * 6 + 2, none⟩ = false := hfr18 2; have hf18_3 : w25.frozen? ⟨go17, (t195 : Int).toNat * 6 + 3, none⟩ = false := hfr18 3; have hf18_4 : w25.frozen? ⟨go17, (t195 : Int).toNat * 6 + 4, none⟩ = false := hfr18 4; have hf18_5 : w25.frozen? ⟨go17, (t195 : Int).toNat * 6 + 5, none⟩ = false := hfr18 5; clear hcl18 hcc18 hfr18 hM18; replace p18 := eq_true p18; replace q18 := eq_true q18; have HX26 := Aside0.mk (show Kd.R k207 207 w25 w0.heap.size (fun k_ => (P0_ k_ ∨ w.heap.size ≤ k_) ∧ some k_ ≠ (.slice Ao8 l0.length co8 : Value).ownBlock) (.slice (some ⟨go17, 0, none⟩) y200.length co23) y204 from (by (with_reducible repeat (first | apply Kd.R_alloc | apply Kd.R_drewN | apply Kd.R_drew)); exact HO202.out)); obtain ⟨ce26, hcl26, hM26, hcc26, hfr26⟩ := Kd.R_elem HX26.out z207 (t195 : Int) (of_decide_eq_true (by first | (with_reducible assumption) | assumption)) (by have h_ : (t195 : Int) < ((y200.length : Int) : Int) := of_decide_eq_true (by first | (with_reducible assumption) | assumption); first | exact h_ | (have e_ := (Kd.R_reads' HO202.out).1; omega) | simpa using h_); obtain rfl := k207_openM hM26; have HP26 := Kd.R_seg HX26.out (t195 : Int) (of_decide_eq_true (by first | (with_reducible assumption) | assumption)) (by have h_ : (t195 : Int) < ((y200.length : Int) : Int) := of_decide_eq_true (by first | (with_reducible assumption) | assumption); first | exact h_ | (have e_ := (Kd.R_reads' HO202.out).1; omega) | simpa using h_) (seg := [.int .i64 (wrap64 (a4 + ((rd_T207 y204 t195).f2.f0)))]) (j := 4) hcl26 hcc26 (show 5 ≤ 6 from by decide) (x' := (⟨(rd_T207 y204 t195).f0, (rd_T207 y204 t195).f1, (⟨(rd_T207 y204 t195).f2.f0, (rd_T207 y204 t195).f2.f1⟩ : S120), wrap64 (a4 + ((rd_T207 y204 t195).f2.f0)), (rd_T207 y204 t195).f4⟩ : S207)) (k207_mkM _ _ _ (⟨(rd_T207 y204 t195).f0, (rd_T207 y204 t195).f1, (⟨(rd_T207 y204 t195).f2.f0, (rd_T207 y204 t195).f2.f1⟩ : S120), wrap64 (a4 + ((rd_T207 y204 t195).f2.f0)), (rd_T207 y204 t195).f4⟩ : S207) ) (fun _ hk => hk); have hx26_4 := hcc26 4 _ rfl; (try simp only [show (k207).sz = 6 from rfl, Nat.mul_one, Nat.add_zero] at hx26_4); have hf26_4 := hfr26 4; (try simp only [show (k207).sz = 6 from rfl, Nat.mul_one, Nat.add_zero] at hf26_4); clear hcl26 hcc26 hfr26 hM26) | ((with_reducible refine gate_store (t := 3) (p := 58) rfl ?_); refine store_event (t := 3) (p := 58) (v := ?vo_w27) (w1 := (w25.setCell ⟨go17, (t195 : Int).toNat * 6 + 4, none⟩ (.int .i64 (wrap64 (a4 + ((rd_T207 y204 t195).f2.f0)))))) ?hg ?ho ?hn ?hr ?_; (case ho => rfl); (case hg => rfl); (case hn => rfl); (case hr => first | (go_simp; done) | (go_simp; rfl)); intro w27 hw; have hg : w25.grownBy w27 (some go17) := (by rw [hw]; exact HP26.2); have hp_ : Kd.R k207 207 w27 w0.heap.size (fun k_ => (P0_ k_ ∨ w.heap.size ≤ k_) ∧ some k_ ≠ (.slice Ao8 l0.length co8 : Value).ownBlock) (.slice (some ⟨go17, 0, none⟩) y200.length co23) y206 := (by rw [hw, Ny206.out]; exact HP26.1); clear HP26; have n0_ := Aside0.mk (Kd.R_after (v := (.slice (some ⟨go17, 0, none⟩) y200.length co23)) (v1 := (.slice (some ⟨go17, 0, none⟩) y200.length co23)) (ok := (fun k_ => (P0_ k_ ∨ w.heap.size ≤ k_))) (by (with_reducible repeat (first | apply Kd.R_alloc | apply Kd.R_drewN | apply Kd.R_drew)); exact HO_0.out) hg (.inl rfl)); have n1_ := Aside0.mk (hp_); have n2_ := Aside0.mk ((by rw [hw]; exact below_set (HB.out) GB17.out : Below w0.heap.size w0 w27)); have n3_ := Aside0.mk (Kept.of_grown (S := (fun k_ => P0_ k_)) hg (by repeat (first | (with_reducible first | exact HK.out | apply Kept.alloc | apply Kept.drewN | apply Kept.drew) | exact HK.out)) (fun k_ e_ => (HO202.out.1 k_ e_).1)); clear HO_0; clear HO202; clear HB; clear HK; have HO_0 := n0_; have HO202 := n1_; have HB := n2_; have HK := n3_; clear n0_ n1_ n2_ n3_; clear hg hw hp_) | ((with_reducible refine gate_callee (f := 72) rfl ?_); refine goesL_ (some 63) rfl rfl Try.func72 (by kernel_rfl) rfl #[.slice (some ⟨go17, 0, none⟩) y206.length co23, .int .i64 a1, .int .i64 a2] rfl (by (try simp only [List.map_toArray, List.map_cons, List.map_nil]); first | done | (rw [show y206.length = y200.length from (Kd.R_reads' HO202.out).1.symm] <;> rfl) | rfl | (simp only [List.length_drop, List.length_take]; rfl)) ?_; (with_reducible refine (provostref26_Sick.calls kj6 _ _ y206 a1 a2 t207 _ ?side1 ?side2 A19.out).mono ?_); (case side1 => repeat (first | exact (Kd.R_reads' HO202.out).2.2 | (with_reducible refine Kd.C_alloc ?_ _) | (with_reducible refine Kd.C_drewN ?_ _) | (with_reducible refine Kd.C_drew ?_))); (case side2 => rw [show y206.length = y200.length from (Kd.R_reads' HO202.out).1.symm]; exact (Kd.R_reads' HO202.out).2.1); rintro e w' ⟨rfl, ⟨nd, rfl⟩⟩; refine ⟨_, rfl, ?_⟩))
                go_ret2
                exact ⟨_, by first | rfl | (simp [errW_none, errW_some] <;> rfl) | (simp [*, errW_none, errW_some] <;> rfl), by (with_reducible repeat (first | apply Kd.R_alloc | apply Kd.R_drewN | apply Kd.R_drew)); exact Kd.R_mono HO202.out (fun _ hk => hk.1), by repeat (first | (with_reducible first | exact HB.out | apply below_alloc | apply pw_below_drewN | apply below_drew1) | exact HB.out), by repeat (first | (with_reducible first | exact HK.out | apply Kept.alloc | apply Kept.drewN | apply Kept.drew) | exact HK.out)⟩
              · rw [if_neg c16] at H
                exact absurd H (by simp)
            · rw [if_neg c15] at H
              exact absurd H (by simp)
          · replace c14 := Bool.eq_false_iff.mpr c14
            subst c14
            have H1 : (if 0 ≤ t195 then (if t195 < (y200.length : Int) then ((some (y200.set (t195 : Int).toNat (⟨(rd_T207 y200 t195).f0, (rd_T207 y200 t195).f1, (⟨(rd_T207 y200 t195).f2.f0, (rd_T207 y200 t195).f2.f1⟩ : S120), (rd_T207 y200 t195).f3, 0⟩ : S207) : List (S207))).bind fun y208 => ((some (y208.set (t195 : Int).toNat (⟨(rd_T207 y208 t195).f0, (rd_T207 y208 t195).f1, (⟨(rd_T207 y208 t195).f2.f0, (rd_T207 y208 t195).f2.f1⟩ : S120), wrap64 (a4 + ((rd_T207 y208 t195).f2.f0)), (rd_T207 y208 t195).f4⟩ : S207) : List (S207))).bind fun y210 => ((provostref26_Sick.f kj6 y210 a1 a2).bind fun t211 => (some (y210, t211))))) else (none)) else (none)) = some (r1, r2) := by rw [if_neg (show ¬ (false = true) by decide)] at H; exact H
            clear H
            have H := H1
            clear H1
            by_cases c28 : 0 ≤ t195
            · rw [if_pos c28] at H
              have c28b0 : decide (0 ≤ t195) = true := decide_eq_true c28
              clear c28
              by_cases c29 : t195 < (y200.length : Int)
              · rw [if_pos c29] at H
                have c29b0 : decide (t195 < (y200.length : Int)) = true := decide_eq_true c29
                clear c29
                obtain ⟨y208, hy208⟩ : ∃ y_ : List (S207), y_ = (y200.set (t195 : Int).toNat (⟨(rd_T207 y200 t195).f0, (rd_T207 y200 t195).f1, (⟨(rd_T207 y200 t195).f2.f0, (rd_T207 y200 t195).f2.f1⟩ : S120), (rd_T207 y200 t195).f3, 0⟩ : S207)) := ⟨_, rfl⟩
                replace H : ((some (y208.set (t195 : Int).toNat (⟨(rd_T207 y208 t195).f0, (rd_T207 y208 t195).f1, (⟨(rd_T207 y208 t195).f2.f0, (rd_T207 y208 t195).f2.f1⟩ : S120), wrap64 (a4 + ((rd_T207 y208 t195).f2.f0)), (rd_T207 y208 t195).f4⟩ : S207) : List (S207))).bind fun y210 => ((provostref26_Sick.f kj6 y210 a1 a2).bind fun t211 => (some (y210, t211)))) = some (r1, r2) := by first | (rw [hy208]; with_reducible exact H) | (have H2_ := (Option.bind_some _ _).symm.trans H; rw [hy208]; with_reducible exact H2_) | (have H2_ := (Option.bind_some _ _).symm.trans H; with_reducible exact H2_) | with_reducible exact H | (rw [hy208]; exact H) | exact H
                have Ny208 := Aside0.mk hy208
                clear hy208
                obtain ⟨y210, hy210⟩ : ∃ y_ : List (S207), y_ = (y208.set (t195 : Int).toNat (⟨(rd_T207 y208 t195).f0, (rd_T207 y208 t195).f1, (⟨(rd_T207 y208 t195).f2.f0, (rd_T207 y208 t195).f2.f1⟩ : S120), wrap64 (a4 + ((rd_T207 y208 t195).f2.f0)), (rd_T207 y208 t195).f4⟩ : S207)) := ⟨_, rfl⟩
                replace H : ((provostref26_Sick.f kj6 y210 a1 a2).bind fun t211 => (some (y210, t211))) = some (r1, r2) := by first | (rw [hy210]; with_reducible exact H) | (have H2_ := (Option.bind_some _ _).symm.trans H; rw [hy210]; with_reducible exact H2_) | (have H2_ := (Option.bind_some _ _).symm.trans H; with_reducible exact H2_) | with_reducible exact H | (rw [hy210]; exact H) | exact H
                have Ny210 := Aside0.mk hy210
                clear hy210
                replace H := Option.bind_eq_some_iff.mp H
                obtain ⟨t211, A320, H⟩ := H
                replace H : (some (y210, t211)) = some (r1, r2) := H
                have A32 := Aside0.mk A320
                clear A320
                simp only [Option.some.injEq, Prod.mk.injEq] at H
                obtain ⟨rfl, rfl⟩ := H
                go_wp2_with (first | ((with_reducible refine gate_dst (N := 29) rfl ?_); refine Kd.R_lit k207 _ 207 ?hg (N := 29) ?hd (xs := ([] : List (S207))) (inner := []) (ok := fun _ => True) (okp := fun _ => True) ?hr ?hp (fun _ hk => hk) trivial (Below.refl _ _) (Nat.le_refl _) (by simp) ?_; (case hd => rfl); (case hg => rfl); (case hr => first | (go_simp; done) | (go_simp; rfl)); (case hp => exact (Reps.none _ _)); intro v198 w33 ho34 hb hg_ hnew_; clear hg_ hnew_; (first | rw [← Ny197.out] at ho34 | (simp only [Int.reduceToNat] at ho34; rw [← Ny197.out] at ho34)); have n0_ := Aside0.mk (Kd.R_elder' (by (with_reducible repeat (first | apply Kd.R_alloc | apply Kd.R_drewN | apply Kd.R_drew)); exact HO_0.out) (Kd.R_base ho34) hb); have n1_ := Aside0.mk (Kd.R_lower (Kd.R_new' (Kd.R_newM (M := fun k_ => (P0_ k_ ∨ w.heap.size ≤ k_)) ho34 (by first | exact HK.out.1 | exact (show Kept w _ (fun k_ => P0_ k_) from by repeat (first | (with_reducible first | exact HK.out | apply Kept.alloc | apply Kept.drewN | apply Kept.drew) | exact HK.out)).1) (fun k_ h_ => .inr h_)) (Kd.R_lt (by (with_reducible repeat (first | apply Kd.R_alloc | apply Kd.R_drewN | apply Kd.R_drew)); exact HO_0.out))) (below_size (by repeat (first | (with_reducible first | exact HB.out | apply below_alloc | apply pw_below_drewN | apply below_drew1) | exact HB.out)))); have n2_ := Aside0.mk (Kept.below (S := (fun k_ => P0_ k_)) (by repeat (first | (with_reducible first | exact HK.out | apply Kept.alloc | apply Kept.drewN | apply Kept.drew) | exact HK.out)) hb); have n3_ := Aside0.mk (below_step (by repeat (first | (with_reducible first | exact HB.out | apply below_alloc | apply pw_below_drewN | apply below_drew1) | exact HB.out)) hb); clear HO_0; clear HK; clear HB; have HO_0 := n0_; have HO199 := n1_; have HK := n2_; have HB := n3_; clear n0_ n1_ n2_ n3_; clear hb ho34) | ((with_reducible refine gate_builtin (b := .append) (xs := #[.tmp 29, .tmp 30]) rfl ?_); at_builtin; refine Kd.R_append_rows k207 (w0 := w0) w0.heap.size rfl (.tmp 29) (.tmp 30) 118 207 (.agg #[(.int .i64 0), (.int .i64 0), (.int .i64 0), (.int .i64 0), (.int .i64 0), (.int .i64 0)]) 48 rfl Try.underlying118 info207 rfl (by decide) (by omega) v198 y197 l0 _ _ _ (fun k_ => (P0_ k_ ∨ w.heap.size ≤ k_) ∧ some k_ ≠ (.slice Ao8 l0.length co8 : Value).ownBlock) (fun _ => False) rfl rfl ?aO ?aR (fun _ _ h => h) (fun _ h => h.elim) ?aF ?aB ?aS ?aL ?_; (case aR => repeat (first | exact (Kd.R_reads' HO_0.out).2.2 | (with_reducible refine Kd.C_alloc ?_ _) | (with_reducible refine Kd.C_drewN ?_ _) | (with_reducible refine Kd.C_drew ?_))); (case aB => exact (by repeat (first | (with_reducible first | exact HB.out | apply below_alloc | apply pw_below_drewN | apply below_drew1) | exact HB.out))); (case aF => exact (fun k_ hk => ⟨(.inr (Nat.le_trans (by first | exact HK.out.1 | exact (show Kept w _ (fun k_ => P0_ k_) from by repeat (first | (with_reducible first | exact HK.out | apply Kept.alloc | apply Kept.drewN | apply Kept.drew) | exact HK.out)).1) hk)), Kd.fresh' (Kd.R_lt (by (with_reducible repeat (first | apply Kd.R_alloc | apply Kd.R_drewN | apply Kd.R_drew)); exact HO_0.out)) k_ hk⟩)); (case aO => exact (by (with_reducible repeat (first | apply Kd.R_alloc | apply Kd.R_drewN | apply Kd.R_drew)); exact Kd.R_mono HO199.out (fun _ hk => ⟨hk.1.1, hk.2⟩))); (case aS => exact (below_size (by repeat (first | (with_reducible first | exact HB.out | apply below_alloc | apply pw_below_drewN | apply below_drew1) | exact HB.out)))); (case aL => have := LMc13.out; omega); intro v201 w35 ho hb hg hat; rw [← Ny200.out] at ho; have n0_ := Aside0.mk (Kd.R_after (ok := (fun k_ => (P0_ k_ ∨ w.heap.size ≤ k_))) (by (with_reducible repeat (first | apply Kd.R_alloc | apply Kd.R_drewN | apply Kd.R_drew)); exact HO_0.out) hg hat); have n1_ := Aside0.mk (hb); have n2_ := Aside0.mk (Kept.of_grown (S := (fun k_ => P0_ k_)) hg (by repeat (first | (with_reducible first | exact HK.out | apply Kept.alloc | apply Kept.drewN | apply Kept.drew) | exact HK.out)) (fun k_ e_ => (HO199.out.1 k_ e_).1.1)); have n3_ := Aside0.mk (ho); clear HO_0; clear HB; clear HK; clear HO199; have HO_0 := n0_; have HB := n1_; have HK := n2_; have HO202 := n3_; clear n0_ n1_ n2_ n3_; clear ho hb hg hat; have p30 : 0 ≤ (t195 : Int) := of_decide_eq_true (by first | (with_reducible assumption) | assumption); have q30 : (t195 : Int) < ((y200.length : Int) : Int) := of_decide_eq_true (by first | (with_reducible assumption) | assumption); obtain ⟨go30, co30, eo30, gb30, gl30, cl30, HG30⟩ := Kd.R_form HO202.out (by omega); (first | cases eo30 | (injection eo30 with ea_ en_ ec_; (first | subst ea_ | (injection ea_ with ea_; subst ea_)); subst ec_; clear en_)); have GB30 := Aside0.mk gb30; have GG30 := Aside0.mk HG30; clear gb30 gl30 HG30; have HMgo30 := Aside0.mk (show (P0_ go30 ∨ w.heap.size ≤ go30) from (HO202.out.1 _ rfl).1); obtain ⟨ce30, hcl30, hM30, hcc30, hfr30⟩ := Kd.R_elem HO202.out z207 (t195 : Int) p30 q30; obtain rfl := k207_openM hM30; have hx30_0 : w35.cell? ⟨go30, (t195 : Int).toNat * 6, none⟩ = some (.int .i64 ((rd_T207 y200 t195).f0)) := hcc30 0 _ rfl; have hx30_1 : w35.cell? ⟨go30, (t195 : Int).toNat * 6 + 1, none⟩ = some (.int .i64 ((rd_T207 y200 t195).f1)) := hcc30 1 _ rfl; have hx30_2 : w35.cell? ⟨go30, (t195 : Int).toNat * 6 + 2, none⟩ = some (.int .i64 ((rd_T207 y200 t195).f2.f0)) := hcc30 2 _ rfl; have hx30_3 : w35.cell? ⟨go30, (t195 : Int).toNat * 6 + 3, none⟩ = some (.int .i64 ((rd_T207 y200 t195).f2.f1)) := hcc30 3 _ rfl; have hx30_4 : w35.cell? ⟨go30, (t195 : Int).toNat * 6 + 4, none⟩ = some (.int .i64 ((rd_T207 y200 t195).f3)) := hcc30 4 _ rfl; have hx30_5 : w35.cell? ⟨go30, (t195 : Int).toNat * 6 + 5, none⟩ = some (.int .i64 ((rd_T207 y200 t195).f4)) := hcc30 5 _ rfl; have hf30_0 : w35.frozen? ⟨go30, (t195 : Int).toNat * 6, none⟩ = false := hfr30 0; have hf30_1 : w35.frozen? ⟨go30, (t195 : Int).toNat * 6 + 1, none⟩ = false := hfr30 1; have hf30_2 : w35.frozen? ⟨go30, (t195 : Int).toNat * 6 + 2, none⟩ = false := hfr30 2; have hf30_3 : w35.frozen? ⟨go30, (t195 : Int).toNat * 6 + 3, none⟩ = false := hfr30 3; have hf30_4 : w35.frozen? ⟨go30, (t195 : Int).toNat * 6 + 4, none⟩ = false := hfr30 4; have hf30_5 : w35.frozen? ⟨go30, (t195 : Int).toNat * 6 + 5, none⟩ = false := hfr30 5; clear hcl30 hcc30 hfr30 hM30; replace p30 := eq_true p30; replace q30 := eq_true q30; have HX36 := Aside0.mk (show Kd.R k207 207 w35 w0.heap.size (fun k_ => (P0_ k_ ∨ w.heap.size ≤ k_) ∧ some k_ ≠ (.slice Ao8 l0.length co8 : Value).ownBlock) (.slice (some ⟨go30, 0, none⟩) y200.length co30) y200 from (by (with_reducible repeat (first | apply Kd.R_alloc | apply Kd.R_drewN | apply Kd.R_drew)); exact HO202.out)); obtain ⟨ce36, hcl36, hM36, hcc36, hfr36⟩ := Kd.R_elem HX36.out z207 (t195 : Int) (of_decide_eq_true (by first | (with_reducible assumption) | assumption)) (by have h_ : (t195 : Int) < ((y200.length : Int) : Int) := of_decide_eq_true (by first | (with_reducible assumption) | assumption); first | exact h_ | (have e_ := (Kd.R_reads' HO202.out).1; omega) | simpa using h_); obtain rfl := k207_openM hM36; have HP36 := Kd.R_seg HX36.out (t195 : Int) (of_decide_eq_true (by first | (with_reducible assumption) | assumption)) (by have h_ : (t195 : Int) < ((y200.length : Int) : Int) := of_decide_eq_true (by first | (with_reducible assumption) | assumption); first | exact h_ | (have e_ := (Kd.R_reads' HO202.out).1; omega) | simpa using h_) (seg := [.int .i64 0]) (j := 5) hcl36 hcc36 (show 6 ≤ 6 from by decide) (x' := (⟨(rd_T207 y200 t195).f0, (rd_T207 y200 t195).f1, (⟨(rd_T207 y200 t195).f2.f0, (rd_T207 y200 t195).f2.f1⟩ : S120), (rd_T207 y200 t195).f3, 0⟩ : S207)) (k207_mkM _ _ _ (⟨(rd_T207 y200 t195).f0, (rd_T207 y200 t195).f1, (⟨(rd_T207 y200 t195).f2.f0, (rd_T207 y200 t195).f2.f1⟩ : S120), (rd_T207 y200 t195).f3, 0⟩ : S207) ) (fun _ hk => hk); have hx36_5 := hcc36 5 _ rfl; (try simp only [show (k207).sz = 6 from rfl, Nat.mul_one, Nat.add_zero] at hx36_5); have hf36_5 := hfr36 5; (try simp only [show (k207).sz = 6 from rfl, Nat.mul_one, Nat.add_zero] at hf36_5); clear hcl36 hcc36 hfr36 hM36) | ((with_reducible refine gate_store (t := 3) (p := 46) rfl ?_); refine store_event (t := 3) (p := 46) (v := ?vo_w37) (w1 := (w35.setCell ⟨go30, (t195 : Int).toNat * 6 + 5, none⟩ (.int .i64 0))) ?hg ?ho ?hn ?hr ?_; (case ho => rfl); (case hg => rfl); (case hn => rfl); (case hr => first | (go_simp; done) | (go_simp; rfl)); intro w37 hw; have hg : w35.grownBy w37 (some go30) := (by rw [hw]; exact HP36.2); have hp_ : Kd.R k207 207 w37 w0.heap.size (fun k_ => (P0_ k_ ∨ w.heap.size ≤ k_) ∧ some k_ ≠ (.slice Ao8 l0.length co8 : Value).ownBlock) (.slice (some ⟨go30, 0, none⟩) y200.length co30) y208 := (by rw [hw, Ny208.out]; exact HP36.1); clear HP36; have n0_ := Aside0.mk (Kd.R_after (v := (.slice (some ⟨go30, 0, none⟩) y200.length co30)) (v1 := (.slice (some ⟨go30, 0, none⟩) y200.length co30)) (ok := (fun k_ => (P0_ k_ ∨ w.heap.size ≤ k_))) (by (with_reducible repeat (first | apply Kd.R_alloc | apply Kd.R_drewN | apply Kd.R_drew)); exact HO_0.out) hg (.inl rfl)); have n1_ := Aside0.mk (hp_); have n2_ := Aside0.mk ((by rw [hw]; exact below_set (HB.out) GB30.out : Below w0.heap.size w0 w37)); have n3_ := Aside0.mk (Kept.of_grown (S := (fun k_ => P0_ k_)) hg (by repeat (first | (with_reducible first | exact HK.out | apply Kept.alloc | apply Kept.drewN | apply Kept.drew) | exact HK.out)) (fun k_ e_ => (HO202.out.1 k_ e_).1)); clear HO_0; clear HO202; clear HB; clear HK; have HO_0 := n0_; have HO202 := n1_; have HB := n2_; have HK := n3_; clear n0_ n1_ n2_ n3_; clear hg hw hp_; have p209 : 0 ≤ (t195 : Int) := of_decide_eq_true (by first | (with_reducible assumption) | assumption); have q209 : t195 < (y208.length : Int) := (by have h_ : (t195 : Int) < ((y200.length : Int) : Int) := of_decide_eq_true (by first | (with_reducible assumption) | assumption); first | (have e_ := (Kd.R_reads' HO202.out).1; omega) | simpa only [Ny208.out, List.length_set] using h_); have ql209 : ((t195 : Int) < ((y200.length : Int) : Int)) = True := eq_true (of_decide_eq_true (by first | (with_reducible assumption) | assumption)); obtain ⟨ad209, e209, hx209_0, hx209_1, hx209_2, hx209_3, hx209_4, hx209_5⟩ := at_T207 (Kd.R_reads' HO202.out).2.2 t195 p209 q209; obtain rfl : (⟨go30, 0, none⟩ : Addr) = ad209 := (by injection e209); (first | simp only [add_plain] at hx209_0 | simp only [add_at] at hx209_0 | simp only [Addr.add, Nat.zero_add] at hx209_0 | skip); (first | simp only [add_plain] at hx209_1 | simp only [add_at] at hx209_1 | simp only [Addr.add, Nat.zero_add] at hx209_1 | skip); (first | simp only [add_plain] at hx209_2 | simp only [add_at] at hx209_2 | simp only [Addr.add, Nat.zero_add] at hx209_2 | skip); (first | simp only [add_plain] at hx209_3 | simp only [add_at] at hx209_3 | simp only [Addr.add, Nat.zero_add] at hx209_3 | skip); (first | simp only [add_plain] at hx209_4 | simp only [add_at] at hx209_4 | simp only [Addr.add, Nat.zero_add] at hx209_4 | skip); (first | simp only [add_plain] at hx209_5 | simp only [add_at] at hx209_5 | simp only [Addr.add, Nat.zero_add] at hx209_5 | skip); replace p209 := eq_true p209; replace q209 := eq_true q209; have p31 : 0 ≤ (t195 : Int) := of_decide_eq_true (by first | (with_reducible assumption) | assumption); have q31 : (t195 : Int) < ((y200.length : Int) : Int) := of_decide_eq_true (by first | (with_reducible assumption) | assumption); obtain ⟨ce31, hcl31, hM31, hcc31, hfr31⟩ := Kd.R_elem HO202.out z207 (t195 : Int) p31 q31; obtain rfl := k207_openM hM31; have hx31_0 : w37.cell? ⟨go30, (t195 : Int).toNat * 6, none⟩ = some (.int .i64 ((rd_T207 y208 t195).f0)) := hcc31 0 _ rfl; have hx31_1 : w37.cell? ⟨go30, (t195 : Int).toNat * 6 + 1, none⟩ = some (.int .i64 ((rd_T207 y208 t195).f1)) := hcc31 1 _ rfl; have hx31_2 : w37.cell? ⟨go30, (t195 : Int).toNat * 6 + 2, none⟩ = some (.int .i64 ((rd_T207 y208 t195).f2.f0)) := hcc31 2 _ rfl; have hx31_3 : w37.cell? ⟨go30, (t195 : Int).toNat * 6 + 3, none⟩ = some (.int .i64 ((rd_T207 y208 t195).f2.f1)) := hcc31 3 _ rfl; have hx31_4 : w37.cell? ⟨go30, (t195 : Int).toNat * 6 + 4, none⟩ = some (.int .i64 ((rd_T207 y208 t195).f3)) := hcc31 4 _ rfl; have hx31_5 : w37.cell? ⟨go30, (t195 : Int).toNat * 6 + 5, none⟩ = some (.int .i64 ((rd_T207 y208 t195).f4)) := hcc31 5 _ rfl; have hf31_0 : w37.frozen? ⟨go30, (t195 : Int).toNat * 6, none⟩ = false := hfr31 0; have hf31_1 : w37.frozen? ⟨go30, (t195 : Int).toNat * 6 + 1, none⟩ = false := hfr31 1; have hf31_2 : w37.frozen? ⟨go30, (t195 : Int).toNat * 6 + 2, none⟩ = false := hfr31 2; have hf31_3 : w37.frozen? ⟨go30, (t195 : Int).toNat * 6 + 3, none⟩ = false := hfr31 3; have hf31_4 : w37.frozen? ⟨go30, (t195 : Int).toNat * 6 + 4, none⟩ = false := hfr31 4; have hf31_5 : w37.frozen? ⟨go30, (t195 : Int).toNat * 6 + 5, none⟩ = false := hfr31 5; clear hcl31 hcc31 hfr31 hM31; replace p31 := eq_true p31; replace q31 := eq_true q31; have HX38 := Aside0.mk (show Kd.R k207 207 w37 w0.heap.size (fun k_ => (P0_ k_ ∨ w.heap.size ≤ k_) ∧ some k_ ≠ (.slice Ao8 l0.length co8 : Value).ownBlock) (.slice (some ⟨go30, 0, none⟩) y200.length co30) y208 from (by (with_reducible repeat (first | apply Kd.R_alloc | apply Kd.R_drewN | apply Kd.R_drew)); exact HO202.out)); obtain ⟨ce38, hcl38, hM38, hcc38, hfr38⟩ := Kd.R_elem HX38.out z207 (t195 : Int) (of_decide_eq_true (by first | (with_reducible assumption) | assumption)) (by have h_ : (t195 : Int) < ((y200.length : Int) : Int) := of_decide_eq_true (by first | (with_reducible assumption) | assumption); first | exact h_ | (have e_ := (Kd.R_reads' HO202.out).1; omega) | simpa using h_); obtain rfl := k207_openM hM38; have HP38 := Kd.R_seg HX38.out (t195 : Int) (of_decide_eq_true (by first | (with_reducible assumption) | assumption)) (by have h_ : (t195 : Int) < ((y200.length : Int) : Int) := of_decide_eq_true (by first | (with_reducible assumption) | assumption); first | exact h_ | (have e_ := (Kd.R_reads' HO202.out).1; omega) | simpa using h_) (seg := [.int .i64 (wrap64 (a4 + ((rd_T207 y208 t195).f2.f0)))]) (j := 4) hcl38 hcc38 (show 5 ≤ 6 from by decide) (x' := (⟨(rd_T207 y208 t195).f0, (rd_T207 y208 t195).f1, (⟨(rd_T207 y208 t195).f2.f0, (rd_T207 y208 t195).f2.f1⟩ : S120), wrap64 (a4 + ((rd_T207 y208 t195).f2.f0)), (rd_T207 y208 t195).f4⟩ : S207)) (k207_mkM _ _ _ (⟨(rd_T207 y208 t195).f0, (rd_T207 y208 t195).f1, (⟨(rd_T207 y208 t195).f2.f0, (rd_T207 y208 t195).f2.f1⟩ : S120), wrap64 (a4 + ((rd_T207 y208 t195).f2.f0)), (rd_T207 y208 t195).f4⟩ : S207) ) (fun _ hk => hk); have hx38_4 := hcc38 4 _ rfl; (try simp only [show (k207).sz = 6 from rfl, Nat.mul_one, Nat.add_zero] at hx38_4); have hf38_4 := hfr38 4; (try simp only [show (k207).sz = 6 from rfl, Nat.mul_one, Nat.add_zero] at hf38_4); clear hcl38 hcc38 hfr38 hM38) | ((with_reducible refine gate_store (t := 3) (p := 58) rfl ?_); refine store_event (t := 3) (p := 58) (v := ?vo_w39) (w1 := (w37.setCell ⟨go30, (t195 : Int).toNat * 6 + 4, none⟩ (.int .i64 (wrap64 (a4 + ((rd_T207 y208 t195).f2.f0)))))) ?hg ?ho ?hn ?hr ?_; (case ho => rfl); (case hg => rfl); (case hn => rfl); (case hr => first | (go_simp; done) | (go_simp; rfl)); intro w39 hw; have hg : w37.grownBy w39 (some go30) := (by rw [hw]; exact HP38.2); have hp_ : Kd.R k207 207 w39 w0.heap.size (fun k_ => (P0_ k_ ∨ w.heap.size ≤ k_) ∧ some k_ ≠ (.slice Ao8 l0.length co8 : Value).ownBlock) (.slice (some ⟨go30, 0, none⟩) y200.length co30) y210 := (by rw [hw, Ny210.out]; exact HP38.1); clear HP38; have n0_ := Aside0.mk (Kd.R_after (v := (.slice (some ⟨go30, 0, none⟩) y200.length co30)) (v1 := (.slice (some ⟨go30, 0, none⟩) y200.length co30)) (ok := (fun k_ => (P0_ k_ ∨ w.heap.size ≤ k_))) (by (with_reducible repeat (first | apply Kd.R_alloc | apply Kd.R_drewN | apply Kd.R_drew)); exact HO_0.out) hg (.inl rfl)); have n1_ := Aside0.mk (hp_); have n2_ := Aside0.mk ((by rw [hw]; exact below_set (HB.out) GB30.out : Below w0.heap.size w0 w39)); have n3_ := Aside0.mk (Kept.of_grown (S := (fun k_ => P0_ k_)) hg (by repeat (first | (with_reducible first | exact HK.out | apply Kept.alloc | apply Kept.drewN | apply Kept.drew) | exact HK.out)) (fun k_ e_ => (HO202.out.1 k_ e_).1)); clear HO_0; clear HO202; clear HB; clear HK; have HO_0 := n0_; have HO202 := n1_; have HB := n2_; have HK := n3_; clear n0_ n1_ n2_ n3_; clear hg hw hp_) | ((with_reducible refine gate_callee (f := 72) rfl ?_); refine goesL_ (some 63) rfl rfl Try.func72 (by kernel_rfl) rfl #[.slice (some ⟨go30, 0, none⟩) y210.length co30, .int .i64 a1, .int .i64 a2] rfl (by (try simp only [List.map_toArray, List.map_cons, List.map_nil]); first | done | (rw [show y210.length = y200.length from (Kd.R_reads' HO202.out).1.symm] <;> rfl) | rfl | (simp only [List.length_drop, List.length_take]; rfl)) ?_; (with_reducible refine (provostref26_Sick.calls kj6 _ _ y210 a1 a2 t211 _ ?side1 ?side2 A32.out).mono ?_); (case side1 => repeat (first | exact (Kd.R_reads' HO202.out).2.2 | (with_reducible refine Kd.C_alloc ?_ _) | (with_reducible refine Kd.C_drewN ?_ _) | (with_reducible refine Kd.C_drew ?_))); (case side2 => rw [show y210.length = y200.length from (Kd.R_reads' HO202.out).1.symm]; exact (Kd.R_reads' HO202.out).2.1); rintro e w' ⟨rfl, ⟨nd, rfl⟩⟩; refine ⟨_, rfl, ?_⟩))
                go_ret2
                exact ⟨_, by first | rfl | (simp [errW_none, errW_some] <;> rfl) | (simp [*, errW_none, errW_some] <;> rfl), by (with_reducible repeat (first | apply Kd.R_alloc | apply Kd.R_drewN | apply Kd.R_drew)); exact Kd.R_mono HO202.out (fun _ hk => hk.1), by repeat (first | (with_reducible first | exact HB.out | apply below_alloc | apply pw_below_drewN | apply below_drew1) | exact HB.out), by repeat (first | (with_reducible first | exact HK.out | apply Kept.alloc | apply Kept.drewN | apply Kept.drew) | exact HK.out)⟩
              · rw [if_neg c29] at H
                exact absurd H (by simp)
            · rw [if_neg c28] at H
              exact absurd H (by simp)
        · rw [if_neg c13] at H
          exact absurd H (by simp)

/-! ### probe_state_sick: function 118 -/
def probe_state_sick.f (a0_0 : Int) (a0_1 : Int) (a0_2 : Int) (a0_3 : Int) : Option (Bool) := if a0_0 > 0 then (some (decide (a0_3 ≥ a0_1))) else (some false)
set_option maxHeartbeats 8000000 in
set_option maxRecDepth 100000 in
theorem probe_state_sick.calls (a0_0 : Int) (a0_1 : Int) (a0_2 : Int) (a0_3 : Int) (r : Bool) (w : World) (h : probe_state_sick.f a0_0 a0_1 a0_2 a0_3 = some r) :
    Calls Try.prog 118 #[.agg #[.int .i64 a0_0, .int .i64 a0_1, .int .i64 a0_2, .int .i64 a0_3]] w fun e w' => e = .returned (.bool r) ∧ Below w.heap.size w w' := by
  have hu210 := Try.underlying210
  have HB := Aside0.mk (Below.refl w.heap.size w)
  have H : (if a0_0 > 0 then (some (decide (a0_3 ≥ a0_1))) else (some false)) = some r := h
  clear h
  by_cases c2 : a0_0 > 0
  · rw [if_pos c2] at H
    have c2b0 : decide (0 < a0_0) = true := decide_eq_true c2
    clear c2
    obtain rfl := Option.some.inj H
    go_enter Try.func118, Try.ntmps118
    go_wp2_with (first | ((with_reducible refine gate_dst (N := 1) rfl ?_); refine box_event ?hg (N := 1) ?hd (cs := #[.int .i64 a0_0, .int .i64 a0_1, .int .i64 a0_2, .int .i64 a0_3]) (t := 210) ?hr ?_; (case hd => rfl); (case hg => rfl); (case hr => first | (go_simp; done) | (go_simp; rfl)); intro gb212 hg w3 hbox hb; have n0_ := Aside0.mk (below_step (by repeat (first | (with_reducible first | exact HB.out | apply below_alloc | apply pw_below_drewN | apply below_drew1) | exact HB.out)) hb); have n1_ := Aside0.mk (hbox); have n2_ := Aside0.mk ((by rw [hg]; exact (below_size (by repeat (first | (with_reducible first | exact HB.out | apply below_alloc | apply pw_below_drewN | apply below_drew1) | exact HB.out))) : w.heap.size ≤ gb212)); have n3_ := Aside0.mk ((by rw [hg]; exact (below_size (by repeat (first | (with_reducible first | exact HB.out | apply below_alloc | apply pw_below_drewN | apply below_drew1) | exact HB.out))) : w.heap.size ≤ gb212)); clear HB; have HB := n0_; have BK212 := n1_; have GW212 := n2_; have GE212 := n3_; clear n0_ n1_ n2_ n3_; clear hb hbox hg; have hcz4_0 : w3.cell? ⟨gb212, 0, none⟩ = some (.int .i64 a0_0) := (blk_cell BK212.out 0).trans rfl; have hcz4_1 : w3.cell? ⟨gb212, 1, none⟩ = some (.int .i64 a0_1) := (blk_cell BK212.out 1).trans rfl; have hcz4_2 : w3.cell? ⟨gb212, 2, none⟩ = some (.int .i64 a0_2) := (blk_cell BK212.out 2).trans rfl; have hcz4_3 : w3.cell? ⟨gb212, 3, none⟩ = some (.int .i64 a0_3) := (blk_cell BK212.out 3).trans rfl; have hfz4_0 := blk_frozen BK212.out 0; have hfz4_1 := blk_frozen BK212.out 1; have hfz4_2 := blk_frozen BK212.out 2; have hfz4_3 := blk_frozen BK212.out 3))
    go_ret
    exact ⟨by first | rfl | (simp [errW_none, errW_some] <;> rfl) | (simp [*, errW_none, errW_some] <;> rfl), by repeat (first | (with_reducible first | exact HB.out | apply below_alloc | apply pw_below_drewN | apply below_drew1 | refine below_set ?_ GE212.out) | exact HB.out)⟩
  · rw [if_neg c2] at H
    have c2b0 : decide (0 < a0_0) = false := decide_eq_false c2
    clear c2
    obtain rfl := Option.some.inj H
    go_enter Try.func118, Try.ntmps118
    go_wp2_with (first | ((with_reducible refine gate_dst (N := 1) rfl ?_); refine box_event ?hg (N := 1) ?hd (cs := #[.int .i64 a0_0, .int .i64 a0_1, .int .i64 a0_2, .int .i64 a0_3]) (t := 210) ?hr ?_; (case hd => rfl); (case hg => rfl); (case hr => first | (go_simp; done) | (go_simp; rfl)); intro gb212 hg w5 hbox hb; have n0_ := Aside0.mk (below_step (by repeat (first | (with_reducible first | exact HB.out | apply below_alloc | apply pw_below_drewN | apply below_drew1) | exact HB.out)) hb); have n1_ := Aside0.mk (hbox); have n2_ := Aside0.mk ((by rw [hg]; exact (below_size (by repeat (first | (with_reducible first | exact HB.out | apply below_alloc | apply pw_below_drewN | apply below_drew1) | exact HB.out))) : w.heap.size ≤ gb212)); have n3_ := Aside0.mk ((by rw [hg]; exact (below_size (by repeat (first | (with_reducible first | exact HB.out | apply below_alloc | apply pw_below_drewN | apply below_drew1) | exact HB.out))) : w.heap.size ≤ gb212)); clear HB; have HB := n0_; have BK212 := n1_; have GW212 := n2_; have GE212 := n3_; clear n0_ n1_ n2_ n3_; clear hb hbox hg; have hcz6_0 : w5.cell? ⟨gb212, 0, none⟩ = some (.int .i64 a0_0) := (blk_cell BK212.out 0).trans rfl; have hcz6_1 : w5.cell? ⟨gb212, 1, none⟩ = some (.int .i64 a0_1) := (blk_cell BK212.out 1).trans rfl; have hcz6_2 : w5.cell? ⟨gb212, 2, none⟩ = some (.int .i64 a0_2) := (blk_cell BK212.out 2).trans rfl; have hcz6_3 : w5.cell? ⟨gb212, 3, none⟩ = some (.int .i64 a0_3) := (blk_cell BK212.out 3).trans rfl; have hfz6_0 := blk_frozen BK212.out 0; have hfz6_1 := blk_frozen BK212.out 1; have hfz6_2 := blk_frozen BK212.out 2; have hfz6_3 := blk_frozen BK212.out 3))
    go_ret
    exact ⟨by first | rfl | (simp [errW_none, errW_some] <;> rfl) | (simp [*, errW_none, errW_some] <;> rfl), by repeat (first | (with_reducible first | exact HB.out | apply below_alloc | apply pw_below_drewN | apply below_drew1 | refine below_set ?_ GE212.out) | exact HB.out)⟩

-- NOT PRINTED: function 64 (probe_Book_Ask)

-- NOT PRINTED: function 69 (probe_Book_Has)

-- NOT PRINTED: function 66 (probe_Book_Drop)

-- NOT PRINTED: function 119 (probe_state)

-- NOT PRINTED: function 67 (probe_Book_Gone)

-- NOT PRINTED: function 68 (probe_Book_Len)

-- NOT PRINTED: function 71 (probe_Book_Sick)

-- NOT PRINTED: function 73 (probe_Book_Next)

/-! ### provostref26_Next: function 74 -/
def provostref26_Next.l0 : Nat → List (S207) → Int → Int → Int → Option (Int)
  | 0, _, _, _, _ => none
  | k + 1, x0, x1, x5, x6 => if x6 < (x0.length : Int) then (if 0 ≤ x6 then (if ((rd_T207 x0 x6).f3) > x1 then (if x5 = 0 then (provostref26_Next.l0 k x0 x1 ((rd_T207 x0 x6).f3) (wrap64 (x6 + 1))) else (if ((rd_T207 x0 x6).f3) < x5 then (provostref26_Next.l0 k x0 x1 ((rd_T207 x0 x6).f3) (wrap64 (x6 + 1))) else (provostref26_Next.l0 k x0 x1 x5 (wrap64 (x6 + 1))))) else (provostref26_Next.l0 k x0 x1 x5 (wrap64 (x6 + 1)))) else (none)) else (some x5)
def provostref26_Next.f (k : Nat) (l0 : List (S207)) (a1 : Int) : Option (Int) := provostref26_Next.l0 k l0 a1 0 0
theorem provostref26_Next.mono_l : ∀ k, (∀ y0 y1 y2 y3, LeO (provostref26_Next.l0 k y0 y1 y2 y3) (provostref26_Next.l0 (k + 1) y0 y1 y2 y3))
  | 0 => fun _ _ _ _ r h => by simp [provostref26_Next.l0] at h
  | k + 1 => by
    have ih0 := provostref26_Next.mono_l k
    · intro y0 y1 y2 y3
      unfold provostref26_Next.l0
      repeat' first
      | (with_reducible exact ih0 _ _ _ _)
      | (with_reducible exact LeO.refl _)
      | (with_reducible exact LeO.none _)
      | (with_reducible refine LeO.ite ?_ ?_)
      | (with_reducible refine LeO.bind ?_ (fun _ => ?_))
      | exact ih0 _ _ _ _
      | exact LeO.none _
      | refine LeO.ite ?_ ?_
      | refine LeO.bind ?_ (fun _ => ?_)
theorem provostref26_Next.mono : ∀ a0 a1 k, LeO (provostref26_Next.f k a0 a1) (provostref26_Next.f (k + 1) a0 a1) := by
  intro a0 a1 k
  have ih0 := provostref26_Next.mono_l k
  unfold provostref26_Next.f
  repeat' first
      | (with_reducible exact ih0 _ _ _ _)
      | (with_reducible exact LeO.refl _)
      | (with_reducible exact LeO.none _)
      | (with_reducible refine LeO.ite ?_ ?_)
      | (with_reducible refine LeO.bind ?_ (fun _ => ?_))
      | exact ih0 _ _ _ _
      | exact LeO.none _
      | refine LeO.ite ?_ ?_
      | refine LeO.bind ?_ (fun _ => ?_)
set_option maxHeartbeats 8000000 in
set_option maxRecDepth 100000 in
theorem provostref26_Next.calls (k : Nat) (A0 : Option Addr) (c0 : Nat) (l0 : List (S207)) (a1 : Int) (r : Int) (w : World) (hr0 : Kd.C k207 w A0 l0.length l0) (hc0 : l0.length ≤ c0) (h : provostref26_Next.f k l0 a1 = some r) :
    Calls Try.prog 74 #[.slice A0 l0.length c0, .int .i64 a1] w fun e w' => e = .returned (.int .i64 r) ∧ Drawn0 w w' := by
  have HR0 := Aside0.mk hr0
  have HC0 := Aside0.mk hc0
  clear hr0 hc0
  have H : (provostref26_Next.l0 k l0 a1 0 0) = some r := h
  clear h
  have H' := Aside0.mk H
  clear H
  go_enter Try.func74, Try.ntmps74
  go_wp2
  go_loopg [5, 6] k (fun kq v5 v6 w' => ∃ (x5_1 : Int) (x6_1 : Int), v5 = .int .i64 x5_1 ∧ v6 = .int .i64 x6_1 ∧ Aside0 (provostref26_Next.l0 kq l0 a1 x5_1 x6_1 = some r) ∧ Aside0 (kq ≤ k) ∧ Drawn0 w w')
  case atStart => exact ⟨(0), (0), (by first | rfl | (simp; done) | (simp [*]; done)), (by first | rfl | (simp; done) | (simp [*]; done)), H', ⟨Nat.le_refl _⟩, by repeat (first | exact Drawn0.refl _ | apply Drawn0.step)⟩
  case round =>
    clear H'
    try clear p2
    obtain ⟨x5_1, x6_1, rfl, rfl, HA, HK1, ⟨m1, rfl⟩⟩ := hrel
    cases gk with
    | zero => exact absurd HA.out (by simp [provostref26_Next.l0])
    | succ k1 =>
      have H := HA.out
      clear HA
      simp only [provostref26_Next.l0] at H
      by_cases c3 : x6_1 < (l0.length : Int)
      · rw [if_pos c3] at H
        have c3b0 : decide (x6_1 < (l0.length : Int)) = true := decide_eq_true c3
        clear c3
        by_cases c4 : 0 ≤ x6_1
        · rw [if_pos c4] at H
          have c4b0 : decide (0 ≤ x6_1) = true := decide_eq_true c4
          clear c4
          by_cases c5 : ((rd_T207 l0 x6_1).f3) > a1
          · rw [if_pos c5] at H
            have c5b0 : decide (a1 < ((rd_T207 l0 x6_1).f3)) = true := decide_eq_true c5
            clear c5
            by_cases c6 : x5_1 = 0
            · rw [if_pos c6] at H
              have c6b0 : (x5_1 == 0) = true := beq_iff_eq.mpr c6
              have c6b1 : (x5_1 != 0) = false := bne_eq_false_iff_eq.mpr c6
              clear c6
              have H' := Aside0.mk H
              clear H
              have p213 : 0 ≤ (x6_1 : Int) := of_decide_eq_true (by first | (with_reducible assumption) | assumption)
              have q213 : x6_1 < (l0.length : Int) := of_decide_eq_true (by first | (with_reducible assumption) | assumption)
              obtain ⟨ad213, e213, hx213_0, hx213_1, hx213_2, hx213_3, hx213_4, hx213_5⟩ := at_T207 HR0.out x6_1 p213 q213
              cases e213
              replace p213 := eq_true p213
              replace q213 := eq_true q213
              have p214 : 0 ≤ (x6_1 : Int) := of_decide_eq_true (by first | (with_reducible assumption) | assumption)
              have q214 : x6_1 < (l0.length : Int) := of_decide_eq_true (by first | (with_reducible assumption) | assumption)
              obtain ⟨ad214, e214, hx214_0, hx214_1, hx214_2, hx214_3, hx214_4, hx214_5⟩ := at_T207 HR0.out x6_1 p214 q214
              obtain rfl : ad213 = ad214 := (by injection e214)
              replace p214 := eq_true p214
              replace q214 := eq_true q214
              go_wp2
              go_roundg k1
              case measure => have := HK1.out; omega
              case rel => exact ⟨((rd_T207 l0 x6_1).f3), (wrap64 (x6_1 + 1)), (by first | rfl | (simp; done) | (simp [*]; done)), (by first | rfl | (simp; done) | (simp [*]; done)), H', ⟨by have := HK1.out; omega⟩, by repeat (first | exact Drawn0.refl _ | apply Drawn0.step)⟩
            · rw [if_neg c6] at H
              have c6b0 : (x5_1 == 0) = false := beq_eq_false_iff_ne.mpr c6
              have c6b1 : (x5_1 != 0) = true := bne_iff_ne.mpr c6
              by_cases c7 : ((rd_T207 l0 x6_1).f3) < x5_1
              · rw [if_pos c7] at H
                have c7b0 : decide (((rd_T207 l0 x6_1).f3) < x5_1) = true := decide_eq_true c7
                clear c7
                have H' := Aside0.mk H
                clear H
                have p213 : 0 ≤ (x6_1 : Int) := of_decide_eq_true (by first | (with_reducible assumption) | assumption)
                have q213 : x6_1 < (l0.length : Int) := of_decide_eq_true (by first | (with_reducible assumption) | assumption)
                obtain ⟨ad213, e213, hx213_0, hx213_1, hx213_2, hx213_3, hx213_4, hx213_5⟩ := at_T207 HR0.out x6_1 p213 q213
                cases e213
                replace p213 := eq_true p213
                replace q213 := eq_true q213
                have p215 : 0 ≤ (x6_1 : Int) := of_decide_eq_true (by first | (with_reducible assumption) | assumption)
                have q215 : x6_1 < (l0.length : Int) := of_decide_eq_true (by first | (with_reducible assumption) | assumption)
                obtain ⟨ad215, e215, hx215_0, hx215_1, hx215_2, hx215_3, hx215_4, hx215_5⟩ := at_T207 HR0.out x6_1 p215 q215
                obtain rfl : ad213 = ad215 := (by injection e215)
                replace p215 := eq_true p215
                replace q215 := eq_true q215
                have p216 : 0 ≤ (x6_1 : Int) := of_decide_eq_true (by first | (with_reducible assumption) | assumption)
                have q216 : x6_1 < (l0.length : Int) := of_decide_eq_true (by first | (with_reducible assumption) | assumption)
                obtain ⟨ad216, e216, hx216_0, hx216_1, hx216_2, hx216_3, hx216_4, hx216_5⟩ := at_T207 HR0.out x6_1 p216 q216
                obtain rfl : ad213 = ad216 := (by injection e216)
                replace p216 := eq_true p216
                replace q216 := eq_true q216
                go_wp2
                go_roundg k1
                case measure => have := HK1.out; omega
                case rel => exact ⟨((rd_T207 l0 x6_1).f3), (wrap64 (x6_1 + 1)), (by first | rfl | (simp; done) | (simp [*]; done)), (by first | rfl | (simp; done) | (simp [*]; done)), H', ⟨by have := HK1.out; omega⟩, by repeat (first | exact Drawn0.refl _ | apply Drawn0.step)⟩
              · rw [if_neg c7] at H
                have c7b0 : decide (((rd_T207 l0 x6_1).f3) < x5_1) = false := decide_eq_false c7
                clear c7
                have H' := Aside0.mk H
                clear H
                have p213 : 0 ≤ (x6_1 : Int) := of_decide_eq_true (by first | (with_reducible assumption) | assumption)
                have q213 : x6_1 < (l0.length : Int) := of_decide_eq_true (by first | (with_reducible assumption) | assumption)
                obtain ⟨ad213, e213, hx213_0, hx213_1, hx213_2, hx213_3, hx213_4, hx213_5⟩ := at_T207 HR0.out x6_1 p213 q213
                cases e213
                replace p213 := eq_true p213
                replace q213 := eq_true q213
                have p215 : 0 ≤ (x6_1 : Int) := of_decide_eq_true (by first | (with_reducible assumption) | assumption)
                have q215 : x6_1 < (l0.length : Int) := of_decide_eq_true (by first | (with_reducible assumption) | assumption)
                obtain ⟨ad215, e215, hx215_0, hx215_1, hx215_2, hx215_3, hx215_4, hx215_5⟩ := at_T207 HR0.out x6_1 p215 q215
                obtain rfl : ad213 = ad215 := (by injection e215)
                replace p215 := eq_true p215
                replace q215 := eq_true q215
                go_wp2
                go_roundg k1
                case measure => have := HK1.out; omega
                case rel => exact ⟨(x5_1), (wrap64 (x6_1 + 1)), (by first | rfl | (simp; done) | (simp [*]; done)), (by first | rfl | (simp; done) | (simp [*]; done)), H', ⟨by have := HK1.out; omega⟩, by repeat (first | exact Drawn0.refl _ | apply Drawn0.step)⟩
          · rw [if_neg c5] at H
            have c5b0 : decide (a1 < ((rd_T207 l0 x6_1).f3)) = false := decide_eq_false c5
            clear c5
            have H' := Aside0.mk H
            clear H
            have p213 : 0 ≤ (x6_1 : Int) := of_decide_eq_true (by first | (with_reducible assumption) | assumption)
            have q213 : x6_1 < (l0.length : Int) := of_decide_eq_true (by first | (with_reducible assumption) | assumption)
            obtain ⟨ad213, e213, hx213_0, hx213_1, hx213_2, hx213_3, hx213_4, hx213_5⟩ := at_T207 HR0.out x6_1 p213 q213
            cases e213
            replace p213 := eq_true p213
            replace q213 := eq_true q213
            go_wp2
            go_roundg k1
            case measure => have := HK1.out; omega
            case rel => exact ⟨(x5_1), (wrap64 (x6_1 + 1)), (by first | rfl | (simp; done) | (simp [*]; done)), (by first | rfl | (simp; done) | (simp [*]; done)), H', ⟨by have := HK1.out; omega⟩, by repeat (first | exact Drawn0.refl _ | apply Drawn0.step)⟩
        · rw [if_neg c4] at H
          exact absurd H (by simp)
      · rw [if_neg c3] at H
        have c3b0 : decide (x6_1 < (l0.length : Int)) = false := decide_eq_false c3
        clear c3
        obtain rfl := Option.some.inj H
        go_wp2
        go_ret
        exact ⟨by first | rfl | (simp; done) | (simp [*]; done), by repeat (first | exact Drawn0.refl _ | apply Drawn0.step)⟩

end Go.Proofs.Ytnceglkoolfncaa.PProbePlays
