/- Relist: the chapter's example; the law RelistNone. -/
import Derived.Test.YtnceglkoolfncaaNi
set_option linter.unusedSimpArgs false
set_option linter.unusedVariables false
namespace Go.Proofs.Ytnceglkoolfncaa.Rl
open Go.RowKit Go.Pv Go.Proofs.Ytnceglkoolfncaa.Po Go.Proofs.YtnceglkoolfncaaW.PrintWords Go.Proofs.YtnceglkoolfncaaW.PrintLast

/-- A row of the call's own, read. -/
theorem rz_of_row {α : Type} {d : Kd α} {w : World} {e : TypeId} {v : Value} {xs : List α} {inner : List Value} (h : SlRow w e d.sz v xs.length inner) (hr : Reps (d.K w) d.sz xs inner) : Rz d w v xs := by
  rcases h.2 with ⟨rfl, hn⟩ | ⟨g, o, cap, cur, rfl, hb, h1, h2, h3, h4⟩
  · have : xs = [] := List.eq_nil_of_length_eq_zero hn
    subst this
    exact Rz.nil d w
  · refine ⟨_, cap, rfl, h1, rfl, by unfold maxLen at h2; omega, fun hp => ⟨⟨g, o, none⟩, rfl, fun j p hj => ?_⟩⟩
    have hk := hr.2 j p hj
    refine ⟨_, d.K_len hk, hk, fun i u hu => ?_⟩
    rw [List.getElem?_take] at hu
    split at hu
    · rw [List.getElem?_drop] at hu
      have := SlRow.cells h rfl (j * d.sz + i) u hu
      rw [Addr.add_lit]
      exact this
    · cases hu

/-- The example's sandbox. -/
def bv0 : BV := ⟨1, 7, 1, []⟩

set_option maxRecDepth 10000 in
set_option maxHeartbeats 2000000 in
theorem works_any (w : World) : Calls Try.prog 54 #[] w fun e w' => e = .returned (.bool true) ∧ Below w.heap.size w w' := by
  obtain ⟨W1, hW1⟩ : ∃ W1, W1 = w.alloc (.cells #[.int .i64 1, .int .i64 7, .int .i64 1, .slice none 0 0] 108) := ⟨_, rfl⟩
  have k1 : Below w.heap.size w W1 := by rw [hW1]; exact (Below.refl _ w).alloc (Nat.le_refl _) _
  have hrow : SlRow W1 108 4 (.slice (some ⟨w.heap.size, 0, none⟩) 1 1) 1 [.int .i64 1, .int .i64 7, .int .i64 1, .slice none 0 0] := by
    rw [hW1]
    exact SlRow.made w 108 4 1 #[.int .i64 1, .int .i64 7, .int .i64 1, .slice none 0 0] rfl (by unfold maxLen; omega)
  have hz : Rz PRelistNone.k108 W1 (.slice (some ⟨w.heap.size, 0, none⟩) 1 1) [bv0] := rz_of_row hrow ⟨rfl, fun j p hj => by
    cases j with
    | zero =>
      simp at hj
      subst hj
      exact PRelistNone.k108_mk W1 bv0 (A3 := none) (c3 := 0) (Nat.le_refl _) (Kd.C_nil _ _)
    | succ j => simp at hj⟩
  have few : Few [bv0] := ⟨by simp, by simp [bv0]⟩
  have H1 := hid (diff_any (Rz.nil PRelistNone.k108 W1) hz ⟨by simp, by simp⟩ few)
  have e1 : diffL [] [bv0] = [(1, 7, 1, 0)] := by simp [diffL, mergeL, oneB, bv0, ctrsL]
  rw [e1] at H1
  have H2 := hid (fun W (h : Below W1.heap.size W1 W) => diff_any (hz.below h) (hz.below h) few few)
  rw [diffL_same] at H2
  have HW := hid hW1
  have HK := hid k1
  clear hrow hz few e1 k1 hW1
  go_enter Try.func54, Try.ntmps54
  go_upto_region 2 with fail
  rw [← HW.out]
  go_wp2_with (first
    | (go_at_call_of 56 (Value.slice none 0 0)
       go_must (with_reducible refine H1.out.mono ?_)
       rintro e w2 ⟨v, rfl, hs, hb⟩
       obtain ⟨aa, ac, rfl, hc⟩ := chform hs
       obtain ⟨ab, ao, rfl, hab, c0, c1, c2, c3⟩ := hc 0 (by simp)
       simp only [Nat.zero_mul, Nat.add_zero, List.getElem_cons_zero, List.length_cons, List.length_nil, Nat.zero_add] at c0 c1 c2 c3 ⊢
       have HS := hid hs
       have HB := hid hb
       clear hs hb hc)
    | (go_at_call 56
       go_must (with_reducible refine (H2.out _ HB.out).mono ?_)
       rintro e w3 ⟨v3, rfl, hs3, hb3⟩
       obtain ⟨a3, ac3, rfl, -⟩ := chform hs3
       simp only [List.length_nil]
       have HB3 := hid hb3
       clear hs3 hb3)
    | (go_at_call 110
       go_must (with_reducible refine (name7 _).mono ?_)
       rintro e w4 ⟨rfl, hb4⟩
       have hb24 := HB3.out.trans (hb4.mono HB3.out.size)
       have H57 := hid (uids_any (SlRow.kept HS.out (Keeps.of_below (F := fun _ => False) hb24) (by simp)) (by simp))
       rw [show ([(1, 7, 1, 0)] : List Ch).length = 1 from rfl] at H57
       have HB24 := hid hb24
       clear hb4 hb24)
    | (go_at_call 57
       go_must (with_reducible refine H57.out.mono ?_)
       rintro e w5 ⟨⟨a5, c5, rfl, -⟩, hb5⟩
       rw [usL_one]
       simp only [List.length_cons, List.length_nil, Nat.zero_add]
       have HB5 := hid hb5
       clear hb5))
  go_ret
  exact ⟨rfl, HK.out.trans ((HB.out.trans ((HB24.out.trans (HB5.out.mono HB24.out.size)).mono HB.out.size)).mono HK.out.size)⟩
end Go.Proofs.Ytnceglkoolfncaa.Rl
