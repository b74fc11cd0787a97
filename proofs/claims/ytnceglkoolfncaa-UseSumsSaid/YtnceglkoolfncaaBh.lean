/- Probes: the law's own due. -/
import Derived.Test.YtnceglkoolfncaaBg
set_option linter.unusedSimpArgs false
set_option linter.unusedVariables false
namespace Go.Proofs.Ytnceglkoolfncaa.Pr
open Go.RowKit Go.Pv Go.Proofs.Ytnceglkoolfncaa.Po Go.Sort

theorem DueAt.kept {w w' : World} {A : Option Addr} {L : List (Int × Int)} (h : DueAt w A L) (k : Below w.heap.size w w') : DueAt w' A L := fun i hi => by
  obtain ⟨b, o, rfl, hb, h1, h2⟩ := h i hi
  exact ⟨b, o, rfl, Nat.lt_of_lt_of_le hb k.size, (k.cell (p := ⟨b, o + i * 2, none⟩) hb).trans h1, (k.cell (p := ⟨b, o + i * 2 + 1, none⟩) hb).trans h2⟩
theorem below_drew_ {w wr : World} (h : Below w.heap.size w wr) : Below w.heap.size w wr.drew := ⟨h.os, h.tape, h.output, h.size, h.block⟩
theorem same_all {L M : List (Int × Int)} {i : Nat} (hl : L.length = M.length) (hi : i = L.length) (h : ∀ j, j < i → L[j]? = M[j]?) : L = M := by
  refine List.ext_getElem? fun j => ?_
  by_cases hj : j < i
  · exact h j hj
  · rw [List.getElem?_eq_none (by omega), List.getElem?_eq_none (by omega)]

set_option maxRecDepth 10000 in
set_option maxHeartbeats 4000000 in
theorem dueEq_any {w : World} {A B : Option Addr} {L M : List (Int × Int)} {c d : Nat} (hA : DueAt w A L) (hB : DueAt w B M) (hl : L.length ≤ 1000000) (hm : M.length ≤ 1000000) :
    Calls Try.prog 75 #[.slice A L.length c, .slice B M.length d] w fun e w' => e = .returned (.bool (decide (L = M))) ∧ Below w.heap.size w w' := by
  have HA := hid hA
  have HB := hid hB
  have HS := hid (And.intro hl hm)
  clear hA hB
  go_enter Try.func75, Try.ntmps75
  by_cases hne : L.length = M.length
  · have hn1 : ((L.length : Int) != (M.length : Int)) = false := by simp [hne]
    have HE := hid hne
    clear hne
    go_wp2
    go_loopg [5] L.length (fun g s5 wr => ∃ i : Nat, g = L.length - i ∧ i ≤ L.length ∧ s5 = .int .i64 i ∧ Hid (Below w.heap.size w wr) ∧ Hid (∀ j, j < i → L[j]? = M[j]?))
    case atStart => exact ⟨0, by omega, by omega, rfl, hid (Below.refl _ w), hid (fun j hj => by omega)⟩
    case round =>
      obtain ⟨i, rfl, hil, rfl, HW, HV⟩ := hrel
      by_cases hlt : i < L.length
      · have hlt2 : i < M.length := by have := HE.out; omega
        obtain ⟨b1, o1, ha1, hb1, p0, p1⟩ := (HA.out.kept (below_drew_ HW.out)) i hlt
        obtain ⟨b2, o2, ha2, hb2, q0, q1⟩ := (HB.out.kept (below_drew_ HW.out)) i hlt2
        subst ha1
        subst ha2
        obtain ⟨⟨x, y⟩, hx⟩ : ∃ x, x = L[i] := ⟨_, rfl⟩
        obtain ⟨⟨u, v⟩, hu⟩ : ∃ u, u = M[i] := ⟨_, rfl⟩
        rw [← hx] at p0 p1
        rw [← hu] at q0 q1
        have HX := hid (And.intro hx hu)
        clear hx hu
        have E0 : (Op.equalIn 10000 208 (.agg #[.int .i64 x, .int .i64 y]) (.agg #[.int .i64 u, .int .i64 v])).run Try.prog wr.drew = .ok (decide ((x, y) = (u, v))) wr.drew :=
          kp_equal Try.underlying208 Try.underlying3 (by kernel_rfl) (by kernel_rfl) (fun w a b => ⟨by kernel_rfl, by kernel_rfl⟩) wr.drew (x, y) (u, v)
        by_cases hxu : (x, y) = (u, v)
        · have d1 : decide ((x, y) = (u, v)) = true := by simpa using hxu
          have HXU := hid hxu
          rw [d1] at E0
          clear hxu d1
          go_wp2_with fail
          go_region_with fail
          all_goals go_wp2
          all_goals
            go_roundg (L.length - (i + 1))
            case measure => omega
            case rel =>
              refine ⟨i + 1, rfl, by omega, by go_num, hid (below_drew_ HW.out), hid fun j hj => ?_⟩
              by_cases hji : j = i
              · subst hji
                rw [List.getElem?_eq_getElem hlt, List.getElem?_eq_getElem hlt2, ← HX.out.1, ← HX.out.2, HXU.out]
              · exact HV.out j (by omega)
        · have d1 : decide ((x, y) = (u, v)) = false := by simpa using hxu
          have HXU := hid hxu
          rw [d1] at E0
          clear hxu d1
          go_wp2_with fail
          go_region_with fail
          all_goals go_wp2
          all_goals
            go_ret
            refine ⟨?_, below_drew_ HW.out⟩
            have hLM : ¬ L = M := fun e => HXU.out (by subst e; rw [HX.out.1, HX.out.2])
            rw [show decide (L = M) = false by simpa using hLM]; rfl
      · have hie : i = L.length := by omega
        have hnl : ¬ ((i : Int) < (L.length : Int)) := by omega
        go_wp2_with fail
        go_ret
        refine ⟨?_, HW.out⟩
        rw [show decide (L = M) = true by simpa using same_all HE.out hie HV.out]; rfl
  · have hn1 : ((L.length : Int) != (M.length : Int)) = true := by simp; omega
    go_wp2
    go_ret
    refine ⟨?_, Below.refl _ _⟩
    have hLM : ¬ L = M := fun e => hne (by rw [e])
    rw [show decide (L = M) = false by simpa using hLM]; rfl
end Go.Proofs.Ytnceglkoolfncaa.Pr
