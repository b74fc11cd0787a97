/- The log of events: the chapter's example. -/
import Derived.Test.YtnceglkoolfncaaEg
namespace Go.Proofs.Ytnceglkoolfncaa.Ev
open Go.RowKit Go.Pv

abbrev zev (r : Int) : List Value := [.int .i64 0, .int .u64 r, .int .i64 0, .int .u64 0, .string ⟨#[]⟩, .slice none 0 0, .slice none 0 0, .slice none 0 0, .int .i64 0, .int .i64 0, .int .i64 0, .int .i64 0, .slice none 0 0, .int .i64 0, .int .i64 0]
theorem zev_ok (r : Int) : EvOk (zev r) := ⟨rfl, by simp [Value.oneCell'], rfl⟩
theorem rev_zev (r : Int) : revOf (zev r) = r := rfl

theorem new2 (w : World) : Calls Try.prog 22 #[.int .i64 2] w fun e w' => e = .returned (.pointer (some ⟨w.heap.size + 1, 0, none⟩)) ∧ LogAt w' (w.heap.size + 1) w.heap.size 2 0 0 0 [] ∧ Keeps (fun _ => False) w w' ∧ w'.heap.size = w.heap.size + 2 := new_any w 2

theorem from_34 {k : Nat} (h : IsFrom 1 [zev 3, zev 4] k) : k = 0 := by
  rcases Nat.eq_zero_or_pos k with h0 | h0
  · exact h0
  · have := h.2.1 0 h0
    simp [above, rev_zev] at this

theorem two_form {w : World} {v : Value} (h : SlEv w v [zev 3, zev 4]) : ∃ b o c, v = .slice (some ⟨b, o, none⟩) 2 c ∧ w.cell? ⟨b, o + 1, none⟩ = some (.int .u64 3) := by
  rcases SlRow.form h with ⟨_, hn⟩ | ⟨b, o, c, hv⟩
  · simp at hn
  · exact ⟨b, o, c, hv, SlRow.cells h hv 1 _ rfl⟩

set_option maxRecDepth 10000 in
set_option maxHeartbeats 1000000 in
theorem works_any (w : World) : Calls Try.prog 21 #[] w fun e w' => e = .returned (.bool true) ∧ Below w.heap.size w w' := by
  have h22 := hid (new2 w)
  go_enter Try.func21, Try.ntmps21
  go_wp2_with (first
    | (go_at_call 22
       go_must (
        refine h22.out.mono ?_
        rintro e w1 ⟨rfl, hl1, hk1, -⟩
        have A1 := hid (add_room hl1 (by simp) (zev 1) (zev_ok 1) (by rw [rev_zev]; omega))
        have K1 := hid (Keeps.below (B := w.heap.size) hk1 (Nat.le_refl _) (by simp))
        clear hl1 hk1))
    | (go_at_call 23
       refine A3.out.mono ?_
       rintro e w4 ⟨rfl, hl4, hk4⟩
       have hl5 : LogAt w4 (w.heap.size + 1) w.heap.size 2 1 1 4 [zev 3, zev 4] := hl4
       have S := hid (since_old hl5 0 (by omega))
       have L4 := hid hl5
       have K4 := hid (K3.out.trans (Keeps.below (B := w.heap.size) (hk4) (K3.out.size) (by omega)))
       clear hl4 hl5 hk4)
    | (go_at_call 23
       refine A2.out.mono ?_
       rintro e w3 ⟨rfl, hl3, hk3⟩
       have A3 := hid (add_full (e0 := zev 1) hl3 rfl (zev 4) (zev_ok 4) (by rw [rev_zev, rev_zev]; omega))
       have K3 := hid (K2.out.trans (Keeps.below (B := w.heap.size) hk3 (K2.out.size) (by omega)))
       clear hl3 hk3)
    | (go_at_call 23
       refine A1.out.mono ?_
       rintro e w2 ⟨rfl, hl2, hk2⟩
       have A2 := hid (add_room hl2 (by simp) (zev 3) (zev_ok 3) (by rw [rev_zev, rev_zev]; omega))
       have K2 := hid (K1.out.trans (Keeps.below (B := w.heap.size) hk2 (K1.out.size) (by omega)))
       clear hl2 hk2)
    | (go_at_call 98
       go_must (
        refine S.out.mono ?_
        rintro e w5 ⟨⟨sv, rfl⟩, hb5⟩
        have hl5 := L4.out.kept (F := fun _ => False) (Keeps.of_below hb5) (by simp) (by simp)
        have AF := hid (after_yes hl5 (by simp [Rising, rev_zev]) 1 9 (by omega))
        have L5 := hid hl5
        have K5 := hid (K4.out.trans (hb5.mono K4.out.size))
        clear hb5 hl5))
    | (go_at_call 26
       go_must (
        refine AF.out.mono ?_
        rintro e w6 ⟨v, k, rfl, hk, hs, -, hb6⟩
        have hl6 := L5.out.kept (F := fun _ => False) (Keeps.of_below hb6) (by simp) (by simp)
        have k0 := from_34 hk
        rw [k0] at hs
        obtain ⟨b, o, c, rfl, hc⟩ := two_form hs
        have FL := hid (floor_any hl6)
        have K6 := hid (K5.out.trans (hb6.mono K5.out.size))
        clear hk hs hb6 k0 hl6))
    | (go_at_call 27; go_must (refine FL.out.mono ?_; rintro e w7 ⟨rfl, rfl⟩)))
  go_ret
  exact ⟨rfl, K6.out⟩
end Go.Proofs.Ytnceglkoolfncaa.Ev
