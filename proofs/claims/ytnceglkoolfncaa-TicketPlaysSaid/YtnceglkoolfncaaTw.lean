/- The book of tickets: the chapter's example. -/
import Derived.Test.YtnceglkoolfncaaTd
set_option linter.unusedSimpArgs false
set_option linter.unusedVariables false
namespace Go.Proofs.Ytnceglkoolfncaa
open Go.RowKit Go.Pv

theorem new_book (w : World) : Calls Try.prog 16 #[] w fun e w' => e = .returned (.pointer (some ⟨w.heap.size + 1, 0, none⟩)) ∧
    Book w' (w.heap.size + 1) (fun i => w.heap.size ≤ i ∧ i < w.heap.size + 2) [] w.heap.size 0 ∧ Below w.heap.size w w' ∧ w'.heap.size = w.heap.size + 2 := by
  refine (new_any w).mono ?_
  rintro e w' ⟨rfl, rfl⟩
  refine ⟨rfl, ⟨heap_alloc_at _ _ _ (by simp), (MapSl.made w ki 30 3 encT).kept ((Keeps.refl (fun _ => False) _).alloc _) (by simp) (by simp), by simp, by simp, by simp, by simp⟩, ?_, by simp⟩
  exact ((Below.refl _ w).alloc (Nat.le_refl _) _).alloc (by simp) _

theorem rl_aset_same (rows : TRows) (k : Int) (x : Value × List Tk) : rl (aset k x rows) k = x.2 := by unfold rl; rw [aget_aset_same]; rfl
theorem rl_aset_other (rows : TRows) {k j : Int} (h : j ≠ k) (x : Value × List Tk) : rl (aset k x rows) j = rl rows j := by unfold rl; rw [aget_aset_other h]
theorem rl_adel_same {rows : TRows} (hn : (rows.map (·.1)).Nodup) (k : Int) : rl (adel k rows) k = [] := by unfold rl; rw [aget_adel_same k hn]; rfl
theorem rl_adel_other (rows : TRows) {k j : Int} (h : j ≠ k) : rl (adel k rows) j = rl rows j := by unfold rl; rw [aget_adel_other h]

set_option maxRecDepth 10000 in
theorem works_any (w : World) : Calls Try.prog 15 #[] w fun e w' => e = .returned (.bool true) ∧ Below w.heap.size w w' := by
  have h16 := hid (new_book w)
  have n3 : nameB 3 = ⟨#[107, 105, 108, 108]⟩ := by simp [nameB]
  have n9 : nameB 9 = ⟨#[]⟩ := by simp [nameB]
  have a3 := fun w => name_any 3 w
  have a9 := fun w => name_any 9 w
  rw [n3] at a3
  rw [n9] at a9
  have A3 := hid a3
  have A9 := hid a9
  clear a3 a9 n3 n9
  go_enter Try.func15, Try.ntmps15
  go_wp2_with (first
    | (go_at_call 16; refine h16.out.mono ?_; rintro e w1 ⟨rfl, hB, hb1, hs1⟩; have HB := hid hB; have Hb1 := hid hb1; have Hs1 := hid hs1; clear hB hb1 hs1)
    | (go_at_call 17; refine (issue_yes HB.out (by omega) (by omega) 7 1 (by omega) (by omega) (by decide)).mono ?_; rintro e w2 ⟨v', F', rfl, hB, hk, hF⟩; have HB2 := hid hB; have HK2 := hid hk; have HF2 := hid hF; have z2 := hk.size; clear hB hk hF; unfold tkV; simp only [Int.zero_add])
    | (go_at_call 48; have h48 := head_any (HB2.out.alloc (.cells #[.int .i64 1, .int .i64 7, .int .i64 1] 30)).cells.1 (HB2.out.alloc (.cells #[.int .i64 1, .int .i64 7, .int .i64 1] 30)).map 7; rw [rl_aset_same] at h48; change Calls _ _ _ _ (fun e w' => e = .returned (.tuple #[.agg #[.int .i64 1, .int .i64 7, .int .i64 1], .bool true]) ∧ _) at h48; refine h48.mono ?_; clear h48; rintro e w3 ⟨rfl, hb⟩; obtain ⟨z3, c0, c1, c2, -, hb2⟩ := box3 hb; have HB3 := hid hb2; clear hb hb2)
    | (go_at_call_of 96 (Value.int .i64 3); refine (A3.out _).mono ?_; rintro e w4 ⟨rfl, rfl⟩)
    | (go_at_call_of 96 (Value.int .i64 9); refine (A9.out _).mono ?_; rintro e w4 ⟨rfl, rfl⟩))
  go_ret
  refine ⟨rfl, ?_⟩
  have h2 : Below w.heap.size w w2 := Hb1.out.trans (HK2.out.below (by have := Hs1.out; omega) (fun i hi => hi.1))
  have h3 := h2.size
  exact (h2.trans (HB3.out.mono h3)).alloc (by omega) _
end Go.Proofs.Ytnceglkoolfncaa
