/- The table of ports: the chapter's example; the law PortOne. -/
import Derived.Test.YtnceglkoolfncaaPk
import Derived.Deep.DeepCutAuto
namespace Go.Proofs.Ytnceglkoolfncaa.Po
open Go.RowKit Go.Pv

theorem rd_one {w : World} {b : Nat} (x : Int) (h : w.heap[b]? = some (.cells #[.int .i64 x] 3 (0, 0))) (c : Nat) : Rd w 1 encI (.slice (some ⟨b, 0, none⟩) 1 c) [x] := by
  refine .inr ⟨b, 0, c, rfl, (Array.getElem?_eq_some_iff.1 h).1, fun i y hy j u hu => ?_⟩
  cases i with
  | succ i => simp at hy
  | zero =>
    simp at hy; subst hy
    cases j with
    | succ j => simp [encI] at hu
    | zero => simp [encI] at hu; subst hu; rw [cell_of_row w b _ _ _ _ h]; rfl

theorem rd_two {w : World} {b : Nat} (x y : Int) (h : w.heap[b]? = some (.cells #[.int .i64 x, .int .i64 y] 3 (0, 0))) (c : Nat) : Rd w 1 encI (.slice (some ⟨b, 0, none⟩) 2 c) [x, y] := by
  refine .inr ⟨b, 0, c, rfl, (Array.getElem?_eq_some_iff.1 h).1, fun i z hz j u hu => ?_⟩
  match i, hz with
  | 0, hz =>
    simp at hz; subst hz
    cases j with
    | succ j => simp [encI] at hu
    | zero => simp [encI] at hu; subst hu; rw [cell_of_row w b _ _ _ _ h]; rfl
  | 1, hz =>
    simp at hz; subst hz
    cases j with
    | succ j => simp [encI] at hu
    | zero => simp [encI] at hu; subst hu; rw [cell_of_row w b _ _ _ _ h]; rfl
  | i + 2, hz => simp at hz

theorem takes1 : takeRes 1 [80] [] = (0, [(80, 1)]) := by decide
theorem takes2 : takeRes 2 [443, 80] [(80, 1)] = (150, [(80, 1)]) := by decide

theorem new_inv (w : World) : Calls Try.prog 30 #[] w fun e w' => e = .returned (.pointer (some ⟨w.heap.size, 0, none⟩)) ∧ PInv w.heap.size w w.heap.size [] (.slice none 0 0) [] w' ∧ w'.heap.size = w.heap.size + 1 :=
  (new_any w).mono fun e w' ⟨a, b, c, d⟩ => ⟨a, ⟨⟨_, b, by simp [Value.ownBlock]⟩, Nat.le_refl _, SlRow.nil _ _ _, by simp [Value.ownBlock], c.below (Nat.le_refl _) (by simp)⟩, d⟩

set_option maxRecDepth 10000 in
theorem works_any (w : World) : Calls Try.prog 31 #[] w fun e w' => e = .returned (.bool true) ∧ Below w.heap.size w w' := by
  have h30 := hid (new_inv w)
  go_enter Try.func31, Try.ntmps31
  go_wp2_with (first
    | (go_at_call 30; refine h30.out.mono ?_; rintro e w2 ⟨rfl, hT, hs2⟩; have z2 : w.heap.size ≤ w2.heap.size := by omega
       have h1 := take_inv (hT.alloc z2 (.cells #[.int .i64 80] 3)) (by simp; omega) (rd_one 80 (heap_at _ _ _ rfl) 1) (by simp) 1
       rw [takes1] at h1; have H1 := hid h1; clear h1 hT hs2)
    | (go_at_call_of 33 (Value.int .i64 1); refine H1.out.mono ?_; rintro e w3 ⟨rfl, hT, hk⟩; have z3 : w.heap.size ≤ w3.heap.size := by have := hk.size; simp at this; omega
       have h1 := take_inv (hT.alloc z3 (.cells #[.int .i64 443, .int .i64 80] 3)) (by simp; omega) (rd_two 443 80 (heap_at _ _ _ rfl) 2) (by simp) 2
       rw [takes2] at h1; have H2 := hid h1; clear h1 hT hk)
    | (go_at_call_of 33 (Value.int .i64 2); refine H2.out.mono ?_; rintro e w4 ⟨rfl, hT, hk⟩; have z4 : w.heap.size ≤ w4.heap.size := by have := hk.size; simp at this; omega
       have H3 := hid (len_inv hT); have H4 := hid (owner_inv hT z4 (by simp) 80); clear hT hk)
    | (go_at_call 36; refine H3.out.mono ?_; rintro e w5 ⟨rfl, rfl⟩)
    | (go_at_call_of 37 (Value.int .i64 80); refine H4.out.mono ?_; rintro e w6 ⟨rfl, hT, hk⟩; have z6 : w.heap.size ≤ w6.heap.size := by have := hk.size; omega
       have H5 := hid (owner_inv hT z6 (by simp) 443); clear hT hk)
    | (go_at_call_of 37 (Value.int .i64 443); refine H5.out.mono ?_; rintro e w7 ⟨rfl, hT, hk⟩; have HB := hid hT.below; clear hT hk))
  go_ret
  exact ⟨rfl, HB.out⟩
end Go.Proofs.Ytnceglkoolfncaa.Po
