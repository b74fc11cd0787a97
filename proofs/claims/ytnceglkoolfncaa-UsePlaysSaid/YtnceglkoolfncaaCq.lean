/- Use: acts, boxes. -/
import Derived.Test.YtnceglkoolfncaaCh
set_option linter.unusedSimpArgs false
set_option linter.unusedVariables false
namespace Go.Proofs.Ytnceglkoolfncaa.Us
open Go.RowKit Go.Pv Go.Proofs.Ytnceglkoolfncaa.Po Go.Proofs.YtnceglkoolfncaaW.PrintWords Go.Proofs.YtnceglkoolfncaaW.PrintLast Go.Proofs.Ytnceglkoolfncaa.Pr

/-- An act: kind, sandbox, container, resources. -/
abbrev AT := Int × Int × Int × Int × Int × Int
def k147 : Kd AT := Kd.pair (Kd.int .i64) (Kd.pair (Kd.int .i64) (Kd.pair (Kd.int .i64) (Kd.pair (Kd.int .i64) (Kd.pair (Kd.int .i64) (Kd.int .i64)))))
theorem k147_open {w : World} {x : AT} {cs : List Value} (h : k147.K w x cs) : cs = [.int .i64 x.1, .int .i64 x.2.1, .int .i64 x.2.2.1, .int .i64 x.2.2.2.1, .int .i64 x.2.2.2.2.1, .int .i64 x.2.2.2.2.2] := by
  obtain ⟨_, _, rfl, rfl, _, _, rfl, rfl, _, _, rfl, rfl, _, _, rfl, rfl, _, _, rfl, rfl, rfl⟩ := h
  rfl
theorem opn145 : Opn Try.prog 145 (Kd.pair (Kd.int .i64) (Kd.pair (Kd.int .i64) (Kd.int .i64))) (fun _ => True) :=
  (opn_struct Try.underlying145 (by kernel_rfl) (.cons rfl (by kernel_rfl) (opn_int (P := Try.prog) Try.underlying3) (.cons rfl (by kernel_rfl) (opn_int (P := Try.prog) Try.underlying3) (.last rfl (by kernel_rfl) (opn_int (P := Try.prog) Try.underlying3))))).mono (fun _ _ => trivial)
theorem opn147 : Opn Try.prog 147 k147 (fun _ => True) :=
  (opn_struct Try.underlying147 (by kernel_rfl) (.cons rfl (by kernel_rfl) (opn_int (P := Try.prog) Try.underlying3) (.cons rfl (by kernel_rfl) (opn_int (P := Try.prog) Try.underlying3) (.cons rfl (by kernel_rfl) (opn_int (P := Try.prog) Try.underlying3) (.last rfl (by kernel_rfl) opn145))))).mono (fun _ _ => trivial)
theorem opn140 : Opn Try.prog 140 (Kd.slice 147 k147) (fun _ => True) := (opn_slice Try.underlying140 (by kernel_rfl) opn147).mono (fun _ _ => trivial)

/-- The act's box. -/
def BxU (w : World) (g : Nat) (a : AT) : Prop := w.heap[g]? = some (.cells #[.int .i64 a.1, .int .i64 a.2.1, .int .i64 a.2.2.1, .int .i64 a.2.2.2.1, .int .i64 a.2.2.2.2.1, .int .i64 a.2.2.2.2.2] 147 (0, 0))
theorem BxU.cells {w : World} {g : Nat} {a : AT} (h : BxU w g a) : w.cell? ⟨g, 0, none⟩ = some (.int .i64 a.1) ∧ w.cell? ⟨g, 1, none⟩ = some (.int .i64 a.2.1) ∧ w.cell? ⟨g, 2, none⟩ = some (.int .i64 a.2.2.1) ∧ w.cell? ⟨g, 3, none⟩ = some (.int .i64 a.2.2.2.1) ∧ w.cell? ⟨g, 4, none⟩ = some (.int .i64 a.2.2.2.2.1) ∧ w.cell? ⟨g, 5, none⟩ = some (.int .i64 a.2.2.2.2.2) := by
  refine ⟨?_, ?_, ?_, ?_, ?_, ?_⟩ <;> (rw [cell_of_row w g _ _ _ _ h]; rfl)
def B145 (V : World) (g : Nat) (r : R3) : Prop := V.heap[g]? = some (.cells #[.int .i64 r.1, .int .i64 r.2.1, .int .i64 r.2.2] 145 (0, 0))
theorem B145.later {V V' : World} {g : Nat} {r : R3} (h : B145 V g r) (hb : Below V.heap.size V V') : B145 V' g r := (hb.block g (Array.getElem?_eq_some_iff.1 h).1).trans h
end Go.Proofs.Ytnceglkoolfncaa.Us
