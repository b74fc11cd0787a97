/- Relist: sandboxes among the arguments. -/
import Derived.Test.YtnceglkoolfncaaOp
import Derived.Test.YtnceglkoolfncaaPRelistNonex0
set_option linter.unusedSimpArgs false
set_option linter.unusedVariables false
namespace Go.Proofs.Ytnceglkoolfncaa.Rl
open Go.RowKit Go.Pv Go.Proofs.YtnceglkoolfncaaW.PrintWords

abbrev o3 := opn_int (P := Try.prog) Try.underlying3
theorem opn110 : Opn Try.prog 110 PRelistNone.k110 (fun _ => True) := by
  refine (opn_iso (fun x : Int × Int × Int => (⟨x.1, x.2.1, x.2.2⟩ : PRelistNone.S110)) (fun _ => rfl) (opn_struct Try.underlying110 (by kernel_rfl) (.cons rfl (by kernel_rfl) o3 (.cons rfl (by kernel_rfl) o3 (.last rfl (by kernel_rfl) o3))))).mono (fun _ _ => trivial)
theorem opn112 : Opn Try.prog 112 PRelistNone.k112 (fun _ => True) := by
  refine (opn_iso (fun x : Int × ByteArray × ByteArray × PRelistNone.S110 × Bool => (⟨x.1, x.2.1, x.2.2.1, x.2.2.2.1, x.2.2.2.2⟩ : PRelistNone.S112)) (fun _ => rfl) (opn_struct Try.underlying112 (by kernel_rfl) (.cons rfl (by kernel_rfl) o3 (.cons rfl (by kernel_rfl) (opn_string Try.underlying9) (.cons rfl (by kernel_rfl) (opn_string Try.underlying9) (.cons rfl (by kernel_rfl) opn110 (.last rfl (by kernel_rfl) (opn_bool Try.underlying4)))))))).mono (fun _ _ => trivial)
theorem opn106 : Opn Try.prog 106 (Kd.slice 112 PRelistNone.k112) (fun _ => True) := (opn_slice Try.underlying106 (by kernel_rfl) opn112).mono (fun _ _ => trivial)
theorem opn108 : Opn Try.prog 108 PRelistNone.k108 (fun _ => True) := by
  refine (opn_iso (fun x : Int × Int × Int × List PRelistNone.S112 => (⟨x.1, x.2.1, x.2.2.1, x.2.2.2⟩ : PRelistNone.S108)) (fun _ => rfl) (opn_struct Try.underlying108 (by kernel_rfl) (.cons rfl (by kernel_rfl) o3 (.cons rfl (by kernel_rfl) o3 (.cons rfl (by kernel_rfl) o3 (.last rfl (by kernel_rfl) opn106)))))).mono (fun _ _ => trivial)
theorem opn99 : Opn Try.prog 99 (Kd.slice 108 PRelistNone.k108) (fun _ => True) := (opn_slice Try.underlying99 (by kernel_rfl) opn108).mono (fun _ _ => trivial)
end Go.Proofs.Ytnceglkoolfncaa.Rl
