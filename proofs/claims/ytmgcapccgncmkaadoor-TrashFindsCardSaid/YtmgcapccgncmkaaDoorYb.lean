import Derived.Test.YtmgcapccgncmkaaDoorYa
namespace Go.Proofs.YtmgcapccgncmkaaDoor.PImgKeeps
open Go.RowKit Go.Proofs.YtmgcapccgncmkaaDoorW.PrintWords Go.Proofs.YtmgcapccgncmkaaDoorW.PrintLast Go.Proofs.YtmgcapccgncmkaaDoorW.PrintMore
attribute [local go_sem] max2_int min2_int max_two min_two max_three min_three max_four min_four   -- for this text's walks alone
set_option linter.unusedVariables false
set_option linter.unusedSimpArgs false

/-! ### provostref18_Next: function 62 -/
def provostref18_Next.l0 : Nat → List ByteArray → Int → List (S136) → Int → Option ((List (S136)) × Int × List ByteArray)
  | 0, _, _, _, _ => none
  | k + 1, x4, x5, x321000, x321001 => if x5 < (x321000.length : Int) then (if 0 ≤ x5 then (if ((rd_T136 x321000 x5).f1) = 0 then (provostref18_Next.l0 k x4 (wrap64 (x5 + 1)) x321000 x321001) else (if (wrap64 (((rd_T136 x321000 x5).f1) - 1)) = 0 then (if x4.length < 8796093022208 then ((provostref18_with.f x321000 x321001 x5 ((rd_T136 x321000 x5).f0) (wrap64 (((rd_T136 x321000 x5).f1) - 1)) ((rd_T136 x321000 x5).f2) x321001).bind fun bt327 => (provostref18_Next.l0 k (x4 ++ [(rd_T136 x321000 x5).f0]) (wrap64 (x5 + 1)) bt327.1 bt327.2)) else (none)) else ((provostref18_with.f x321000 x321001 x5 ((rd_T136 x321000 x5).f0) (wrap64 (((rd_T136 x321000 x5).f1) - 1)) ((rd_T136 x321000 x5).f2) ((rd_T136 x321000 x5).f3)).bind fun bt331 => (provostref18_Next.l0 k x4 (wrap64 (x5 + 1)) bt331.1 bt331.2)))) else (none)) else (some (x321000, x321001, x4))
def provostref18_Next.f (k : Nat) (l0_0 : List (S136)) (a0_1 : Int) : Option ((List (S136)) × Int × List ByteArray) := provostref18_Next.l0 k ([] : List ByteArray) 0 l0_0 (wrap64 (a0_1 + 1))
end Go.Proofs.YtmgcapccgncmkaaDoor.PImgKeeps
