/- Probes: the sort of the pairs. -/
import Derived.Test.YtnceglkoolfncaaBe
import Derived.Test.YtnceglkoolfncaaKg
import Derived.Shelf.SlSortCmp.NoneTotal
set_option linter.unusedSimpArgs false
set_option linter.unusedVariables false
namespace Go.Proofs
open Go.Shelf
def Try.pairSort_ren : Go.Shelf.Ren := ⟨fun | 6 => 121 | 15 => 157 | 14 => 158 | 28 => 177 | 29 => 178 | 20 => 179 | 21 => 180 | 22 => 181 | 23 => 182 | 24 => 183 | 25 => 184 | 26 => 185 | 27 => 186 | 46 => 196 | 47 => 192 | 48 => 193 | 49 => 197 | 50 => 198 | 57 => 202 | n => n, fun | 22 => 136 | 24 => 208 | 25 => 216 | 3 => 3 | 39 => 250 | 0 => 0 | 53 => 266 | 55 => 41 | 4 => 4 | 46 => 260 | 45 => 259 | 50 => 182 | 5 => 5 | 9 => 9 | 66 => 275 | 70 => 278 | 76 => 284 | 77 => 285 | n => n, fun | n => n⟩
theorem Try.pairSort : Go.Proofs.SlLaysF0.n6 Try.prog Try.pairSort_ren := {
  mixed := by kernel_rfl,
  f6 := ⟨Try.f121.name, by decide, Try.func121.trans (congrArg some (by kernel_rfl))⟩,
  f14 := ⟨Try.f158.name, by decide, Try.func158.trans (congrArg some (by kernel_rfl))⟩,
  f15 := Try.func157.trans (congrArg some (by kernel_rfl)),
  f20 := ⟨Try.f179.name, by decide, Try.func179.trans (congrArg some (by kernel_rfl))⟩,
  f21 := ⟨Try.f180.name, by decide, Try.func180.trans (congrArg some (by kernel_rfl))⟩,
  f22 := ⟨Try.f181.name, by decide, Try.func181.trans (congrArg some (by kernel_rfl))⟩,
  f23 := ⟨Try.f182.name, by decide, Try.func182.trans (congrArg some (by kernel_rfl))⟩,
  f24 := ⟨Try.f183.name, by decide, Try.func183.trans (congrArg some (by kernel_rfl))⟩,
  f25 := ⟨Try.f184.name, by decide, Try.func184.trans (congrArg some (by kernel_rfl))⟩,
  f26 := ⟨Try.f185.name, by decide, Try.func185.trans (congrArg some (by kernel_rfl))⟩,
  f27 := ⟨Try.f186.name, by decide, Try.func186.trans (congrArg some (by kernel_rfl))⟩,
  f28 := Try.func177.trans (congrArg some (by kernel_rfl)),
  f29 := Try.func178.trans (congrArg some (by kernel_rfl)),
  f46 := ⟨Try.f196.name, by decide, Try.func196.trans (congrArg some (by kernel_rfl))⟩,
  f47 := Try.func192.trans (congrArg some (by kernel_rfl)),
  f48 := Try.func193.trans (congrArg some (by kernel_rfl)),
  f49 := ⟨Try.f197.name, by decide, Try.func197.trans (congrArg some (by kernel_rfl))⟩,
  f50 := ⟨Try.f198.name, by decide, Try.func198.trans (congrArg some (by kernel_rfl))⟩,
  f57 := ⟨Try.f202.name, by decide, Try.func202.trans (congrArg some (by kernel_rfl))⟩,
  t0 := Try.underlying0,
  a0 := Try.isAgg0,
  z0 := Try.sizeOf0,
  v0 := Try.zeroValue0,
  t3 := Try.underlying3,
  a3 := Try.isAgg3,
  z3 := Try.sizeOf3,
  v3 := Try.zeroValue3,
  t4 := Try.underlying4,
  a4 := Try.isAgg4,
  z4 := Try.sizeOf4,
  v4 := Try.zeroValue4,
  t5 := Try.underlying5,
  a5 := Try.isAgg5,
  z5 := Try.sizeOf5,
  v5 := Try.zeroValue5,
  t9 := Try.underlying9,
  a9 := Try.isAgg9,
  z9 := Try.sizeOf9,
  v9 := Try.zeroValue9,
  t22 := Try.underlying136,
  a22 := Try.isAgg136,
  z22 := Try.sizeOf136,
  v22 := Try.zeroValue136,
  t25 := Try.underlying216,
  a25 := Try.isAgg216,
  z25 := Try.sizeOf216,
  v25 := Try.zeroValue216,
  t39 := Try.underlying250,
  a39 := Try.isAgg250,
  z39 := Try.sizeOf250,
  v39 := Try.zeroValue250,
  t45 := Try.underlying259,
  a45 := Try.isAgg259,
  z45 := Try.sizeOf259,
  v45 := Try.zeroValue259,
  t46 := Try.underlying260,
  a46 := Try.isAgg260,
  z46 := Try.sizeOf260,
  v46 := Try.zeroValue260,
  t50 := Try.underlying182,
  a50 := Try.isAgg182,
  z50 := Try.sizeOf182,
  v50 := Try.zeroValue182,
  t53 := Try.underlying266,
  a53 := Try.isAgg266,
  z53 := Try.sizeOf266,
  v53 := Try.zeroValue266,
  t55 := Try.underlying41,
  a55 := Try.isAgg41,
  z55 := Try.sizeOf41,
  v55 := Try.zeroValue41,
  t66 := Try.underlying275,
  a66 := Try.isAgg275,
  z66 := Try.sizeOf275,
  v66 := Try.zeroValue275,
  t70 := Try.underlying278,
  a70 := Try.isAgg278,
  z70 := Try.sizeOf278,
  v70 := Try.zeroValue278,
  t76 := Try.underlying284,
  a76 := Try.isAgg284,
  z76 := Try.sizeOf284,
  v76 := Try.zeroValue284,
  t77 := Try.underlying285,
  a77 := Try.isAgg285,
  z77 := Try.sizeOf285,
  v77 := Try.zeroValue285 }

end Go.Proofs
namespace Go.Proofs.Ytnceglkoolfncaa.Pr
open Go.RowKit Go.Pv Go.Proofs.Ytnceglkoolfncaa.Po Go.Sort Go.Lib Go.Shelf

def encP (x : Int × Int) : List Value := [.int .i64 x.1, .int .i64 x.2]
theorem ltP (x y : Int × Int) : ltOf cP x y = (decide (x.1 < y.1) || (decide (x.1 = y.1) && decide (x.2 < y.2))) := by
  unfold ltOf cP compareInt
  by_cases h1 : x.1 < y.1
  · simp [h1]
  · by_cases h2 : y.1 < x.1
    · simp [h1, h2, show ¬ x.1 = y.1 by omega]
    · have e : x.1 = y.1 := by omega
      by_cases h3 : x.2 < y.2
      · simp [e, h3]
      · by_cases h4 : y.2 < x.2 <;> simp [e, h3, h4]
def leP (x y : Int × Int) : Bool := decide (x.1 < y.1) || (decide (x.1 = y.1) && decide (x.2 ≤ y.2))
theorem nltP (x y : Int × Int) : (!(ltOf cP) y x) = leP x y := by
  rw [ltP]
  unfold leP
  by_cases h1 : x.1 < y.1
  · simp [h1, show ¬ y.1 < x.1 by omega, show ¬ y.1 = x.1 by omega]
  · by_cases h2 : y.1 < x.1
    · simp [h1, h2, show ¬ x.1 = y.1 by omega]
    · have e : x.1 = y.1 := by omega
      by_cases h3 : y.2 < x.2
      · simp [e, h3]
      · simp [e, h3, show x.2 ≤ y.2 by omega]
theorem totP (x y : Int × Int) (h1 : ltOf cP x y = false) (h2 : ltOf cP y x = false) : x = y := by
  rw [ltP] at h1 h2
  simp only [Bool.or_eq_false_iff, Bool.and_eq_false_iff, decide_eq_false_iff_not] at h1 h2
  obtain ⟨a, b⟩ := x
  obtain ⟨c, d⟩ := y
  simp only [Prod.mk.injEq] at *
  omega
theorem swoP : SWO (ltOf cP) := by
  refine ⟨fun x => ?_, fun x y z h1 h2 => ?_, fun x y z h1 h2 => ?_⟩
  · rw [ltP]; simp
  · rw [ltP] at *
    simp only [Bool.or_eq_true, Bool.and_eq_true, decide_eq_true_eq] at *
    omega
  · rw [ltP] at *
    simp only [Bool.or_eq_false_iff, Bool.and_eq_false_iff, decide_eq_false_iff_not] at *
    omega
theorem sortP {w : World} {zs : List (Int × Int)} (blk off cap : Nat) (hH : HoldsK encP 2 w blk off zs.toArray) (hblk : blk < w.heap.size) (hsz : zs.length ≤ 1000000) :
    Calls Try.prog 121 #[.slice (some ⟨blk, off, none⟩) zs.length cap, .func (.func 122) #[] #[]] w fun e w' => e = .returned (.tuple #[]) ∧ HoldsK encP 2 w' blk off (zs.mergeSort leP).toArray ∧ Keeps (fun k => k = blk) w w' := by
  have eg : ∀ args w, (callFunc 122 args).run Try.prog w = .ok (.enter 122 args) w := enters_of Try.func122 (by kernel_rfl) rfl
  have h := AnyQ.slices_SortFunc_total Try.pairSort 2 Try.isAgg208 Try.sizeOf208 encP (fun _ => rfl) (fun x v hv => by simp [encP] at hv; rcases hv with rfl | rfl <;> rfl) cP swoP 122 #[] blk off cap zs.toArray w eg (fun m os dk hs x y => due1_any x y _) hH hblk (by simp; omega) totP
  refine (show Calls Try.prog 121 _ _ _ from h).mono ?_
  rintro e w' ⟨rfl, n, os, rfl⟩
  have hm : (zs.toArray.toList.mergeSort fun x y => !(ltOf cP) y x) = zs.mergeSort leP := congrArg (fun f => zs.mergeSort f) (funext fun x => funext fun y => nltP x y)
  rw [hm]
  refine ⟨rfl, holdsK_grow _ _ _ _ _ _ _ (by simpa [putRowK, putRow, mapBlock, Sort.ahead] using hblk) (holdsK_putRowK _ _ _ _ _ _ _ (holdsK_ahead _ _ _ _ _ _ _ hH) (by simp)), keepsGrow _ (keepsAheadLeft _ (keepsPut _ (Sort.ahead w n) _ _ _)) _⟩
theorem sortP_none {w : World} (p : Option Addr) (cap : Nat) (fv : Value) : Calls Try.prog 121 #[.slice p 0 cap, fv] w fun e w' => e = .returned (.tuple #[]) ∧ w' = w := AnyF.slices_SortFunc_none Try.pairSort p cap fv w
end Go.Proofs.Ytnceglkoolfncaa.Pr
