/- Pairs of numbers: compared, sorted, laid in a slice. -/
import Derived.Test.YtnceglkoolfncaaLib
import Derived.Shelf.SlSortCmp.NoneTotal
import Derived.Shelf.SlicesG.Cmp
import Derived.Sort.Grow
import Derived.Test.YtnceglkoolfncaaKp
import Derived.Test.YtnceglkoolfncaaPa
import Derived.Test.YtnceglkoolfncaaRi
set_option linter.unusedSimpArgs false
set_option linter.unusedVariables false
namespace Go.Pv
open Go Go.RowKit Go.Shelf Go.Sort Go.Lib Go.Proofs
theorem keepsPut {α : Type} [Inhabited α] (enc : α → Value) (w : World) (blk off : Nat) (d : Array α) : Keeps (fun k => k = blk) w (putRow enc w blk off d) := by
  refine ⟨rfl, rfl, rfl, ?_, fun k _ hk => ?_⟩
  · simp [putRow, mapBlock]
  · simp only [putRow, mapBlock, Array.getElem?_modify]
    rw [if_neg (fun e => hk e.symm)]
theorem keepsGrow (F : Nat → Prop) {a w : World} (h : Keeps F a w) (os : Array Obj) : Keeps F a (grow w os) :=
  ⟨h.os, h.tape, h.output, by have := h.size; simp [grow]; omega, fun k hk hn => by rw [heap_grow_old w os (Nat.lt_of_lt_of_le hk h.size)]; exact h.block k hk hn⟩
theorem keepsAhead (F : Nat → Prop) {a w : World} (h : Keeps F a w) (n : Nat) : Keeps F a (Sort.ahead w n) := ⟨h.os, h.tape, h.output, h.size, h.block⟩
theorem keepsAheadLeft (F : Nat → Prop) {a w : World} {n : Nat} (h : Keeps F (Sort.ahead a n) w) : Keeps F a w := ⟨h.os, h.tape, h.output, h.size, h.block⟩
end Go.Pv
set_option linter.unusedSimpArgs false
set_option linter.unusedVariables false
namespace Go.Proofs
open Go.Shelf
def Try.cmpInt2_ren : Go.Shelf.Ren := ⟨fun | 5 => 144 | 7 => 164 | n => n, fun | 22 => 3 | 3 => 3 | 4 => 4 | n => n, fun | n => n⟩
theorem Try.cmpInt2 : Go.Proofs.SlLaysC2.n5 Try.prog Try.cmpInt2_ren := {
  mixed := by kernel_rfl,
  f5 := ⟨Try.f144.name, by decide, Try.func144.trans (congrArg some (by kernel_rfl))⟩,
  f7 := ⟨Try.f164.name, by decide, Try.func164.trans (congrArg some (by kernel_rfl))⟩,
  t3 := Try.underlying3,
  a3 := Try.isAgg3,
  z3 := Try.sizeOf3,
  v3 := Try.zeroValue3,
  t4 := Try.underlying4,
  a4 := Try.isAgg4,
  z4 := Try.sizeOf4,
  v4 := Try.zeroValue4,
  t22 := Try.underlying3,
  a22 := Try.isAgg3,
  z22 := Try.sizeOf3,
  v22 := Try.zeroValue3 }

end Go.Proofs
namespace Go.Proofs.Ytnceglkoolfncaa.Pr
open Go.RowKit Go.Pv Go.Proofs.Ytnceglkoolfncaa.Po Go.Sort

/-- slices.Compare of two pairs. -/
def cP (x y : Int × Int) : Int := if Lib.compareInt x.1 y.1 = 0 then Lib.compareInt x.2 y.2 else Lib.compareInt x.1 y.1
theorem cmp_zero {x y : Int} : Lib.compareInt x y = 0 ↔ x = y := by
  unfold Lib.compareInt
  constructor
  · intro h
    split at h
    · cases h
    · split at h
      · cases h
      · omega
  · intro h
    subst h
    simp
theorem cmp144_any (x y : Int) (w : World) : Calls Try.prog 144 #[.int .i64 x, .int .i64 y] w fun e w' => e = .returned (.int .i64 (Lib.compareInt x y)) ∧ w' = w := by
  have hcon := AnyG.cmp_Compare_int Try.cmpInt2 x y w
  exact hcon

set_option maxRecDepth 10000 in
set_option maxHeartbeats 4000000 in
theorem cmp123_any {w : World} {p q : Nat} {a b c d : Int} (hp0 : w.cell? ⟨p, 0, none⟩ = some (.int .i64 a)) (hp1 : w.cell? ⟨p, 1, none⟩ = some (.int .i64 b)) (hq0 : w.cell? ⟨q, 0, none⟩ = some (.int .i64 c)) (hq1 : w.cell? ⟨q, 1, none⟩ = some (.int .i64 d)) :
    Calls Try.prog 123 #[.slice (some ⟨p, 0, none⟩) 2 2, .slice (some ⟨q, 0, none⟩) 2 2] w fun e w' => e = .returned (.int .i64 (cP (a, b) (c, d))) ∧ w' = w := by
  have HA := hid (cmp144_any a c w)
  have HB := hid (cmp144_any b d w)
  go_enter Try.func123, Try.ntmps123
  go_wp2_with fail
  go_loopg [11] 2 (fun g s11 wr => wr = w ∧ ((g = 2 ∧ s11 = .int .i64 0) ∨ (g = 1 ∧ s11 = .int .i64 1 ∧ Hid (Lib.compareInt a c = 0)) ∨ (g = 0 ∧ s11 = .int .i64 2 ∧ Hid (Lib.compareInt a c = 0) ∧ Hid (Lib.compareInt b d = 0))))
  case atStart => exact ⟨rfl, .inl ⟨rfl, rfl⟩⟩
  case round =>
    obtain ⟨rfl, ⟨rfl, rfl⟩ | ⟨rfl, rfl, H1⟩ | ⟨rfl, rfl, H1, H2⟩⟩ := hrel
    · go_wp2_with (go_at_call 144; go_must (with_reducible refine HA.out.mono ?_); rintro e w2 ⟨rfl, rfl⟩; cases h0 : (Lib.compareInt a c == 0))
      · go_ret
        refine ⟨?_, rfl⟩
        simp only [beq_eq_false_iff_ne, ne_eq] at h0
        rw [show cP (a, b) (c, d) = Lib.compareInt a c from if_neg h0]; rfl
      · go_roundg 1
        case measure => omega
        case rel => exact ⟨rfl, .inr (.inl ⟨rfl, rfl, hid (by simpa using h0)⟩)⟩
    · go_wp2_with (go_at_call 144; go_must (with_reducible refine HB.out.mono ?_); rintro e w2 ⟨rfl, rfl⟩; cases h0 : (Lib.compareInt b d == 0))
      · go_ret
        refine ⟨?_, rfl⟩
        rw [show cP (a, b) (c, d) = Lib.compareInt b d from if_pos H1.out]; rfl
      · go_roundg 0
        case measure => omega
        case rel => exact ⟨rfl, .inr (.inr ⟨rfl, rfl, H1, hid (by simpa using h0)⟩)⟩
    · go_wp2_with fail
      go_ret
      refine ⟨?_, rfl⟩
      rw [show cP (a, b) (c, d) = 0 from (if_pos H1.out).trans H2.out]; rfl

set_option maxRecDepth 10000 in
theorem due1_any (x y : Int × Int) (W : World) : Calls Try.prog 122 #[kp x, kp y] W fun e w' => e = .returned (.int .i64 (cP x y)) ∧ ∃ q os', w' = grow (W.drewN q) os' := by
  obtain ⟨a, b⟩ := x
  obtain ⟨c, d⟩ := y
  unfold kp
  have HC : Hid (∀ V : World, V.heap = ((W.alloc (.cells #[.int .i64 a, .int .i64 b] 208)).alloc (.cells #[.int .i64 c, .int .i64 d] 208)).heap → Calls Try.prog 123 #[.slice (some ⟨W.heap.size, 0, none⟩) 2 2, .slice (some ⟨W.heap.size + 1, 0, none⟩) 2 2] V fun e w' => e = .returned (.int .i64 (cP (a, b) (c, d))) ∧ w' = V) := hid fun V hV => by
    have h1 : V.heap[W.heap.size]? = some (.cells #[.int .i64 a, .int .i64 b] 208) := by
      rw [hV, Below.heap_alloc _ _ _ (by simp)]; exact heap_alloc_new W _
    have h2 : V.heap[W.heap.size + 1]? = some (.cells #[.int .i64 c, .int .i64 d] 208) := by
      rw [hV]; simpa using heap_alloc_new (W.alloc (.cells #[.int .i64 a, .int .i64 b] 208)) (.cells #[.int .i64 c, .int .i64 d] 208)
    exact cmp123_any (by rw [cell_of_row V _ 0 _ _ _ h1]; rfl) (by rw [cell_of_row V _ 1 _ _ _ h1]; rfl) (by rw [cell_of_row V _ 0 _ _ _ h2]; rfl) (by rw [cell_of_row V _ 1 _ _ _ h2]; rfl)
  go_enter Try.func122, Try.ntmps122
  go_wp2_with fail
  go_region_with (go_at_call 123; refine (HC.out _ (by rfl)).mono ?_; rintro e w1 ⟨rfl, rfl⟩)
  all_goals go_wp2
  go_ret
  exact ⟨rfl, 1, _, by rw [alloc_eq_grow, alloc_eq_grow, grow_grow, drew_grow]; rfl⟩
end Go.Proofs.Ytnceglkoolfncaa.Pr
set_option linter.unusedSimpArgs false
set_option linter.unusedVariables false
namespace Go.Proofs
open Go.Shelf
def Try.pairSort_ren : Go.Shelf.Ren := ⟨fun | 6 => 121 | 15 => 157 | 14 => 158 | 28 => 177 | 29 => 178 | 20 => 179 | 21 => 180 | 22 => 181 | 23 => 182 | 24 => 183 | 25 => 184 | 26 => 185 | 27 => 186 | 46 => 196 | 47 => 192 | 48 => 193 | 49 => 197 | 50 => 198 | 57 => 202 | n => n, fun | 22 => 136 | 24 => 208 | 25 => 216 | 3 => 3 | 39 => 250 | 0 => 0 | 53 => 266 | 55 => 41 | 4 => 4 | 46 => 260 | 45 => 259 | 50 => 182 | 5 => 5 | 9 => 9 | 66 => 275 | 70 => 278 | 76 => 284 | 77 => 285 | n => n, fun | n => n⟩
theorem Try.pairSort : Go.Proofs.SlLaysF0.n6 Try.prog Try.pairSort_ren := {
  mixed := by kernel_rfl,
  f6 := ⟨Try.f121.name, by decide, Try.func121.trans (congrArg some (by kernel_rfl))⟩,
  f14 := ⟨Try.f158.name, by decide, Try.func158.trans (congrArg some (by kernel_rfl))⟩,
  f15 := Try.func157.trans (congrArg some (by kernel_rfl)),
  f20 := ⟨Try.f179.name, by decide, Try.func179.trans (congrArg some (by kernel_rfl))⟩,
  f21 := ⟨Try.f180.name, by decide, Try.func180.trans (congrArg some (by kernel_rfl))⟩,
  f22 := ⟨Try.f181.name, by decide, Try.func181.trans (congrArg some (by kernel_rfl))⟩,
  f23 := ⟨Try.f182.name, by decide, Try.func182.trans (congrArg some (by kernel_rfl))⟩,
  f24 := ⟨Try.f183.name, by decide, Try.func183.trans (congrArg some (by kernel_rfl))⟩,
  f25 := ⟨Try.f184.name, by decide, Try.func184.trans (congrArg some (by kernel_rfl))⟩,
  f26 := ⟨Try.f185.name, by decide, Try.func185.trans (congrArg some (by kernel_rfl))⟩,
  f27 := ⟨Try.f186.name, by decide, Try.func186.trans (congrArg some (by kernel_rfl))⟩,
  f28 := Try.func177.trans (congrArg some (by kernel_rfl)),
  f29 := Try.func178.trans (congrArg some (by kernel_rfl)),
  f46 := ⟨Try.f196.name, by decide, Try.func196.trans (congrArg some (by kernel_rfl))⟩,
  f47 := Try.func192.trans (congrArg some (by kernel_rfl)),
  f48 := Try.func193.trans (congrArg some (by kernel_rfl)),
  f49 := ⟨Try.f197.name, by decide, Try.func197.trans (congrArg some (by kernel_rfl))⟩,
  f50 := ⟨Try.f198.name, by decide, Try.func198.trans (congrArg some (by kernel_rfl))⟩,
  f57 := ⟨Try.f202.name, by decide, Try.func202.trans (congrArg some (by kernel_rfl))⟩,
  t0 := Try.underlying0,
  a0 := Try.isAgg0,
  z0 := Try.sizeOf0,
  v0 := Try.zeroValue0,
  t3 := Try.underlying3,
  a3 := Try.isAgg3,
  z3 := Try.sizeOf3,
  v3 := Try.zeroValue3,
  t4 := Try.underlying4,
  a4 := Try.isAgg4,
  z4 := Try.sizeOf4,
  v4 := Try.zeroValue4,
  t5 := Try.underlying5,
  a5 := Try.isAgg5,
  z5 := Try.sizeOf5,
  v5 := Try.zeroValue5,
  t9 := Try.underlying9,
  a9 := Try.isAgg9,
  z9 := Try.sizeOf9,
  v9 := Try.zeroValue9,
  t22 := Try.underlying136,
  a22 := Try.isAgg136,
  z22 := Try.sizeOf136,
  v22 := Try.zeroValue136,
  t25 := Try.underlying216,
  a25 := Try.isAgg216,
  z25 := Try.sizeOf216,
  v25 := Try.zeroValue216,
  t39 := Try.underlying250,
  a39 := Try.isAgg250,
  z39 := Try.sizeOf250,
  v39 := Try.zeroValue250,
  t45 := Try.underlying259,
  a45 := Try.isAgg259,
  z45 := Try.sizeOf259,
  v45 := Try.zeroValue259,
  t46 := Try.underlying260,
  a46 := Try.isAgg260,
  z46 := Try.sizeOf260,
  v46 := Try.zeroValue260,
  t50 := Try.underlying182,
  a50 := Try.isAgg182,
  z50 := Try.sizeOf182,
  v50 := Try.zeroValue182,
  t53 := Try.underlying266,
  a53 := Try.isAgg266,
  z53 := Try.sizeOf266,
  v53 := Try.zeroValue266,
  t55 := Try.underlying41,
  a55 := Try.isAgg41,
  z55 := Try.sizeOf41,
  v55 := Try.zeroValue41,
  t66 := Try.underlying275,
  a66 := Try.isAgg275,
  z66 := Try.sizeOf275,
  v66 := Try.zeroValue275,
  t70 := Try.underlying278,
  a70 := Try.isAgg278,
  z70 := Try.sizeOf278,
  v70 := Try.zeroValue278,
  t76 := Try.underlying284,
  a76 := Try.isAgg284,
  z76 := Try.sizeOf284,
  v76 := Try.zeroValue284,
  t77 := Try.underlying285,
  a77 := Try.isAgg285,
  z77 := Try.sizeOf285,
  v77 := Try.zeroValue285 }

end Go.Proofs
namespace Go.Proofs.Ytnceglkoolfncaa.Pr
open Go.RowKit Go.Pv Go.Proofs.Ytnceglkoolfncaa.Po Go.Sort Go.Lib Go.Shelf

def encP (x : Int × Int) : List Value := [.int .i64 x.1, .int .i64 x.2]
theorem ltP (x y : Int × Int) : ltOf cP x y = (decide (x.1 < y.1) || (decide (x.1 = y.1) && decide (x.2 < y.2))) := by
  unfold ltOf cP compareInt
  by_cases h1 : x.1 < y.1
  · simp [h1]
  · by_cases h2 : y.1 < x.1
    · simp [h1, h2, show ¬ x.1 = y.1 by omega]
    · have e : x.1 = y.1 := by omega
      by_cases h3 : x.2 < y.2
      · simp [e, h3]
      · by_cases h4 : y.2 < x.2 <;> simp [e, h3, h4]
def leP (x y : Int × Int) : Bool := decide (x.1 < y.1) || (decide (x.1 = y.1) && decide (x.2 ≤ y.2))
theorem nltP (x y : Int × Int) : (!(ltOf cP) y x) = leP x y := by
  rw [ltP]
  unfold leP
  by_cases h1 : x.1 < y.1
  · simp [h1, show ¬ y.1 < x.1 by omega, show ¬ y.1 = x.1 by omega]
  · by_cases h2 : y.1 < x.1
    · simp [h1, h2, show ¬ x.1 = y.1 by omega]
    · have e : x.1 = y.1 := by omega
      by_cases h3 : y.2 < x.2
      · simp [e, h3]
      · simp [e, h3, show x.2 ≤ y.2 by omega]
theorem totP (x y : Int × Int) (h1 : ltOf cP x y = false) (h2 : ltOf cP y x = false) : x = y := by
  rw [ltP] at h1 h2
  simp only [Bool.or_eq_false_iff, Bool.and_eq_false_iff, decide_eq_false_iff_not] at h1 h2
  obtain ⟨a, b⟩ := x
  obtain ⟨c, d⟩ := y
  simp only [Prod.mk.injEq] at *
  omega
theorem swoP : SWO (ltOf cP) := by
  refine ⟨fun x => ?_, fun x y z h1 h2 => ?_, fun x y z h1 h2 => ?_⟩
  · rw [ltP]; simp
  · rw [ltP] at *
    simp only [Bool.or_eq_true, Bool.and_eq_true, decide_eq_true_eq] at *
    omega
  · rw [ltP] at *
    simp only [Bool.or_eq_false_iff, Bool.and_eq_false_iff, decide_eq_false_iff_not] at *
    omega
theorem sortP {w : World} {zs : List (Int × Int)} (blk off cap : Nat) (hH : HoldsK encP 2 w blk off zs.toArray) (hblk : blk < w.heap.size) (hsz : zs.length ≤ 1000000) :
    Calls Try.prog 121 #[.slice (some ⟨blk, off, none⟩) zs.length cap, .func (.func 122) #[] #[]] w fun e w' => e = .returned (.tuple #[]) ∧ HoldsK encP 2 w' blk off (zs.mergeSort leP).toArray ∧ Keeps (fun k => k = blk) w w' := by
  have eg : ∀ args w, (callFunc 122 args).run Try.prog w = .ok (.enter 122 args) w := enters_of Try.func122 (by kernel_rfl) rfl
  have h := AnyQ.slices_SortFunc_total Try.pairSort 2 Try.isAgg208 Try.sizeOf208 encP (fun _ => rfl) (fun x v hv => by simp [encP] at hv; rcases hv with rfl | rfl <;> rfl) cP swoP 122 #[] blk off cap zs.toArray w eg (fun m os dk hs x y => due1_any x y _) hH hblk (by simp; omega) totP
  refine (show Calls Try.prog 121 _ _ _ from h).mono ?_
  rintro e w' ⟨rfl, n, os, rfl⟩
  have hm : (zs.toArray.toList.mergeSort fun x y => !(ltOf cP) y x) = zs.mergeSort leP := congrArg (fun f => zs.mergeSort f) (funext fun x => funext fun y => nltP x y)
  rw [hm]
  refine ⟨rfl, holdsK_grow _ _ _ _ _ _ _ (by simpa [putRowK, putRow, mapBlock, Sort.ahead] using hblk) (holdsK_putRowK _ _ _ _ _ _ _ (holdsK_ahead _ _ _ _ _ _ _ hH) (by simp)), keepsGrow _ (keepsAheadLeft _ (keepsPut _ (Sort.ahead w n) _ _ _)) _⟩
theorem sortP_none {w : World} (p : Option Addr) (cap : Nat) (fv : Value) : Calls Try.prog 121 #[.slice p 0 cap, fv] w fun e w' => e = .returned (.tuple #[]) ∧ w' = w := AnyF.slices_SortFunc_none Try.pairSort p cap fv w
theorem encP_one (l : List (Int × Int)) : ∀ u ∈ l.flatMap encP, u.oneCell' = true := by
  intro u hu
  obtain ⟨x, _, hx⟩ := List.mem_flatMap.1 hu
  simp [encP] at hx
  rcases hx with rfl | rfl <;> rfl
theorem encP_len (l : List (Int × Int)) : (l.flatMap encP).length = l.length * 2 := by
  induction l with
  | nil => rfl
  | cons x xs ih => simp [List.flatMap_cons, encP] at ih ⊢; omega
theorem flatP (L : List (Int × Int)) (j : Nat) (h : j < L.length * 2) : (L.flatMap encP)[j]? = some ((encP L[j / 2]!)[j % 2]!) := by
  induction L generalizing j with
  | nil => simp at h
  | cons x xs ih =>
    match j, h with
    | 0, _ => rfl
    | 1, _ => rfl
    | k + 2, h =>
      have h2 : k < xs.length * 2 := by simp only [List.length_cons] at h; omega
      have e1 : (k + 2) / 2 = k / 2 + 1 := by omega
      have e2 : (k + 2) % 2 = k % 2 := by omega
      have e3 : ((x :: xs).flatMap encP)[k + 2]? = (xs.flatMap encP)[k]? := by simp [List.flatMap_cons, encP]
      rw [e3, e1, e2, ih k h2]
      have e4 : (x :: xs)[k / 2 + 1]! = xs[k / 2]! := by simp
      rw [e4]
def DueAt (w' : World) (A : Option Addr) (L : List (Int × Int)) : Prop := ∀ i (hi : i < L.length), ∃ b o, A = some ⟨b, o, none⟩ ∧ b < w'.heap.size ∧ w'.cell? ⟨b, o + i * 2, none⟩ = some (.int .i64 (L[i]).1) ∧ w'.cell? ⟨b, o + i * 2 + 1, none⟩ = some (.int .i64 (L[i]).2)

end Go.Proofs.Ytnceglkoolfncaa.Pr
