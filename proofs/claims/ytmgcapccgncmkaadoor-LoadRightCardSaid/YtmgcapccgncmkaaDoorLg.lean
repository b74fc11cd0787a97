/- Numbers as texts. -/
import Derived.Test.YtmgcapccgncmkaaDoorLf
set_option linter.unusedSimpArgs false
set_option linter.unusedVariables false
namespace Go.Proofs.YtmgcapccgncmkaaDoor.Ld
open Go.RowKit Go.Pv Go.Proofs.YtmgcapccgncmkaaDoor.PLoadScripts Go.Proofs.YtmgcapccgncmkaaDoorW.PrintWords Go.Proofs.YtmgcapccgncmkaaDoorW.PrintLast Go.Proofs.YtmgcapccgncmkaaDoorW.PrintMore

/-- A number's digits, ahead of acc. -/
def digsF : Nat → Int → List Int → List Int
  | 0, _, acc => acc
  | k + 1, n, acc => if n / 10 = 0 then (48 + n % 10) :: acc else digsF k (n / 10) ((48 + n % 10) :: acc)
def digs (n : Int) : List Int := digsF 20 n []
/-- While digits are written. -/
structure DG (w W : World) (g k : Nat) (acc : List Int) : Prop where
  low : Below w.heap.size w W
  ge : w.heap.size ≤ g
  row : ∃ cs, W.heap[g]? = some (.cells cs 170 (0, 0)) ∧ cs.size = 20 ∧ ∀ j x, acc[j]? = some x → cs[k + j]? = some (.int .u8 x)
  len : acc.length + k = 20
theorem DG.put {w W : World} {g k : Nat} {acc : List Int} (h : DG w W g (k + 1) acc) (x : Int) : DG w (W.setCell ⟨g, k, none⟩ (.int .u8 x)) g k (x :: acc) := by
  obtain ⟨cs, h1, h2, h3⟩ := h.row
  refine ⟨h.low.setCell (p := ⟨g, k, none⟩) h.ge _, h.ge, ⟨cs.setIfInBounds k (.int .u8 x), heap_setCell_same W g k cs 170 _ h1, by simpa using h2, fun j y hj => ?_⟩, by have := h.len; simp only [List.length_cons]; omega⟩
  cases j with
  | zero =>
    simp only [List.getElem?_cons_zero, Option.some.injEq] at hj
    subst hj
    have := h.len
    rw [Nat.add_zero, Array.getElem?_setIfInBounds_self]
    simp [h2]
    omega
  | succ j =>
    rw [Array.getElem?_setIfInBounds_ne (by omega), show k + (j + 1) = k + 1 + j by omega]
    exact h3 j y hj
theorem DG.cell {w W : World} {g k : Nat} {acc : List Int} (h : DG w W g k acc) (j : Nat) (hj : j < 20) : ∃ v, W.cell? ⟨g, j, none⟩ = some v ∧ W.frozen? ⟨g, j, none⟩ = false := by
  obtain ⟨cs, h1, h2, h3⟩ := h.row
  exact ⟨cs[j]'(by omega), by rw [cell_of_row W g _ _ _ _ h1]; exact Array.getElem?_eq_getElem (by omega), by simp [World.frozen?, h1]⟩
theorem DG.conv {w W : World} {g k c : Nat} {acc : List Int} (h : DG w W g k acc) : (convert 101 9 (.slice (some ⟨g, k, none⟩) acc.length c)).run Tryd.prog W = .ok (.string (strOfNums acc)) W := by
  obtain ⟨cs, h1, h2, h3⟩ := h.row
  refine string_of_reads (P := Tryd.prog) Tryd.underlying101 Tryd.underlying5 Tryd.underlying9 ⟨rfl, by have := h.len; omega, fun _ => ⟨_, rfl, fun j hj => ?_⟩⟩
  rw [Addr.add_lit, cell_of_row W g _ _ _ _ h1, h3 j _ (List.getElem?_eq_getElem hj), List.getD_eq_getElem?_getD, List.getElem?_eq_getElem hj]
  rfl
theorem slice170 (W : World) (g k : Nat) (hk : k < 20) : (Instr.sliceAt 170 (.pointer (some ⟨g, 0, none⟩)) (some (.int .i64 (k : Int))) none none).run Tryd.prog W = .ok (.slice (some ⟨g, k, none⟩) (20 - k) (20 - k)) W := by
  have h1 : (Instr.sliceBound (.int .i64 (k : Int)) 20 .sliceB).run Tryd.prog W = .ok k W := run_sliceBound_ok W k 20 .sliceB (by omega)
  simp only [Instr.sliceAt, Sem.run_bind, run_underlying Tryd.underlying170, Result.andThen_ok, Instr.sureAddr, Sem.run_pure, Instr.sliceBounds, Option.isSome_none, h1, Tryd.sizeOf5, Bool.false_eq_true, if_false]
  rw [if_neg (by omega)]
  simp [Addr.add_lit]
set_option maxRecDepth 10000 in
set_option maxHeartbeats 1000000 in
theorem digits_any (n : Int) (h0 : 0 ≤ n) (h1 : n ≤ 18446744073709551615) (w : World) : Calls Tryd.prog 84 #[.int .u64 n] w fun e w' => e = .returned (.string (strOfNums (digs n))) ∧ Below w.heap.size w w' := by
  go_enter Tryd.func84, Tryd.ntmps84
  go_wp2_with fail
  go_loopg [0, 4] 20 (fun q s0 s4 wr => ∃ (k : Nat) (acc : List Int) (m : Int), q = k + 1 ∧ s0 = .int .u64 m ∧ s4 = .int .i64 ((k : Int) + 1) ∧ 0 ≤ m ∧ m ≤ 18446744073709551615 ∧ m < 10 ^ (k + 1) ∧ k < 20 ∧ Hid (digsF (k + 1) m acc = digs n) ∧ Hid (DG w wr w.heap.size (k + 1) acc))
  case atStart =>
    refine ⟨19, [], n, rfl, rfl, rfl, h0, h1, ?_, by omega, rfl, ⟨(Below.refl _ w).alloc (Nat.le_refl _) _, Nat.le_refl _, ⟨_, heap_alloc_new w _, rfl, fun j x hj => by simp at hj⟩, rfl⟩⟩
    have : (10 : Int) ^ (19 + 1) = 100000000000000000000 := by decide
    rw [this]
    omega
  case round =>
    obtain ⟨k, acc, m, rfl, rfl, rfl, hm0, hm1, hm2, hk, HF, HD⟩ := hrel
    obtain ⟨v, hc, hf⟩ := HD.out.cell k hk
    have e1 : Int.tmod m 10 = m % 10 := Int.tmod_eq_emod_of_nonneg hm0
    have e2 : Int.tdiv m 10 = m / 10 := Int.tdiv_eq_ediv_of_nonneg hm0
    have e3 : IntKind.u64.wrap (m % 10) = m % 10 := IntWalk.u64_in _ (by omega)
    have e4 : IntKind.u64.wrap (m / 10) = m / 10 := IntWalk.u64_in _ (by omega)
    have b1 : (k : Int) < 20 := by omega
    by_cases hz : m / 10 = 0
    · have b2 : (m / 10 == 0) = true := by simpa using hz
      have HP := hid (HD.out.put (48 + m % 10))
      have hs := slice170 (wr.setCell ⟨w.heap.size, k, none⟩ (.int .u8 (48 + m % 10))) w.heap.size k hk
      have hcv := HP.out.conv (c := 20 - k)
      have hl : ((48 + m % 10) :: acc).length = 20 - k := by have := HP.out.len; omega
      rw [hl] at hcv
      have hd : digs n = (48 + m % 10) :: acc := by rw [← HF.out, digsF, if_pos hz]
      go_wp2_with fail
      go_ret
      exact ⟨by rw [hd]; rfl, HP.out.low⟩
    · have b2 : (m / 10 == 0) = false := by simpa using hz
      have hp : (10 : Int) ^ (k + 1) = 10 ^ k * 10 := Int.pow_succ 10 k
      have hlt : m / 10 < 10 ^ k := by rw [hp] at hm2; omega
      obtain ⟨k, rfl⟩ : ∃ j, k = j + 1 := by
        cases k with
        | zero => simp at hlt; omega
        | succ j => exact ⟨j, rfl⟩
      have HP := hid (HD.out.put (48 + m % 10))
      have HF2 := hid (show digsF (k + 1) (m / 10) ((48 + m % 10) :: acc) = digs n by have h9 := HF.out; rw [digsF, if_neg hz] at h9; exact h9)
      go_wp2_with fail
      go_roundg (k + 1)
      case measure => omega
      case rel => exact ⟨k, _, m / 10, rfl, rfl, by simp, by omega, by omega, hlt, by omega, HF2, HP⟩
end Go.Proofs.YtmgcapccgncmkaaDoor.Ld
