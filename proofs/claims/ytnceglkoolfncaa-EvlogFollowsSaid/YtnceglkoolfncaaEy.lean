/- The log of events: New, Len, Floor, Last, event, Since. -/
import Derived.Test.YtnceglkoolfncaaEw
namespace Go.Proofs.Ytnceglkoolfncaa.Ev
open Go.RowKit Go.Pv

section
variable {w : World} {p g N first : Nat} {floor last : Int} {evs : List Event}
set_option maxRecDepth 10000 in
theorem floor_any (h : LogAt w p g N first floor last evs) : Calls Try.prog 27 #[.pointer (some ⟨p, 0, none⟩)] w fun e w' => e = .returned (.int .u64 floor) ∧ w' = w := by
  obtain ⟨-, -, -, c3, -, -⟩ := h.cells
  clear h
  go_enter Try.func27, Try.ntmps27
  go_wp2
  go_ret
  exact ⟨rfl, rfl⟩
set_option maxRecDepth 10000 in
theorem last_any (h : LogAt w p g N first floor last evs) : Calls Try.prog 28 #[.pointer (some ⟨p, 0, none⟩)] w fun e w' => e = .returned (.int .u64 last) ∧ w' = w := by
  obtain ⟨-, -, -, -, c4, -⟩ := h.cells
  clear h
  go_enter Try.func28, Try.ntmps28
  go_wp2
  go_ret
  exact ⟨rfl, rfl⟩
set_option maxRecDepth 10000 in
theorem len_any (h : LogAt w p g N first floor last evs) : Calls Try.prog 29 #[.pointer (some ⟨p, 0, none⟩)] w fun e w' => e = .returned (.int .i64 evs.length) ∧ w' = w := by
  obtain ⟨-, -, c2, -, -, -⟩ := h.cells
  clear h
  go_enter Try.func29, Try.ntmps29
  go_wp2
  go_ret
  exact ⟨rfl, rfl⟩
end

theorem info54 : ∃ i, Try.prog.info? 54 = some i ∧ i.zero = some (.agg zcells.toArray) ∧ i.size = 15 ∧ i.bytes ≤ 1000 := by
  have h1 := size54
  have h2 := zero54
  have h3 : (Try.prog.info? 54).map (fun i => decide (i.bytes ≤ 1000)) = some true := by kernel_rfl
  cases h : Try.prog.info? 54 with
  | none => rw [h] at h1; cases h1
  | some i => rw [h] at h1 h2 h3; simp at h1 h2 h3; exact ⟨i, rfl, h2, h1, h3⟩

theorem newLog {w : World} (N : Nat) (h1 : 0 < N) (h2 : N ≤ 64) (z : Array Value) (hz : z.size = N * 15) :
    LogAt ((w.alloc (.cells z 54)).alloc (.cells #[.slice (some ⟨w.heap.size, 0, none⟩) N N, .int .i64 0, .int .i64 0, .int .u64 0, .int .u64 0] 173)) (w.heap.size + 1) w.heap.size N 0 0 0 [] where
  cell := heap_at _ _ _ (by simp)
  gp := by omega
  there := fun j hj => by
    have hb : ((w.alloc (.cells z 54)).alloc (.cells #[.slice (some ⟨w.heap.size, 0, none⟩) N N, .int .i64 0, .int .i64 0, .int .u64 0, .int .u64 0] 173)).heap[w.heap.size]? = some (.cells z 54 (0, 0)) := by
      rw [Below.heap_alloc _ _ _ (by simp)]
      exact heap_at _ _ _ rfl
    refine ⟨?_, frozen_of_row _ _ _ _ _ hb⟩
    rw [cell_of_row _ _ _ _ _ _ hb, Nat.zero_add, Array.getElem?_eq_getElem (by omega)]
    rfl
  n0 := h1
  nN := h2
  fN := h1
  len := Nat.zero_le _
  el := by simp

def nOf (most : Int) : Nat := (min (max most 1) 64).toNat
theorem nOf_pos (most : Int) : 0 < nOf most ∧ nOf most ≤ 64 ∧ (nOf most : Int) = min (max most 1) 64 := by unfold nOf; omega

set_option maxRecDepth 10000 in
theorem new_any (w : World) (most : Int) :
    Calls Try.prog 22 #[.int .i64 most] w fun e w' => e = .returned (.pointer (some ⟨w.heap.size + 1, 0, none⟩)) ∧ LogAt w' (w.heap.size + 1) w.heap.size (nOf most) 0 0 0 [] ∧ Keeps (fun _ => False) w w' ∧ w'.heap.size = w.heap.size + 2 := by
  obtain ⟨i, hi, hz, hs, hb⟩ := info54
  have hn := nOf_pos most
  have hr := fun (w : World) => run_make (P := Try.prog) w 57 54 i _ Try.underlying57 hi hz .i64 .i64 (nOf most) (nOf most) (by omega) (by omega) (by
    have : (i.bytes : Int) * (nOf most : Int) ≤ 1000 * 64 := Int.mul_le_mul (by omega) (by omega) (by omega) (by omega)
    omega) (by omega)
  have hzs : ∀ (c : Nat), c = nOf most → (madeCells (Value.agg zcells.toArray).cells ((nOf most : Int).toNat * i.size)).size = c * 15 := fun c hc => by rw [size_madeCells, hs, Int.toNat_natCast, hc]
  generalize madeCells (Value.agg zcells.toArray).cells ((nOf most : Int).toNat * i.size) = z at hr hzs
  simp only [Int.toNat_natCast] at hr
  rw [hn.2.2] at hr
  have HN := hid hn
  have HZ := hid hzs
  clear hn hzs hi hz hs hb
  generalize nOf most = N at *
  go_enter Try.func22, Try.ntmps22
  go_wp2
  go_ret
  refine ⟨rfl, newLog N HN.out.1 HN.out.2.1 z (HZ.out _ rfl), ((Keeps.refl _ w).alloc _).alloc _, by simp⟩
end Go.Proofs.Ytnceglkoolfncaa.Ev
