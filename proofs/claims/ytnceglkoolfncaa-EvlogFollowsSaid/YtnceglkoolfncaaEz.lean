/- The log of events: event, Since, Add. -/
import Derived.Test.YtnceglkoolfncaaEy
namespace Go.Proofs.Ytnceglkoolfncaa.Ev
open Go.RowKit Go.Pv

abbrev evCells (n r : Int) (s : Value) : List Value := [.int .i64 n, .int .u64 r, .int .i64 n, .int .u64 0, .string ⟨#[]⟩, .slice none 0 0, .slice none 0 0, .slice none 0 0, .int .i64 0, .int .i64 0, .int .i64 0, .int .i64 0, s, .int .i64 0, .int .i64 0]

set_option maxRecDepth 10000 in
theorem event_any (w : World) (k n r : Int) :
    Calls Try.prog 24 #[.agg #[.int .i64 k, .int .i64 n, .int .u64 r]] w fun e w' => e = .returned (.agg (evCells n r (.slice (some ⟨w.heap.size + 1 + 1, 0, none⟩) 1 1)).toArray) ∧ Below w.heap.size w w' := by
  have hth : ∀ s, Hid ((((w.alloc (.cells #[.int .i64 k, .int .i64 n, .int .u64 r] 44)).alloc (.cells zcells.toArray 54)).alloc (.cells #[.int .i64 n] 3)).there (w.heap.size + 1) 0 (evCells n r s).length) := fun s => hid fun j hj => by
    have hb : (((w.alloc (.cells #[.int .i64 k, .int .i64 n, .int .u64 r] 44)).alloc (.cells zcells.toArray 54)).alloc (.cells #[.int .i64 n] 3)).heap[w.heap.size + 1]? = some (.cells zcells.toArray 54 (0, 0)) := by
      rw [Below.heap_alloc _ _ _ (by simp)]
      exact heap_at _ _ _ (by simp)
    refine ⟨?_, frozen_of_row _ _ _ _ _ hb⟩
    rw [cell_of_row _ _ _ _ _ _ hb, Array.getElem?_eq_getElem (by simp at hj ⊢; omega)]
    rfl
  go_enter Try.func24, Try.ntmps24
  go_wp2_with ((with_reducible refine gate_store 54 rfl ?_); go_must (refine wl_store_gen rfl 54 _ _ rfl (w.heap.size + 1) 0 (evCells n r (.slice (some ⟨w.heap.size + 1 + 1, 0, none⟩) 1 1)) rfl rfl (hth _).out size54 (by simp [Value.oneCell']) ?_; intro W hW; have HW := hid hW; clear hW))
  have hr : W.rangeAt (w.heap.size + 1) 0 (evCells n r (.slice (some ⟨w.heap.size + 1 + 1, 0, none⟩) 1 1)) := by rw [HW.out]; exact World.rangeAt_setCells_same _ _ _ _ (hth _).out
  have hl := run_loadVar_mid (P := Try.prog) W (w.heap.size + 1) 0 54 _ _ hr Try.underlying54 rfl size54
  refine bodyPost_ret (v := .agg (evCells n r (.slice (some ⟨w.heap.size + 1 + 1, 0, none⟩) 1 1)).toArray) (by simp [results, Try.results24, Act.put, asAddr, hl]) rfl ⟨rfl, ?_⟩
  rw [HW.out]
  exact (Keeps.setCells (F := fun i => w.heap.size ≤ i) (.inr (by omega)) _ _ ((((Keeps.refl _ w).alloc _).alloc _).alloc _)).below (Nat.le_refl _) (fun i hi => hi)

theorem LogAt.alloc {w : World} {p g N first : Nat} {floor last : Int} {evs : List Event} (h : LogAt w p g N first floor last evs) (o : Obj) : LogAt (w.alloc o) p g N first floor last evs :=
  h.kept (F := fun _ => False) ((Keeps.refl _ w).alloc o) (by simp) (by simp)

set_option maxRecDepth 10000 in
theorem since_old {w : World} {p g N first : Nat} {floor last : Int} {evs : List Event} (h : LogAt w p g N first floor last evs) (rev : Int) (hr : rev < floor) :
    Calls Try.prog 98 #[.pointer (some ⟨p, 0, none⟩), .int .u64 rev] w fun e w' => (∃ v, e = .returned (.tuple #[v, .int .i64 120])) ∧ Below w.heap.size w w' := by
  obtain ⟨-, -, -, c3, -, -⟩ := ((h.alloc (.cells #[.pointer (some ⟨p, 0, none⟩)] 39)).alloc (.cells #[.int .u64 rev] 41)).cells
  have b0 : ((w.alloc (.cells #[.pointer (some ⟨p, 0, none⟩)] 39)).alloc (.cells #[.int .u64 rev] 41)).heap[w.heap.size]? = some (.cells #[.pointer (some ⟨p, 0, none⟩)] 39 (0, 0)) := by
    rw [Below.heap_alloc _ _ _ (by simp)]; exact heap_at _ _ _ rfl
  have b1 : ((w.alloc (.cells #[.pointer (some ⟨p, 0, none⟩)] 39)).alloc (.cells #[.int .u64 rev] 41)).heap[w.heap.size + 1]? = some (.cells #[.int .u64 rev] 41 (0, 0)) := heap_at _ _ _ (by simp)
  obtain ⟨W, hW⟩ : ∃ W, W = ((w.alloc (.cells #[.pointer (some ⟨p, 0, none⟩)] 39)).alloc (.cells #[.int .u64 rev] 41)) := ⟨_, rfl⟩
  rw [← hW] at b0 b1 c3
  have S0 : W.drew.cell? ⟨w.heap.size, 0, none⟩ = some (.pointer (some ⟨p, 0, none⟩)) ∧ W.drew.cell? ⟨w.heap.size + 1, 0, none⟩ = some (.int .u64 rev) ∧ W.drew.cell? ⟨p, 3, none⟩ = some (.int .u64 floor) :=
    ⟨by rw [World.cell?_drew, cell_of_row _ _ _ _ _ _ b0]; rfl, by rw [World.cell?_drew, cell_of_row _ _ _ _ _ _ b1]; rfl, c3⟩
  have HW := hid hW
  clear b0 b1 c3 h hW
  go_enter Try.func98, Try.ntmps98
  go_wp2
  rw [← HW.out]
  go_region_held3 (fun V => V.cell? ⟨w.heap.size, 0, none⟩ = some (.pointer (some ⟨p, 0, none⟩)) ∧ V.cell? ⟨w.heap.size + 1, 0, none⟩ = some (.int .u64 rev) ∧ V.cell? ⟨p, 3, none⟩ = some (.int .u64 floor)) (exact S0) (fail)
  go_wp2
  refine bodyPost_ret (results_tmp2 rfl _ _ _) rfl ?_
  refine ⟨⟨_, rfl⟩, ?_⟩
  rw [HW.out]
  exact ((((Keeps.refl (fun i => w.heap.size ≤ i) w).alloc _).alloc _).drew).below (Nat.le_refl _) (fun i hi => hi)

section
variable {w : World} {p g N first : Nat} {floor last : Int} {evs : List Event}

set_option maxRecDepth 10000 in
theorem add_no (h : LogAt w p g N first floor last evs) (ev : Event) (hev : EvOk ev) (hr : revOf ev ≤ last) :
    Calls Try.prog 23 #[.pointer (some ⟨p, 0, none⟩), .agg ev.toArray] w fun e w' => e = .returned (.int .i64 4) ∧ Below w.heap.size w w' := by
  obtain ⟨-, -, -, -, c4, -⟩ := (h.alloc (.cells ev.toArray 54)).cells
  have b0 : (w.alloc (.cells ev.toArray 54)).heap[w.heap.size]? = some (.cells ev.toArray 54 (0, 0)) := heap_at _ _ _ rfl
  obtain ⟨r, hrr⟩ : ∃ r, r = revOf ev := ⟨_, rfl⟩
  rw [← hrr] at hr
  obtain ⟨W, hW⟩ : ∃ W, W = w.alloc (.cells ev.toArray 54) := ⟨_, rfl⟩
  rw [← hW] at b0 c4
  have S0 : W.drew.cell? ⟨w.heap.size, 1, none⟩ = some (.int .u64 r) ∧ W.drew.cell? ⟨p, 4, none⟩ = some (.int .u64 last) :=
    ⟨by rw [World.cell?_drew, cell_of_row _ _ _ _ _ _ b0, hrr]; simpa using hev.2.2, c4⟩
  have HW := hid hW
  clear b0 c4 h hW hev hrr
  go_enter Try.func23, Try.ntmps23
  go_wp2
  rw [← HW.out]
  go_region_held3 (fun V => V.cell? ⟨w.heap.size, 1, none⟩ = some (.int .u64 r) ∧ V.cell? ⟨p, 4, none⟩ = some (.int .u64 last)) (exact S0) (fail)
  go_wp2
  go_ret
  refine ⟨rfl, ?_⟩
  rw [HW.out]
  exact (((Keeps.refl (fun i => w.heap.size ≤ i) w).alloc _).drew).below (Nat.le_refl _) (fun i hi => hi)
end
end Go.Proofs.Ytnceglkoolfncaa.Ev
