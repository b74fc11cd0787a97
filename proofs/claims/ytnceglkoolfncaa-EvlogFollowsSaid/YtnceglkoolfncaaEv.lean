/- The log of events: how it lies, and where an event stands. -/
import Derived.Test.YtnceglkoolfncaaWd
import Derived.Test.YtnceglkoolfncaaProg
import Derived.WalkSpells
import Derived.Outline
import Derived.KernelRfl
import Derived.Deep.RegionHeld3
import Derived.Deep.DeepMust
import Derived.Deep.MidRow
import Derived.Lib.MinMax
import Derived.Maps.OwnSet
import Derived.IntWalk
import Derived.Laws.MakeOwn
namespace Go.Proofs.Ytnceglkoolfncaa.Ev
open Go.RowKit Go.Pv

theorem hid {p : Prop} (h : p) : Hid p := h
theorem heap_at (w : World) (o : Obj) (n : Nat) (h : n = w.heap.size) : (w.alloc o).heap[n]? = some o := by subst h; exact heap_alloc_new w o

/-- An event: its fifteen cells. -/
abbrev Event := List Value
def revOf (ev : List Value) : Int := match ev[1]? with | some (Value.int _ r) => r | _ => 0
def EvOk (ev : Event) : Prop := ev.length = 15 ∧ (∀ u ∈ ev, u.oneCell' = true) ∧ ev[1]? = some (.int .u64 (revOf ev))

/-- How a log lies: its struct in block p, its ring in block g. -/
structure LogAt (w : World) (p g N first : Nat) (floor last : Int) (evs : List Event) : Prop where
  cell : w.heap[p]? = some (.cells #[.slice (some ⟨g, 0, none⟩) N N, .int .i64 first, .int .i64 evs.length, .int .u64 floor, .int .u64 last] 173 (0, 0))
  gp : g ≠ p
  there : w.there g 0 (N * 15)
  n0 : 0 < N
  nN : N ≤ 64
  fN : first < N
  len : evs.length ≤ N
  el : ∀ i ev, evs[i]? = some ev → w.rangeAt g ((first + i) % N * 15) ev ∧ EvOk ev

theorem LogAt.cells {w : World} {p g N first : Nat} {floor last : Int} {evs : List Event} (h : LogAt w p g N first floor last evs) :
    w.cell? ⟨p, 0, none⟩ = some (.slice (some ⟨g, 0, none⟩) N N) ∧ w.cell? ⟨p, 1, none⟩ = some (.int .i64 first) ∧ w.cell? ⟨p, 2, none⟩ = some (.int .i64 evs.length) ∧ w.cell? ⟨p, 3, none⟩ = some (.int .u64 floor) ∧ w.cell? ⟨p, 4, none⟩ = some (.int .u64 last) ∧ ∀ j, w.frozen? ⟨p, j, none⟩ = false :=
  ⟨by rw [cell_of_row w p 0 _ _ _ h.cell]; rfl, by rw [cell_of_row w p 1 _ _ _ h.cell]; rfl, by rw [cell_of_row w p 2 _ _ _ h.cell]; rfl, by rw [cell_of_row w p 3 _ _ _ h.cell]; rfl, by rw [cell_of_row w p 4 _ _ _ h.cell]; rfl, fun j => by simp [World.frozen?, h.cell]⟩

theorem LogAt.plt {w : World} {p g N first : Nat} {floor last : Int} {evs : List Event} (h : LogAt w p g N first floor last evs) : p < w.heap.size := (Array.getElem?_eq_some_iff.1 h.cell).1
theorem LogAt.glt {w : World} {p g N first : Nat} {floor last : Int} {evs : List Event} (h : LogAt w p g N first floor last evs) : g < w.heap.size := by
  have h1 := (h.there 0 (by have := h.n0; omega)).1
  obtain ⟨u, hu⟩ := Option.isSome_iff_exists.1 h1
  exact World.block_lt_of_cell? w _ hu

/-- Blocks that are not the log's may turn. -/
theorem LogAt.kept {w w' : World} {p g N first : Nat} {floor last : Int} {evs : List Event} {F : Nat → Prop} (h : LogAt w p g N first floor last evs) (k : Keeps F w w') (hp : ¬ F p) (hg : ¬ F g) : LogAt w' p g N first floor last evs where
  cell := (k.block p h.plt hp).trans h.cell
  gp := h.gp
  there := fun j hj => by
    have e1 := k.cell (p := ⟨g, 0 + j, none⟩) h.glt hg
    have e2 := k.frozen (p := ⟨g, 0 + j, none⟩) h.glt hg
    rw [e1, e2]; exact h.there j hj
  n0 := h.n0
  nN := h.nN
  fN := h.fN
  len := h.len
  el := fun i ev hi => ⟨fun j v hv => by rw [k.cell (p := ⟨g, _, none⟩) h.glt hg]; exact (h.el i ev hi).1 j v hv, (h.el i ev hi).2⟩

theorem LogAt.drew {w : World} {p g N first : Nat} {floor last : Int} {evs : List Event} (h : LogAt w p g N first floor last evs) : LogAt w.drew p g N first floor last evs :=
  h.kept (F := fun _ => False) (Keeps.refl _ w).drew (by simp) (by simp)

set_option maxRecDepth 10000 in
theorem at_any {w : World} {p g N first : Nat} {floor last : Int} {evs : List Event} (h : LogAt w p g N first floor last evs) (i : Nat) (hi : i ≤ 64) :
    Calls Try.prog 100 #[.pointer (some ⟨p, 0, none⟩), .int .i64 i] w fun e w' => e = .returned (.pointer (some ⟨g, (first + i) % N * 15, none⟩)) ∧ w' = w.drew := by
  obtain ⟨c0, c1, -⟩ := h.cells
  obtain ⟨j, hj⟩ : ∃ j, j = (first + i) % N := ⟨_, rfl⟩
  have hjN : j < N := by rw [hj]; exact Nat.mod_lt _ h.n0
  rw [← hj]
  have n0 := h.n0
  have nN := h.nN
  have fN := h.fN
  have e1 : IntKind.i64.wrap ((first : Int) + (i : Int)) = (first : Int) + (i : Int) := IntWalk.i64_in _ (by omega)
  have e2 : ((first : Int) + (i : Int)).tmod (N : Int) = (j : Int) := by
    rw [Int.tmod_eq_emod_of_nonneg (by omega), hj]
    simp
  have e3 : ((N : Int) == 0) = false := by simp; omega
  have e4 : ¬ (N = 0) := by omega
  have e5 : (0 : Int) ≤ (j : Int) := by omega
  have e6 : (j : Int) < (N : Int) := by omega
  have S0 : w.drew.cell? ⟨p, 0, none⟩ = some (.slice (some ⟨g, 0, none⟩) N N) ∧ w.drew.cell? ⟨p, 1, none⟩ = some (.int .i64 first) := ⟨c0, c1⟩
  clear h hj n0 nN fN hjN c0 c1
  go_enter Try.func100, Try.ntmps100
  go_wp2_with fail
  go_region_held3 (fun V => V.cell? ⟨p, 0, none⟩ = some (.slice (some ⟨g, 0, none⟩) N N) ∧ V.cell? ⟨p, 1, none⟩ = some (.int .i64 first)) (exact S0) (fail)
  go_wp2
  go_ret
  exact ⟨rfl, rfl⟩

end Go.Proofs.Ytnceglkoolfncaa.Ev
