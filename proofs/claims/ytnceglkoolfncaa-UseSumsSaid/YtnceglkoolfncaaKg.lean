/- Words of our own: what sorting's way of telling worlds keeps. -/
import Derived.Test.YtnceglkoolfncaaLib
import Derived.Shelf.SlSortCmp.NoneTotal
set_option linter.unusedSimpArgs false
set_option linter.unusedVariables false
namespace Go.Pv
open Go Go.RowKit Go.Shelf Go.Sort Go.Lib Go.Proofs
theorem keepsPut {α : Type} [Inhabited α] (enc : α → Value) (w : World) (blk off : Nat) (d : Array α) : Keeps (fun k => k = blk) w (putRow enc w blk off d) := by
  refine ⟨rfl, rfl, rfl, ?_, fun k _ hk => ?_⟩
  · simp [putRow, mapBlock]
  · simp only [putRow, mapBlock, Array.getElem?_modify]
    rw [if_neg (fun e => hk e.symm)]
theorem keepsGrow (F : Nat → Prop) {a w : World} (h : Keeps F a w) (os : Array Obj) : Keeps F a (grow w os) :=
  ⟨h.os, h.tape, h.output, by have := h.size; simp [grow]; omega, fun k hk hn => by rw [heap_grow_old w os (Nat.lt_of_lt_of_le hk h.size)]; exact h.block k hk hn⟩
theorem keepsAhead (F : Nat → Prop) {a w : World} (h : Keeps F a w) (n : Nat) : Keeps F a (Sort.ahead w n) := ⟨h.os, h.tape, h.output, h.size, h.block⟩
theorem keepsAheadLeft (F : Nat → Prop) {a w : World} {n : Nat} (h : Keeps F (Sort.ahead a n) w) : Keeps F a w := ⟨h.os, h.tape, h.output, h.size, h.block⟩
end Go.Pv
