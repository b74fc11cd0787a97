/- Use: sums of resources: res.of, res.res, res.Max, res.Add, res.Sub, res.Fits. -/
import Derived.Test.YtnceglkoolfncaaPa
import Derived.Test.YtnceglkoolfncaaWTab
import Derived.Test.YtnceglkoolfncaaRz
import Derived.Test.YtnceglkoolfncaaPUsePlaysx3
import Derived.StillTailTactics
import Derived.Deep.QuietTactic
import Derived.Deep.LoopGhost
import Derived.BigQuiet
import Derived.Deep.CutBlock
import Derived.Deep.DeepCutAuto
set_option linter.unusedSimpArgs false
set_option linter.unusedVariables false
namespace Go.Proofs.Ytnceglkoolfncaa.Us
open Go.RowKit Go.Pv Go.Proofs.Ytnceglkoolfncaa.Po Go.Proofs.YtnceglkoolfncaaW.PrintWords Go.Proofs.YtnceglkoolfncaaW.PrintLast

/-- Resources. -/
abbrev R3 := Int × Int × Int
def rv (r : R3) : Value := .agg #[.int .i64 r.1, .int .i64 r.2.1, .int .i64 r.2.2]
def max3 (a b : R3) : R3 := (max a.1 b.1, max a.2.1 b.2.1, max a.2.2 b.2.2)

set_option maxRecDepth 10000 in
theorem of_any (r : R3) (w : World) : Calls Try.prog 134 #[rv r] w fun e w' => e = .returned (rv r) ∧ Below w.heap.size w w' := by
  obtain ⟨a, b, c⟩ := r
  unfold rv
  go_enter Try.func134, Try.ntmps134
  go_wp2
  refine bodyPost_ret (v := .agg #[.int .i64 a, .int .i64 b, .int .i64 c]) (by simp [results, Try.results134, go_sem]) rfl ⟨rfl, ?_⟩
  exact ((Below.refl _ w).alloc (Nat.le_refl _) _).alloc (by simp) _
set_option maxRecDepth 10000 in
theorem res_any (r : R3) (w : World) : Calls Try.prog 136 #[rv r] w fun e w' => e = .returned (rv r) ∧ Below w.heap.size w w' := by
  obtain ⟨a, b, c⟩ := r
  unfold rv
  go_enter Try.func136, Try.ntmps136
  go_wp2
  refine bodyPost_ret (v := .agg #[.int .i64 a, .int .i64 b, .int .i64 c]) (by simp [results, Try.results136, go_sem]) rfl ⟨rfl, ?_⟩
  exact ((Below.refl _ w).alloc (Nat.le_refl _) _).alloc (by simp) _

/-- An allocation in a region that draws. -/
theorem allocA_ {P : Program} {ops : Array Oper} {Q : Exit → Act → World → Prop} {oi : Oper} {N : Option Tmp} {a : Act} {w : World} {K : Act → World → Prop} {ob : Obj} (hw : Region.wanted oi (yielded ops a.tmps) = true) (hN : oi.dst = N) (hrun : (execOp a.eval oi).run P w = .ok (.value (.pointer (some ⟨w.heap.size, 0, none⟩))) (w.alloc ob))
    (h : ∀ g V, g = w.heap.size → V = w.alloc ob → K (a.put N (.pointer (some ⟨g, 0, none⟩))) V) : if Region.wanted oi (yielded ops a.tmps) = true then Oper.wp P oi a w K Q else K (a.put N undef) w := value_ hw hN hrun (h _ _ rfl rfl)
def zr : Obj := .cells #[.int .i64 0, .int .i64 0, .int .i64 0] 231 (0, 0)
/-- Ahead of the sums: the arguments' boxes, the arrays that are there. -/
structure PP (w : World) (r s : R3) (V : World) (o6 o7 : Option Nat) : Prop where
  low : Below w.heap.size w V
  bx : V.heap[w.heap.size]? = some (.cells #[.int .i64 r.1, .int .i64 r.2.1, .int .i64 r.2.2] 145 (0, 0))
  by_ : V.heap[w.heap.size + 1]? = some (.cells #[.int .i64 s.1, .int .i64 s.2.1, .int .i64 s.2.2] 145 (0, 0))
  rt : V.heap[w.heap.size + 2]? = some (.cells #[.int .i64 0, .int .i64 0, .int .i64 0] 145 (0, 0))
  h6 : ∀ g, o6 = some g → V.heap[g]? = some zr
  h7 : ∀ g, o7 = some g → V.heap[g]? = some zr
  n67 : ∀ g k, o6 = some g → o7 = some k → g ≠ k
  g6 : ∀ g, o6 = some g → w.heap.size ≤ g
  g7 : ∀ g, o7 = some g → w.heap.size ≤ g
section
variable {w V V' : World} {r s : R3} {o6 o7 : Option Nat}
theorem PP.later (h : PP w r s V o6 o7) (hb : Below V.heap.size V V') : PP w r s V' o6 o7 :=
  ⟨h.low.trans (hb.mono h.low.size), (hb.block _ (Array.getElem?_eq_some_iff.1 h.bx).1).trans h.bx, (hb.block _ (Array.getElem?_eq_some_iff.1 h.by_).1).trans h.by_, (hb.block _ (Array.getElem?_eq_some_iff.1 h.rt).1).trans h.rt,
    fun g e => (hb.block _ (Array.getElem?_eq_some_iff.1 (h.h6 g e)).1).trans (h.h6 g e), fun g e => (hb.block _ (Array.getElem?_eq_some_iff.1 (h.h7 g e)).1).trans (h.h7 g e), h.n67, h.g6, h.g7⟩
theorem PP.drew (h : PP w r s V o6 o7) : PP w r s V.drew o6 o7 := h.later (Below.refl _ V).drew
theorem PP.a6 (h : PP w r s V none o7) {g : Nat} {V1 : World} (hg : g = V.heap.size) (hV : V1 = V.alloc (.cells #[.int .i64 0, .int .i64 0, .int .i64 0] 231)) : PP w r s V1 (some g) o7 := by
  subst hg
  subst hV
  have h1 := h.later ((Below.refl _ V).alloc (Nat.le_refl _) (.cells #[.int .i64 0, .int .i64 0, .int .i64 0] 231))
  refine ⟨h1.low, h1.bx, h1.by_, h1.rt, fun g e => ?_, h1.h7, fun g k e1 e2 => ?_, fun g e => by cases e; exact h.low.size, h.g7⟩
  · cases e; exact heap_alloc_new V _
  · cases e1
    have := (Array.getElem?_eq_some_iff.1 (h.h7 k e2)).1
    omega
theorem PP.a7 (h : PP w r s V o6 none) {g : Nat} {V1 : World} (hg : g = V.heap.size) (hV : V1 = V.alloc (.cells #[.int .i64 0, .int .i64 0, .int .i64 0] 231)) : PP w r s V1 o6 (some g) := by
  subst hg
  subst hV
  have h1 := h.later ((Below.refl _ V).alloc (Nat.le_refl _) (.cells #[.int .i64 0, .int .i64 0, .int .i64 0] 231))
  refine ⟨h1.low, h1.bx, h1.by_, h1.rt, h1.h6, fun g e => ?_, fun g k e1 e2 => ?_, h.g6, fun g e => by cases e; exact h.low.size⟩
  · cases e; exact heap_alloc_new V _
  · cases e2
    have := (Array.getElem?_eq_some_iff.1 (h.h6 g e1)).1
    omega
theorem PP.cells (h : PP w r s V o6 o7) : V.cell? ⟨w.heap.size, 0, none⟩ = some (.int .i64 r.1) ∧ V.cell? ⟨w.heap.size, 1, none⟩ = some (.int .i64 r.2.1) ∧ V.cell? ⟨w.heap.size, 2, none⟩ = some (.int .i64 r.2.2) ∧
    V.cell? ⟨w.heap.size + 1, 0, none⟩ = some (.int .i64 s.1) ∧ V.cell? ⟨w.heap.size + 1, 1, none⟩ = some (.int .i64 s.2.1) ∧ V.cell? ⟨w.heap.size + 1, 2, none⟩ = some (.int .i64 s.2.2) := by
  refine ⟨?_, ?_, ?_, ?_, ?_, ?_⟩
  · rw [cell_of_row V _ _ _ _ _ h.bx]; rfl
  · rw [cell_of_row V _ _ _ _ _ h.bx]; rfl
  · rw [cell_of_row V _ _ _ _ _ h.bx]; rfl
  · rw [cell_of_row V _ _ _ _ _ h.by_]; rfl
  · rw [cell_of_row V _ _ _ _ _ h.by_]; rfl
  · rw [cell_of_row V _ _ _ _ _ h.by_]; rfl
theorem PP.start (w : World) (r s : R3) : PP w r s (((w.alloc (.cells #[.int .i64 r.1, .int .i64 r.2.1, .int .i64 r.2.2] 145)).alloc (.cells #[.int .i64 s.1, .int .i64 s.2.1, .int .i64 s.2.2] 145)).alloc (.cells #[.int .i64 0, .int .i64 0, .int .i64 0] 145)) none none := by
  refine ⟨(((Below.refl _ w).alloc (Nat.le_refl _) _).alloc (by simp) _).alloc (by simp; omega) _, ?_, ?_, heap_at _ _ _ (by simp), (by simp), (by simp), (by simp), (by simp), (by simp)⟩
  · exact (Below.heap_alloc _ _ _ (by simp; omega)).trans ((Below.heap_alloc _ _ _ (by simp)).trans (heap_at _ _ _ rfl))
  · exact (Below.heap_alloc _ _ _ (by simp)).trans (heap_at _ _ _ (by simp))
end
/-- Two boxes. -/
structure PB (w : World) (r s : R3) (V : World) : Prop where
  low : Below w.heap.size w V
  bx : V.heap[w.heap.size]? = some (.cells #[.int .i64 r.1, .int .i64 r.2.1, .int .i64 r.2.2] 145 (0, 0))
  by_ : V.heap[w.heap.size + 1]? = some (.cells #[.int .i64 s.1, .int .i64 s.2.1, .int .i64 s.2.2] 145 (0, 0))
theorem PB.later {w V V' : World} {r s : R3} (h : PB w r s V) (hb : Below V.heap.size V V') : PB w r s V' :=
  ⟨h.low.trans (hb.mono h.low.size), (hb.block _ (Array.getElem?_eq_some_iff.1 h.bx).1).trans h.bx, (hb.block _ (Array.getElem?_eq_some_iff.1 h.by_).1).trans h.by_⟩
theorem PB.start (w : World) (r s : R3) : PB w r s ((w.alloc (.cells #[.int .i64 r.1, .int .i64 r.2.1, .int .i64 r.2.2] 145)).alloc (.cells #[.int .i64 s.1, .int .i64 s.2.1, .int .i64 s.2.2] 145)).drew := by
  refine ⟨(((Below.refl _ w).alloc (Nat.le_refl _) _).alloc (by simp) _).drew, ?_, heap_at _ _ _ (by simp)⟩
  exact (Below.heap_alloc _ _ _ (by simp)).trans (heap_at _ _ _ rfl)
theorem PB.cells {w V : World} {r s : R3} (h : PB w r s V) : V.cell? ⟨w.heap.size, 0, none⟩ = some (.int .i64 r.1) ∧ V.cell? ⟨w.heap.size, 1, none⟩ = some (.int .i64 r.2.1) ∧ V.cell? ⟨w.heap.size, 2, none⟩ = some (.int .i64 r.2.2) ∧
    V.cell? ⟨w.heap.size + 1, 0, none⟩ = some (.int .i64 s.1) ∧ V.cell? ⟨w.heap.size + 1, 1, none⟩ = some (.int .i64 s.2.1) ∧ V.cell? ⟨w.heap.size + 1, 2, none⟩ = some (.int .i64 s.2.2) := by
  refine ⟨?_, ?_, ?_, ?_, ?_, ?_⟩
  · rw [cell_of_row V _ _ _ _ _ h.bx]; rfl
  · rw [cell_of_row V _ _ _ _ _ h.bx]; rfl
  · rw [cell_of_row V _ _ _ _ _ h.bx]; rfl
  · rw [cell_of_row V _ _ _ _ _ h.by_]; rfl
  · rw [cell_of_row V _ _ _ _ _ h.by_]; rfl
  · rw [cell_of_row V _ _ _ _ _ h.by_]; rfl
/-- The arrays are filled. -/
structure PQ (w V : World) (g6 g7 : Nat) (x y : R3) : Prop where
  low : Below w.heap.size w V
  rt : V.heap[w.heap.size + 2]? = some (.cells #[.int .i64 0, .int .i64 0, .int .i64 0] 145 (0, 0))
  h6 : V.heap[g6]? = some (.cells #[.int .i64 x.1, .int .i64 x.2.1, .int .i64 x.2.2] 231 (0, 0))
  h7 : V.heap[g7]? = some (.cells #[.int .i64 y.1, .int .i64 y.2.1, .int .i64 y.2.2] 231 (0, 0))
  ne : g6 ≠ g7
  ge6 : w.heap.size ≤ g6
  ge7 : w.heap.size ≤ g7
section
variable {w V V' : World} {r s x y : R3} {g6 g7 : Nat}
theorem cells231 {V : World} {g : Nat} {x : R3} (h : V.heap[g]? = some (.cells #[.int .i64 x.1, .int .i64 x.2.1, .int .i64 x.2.2] 231 (0, 0))) :
    V.cell? ⟨g, 0, none⟩ = some (.int .i64 x.1) ∧ V.cell? ⟨g, 1, none⟩ = some (.int .i64 x.2.1) ∧ V.cell? ⟨g, 2, none⟩ = some (.int .i64 x.2.2) ∧ ∀ j, V.frozen? ⟨g, j, none⟩ = false := by
  refine ⟨?_, ?_, ?_, fun j => by simp [World.frozen?, h]⟩ <;> (rw [cell_of_row V g _ _ _ _ h]; rfl)
theorem set231 {V : World} {g : Nat} {x : R3} (h : V.heap[g]? = some (.cells #[.int .i64 x.1, .int .i64 x.2.1, .int .i64 x.2.2] 231 (0, 0))) (a b c : Int) :
    (((V.setCell ⟨g, 0, none⟩ (.int .i64 a)).setCell ⟨g, 1, none⟩ (.int .i64 b)).setCell ⟨g, 2, none⟩ (.int .i64 c)).heap[g]? = some (.cells #[.int .i64 a, .int .i64 b, .int .i64 c] 231 (0, 0)) := by
  have e1 := heap_setCell_same V g 0 _ 231 (.int .i64 a) h
  have e2 := heap_setCell_same _ g 1 _ 231 (.int .i64 b) e1
  exact heap_setCell_same _ g 2 _ 231 (.int .i64 c) e2
theorem keeps231 (V : World) (g : Nat) (a b c : Value) : Keeps (fun k => k = g) V (((V.setCell ⟨g, 0, none⟩ a).setCell ⟨g, 1, none⟩ b).setCell ⟨g, 2, none⟩ c) :=
  (((Keeps.refl (fun k => k = g) V).setCell ⟨g, 0, none⟩ a (.inl rfl)).setCell ⟨g, 1, none⟩ b (.inl rfl)).setCell ⟨g, 2, none⟩ c (.inl rfl)
theorem PP.fill (h : PP w r s V (some g6) (some g7)) (hg : w.heap.size ≤ g6 ∧ w.heap.size ≤ g7) : PQ w (((((((V.setCell ⟨g6, 0, none⟩ (.int .i64 r.1)).setCell ⟨g6, 1, none⟩ (.int .i64 r.2.1)).setCell ⟨g6, 2, none⟩ (.int .i64 r.2.2)).setCell ⟨g7, 0, none⟩ (.int .i64 s.1)).setCell ⟨g7, 1, none⟩ (.int .i64 s.2.1)).setCell ⟨g7, 2, none⟩ (.int .i64 s.2.2))) g6 g7 r s := by
  have z6 : V.heap[g6]? = some (.cells #[.int .i64 0, .int .i64 0, .int .i64 0] 231 (0, 0)) := h.h6 g6 rfl
  have z7 : V.heap[g7]? = some (.cells #[.int .i64 0, .int .i64 0, .int .i64 0] 231 (0, 0)) := h.h7 g7 rfl
  have ne := h.n67 g6 g7 rfl rfl
  have k1 := keeps231 V g6 (.int .i64 r.1) (.int .i64 r.2.1) (.int .i64 r.2.2)
  have f6 := set231 (x := (0, 0, 0)) z6 r.1 r.2.1 r.2.2
  generalize ((V.setCell ⟨g6, 0, none⟩ (.int .i64 r.1)).setCell ⟨g6, 1, none⟩ (.int .i64 r.2.1)).setCell ⟨g6, 2, none⟩ (.int .i64 r.2.2) = V1 at *
  have k2 := keeps231 V1 g7 (.int .i64 s.1) (.int .i64 s.2.1) (.int .i64 s.2.2)
  have y7 := (k1.block g7 (Array.getElem?_eq_some_iff.1 z7).1 (fun e => ne e.symm)).trans z7
  have f7 := set231 (x := (0, 0, 0)) y7 s.1 s.2.1 s.2.2
  have n1 : w.heap.size + 2 ≠ g6 := fun e => by have := h.rt; rw [e, z6] at this; cases this
  have n2 : w.heap.size + 2 ≠ g7 := fun e => by have := h.rt; rw [e, z7] at this; cases this
  have hlt := (Array.getElem?_eq_some_iff.1 h.rt).1
  have l1 := h.low.size
  exact ⟨h.low.trans ((k1.below l1 (fun i hi => by rw [hi]; exact hg.1)).trans (k2.below (Nat.le_trans l1 k1.size) (fun i hi => by rw [hi]; exact hg.2))),
    (k2.block _ (Nat.lt_of_lt_of_le hlt k1.size) n2).trans ((k1.block _ hlt n1).trans h.rt), (k2.block g6 (Array.getElem?_eq_some_iff.1 f6).1 ne).trans f6, f7, ne, hg.1, hg.2⟩
theorem PP.ge (h : PP w r s V (some g6) (some g7)) : w.heap.size ≤ g6 ∧ w.heap.size ≤ g7 := ⟨h.g6 _ rfl, h.g7 _ rfl⟩
theorem PP.turn {o6 o7 o6' o7' : Option Nat} {g : Nat} (h : PP w r s V o6 o7) (k : Keeps (fun i => i = g) V V') (hg : w.heap.size ≤ g) (hb : ∃ cs, V.heap[g]? = some (.cells cs 231 (0, 0))) (h6 : ∀ j, o6' = some j → o6 = some j ∧ j ≠ g) (h7 : ∀ j, o7' = some j → o7 = some j ∧ j ≠ g) : PP w r s V' o6' o7' := by
  obtain ⟨cs, hb⟩ := hb
  have other : ∀ {i : Nat} {l : Array Value}, V.heap[i]? = some (.cells l 145 (0, 0)) → V'.heap[i]? = some (.cells l 145 (0, 0)) := fun {i l} hi =>
    (k.block i (Array.getElem?_eq_some_iff.1 hi).1 (fun e => by rw [e, hb] at hi; cases hi)).trans hi
  exact ⟨h.low.trans (k.below h.low.size (fun i hi => by rw [hi]; exact hg)), other h.bx, other h.by_, other h.rt,
    fun j e => (k.block j (Array.getElem?_eq_some_iff.1 (h.h6 j (h6 j e).1)).1 (h6 j e).2).trans (h.h6 j (h6 j e).1),
    fun j e => (k.block j (Array.getElem?_eq_some_iff.1 (h.h7 j (h7 j e).1)).1 (h7 j e).2).trans (h.h7 j (h7 j e).1),
    fun a b e1 e2 => h.n67 a b (h6 a e1).1 (h7 b e2).1, fun j e => h.g6 j (h6 j e).1, fun j e => h.g7 j (h7 j e).1⟩
theorem PP.half (h : PP w r s V (some g6) (some g7)) (hg : w.heap.size ≤ g6 ∧ w.heap.size ≤ g7) {a b c : Value} : PP w r s (((V.setCell ⟨g6, 0, none⟩ a).setCell ⟨g6, 1, none⟩ b).setCell ⟨g6, 2, none⟩ c) none (some g7) :=
  h.turn (keeps231 V g6 a b c) hg.1 ⟨_, h.h6 g6 rfl⟩ (by simp) (fun j e => ⟨e, fun e2 => by cases e; exact h.n67 g6 g7 rfl rfl e2.symm⟩)
theorem PP.half7 (h : PP w r s V none (some g7)) (hg : w.heap.size ≤ g6 ∧ w.heap.size ≤ g7) {a b c : Value} : PP w r s (((V.setCell ⟨g7, 0, none⟩ a).setCell ⟨g7, 1, none⟩ b).setCell ⟨g7, 2, none⟩ c) none none :=
  h.turn (keeps231 V g7 a b c) hg.2 ⟨_, h.h7 g7 rfl⟩ (by simp) (by simp)
theorem cells145 {V : World} {g : Nat} {a b c : Int} (h : V.heap[g]? = some (.cells #[.int .i64 a, .int .i64 b, .int .i64 c] 145 (0, 0))) :
    V.cell? ⟨g, 0, none⟩ = some (.int .i64 a) ∧ V.cell? ⟨g, 1, none⟩ = some (.int .i64 b) ∧ V.cell? ⟨g, 2, none⟩ = some (.int .i64 c) ∧ ∀ j, V.frozen? ⟨g, j, none⟩ = false := by
  refine ⟨?_, ?_, ?_, fun j => by simp [World.frozen?, h]⟩ <;> (rw [cell_of_row V g _ _ _ _ h]; rfl)
theorem PQ.put (h : PQ w V g6 g7 x y) (j : Nat) (v : Value) {x' : R3} (hx : (V.setCell ⟨g6, j, none⟩ v).heap[g6]? = some (.cells #[.int .i64 x'.1, .int .i64 x'.2.1, .int .i64 x'.2.2] 231 (0, 0))) : PQ w (V.setCell ⟨g6, j, none⟩ v) g6 g7 x' y := by
  have k : Keeps (fun i => i = g6) V (V.setCell ⟨g6, j, none⟩ v) := (Keeps.refl (fun i => i = g6) V).setCell ⟨g6, j, none⟩ v (.inl rfl)
  exact ⟨h.low.trans (k.below h.low.size (fun i hi => by rw [hi]; exact h.ge6)), (k.block _ (Array.getElem?_eq_some_iff.1 h.rt).1 (fun e => by have := h.rt; rw [e, h.h6] at this; exact absurd (Obj.cells.inj (Option.some.inj this)).2.1 (by decide))).trans h.rt, hx,
    (k.block _ (Array.getElem?_eq_some_iff.1 h.h7).1 (fun e => h.ne e.symm)).trans h.h7, h.ne, h.ge6, h.ge7⟩
theorem PQ.put0 {a b c : Int} (h : PQ w V g6 g7 (a, b, c) y) (m : Int) : PQ w (V.setCell ⟨g6, 0, none⟩ (.int .i64 m)) g6 g7 (m, b, c) y := h.put 0 _ (heap_setCell_same V g6 0 _ 231 (.int .i64 m) h.h6)
theorem PQ.put1 {a b c : Int} (h : PQ w V g6 g7 (a, b, c) y) (m : Int) : PQ w (V.setCell ⟨g6, 1, none⟩ (.int .i64 m)) g6 g7 (a, m, c) y := h.put 1 _ (heap_setCell_same V g6 1 _ 231 (.int .i64 m) h.h6)
theorem PQ.put2 {a b c : Int} (h : PQ w V g6 g7 (a, b, c) y) (m : Int) : PQ w (V.setCell ⟨g6, 2, none⟩ (.int .i64 m)) g6 g7 (a, b, m) y := h.put 2 _ (heap_setCell_same V g6 2 _ 231 (.int .i64 m) h.h6)
theorem PQ.later (h : PQ w V g6 g7 x y) (hb : Below V.heap.size V V') : PQ w V' g6 g7 x y :=
  ⟨h.low.trans (hb.mono h.low.size), (hb.block _ (Array.getElem?_eq_some_iff.1 h.rt).1).trans h.rt, (hb.block _ (Array.getElem?_eq_some_iff.1 h.h6).1).trans h.h6, (hb.block _ (Array.getElem?_eq_some_iff.1 h.h7).1).trans h.h7, h.ne, h.ge6, h.ge7⟩
end

def pre128.T : Bool × List (List Nat × List Nat) := (true, [([], []), ([0], [0]), ([], []), ([2, 1], [2]), ([], []), ([], []), ([4, 1, 3, 0, 1, 4, 5], [1, 4]), ([5, 3, 6, 0, 1, 2, 3, 4, 5, 6], [3, 5])])
def pre128.B : List Nat := [0, 1, 0, 7, 0, 0, 63, 127]
theorem pre128.tab : rtab .any (opsOf Try.f128 1) = pre128.T := by kernel_rfl
theorem pre128.bits : waitsOk pre128.T.2 pre128.B = true := by kernel_rfl
def rnd128.T : Bool × List (List Nat × List Nat) := (true, [([], []), ([], []), ([1], [1]), ([2], [2]), ([], []), ([4], [4]), ([5], [5]), ([3, 6], [3, 6]), ([0, 0, 1, 2, 3, 4, 5, 6, 7], [0]), ([8, 7, 0, 1, 2, 3, 4, 5, 6, 7], [7, 8])])
def rnd128.B : List Nat := [0, 0, 2, 6, 0, 16, 48, 126, 255, 511]
theorem rnd128.tab : rtab .any (opsOf Try.f128 5) = rnd128.T := by kernel_rfl
theorem rnd128.bits : waitsOk rnd128.T.2 rnd128.B = true := by kernel_rfl
set_option maxRecDepth 100000 in
set_option maxHeartbeats 4000000 in
theorem max_any (r s : R3) (w : World) : Calls Try.prog 128 #[rv r, rv s] w fun e w' => e = .returned (rv (max3 r s)) ∧ Below w.heap.size w w' := by
  have HO := hid (fun r w => of_any r w)
  obtain ⟨a, b, c⟩ := r
  obtain ⟨d, e, f⟩ := s
  unfold rv at HO ⊢
  have HA := hid (HO.out (a, b, c))
  have HB := hid (HO.out (d, e, f))
  have HPP0 := hid (PP.start w (a, b, c) (d, e, f))
  clear HO
  go_enter Try.func128, Try.ntmps128
  go_upto_region 1 with fail
  refine start_ (n := 8) (S := fun V : World => V.cell? ⟨w.heap.size, 0, none⟩ = some (.int .i64 a) ∧ V.cell? ⟨w.heap.size, 1, none⟩ = some (.int .i64 b) ∧ V.cell? ⟨w.heap.size, 2, none⟩ = some (.int .i64 c) ∧ V.cell? ⟨w.heap.size + 1, 0, none⟩ = some (.int .i64 d) ∧ V.cell? ⟨w.heap.size + 1, 1, none⟩ = some (.int .i64 e) ∧ V.cell? ⟨w.heap.size + 1, 2, none⟩ = some (.int .i64 f)) (ds := []) #[false, false, false, false, false, false, false, false] (by kernel_rfl) rfl rfl (HPP0.out.drew.cells) (fun hHeld => ?_); refine with_tabW pre128.tab pre128.bits (fun HT_ HW_ => ?_)
  refine take_ (i := 0) (N := some 8) (v := ?_) (a' := ?_) #[true, false, false, false, false, false, false, false] rfl rfl (take_ofW HT_.out HW_.out (by kernel_rfl)) (fun _ _ _ h => h) (Or.inl ⟨by rfl, ?_⟩) hHeld ?_ ?_
  rotate_left
  · rintro w' ⟨s0, s1, s2, s3, s4, s5⟩
    go_simp
    with_reducible rfl
  rotate_left
  · simp only [Act.put, List.setIfInBounds_toArray, List.set_cons_zero, List.set_cons_succ, i64_w, i32_w]
    rfl
  refine take_ (i := 2) (N := some 10) (v := ?_) (a' := ?_) #[true, false, true, false, false, false, false, false] rfl rfl (take_ofW HT_.out HW_.out (by kernel_rfl)) (fun _ _ _ h => h) (Or.inl ⟨by rfl, ?_⟩) hHeld ?_ ?_
  rotate_left
  · rintro w' ⟨s0, s1, s2, s3, s4, s5⟩
    go_simp
    with_reducible rfl
  rotate_left
  · simp only [Act.put, List.setIfInBounds_toArray, List.set_cons_zero, List.set_cons_succ, i64_w, i32_w]
    rfl
  have HPP := hid HPP0.out.drew
  clear HPP0
  refine join_ (σ := Nat × Nat) 2 #[true, true, true, true, true, true, false, false] (fun s_ => [(9, .agg #[.int .i64 a, .int .i64 b, .int .i64 c]), (11, .agg #[.int .i64 d, .int .i64 e, .int .i64 f]), (5, .pointer (some ⟨s_.1, 0, none⟩)), (6, .pointer (some ⟨s_.2, 0, none⟩))]) (fun s_ w' => (fun V : World => V.cell? ⟨w.heap.size, 0, none⟩ = some (.int .i64 a) ∧ V.cell? ⟨w.heap.size, 1, none⟩ = some (.int .i64 b) ∧ V.cell? ⟨w.heap.size, 2, none⟩ = some (.int .i64 c) ∧ V.cell? ⟨w.heap.size + 1, 0, none⟩ = some (.int .i64 d) ∧ V.cell? ⟨w.heap.size + 1, 1, none⟩ = some (.int .i64 e) ∧ V.cell? ⟨w.heap.size + 1, 2, none⟩ = some (.int .i64 f)) w' ∧ PP w (a, b, c) (d, e, f) w' (some s_.1) (some s_.2)) ?_ ?_
  rotate_left
  · intro hCont
    refine three_ (i := 1) (j := 4) (k := 5) (Ni := some 9) (Nj := some 5) (Nk := some 6) #[true, true, true, false, false, false, false, false] #[true, false, true, false, true, false, false, false] #[true, false, true, false, false, true, false, false] rfl rfl rfl rfl rfl rfl (three_of HT_.out (by kernel_rfl)) (by decide) (by decide) (by decide) (fun K hK => ?_) (fun K hK => ?_) (fun K hK => ?_)
    · skip
      refine goes_ Try.func134 (by kernel_rfl) rfl #[.agg #[.int .i64 a, .int .i64 b, .int .i64 c]] (by rfl) rfl rfl (by (try simp only [List.map_toArray, List.map_cons, List.map_nil]); first | done | rfl) ?_
      with_reducible refine (HA.out _).mono ?_
      rintro e_ V1 ⟨rfl, hb⟩
      refine ⟨_, rfl, ?_⟩
      have HPN := hid (HPP.out.later hb)
      clear HPP hb
      have HPP := HPN
      clear HPN
      refine hK.out _ _ HPP.out.cells (fun hHeld => ?_)
      clear hK K
      refine norm_ (a' := ?_) ?_ ?_
      rotate_left
      · show Act.put _ (some 9) _ = _
        simp only [Act.put, List.setIfInBounds_toArray, List.set_cons_zero, List.set_cons_succ, i64_w, i32_w]
        rfl
      refine three_ (i := 3) (j := 4) (k := 5) (Ni := some 11) (Nj := some 5) (Nk := some 6) #[true, true, true, true, false, false, false, false] #[true, true, true, false, true, false, false, false] #[true, true, true, false, false, true, false, false] rfl rfl rfl rfl rfl rfl (three_of HT_.out (by kernel_rfl)) (by decide) (by decide) (by decide) (fun K hK => ?_) (fun K hK => ?_) (fun K hK => ?_)
      · skip
        refine goes_ Try.func134 (by kernel_rfl) rfl #[.agg #[.int .i64 d, .int .i64 e, .int .i64 f]] (by rfl) rfl rfl (by (try simp only [List.map_toArray, List.map_cons, List.map_nil]); first | done | rfl) ?_
        with_reducible refine (HB.out _).mono ?_
        rintro e_ V2 ⟨rfl, hb⟩
        refine ⟨_, rfl, ?_⟩
        have HPN := hid (HPP.out.later hb)
        clear HPP hb
        have HPP := HPN
        clear HPN
        refine hK.out _ _ HPP.out.cells (fun hHeld => ?_)
        clear hK K
        refine norm_ (a' := ?_) ?_ ?_
        rotate_left
        · show Act.put _ (some 11) _ = _
          simp only [Act.put, List.setIfInBounds_toArray, List.set_cons_zero, List.set_cons_succ, i64_w, i32_w]
          rfl
        refine two_ (i := 4) (j := 5) (Ni := some 5) (Nj := some 6) #[true, true, true, true, true, false, false, false] #[true, true, true, true, false, true, false, false] rfl rfl rfl rfl (two_of HT_.out (by kernel_rfl)) (by decide) (by decide) (fun K hK => ?_) (fun K hK => ?_)
        · skip
          refine allocA_ (ob := .cells #[.int .i64 0, .int .i64 0, .int .i64 0] 231) (by rfl) rfl (by go_simp) ?_
          rintro g3 V3 hg hV
          have HPN := hid (HPP.out.a6 hg hV)
          clear HPP hg hV
          have HPP := HPN
          clear HPN
          refine hK.out _ _ HPP.out.cells (fun hHeld => ?_)
          clear hK K
          refine norm_ (a' := ?_) ?_ ?_
          rotate_left
          · show Act.put _ (some 5) _ = _
            simp only [Act.put, List.setIfInBounds_toArray, List.set_cons_zero, List.set_cons_succ, i64_w, i32_w]
            rfl
          refine one_ (i := 5) (N := some 6) #[true, true, true, true, true, true, false, false] rfl rfl (one_of HT_.out (by kernel_rfl)) (by decide) (fun K hK => ?_)
          refine allocA_ (ob := .cells #[.int .i64 0, .int .i64 0, .int .i64 0] 231) (by rfl) rfl (by go_simp) ?_
          rintro g4 V4 hg hV
          have HPN := hid (HPP.out.a7 hg hV)
          clear HPP hg hV
          have HPP := HPN
          clear HPN
          refine hK.out _ _ HPP.out.cells (fun hHeld => ?_)
          clear hK K
          refine norm_ (a' := ?_) ?_ ?_
          rotate_left
          · show Act.put _ (some 6) _ = _
            simp only [Act.put, List.setIfInBounds_toArray, List.set_cons_zero, List.set_cons_succ, i64_w, i32_w]
            rfl
          exact norm_ (by simp only [putAll, Act.put, List.setIfInBounds_toArray, List.set_cons_zero, List.set_cons_succ]) (hCont (g3, g4) _ ⟨hHeld, HPP.out⟩)
        · skip
          refine allocA_ (ob := .cells #[.int .i64 0, .int .i64 0, .int .i64 0] 231) (by rfl) rfl (by go_simp) ?_
          rintro g5 V5 hg hV
          have HPN := hid (HPP.out.a7 hg hV)
          clear HPP hg hV
          have HPP := HPN
          clear HPN
          refine hK.out _ _ HPP.out.cells (fun hHeld => ?_)
          clear hK K
          refine norm_ (a' := ?_) ?_ ?_
          rotate_left
          · show Act.put _ (some 6) _ = _
            simp only [Act.put, List.setIfInBounds_toArray, List.set_cons_zero, List.set_cons_succ, i64_w, i32_w]
            rfl
          refine one_ (i := 4) (N := some 5) #[true, true, true, true, true, true, false, false] rfl rfl (one_of HT_.out (by kernel_rfl)) (by decide) (fun K hK => ?_)
          refine allocA_ (ob := .cells #[.int .i64 0, .int .i64 0, .int .i64 0] 231) (by rfl) rfl (by go_simp) ?_
          rintro g6 V6 hg hV
          have HPN := hid (HPP.out.a6 hg hV)
          clear HPP hg hV
          have HPP := HPN
          clear HPN
          refine hK.out _ _ HPP.out.cells (fun hHeld => ?_)
          clear hK K
          refine norm_ (a' := ?_) ?_ ?_
          rotate_left
          · show Act.put _ (some 5) _ = _
            simp only [Act.put, List.setIfInBounds_toArray, List.set_cons_zero, List.set_cons_succ, i64_w, i32_w]
            rfl
          exact norm_ (by simp only [putAll, Act.put, List.setIfInBounds_toArray, List.set_cons_zero, List.set_cons_succ]) (hCont (g6, g5) _ ⟨hHeld, HPP.out⟩)
      · skip
        refine allocA_ (ob := .cells #[.int .i64 0, .int .i64 0, .int .i64 0] 231) (by rfl) rfl (by go_simp) ?_
        rintro g7 V7 hg hV
        have HPN := hid (HPP.out.a6 hg hV)
        clear HPP hg hV
        have HPP := HPN
        clear HPN
        refine hK.out _ _ HPP.out.cells (fun hHeld => ?_)
        clear hK K
        refine norm_ (a' := ?_) ?_ ?_
        rotate_left
        · show Act.put _ (some 5) _ = _
          simp only [Act.put, List.setIfInBounds_toArray, List.set_cons_zero, List.set_cons_succ, i64_w, i32_w]
          rfl
        refine two_ (i := 3) (j := 5) (Ni := some 11) (Nj := some 6) #[true, true, true, true, true, false, false, false] #[true, true, true, false, true, true, false, false] rfl rfl rfl rfl (two_of HT_.out (by kernel_rfl)) (by decide) (by decide) (fun K hK => ?_) (fun K hK => ?_)
        · skip
          refine goes_ Try.func134 (by kernel_rfl) rfl #[.agg #[.int .i64 d, .int .i64 e, .int .i64 f]] (by rfl) rfl rfl (by (try simp only [List.map_toArray, List.map_cons, List.map_nil]); first | done | rfl) ?_
          with_reducible refine (HB.out _).mono ?_
          rintro e_ V8 ⟨rfl, hb⟩
          refine ⟨_, rfl, ?_⟩
          have HPN := hid (HPP.out.later hb)
          clear HPP hb
          have HPP := HPN
          clear HPN
          refine hK.out _ _ HPP.out.cells (fun hHeld => ?_)
          clear hK K
          refine norm_ (a' := ?_) ?_ ?_
          rotate_left
          · show Act.put _ (some 11) _ = _
            simp only [Act.put, List.setIfInBounds_toArray, List.set_cons_zero, List.set_cons_succ, i64_w, i32_w]
            rfl
          refine one_ (i := 5) (N := some 6) #[true, true, true, true, true, true, false, false] rfl rfl (one_of HT_.out (by kernel_rfl)) (by decide) (fun K hK => ?_)
          refine allocA_ (ob := .cells #[.int .i64 0, .int .i64 0, .int .i64 0] 231) (by rfl) rfl (by go_simp) ?_
          rintro g9 V9 hg hV
          have HPN := hid (HPP.out.a7 hg hV)
          clear HPP hg hV
          have HPP := HPN
          clear HPN
          refine hK.out _ _ HPP.out.cells (fun hHeld => ?_)
          clear hK K
          refine norm_ (a' := ?_) ?_ ?_
          rotate_left
          · show Act.put _ (some 6) _ = _
            simp only [Act.put, List.setIfInBounds_toArray, List.set_cons_zero, List.set_cons_succ, i64_w, i32_w]
            rfl
          exact norm_ (by simp only [putAll, Act.put, List.setIfInBounds_toArray, List.set_cons_zero, List.set_cons_succ]) (hCont (g7, g9) _ ⟨hHeld, HPP.out⟩)
        · skip
          refine allocA_ (ob := .cells #[.int .i64 0, .int .i64 0, .int .i64 0] 231) (by rfl) rfl (by go_simp) ?_
          rintro g10 V10 hg hV
          have HPN := hid (HPP.out.a7 hg hV)
          clear HPP hg hV
          have HPP := HPN
          clear HPN
          refine hK.out _ _ HPP.out.cells (fun hHeld => ?_)
          clear hK K
          refine norm_ (a' := ?_) ?_ ?_
          rotate_left
          · show Act.put _ (some 6) _ = _
            simp only [Act.put, List.setIfInBounds_toArray, List.set_cons_zero, List.set_cons_succ, i64_w, i32_w]
            rfl
          refine one_ (i := 3) (N := some 11) #[true, true, true, true, true, true, false, false] rfl rfl (one_of HT_.out (by kernel_rfl)) (by decide) (fun K hK => ?_)
          refine goes_ Try.func134 (by kernel_rfl) rfl #[.agg #[.int .i64 d, .int .i64 e, .int .i64 f]] (by rfl) rfl rfl (by (try simp only [List.map_toArray, List.map_cons, List.map_nil]); first | done | rfl) ?_
          with_reducible refine (HB.out _).mono ?_
          rintro e_ V11 ⟨rfl, hb⟩
          refine ⟨_, rfl, ?_⟩
          have HPN := hid (HPP.out.later hb)
          clear HPP hb
          have HPP := HPN
          clear HPN
          refine hK.out _ _ HPP.out.cells (fun hHeld => ?_)
          clear hK K
          refine norm_ (a' := ?_) ?_ ?_
          rotate_left
          · show Act.put _ (some 11) _ = _
            simp only [Act.put, List.setIfInBounds_toArray, List.set_cons_zero, List.set_cons_succ, i64_w, i32_w]
            rfl
          exact norm_ (by simp only [putAll, Act.put, List.setIfInBounds_toArray, List.set_cons_zero, List.set_cons_succ]) (hCont (g7, g10) _ ⟨hHeld, HPP.out⟩)
      · skip
        refine allocA_ (ob := .cells #[.int .i64 0, .int .i64 0, .int .i64 0] 231) (by rfl) rfl (by go_simp) ?_
        rintro g12 V12 hg hV
        have HPN := hid (HPP.out.a7 hg hV)
        clear HPP hg hV
        have HPP := HPN
        clear HPN
        refine hK.out _ _ HPP.out.cells (fun hHeld => ?_)
        clear hK K
        refine norm_ (a' := ?_) ?_ ?_
        rotate_left
        · show Act.put _ (some 6) _ = _
          simp only [Act.put, List.setIfInBounds_toArray, List.set_cons_zero, List.set_cons_succ, i64_w, i32_w]
          rfl
        refine two_ (i := 3) (j := 4) (Ni := some 11) (Nj := some 5) #[true, true, true, true, false, true, false, false] #[true, true, true, false, true, true, false, false] rfl rfl rfl rfl (two_of HT_.out (by kernel_rfl)) (by decide) (by decide) (fun K hK => ?_) (fun K hK => ?_)
        · skip
          refine goes_ Try.func134 (by kernel_rfl) rfl #[.agg #[.int .i64 d, .int .i64 e, .int .i64 f]] (by rfl) rfl rfl (by (try simp only [List.map_toArray, List.map_cons, List.map_nil]); first | done | rfl) ?_
          with_reducible refine (HB.out _).mono ?_
          rintro e_ V13 ⟨rfl, hb⟩
          refine ⟨_, rfl, ?_⟩
          have HPN := hid (HPP.out.later hb)
          clear HPP hb
          have HPP := HPN
          clear HPN
          refine hK.out _ _ HPP.out.cells (fun hHeld => ?_)
          clear hK K
          refine norm_ (a' := ?_) ?_ ?_
          rotate_left
          · show Act.put _ (some 11) _ = _
            simp only [Act.put, List.setIfInBounds_toArray, List.set_cons_zero, List.set_cons_succ, i64_w, i32_w]
            rfl
          refine one_ (i := 4) (N := some 5) #[true, true, true, true, true, true, false, false] rfl rfl (one_of HT_.out (by kernel_rfl)) (by decide) (fun K hK => ?_)
          refine allocA_ (ob := .cells #[.int .i64 0, .int .i64 0, .int .i64 0] 231) (by rfl) rfl (by go_simp) ?_
          rintro g14 V14 hg hV
          have HPN := hid (HPP.out.a6 hg hV)
          clear HPP hg hV
          have HPP := HPN
          clear HPN
          refine hK.out _ _ HPP.out.cells (fun hHeld => ?_)
          clear hK K
          refine norm_ (a' := ?_) ?_ ?_
          rotate_left
          · show Act.put _ (some 5) _ = _
            simp only [Act.put, List.setIfInBounds_toArray, List.set_cons_zero, List.set_cons_succ, i64_w, i32_w]
            rfl
          exact norm_ (by simp only [putAll, Act.put, List.setIfInBounds_toArray, List.set_cons_zero, List.set_cons_succ]) (hCont (g14, g12) _ ⟨hHeld, HPP.out⟩)
        · skip
          refine allocA_ (ob := .cells #[.int .i64 0, .int .i64 0, .int .i64 0] 231) (by rfl) rfl (by go_simp) ?_
          rintro g15 V15 hg hV
          have HPN := hid (HPP.out.a6 hg hV)
          clear HPP hg hV
          have HPP := HPN
          clear HPN
          refine hK.out _ _ HPP.out.cells (fun hHeld => ?_)
          clear hK K
          refine norm_ (a' := ?_) ?_ ?_
          rotate_left
          · show Act.put _ (some 5) _ = _
            simp only [Act.put, List.setIfInBounds_toArray, List.set_cons_zero, List.set_cons_succ, i64_w, i32_w]
            rfl
          refine one_ (i := 3) (N := some 11) #[true, true, true, true, true, true, false, false] rfl rfl (one_of HT_.out (by kernel_rfl)) (by decide) (fun K hK => ?_)
          refine goes_ Try.func134 (by kernel_rfl) rfl #[.agg #[.int .i64 d, .int .i64 e, .int .i64 f]] (by rfl) rfl rfl (by (try simp only [List.map_toArray, List.map_cons, List.map_nil]); first | done | rfl) ?_
          with_reducible refine (HB.out _).mono ?_
          rintro e_ V16 ⟨rfl, hb⟩
          refine ⟨_, rfl, ?_⟩
          have HPN := hid (HPP.out.later hb)
          clear HPP hb
          have HPP := HPN
          clear HPN
          refine hK.out _ _ HPP.out.cells (fun hHeld => ?_)
          clear hK K
          refine norm_ (a' := ?_) ?_ ?_
          rotate_left
          · show Act.put _ (some 11) _ = _
            simp only [Act.put, List.setIfInBounds_toArray, List.set_cons_zero, List.set_cons_succ, i64_w, i32_w]
            rfl
          exact norm_ (by simp only [putAll, Act.put, List.setIfInBounds_toArray, List.set_cons_zero, List.set_cons_succ]) (hCont (g15, g12) _ ⟨hHeld, HPP.out⟩)
    · skip
      refine allocA_ (ob := .cells #[.int .i64 0, .int .i64 0, .int .i64 0] 231) (by rfl) rfl (by go_simp) ?_
      rintro g17 V17 hg hV
      have HPN := hid (HPP.out.a6 hg hV)
      clear HPP hg hV
      have HPP := HPN
      clear HPN
      refine hK.out _ _ HPP.out.cells (fun hHeld => ?_)
      clear hK K
      refine norm_ (a' := ?_) ?_ ?_
      rotate_left
      · show Act.put _ (some 5) _ = _
        simp only [Act.put, List.setIfInBounds_toArray, List.set_cons_zero, List.set_cons_succ, i64_w, i32_w]
        rfl
      refine two_ (i := 1) (j := 5) (Ni := some 9) (Nj := some 6) #[true, true, true, false, true, false, false, false] #[true, false, true, false, true, true, false, false] rfl rfl rfl rfl (two_of HT_.out (by kernel_rfl)) (by decide) (by decide) (fun K hK => ?_) (fun K hK => ?_)
      · skip
        refine goes_ Try.func134 (by kernel_rfl) rfl #[.agg #[.int .i64 a, .int .i64 b, .int .i64 c]] (by rfl) rfl rfl (by (try simp only [List.map_toArray, List.map_cons, List.map_nil]); first | done | rfl) ?_
        with_reducible refine (HA.out _).mono ?_
        rintro e_ V18 ⟨rfl, hb⟩
        refine ⟨_, rfl, ?_⟩
        have HPN := hid (HPP.out.later hb)
        clear HPP hb
        have HPP := HPN
        clear HPN
        refine hK.out _ _ HPP.out.cells (fun hHeld => ?_)
        clear hK K
        refine norm_ (a' := ?_) ?_ ?_
        rotate_left
        · show Act.put _ (some 9) _ = _
          simp only [Act.put, List.setIfInBounds_toArray, List.set_cons_zero, List.set_cons_succ, i64_w, i32_w]
          rfl
        refine two_ (i := 3) (j := 5) (Ni := some 11) (Nj := some 6) #[true, true, true, true, true, false, false, false] #[true, true, true, false, true, true, false, false] rfl rfl rfl rfl (two_of HT_.out (by kernel_rfl)) (by decide) (by decide) (fun K hK => ?_) (fun K hK => ?_)
        · skip
          refine goes_ Try.func134 (by kernel_rfl) rfl #[.agg #[.int .i64 d, .int .i64 e, .int .i64 f]] (by rfl) rfl rfl (by (try simp only [List.map_toArray, List.map_cons, List.map_nil]); first | done | rfl) ?_
          with_reducible refine (HB.out _).mono ?_
          rintro e_ V19 ⟨rfl, hb⟩
          refine ⟨_, rfl, ?_⟩
          have HPN := hid (HPP.out.later hb)
          clear HPP hb
          have HPP := HPN
          clear HPN
          refine hK.out _ _ HPP.out.cells (fun hHeld => ?_)
          clear hK K
          refine norm_ (a' := ?_) ?_ ?_
          rotate_left
          · show Act.put _ (some 11) _ = _
            simp only [Act.put, List.setIfInBounds_toArray, List.set_cons_zero, List.set_cons_succ, i64_w, i32_w]
            rfl
          refine one_ (i := 5) (N := some 6) #[true, true, true, true, true, true, false, false] rfl rfl (one_of HT_.out (by kernel_rfl)) (by decide) (fun K hK => ?_)
          refine allocA_ (ob := .cells #[.int .i64 0, .int .i64 0, .int .i64 0] 231) (by rfl) rfl (by go_simp) ?_
          rintro g20 V20 hg hV
          have HPN := hid (HPP.out.a7 hg hV)
          clear HPP hg hV
          have HPP := HPN
          clear HPN
          refine hK.out _ _ HPP.out.cells (fun hHeld => ?_)
          clear hK K
          refine norm_ (a' := ?_) ?_ ?_
          rotate_left
          · show Act.put _ (some 6) _ = _
            simp only [Act.put, List.setIfInBounds_toArray, List.set_cons_zero, List.set_cons_succ, i64_w, i32_w]
            rfl
          exact norm_ (by simp only [putAll, Act.put, List.setIfInBounds_toArray, List.set_cons_zero, List.set_cons_succ]) (hCont (g17, g20) _ ⟨hHeld, HPP.out⟩)
        · skip
          refine allocA_ (ob := .cells #[.int .i64 0, .int .i64 0, .int .i64 0] 231) (by rfl) rfl (by go_simp) ?_
          rintro g21 V21 hg hV
          have HPN := hid (HPP.out.a7 hg hV)
          clear HPP hg hV
          have HPP := HPN
          clear HPN
          refine hK.out _ _ HPP.out.cells (fun hHeld => ?_)
          clear hK K
          refine norm_ (a' := ?_) ?_ ?_
          rotate_left
          · show Act.put _ (some 6) _ = _
            simp only [Act.put, List.setIfInBounds_toArray, List.set_cons_zero, List.set_cons_succ, i64_w, i32_w]
            rfl
          refine one_ (i := 3) (N := some 11) #[true, true, true, true, true, true, false, false] rfl rfl (one_of HT_.out (by kernel_rfl)) (by decide) (fun K hK => ?_)
          refine goes_ Try.func134 (by kernel_rfl) rfl #[.agg #[.int .i64 d, .int .i64 e, .int .i64 f]] (by rfl) rfl rfl (by (try simp only [List.map_toArray, List.map_cons, List.map_nil]); first | done | rfl) ?_
          with_reducible refine (HB.out _).mono ?_
          rintro e_ V22 ⟨rfl, hb⟩
          refine ⟨_, rfl, ?_⟩
          have HPN := hid (HPP.out.later hb)
          clear HPP hb
          have HPP := HPN
          clear HPN
          refine hK.out _ _ HPP.out.cells (fun hHeld => ?_)
          clear hK K
          refine norm_ (a' := ?_) ?_ ?_
          rotate_left
          · show Act.put _ (some 11) _ = _
            simp only [Act.put, List.setIfInBounds_toArray, List.set_cons_zero, List.set_cons_succ, i64_w, i32_w]
            rfl
          exact norm_ (by simp only [putAll, Act.put, List.setIfInBounds_toArray, List.set_cons_zero, List.set_cons_succ]) (hCont (g17, g21) _ ⟨hHeld, HPP.out⟩)
      · skip
        refine allocA_ (ob := .cells #[.int .i64 0, .int .i64 0, .int .i64 0] 231) (by rfl) rfl (by go_simp) ?_
        rintro g23 V23 hg hV
        have HPN := hid (HPP.out.a7 hg hV)
        clear HPP hg hV
        have HPP := HPN
        clear HPN
        refine hK.out _ _ HPP.out.cells (fun hHeld => ?_)
        clear hK K
        refine norm_ (a' := ?_) ?_ ?_
        rotate_left
        · show Act.put _ (some 6) _ = _
          simp only [Act.put, List.setIfInBounds_toArray, List.set_cons_zero, List.set_cons_succ, i64_w, i32_w]
          rfl
        refine one_ (i := 1) (N := some 9) #[true, true, true, false, true, true, false, false] rfl rfl (one_of HT_.out (by kernel_rfl)) (by decide) (fun K hK => ?_)
        refine goes_ Try.func134 (by kernel_rfl) rfl #[.agg #[.int .i64 a, .int .i64 b, .int .i64 c]] (by rfl) rfl rfl (by (try simp only [List.map_toArray, List.map_cons, List.map_nil]); first | done | rfl) ?_
        with_reducible refine (HA.out _).mono ?_
        rintro e_ V24 ⟨rfl, hb⟩
        refine ⟨_, rfl, ?_⟩
        have HPN := hid (HPP.out.later hb)
        clear HPP hb
        have HPP := HPN
        clear HPN
        refine hK.out _ _ HPP.out.cells (fun hHeld => ?_)
        clear hK K
        refine norm_ (a' := ?_) ?_ ?_
        rotate_left
        · show Act.put _ (some 9) _ = _
          simp only [Act.put, List.setIfInBounds_toArray, List.set_cons_zero, List.set_cons_succ, i64_w, i32_w]
          rfl
        refine one_ (i := 3) (N := some 11) #[true, true, true, true, true, true, false, false] rfl rfl (one_of HT_.out (by kernel_rfl)) (by decide) (fun K hK => ?_)
        refine goes_ Try.func134 (by kernel_rfl) rfl #[.agg #[.int .i64 d, .int .i64 e, .int .i64 f]] (by rfl) rfl rfl (by (try simp only [List.map_toArray, List.map_cons, List.map_nil]); first | done | rfl) ?_
        with_reducible refine (HB.out _).mono ?_
        rintro e_ V25 ⟨rfl, hb⟩
        refine ⟨_, rfl, ?_⟩
        have HPN := hid (HPP.out.later hb)
        clear HPP hb
        have HPP := HPN
        clear HPN
        refine hK.out _ _ HPP.out.cells (fun hHeld => ?_)
        clear hK K
        refine norm_ (a' := ?_) ?_ ?_
        rotate_left
        · show Act.put _ (some 11) _ = _
          simp only [Act.put, List.setIfInBounds_toArray, List.set_cons_zero, List.set_cons_succ, i64_w, i32_w]
          rfl
        exact norm_ (by simp only [putAll, Act.put, List.setIfInBounds_toArray, List.set_cons_zero, List.set_cons_succ]) (hCont (g17, g23) _ ⟨hHeld, HPP.out⟩)
    · skip
      refine allocA_ (ob := .cells #[.int .i64 0, .int .i64 0, .int .i64 0] 231) (by rfl) rfl (by go_simp) ?_
      rintro g26 V26 hg hV
      have HPN := hid (HPP.out.a7 hg hV)
      clear HPP hg hV
      have HPP := HPN
      clear HPN
      refine hK.out _ _ HPP.out.cells (fun hHeld => ?_)
      clear hK K
      refine norm_ (a' := ?_) ?_ ?_
      rotate_left
      · show Act.put _ (some 6) _ = _
        simp only [Act.put, List.setIfInBounds_toArray, List.set_cons_zero, List.set_cons_succ, i64_w, i32_w]
        rfl
      refine two_ (i := 1) (j := 4) (Ni := some 9) (Nj := some 5) #[true, true, true, false, false, true, false, false] #[true, false, true, false, true, true, false, false] rfl rfl rfl rfl (two_of HT_.out (by kernel_rfl)) (by decide) (by decide) (fun K hK => ?_) (fun K hK => ?_)
      · skip
        refine goes_ Try.func134 (by kernel_rfl) rfl #[.agg #[.int .i64 a, .int .i64 b, .int .i64 c]] (by rfl) rfl rfl (by (try simp only [List.map_toArray, List.map_cons, List.map_nil]); first | done | rfl) ?_
        with_reducible refine (HA.out _).mono ?_
        rintro e_ V27 ⟨rfl, hb⟩
        refine ⟨_, rfl, ?_⟩
        have HPN := hid (HPP.out.later hb)
        clear HPP hb
        have HPP := HPN
        clear HPN
        refine hK.out _ _ HPP.out.cells (fun hHeld => ?_)
        clear hK K
        refine norm_ (a' := ?_) ?_ ?_
        rotate_left
        · show Act.put _ (some 9) _ = _
          simp only [Act.put, List.setIfInBounds_toArray, List.set_cons_zero, List.set_cons_succ, i64_w, i32_w]
          rfl
        refine two_ (i := 3) (j := 4) (Ni := some 11) (Nj := some 5) #[true, true, true, true, false, true, false, false] #[true, true, true, false, true, true, false, false] rfl rfl rfl rfl (two_of HT_.out (by kernel_rfl)) (by decide) (by decide) (fun K hK => ?_) (fun K hK => ?_)
        · skip
          refine goes_ Try.func134 (by kernel_rfl) rfl #[.agg #[.int .i64 d, .int .i64 e, .int .i64 f]] (by rfl) rfl rfl (by (try simp only [List.map_toArray, List.map_cons, List.map_nil]); first | done | rfl) ?_
          with_reducible refine (HB.out _).mono ?_
          rintro e_ V28 ⟨rfl, hb⟩
          refine ⟨_, rfl, ?_⟩
          have HPN := hid (HPP.out.later hb)
          clear HPP hb
          have HPP := HPN
          clear HPN
          refine hK.out _ _ HPP.out.cells (fun hHeld => ?_)
          clear hK K
          refine norm_ (a' := ?_) ?_ ?_
          rotate_left
          · show Act.put _ (some 11) _ = _
            simp only [Act.put, List.setIfInBounds_toArray, List.set_cons_zero, List.set_cons_succ, i64_w, i32_w]
            rfl
          refine one_ (i := 4) (N := some 5) #[true, true, true, true, true, true, false, false] rfl rfl (one_of HT_.out (by kernel_rfl)) (by decide) (fun K hK => ?_)
          refine allocA_ (ob := .cells #[.int .i64 0, .int .i64 0, .int .i64 0] 231) (by rfl) rfl (by go_simp) ?_
          rintro g29 V29 hg hV
          have HPN := hid (HPP.out.a6 hg hV)
          clear HPP hg hV
          have HPP := HPN
          clear HPN
          refine hK.out _ _ HPP.out.cells (fun hHeld => ?_)
          clear hK K
          refine norm_ (a' := ?_) ?_ ?_
          rotate_left
          · show Act.put _ (some 5) _ = _
            simp only [Act.put, List.setIfInBounds_toArray, List.set_cons_zero, List.set_cons_succ, i64_w, i32_w]
            rfl
          exact norm_ (by simp only [putAll, Act.put, List.setIfInBounds_toArray, List.set_cons_zero, List.set_cons_succ]) (hCont (g29, g26) _ ⟨hHeld, HPP.out⟩)
        · skip
          refine allocA_ (ob := .cells #[.int .i64 0, .int .i64 0, .int .i64 0] 231) (by rfl) rfl (by go_simp) ?_
          rintro g30 V30 hg hV
          have HPN := hid (HPP.out.a6 hg hV)
          clear HPP hg hV
          have HPP := HPN
          clear HPN
          refine hK.out _ _ HPP.out.cells (fun hHeld => ?_)
          clear hK K
          refine norm_ (a' := ?_) ?_ ?_
          rotate_left
          · show Act.put _ (some 5) _ = _
            simp only [Act.put, List.setIfInBounds_toArray, List.set_cons_zero, List.set_cons_succ, i64_w, i32_w]
            rfl
          refine one_ (i := 3) (N := some 11) #[true, true, true, true, true, true, false, false] rfl rfl (one_of HT_.out (by kernel_rfl)) (by decide) (fun K hK => ?_)
          refine goes_ Try.func134 (by kernel_rfl) rfl #[.agg #[.int .i64 d, .int .i64 e, .int .i64 f]] (by rfl) rfl rfl (by (try simp only [List.map_toArray, List.map_cons, List.map_nil]); first | done | rfl) ?_
          with_reducible refine (HB.out _).mono ?_
          rintro e_ V31 ⟨rfl, hb⟩
          refine ⟨_, rfl, ?_⟩
          have HPN := hid (HPP.out.later hb)
          clear HPP hb
          have HPP := HPN
          clear HPN
          refine hK.out _ _ HPP.out.cells (fun hHeld => ?_)
          clear hK K
          refine norm_ (a' := ?_) ?_ ?_
          rotate_left
          · show Act.put _ (some 11) _ = _
            simp only [Act.put, List.setIfInBounds_toArray, List.set_cons_zero, List.set_cons_succ, i64_w, i32_w]
            rfl
          exact norm_ (by simp only [putAll, Act.put, List.setIfInBounds_toArray, List.set_cons_zero, List.set_cons_succ]) (hCont (g30, g26) _ ⟨hHeld, HPP.out⟩)
      · skip
        refine allocA_ (ob := .cells #[.int .i64 0, .int .i64 0, .int .i64 0] 231) (by rfl) rfl (by go_simp) ?_
        rintro g32 V32 hg hV
        have HPN := hid (HPP.out.a6 hg hV)
        clear HPP hg hV
        have HPP := HPN
        clear HPN
        refine hK.out _ _ HPP.out.cells (fun hHeld => ?_)
        clear hK K
        refine norm_ (a' := ?_) ?_ ?_
        rotate_left
        · show Act.put _ (some 5) _ = _
          simp only [Act.put, List.setIfInBounds_toArray, List.set_cons_zero, List.set_cons_succ, i64_w, i32_w]
          rfl
        refine one_ (i := 1) (N := some 9) #[true, true, true, false, true, true, false, false] rfl rfl (one_of HT_.out (by kernel_rfl)) (by decide) (fun K hK => ?_)
        refine goes_ Try.func134 (by kernel_rfl) rfl #[.agg #[.int .i64 a, .int .i64 b, .int .i64 c]] (by rfl) rfl rfl (by (try simp only [List.map_toArray, List.map_cons, List.map_nil]); first | done | rfl) ?_
        with_reducible refine (HA.out _).mono ?_
        rintro e_ V33 ⟨rfl, hb⟩
        refine ⟨_, rfl, ?_⟩
        have HPN := hid (HPP.out.later hb)
        clear HPP hb
        have HPP := HPN
        clear HPN
        refine hK.out _ _ HPP.out.cells (fun hHeld => ?_)
        clear hK K
        refine norm_ (a' := ?_) ?_ ?_
        rotate_left
        · show Act.put _ (some 9) _ = _
          simp only [Act.put, List.setIfInBounds_toArray, List.set_cons_zero, List.set_cons_succ, i64_w, i32_w]
          rfl
        refine one_ (i := 3) (N := some 11) #[true, true, true, true, true, true, false, false] rfl rfl (one_of HT_.out (by kernel_rfl)) (by decide) (fun K hK => ?_)
        refine goes_ Try.func134 (by kernel_rfl) rfl #[.agg #[.int .i64 d, .int .i64 e, .int .i64 f]] (by rfl) rfl rfl (by (try simp only [List.map_toArray, List.map_cons, List.map_nil]); first | done | rfl) ?_
        with_reducible refine (HB.out _).mono ?_
        rintro e_ V34 ⟨rfl, hb⟩
        refine ⟨_, rfl, ?_⟩
        have HPN := hid (HPP.out.later hb)
        clear HPP hb
        have HPP := HPN
        clear HPN
        refine hK.out _ _ HPP.out.cells (fun hHeld => ?_)
        clear hK K
        refine norm_ (a' := ?_) ?_ ?_
        rotate_left
        · show Act.put _ (some 11) _ = _
          simp only [Act.put, List.setIfInBounds_toArray, List.set_cons_zero, List.set_cons_succ, i64_w, i32_w]
          rfl
        exact norm_ (by simp only [putAll, Act.put, List.setIfInBounds_toArray, List.set_cons_zero, List.set_cons_succ]) (hCont (g32, g26) _ ⟨hHeld, HPP.out⟩)
  clear HPP
  rintro ⟨g6, g7⟩ wj ⟨hHeld, hPP⟩
  have HPP := hid hPP
  clear hPP
  refine norm_ (a' := ?_) ?_ ?_
  rotate_left
  · simp only [putAll, Act.put, List.setIfInBounds_toArray, List.set_cons_zero, List.set_cons_succ]
    rfl
  obtain ⟨z0, z1, z2, z3⟩ := cells231 (x := (0, 0, 0)) (HPP.out.h6 g6 rfl)
  simp only at z0 z1 z2
  have z30 := z3 0
  have z31 := z3 1
  have z32 := z3 2
  have HGE := hid HPP.out.ge
  obtain ⟨W6, hW6⟩ : ∃ W6, W6 = ((wj.setCell ⟨g6, 0, none⟩ (.int .i64 a)).setCell ⟨g6, 1, none⟩ (.int .i64 b)).setCell ⟨g6, 2, none⟩ (.int .i64 c) := ⟨_, rfl⟩
  obtain ⟨W7, hW7⟩ : ∃ W7, W7 = ((W6.setCell ⟨g7, 0, none⟩ (.int .i64 d)).setCell ⟨g7, 1, none⟩ (.int .i64 e)).setCell ⟨g7, 2, none⟩ (.int .i64 f) := ⟨_, rfl⟩
  have HPQ := hid (HPP.out.fill HGE.out)
  have hmid : PP w (a, b, c) (d, e, f) W6 none (some g7) := by rw [hW6]; exact HPP.out.half HGE.out
  obtain ⟨u0, u1, u2, u3⟩ := cells231 (x := (0, 0, 0)) (hmid.h7 g7 rfl)
  simp only at u0 u1 u2
  have u30 := u3 0
  have u31 := u3 1
  have u32 := u3 2
  have HS6 := hid hmid.cells
  have hall : PQ w W7 g6 g7 (a, b, c) (d, e, f) := by rw [hW7, hW6]; exact HPQ.out
  have HS7 := hid (show PP w (a, b, c) (d, e, f) W7 none none by rw [hW7]; exact hmid.half7 HGE.out).cells
  clear HPQ
  have HPQ := hid hall
  have HW6 := hid hW6
  have HW7 := hid hW7
  clear z3 u3 hmid hall hW6 hW7 HPP
  refine one_ (i := 6) (N := none) #[true, true, true, true, true, true, true, false] rfl rfl (one_of HT_.out (by kernel_rfl)) (by decide) (fun K hK => ?_)
  refine skip_ (w1 := W6) (by rfl) rfl (by rw [HW6.out]; go_simp) ?_
  refine hK.out _ _ HS6.out (fun hHeld => ?_)
  clear hK K
  refine one_ (i := 7) (N := none) #[true, true, true, true, true, true, true, true] rfl rfl (one_of HT_.out (by kernel_rfl)) (by decide) (fun K hK => ?_)
  refine skip_ (w1 := W7) (by rfl) rfl (by rw [HW7.out]; go_simp) ?_
  refine hK.out _ _ HS7.out (fun hHeld => ?_)
  clear hK K
  refine done_ (done_of HT_.out (by kernel_rfl)) ?_
  clear z0 z1 z2 z30 z31 z32 u0 u1 u2 u30 u31 u32 HS6 HS7 HW6 HW7 HGE
  go_wp2_with fail
  go_loopg [7, 12] 3 (fun g s7 s12 wr => ∃ x : R3, Hid (PQ w wr g6 g7 x (d, e, f)) ∧ ((g = 3 ∧ s12 = .int .i64 0 ∧ x = (a, b, c)) ∨ (g = 2 ∧ s12 = .int .i64 1 ∧ x = (max a d, b, c)) ∨ (g = 1 ∧ s12 = .int .i64 2 ∧ x = (max a d, max b e, c)) ∨ (g = 0 ∧ s12 = .int .i64 3 ∧ x = (max a d, max b e, max c f))))
  case atStart => exact ⟨_, HPQ, .inl ⟨rfl, rfl, rfl⟩⟩
  case round =>
    clear HPQ
    obtain ⟨x, HP, ⟨rfl, rfl, rfl⟩ | ⟨rfl, rfl, rfl⟩ | ⟨rfl, rfl, rfl⟩ | ⟨rfl, rfl, rfl⟩⟩ := hrel
    · skip
      have HD := hid (HP.out.later (Below.refl _ wr).drew)
      obtain ⟨Wd, hWd⟩ : ∃ Wd, Wd = wr.drew := ⟨_, rfl⟩
      have HWD := hid hWd
      rw [← hWd] at HD
      obtain ⟨y0, y1, y2, y3⟩ := cells231 HD.out.h6
      obtain ⟨v0, v1, v2, v3⟩ := cells231 HD.out.h7
      simp only at y0 y1 y2 v0 v1 v2
      have y30 := y3 0
      clear y3 v3 hWd
      obtain ⟨W5, hW5⟩ : ∃ W5, W5 = Wd.setCell ⟨g6, 0, none⟩ (.int .i64 (max a d)) := ⟨_, rfl⟩
      have HN := hid (show PQ w W5 g6 g7 _ (d, e, f) by rw [hW5]; exact HD.out.put0 (max a d))
      have HW5 := hid hW5
      clear hW5
      go_upto_region 5 with fail
      refine start_ (n := 10) (S := fun V : World => V.cell? ⟨g6, 0, none⟩ = some (.int .i64 a) ∧ V.cell? ⟨g7, 0, none⟩ = some (.int .i64 d)) (ds := [9]) #[false, false, false, false, false, false, false, false, false, false] (by kernel_rfl) rfl rfl (by rw [← HWD.out]; exact ⟨y0, v0⟩) (fun hHeld => ?_); refine with_tabW rnd128.tab rnd128.bits (fun HT_ HW_ => ?_)
      rw [← HWD.out] at hHeld ⊢
      refine pure_ (i := 0) (N := some 15) (v := ?_) (a' := ?_) #[true, false, false, false, false, false, false, false, false, false] rfl rfl (any_of HT_.out (by kernel_rfl)) (fun _ _ _ h => h) (Or.inl ⟨by rfl, ?_⟩) ?_ ?_
      rotate_left
      · intro w'
        go_simp
        with_reducible rfl
      rotate_left
      · simp only [Act.put, List.setIfInBounds_toArray, List.set_cons_zero, List.set_cons_succ, i64_w, i32_w]
        rfl
      refine pure_ (i := 1) (N := some 16) (v := ?_) (a' := ?_) #[true, true, false, false, false, false, false, false, false, false] rfl rfl (any_of HT_.out (by kernel_rfl)) (fun _ _ _ h => h) (Or.inl ⟨by rfl, ?_⟩) ?_ ?_
      rotate_left
      · intro w'
        go_simp
        with_reducible rfl
      rotate_left
      · simp only [Act.put, List.setIfInBounds_toArray, List.set_cons_zero, List.set_cons_succ, i64_w, i32_w]
        rfl
      refine pure_ (i := 2) (N := some 17) (v := ?_) (a' := ?_) #[true, true, true, false, false, false, false, false, false, false] rfl rfl (any_of HT_.out (by kernel_rfl)) (fun _ _ _ h => h) (Or.inl ⟨by rfl, ?_⟩) ?_ ?_
      rotate_left
      · intro w'
        go_simp
        with_reducible rfl
      rotate_left
      · simp only [Act.put, List.setIfInBounds_toArray, List.set_cons_zero, List.set_cons_succ, i64_w, i32_w]
        rfl
      refine pure_ (i := 4) (N := some 19) (v := ?_) (a' := ?_) #[true, true, true, false, true, false, false, false, false, false] rfl rfl (any_of HT_.out (by kernel_rfl)) (fun _ _ _ h => h) (Or.inl ⟨by rfl, ?_⟩) ?_ ?_
      rotate_left
      · intro w'
        go_simp
        with_reducible rfl
      rotate_left
      · simp only [Act.put, List.setIfInBounds_toArray, List.set_cons_zero, List.set_cons_succ, i64_w, i32_w]
        rfl
      refine pure_ (i := 5) (N := some 20) (v := ?_) (a' := ?_) #[true, true, true, false, true, true, false, false, false, false] rfl rfl (any_of HT_.out (by kernel_rfl)) (fun _ _ _ h => h) (Or.inl ⟨by rfl, ?_⟩) ?_ ?_
      rotate_left
      · intro w'
        go_simp
        with_reducible rfl
      rotate_left
      · simp only [Act.put, List.setIfInBounds_toArray, List.set_cons_zero, List.set_cons_succ, i64_w, i32_w]
        rfl
      refine take_ (i := 3) (N := some 18) (v := ?_) (a' := ?_) #[true, true, true, true, true, true, false, false, false, false] rfl rfl (take_ofW HT_.out HW_.out (by kernel_rfl)) (fun _ _ _ h => h) (Or.inl ⟨by rfl, ?_⟩) hHeld ?_ ?_
      rotate_left
      · rintro w' ⟨s0, s1⟩
        go_simp
        with_reducible rfl
      rotate_left
      · simp only [Act.put, List.setIfInBounds_toArray, List.set_cons_zero, List.set_cons_succ, i64_w, i32_w]
        rfl
      refine take_ (i := 6) (N := some 21) (v := ?_) (a' := ?_) #[true, true, true, true, true, true, true, false, false, false] rfl rfl (take_ofW HT_.out HW_.out (by kernel_rfl)) (fun _ _ _ h => h) (Or.inl ⟨by rfl, ?_⟩) hHeld ?_ ?_
      rotate_left
      · rintro w' ⟨s0, s1⟩
        go_simp
        with_reducible rfl
      rotate_left
      · simp only [Act.put, List.setIfInBounds_toArray, List.set_cons_zero, List.set_cons_succ, i64_w, i32_w]
        rfl
      refine pure_ (i := 7) (N := some 22) (v := ?_) (a' := ?_) #[true, true, true, true, true, true, true, true, false, false] rfl rfl (any_of HT_.out (by kernel_rfl)) (fun _ _ _ h => h) (Or.inl ⟨by rfl, ?_⟩) ?_ ?_
      rotate_left
      · intro w'
        go_simp
        with_reducible rfl
      rotate_left
      · simp only [Act.put, List.setIfInBounds_toArray, List.set_cons_zero, List.set_cons_succ, i64_w, i32_w]
        rfl
      refine pure_ (i := 8) (N := some 23) (v := ?_) (a' := ?_) #[true, true, true, true, true, true, true, true, true, false] rfl rfl (any_of HT_.out (by kernel_rfl)) (fun _ _ _ h => h) (Or.inl ⟨by rfl, ?_⟩) ?_ ?_
      rotate_left
      · intro w'
        go_simp
        with_reducible rfl
      rotate_left
      · simp only [Act.put, List.setIfInBounds_toArray, List.set_cons_zero, List.set_cons_succ, i64_w, i32_w]
        rfl
      refine last_ (i := 9) (N := none) #[true, true, true, true, true, true, true, true, true, true] rfl rfl (one_of HT_.out (by kernel_rfl)) (by decide) (fun K hK => ?_)
      refine skip_ (w1 := W5) (by rfl) rfl (by rw [HW5.out]; go_simp) ?_
      refine hK.out _ _ ?_
      clear hK K
      refine done_ (done_of HT_.out (by kernel_rfl)) ?_
      clear HD y0 y1 y2 v0 v1 v2 y30 HW5
      go_wp2_with fail
      go_roundg 2
      case measure => omega
      case rel => exact ⟨_, HN, .inr (.inl ⟨rfl, rfl, rfl⟩)⟩
    · skip
      have HD := hid (HP.out.later (Below.refl _ wr).drew)
      obtain ⟨Wd, hWd⟩ : ∃ Wd, Wd = wr.drew := ⟨_, rfl⟩
      have HWD := hid hWd
      rw [← hWd] at HD
      obtain ⟨y0, y1, y2, y3⟩ := cells231 HD.out.h6
      obtain ⟨v0, v1, v2, v3⟩ := cells231 HD.out.h7
      simp only at y0 y1 y2 v0 v1 v2
      have y30 := y3 1
      clear y3 v3 hWd
      obtain ⟨W5, hW5⟩ : ∃ W5, W5 = Wd.setCell ⟨g6, 1, none⟩ (.int .i64 (max b e)) := ⟨_, rfl⟩
      have HN := hid (show PQ w W5 g6 g7 _ (d, e, f) by rw [hW5]; exact HD.out.put1 (max b e))
      have HW5 := hid hW5
      clear hW5
      go_upto_region 5 with fail
      refine start_ (n := 10) (S := fun V : World => V.cell? ⟨g6, 1, none⟩ = some (.int .i64 b) ∧ V.cell? ⟨g7, 1, none⟩ = some (.int .i64 e)) (ds := [9]) #[false, false, false, false, false, false, false, false, false, false] (by kernel_rfl) rfl rfl (by rw [← HWD.out]; exact ⟨y1, v1⟩) (fun hHeld => ?_); refine with_tabW rnd128.tab rnd128.bits (fun HT_ HW_ => ?_)
      rw [← HWD.out] at hHeld ⊢
      refine pure_ (i := 0) (N := some 15) (v := ?_) (a' := ?_) #[true, false, false, false, false, false, false, false, false, false] rfl rfl (any_of HT_.out (by kernel_rfl)) (fun _ _ _ h => h) (Or.inl ⟨by rfl, ?_⟩) ?_ ?_
      rotate_left
      · intro w'
        go_simp
        with_reducible rfl
      rotate_left
      · simp only [Act.put, List.setIfInBounds_toArray, List.set_cons_zero, List.set_cons_succ, i64_w, i32_w]
        rfl
      refine pure_ (i := 1) (N := some 16) (v := ?_) (a' := ?_) #[true, true, false, false, false, false, false, false, false, false] rfl rfl (any_of HT_.out (by kernel_rfl)) (fun _ _ _ h => h) (Or.inl ⟨by rfl, ?_⟩) ?_ ?_
      rotate_left
      · intro w'
        go_simp
        with_reducible rfl
      rotate_left
      · simp only [Act.put, List.setIfInBounds_toArray, List.set_cons_zero, List.set_cons_succ, i64_w, i32_w]
        rfl
      refine pure_ (i := 2) (N := some 17) (v := ?_) (a' := ?_) #[true, true, true, false, false, false, false, false, false, false] rfl rfl (any_of HT_.out (by kernel_rfl)) (fun _ _ _ h => h) (Or.inl ⟨by rfl, ?_⟩) ?_ ?_
      rotate_left
      · intro w'
        go_simp
        with_reducible rfl
      rotate_left
      · simp only [Act.put, List.setIfInBounds_toArray, List.set_cons_zero, List.set_cons_succ, i64_w, i32_w]
        rfl
      refine pure_ (i := 4) (N := some 19) (v := ?_) (a' := ?_) #[true, true, true, false, true, false, false, false, false, false] rfl rfl (any_of HT_.out (by kernel_rfl)) (fun _ _ _ h => h) (Or.inl ⟨by rfl, ?_⟩) ?_ ?_
      rotate_left
      · intro w'
        go_simp
        with_reducible rfl
      rotate_left
      · simp only [Act.put, List.setIfInBounds_toArray, List.set_cons_zero, List.set_cons_succ, i64_w, i32_w]
        rfl
      refine pure_ (i := 5) (N := some 20) (v := ?_) (a' := ?_) #[true, true, true, false, true, true, false, false, false, false] rfl rfl (any_of HT_.out (by kernel_rfl)) (fun _ _ _ h => h) (Or.inl ⟨by rfl, ?_⟩) ?_ ?_
      rotate_left
      · intro w'
        go_simp
        with_reducible rfl
      rotate_left
      · simp only [Act.put, List.setIfInBounds_toArray, List.set_cons_zero, List.set_cons_succ, i64_w, i32_w]
        rfl
      refine take_ (i := 3) (N := some 18) (v := ?_) (a' := ?_) #[true, true, true, true, true, true, false, false, false, false] rfl rfl (take_ofW HT_.out HW_.out (by kernel_rfl)) (fun _ _ _ h => h) (Or.inl ⟨by rfl, ?_⟩) hHeld ?_ ?_
      rotate_left
      · rintro w' ⟨s0, s1⟩
        go_simp
        with_reducible rfl
      rotate_left
      · simp only [Act.put, List.setIfInBounds_toArray, List.set_cons_zero, List.set_cons_succ, i64_w, i32_w]
        rfl
      refine take_ (i := 6) (N := some 21) (v := ?_) (a' := ?_) #[true, true, true, true, true, true, true, false, false, false] rfl rfl (take_ofW HT_.out HW_.out (by kernel_rfl)) (fun _ _ _ h => h) (Or.inl ⟨by rfl, ?_⟩) hHeld ?_ ?_
      rotate_left
      · rintro w' ⟨s0, s1⟩
        go_simp
        with_reducible rfl
      rotate_left
      · simp only [Act.put, List.setIfInBounds_toArray, List.set_cons_zero, List.set_cons_succ, i64_w, i32_w]
        rfl
      refine pure_ (i := 7) (N := some 22) (v := ?_) (a' := ?_) #[true, true, true, true, true, true, true, true, false, false] rfl rfl (any_of HT_.out (by kernel_rfl)) (fun _ _ _ h => h) (Or.inl ⟨by rfl, ?_⟩) ?_ ?_
      rotate_left
      · intro w'
        go_simp
        with_reducible rfl
      rotate_left
      · simp only [Act.put, List.setIfInBounds_toArray, List.set_cons_zero, List.set_cons_succ, i64_w, i32_w]
        rfl
      refine pure_ (i := 8) (N := some 23) (v := ?_) (a' := ?_) #[true, true, true, true, true, true, true, true, true, false] rfl rfl (any_of HT_.out (by kernel_rfl)) (fun _ _ _ h => h) (Or.inl ⟨by rfl, ?_⟩) ?_ ?_
      rotate_left
      · intro w'
        go_simp
        with_reducible rfl
      rotate_left
      · simp only [Act.put, List.setIfInBounds_toArray, List.set_cons_zero, List.set_cons_succ, i64_w, i32_w]
        rfl
      refine last_ (i := 9) (N := none) #[true, true, true, true, true, true, true, true, true, true] rfl rfl (one_of HT_.out (by kernel_rfl)) (by decide) (fun K hK => ?_)
      refine skip_ (w1 := W5) (by rfl) rfl (by rw [HW5.out]; go_simp) ?_
      refine hK.out _ _ ?_
      clear hK K
      refine done_ (done_of HT_.out (by kernel_rfl)) ?_
      clear HD y0 y1 y2 v0 v1 v2 y30 HW5
      go_wp2_with fail
      go_roundg 1
      case measure => omega
      case rel => exact ⟨_, HN, .inr (.inr (.inl ⟨rfl, rfl, rfl⟩))⟩
    · skip
      have HD := hid (HP.out.later (Below.refl _ wr).drew)
      obtain ⟨Wd, hWd⟩ : ∃ Wd, Wd = wr.drew := ⟨_, rfl⟩
      have HWD := hid hWd
      rw [← hWd] at HD
      obtain ⟨y0, y1, y2, y3⟩ := cells231 HD.out.h6
      obtain ⟨v0, v1, v2, v3⟩ := cells231 HD.out.h7
      simp only at y0 y1 y2 v0 v1 v2
      have y30 := y3 2
      clear y3 v3 hWd
      obtain ⟨W5, hW5⟩ : ∃ W5, W5 = Wd.setCell ⟨g6, 2, none⟩ (.int .i64 (max c f)) := ⟨_, rfl⟩
      have HN := hid (show PQ w W5 g6 g7 _ (d, e, f) by rw [hW5]; exact HD.out.put2 (max c f))
      have HW5 := hid hW5
      clear hW5
      go_upto_region 5 with fail
      refine start_ (n := 10) (S := fun V : World => V.cell? ⟨g6, 2, none⟩ = some (.int .i64 c) ∧ V.cell? ⟨g7, 2, none⟩ = some (.int .i64 f)) (ds := [9]) #[false, false, false, false, false, false, false, false, false, false] (by kernel_rfl) rfl rfl (by rw [← HWD.out]; exact ⟨y2, v2⟩) (fun hHeld => ?_); refine with_tabW rnd128.tab rnd128.bits (fun HT_ HW_ => ?_)
      rw [← HWD.out] at hHeld ⊢
      refine pure_ (i := 0) (N := some 15) (v := ?_) (a' := ?_) #[true, false, false, false, false, false, false, false, false, false] rfl rfl (any_of HT_.out (by kernel_rfl)) (fun _ _ _ h => h) (Or.inl ⟨by rfl, ?_⟩) ?_ ?_
      rotate_left
      · intro w'
        go_simp
        with_reducible rfl
      rotate_left
      · simp only [Act.put, List.setIfInBounds_toArray, List.set_cons_zero, List.set_cons_succ, i64_w, i32_w]
        rfl
      refine pure_ (i := 1) (N := some 16) (v := ?_) (a' := ?_) #[true, true, false, false, false, false, false, false, false, false] rfl rfl (any_of HT_.out (by kernel_rfl)) (fun _ _ _ h => h) (Or.inl ⟨by rfl, ?_⟩) ?_ ?_
      rotate_left
      · intro w'
        go_simp
        with_reducible rfl
      rotate_left
      · simp only [Act.put, List.setIfInBounds_toArray, List.set_cons_zero, List.set_cons_succ, i64_w, i32_w]
        rfl
      refine pure_ (i := 2) (N := some 17) (v := ?_) (a' := ?_) #[true, true, true, false, false, false, false, false, false, false] rfl rfl (any_of HT_.out (by kernel_rfl)) (fun _ _ _ h => h) (Or.inl ⟨by rfl, ?_⟩) ?_ ?_
      rotate_left
      · intro w'
        go_simp
        with_reducible rfl
      rotate_left
      · simp only [Act.put, List.setIfInBounds_toArray, List.set_cons_zero, List.set_cons_succ, i64_w, i32_w]
        rfl
      refine pure_ (i := 4) (N := some 19) (v := ?_) (a' := ?_) #[true, true, true, false, true, false, false, false, false, false] rfl rfl (any_of HT_.out (by kernel_rfl)) (fun _ _ _ h => h) (Or.inl ⟨by rfl, ?_⟩) ?_ ?_
      rotate_left
      · intro w'
        go_simp
        with_reducible rfl
      rotate_left
      · simp only [Act.put, List.setIfInBounds_toArray, List.set_cons_zero, List.set_cons_succ, i64_w, i32_w]
        rfl
      refine pure_ (i := 5) (N := some 20) (v := ?_) (a' := ?_) #[true, true, true, false, true, true, false, false, false, false] rfl rfl (any_of HT_.out (by kernel_rfl)) (fun _ _ _ h => h) (Or.inl ⟨by rfl, ?_⟩) ?_ ?_
      rotate_left
      · intro w'
        go_simp
        with_reducible rfl
      rotate_left
      · simp only [Act.put, List.setIfInBounds_toArray, List.set_cons_zero, List.set_cons_succ, i64_w, i32_w]
        rfl
      refine take_ (i := 3) (N := some 18) (v := ?_) (a' := ?_) #[true, true, true, true, true, true, false, false, false, false] rfl rfl (take_ofW HT_.out HW_.out (by kernel_rfl)) (fun _ _ _ h => h) (Or.inl ⟨by rfl, ?_⟩) hHeld ?_ ?_
      rotate_left
      · rintro w' ⟨s0, s1⟩
        go_simp
        with_reducible rfl
      rotate_left
      · simp only [Act.put, List.setIfInBounds_toArray, List.set_cons_zero, List.set_cons_succ, i64_w, i32_w]
        rfl
      refine take_ (i := 6) (N := some 21) (v := ?_) (a' := ?_) #[true, true, true, true, true, true, true, false, false, false] rfl rfl (take_ofW HT_.out HW_.out (by kernel_rfl)) (fun _ _ _ h => h) (Or.inl ⟨by rfl, ?_⟩) hHeld ?_ ?_
      rotate_left
      · rintro w' ⟨s0, s1⟩
        go_simp
        with_reducible rfl
      rotate_left
      · simp only [Act.put, List.setIfInBounds_toArray, List.set_cons_zero, List.set_cons_succ, i64_w, i32_w]
        rfl
      refine pure_ (i := 7) (N := some 22) (v := ?_) (a' := ?_) #[true, true, true, true, true, true, true, true, false, false] rfl rfl (any_of HT_.out (by kernel_rfl)) (fun _ _ _ h => h) (Or.inl ⟨by rfl, ?_⟩) ?_ ?_
      rotate_left
      · intro w'
        go_simp
        with_reducible rfl
      rotate_left
      · simp only [Act.put, List.setIfInBounds_toArray, List.set_cons_zero, List.set_cons_succ, i64_w, i32_w]
        rfl
      refine pure_ (i := 8) (N := some 23) (v := ?_) (a' := ?_) #[true, true, true, true, true, true, true, true, true, false] rfl rfl (any_of HT_.out (by kernel_rfl)) (fun _ _ _ h => h) (Or.inl ⟨by rfl, ?_⟩) ?_ ?_
      rotate_left
      · intro w'
        go_simp
        with_reducible rfl
      rotate_left
      · simp only [Act.put, List.setIfInBounds_toArray, List.set_cons_zero, List.set_cons_succ, i64_w, i32_w]
        rfl
      refine last_ (i := 9) (N := none) #[true, true, true, true, true, true, true, true, true, true] rfl rfl (one_of HT_.out (by kernel_rfl)) (by decide) (fun K hK => ?_)
      refine skip_ (w1 := W5) (by rfl) rfl (by rw [HW5.out]; go_simp) ?_
      refine hK.out _ _ ?_
      clear hK K
      refine done_ (done_of HT_.out (by kernel_rfl)) ?_
      clear HD y0 y1 y2 v0 v1 v2 y30 HW5
      go_wp2_with fail
      go_roundg 0
      case measure => omega
      case rel => exact ⟨_, HN, .inr (.inr (.inr ⟨rfl, rfl, rfl⟩))⟩
    · have HR := hid (fun W => res_any (max a d, max b e, max c f) W)
      unfold rv at HR
      obtain ⟨y0, y1, y2, y3⟩ := cells231 HP.out.h6
      simp only at y0 y1 y2
      clear y3
      go_wp2_with (go_at_call 136; go_must (with_reducible refine (HR.out _).mono ?_); rintro e_ w8 ⟨rfl, hb⟩; have HE := hid (HP.out.later hb); have hrt := HE.out.rt; obtain ⟨q0, q1, q2, q3⟩ := cells145 hrt; have q30 := q3 0; have q31 := q3 1; have q32 := q3 2; clear q3 hb hrt)
      have hlow := HE.out.low
      have hl2 : w.heap.size + 1 + 1 < w8.heap.size := (Array.getElem?_eq_some_iff.1 HE.out.rt).1
      refine bodyPost_ret (v := .agg #[.int .i64 (max a d), .int .i64 (max b e), .int .i64 (max c f)]) (by simp [results, Try.results128, go_sem, q30, q31, q32, q0, q1, q2]) rfl ⟨rfl, ?_⟩
      exact ((hlow.setCell (by simp; omega) _).setCell (by simp; omega) _).setCell (by simp; omega) _
def add3 (a b : R3) : R3 := (a.1 + b.1, a.2.1 + b.2.1, a.2.2 + b.2.2)
def sub3 (a b : R3) : R3 := (a.1 - b.1, a.2.1 - b.2.1, a.2.2 - b.2.2)
/-- Numbers whose sum is small. -/
def Sml (a b : Int) : Prop := 0 ≤ a ∧ a ≤ 1000000000000000000 ∧ 0 ≤ b ∧ b ≤ 1000000000000000000
def Dif (a b : Int) : Prop := 0 ≤ b ∧ b ≤ a ∧ a ≤ 1000000000000000000
theorem numAdd_any {a b : Int} (h : Sml a b) (w : World) : Calls Try.prog 135 #[.int .i64 a, .int .i64 b] w fun e w' => e = .returned (.tuple #[.int .i64 (a + b), .bool true]) ∧ Below w.heap.size w w' := by
  obtain ⟨h1, h2, h3, h4⟩ := h
  have hw : wrap64 (a + b) = a + b := by unfold wrap64; omega
  refine (PUsePlays.num_Add.calls a b (a + b) true w ?_).mono fun e w' ⟨h1, h2⟩ => ⟨h1, h2.below⟩
  unfold PUsePlays.num_Add.f
  rw [hw, if_neg (show ¬ (a + b < a) by omega), if_neg (show ¬ (b < 0) by omega)]
  split <;> rfl
set_option maxRecDepth 10000 in
theorem minus_any {a b : Int} (h : Dif a b) (w : World) : Calls Try.prog 137 #[.int .i64 a, .int .i64 b] w fun e w' => e = .returned (.tuple #[.int .i64 (a - b), .bool true]) ∧ Below w.heap.size w w' := by
  obtain ⟨h1, h2, h3⟩ := h
  have e1 : ¬ (a < b) := by omega
  have e2 : ¬ (b < 0) := by omega
  have e3 : IntKind.i64.wrap (a - b) = a - b := IntWalk.i64_in _ (by omega)
  clear h1 h2 h3
  go_enter Try.func137, Try.ntmps137
  go_wp2
  exact bodyPost_ret (v := .tuple #[.int .i64 (a - b), .bool true]) (by simp [results, Try.results137, go_sem]) rfl ⟨rfl, Below.refl _ _⟩
def pre94.T : Bool × List (List Nat × List Nat) := (true, [([], []), ([0], [0]), ([], []), ([2, 1], [2]), ([], []), ([], []), ([4, 1, 3, 0, 1, 4, 5], [1, 4]), ([5, 3, 6, 0, 1, 2, 3, 4, 5, 6], [3, 5])])
def pre94.B : List Nat := [0, 1, 0, 7, 0, 0, 63, 127]
theorem pre94.tab : rtab .any (opsOf Try.f94 1) = pre94.T := by kernel_rfl
theorem pre94.bits : waitsOk pre94.T.2 pre94.B = true := by kernel_rfl
def rnd94.T : Bool × List (List Nat × List Nat) := (true, [([], []), ([0], [0]), ([1], [1]), ([], []), ([3], [3]), ([4], [4]), ([2, 5], [2, 5]), ([6], [6]), ([7], [7]), ([7], [7]), ([8, 6, 0, 1, 2, 3, 4, 5, 6, 7, 8], [8]), ([9, 10, 0, 1, 2, 3, 4, 5, 6, 7, 8, 9, 10], [9])])
def rnd94.B : List Nat := [0, 1, 3, 0, 8, 24, 63, 127, 255, 255, 511, 2047]
theorem rnd94.tab : rtab .any (opsOf Try.f94 5) = rnd94.T := by kernel_rfl
theorem rnd94.bits : waitsOk rnd94.T.2 rnd94.B = true := by kernel_rfl
set_option maxRecDepth 100000 in
set_option maxHeartbeats 4000000 in
theorem add_any (r s : R3) (w : World) (h : Sml r.1 s.1 ∧ Sml r.2.1 s.2.1 ∧ Sml r.2.2 s.2.2) : Calls Try.prog 94 #[rv r, rv s] w fun e w' => e = .returned (.tuple #[rv (add3 r s), .bool true]) ∧ Below w.heap.size w w' := by
  have HO := hid (fun r w => of_any r w)
  obtain ⟨a, b, c⟩ := r
  obtain ⟨d, e, f⟩ := s
  unfold rv at HO ⊢
  have H0 := hid (fun W => numAdd_any (h.1) W)
  have H1 := hid (fun W => numAdd_any (h.2.1) W)
  have H2 := hid (fun W => numAdd_any (h.2.2) W)
  clear h
  have HA := hid (HO.out (a, b, c))
  have HB := hid (HO.out (d, e, f))
  have HPP0 := hid (PP.start w (a, b, c) (d, e, f))
  clear HO
  go_enter Try.func94, Try.ntmps94
  go_upto_region 1 with fail
  refine start_ (n := 8) (S := fun V : World => V.cell? ⟨w.heap.size, 0, none⟩ = some (.int .i64 a) ∧ V.cell? ⟨w.heap.size, 1, none⟩ = some (.int .i64 b) ∧ V.cell? ⟨w.heap.size, 2, none⟩ = some (.int .i64 c) ∧ V.cell? ⟨w.heap.size + 1, 0, none⟩ = some (.int .i64 d) ∧ V.cell? ⟨w.heap.size + 1, 1, none⟩ = some (.int .i64 e) ∧ V.cell? ⟨w.heap.size + 1, 2, none⟩ = some (.int .i64 f)) (ds := []) #[false, false, false, false, false, false, false, false] (by kernel_rfl) rfl rfl (HPP0.out.drew.cells) (fun hHeld => ?_); refine with_tabW pre94.tab pre94.bits (fun HT_ HW_ => ?_)
  refine take_ (i := 0) (N := some 11) (v := ?_) (a' := ?_) #[true, false, false, false, false, false, false, false] rfl rfl (take_ofW HT_.out HW_.out (by kernel_rfl)) (fun _ _ _ h => h) (Or.inl ⟨by rfl, ?_⟩) hHeld ?_ ?_
  rotate_left
  · rintro w' ⟨s0, s1, s2, s3, s4, s5⟩
    go_simp
    with_reducible rfl
  rotate_left
  · simp only [Act.put, List.setIfInBounds_toArray, List.set_cons_zero, List.set_cons_succ, i64_w, i32_w]
    rfl
  refine take_ (i := 2) (N := some 13) (v := ?_) (a' := ?_) #[true, false, true, false, false, false, false, false] rfl rfl (take_ofW HT_.out HW_.out (by kernel_rfl)) (fun _ _ _ h => h) (Or.inl ⟨by rfl, ?_⟩) hHeld ?_ ?_
  rotate_left
  · rintro w' ⟨s0, s1, s2, s3, s4, s5⟩
    go_simp
    with_reducible rfl
  rotate_left
  · simp only [Act.put, List.setIfInBounds_toArray, List.set_cons_zero, List.set_cons_succ, i64_w, i32_w]
    rfl
  have HPP := hid HPP0.out.drew
  clear HPP0
  refine join_ (σ := Nat × Nat) 2 #[true, true, true, true, true, true, false, false] (fun s_ => [(12, .agg #[.int .i64 a, .int .i64 b, .int .i64 c]), (14, .agg #[.int .i64 d, .int .i64 e, .int .i64 f]), (6, .pointer (some ⟨s_.1, 0, none⟩)), (7, .pointer (some ⟨s_.2, 0, none⟩))]) (fun s_ w' => (fun V : World => V.cell? ⟨w.heap.size, 0, none⟩ = some (.int .i64 a) ∧ V.cell? ⟨w.heap.size, 1, none⟩ = some (.int .i64 b) ∧ V.cell? ⟨w.heap.size, 2, none⟩ = some (.int .i64 c) ∧ V.cell? ⟨w.heap.size + 1, 0, none⟩ = some (.int .i64 d) ∧ V.cell? ⟨w.heap.size + 1, 1, none⟩ = some (.int .i64 e) ∧ V.cell? ⟨w.heap.size + 1, 2, none⟩ = some (.int .i64 f)) w' ∧ PP w (a, b, c) (d, e, f) w' (some s_.1) (some s_.2)) ?_ ?_
  rotate_left
  · intro hCont
    refine three_ (i := 1) (j := 4) (k := 5) (Ni := some 12) (Nj := some 6) (Nk := some 7) #[true, true, true, false, false, false, false, false] #[true, false, true, false, true, false, false, false] #[true, false, true, false, false, true, false, false] rfl rfl rfl rfl rfl rfl (three_of HT_.out (by kernel_rfl)) (by decide) (by decide) (by decide) (fun K hK => ?_) (fun K hK => ?_) (fun K hK => ?_)
    · skip
      refine goes_ Try.func134 (by kernel_rfl) rfl #[.agg #[.int .i64 a, .int .i64 b, .int .i64 c]] (by rfl) rfl rfl (by (try simp only [List.map_toArray, List.map_cons, List.map_nil]); first | done | rfl) ?_
      with_reducible refine (HA.out _).mono ?_
      rintro e_ V1 ⟨rfl, hb⟩
      refine ⟨_, rfl, ?_⟩
      have HPN := hid (HPP.out.later hb)
      clear HPP hb
      have HPP := HPN
      clear HPN
      refine hK.out _ _ HPP.out.cells (fun hHeld => ?_)
      clear hK K
      refine norm_ (a' := ?_) ?_ ?_
      rotate_left
      · show Act.put _ (some 12) _ = _
        simp only [Act.put, List.setIfInBounds_toArray, List.set_cons_zero, List.set_cons_succ, i64_w, i32_w]
        rfl
      refine three_ (i := 3) (j := 4) (k := 5) (Ni := some 14) (Nj := some 6) (Nk := some 7) #[true, true, true, true, false, false, false, false] #[true, true, true, false, true, false, false, false] #[true, true, true, false, false, true, false, false] rfl rfl rfl rfl rfl rfl (three_of HT_.out (by kernel_rfl)) (by decide) (by decide) (by decide) (fun K hK => ?_) (fun K hK => ?_) (fun K hK => ?_)
      · skip
        refine goes_ Try.func134 (by kernel_rfl) rfl #[.agg #[.int .i64 d, .int .i64 e, .int .i64 f]] (by rfl) rfl rfl (by (try simp only [List.map_toArray, List.map_cons, List.map_nil]); first | done | rfl) ?_
        with_reducible refine (HB.out _).mono ?_
        rintro e_ V2 ⟨rfl, hb⟩
        refine ⟨_, rfl, ?_⟩
        have HPN := hid (HPP.out.later hb)
        clear HPP hb
        have HPP := HPN
        clear HPN
        refine hK.out _ _ HPP.out.cells (fun hHeld => ?_)
        clear hK K
        refine norm_ (a' := ?_) ?_ ?_
        rotate_left
        · show Act.put _ (some 14) _ = _
          simp only [Act.put, List.setIfInBounds_toArray, List.set_cons_zero, List.set_cons_succ, i64_w, i32_w]
          rfl
        refine two_ (i := 4) (j := 5) (Ni := some 6) (Nj := some 7) #[true, true, true, true, true, false, false, false] #[true, true, true, true, false, true, false, false] rfl rfl rfl rfl (two_of HT_.out (by kernel_rfl)) (by decide) (by decide) (fun K hK => ?_) (fun K hK => ?_)
        · skip
          refine allocA_ (ob := .cells #[.int .i64 0, .int .i64 0, .int .i64 0] 231) (by rfl) rfl (by go_simp) ?_
          rintro g3 V3 hg hV
          have HPN := hid (HPP.out.a6 hg hV)
          clear HPP hg hV
          have HPP := HPN
          clear HPN
          refine hK.out _ _ HPP.out.cells (fun hHeld => ?_)
          clear hK K
          refine norm_ (a' := ?_) ?_ ?_
          rotate_left
          · show Act.put _ (some 6) _ = _
            simp only [Act.put, List.setIfInBounds_toArray, List.set_cons_zero, List.set_cons_succ, i64_w, i32_w]
            rfl
          refine one_ (i := 5) (N := some 7) #[true, true, true, true, true, true, false, false] rfl rfl (one_of HT_.out (by kernel_rfl)) (by decide) (fun K hK => ?_)
          refine allocA_ (ob := .cells #[.int .i64 0, .int .i64 0, .int .i64 0] 231) (by rfl) rfl (by go_simp) ?_
          rintro g4 V4 hg hV
          have HPN := hid (HPP.out.a7 hg hV)
          clear HPP hg hV
          have HPP := HPN
          clear HPN
          refine hK.out _ _ HPP.out.cells (fun hHeld => ?_)
          clear hK K
          refine norm_ (a' := ?_) ?_ ?_
          rotate_left
          · show Act.put _ (some 7) _ = _
            simp only [Act.put, List.setIfInBounds_toArray, List.set_cons_zero, List.set_cons_succ, i64_w, i32_w]
            rfl
          exact norm_ (by simp only [putAll, Act.put, List.setIfInBounds_toArray, List.set_cons_zero, List.set_cons_succ]) (hCont (g3, g4) _ ⟨hHeld, HPP.out⟩)
        · skip
          refine allocA_ (ob := .cells #[.int .i64 0, .int .i64 0, .int .i64 0] 231) (by rfl) rfl (by go_simp) ?_
          rintro g5 V5 hg hV
          have HPN := hid (HPP.out.a7 hg hV)
          clear HPP hg hV
          have HPP := HPN
          clear HPN
          refine hK.out _ _ HPP.out.cells (fun hHeld => ?_)
          clear hK K
          refine norm_ (a' := ?_) ?_ ?_
          rotate_left
          · show Act.put _ (some 7) _ = _
            simp only [Act.put, List.setIfInBounds_toArray, List.set_cons_zero, List.set_cons_succ, i64_w, i32_w]
            rfl
          refine one_ (i := 4) (N := some 6) #[true, true, true, true, true, true, false, false] rfl rfl (one_of HT_.out (by kernel_rfl)) (by decide) (fun K hK => ?_)
          refine allocA_ (ob := .cells #[.int .i64 0, .int .i64 0, .int .i64 0] 231) (by rfl) rfl (by go_simp) ?_
          rintro g6 V6 hg hV
          have HPN := hid (HPP.out.a6 hg hV)
          clear HPP hg hV
          have HPP := HPN
          clear HPN
          refine hK.out _ _ HPP.out.cells (fun hHeld => ?_)
          clear hK K
          refine norm_ (a' := ?_) ?_ ?_
          rotate_left
          · show Act.put _ (some 6) _ = _
            simp only [Act.put, List.setIfInBounds_toArray, List.set_cons_zero, List.set_cons_succ, i64_w, i32_w]
            rfl
          exact norm_ (by simp only [putAll, Act.put, List.setIfInBounds_toArray, List.set_cons_zero, List.set_cons_succ]) (hCont (g6, g5) _ ⟨hHeld, HPP.out⟩)
      · skip
        refine allocA_ (ob := .cells #[.int .i64 0, .int .i64 0, .int .i64 0] 231) (by rfl) rfl (by go_simp) ?_
        rintro g7 V7 hg hV
        have HPN := hid (HPP.out.a6 hg hV)
        clear HPP hg hV
        have HPP := HPN
        clear HPN
        refine hK.out _ _ HPP.out.cells (fun hHeld => ?_)
        clear hK K
        refine norm_ (a' := ?_) ?_ ?_
        rotate_left
        · show Act.put _ (some 6) _ = _
          simp only [Act.put, List.setIfInBounds_toArray, List.set_cons_zero, List.set_cons_succ, i64_w, i32_w]
          rfl
        refine two_ (i := 3) (j := 5) (Ni := some 14) (Nj := some 7) #[true, true, true, true, true, false, false, false] #[true, true, true, false, true, true, false, false] rfl rfl rfl rfl (two_of HT_.out (by kernel_rfl)) (by decide) (by decide) (fun K hK => ?_) (fun K hK => ?_)
        · skip
          refine goes_ Try.func134 (by kernel_rfl) rfl #[.agg #[.int .i64 d, .int .i64 e, .int .i64 f]] (by rfl) rfl rfl (by (try simp only [List.map_toArray, List.map_cons, List.map_nil]); first | done | rfl) ?_
          with_reducible refine (HB.out _).mono ?_
          rintro e_ V8 ⟨rfl, hb⟩
          refine ⟨_, rfl, ?_⟩
          have HPN := hid (HPP.out.later hb)
          clear HPP hb
          have HPP := HPN
          clear HPN
          refine hK.out _ _ HPP.out.cells (fun hHeld => ?_)
          clear hK K
          refine norm_ (a' := ?_) ?_ ?_
          rotate_left
          · show Act.put _ (some 14) _ = _
            simp only [Act.put, List.setIfInBounds_toArray, List.set_cons_zero, List.set_cons_succ, i64_w, i32_w]
            rfl
          refine one_ (i := 5) (N := some 7) #[true, true, true, true, true, true, false, false] rfl rfl (one_of HT_.out (by kernel_rfl)) (by decide) (fun K hK => ?_)
          refine allocA_ (ob := .cells #[.int .i64 0, .int .i64 0, .int .i64 0] 231) (by rfl) rfl (by go_simp) ?_
          rintro g9 V9 hg hV
          have HPN := hid (HPP.out.a7 hg hV)
          clear HPP hg hV
          have HPP := HPN
          clear HPN
          refine hK.out _ _ HPP.out.cells (fun hHeld => ?_)
          clear hK K
          refine norm_ (a' := ?_) ?_ ?_
          rotate_left
          · show Act.put _ (some 7) _ = _
            simp only [Act.put, List.setIfInBounds_toArray, List.set_cons_zero, List.set_cons_succ, i64_w, i32_w]
            rfl
          exact norm_ (by simp only [putAll, Act.put, List.setIfInBounds_toArray, List.set_cons_zero, List.set_cons_succ]) (hCont (g7, g9) _ ⟨hHeld, HPP.out⟩)
        · skip
          refine allocA_ (ob := .cells #[.int .i64 0, .int .i64 0, .int .i64 0] 231) (by rfl) rfl (by go_simp) ?_
          rintro g10 V10 hg hV
          have HPN := hid (HPP.out.a7 hg hV)
          clear HPP hg hV
          have HPP := HPN
          clear HPN
          refine hK.out _ _ HPP.out.cells (fun hHeld => ?_)
          clear hK K
          refine norm_ (a' := ?_) ?_ ?_
          rotate_left
          · show Act.put _ (some 7) _ = _
            simp only [Act.put, List.setIfInBounds_toArray, List.set_cons_zero, List.set_cons_succ, i64_w, i32_w]
            rfl
          refine one_ (i := 3) (N := some 14) #[true, true, true, true, true, true, false, false] rfl rfl (one_of HT_.out (by kernel_rfl)) (by decide) (fun K hK => ?_)
          refine goes_ Try.func134 (by kernel_rfl) rfl #[.agg #[.int .i64 d, .int .i64 e, .int .i64 f]] (by rfl) rfl rfl (by (try simp only [List.map_toArray, List.map_cons, List.map_nil]); first | done | rfl) ?_
          with_reducible refine (HB.out _).mono ?_
          rintro e_ V11 ⟨rfl, hb⟩
          refine ⟨_, rfl, ?_⟩
          have HPN := hid (HPP.out.later hb)
          clear HPP hb
          have HPP := HPN
          clear HPN
          refine hK.out _ _ HPP.out.cells (fun hHeld => ?_)
          clear hK K
          refine norm_ (a' := ?_) ?_ ?_
          rotate_left
          · show Act.put _ (some 14) _ = _
            simp only [Act.put, List.setIfInBounds_toArray, List.set_cons_zero, List.set_cons_succ, i64_w, i32_w]
            rfl
          exact norm_ (by simp only [putAll, Act.put, List.setIfInBounds_toArray, List.set_cons_zero, List.set_cons_succ]) (hCont (g7, g10) _ ⟨hHeld, HPP.out⟩)
      · skip
        refine allocA_ (ob := .cells #[.int .i64 0, .int .i64 0, .int .i64 0] 231) (by rfl) rfl (by go_simp) ?_
        rintro g12 V12 hg hV
        have HPN := hid (HPP.out.a7 hg hV)
        clear HPP hg hV
        have HPP := HPN
        clear HPN
        refine hK.out _ _ HPP.out.cells (fun hHeld => ?_)
        clear hK K
        refine norm_ (a' := ?_) ?_ ?_
        rotate_left
        · show Act.put _ (some 7) _ = _
          simp only [Act.put, List.setIfInBounds_toArray, List.set_cons_zero, List.set_cons_succ, i64_w, i32_w]
          rfl
        refine two_ (i := 3) (j := 4) (Ni := some 14) (Nj := some 6) #[true, true, true, true, false, true, false, false] #[true, true, true, false, true, true, false, false] rfl rfl rfl rfl (two_of HT_.out (by kernel_rfl)) (by decide) (by decide) (fun K hK => ?_) (fun K hK => ?_)
        · skip
          refine goes_ Try.func134 (by kernel_rfl) rfl #[.agg #[.int .i64 d, .int .i64 e, .int .i64 f]] (by rfl) rfl rfl (by (try simp only [List.map_toArray, List.map_cons, List.map_nil]); first | done | rfl) ?_
          with_reducible refine (HB.out _).mono ?_
          rintro e_ V13 ⟨rfl, hb⟩
          refine ⟨_, rfl, ?_⟩
          have HPN := hid (HPP.out.later hb)
          clear HPP hb
          have HPP := HPN
          clear HPN
          refine hK.out _ _ HPP.out.cells (fun hHeld => ?_)
          clear hK K
          refine norm_ (a' := ?_) ?_ ?_
          rotate_left
          · show Act.put _ (some 14) _ = _
            simp only [Act.put, List.setIfInBounds_toArray, List.set_cons_zero, List.set_cons_succ, i64_w, i32_w]
            rfl
          refine one_ (i := 4) (N := some 6) #[true, true, true, true, true, true, false, false] rfl rfl (one_of HT_.out (by kernel_rfl)) (by decide) (fun K hK => ?_)
          refine allocA_ (ob := .cells #[.int .i64 0, .int .i64 0, .int .i64 0] 231) (by rfl) rfl (by go_simp) ?_
          rintro g14 V14 hg hV
          have HPN := hid (HPP.out.a6 hg hV)
          clear HPP hg hV
          have HPP := HPN
          clear HPN
          refine hK.out _ _ HPP.out.cells (fun hHeld => ?_)
          clear hK K
          refine norm_ (a' := ?_) ?_ ?_
          rotate_left
          · show Act.put _ (some 6) _ = _
            simp only [Act.put, List.setIfInBounds_toArray, List.set_cons_zero, List.set_cons_succ, i64_w, i32_w]
            rfl
          exact norm_ (by simp only [putAll, Act.put, List.setIfInBounds_toArray, List.set_cons_zero, List.set_cons_succ]) (hCont (g14, g12) _ ⟨hHeld, HPP.out⟩)
        · skip
          refine allocA_ (ob := .cells #[.int .i64 0, .int .i64 0, .int .i64 0] 231) (by rfl) rfl (by go_simp) ?_
          rintro g15 V15 hg hV
          have HPN := hid (HPP.out.a6 hg hV)
          clear HPP hg hV
          have HPP := HPN
          clear HPN
          refine hK.out _ _ HPP.out.cells (fun hHeld => ?_)
          clear hK K
          refine norm_ (a' := ?_) ?_ ?_
          rotate_left
          · show Act.put _ (some 6) _ = _
            simp only [Act.put, List.setIfInBounds_toArray, List.set_cons_zero, List.set_cons_succ, i64_w, i32_w]
            rfl
          refine one_ (i := 3) (N := some 14) #[true, true, true, true, true, true, false, false] rfl rfl (one_of HT_.out (by kernel_rfl)) (by decide) (fun K hK => ?_)
          refine goes_ Try.func134 (by kernel_rfl) rfl #[.agg #[.int .i64 d, .int .i64 e, .int .i64 f]] (by rfl) rfl rfl (by (try simp only [List.map_toArray, List.map_cons, List.map_nil]); first | done | rfl) ?_
          with_reducible refine (HB.out _).mono ?_
          rintro e_ V16 ⟨rfl, hb⟩
          refine ⟨_, rfl, ?_⟩
          have HPN := hid (HPP.out.later hb)
          clear HPP hb
          have HPP := HPN
          clear HPN
          refine hK.out _ _ HPP.out.cells (fun hHeld => ?_)
          clear hK K
          refine norm_ (a' := ?_) ?_ ?_
          rotate_left
          · show Act.put _ (some 14) _ = _
            simp only [Act.put, List.setIfInBounds_toArray, List.set_cons_zero, List.set_cons_succ, i64_w, i32_w]
            rfl
          exact norm_ (by simp only [putAll, Act.put, List.setIfInBounds_toArray, List.set_cons_zero, List.set_cons_succ]) (hCont (g15, g12) _ ⟨hHeld, HPP.out⟩)
    · skip
      refine allocA_ (ob := .cells #[.int .i64 0, .int .i64 0, .int .i64 0] 231) (by rfl) rfl (by go_simp) ?_
      rintro g17 V17 hg hV
      have HPN := hid (HPP.out.a6 hg hV)
      clear HPP hg hV
      have HPP := HPN
      clear HPN
      refine hK.out _ _ HPP.out.cells (fun hHeld => ?_)
      clear hK K
      refine norm_ (a' := ?_) ?_ ?_
      rotate_left
      · show Act.put _ (some 6) _ = _
        simp only [Act.put, List.setIfInBounds_toArray, List.set_cons_zero, List.set_cons_succ, i64_w, i32_w]
        rfl
      refine two_ (i := 1) (j := 5) (Ni := some 12) (Nj := some 7) #[true, true, true, false, true, false, false, false] #[true, false, true, false, true, true, false, false] rfl rfl rfl rfl (two_of HT_.out (by kernel_rfl)) (by decide) (by decide) (fun K hK => ?_) (fun K hK => ?_)
      · skip
        refine goes_ Try.func134 (by kernel_rfl) rfl #[.agg #[.int .i64 a, .int .i64 b, .int .i64 c]] (by rfl) rfl rfl (by (try simp only [List.map_toArray, List.map_cons, List.map_nil]); first | done | rfl) ?_
        with_reducible refine (HA.out _).mono ?_
        rintro e_ V18 ⟨rfl, hb⟩
        refine ⟨_, rfl, ?_⟩
        have HPN := hid (HPP.out.later hb)
        clear HPP hb
        have HPP := HPN
        clear HPN
        refine hK.out _ _ HPP.out.cells (fun hHeld => ?_)
        clear hK K
        refine norm_ (a' := ?_) ?_ ?_
        rotate_left
        · show Act.put _ (some 12) _ = _
          simp only [Act.put, List.setIfInBounds_toArray, List.set_cons_zero, List.set_cons_succ, i64_w, i32_w]
          rfl
        refine two_ (i := 3) (j := 5) (Ni := some 14) (Nj := some 7) #[true, true, true, true, true, false, false, false] #[true, true, true, false, true, true, false, false] rfl rfl rfl rfl (two_of HT_.out (by kernel_rfl)) (by decide) (by decide) (fun K hK => ?_) (fun K hK => ?_)
        · skip
          refine goes_ Try.func134 (by kernel_rfl) rfl #[.agg #[.int .i64 d, .int .i64 e, .int .i64 f]] (by rfl) rfl rfl (by (try simp only [List.map_toArray, List.map_cons, List.map_nil]); first | done | rfl) ?_
          with_reducible refine (HB.out _).mono ?_
          rintro e_ V19 ⟨rfl, hb⟩
          refine ⟨_, rfl, ?_⟩
          have HPN := hid (HPP.out.later hb)
          clear HPP hb
          have HPP := HPN
          clear HPN
          refine hK.out _ _ HPP.out.cells (fun hHeld => ?_)
          clear hK K
          refine norm_ (a' := ?_) ?_ ?_
          rotate_left
          · show Act.put _ (some 14) _ = _
            simp only [Act.put, List.setIfInBounds_toArray, List.set_cons_zero, List.set_cons_succ, i64_w, i32_w]
            rfl
          refine one_ (i := 5) (N := some 7) #[true, true, true, true, true, true, false, false] rfl rfl (one_of HT_.out (by kernel_rfl)) (by decide) (fun K hK => ?_)
          refine allocA_ (ob := .cells #[.int .i64 0, .int .i64 0, .int .i64 0] 231) (by rfl) rfl (by go_simp) ?_
          rintro g20 V20 hg hV
          have HPN := hid (HPP.out.a7 hg hV)
          clear HPP hg hV
          have HPP := HPN
          clear HPN
          refine hK.out _ _ HPP.out.cells (fun hHeld => ?_)
          clear hK K
          refine norm_ (a' := ?_) ?_ ?_
          rotate_left
          · show Act.put _ (some 7) _ = _
            simp only [Act.put, List.setIfInBounds_toArray, List.set_cons_zero, List.set_cons_succ, i64_w, i32_w]
            rfl
          exact norm_ (by simp only [putAll, Act.put, List.setIfInBounds_toArray, List.set_cons_zero, List.set_cons_succ]) (hCont (g17, g20) _ ⟨hHeld, HPP.out⟩)
        · skip
          refine allocA_ (ob := .cells #[.int .i64 0, .int .i64 0, .int .i64 0] 231) (by rfl) rfl (by go_simp) ?_
          rintro g21 V21 hg hV
          have HPN := hid (HPP.out.a7 hg hV)
          clear HPP hg hV
          have HPP := HPN
          clear HPN
          refine hK.out _ _ HPP.out.cells (fun hHeld => ?_)
          clear hK K
          refine norm_ (a' := ?_) ?_ ?_
          rotate_left
          · show Act.put _ (some 7) _ = _
            simp only [Act.put, List.setIfInBounds_toArray, List.set_cons_zero, List.set_cons_succ, i64_w, i32_w]
            rfl
          refine one_ (i := 3) (N := some 14) #[true, true, true, true, true, true, false, false] rfl rfl (one_of HT_.out (by kernel_rfl)) (by decide) (fun K hK => ?_)
          refine goes_ Try.func134 (by kernel_rfl) rfl #[.agg #[.int .i64 d, .int .i64 e, .int .i64 f]] (by rfl) rfl rfl (by (try simp only [List.map_toArray, List.map_cons, List.map_nil]); first | done | rfl) ?_
          with_reducible refine (HB.out _).mono ?_
          rintro e_ V22 ⟨rfl, hb⟩
          refine ⟨_, rfl, ?_⟩
          have HPN := hid (HPP.out.later hb)
          clear HPP hb
          have HPP := HPN
          clear HPN
          refine hK.out _ _ HPP.out.cells (fun hHeld => ?_)
          clear hK K
          refine norm_ (a' := ?_) ?_ ?_
          rotate_left
          · show Act.put _ (some 14) _ = _
            simp only [Act.put, List.setIfInBounds_toArray, List.set_cons_zero, List.set_cons_succ, i64_w, i32_w]
            rfl
          exact norm_ (by simp only [putAll, Act.put, List.setIfInBounds_toArray, List.set_cons_zero, List.set_cons_succ]) (hCont (g17, g21) _ ⟨hHeld, HPP.out⟩)
      · skip
        refine allocA_ (ob := .cells #[.int .i64 0, .int .i64 0, .int .i64 0] 231) (by rfl) rfl (by go_simp) ?_
        rintro g23 V23 hg hV
        have HPN := hid (HPP.out.a7 hg hV)
        clear HPP hg hV
        have HPP := HPN
        clear HPN
        refine hK.out _ _ HPP.out.cells (fun hHeld => ?_)
        clear hK K
        refine norm_ (a' := ?_) ?_ ?_
        rotate_left
        · show Act.put _ (some 7) _ = _
          simp only [Act.put, List.setIfInBounds_toArray, List.set_cons_zero, List.set_cons_succ, i64_w, i32_w]
          rfl
        refine one_ (i := 1) (N := some 12) #[true, true, true, false, true, true, false, false] rfl rfl (one_of HT_.out (by kernel_rfl)) (by decide) (fun K hK => ?_)
        refine goes_ Try.func134 (by kernel_rfl) rfl #[.agg #[.int .i64 a, .int .i64 b, .int .i64 c]] (by rfl) rfl rfl (by (try simp only [List.map_toArray, List.map_cons, List.map_nil]); first | done | rfl) ?_
        with_reducible refine (HA.out _).mono ?_
        rintro e_ V24 ⟨rfl, hb⟩
        refine ⟨_, rfl, ?_⟩
        have HPN := hid (HPP.out.later hb)
        clear HPP hb
        have HPP := HPN
        clear HPN
        refine hK.out _ _ HPP.out.cells (fun hHeld => ?_)
        clear hK K
        refine norm_ (a' := ?_) ?_ ?_
        rotate_left
        · show Act.put _ (some 12) _ = _
          simp only [Act.put, List.setIfInBounds_toArray, List.set_cons_zero, List.set_cons_succ, i64_w, i32_w]
          rfl
        refine one_ (i := 3) (N := some 14) #[true, true, true, true, true, true, false, false] rfl rfl (one_of HT_.out (by kernel_rfl)) (by decide) (fun K hK => ?_)
        refine goes_ Try.func134 (by kernel_rfl) rfl #[.agg #[.int .i64 d, .int .i64 e, .int .i64 f]] (by rfl) rfl rfl (by (try simp only [List.map_toArray, List.map_cons, List.map_nil]); first | done | rfl) ?_
        with_reducible refine (HB.out _).mono ?_
        rintro e_ V25 ⟨rfl, hb⟩
        refine ⟨_, rfl, ?_⟩
        have HPN := hid (HPP.out.later hb)
        clear HPP hb
        have HPP := HPN
        clear HPN
        refine hK.out _ _ HPP.out.cells (fun hHeld => ?_)
        clear hK K
        refine norm_ (a' := ?_) ?_ ?_
        rotate_left
        · show Act.put _ (some 14) _ = _
          simp only [Act.put, List.setIfInBounds_toArray, List.set_cons_zero, List.set_cons_succ, i64_w, i32_w]
          rfl
        exact norm_ (by simp only [putAll, Act.put, List.setIfInBounds_toArray, List.set_cons_zero, List.set_cons_succ]) (hCont (g17, g23) _ ⟨hHeld, HPP.out⟩)
    · skip
      refine allocA_ (ob := .cells #[.int .i64 0, .int .i64 0, .int .i64 0] 231) (by rfl) rfl (by go_simp) ?_
      rintro g26 V26 hg hV
      have HPN := hid (HPP.out.a7 hg hV)
      clear HPP hg hV
      have HPP := HPN
      clear HPN
      refine hK.out _ _ HPP.out.cells (fun hHeld => ?_)
      clear hK K
      refine norm_ (a' := ?_) ?_ ?_
      rotate_left
      · show Act.put _ (some 7) _ = _
        simp only [Act.put, List.setIfInBounds_toArray, List.set_cons_zero, List.set_cons_succ, i64_w, i32_w]
        rfl
      refine two_ (i := 1) (j := 4) (Ni := some 12) (Nj := some 6) #[true, true, true, false, false, true, false, false] #[true, false, true, false, true, true, false, false] rfl rfl rfl rfl (two_of HT_.out (by kernel_rfl)) (by decide) (by decide) (fun K hK => ?_) (fun K hK => ?_)
      · skip
        refine goes_ Try.func134 (by kernel_rfl) rfl #[.agg #[.int .i64 a, .int .i64 b, .int .i64 c]] (by rfl) rfl rfl (by (try simp only [List.map_toArray, List.map_cons, List.map_nil]); first | done | rfl) ?_
        with_reducible refine (HA.out _).mono ?_
        rintro e_ V27 ⟨rfl, hb⟩
        refine ⟨_, rfl, ?_⟩
        have HPN := hid (HPP.out.later hb)
        clear HPP hb
        have HPP := HPN
        clear HPN
        refine hK.out _ _ HPP.out.cells (fun hHeld => ?_)
        clear hK K
        refine norm_ (a' := ?_) ?_ ?_
        rotate_left
        · show Act.put _ (some 12) _ = _
          simp only [Act.put, List.setIfInBounds_toArray, List.set_cons_zero, List.set_cons_succ, i64_w, i32_w]
          rfl
        refine two_ (i := 3) (j := 4) (Ni := some 14) (Nj := some 6) #[true, true, true, true, false, true, false, false] #[true, true, true, false, true, true, false, false] rfl rfl rfl rfl (two_of HT_.out (by kernel_rfl)) (by decide) (by decide) (fun K hK => ?_) (fun K hK => ?_)
        · skip
          refine goes_ Try.func134 (by kernel_rfl) rfl #[.agg #[.int .i64 d, .int .i64 e, .int .i64 f]] (by rfl) rfl rfl (by (try simp only [List.map_toArray, List.map_cons, List.map_nil]); first | done | rfl) ?_
          with_reducible refine (HB.out _).mono ?_
          rintro e_ V28 ⟨rfl, hb⟩
          refine ⟨_, rfl, ?_⟩
          have HPN := hid (HPP.out.later hb)
          clear HPP hb
          have HPP := HPN
          clear HPN
          refine hK.out _ _ HPP.out.cells (fun hHeld => ?_)
          clear hK K
          refine norm_ (a' := ?_) ?_ ?_
          rotate_left
          · show Act.put _ (some 14) _ = _
            simp only [Act.put, List.setIfInBounds_toArray, List.set_cons_zero, List.set_cons_succ, i64_w, i32_w]
            rfl
          refine one_ (i := 4) (N := some 6) #[true, true, true, true, true, true, false, false] rfl rfl (one_of HT_.out (by kernel_rfl)) (by decide) (fun K hK => ?_)
          refine allocA_ (ob := .cells #[.int .i64 0, .int .i64 0, .int .i64 0] 231) (by rfl) rfl (by go_simp) ?_
          rintro g29 V29 hg hV
          have HPN := hid (HPP.out.a6 hg hV)
          clear HPP hg hV
          have HPP := HPN
          clear HPN
          refine hK.out _ _ HPP.out.cells (fun hHeld => ?_)
          clear hK K
          refine norm_ (a' := ?_) ?_ ?_
          rotate_left
          · show Act.put _ (some 6) _ = _
            simp only [Act.put, List.setIfInBounds_toArray, List.set_cons_zero, List.set_cons_succ, i64_w, i32_w]
            rfl
          exact norm_ (by simp only [putAll, Act.put, List.setIfInBounds_toArray, List.set_cons_zero, List.set_cons_succ]) (hCont (g29, g26) _ ⟨hHeld, HPP.out⟩)
        · skip
          refine allocA_ (ob := .cells #[.int .i64 0, .int .i64 0, .int .i64 0] 231) (by rfl) rfl (by go_simp) ?_
          rintro g30 V30 hg hV
          have HPN := hid (HPP.out.a6 hg hV)
          clear HPP hg hV
          have HPP := HPN
          clear HPN
          refine hK.out _ _ HPP.out.cells (fun hHeld => ?_)
          clear hK K
          refine norm_ (a' := ?_) ?_ ?_
          rotate_left
          · show Act.put _ (some 6) _ = _
            simp only [Act.put, List.setIfInBounds_toArray, List.set_cons_zero, List.set_cons_succ, i64_w, i32_w]
            rfl
          refine one_ (i := 3) (N := some 14) #[true, true, true, true, true, true, false, false] rfl rfl (one_of HT_.out (by kernel_rfl)) (by decide) (fun K hK => ?_)
          refine goes_ Try.func134 (by kernel_rfl) rfl #[.agg #[.int .i64 d, .int .i64 e, .int .i64 f]] (by rfl) rfl rfl (by (try simp only [List.map_toArray, List.map_cons, List.map_nil]); first | done | rfl) ?_
          with_reducible refine (HB.out _).mono ?_
          rintro e_ V31 ⟨rfl, hb⟩
          refine ⟨_, rfl, ?_⟩
          have HPN := hid (HPP.out.later hb)
          clear HPP hb
          have HPP := HPN
          clear HPN
          refine hK.out _ _ HPP.out.cells (fun hHeld => ?_)
          clear hK K
          refine norm_ (a' := ?_) ?_ ?_
          rotate_left
          · show Act.put _ (some 14) _ = _
            simp only [Act.put, List.setIfInBounds_toArray, List.set_cons_zero, List.set_cons_succ, i64_w, i32_w]
            rfl
          exact norm_ (by simp only [putAll, Act.put, List.setIfInBounds_toArray, List.set_cons_zero, List.set_cons_succ]) (hCont (g30, g26) _ ⟨hHeld, HPP.out⟩)
      · skip
        refine allocA_ (ob := .cells #[.int .i64 0, .int .i64 0, .int .i64 0] 231) (by rfl) rfl (by go_simp) ?_
        rintro g32 V32 hg hV
        have HPN := hid (HPP.out.a6 hg hV)
        clear HPP hg hV
        have HPP := HPN
        clear HPN
        refine hK.out _ _ HPP.out.cells (fun hHeld => ?_)
        clear hK K
        refine norm_ (a' := ?_) ?_ ?_
        rotate_left
        · show Act.put _ (some 6) _ = _
          simp only [Act.put, List.setIfInBounds_toArray, List.set_cons_zero, List.set_cons_succ, i64_w, i32_w]
          rfl
        refine one_ (i := 1) (N := some 12) #[true, true, true, false, true, true, false, false] rfl rfl (one_of HT_.out (by kernel_rfl)) (by decide) (fun K hK => ?_)
        refine goes_ Try.func134 (by kernel_rfl) rfl #[.agg #[.int .i64 a, .int .i64 b, .int .i64 c]] (by rfl) rfl rfl (by (try simp only [List.map_toArray, List.map_cons, List.map_nil]); first | done | rfl) ?_
        with_reducible refine (HA.out _).mono ?_
        rintro e_ V33 ⟨rfl, hb⟩
        refine ⟨_, rfl, ?_⟩
        have HPN := hid (HPP.out.later hb)
        clear HPP hb
        have HPP := HPN
        clear HPN
        refine hK.out _ _ HPP.out.cells (fun hHeld => ?_)
        clear hK K
        refine norm_ (a' := ?_) ?_ ?_
        rotate_left
        · show Act.put _ (some 12) _ = _
          simp only [Act.put, List.setIfInBounds_toArray, List.set_cons_zero, List.set_cons_succ, i64_w, i32_w]
          rfl
        refine one_ (i := 3) (N := some 14) #[true, true, true, true, true, true, false, false] rfl rfl (one_of HT_.out (by kernel_rfl)) (by decide) (fun K hK => ?_)
        refine goes_ Try.func134 (by kernel_rfl) rfl #[.agg #[.int .i64 d, .int .i64 e, .int .i64 f]] (by rfl) rfl rfl (by (try simp only [List.map_toArray, List.map_cons, List.map_nil]); first | done | rfl) ?_
        with_reducible refine (HB.out _).mono ?_
        rintro e_ V34 ⟨rfl, hb⟩
        refine ⟨_, rfl, ?_⟩
        have HPN := hid (HPP.out.later hb)
        clear HPP hb
        have HPP := HPN
        clear HPN
        refine hK.out _ _ HPP.out.cells (fun hHeld => ?_)
        clear hK K
        refine norm_ (a' := ?_) ?_ ?_
        rotate_left
        · show Act.put _ (some 14) _ = _
          simp only [Act.put, List.setIfInBounds_toArray, List.set_cons_zero, List.set_cons_succ, i64_w, i32_w]
          rfl
        exact norm_ (by simp only [putAll, Act.put, List.setIfInBounds_toArray, List.set_cons_zero, List.set_cons_succ]) (hCont (g32, g26) _ ⟨hHeld, HPP.out⟩)
  clear HPP
  rintro ⟨g6, g7⟩ wj ⟨hHeld, hPP⟩
  have HPP := hid hPP
  clear hPP
  refine norm_ (a' := ?_) ?_ ?_
  rotate_left
  · simp only [putAll, Act.put, List.setIfInBounds_toArray, List.set_cons_zero, List.set_cons_succ]
    rfl
  obtain ⟨z0, z1, z2, z3⟩ := cells231 (x := (0, 0, 0)) (HPP.out.h6 g6 rfl)
  simp only at z0 z1 z2
  have z30 := z3 0
  have z31 := z3 1
  have z32 := z3 2
  have HGE := hid HPP.out.ge
  obtain ⟨W6, hW6⟩ : ∃ W6, W6 = ((wj.setCell ⟨g6, 0, none⟩ (.int .i64 a)).setCell ⟨g6, 1, none⟩ (.int .i64 b)).setCell ⟨g6, 2, none⟩ (.int .i64 c) := ⟨_, rfl⟩
  obtain ⟨W7, hW7⟩ : ∃ W7, W7 = ((W6.setCell ⟨g7, 0, none⟩ (.int .i64 d)).setCell ⟨g7, 1, none⟩ (.int .i64 e)).setCell ⟨g7, 2, none⟩ (.int .i64 f) := ⟨_, rfl⟩
  have HPQ := hid (HPP.out.fill HGE.out)
  have hmid : PP w (a, b, c) (d, e, f) W6 none (some g7) := by rw [hW6]; exact HPP.out.half HGE.out
  obtain ⟨u0, u1, u2, u3⟩ := cells231 (x := (0, 0, 0)) (hmid.h7 g7 rfl)
  simp only at u0 u1 u2
  have u30 := u3 0
  have u31 := u3 1
  have u32 := u3 2
  have HS6 := hid hmid.cells
  have hall : PQ w W7 g6 g7 (a, b, c) (d, e, f) := by rw [hW7, hW6]; exact HPQ.out
  have HS7 := hid (show PP w (a, b, c) (d, e, f) W7 none none by rw [hW7]; exact hmid.half7 HGE.out).cells
  clear HPQ
  have HPQ := hid hall
  have HW6 := hid hW6
  have HW7 := hid hW7
  clear z3 u3 hmid hall hW6 hW7 HPP
  refine one_ (i := 6) (N := none) #[true, true, true, true, true, true, true, false] rfl rfl (one_of HT_.out (by kernel_rfl)) (by decide) (fun K hK => ?_)
  refine skip_ (w1 := W6) (by rfl) rfl (by rw [HW6.out]; go_simp) ?_
  refine hK.out _ _ HS6.out (fun hHeld => ?_)
  clear hK K
  refine one_ (i := 7) (N := none) #[true, true, true, true, true, true, true, true] rfl rfl (one_of HT_.out (by kernel_rfl)) (by decide) (fun K hK => ?_)
  refine skip_ (w1 := W7) (by rfl) rfl (by rw [HW7.out]; go_simp) ?_
  refine hK.out _ _ HS7.out (fun hHeld => ?_)
  clear hK K
  refine done_ (done_of HT_.out (by kernel_rfl)) ?_
  clear z0 z1 z2 z30 z31 z32 u0 u1 u2 u30 u31 u32 HS6 HS7 HW6 HW7 HGE
  go_wp2_with fail
  go_loopg [8, 9, 10, 15] 3 (fun g s8 s9 s10 s12 wr => ∃ x : R3, Hid (PQ w wr g6 g7 x (d, e, f)) ∧ ((g = 3 ∧ s12 = .int .i64 0 ∧ x = (a, b, c)) ∨ (g = 2 ∧ s12 = .int .i64 1 ∧ x = (a + d, b, c)) ∨ (g = 1 ∧ s12 = .int .i64 2 ∧ x = (a + d, b + e, c)) ∨ (g = 0 ∧ s12 = .int .i64 3 ∧ x = (a + d, b + e, c + f))))
  case atStart => exact ⟨_, HPQ, .inl ⟨rfl, rfl, rfl⟩⟩
  case round =>
    clear HPQ
    obtain ⟨x, HP, ⟨rfl, rfl, rfl⟩ | ⟨rfl, rfl, rfl⟩ | ⟨rfl, rfl, rfl⟩ | ⟨rfl, rfl, rfl⟩⟩ := hrel
    · skip
      have HD := hid (HP.out.later (Below.refl _ wr).drew)
      obtain ⟨Wd, hWd⟩ : ∃ Wd, Wd = wr.drew := ⟨_, rfl⟩
      have HWD := hid hWd
      rw [← hWd] at HD
      obtain ⟨y0, y1, y2, y3⟩ := cells231 HD.out.h6
      obtain ⟨v0, v1, v2, v3⟩ := cells231 HD.out.h7
      simp only at y0 y1 y2 v0 v1 v2
      have y30 := y3 0
      clear y3 v3 hWd
      go_upto_region 5 with fail
      refine start_ (n := 12) (S := fun V : World => V.cell? ⟨g6, 0, none⟩ = some (.int .i64 a) ∧ V.cell? ⟨g7, 0, none⟩ = some (.int .i64 d)) (ds := []) #[false, false, false, false, false, false, false, false, false, false, false, false] (by kernel_rfl) rfl rfl (by rw [← HWD.out]; exact ⟨y0, v0⟩) (fun hHeld => ?_); refine with_tabW rnd94.tab rnd94.bits (fun HT_ HW_ => ?_)
      rw [← HWD.out] at hHeld ⊢
      refine pure_ (i := 0) (N := some 19) (v := ?_) (a' := ?_) #[true, false, false, false, false, false, false, false, false, false, false, false] rfl rfl (any_of HT_.out (by kernel_rfl)) (fun _ _ _ h => h) (Or.inl ⟨by rfl, ?_⟩) ?_ ?_
      rotate_left
      · intro w'
        go_simp
        with_reducible rfl
      rotate_left
      · simp only [Act.put, List.setIfInBounds_toArray, List.set_cons_zero, List.set_cons_succ, i64_w, i32_w]
        rfl
      refine pure_ (i := 1) (N := some 20) (v := ?_) (a' := ?_) #[true, true, false, false, false, false, false, false, false, false, false, false] rfl rfl (any_of HT_.out (by kernel_rfl)) (fun _ _ _ h => h) (Or.inl ⟨by rfl, ?_⟩) ?_ ?_
      rotate_left
      · intro w'
        go_simp
        with_reducible rfl
      rotate_left
      · simp only [Act.put, List.setIfInBounds_toArray, List.set_cons_zero, List.set_cons_succ, i64_w, i32_w]
        rfl
      refine pure_ (i := 3) (N := some 22) (v := ?_) (a' := ?_) #[true, true, false, true, false, false, false, false, false, false, false, false] rfl rfl (any_of HT_.out (by kernel_rfl)) (fun _ _ _ h => h) (Or.inl ⟨by rfl, ?_⟩) ?_ ?_
      rotate_left
      · intro w'
        go_simp
        with_reducible rfl
      rotate_left
      · simp only [Act.put, List.setIfInBounds_toArray, List.set_cons_zero, List.set_cons_succ, i64_w, i32_w]
        rfl
      refine pure_ (i := 4) (N := some 23) (v := ?_) (a' := ?_) #[true, true, false, true, true, false, false, false, false, false, false, false] rfl rfl (any_of HT_.out (by kernel_rfl)) (fun _ _ _ h => h) (Or.inl ⟨by rfl, ?_⟩) ?_ ?_
      rotate_left
      · intro w'
        go_simp
        with_reducible rfl
      rotate_left
      · simp only [Act.put, List.setIfInBounds_toArray, List.set_cons_zero, List.set_cons_succ, i64_w, i32_w]
        rfl
      refine take_ (i := 2) (N := some 21) (v := ?_) (a' := ?_) #[true, true, true, true, true, false, false, false, false, false, false, false] rfl rfl (take_ofW HT_.out HW_.out (by kernel_rfl)) (fun _ _ _ h => h) (Or.inl ⟨by rfl, ?_⟩) hHeld ?_ ?_
      rotate_left
      · rintro w' ⟨s0, s1⟩
        go_simp
        with_reducible rfl
      rotate_left
      · simp only [Act.put, List.setIfInBounds_toArray, List.set_cons_zero, List.set_cons_succ, i64_w, i32_w]
        rfl
      refine take_ (i := 5) (N := some 24) (v := ?_) (a' := ?_) #[true, true, true, true, true, true, false, false, false, false, false, false] rfl rfl (take_ofW HT_.out HW_.out (by kernel_rfl)) (fun _ _ _ h => h) (Or.inl ⟨by rfl, ?_⟩) hHeld ?_ ?_
      rotate_left
      · rintro w' ⟨s0, s1⟩
        go_simp
        with_reducible rfl
      rotate_left
      · simp only [Act.put, List.setIfInBounds_toArray, List.set_cons_zero, List.set_cons_succ, i64_w, i32_w]
        rfl
      refine one_ (i := 6) (N := some 25) #[true, true, true, true, true, true, true, false, false, false, false, false] rfl rfl (one_of HT_.out (by kernel_rfl)) (by decide) (fun K hK => ?_)
      refine goes_ Try.func135 (by kernel_rfl) rfl #[.int .i64 a, .int .i64 d] (by rfl) rfl rfl (by (try simp only [List.map_toArray, List.map_cons, List.map_nil]); first | done | rfl) ?_
      with_reducible refine (H0.out _).mono ?_
      rintro r_ w3 ⟨rfl, hb3⟩
      refine ⟨_, rfl, ?_⟩
      have HE := hid (HD.out.later hb3)
      clear hb3
      refine hK.out _ _ ⟨((cells231 HE.out.h6).1), ((cells231 HE.out.h7).1)⟩ (fun hHeld => ?_)
      clear hK K
      refine norm_ (a' := ?_) ?_ ?_
      rotate_left
      · show Act.put _ (some 25) _ = _
        simp only [Act.put, List.setIfInBounds_toArray, List.set_cons_zero, List.set_cons_succ, i64_w, i32_w]
        rfl
      refine pure_ (i := 7) (N := some 18) (v := ?_) (a' := ?_) #[true, true, true, true, true, true, true, true, false, false, false, false] rfl rfl (any_of HT_.out (by kernel_rfl)) (fun _ _ _ h => h) (Or.inl ⟨by rfl, ?_⟩) ?_ ?_
      rotate_left
      · intro w'
        go_simp
        with_reducible rfl
      rotate_left
      · simp only [Act.put, List.setIfInBounds_toArray, List.set_cons_zero, List.set_cons_succ, i64_w, i32_w]
        rfl
      refine pure_ (i := 8) (N := some 26) (v := ?_) (a' := ?_) #[true, true, true, true, true, true, true, true, true, false, false, false] rfl rfl (any_of HT_.out (by kernel_rfl)) (fun _ _ _ h => h) (Or.inl ⟨by rfl, ?_⟩) ?_ ?_
      rotate_left
      · intro w'
        go_simp
        with_reducible rfl
      rotate_left
      · simp only [Act.put, List.setIfInBounds_toArray, List.set_cons_zero, List.set_cons_succ, i64_w, i32_w]
        rfl
      refine pure_ (i := 9) (N := some 27) (v := ?_) (a' := ?_) #[true, true, true, true, true, true, true, true, true, true, false, false] rfl rfl (any_of HT_.out (by kernel_rfl)) (fun _ _ _ h => h) (Or.inl ⟨by rfl, ?_⟩) ?_ ?_
      rotate_left
      · intro w'
        go_simp
        with_reducible rfl
      rotate_left
      · simp only [Act.put, List.setIfInBounds_toArray, List.set_cons_zero, List.set_cons_succ, i64_w, i32_w]
        rfl
      refine pure_ (i := 10) (N := some 9) (v := ?_) (a' := ?_) #[true, true, true, true, true, true, true, true, true, true, true, false] rfl rfl (any_of HT_.out (by kernel_rfl)) (fun _ _ _ h => h) (Or.inl ⟨by rfl, ?_⟩) ?_ ?_
      rotate_left
      · intro w'
        go_simp
        with_reducible rfl
      rotate_left
      · simp only [Act.put, List.setIfInBounds_toArray, List.set_cons_zero, List.set_cons_succ, i64_w, i32_w]
        rfl
      refine pure_ (i := 11) (N := some 10) (v := ?_) (a' := ?_) #[true, true, true, true, true, true, true, true, true, true, true, true] rfl rfl (any_of HT_.out (by kernel_rfl)) (fun _ _ _ h => h) (Or.inl ⟨by rfl, ?_⟩) ?_ ?_
      rotate_left
      · intro w'
        go_simp
        with_reducible rfl
      rotate_left
      · simp only [Act.put, List.setIfInBounds_toArray, List.set_cons_zero, List.set_cons_succ, i64_w, i32_w]
        rfl
      refine done_ (done_of HT_.out (by kernel_rfl)) ?_
      clear HD y0 y1 y2 v0 v1 v2 y30
      obtain ⟨y0, y1, y2, y3⟩ := cells231 HE.out.h6
      simp only at y0 y1 y2
      have y30 := y3 0
      clear y3
      go_wp2_with fail
      have HN := hid (HE.out.put0 (a + d))
      clear HE y0 y1 y2 y30
      go_roundg 2
      case measure => omega
      case rel => exact ⟨_, HN, .inr (.inl ⟨rfl, rfl, rfl⟩)⟩
    · skip
      have HD := hid (HP.out.later (Below.refl _ wr).drew)
      obtain ⟨Wd, hWd⟩ : ∃ Wd, Wd = wr.drew := ⟨_, rfl⟩
      have HWD := hid hWd
      rw [← hWd] at HD
      obtain ⟨y0, y1, y2, y3⟩ := cells231 HD.out.h6
      obtain ⟨v0, v1, v2, v3⟩ := cells231 HD.out.h7
      simp only at y0 y1 y2 v0 v1 v2
      have y30 := y3 1
      clear y3 v3 hWd
      go_upto_region 5 with fail
      refine start_ (n := 12) (S := fun V : World => V.cell? ⟨g6, 1, none⟩ = some (.int .i64 b) ∧ V.cell? ⟨g7, 1, none⟩ = some (.int .i64 e)) (ds := []) #[false, false, false, false, false, false, false, false, false, false, false, false] (by kernel_rfl) rfl rfl (by rw [← HWD.out]; exact ⟨y1, v1⟩) (fun hHeld => ?_); refine with_tabW rnd94.tab rnd94.bits (fun HT_ HW_ => ?_)
      rw [← HWD.out] at hHeld ⊢
      refine pure_ (i := 0) (N := some 19) (v := ?_) (a' := ?_) #[true, false, false, false, false, false, false, false, false, false, false, false] rfl rfl (any_of HT_.out (by kernel_rfl)) (fun _ _ _ h => h) (Or.inl ⟨by rfl, ?_⟩) ?_ ?_
      rotate_left
      · intro w'
        go_simp
        with_reducible rfl
      rotate_left
      · simp only [Act.put, List.setIfInBounds_toArray, List.set_cons_zero, List.set_cons_succ, i64_w, i32_w]
        rfl
      refine pure_ (i := 1) (N := some 20) (v := ?_) (a' := ?_) #[true, true, false, false, false, false, false, false, false, false, false, false] rfl rfl (any_of HT_.out (by kernel_rfl)) (fun _ _ _ h => h) (Or.inl ⟨by rfl, ?_⟩) ?_ ?_
      rotate_left
      · intro w'
        go_simp
        with_reducible rfl
      rotate_left
      · simp only [Act.put, List.setIfInBounds_toArray, List.set_cons_zero, List.set_cons_succ, i64_w, i32_w]
        rfl
      refine pure_ (i := 3) (N := some 22) (v := ?_) (a' := ?_) #[true, true, false, true, false, false, false, false, false, false, false, false] rfl rfl (any_of HT_.out (by kernel_rfl)) (fun _ _ _ h => h) (Or.inl ⟨by rfl, ?_⟩) ?_ ?_
      rotate_left
      · intro w'
        go_simp
        with_reducible rfl
      rotate_left
      · simp only [Act.put, List.setIfInBounds_toArray, List.set_cons_zero, List.set_cons_succ, i64_w, i32_w]
        rfl
      refine pure_ (i := 4) (N := some 23) (v := ?_) (a' := ?_) #[true, true, false, true, true, false, false, false, false, false, false, false] rfl rfl (any_of HT_.out (by kernel_rfl)) (fun _ _ _ h => h) (Or.inl ⟨by rfl, ?_⟩) ?_ ?_
      rotate_left
      · intro w'
        go_simp
        with_reducible rfl
      rotate_left
      · simp only [Act.put, List.setIfInBounds_toArray, List.set_cons_zero, List.set_cons_succ, i64_w, i32_w]
        rfl
      refine take_ (i := 2) (N := some 21) (v := ?_) (a' := ?_) #[true, true, true, true, true, false, false, false, false, false, false, false] rfl rfl (take_ofW HT_.out HW_.out (by kernel_rfl)) (fun _ _ _ h => h) (Or.inl ⟨by rfl, ?_⟩) hHeld ?_ ?_
      rotate_left
      · rintro w' ⟨s0, s1⟩
        go_simp
        with_reducible rfl
      rotate_left
      · simp only [Act.put, List.setIfInBounds_toArray, List.set_cons_zero, List.set_cons_succ, i64_w, i32_w]
        rfl
      refine take_ (i := 5) (N := some 24) (v := ?_) (a' := ?_) #[true, true, true, true, true, true, false, false, false, false, false, false] rfl rfl (take_ofW HT_.out HW_.out (by kernel_rfl)) (fun _ _ _ h => h) (Or.inl ⟨by rfl, ?_⟩) hHeld ?_ ?_
      rotate_left
      · rintro w' ⟨s0, s1⟩
        go_simp
        with_reducible rfl
      rotate_left
      · simp only [Act.put, List.setIfInBounds_toArray, List.set_cons_zero, List.set_cons_succ, i64_w, i32_w]
        rfl
      refine one_ (i := 6) (N := some 25) #[true, true, true, true, true, true, true, false, false, false, false, false] rfl rfl (one_of HT_.out (by kernel_rfl)) (by decide) (fun K hK => ?_)
      refine goes_ Try.func135 (by kernel_rfl) rfl #[.int .i64 b, .int .i64 e] (by rfl) rfl rfl (by (try simp only [List.map_toArray, List.map_cons, List.map_nil]); first | done | rfl) ?_
      with_reducible refine (H1.out _).mono ?_
      rintro r_ w3 ⟨rfl, hb3⟩
      refine ⟨_, rfl, ?_⟩
      have HE := hid (HD.out.later hb3)
      clear hb3
      refine hK.out _ _ ⟨((cells231 HE.out.h6).2.1), ((cells231 HE.out.h7).2.1)⟩ (fun hHeld => ?_)
      clear hK K
      refine norm_ (a' := ?_) ?_ ?_
      rotate_left
      · show Act.put _ (some 25) _ = _
        simp only [Act.put, List.setIfInBounds_toArray, List.set_cons_zero, List.set_cons_succ, i64_w, i32_w]
        rfl
      refine pure_ (i := 7) (N := some 18) (v := ?_) (a' := ?_) #[true, true, true, true, true, true, true, true, false, false, false, false] rfl rfl (any_of HT_.out (by kernel_rfl)) (fun _ _ _ h => h) (Or.inl ⟨by rfl, ?_⟩) ?_ ?_
      rotate_left
      · intro w'
        go_simp
        with_reducible rfl
      rotate_left
      · simp only [Act.put, List.setIfInBounds_toArray, List.set_cons_zero, List.set_cons_succ, i64_w, i32_w]
        rfl
      refine pure_ (i := 8) (N := some 26) (v := ?_) (a' := ?_) #[true, true, true, true, true, true, true, true, true, false, false, false] rfl rfl (any_of HT_.out (by kernel_rfl)) (fun _ _ _ h => h) (Or.inl ⟨by rfl, ?_⟩) ?_ ?_
      rotate_left
      · intro w'
        go_simp
        with_reducible rfl
      rotate_left
      · simp only [Act.put, List.setIfInBounds_toArray, List.set_cons_zero, List.set_cons_succ, i64_w, i32_w]
        rfl
      refine pure_ (i := 9) (N := some 27) (v := ?_) (a' := ?_) #[true, true, true, true, true, true, true, true, true, true, false, false] rfl rfl (any_of HT_.out (by kernel_rfl)) (fun _ _ _ h => h) (Or.inl ⟨by rfl, ?_⟩) ?_ ?_
      rotate_left
      · intro w'
        go_simp
        with_reducible rfl
      rotate_left
      · simp only [Act.put, List.setIfInBounds_toArray, List.set_cons_zero, List.set_cons_succ, i64_w, i32_w]
        rfl
      refine pure_ (i := 10) (N := some 9) (v := ?_) (a' := ?_) #[true, true, true, true, true, true, true, true, true, true, true, false] rfl rfl (any_of HT_.out (by kernel_rfl)) (fun _ _ _ h => h) (Or.inl ⟨by rfl, ?_⟩) ?_ ?_
      rotate_left
      · intro w'
        go_simp
        with_reducible rfl
      rotate_left
      · simp only [Act.put, List.setIfInBounds_toArray, List.set_cons_zero, List.set_cons_succ, i64_w, i32_w]
        rfl
      refine pure_ (i := 11) (N := some 10) (v := ?_) (a' := ?_) #[true, true, true, true, true, true, true, true, true, true, true, true] rfl rfl (any_of HT_.out (by kernel_rfl)) (fun _ _ _ h => h) (Or.inl ⟨by rfl, ?_⟩) ?_ ?_
      rotate_left
      · intro w'
        go_simp
        with_reducible rfl
      rotate_left
      · simp only [Act.put, List.setIfInBounds_toArray, List.set_cons_zero, List.set_cons_succ, i64_w, i32_w]
        rfl
      refine done_ (done_of HT_.out (by kernel_rfl)) ?_
      clear HD y0 y1 y2 v0 v1 v2 y30
      obtain ⟨y0, y1, y2, y3⟩ := cells231 HE.out.h6
      simp only at y0 y1 y2
      have y30 := y3 1
      clear y3
      go_wp2_with fail
      have HN := hid (HE.out.put1 (b + e))
      clear HE y0 y1 y2 y30
      go_roundg 1
      case measure => omega
      case rel => exact ⟨_, HN, .inr (.inr (.inl ⟨rfl, rfl, rfl⟩))⟩
    · skip
      have HD := hid (HP.out.later (Below.refl _ wr).drew)
      obtain ⟨Wd, hWd⟩ : ∃ Wd, Wd = wr.drew := ⟨_, rfl⟩
      have HWD := hid hWd
      rw [← hWd] at HD
      obtain ⟨y0, y1, y2, y3⟩ := cells231 HD.out.h6
      obtain ⟨v0, v1, v2, v3⟩ := cells231 HD.out.h7
      simp only at y0 y1 y2 v0 v1 v2
      have y30 := y3 2
      clear y3 v3 hWd
      go_upto_region 5 with fail
      refine start_ (n := 12) (S := fun V : World => V.cell? ⟨g6, 2, none⟩ = some (.int .i64 c) ∧ V.cell? ⟨g7, 2, none⟩ = some (.int .i64 f)) (ds := []) #[false, false, false, false, false, false, false, false, false, false, false, false] (by kernel_rfl) rfl rfl (by rw [← HWD.out]; exact ⟨y2, v2⟩) (fun hHeld => ?_); refine with_tabW rnd94.tab rnd94.bits (fun HT_ HW_ => ?_)
      rw [← HWD.out] at hHeld ⊢
      refine pure_ (i := 0) (N := some 19) (v := ?_) (a' := ?_) #[true, false, false, false, false, false, false, false, false, false, false, false] rfl rfl (any_of HT_.out (by kernel_rfl)) (fun _ _ _ h => h) (Or.inl ⟨by rfl, ?_⟩) ?_ ?_
      rotate_left
      · intro w'
        go_simp
        with_reducible rfl
      rotate_left
      · simp only [Act.put, List.setIfInBounds_toArray, List.set_cons_zero, List.set_cons_succ, i64_w, i32_w]
        rfl
      refine pure_ (i := 1) (N := some 20) (v := ?_) (a' := ?_) #[true, true, false, false, false, false, false, false, false, false, false, false] rfl rfl (any_of HT_.out (by kernel_rfl)) (fun _ _ _ h => h) (Or.inl ⟨by rfl, ?_⟩) ?_ ?_
      rotate_left
      · intro w'
        go_simp
        with_reducible rfl
      rotate_left
      · simp only [Act.put, List.setIfInBounds_toArray, List.set_cons_zero, List.set_cons_succ, i64_w, i32_w]
        rfl
      refine pure_ (i := 3) (N := some 22) (v := ?_) (a' := ?_) #[true, true, false, true, false, false, false, false, false, false, false, false] rfl rfl (any_of HT_.out (by kernel_rfl)) (fun _ _ _ h => h) (Or.inl ⟨by rfl, ?_⟩) ?_ ?_
      rotate_left
      · intro w'
        go_simp
        with_reducible rfl
      rotate_left
      · simp only [Act.put, List.setIfInBounds_toArray, List.set_cons_zero, List.set_cons_succ, i64_w, i32_w]
        rfl
      refine pure_ (i := 4) (N := some 23) (v := ?_) (a' := ?_) #[true, true, false, true, true, false, false, false, false, false, false, false] rfl rfl (any_of HT_.out (by kernel_rfl)) (fun _ _ _ h => h) (Or.inl ⟨by rfl, ?_⟩) ?_ ?_
      rotate_left
      · intro w'
        go_simp
        with_reducible rfl
      rotate_left
      · simp only [Act.put, List.setIfInBounds_toArray, List.set_cons_zero, List.set_cons_succ, i64_w, i32_w]
        rfl
      refine take_ (i := 2) (N := some 21) (v := ?_) (a' := ?_) #[true, true, true, true, true, false, false, false, false, false, false, false] rfl rfl (take_ofW HT_.out HW_.out (by kernel_rfl)) (fun _ _ _ h => h) (Or.inl ⟨by rfl, ?_⟩) hHeld ?_ ?_
      rotate_left
      · rintro w' ⟨s0, s1⟩
        go_simp
        with_reducible rfl
      rotate_left
      · simp only [Act.put, List.setIfInBounds_toArray, List.set_cons_zero, List.set_cons_succ, i64_w, i32_w]
        rfl
      refine take_ (i := 5) (N := some 24) (v := ?_) (a' := ?_) #[true, true, true, true, true, true, false, false, false, false, false, false] rfl rfl (take_ofW HT_.out HW_.out (by kernel_rfl)) (fun _ _ _ h => h) (Or.inl ⟨by rfl, ?_⟩) hHeld ?_ ?_
      rotate_left
      · rintro w' ⟨s0, s1⟩
        go_simp
        with_reducible rfl
      rotate_left
      · simp only [Act.put, List.setIfInBounds_toArray, List.set_cons_zero, List.set_cons_succ, i64_w, i32_w]
        rfl
      refine one_ (i := 6) (N := some 25) #[true, true, true, true, true, true, true, false, false, false, false, false] rfl rfl (one_of HT_.out (by kernel_rfl)) (by decide) (fun K hK => ?_)
      refine goes_ Try.func135 (by kernel_rfl) rfl #[.int .i64 c, .int .i64 f] (by rfl) rfl rfl (by (try simp only [List.map_toArray, List.map_cons, List.map_nil]); first | done | rfl) ?_
      with_reducible refine (H2.out _).mono ?_
      rintro r_ w3 ⟨rfl, hb3⟩
      refine ⟨_, rfl, ?_⟩
      have HE := hid (HD.out.later hb3)
      clear hb3
      refine hK.out _ _ ⟨((cells231 HE.out.h6).2.2.1), ((cells231 HE.out.h7).2.2.1)⟩ (fun hHeld => ?_)
      clear hK K
      refine norm_ (a' := ?_) ?_ ?_
      rotate_left
      · show Act.put _ (some 25) _ = _
        simp only [Act.put, List.setIfInBounds_toArray, List.set_cons_zero, List.set_cons_succ, i64_w, i32_w]
        rfl
      refine pure_ (i := 7) (N := some 18) (v := ?_) (a' := ?_) #[true, true, true, true, true, true, true, true, false, false, false, false] rfl rfl (any_of HT_.out (by kernel_rfl)) (fun _ _ _ h => h) (Or.inl ⟨by rfl, ?_⟩) ?_ ?_
      rotate_left
      · intro w'
        go_simp
        with_reducible rfl
      rotate_left
      · simp only [Act.put, List.setIfInBounds_toArray, List.set_cons_zero, List.set_cons_succ, i64_w, i32_w]
        rfl
      refine pure_ (i := 8) (N := some 26) (v := ?_) (a' := ?_) #[true, true, true, true, true, true, true, true, true, false, false, false] rfl rfl (any_of HT_.out (by kernel_rfl)) (fun _ _ _ h => h) (Or.inl ⟨by rfl, ?_⟩) ?_ ?_
      rotate_left
      · intro w'
        go_simp
        with_reducible rfl
      rotate_left
      · simp only [Act.put, List.setIfInBounds_toArray, List.set_cons_zero, List.set_cons_succ, i64_w, i32_w]
        rfl
      refine pure_ (i := 9) (N := some 27) (v := ?_) (a' := ?_) #[true, true, true, true, true, true, true, true, true, true, false, false] rfl rfl (any_of HT_.out (by kernel_rfl)) (fun _ _ _ h => h) (Or.inl ⟨by rfl, ?_⟩) ?_ ?_
      rotate_left
      · intro w'
        go_simp
        with_reducible rfl
      rotate_left
      · simp only [Act.put, List.setIfInBounds_toArray, List.set_cons_zero, List.set_cons_succ, i64_w, i32_w]
        rfl
      refine pure_ (i := 10) (N := some 9) (v := ?_) (a' := ?_) #[true, true, true, true, true, true, true, true, true, true, true, false] rfl rfl (any_of HT_.out (by kernel_rfl)) (fun _ _ _ h => h) (Or.inl ⟨by rfl, ?_⟩) ?_ ?_
      rotate_left
      · intro w'
        go_simp
        with_reducible rfl
      rotate_left
      · simp only [Act.put, List.setIfInBounds_toArray, List.set_cons_zero, List.set_cons_succ, i64_w, i32_w]
        rfl
      refine pure_ (i := 11) (N := some 10) (v := ?_) (a' := ?_) #[true, true, true, true, true, true, true, true, true, true, true, true] rfl rfl (any_of HT_.out (by kernel_rfl)) (fun _ _ _ h => h) (Or.inl ⟨by rfl, ?_⟩) ?_ ?_
      rotate_left
      · intro w'
        go_simp
        with_reducible rfl
      rotate_left
      · simp only [Act.put, List.setIfInBounds_toArray, List.set_cons_zero, List.set_cons_succ, i64_w, i32_w]
        rfl
      refine done_ (done_of HT_.out (by kernel_rfl)) ?_
      clear HD y0 y1 y2 v0 v1 v2 y30
      obtain ⟨y0, y1, y2, y3⟩ := cells231 HE.out.h6
      simp only at y0 y1 y2
      have y30 := y3 2
      clear y3
      go_wp2_with fail
      have HN := hid (HE.out.put2 (c + f))
      clear HE y0 y1 y2 y30
      go_roundg 0
      case measure => omega
      case rel => exact ⟨_, HN, .inr (.inr (.inr ⟨rfl, rfl, rfl⟩))⟩
    · have HR := hid (fun W => res_any (a + d, b + e, c + f) W)
      unfold rv at HR
      obtain ⟨y0, y1, y2, y3⟩ := cells231 HP.out.h6
      simp only at y0 y1 y2
      clear y3
      go_wp2_with (go_at_call 136; go_must (with_reducible refine (HR.out _).mono ?_); rintro e_ w8 ⟨rfl, hb⟩; have HE := hid (HP.out.later hb); have hrt := HE.out.rt; obtain ⟨q0, q1, q2, q3⟩ := cells145 hrt; have q30 := q3 0; have q31 := q3 1; have q32 := q3 2; clear q3 hb hrt)
      have hlow := HE.out.low
      have hl2 : w.heap.size + 1 + 1 < w8.heap.size := (Array.getElem?_eq_some_iff.1 HE.out.rt).1
      refine bodyPost_ret (v := .tuple #[.agg #[.int .i64 (a + d), .int .i64 (b + e), .int .i64 (c + f)], .bool true]) (by simp [results, Try.results94, go_sem, q30, q31, q32, q0, q1, q2]) rfl ⟨rfl, ?_⟩
      exact ((hlow.setCell (by simp; omega) _).setCell (by simp; omega) _).setCell (by simp; omega) _
def pre95.T : Bool × List (List Nat × List Nat) := (true, [([], []), ([0], [0]), ([], []), ([2, 1], [2]), ([], []), ([], []), ([4, 1, 3, 0, 1, 4, 5], [1, 4]), ([5, 3, 6, 0, 1, 2, 3, 4, 5, 6], [3, 5])])
def pre95.B : List Nat := [0, 1, 0, 7, 0, 0, 63, 127]
theorem pre95.tab : rtab .any (opsOf Try.f95 1) = pre95.T := by kernel_rfl
theorem pre95.bits : waitsOk pre95.T.2 pre95.B = true := by kernel_rfl
def rnd95.T : Bool × List (List Nat × List Nat) := (true, [([], []), ([0], [0]), ([1], [1]), ([], []), ([3], [3]), ([4], [4]), ([2, 5], [2, 5]), ([6], [6]), ([7], [7]), ([7], [7]), ([8, 6, 0, 1, 2, 3, 4, 5, 6, 7, 8], [8]), ([9, 10, 0, 1, 2, 3, 4, 5, 6, 7, 8, 9, 10], [9])])
def rnd95.B : List Nat := [0, 1, 3, 0, 8, 24, 63, 127, 255, 255, 511, 2047]
theorem rnd95.tab : rtab .any (opsOf Try.f95 5) = rnd95.T := by kernel_rfl
theorem rnd95.bits : waitsOk rnd95.T.2 rnd95.B = true := by kernel_rfl
set_option maxRecDepth 100000 in
set_option maxHeartbeats 4000000 in
theorem sub_any (r s : R3) (w : World) (h : Dif r.1 s.1 ∧ Dif r.2.1 s.2.1 ∧ Dif r.2.2 s.2.2) : Calls Try.prog 95 #[rv r, rv s] w fun e w' => e = .returned (.tuple #[rv (sub3 r s), .bool true]) ∧ Below w.heap.size w w' := by
  have HO := hid (fun r w => of_any r w)
  obtain ⟨a, b, c⟩ := r
  obtain ⟨d, e, f⟩ := s
  unfold rv at HO ⊢
  have H0 := hid (fun W => minus_any (h.1) W)
  have H1 := hid (fun W => minus_any (h.2.1) W)
  have H2 := hid (fun W => minus_any (h.2.2) W)
  clear h
  have HA := hid (HO.out (a, b, c))
  have HB := hid (HO.out (d, e, f))
  have HPP0 := hid (PP.start w (a, b, c) (d, e, f))
  clear HO
  go_enter Try.func95, Try.ntmps95
  go_upto_region 1 with fail
  refine start_ (n := 8) (S := fun V : World => V.cell? ⟨w.heap.size, 0, none⟩ = some (.int .i64 a) ∧ V.cell? ⟨w.heap.size, 1, none⟩ = some (.int .i64 b) ∧ V.cell? ⟨w.heap.size, 2, none⟩ = some (.int .i64 c) ∧ V.cell? ⟨w.heap.size + 1, 0, none⟩ = some (.int .i64 d) ∧ V.cell? ⟨w.heap.size + 1, 1, none⟩ = some (.int .i64 e) ∧ V.cell? ⟨w.heap.size + 1, 2, none⟩ = some (.int .i64 f)) (ds := []) #[false, false, false, false, false, false, false, false] (by kernel_rfl) rfl rfl (HPP0.out.drew.cells) (fun hHeld => ?_); refine with_tabW pre95.tab pre95.bits (fun HT_ HW_ => ?_)
  refine take_ (i := 0) (N := some 11) (v := ?_) (a' := ?_) #[true, false, false, false, false, false, false, false] rfl rfl (take_ofW HT_.out HW_.out (by kernel_rfl)) (fun _ _ _ h => h) (Or.inl ⟨by rfl, ?_⟩) hHeld ?_ ?_
  rotate_left
  · rintro w' ⟨s0, s1, s2, s3, s4, s5⟩
    go_simp
    with_reducible rfl
  rotate_left
  · simp only [Act.put, List.setIfInBounds_toArray, List.set_cons_zero, List.set_cons_succ, i64_w, i32_w]
    rfl
  refine take_ (i := 2) (N := some 13) (v := ?_) (a' := ?_) #[true, false, true, false, false, false, false, false] rfl rfl (take_ofW HT_.out HW_.out (by kernel_rfl)) (fun _ _ _ h => h) (Or.inl ⟨by rfl, ?_⟩) hHeld ?_ ?_
  rotate_left
  · rintro w' ⟨s0, s1, s2, s3, s4, s5⟩
    go_simp
    with_reducible rfl
  rotate_left
  · simp only [Act.put, List.setIfInBounds_toArray, List.set_cons_zero, List.set_cons_succ, i64_w, i32_w]
    rfl
  have HPP := hid HPP0.out.drew
  clear HPP0
  refine join_ (σ := Nat × Nat) 2 #[true, true, true, true, true, true, false, false] (fun s_ => [(12, .agg #[.int .i64 a, .int .i64 b, .int .i64 c]), (14, .agg #[.int .i64 d, .int .i64 e, .int .i64 f]), (6, .pointer (some ⟨s_.1, 0, none⟩)), (7, .pointer (some ⟨s_.2, 0, none⟩))]) (fun s_ w' => (fun V : World => V.cell? ⟨w.heap.size, 0, none⟩ = some (.int .i64 a) ∧ V.cell? ⟨w.heap.size, 1, none⟩ = some (.int .i64 b) ∧ V.cell? ⟨w.heap.size, 2, none⟩ = some (.int .i64 c) ∧ V.cell? ⟨w.heap.size + 1, 0, none⟩ = some (.int .i64 d) ∧ V.cell? ⟨w.heap.size + 1, 1, none⟩ = some (.int .i64 e) ∧ V.cell? ⟨w.heap.size + 1, 2, none⟩ = some (.int .i64 f)) w' ∧ PP w (a, b, c) (d, e, f) w' (some s_.1) (some s_.2)) ?_ ?_
  rotate_left
  · intro hCont
    refine three_ (i := 1) (j := 4) (k := 5) (Ni := some 12) (Nj := some 6) (Nk := some 7) #[true, true, true, false, false, false, false, false] #[true, false, true, false, true, false, false, false] #[true, false, true, false, false, true, false, false] rfl rfl rfl rfl rfl rfl (three_of HT_.out (by kernel_rfl)) (by decide) (by decide) (by decide) (fun K hK => ?_) (fun K hK => ?_) (fun K hK => ?_)
    · skip
      refine goes_ Try.func134 (by kernel_rfl) rfl #[.agg #[.int .i64 a, .int .i64 b, .int .i64 c]] (by rfl) rfl rfl (by (try simp only [List.map_toArray, List.map_cons, List.map_nil]); first | done | rfl) ?_
      with_reducible refine (HA.out _).mono ?_
      rintro e_ V1 ⟨rfl, hb⟩
      refine ⟨_, rfl, ?_⟩
      have HPN := hid (HPP.out.later hb)
      clear HPP hb
      have HPP := HPN
      clear HPN
      refine hK.out _ _ HPP.out.cells (fun hHeld => ?_)
      clear hK K
      refine norm_ (a' := ?_) ?_ ?_
      rotate_left
      · show Act.put _ (some 12) _ = _
        simp only [Act.put, List.setIfInBounds_toArray, List.set_cons_zero, List.set_cons_succ, i64_w, i32_w]
        rfl
      refine three_ (i := 3) (j := 4) (k := 5) (Ni := some 14) (Nj := some 6) (Nk := some 7) #[true, true, true, true, false, false, false, false] #[true, true, true, false, true, false, false, false] #[true, true, true, false, false, true, false, false] rfl rfl rfl rfl rfl rfl (three_of HT_.out (by kernel_rfl)) (by decide) (by decide) (by decide) (fun K hK => ?_) (fun K hK => ?_) (fun K hK => ?_)
      · skip
        refine goes_ Try.func134 (by kernel_rfl) rfl #[.agg #[.int .i64 d, .int .i64 e, .int .i64 f]] (by rfl) rfl rfl (by (try simp only [List.map_toArray, List.map_cons, List.map_nil]); first | done | rfl) ?_
        with_reducible refine (HB.out _).mono ?_
        rintro e_ V2 ⟨rfl, hb⟩
        refine ⟨_, rfl, ?_⟩
        have HPN := hid (HPP.out.later hb)
        clear HPP hb
        have HPP := HPN
        clear HPN
        refine hK.out _ _ HPP.out.cells (fun hHeld => ?_)
        clear hK K
        refine norm_ (a' := ?_) ?_ ?_
        rotate_left
        · show Act.put _ (some 14) _ = _
          simp only [Act.put, List.setIfInBounds_toArray, List.set_cons_zero, List.set_cons_succ, i64_w, i32_w]
          rfl
        refine two_ (i := 4) (j := 5) (Ni := some 6) (Nj := some 7) #[true, true, true, true, true, false, false, false] #[true, true, true, true, false, true, false, false] rfl rfl rfl rfl (two_of HT_.out (by kernel_rfl)) (by decide) (by decide) (fun K hK => ?_) (fun K hK => ?_)
        · skip
          refine allocA_ (ob := .cells #[.int .i64 0, .int .i64 0, .int .i64 0] 231) (by rfl) rfl (by go_simp) ?_
          rintro g3 V3 hg hV
          have HPN := hid (HPP.out.a6 hg hV)
          clear HPP hg hV
          have HPP := HPN
          clear HPN
          refine hK.out _ _ HPP.out.cells (fun hHeld => ?_)
          clear hK K
          refine norm_ (a' := ?_) ?_ ?_
          rotate_left
          · show Act.put _ (some 6) _ = _
            simp only [Act.put, List.setIfInBounds_toArray, List.set_cons_zero, List.set_cons_succ, i64_w, i32_w]
            rfl
          refine one_ (i := 5) (N := some 7) #[true, true, true, true, true, true, false, false] rfl rfl (one_of HT_.out (by kernel_rfl)) (by decide) (fun K hK => ?_)
          refine allocA_ (ob := .cells #[.int .i64 0, .int .i64 0, .int .i64 0] 231) (by rfl) rfl (by go_simp) ?_
          rintro g4 V4 hg hV
          have HPN := hid (HPP.out.a7 hg hV)
          clear HPP hg hV
          have HPP := HPN
          clear HPN
          refine hK.out _ _ HPP.out.cells (fun hHeld => ?_)
          clear hK K
          refine norm_ (a' := ?_) ?_ ?_
          rotate_left
          · show Act.put _ (some 7) _ = _
            simp only [Act.put, List.setIfInBounds_toArray, List.set_cons_zero, List.set_cons_succ, i64_w, i32_w]
            rfl
          exact norm_ (by simp only [putAll, Act.put, List.setIfInBounds_toArray, List.set_cons_zero, List.set_cons_succ]) (hCont (g3, g4) _ ⟨hHeld, HPP.out⟩)
        · skip
          refine allocA_ (ob := .cells #[.int .i64 0, .int .i64 0, .int .i64 0] 231) (by rfl) rfl (by go_simp) ?_
          rintro g5 V5 hg hV
          have HPN := hid (HPP.out.a7 hg hV)
          clear HPP hg hV
          have HPP := HPN
          clear HPN
          refine hK.out _ _ HPP.out.cells (fun hHeld => ?_)
          clear hK K
          refine norm_ (a' := ?_) ?_ ?_
          rotate_left
          · show Act.put _ (some 7) _ = _
            simp only [Act.put, List.setIfInBounds_toArray, List.set_cons_zero, List.set_cons_succ, i64_w, i32_w]
            rfl
          refine one_ (i := 4) (N := some 6) #[true, true, true, true, true, true, false, false] rfl rfl (one_of HT_.out (by kernel_rfl)) (by decide) (fun K hK => ?_)
          refine allocA_ (ob := .cells #[.int .i64 0, .int .i64 0, .int .i64 0] 231) (by rfl) rfl (by go_simp) ?_
          rintro g6 V6 hg hV
          have HPN := hid (HPP.out.a6 hg hV)
          clear HPP hg hV
          have HPP := HPN
          clear HPN
          refine hK.out _ _ HPP.out.cells (fun hHeld => ?_)
          clear hK K
          refine norm_ (a' := ?_) ?_ ?_
          rotate_left
          · show Act.put _ (some 6) _ = _
            simp only [Act.put, List.setIfInBounds_toArray, List.set_cons_zero, List.set_cons_succ, i64_w, i32_w]
            rfl
          exact norm_ (by simp only [putAll, Act.put, List.setIfInBounds_toArray, List.set_cons_zero, List.set_cons_succ]) (hCont (g6, g5) _ ⟨hHeld, HPP.out⟩)
      · skip
        refine allocA_ (ob := .cells #[.int .i64 0, .int .i64 0, .int .i64 0] 231) (by rfl) rfl (by go_simp) ?_
        rintro g7 V7 hg hV
        have HPN := hid (HPP.out.a6 hg hV)
        clear HPP hg hV
        have HPP := HPN
        clear HPN
        refine hK.out _ _ HPP.out.cells (fun hHeld => ?_)
        clear hK K
        refine norm_ (a' := ?_) ?_ ?_
        rotate_left
        · show Act.put _ (some 6) _ = _
          simp only [Act.put, List.setIfInBounds_toArray, List.set_cons_zero, List.set_cons_succ, i64_w, i32_w]
          rfl
        refine two_ (i := 3) (j := 5) (Ni := some 14) (Nj := some 7) #[true, true, true, true, true, false, false, false] #[true, true, true, false, true, true, false, false] rfl rfl rfl rfl (two_of HT_.out (by kernel_rfl)) (by decide) (by decide) (fun K hK => ?_) (fun K hK => ?_)
        · skip
          refine goes_ Try.func134 (by kernel_rfl) rfl #[.agg #[.int .i64 d, .int .i64 e, .int .i64 f]] (by rfl) rfl rfl (by (try simp only [List.map_toArray, List.map_cons, List.map_nil]); first | done | rfl) ?_
          with_reducible refine (HB.out _).mono ?_
          rintro e_ V8 ⟨rfl, hb⟩
          refine ⟨_, rfl, ?_⟩
          have HPN := hid (HPP.out.later hb)
          clear HPP hb
          have HPP := HPN
          clear HPN
          refine hK.out _ _ HPP.out.cells (fun hHeld => ?_)
          clear hK K
          refine norm_ (a' := ?_) ?_ ?_
          rotate_left
          · show Act.put _ (some 14) _ = _
            simp only [Act.put, List.setIfInBounds_toArray, List.set_cons_zero, List.set_cons_succ, i64_w, i32_w]
            rfl
          refine one_ (i := 5) (N := some 7) #[true, true, true, true, true, true, false, false] rfl rfl (one_of HT_.out (by kernel_rfl)) (by decide) (fun K hK => ?_)
          refine allocA_ (ob := .cells #[.int .i64 0, .int .i64 0, .int .i64 0] 231) (by rfl) rfl (by go_simp) ?_
          rintro g9 V9 hg hV
          have HPN := hid (HPP.out.a7 hg hV)
          clear HPP hg hV
          have HPP := HPN
          clear HPN
          refine hK.out _ _ HPP.out.cells (fun hHeld => ?_)
          clear hK K
          refine norm_ (a' := ?_) ?_ ?_
          rotate_left
          · show Act.put _ (some 7) _ = _
            simp only [Act.put, List.setIfInBounds_toArray, List.set_cons_zero, List.set_cons_succ, i64_w, i32_w]
            rfl
          exact norm_ (by simp only [putAll, Act.put, List.setIfInBounds_toArray, List.set_cons_zero, List.set_cons_succ]) (hCont (g7, g9) _ ⟨hHeld, HPP.out⟩)
        · skip
          refine allocA_ (ob := .cells #[.int .i64 0, .int .i64 0, .int .i64 0] 231) (by rfl) rfl (by go_simp) ?_
          rintro g10 V10 hg hV
          have HPN := hid (HPP.out.a7 hg hV)
          clear HPP hg hV
          have HPP := HPN
          clear HPN
          refine hK.out _ _ HPP.out.cells (fun hHeld => ?_)
          clear hK K
          refine norm_ (a' := ?_) ?_ ?_
          rotate_left
          · show Act.put _ (some 7) _ = _
            simp only [Act.put, List.setIfInBounds_toArray, List.set_cons_zero, List.set_cons_succ, i64_w, i32_w]
            rfl
          refine one_ (i := 3) (N := some 14) #[true, true, true, true, true, true, false, false] rfl rfl (one_of HT_.out (by kernel_rfl)) (by decide) (fun K hK => ?_)
          refine goes_ Try.func134 (by kernel_rfl) rfl #[.agg #[.int .i64 d, .int .i64 e, .int .i64 f]] (by rfl) rfl rfl (by (try simp only [List.map_toArray, List.map_cons, List.map_nil]); first | done | rfl) ?_
          with_reducible refine (HB.out _).mono ?_
          rintro e_ V11 ⟨rfl, hb⟩
          refine ⟨_, rfl, ?_⟩
          have HPN := hid (HPP.out.later hb)
          clear HPP hb
          have HPP := HPN
          clear HPN
          refine hK.out _ _ HPP.out.cells (fun hHeld => ?_)
          clear hK K
          refine norm_ (a' := ?_) ?_ ?_
          rotate_left
          · show Act.put _ (some 14) _ = _
            simp only [Act.put, List.setIfInBounds_toArray, List.set_cons_zero, List.set_cons_succ, i64_w, i32_w]
            rfl
          exact norm_ (by simp only [putAll, Act.put, List.setIfInBounds_toArray, List.set_cons_zero, List.set_cons_succ]) (hCont (g7, g10) _ ⟨hHeld, HPP.out⟩)
      · skip
        refine allocA_ (ob := .cells #[.int .i64 0, .int .i64 0, .int .i64 0] 231) (by rfl) rfl (by go_simp) ?_
        rintro g12 V12 hg hV
        have HPN := hid (HPP.out.a7 hg hV)
        clear HPP hg hV
        have HPP := HPN
        clear HPN
        refine hK.out _ _ HPP.out.cells (fun hHeld => ?_)
        clear hK K
        refine norm_ (a' := ?_) ?_ ?_
        rotate_left
        · show Act.put _ (some 7) _ = _
          simp only [Act.put, List.setIfInBounds_toArray, List.set_cons_zero, List.set_cons_succ, i64_w, i32_w]
          rfl
        refine two_ (i := 3) (j := 4) (Ni := some 14) (Nj := some 6) #[true, true, true, true, false, true, false, false] #[true, true, true, false, true, true, false, false] rfl rfl rfl rfl (two_of HT_.out (by kernel_rfl)) (by decide) (by decide) (fun K hK => ?_) (fun K hK => ?_)
        · skip
          refine goes_ Try.func134 (by kernel_rfl) rfl #[.agg #[.int .i64 d, .int .i64 e, .int .i64 f]] (by rfl) rfl rfl (by (try simp only [List.map_toArray, List.map_cons, List.map_nil]); first | done | rfl) ?_
          with_reducible refine (HB.out _).mono ?_
          rintro e_ V13 ⟨rfl, hb⟩
          refine ⟨_, rfl, ?_⟩
          have HPN := hid (HPP.out.later hb)
          clear HPP hb
          have HPP := HPN
          clear HPN
          refine hK.out _ _ HPP.out.cells (fun hHeld => ?_)
          clear hK K
          refine norm_ (a' := ?_) ?_ ?_
          rotate_left
          · show Act.put _ (some 14) _ = _
            simp only [Act.put, List.setIfInBounds_toArray, List.set_cons_zero, List.set_cons_succ, i64_w, i32_w]
            rfl
          refine one_ (i := 4) (N := some 6) #[true, true, true, true, true, true, false, false] rfl rfl (one_of HT_.out (by kernel_rfl)) (by decide) (fun K hK => ?_)
          refine allocA_ (ob := .cells #[.int .i64 0, .int .i64 0, .int .i64 0] 231) (by rfl) rfl (by go_simp) ?_
          rintro g14 V14 hg hV
          have HPN := hid (HPP.out.a6 hg hV)
          clear HPP hg hV
          have HPP := HPN
          clear HPN
          refine hK.out _ _ HPP.out.cells (fun hHeld => ?_)
          clear hK K
          refine norm_ (a' := ?_) ?_ ?_
          rotate_left
          · show Act.put _ (some 6) _ = _
            simp only [Act.put, List.setIfInBounds_toArray, List.set_cons_zero, List.set_cons_succ, i64_w, i32_w]
            rfl
          exact norm_ (by simp only [putAll, Act.put, List.setIfInBounds_toArray, List.set_cons_zero, List.set_cons_succ]) (hCont (g14, g12) _ ⟨hHeld, HPP.out⟩)
        · skip
          refine allocA_ (ob := .cells #[.int .i64 0, .int .i64 0, .int .i64 0] 231) (by rfl) rfl (by go_simp) ?_
          rintro g15 V15 hg hV
          have HPN := hid (HPP.out.a6 hg hV)
          clear HPP hg hV
          have HPP := HPN
          clear HPN
          refine hK.out _ _ HPP.out.cells (fun hHeld => ?_)
          clear hK K
          refine norm_ (a' := ?_) ?_ ?_
          rotate_left
          · show Act.put _ (some 6) _ = _
            simp only [Act.put, List.setIfInBounds_toArray, List.set_cons_zero, List.set_cons_succ, i64_w, i32_w]
            rfl
          refine one_ (i := 3) (N := some 14) #[true, true, true, true, true, true, false, false] rfl rfl (one_of HT_.out (by kernel_rfl)) (by decide) (fun K hK => ?_)
          refine goes_ Try.func134 (by kernel_rfl) rfl #[.agg #[.int .i64 d, .int .i64 e, .int .i64 f]] (by rfl) rfl rfl (by (try simp only [List.map_toArray, List.map_cons, List.map_nil]); first | done | rfl) ?_
          with_reducible refine (HB.out _).mono ?_
          rintro e_ V16 ⟨rfl, hb⟩
          refine ⟨_, rfl, ?_⟩
          have HPN := hid (HPP.out.later hb)
          clear HPP hb
          have HPP := HPN
          clear HPN
          refine hK.out _ _ HPP.out.cells (fun hHeld => ?_)
          clear hK K
          refine norm_ (a' := ?_) ?_ ?_
          rotate_left
          · show Act.put _ (some 14) _ = _
            simp only [Act.put, List.setIfInBounds_toArray, List.set_cons_zero, List.set_cons_succ, i64_w, i32_w]
            rfl
          exact norm_ (by simp only [putAll, Act.put, List.setIfInBounds_toArray, List.set_cons_zero, List.set_cons_succ]) (hCont (g15, g12) _ ⟨hHeld, HPP.out⟩)
    · skip
      refine allocA_ (ob := .cells #[.int .i64 0, .int .i64 0, .int .i64 0] 231) (by rfl) rfl (by go_simp) ?_
      rintro g17 V17 hg hV
      have HPN := hid (HPP.out.a6 hg hV)
      clear HPP hg hV
      have HPP := HPN
      clear HPN
      refine hK.out _ _ HPP.out.cells (fun hHeld => ?_)
      clear hK K
      refine norm_ (a' := ?_) ?_ ?_
      rotate_left
      · show Act.put _ (some 6) _ = _
        simp only [Act.put, List.setIfInBounds_toArray, List.set_cons_zero, List.set_cons_succ, i64_w, i32_w]
        rfl
      refine two_ (i := 1) (j := 5) (Ni := some 12) (Nj := some 7) #[true, true, true, false, true, false, false, false] #[true, false, true, false, true, true, false, false] rfl rfl rfl rfl (two_of HT_.out (by kernel_rfl)) (by decide) (by decide) (fun K hK => ?_) (fun K hK => ?_)
      · skip
        refine goes_ Try.func134 (by kernel_rfl) rfl #[.agg #[.int .i64 a, .int .i64 b, .int .i64 c]] (by rfl) rfl rfl (by (try simp only [List.map_toArray, List.map_cons, List.map_nil]); first | done | rfl) ?_
        with_reducible refine (HA.out _).mono ?_
        rintro e_ V18 ⟨rfl, hb⟩
        refine ⟨_, rfl, ?_⟩
        have HPN := hid (HPP.out.later hb)
        clear HPP hb
        have HPP := HPN
        clear HPN
        refine hK.out _ _ HPP.out.cells (fun hHeld => ?_)
        clear hK K
        refine norm_ (a' := ?_) ?_ ?_
        rotate_left
        · show Act.put _ (some 12) _ = _
          simp only [Act.put, List.setIfInBounds_toArray, List.set_cons_zero, List.set_cons_succ, i64_w, i32_w]
          rfl
        refine two_ (i := 3) (j := 5) (Ni := some 14) (Nj := some 7) #[true, true, true, true, true, false, false, false] #[true, true, true, false, true, true, false, false] rfl rfl rfl rfl (two_of HT_.out (by kernel_rfl)) (by decide) (by decide) (fun K hK => ?_) (fun K hK => ?_)
        · skip
          refine goes_ Try.func134 (by kernel_rfl) rfl #[.agg #[.int .i64 d, .int .i64 e, .int .i64 f]] (by rfl) rfl rfl (by (try simp only [List.map_toArray, List.map_cons, List.map_nil]); first | done | rfl) ?_
          with_reducible refine (HB.out _).mono ?_
          rintro e_ V19 ⟨rfl, hb⟩
          refine ⟨_, rfl, ?_⟩
          have HPN := hid (HPP.out.later hb)
          clear HPP hb
          have HPP := HPN
          clear HPN
          refine hK.out _ _ HPP.out.cells (fun hHeld => ?_)
          clear hK K
          refine norm_ (a' := ?_) ?_ ?_
          rotate_left
          · show Act.put _ (some 14) _ = _
            simp only [Act.put, List.setIfInBounds_toArray, List.set_cons_zero, List.set_cons_succ, i64_w, i32_w]
            rfl
          refine one_ (i := 5) (N := some 7) #[true, true, true, true, true, true, false, false] rfl rfl (one_of HT_.out (by kernel_rfl)) (by decide) (fun K hK => ?_)
          refine allocA_ (ob := .cells #[.int .i64 0, .int .i64 0, .int .i64 0] 231) (by rfl) rfl (by go_simp) ?_
          rintro g20 V20 hg hV
          have HPN := hid (HPP.out.a7 hg hV)
          clear HPP hg hV
          have HPP := HPN
          clear HPN
          refine hK.out _ _ HPP.out.cells (fun hHeld => ?_)
          clear hK K
          refine norm_ (a' := ?_) ?_ ?_
          rotate_left
          · show Act.put _ (some 7) _ = _
            simp only [Act.put, List.setIfInBounds_toArray, List.set_cons_zero, List.set_cons_succ, i64_w, i32_w]
            rfl
          exact norm_ (by simp only [putAll, Act.put, List.setIfInBounds_toArray, List.set_cons_zero, List.set_cons_succ]) (hCont (g17, g20) _ ⟨hHeld, HPP.out⟩)
        · skip
          refine allocA_ (ob := .cells #[.int .i64 0, .int .i64 0, .int .i64 0] 231) (by rfl) rfl (by go_simp) ?_
          rintro g21 V21 hg hV
          have HPN := hid (HPP.out.a7 hg hV)
          clear HPP hg hV
          have HPP := HPN
          clear HPN
          refine hK.out _ _ HPP.out.cells (fun hHeld => ?_)
          clear hK K
          refine norm_ (a' := ?_) ?_ ?_
          rotate_left
          · show Act.put _ (some 7) _ = _
            simp only [Act.put, List.setIfInBounds_toArray, List.set_cons_zero, List.set_cons_succ, i64_w, i32_w]
            rfl
          refine one_ (i := 3) (N := some 14) #[true, true, true, true, true, true, false, false] rfl rfl (one_of HT_.out (by kernel_rfl)) (by decide) (fun K hK => ?_)
          refine goes_ Try.func134 (by kernel_rfl) rfl #[.agg #[.int .i64 d, .int .i64 e, .int .i64 f]] (by rfl) rfl rfl (by (try simp only [List.map_toArray, List.map_cons, List.map_nil]); first | done | rfl) ?_
          with_reducible refine (HB.out _).mono ?_
          rintro e_ V22 ⟨rfl, hb⟩
          refine ⟨_, rfl, ?_⟩
          have HPN := hid (HPP.out.later hb)
          clear HPP hb
          have HPP := HPN
          clear HPN
          refine hK.out _ _ HPP.out.cells (fun hHeld => ?_)
          clear hK K
          refine norm_ (a' := ?_) ?_ ?_
          rotate_left
          · show Act.put _ (some 14) _ = _
            simp only [Act.put, List.setIfInBounds_toArray, List.set_cons_zero, List.set_cons_succ, i64_w, i32_w]
            rfl
          exact norm_ (by simp only [putAll, Act.put, List.setIfInBounds_toArray, List.set_cons_zero, List.set_cons_succ]) (hCont (g17, g21) _ ⟨hHeld, HPP.out⟩)
      · skip
        refine allocA_ (ob := .cells #[.int .i64 0, .int .i64 0, .int .i64 0] 231) (by rfl) rfl (by go_simp) ?_
        rintro g23 V23 hg hV
        have HPN := hid (HPP.out.a7 hg hV)
        clear HPP hg hV
        have HPP := HPN
        clear HPN
        refine hK.out _ _ HPP.out.cells (fun hHeld => ?_)
        clear hK K
        refine norm_ (a' := ?_) ?_ ?_
        rotate_left
        · show Act.put _ (some 7) _ = _
          simp only [Act.put, List.setIfInBounds_toArray, List.set_cons_zero, List.set_cons_succ, i64_w, i32_w]
          rfl
        refine one_ (i := 1) (N := some 12) #[true, true, true, false, true, true, false, false] rfl rfl (one_of HT_.out (by kernel_rfl)) (by decide) (fun K hK => ?_)
        refine goes_ Try.func134 (by kernel_rfl) rfl #[.agg #[.int .i64 a, .int .i64 b, .int .i64 c]] (by rfl) rfl rfl (by (try simp only [List.map_toArray, List.map_cons, List.map_nil]); first | done | rfl) ?_
        with_reducible refine (HA.out _).mono ?_
        rintro e_ V24 ⟨rfl, hb⟩
        refine ⟨_, rfl, ?_⟩
        have HPN := hid (HPP.out.later hb)
        clear HPP hb
        have HPP := HPN
        clear HPN
        refine hK.out _ _ HPP.out.cells (fun hHeld => ?_)
        clear hK K
        refine norm_ (a' := ?_) ?_ ?_
        rotate_left
        · show Act.put _ (some 12) _ = _
          simp only [Act.put, List.setIfInBounds_toArray, List.set_cons_zero, List.set_cons_succ, i64_w, i32_w]
          rfl
        refine one_ (i := 3) (N := some 14) #[true, true, true, true, true, true, false, false] rfl rfl (one_of HT_.out (by kernel_rfl)) (by decide) (fun K hK => ?_)
        refine goes_ Try.func134 (by kernel_rfl) rfl #[.agg #[.int .i64 d, .int .i64 e, .int .i64 f]] (by rfl) rfl rfl (by (try simp only [List.map_toArray, List.map_cons, List.map_nil]); first | done | rfl) ?_
        with_reducible refine (HB.out _).mono ?_
        rintro e_ V25 ⟨rfl, hb⟩
        refine ⟨_, rfl, ?_⟩
        have HPN := hid (HPP.out.later hb)
        clear HPP hb
        have HPP := HPN
        clear HPN
        refine hK.out _ _ HPP.out.cells (fun hHeld => ?_)
        clear hK K
        refine norm_ (a' := ?_) ?_ ?_
        rotate_left
        · show Act.put _ (some 14) _ = _
          simp only [Act.put, List.setIfInBounds_toArray, List.set_cons_zero, List.set_cons_succ, i64_w, i32_w]
          rfl
        exact norm_ (by simp only [putAll, Act.put, List.setIfInBounds_toArray, List.set_cons_zero, List.set_cons_succ]) (hCont (g17, g23) _ ⟨hHeld, HPP.out⟩)
    · skip
      refine allocA_ (ob := .cells #[.int .i64 0, .int .i64 0, .int .i64 0] 231) (by rfl) rfl (by go_simp) ?_
      rintro g26 V26 hg hV
      have HPN := hid (HPP.out.a7 hg hV)
      clear HPP hg hV
      have HPP := HPN
      clear HPN
      refine hK.out _ _ HPP.out.cells (fun hHeld => ?_)
      clear hK K
      refine norm_ (a' := ?_) ?_ ?_
      rotate_left
      · show Act.put _ (some 7) _ = _
        simp only [Act.put, List.setIfInBounds_toArray, List.set_cons_zero, List.set_cons_succ, i64_w, i32_w]
        rfl
      refine two_ (i := 1) (j := 4) (Ni := some 12) (Nj := some 6) #[true, true, true, false, false, true, false, false] #[true, false, true, false, true, true, false, false] rfl rfl rfl rfl (two_of HT_.out (by kernel_rfl)) (by decide) (by decide) (fun K hK => ?_) (fun K hK => ?_)
      · skip
        refine goes_ Try.func134 (by kernel_rfl) rfl #[.agg #[.int .i64 a, .int .i64 b, .int .i64 c]] (by rfl) rfl rfl (by (try simp only [List.map_toArray, List.map_cons, List.map_nil]); first | done | rfl) ?_
        with_reducible refine (HA.out _).mono ?_
        rintro e_ V27 ⟨rfl, hb⟩
        refine ⟨_, rfl, ?_⟩
        have HPN := hid (HPP.out.later hb)
        clear HPP hb
        have HPP := HPN
        clear HPN
        refine hK.out _ _ HPP.out.cells (fun hHeld => ?_)
        clear hK K
        refine norm_ (a' := ?_) ?_ ?_
        rotate_left
        · show Act.put _ (some 12) _ = _
          simp only [Act.put, List.setIfInBounds_toArray, List.set_cons_zero, List.set_cons_succ, i64_w, i32_w]
          rfl
        refine two_ (i := 3) (j := 4) (Ni := some 14) (Nj := some 6) #[true, true, true, true, false, true, false, false] #[true, true, true, false, true, true, false, false] rfl rfl rfl rfl (two_of HT_.out (by kernel_rfl)) (by decide) (by decide) (fun K hK => ?_) (fun K hK => ?_)
        · skip
          refine goes_ Try.func134 (by kernel_rfl) rfl #[.agg #[.int .i64 d, .int .i64 e, .int .i64 f]] (by rfl) rfl rfl (by (try simp only [List.map_toArray, List.map_cons, List.map_nil]); first | done | rfl) ?_
          with_reducible refine (HB.out _).mono ?_
          rintro e_ V28 ⟨rfl, hb⟩
          refine ⟨_, rfl, ?_⟩
          have HPN := hid (HPP.out.later hb)
          clear HPP hb
          have HPP := HPN
          clear HPN
          refine hK.out _ _ HPP.out.cells (fun hHeld => ?_)
          clear hK K
          refine norm_ (a' := ?_) ?_ ?_
          rotate_left
          · show Act.put _ (some 14) _ = _
            simp only [Act.put, List.setIfInBounds_toArray, List.set_cons_zero, List.set_cons_succ, i64_w, i32_w]
            rfl
          refine one_ (i := 4) (N := some 6) #[true, true, true, true, true, true, false, false] rfl rfl (one_of HT_.out (by kernel_rfl)) (by decide) (fun K hK => ?_)
          refine allocA_ (ob := .cells #[.int .i64 0, .int .i64 0, .int .i64 0] 231) (by rfl) rfl (by go_simp) ?_
          rintro g29 V29 hg hV
          have HPN := hid (HPP.out.a6 hg hV)
          clear HPP hg hV
          have HPP := HPN
          clear HPN
          refine hK.out _ _ HPP.out.cells (fun hHeld => ?_)
          clear hK K
          refine norm_ (a' := ?_) ?_ ?_
          rotate_left
          · show Act.put _ (some 6) _ = _
            simp only [Act.put, List.setIfInBounds_toArray, List.set_cons_zero, List.set_cons_succ, i64_w, i32_w]
            rfl
          exact norm_ (by simp only [putAll, Act.put, List.setIfInBounds_toArray, List.set_cons_zero, List.set_cons_succ]) (hCont (g29, g26) _ ⟨hHeld, HPP.out⟩)
        · skip
          refine allocA_ (ob := .cells #[.int .i64 0, .int .i64 0, .int .i64 0] 231) (by rfl) rfl (by go_simp) ?_
          rintro g30 V30 hg hV
          have HPN := hid (HPP.out.a6 hg hV)
          clear HPP hg hV
          have HPP := HPN
          clear HPN
          refine hK.out _ _ HPP.out.cells (fun hHeld => ?_)
          clear hK K
          refine norm_ (a' := ?_) ?_ ?_
          rotate_left
          · show Act.put _ (some 6) _ = _
            simp only [Act.put, List.setIfInBounds_toArray, List.set_cons_zero, List.set_cons_succ, i64_w, i32_w]
            rfl
          refine one_ (i := 3) (N := some 14) #[true, true, true, true, true, true, false, false] rfl rfl (one_of HT_.out (by kernel_rfl)) (by decide) (fun K hK => ?_)
          refine goes_ Try.func134 (by kernel_rfl) rfl #[.agg #[.int .i64 d, .int .i64 e, .int .i64 f]] (by rfl) rfl rfl (by (try simp only [List.map_toArray, List.map_cons, List.map_nil]); first | done | rfl) ?_
          with_reducible refine (HB.out _).mono ?_
          rintro e_ V31 ⟨rfl, hb⟩
          refine ⟨_, rfl, ?_⟩
          have HPN := hid (HPP.out.later hb)
          clear HPP hb
          have HPP := HPN
          clear HPN
          refine hK.out _ _ HPP.out.cells (fun hHeld => ?_)
          clear hK K
          refine norm_ (a' := ?_) ?_ ?_
          rotate_left
          · show Act.put _ (some 14) _ = _
            simp only [Act.put, List.setIfInBounds_toArray, List.set_cons_zero, List.set_cons_succ, i64_w, i32_w]
            rfl
          exact norm_ (by simp only [putAll, Act.put, List.setIfInBounds_toArray, List.set_cons_zero, List.set_cons_succ]) (hCont (g30, g26) _ ⟨hHeld, HPP.out⟩)
      · skip
        refine allocA_ (ob := .cells #[.int .i64 0, .int .i64 0, .int .i64 0] 231) (by rfl) rfl (by go_simp) ?_
        rintro g32 V32 hg hV
        have HPN := hid (HPP.out.a6 hg hV)
        clear HPP hg hV
        have HPP := HPN
        clear HPN
        refine hK.out _ _ HPP.out.cells (fun hHeld => ?_)
        clear hK K
        refine norm_ (a' := ?_) ?_ ?_
        rotate_left
        · show Act.put _ (some 6) _ = _
          simp only [Act.put, List.setIfInBounds_toArray, List.set_cons_zero, List.set_cons_succ, i64_w, i32_w]
          rfl
        refine one_ (i := 1) (N := some 12) #[true, true, true, false, true, true, false, false] rfl rfl (one_of HT_.out (by kernel_rfl)) (by decide) (fun K hK => ?_)
        refine goes_ Try.func134 (by kernel_rfl) rfl #[.agg #[.int .i64 a, .int .i64 b, .int .i64 c]] (by rfl) rfl rfl (by (try simp only [List.map_toArray, List.map_cons, List.map_nil]); first | done | rfl) ?_
        with_reducible refine (HA.out _).mono ?_
        rintro e_ V33 ⟨rfl, hb⟩
        refine ⟨_, rfl, ?_⟩
        have HPN := hid (HPP.out.later hb)
        clear HPP hb
        have HPP := HPN
        clear HPN
        refine hK.out _ _ HPP.out.cells (fun hHeld => ?_)
        clear hK K
        refine norm_ (a' := ?_) ?_ ?_
        rotate_left
        · show Act.put _ (some 12) _ = _
          simp only [Act.put, List.setIfInBounds_toArray, List.set_cons_zero, List.set_cons_succ, i64_w, i32_w]
          rfl
        refine one_ (i := 3) (N := some 14) #[true, true, true, true, true, true, false, false] rfl rfl (one_of HT_.out (by kernel_rfl)) (by decide) (fun K hK => ?_)
        refine goes_ Try.func134 (by kernel_rfl) rfl #[.agg #[.int .i64 d, .int .i64 e, .int .i64 f]] (by rfl) rfl rfl (by (try simp only [List.map_toArray, List.map_cons, List.map_nil]); first | done | rfl) ?_
        with_reducible refine (HB.out _).mono ?_
        rintro e_ V34 ⟨rfl, hb⟩
        refine ⟨_, rfl, ?_⟩
        have HPN := hid (HPP.out.later hb)
        clear HPP hb
        have HPP := HPN
        clear HPN
        refine hK.out _ _ HPP.out.cells (fun hHeld => ?_)
        clear hK K
        refine norm_ (a' := ?_) ?_ ?_
        rotate_left
        · show Act.put _ (some 14) _ = _
          simp only [Act.put, List.setIfInBounds_toArray, List.set_cons_zero, List.set_cons_succ, i64_w, i32_w]
          rfl
        exact norm_ (by simp only [putAll, Act.put, List.setIfInBounds_toArray, List.set_cons_zero, List.set_cons_succ]) (hCont (g32, g26) _ ⟨hHeld, HPP.out⟩)
  clear HPP
  rintro ⟨g6, g7⟩ wj ⟨hHeld, hPP⟩
  have HPP := hid hPP
  clear hPP
  refine norm_ (a' := ?_) ?_ ?_
  rotate_left
  · simp only [putAll, Act.put, List.setIfInBounds_toArray, List.set_cons_zero, List.set_cons_succ]
    rfl
  obtain ⟨z0, z1, z2, z3⟩ := cells231 (x := (0, 0, 0)) (HPP.out.h6 g6 rfl)
  simp only at z0 z1 z2
  have z30 := z3 0
  have z31 := z3 1
  have z32 := z3 2
  have HGE := hid HPP.out.ge
  obtain ⟨W6, hW6⟩ : ∃ W6, W6 = ((wj.setCell ⟨g6, 0, none⟩ (.int .i64 a)).setCell ⟨g6, 1, none⟩ (.int .i64 b)).setCell ⟨g6, 2, none⟩ (.int .i64 c) := ⟨_, rfl⟩
  obtain ⟨W7, hW7⟩ : ∃ W7, W7 = ((W6.setCell ⟨g7, 0, none⟩ (.int .i64 d)).setCell ⟨g7, 1, none⟩ (.int .i64 e)).setCell ⟨g7, 2, none⟩ (.int .i64 f) := ⟨_, rfl⟩
  have HPQ := hid (HPP.out.fill HGE.out)
  have hmid : PP w (a, b, c) (d, e, f) W6 none (some g7) := by rw [hW6]; exact HPP.out.half HGE.out
  obtain ⟨u0, u1, u2, u3⟩ := cells231 (x := (0, 0, 0)) (hmid.h7 g7 rfl)
  simp only at u0 u1 u2
  have u30 := u3 0
  have u31 := u3 1
  have u32 := u3 2
  have HS6 := hid hmid.cells
  have hall : PQ w W7 g6 g7 (a, b, c) (d, e, f) := by rw [hW7, hW6]; exact HPQ.out
  have HS7 := hid (show PP w (a, b, c) (d, e, f) W7 none none by rw [hW7]; exact hmid.half7 HGE.out).cells
  clear HPQ
  have HPQ := hid hall
  have HW6 := hid hW6
  have HW7 := hid hW7
  clear z3 u3 hmid hall hW6 hW7 HPP
  refine one_ (i := 6) (N := none) #[true, true, true, true, true, true, true, false] rfl rfl (one_of HT_.out (by kernel_rfl)) (by decide) (fun K hK => ?_)
  refine skip_ (w1 := W6) (by rfl) rfl (by rw [HW6.out]; go_simp) ?_
  refine hK.out _ _ HS6.out (fun hHeld => ?_)
  clear hK K
  refine one_ (i := 7) (N := none) #[true, true, true, true, true, true, true, true] rfl rfl (one_of HT_.out (by kernel_rfl)) (by decide) (fun K hK => ?_)
  refine skip_ (w1 := W7) (by rfl) rfl (by rw [HW7.out]; go_simp) ?_
  refine hK.out _ _ HS7.out (fun hHeld => ?_)
  clear hK K
  refine done_ (done_of HT_.out (by kernel_rfl)) ?_
  clear z0 z1 z2 z30 z31 z32 u0 u1 u2 u30 u31 u32 HS6 HS7 HW6 HW7 HGE
  go_wp2_with fail
  go_loopg [8, 9, 10, 15] 3 (fun g s8 s9 s10 s12 wr => ∃ x : R3, Hid (PQ w wr g6 g7 x (d, e, f)) ∧ ((g = 3 ∧ s12 = .int .i64 0 ∧ x = (a, b, c)) ∨ (g = 2 ∧ s12 = .int .i64 1 ∧ x = (a - d, b, c)) ∨ (g = 1 ∧ s12 = .int .i64 2 ∧ x = (a - d, b - e, c)) ∨ (g = 0 ∧ s12 = .int .i64 3 ∧ x = (a - d, b - e, c - f))))
  case atStart => exact ⟨_, HPQ, .inl ⟨rfl, rfl, rfl⟩⟩
  case round =>
    clear HPQ
    obtain ⟨x, HP, ⟨rfl, rfl, rfl⟩ | ⟨rfl, rfl, rfl⟩ | ⟨rfl, rfl, rfl⟩ | ⟨rfl, rfl, rfl⟩⟩ := hrel
    · skip
      have HD := hid (HP.out.later (Below.refl _ wr).drew)
      obtain ⟨Wd, hWd⟩ : ∃ Wd, Wd = wr.drew := ⟨_, rfl⟩
      have HWD := hid hWd
      rw [← hWd] at HD
      obtain ⟨y0, y1, y2, y3⟩ := cells231 HD.out.h6
      obtain ⟨v0, v1, v2, v3⟩ := cells231 HD.out.h7
      simp only at y0 y1 y2 v0 v1 v2
      have y30 := y3 0
      clear y3 v3 hWd
      go_upto_region 5 with fail
      refine start_ (n := 12) (S := fun V : World => V.cell? ⟨g6, 0, none⟩ = some (.int .i64 a) ∧ V.cell? ⟨g7, 0, none⟩ = some (.int .i64 d)) (ds := []) #[false, false, false, false, false, false, false, false, false, false, false, false] (by kernel_rfl) rfl rfl (by rw [← HWD.out]; exact ⟨y0, v0⟩) (fun hHeld => ?_); refine with_tabW rnd95.tab rnd95.bits (fun HT_ HW_ => ?_)
      rw [← HWD.out] at hHeld ⊢
      refine pure_ (i := 0) (N := some 19) (v := ?_) (a' := ?_) #[true, false, false, false, false, false, false, false, false, false, false, false] rfl rfl (any_of HT_.out (by kernel_rfl)) (fun _ _ _ h => h) (Or.inl ⟨by rfl, ?_⟩) ?_ ?_
      rotate_left
      · intro w'
        go_simp
        with_reducible rfl
      rotate_left
      · simp only [Act.put, List.setIfInBounds_toArray, List.set_cons_zero, List.set_cons_succ, i64_w, i32_w]
        rfl
      refine pure_ (i := 1) (N := some 20) (v := ?_) (a' := ?_) #[true, true, false, false, false, false, false, false, false, false, false, false] rfl rfl (any_of HT_.out (by kernel_rfl)) (fun _ _ _ h => h) (Or.inl ⟨by rfl, ?_⟩) ?_ ?_
      rotate_left
      · intro w'
        go_simp
        with_reducible rfl
      rotate_left
      · simp only [Act.put, List.setIfInBounds_toArray, List.set_cons_zero, List.set_cons_succ, i64_w, i32_w]
        rfl
      refine pure_ (i := 3) (N := some 22) (v := ?_) (a' := ?_) #[true, true, false, true, false, false, false, false, false, false, false, false] rfl rfl (any_of HT_.out (by kernel_rfl)) (fun _ _ _ h => h) (Or.inl ⟨by rfl, ?_⟩) ?_ ?_
      rotate_left
      · intro w'
        go_simp
        with_reducible rfl
      rotate_left
      · simp only [Act.put, List.setIfInBounds_toArray, List.set_cons_zero, List.set_cons_succ, i64_w, i32_w]
        rfl
      refine pure_ (i := 4) (N := some 23) (v := ?_) (a' := ?_) #[true, true, false, true, true, false, false, false, false, false, false, false] rfl rfl (any_of HT_.out (by kernel_rfl)) (fun _ _ _ h => h) (Or.inl ⟨by rfl, ?_⟩) ?_ ?_
      rotate_left
      · intro w'
        go_simp
        with_reducible rfl
      rotate_left
      · simp only [Act.put, List.setIfInBounds_toArray, List.set_cons_zero, List.set_cons_succ, i64_w, i32_w]
        rfl
      refine take_ (i := 2) (N := some 21) (v := ?_) (a' := ?_) #[true, true, true, true, true, false, false, false, false, false, false, false] rfl rfl (take_ofW HT_.out HW_.out (by kernel_rfl)) (fun _ _ _ h => h) (Or.inl ⟨by rfl, ?_⟩) hHeld ?_ ?_
      rotate_left
      · rintro w' ⟨s0, s1⟩
        go_simp
        with_reducible rfl
      rotate_left
      · simp only [Act.put, List.setIfInBounds_toArray, List.set_cons_zero, List.set_cons_succ, i64_w, i32_w]
        rfl
      refine take_ (i := 5) (N := some 24) (v := ?_) (a' := ?_) #[true, true, true, true, true, true, false, false, false, false, false, false] rfl rfl (take_ofW HT_.out HW_.out (by kernel_rfl)) (fun _ _ _ h => h) (Or.inl ⟨by rfl, ?_⟩) hHeld ?_ ?_
      rotate_left
      · rintro w' ⟨s0, s1⟩
        go_simp
        with_reducible rfl
      rotate_left
      · simp only [Act.put, List.setIfInBounds_toArray, List.set_cons_zero, List.set_cons_succ, i64_w, i32_w]
        rfl
      refine one_ (i := 6) (N := some 25) #[true, true, true, true, true, true, true, false, false, false, false, false] rfl rfl (one_of HT_.out (by kernel_rfl)) (by decide) (fun K hK => ?_)
      refine goes_ Try.func137 (by kernel_rfl) rfl #[.int .i64 a, .int .i64 d] (by rfl) rfl rfl (by (try simp only [List.map_toArray, List.map_cons, List.map_nil]); first | done | rfl) ?_
      with_reducible refine (H0.out _).mono ?_
      rintro r_ w3 ⟨rfl, hb3⟩
      refine ⟨_, rfl, ?_⟩
      have HE := hid (HD.out.later hb3)
      clear hb3
      refine hK.out _ _ ⟨((cells231 HE.out.h6).1), ((cells231 HE.out.h7).1)⟩ (fun hHeld => ?_)
      clear hK K
      refine norm_ (a' := ?_) ?_ ?_
      rotate_left
      · show Act.put _ (some 25) _ = _
        simp only [Act.put, List.setIfInBounds_toArray, List.set_cons_zero, List.set_cons_succ, i64_w, i32_w]
        rfl
      refine pure_ (i := 7) (N := some 18) (v := ?_) (a' := ?_) #[true, true, true, true, true, true, true, true, false, false, false, false] rfl rfl (any_of HT_.out (by kernel_rfl)) (fun _ _ _ h => h) (Or.inl ⟨by rfl, ?_⟩) ?_ ?_
      rotate_left
      · intro w'
        go_simp
        with_reducible rfl
      rotate_left
      · simp only [Act.put, List.setIfInBounds_toArray, List.set_cons_zero, List.set_cons_succ, i64_w, i32_w]
        rfl
      refine pure_ (i := 8) (N := some 26) (v := ?_) (a' := ?_) #[true, true, true, true, true, true, true, true, true, false, false, false] rfl rfl (any_of HT_.out (by kernel_rfl)) (fun _ _ _ h => h) (Or.inl ⟨by rfl, ?_⟩) ?_ ?_
      rotate_left
      · intro w'
        go_simp
        with_reducible rfl
      rotate_left
      · simp only [Act.put, List.setIfInBounds_toArray, List.set_cons_zero, List.set_cons_succ, i64_w, i32_w]
        rfl
      refine pure_ (i := 9) (N := some 27) (v := ?_) (a' := ?_) #[true, true, true, true, true, true, true, true, true, true, false, false] rfl rfl (any_of HT_.out (by kernel_rfl)) (fun _ _ _ h => h) (Or.inl ⟨by rfl, ?_⟩) ?_ ?_
      rotate_left
      · intro w'
        go_simp
        with_reducible rfl
      rotate_left
      · simp only [Act.put, List.setIfInBounds_toArray, List.set_cons_zero, List.set_cons_succ, i64_w, i32_w]
        rfl
      refine pure_ (i := 10) (N := some 9) (v := ?_) (a' := ?_) #[true, true, true, true, true, true, true, true, true, true, true, false] rfl rfl (any_of HT_.out (by kernel_rfl)) (fun _ _ _ h => h) (Or.inl ⟨by rfl, ?_⟩) ?_ ?_
      rotate_left
      · intro w'
        go_simp
        with_reducible rfl
      rotate_left
      · simp only [Act.put, List.setIfInBounds_toArray, List.set_cons_zero, List.set_cons_succ, i64_w, i32_w]
        rfl
      refine pure_ (i := 11) (N := some 10) (v := ?_) (a' := ?_) #[true, true, true, true, true, true, true, true, true, true, true, true] rfl rfl (any_of HT_.out (by kernel_rfl)) (fun _ _ _ h => h) (Or.inl ⟨by rfl, ?_⟩) ?_ ?_
      rotate_left
      · intro w'
        go_simp
        with_reducible rfl
      rotate_left
      · simp only [Act.put, List.setIfInBounds_toArray, List.set_cons_zero, List.set_cons_succ, i64_w, i32_w]
        rfl
      refine done_ (done_of HT_.out (by kernel_rfl)) ?_
      clear HD y0 y1 y2 v0 v1 v2 y30
      obtain ⟨y0, y1, y2, y3⟩ := cells231 HE.out.h6
      simp only at y0 y1 y2
      have y30 := y3 0
      clear y3
      go_wp2_with fail
      have HN := hid (HE.out.put0 (a - d))
      clear HE y0 y1 y2 y30
      go_roundg 2
      case measure => omega
      case rel => exact ⟨_, HN, .inr (.inl ⟨rfl, rfl, rfl⟩)⟩
    · skip
      have HD := hid (HP.out.later (Below.refl _ wr).drew)
      obtain ⟨Wd, hWd⟩ : ∃ Wd, Wd = wr.drew := ⟨_, rfl⟩
      have HWD := hid hWd
      rw [← hWd] at HD
      obtain ⟨y0, y1, y2, y3⟩ := cells231 HD.out.h6
      obtain ⟨v0, v1, v2, v3⟩ := cells231 HD.out.h7
      simp only at y0 y1 y2 v0 v1 v2
      have y30 := y3 1
      clear y3 v3 hWd
      go_upto_region 5 with fail
      refine start_ (n := 12) (S := fun V : World => V.cell? ⟨g6, 1, none⟩ = some (.int .i64 b) ∧ V.cell? ⟨g7, 1, none⟩ = some (.int .i64 e)) (ds := []) #[false, false, false, false, false, false, false, false, false, false, false, false] (by kernel_rfl) rfl rfl (by rw [← HWD.out]; exact ⟨y1, v1⟩) (fun hHeld => ?_); refine with_tabW rnd95.tab rnd95.bits (fun HT_ HW_ => ?_)
      rw [← HWD.out] at hHeld ⊢
      refine pure_ (i := 0) (N := some 19) (v := ?_) (a' := ?_) #[true, false, false, false, false, false, false, false, false, false, false, false] rfl rfl (any_of HT_.out (by kernel_rfl)) (fun _ _ _ h => h) (Or.inl ⟨by rfl, ?_⟩) ?_ ?_
      rotate_left
      · intro w'
        go_simp
        with_reducible rfl
      rotate_left
      · simp only [Act.put, List.setIfInBounds_toArray, List.set_cons_zero, List.set_cons_succ, i64_w, i32_w]
        rfl
      refine pure_ (i := 1) (N := some 20) (v := ?_) (a' := ?_) #[true, true, false, false, false, false, false, false, false, false, false, false] rfl rfl (any_of HT_.out (by kernel_rfl)) (fun _ _ _ h => h) (Or.inl ⟨by rfl, ?_⟩) ?_ ?_
      rotate_left
      · intro w'
        go_simp
        with_reducible rfl
      rotate_left
      · simp only [Act.put, List.setIfInBounds_toArray, List.set_cons_zero, List.set_cons_succ, i64_w, i32_w]
        rfl
      refine pure_ (i := 3) (N := some 22) (v := ?_) (a' := ?_) #[true, true, false, true, false, false, false, false, false, false, false, false] rfl rfl (any_of HT_.out (by kernel_rfl)) (fun _ _ _ h => h) (Or.inl ⟨by rfl, ?_⟩) ?_ ?_
      rotate_left
      · intro w'
        go_simp
        with_reducible rfl
      rotate_left
      · simp only [Act.put, List.setIfInBounds_toArray, List.set_cons_zero, List.set_cons_succ, i64_w, i32_w]
        rfl
      refine pure_ (i := 4) (N := some 23) (v := ?_) (a' := ?_) #[true, true, false, true, true, false, false, false, false, false, false, false] rfl rfl (any_of HT_.out (by kernel_rfl)) (fun _ _ _ h => h) (Or.inl ⟨by rfl, ?_⟩) ?_ ?_
      rotate_left
      · intro w'
        go_simp
        with_reducible rfl
      rotate_left
      · simp only [Act.put, List.setIfInBounds_toArray, List.set_cons_zero, List.set_cons_succ, i64_w, i32_w]
        rfl
      refine take_ (i := 2) (N := some 21) (v := ?_) (a' := ?_) #[true, true, true, true, true, false, false, false, false, false, false, false] rfl rfl (take_ofW HT_.out HW_.out (by kernel_rfl)) (fun _ _ _ h => h) (Or.inl ⟨by rfl, ?_⟩) hHeld ?_ ?_
      rotate_left
      · rintro w' ⟨s0, s1⟩
        go_simp
        with_reducible rfl
      rotate_left
      · simp only [Act.put, List.setIfInBounds_toArray, List.set_cons_zero, List.set_cons_succ, i64_w, i32_w]
        rfl
      refine take_ (i := 5) (N := some 24) (v := ?_) (a' := ?_) #[true, true, true, true, true, true, false, false, false, false, false, false] rfl rfl (take_ofW HT_.out HW_.out (by kernel_rfl)) (fun _ _ _ h => h) (Or.inl ⟨by rfl, ?_⟩) hHeld ?_ ?_
      rotate_left
      · rintro w' ⟨s0, s1⟩
        go_simp
        with_reducible rfl
      rotate_left
      · simp only [Act.put, List.setIfInBounds_toArray, List.set_cons_zero, List.set_cons_succ, i64_w, i32_w]
        rfl
      refine one_ (i := 6) (N := some 25) #[true, true, true, true, true, true, true, false, false, false, false, false] rfl rfl (one_of HT_.out (by kernel_rfl)) (by decide) (fun K hK => ?_)
      refine goes_ Try.func137 (by kernel_rfl) rfl #[.int .i64 b, .int .i64 e] (by rfl) rfl rfl (by (try simp only [List.map_toArray, List.map_cons, List.map_nil]); first | done | rfl) ?_
      with_reducible refine (H1.out _).mono ?_
      rintro r_ w3 ⟨rfl, hb3⟩
      refine ⟨_, rfl, ?_⟩
      have HE := hid (HD.out.later hb3)
      clear hb3
      refine hK.out _ _ ⟨((cells231 HE.out.h6).2.1), ((cells231 HE.out.h7).2.1)⟩ (fun hHeld => ?_)
      clear hK K
      refine norm_ (a' := ?_) ?_ ?_
      rotate_left
      · show Act.put _ (some 25) _ = _
        simp only [Act.put, List.setIfInBounds_toArray, List.set_cons_zero, List.set_cons_succ, i64_w, i32_w]
        rfl
      refine pure_ (i := 7) (N := some 18) (v := ?_) (a' := ?_) #[true, true, true, true, true, true, true, true, false, false, false, false] rfl rfl (any_of HT_.out (by kernel_rfl)) (fun _ _ _ h => h) (Or.inl ⟨by rfl, ?_⟩) ?_ ?_
      rotate_left
      · intro w'
        go_simp
        with_reducible rfl
      rotate_left
      · simp only [Act.put, List.setIfInBounds_toArray, List.set_cons_zero, List.set_cons_succ, i64_w, i32_w]
        rfl
      refine pure_ (i := 8) (N := some 26) (v := ?_) (a' := ?_) #[true, true, true, true, true, true, true, true, true, false, false, false] rfl rfl (any_of HT_.out (by kernel_rfl)) (fun _ _ _ h => h) (Or.inl ⟨by rfl, ?_⟩) ?_ ?_
      rotate_left
      · intro w'
        go_simp
        with_reducible rfl
      rotate_left
      · simp only [Act.put, List.setIfInBounds_toArray, List.set_cons_zero, List.set_cons_succ, i64_w, i32_w]
        rfl
      refine pure_ (i := 9) (N := some 27) (v := ?_) (a' := ?_) #[true, true, true, true, true, true, true, true, true, true, false, false] rfl rfl (any_of HT_.out (by kernel_rfl)) (fun _ _ _ h => h) (Or.inl ⟨by rfl, ?_⟩) ?_ ?_
      rotate_left
      · intro w'
        go_simp
        with_reducible rfl
      rotate_left
      · simp only [Act.put, List.setIfInBounds_toArray, List.set_cons_zero, List.set_cons_succ, i64_w, i32_w]
        rfl
      refine pure_ (i := 10) (N := some 9) (v := ?_) (a' := ?_) #[true, true, true, true, true, true, true, true, true, true, true, false] rfl rfl (any_of HT_.out (by kernel_rfl)) (fun _ _ _ h => h) (Or.inl ⟨by rfl, ?_⟩) ?_ ?_
      rotate_left
      · intro w'
        go_simp
        with_reducible rfl
      rotate_left
      · simp only [Act.put, List.setIfInBounds_toArray, List.set_cons_zero, List.set_cons_succ, i64_w, i32_w]
        rfl
      refine pure_ (i := 11) (N := some 10) (v := ?_) (a' := ?_) #[true, true, true, true, true, true, true, true, true, true, true, true] rfl rfl (any_of HT_.out (by kernel_rfl)) (fun _ _ _ h => h) (Or.inl ⟨by rfl, ?_⟩) ?_ ?_
      rotate_left
      · intro w'
        go_simp
        with_reducible rfl
      rotate_left
      · simp only [Act.put, List.setIfInBounds_toArray, List.set_cons_zero, List.set_cons_succ, i64_w, i32_w]
        rfl
      refine done_ (done_of HT_.out (by kernel_rfl)) ?_
      clear HD y0 y1 y2 v0 v1 v2 y30
      obtain ⟨y0, y1, y2, y3⟩ := cells231 HE.out.h6
      simp only at y0 y1 y2
      have y30 := y3 1
      clear y3
      go_wp2_with fail
      have HN := hid (HE.out.put1 (b - e))
      clear HE y0 y1 y2 y30
      go_roundg 1
      case measure => omega
      case rel => exact ⟨_, HN, .inr (.inr (.inl ⟨rfl, rfl, rfl⟩))⟩
    · skip
      have HD := hid (HP.out.later (Below.refl _ wr).drew)
      obtain ⟨Wd, hWd⟩ : ∃ Wd, Wd = wr.drew := ⟨_, rfl⟩
      have HWD := hid hWd
      rw [← hWd] at HD
      obtain ⟨y0, y1, y2, y3⟩ := cells231 HD.out.h6
      obtain ⟨v0, v1, v2, v3⟩ := cells231 HD.out.h7
      simp only at y0 y1 y2 v0 v1 v2
      have y30 := y3 2
      clear y3 v3 hWd
      go_upto_region 5 with fail
      refine start_ (n := 12) (S := fun V : World => V.cell? ⟨g6, 2, none⟩ = some (.int .i64 c) ∧ V.cell? ⟨g7, 2, none⟩ = some (.int .i64 f)) (ds := []) #[false, false, false, false, false, false, false, false, false, false, false, false] (by kernel_rfl) rfl rfl (by rw [← HWD.out]; exact ⟨y2, v2⟩) (fun hHeld => ?_); refine with_tabW rnd95.tab rnd95.bits (fun HT_ HW_ => ?_)
      rw [← HWD.out] at hHeld ⊢
      refine pure_ (i := 0) (N := some 19) (v := ?_) (a' := ?_) #[true, false, false, false, false, false, false, false, false, false, false, false] rfl rfl (any_of HT_.out (by kernel_rfl)) (fun _ _ _ h => h) (Or.inl ⟨by rfl, ?_⟩) ?_ ?_
      rotate_left
      · intro w'
        go_simp
        with_reducible rfl
      rotate_left
      · simp only [Act.put, List.setIfInBounds_toArray, List.set_cons_zero, List.set_cons_succ, i64_w, i32_w]
        rfl
      refine pure_ (i := 1) (N := some 20) (v := ?_) (a' := ?_) #[true, true, false, false, false, false, false, false, false, false, false, false] rfl rfl (any_of HT_.out (by kernel_rfl)) (fun _ _ _ h => h) (Or.inl ⟨by rfl, ?_⟩) ?_ ?_
      rotate_left
      · intro w'
        go_simp
        with_reducible rfl
      rotate_left
      · simp only [Act.put, List.setIfInBounds_toArray, List.set_cons_zero, List.set_cons_succ, i64_w, i32_w]
        rfl
      refine pure_ (i := 3) (N := some 22) (v := ?_) (a' := ?_) #[true, true, false, true, false, false, false, false, false, false, false, false] rfl rfl (any_of HT_.out (by kernel_rfl)) (fun _ _ _ h => h) (Or.inl ⟨by rfl, ?_⟩) ?_ ?_
      rotate_left
      · intro w'
        go_simp
        with_reducible rfl
      rotate_left
      · simp only [Act.put, List.setIfInBounds_toArray, List.set_cons_zero, List.set_cons_succ, i64_w, i32_w]
        rfl
      refine pure_ (i := 4) (N := some 23) (v := ?_) (a' := ?_) #[true, true, false, true, true, false, false, false, false, false, false, false] rfl rfl (any_of HT_.out (by kernel_rfl)) (fun _ _ _ h => h) (Or.inl ⟨by rfl, ?_⟩) ?_ ?_
      rotate_left
      · intro w'
        go_simp
        with_reducible rfl
      rotate_left
      · simp only [Act.put, List.setIfInBounds_toArray, List.set_cons_zero, List.set_cons_succ, i64_w, i32_w]
        rfl
      refine take_ (i := 2) (N := some 21) (v := ?_) (a' := ?_) #[true, true, true, true, true, false, false, false, false, false, false, false] rfl rfl (take_ofW HT_.out HW_.out (by kernel_rfl)) (fun _ _ _ h => h) (Or.inl ⟨by rfl, ?_⟩) hHeld ?_ ?_
      rotate_left
      · rintro w' ⟨s0, s1⟩
        go_simp
        with_reducible rfl
      rotate_left
      · simp only [Act.put, List.setIfInBounds_toArray, List.set_cons_zero, List.set_cons_succ, i64_w, i32_w]
        rfl
      refine take_ (i := 5) (N := some 24) (v := ?_) (a' := ?_) #[true, true, true, true, true, true, false, false, false, false, false, false] rfl rfl (take_ofW HT_.out HW_.out (by kernel_rfl)) (fun _ _ _ h => h) (Or.inl ⟨by rfl, ?_⟩) hHeld ?_ ?_
      rotate_left
      · rintro w' ⟨s0, s1⟩
        go_simp
        with_reducible rfl
      rotate_left
      · simp only [Act.put, List.setIfInBounds_toArray, List.set_cons_zero, List.set_cons_succ, i64_w, i32_w]
        rfl
      refine one_ (i := 6) (N := some 25) #[true, true, true, true, true, true, true, false, false, false, false, false] rfl rfl (one_of HT_.out (by kernel_rfl)) (by decide) (fun K hK => ?_)
      refine goes_ Try.func137 (by kernel_rfl) rfl #[.int .i64 c, .int .i64 f] (by rfl) rfl rfl (by (try simp only [List.map_toArray, List.map_cons, List.map_nil]); first | done | rfl) ?_
      with_reducible refine (H2.out _).mono ?_
      rintro r_ w3 ⟨rfl, hb3⟩
      refine ⟨_, rfl, ?_⟩
      have HE := hid (HD.out.later hb3)
      clear hb3
      refine hK.out _ _ ⟨((cells231 HE.out.h6).2.2.1), ((cells231 HE.out.h7).2.2.1)⟩ (fun hHeld => ?_)
      clear hK K
      refine norm_ (a' := ?_) ?_ ?_
      rotate_left
      · show Act.put _ (some 25) _ = _
        simp only [Act.put, List.setIfInBounds_toArray, List.set_cons_zero, List.set_cons_succ, i64_w, i32_w]
        rfl
      refine pure_ (i := 7) (N := some 18) (v := ?_) (a' := ?_) #[true, true, true, true, true, true, true, true, false, false, false, false] rfl rfl (any_of HT_.out (by kernel_rfl)) (fun _ _ _ h => h) (Or.inl ⟨by rfl, ?_⟩) ?_ ?_
      rotate_left
      · intro w'
        go_simp
        with_reducible rfl
      rotate_left
      · simp only [Act.put, List.setIfInBounds_toArray, List.set_cons_zero, List.set_cons_succ, i64_w, i32_w]
        rfl
      refine pure_ (i := 8) (N := some 26) (v := ?_) (a' := ?_) #[true, true, true, true, true, true, true, true, true, false, false, false] rfl rfl (any_of HT_.out (by kernel_rfl)) (fun _ _ _ h => h) (Or.inl ⟨by rfl, ?_⟩) ?_ ?_
      rotate_left
      · intro w'
        go_simp
        with_reducible rfl
      rotate_left
      · simp only [Act.put, List.setIfInBounds_toArray, List.set_cons_zero, List.set_cons_succ, i64_w, i32_w]
        rfl
      refine pure_ (i := 9) (N := some 27) (v := ?_) (a' := ?_) #[true, true, true, true, true, true, true, true, true, true, false, false] rfl rfl (any_of HT_.out (by kernel_rfl)) (fun _ _ _ h => h) (Or.inl ⟨by rfl, ?_⟩) ?_ ?_
      rotate_left
      · intro w'
        go_simp
        with_reducible rfl
      rotate_left
      · simp only [Act.put, List.setIfInBounds_toArray, List.set_cons_zero, List.set_cons_succ, i64_w, i32_w]
        rfl
      refine pure_ (i := 10) (N := some 9) (v := ?_) (a' := ?_) #[true, true, true, true, true, true, true, true, true, true, true, false] rfl rfl (any_of HT_.out (by kernel_rfl)) (fun _ _ _ h => h) (Or.inl ⟨by rfl, ?_⟩) ?_ ?_
      rotate_left
      · intro w'
        go_simp
        with_reducible rfl
      rotate_left
      · simp only [Act.put, List.setIfInBounds_toArray, List.set_cons_zero, List.set_cons_succ, i64_w, i32_w]
        rfl
      refine pure_ (i := 11) (N := some 10) (v := ?_) (a' := ?_) #[true, true, true, true, true, true, true, true, true, true, true, true] rfl rfl (any_of HT_.out (by kernel_rfl)) (fun _ _ _ h => h) (Or.inl ⟨by rfl, ?_⟩) ?_ ?_
      rotate_left
      · intro w'
        go_simp
        with_reducible rfl
      rotate_left
      · simp only [Act.put, List.setIfInBounds_toArray, List.set_cons_zero, List.set_cons_succ, i64_w, i32_w]
        rfl
      refine done_ (done_of HT_.out (by kernel_rfl)) ?_
      clear HD y0 y1 y2 v0 v1 v2 y30
      obtain ⟨y0, y1, y2, y3⟩ := cells231 HE.out.h6
      simp only at y0 y1 y2
      have y30 := y3 2
      clear y3
      go_wp2_with fail
      have HN := hid (HE.out.put2 (c - f))
      clear HE y0 y1 y2 y30
      go_roundg 0
      case measure => omega
      case rel => exact ⟨_, HN, .inr (.inr (.inr ⟨rfl, rfl, rfl⟩))⟩
    · have HR := hid (fun W => res_any (a - d, b - e, c - f) W)
      unfold rv at HR
      obtain ⟨y0, y1, y2, y3⟩ := cells231 HP.out.h6
      simp only at y0 y1 y2
      clear y3
      go_wp2_with (go_at_call 136; go_must (with_reducible refine (HR.out _).mono ?_); rintro e_ w8 ⟨rfl, hb⟩; have HE := hid (HP.out.later hb); have hrt := HE.out.rt; obtain ⟨q0, q1, q2, q3⟩ := cells145 hrt; have q30 := q3 0; have q31 := q3 1; have q32 := q3 2; clear q3 hb hrt)
      have hlow := HE.out.low
      have hl2 : w.heap.size + 1 + 1 < w8.heap.size := (Array.getElem?_eq_some_iff.1 HE.out.rt).1
      refine bodyPost_ret (v := .tuple #[.agg #[.int .i64 (a - d), .int .i64 (b - e), .int .i64 (c - f)], .bool true]) (by simp [results, Try.results95, go_sem, q30, q31, q32, q0, q1, q2]) rfl ⟨rfl, ?_⟩
      exact ((hlow.setCell (by simp; omega) _).setCell (by simp; omega) _).setCell (by simp; omega) _
theorem r3_ext {a b : R3} (h1 : a.1 = b.1) (h2 : a.2.1 = b.2.1) (h3 : a.2.2 = b.2.2) : a = b := by
  obtain ⟨x, y, z⟩ := a
  obtain ⟨u, v, t⟩ := b
  simp only at h1 h2 h3
  rw [h1, h2, h3]
theorem r3_bool (a b : R3) : ((a.1 == b.1) && ((a.2.1 == b.2.1) && (a.2.2 == b.2.2))) = decide (a = b) := by
  rw [Bool.eq_iff_iff]
  simp only [Bool.and_eq_true, beq_iff_eq, decide_eq_true_eq]
  exact ⟨fun ⟨h1, h2, h3⟩ => r3_ext h1 h2 h3, fun h => by rw [h]; exact ⟨rfl, rfl, rfl⟩⟩
theorem eqInt (d : Nat) (w : World) (x y : Int) : (Op.equalIn (d + 1) 3 (.int .i64 x) (.int .i64 y)).run Try.prog w = .ok (x == y) w := by
  simp [Op.equalIn, run_underlying Try.underlying3]
theorem eq231 (w : World) (a b : R3) : (Op.equalIn 10000 231 (.agg #[.int .i64 a.1, .int .i64 a.2.1, .int .i64 a.2.2]) (.agg #[.int .i64 b.1, .int .i64 b.2.1, .int .i64 b.2.2])).run Try.prog w = .ok (decide (a = b)) w := by
  obtain ⟨a1, a2, a3⟩ := a
  obtain ⟨b1, b2, b3⟩ := b
  obtain ⟨i, hi0, -⟩ := info_parts (show (Try.prog.info? 3).map (fun i => (i.zero, i.size, i.bytes)) = some (some (.int .i64 0), 1, 8) by kernel_rfl)
  have h1 := run_equalIn_array (P := Try.prog) (w := w) 9999 #[.int .i64 a1, .int .i64 a2, .int .i64 a3] #[.int .i64 b1, .int .i64 b2, .int .i64 b3] Try.underlying231 hi0
  have he : ∀ (w : World) (x y : Int), (Op.equalIn 9999 3 (.int .i64 x) (.int .i64 y)).run Try.prog w = .ok (x == y) w := fun w x y => eqInt 9998 w x y
  have hp : ∀ (w : World) (x y z : Int), (part 3 #[.int .i64 x, .int .i64 y, .int .i64 z] 0).run Try.prog w = .ok (.int .i64 x) w ∧ (part 3 #[.int .i64 x, .int .i64 y, .int .i64 z] 1).run Try.prog w = .ok (.int .i64 y) w ∧ (part 3 #[.int .i64 x, .int .i64 y, .int .i64 z] 2).run Try.prog w = .ok (.int .i64 z) w := fun w x y z => ⟨by kernel_rfl, by kernel_rfl, by kernel_rfl⟩
  refine h1.trans ?_
  rw [show Try.prog.cellsOf 3 = 1 by kernel_rfl, ← r3_bool]
  simp only [show List.range 3 = [0, 1, 2] from rfl, Op.eqItems, Sem.run_bind, Nat.zero_mul, Nat.one_mul, (hp w a1 a2 a3).1, (hp w b1 b2 b3).1, (hp w a1 a2 a3).2.1, (hp w b1 b2 b3).2.1, (hp w a1 a2 a3).2.2, (hp w b1 b2 b3).2.2, Result.andThen_ok, he]
  cases e1 : (a1 == b1) <;> cases e2 : (a2 == b2) <;> cases e3 : (a3 == b3) <;> simp [Op.eqItems, Sem.run_bind, (hp w a1 a2 a3).2.1, (hp w b1 b2 b3).2.1, (hp w a1 a2 a3).2.2, (hp w b1 b2 b3).2.2, he, e1, e2, e3]
theorem eq145 (w : World) (a b : R3) : (Op.equalIn 10000 145 (.agg #[.int .i64 a.1, .int .i64 a.2.1, .int .i64 a.2.2]) (.agg #[.int .i64 b.1, .int .i64 b.2.1, .int .i64 b.2.2])).run Try.prog w = .ok (decide (a = b)) w := by
  rw [← r3_bool]
  exact eqA_of Try.underlying145 (by kernel_rfl) (eqf_cons rfl (by kernel_rfl) (by kernel_rfl) (eqInt 9998 w _ _) (eqf_cons rfl (by kernel_rfl) (by kernel_rfl) (eqInt 9998 w _ _) (eqf_last rfl (by kernel_rfl) (by kernel_rfl) (eqInt 9998 w _ _))))
def fits (a b : R3) : Prop := max3 a b = b
instance (a b : R3) : Decidable (fits a b) := inferInstanceAs (Decidable (max3 a b = b))
def fits1.T : Bool × List (List Nat × List Nat) := (true, [([], []), ([], []), ([0, 1], [0, 1]), ([2, 2], [2]), ([], []), ([4, 3], [4]), ([3, 5], [3, 5]), ([6, 5, 0, 1, 2, 3, 4, 5, 6], [6])])
def fits1.B : List Nat := [0, 0, 3, 7, 0, 31, 63, 127]
theorem fits1.tab : rtab .any (opsOf Try.f93 1) = fits1.T := by kernel_rfl
theorem fits1.bits : waitsOk fits1.T.2 fits1.B = true := by kernel_rfl
set_option maxRecDepth 100000 in
set_option maxHeartbeats 4000000 in
theorem fits_any (r s : R3) (w : World) : Calls Try.prog 93 #[rv r, rv s] w fun e w' => e = .returned (.bool (decide (fits r s))) ∧ Below w.heap.size w w' := by
  have HO := hid (fun r w => of_any r w)
  have HM := hid (fun w => max_any r s w)
  have HPP0 := hid (PB.start w r s)
  obtain ⟨bf, hbf⟩ : ∃ bf, bf = decide (fits r s) := ⟨_, rfl⟩
  have E0 : ∀ w, (Op.equalIn 10000 231 (.agg #[.int .i64 (max3 r s).1, .int .i64 (max3 r s).2.1, .int .i64 (max3 r s).2.2]) (.agg #[.int .i64 s.1, .int .i64 s.2.1, .int .i64 s.2.2])).run Try.prog w = .ok bf w := fun w => by rw [hbf]; exact eq231 w (max3 r s) s
  rw [← hbf]
  clear hbf
  unfold rv at HO HM ⊢
  obtain ⟨a, b, c⟩ := r
  obtain ⟨d, e, f⟩ := s
  obtain ⟨⟨m, n, o⟩, hm⟩ : ∃ x, x = max3 (a, b, c) (d, e, f) := ⟨_, rfl⟩
  rw [← hm] at HM E0
  simp only at E0
  have HA := hid (HO.out (m, n, o))
  have HB := hid (HO.out (d, e, f))
  clear HO hm
  go_enter Try.func93, Try.ntmps93
  go_upto_region 1 with fail
  have HPP := HPP0
  clear HPP0
  refine start_ (n := 8) (S := fun V : World => V.cell? ⟨w.heap.size, 0, none⟩ = some (.int .i64 a) ∧ V.cell? ⟨w.heap.size, 1, none⟩ = some (.int .i64 b) ∧ V.cell? ⟨w.heap.size, 2, none⟩ = some (.int .i64 c) ∧ V.cell? ⟨w.heap.size + 1, 0, none⟩ = some (.int .i64 d) ∧ V.cell? ⟨w.heap.size + 1, 1, none⟩ = some (.int .i64 e) ∧ V.cell? ⟨w.heap.size + 1, 2, none⟩ = some (.int .i64 f)) (ds := []) #[false, false, false, false, false, false, false, false] (by kernel_rfl) rfl rfl HPP.out.cells (fun hHeld => ?_); refine with_tabW fits1.tab fits1.bits (fun HT_ HW_ => ?_)
  refine take_ (i := 0) (N := some 5) (v := ?_) (a' := ?_) #[true, false, false, false, false, false, false, false] rfl rfl (take_ofW HT_.out HW_.out (by kernel_rfl)) (fun _ _ _ h => h) (Or.inl ⟨by rfl, ?_⟩) hHeld ?_ ?_
  rotate_left
  · rintro w' ⟨s0, s1, s2, s3, s4, s5⟩
    go_simp
    with_reducible rfl
  rotate_left
  · simp only [Act.put, List.setIfInBounds_toArray, List.set_cons_zero, List.set_cons_succ, i64_w, i32_w]
    rfl
  refine take_ (i := 1) (N := some 6) (v := ?_) (a' := ?_) #[true, true, false, false, false, false, false, false] rfl rfl (take_ofW HT_.out HW_.out (by kernel_rfl)) (fun _ _ _ h => h) (Or.inl ⟨by rfl, ?_⟩) hHeld ?_ ?_
  rotate_left
  · rintro w' ⟨s0, s1, s2, s3, s4, s5⟩
    go_simp
    with_reducible rfl
  rotate_left
  · simp only [Act.put, List.setIfInBounds_toArray, List.set_cons_zero, List.set_cons_succ, i64_w, i32_w]
    rfl
  refine take_ (i := 4) (N := some 9) (v := ?_) (a' := ?_) #[true, true, false, false, true, false, false, false] rfl rfl (take_ofW HT_.out HW_.out (by kernel_rfl)) (fun _ _ _ h => h) (Or.inl ⟨by rfl, ?_⟩) hHeld ?_ ?_
  rotate_left
  · rintro w' ⟨s0, s1, s2, s3, s4, s5⟩
    go_simp
    with_reducible rfl
  rotate_left
  · simp only [Act.put, List.setIfInBounds_toArray, List.set_cons_zero, List.set_cons_succ, i64_w, i32_w]
    rfl
  refine one_ (i := 2) (N := some 7) #[true, true, true, false, true, false, false, false] rfl rfl (one_of HT_.out (by kernel_rfl)) (by decide) (fun K hK => ?_)
  refine goes_ Try.func128 (by kernel_rfl) rfl #[.agg #[.int .i64 a, .int .i64 b, .int .i64 c], .agg #[.int .i64 d, .int .i64 e, .int .i64 f]] (by rfl) rfl rfl (by (try simp only [List.map_toArray, List.map_cons, List.map_nil]); first | done | rfl) ?_
  with_reducible refine (HM.out _).mono ?_
  rintro e_ V2 ⟨rfl, hb⟩
  refine ⟨_, rfl, ?_⟩
  have HPN := hid (HPP.out.later hb)
  clear HPP hb
  have HPP := HPN
  clear HPN
  refine hK.out _ _ HPP.out.cells (fun hHeld => ?_)
  clear hK K
  refine norm_ (a' := ?_) ?_ ?_
  rotate_left
  · show Act.put _ (some 7) _ = _
    simp only [Act.put, List.setIfInBounds_toArray, List.set_cons_zero, List.set_cons_succ, i64_w, i32_w]
    rfl
  refine one_ (i := 3) (N := some 8) #[true, true, true, true, true, false, false, false] rfl rfl (one_of HT_.out (by kernel_rfl)) (by decide) (fun K hK => ?_)
  refine goes_ Try.func134 (by kernel_rfl) rfl #[.agg #[.int .i64 m, .int .i64 n, .int .i64 o]] (by rfl) rfl rfl (by (try simp only [List.map_toArray, List.map_cons, List.map_nil]); first | done | rfl) ?_
  with_reducible refine (HA.out _).mono ?_
  rintro e_ V3 ⟨rfl, hb⟩
  refine ⟨_, rfl, ?_⟩
  have HPN := hid (HPP.out.later hb)
  clear HPP hb
  have HPP := HPN
  clear HPN
  refine hK.out _ _ HPP.out.cells (fun hHeld => ?_)
  clear hK K
  refine norm_ (a' := ?_) ?_ ?_
  rotate_left
  · show Act.put _ (some 8) _ = _
    simp only [Act.put, List.setIfInBounds_toArray, List.set_cons_zero, List.set_cons_succ, i64_w, i32_w]
    rfl
  refine one_ (i := 5) (N := some 10) #[true, true, true, true, true, true, false, false] rfl rfl (one_of HT_.out (by kernel_rfl)) (by decide) (fun K hK => ?_)
  refine goes_ Try.func134 (by kernel_rfl) rfl #[.agg #[.int .i64 d, .int .i64 e, .int .i64 f]] (by rfl) rfl rfl (by (try simp only [List.map_toArray, List.map_cons, List.map_nil]); first | done | rfl) ?_
  with_reducible refine (HB.out _).mono ?_
  rintro e_ V5 ⟨rfl, hb⟩
  refine ⟨_, rfl, ?_⟩
  have HPN := hid (HPP.out.later hb)
  clear HPP hb
  have HPP := HPN
  clear HPN
  refine hK.out _ _ HPP.out.cells (fun hHeld => ?_)
  clear hK K
  refine norm_ (a' := ?_) ?_ ?_
  rotate_left
  · show Act.put _ (some 10) _ = _
    simp only [Act.put, List.setIfInBounds_toArray, List.set_cons_zero, List.set_cons_succ, i64_w, i32_w]
    rfl
  refine pure_ (i := 6) (N := some 11) (v := ?_) (a' := ?_) #[true, true, true, true, true, true, true, false] rfl rfl (any_of HT_.out (by kernel_rfl)) (fun _ _ _ h => h) (Or.inl ⟨by rfl, ?_⟩) ?_ ?_
  rotate_left
  · intro w'
    go_simp
    with_reducible rfl
  rotate_left
  · simp only [Act.put, List.setIfInBounds_toArray, List.set_cons_zero, List.set_cons_succ, i64_w, i32_w]
    rfl
  refine pure_ (i := 7) (N := some 4) (v := ?_) (a' := ?_) #[true, true, true, true, true, true, true, true] rfl rfl (any_of HT_.out (by kernel_rfl)) (fun _ _ _ h => h) (Or.inl ⟨by rfl, ?_⟩) ?_ ?_
  rotate_left
  · intro w'
    go_simp
    with_reducible rfl
  rotate_left
  · simp only [Act.put, List.setIfInBounds_toArray, List.set_cons_zero, List.set_cons_succ, i64_w, i32_w]
    rfl
  refine done_ (done_of HT_.out (by kernel_rfl)) ?_
  go_wp2
  go_ret
  exact ⟨rfl, HPP.out.low⟩
end Go.Proofs.Ytnceglkoolfncaa.Us
