/- What the condition on the package's tables (verbs, marks) gives: their cells; and the door's own heap meets it. -/
import Derived.Test.YtmgcapccgncmkaaDoorRows
import Derived.Test.YtmgcapccgncmkaaDoorLe
import Derived.ProofKit
import Derived.LaidMore
import Derived.OpenShut
import Derived.Stop.Joined
import Derived.Lib.LaidU8
set_option linter.unusedSimpArgs false
set_option linter.unusedVariables false
namespace Go.Proofs.YtmgcapccgncmkaaDoor.Ld
open Go.ChangeShapes Go.WideShapes Go.ChangeAt Go.RowKit

theorem gVerbs : Tryd.prog.globalNamed "provost/script.verbs" = some 0 := by kernel_rfl
theorem gMarks : Tryd.prog.globalNamed "provost/text.marks" = some 2 := by kernel_rfl
theorem tVerbs : (Tryd.prog.globals[0]?).map (·.type) = some 114 := by kernel_rfl
theorem tMarks : (Tryd.prog.globals[2]?).map (·.type) = some 191 := by kernel_rfl
theorem cells113 : Tryd.prog.cellsOf 113 = 3 := by kernel_rfl
theorem cells3 : Tryd.prog.cellsOf 3 = 1 := by kernel_rfl
theorem cells9 : Tryd.prog.cellsOf 9 = 1 := by kernel_rfl
theorem verbs_list : (Rows.laid_provost_script_verbs : DataW Unit) = .agg (vtab.map fun e => .agg [.lit (.string e.1.data.toList), .lit (.int .i64 e.2.1), .lit (.int .i64 e.2.2)]) := by rfl
theorem marks_list : (Rows.laid_provost_text_marks : DataW Unit) = .agg ((List.range 64).map fun i => .lit (.int .i64 (mtab i))) := by rfl
theorem cell_of_take {cs : List Value} {o : Nat} {v : Value} (h : (cs.drop o).take 1 = [v]) : cs[o]? = some v := by
  have := congrArg (·[0]?) h
  simpa [List.getElem?_take, List.getElem?_drop] using this
theorem marks_of {W : World} (h : Go.Lib.VarReads Tryd.prog W "provost/text.marks" Rows.laid_provost_text_marks) : ∀ i, i < 64 → W.cell? ⟨2, i, none⟩ = some (.int .i64 (mtab i)) := by
  obtain ⟨g, t, cs, f, p, hg, ht, hv, hd⟩ := h
  obtain rfl := Option.some.inj (gMarks.symm.trans hg)
  obtain rfl := Option.some.inj (tMarks.symm.trans ht)
  obtain ⟨xs, m, rfl, hx, hlen, hn, hel⟩ := DataW.trod_array Tryd.underlying191 hd
  rw [marks_list] at hx
  simp only [Prod.mk.injEq, DataW.agg.injEq] at hx
  intro i hi
  have h1 := hel i hi
  rw [cells3, Nat.mul_one] at h1
  obtain ⟨y, hy⟩ : ∃ y, xs[i]? = some y := ⟨xs[i]'(by omega), List.getElem?_eq_getElem (by omega)⟩
  rw [hy] at h1
  obtain ⟨k, e1, e2, _⟩ := DataW.trod_int Tryd.underlying3 h1
  have h2 : (xs.map (·.1))[i]? = some y.1 := by rw [List.getElem?_map, hy]; rfl
  rw [← hx.1, List.getElem?_map, List.getElem?_range hi] at h2
  rw [e2] at h2
  simp only [Option.map_some, Option.some.injEq, DataW.lit.injEq, Lit.int.injEq, true_and] at h2
  rw [World.var?_cell gMarks hv i, ← Array.getElem?_toList, cell_of_take e1, h2]
theorem verbs_of {W : World} (h : Go.Lib.VarReads Tryd.prog W "provost/script.verbs" Rows.laid_provost_script_verbs) : ∀ i e, vtab[i]? = some e → W.cell? ⟨0, i * 3, none⟩ = some (.string e.1) ∧ W.cell? ⟨0, i * 3 + 1, none⟩ = some (.int .i64 e.2.1) ∧ W.cell? ⟨0, i * 3 + 2, none⟩ = some (.int .i64 e.2.2) := by
  obtain ⟨g, t, cs, f, p, hg, ht, hv, hd⟩ := h
  obtain rfl := Option.some.inj (gVerbs.symm.trans hg)
  obtain rfl := Option.some.inj (tVerbs.symm.trans ht)
  obtain ⟨xs, m, rfl, hx, hlen, hn, hel⟩ := DataW.trod_array Tryd.underlying114 hd
  rw [verbs_list] at hx
  simp only [Prod.mk.injEq, DataW.agg.injEq] at hx
  intro i e he
  have hi : i < 24 := (List.getElem?_eq_some_iff.1 he).1
  have h1 := hel i hi
  rw [cells113] at h1
  obtain ⟨y, hy⟩ : ∃ y, xs[i]? = some y := ⟨xs[i]'(by omega), List.getElem?_eq_getElem (by omega)⟩
  rw [hy] at h1
  obtain ⟨y0, y1, y2, n, hyy, hl, t0, t1, t2⟩ := Deep.trod_struct3 Tryd.underlying113 h1
  rw [cells9] at t0
  rw [cells3] at t1 t2
  obtain ⟨s, e0, f0, _⟩ := DataW.trod_string Tryd.underlying9 t0
  obtain ⟨k1, e1, f1, _⟩ := DataW.trod_int Tryd.underlying3 t1
  obtain ⟨k2, e2, f2, _⟩ := DataW.trod_int Tryd.underlying3 t2
  have h2 : (xs.map (·.1))[i]? = some y.1 := by rw [List.getElem?_map, hy]; rfl
  rw [← hx.1, List.getElem?_map, he] at h2
  rw [hyy, f0, f1, f2] at h2
  simp only [Option.map_some, Option.some.injEq, DataW.agg.injEq, List.cons.injEq, DataW.lit.injEq, Lit.int.injEq, Lit.string.injEq, true_and, and_true] at h2
  obtain ⟨q0, q1, q2⟩ := h2
  have hs : s = e.1 := by
    apply ByteArray.ext
    exact (Array.toList_inj.1 q0).symm
  have c0 := cell_of_take e0
  have c1 := cell_of_take e1
  have c2 := cell_of_take e2
  rw [List.getElem?_take, List.getElem?_drop] at c0 c1 c2
  refine ⟨?_, ?_, ?_⟩
  · rw [World.var?_cell gVerbs hv (i * 3), ← Array.getElem?_toList, ← hs]; simpa using c0
  · rw [World.var?_cell gVerbs hv (i * 3 + 1), ← Array.getElem?_toList, q1]; simpa using c1
  · rw [World.var?_cell gVerbs hv (i * 3 + 2), ← Array.getElem?_toList, q2]; simpa using c2
theorem gl_of {W : World} (h : laidMetH Tryd.prog [("provost/text.marks", Rows.laid_provost_text_marks), ("provost/script.verbs", Rows.laid_provost_script_verbs)] W) : Gl W := by
  rw [MakeChecks.laidMetH_plain _ _ _ (by kernel_rfl)] at h
  exact ⟨verbs_of (Go.Lib.laidMet.reads h (by simp)), marks_of (Go.Lib.laidMet.reads h (by simp))⟩
/-- The door's own heap meets the condition. -/
theorem door_met (os : Os) (args : Array Value) : laidMetH Tryd.prog [("provost/text.marks", Rows.laid_provost_text_marks), ("provost/script.verbs", Rows.laid_provost_script_verbs)] ((World.doorLaid Tryd.prog 400 os).forCall (fun _ _ => 0) ⟨#[], args, []⟩).memory :=
  laidMetH_of_parts3 (fuel := 8) (laidMet_of_run' 8 (by kernel_rfl) (by kernel_rfl)) (by kernel_rfl) (by kernel_rfl)
end Go.Proofs.YtmgcapccgncmkaaDoor.Ld
