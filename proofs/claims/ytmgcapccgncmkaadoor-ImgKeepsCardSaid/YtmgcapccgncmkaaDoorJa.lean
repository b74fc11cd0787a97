/- Images: what the table marks gives; a world that meets the condition; the arguments. -/
import Derived.Test.YtmgcapccgncmkaaDoorRows
import Derived.Test.YtmgcapccgncmkaaDoorIz
import Derived.Test.YtmgcapccgncmkaaDoorOp
import Derived.ProofKit
import Derived.LaidMore
import Derived.OpenShut
import Derived.Stop.Joined
import Derived.Lib.LaidU8
import Derived.HandedShaped
import Derived.Shelf.Vars
import Derived.Lay
import GoSem.PinnedTables
set_option linter.unusedSimpArgs false
set_option linter.unusedVariables false
namespace Go.Pv
open Go
/-- A row with listed variables whose contract looks at the shape of the world. -/
theorem handed_and_shaped {H : Type} {enc : TypeId × Value → H} {a : Assume} {C : Checked} {os : Os} {f : FuncId} {fn : Func} {s : ChangeSpec} {conds : List PathCond} {apart fresh handsOn again : Bool} {X : World → Array Value → Prop}
    (hX : ∀ (w w' : World) (args : Array Value), w.heap = w'.heap → X w args → X w' args)
    (own : ownKnob C.prog.godebug = none) (started : os.Started) (noInit : C.prog.inits.idxOf? f = none) (hfn : C.prog.funcs[f]? = some fn)
    (start : ∃ (w : World) (tape : Tape) (i : Input), w.os = os ∧ (w.forCall tape i).Shaped C.prog ∧ i.vars = [] ∧ Input.okWide C.prog (w.forCall tape i) .any w.heap.size f i ∧
      ((s.pre enc C.prog fn conds apart (w.forCall tape i).memory i.args ∧ X (w.forCall tape i).memory i.args) ∧ sizedMet enc C.prog fn (OpenSpec.ofChange s) apart (w.forCall tape i).memory i.args) ∧ a.holds C.prog (lone (Frame.enter C.prog f i.args .normal) [] (w.forCall tape i)))
    (law : ∀ (W : World) (base : Nat) (args : Array Value) (ds gs : List (DataW H)) (before : List MemPlace),
      (∀ (j : Nat) t v, fn.params[j]? = some t → args[j]? = some v → Value.okWide C.prog W .any base t v) →
      DataW.Whole enc C.prog fn.params.toList s.vars apart W args.toList ds gs before → X W args → W.ShapedOpen C.prog →
      Calls C.prog f args W fun e W' => ∃ v, e = .returned v ∧ s.post enc C.prog fn apart fresh handsOn again W args v W') :
    ReturnsInHanded a C os f .any (fun w args => (s.pre enc C.prog fn conds apart w args ∧ X w args) ∧ sizedMet enc C.prog fn (OpenSpec.ofChange s) apart w args) (s.post enc C.prog fn apart fresh handsOn again) := by
  refine returnsInHanded_of_calls own started noInit start (fun w tape i _ hshape _ hok hpre _ => ?_)
  obtain ⟨_, _, _, fn2, hfn2, _, _, _, _, hval⟩ := hok
  cases Option.some.inj (hfn2.symm.trans hfn)
  obtain ⟨⟨⟨ds, gs, before, hwhole, _⟩, hx⟩, _⟩ := hpre
  refine (law (w.forCall tape i) w.heap.size i.args ds gs before hval (DataW.Whole.of_heap (w' := w.forCall tape i) (by rfl) hwhole) (hX _ _ _ (by rfl) hx) hshape).mono ?_
  rintro e W2 ⟨v, rfl, hp⟩
  exact ChangeSpec.post_blind hp
end Go.Pv
namespace Go.Proofs.YtmgcapccgncmkaaDoor.Im
open Go.ChangeShapes Go.WideShapes Go.ChangeAt Go.RowKit Go.Pv Go.Proofs.YtmgcapccgncmkaaDoor.Tx Go.Proofs.YtmgcapccgncmkaaDoorW.PrintWords
theorem gMarks : Tryd.prog.globalNamed "provost/text.marks" = some 2 := by kernel_rfl
theorem tMarks : (Tryd.prog.globals[2]?).map (·.type) = some 191 := by kernel_rfl
theorem cells3 : Tryd.prog.cellsOf 3 = 1 := by kernel_rfl
theorem marks_list : (Rows.laid_provost_text_marks : DataW Unit) = .agg ((List.range 64).map fun i => .lit (.int .i64 (mtab i))) := by rfl
theorem cell_of_take {cs : List Value} {o : Nat} {v : Value} (h : (cs.drop o).take 1 = [v]) : cs[o]? = some v := by
  have := congrArg (·[0]?) h
  simpa [List.getElem?_take, List.getElem?_drop] using this
theorem marks_of {W : World} (h : Go.Lib.VarReads Tryd.prog W "provost/text.marks" Rows.laid_provost_text_marks) : ∀ i, i < 64 → W.cell? ⟨2, i, none⟩ = some (.int .i64 (mtab i)) := by
  obtain ⟨g, t, cs, f, p, hg, ht, hv, hd⟩ := h
  obtain rfl := Option.some.inj (gMarks.symm.trans hg)
  obtain rfl := Option.some.inj (tMarks.symm.trans ht)
  obtain ⟨xs, m, rfl, hx, hlen, hn, hel⟩ := DataW.trod_array Tryd.underlying191 hd
  rw [marks_list] at hx
  simp only [Prod.mk.injEq, DataW.agg.injEq] at hx
  intro i hi
  have h1 := hel i hi
  rw [cells3, Nat.mul_one] at h1
  obtain ⟨y, hy⟩ : ∃ y, xs[i]? = some y := ⟨xs[i]'(by omega), List.getElem?_eq_getElem (by omega)⟩
  rw [hy] at h1
  obtain ⟨k, e1, e2, _⟩ := DataW.trod_int Tryd.underlying3 h1
  have h2 : (xs.map (·.1))[i]? = some y.1 := by rw [List.getElem?_map, hy]; rfl
  rw [← hx.1, List.getElem?_map, List.getElem?_range hi] at h2
  rw [e2] at h2
  simp only [Option.map_some, Option.some.injEq, DataW.lit.injEq, Lit.int.injEq, true_and] at h2
  rw [World.var?_cell gMarks hv i, ← Array.getElem?_toList, cell_of_take e1, h2]
noncomputable abbrev laid1 : List (String × DataW Unit) := [("provost/text.marks", Rows.laid_provost_text_marks)]
theorem marks_of1 {W : World} (h : laidMetH Tryd.prog laid1 W) : ∀ i, i < 64 → W.cell? ⟨2, i, none⟩ = some (.int .i64 (mtab i)) := by
  rw [MakeChecks.laidMetH_plain _ _ _ (by kernel_rfl)] at h
  exact marks_of (Go.Lib.laidMet.reads h (by simp [laid1]))
theorem all_met1 (os : Os) (args : Array Value) : laidMetH Tryd.prog laid1 ((World.laidAll Tryd.prog os laid1).forCall (fun _ _ => 0) ⟨#[], args, []⟩).memory := by
  rw [MakeChecks.laidMetH_plain _ _ _ (by kernel_rfl)]
  exact laidMet_laidAll args (by kernel_rfl) (by kernel_rfl)
theorem len_cell {W : World} (h : W.ShapedOpen Tryd.prog) : ∃ m, W.cell? ⟨1, 0, none⟩ = some (.int .i64 m) :=
  Go.Proofs.cell_of_shapedOpen_int (t := 3) (zero := #[.int .i64 0]) h (of_decide_eq_true (by kernel_rfl)) (by kernel_rfl) rfl (by kernel_rfl) (by kernel_rfl) Tryd.underlying3
theorem gm_of {W : World} (h : ∀ i, i < 64 → W.cell? ⟨2, i, none⟩ = some (.int .i64 (mtab i))) (hl : ∃ m, W.cell? ⟨1, 0, none⟩ = some (.int .i64 m)) : Gm W := ⟨h, hl⟩
theorem opnAct : Opn Tryd.prog 62 kA (fun _ => True) :=
  (opn_struct Tryd.underlying62 (by kernel_rfl) (.cons rfl (by kernel_rfl) (opn_int Tryd.underlying3) (.last rfl (by kernel_rfl) (opn_string Tryd.underlying9)))).mono (fun _ _ => trivial)
theorem opnActs : Opn Tryd.prog 55 (Kd.slice 62 kA) (fun _ => True) := (opn_slice Tryd.underlying55 (by kernel_rfl) opnAct).mono (fun _ _ => trivial)
theorem imgLaw' {v : Value} {l : List (Int × ByteArray)} {name : ByteArray} {W : World} (hz : Rz kA W v l) (hG : Gm W) : Calls Tryd.prog 6 #[v, .string name] W fun e w' => e = .returned (.bool true) ∧ Below W.heap.size W w' := by
  obtain ⟨A, c, rfl, hc, hC⟩ := hz
  exact imgLaw hC hG
end Go.Proofs.YtmgcapccgncmkaaDoor.Im
