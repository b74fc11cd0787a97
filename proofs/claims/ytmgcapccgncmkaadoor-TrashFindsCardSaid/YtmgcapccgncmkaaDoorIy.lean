/- Images: what the statements about trash need. -/
import Derived.Test.YtmgcapccgncmkaaDoorIq
import Derived.Test.YtmgcapccgncmkaaDoorRows
import Derived.Test.YtmgcapccgncmkaaDoorOp
import Derived.ProofKit
import Derived.LaidMore
import Derived.OpenShut
import Derived.Stop.Joined
import Derived.Lib.LaidU8
import Derived.HandedShaped
import Derived.Shelf.Vars
import Derived.Lay
import GoSem.PinnedTables
set_option linter.unusedSimpArgs false
set_option linter.unusedVariables false
namespace Go.Proofs.YtmgcapccgncmkaaDoor.Im
open Go.RowKit Go.Pv Go.Proofs.YtmgcapccgncmkaaDoor.Tx Go.Proofs.YtmgcapccgncmkaaDoorW.PrintWords Go.Proofs.YtmgcapccgncmkaaDoorW.PrintLast Go.Proofs.YtmgcapccgncmkaaDoorW.PrintMore Go.Proofs.YtmgcapccgncmkaaDoor.PImgKeeps

/-- A world's first blocks. -/
def cutW (w : World) (B : Nat) : World := { w with heap := w.heap.extract 0 B }
theorem cutW_size {w : World} {B : Nat} (h : B ≤ w.heap.size) : (cutW w B).heap.size = B := by simp [cutW]; omega
theorem cutW_below {w : World} {B : Nat} (h : B ≤ w.heap.size) : Below (cutW w B).heap.size (cutW w B) w := by
  refine ⟨rfl, rfl, rfl, by rw [cutW_size h]; exact h, fun k hk => ?_⟩
  rw [cutW_size h] at hk
  simp [cutW, Array.getElem?_extract, hk]
  omega
theorem blk_keeps {F : Nat → Prop} {W V : World} {b : Nat} {o : Obj} (hk : Keeps F W V) (hF : ¬ F b) (h : W.heap[b]? = some o) : V.heap[b]? = some o := (hk.block b (Array.getElem?_eq_some_iff.1 h).1 hF).trans h

/-- An image's act; what it makes of the store. -/
def actA (kind : Int) (k : ByteArray) (tick : Int) (al : IL) : IL := if kind = 0 then pullA k al else if kind = 1 then tkA (tick + 1) al (namesA al) else if kind = 2 then useA k al else if kind = 3 then leaveA k tick al else dropA k al
def actT (kind tick : Int) : Int := if kind = 1 then tick + 1 else tick
end Go.Proofs.YtmgcapccgncmkaaDoor.Im
namespace Go.Proofs.YtmgcapccgncmkaaDoor.Im
open Go.RowKit Go.Pv Go.Proofs.YtmgcapccgncmkaaDoor.Tx

/-- An image behind n acts. -/
def Rg (n : Nat) (s : Im) : Prop := 0 ≤ s.1 ∧ s.1 ≤ 3 ∧ 0 ≤ s.2.1 ∧ s.2.1 ≤ n ∧ 0 ≤ s.2.2 ∧ s.2.2 ≤ n ∧ (0 < s.2.1 → s.1 = 0)
/-- A store behind n acts. -/
structure GI (n : Nat) (al : IL) (tick : Int) : Prop where
  short : Short al
  t : 0 ≤ tick ∧ tick ≤ n
  nd : (al.map (·.1)).Nodup
  rg : ∀ k, Rg n (getI k al)
theorem Rg.next {n : Nat} {s : Im} (h : Rg n s) : Rg (n + 1) s := by unfold Rg at *; omega
theorem short_keys {al al2 : IL} (h : al2.map (·.1) = al.map (·.1)) (hs : Short al) : Short al2 := by
  refine ⟨fun r hr => ?_, ?_⟩
  · have : r.1 ∈ al.map (·.1) := by rw [← h]; exact List.mem_map.2 ⟨r, hr, rfl⟩
    obtain ⟨r2, h2, e⟩ := List.mem_map.1 this
    rw [← e]
    exact hs.1 r2 h2
  · have := congrArg List.length h
    simp only [List.length_map] at this
    rw [this]
    exact hs.2
theorem there_some {k : ByteArray} {al : IL} (h : thereB k al = true) : (aget k al).isSome = true ∧ (getI k al).1 = 0 := by
  unfold thereB at h
  simpa using h
theorem there_mk {k : ByteArray} {al : IL} (h1 : (aget k al).isSome = true) (h2 : (getI k al).1 = 0) : thereB k al = true := by
  unfold thereB
  simp [h1, h2]
theorem tickI_rg {n : Nat} {T : Int} (hT : 0 ≤ T ∧ T ≤ n + 1) (s : Im) (h : Rg (n + 1) s) : Rg (n + 1) (tickI T s) := by
  unfold tickI
  unfold Rg at *
  split
  · exact h
  · split <;> (simp only; omega)
theorem gi_set {n : Nat} {al : IL} {tick t2 : Int} (h : GI n al tick) (k : ByteArray) (s : Im) (hk : k.size ≤ 100) (hs : Rg (n + 1) s) (hl : (aget k al).isSome = true ∨ al.length < 16) (ht : 0 ≤ t2 ∧ t2 ≤ (n + 1 : Nat)) : GI (n + 1) (aset k s al) t2 := by
  refine ⟨?_, ht, aset_nodup k s h.nd, fun q => ?_⟩
  · by_cases hi : (aget k al).isSome = true
    · exact short_keys (names_aset k s al hi) h.short
    · refine ⟨fun r hr => ?_, ?_⟩
      · rcases mem_aset h.nd hr with rfl | h2
        · exact hk
        · exact h.short.1 r h2.1
      · have h3 := congrArg List.length (aset_keys k s al)
        have h4 := hl.resolve_left hi
        rw [List.length_map] at h3
        rw [h3]
        split
        · rw [List.length_map]; omega
        · rw [List.length_append, List.length_map]; simp; omega
  · by_cases hq : q = k
    · subst hq
      rw [getI_aset_same]
      exact hs
    · rw [getI_aset_other hq]
      exact (h.rg q).next
theorem GI.next {n : Nat} {al : IL} {tick : Int} (h : GI n al tick) : GI (n + 1) al tick := ⟨h.short, by have := h.t; omega, h.nd, fun k => (h.rg k).next⟩
theorem gi_del {n : Nat} {al : IL} {tick : Int} (h : GI n al tick) (k : ByteArray) : GI (n + 1) (adel k al) tick := by
  have hsub := adel_sublist k al
  refine ⟨⟨fun r hr => h.short.1 r (hsub.subset hr), Nat.le_trans hsub.length_le h.short.2⟩, by have := h.t; omega, adel_nodup k h.nd, fun q => ?_⟩
  by_cases hq : q = k
  · subst hq
    unfold getI
    rw [aget_adel_same q h.nd]
    unfold Rg
    simp
    omega
  · unfold getI
    rw [aget_adel_other hq]
    exact (h.rg q).next
theorem gi_tick {n : Nat} {al : IL} {tick : Int} (h : GI n al tick) (ks : List ByteArray) : GI (n + 1) (tkA (tick + 1) al ks) (tick + 1) := by
  refine ⟨short_keys (names_tkA _ _ _) h.short, by have := h.t; omega, by rw [names_tkA]; exact h.nd, tkA_keeps (tick + 1) (Rg (n + 1)) (tickI_rg (by have := h.t; omega)) al (fun k => (h.rg k).next) ks⟩
theorem gi_act {n : Nat} {al : IL} {tick : Int} (h : GI n al tick) (kind : Int) (k : ByteArray) (hk : k.size ≤ 100) : GI (n + 1) (actA kind k tick al) (actT kind tick) := by
  unfold actA actT
  by_cases h0 : kind = 0
  · rw [if_pos h0, if_neg (by omega)]
    unfold pullA
    split
    · rename_i hc
      have := ticks_in k
      exact gi_set h k _ hk (by unfold Rg; simp only; omega) (.inr hc.2.2) (by have := h.t; omega)
    · exact h.next
  · rw [if_neg h0]
    by_cases h1 : kind = 1
    · rw [if_pos h1, if_pos h1]
      exact gi_tick h _
    · rw [if_neg h1, if_neg h1]
      have hr := h.rg k
      have ht := h.t
      by_cases h2 : kind = 2
      · rw [if_pos h2]
        unfold useA
        split
        · rename_i hc
          obtain ⟨a1, a2⟩ := there_some hc
          exact gi_set h k _ hk (by unfold Rg at *; simp only; omega) (.inl a1) (by omega)
        · exact h.next
      · rw [if_neg h2]
        by_cases h3 : kind = 3
        · rw [if_pos h3]
          unfold leaveA
          split
          · rename_i hc
            obtain ⟨a1, a2⟩ := there_some hc
            split
            · exact h.next
            · refine gi_set h k _ hk ?_ (.inl a1) (by omega)
              unfold Rg at *
              simp only
              split <;> omega
          · exact h.next
        · rw [if_neg h3]
          unfold dropA
          split
          · split
            · exact h.next
            · exact gi_del h k
          · exact h.next
end Go.Proofs.YtmgcapccgncmkaaDoor.Im
namespace Go.Proofs.YtmgcapccgncmkaaDoor.Im
open Go.RowKit Go.Pv Go.Proofs.YtmgcapccgncmkaaDoor.Tx Go.Proofs.YtmgcapccgncmkaaDoorW.PrintWords Go.Proofs.YtmgcapccgncmkaaDoorW.PrintLast
/-- The acts. -/
def kA : Kd (Int × ByteArray) := Kd.pair (Kd.int .i64) Kd.string
theorem kA_at {w : World} {A : Option Addr} {n : Nat} {l : List (Int × ByteArray)} (h : Kd.C kA w A n l) (hn : n = l.length) (i : Nat) (hi : i < l.length) : ∃ ad, A = some ad ∧ w.cell? (ad.add (i * 2)) = some (.int .i64 l[i].1) ∧ w.cell? ⟨(ad.add (i * 2)).block, (ad.add (i * 2)).off + 1, none⟩ = some (.string l[i].2) := by
  obtain ⟨ad, c, e, _, hK, hc0⟩ := Kd.C_get h (0, ⟨#[]⟩) (i : Int) (by omega) (by omega)
  have hc : ∀ j u, c[j]? = some u → w.cell? (ad.add ((i : Int).toNat * 2 + j)) = some u := hc0
  simp only [Int.toNat_natCast] at hc
  have hg : l.getD (i : Int).toNat (0, ⟨#[]⟩) = l[i] := by simp [List.getD_eq_getElem?_getD, hi]
  rw [hg] at hK
  obtain ⟨_, _, rfl, rfl, rfl⟩ := hK
  exact ⟨ad, e, hc 0 _ rfl, by rw [← add_field _ _ 1 (by omega)]; exact hc 1 _ rfl⟩
end Go.Proofs.YtmgcapccgncmkaaDoor.Im
namespace Go.Pv
open Go
/-- A row with listed variables whose contract looks at the shape of the world. -/
theorem handed_and_shaped {H : Type} {enc : TypeId × Value → H} {a : Assume} {C : Checked} {os : Os} {f : FuncId} {fn : Func} {s : ChangeSpec} {conds : List PathCond} {apart fresh handsOn again : Bool} {X : World → Array Value → Prop}
    (hX : ∀ (w w' : World) (args : Array Value), w.heap = w'.heap → X w args → X w' args)
    (own : ownKnob C.prog.godebug = none) (started : os.Started) (noInit : C.prog.inits.idxOf? f = none) (hfn : C.prog.funcs[f]? = some fn)
    (start : ∃ (w : World) (tape : Tape) (i : Input), w.os = os ∧ (w.forCall tape i).Shaped C.prog ∧ i.vars = [] ∧ Input.okWide C.prog (w.forCall tape i) .any w.heap.size f i ∧
      ((s.pre enc C.prog fn conds apart (w.forCall tape i).memory i.args ∧ X (w.forCall tape i).memory i.args) ∧ sizedMet enc C.prog fn (OpenSpec.ofChange s) apart (w.forCall tape i).memory i.args) ∧ a.holds C.prog (lone (Frame.enter C.prog f i.args .normal) [] (w.forCall tape i)))
    (law : ∀ (W : World) (base : Nat) (args : Array Value) (ds gs : List (DataW H)) (before : List MemPlace),
      (∀ (j : Nat) t v, fn.params[j]? = some t → args[j]? = some v → Value.okWide C.prog W .any base t v) →
      DataW.Whole enc C.prog fn.params.toList s.vars apart W args.toList ds gs before → X W args → W.ShapedOpen C.prog →
      Calls C.prog f args W fun e W' => ∃ v, e = .returned v ∧ s.post enc C.prog fn apart fresh handsOn again W args v W') :
    ReturnsInHanded a C os f .any (fun w args => (s.pre enc C.prog fn conds apart w args ∧ X w args) ∧ sizedMet enc C.prog fn (OpenSpec.ofChange s) apart w args) (s.post enc C.prog fn apart fresh handsOn again) := by
  refine returnsInHanded_of_calls own started noInit start (fun w tape i _ hshape _ hok hpre _ => ?_)
  obtain ⟨_, _, _, fn2, hfn2, _, _, _, _, hval⟩ := hok
  cases Option.some.inj (hfn2.symm.trans hfn)
  obtain ⟨⟨⟨ds, gs, before, hwhole, _⟩, hx⟩, _⟩ := hpre
  refine (law (w.forCall tape i) w.heap.size i.args ds gs before hval (DataW.Whole.of_heap (w' := w.forCall tape i) (by rfl) hwhole) (hX _ _ _ (by rfl) hx) hshape).mono ?_
  rintro e W2 ⟨v, rfl, hp⟩
  exact ChangeSpec.post_blind hp
end Go.Pv
namespace Go.Proofs.YtmgcapccgncmkaaDoor.Im
open Go.ChangeShapes Go.WideShapes Go.ChangeAt Go.RowKit Go.Pv Go.Proofs.YtmgcapccgncmkaaDoor.Tx Go.Proofs.YtmgcapccgncmkaaDoorW.PrintWords
theorem gMarks : Tryd.prog.globalNamed "provost/text.marks" = some 2 := by kernel_rfl
theorem tMarks : (Tryd.prog.globals[2]?).map (·.type) = some 191 := by kernel_rfl
theorem cells3 : Tryd.prog.cellsOf 3 = 1 := by kernel_rfl
theorem marks_list : (Rows.laid_provost_text_marks : DataW Unit) = .agg ((List.range 64).map fun i => .lit (.int .i64 (mtab i))) := by rfl
theorem cell_of_take {cs : List Value} {o : Nat} {v : Value} (h : (cs.drop o).take 1 = [v]) : cs[o]? = some v := by
  have := congrArg (·[0]?) h
  simpa [List.getElem?_take, List.getElem?_drop] using this
theorem marks_of {W : World} (h : Go.Lib.VarReads Tryd.prog W "provost/text.marks" Rows.laid_provost_text_marks) : ∀ i, i < 64 → W.cell? ⟨2, i, none⟩ = some (.int .i64 (mtab i)) := by
  obtain ⟨g, t, cs, f, p, hg, ht, hv, hd⟩ := h
  obtain rfl := Option.some.inj (gMarks.symm.trans hg)
  obtain rfl := Option.some.inj (tMarks.symm.trans ht)
  obtain ⟨xs, m, rfl, hx, hlen, hn, hel⟩ := DataW.trod_array Tryd.underlying191 hd
  rw [marks_list] at hx
  simp only [Prod.mk.injEq, DataW.agg.injEq] at hx
  intro i hi
  have h1 := hel i hi
  rw [cells3, Nat.mul_one] at h1
  obtain ⟨y, hy⟩ : ∃ y, xs[i]? = some y := ⟨xs[i]'(by omega), List.getElem?_eq_getElem (by omega)⟩
  rw [hy] at h1
  obtain ⟨k, e1, e2, _⟩ := DataW.trod_int Tryd.underlying3 h1
  have h2 : (xs.map (·.1))[i]? = some y.1 := by rw [List.getElem?_map, hy]; rfl
  rw [← hx.1, List.getElem?_map, List.getElem?_range hi] at h2
  rw [e2] at h2
  simp only [Option.map_some, Option.some.injEq, DataW.lit.injEq, Lit.int.injEq, true_and] at h2
  rw [World.var?_cell gMarks hv i, ← Array.getElem?_toList, cell_of_take e1, h2]
noncomputable abbrev laid1 : List (String × DataW Unit) := [("provost/text.marks", Rows.laid_provost_text_marks)]
theorem marks_of1 {W : World} (h : laidMetH Tryd.prog laid1 W) : ∀ i, i < 64 → W.cell? ⟨2, i, none⟩ = some (.int .i64 (mtab i)) := by
  rw [MakeChecks.laidMetH_plain _ _ _ (by kernel_rfl)] at h
  exact marks_of (Go.Lib.laidMet.reads h (by simp [laid1]))
theorem all_met1 (os : Os) (args : Array Value) : laidMetH Tryd.prog laid1 ((World.laidAll Tryd.prog os laid1).forCall (fun _ _ => 0) ⟨#[], args, []⟩).memory := by
  rw [MakeChecks.laidMetH_plain _ _ _ (by kernel_rfl)]
  exact laidMet_laidAll args (by kernel_rfl) (by kernel_rfl)
theorem len_cell {W : World} (h : W.ShapedOpen Tryd.prog) : ∃ m, W.cell? ⟨1, 0, none⟩ = some (.int .i64 m) :=
  Go.Proofs.cell_of_shapedOpen_int (t := 3) (zero := #[.int .i64 0]) h (of_decide_eq_true (by kernel_rfl)) (by kernel_rfl) rfl (by kernel_rfl) (by kernel_rfl) Tryd.underlying3
theorem gm_of {W : World} (h : ∀ i, i < 64 → W.cell? ⟨2, i, none⟩ = some (.int .i64 (mtab i))) (hl : ∃ m, W.cell? ⟨1, 0, none⟩ = some (.int .i64 m)) : Gm W := ⟨h, hl⟩
end Go.Proofs.YtmgcapccgncmkaaDoor.Im
