/- Words of our own, over any program: arguments opened by their kinds. -/
import Derived.Test.YtmgcapccgncmkaaDoorRz
import Derived.WalkKit
import Derived.ProofKit
import Derived.OpenShut
import Derived.ChangeOld
set_option linter.unusedSimpArgs false
set_option linter.unusedVariables false
namespace Go.Pv
open Go Go.RowKit Go.ChangeShapes Go.WideShapes Go.Deep Go.Proofs.YtmgcapccgncmkaaDoorW.PrintWords

/-- What can be read at type t reads as kind d tells; Q of it. -/
def Opn {α : Type} (P : Program) (t : TypeId) (d : Kd α) (Q : α → Prop) : Prop :=
  ∀ (H : Type) (enc : TypeId × Value → H) (w : World) (base : Nat) (spare : Nat → Bool) (held : Bool) (fuel : Nat) (cs : List Value) (x : DataW H × List MemPlace),
    DataW.trod enc P w base spare held fuel t cs = some x → ∃ a, d.K w a cs ∧ Q a

/-- The same of fields in line, from cell o on. -/
def OpnFs {α : Type} (P : Program) (o : Nat) (fs : List Field) (d : Kd α) (Q : α → Prop) : Prop :=
  ∀ (H : Type) (enc : TypeId × Value → H) (w : World) (base : Nat) (spare : Nat → Bool) (held : Bool) (fuel : Nat) (cs : List Value), cs.length = o + d.sz →
    (∀ f ∈ fs, ∃ y, DataW.trod enc P w base spare held fuel f.type ((cs.drop f.offset).take (P.cellsOf f.type)) = some y) → ∃ a, d.K w a (cs.drop o) ∧ Q a

section
variable {α β : Type} {P : Program} {t e : TypeId} {d : Kd α} {d2 : Kd β} {Q : α → Prop} {Q2 : β → Prop}

theorem opn_int {k : IntKind} (ht : P.underlying t = some (.int k)) : Opn P t (Kd.int k) (fun n => (Lit.int k n).wf = true) := by
  intro H enc w base spare held fuel cs x h
  obtain ⟨n, rfl, _, hw⟩ := DataW.trod_int ht h
  exact ⟨n, rfl, hw⟩
theorem opn_bool (ht : P.underlying t = some .bool) : Opn P t Kd.bool (fun _ => True) := by
  intro H enc w base spare held fuel cs x h
  obtain ⟨b, rfl, _⟩ := DataW.trod_bool ht h
  exact ⟨b, rfl, trivial⟩
theorem opn_string (ht : P.underlying t = some .string) : Opn P t Kd.string (fun s => s.size ≤ maxLen) := by
  intro H enc w base spare held fuel cs x h
  obtain ⟨s, rfl, _, hs⟩ := DataW.trod_string ht h
  exact ⟨s, rfl, hs⟩

theorem opn_slice (ht : P.underlying t = some (.slice e)) (hc : P.cellsOf e = d.sz) (he : Opn P e d Q) : Opn P t (Kd.slice e d) (fun l => (∀ a ∈ l, Q a) ∧ l.length ≤ maxLen) := by
  intro H enc w base spare held fuel cs x h
  rcases open_slice ht h with ⟨rfl, _⟩ | ⟨a, len, cap, m, n, D, Pl, rfl, hb, hl, hm, hmm, _, hx⟩
  · exact ⟨[], ⟨none, 0, rfl, Nat.le_refl _, Kd.C_nil d w⟩, by simp, by simp [maxLen]⟩
  · have hlm : len ≤ m := by rw [hmm]; split <;> omega
    obtain ⟨l, hll, hp⟩ := list_of (τ := α) (n := len) (p := fun i y => ∃ c, c.length = d.sz ∧ d.K w y c ∧ Q y ∧ ∀ j u, c[j]? = some u → w.cell? (a.add (i * d.sz + j)) = some u) (fun i hi => by
      obtain ⟨cs', h1, h2⟩ := hx i (by omega)
      obtain ⟨_, h3, h4⟩ := World.cells?_some h1
      obtain ⟨y, hK, hQ⟩ := he H enc w base spare held n cs' _ h2
      rw [hc] at h1 h3 h4
      refine ⟨y, cs', h3, hK, hQ, fun j u hu => ?_⟩
      have hj : j < cs'.length := (List.getElem?_eq_some_iff.1 hu).1
      have h5 := h4 j (by omega)
      rw [Deep.add_add] at h5
      rw [h5]; exact hu)
    refine ⟨l, ⟨some a, cap, by rw [hll], by omega, rfl, by rw [hll]; unfold maxLen at hm; omega, fun hp0 => ⟨a, rfl, fun j p hj => ?_⟩⟩, fun y hy => ?_, by rw [hll]; omega⟩
    · obtain ⟨c, c1, c2, _, c4⟩ := hp j p hj
      exact ⟨c, c1, c2, c4⟩
    · obtain ⟨i, hi⟩ := List.mem_iff_getElem?.1 hy
      obtain ⟨_, _, _, hq, _⟩ := hp i y hi
      exact hq

theorem OpnFs.last {o : Nat} {f : Field} (hf : f.offset = o) (hc : P.cellsOf f.type = d.sz) (h : Opn P f.type d Q) : OpnFs P o [f] d Q := by
  intro H enc w base spare held fuel cs hl hall
  obtain ⟨y, hy⟩ := hall f (by simp)
  rw [hf, hc, List.take_of_length_le (by rw [List.length_drop]; omega)] at hy
  exact h H enc w base spare held fuel _ _ hy
theorem OpnFs.cons {o : Nat} {f : Field} {fs : List Field} (hf : f.offset = o) (hc : P.cellsOf f.type = d.sz) (h : Opn P f.type d Q) (hs : OpnFs P (o + d.sz) fs d2 Q2) : OpnFs P o (f :: fs) (Kd.pair d d2) (fun x => Q x.1 ∧ Q2 x.2) := by
  intro H enc w base spare held fuel cs hl hall
  have hl : cs.length = o + (d.sz + d2.sz) := hl
  obtain ⟨y, hy⟩ := hall f (by simp)
  rw [hf, hc] at hy
  obtain ⟨a, ha, qa⟩ := h H enc w base spare held fuel _ _ hy
  obtain ⟨b, hb, qb⟩ := hs H enc w base spare held fuel cs (by omega) (fun g hg => hall g (by simp [hg]))
  refine ⟨(a, b), ⟨_, _, ?_, ha, hb⟩, qa, qb⟩
  rw [← List.drop_drop, List.take_append_drop]
theorem opn_struct {fs : Array Field} (ht : P.underlying t = some (.struct fs)) (hc : P.cellsOf t = d.sz) (h : OpnFs P 0 fs.toList d Q) : Opn P t d Q := by
  intro H enc w base spare held fuel cs x hx
  obtain ⟨xs, n, _, rfl, hl, hlen, hf⟩ := DataW.trod_struct ht hx
  obtain ⟨a, ha, qa⟩ := h H enc w base spare held n cs (by rw [hl, hc, Nat.zero_add]) (fun f hf' => by
    obtain ⟨i, hi⟩ := List.mem_iff_getElem?.1 hf'
    have hi' : fs[i]? = some f := by simpa using hi
    have h1 := hf i f hi'
    have h2 : i < xs.length := by rw [hlen]; exact (Array.getElem?_eq_some_iff.1 hi').1
    rw [List.getElem?_eq_getElem h2] at h1
    exact ⟨_, h1⟩)
  exact ⟨a, ha, qa⟩
theorem opn_iso {f : β → α} (g : α → β) (hg : ∀ a, f (g a) = a) (h : Opn P t d Q) : Opn P t (Kd.iso d f) (fun b => Q (f b)) := by
  intro H enc w base spare held fuel cs x hx
  obtain ⟨a, ha, qa⟩ := h H enc w base spare held fuel cs x hx
  exact ⟨g a, by show d.K w (f (g a)) cs; rw [hg]; exact ha, by show Q (f (g a)); rw [hg]; exact qa⟩
theorem Opn.mono {Q' : α → Prop} (h : Opn P t d Q) (hq : ∀ a, Q a → Q' a) : Opn P t d Q' := fun H enc w base spare held fuel cs x hx => by
  obtain ⟨a, ha, qa⟩ := h H enc w base spare held fuel cs x hx
  exact ⟨a, ha, hq a qa⟩

end
end Go.Pv
