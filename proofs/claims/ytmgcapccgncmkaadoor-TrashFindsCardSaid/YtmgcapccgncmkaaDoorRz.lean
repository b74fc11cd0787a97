/- Words of our own, over any program: a slice that is read as a list, cut and looked at; a pointer to what is read; a call of a closure in a region that draws. -/
import Derived.Test.YtmgcapccgncmkaaDoorWMore
import Derived.Test.YtmgcapccgncmkaaDoorWTab
import Derived.Test.YtmgcapccgncmkaaDoorRd
set_option linter.unusedSimpArgs false
set_option linter.unusedVariables false
namespace Go.Pv
open Go Go.RowKit Go.Proofs.YtmgcapccgncmkaaDoorW.PrintWords Go.Proofs.YtmgcapccgncmkaaDoorW.PrintLast

/-- A call of a closure. -/
theorem goesV_ {P : Program} {ops : Array Oper} {Q : Exit → Act → World → Prop} {oi : Oper} {N : Option Tmp} {a : Act} {w : World} {K : Act → World → Prop} {f : FuncId} {fn : Func} {x : Operand} {as : Array Operand} {ts : Array TypeId} (hf : P.funcs[f]? = some fn) (hname : (fn.name == "runtime.NumGoroutine") = false) (hb : fn.body.isSome = true)
    (first caps args A : Array Value) (hw : Region.wanted oi (yielded ops a.tmps) = true) (hN : oi.dst = N) (hop : oi.op = .call { callee := .value x, args := as, argTypes := ts }) (hx : a.eval x = .func (.func f) first caps) (hargs : as.map a.eval = args) (hA : first ++ args ++ caps = A)
    (h : Calls P f A w fun e w' => ∃ v, e = .returned v ∧ K (a.put N v) w') : if Region.wanted oi (yielded ops a.tmps) = true then Oper.wp P oi a w K Q else K (a.put N undef) w := by
  refine call_ f A hw hN ?_ h
  have he := enters_ hf hname hb A w
  unfold execOp
  simp [hop, resolve, Deferred.ofValue, invoke, hx, hargs, hA, he]

section
variable {α : Type} {d : Kd α} {w w' : World} {v p : Value} {x : α} {xs : List α}

/-- v reads as xs. -/
def Rz (d : Kd α) (w : World) (v : Value) (xs : List α) : Prop := ∃ A c, v = .slice A xs.length c ∧ xs.length ≤ c ∧ d.C w A xs.length xs

theorem Rz.below (h : Rz d w v xs) (hb : Below w.heap.size w w') : Rz d w' v xs := by
  obtain ⟨A, c, h1, h2, h3⟩ := h
  exact ⟨A, c, h1, h2, Kd.C_below h3 hb⟩
theorem Rz.nil (d : Kd α) (w : World) : Rz d w (.slice none 0 0) [] := ⟨none, 0, rfl, Nat.le_refl _, Kd.C_nil d w⟩
theorem Rz.form (h : Rz d w v xs) : ∃ A c, v = .slice A xs.length c := by
  obtain ⟨A, c, h1, _⟩ := h
  exact ⟨A, c, h1⟩
/-- A pointer to what is read; nil. -/
def Pt (d : Kd α) (w : World) (p : Value) : Option α → Prop
  | none => p = .pointer none
  | some x => ∃ b o cs, p = .pointer (some ⟨b, o, none⟩) ∧ b < w.heap.size ∧ d.K w x cs ∧ ∀ j u, cs[j]? = some u → w.cell? ⟨b, o + j, none⟩ = some u

theorem Pt.below {o : Option α} (h : Pt d w p o) (hb : Below w.heap.size w w') : Pt d w' p o := by
  cases o with
  | none => exact h
  | some x =>
    obtain ⟨b, o, cs, h1, h2, h3, h4⟩ := h
    exact ⟨b, o, cs, h1, Nat.lt_of_lt_of_le h2 hb.size, d.K_below hb h3, fun j u hu => (hb.cell (p := ⟨b, o + j, none⟩) h2).trans (h4 j u hu)⟩

theorem spot_none {w : World} {a : Addr} {u : Value} (h : w.cell? a = some u) : a = ⟨a.block, a.off, none⟩ := by
  have hsp : a.spot = none := by
    unfold World.cell? at h
    split at h
    · cases hs : a.spot with
      | none => rfl
      | some _ => simp [hs] at h
    · cases h
  cases a; simp_all

/-- Element i of what is read. -/
theorem Rz.at_ (h : Rz d w v xs) (hs : 0 < d.sz) (i : Nat) (hi : i < xs.length) : ∃ b o c, v = .slice (some ⟨b, o, none⟩) xs.length c ∧ b < w.heap.size ∧ ∃ cs, d.K w xs[i] cs ∧ ∀ j u, cs[j]? = some u → w.cell? ⟨b, o + i * d.sz + j, none⟩ = some u := by
  obtain ⟨A, c, h1, h2, h3⟩ := h
  obtain ⟨ad, rfl, hc⟩ := h3.2.2 (by omega)
  obtain ⟨cs, q1, q2, q3⟩ := hc i _ (List.getElem?_eq_getElem hi)
  obtain ⟨u0, hu0⟩ : ∃ u, cs[0]? = some u := ⟨cs[0]'(by omega), List.getElem?_eq_getElem (by omega)⟩
  have hz := q3 0 u0 hu0
  have ha : ad = ⟨ad.block, ad.off, none⟩ := by
    obtain ⟨ds, p1, -, p3⟩ := hc 0 _ (List.getElem?_eq_getElem (by omega))
    have h0 := p3 0 _ (List.getElem?_eq_getElem (by omega))
    rw [Nat.zero_mul, Nat.add_zero, show ad.add 0 = ad by unfold Addr.add; simp] at h0
    exact spot_none h0
  refine ⟨ad.block, ad.off, c, by rw [h1, ← ha], ?_, cs, q2, fun j u hu => ?_⟩
  · have := World.block_lt_of_cell? w _ hz
    rw [ha, Addr.add_lit] at this
    exact this
  · have := q3 j u hu
    rw [ha, Addr.add_lit, ← Nat.add_assoc] at this
    exact this

end
end Go.Pv
