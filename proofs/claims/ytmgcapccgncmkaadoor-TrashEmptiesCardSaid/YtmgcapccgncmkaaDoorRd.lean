/- Words of our own, over any program: a slice that came in, told as a list. -/
import Derived.Test.YtmgcapccgncmkaaDoorSl
import Derived.Deep.Slices
import Derived.Deep.Strs
set_option linter.unusedSimpArgs false
set_option linter.unusedVariables false
namespace Go.Pv
open Go Go.ChangeShapes Go.WideShapes Go.Deep

/-- v is a slice that came in, of elements of sz cells that are told by enc. -/
def Rd {τ : Type} (w : World) (sz : Nat) (enc : τ → List Value) (v : Value) (l : List τ) : Prop :=
  (l = [] ∧ ∃ a cap, v = .slice a 0 cap) ∨ ∃ b o cap, v = .slice (some ⟨b, o, none⟩) l.length cap ∧ b < w.heap.size ∧ ∀ i x, l[i]? = some x → ∀ j u, (enc x)[j]? = some u → w.cell? ⟨b, o + i * sz + j, none⟩ = some u

theorem Rd.form {τ : Type} {w : World} {sz : Nat} {enc : τ → List Value} {v : Value} {l : List τ} (h : Rd w sz enc v l) : ∃ a cap, v = .slice a l.length cap := by
  rcases h with ⟨rfl, a, cap, rfl⟩ | ⟨b, o, cap, rfl, _⟩
  · exact ⟨a, cap, rfl⟩
  · exact ⟨_, _, rfl⟩

theorem Rd.below {τ : Type} {w w' : World} {sz : Nat} {enc : τ → List Value} {v : Value} {l : List τ} (h : Rd w sz enc v l) (hb : RowKit.Below w.heap.size w w') : Rd w' sz enc v l := by
  rcases h with h | ⟨b, o, cap, rfl, h1, h2⟩
  · exact .inl h
  · refine .inr ⟨b, o, cap, rfl, Nat.lt_of_lt_of_le h1 hb.size, fun i x hx j u hu => ?_⟩
    rw [hb.cell (p := ⟨b, o + i * sz + j, none⟩) h1]
    exact h2 i x hx j u hu

theorem list_of {τ : Type} {n : Nat} {p : Nat → τ → Prop} (h : ∀ i, i < n → ∃ x, p i x) : ∃ l : List τ, l.length = n ∧ ∀ i x, l[i]? = some x → p i x := by
  induction n with
  | zero => exact ⟨[], rfl, by simp⟩
  | succ n ih =>
    obtain ⟨l, hl, hp⟩ := ih (fun i hi => h i (Nat.lt_succ_of_lt hi))
    obtain ⟨x, hx⟩ := h n (Nat.lt_succ_self n)
    refine ⟨l ++ [x], by simp [hl], fun i y hy => ?_⟩
    rcases Nat.lt_or_ge i n with hi | hi
    · rw [List.getElem?_append_left (by omega)] at hy; exact hp i y hy
    · rw [List.getElem?_append_right (by omega)] at hy
      have : i = n := by
        rcases Nat.lt_or_ge (i - l.length) 1 with h1 | h1
        · omega
        · rw [List.getElem?_eq_none (by simpa using h1)] at hy; cases hy
      subst this
      rw [hl, Nat.sub_self] at hy
      simp at hy
      exact hy ▸ hx

/-- A slice among the arguments, opened: its elements by what each element's cells tell. -/
theorem rd_of_trod {H : Type} {enc : TypeId × Value → H} {P : Program} {w : World} {base : Nat} {spare : Nat → Bool} {held : Bool} {t e : TypeId} {fuel : Nat} {v : Value} {x : DataW H × List MemPlace} {τ : Type} {en : τ → List Value} {Pr : τ → Prop}
    (ht : P.underlying t = some (.slice e)) (hc : 0 < P.cellsOf e) (h : DataW.trod enc P w base spare held fuel t [v] = some x)
    (hel : ∀ n cs y, w.heap.size = w.heap.size → DataW.trod enc P w base spare held n e cs = some y → ∃ a : τ, cs = en a ∧ Pr a) :
    ∃ l : List τ, Rd w (P.cellsOf e) en v l ∧ (∀ a ∈ l, Pr a) ∧ l.length ≤ maxLen := by
  rcases open_slice ht h with ⟨h0, _⟩ | ⟨a, len, cap, m, n, D, Pl, hv, _, hl, hm, hmm, _, hx⟩
  · simp only [List.cons.injEq, and_true] at h0
    exact ⟨[], .inl ⟨rfl, _, _, h0⟩, by simp, by simp [maxLen]⟩
  · simp only [List.cons.injEq, and_true] at hv
    have hlm : len ≤ m := by rw [hmm]; split <;> omega
    obtain ⟨l, hll, hp⟩ := list_of (τ := τ) (n := len) (p := fun i y => (∀ j u, (en y)[j]? = some u → w.cell? ((a.add (i * P.cellsOf e)).add j) = some u) ∧ (en y).length = P.cellsOf e ∧ Pr y) (fun i hi => by
      obtain ⟨cs', h1, h2⟩ := hx i (by omega)
      obtain ⟨_, h3, h4⟩ := World.cells?_some h1
      obtain ⟨y, rfl, hy⟩ := hel _ _ _ rfl h2
      refine ⟨y, fun j u hu => ?_, h3, hy⟩
      rw [h4 j (by rw [← h3]; exact (List.getElem?_eq_some_iff.1 hu).1)]; exact hu)
    refine ⟨l, ?_, fun y hy => ?_, by omega⟩
    · rcases Nat.eq_zero_or_pos len with h0 | h0
      · have : l = [] := List.eq_nil_of_length_eq_zero (by omega)
        exact .inl ⟨this, _, _, by rw [hv, h0]⟩
      · right
        -- the address is a plain one
        obtain ⟨y0, hy0⟩ : ∃ y, l[0]? = some y := ⟨l[0]'(by omega), List.getElem?_eq_getElem (by omega)⟩
        obtain ⟨q1, q2, _⟩ := hp 0 y0 hy0
        have hc0 : w.cell? a = some ((en y0)[0]'(by omega)) := by
          have := q1 0 _ (List.getElem?_eq_getElem (by omega))
          simpa [Addr.add] using this
        have hsp : a.spot = none := by
          unfold World.cell? at hc0
          split at hc0
          · cases hs : a.spot with
            | none => rfl
            | some _ => simp [hs] at hc0
          · cases hc0
        have ha : a = ⟨a.block, a.off, none⟩ := by cases a; simp_all
        refine ⟨a.block, a.off, cap, by rw [hv, hll]; rw [← ha], World.block_lt_of_cell? w a hc0, fun i y hy j u hu => ?_⟩
        have := (hp i y hy).1 j u hu
        rw [ha, Addr.add_lit, Addr.add_lit] at this
        exact this
    · obtain ⟨i, hi⟩ := List.mem_iff_getElem?.1 hy
      exact (hp i y hi).2.2
end Go.Pv
