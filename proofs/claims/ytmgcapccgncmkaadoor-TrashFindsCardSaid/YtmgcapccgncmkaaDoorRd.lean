/- Words of our own, over any program: a slice that came in, told as a list. -/
import Derived.Test.YtmgcapccgncmkaaDoorSl
import Derived.Deep.Slices
import Derived.Deep.Strs
set_option linter.unusedSimpArgs false
set_option linter.unusedVariables false
namespace Go.Pv
open Go Go.ChangeShapes Go.WideShapes Go.Deep

/-- v is a slice that came in, of elements of sz cells that are told by enc. -/
def Rd {τ : Type} (w : World) (sz : Nat) (enc : τ → List Value) (v : Value) (l : List τ) : Prop :=
  (l = [] ∧ ∃ a cap, v = .slice a 0 cap) ∨ ∃ b o cap, v = .slice (some ⟨b, o, none⟩) l.length cap ∧ b < w.heap.size ∧ ∀ i x, l[i]? = some x → ∀ j u, (enc x)[j]? = some u → w.cell? ⟨b, o + i * sz + j, none⟩ = some u

theorem Rd.form {τ : Type} {w : World} {sz : Nat} {enc : τ → List Value} {v : Value} {l : List τ} (h : Rd w sz enc v l) : ∃ a cap, v = .slice a l.length cap := by
  rcases h with ⟨rfl, a, cap, rfl⟩ | ⟨b, o, cap, rfl, _⟩
  · exact ⟨a, cap, rfl⟩
  · exact ⟨_, _, rfl⟩

theorem Rd.below {τ : Type} {w w' : World} {sz : Nat} {enc : τ → List Value} {v : Value} {l : List τ} (h : Rd w sz enc v l) (hb : RowKit.Below w.heap.size w w') : Rd w' sz enc v l := by
  rcases h with h | ⟨b, o, cap, rfl, h1, h2⟩
  · exact .inl h
  · refine .inr ⟨b, o, cap, rfl, Nat.lt_of_lt_of_le h1 hb.size, fun i x hx j u hu => ?_⟩
    rw [hb.cell (p := ⟨b, o + i * sz + j, none⟩) h1]
    exact h2 i x hx j u hu

theorem list_of {τ : Type} {n : Nat} {p : Nat → τ → Prop} (h : ∀ i, i < n → ∃ x, p i x) : ∃ l : List τ, l.length = n ∧ ∀ i x, l[i]? = some x → p i x := by
  induction n with
  | zero => exact ⟨[], rfl, by simp⟩
  | succ n ih =>
    obtain ⟨l, hl, hp⟩ := ih (fun i hi => h i (Nat.lt_succ_of_lt hi))
    obtain ⟨x, hx⟩ := h n (Nat.lt_succ_self n)
    refine ⟨l ++ [x], by simp [hl], fun i y hy => ?_⟩
    rcases Nat.lt_or_ge i n with hi | hi
    · rw [List.getElem?_append_left (by omega)] at hy; exact hp i y hy
    · rw [List.getElem?_append_right (by omega)] at hy
      have : i = n := by
        rcases Nat.lt_or_ge (i - l.length) 1 with h1 | h1
        · omega
        · rw [List.getElem?_eq_none (by simpa using h1)] at hy; cases hy
      subst this
      rw [hl, Nat.sub_self] at hy
      simp at hy
      exact hy ▸ hx

end Go.Pv
