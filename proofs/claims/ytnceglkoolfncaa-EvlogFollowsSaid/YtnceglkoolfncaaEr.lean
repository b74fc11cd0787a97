/- EvlogFollows: the plain law. -/
import Derived.Test.YtnceglkoolfncaaEo
namespace Go.Proofs.Ytnceglkoolfncaa.Ev
open Go.RowKit Go.Pv

/-- What the log, all revisions that were added, and what was seen of them, have to do with each other. -/
structure FP (floor last : Int) (evs : List Event) (A : List Int) (nx : Nat) (seen : Int) : Prop where
  ord : Ord floor last evs
  tail : ∃ D, D ≤ A.length ∧ evs.map revOf = A.drop D ∧ ∀ x ∈ A.take D, x ≤ floor
  ris : A.Pairwise (· < ·)
  hi : ∀ x ∈ A, x ≤ last
  le : nx ≤ A.length
  slo : ∀ x ∈ A.take nx, x ≤ seen
  shi : ∀ x ∈ A.drop nx, seen < x
  sl : seen ≤ last

theorem FP.start : FP 0 0 [] [] 0 0 := ⟨Ord.empty, ⟨0, by simp⟩, List.Pairwise.nil, by simp, by simp, by simp, by simp, by omega⟩

theorem FP.add {floor last : Int} {evs : List Event} {A : List Int} {nx : Nat} {seen : Int} (h : FP floor last evs A nx seen) {ev : Event} (hr : last < revOf ev) {floor' : Int} {d : Nat}
    (ho : Ord floor' (revOf ev) ((evs ++ [ev]).drop d)) (hff : floor ≤ floor') (hd : ∀ e ∈ (evs ++ [ev]).take d, revOf e ≤ floor') : FP floor' (revOf ev) ((evs ++ [ev]).drop d) (A ++ [revOf ev]) nx seen where
  ord := ho
  tail := by
    obtain ⟨D, h1, h2, h3⟩ := h.tail
    have e0 : (evs ++ [ev]).map revOf = (A ++ [revOf ev]).drop D := by
      rw [List.map_append, h2, List.drop_append]
      have : D - A.length = 0 := by omega
      simp [this]
    by_cases hl : D + d ≤ (A ++ [revOf ev]).length
    · refine ⟨D + d, hl, ?_, fun x hx => ?_⟩
      · rw [List.map_drop, e0, List.drop_drop]
      · rw [List.take_add, List.mem_append] at hx
        rcases hx with hx | hx
        · have h4 : (A ++ [revOf ev]).take D = A.take D := by rw [List.take_append_of_le_length h1]
          rw [h4] at hx
          have := h3 x hx; omega
        · rw [← e0, ← List.map_take] at hx
          obtain ⟨e, he, rfl⟩ := List.mem_map.1 hx
          exact hd e he
    · refine ⟨(A ++ [revOf ev]).length, Nat.le_refl _, ?_, fun x hx => ?_⟩
      · rw [List.map_drop, e0, List.drop_drop, List.drop_of_length_le (by omega), List.drop_of_length_le (Nat.le_refl _)]
      · rw [List.take_length] at hx
        have hx2 : x ∈ (A ++ [revOf ev]).take (D + d) := by rw [List.take_of_length_le (by omega)]; exact hx
        rw [List.take_add, List.mem_append] at hx2
        rcases hx2 with hx | hx
        · have h4 : (A ++ [revOf ev]).take D = A.take D := by rw [List.take_append_of_le_length h1]
          rw [h4] at hx
          have := h3 x hx; omega
        · rw [← e0, ← List.map_take] at hx
          obtain ⟨e, he, rfl⟩ := List.mem_map.1 hx
          exact hd e he
  ris := by
    rw [List.pairwise_append]
    exact ⟨h.ris, by simp, fun a ha b hb => by simp at hb; subst hb; have := h.hi a ha; omega⟩
  hi := fun x hx => by
    rcases List.mem_append.1 hx with hx | hx
    · have := h.hi x hx; omega
    · simp at hx; omega
  le := by have := h.le; simp; omega
  slo := fun x hx => by
    rw [List.take_append_of_le_length h.le] at hx; exact h.slo x hx
  shi := fun x hx => by
    have e : nx - A.length = 0 := by have := h.le; omega
    rw [List.drop_append, e, List.mem_append] at hx
    rcases hx with hx | hx
    · exact h.shi x hx
    · simp at hx; have := h.sl; omega
  sl := by have := h.sl; omega

theorem cut_drop (to : Int) : ∀ (evs : List Event) (f : Int), ∃ d, (cut to evs f).1 = evs.drop d ∧ (∀ e ∈ evs.take d, revOf e ≤ (cut to evs f).2) ∧ f ≤ (cut to evs f).2
  | [], f => ⟨0, rfl, by simp, Int.le_refl _⟩
  | e :: r, f => by
    simp only [cut]
    split
    · obtain ⟨d, h1, h2, h3⟩ := cut_drop to r (max f (revOf e))
      refine ⟨d + 1, by simpa using h1, fun x hx => ?_, by omega⟩
      rw [List.take_succ_cons] at hx
      rcases List.mem_cons.1 hx with rfl | hx
      · omega
      · exact h2 x hx
    · exact ⟨0, rfl, by simp, Int.le_refl _⟩

theorem FP.compact {floor last : Int} {evs : List Event} {A : List Int} {nx : Nat} {seen : Int} (h : FP floor last evs A nx seen) (to : Int) (ht : to ≤ last) :
    FP (max (cut to evs floor).2 to) last (cut to evs floor).1 A nx seen where
  ord := (cut_ord to evs floor h.ord ht).1
  tail := by
    obtain ⟨D, h1, h2, h3⟩ := h.tail
    obtain ⟨d, d1, d2, d3⟩ := cut_drop to evs floor
    have hx : ∀ x ∈ A.take (D + d), x ≤ max (cut to evs floor).2 to := fun x hx => by
      rw [List.take_add, List.mem_append] at hx
      rcases hx with hx | hx
      · have := h3 x hx; omega
      · rw [← h2, ← List.map_take] at hx
        obtain ⟨e, he, rfl⟩ := List.mem_map.1 hx
        have := d2 e he; omega
    by_cases hl : D + d ≤ A.length
    · exact ⟨D + d, hl, by rw [d1, List.map_drop, h2, List.drop_drop], hx⟩
    · refine ⟨A.length, Nat.le_refl _, by rw [d1, List.map_drop, h2, List.drop_drop, List.drop_of_length_le (by omega), List.drop_of_length_le (Nat.le_refl _)], fun x h => hx x ?_⟩
      rw [List.take_length] at h
      rw [List.take_of_length_le (by omega)]; exact h
  ris := h.ris
  hi := h.hi
  le := h.le
  slo := h.slo
  shi := h.shi
  sl := h.sl

theorem mem_take_of {A : List Int} {i n : Nat} (hi : i < n) (hl : i < A.length) : A[i] ∈ A.take n := by
  rw [List.mem_iff_getElem?]
  exact ⟨i, by rw [List.getElem?_take_of_lt hi, List.getElem?_eq_getElem hl]⟩
theorem mem_drop_of {A : List Int} {i n : Nat} (hi : n ≤ i) (hl : i < A.length) : A[i] ∈ A.drop n := by
  rw [List.mem_iff_getElem?]
  exact ⟨i - n, by rw [List.getElem?_drop, show n + (i - n) = i by omega, List.getElem?_eq_getElem hl]⟩

theorem FP.got {floor last : Int} {evs : List Event} {A : List Int} {nx : Nat} {seen : Int} (h : FP floor last evs A nx seen) (hf : floor ≤ seen) {k : Nat} (hk : IsFrom seen evs k) : (evs.drop k).map revOf = A.drop nx := by
  obtain ⟨D, h1, h2, h3⟩ := h.tail
  have hle := h.le
  have hDn : D ≤ nx := by
    rcases Nat.lt_or_ge nx D with hlt | hge
    · have q1 := h3 _ (mem_take_of hlt (by omega : nx < A.length))
      have q2 := h.shi _ (mem_drop_of (Nat.le_refl nx) (by omega : nx < A.length))
      omega
    · exact hge
  have hlen : evs.length = A.length - D := by
    have := congrArg List.length h2
    simpa using this
  have hab : ∀ i (hi : i < evs.length) (h' : D + i < A.length), above seen evs i = decide (seen < A[D + i]) := fun i hi h' => by
    unfold above
    have e1 : (evs.map revOf)[i]? = (A.drop D)[i]? := by rw [h2]
    rw [List.getElem?_drop, List.getElem?_eq_getElem h', List.getElem?_map, List.getElem?_eq_getElem hi] at e1
    simp at e1
    rw [List.getD_eq_getElem?_getD, List.getElem?_eq_getElem hi]
    simp [e1]
  have hk2 : k = nx - D := by
    rcases Nat.lt_trichotomy k (nx - D) with hlt | heq | hgt
    · have q1 := hk.2.2 k (Nat.le_refl _) (by omega)
      rw [hab k (by omega) (by omega)] at q1
      have q2 := h.slo _ (mem_take_of (by omega : D + k < nx) (by omega))
      simp at q1; omega
    · exact heq
    · have hk1 := hk.1
      have q1 := hk.2.1 (nx - D) hgt
      rw [hab (nx - D) (by omega) (by omega)] at q1
      have q2 := h.shi _ (mem_drop_of (by omega : nx ≤ D + (nx - D)) (by omega))
      simp at q1; omega
  rw [List.map_drop, h2, List.drop_drop, hk2]
  congr 1; omega

theorem FP.step {floor last : Int} {evs : List Event} {A : List Int} {nx : Nat} {seen : Int} (h : FP floor last evs A nx seen) (hn : nx < A.length) : FP floor last evs A (nx + 1) A[nx] where
  ord := h.ord
  tail := h.tail
  ris := h.ris
  hi := h.hi
  le := hn
  slo := fun x hx => by
    obtain ⟨i, hi⟩ := List.mem_iff_getElem?.1 hx
    have hin : i < nx + 1 := by have := (List.getElem?_eq_some_iff.1 hi).1; simp at this; omega
    rw [List.getElem?_take_of_lt hin, List.getElem?_eq_getElem (by omega)] at hi
    simp at hi
    rcases Nat.lt_or_ge i nx with h1 | h1
    · have := List.pairwise_iff_getElem.1 h.ris i nx (by omega) hn h1
      omega
    · have : i = nx := by omega
      subst this; omega
  shi := fun x hx => by
    obtain ⟨i, hi⟩ := List.mem_iff_getElem?.1 hx
    rw [List.getElem?_drop] at hi
    obtain ⟨hl, he⟩ := List.getElem?_eq_some_iff.1 hi
    have := List.pairwise_iff_getElem.1 h.ris nx (nx + 1 + i) hn hl (by omega)
    omega
  sl := h.hi _ (List.getElem_mem hn)

/-- On the way to the floor. -/
structure FQ (floor last : Int) (evs : List Event) (A : List Int) (nx : Nat) : Prop where
  ord : Ord floor last evs
  tail : ∃ D, D ≤ A.length ∧ evs.map revOf = A.drop D ∧ ∀ x ∈ A.take D, x ≤ floor
  ris : A.Pairwise (· < ·)
  hi : ∀ x ∈ A, x ≤ last
  le : nx ≤ A.length
  slo : ∀ x ∈ A.take nx, x ≤ floor

theorem FP.old {floor last : Int} {evs : List Event} {A : List Int} {nx : Nat} {seen : Int} (h : FP floor last evs A nx seen) (hs : seen < floor) : FQ floor last evs A nx :=
  ⟨h.ord, h.tail, h.ris, h.hi, h.le, fun x hx => by have := h.slo x hx; omega⟩

theorem FQ.step {floor last : Int} {evs : List Event} {A : List Int} {nx : Nat} (h : FQ floor last evs A nx) (hn : nx < A.length) (hx : A[nx] ≤ floor) : FQ floor last evs A (nx + 1) :=
  ⟨h.ord, h.tail, h.ris, h.hi, hn, fun x hx' => by
    rw [List.take_add_one, List.mem_append, List.getElem?_eq_getElem hn] at hx'
    rcases hx' with h1 | h1
    · exact h.slo x h1
    · simp at h1; omega⟩

theorem FQ.fin {floor last : Int} {evs : List Event} {A : List Int} {nx : Nat} (h : FQ floor last evs A nx) (hx : ∀ hn : nx < A.length, floor < A[nx]) : FP floor last evs A nx floor :=
  ⟨h.ord, h.tail, h.ris, h.hi, h.le, h.slo, fun x hx' => by
    obtain ⟨i, hi⟩ := List.mem_iff_getElem?.1 hx'
    rw [List.getElem?_drop] at hi
    obtain ⟨hl, he⟩ := List.getElem?_eq_some_iff.1 hi
    have h0 := hx (by omega)
    rcases Nat.eq_zero_or_pos i with h1 | h1
    · subst h1; simp at he; omega
    · have := List.pairwise_iff_getElem.1 h.ris nx (nx + i) (by omega) hl (by omega)
      omega, h.ord.fl⟩
end Go.Proofs.Ytnceglkoolfncaa.Ev
