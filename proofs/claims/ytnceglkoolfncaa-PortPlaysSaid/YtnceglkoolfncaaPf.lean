/- The table of ports: Insert, whole; what Take makes of a list. -/
import Derived.Test.YtnceglkoolfncaaPe
namespace Go.Proofs.Ytnceglkoolfncaa.Po
open Go.RowKit Go.Pv

theorem insert_any {w : World} {v : Value} {l : List Hd} (h : SlOf w 181 2 encH v l) (hl : l.length ≤ 50000) (a : Nat) (ha : a ≤ l.length) (x : Hd) (b : Nat) (hb : w.heap[b]? = some (.cells #[.int .i64 x.1, .int .i64 x.2] 181 (0, 0))) (hvb : v.ownBlock ≠ some b) :
    Calls Try.prog 104 #[v, .int .i64 a, .slice (some ⟨b, 0, none⟩) 1 1] w fun e w' => ∃ v', e = .returned v' ∧ InsOut w w' v v' l a x := by
  by_cases hae : a = l.length
  · subst hae
    exact insert_end h hl x b hb
  · rcases SlRow.form h with ⟨_, hn⟩ | ⟨g, o, cap, hv⟩
    · omega
    · subst hv
      by_cases hc : l.length + 1 ≤ cap
      · exact insert_shift h hl a (by omega) hc x b hb (fun e => hvb (by rw [e]; rfl))
      · exact insert_grow h hl a (by omega) (by omega) x b hb

/-- A port goes in. -/
def ins (o : Int) (l : List Hd) (p : Int) : List Hd := l.take (atOf p l) ++ (p, o) :: l.drop (atOf p l)

theorem ins_rising {l : List Hd} (h : Rising l) {p : Int} (o : Int) (hf : foundAt p l (atOf p l) = false) : Rising (ins o l p) := by
  have hA := isAt_atOf p h
  unfold ins
  generalize atOf p l = k at hf hA
  unfold Rising
  rw [List.pairwise_append]
  refine ⟨h.sublist (List.take_sublist _ _), List.pairwise_cons.2 ⟨fun y hy => ?_, h.sublist (List.drop_sublist _ _)⟩, fun y hy z hz => ?_⟩
  · obtain ⟨i, hi⟩ := List.mem_iff_getElem?.1 hy
    rw [List.getElem?_drop] at hi
    obtain ⟨hil, rfl⟩ := List.getElem?_eq_some_iff.1 hi
    have h1 := hA.2.2 (k + i) hil (by omega)
    have hk : k < l.length := by omega
    unfold foundAt at hf
    rw [List.getElem?_eq_getElem hk] at hf
    simp at hf
    rcases Nat.eq_zero_or_pos i with h0 | h0
    · subst h0
      simp at h1 ⊢
      omega
    · have h2 := List.pairwise_iff_getElem.1 h k (k + i) hk hil (by omega)
      have h3 := hA.2.2 k hk (Nat.le_refl _)
      simp only
      omega
  · obtain ⟨i, hi⟩ := List.mem_iff_getElem?.1 hy
    have hik : i < k := by have := (List.getElem?_eq_some_iff.1 hi).1; rw [List.length_take] at this; omega
    rw [List.getElem?_take_of_lt hik] at hi
    obtain ⟨hil, rfl⟩ := List.getElem?_eq_some_iff.1 hi
    have h1 := hA.2.1 i hil hik
    rcases List.mem_cons.1 hz with rfl | hz
    · exact h1
    · obtain ⟨j, hj⟩ := List.mem_iff_getElem?.1 hz
      rw [List.getElem?_drop] at hj
      obtain ⟨hjl, rfl⟩ := List.getElem?_eq_some_iff.1 hj
      exact List.pairwise_iff_getElem.1 h i (k + j) hil hjl (by omega)

/-- All of them go in, or none. -/
def takeAll (o : Int) : List Int → List Hd → Option (List Hd)
  | [], l => some l
  | p :: ps, l => if foundAt p l (atOf p l) then none else takeAll o ps (ins o l p)

/-- May all of them be ports? -/
def allPorts (ps : List Int) : Prop := ∀ p ∈ ps, 1 ≤ p ∧ p ≤ 65535
end Go.Proofs.Ytnceglkoolfncaa.Po
