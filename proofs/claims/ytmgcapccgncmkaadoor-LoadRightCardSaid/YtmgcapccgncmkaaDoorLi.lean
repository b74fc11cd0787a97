/- Scripts: an entry's line (45.1). -/
import Derived.Test.YtmgcapccgncmkaaDoorLg
import Derived.Test.YtmgcapccgncmkaaDoorLh
set_option linter.unusedSimpArgs false
set_option linter.unusedVariables false
namespace Go.Proofs.YtmgcapccgncmkaaDoor.Ld
open Go.RowKit Go.Pv Go.Proofs.YtmgcapccgncmkaaDoor.PLoadScripts Go.Proofs.YtmgcapccgncmkaaDoorW.PrintWords Go.Proofs.YtmgcapccgncmkaaDoorW.PrintLast Go.Proofs.YtmgcapccgncmkaaDoorW.PrintMore

def ntext (n : Int) : ByteArray := strOfNums (digs n)
set_option maxRecDepth 10000 in
theorem text_any (n : Int) (h0 : 0 ≤ n) (h1 : n ≤ 9223372036854775807) (w : World) : Calls Tryd.prog 54 #[.int .i64 n] w fun e w' => e = .returned (.string (ntext n)) ∧ Below w.heap.size w w' := by
  have HD := hid (fun W => digits_any n h0 (by omega) W)
  have b1 : decide (n < 0) = false := decide_eq_false (by omega)
  have hw : IntKind.u64.wrap n = n := IntWalk.u64_in _ (by omega)
  go_enter Tryd.func54, Tryd.ntmps54
  go_wp2_with (go_at_call 84; go_must (with_reducible refine (HD.out _).mono ?_); rintro e w1 ⟨rfl, hb⟩)
  go_ret
  exact ⟨rfl, hb⟩
theorem digsF_length : ∀ (k : Nat) (n : Int) (acc : List Int), (digsF k n acc).length ≤ k + acc.length
  | 0, n, acc => by simp [digsF]
  | k + 1, n, acc => by
    rw [digsF]
    split
    · simp; omega
    · have := digsF_length k (n / 10) ((48 + n % 10) :: acc)
      simp only [List.length_cons] at this
      omega
theorem strOfNums_size (xs : List Int) : (strOfNums xs).data.toList.length = xs.length := by simp [strOfNums]
theorem ntext_size (n : Int) : (ntext n).data.toList.length ≤ 20 := by
  rw [ntext, strOfNums_size]
  exact Nat.le_trans (digsF_length 20 n []) (by simp)

/-- A line's parts. -/
def heads (E : Ent) : List ByteArray := (vb E.1).1 :: E.2.1.map ntext
def partsL (E : Ent) : List ByteArray := heads E ++ (if (vb E.1).2.2 = 2 then [E.2.2] else [])
def lineL (E : Ent) : ByteArray := ⟨(Lib.join ((partsL E).map (·.data.toList)) [32]).toArray⟩
/-- While a line's parts are gathered. -/
structure LW (w W : World) (b3 : Nat) (E : Ent) (A : Option Addr) (c : Nat) (v : Value) (xs : List ByteArray) : Prop where
  low : Below w.heap.size w W
  b1 : W.heap[w.heap.size]? = some (.cells #[.int .i64 E.1, .slice A E.2.1.length c, .string E.2.2] 34 (0, 0))
  b3 : W.heap[b3]? = some (.cells #[.string (vb E.1).1, .int .i64 (vb E.1).2.1, .int .i64 (vb E.1).2.2] 113 (0, 0))
  row : Kd.string.R 9 W w.heap.size (fun _ => True) v xs
section
variable {w W V : World} {b3 c : Nat} {E : Ent} {A : Option Addr} {v v1 : Value} {xs ys : List ByteArray}
theorem LW.later (h : LW w W b3 E A c v xs) (hb : Below W.heap.size W V) : LW w V b3 E A c v xs :=
  ⟨h.low.trans (hb.mono h.low.size), (hb.block _ (Array.getElem?_eq_some_iff.1 h.b1).1).trans h.b1, (hb.block _ (Array.getElem?_eq_some_iff.1 h.b3).1).trans h.b3, Kd.R_below h.row hb⟩
theorem LW.put (h : LW w W b3 E A c v xs) (hr : Kd.string.R 9 V w.heap.size (fun _ => True) v1 ys) (hb : Below w.heap.size w V) (hg : W.grownBy V v.ownBlock) : LW w V b3 E A c v1 ys :=
  ⟨hb, (hg.block _ (Array.getElem?_eq_some_iff.1 h.b1).1 (Kd.R_ne h.row h.b1 (by decide))).trans h.b1, (hg.block _ (Array.getElem?_eq_some_iff.1 h.b3).1 (Kd.R_ne h.row h.b3 (by decide))).trans h.b3, hr⟩
theorem LW.cells (h : LW w W b3 E A c v xs) : W.cell? ⟨w.heap.size, 0, none⟩ = some (.int .i64 E.1) ∧ W.cell? ⟨w.heap.size, 1, none⟩ = some (.slice A E.2.1.length c) ∧ W.cell? ⟨w.heap.size, 2, none⟩ = some (.string E.2.2) ∧ W.cell? ⟨b3, 2, none⟩ = some (.int .i64 (vb E.1).2.2) := by
  refine ⟨?_, ?_, ?_, ?_⟩
  · rw [cell_of_row _ _ _ _ _ _ h.b1]; rfl
  · rw [cell_of_row _ _ _ _ _ _ h.b1]; rfl
  · rw [cell_of_row _ _ _ _ _ _ h.b1]; rfl
  · rw [cell_of_row _ _ _ _ _ _ h.b3]; rfl
end
theorem rightB_nums {E : Ent} (h : rightB E = true) (n : Int) (hn : n ∈ E.2.1) : 0 ≤ n ∧ n ≤ 1073741824 := by
  unfold rightB at h
  simp only [Bool.and_eq_true, List.all_eq_true] at h
  have := h.1.2 n hn
  unfold numB at this
  simpa using this
theorem rightB_verb {E : Ent} (h : rightB E = true) : 1 ≤ E.1 ∧ E.1 < 24 := by
  unfold rightB at h
  simp only [Bool.and_eq_true, decide_eq_true_eq] at h
  exact ⟨h.1.1.1.1, h.1.1.1.2⟩
theorem vb_small (v : Int) : (vb v).2.1 ≤ 5 ∧ (vb v).1.data.toList.length ≤ 10 := by
  have h : ∀ i, (vtab.getD i (⟨#[]⟩, 0, 0)).2.1 ≤ 5 ∧ (vtab.getD i (⟨#[]⟩, 0, 0)).1.data.toList.length ≤ 10 := by
    intro i
    by_cases hi : i < 24
    · have : ∀ i : Fin 24, (vtab.getD i.1 (⟨#[]⟩, 0, 0)).2.1 ≤ 5 ∧ (vtab.getD i.1 (⟨#[]⟩, 0, 0)).1.data.toList.length ≤ 10 := by decide
      exact this ⟨i, hi⟩
    · rw [List.getD_eq_getElem?_getD, List.getElem?_eq_none (by show 24 ≤ i; omega)]
      decide
  exact h v.toNat
theorem rightB_len {E : Ent} (h : rightB E = true) : E.2.1.length ≤ 5 := by
  have := (vb_small E.1).1
  unfold rightB at h
  simp only [Bool.and_eq_true, decide_eq_true_eq] at h
  have := h.1.1.2
  omega
theorem rightB_data {E : Ent} (h : rightB E = true) (hk : (vb E.1).2.2 = 2) : E.2.2.size ≤ 16 := by
  unfold rightB at h
  simp only [Bool.and_eq_true, decide_eq_true_eq] at h
  have h2 := h.2
  rw [hk] at h2
  have h3 : nameB E.2.2 = true := h2
  unfold nameB at h3
  simp only [Bool.and_eq_true, decide_eq_true_eq] at h3
  exact h3.1.1.1.2
theorem lens_le : ∀ (l : List (List UInt8)) (m : Nat), (∀ x ∈ l, x.length ≤ m) → Lib.lens l ≤ l.length * m
  | [], m, _ => by simp [Lib.lens]
  | x :: l, m, h => by
    have h1 := lens_le l m (fun y hy => h y (List.mem_cons_of_mem _ hy))
    have h2 := h x List.mem_cons_self
    simp only [Lib.lens, List.length_cons, Nat.add_mul, List.map_cons, List.sum_cons] at h1 ⊢
    omega
theorem parts_small {E : Ent} (h : rightB E = true) : (partsL E).length ≤ 7 ∧ (Lib.join ((partsL E).map (·.data.toList)) [32]).length ≤ 1000 := by
  have hl := rightB_len h
  have hp : (partsL E).length ≤ 7 := by
    unfold partsL heads
    split <;> simp <;> omega
  have hm : ∀ x ∈ (partsL E).map (·.data.toList), x.length ≤ 20 := by
    intro x hx
    obtain ⟨y, hy, rfl⟩ := List.mem_map.1 hx
    unfold partsL heads at hy
    simp only [List.mem_append, List.mem_cons, List.mem_map] at hy
    rcases hy with (rfl | ⟨n, _, rfl⟩) | hy
    · exact Nat.le_trans (vb_small E.1).2 (by omega)
    · exact ntext_size n
    · split at hy
      · rename_i hk
        simp only [List.mem_singleton] at hy
        subst hy
        have := rightB_data h hk
        show E.2.2.data.toList.length ≤ 20
        rw [Array.length_toList]
        exact Nat.le_trans this (by omega)
      · cases hy
  refine ⟨hp, ?_⟩
  cases hc : (partsL E).map (·.data.toList) with
  | nil => simp [Lib.join_nil]
  | cons x r =>
    rw [hc] at hm
    rw [Lib.join_length]
    have h1 := lens_le (x :: r) 20 hm
    have h2 : (x :: r).length = (partsL E).length := by rw [← hc, List.length_map]
    have h3 : r.length ≤ 7 := by simp at h2; omega
    have h4 : (x :: r).length * 20 ≤ 140 := by omega
    simp only [List.length_cons, List.length_nil]
    omega
end Go.Proofs.YtmgcapccgncmkaaDoor.Ld
