/- Relist: rows of structs, read and written: words for the law RelistMine. -/
import Derived.Test.YtnceglkoolfncaaNk
import Derived.Test.YtnceglkoolfncaaSt
set_option linter.unusedSimpArgs false
set_option linter.unusedVariables false
namespace Go.Pv
open Go Go.RowKit Go.Proofs.YtnceglkoolfncaaW.PrintWords

theorem Reps.one_ {α : Type} {d : Kd α} {w : World} {xs : List α} {cs : List Value} (h : Reps (d.K w) d.sz xs cs) (hs : 0 < d.sz) : ∀ u ∈ cs, u.oneCell' = true := by
  intro u hu
  obtain ⟨j, hj, rfl⟩ := List.getElem_of_mem hu
  have hl := h.1
  have hq : j / d.sz < xs.length := by
    rw [Nat.div_lt_iff_lt_mul hs]; omega
  have hk := h.2 (j / d.sz) _ (List.getElem?_eq_getElem hq)
  refine d.K_one hk _ ?_
  rw [List.mem_iff_getElem?]
  refine ⟨j % d.sz, ?_⟩
  rw [List.getElem?_take, if_pos (Nat.mod_lt _ hs), List.getElem?_drop]
  have := Nat.div_add_mod j d.sz
  rw [show j / d.sz * d.sz + j % d.sz = j by rw [Nat.mul_comm]; exact this]
  exact List.getElem?_eq_getElem hj

theorem Reps.below_ {α : Type} {d : Kd α} {w w' : World} {xs : List α} {cs : List Value} (h : Reps (d.K w) d.sz xs cs) (hb : Below w.heap.size w w') : Reps (d.K w') d.sz xs cs := h.imp_ fun _ _ hp => d.K_below hb hp

/-- The cells of what is read. -/
theorem Rz.inner {α : Type} {d : Kd α} {w : World} {v : Value} {xs : List α} (h : Rz d w v xs) (hne : xs ≠ []) : ∃ ad c inner, v = .slice (some ad) xs.length c ∧ Reps (d.K w) d.sz xs inner ∧ ∀ j u, inner[j]? = some u → w.cell? (ad.add j) = some u := by
  obtain ⟨A, c, h1, _, h3⟩ := h
  obtain ⟨ad, rfl, _⟩ := h3.2.2 (by have := hne; cases xs with | nil => exact absurd rfl this | cons a r => simp)
  obtain ⟨inner, q1, q2⟩ := ReadsRow.inner_ h3
  exact ⟨ad, c, inner, h1, q1, q2⟩

theorem seg_set_ne {L : List Value} {n k j dd : Nat} {v : Value} (hd : dd < n) (hjk : j ≠ k) : ((L.set (k * n + dd) v).drop (j * n)).take n = (L.drop (j * n)).take n := by
  apply List.ext_getElem?
  intro i
  rw [List.getElem?_take, List.getElem?_take]
  split
  · rename_i hi
    rw [List.getElem?_drop, List.getElem?_drop, List.getElem?_set_ne]
    intro e
    rcases Nat.lt_or_gt_of_ne hjk with h | h
    · have : (j + 1) * n ≤ k * n := Nat.mul_le_mul_right _ h
      rw [Nat.add_mul] at this
      omega
    · have : (k + 1) * n ≤ j * n := Nat.mul_le_mul_right _ h
      rw [Nat.add_mul] at this
      omega
  · rfl
theorem seg_set_eq {L : List Value} {n k dd : Nat} {v : Value} (hd : dd < n) : ((L.set (k * n + dd) v).drop (k * n)).take n = ((L.drop (k * n)).take n).set dd v := by
  rw [List.drop_set, if_neg (by omega), List.take_set]
  congr 1
  omega
theorem flat_len {α : Type} {R : α → List Value → Prop} {sz : Nat} {ps : List α} {cs : List Value} (h : Reps R sz ps cs) : cs.length = ps.length * sz := h.1
end Go.Pv
namespace Go.Proofs.Ytnceglkoolfncaa.Rl
open Go.RowKit Go.Pv Go.Proofs.Ytnceglkoolfncaa.Po Go.Proofs.YtnceglkoolfncaaW.PrintWords

/-- The container that is new. -/
def cv9 : CV := ⟨20000, ⟨#[]⟩, ⟨#[]⟩, ⟨4, 0, 0⟩, false⟩
def cells9 : List Value := [.int .i64 20000, .string ⟨#[]⟩, .string ⟨#[]⟩, .int .i64 4, .int .i64 0, .int .i64 0, .bool false]
theorem k9 (w : World) : PRelistNone.k112.K w cv9 cells9 := PRelistNone.k112_mk w cv9

theorem info112' : ∃ i, Try.prog.info? 112 = some i ∧ i.zero = some (.agg #[.int .i64 0, .string ⟨#[]⟩, .string ⟨#[]⟩, .int .i64 0, .int .i64 0, .int .i64 0, .bool false]) ∧ i.size = 7 ∧ i.bytes = 72 :=
  info_parts (show (Try.prog.info? 112).map (fun i => (i.zero, i.size, i.bytes)) = some (some (.agg #[.int .i64 0, .string ⟨#[]⟩, .string ⟨#[]⟩, .int .i64 0, .int .i64 0, .int .i64 0, .bool false]), 7, 72) by kernel_rfl)
theorem info108' : ∃ i, Try.prog.info? 108 = some i ∧ i.zero = some (.agg #[.int .i64 0, .int .i64 0, .int .i64 0, .slice none 0 0]) ∧ i.size = 4 ∧ i.bytes = 48 :=
  info_parts (show (Try.prog.info? 108).map (fun i => (i.zero, i.size, i.bytes)) = some (some (.agg #[.int .i64 0, .int .i64 0, .int .i64 0, .slice none 0 0]), 4, 48) by kernel_rfl)

/-- A copy of a list: a row of its own. -/
theorem copyB {W W1 : World} {va : Value} {l : List BV} (h : Rz PRelistNone.k108 W va l) (hne : l ≠ []) (hl : l.length ≤ 1000) (hW1 : W1 = W.alloc (.cells #[] 108)) :
    ∃ g o cap inner w2, (Builtin.append_ #[99, 99] 99 #[.slice (some ⟨W.heap.size, 0, none⟩) 0 0, va]).run Try.prog W1 = .ok (.slice (some ⟨g, o, none⟩) l.length cap) w2 ∧ SlRow w2 108 4 (.slice (some ⟨g, o, none⟩) l.length cap) l.length inner ∧
      Reps (PRelistNone.k108.K W) 4 l inner ∧ W.heap.size ≤ g ∧ Below W.heap.size W w2 ∧ ∃ ad c, va = .slice (some ad) l.length c ∧ ∀ j u, inner[j]? = some u → W.cell? (ad.add j) = some u := by
  obtain ⟨ad, c, inner, rfl, hr, hc⟩ := h.inner hne
  have k1 : Below W.heap.size W W1 := by rw [hW1]; exact (Below.refl _ W).alloc (Nat.le_refl _) _
  have hrow : SlRow W1 108 4 (.slice (some ⟨W.heap.size, 0, none⟩) 0 0) 0 [] := by rw [hW1]; exact SlRow.made W 108 4 0 #[] rfl (by unfold maxLen; omega)
  obtain ⟨i0, hi, hz0, hz1, hz2⟩ := info108'
  obtain ⟨v', w2, q1, q2, q3, q4, -, -⟩ := run_append_sl (P := Try.prog) W1 99 99 108 i0 _ 4 48 Try.underlying99 hi hz0 hz1 hz2 rfl _ 0 [] hrow (.slice (some ad) l.length c) l.length inner
    (.inr ⟨ad, c, rfl, fun j u hu => pw_cell_below k1 (hc j u hu)⟩) hr.1 (Reps.one_ hr (by decide)) (by unfold maxLen; omega) (by omega)
  rw [Nat.zero_add, List.nil_append] at q2
  obtain ⟨g, o, cap, rfl⟩ : ∃ g o cap, v' = .slice (some ⟨g, o, none⟩) l.length cap := by
    rcases SlRow.form q2 with ⟨_, h1⟩ | h1
    · exact absurd (List.eq_nil_of_length_eq_zero h1) hne
    · exact h1
  have hg : W.heap.size ≤ g := by
    rcases q4 with h1 | h1
    · simp [Value.ownBlock] at h1; omega
    · simp [Value.ownBlock] at h1; have := k1.size; omega
  exact ⟨g, o, cap, inner, w2, q1, q2, hr, hg, k1.trans (q3.below (B := W.heap.size) k1.size (fun i hi => by simp [Value.ownBlock] at hi; omega)), ad, c, rfl, hc⟩

/-- A copy of containers, and the new one behind them. -/
theorem copyC {W W1 : World} {va : Value} {l : List CV} (h : Rz PRelistNone.k112 W va l) (hl : l.length ≤ 1000) (hW1 : W1 = W.alloc (.cells #[] 112)) :
    ∃ v1 w2, (Builtin.append_ #[106, 106] 106 #[.slice (some ⟨W.heap.size, 0, none⟩) 0 0, va]).run Try.prog W1 = .ok v1 w2 ∧ Below W.heap.size W w2 ∧ (∃ A n c, v1 = .slice A n c) ∧
      ∃ g o cap inner w3, (Builtin.append_ #[106, 106] 106 #[v1, .slice (some ⟨w2.heap.size, 0, none⟩) 1 1]).run Try.prog (w2.alloc (.cells cells9.toArray 112)) = .ok (.slice (some ⟨g, o, none⟩) (l.length + 1) cap) w3 ∧
      SlRow w3 112 7 (.slice (some ⟨g, o, none⟩) (l.length + 1) cap) (l.length + 1) inner ∧ Reps (PRelistNone.k112.K W) 7 (l ++ [cv9]) inner ∧ W.heap.size ≤ g ∧ Below W.heap.size W w3 := by
  have k1 : Below W.heap.size W W1 := by rw [hW1]; exact (Below.refl _ W).alloc (Nat.le_refl _) _
  have hrow : SlRow W1 112 7 (.slice (some ⟨W.heap.size, 0, none⟩) 0 0) 0 [] := by rw [hW1]; exact SlRow.made W 112 7 0 #[] rfl (by unfold maxLen; omega)
  obtain ⟨i0, hi, hz0, hz1, hz2⟩ := info112'
  obtain ⟨v1, w2, inner, q1, q2, hr, hg, kk⟩ : ∃ v1 w2 inner, (Builtin.append_ #[106, 106] 106 #[.slice (some ⟨W.heap.size, 0, none⟩) 0 0, va]).run Try.prog W1 = .ok v1 w2 ∧ SlRow w2 112 7 v1 l.length inner ∧ Reps (PRelistNone.k112.K W) 7 l inner ∧ (∀ g, v1.ownBlock = some g → W.heap.size ≤ g) ∧ Below W.heap.size W w2 := by
    cases l with
    | nil =>
      obtain ⟨A, c, rfl⟩ := h.form
      have hr : (Builtin.append_ #[106, 106] 106 #[.slice (some ⟨W.heap.size, 0, none⟩) 0 0, .slice A ([] : List CV).length c]).run Try.prog W1 = .ok (.slice (some ⟨W.heap.size, 0, none⟩) 0 0) W1 := by
        cases A <;> simp [Builtin.append_, run_underlying Try.underlying106, sizeOf, typeInfo, hi, Builtin.lenOf, Builtin.firstCells, loadCells, loadCellsFrom, storeCells]
      exact ⟨_, W1, [], hr, hrow, Reps.none _ _, fun g hg => by simp [Value.ownBlock] at hg; omega, k1⟩
    | cons a r =>
      obtain ⟨ad, c, inner, rfl, hr, hc⟩ := h.inner (by simp)
      obtain ⟨v', w2, q1, q2, q3, q4, -, -⟩ := run_append_sl (P := Try.prog) W1 106 106 112 i0 _ 7 72 Try.underlying106 hi hz0 hz1 hz2 rfl _ 0 [] hrow (.slice (some ad) (a :: r).length c) (a :: r).length inner
        (.inr ⟨ad, c, rfl, fun j u hu => pw_cell_below k1 (hc j u hu)⟩) hr.1 (Reps.one_ hr (by decide)) (by unfold maxLen; omega) (by omega)
      rw [Nat.zero_add, List.nil_append] at q2
      refine ⟨v', w2, inner, q1, q2, hr, fun g hg => ?_, k1.trans (q3.below (B := W.heap.size) k1.size (fun i hi => by simp [Value.ownBlock] at hi; omega))⟩
      rcases q4 with h1 | h1
      · rw [h1] at hg; simp [Value.ownBlock] at hg; omega
      · rw [h1] at hg; simp at hg; have := k1.size; omega
  have k3 : Below w2.heap.size w2 (w2.alloc (.cells cells9.toArray 112)) := (Below.refl _ w2).alloc (Nat.le_refl _) _
  have bx := heap_at w2 (.cells cells9.toArray 112) _ rfl
  have s3 : SlRow (w2.alloc (.cells cells9.toArray 112)) 112 7 v1 l.length inner := SlRow.kept q2 (Keeps.of_below (F := fun _ => False) k3) (by simp)
  obtain ⟨v2, w3, r1, r2, r3, r4, -, -⟩ := run_append_sl (P := Try.prog) _ 106 106 112 i0 _ 7 72 Try.underlying106 hi hz0 hz1 hz2 rfl _ _ _ s3 (.slice (some ⟨w2.heap.size, 0, none⟩) 1 1) 1 cells9
    (.inr ⟨_, _, rfl, World.news_of_block (cs := cells9.toArray) (t := 112) (fr := (0, 0)) bx⟩) rfl (by simp [cells9, Value.oneCell']) (by unfold maxLen; omega) (by omega)
  obtain ⟨g, o, cap, rfl⟩ : ∃ g o cap, v2 = .slice (some ⟨g, o, none⟩) (l.length + 1) cap := by
    rcases SlRow.form r2 with ⟨_, h1⟩ | h1
    · omega
    · exact h1
  refine ⟨v1, w2, q1, kk, ?_, g, o, cap, inner ++ cells9, w3, r1, r2, ?_, ?_, ?_⟩
  · rcases SlRow.form q2 with ⟨h1, _⟩ | ⟨g, o, c, h1⟩
    · exact ⟨_, _, _, h1⟩
    · exact ⟨_, _, _, h1⟩
  · exact Reps.snoc hr (k9 W) rfl
  · rcases r4 with h1 | h1
    · exact hg g (h1 ▸ rfl)
    · simp [Value.ownBlock] at h1; have := kk.size; omega
  · have h1 : Below W.heap.size W (w2.alloc (.cells cells9.toArray 112)) := kk.trans (k3.mono kk.size)
    exact h1.trans (r3.below (B := W.heap.size) h1.size (fun i hi => hg i hi))

/-- The list with one more container in place k. -/
def more (l : List BV) (k : Nat) : List BV := match l[k]? with | some b => l.set k { b with f3 := b.f3 ++ [cv9] } | none => l

theorem more_eq {l : List BV} {k : Nat} (hk : k < l.length) : more l k = l.take k ++ { l[k] with f3 := l[k].f3 ++ [cv9] } :: l.drop (k + 1) := by
  unfold more
  rw [List.getElem?_eq_getElem hk]
  simp only
  rw [List.set_eq_take_append_cons_drop, if_pos hk]
theorem diff_more {l : List BV} {k : Nat} (hk : k < l.length) : diffL l (more l k) = [(4, l[k].f1, l[k].f0, 20000), (7, l[k].f1, l[k].f0, 20000)] := by
  have e : l = l.take k ++ l[k] :: l.drop (k + 1) := by rw [← List.drop_eq_getElem_cons hk, List.take_append_drop]
  rw [more_eq hk]
  conv => lhs; arg 1; rw [e]
  exact diffL_mine (l.take k) (l.drop (k + 1)) l[k] cv9 rfl
theorem more_few {l : List BV} {k : Nat} (h : Few20 l) : Few (more l k) := by
  unfold more
  cases hk : l[k]? with
  | none => exact h.few
  | some b =>
    refine ⟨by simp; have := h.1; omega, fun x hx => ?_⟩
    rcases List.mem_or_eq_of_mem_set hx with h1 | h1
    · have := h.2 x h1; omega
    · rw [h1]
      have := h.2 b (List.mem_of_getElem? hk)
      simp; omega

/-- It reads so. -/
theorem rz_more {w W3 W4 : World} {l : List BV} {k g o cap : Nat} {inner : List Value} {v2 : Value} (hk : k < l.length) (hs : SlRow W3 108 4 (.slice (some ⟨g, o, none⟩) l.length cap) l.length inner) (hr : Reps (PRelistNone.k108.K w) 4 l inner)
    (hW4 : W4 = W3.setCell ⟨g, o + (k * 4 + 3), none⟩ v2) (hb : Below w.heap.size w W4) (hv : Rz PRelistNone.k112 W4 v2 (l[k].f3 ++ [cv9])) : Rz PRelistNone.k108 W4 (.slice (some ⟨g, o, none⟩) l.length cap) (more l k) := by
  have hl : (more l k).length = l.length := by unfold more; rw [List.getElem?_eq_getElem hk]; simp
  have h4 := SlRow.setCell hs rfl (k * 4 + 3) v2 (by omega)
  rw [← hW4] at h4
  rw [← hl] at h4 ⊢
  refine rz_of_row h4 ⟨by rw [List.length_set, hr.1, hl]; rfl, fun j p hj => ?_⟩
  show PRelistNone.k108.K W4 p (((inner.set (k * 4 + 3) v2).drop (j * 4)).take 4)
  by_cases hjk : j = k
  · subst hjk
    rw [seg_set_eq (by omega)]
    have hp : p = { l[j] with f3 := l[j].f3 ++ [cv9] } := by
      unfold more at hj
      rw [List.getElem?_eq_getElem hk] at hj
      simp only [List.getElem?_set_self hk, Option.some.injEq] at hj
      exact hj.symm
    subst hp
    obtain ⟨A, c, e, _, _⟩ := PRelistNone.k108_open (hr.2 j l[j] (List.getElem?_eq_getElem hk))
    have e' : (inner.drop (j * 4)).take 4 = _ := e
    rw [e']
    obtain ⟨A2, c2, rfl, h5, h6⟩ := hv
    exact PRelistNone.k108_mk W4 { l[j] with f3 := l[j].f3 ++ [cv9] } h5 h6
  · rw [seg_set_ne (by omega) hjk]
    have hj' : l[j]? = some p := by
      unfold more at hj
      rw [List.getElem?_eq_getElem hk] at hj
      simp only [List.getElem?_set_ne (fun e => hjk e.symm)] at hj
      exact hj
    exact PRelistNone.k108.K_below hb (hr.2 j p hj')
end Go.Proofs.Ytnceglkoolfncaa.Rl
