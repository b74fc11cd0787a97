/- Words of our own, over any program: what is stored into a slice of the call's own. -/
import Derived.Test.YtmgcapccgncmkaaDoorMs
namespace Go.Pv
open Go
variable {P : Program} {w : World} {e : TypeId} {sz n : Nat} {v : Value} {xs : List Value}

/-- One cell. -/
theorem SlRow.setCell (h : SlRow w e sz v n xs) {g o cap : Nat} (hv : v = .slice (some ⟨g, o, none⟩) n cap) (j : Nat) (u : Value) (hj : j < n * sz) : SlRow (w.setCell ⟨g, o + j, none⟩ u) e sz v n (xs.set j u) := by
  rcases h.2 with ⟨rfl, _⟩ | ⟨g', o', cap', cur, rfl, hb, h1, h2, h3, h4⟩
  · cases hv
  · simp only [Value.slice.injEq, Option.some.injEq, Addr.mk.injEq, true_and, and_true] at hv
    obtain ⟨⟨rfl, rfl⟩, rfl⟩ := hv
    refine ⟨by simpa using h.1, .inr ⟨g', o', cap', _, rfl, heap_setCell_same w g' (o' + j) cur e u hb, h1, h2, by simpa using h3, ?_⟩⟩
    rw [Array.toList_setIfInBounds, List.drop_set, if_neg (by omega), List.take_set, h4]
    congr 1
    omega

/-- Many. -/
theorem SlRow.storeCells (h : SlRow w e sz v n xs) {g o cap : Nat} (hv : v = .slice (some ⟨g, o, none⟩) n cap) (j : Nat) (news : List Value) (hj : j + news.length ≤ n * sz) (h1 : ∀ u ∈ news, u.oneCell' = true) :
    ∃ w', (Go.storeCells ⟨g, o + j, none⟩ news).run P w = .ok () w' ∧ SlRow w' e sz v n (xs.take j ++ news ++ xs.drop (j + news.length)) ∧ Keeps (fun k => k = g) w w' ∧ w'.heap.size = w.heap.size := by
  rcases h.2 with ⟨rfl, _⟩ | ⟨g', o', cap', cur, rfl, hb, q1, q2, q3, q4⟩
  · cases hv
  · simp only [Value.slice.injEq, Option.some.injEq, Addr.mk.injEq, true_and, and_true] at hv
    obtain ⟨⟨rfl, rfl⟩, rfl⟩ := hv
    have hle : n * sz ≤ cap' * sz := Nat.mul_le_mul_right _ q1
    have hst := run_storeCells_at P g' (o' + j) e news 0 cur w hb (by simp; omega) h1
    simp only [Nat.add_zero] at hst
    refine ⟨_, hst, ⟨by simp [h.1]; omega, .inr ⟨g', o', cap', _, rfl, setRow_heap w g' cur _ e _ hb, q1, q2, ?_, ?_⟩⟩, ⟨rfl, rfl, rfl, by simp [World.setRow], fun k _ hk => setRow_other w g' k _ hk⟩, by simp [World.setRow]⟩
    · simp only [List.size_toArray, List.length_append, List.length_take, List.length_drop, Array.length_toList]
      omega
    · have ho : o' ≤ cur.toList.length := by simp; omega
      have e1 : List.take (o' + j) cur.toList = List.take o' cur.toList ++ (List.drop o' cur.toList).take j := List.take_add
      have hxl := h.1
      have e2 : (List.drop o' cur.toList).take j = xs.take j := by rw [← q4, List.take_take]; congr 1; omega
      have e3 : List.drop (o' + j + news.length) cur.toList = (List.drop o' cur.toList).drop (j + news.length) := by rw [List.drop_drop]; congr 1; omega
      simp only [e1, e2, e3, List.append_assoc]
      rw [List.drop_append]
      have d0 : List.drop o' (List.take o' cur.toList) = [] := by simp
      simp only [List.length_take, Nat.min_eq_left ho, Nat.sub_self, List.drop_zero, d0, List.nil_append]
      have hj' : (xs.take j).length = j := by rw [List.length_take, hxl]; omega
      rw [List.take_append, List.take_append, hj', List.take_of_length_le (by omega : (xs.take j).length ≤ n * sz), List.take_of_length_le (by omega : news.length ≤ n * sz - j)]
      congr 2
      rw [← q4, List.drop_take]
      congr 1
      omega

/-- v[a:], told. -/
theorem run_slice_from' {t e : TypeId} {i : TypeInfo} (ht : P.underlying t = some (.slice e)) (hi : P.info? e = some i) (g o n cap a : Nat) (ha : a ≤ n) (hc : cap ≠ a) (w' : World) :
    (Instr.slice t (.slice (some ⟨g, o, none⟩) n cap) (some (.int .i64 (a : Nat))) none none).run P w' = .ok (.slice (some ⟨g, o + a * i.size, none⟩) (n - a) (cap - a)) w' := by
  have := run_sliceBound_ok (P := P) w' a n .sliceB ha
  simp only [Instr.slice, Instr.sliceBounds, Sem.run_bind, run_underlying ht, Result.andThen_ok, Sem.run_pure, Option.isSome_none, this, sizeOf, typeInfo, run_program, hi, Bool.false_eq_true, if_false]
  congr 2
  simp [hc, Addr.add_lit]

/-- 'clear' of the rest of a row. -/
theorem SlRow.clear (h : SlRow w e sz v n xs) {t ty : TypeId} (ht : P.underlying t = some (.slice e)) {z : Value} (hz : ∀ w, (zeroValue e).run P w = .ok z w) (hzs : z.cells.size = sz) (hz1 : ∀ u ∈ z.cells, u.oneCell' = true)
    {g o cap : Nat} (hv : v = .slice (some ⟨g, o, none⟩) n cap) (a c : Nat) (ha : a < n) :
    ∃ w', (Builtin.clear_ #[t] ty #[.slice (some ⟨g, o + a * sz, none⟩) (n - a) c]).run P w = .ok (.tuple #[]) w' ∧ SlRow w' e sz v n (xs.take (a * sz) ++ (Builtin.zeroCells z.cells (n - a)).toList) ∧ Keeps (fun k => k = g) w w' ∧ w'.heap.size = w.heap.size := by
  have hsz : (Builtin.zeroCells z.cells (n - a)).toList.length = (n - a) * sz := by rw [Array.length_toList, size_zeroCells, hzs]
  have hmul : a * sz + (n - a) * sz = n * sz := by rw [← Nat.add_mul]; congr 1; omega
  obtain ⟨w', h1, h2, h3, h4⟩ := h.storeCells (P := P) hv (a * sz) (Builtin.zeroCells z.cells (n - a)).toList (by rw [hsz]; omega) (fun u hu => by
    simp only [Builtin.zeroCells, Array.mem_toList_iff] at hu
    obtain ⟨i, hir, hi⟩ := Array.mem_map.1 hu
    subst hi
    have hlt : i < (n - a) * z.cells.size := by simpa using hir
    have hpos : 0 < z.cells.size := by
      rcases Nat.eq_zero_or_pos z.cells.size with h0 | h0
      · rw [h0] at hlt; omega
      · exact h0
    rw [getElem!_pos z.cells (i % z.cells.size) (Nat.mod_lt _ hpos)]
    exact hz1 _ (Array.getElem_mem _))
  refine ⟨w', ?_, ?_, h3, h4⟩
  · obtain ⟨m, hm⟩ : ∃ m, n - a = m + 1 := ⟨n - a - 1, by omega⟩
    rw [hm] at h1 ⊢
    simp [Builtin.clear_, run_underlying ht, hz, h1]
  · rw [hsz, hmul, List.drop_of_length_le (by rw [h.1]; exact Nat.le_refl _), List.append_nil] at h2
    exact h2

section
variable {ops : Array Oper} {rest : List Oper} {o : Oper} {a : Act} {Q : Exit → Act → World → Prop}
theorem wl_clear (hg : o.guard = none) (s : Operand) (t : TypeId) (ho : o.op = .call { callee := .builtin .clear, args := #[s], argTypes := #[t] })
    (H : ∃ v' w', (Builtin.clear_ #[t] o.type #[a.eval s]).run P w = .ok v' w' ∧ wpList P ops Q rest (a.put o.dst v') w') : wpList P ops Q (o :: rest) a w := by
  obtain ⟨v', w', hr, hk⟩ := H
  refine wpList_plain hg fun K hK => ?_
  unfold Oper.wp execOp
  simp only [ho, resolve, invoke, builtin, Sem.run_bind, Sem.run_pure, Result.andThen_ok, List.map_toArray, List.map_cons, List.map_nil, hr]
  exact hK _ _ hk

theorem wl_copy (hg : o.guard = none) (s x : Operand) (t u : TypeId) (ho : o.op = .call { callee := .builtin .copy, args := #[s, x], argTypes := #[t, u] })
    (H : ∃ v' w', (Builtin.copy_ #[t, u] o.type #[a.eval s, a.eval x]).run P w = .ok v' w' ∧ wpList P ops Q rest (a.put o.dst v') w') : wpList P ops Q (o :: rest) a w := by
  obtain ⟨v', w', hr, hk⟩ := H
  refine wpList_plain hg fun K hK => ?_
  unfold Oper.wp execOp
  simp only [ho, resolve, invoke, builtin, Sem.run_bind, Sem.run_pure, Result.andThen_ok, List.map_toArray, List.map_cons, List.map_nil, hr]
  exact hK _ _ hk
end
end Go.Pv
