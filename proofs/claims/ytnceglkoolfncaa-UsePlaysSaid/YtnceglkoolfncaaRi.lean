/- Words of our own, over any program: a loop over a map, told as a list of pairs: what is still to come. -/
import Derived.Test.YtnceglkoolfncaaMs
import Derived.Maps.RangeRun
set_option linter.unusedSimpArgs false
set_option linter.unusedVariables false
namespace Go.Pv
open Go
open Go.ChangeMaps (setBlock)

theorem setBlock_heap_same {w : World} {r : Nat} (h : r < w.heap.size) (o : Obj) : (setBlock w r o).heap[r]? = some o := by simp [setBlock, h]
theorem setBlock_heap_other {w : World} {r k : Nat} (h : k ≠ r) (o : Obj) : (setBlock w r o).heap[k]? = w.heap[k]? := by
  simp only [setBlock, Array.getElem?_setIfInBounds]
  rw [if_neg (fun e => h e.symm)]
theorem Keeps.setBlock_ (w : World) (r : Nat) (o : Obj) : Keeps (fun k => k = r) w (setBlock w r o) :=
  ⟨rfl, rfl, rfl, by simp [setBlock], fun k _ hn => setBlock_heap_other hn o⟩

section
variable {κ : Type} {P : Program} {ke : κ → Value}

/-- Block r of w goes through the map in block mb, that holds al; left is still to come. -/
def Iter (w : World) (r mb : Nat) (ke : κ → Value) (al left : List (κ × Value)) : Prop :=
  ∃ (es : Array MapEntry) (clock since c0 : Nat) (seen : Array Nat), w.heap[mb]? = some (.map es clock) ∧ es.toList.map (fun e => (e.key, e.val)) = al.map (fun p => (ke p.1, p.2)) ∧
    (es.toList.map (·.born)).Nodup ∧ (∀ e ∈ es.toList, e.born < clock) ∧ w.heap[r]? = some (.mapIter (some mb) since seen c0) ∧ since ≤ c0 ∧ since ≤ clock ∧ (∀ e ∈ es.toList, e.born < since) ∧
    (leftOf es seen).toList.map (fun e => (e.key, e.val)) = left.map (fun p => (ke p.1, p.2))

theorem Iter.map {w : World} {r mb : Nat} {al left : List (κ × Value)} (h : Iter w r mb ke al left) : IsMap w mb ke al := by
  obtain ⟨es, clock, since, c0, seen, h1, h2, h3, h4, _⟩ := h
  exact ⟨es, clock, h1, h2, h3, h4⟩
theorem Iter.lt {w : World} {r mb : Nat} {al left : List (κ × Value)} (h : Iter w r mb ke al left) : r < w.heap.size ∧ mb < w.heap.size := by
  obtain ⟨es, clock, since, c0, seen, h1, h2, h3, h4, h5, _⟩ := h
  exact ⟨(Array.getElem?_eq_some_iff.1 h5).1, (Array.getElem?_eq_some_iff.1 h1).1⟩
theorem Iter.ne {w : World} {r mb : Nat} {al left : List (κ × Value)} (h : Iter w r mb ke al left) : r ≠ mb := by
  obtain ⟨es, clock, since, c0, seen, h1, h2, h3, h4, h5, _⟩ := h
  intro e
  rw [e, h1] at h5
  cases h5
theorem Iter.of_blocks {w w' : World} {r mb : Nat} {al left : List (κ × Value)} (h : Iter w r mb ke al left) (h1 : w'.heap[r]? = w.heap[r]?) (h2 : w'.heap[mb]? = w.heap[mb]?) : Iter w' r mb ke al left := by
  obtain ⟨es, clock, since, c0, seen, a1, a2, a3, a4, a5, a6⟩ := h
  exact ⟨es, clock, since, c0, seen, h2.trans a1, a2, a3, a4, h1.trans a5, a6⟩
theorem Iter.kept {w w' : World} {r mb : Nat} {al left : List (κ × Value)} {F : Nat → Prop} (h : Iter w r mb ke al left) (k : Keeps F w w') (hr : ¬ F r) (hm : ¬ F mb) : Iter w' r mb ke al left :=
  h.of_blocks (k.block r h.lt.1 hr) (k.block mb h.lt.2 hm)

/-- 'range m'. -/
theorem IsMap.range {w : World} {mb : Nat} {al : List (κ × Value)} (h : IsMap w mb ke al) {t k e : TypeId} (ht : P.underlying t = some (.map k e)) :
    ∃ o, (Instr.range t (.map (some mb))).run P w = .ok (.pointer (some ⟨w.heap.size, 0, none⟩)) (w.alloc o) ∧ Iter (w.alloc o) w.heap.size mb ke al al := by
  have hlt := h.lt
  obtain ⟨es, clock, h1, h2, h3, h4⟩ := h
  refine ⟨.mapIter (some mb) clock #[] clock, ?_, es, clock, clock, clock, #[], ?_, h2, h3, h4, heap_alloc_new w _, Nat.le_refl _, Nat.le_refl _, h4, ?_⟩
  · simp [Instr.range, run_underlying ht, getObj, newObj, Sem.run, h1]
  · rw [RowKit.Below.heap_alloc w _ mb hlt]; exact h1
  · unfold leftOf
    rw [← h2]
    congr 1
    simp

theorem split_map {α β : Type} {f : α → β} : ∀ {l : List α} {b1 : List β} {b : β} {b2 : List β}, l.map f = b1 ++ b :: b2 → ∃ a1 a a2, l = a1 ++ a :: a2 ∧ a1.map f = b1 ∧ f a = b ∧ a2.map f = b2 := by
  intro l
  induction l with
  | nil => intro b1 b b2 h; simp at h
  | cons x r ih =>
    intro b1 b b2 h
    cases b1 with
    | nil =>
      simp at h
      exact ⟨[], x, r, rfl, rfl, h.1, h.2⟩
    | cons y b1 =>
      simp at h
      obtain ⟨a1, a, a2, e, e1, e2, e3⟩ := ih h.2
      exact ⟨x :: a1, a, a2, by rw [e]; rfl, by simp [h.1, e1], e2, e3⟩

/-- 'next': nothing is left; or one that is left, whichever. -/
theorem Iter.next {w : World} {r mb : Nat} {al left : List (κ × Value)} (h : Iter w r mb ke al left) (ty : TypeId) :
    (left = [] ∧ (Instr.next (.pointer (some ⟨r, 0, none⟩)) false ty).run P w = .ok (.tuple #[.bool false]) w) ∨
    ∃ l1 p l2 w', left = l1 ++ p :: l2 ∧ (Instr.next (.pointer (some ⟨r, 0, none⟩)) false ty).run P w = .ok (.tuple #[.bool true, ke p.1, p.2]) w' ∧ Iter w' r mb ke al (l1 ++ l2) ∧
      Keeps (fun k => k = r) w w' ∧ w'.heap.size = w.heap.size ∧ (Instr.entry (.pointer (some ⟨r, 0, none⟩))).run P w' = .ok (.tuple #[ke p.1, p.2]) w' := by
  have hlt := h.lt
  have hne := h.ne
  obtain ⟨es, clock, since, c0, seen, h1, h2, h3, h4, h5, h6, hsc, h7, h8⟩ := h
  rcases run_next_at (P := P) w ty r mb since c0 seen es clock h5 h1 h7 h6 with ⟨q1, q2⟩ | ⟨e, he, w1, hw1, hrun⟩
  · left
    refine ⟨?_, q2⟩
    have : (leftOf es seen).toList = [] := by simpa using Array.eq_empty_of_size_eq_zero q1
    rw [this] at h8
    simpa using h8.symm
  · right
    obtain ⟨e1, e2, hsplit⟩ := List.append_of_mem he
    rw [hsplit, List.map_append, List.map_cons] at h8
    obtain ⟨l1, p, l2, hl, hl1, hp, hl2⟩ := split_map h8.symm
    have hkv : e.key = ke p.1 ∧ e.val = p.2 := by simpa using hp.symm
    have hb1 : w1.heap = w.heap := by rcases hw1 with rfl | rfl <;> rfl
    have hk1 : Keeps (fun k => k = r) w w1 := by rcases hw1 with rfl | rfl; exact Keeps.refl _ _; exact (Keeps.refl _ w).drew
    have hmem : e ∈ es.toList := by
      have := he
      unfold leftOf at this
      simp at this
      simpa using this.1
    have hr' : (setBlock w1 r (.mapIter (some mb) since (seen.push e.born) clock)).heap[r]? = some (.mapIter (some mb) since (seen.push e.born) clock) := setBlock_heap_same (by rw [hb1]; exact hlt.1) _
    have hm' : (setBlock w1 r (.mapIter (some mb) since (seen.push e.born) clock)).heap[mb]? = some (.map es clock) := by
      rw [setBlock_heap_other (fun e => hne e.symm), hb1]; exact h1
    have hnd : ((leftOf es seen).toList.map (·.born)).Nodup := by
      refine h3.sublist (List.Sublist.map _ ?_)
      unfold leftOf
      simp only [Array.toList_filter]
      exact List.filter_sublist
    rw [hsplit] at hnd
    have hf : (leftOf es (seen.push e.born)).toList = (leftOf es seen).toList.filter (fun x => x.born != e.born) := by
      unfold leftOf
      simp only [Array.toList_filter, List.filter_filter]
      congr 1
      funext x
      have : (seen.push e.born).contains x.born = (seen.contains x.born || x.born == e.born) := by
        rw [Bool.eq_iff_iff]
        simp [Array.contains_iff_mem, Array.mem_push]
      rw [this]
      cases seen.contains x.born <;> cases h9 : (x.born == e.born) <;> simp [bne, h9]
    have hfil : (leftOf es (seen.push e.born)).toList = e1 ++ e2 := by
      rw [hf, hsplit, List.filter_append, List.filter_cons]
      simp only [bne_self_eq_false, Bool.false_eq_true, if_false]
      rw [List.map_append, List.map_cons, List.nodup_append] at hnd
      obtain ⟨n1, n2, n3⟩ := hnd
      rw [List.nodup_cons] at n2
      rw [List.filter_eq_self.2, List.filter_eq_self.2]
      · intro x hx
        have : x.born ≠ e.born := fun h => n2.1 (h ▸ List.mem_map_of_mem hx)
        simpa using this
      · intro x hx
        have : x.born ≠ e.born := n3 _ (List.mem_map_of_mem hx) _ (by simp)
        simpa using this
    refine ⟨l1, p, l2, _, hl, by rw [← hkv.1, ← hkv.2]; exact hrun, ⟨es, clock, since, clock, seen.push e.born, hm', h2, h3, h4, hr', hsc, hsc, h7, by rw [hfil, List.map_append, List.map_append, hl1, hl2]⟩, hk1.trans (Keeps.setBlock_ w1 r _) (fun i h => .inl h), by simp [setBlock, hb1], ?_⟩
    rw [← hkv.1, ← hkv.2]
    exact run_entry_at _ r mb since seen es clock e hr' hm' hmem h3

theorem filter_eraseIdx {α : Type} {q : α → Bool} : ∀ {l : List α} {j : Nat} (h : j < l.length), q l[j] = false → (l.eraseIdx j).filter q = l.filter q
  | [], j, h, _ => by simp at h
  | x :: r, 0, h, hq => by simp at hq; simp [hq]
  | x :: r, j + 1, h, hq => by
    have := filter_eraseIdx (l := r) (j := j) (by simpa using h) (by simpa using hq)
    simp [List.filter_cons, this]

/-- 'delete' of a key that is not to come any more. -/
theorem Iter.delete [DecidableEq κ] {kt : TypeId} {w : World} {r mb : Nat} {al left : List (κ × Value)} (h : Iter w r mb ke al left) (K : KeyT P kt ke) {t e ty : TypeId} (ht : P.underlying t = some (.map kt e)) (a : κ) (kt' : TypeId) (hnot : ∀ p ∈ left, p.1 ≠ a) :
    ∃ w', (Builtin.delete_ #[t, kt'] ty #[.map (some mb), ke a]).run P w = .ok (.tuple #[]) w' ∧ Iter w' r mb ke (adel a al) left ∧ Keeps (fun k => k = mb) w w' ∧ w'.heap.size = w.heap.size := by
  have hlt := h.lt
  have hne := h.ne
  obtain ⟨es, clock, since, c0, seen, h1, h2, h3, h4, h5, h6, hsc, h7, h8⟩ := h
  have hobj : ∀ o, Keeps (fun k => k = mb) w (setObj' w mb o) := fun o => Keeps.setObj (F := fun i => i = mb) (Keeps.refl _ w) (.inl rfl) o
  have hsz : ∀ o, (setObj' w mb o).heap.size = w.heap.size := fun o => by simp [setObj']
  have hr' : ∀ o, (setObj' w mb o).heap[r]? = some (.mapIter (some mb) since seen c0) := fun o => (setObj'_other hne o).trans h5
  cases hf : findE a (al.map (·.1)) es.toList 0 with
  | none =>
    refine ⟨setObj' w mb (.map es clock), ?_, ⟨es, clock, since, c0, seen, setObj'_same hlt.2 _, ?_, h3, h4, hr' _, h6, hsc, h7, h8⟩, hobj _, hsz _⟩
    · simp [Builtin.delete_, run_underlying ht, getObj, Sem.run, h1, K.check, K.find w a es.toList (al.map (·.1)) (keys_of h2), hf, run_setObj_map h1]
    · rw [(findE_none (ke := ke) (a := a) es.toList al (.bool true) 0 h2 hf).2]; exact h2
  | some x =>
    obtain ⟨j, u⟩ := x
    obtain ⟨m, hj, hm, ⟨e0, he0, hk0⟩, _, hd⟩ := findE_some (ke := ke) es.toList al (.bool true) 0 j u h2 hf
    have hj' : j = m := by omega
    subst hj'
    have hl : (es.eraseIdxIfInBounds j).toList = es.toList.eraseIdx j := by
      have hjs : j < es.size := by simpa using hm
      simp [Array.eraseIdxIfInBounds, hjs]
    have hsub : ∀ x ∈ es.toList.eraseIdx j, x ∈ es.toList := fun x hx => (List.eraseIdx_sublist _ _).mem hx
    have hge : es.toList[j] = e0 := by
      rw [List.getElem?_eq_getElem hm] at he0
      exact Option.some.inj he0
    have hseen : (!seen.contains (es.toList[j]).born) = false := by
      cases hc : seen.contains (es.toList[j]).born with
      | true => rfl
      | false =>
        exfalso
        have hmem : es.toList[j] ∈ (leftOf es seen).toList := by
          unfold leftOf
          rw [Array.toList_filter, List.mem_filter]
          exact ⟨List.getElem_mem hm, by rw [hc]; rfl⟩
        have h9 : (es.toList[j].key, es.toList[j].val) ∈ left.map (fun p => (ke p.1, p.2)) := by
          rw [← h8]; exact List.mem_map_of_mem (f := fun e : MapEntry => (e.key, e.val)) hmem
        obtain ⟨p, hp, hpe⟩ := List.mem_map.1 h9
        have : ke p.1 = ke a := by
          have := congrArg (·.1) hpe
          simp only at this
          rw [this, hge, hk0]
        exact hnot p hp (K.inj this)
    refine ⟨setObj' w mb (.map (es.eraseIdxIfInBounds j) clock), ?_, ⟨_, clock, since, c0, seen, setObj'_same hlt.2 _, ?_, ?_, ?_, hr' _, h6, hsc, ?_, ?_⟩, hobj _, hsz _⟩
    · simp [Builtin.delete_, run_underlying ht, getObj, Sem.run, h1, K.check, K.find w a es.toList (al.map (·.1)) (keys_of h2), hf, run_setObj_map h1]
    · rw [hl]; exact hd
    · rw [hl]; exact h3.sublist ((List.eraseIdx_sublist _ _).map _)
    · rw [hl]; exact fun x hx => h4 x (hsub x hx)
    · rw [hl]; exact fun x hx => h7 x (hsub x hx)
    · have : (leftOf (es.eraseIdxIfInBounds j) seen).toList = (leftOf es seen).toList := by
        unfold leftOf
        rw [Array.toList_filter, Array.toList_filter, hl]
        exact filter_eraseIdx hm hseen
      rw [this]; exact h8
end

/-! ### at the operations -/
section
variable {κ τ : Type} {P : Program} {ke : κ → Value} {w : World} {ops : Array Oper} {rest : List Oper} {o : Oper} {a : Act} {Q : Exit → Act → World → Prop}
theorem wl_range (hg : o.guard = none) (m : Operand) (t : TypeId) (ho : o.op = .range t m) (H : ∃ v' w', (Instr.range t (a.eval m)).run P w = .ok v' w' ∧ wpList P ops Q rest (a.put o.dst v') w') : wpList P ops Q (o :: rest) a w := by
  obtain ⟨v', w', hr, hk⟩ := H
  refine wpList_plain hg fun K hK => ?_
  unfold Oper.wp execOp
  simp only [ho, Sem.run_bind, Sem.run_pure, Result.andThen_ok, hr]
  exact hK _ _ hk
/-- 'next', over rows that are told by f. -/
theorem wl_next (hg : o.guard = none) (it : Operand) (ho : o.op = .next it false) {r mb : Nat} (f : κ × τ → Value) {al : List (κ × Value)} {left : List (κ × τ)} (h : Iter w r mb ke al (left.map fun p => (p.1, f p))) (hit : a.eval it = .pointer (some ⟨r, 0, none⟩))
    (hdone : left = [] → wpList P ops Q rest (a.put o.dst (.tuple #[.bool false])) w)
    (hmore : ∀ l1 p l2 w', left = l1 ++ p :: l2 → Iter w' r mb ke al ((l1 ++ l2).map fun p => (p.1, f p)) → Keeps (fun k => k = r) w w' → w'.heap.size = w.heap.size → (Instr.entry (.pointer (some ⟨r, 0, none⟩))).run P w' = .ok (.tuple #[ke p.1, f p]) w' →
      wpList P ops Q rest (a.put o.dst (.tuple #[.bool true, ke p.1, f p])) w') : wpList P ops Q (o :: rest) a w := by
  refine wpList_plain hg fun K hK => ?_
  unfold Oper.wp execOp
  rcases h.next (P := P) o.type with ⟨h1, h2⟩ | ⟨l1, p, l2, w', h1, h2, h3, h4, h5, h6⟩
  · simp only [ho, hit, Sem.run_bind, Sem.run_pure, Result.andThen_ok, h2]
    exact hK _ _ (hdone (by simpa using h1))
  · obtain ⟨a1, x, a2, e, e1, e2, e3⟩ := split_map h1
    subst e2
    simp only [ho, hit, Sem.run_bind, Sem.run_pure, Result.andThen_ok, h2]
    exact hK _ _ (hmore a1 x a2 w' e (by rw [List.map_append, e1, e3]; exact h3) h4 h5 h6)
end
end Go.Pv
