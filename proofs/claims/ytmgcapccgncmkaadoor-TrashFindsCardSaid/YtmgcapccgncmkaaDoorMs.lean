/- Words of our own, over any program: maps of slices; laws at the operation for the walk. -/
import Derived.Test.YtmgcapccgncmkaaDoorSl
namespace Go.Pv
open Go

/-! ### laws at the operation -/
section
variable {P : Program} {w : World} {ops : Array Oper} {rest : List Oper} {o : Oper} {a : Act} {Q : Exit → Act → World → Prop}

theorem wl_append (hg : o.guard = none) (s x : Operand) (t : TypeId) (ho : o.op = .call { callee := .builtin .append, args := #[s, x], argTypes := #[t, t] })
    (H : ∃ v' w', (Builtin.append_ #[t, t] o.type #[a.eval s, a.eval x]).run P w = .ok v' w' ∧ wpList P ops Q rest (a.put o.dst v') w') : wpList P ops Q (o :: rest) a w := by
  obtain ⟨v', w', hr, hk⟩ := H
  refine wpList_plain hg fun K hK => ?_
  unfold Oper.wp execOp
  simp only [ho, resolve, invoke, builtin, Sem.run_bind, Sem.run_pure, Result.andThen_ok, List.map_toArray, List.map_cons, List.map_nil, hr]
  exact hK _ _ hk

theorem wl_len (hg : o.guard = none) (s : Operand) (t : TypeId) (ho : o.op = .call { callee := .builtin .len, args := #[s], argTypes := #[t] })
    (H : ∃ v' w', (Builtin.len_ #[t] o.type #[a.eval s]).run P w = .ok v' w' ∧ wpList P ops Q rest (a.put o.dst v') w') : wpList P ops Q (o :: rest) a w := by
  obtain ⟨v', w', hr, hk⟩ := H
  refine wpList_plain hg fun K hK => ?_
  unfold Oper.wp execOp
  simp only [ho, resolve, invoke, builtin, Sem.run_bind, Sem.run_pure, Result.andThen_ok, List.map_toArray, List.map_cons, List.map_nil, hr]
  exact hK _ _ hk

theorem wl_lookup (hg : o.guard = none) (m x : Operand) (t : TypeId) (ok : Bool) (ho : o.op = .lookup t m x ok)
    (H : ∃ v' w', (Instr.lookup t (a.eval m) (a.eval x) ok).run P w = .ok v' w' ∧ wpList P ops Q rest (a.put o.dst v') w') : wpList P ops Q (o :: rest) a w := by
  obtain ⟨v', w', hr, hk⟩ := H
  refine wpList_plain hg fun K hK => ?_
  unfold Oper.wp execOp
  simp only [ho, Sem.run_bind, Sem.run_pure, Result.andThen_ok, hr]
  exact hK _ _ hk

theorem wl_mapUpdate (hg : o.guard = none) (m x y : Operand) (t : TypeId) (ho : o.op = .mapUpdate t m x y)
    (H : ∃ w', (Instr.mapUpdate t (a.eval m) (a.eval x) (a.eval y)).run P w = .ok () w' ∧ wpList P ops Q rest (a.put o.dst undef) w') : wpList P ops Q (o :: rest) a w := by
  obtain ⟨w', hr, hk⟩ := H
  refine wpList_plain hg fun K hK => ?_
  unfold Oper.wp execOp
  simp only [ho, Sem.run_bind, Sem.run_pure, Result.andThen_ok, hr]
  exact hK _ _ hk

end

/-! ### lists of pairs, more -/
section
variable {κ ν μ : Type} [DecidableEq κ]

theorem aget_map (f : ν → μ) (k : κ) (l : List (κ × ν)) : aget k (l.map fun r => (r.1, f r.2)) = (aget k l).map f := by
  induction l with
  | nil => rfl
  | cons x xs ih => simp only [List.map_cons, aget]; split <;> simp_all

theorem aset_map (f : ν → μ) (k : κ) (v : ν) (l : List (κ × ν)) : aset k (f v) (l.map fun r => (r.1, f r.2)) = (aset k v l).map fun r => (r.1, f r.2) := by
  induction l with
  | nil => rfl
  | cons x xs ih => simp only [List.map_cons, aset]; split <;> simp_all

theorem aget_mem {k : κ} {v : ν} {rows : List (κ × ν)} (h : aget k rows = some v) : (k, v) ∈ rows := by
  induction rows with
  | nil => simp [aget] at h
  | cons x xs ih =>
    simp only [aget] at h
    split at h
    · rename_i hk
      have : x = (k, v) := by cases x; simp_all
      simp [this]
    · simp [ih h]

theorem mem_aset {k : κ} {v : ν} {rows : List (κ × ν)} (hn : (rows.map (·.1)).Nodup) {r : κ × ν} (h : r ∈ aset k v rows) : r = (k, v) ∨ (r ∈ rows ∧ r.1 ≠ k) := by
  induction rows with
  | nil => exact .inl (by simpa [aset] using h)
  | cons x xs ih =>
    simp only [List.map_cons, List.nodup_cons] at hn
    simp only [aset] at h
    split at h
    · rename_i hk
      rcases List.mem_cons.1 h with h | h
      · exact .inl h
      · exact .inr ⟨by simp [h], fun e => hn.1 (hk ▸ e ▸ List.mem_map_of_mem h)⟩
    · rename_i hk
      rcases List.mem_cons.1 h with rfl | h
      · exact .inr ⟨by simp, hk⟩
      · rcases ih hn.2 h with h | h
        · exact .inl h
        · exact .inr ⟨by simp [h.1], h.2⟩

theorem adel_sublist (k : κ) (rows : List (κ × ν)) : (adel k rows).Sublist rows := by
  induction rows with
  | nil => exact .slnil
  | cons x xs ih =>
    simp only [adel]
    split
    · exact List.sublist_cons_self _ _
    · exact ih.cons_cons _

theorem aset_keys (k : κ) (v : ν) (rows : List (κ × ν)) : (aset k v rows).map (·.1) = if k ∈ rows.map (·.1) then rows.map (·.1) else rows.map (·.1) ++ [k] := by
  induction rows with
  | nil => simp [aset]
  | cons x xs ih =>
    simp only [aset]
    by_cases hk : x.1 = k
    · simp [hk]
    · have hk' : ¬ k = x.1 := fun e => hk e.symm
      simp only [hk, if_false, List.map_cons, ih, List.mem_cons, hk', false_or]
      split <;> simp

theorem aset_nodup (k : κ) (v : ν) {rows : List (κ × ν)} (hn : (rows.map (·.1)).Nodup) : ((aset k v rows).map (·.1)).Nodup := by
  rw [aset_keys]
  split
  · exact hn
  · rename_i h
    rw [List.nodup_append]
    refine ⟨hn, by simp, fun a ha b hb => ?_⟩
    simp only [List.mem_singleton] at hb
    subst hb
    intro e; subst e; exact h ha

theorem adel_nodup (k : κ) {rows : List (κ × ν)} (hn : (rows.map (·.1)).Nodup) : ((adel k rows).map (·.1)).Nodup := hn.sublist ((adel_sublist k rows).map _)

theorem aset_pairwise {S : κ × ν → κ × ν → Prop} (hS : ∀ a b, S a b → S b a) {k : κ} {v : ν} {rows : List (κ × ν)} (hn : (rows.map (·.1)).Nodup) (h : rows.Pairwise S) (hv : ∀ r ∈ rows, r.1 ≠ k → S (k, v) r) : (aset k v rows).Pairwise S := by
  induction rows with
  | nil => simp [aset]
  | cons x xs ih =>
    obtain ⟨h1, h2⟩ := List.pairwise_cons.1 h
    simp only [List.map_cons, List.nodup_cons] at hn
    simp only [aset]
    split
    · rename_i hk
      exact List.pairwise_cons.2 ⟨fun r hr => hv r (by simp [hr]) (fun e => hn.1 (hk ▸ e ▸ List.mem_map_of_mem hr)), h2⟩
    · rename_i hk
      refine List.pairwise_cons.2 ⟨fun r hr => ?_, ih hn.2 h2 (fun r hr => hv r (by simp [hr]))⟩
      rcases mem_aset hn.2 hr with rfl | hr
      · exact hS _ _ (hv x (by simp) hk)
      · exact h1 r hr.1

theorem aget_aset_same (k : κ) (v : ν) (rows : List (κ × ν)) : aget k (aset k v rows) = some v := by
  induction rows with
  | nil => simp [aset, aget]
  | cons x xs ih => simp only [aset]; split <;> simp_all [aget]

theorem aget_aset_other {k j : κ} (h : j ≠ k) (v : ν) (rows : List (κ × ν)) : aget j (aset k v rows) = aget j rows := by
  induction rows with
  | nil => simp [aset, aget, Ne.symm h]
  | cons x xs ih =>
    simp only [aset]
    split
    · rename_i hk; simp [aget, hk, Ne.symm h]
    · simp [aget, ih]

theorem aget_adel_same (k : κ) {rows : List (κ × ν)} (hn : (rows.map (·.1)).Nodup) : aget k (adel k rows) = none := by
  induction rows with
  | nil => rfl
  | cons x xs ih =>
    simp only [List.map_cons, List.nodup_cons] at hn
    simp only [adel]
    split
    · rename_i hk
      cases hg : aget k xs with
      | none => rfl
      | some v => exact absurd (List.mem_map_of_mem (f := Prod.fst) (aget_mem hg)) (hk ▸ hn.1)
    · rename_i hk; simp [aget, hk, ih hn.2]

theorem aget_adel_other {k j : κ} (h : j ≠ k) (rows : List (κ × ν)) : aget j (adel k rows) = aget j rows := by
  induction rows with
  | nil => rfl
  | cons x xs ih =>
    simp only [adel]
    split
    · rename_i hk; simp [aget, hk, Ne.symm h]
    · simp [aget, ih]
end

/-! ### a map whose elements are slices of the call's own -/
section
variable {κ τ : Type} {ke : κ → Value} {e : TypeId} {sz : Nat} {enc : τ → List Value}

def ApartV (a b : Value) : Prop := ∀ g, a.ownBlock = some g → b.ownBlock ≠ some g

theorem ApartV.symm {a b : Value} (h : ApartV a b) : ApartV b a := fun g hb ha => h g ha hb

/-- Block mb is a map at whose keys slices of the call's own lie, no two in one block, and what they hold. -/
structure MapSl (w : World) (mb : Nat) (ke : κ → Value) (e : TypeId) (sz : Nat) (enc : τ → List Value) (rows : List (κ × (Value × List τ))) : Prop where
  map : IsMap w mb ke (rows.map fun r => (r.1, r.2.1))
  sl : ∀ r ∈ rows, SlOf w e sz enc r.2.1 r.2.2
  apart : rows.Pairwise (fun a b => ApartV a.2.1 b.2.1)
  nodup : (rows.map (·.1)).Nodup

theorem MapSl.made (w : World) (ke : κ → Value) (e : TypeId) (sz : Nat) (enc : τ → List Value) : MapSl (w.alloc (.map #[] 0)) w.heap.size ke e sz enc [] :=
  ⟨IsMap.made w ke, by simp, by simp, by simp⟩

theorem MapSl.kept {w w' : World} {F : Nat → Prop} {mb : Nat} {rows : List (κ × (Value × List τ))} (h : MapSl w mb ke e sz enc rows) (k : Keeps F w w') (hm : ¬ F mb) (hr : ∀ r ∈ rows, ∀ g, r.2.1.ownBlock = some g → ¬ F g) :
    MapSl w' mb ke e sz enc rows where
  map := h.map.kept k hm
  sl := fun r h1 => SlRow.kept (h.sl r h1) k (hr r h1)
  apart := h.apart
  nodup := h.nodup

theorem pairwise_apart {α : Type} {f : α → Value} {key : α → κ} : ∀ {rows : List α}, rows.Pairwise (fun a b => ApartV (f a) (f b)) → ∀ a ∈ rows, ∀ b ∈ rows, key a ≠ key b → ApartV (f a) (f b)
  | [], _ => by simp
  | y :: ys, h => by
    obtain ⟨p1, p2⟩ := List.pairwise_cons.1 h
    intro a ha b hb hab
    rcases List.mem_cons.1 ha with h1 | h1 <;> rcases List.mem_cons.1 hb with h2 | h2
    · subst h1; subst h2; exact absurd rfl hab
    · subst h1; exact p1 b h2
    · subst h2; exact (p1 a h1).symm
    · exact pairwise_apart p2 a h1 b h2 hab

theorem MapSl.apart2 {w : World} {mb : Nat} {rows : List (κ × (Value × List τ))} (h : MapSl w mb ke e sz enc rows) : ∀ a ∈ rows, ∀ b ∈ rows, a.1 ≠ b.1 → ApartV a.2.1 b.2.1 :=
  pairwise_apart (f := fun r : κ × (Value × List τ) => r.2.1) (key := fun r => r.1) h.apart

variable [DecidableEq κ]

/-- What 'm[k]' gives, nil where there is none. -/
theorem MapSl.getD {w : World} {mb : Nat} {rows : List (κ × (Value × List τ))} (h : MapSl w mb ke e sz enc rows) (k : κ) :
    SlOf w e sz enc ((aget k rows).getD (.slice none 0 0, [])).1 ((aget k rows).getD (.slice none 0 0, [])).2 := by
  cases hg : aget k rows with
  | none => exact SlRow.nil w e sz
  | some r => exact h.sl _ (aget_mem hg)

/-- 'm[k] = v' behind what turned the old element's own block alone. -/
theorem MapSl.set {w w1 w2 : World} {mb : Nat} {rows : List (κ × (Value × List τ))} (h : MapSl w mb ke e sz enc rows) {k : κ} {v : Value} {l : List τ}
    (hk1 : Keeps (fun i => ((aget k rows).getD (.slice none 0 0, [])).1.ownBlock = some i) w w1) (hv : SlOf w1 e sz enc v l)
    (hl : v.ownBlock = ((aget k rows).getD (.slice none 0 0, [])).1.ownBlock ∨ ∀ g, v.ownBlock = some g → w.heap.size ≤ g)
    (hm : IsMap w2 mb ke (aset k v (rows.map fun r => (r.1, r.2.1)))) (hk2 : Keeps (fun i => i = mb) w1 w2) : MapSl w2 mb ke e sz enc (aset k (v, l) rows) := by
  have old : ∀ r ∈ rows, r.1 ≠ k → ApartV v r.2.1 := by
    intro r hr hne g hg hg'
    have hlt := SlRow.lt (h.sl r hr) hg'
    rcases hl with h1 | h1
    · rw [h1] at hg
      cases hx : aget k rows with
      | none => rw [hx] at hg; simp [Value.ownBlock] at hg
      | some x =>
        rw [hx] at hg
        have hx' := aget_mem hx
        have this := h.apart2
        exact this _ hx' r hr (fun e => hne e.symm) g hg hg'
    · have := h1 g hg; omega
  have hmb : ∀ r ∈ rows, ∀ g, r.2.1.ownBlock = some g → g ≠ mb := by
    intro r hr g hg e
    obtain ⟨cur, hc⟩ := SlRow.elem (h.sl r hr) hg
    obtain ⟨es, clock, hb, _⟩ := h.map
    rw [e, hb] at hc; cases hc
  refine ⟨?_, ?_, ?_, aset_nodup k _ h.nodup⟩
  · have := aset_map (fun r : Value × List τ => r.1) k (v, l) rows
    rw [← this]; exact hm
  · intro r hr
    rcases mem_aset h.nodup hr with rfl | ⟨hr, hne⟩
    · refine SlRow.kept hv hk2 (fun g hg e => ?_)
      subst e
      obtain ⟨cur, hc⟩ := SlRow.elem hv hg
      obtain ⟨es, clock, hb, _⟩ := hm
      have hlt := SlRow.lt hv hg
      -- in w1 the block is a map's: it was in w, and hk1 has not turned it
      obtain ⟨es0, clock0, hb0, _⟩ := h.map
      have hb1 := hk1.block g (Array.getElem?_eq_some_iff.1 hb0).1 (fun he => by
        cases hx : aget k rows with
        | none => rw [hx] at he; simp [Value.ownBlock] at he
        | some x => rw [hx] at he; exact hmb _ (aget_mem hx) g he rfl)
      rw [hb1, hb0] at hc; cases hc
    · have h1 := SlRow.kept (h.sl r hr) hk1 (fun g hg he => by
        cases hx : aget k rows with
        | none => rw [hx] at he; simp [Value.ownBlock] at he
        | some x =>
          rw [hx] at he
          have hx' := aget_mem hx
          have this := h.apart2
          exact this _ hx' r hr (fun e => hne e.symm) g he hg)
      exact SlRow.kept h1 hk2 (fun g hg => hmb r hr g hg)
  · exact aset_pairwise (S := fun a b => ApartV a.2.1 b.2.1) (fun a b h => h.symm) (v := (v, l)) h.nodup h.apart (fun r hr hne => old r hr hne)

end
end Go.Pv
