/- Use: the plain law of the document's functions, and that they tell what the book tells. -/
import Derived.Test.YtnceglkoolfncaaCq
import Derived.Test.YtnceglkoolfncaaPUsePlaysx3
import Derived.Test.YtnceglkoolfncaaPUsePlaysx5
import Derived.Test.YtnceglkoolfncaaPUsePlaysx6
set_option linter.unusedSimpArgs false
set_option linter.unusedVariables false
namespace Go.Proofs.Ytnceglkoolfncaa.PUsePlays
open Go.RowKit Go.Proofs.YtnceglkoolfncaaW.PrintWords

def keepW (b c : Int) (al : Bool) (r : S153) : Bool := !(r.f0 == b && (al || r.f1 == c))
theorem rd_at (x0 : List S153) (i : Nat) (h : i < x0.length) : rd_T153 x0 (i : Int) = x0[i] := by
  simp [rd_T153, List.getD_eq_getElem?_getD, h]
theorem wrap_succ {i : Nat} (h : i ≤ 1000000) : wrap64 ((i : Int) + 1) = ((i + 1 : Nat) : Int) := by unfold wrap64; omega

theorem without_l (x0 : List S153) (b c : Int) (al : Bool) (hx : x0.length ≤ 1000000) : ∀ (n k : Nat) (acc : List S153) (i : Nat), x0.length = i + n → n < k → acc.length ≤ i →
    provostref22_Without.l0 k x0 b c al acc (i : Int) = some (acc ++ (x0.drop i).filter (keepW b c al)) := by
  intro n
  induction n with
  | zero =>
    intro k acc i h1 h2 h3
    obtain ⟨k, rfl⟩ : ∃ k', k = k' + 1 := ⟨k - 1, by omega⟩
    rw [provostref22_Without.l0, if_neg (by omega), List.drop_of_length_le (by omega)]
    simp
  | succ n ih =>
    intro k acc i h1 h2 h3
    obtain ⟨k, rfl⟩ : ∃ k', k = k' + 1 := ⟨k - 1, by omega⟩
    have hi : i < x0.length := by omega
    rw [provostref22_Without.l0, if_pos (by omega), if_pos (by omega), rd_at x0 i hi, wrap_succ (by omega), List.drop_eq_getElem_cons hi]
    have hskip := ih k acc (i + 1) (by omega) (by omega) (by omega)
    have hadd := ih k (acc ++ [x0[i]]) (i + 1) (by omega) (by omega) (by simp; omega)
    generalize x0[i] = r at hadd ⊢
    have hlt : acc.length < 2199023255552 := by omega
    by_cases e1 : r.f0 = b
    · by_cases e2 : al = true
      · rw [if_pos e1, if_pos e2, hskip, List.filter_cons_of_neg (by simp [keepW, e1, e2])]
      · by_cases e3 : r.f1 = c
        · rw [if_pos e1, if_neg e2, if_pos e3, hskip, List.filter_cons_of_neg (by simp [keepW, e1, e3])]
        · rw [if_pos e1, if_neg e2, if_neg e3, if_pos hlt]
          refine hadd.trans ?_
          rw [List.filter_cons_of_pos (by simp [keepW, e2, e3]), List.append_assoc]
          rfl
    · rw [if_neg e1, if_pos hlt]
      refine hadd.trans ?_
      rw [List.filter_cons_of_pos (by simp [keepW, e1]), List.append_assoc]
      rfl
theorem without_f (x0 : List S153) (b c : Int) (al : Bool) (hx : x0.length ≤ 1000000) (k : Nat) (hk : x0.length < k) : provostref22_Without.f k x0 b c al = some (x0.filter (keepW b c al)) := by
  have := without_l x0 b c al hx x0.length k [] 0 (by omega) hk (by simp)
  simpa [provostref22_Without.f] using this

/-- Where a pair stands. -/
def idxF (b c : Int) : List S153 → Nat → Int
  | [], _ => -1
  | r :: l, i => if r.f0 = b ∧ r.f1 = c then i else idxF b c l (i + 1)
theorem index_l (x0 : List S153) (b c : Int) (hx : x0.length ≤ 1000000) : ∀ (n k i : Nat), x0.length = i + n → n < k → provostref22_Index.l0 k x0 b c (i : Int) = some (idxF b c (x0.drop i) i) := by
  intro n
  induction n with
  | zero =>
    intro k i h1 h2
    obtain ⟨k, rfl⟩ : ∃ k', k = k' + 1 := ⟨k - 1, by omega⟩
    rw [provostref22_Index.l0, if_neg (by omega), List.drop_of_length_le (by omega)]
    rfl
  | succ n ih =>
    intro k i h1 h2
    obtain ⟨k, rfl⟩ : ∃ k', k = k' + 1 := ⟨k - 1, by omega⟩
    have hi : i < x0.length := by omega
    rw [provostref22_Index.l0, if_pos (by omega), if_pos (by omega), rd_at x0 i hi, wrap_succ (by omega), List.drop_eq_getElem_cons hi]
    have hs := ih k (i + 1) (by omega) (by omega)
    generalize x0[i] = r
    by_cases e1 : r.f0 = b <;> by_cases e2 : r.f1 = c <;> simp only [idxF, e1, e2, if_true, if_false, and_true, and_false, and_self] <;> exact hs
theorem index_f (x0 : List S153) (b c : Int) (hx : x0.length ≤ 1000000) (k : Nat) (hk : x0.length < k) : provostref22_Index.f k x0 b c = some (idxF b c x0 0) := by
  have := index_l x0 b c hx x0.length k 0 (by omega) hk
  simpa [provostref22_Index.f] using this

theorem idx_cases (b c : Int) (l : List S153) (i : Nat) : (idxF b c l i = -1 ∧ ∀ r ∈ l, ¬ (r.f0 = b ∧ r.f1 = c)) ∨ ∃ j r, l[j]? = some r ∧ r.f0 = b ∧ r.f1 = c ∧ idxF b c l i = ((i + j : Nat) : Int) := by
  induction l generalizing i with
  | nil => exact .inl ⟨rfl, by simp⟩
  | cons x xs ih =>
    by_cases h : x.f0 = b ∧ x.f1 = c
    · exact .inr ⟨0, x, rfl, h.1, h.2, by simp [idxF, h]⟩
    · have e : idxF b c (x :: xs) i = idxF b c xs (i + 1) := by simp only [idxF, if_neg h]
      rcases ih (i + 1) with ⟨h1, h2⟩ | ⟨j, r, h1, h2, h3, h4⟩
      · exact .inl ⟨e.trans h1, fun r hr => by
          rcases List.mem_cons.1 hr with rfl | hr
          · exact h
          · exact h2 r hr⟩
      · exact .inr ⟨j + 1, r, by simpa using h1, h2, h3, by rw [e, h4]; congr 1; omega⟩
theorem rd_some {l : List S153} {j : Nat} {r : S153} (h : l[j]? = some r) : rd_T153 l (j : Int) = r := by
  simp [rd_T153, List.getD_eq_getElem?_getD, h]
end Go.Proofs.Ytnceglkoolfncaa.PUsePlays
namespace Go.Proofs.Ytnceglkoolfncaa.Us
open Go.RowKit Go.Pv Go.Proofs.YtnceglkoolfncaaW.PrintWords PUsePlays
/-- An entry, as the book has it. -/
def toU (r : S153) : (Int × Int) × US := ((r.f0, r.f1), ((r.f2.f0, r.f2.f1, r.f2.f2), (r.f3.f0, r.f3.f1, r.f3.f2)))
theorem idx_get (b c : Int) {q : List S153} {al : UL} (h : q.map toU = al) (nd : (al.map (·.1)).Nodup) : (idxF b c q 0 = -1 ∧ aget (b, c) al = none) ∨ ∃ (j : Nat) (r : S153), q[j]? = some r ∧ r.f0 = b ∧ r.f1 = c ∧ idxF b c q 0 = (j : Int) ∧ aget (b, c) al = some (toU r).2 := by
  rcases idx_cases b c q 0 with ⟨hi, hq⟩ | ⟨j, r, hr, h0, h1, hi⟩
  · refine .inl ⟨hi, ?_⟩
    cases e : aget (b, c) al with
    | none => rfl
    | some v =>
      have hm := aget_mem e
      rw [← h] at hm
      obtain ⟨r, hr, e2⟩ := List.mem_map.1 hm
      simp only [toU, Prod.mk.injEq] at e2
      exact absurd ⟨e2.1.1, e2.1.2⟩ (hq r hr)
  · refine .inr ⟨j, r, hr, h0, h1, by rw [hi]; simp, aget_of_mem nd ?_⟩
    rw [← h]
    exact List.mem_map.2 ⟨r, List.mem_of_getElem? hr, by simp [toU, h0, h1]⟩
theorem get_f (b c : Int) {q : List S153} {al : UL} (h : q.map toU = al) (nd : (al.map (·.1)).Nodup) (hl : q.length ≤ 1000000) (k : Nat) (hk : q.length < k) :
    ∃ b' c', provostref22_Get.f k q b c = some (b', c', ((aget (b, c) al).getD z6).1.1, ((aget (b, c) al).getD z6).1.2.1, ((aget (b, c) al).getD z6).1.2.2, ((aget (b, c) al).getD z6).2.1, ((aget (b, c) al).getD z6).2.2.1, ((aget (b, c) al).getD z6).2.2.2) := by
  unfold provostref22_Get.f
  rw [index_f q b c hl k hk]
  simp only [Option.bind_some]
  rcases idx_get b c h nd with ⟨hi, hg⟩ | ⟨j, r, hr, h0, h1, hi, hg⟩
  · rw [hi, hg, if_pos (by decide)]
    exact ⟨0, 0, rfl⟩
  · have hj := (List.getElem?_eq_some_iff.1 hr).1
    rw [hi, hg, if_neg (by omega), if_pos (by omega), if_pos (by omega), rd_some hr]
    exact ⟨_, _, rfl⟩
theorem bound_f {x : Int} (hx : 0 ≤ x ∧ x ≤ 1099511627776) (y : Int) (k : Nat) (hk : 3 ≤ k) : provostref22_bound.f k x y = some (plusF x y) := by
  obtain ⟨k, rfl⟩ : ∃ k', k = k' + 2 := ⟨k - 2, by omega⟩
  have hj1 : ∀ z : Int, -1099511627776 ≤ z → z ≤ 1099511627776 → provostref22_bound.j1 (k + 1) x z = some (min (max (x + z) 0) 1099511627776) := fun z h1 h2 => by
    have hw : wrap64 (x + z) = x + z := by unfold wrap64; omega
    rw [provostref22_bound.j1, hw]
    split
    · congr 1; omega
    · split
      · congr 1; omega
      · congr 1; omega
  have hj0 : ∀ z : Int, z ≤ 1099511627776 → provostref22_bound.j0 (k + 2) x z = some (min (max (x + max z (-1099511627776)) 0) 1099511627776) := fun z h => by
    rw [provostref22_bound.j0]
    split
    · rw [hj1 _ (by omega) (by omega)]; congr 1; omega
    · rw [hj1 _ (by omega) h]; congr 1; omega
  unfold provostref22_bound.f plusF
  split
  · rw [hj0 _ (by omega)]; congr 1; omega
  · rw [hj0 _ (by omega)]; congr 1; omega
theorem max_f (a b : R3) : provostref14_Max.f a.1 a.2.1 a.2.2 b.1 b.2.1 b.2.2 = some (max3 a b) := by
  have h : ∀ x y : Int, provostref14_more.f x y = some (max x y) := fun x y => by
    unfold provostref14_more.f
    split <;> (congr 1; omega)
  unfold provostref14_Max.f max3
  simp only [h, Option.bind_some]
/-- The list behind Add. -/
def putS (r : S153) (n p : R3) : S153 := ⟨r.f0, r.f1, ⟨n.1, n.2.1, n.2.2⟩, ⟨p.1, p.2.1, p.2.2⟩⟩
theorem add_j {q : List S153} {j : Nat} {r : S153} (hr : q[j]? = some r) (hin : In3 (toU r).2.1) (x : R3) (k : Nat) (hk : 5 ≤ k) :
    provostref22_Add.j0 k q (j : Int) x.1 x.2.1 x.2.2 = some (q.set j (putS r (addS (toU r).2 x).1 (addS (toU r).2 x).2), (addS (toU r).2 x).1) := by
  have hj := (List.getElem?_eq_some_iff.1 hr).1
  obtain ⟨k, rfl⟩ : ∃ k', k = k' + 1 := ⟨k - 1, by omega⟩
  simp only [In3, toU] at hin
  obtain ⟨i1, i2, i3⟩ := hin
  rw [provostref22_Add.j0, if_pos (by omega), if_pos (by omega), rd_some hr, bound_f i1 _ k (by omega), bound_f i2 _ k (by omega), bound_f i3 _ k (by omega)]
  simp only [Option.bind_some, Int.toNat_natCast]
  rw [rd_some (l := q.set j _) (by rw [List.getElem?_set_self hj])]
  have hm := max_f (r.f3.f0, r.f3.f1, r.f3.f2) (plusF r.f2.f0 x.1, plusF r.f2.f1 x.2.1, plusF r.f2.f2 x.2.2)
  simp only at hm
  rw [hm]
  simp only [Option.bind_some, List.set_set]
  rfl
theorem add_f (b c : Int) (x : R3) {q : List S153} {al : UL} (h : q.map toU = al) (nd : (al.map (·.1)).Nodup) (hg : GoodU al) (hl : q.length ≤ 1000000) (k : Nat) (hk : q.length + 6 < k) :
    ∃ q', provostref22_Add.f k q b c x.1 x.2.1 x.2.2 = some (q', (addS ((aget (b, c) al).getD z6) x).1) ∧ q'.map toU = addA (b, c) x al := by
  unfold provostref22_Add.f addA
  rw [index_f q b c hl k (by omega)]
  simp only [Option.bind_some, List.length_nil, List.nil_append, Nat.zero_add]
  rw [if_pos (by omega)]
  rcases idx_get b c h nd with ⟨hi, hno⟩ | ⟨j, r, hr, h0, h1, hi, hso⟩
  · rw [hi, if_pos (by decide), if_pos (by omega), hno]
    have hr : (q ++ [(⟨b, c, ⟨0, 0, 0⟩, ⟨0, 0, 0⟩⟩ : S153)])[q.length]? = some ⟨b, c, ⟨0, 0, 0⟩, ⟨0, 0, 0⟩⟩ := by simp
    rw [add_j hr z6_in x k (by omega)]
    refine ⟨_, rfl, ?_⟩
    have hnew : ∀ l : UL, (∀ r ∈ l, r.1 ≠ (b, c)) → ∀ v, aset (b, c) v l = l ++ [((b, c), v)] := by
      intro l
      induction l with
      | nil => intro _ v; rfl
      | cons y ys ih =>
        intro hn v
        simp only [aset, if_neg (hn y (List.mem_cons_self ..)), ih (fun r hr => hn r (List.mem_cons_of_mem _ hr)), List.cons_append]
    rw [hnew al (aget_none hno), List.set_append_right _ _ (Nat.le_refl _)]
    simp only [Nat.sub_self, List.set_cons_zero, List.map_append, h, List.map_cons, List.map_nil]
    rfl
  · rw [hi, if_neg (by omega), hso]
    have hgd := (hg _ (aget_mem hso)).1
    rw [add_j hr hgd x k (by omega)]
    refine ⟨_, rfl, ?_⟩
    rw [List.map_set, h]
    have hal : al[j]? = some ((b, c), (toU r).2) := by
      rw [← h, List.getElem?_map, hr]
      simp [toU, h0, h1]
    have hset : ∀ (l : UL) (j : Nat), (l.map (·.1)).Nodup → ∀ s v, l[j]? = some ((b, c), s) → l.set j ((b, c), v) = aset (b, c) v l := by
      intro l
      induction l with
      | nil => intro j _ s v hj; simp at hj
      | cons y ys ih =>
        intro j hn s v hj
        simp only [List.map_cons, List.nodup_cons] at hn
        cases j with
        | zero =>
          simp only [List.getElem?_cons_zero, Option.some.injEq] at hj
          simp [aset, hj]
        | succ j =>
          simp only [List.getElem?_cons_succ] at hj
          have hne : y.1 ≠ (b, c) := fun e => hn.1 (by rw [e]; exact List.mem_map.2 ⟨_, List.mem_of_getElem? hj, rfl⟩)
          simp only [aset, if_neg hne, List.set_cons_succ, ih j hn.2 s v hj]
    have hto : toU (putS r (addS (toU r).2 x).1 (addS (toU r).2 x).2) = ((b, c), addS (toU r).2 x) := by simp [toU, putS, h0, h1]
    rw [hto]
    exact hset al j nd _ _ hal
theorem without_one (b c : Int) {q : List S153} {al : UL} (h : q.map toU = al) (nd : (al.map (·.1)).Nodup) : (q.filter (keepW b c false)).map toU = adel (b, c) al := by
  rw [adel_filterU _ _ nd, ← h, List.filter_map]
  congr 1
  refine List.filter_congr fun r _ => ?_
  simp only [keepW, toU, Bool.false_or, Function.comp_apply, Prod.mk.injEq]
  by_cases h1 : r.f0 = b <;> by_cases h2 : r.f1 = c <;> simp [h1, h2]
theorem without_box (b c : Int) {q : List S153} {al : UL} (h : q.map toU = al) : (q.filter (keepW b c true)).map toU = al.filter fun r => !(r.1.1 == b) := by
  rw [← h, List.filter_map]
  congr 1
  refine List.filter_congr fun r _ => ?_
  simp [keepW, toU]
theorem add14_f (a b : R3) (h : Sml a.1 b.1 ∧ Sml a.2.1 b.2.1 ∧ Sml a.2.2 b.2.2) : provostref14_Add.f a.1 a.2.1 a.2.2 b.1 b.2.1 b.2.2 = some ((add3 a b).1, (add3 a b).2.1, (add3 a b).2.2, true) := by
  have h1 : ∀ x y : Int, Sml x y → provostref01_Add.f x y = some (x + y, true) := fun x y ⟨h1, h2, h3, h4⟩ => by
    have w1 : wrap64 (9223372036854775807 - y) = 9223372036854775807 - y := by unfold wrap64; omega
    have w2 : wrap64 (x + y) = x + y := by unfold wrap64; omega
    unfold provostref01_Add.f
    rw [if_pos (by omega), w1, if_neg (by omega), if_neg (by omega), w2]
  unfold provostref14_Add.f
  rw [h1 _ _ h.1, h1 _ _ h.2.1, h1 _ _ h.2.2]
  simp [add3]
theorem of_l (x0 : List S153) (bx : Int) (all : Bool) (hx : x0.length ≤ 1000) (hg : ∀ r ∈ x0, In3 (toU r).2.1) : ∀ (n k i : Nat) (s : R3), x0.length = i + n → n < k →
    ((0 ≤ s.1 ∧ s.1 ≤ 1099511627776 * i) ∧ (0 ≤ s.2.1 ∧ s.2.1 ≤ 1099511627776 * i) ∧ (0 ≤ s.2.2 ∧ s.2.2 ≤ 1099511627776 * i)) →
    provostref22_Of.l0 k x0 bx all (i : Int) s.1 s.2.1 s.2.2 = some (add3 s (sumR (((x0.drop i).filter fun r => all || r.f0 == bx).map fun r => (toU r).2.1))) := by
  intro n
  induction n with
  | zero =>
    intro k i s h1 h2 h3
    obtain ⟨k, rfl⟩ : ∃ k', k = k' + 1 := ⟨k - 1, by omega⟩
    rw [provostref22_Of.l0, if_neg (by omega), List.drop_of_length_le (by omega)]
    simp [sumR, add3_zero]
  | succ n ih =>
    intro k i s h1 h2 h3
    obtain ⟨k, rfl⟩ : ∃ k', k = k' + 1 := ⟨k - 1, by omega⟩
    have hi : i < x0.length := by omega
    have hin := hg x0[i] (List.getElem_mem hi)
    rw [provostref22_Of.l0, if_pos (by omega), rd_at x0 i hi, wrap_succ (by omega), List.drop_eq_getElem_cons hi]
    generalize x0[i] = r at hin ⊢
    have ha := add14_f s (r.f2.f0, r.f2.f1, r.f2.f2) (by
      simp only [In3, toU] at hin
      simp only [Sml]
      omega)
    simp only at ha
    have hadd := ih k (i + 1) (add3 s (r.f2.f0, r.f2.f1, r.f2.f2)) (by omega) (by omega) (by
      simp only [In3, toU] at hin
      simp only [add3]
      omega)
    have hskip := ih k (i + 1) s (by omega) (by omega) (by omega)
    by_cases e1 : all = true
    · rw [if_pos e1, if_pos (by omega), ha]
      refine hadd.trans ?_
      rw [List.filter_cons_of_pos (by simp [e1]), List.map_cons, sumR, add3_assoc]
      rfl
    · rw [if_neg e1, if_pos (by omega)]
      by_cases e2 : r.f0 = bx
      · rw [if_pos e2, ha]
        refine hadd.trans ?_
        rw [List.filter_cons_of_pos (by simp [e2]), List.map_cons, sumR, add3_assoc]
        rfl
      · rw [if_neg e2]
        refine hskip.trans ?_
        rw [List.filter_cons_of_neg (by simp [e1, e2])]
theorem of_f (bx : Int) (all : Bool) {q : List S153} {al : UL} (h : q.map toU = al) (hg : GoodU al) (hl : q.length ≤ 1000) (k : Nat) (hk : q.length < k) :
    provostref22_Of.f k q bx all = some (if all then allU al else ofU bx al) := by
  have := of_l q bx all hl (fun r hr => (hg (toU r) (by rw [← h]; exact List.mem_map.2 ⟨r, hr, rfl⟩)).1) q.length k 0 (0, 0, 0) (by omega) hk (by simp)
  unfold provostref22_Of.f
  refine this.trans ?_
  rw [zero_add3, List.drop_zero]
  congr 1
  cases all
  · simp only [Bool.false_or, Bool.false_eq_true, if_false, ofU, sumM]
    rw [← h, List.filter_map, List.map_map]
    rfl
  · simp only [Bool.true_or, if_true, allU, sumM]
    rw [← h, List.filter_map, List.map_map]
    rfl
end Go.Proofs.Ytnceglkoolfncaa.Us
