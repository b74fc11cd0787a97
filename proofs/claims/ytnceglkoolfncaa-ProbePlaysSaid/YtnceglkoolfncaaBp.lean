/- Probes: what the reference's functions compute. Probes: what the reference's Watch and Ask compute. Probes: what the reference's Sick and Ask compute. Probes: the bridge between the program's book and the reference's list. Probes: the reference's Due. Probes: the bridge, asking: what the list answers is what the book answers. Probes: the law's own look at a book that works. Probes: acts, and the book and the document's list side by side. -/
import Derived.Test.YtnceglkoolfncaaPProbePlaysx1
import Derived.Test.YtnceglkoolfncaaPProbePlaysx2
import Derived.Test.YtnceglkoolfncaaPProbePlaysx3
import Derived.Test.YtnceglkoolfncaaBh
import Derived.Test.YtnceglkoolfncaaOp
set_option linter.unusedSimpArgs false
set_option linter.unusedVariables false
namespace Go.Proofs.Ytnceglkoolfncaa.PProbePlays
open Go.RowKit

def keepW (b c : Int) (al : Bool) (r : S207) : Bool := !(r.f0 == b && (al || r.f1 == c))
theorem rd_at (x0 : List S207) (i : Nat) (h : i < x0.length) : rd_T207 x0 (i : Int) = x0[i] := by
  simp [rd_T207, List.getD_eq_getElem?_getD, h]
theorem wrap_succ {i : Nat} (h : i ≤ 1000000) : wrap64 ((i : Int) + 1) = ((i + 1 : Nat) : Int) := by unfold wrap64; omega

theorem without_l (x0 : List S207) (b c : Int) (al : Bool) (hx : x0.length ≤ 1000000) : ∀ (n k : Nat) (acc : List S207) (i : Nat), x0.length = i + n → n < k → acc.length ≤ i →
    provostref26_Without.l0 k x0 b c al acc (i : Int) = some (acc ++ (x0.drop i).filter (keepW b c al)) := by
  intro n
  induction n with
  | zero =>
    intro k acc i h1 h2 h3
    obtain ⟨k, rfl⟩ : ∃ k', k = k' + 1 := ⟨k - 1, by omega⟩
    rw [provostref26_Without.l0, if_neg (by omega), List.drop_of_length_le (by omega)]
    simp
  | succ n ih =>
    intro k acc i h1 h2 h3
    obtain ⟨k, rfl⟩ : ∃ k', k = k' + 1 := ⟨k - 1, by omega⟩
    have hi : i < x0.length := by omega
    rw [provostref26_Without.l0, if_pos (by omega), if_pos (by omega), rd_at x0 i hi, wrap_succ (by omega), List.drop_eq_getElem_cons hi]
    have hskip := ih k acc (i + 1) (by omega) (by omega) (by omega)
    have hadd := ih k (acc ++ [x0[i]]) (i + 1) (by omega) (by omega) (by simp; omega)
    generalize x0[i] = r at hadd ⊢
    have hlt : acc.length < 2932031007402 := by omega
    by_cases e1 : r.f0 = b
    · by_cases e2 : al = true
      · rw [if_pos e1, if_pos e2, hskip, List.filter_cons_of_neg (by simp [keepW, e1, e2])]
      · by_cases e3 : r.f1 = c
        · rw [if_pos e1, if_neg e2, if_pos e3, hskip, List.filter_cons_of_neg (by simp [keepW, e1, e3])]
        · rw [if_pos e1, if_neg e2, if_neg e3, if_pos hlt]
          refine hadd.trans ?_
          rw [List.filter_cons_of_pos (by simp [keepW, e2, e3]), List.append_assoc]
          rfl
    · rw [if_neg e1, if_pos hlt]
      refine hadd.trans ?_
      rw [List.filter_cons_of_pos (by simp [keepW, e1]), List.append_assoc]
      rfl
theorem without_f (x0 : List S207) (b c : Int) (al : Bool) (hx : x0.length ≤ 1000000) (k : Nat) (hk : x0.length < k) : provostref26_Without.f k x0 b c al = some (x0.filter (keepW b c al)) := by
  have := without_l x0 b c al hx x0.length k [] 0 (by omega) hk (by simp)
  simpa [provostref26_Without.f] using this

/-- Where a pair stands. -/
def idxF (b c : Int) : List S207 → Nat → Int
  | [], _ => -1
  | r :: l, i => if r.f0 = b ∧ r.f1 = c then i else idxF b c l (i + 1)
theorem index_l (x0 : List S207) (b c : Int) (hx : x0.length ≤ 1000000) : ∀ (n k i : Nat), x0.length = i + n → n < k → provostref26_Index.l0 k x0 b c (i : Int) = some (idxF b c (x0.drop i) i) := by
  intro n
  induction n with
  | zero =>
    intro k i h1 h2
    obtain ⟨k, rfl⟩ : ∃ k', k = k' + 1 := ⟨k - 1, by omega⟩
    rw [provostref26_Index.l0, if_neg (by omega), List.drop_of_length_le (by omega)]
    rfl
  | succ n ih =>
    intro k i h1 h2
    obtain ⟨k, rfl⟩ : ∃ k', k = k' + 1 := ⟨k - 1, by omega⟩
    have hi : i < x0.length := by omega
    rw [provostref26_Index.l0, if_pos (by omega), if_pos (by omega), rd_at x0 i hi, wrap_succ (by omega), List.drop_eq_getElem_cons hi]
    have hs := ih k (i + 1) (by omega) (by omega)
    generalize x0[i] = r
    by_cases e1 : r.f0 = b <;> by_cases e2 : r.f1 = c <;> simp only [idxF, e1, e2, if_true, if_false, and_true, and_false, and_self] <;> exact hs
theorem index_f (x0 : List S207) (b c : Int) (hx : x0.length ≤ 1000000) (k : Nat) (hk : x0.length < k) : provostref26_Index.f k x0 b c = some (idxF b c x0 0) := by
  have := index_l x0 b c hx x0.length k 0 (by omega) hk
  simpa [provostref26_Index.f] using this

/-- The next time: the same fold. -/
def nextS (now : Int) (nx : Int) (l : List S207) : Int := l.foldl (fun acc r => if now < r.f3 ∧ (acc = 0 ∨ r.f3 < acc) then r.f3 else acc) nx
theorem next_l (x0 : List S207) (now : Int) (hx : x0.length ≤ 1000000) : ∀ (n k i : Nat) (nx : Int), x0.length = i + n → n < k → provostref26_Next.l0 k x0 now nx (i : Int) = some (nextS now nx (x0.drop i)) := by
  intro n
  induction n with
  | zero =>
    intro k i nx h1 h2
    obtain ⟨k, rfl⟩ : ∃ k', k = k' + 1 := ⟨k - 1, by omega⟩
    rw [provostref26_Next.l0, if_neg (by omega), List.drop_of_length_le (by omega)]
    rfl
  | succ n ih =>
    intro k i nx h1 h2
    obtain ⟨k, rfl⟩ : ∃ k', k = k' + 1 := ⟨k - 1, by omega⟩
    have hi : i < x0.length := by omega
    rw [provostref26_Next.l0, if_pos (by omega), if_pos (by omega), rd_at x0 i hi, wrap_succ (by omega), List.drop_eq_getElem_cons hi]
    have hs := fun nx => ih k (i + 1) nx (by omega) (by omega)
    generalize x0[i] = r
    have hc : ∀ l, nextS now nx (r :: l) = nextS now (if now < r.f3 ∧ (nx = 0 ∨ r.f3 < nx) then r.f3 else nx) l := fun l => rfl
    rw [hc]
    by_cases e1 : now < r.f3
    · by_cases e2 : nx = 0
      · rw [if_pos e1, if_pos e2, hs, if_pos ⟨e1, .inl e2⟩]
      · by_cases e3 : r.f3 < nx
        · rw [if_pos e1, if_neg e2, if_pos e3, hs, if_pos ⟨e1, .inr e3⟩]
        · rw [if_pos e1, if_neg e2, if_neg e3, hs, if_neg (fun h => h.2.elim e2 e3)]
    · rw [if_neg e1, hs, if_neg (fun h => e1 h.1)]
theorem next_f (x0 : List S207) (now : Int) (hx : x0.length ≤ 1000000) (k : Nat) (hk : x0.length < k) : provostref26_Next.f k x0 now = some (nextS now 0 x0) := by
  have := next_l x0 now hx x0.length k 0 0 (by omega) hk
  simpa [provostref26_Next.f] using this
end Go.Proofs.Ytnceglkoolfncaa.PProbePlays

set_option linter.unusedSimpArgs false
set_option linter.unusedVariables false
namespace Go.Proofs.Ytnceglkoolfncaa.PProbePlays
open Go.RowKit

/-- r stands ahead of (b, c). -/
def before (b c : Int) (r : S207) : Bool := decide (r.f0 < b) || (decide (r.f0 = b) && decide (r.f1 < c))
def insF (b c : Int) (x : S207) (l : List S207) : List S207 := l.takeWhile (before b c) ++ x :: l.dropWhile (before b c)
theorem insF_true {b c : Int} {x r : S207} {l : List S207} (h : before b c r = true) : insF b c x (r :: l) = r :: insF b c x l := by simp [insF, List.takeWhile_cons, List.dropWhile_cons, h]
theorem insF_false {b c : Int} {x r : S207} {l : List S207} (h : before b c r = false) : insF b c x (r :: l) = x :: r :: l := by simp [insF, List.takeWhile_cons, List.dropWhile_cons, h]
theorem watch_l (x0 : List S207) (b c now e f : Int) (hx : x0.length ≤ 1000000) : ∀ (n k i : Nat), x0.length = i + n → n < k →
    provostref26_Watch.l0 k x0 b c now (i : Int) e f = some (x0.take i ++ insF b c ⟨b, c, ⟨e, f⟩, wrap64 (now + e), 0⟩ (x0.drop i)) := by
  intro n
  induction n with
  | zero =>
    intro k i h1 h2
    obtain ⟨k, rfl⟩ : ∃ k', k = k' + 1 := ⟨k - 1, by omega⟩
    rw [provostref26_Watch.l0, if_neg (by omega)]
    simp only [Option.bind_some]
    rw [if_pos (by omega), if_pos (by omega)]
    simp only [Option.bind_some, Int.toNat_natCast, List.nil_append, List.length_nil, List.length_cons, List.length_append, List.length_take, List.length_drop]
    rw [if_pos (by omega), if_pos (by omega), if_pos (by omega), List.drop_of_length_le (by omega)]
    rfl
  | succ n ih =>
    intro k i h1 h2
    obtain ⟨k, rfl⟩ : ∃ k', k = k' + 1 := ⟨k - 1, by omega⟩
    have hi : i < x0.length := by omega
    rw [provostref26_Watch.l0, if_pos (by omega), if_pos (by omega), rd_at x0 i hi, wrap_succ (by omega)]
    have hs := ih k (i + 1) (by omega) (by omega)
    have hd : x0.drop i = x0[i] :: x0.drop (i + 1) := List.drop_eq_getElem_cons hi
    have ht : x0.take (i + 1) = x0.take i ++ [x0[i]] := by rw [List.take_add_one, List.getElem?_eq_getElem hi]; rfl
    have hgo : before b c x0[i] = true → provostref26_Watch.l0 k x0 b c now ((i + 1 : Nat) : Int) e f = some (x0.take i ++ insF b c ⟨b, c, ⟨e, f⟩, wrap64 (now + e), 0⟩ (x0.drop i)) := by
      intro hb
      rw [hs, ht, hd, insF_true hb, List.append_assoc]
      rfl
    have hno : before b c x0[i] = false → insF b c ⟨b, c, ⟨e, f⟩, wrap64 (now + e), 0⟩ (x0.drop i) = ⟨b, c, ⟨e, f⟩, wrap64 (now + e), 0⟩ :: x0.drop i := by
      intro hb
      rw [hd, insF_false hb]
    have hout : before b c x0[i] = false → some (x0.take i ++ ([⟨b, c, ⟨e, f⟩, wrap64 (now + e), 0⟩] ++ x0.drop i)) = some (x0.take i ++ insF b c ⟨b, c, ⟨e, f⟩, wrap64 (now + e), 0⟩ (x0.drop i)) := fun hb => by rw [hno hb]; rfl
    generalize x0[i] = r at hgo hout ⊢
    by_cases e1 : r.f0 < b
    · rw [if_pos e1]
      exact hgo (by simp [before, e1])
    · by_cases e2 : r.f0 = b
      · by_cases e3 : r.f1 < c
        · rw [if_neg e1, if_pos e2, if_pos e3]
          exact hgo (by simp [before, e2, e3])
        · rw [if_neg e1, if_pos e2, if_neg e3]
          simp only [Option.bind_some]
          rw [if_pos (by omega)]
          simp only [Option.bind_some, Int.toNat_natCast, List.nil_append, List.length_nil, List.length_cons, List.length_append, List.length_take, List.length_drop]
          rw [if_pos (by omega), if_pos (by omega), if_pos (by omega)]
          exact hout (by simp [before, e2, e3])
      · rw [if_neg e1, if_neg e2]
        simp only [Option.bind_some]
        rw [if_pos (by omega)]
        simp only [Option.bind_some, Int.toNat_natCast, List.nil_append, List.length_nil, List.length_cons, List.length_append, List.length_take, List.length_drop]
        rw [if_pos (by omega), if_pos (by omega), if_pos (by omega)]
        exact hout (by simp [before, e1, e2])
/-- The document's Watch. -/
def watchS (b c e f now : Int) (l : List S207) : List S207 := if e < 1 then l.filter (keepW b c false) else insF b c ⟨b, c, ⟨e, f⟩, wrap64 (now + e), 0⟩ (l.filter (keepW b c false))
theorem watch_f (x0 : List S207) (b c e f now : Int) (hx : x0.length ≤ 1000000) (k : Nat) (hk : x0.length < k) : provostref26_Watch.f k x0 b c e f now = some (watchS b c e f now x0) := by
  unfold provostref26_Watch.f watchS
  rw [without_f x0 b c false hx k hk]
  have hl := List.length_filter_le (keepW b c false) x0
  simp only [Option.bind_some]
  split
  · rfl
  · have := watch_l (x0.filter (keepW b c false)) b c now e f (by omega) _ k 0 (by rw [Nat.zero_add]) (by omega)
    simpa using this
end Go.Proofs.Ytnceglkoolfncaa.PProbePlays

set_option linter.unusedSimpArgs false
set_option linter.unusedVariables false
namespace Go.Proofs.Ytnceglkoolfncaa.PProbePlays
open Go.RowKit

theorem idx_cases (b c : Int) (l : List S207) (i : Nat) : (idxF b c l i = -1 ∧ ∀ r ∈ l, ¬ (r.f0 = b ∧ r.f1 = c)) ∨ ∃ j r, l[j]? = some r ∧ r.f0 = b ∧ r.f1 = c ∧ idxF b c l i = ((i + j : Nat) : Int) := by
  induction l generalizing i with
  | nil => exact .inl ⟨rfl, by simp⟩
  | cons x xs ih =>
    by_cases h : x.f0 = b ∧ x.f1 = c
    · exact .inr ⟨0, x, rfl, h.1, h.2, by simp [idxF, h]⟩
    · have e : idxF b c (x :: xs) i = idxF b c xs (i + 1) := by simp only [idxF, if_neg h]
      rcases ih (i + 1) with ⟨h1, h2⟩ | ⟨j, r, h1, h2, h3, h4⟩
      · exact .inl ⟨e.trans h1, fun r hr => by
          rcases List.mem_cons.1 hr with rfl | hr
          · exact h
          · exact h2 r hr⟩
      · exact .inr ⟨j + 1, r, by simpa using h1, h2, h3, by rw [e, h4]; congr 1; omega⟩
theorem idxF_congr (b c : Int) (l m : List S207) (i : Nat) (h : l.map (fun r => (r.f0, r.f1)) = m.map (fun r => (r.f0, r.f1))) : idxF b c l i = idxF b c m i := by
  induction l generalizing m i with
  | nil => cases m with
    | nil => rfl
    | cons y ys => simp at h
  | cons x xs ih => cases m with
    | nil => simp at h
    | cons y ys =>
      simp only [List.map_cons, List.cons.injEq, Prod.mk.injEq] at h
      simp only [idxF, h.1.1, h.1.2, ih ys (i + 1) h.2]
theorem keys_set (l : List S207) (j : Nat) (r x : S207) (h : l[j]? = some r) (h0 : x.f0 = r.f0) (h1 : x.f1 = r.f1) : (l.set j x).map (fun r => (r.f0, r.f1)) = l.map (fun r => (r.f0, r.f1)) := by
  rw [List.map_set]
  refine List.ext_getElem? fun k => ?_
  rw [List.getElem?_set]
  by_cases e : j = k
  · subst e
    have hl : j < l.length := (List.getElem?_eq_some_iff.1 h).1
    have e2 : l[j] = r := by rw [List.getElem?_eq_getElem hl] at h; exact Option.some.inj h
    simp [hl, h0, h1, e2]
  · simp [e]
theorem rd_some {l : List S207} {j : Nat} {r : S207} (h : l[j]? = some r) : rd_T207 l (j : Int) = r := by
  simp [rd_T207, List.getD_eq_getElem?_getD, h]
theorem sick_none (l : List S207) (b c : Int) (hl : l.length ≤ 1000000) (k : Nat) (hk : l.length < k) (h : idxF b c l 0 = -1) : provostref26_Sick.f k l b c = some false := by
  unfold provostref26_Sick.f
  rw [index_f l b c hl k hk, h]
  rfl
theorem sick_some (l : List S207) (b c : Int) (hl : l.length ≤ 1000000) (k : Nat) (hk : l.length < k) {j : Nat} {r : S207} (h : idxF b c l 0 = (j : Int)) (hr : l[j]? = some r) : provostref26_Sick.f k l b c = some (decide (r.f4 ≥ r.f2.f1)) := by
  have hj : j < l.length := (List.getElem?_eq_some_iff.1 hr).1
  unfold provostref26_Sick.f
  rw [index_f l b c hl k hk, h]
  simp only [Option.bind_some]
  rw [if_pos (by omega), if_pos (by omega), if_pos (by omega), rd_some hr]
/-- The row when it has answered. -/
def answS (bad : Bool) (now : Int) (r : S207) : S207 := ⟨r.f0, r.f1, r.f2, wrap64 (now + r.f2.f0), if bad then wrap64 (r.f4 + 1) else 0⟩
theorem ask_none (l : List S207) (b c : Int) (bad : Bool) (now : Int) (hl : l.length ≤ 1000000) (k : Nat) (hk : l.length < k) (h : idxF b c l 0 = -1) : provostref26_Ask.f k l b c bad now = some (l, false) := by
  obtain ⟨k, rfl⟩ : ∃ k', k = k' + 1 := ⟨k - 1, by omega⟩
  unfold provostref26_Ask.f
  rw [index_f l b c hl _ hk, h]
  simp only [Option.bind_some]
  rw [if_pos (by omega), provostref26_Ask.j0, if_pos rfl]
theorem ask_early (l : List S207) (b c : Int) (bad : Bool) (now : Int) (hl : l.length ≤ 1000000) (k : Nat) (hk : l.length < k) {j : Nat} {r : S207} (h : idxF b c l 0 = (j : Int)) (hr : l[j]? = some r) (hn : now < r.f3) : provostref26_Ask.f k l b c bad now = some (l, false) := by
  have hj : j < l.length := (List.getElem?_eq_some_iff.1 hr).1
  obtain ⟨k, rfl⟩ : ∃ k', k = k' + 1 := ⟨k - 1, by omega⟩
  unfold provostref26_Ask.f
  rw [index_f l b c hl _ hk, h]
  simp only [Option.bind_some]
  rw [if_neg (by omega), if_pos (by omega), if_pos (by omega), rd_some hr, provostref26_Ask.j0, if_pos (by simpa using hn)]
theorem ask_due (l : List S207) (b c : Int) (bad : Bool) (now : Int) (hl : l.length ≤ 1000000) (k : Nat) (hk : l.length + 1 < k) {j : Nat} {r : S207} (h : idxF b c l 0 = (j : Int)) (hr : l[j]? = some r) (hn : ¬ now < r.f3) :
    provostref26_Ask.f k l b c bad now = some (l.set j (answS bad now r), decide ((answS bad now r).f4 ≥ (answS bad now r).f2.f1)) := by
  have hj : j < l.length := (List.getElem?_eq_some_iff.1 hr).1
  obtain ⟨k, rfl⟩ : ∃ k', k = k' + 1 := ⟨k - 1, by omega⟩
  have hs : ∀ x : S207, x.f0 = r.f0 → x.f1 = r.f1 → provostref26_Sick.f k (l.set j x) b c = some (decide (x.f4 ≥ x.f2.f1)) := fun x h0 h1 =>
    sick_some (l.set j x) b c (by simpa using hl) k (by simp; omega) ((idxF_congr b c _ l 0 (keys_set l j r x hr h0 h1)).trans h) (by simp [hj])
  have hset : ∀ x : S207, (l.set j x)[j]? = some x := fun x => by simp [hj]
  unfold provostref26_Ask.f
  rw [index_f l b c hl _ (by omega), h]
  simp only [Option.bind_some]
  rw [if_neg (by omega), if_pos (by omega), if_pos (by omega), rd_some hr, provostref26_Ask.j0, if_neg (by simpa using hn)]
  simp only [Option.bind_some, List.nil_append, List.length_nil, Int.toNat_natCast]
  rw [if_pos (by omega)]
  cases bad
  · rw [if_neg (by simp), if_pos (by omega), if_pos (by omega), rd_some hr, rd_some (hset _)]
    simp only [List.set_set]
    exact congrArg (fun o : Option Bool => o.bind fun t => some (l.set j (answS false now r), t)) (hs (answS false now r) rfl rfl)
  · rw [if_pos rfl, if_pos (by omega), if_pos (by omega), rd_some hr, rd_some (hset _)]
    simp only [List.set_set]
    exact congrArg (fun o : Option Bool => o.bind fun t => some (l.set j (answS true now r), t)) (hs (answS true now r) rfl rfl)
end Go.Proofs.Ytnceglkoolfncaa.PProbePlays

set_option linter.unusedSimpArgs false
set_option linter.unusedVariables false
namespace Go.Proofs.Ytnceglkoolfncaa.Pr
open Go.RowKit Go.Pv Go.Proofs.Ytnceglkoolfncaa.Po Go.Proofs.Ytnceglkoolfncaa.PProbePlays

def dueS (now : Int) (q : List S207) : List (Int × Int) := (q.filter fun r => decide (r.f3 ≤ now)).map fun r => (r.f0, r.f1)
theorem dueS_le (now : Int) (l : List S207) : (dueS now l).length ≤ l.length := by
  unfold dueS
  rw [List.length_map]
  exact List.length_filter_le _ _
def r2 (r : S207) : (Int × Int) × PS := ((r.f0, r.f1), (r.f2.f0, r.f2.f1, r.f3, r.f4))
theorem nextS_eq (now nx : Int) (q : List S207) : nextS now nx q = (q.map r2).foldl (fun acc r => if now < r.2.2.2.1 ∧ (acc = 0 ∨ r.2.2.2.1 < acc) then r.2.2.2.1 else acc) nx := by
  unfold nextS
  rw [List.foldl_map]
  rfl
theorem next_same {now : Int} (hn : 0 ≤ now) {q : List S207} {al vis : AL} (h : (q.map r2).Perm al) (hv : vis.Perm al) : nextS now 0 q = nextF now vis := by
  rw [nextS_eq]
  exact nextF_perm hn (h.trans hv.symm)
theorem dueF_perm (now : Int) {l m : AL} (h : l.Perm m) : (dueF now l).Perm (dueF now m) := (h.filter _).map _
theorem leP_trans (a b c : Int × Int) (h1 : leP a b = true) (h2 : leP b c = true) : leP a c = true := by
  simp only [leP, Bool.or_eq_true, Bool.and_eq_true, decide_eq_true_eq] at *
  omega
theorem leP_total (a b : Int × Int) : (leP a b || leP b a) = true := by
  simp only [leP, Bool.or_eq_true, Bool.and_eq_true, decide_eq_true_eq] at *
  omega
theorem leP_antisymm {a b : Int × Int} (h1 : leP a b = true) (h2 : leP b a = true) : a = b := by
  obtain ⟨a1, a2⟩ := a
  obtain ⟨b1, b2⟩ := b
  simp only [leP, Bool.or_eq_true, Bool.and_eq_true, decide_eq_true_eq, Prod.mk.injEq] at *
  omega
theorem sorted_same {l m : List (Int × Int)} (h : l.Perm m) (hl : l.Pairwise (fun a b => leP a b = true)) (hm : m.Pairwise (fun a b => leP a b = true)) : l = m :=
  h.eq_of_pairwise (fun a b _ _ h1 h2 => leP_antisymm h1 h2) hl hm
theorem due_same {now : Int} {q : List S207} {al vis : AL} (h : (q.map r2).Perm al) (hv : vis.Perm al) (hs : (q.map fun r => (r.f0, r.f1)).Pairwise (fun a b => leP a b = true)) : (dueF now vis).mergeSort leP = dueS now q := by
  have e : dueS now q = dueF now (q.map r2) := by
    unfold dueS dueF
    rw [List.filter_map, List.map_map]
    rfl
  refine sorted_same ((List.mergeSort_perm _ _).trans ?_) (List.pairwise_mergeSort leP_trans leP_total _) ?_
  · rw [e]
    exact dueF_perm now (hv.trans h.symm)
  · exact hs.sublist (List.Sublist.map _ List.filter_sublist)
theorem filter_same (f : (Int × Int) × PS → Bool) (g : S207 → Bool) (hfg : ∀ r, f (r2 r) = g r) {q : List S207} {al : AL} (h : (q.map r2).Perm al) : ((q.filter g).map r2).Perm (al.filter f) := by
  have e : (q.map r2).filter f = (q.filter g).map r2 := by
    rw [List.filter_map]
    congr 1
    exact List.filter_congr fun r _ => hfg r
  rw [← e]
  exact h.filter f
theorem without_same (b c : Int) {q : List S207} {al : AL} (h : (q.map r2).Perm al) (nd : (al.map (·.1)).Nodup) : ((q.filter (keepW b c false)).map r2).Perm (adel (b, c) al) := by
  rw [adel_filter _ _ nd]
  refine filter_same _ _ (fun r => ?_) h
  simp only [keepW, r2, Bool.false_or, Prod.mk.injEq]
  by_cases h1 : r.f0 = b <;> by_cases h2 : r.f1 = c <;> simp [h1, h2]
theorem gone_same (b c : Int) {q : List S207} {al : AL} (h : (q.map r2).Perm al) : ((q.filter (keepW b c true)).map r2).Perm (al.filter fun r => !(r.1.1 == b)) := by
  refine filter_same _ _ (fun r => ?_) h
  simp [keepW, r2]
/-- Sorted by the pair. -/
def Srt (q : List S207) : Prop := (q.map fun r => (r.f0, r.f1)).Pairwise (fun a b => leP a b = true)
theorem Srt.filter {q : List S207} (h : Srt q) (f : S207 → Bool) : Srt (q.filter f) := h.sublist (List.Sublist.map _ List.filter_sublist)
theorem ins_perm (b c : Int) (x : S207) (l : List S207) : (insF b c x l).Perm (x :: l) := by
  unfold insF
  refine List.perm_middle.trans ?_
  rw [List.takeWhile_append_dropWhile]
theorem ins_srt (b c : Int) (x : S207) (hx : x.f0 = b ∧ x.f1 = c) (l : List S207) (h : Srt l) : Srt (insF b c x l) := by
  induction l with
  | nil => simp [insF, Srt]
  | cons r l ih =>
    have h' := h
    unfold Srt at h'
    simp only [List.map_cons, List.pairwise_cons] at h'
    cases hb : before b c r with
    | true =>
      rw [insF_true hb]
      unfold Srt
      simp only [List.map_cons, List.pairwise_cons]
      refine ⟨fun y hy => ?_, ih h'.2⟩
      have hy2 : y ∈ (x :: l).map (fun r => (r.f0, r.f1)) := ((ins_perm b c x l).map _).mem_iff.1 hy
      rcases List.mem_cons.1 hy2 with rfl | hy3
      · simp only [before, Bool.or_eq_true, Bool.and_eq_true, decide_eq_true_eq] at hb
        simp only [leP, Bool.or_eq_true, Bool.and_eq_true, decide_eq_true_eq]
        omega
      · exact h'.1 y hy3
    | false =>
      rw [insF_false hb]
      unfold Srt
      simp only [List.map_cons, List.pairwise_cons]
      have h0 : leP (x.f0, x.f1) (r.f0, r.f1) = true := by
        simp only [before, Bool.or_eq_false_iff, Bool.and_eq_false_iff, decide_eq_false_iff_not] at hb
        simp only [leP, Bool.or_eq_true, Bool.and_eq_true, decide_eq_true_eq]
        omega
      refine ⟨fun y hy => ?_, h'⟩
      rcases List.mem_cons.1 hy with rfl | hy
      · exact h0
      · exact leP_trans _ _ _ h0 (h'.1 y hy)
theorem aset_new (k : Int × Int) (v : PS) (l : AL) (h : ∀ r ∈ l, r.1 ≠ k) : aset k v l = l ++ [(k, v)] := by
  induction l with
  | nil => rfl
  | cons x xs ih =>
    simp only [aset, if_neg (h x (List.mem_cons_self ..)), ih fun r hr => h r (List.mem_cons_of_mem _ hr), List.cons_append]
theorem watch_same (b c e f now : Int) (hw : wrap64 (now + e) = now + e) {q : List S207} {al : AL} (h : (q.map r2).Perm al) (nd : (al.map (·.1)).Nodup) (hs : Srt q) :
    ((watchS b c e f now q).map r2).Perm (watchA b c e f now al) ∧ Srt (watchS b c e f now q) := by
  have hw0 := without_same b c h nd
  unfold watchS watchA
  by_cases he : e < 1
  · rw [if_pos he, if_neg (by omega)]
    exact ⟨hw0, hs.filter _⟩
  · rw [if_neg he, if_pos (by omega)]
    refine ⟨?_, ins_srt b c _ ⟨rfl, rfl⟩ _ (hs.filter _)⟩
    rw [aset_new _ _ _ (fun r hr => by rw [adel_filter _ _ nd, List.mem_filter] at hr; simpa using hr.2)]
    refine ((ins_perm b c _ _).map r2).trans ?_
    rw [List.map_cons]
    refine (List.Perm.cons _ hw0).trans ?_
    have e2 : r2 ⟨b, c, ⟨e, f⟩, wrap64 (now + e), 0⟩ = ((b, c), (e, f, now + e, 0)) := by simp [r2, hw]
    rw [e2]
    exact (List.perm_append_comm (l₁ := [((b, c), (e, f, now + e, 0))]))
theorem look_none (b c : Int) {q : List S207} {al : AL} (h : (q.map r2).Perm al) (hq : ∀ r ∈ q, ¬ (r.f0 = b ∧ r.f1 = c)) : aget (b, c) al = none := by
  cases e : aget (b, c) al with
  | none => rfl
  | some v =>
    obtain ⟨r, hr, e2⟩ := List.mem_map.1 (h.mem_iff.2 (aget_mem e))
    simp only [r2, Prod.mk.injEq] at e2
    exact absurd ⟨e2.1.1, e2.1.2⟩ (hq r hr)
theorem look_some (b c : Int) {q : List S207} {al : AL} (h : (q.map r2).Perm al) (nd : (al.map (·.1)).Nodup) {j : Nat} {r : S207} (hr : q[j]? = some r) (h0 : r.f0 = b) (h1 : r.f1 = c) : aget (b, c) al = some (r2 r).2 := by
  refine aget_of_mem nd ?_
  have hm : r2 r ∈ q.map r2 := List.mem_map.2 ⟨r, List.mem_of_getElem? hr, rfl⟩
  have := h.mem_iff.1 hm
  have e : r2 r = ((b, c), (r2 r).2) := by simp [r2, h0, h1]
  rwa [e] at this
end Go.Proofs.Ytnceglkoolfncaa.Pr

set_option linter.unusedSimpArgs false
set_option linter.unusedVariables false
namespace Go.Proofs.Ytnceglkoolfncaa.Pr
open Go.RowKit Go.Pv Go.Proofs.Ytnceglkoolfncaa.Po Go.Sort Go.Proofs.Ytnceglkoolfncaa.PProbePlays
open Go.RowKit Go.Proofs.YtnceglkoolfncaaW.PrintWords Go.Proofs.YtnceglkoolfncaaW.PrintLast Go.Proofs.YtnceglkoolfncaaW.PrintMore

theorem cell_lt {w : World} {b o : Nat} {v : Value} (h : w.cell? ⟨b, o, none⟩ = some v) : b < w.heap.size := by
  unfold World.cell? at h
  cases hb : w.heap[b]? with
  | none => simp [hb] at h
  | some ob => exact (Array.getElem?_eq_some_iff.1 hb).1
theorem dueS_next (now : Int) (q : List S207) (i : Nat) (hi : i < q.length) : dueS now (q.take (i + 1)) = if (q[i]).f3 ≤ now then dueS now (q.take i) ++ [((q[i]).f0, (q[i]).f1)] else dueS now (q.take i) := by
  have e : q.take (i + 1) = q.take i ++ [q[i]] := by rw [List.take_add_one, List.getElem?_eq_getElem hi]; rfl
  rw [e]
  generalize q[i] = r
  generalize q.take i = l
  unfold dueS
  by_cases h : r.f3 ≤ now <;> simp [List.filter_append, h]
theorem dueAt_of {w : World} {A : Option Addr} {n c : Nat} {L : List (Int × Int)} (h : SlOf w 208 2 encP (.slice A n c) L) : n = L.length ∧ DueAt w A L := by
  rcases SlRow.form h with ⟨h1, h0⟩ | ⟨g, o, c', hv⟩
  · simp only [Value.slice.injEq] at h1
    exact ⟨h1.2.1.trans h0.symm, fun i hi => by omega⟩
  · have hv2 := hv
    simp only [Value.slice.injEq] at hv2
    refine ⟨hv2.2.1, fun i hi => ?_⟩
    have q0 := SlRow.cells h hv (i * 2) _ (flatP L (i * 2) (by omega))
    have q1 := SlRow.cells h hv (i * 2 + 1) _ (flatP L (i * 2 + 1) (by omega))
    have e0 : (i * 2) / 2 = i := by omega
    have e1 : (i * 2) % 2 = 0 := by omega
    have e2 : (i * 2 + 1) / 2 = i := by omega
    have e3 : (i * 2 + 1) % 2 = 1 := by omega
    have e4 : L[i]! = L[i] := getElem!_pos L i hi
    rw [e0, e1, e4] at q0
    rw [e2, e3, e4] at q1
    exact ⟨g, o, hv2.1, SlRow.lt h (by rw [hv]; rfl), q0, q1⟩
structure Ds (w : World) (q : List S207) (now : Int) (i : Nat) (v : Value) (wr : World) : Prop where
  low : Below w.heap.size w wr
  sl : SlOf wr 208 2 encP v (dueS now (q.take i))
  new : ∀ g, v.ownBlock = some g → w.heap.size ≤ g
theorem due_app1 {w2 : World} {A : Option Addr} {n c : Nat} {L : List (Int × Int)} (sl : SlOf w2 208 2 encP (.slice A n c) L) (hL : L.length ≤ 1000000) (x y : Int) :
    ∃ A' n' c' w3, (Builtin.append_ #[136, 136] 136 #[.slice A n c, .slice (some ⟨w2.heap.size, 0, none⟩) 1 1]).run Try.prog (w2.alloc (.cells #[.int .i64 x, .int .i64 y] 208)) = .ok (.slice A' n' c') w3 ∧
      SlOf w3 208 2 encP (.slice A' n' c') (L ++ [(x, y)]) ∧ Keeps (fun k => (Value.slice A n c).ownBlock = some k) w2 w3 ∧ ((Value.slice A' n' c').ownBlock = (Value.slice A n c).ownBlock ∨ ∃ g, (Value.slice A' n' c').ownBlock = some g ∧ w2.heap.size ≤ g) := by
  obtain ⟨i0, hi, hz0, hz1, hz2⟩ := info208
  have k3 : Below w2.heap.size w2 (w2.alloc (.cells #[.int .i64 x, .int .i64 y] 208)) := (Below.refl _ w2).alloc (Nat.le_refl _) _
  have bx : (w2.alloc (.cells #[.int .i64 x, .int .i64 y] 208)).heap[w2.heap.size]? = some (.cells #[.int .i64 x, .int .i64 y] 208 (0, 0)) := heapAt _ _ _ rfl
  have s2 : SlOf (w2.alloc (.cells #[.int .i64 x, .int .i64 y] 208)) 208 2 encP (.slice A n c) L := SlRow.kept sl (Keeps.of_below (F := fun _ => False) k3) (by simp)
  obtain ⟨v', w3, hr, hs3, hk3, hloc, -, -⟩ := run_append_sl (P := Try.prog) _ 136 136 208 i0 _ 2 16 Try.underlying136 hi hz0 hz1 hz2 rfl _ _ _ s2
        (.slice (some ⟨w2.heap.size, 0, none⟩) 1 1) 1 [.int .i64 x, .int .i64 y]
        (.inr ⟨_, _, rfl, World.news_of_block (cs := #[.int .i64 x, .int .i64 y]) (t := 208) (fr := (0, 0)) bx⟩) rfl (by simp [Value.oneCell']) (by unfold maxLen; omega) (by omega)
  obtain ⟨A', n', c', hv'⟩ : ∃ a n c, v' = .slice a n c := by
    rcases SlRow.form hs3 with ⟨h1, _⟩ | ⟨g, o, c, h1⟩
    · exact ⟨_, _, _, h1⟩
    · exact ⟨_, _, _, h1⟩
  subst hv'
  refine ⟨A', n', c', w3, hr, ?_, (Keeps.of_below (F := fun k => (Value.slice A n c).ownBlock = some k) k3).trans hk3 (fun i hi => .inl hi), ?_⟩
  · unfold SlOf
    simpa [List.flatMap_append, encP] using hs3
  · rcases hloc with h | h
    · exact .inl h
    · exact .inr ⟨_, h, k3.size⟩

/-- An append in a region that draws, by what it does. -/
theorem bAppend_ {P : Program} {ops : Array Oper} {Q : Exit → Act → World → Prop} {oi : Oper} {N : Option Tmp} {a : Act} {w w1 : World} {K : Act → World → Prop} {v sv xv : Value} (hw : Region.wanted oi (yielded ops a.tmps) = true) (hN : oi.dst = N) (s x : Operand) (t : TypeId)
    (ho : oi.op = .call { callee := .builtin .append, args := #[s, x], argTypes := #[t, t] }) (hs : a.eval s = sv) (hx : a.eval x = xv) (hr : (Builtin.append_ #[t, t] oi.type #[sv, xv]).run P w = .ok v w1) (h : K (a.put N v) w1) :
    if Region.wanted oi (yielded ops a.tmps) = true then Oper.wp P oi a w K Q else K (a.put N undef) w :=
  value_ hw hN (by
    unfold execOp
    simp only [ho, resolve, invoke, builtin, Sem.run_bind, Sem.run_pure, Result.andThen_ok, List.map_toArray, List.map_cons, List.map_nil, hs, hx, hr]) h
def rdue6.T : Bool × List (List Nat × List Nat) := (true, [([], []), ([], []), ([], []), ([1, 2], [1, 2]), ([3], [3]), ([4], [4]), ([], []), ([], []), ([6, 7], [6, 7]), ([8], [8]), ([9], [9]), ([5, 10], [5, 10]), ([11], [11]), ([0, 12], [0, 12]), ([13, 13, 0, 1, 2, 3, 4, 5, 6, 7, 8, 9, 10, 11, 12, 13], [0, 13])])
def rdue6.B : List Nat := [0, 0, 0, 6, 14, 30, 0, 0, 192, 448, 960, 2046, 4094, 8191, 16383]
theorem rdue6.tab : rtab .any (opsOf Try.f77 6) = rdue6.T := by kernel_rfl
theorem rdue6.bits : waitsOk rdue6.T.2 rdue6.B = true := by kernel_rfl
set_option maxRecDepth 10000 in
set_option maxHeartbeats 4000000 in
theorem rdue_any {w : World} {A : Option Addr} {c : Nat} {q : List S207} (h : Kd.C k207 w A q.length q) (hq : q.length ≤ 1000000) (now : Int) :
    Calls Try.prog 77 #[.slice A q.length c, .int .i64 now] w fun e w' => (∃ (A' : Option Addr) (c' : Nat), e = .returned (.slice A' (dueS now q).length c') ∧ DueAt w' A' (dueS now q)) ∧ Below w.heap.size w w' := by
  have HC := hid h
  have H0 := hid (show Ds w q now 0 (.slice none 0 0) w from ⟨Below.refl _ _, SlRow.nil _ _ _, by simp [Value.ownBlock]⟩)
  clear h
  go_enter Try.func77, Try.ntmps77
  go_wp2
  go_loopg [5, 6] q.length (fun g s5 s6 wr => ∃ i : Nat, g = q.length - i ∧ i ≤ q.length ∧ s6 = .int .i64 i ∧ ∃ A n c, s5 = .slice A n c ∧ Hid (Ds w q now i (.slice A n c) wr))
  case atStart => exact ⟨0, by omega, by omega, rfl, _, _, _, rfl, H0⟩
  case round =>
    clear H0
    obtain ⟨i, rfl, hil, rfl, A1, n1, c1, rfl, HU⟩ := hrel
    by_cases hlt : i < q.length
    · obtain ⟨ad, haa, d0, d1, d2, d3, d4, d5⟩ := at_T207 HC.out (i : Int) (by omega) (by omega)
      rw [rd_at q i hlt] at d0 d1 d2 d3 d4 d5
      subst haa
      simp only [Int.toNat_natCast] at d0 d1 d2 d3 d4 d5
      have d0' : w.cell? ⟨(ad.add (i * 6)).block, (ad.add (i * 6)).off, none⟩ = some (.int .i64 (q[i]).f0) ∨ True := .inr trivial
      have hab := cell_lt d1
      have hlow := HU.out.low
      have e0 := (hlow.cell (p := ad.add (i * 6)) hab).trans d0
      have e1 := (hlow.cell (p := ⟨(ad.add (i * 6)).block, (ad.add (i * 6)).off + 1, none⟩) hab).trans d1
      have e4 := (hlow.cell (p := ⟨(ad.add (i * 6)).block, (ad.add (i * 6)).off + 4, none⟩) hab).trans d4
      have g0 : wr.drew.cell? (ad.add (i * 6)) = some (.int .i64 (q[i]).f0) := e0
      have g1 : wr.drew.cell? ⟨(ad.add (i * 6)).block, (ad.add (i * 6)).off + 1, none⟩ = some (.int .i64 (q[i]).f1) := e1
      obtain ⟨A', n', c', w3, hr3, sl3, k3, loc⟩ := due_app1 (w2 := wr.drew) HU.out.sl.drew (by have := dueS_le now (q.take i); simp at this; omega) (q[i]).f0 (q[i]).f1
      have HR3 := hid hr3
      have hlq : q.length ≤ 1000000 := hq
      have hsn := dueS_next now q i hlt
      have HY : Hid ((q[i]).f3 ≤ now → Ds w q now (i + 1) (.slice A' n' c') w3) := hid fun hm => by
        have hno := HU.out.new
        refine ⟨(below_drew_ hlow).trans (k3.below hlow.size (fun i hi => hno i hi)), by rw [hsn, if_pos hm]; exact sl3, fun g hg => ?_⟩
        rcases loc with h1 | ⟨g', h1, h2⟩
        · exact hno g (h1 ▸ hg)
        · rw [h1] at hg
          cases hg
          exact Nat.le_trans hlow.size h2
      have HN : Hid (¬ (q[i]).f3 ≤ now → Ds w q now (i + 1) (.slice A1 n1 c1) wr) := hid fun hm => ⟨hlow, by rw [hsn, if_neg hm]; exact HU.out.sl, HU.out.new⟩
      clear d0 d1 d2 d3 d4 d5 d0' hr3 sl3 k3 loc hsn hlow
      generalize q[i] = r at e0 e1 e4 g0 g1 HR3 HY HN
      by_cases hm : r.f3 ≤ now
      · have hwb : (ad.add (i * 6)).block < wr.drew.heap.size := Nat.lt_of_lt_of_le hab HU.out.low.size
        obtain ⟨Wd, hWd⟩ : ∃ Wd, Wd = wr.drew := ⟨_, rfl⟩
        have HWD := hid hWd
        obtain ⟨W2, hW2⟩ : ∃ W2, W2 = Wd.alloc (.cells #[.int .i64 r.f0, .int .i64 r.f1] 208) := ⟨_, rfl⟩
        have HW2 := hid hW2
        rw [← hWd] at g0 g1 hwb
        have hr5 := HR3.out
        rw [← hWd, ← hW2] at hr5
        have HR5 := hid hr5
        have k9 : Below Wd.heap.size Wd W2 := by rw [hW2]; exact (Below.refl _ Wd).alloc (Nat.le_refl _) _
        have S0 : Wd.cell? (ad.add (i * 6)) = some (.int .i64 r.f0) ∧ Wd.cell? ⟨(ad.add (i * 6)).block, (ad.add (i * 6)).off + 1, none⟩ = some (.int .i64 r.f1) := ⟨g0, g1⟩
        have S1 : W2.cell? (ad.add (i * 6)) = some (.int .i64 r.f0) ∧ W2.cell? ⟨(ad.add (i * 6)).block, (ad.add (i * 6)).off + 1, none⟩ = some (.int .i64 r.f1) :=
          ⟨(k9.cell (p := ad.add (i * 6)) hwb).trans g0, (k9.cell (p := ⟨(ad.add (i * 6)).block, (ad.add (i * 6)).off + 1, none⟩) hwb).trans g1⟩
        have ik1 : (0 : Int) ≤ (i : Int) := by omega
        have ik2 : (i : Int) < (q.length : Int) := by omega
        clear g0 g1 k9 hWd hW2 hr5
        have HSS := hid (And.intro S0 S1)
        go_upto_region 6 with fail
        refine start_ (n := 15) (S := fun V : World => V.cell? (ad.add (i * 6)) = some (.int .i64 r.f0) ∧ V.cell? ⟨(ad.add (i * 6)).block, (ad.add (i * 6)).off + 1, none⟩ = some (.int .i64 r.f1)) (ds := [13]) #[false, false, false, false, false, false, false, false, false, false, false, false, false, false, false] (by kernel_rfl) rfl rfl (by rw [← HWD.out]; exact S0) (fun hHeld => ?_); refine with_tabW rdue6.tab rdue6.bits (fun HT_ HW_ => ?_)
        rw [← HWD.out] at hHeld ⊢
        refine pure_ (i := 0) (N := some 20) (v := ?_) (a' := ?_) #[true, false, false, false, false, false, false, false, false, false, false, false, false, false, false] rfl rfl (any_of HT_.out (by kernel_rfl)) (fun _ _ _ h => h) (Or.inl ⟨by rfl, ?_⟩) ?_ ?_
        rotate_left
        · intro w'
          go_simp
          with_reducible rfl
        rotate_left
        · simp only [Act.put, List.setIfInBounds_toArray, List.set_cons_zero, List.set_cons_succ, i64_w, i32_w]
          rfl
        refine pure_ (i := 1) (N := some 21) (v := ?_) (a' := ?_) #[true, true, false, false, false, false, false, false, false, false, false, false, false, false, false] rfl rfl (any_of HT_.out (by kernel_rfl)) (fun _ _ _ h => h) (Or.inl ⟨by rfl, ?_⟩) ?_ ?_
        rotate_left
        · intro w'
          go_simp
          with_reducible rfl
        rotate_left
        · simp only [Act.put, List.setIfInBounds_toArray, List.set_cons_zero, List.set_cons_succ, i64_w, i32_w]
          rfl
        refine pure_ (i := 2) (N := some 22) (v := ?_) (a' := ?_) #[true, true, true, false, false, false, false, false, false, false, false, false, false, false, false] rfl rfl (any_of HT_.out (by kernel_rfl)) (fun _ _ _ h => h) (Or.inl ⟨by rfl, ?_⟩) ?_ ?_
        rotate_left
        · intro w'
          go_simp
          with_reducible rfl
        rotate_left
        · simp only [Act.put, List.setIfInBounds_toArray, List.set_cons_zero, List.set_cons_succ, i64_w, i32_w]
          rfl
        refine pure_ (i := 3) (N := some 23) (v := ?_) (a' := ?_) #[true, true, true, true, false, false, false, false, false, false, false, false, false, false, false] rfl rfl (any_of HT_.out (by kernel_rfl)) (fun _ _ _ h => h) (Or.inl ⟨by rfl, ?_⟩) ?_ ?_
        rotate_left
        · intro w'
          go_simp
          with_reducible rfl
        rotate_left
        · simp only [Act.put, List.setIfInBounds_toArray, List.set_cons_zero, List.set_cons_succ, i64_w, i32_w]
          rfl
        refine pure_ (i := 4) (N := some 24) (v := ?_) (a' := ?_) #[true, true, true, true, true, false, false, false, false, false, false, false, false, false, false] rfl rfl (any_of HT_.out (by kernel_rfl)) (fun _ _ _ h => h) (Or.inl ⟨by rfl, ?_⟩) ?_ ?_
        rotate_left
        · intro w'
          go_simp
          with_reducible rfl
        rotate_left
        · simp only [Act.put, List.setIfInBounds_toArray, List.set_cons_zero, List.set_cons_succ, i64_w, i32_w]
          rfl
        refine pure_ (i := 6) (N := some 26) (v := ?_) (a' := ?_) #[true, true, true, true, true, false, true, false, false, false, false, false, false, false, false] rfl rfl (any_of HT_.out (by kernel_rfl)) (fun _ _ _ h => h) (Or.inl ⟨by rfl, ?_⟩) ?_ ?_
        rotate_left
        · intro w'
          go_simp
          with_reducible rfl
        rotate_left
        · simp only [Act.put, List.setIfInBounds_toArray, List.set_cons_zero, List.set_cons_succ, i64_w, i32_w]
          rfl
        refine pure_ (i := 7) (N := some 27) (v := ?_) (a' := ?_) #[true, true, true, true, true, false, true, true, false, false, false, false, false, false, false] rfl rfl (any_of HT_.out (by kernel_rfl)) (fun _ _ _ h => h) (Or.inl ⟨by rfl, ?_⟩) ?_ ?_
        rotate_left
        · intro w'
          go_simp
          with_reducible rfl
        rotate_left
        · simp only [Act.put, List.setIfInBounds_toArray, List.set_cons_zero, List.set_cons_succ, i64_w, i32_w]
          rfl
        refine pure_ (i := 8) (N := some 28) (v := ?_) (a' := ?_) #[true, true, true, true, true, false, true, true, true, false, false, false, false, false, false] rfl rfl (any_of HT_.out (by kernel_rfl)) (fun _ _ _ h => h) (Or.inl ⟨by rfl, ?_⟩) ?_ ?_
        rotate_left
        · intro w'
          go_simp
          with_reducible rfl
        rotate_left
        · simp only [Act.put, List.setIfInBounds_toArray, List.set_cons_zero, List.set_cons_succ, i64_w, i32_w]
          rfl
        refine pure_ (i := 9) (N := some 29) (v := ?_) (a' := ?_) #[true, true, true, true, true, false, true, true, true, true, false, false, false, false, false] rfl rfl (any_of HT_.out (by kernel_rfl)) (fun _ _ _ h => h) (Or.inl ⟨by rfl, ?_⟩) ?_ ?_
        rotate_left
        · intro w'
          go_simp
          with_reducible rfl
        rotate_left
        · simp only [Act.put, List.setIfInBounds_toArray, List.set_cons_zero, List.set_cons_succ, i64_w, i32_w]
          rfl
        refine take_ (i := 5) (N := some 25) (v := ?_) (a' := ?_) #[true, true, true, true, true, true, true, true, true, true, false, false, false, false, false] rfl rfl (take_ofW HT_.out HW_.out (by kernel_rfl)) (fun _ _ _ h => h) (Or.inl ⟨by rfl, ?_⟩) hHeld ?_ ?_
        rotate_left
        · rintro w' ⟨s0, s1⟩
          go_simp
          with_reducible rfl
        rotate_left
        · simp only [Act.put, List.setIfInBounds_toArray, List.set_cons_zero, List.set_cons_succ, i64_w, i32_w]
          rfl
        refine take_ (i := 10) (N := some 30) (v := ?_) (a' := ?_) #[true, true, true, true, true, true, true, true, true, true, true, false, false, false, false] rfl rfl (take_ofW HT_.out HW_.out (by kernel_rfl)) (fun _ _ _ h => h) (Or.inl ⟨by rfl, ?_⟩) hHeld ?_ ?_
        rotate_left
        · rintro w' ⟨s0, s1⟩
          go_simp
          with_reducible rfl
        rotate_left
        · simp only [Act.put, List.setIfInBounds_toArray, List.set_cons_zero, List.set_cons_succ, i64_w, i32_w]
          rfl
        refine pure_ (i := 11) (N := some 31) (v := ?_) (a' := ?_) #[true, true, true, true, true, true, true, true, true, true, true, true, false, false, false] rfl rfl (any_of HT_.out (by kernel_rfl)) (fun _ _ _ h => h) (Or.inl ⟨by rfl, ?_⟩) ?_ ?_
        rotate_left
        · intro w'
          go_simp
          with_reducible rfl
        rotate_left
        · simp only [Act.put, List.setIfInBounds_toArray, List.set_cons_zero, List.set_cons_succ, i64_w, i32_w]
          rfl
        refine one_ (i := 12) (N := some 32) #[true, true, true, true, true, true, true, true, true, true, true, true, true, false, false] rfl rfl (one_of HT_.out (by kernel_rfl)) (by decide) (fun K hK => ?_)
        refine value_ (v := .slice (some ⟨Wd.heap.size, 0, none⟩) 1 1) (w1 := W2) (by rfl) rfl (by rw [HW2.out]; go_simp) ?_
        refine hK.out _ _ S1 (fun hHeld => ?_)
        clear hK K
        refine norm_ (a' := ?_) ?_ ?_
        rotate_left
        · show Act.put _ (some 32) _ = _
          simp only [Act.put, List.setIfInBounds_toArray, List.set_cons_zero, List.set_cons_succ, i64_w, i32_w]
          rfl
        refine last_ (i := 13) (N := some 33) #[true, true, true, true, true, true, true, true, true, true, true, true, true, true, false] rfl rfl (one_of HT_.out (by kernel_rfl)) (by decide) (fun K hK => ?_)
        refine bAppend_ (by rfl) rfl (.tmp 20) (.tmp 32) 136 rfl (by rfl) (by rfl) HR5.out ?_
        refine hK.out _ _ ?_
        clear hK K
        refine norm_ (a' := ?_) ?_ ?_
        rotate_left
        · show Act.put _ (some 33) _ = _
          simp only [Act.put, List.setIfInBounds_toArray, List.set_cons_zero, List.set_cons_succ, i64_w, i32_w]
          rfl
        refine pure_ (i := 14) (N := some 5) (v := ?_) (a' := ?_) #[true, true, true, true, true, true, true, true, true, true, true, true, true, true, true] rfl rfl (any_of HT_.out (by kernel_rfl)) (fun _ _ _ h => h) (Or.inl ⟨by rfl, ?_⟩) ?_ ?_
        rotate_left
        · intro w'
          go_simp
          with_reducible rfl
        rotate_left
        · simp only [Act.put, List.setIfInBounds_toArray, List.set_cons_zero, List.set_cons_succ, i64_w, i32_w]
          rfl
        refine done_ (done_of HT_.out (by kernel_rfl)) ?_
        go_wp2_with fail
        go_roundg (q.length - (i + 1))
        case measure => omega
        case rel => exact ⟨i + 1, rfl, by omega, by go_num, _, _, _, rfl, hid (HY.out hm)⟩
      · go_wp2_with fail
        go_roundg (q.length - (i + 1))
        case measure => omega
        case rel => exact ⟨i + 1, rfl, by omega, by go_num, _, _, _, rfl, hid (HN.out hm)⟩
    · have hie : i = q.length := by omega
      have hnl : ¬ ((i : Int) < (q.length : Int)) := by omega
      have hsl := HU.out.sl
      rw [hie, List.take_length] at hsl
      obtain ⟨hn, hd⟩ := dueAt_of hsl
      have HD := hid (And.intro hn (And.intro hd HU.out.low))
      clear hsl hn hd
      go_wp2_with fail
      go_ret
      refine ⟨⟨A1, ⟨c1, ?_⟩, HD.out.2.1⟩, HD.out.2.2⟩
      rw [← HD.out.1]; rfl
end Go.Proofs.Ytnceglkoolfncaa.Pr

set_option linter.unusedSimpArgs false
set_option linter.unusedVariables false
namespace Go.Proofs.Ytnceglkoolfncaa.Pr
open Go.RowKit Go.Pv Go.Proofs.Ytnceglkoolfncaa.Po Go.Proofs.Ytnceglkoolfncaa.PProbePlays

theorem aset_map (k : Int × Int) (v : PS) (l : AL) (nd : (l.map (·.1)).Nodup) (h : ∃ r ∈ l, r.1 = k) : aset k v l = l.map fun r => if r.1 = k then (k, v) else r := by
  induction l with
  | nil => obtain ⟨r, hr, _⟩ := h; cases hr
  | cons x xs ih =>
    simp only [List.map_cons, List.nodup_cons] at nd
    by_cases hx : x.1 = k
    · simp only [aset, if_pos hx, List.map_cons]
      congr 1
      refine (List.map_id xs).symm.trans (List.map_congr_left fun r hr => ?_)
      have hne : r.1 ≠ k := fun e => nd.1 (by rw [hx, ← e]; exact List.mem_map.2 ⟨r, hr, rfl⟩)
      simp [hne]
    · simp only [aset, if_neg hx, List.map_cons]
      rw [ih nd.2 (by obtain ⟨r, hr, e⟩ := h; rcases List.mem_cons.1 hr with rfl | hr; exact absurd e hx; exact ⟨r, hr, e⟩)]
theorem set_map (k : Int × Int) (s v : PS) (l : AL) (nd : (l.map (·.1)).Nodup) (j : Nat) (h : l[j]? = some (k, s)) : l.set j (k, v) = l.map fun r => if r.1 = k then (k, v) else r := by
  induction l generalizing j with
  | nil => simp at h
  | cons x xs ih =>
    simp only [List.map_cons, List.nodup_cons] at nd
    cases j with
    | zero =>
      simp only [List.getElem?_cons_zero, Option.some.injEq] at h
      simp only [List.set_cons_zero, List.map_cons, h, if_true]
      congr 1
      refine (List.map_id xs).symm.trans (List.map_congr_left fun r hr => ?_)
      have hne : r.1 ≠ k := fun e => nd.1 (by rw [h, ← e]; exact List.mem_map.2 ⟨r, hr, rfl⟩)
      simp [hne]
    | succ j =>
      simp only [List.getElem?_cons_succ] at h
      have hne : x.1 ≠ k := fun e => nd.1 (by rw [e]; exact List.mem_map.2 ⟨_, List.mem_of_getElem? h, rfl⟩)
      simp only [List.set_cons_succ, List.map_cons, if_neg hne]
      rw [ih nd.2 j h]
theorem set_perm {l al : AL} (h : l.Perm al) (nd : (al.map (·.1)).Nodup) (k : Int × Int) (s v : PS) (j : Nat) (hj : l[j]? = some (k, s)) : (l.set j (k, v)).Perm (aset k v al) := by
  have ndl : (l.map (·.1)).Nodup := ((h.map (·.1)).nodup_iff).2 nd
  rw [set_map k s v l ndl j hj, aset_map k v al nd ⟨(k, s), h.mem_iff.1 (List.mem_of_getElem? hj), rfl⟩]
  exact h.map _
/-- What may be in the book: asked at times, small numbers. -/
def Goods (n : Nat) (al : AL) : Prop := ∀ r ∈ al, 1 ≤ r.2.1 ∧ r.2.1 ≤ 1000 ∧ 0 ≤ r.2.2.2.2 ∧ r.2.2.2.2 ≤ n
theorem has_same (b c : Int) {q : List S207} {al : AL} (h : (q.map r2).Perm al) (nd : (al.map (·.1)).Nodup) : (aget (b, c) al).isSome = decide (0 ≤ idxF b c q 0) := by
  rcases idx_cases b c q 0 with ⟨hi, hq⟩ | ⟨j, r, hr, h0, h1, hi⟩
  · rw [look_none b c h hq, hi]; rfl
  · rw [look_some b c h nd hr h0 h1, hi]
    simp only [Option.isSome_some, Nat.zero_add]
    exact (decide_eq_true (by omega)).symm
theorem sickB_of (s : PS) (h : 0 < s.1) : sickB s = decide (s.2.1 ≤ s.2.2.2) := by simp [sickB, h]
theorem sick_same (b c : Int) {q : List S207} {al : AL} {n : Nat} (h : (q.map r2).Perm al) (nd : (al.map (·.1)).Nodup) (hg : Goods n al) (hl : q.length ≤ 1000000) (k : Nat) (hk : q.length < k) :
    provostref26_Sick.f k q b c = some (sickB ((aget (b, c) al).getD (0, 0, 0, 0))) := by
  rcases idx_cases b c q 0 with ⟨hi, hq⟩ | ⟨j, r, hr, h0, h1, hi⟩
  · rw [look_none b c h hq, sick_none q b c hl k hk hi]; rfl
  · have hs := look_some b c h nd hr h0 h1
    rw [hs, sick_some q b c hl k hk (by simpa using hi) hr]
    have := (hg _ (aget_mem hs)).1
    simp only [r2] at this
    rw [Option.getD_some, sickB_of _ (show 0 < (r2 r).2.1 by simp only [r2]; omega)]
    rfl
theorem ask_same (b c : Int) (bad : Bool) (now : Int) {q : List S207} {al : AL} {n : Nat} (h : (q.map r2).Perm al) (nd : (al.map (·.1)).Nodup) (hs : Srt q) (hg : Goods n al) (hn : n ≤ 1000000) (hw : 0 ≤ now ∧ now ≤ 1000000) (hl : q.length ≤ 1000000) (k : Nat) (hk : q.length + 1 < k) :
    ∃ q', provostref26_Ask.f k q b c bad now = some (q', askB (b, c) bad now al) ∧ (q'.map r2).Perm (askA (b, c) bad now al) ∧ Srt q' ∧ Goods (n + 1) (askA (b, c) bad now al) := by
  have hg1 : Goods (n + 1) al := fun r hr => by have := hg r hr; omega
  rcases idx_cases b c q 0 with ⟨hi, hq⟩ | ⟨j, r, hr, h0, h1, hi⟩
  · have hno := look_none b c h hq
    refine ⟨q, ?_, ?_, hs, ?_⟩
    · rw [ask_none q b c bad now hl k (by omega) hi]
      simp only [askB, hno]
    · simp only [askA, hno]; exact h
    · simp only [askA, hno]; exact hg1
  · have hso := look_some b c h nd hr h0 h1
    have hsm := hg _ (aget_mem hso)
    simp only [r2] at hsm
    rw [Nat.zero_add] at hi
    by_cases hx : now < r.f3
    · refine ⟨q, ?_, ?_, hs, ?_⟩
      · rw [ask_early q b c bad now hl k (by omega) hi hr hx]
        simp only [askB, hso, r2, if_pos hx]
      · simp only [askA, hso, r2, if_pos hx]; exact h
      · simp only [askA, hso, r2, if_pos hx]; exact hg1
    · have w1 : wrap64 (now + r.f2.f0) = now + r.f2.f0 := by unfold wrap64; omega
      have w2 : wrap64 (r.f4 + 1) = r.f4 + 1 := by unfold wrap64; omega
      have e2 : r2 (answS bad now r) = ((b, c), askedS (r2 r).2 bad now) := by
        simp only [r2, answS, askedS, h0, h1, w1, w2]
      refine ⟨q.set j (answS bad now r), ?_, ?_, ?_, ?_⟩
      · rw [ask_due q b c bad now hl k hk hi hr hx]
        simp only [askB, hso]
        rw [if_neg (by simpa [r2] using hx)]
        rw [sickB_of _ (show 0 < (askedS (r2 r).2 bad now).1 by simp only [r2, askedS]; omega)]
        simp only [askedS, answS, r2, w2]
        rfl
      · simp only [askA, hso]
        rw [if_neg (by simpa [r2] using hx), List.map_set, e2]
        refine set_perm h nd (b, c) (r2 r).2 _ j ?_
        rw [List.getElem?_map, hr]
        simp [r2, h0, h1]
      · unfold Srt
        rw [keys_set q j r (answS bad now r) hr rfl rfl]
        exact hs
      · simp only [askA, hso]
        rw [if_neg (by simpa [r2] using hx), aset_map _ _ _ nd ⟨_, aget_mem hso, rfl⟩]
        intro x hxm
        obtain ⟨y, hy, rfl⟩ := List.mem_map.1 hxm
        by_cases hk : y.1 = (b, c)
        · rw [if_pos hk]
          simp only [askedS, r2]
          refine ⟨hsm.1, hsm.2.1, ?_, ?_⟩ <;> cases bad <;> simp <;> omega
        · rw [if_neg hk]
          exact hg1 y hy
theorem watch_goods (b c e f now : Int) {n : Nat} {al : AL} (he : -1000 ≤ e ∧ e ≤ 1000) (nd : (al.map (·.1)).Nodup) (hg : Goods n al) : Goods (n + 1) (watchA b c e f now al) := by
  have hd : Goods (n + 1) (adel (b, c) al) := fun r hr => by
    rw [adel_filter _ _ nd] at hr
    have := hg r (List.mem_filter.1 hr).1
    omega
  unfold watchA
  by_cases h : 0 < e
  · rw [if_pos h, aset_new _ _ _ (fun r hr => by rw [adel_filter _ _ nd, List.mem_filter] at hr; simpa using hr.2)]
    intro r hr
    rcases List.mem_append.1 hr with hr | hr
    · exact hd r hr
    · rw [List.mem_singleton] at hr
      subst hr
      simp only
      omega
  · rw [if_neg h]
    exact hd
theorem filter_goods {n : Nat} {al : AL} (f : (Int × Int) × PS → Bool) (hg : Goods n al) : Goods (n + 1) (al.filter f) := fun r hr => by
  have := hg r (List.mem_filter.1 hr).1
  omega
end Go.Proofs.Ytnceglkoolfncaa.Pr

set_option linter.unusedSimpArgs false
set_option linter.unusedVariables false
namespace Go.Proofs.Ytnceglkoolfncaa.Pr
open Go.RowKit Go.Pv Go.Proofs.Ytnceglkoolfncaa.Po Go.Proofs.Ytnceglkoolfncaa.PProbePlays

def wk1 : AL := [((1, 2), (2, 1, 2, 0))]
def wk2 : AL := [((1, 2), (2, 1, 4, 1))]
theorem wk_due {vis : AL} (h : vis.Perm wk1) (now : Int) : ((dueF now vis).mergeSort leP).length = if 2 ≤ now then 1 else 0 := by
  rw [List.length_mergeSort, List.perm_singleton.1 h]
  by_cases h2 : 2 ≤ now <;> simp [dueF, h2]
theorem wk_next {vis : AL} (h : vis.Perm wk1) : nextF 0 vis = 2 := by
  rw [List.perm_singleton.1 h]
  rfl
theorem wk_small {al : AL} (h : al = wk1 ∨ al = wk2) : ∀ r ∈ al, SmallS r.2 := by
  rcases h with rfl | rfl <;> (intro r hr; rw [List.mem_singleton.1 hr]; simp [SmallS])

set_option maxRecDepth 10000 in
set_option maxHeartbeats 4000000 in
theorem works_any (w : World) : Calls Try.prog 78 #[] w fun e w' => e = .returned (.bool true) ∧ Below w.heap.size w w' := by
  obtain ⟨mb, hmb⟩ : ∃ mb, mb = w.heap.size := ⟨_, rfl⟩
  obtain ⟨p, hp⟩ : ∃ p, p = mb + 1 := ⟨_, rfl⟩
  have HMB := hid hmb
  have HN := hid (new_any w)
  rw [← hmb, ← hp] at HN
  clear hmb hp
  go_enter Try.func78, Try.ntmps78
  go_wp2_with (first
    | (go_at_call 58; go_must (with_reducible refine HN.out.mono ?_); rintro e w1 ⟨rfl, h1, b1⟩
       have hw := watch_any h1 1 2 2 1 0 (by omega) (by omega)
       have HW := hid hw
       have HB1 := hid b1
       clear h1 hw b1)
    | (go_at_call 62; go_must (with_reducible refine HW.out.mono ?_); rintro e w2 ⟨rfl, h2, k2⟩
       replace h2 : PBk w2 p mb wk1 := h2
       have ha := ask_any h2 1 2 true 1 (by omega) (wk_small (.inl rfl))
       rw [show askB (1, 2) true 1 wk1 = false from rfl] at ha
       have HA := hid ha
       have HB2 := hid (HB1.out.trans (k2.below (by have := HB1.out.size; rw [HMB.out]; exact this) (fun i hi => by rw [hi]; exact Nat.le_refl _)))
       clear h2 k2 ha HB1)
    | (have hH := HA2.out; clear hH; go_at_call 64; go_must (with_reducible refine HA2.out.mono ?_); rintro e w6 ⟨rfl, h6, k6⟩
       replace h6 : PBk w6 p mb wk2 := h6
       have hs := isSick_any h6 1 2
       rw [show sickB ((aget (1, 2) wk2).getD (0, 0, 0, 0)) = true from rfl] at hs
       have HS := hid hs
       have HB6 := hid (HB5.out.trans (k6.below (by have := HB5.out.size; rw [HMB.out]; exact this) (fun i hi => by rw [hi]; exact Nat.le_refl _)))
       clear h6 k6 hs HB5)
    | (go_at_call 64; go_must (with_reducible refine HA.out.mono ?_); rintro e w3 ⟨rfl, h3, k3⟩
       replace h3 : PBk w3 p mb wk1 := h3
       have hd := due_any h3 1 (by simp [wk1])
       have HD := hid hd
       have H3 := hid h3
       have HB3 := hid (HB2.out.trans (k3.below (by have := HB2.out.size; rw [HMB.out]; exact this) (fun i hi => by rw [hi]; exact Nat.le_refl _)))
       clear h3 k3 hd HB2)
    | (have hH := HD2.out; clear hH; go_at_call 76; go_must (with_reducible refine HD2.out.mono ?_); rintro e w5 ⟨⟨vis, A, c, hv, rfl, hdd⟩, b5⟩
       have hl := wk_due hv 2
       rw [hl]
       have hx := next_any (H4.out.below b5) 0
       have HX := hid hx
       have H5 := hid (H4.out.below b5)
       have HB4b := hid (HB4.out.trans (b5.mono (by rw [HMB.out]; exact HB4.out.size)))
       clear hv hdd hl hx b5 HB4)
    | (go_at_call 76; go_must (with_reducible refine HD.out.mono ?_); rintro e w4 ⟨⟨vis, A, c, hv, rfl, hdd⟩, b4⟩
       have hl := wk_due hv 1
       rw [hl]
       have hd2 := due_any (H3.out.below b4) 2 (by simp [wk1])
       have HD2 := hid hd2
       have H4 := hid (H3.out.below b4)
       have HB4 := hid (HB3.out.trans (b4.mono (by rw [HMB.out]; exact HB3.out.size)))
       clear hv hdd hl hd2 b4 HB3 H3)
    | (go_at_call 73; go_must (with_reducible refine HX.out.mono ?_); rintro e w5b ⟨⟨vis, hv, rfl⟩, b5⟩
       rw [wk_next hv]
       have ha := ask_any (H5.out.below b5) 1 2 true 2 (by omega) (wk_small (.inl rfl))
       rw [show askB (1, 2) true 2 wk1 = true from rfl] at ha
       have HA2 := hid ha
       have HB5 := hid (HB4b.out.trans (b5.mono (by rw [HMB.out]; exact HB4b.out.size)))
       clear hv ha b5 HB4b H5)
    | (go_at_call 71; go_must (with_reducible refine HS.out.mono ?_); rintro e w7 ⟨rfl, b7⟩
       have HB7 := hid (HB6.out.trans (b7.mono (by rw [HMB.out]; exact HB6.out.size)))
       clear b7 HB6))
  go_ret
  exact ⟨rfl, by have := HB7.out; rwa [HMB.out] at this⟩
end Go.Proofs.Ytnceglkoolfncaa.Pr

set_option linter.unusedSimpArgs false
set_option linter.unusedVariables false
namespace Go.Proofs.Ytnceglkoolfncaa.Pr
open Go.RowKit Go.Pv Go.Proofs.Ytnceglkoolfncaa.Po Go.Proofs.Ytnceglkoolfncaa.PProbePlays
open Go.Proofs.YtnceglkoolfncaaW.PrintWords Go.Proofs.YtnceglkoolfncaaW.PrintLast

/-- An act. -/
structure S122 where
  f0 : Int
  f1 : Int
  f2 : Int
  f3 : Int
  f4 : S120
  f5 : Bool
def k122 : Kd S122 := Kd.iso (Kd.pair (Kd.int .i64) (Kd.pair (Kd.int .i64) (Kd.pair (Kd.int .i64) (Kd.pair (Kd.int .i64) (Kd.pair k120 Kd.bool))))) (fun x : S122 => (x.f0, x.f1, x.f2, x.f3, x.f4, x.f5))
theorem k122_open {w : World} {x : S122} {cs : List Value} (h : k122.K w x cs) : cs = [.int .i64 x.f0, .int .i64 x.f1, .int .i64 x.f2, .int .i64 x.f3, .int .i64 x.f4.f0, .int .i64 x.f4.f1, .bool x.f5] := by
  obtain ⟨_, _, rfl, rfl, _, _, rfl, rfl, _, _, rfl, rfl, _, _, rfl, rfl, _, _, rfl, hk, rfl⟩ := h
  obtain rfl := k120_open hk
  exact rfl
theorem opn120 : Opn Try.prog 120 k120 (fun _ => True) :=
  (opn_iso (fun x : Int × Int => (⟨x.1, x.2⟩ : S120)) (fun _ => rfl) (opn_struct Try.underlying120 (by kernel_rfl) (.cons rfl (by kernel_rfl) (opn_int (P := Try.prog) Try.underlying3) (.last rfl (by kernel_rfl) (opn_int (P := Try.prog) Try.underlying3))))).mono (fun _ _ => trivial)
theorem opn122 : Opn Try.prog 122 k122 (fun _ => True) := by
  refine (opn_iso (fun x : Int × Int × Int × Int × S120 × Bool => (⟨x.1, x.2.1, x.2.2.1, x.2.2.2.1, x.2.2.2.2.1, x.2.2.2.2.2⟩ : S122)) (fun _ => rfl) (opn_struct Try.underlying122 (by kernel_rfl) (.cons rfl (by kernel_rfl) (opn_int (P := Try.prog) Try.underlying3) (.cons rfl (by kernel_rfl) (opn_int (P := Try.prog) Try.underlying3) (.cons rfl (by kernel_rfl) (opn_int (P := Try.prog) Try.underlying3) (.cons rfl (by kernel_rfl) (opn_int (P := Try.prog) Try.underlying3) (.cons rfl (by kernel_rfl) opn120 (.last rfl (by kernel_rfl) (opn_bool (P := Try.prog) Try.underlying4))))))))).mono (fun _ _ => trivial)
theorem opn115 : Opn Try.prog 115 (Kd.slice 122 k122) (fun _ => True) := (opn_slice Try.underlying115 (by kernel_rfl) opn122).mono (fun _ _ => trivial)

def tickF (n : Int) : Int := if n < 0 then 0 else if n > 1000 then 0 else n
theorem tickF_in (n : Int) : 0 ≤ tickF n ∧ tickF n ≤ 1000 := by unfold tickF; split <;> (try split) <;> omega
theorem ticks_any (a b c n e f : Int) (g : Bool) (w : World) : Calls Try.prog 59 #[.agg #[.int .i64 a, .int .i64 b, .int .i64 c, .int .i64 n, .int .i64 e, .int .i64 f, .bool g]] w fun r w' => r = .returned (.int .i64 (tickF n)) ∧ Below w.heap.size w w' :=
  provostlaw26_ticks.calls a b c n e f g _ w (by unfold provostlaw26_ticks.f tickF; split <;> (try split) <;> rfl)
def smallE (e : Int) : Int := if e > 1000 then 0 else if e < -1000 then 0 else e
theorem smallE_in (e : Int) : -1000 ≤ smallE e ∧ smallE e ≤ 1000 := by unfold smallE; split <;> (try split) <;> omega
theorem small_any (e f : Int) (w : World) : Calls Try.prog 61 #[.agg #[.int .i64 e, .int .i64 f]] w fun r w' => r = .returned (.agg #[.int .i64 (smallE e), .int .i64 f]) ∧ Below w.heap.size w w' :=
  provostlaw26_small.calls e f _ _ w (by unfold provostlaw26_small.f smallE; split <;> (try split) <;> rfl)

/-- A list of the document's own. -/
abbrev QL (u w : World) (v : Value) (q : List S207) : Prop := Kd.R k207 207 w u.heap.size (fun _ => True) v q
theorem ql_keeps {u w w' : World} {v : Value} {q : List S207} {p mb : Nat} {al : AL} (h : QL u w v q) (hb : PBk w p mb al) (k : Keeps (fun i => i = mb) w w') : QL u w' v q :=
  Kd.R_mono (Kd.R_move (Kd.R_bound h) (fun i hi => k.block i hi.2.2.1 (fun e => by
    obtain ⟨_, _, _, t, _, cells, hc⟩ := hi
    obtain ⟨es, clock, hm, _⟩ := hb.map
    rw [e, hm] at hc
    cases hc))) (fun _ _ => trivial)

structure PV (u w : World) (p mb : Nat) (al : AL) (q : List S207) (v : Value) : Prop where
  low : Below u.heap.size u w
  hp : u.heap.size ≤ p
  hm : u.heap.size ≤ mb
  bk : PBk w p mb al
  sl : QL u w v q
  pm : (q.map r2).Perm al
  st : Srt q
section
variable {u w w' : World} {p mb : Nat} {al : AL} {q : List S207} {v : Value}
theorem PV.later (h : PV u w p mb al q v) (hb : Below w.heap.size w w') : PV u w' p mb al q v :=
  ⟨h.low.trans (hb.mono h.low.size), h.hp, h.hm, h.bk.below hb, Kd.R_below h.sl hb, h.pm, h.st⟩
theorem PV.step {al' : AL} {q' : List S207} {v' : Value} (h : PV u w p mb al q v) (hq : QL u w v' q') (k : Keeps (fun i => i = mb) w w') (hb : PBk w' p mb al') (hp : (q'.map r2).Perm al') (hs : Srt q') : PV u w' p mb al' q' v' :=
  ⟨h.low.trans (k.below h.low.size (fun i hi => by rw [hi]; exact h.hm)), h.hp, h.hm, hb, ql_keeps hq h.bk k, hp, hs⟩
theorem PV.len (h : PV u w p mb al q v) : al.length = q.length := by
  have := h.pm.length_eq
  rw [List.length_map] at this
  exact this.symm
theorem PV.slice (h : PV u w p mb al q v) : ∃ A c, v = .slice A q.length c ∧ q.length ≤ c ∧ Kd.C k207 w A q.length q := Rz.of_R h.sl
/-- A box: what it holds stays. -/
def Bx (w : World) (g : Nat) (a : S122) : Prop := w.heap[g]? = some (.cells #[.int .i64 a.f0, .int .i64 a.f1, .int .i64 a.f2, .int .i64 a.f3, .int .i64 a.f4.f0, .int .i64 a.f4.f1, .bool a.f5] 122 (0, 0))
theorem Bx.below {g : Nat} {a : S122} (h : Bx w g a) (hb : Below w.heap.size w w') : Bx w' g a := (hb.block g (Array.getElem?_eq_some_iff.1 h).1).trans h
theorem Bx.keeps {g : Nat} {a : S122} (h : Bx w g a) (hb : PBk w p mb al) (k : Keeps (fun i => i = mb) w w') : Bx w' g a := (k.block g (Array.getElem?_eq_some_iff.1 h).1 (fun e => by
  obtain ⟨es, clock, hm, _⟩ := hb.map
  unfold Bx at h
  rw [e, hm] at h
  cases h)).trans h
theorem Bx.cells {g : Nat} {a : S122} (h : Bx w g a) : w.cell? ⟨g, 0, none⟩ = some (.int .i64 a.f0) ∧ w.cell? ⟨g, 1, none⟩ = some (.int .i64 a.f1) ∧ w.cell? ⟨g, 2, none⟩ = some (.int .i64 a.f2) ∧ w.cell? ⟨g, 3, none⟩ = some (.int .i64 a.f3) ∧
    w.cell? ⟨g, 4, none⟩ = some (.int .i64 a.f4.f0) ∧ w.cell? ⟨g, 5, none⟩ = some (.int .i64 a.f4.f1) ∧ w.cell? ⟨g, 6, none⟩ = some (.bool a.f5) := by
  refine ⟨?_, ?_, ?_, ?_, ?_, ?_, ?_⟩ <;> (rw [cell_of_row w g _ _ _ _ h]; rfl)
/-- What the document's functions do. -/
theorem PV.rWatch (h : PV u w p mb al q v) (hl : q.length ≤ 1000) (b c e f now : Int) : Calls Try.prog 60 #[v, .int .i64 b, .int .i64 c, .agg #[.int .i64 e, .int .i64 f], .int .i64 now] w fun r w' => ∃ v', r = .returned v' ∧ QL u w' v' (watchS b c e f now q) ∧ Below w.heap.size w w' := by
  obtain ⟨A, c0, rfl, h1, h2⟩ := h.slice
  exact (provostref26_Watch.calls (q.length + 5) A c0 q b c e f now _ w h2 h1 (watch_f q b c e f now (by omega) _ (by omega))).mono fun r w' ⟨v', e1, e2, e3⟩ => ⟨v', e1, Kd.R_lower e2 h.low.size, e3⟩
theorem PV.rWithout (h : PV u w p mb al q v) (hl : q.length ≤ 1000) (b c : Int) (whole : Bool) : Calls Try.prog 65 #[v, .int .i64 b, .int .i64 c, .bool whole] w fun r w' => ∃ v', r = .returned v' ∧ QL u w' v' (q.filter (keepW b c whole)) ∧ Below w.heap.size w w' := by
  obtain ⟨A, c0, rfl, h1, h2⟩ := h.slice
  exact (provostref26_Without.calls (q.length + 5) A c0 q b c whole _ w h2 h1 (without_f q b c whole (by omega) _ (by omega))).mono fun r w' ⟨v', e1, e2, e3⟩ => ⟨v', e1, Kd.R_lower e2 h.low.size, e3⟩
theorem PV.rAsk (h : PV u w p mb al q v) (hl : q.length ≤ 1000) (b c : Int) (bad : Bool) (now : Int) {n : Nat} (hg : Goods n al) (hn : n ≤ 1000) (hw : 0 ≤ now ∧ now ≤ 1000000) :
    Calls Try.prog 63 #[v, .int .i64 b, .int .i64 c, .bool bad, .int .i64 now] w fun r w' => ∃ v' q', r = .returned (.tuple #[v', .bool (askB (b, c) bad now al)]) ∧ QL u w' v' q' ∧ PBk w' p mb al ∧ Below u.heap.size u w' ∧
      (∀ g a, Bx w g a → Bx w' g a) ∧ (q'.map r2).Perm (askA (b, c) bad now al) ∧ Srt q' := by
  obtain ⟨q', e1, e2, e3, -⟩ := ask_same b c bad now h.pm h.bk.nd h.st hg (by omega) hw (by omega) (q.length + 5) (by omega)
  let P0 : Nat → Prop := fun k => ∃ cells, w.heap[k]? = some (.cells cells 207 (0, 0))
  have hr : Kd.R k207 207 w u.heap.size P0 v q := Kd.R_mono (Kd.R_bound h.sl) (fun k hk => by
    obtain ⟨_, _, _, t, ht, cells, hc⟩ := hk
    have : t = 207 := by simpa [k207, Kd.iso, Kd.pair, Kd.int, k120, Kd.scalar] using ht
    exact ⟨cells, this ▸ hc⟩)
  refine (provostref26_Ask.calls (q.length + 5) P0 v q b c bad now q' _ u w h.low hr e1).mono fun r w' ⟨v', f1, f2, f3, f4⟩ => ⟨v', q', f1, Kd.R_mono f2 (fun _ _ => trivial), ?_, f3, fun g a hb => ?_, e2, e3⟩
  · have hc := h.bk.cell
    obtain ⟨es, clock, hm, hrest⟩ := h.bk.map
    have k1 := f4.2 p h.bk.lt.1 (fun ⟨cells, hc2⟩ => by rw [hc] at hc2; cases hc2)
    have k2 := f4.2 mb h.bk.lt.2 (fun ⟨cells, hc2⟩ => by rw [hm] at hc2; cases hc2)
    exact ⟨k1.trans hc, ⟨es, clock, k2.trans hm, hrest⟩, h.bk.nd⟩
  · unfold Bx at hb ⊢
    exact (f4.2 g (Array.getElem?_eq_some_iff.1 hb).1 (fun ⟨cells, hc2⟩ => by rw [hb] at hc2; cases hc2)).trans hb
theorem PV.rIndex (h : PV u w p mb al q v) (hl : q.length ≤ 1000) (b c : Int) : Calls Try.prog 70 #[v, .int .i64 b, .int .i64 c] w fun r w' => r = .returned (.int .i64 (idxF b c q 0)) ∧ Below w.heap.size w w' := by
  obtain ⟨A, c0, rfl, h1, h2⟩ := h.slice
  exact (provostref26_Index.calls (q.length + 5) A c0 q b c _ w h2 h1 (index_f q b c (by omega) _ (by omega))).mono fun r w' ⟨e1, e2⟩ => ⟨e1, e2.below⟩
theorem PV.rSick (h : PV u w p mb al q v) (hl : q.length ≤ 1000) {n : Nat} (hg : Goods n al) (b c : Int) : Calls Try.prog 72 #[v, .int .i64 b, .int .i64 c] w fun r w' => r = .returned (.bool (sickB ((aget (b, c) al).getD (0, 0, 0, 0)))) ∧ Below w.heap.size w w' := by
  obtain ⟨A, c0, rfl, h1, h2⟩ := h.slice
  exact (provostref26_Sick.calls (q.length + 5) A c0 q b c _ w h2 h1 (sick_same b c h.pm h.bk.nd hg (by omega) _ (by omega))).mono fun r w' ⟨e1, e2⟩ => ⟨e1, e2.below⟩
theorem PV.rNext (h : PV u w p mb al q v) (hl : q.length ≤ 1000) (now : Int) : Calls Try.prog 74 #[v, .int .i64 now] w fun r w' => r = .returned (.int .i64 (nextS now 0 q)) ∧ Below w.heap.size w w' := by
  obtain ⟨A, c0, rfl, h1, h2⟩ := h.slice
  exact (provostref26_Next.calls (q.length + 5) A c0 q now _ w h2 h1 (next_f q now (by omega) _ (by omega))).mono fun r w' ⟨e1, e2⟩ => ⟨e1, e2.below⟩
theorem PV.rDue (h : PV u w p mb al q v) (hl : q.length ≤ 1000) (now : Int) : Calls Try.prog 77 #[v, .int .i64 now] w fun r w' => (∃ A c, r = .returned (.slice A (dueS now q).length c) ∧ DueAt w' A (dueS now q)) ∧ Below w.heap.size w w' := by
  obtain ⟨A, c0, rfl, h1, h2⟩ := h.slice
  exact rdue_any h2 (by omega) now
/-- What the program's functions tell. -/
theorem PV.pLen (h : PV u w p mb al q v) : Calls Try.prog 68 #[.pointer (some ⟨p, 0, none⟩)] w fun e w' => e = .returned (.int .i64 q.length) ∧ w' = w := by
  rw [← h.len]
  exact len_any h.bk
theorem PV.pHas (h : PV u w p mb al q v) (b c : Int) : Calls Try.prog 69 #[.pointer (some ⟨p, 0, none⟩), .int .i64 b, .int .i64 c] w fun e w' => e = .returned (.bool (decide (0 ≤ idxF b c q 0))) ∧ Below w.heap.size w w' := by
  rw [← has_same b c h.pm h.bk.nd]
  exact has_any h.bk b c
theorem PV.pNext (h : PV u w p mb al q v) (now : Int) (hn : 0 ≤ now) : Calls Try.prog 73 #[.pointer (some ⟨p, 0, none⟩), .int .i64 now] w fun e w' => e = .returned (.int .i64 (nextS now 0 q)) ∧ Below w.heap.size w w' :=
  (next_any h.bk now).mono fun e w' ⟨⟨vis, hv, he⟩, hb⟩ => ⟨by rw [next_same hn h.pm hv]; exact he, hb⟩
theorem PV.pDue (h : PV u w p mb al q v) (hl : q.length ≤ 1000) (now : Int) : Calls Try.prog 76 #[.pointer (some ⟨p, 0, none⟩), .int .i64 now] w fun e w' => (∃ A c, e = .returned (.slice A (dueS now q).length c) ∧ DueAt w' A (dueS now q)) ∧ Below w.heap.size w w' :=
  (due_any h.bk now (by rw [h.len]; omega)).mono fun e w' ⟨⟨vis, A, c, hv, he, hd⟩, hb⟩ => by
    rw [due_same h.pm hv h.st] at he hd
    exact ⟨⟨A, c, he, hd⟩, hb⟩
theorem PV.dropSame (h : PV u w p mb al q v) (b c : Int) : (aget (b, c) al).isSome = decide ((q.filter (keepW b c false)).length < q.length) := by
  rcases idx_cases b c q 0 with ⟨hi, hq⟩ | ⟨j, r, hr, h0, h1, hi⟩
  · rw [look_none b c h.pm hq]
    have : q.filter (keepW b c false) = q := List.filter_eq_self.2 fun r hr => by
      have := hq r hr
      simp only [keepW, Bool.false_or, Bool.not_eq_true', Bool.and_eq_false_iff, beq_eq_false_iff_ne]
      by_cases e : r.f0 = b
      · exact .inr fun e2 => this ⟨e, e2⟩
      · exact .inl e
    rw [this]
    simp
  · rw [look_some b c h.pm h.bk.nd hr h0 h1]
    have : (q.filter (keepW b c false)).length < q.length := List.length_filter_lt_length_iff_exists.2 ⟨r, List.mem_of_getElem? hr, by simp [keepW, h0, h1]⟩
    simp [this]
theorem flen {α : Type} (f : α → Bool) (l : List α) : l.length = (l.filter f).length + (l.filter fun x => !f x).length := by
  induction l with
  | nil => rfl
  | cons x xs ih => cases h : f x <;> simp only [List.filter_cons, h, List.length_cons, Bool.not_true, Bool.not_false, if_true, if_false, Bool.false_eq_true] <;> omega
theorem PV.goneSame (h : PV u w p mb al q v) (b : Int) : ((al.filter (fun r => r.1.1 == b)).length : Int) = (q.length : Int) - ((q.filter (keepW b 0 true)).length : Int) := by
  have h1 : (al.filter (fun r => r.1.1 == b)).length = (q.filter (fun r => r.f0 == b)).length := by
    rw [← (h.pm.filter (fun r => r.1.1 == b)).length_eq, List.filter_map, List.length_map]
    rfl
  have h2 : (q.filter (keepW b 0 true)).length = (q.filter (fun r => !(r.f0 == b))).length := by
    congr 1
    exact List.filter_congr fun r _ => by simp [keepW]
  have h3 := flen (fun r : S207 => r.f0 == b) q
  omega
theorem DueAt.below {A : Option Addr} {L : List (Int × Int)} (h : DueAt w A L) (hb : Below w.heap.size w w') : DueAt w' A L := fun i hi => by
  obtain ⟨b, o, h1, h2, h3, h4⟩ := h i hi
  exact ⟨b, o, h1, Nat.lt_of_lt_of_le h2 hb.size, (hb.cell (p := ⟨b, o + i * 2, none⟩) h2).trans h3, (hb.cell (p := ⟨b, o + i * 2 + 1, none⟩) h2).trans h4⟩
end
end Go.Proofs.Ytnceglkoolfncaa.Pr
