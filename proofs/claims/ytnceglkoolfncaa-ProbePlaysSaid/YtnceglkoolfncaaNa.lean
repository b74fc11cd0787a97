/- Relist: the changes between two looks, plainly; between two looks at the same there are none, and those made less those gone are the lengths' difference. -/
import Derived.Test.YtnceglkoolfncaaRz
import Derived.Test.YtnceglkoolfncaaPRelistNonex0
set_option linter.unusedSimpArgs false
set_option linter.unusedVariables false
namespace Go.Proofs.Ytnceglkoolfncaa.Rl
open Go.RowKit Go.Pv

/-- A container, a sandbox, as1 they were seen. -/
abbrev CV := PRelistNone.S112
abbrev BV := PRelistNone.S108

/-- A change: its kind, whose, the sandbox, the container. -/
abbrev Ch := Int × Int × Int × Int

def mergeL {α : Type} (id : α → Int) (one : Option α → Option α → List Ch) : Nat → List α → List α → List Ch
  | 0, _, _ => []
  | _ + 1, [], [] => []
  | n + 1, a :: as1, [] => one (some a) none ++ mergeL id one n as1 []
  | n + 1, [], b :: bs => one none (some b) ++ mergeL id one n [] bs
  | n + 1, a :: as1, b :: bs =>
    if id a < id b then one (some a) none ++ mergeL id one n as1 (b :: bs)
    else if id b < id a then one none (some b) ++ mergeL id one n (a :: as1) bs
    else one (some a) (some b) ++ mergeL id one n as1 bs

theorem mergeL_nil {α : Type} {id : α → Int} {one : Option α → Option α → List Ch} (n : Nat) : mergeL id one n [] [] = [] := by cases n <;> rfl

theorem mergeL_same {α : Type} {id : α → Int} {one : Option α → Option α → List Ch} (h : ∀ a, one (some a) (some a) = []) : ∀ (n : Nat) (l : List α), mergeL id one n l l = []
  | 0, _ => by simp [mergeL]
  | _ + 1, [] => by simp [mergeL]
  | n + 1, a :: as1 => by simp [mergeL, h a, mergeL_same h n as1]

/-- The same head tells nothing. -/
theorem mergeL_pre {α : Type} {id : α → Int} {one : Option α → Option α → List Ch} (h : ∀ a, one (some a) (some a) = []) : ∀ (l : List α) (n : Nat) (r s : List α), mergeL id one (n + l.length) (l ++ r) (l ++ s) = mergeL id one n r s
  | [], n, r, s => rfl
  | a :: l, n, r, s => by
    have e : n + (a :: l).length = (n + l.length) + 1 := by simp; omega
    rw [e]
    simp [mergeL, h a, mergeL_pre h l n r s]

theorem mergeL_more {α : Type} {id : α → Int} {one : Option α → Option α → List Ch} : ∀ (n : Nat) (l m : List α), l.length + m.length ≤ n → mergeL id one (n + 1) l m = mergeL id one n l m
  | 0, [], [], _ => rfl
  | 0, _ :: _, _, h => by simp at h
  | 0, [], _ :: _, h => by simp at h
  | _ + 1, [], [], _ => rfl
  | n + 1, a :: r, [], h => by
    have := mergeL_more (id := id) (one := one) n r [] (by simp at h ⊢; omega)
    simp only [mergeL] at this ⊢
    rw [this]
  | n + 1, [], b :: bs, h => by
    have := mergeL_more (id := id) (one := one) n [] bs (by simp at h ⊢; omega)
    simp only [mergeL] at this ⊢
    rw [this]
  | n + 1, a :: r, b :: bs, h => by
    have h1 := mergeL_more (id := id) (one := one) n r (b :: bs) (by simp at h ⊢; omega)
    have h2 := mergeL_more (id := id) (one := one) n (a :: r) bs (by simp at h ⊢; omega)
    have h3 := mergeL_more (id := id) (one := one) n r bs (by simp at h ⊢; omega)
    rw [mergeL, h1, h2, h3, mergeL]

theorem mergeL_left {α : Type} {id : α → Int} {one : Option α → Option α → List Ch} {x : α} {xs ys : List α} (h : ∀ y, ys.head? = some y → id x < id y) :
    mergeL id one ((x :: xs).length + ys.length) (x :: xs) ys = one (some x) none ++ mergeL id one (xs.length + ys.length) xs ys := by
  rw [show (x :: xs).length + ys.length = (xs.length + ys.length) + 1 by simp; omega]
  cases ys with
  | nil => rfl
  | cons y ys => simp only [mergeL]; rw [if_pos (h y rfl)]
theorem mergeL_right {α : Type} {id : α → Int} {one : Option α → Option α → List Ch} {y : α} {xs ys : List α} (h : ∀ x, xs.head? = some x → id y < id x) :
    mergeL id one (xs.length + (y :: ys).length) xs (y :: ys) = one none (some y) ++ mergeL id one (xs.length + ys.length) xs ys := by
  rw [show xs.length + (y :: ys).length = (xs.length + ys.length) + 1 by simp; omega]
  cases xs with
  | nil => rfl
  | cons x xs => have := h x rfl; simp only [mergeL]; rw [if_neg (by omega), if_pos this]
theorem mergeL_both {α : Type} {id : α → Int} {one : Option α → Option α → List Ch} {x y : α} {xs ys : List α} (h1 : ¬ id x < id y) (h2 : ¬ id y < id x) :
    mergeL id one ((x :: xs).length + (y :: ys).length) (x :: xs) (y :: ys) = one (some x) (some y) ++ mergeL id one (xs.length + ys.length) xs ys := by
  rw [show (x :: xs).length + (y :: ys).length = (xs.length + ys.length + 1) + 1 by simp; omega]
  rw [mergeL, if_neg h1, if_neg h2, mergeL_more _ _ _ (Nat.le_refl _)]

/-- A sum over all changes goes by the lengths, if each step's does. -/
theorem mergeL_sum {α : Type} {id : α → Int} {one : Option α → Option α → List Ch} (f : Ch → Int) (p q : Int)
    (h1 : ∀ a, ((one (some a) none).map f).sum = p) (h2 : ∀ b, ((one none (some b)).map f).sum = q) (h3 : ∀ a b, ((one (some a) (some b)).map f).sum = p + q) :
    ∀ (n : Nat) (l m : List α), l.length + m.length ≤ n → ((mergeL id one n l m).map f).sum = p * l.length + q * m.length
  | 0, [], [], _ => by simp [mergeL]
  | 0, _ :: _, _, h => by simp at h
  | 0, [], _ :: _, h => by simp at h
  | _ + 1, [], [], _ => by simp [mergeL]
  | n + 1, a :: as1, [], h => by
    simp only [mergeL, List.map_append, List.sum_append, h1]
    rw [mergeL_sum f p q h1 h2 h3 n as1 [] (by simp at h ⊢; omega)]
    simp [Int.mul_add]; omega
  | n + 1, [], b :: bs, h => by
    simp only [mergeL, List.map_append, List.sum_append, h2]
    rw [mergeL_sum f p q h1 h2 h3 n [] bs (by simp at h ⊢; omega)]
    simp [Int.mul_add]; omega
  | n + 1, a :: as1, b :: bs, h => by
    simp only [mergeL]
    split
    · simp only [List.map_append, List.sum_append, h1]
      rw [mergeL_sum f p q h1 h2 h3 n as1 (b :: bs) (by simp at h ⊢; omega)]
      simp [Int.mul_add]; omega
    · split
      · simp only [List.map_append, List.sum_append, h2]
        rw [mergeL_sum f p q h1 h2 h3 n (a :: as1) bs (by simp at h ⊢; omega)]
        simp [Int.mul_add]; omega
      · simp only [List.map_append, List.sum_append, h3]
        rw [mergeL_sum f p q h1 h2 h3 n as1 bs (by simp at h ⊢; omega)]
        simp [Int.mul_add]; omega

/-- How many changes there are at most. -/
theorem mergeL_len {α : Type} {id : α → Int} {one : Option α → Option α → List Ch} (k : Nat) (R S : α → Prop) (hm : ∀ oa ob, (∀ a, oa = some a → R a) → (∀ b, ob = some b → S b) → (one oa ob).length ≤ k) :
    ∀ (n : Nat) (l m : List α), (∀ a ∈ l, R a) → (∀ b ∈ m, S b) → (mergeL id one n l m).length ≤ k * (l.length + m.length)
  | 0, _, _, _, _ => by simp [mergeL]
  | _ + 1, [], [], _, _ => by simp [mergeL]
  | n + 1, a :: as1, [], hl, hr => by
    have i1 := mergeL_len (id := id) k R S hm n as1 [] (fun x hx => hl x (by simp [hx])) hr
    have i2 := hm (some a) none (by rintro x ⟨⟩; exact hl a (by simp)) (by simp)
    simp only [mergeL, List.length_append, List.length_cons, List.length_nil, Nat.add_zero, Nat.mul_add] at i1 ⊢
    omega
  | n + 1, [], b :: bs, hl, hr => by
    have i1 := mergeL_len (id := id) k R S hm n [] bs hl (fun x hx => hr x (by simp [hx]))
    have i2 := hm none (some b) (by simp) (by rintro x ⟨⟩; exact hr b (by simp))
    simp only [mergeL, List.length_append, List.length_cons, List.length_nil, Nat.zero_add, Nat.mul_add] at i1 ⊢
    omega
  | n + 1, a :: as1, b :: bs, hl, hr => by
    simp only [mergeL]
    split
    · have i1 := mergeL_len (id := id) k R S hm n as1 (b :: bs) (fun x hx => hl x (by simp [hx])) hr
      have i2 := hm (some a) none (by rintro x ⟨⟩; exact hl a (by simp)) (by simp)
      simp only [List.length_append, List.length_cons, Nat.mul_add] at i1 ⊢
      omega
    · split
      · have i1 := mergeL_len (id := id) k R S hm n (a :: as1) bs hl (fun x hx => hr x (by simp [hx]))
        have i2 := hm none (some b) (by simp) (by rintro x ⟨⟩; exact hr b (by simp))
        simp only [List.length_append, List.length_cons, Nat.mul_add] at i1 ⊢
        omega
      · have i1 := mergeL_len (id := id) k R S hm n as1 bs (fun x hx => hl x (by simp [hx])) (fun x hx => hr x (by simp [hx]))
        have i2 := hm (some a) (some b) (by rintro x ⟨⟩; exact hl a (by simp)) (by rintro x ⟨⟩; exact hr b (by simp))
        simp only [List.length_append, List.length_cons, Nat.mul_add] at i1 ⊢
        omega

/-- Does a container run? -/
def runsB (s : Int) : Bool := s == 2 || s == 3
def doneB (s : Int) : Bool := s == 4

def oneC (u b : Int) : Option CV → Option CV → List Ch
  | none, none => []
  | some a, none => [(5, u, b, a.f0)]
  | none, some c => [(4, u, b, c.f0)] ++ (if runsB c.f3.f0 then [(6, u, b, c.f0)] else []) ++ (if doneB c.f3.f0 then [(7, u, b, c.f0)] else [])
  | some a, some c => (if runsB c.f3.f0 && !runsB a.f3.f0 then [(6, u, b, c.f0)] else []) ++ (if doneB c.f3.f0 && !doneB a.f3.f0 then [(7, u, b, c.f0)] else [])

def ctrsL (u b : Int) (l m : List CV) : List Ch := mergeL (fun c : CV => c.f0) (oneC u b) (l.length + m.length) l m

def oneB : Option BV → Option BV → List Ch
  | none, none => []
  | some a, none => [(2, a.f1, a.f0, 0)]
  | none, some b => [(1, b.f1, b.f0, 0)] ++ (if b.f2 != 1 then [(3, b.f1, b.f0, 0)] else []) ++ ctrsL b.f1 b.f0 [] b.f3
  | some a, some b => (if b.f2 != 1 && a.f2 == 1 then [(3, b.f1, b.f0, 0)] else []) ++ ctrsL b.f1 b.f0 a.f3 b.f3

/-- What changed. -/
def diffL (l m : List BV) : List Ch := mergeL (fun b : BV => b.f0) oneB (l.length + m.length) l m

theorem oneC_same (u b : Int) (c : CV) : oneC u b (some c) (some c) = [] := by simp [oneC]
theorem ctrsL_same (u b : Int) (l : List CV) : ctrsL u b l l = [] := mergeL_same (oneC_same u b) _ _
theorem oneB_same (b : BV) : oneB (some b) (some b) = [] := by
  have : (b.f2 != 1 && b.f2 == 1) = false := by by_cases h : b.f2 = 1 <;> simp [h]
  simp [oneB, ctrsL_same, this]
theorem diffL_same (l : List BV) : diffL l l = [] := mergeL_same oneB_same _ _

theorem oneC_len (u b : Int) (x y : Option CV) : (oneC u b x y).length ≤ 3 := by
  cases x <;> cases y <;> simp only [oneC, List.length_append, List.length_cons, List.length_nil] <;> (repeat' split) <;> simp
theorem ctrsL_len (u b : Int) (l m : List CV) : (ctrsL u b l m).length ≤ 3 * (l.length + m.length) :=
  mergeL_len 3 (fun _ => True) (fun _ => True) (fun oa ob _ _ => oneC_len u b oa ob) _ _ _ (by simp) (by simp)
theorem oneB_len (x y : Option BV) (h1 : ∀ a, x = some a → a.f3.length ≤ 100) (h2 : ∀ b, y = some b → b.f3.length ≤ 100) : (oneB x y).length ≤ 700 := by
  cases x with
  | none =>
    cases y with
    | none => simp [oneB]
    | some b =>
      have := ctrsL_len b.f1 b.f0 [] b.f3
      have := h2 b rfl
      simp only [oneB, List.length_append, List.length_cons, List.length_nil] at *
      split <;> simp <;> omega
  | some a =>
    have ha := h1 a rfl
    cases y with
    | none => simp [oneB]
    | some b =>
      have := ctrsL_len b.f1 b.f0 a.f3 b.f3
      have := h2 b rfl
      simp only [oneB, List.length_append, List.length_cons, List.length_nil] at *
      split <;> simp <;> omega

/-- The changes of a container's kinds. -/
def isK (k : Int) (c : Ch) : Int := if c.1 = k then 1 else 0
theorem isK_ctrs (k : Int) (hk : k < 4) (u b : Int) (l m : List CV) : ((ctrsL u b l m).map (isK k)).sum = 0 := by
  have : ∀ oa ob, ((oneC u b oa ob).map (isK k)).sum = 0 := by
    intro oa ob
    have h4 : ¬ (4 = k) := by omega
    have h5 : ¬ (5 = k) := by omega
    have h6 : ¬ (6 = k) := by omega
    have h7 : ¬ (7 = k) := by omega
    cases oa <;> cases ob <;> simp only [oneC] <;> (repeat' split) <;> simp [isK, h4, h5, h6, h7]
  have h := mergeL_sum (id := fun c : CV => c.f0) (one := oneC u b) (isK k) 0 0 (fun a => this _ _) (fun a => this _ _) (fun a b => by simpa using this _ _) (l.length + m.length) l m (Nat.le_refl _)
  simpa [ctrsL] using h

theorem made_eq (l m : List BV) : ((diffL l m).map (isK 1)).sum - ((diffL l m).map (isK 2)).sum = (m.length : Int) - l.length := by
  have h1 : ∀ f : Ch → Int, ∀ L : List Ch, (L.map f).sum = (L.map f).sum := fun _ _ => rfl
  have e : ∀ L : List Ch, (L.map (fun c => isK 1 c - isK 2 c)).sum = (L.map (isK 1)).sum - (L.map (isK 2)).sum := by
    intro L
    induction L with
    | nil => rfl
    | cons a r ih => simp only [List.map_cons, List.sum_cons, ih]; omega
  rw [← e]
  have hc : ∀ u b (l m : List CV), ((ctrsL u b l m).map (fun c => isK 1 c - isK 2 c)).sum = 0 := fun u b l m => by
    rw [e, isK_ctrs 1 (by omega), isK_ctrs 2 (by omega)]; rfl
  have h := mergeL_sum (id := fun b : BV => b.f0) (one := oneB) (fun c => isK 1 c - isK 2 c) (-1) 1
    (fun a => by simp [oneB, isK]) (fun b => by simp only [oneB, List.map_append, List.sum_append, hc]; split <;> simp [isK]) (fun a b => by simp only [oneB, List.map_append, List.sum_append, hc]; split <;> simp [isK]) (l.length + m.length) l m (Nat.le_refl _)
  rw [diffL, h]
  omega

theorem isK_nonneg (k : Int) (L : List Ch) : 0 ≤ (L.map (isK k)).sum := by
  induction L with
  | nil => simp
  | cons a r ih => simp only [List.map_cons, List.sum_cons]; unfold isK at *; split <;> omega
theorem made_le (l m : List BV) : ((diffL l m).map (isK 1)).sum ≤ m.length := by
  have key : ∀ (n : Nat) (l m : List BV), ((mergeL (fun b : BV => b.f0) oneB n l m).map (isK 1)).sum ≤ m.length := by
    have e2 : ∀ a, ((oneB (some a) none).map (isK 1)).sum = 0 := fun a => by simp [oneB, isK]
    have e1 : ∀ b, ((oneB none (some b)).map (isK 1)).sum = 1 := fun b => by simp only [oneB, List.map_append, List.sum_append, isK_ctrs 1 (by omega)]; split <;> simp [isK]
    have e3 : ∀ a b, ((oneB (some a) (some b)).map (isK 1)).sum = 0 := fun a b => by simp only [oneB, List.map_append, List.sum_append, isK_ctrs 1 (by omega)]; split <;> simp [isK]
    intro n
    induction n with
    | zero => intro l m; simp [mergeL]
    | succ n ih =>
      intro l m
      cases l with
      | nil =>
        cases m with
        | nil => simp [mergeL]
        | cons b bs => have := ih [] bs; simp only [mergeL, List.map_append, List.sum_append, e1, List.length_cons]; omega
      | cons a as1 =>
        cases m with
        | nil => have := ih as1 []; simp only [mergeL, List.map_append, List.sum_append, e2]; omega
        | cons b bs =>
          simp only [mergeL]
          split
          · have := ih as1 (b :: bs); simp only [List.map_append, List.sum_append, e2]; omega
          · split
            · have := ih (a :: as1) bs; simp only [List.map_append, List.sum_append, e1, List.length_cons]; omega
            · have := ih as1 bs; simp only [List.map_append, List.sum_append, e3, List.length_cons]; omega
  exact key _ l m
theorem gone_le (l m : List BV) : ((diffL l m).map (isK 2)).sum ≤ l.length := by
  have h1 := made_eq l m
  have h2 := made_le l m
  omega

/-- With one more container, that has exited, in a sandbox: it is new, and dead. -/
theorem diffL_mine (l1 l2 : List BV) (b : BV) (c : CV) (hc : c.f3.f0 = 4) : diffL (l1 ++ b :: l2) (l1 ++ { b with f3 := b.f3 ++ [c] } :: l2) = [(4, b.f1, b.f0, c.f0), (7, b.f1, b.f0, c.f0)] := by
  have e1 : (l1 ++ b :: l2).length + (l1 ++ ({ b with f3 := b.f3 ++ [c] } : BV) :: l2).length = (l1.length + 2 + 2 * l2.length) + l1.length := by simp; omega
  unfold diffL
  rw [e1, mergeL_pre oneB_same]
  have e2 : l1.length + 2 + 2 * l2.length = (l1.length + 1 + 2 * l2.length) + 1 := by omega
  rw [e2]
  simp only [mergeL, Int.lt_irrefl, if_false]
  rw [mergeL_same oneB_same, List.append_nil]
  have e3 : (b.f2 != 1 && b.f2 == 1) = false := by by_cases h : b.f2 = 1 <;> simp [h]
  simp only [oneB, e3, Bool.false_eq_true, if_false, List.nil_append]
  unfold ctrsL
  have e4 : b.f3.length + (b.f3 ++ [c]).length = (b.f3.length + 1) + b.f3.length := by simp; omega
  rw [e4]
  have := mergeL_pre (id := fun c : CV => c.f0) (oneC_same b.f1 b.f0) b.f3 (b.f3.length + 1) [] [c]
  rw [List.append_nil] at this
  rw [this]
  simp [mergeL, mergeL_nil, oneC, hc, runsB, doneB]
end Go.Proofs.Ytnceglkoolfncaa.Rl
