/- Tickets: the document's functions, as printed, by one list. Plain. -/
import Derived.Test.YtnceglkoolfncaaQd
import Derived.Test.YtnceglkoolfncaaQe
import Derived.Test.YtnceglkoolfncaaTw
set_option linter.unusedSimpArgs false
set_option linter.unusedVariables false
namespace Go.Proofs.Ytnceglkoolfncaa.Tp
open Go.RowKit Go.Pv Go.Proofs.Ytnceglkoolfncaa.PTicketPlays Go.Proofs.YtnceglkoolfncaaW.PrintWords

def tS (t : Tk) : S85 := ⟨t.1, t.2.1, t.2.2⟩
def tU (t : Tk) : S30 := ⟨t.1, t.2.1, t.2.2⟩
/-- A pod's. -/
def ofU (u : Int) (L : List Tk) : List Tk := L.filter (fun t => t.2.1 == u)

theorem wrap_nat {i : Nat} (h : i ≤ 1000000) : wrap64 ((i : Int) + 1) = ((i + 1 : Nat) : Int) := by unfold wrap64; omega
theorem rd85 {L : List Tk} {i : Nat} (h : i < L.length) : rd_T85 (L.map tS) (i : Int) = tS L[i] := by
  unfold rd_T85
  simp [h]
theorem rd30 {L : List Tk} {i : Nat} (h : i < L.length) : rd_T30 (L.map tU) (i : Int) = tU L[i] := by
  unfold rd_T30
  simp [h]
theorem ofU_cons (u : Int) (x : Tk) (r : List Tk) : ofU u (x :: r) = if x.2.1 = u then x :: ofU u r else ofU u r := by
  unfold ofU
  rw [List.filter_cons]
  by_cases h : x.2.1 = u <;> simp [h]

theorem of_l0 (L : List Tk) (u last : Int) (hl : L.length ≤ 100000) : ∀ (d i k : Nat) (acc : List S85), d = L.length - i → i ≤ L.length → acc.length ≤ i → d < k →
    provostref28_Of.l0 k u acc (i : Int) (L.map tS) last = some (acc ++ (ofU u (L.drop i)).map tS) := by
  intro d
  induction d with
  | zero =>
    intro i k acc hd hi ha hk
    obtain ⟨k, rfl⟩ : ∃ m, k = m + 1 := ⟨k - 1, by omega⟩
    have : i = L.length := by omega
    subst this
    simp only [provostref28_Of.l0, List.length_map]
    rw [if_neg (by omega)]
    simp [ofU]
  | succ d ih =>
    intro i k acc hd hi ha hk
    obtain ⟨k, rfl⟩ : ∃ m, k = m + 1 := ⟨k - 1, by omega⟩
    have hil : i < L.length := by omega
    simp only [provostref28_Of.l0, List.length_map]
    rw [if_pos (by omega), if_pos (by omega), rd85 hil, List.drop_eq_getElem_cons hil, ofU_cons]
    by_cases h : L[i].2.1 = u
    · rw [if_pos (by simpa [tS] using h), if_pos (by omega), wrap_nat (by omega), ih (i + 1) k _ (by omega) (by omega) (by simp; omega) (by omega), if_pos h]
      simp [tS]
    · rw [if_neg (by simpa [tS] using h), wrap_nat (by omega), ih (i + 1) k acc (by omega) (by omega) (by omega) (by omega), if_neg h]

theorem of_f (L : List Tk) (u last : Int) (hl : L.length ≤ 100000) (k : Nat) (hk : L.length < k) : provostref28_Of.f k (L.map tS) last u = some ((ofU u L).map tS) := by
  have := of_l0 L u last hl L.length 0 k [] (by omega) (by omega) (by simp) hk
  simpa [provostref28_Of.f] using this

/-- What Issue answers: the list, the last number, the ticket, a code. -/
def issueR (L : List Tk) (last u kd : Int) : List Tk × Int × Tk × Int :=
  if u < 1 ∨ kd < 1 ∨ kd > 3 then (L, last, (0, 0, 0), 1) else if 4 ≤ (ofU u L).length then (L, last, (0, 0, 0), 280) else (L ++ [(last + 1, u, kd)], last + 1, (last + 1, u, kd), 0)

theorem issue_f (L : List Tk) (last u kd : Int) (hl : L.length ≤ 100000) (h0 : 0 ≤ last) (h1 : last ≤ 100000) :
    provostref28_Issue.f (L.length + 3) (L.map tS) last u kd = some ((issueR L last u kd).1.map tS, (issueR L last u kd).2.1, (issueR L last u kd).2.2.1.1, (issueR L last u kd).2.2.1.2.1, (issueR L last u kd).2.2.1.2.2, (issueR L last u kd).2.2.2) := by
  have hj : ∀ b : Bool, provostref28_Issue.j0 (L.length + 3) u kd b (L.map tS) last = if b = true then some (L.map tS, last, 0, 0, 0, 1) else if 4 ≤ (ofU u L).length then some (L.map tS, last, 0, 0, 0, 280) else some ((L ++ [(last + 1, u, kd)]).map tS, last + 1, last + 1, u, kd, 0) := by
    intro b
    rw [show L.length + 3 = (L.length + 2) + 1 from rfl]
    simp only [provostref28_Issue.j0]
    cases b with
    | true => simp
    | false =>
      rw [of_f L u last hl _ (by omega)]
      have hle : (ofU u L).length ≤ L.length := List.length_filter_le _ _
      have hw : wrap64 (last + 1) = last + 1 := by unfold wrap64; omega
      simp only [Option.bind_some, List.length_map, hw, Bool.false_eq_true, if_false]
      by_cases h4 : 4 ≤ (ofU u L).length
      · rw [if_pos (by omega), if_pos h4]
      · rw [if_neg (by omega), if_neg h4, if_pos (by simp; omega), if_pos (by simp; omega)]
        simp [tS]
  unfold provostref28_Issue.f issueR
  by_cases hu : u < 1
  · rw [if_pos hu, hj, if_pos rfl, if_pos (.inl hu)]
  · rw [if_neg hu]
    by_cases hk : kd < 1
    · rw [if_pos hk, hj, if_pos rfl, if_pos (.inr (.inl hk))]
    · rw [if_neg hk, hj]
      by_cases hk3 : kd > 3
      · rw [if_pos (by simpa using hk3), if_pos (.inr (.inr hk3))]
      · rw [if_neg (show ¬ (decide (kd > 3) = true) by simpa using hk3), if_neg (show ¬ (u < 1 ∨ kd < 1 ∨ kd > 3) by omega)]
        by_cases h4 : 4 ≤ (ofU u L).length
        · rw [if_pos h4, if_pos h4]
        · rw [if_neg h4, if_neg h4]

/-- The first of a pod goes. -/
def doneL (u : Int) : List Tk → List Tk
  | [] => []
  | x :: r => if x.2.1 = u then r else x :: doneL u r
def doneT (u : Int) : List Tk → Tk × Int
  | [] => ((0, 0, 0), 6)
  | x :: r => if x.2.1 = u then (x, 0) else doneT u r

theorem doneL_take (u : Int) : ∀ (L : List Tk) (i : Nat), (∀ x ∈ L.take i, x.2.1 ≠ u) → doneL u L = L.take i ++ doneL u (L.drop i) ∧ doneT u L = doneT u (L.drop i)
  | [], i, _ => by simp [doneL, doneT]
  | x :: r, 0, _ => by simp
  | x :: r, i + 1, h => by
    have hx : x.2.1 ≠ u := h x (by simp)
    obtain ⟨h1, h2⟩ := doneL_take u r i (fun y hy => h y (by simp [hy]))
    simp [doneL, doneT, hx, h1, h2]

theorem done_l0 (L : List Tk) (u last : Int) (hl : L.length ≤ 100000) : ∀ (d i k : Nat), d = L.length - i → i ≤ L.length → (∀ x ∈ L.take i, x.2.1 ≠ u) → d < k →
    provostref28_Done.l0 k u (i : Int) (L.map tS) last = some ((doneL u L).map tS, last, (doneT u L).1.1, (doneT u L).1.2.1, (doneT u L).1.2.2, (doneT u L).2) := by
  intro d
  induction d with
  | zero =>
    intro i k hd hi ha hk
    obtain ⟨k, rfl⟩ : ∃ m, k = m + 1 := ⟨k - 1, by omega⟩
    have : i = L.length := by omega
    subst this
    simp only [provostref28_Done.l0, List.length_map]
    obtain ⟨h1, h2⟩ := doneL_take u L L.length ha
    rw [List.take_length, List.drop_length] at h1
    rw [List.drop_length] at h2
    rw [if_neg (by omega), h1, h2]
    simp [doneL, doneT]
  | succ d ih =>
    intro i k hd hi ha hk
    obtain ⟨k, rfl⟩ : ∃ m, k = m + 1 := ⟨k - 1, by omega⟩
    have hil : i < L.length := by omega
    simp only [provostref28_Done.l0, List.length_map]
    rw [if_pos (by omega), if_pos (by omega), rd85 hil]
    by_cases h : L[i].2.1 = u
    · obtain ⟨h1, h2⟩ := doneL_take u L i ha
      rw [List.drop_eq_getElem_cons hil] at h1 h2
      simp only [doneL, doneT, h, if_true] at h1 h2
      rw [if_pos (by simpa [tS] using h), h1, h2]
      simp only [Option.bind_some, wrap_nat (show i ≤ 1000000 by omega), Int.toNat_natCast]
      rw [if_pos (by omega), if_pos (by simp; omega), if_pos (by omega), if_pos (by omega), if_pos (by simp; omega)]
      simp [tS, h, List.map_take, List.map_drop]
    · rw [if_neg (by simpa [tS] using h), wrap_nat (by omega)]
      refine ih (i + 1) k (by omega) (by omega) (fun x hx => ?_) (by omega)
      rw [List.take_add_one, List.getElem?_eq_getElem hil] at hx
      rcases List.mem_append.1 hx with hx | hx
      · exact ha x hx
      · simp at hx; subst hx; exact h

theorem done_f (L : List Tk) (u last : Int) (hl : L.length ≤ 100000) : provostref28_Done.f (L.length + 1) (L.map tS) last u = some ((doneL u L).map tS, last, (doneT u L).1.1, (doneT u L).1.2.1, (doneT u L).1.2.2, (doneT u L).2) := by
  have := done_l0 L u last hl L.length 0 (L.length + 1) (by omega) (by omega) (by simp) (by omega)
  simpa [provostref28_Done.f] using this

/-- All of a pod go. -/
def noneU (u : Int) (L : List Tk) : List Tk := L.filter (fun t => !(t.2.1 == u))
theorem noneU_cons (u : Int) (x : Tk) (r : List Tk) : noneU u (x :: r) = if x.2.1 = u then noneU u r else x :: noneU u r := by
  unfold noneU
  rw [List.filter_cons]
  by_cases h : x.2.1 = u <;> simp [h]
theorem ofU_noneU (u : Int) : ∀ L : List Tk, (ofU u L).length + (noneU u L).length = L.length
  | [] => rfl
  | x :: r => by
    have := ofU_noneU u r
    rw [ofU_cons, noneU_cons]
    split <;> simp <;> omega

theorem all_l0 (L : List Tk) (u last : Int) (hl : L.length ≤ 100000) : ∀ (d i k : Nat) (acc : List S85), d = L.length - i → i ≤ L.length → acc.length ≤ i → d < k →
    provostref28_All.l0 k u acc (i : Int) (L.map tS) last = some (acc ++ (noneU u (L.drop i)).map tS, last, (L.length : Int) - ((acc.length : Int) + (noneU u (L.drop i)).length)) := by
  intro d
  induction d with
  | zero =>
    intro i k acc hd hi ha hk
    obtain ⟨k, rfl⟩ : ∃ m, k = m + 1 := ⟨k - 1, by omega⟩
    have : i = L.length := by omega
    subst this
    simp only [provostref28_All.l0, List.length_map]
    have e : wrap64 ((L.length : Int) - (acc.length : Int)) = (L.length : Int) - (acc.length : Int) := by unfold wrap64; omega
    rw [if_neg (by omega), e]
    simp [noneU]
  | succ d ih =>
    intro i k acc hd hi ha hk
    obtain ⟨k, rfl⟩ : ∃ m, k = m + 1 := ⟨k - 1, by omega⟩
    have hil : i < L.length := by omega
    simp only [provostref28_All.l0, List.length_map]
    rw [if_pos (by omega), if_pos (by omega), rd85 hil, List.drop_eq_getElem_cons hil, noneU_cons]
    by_cases h : L[i].2.1 = u
    · rw [if_pos (by simpa [tS] using h), wrap_nat (by omega), ih (i + 1) k acc (by omega) (by omega) (by omega) (by omega), if_pos h]
    · rw [if_neg (by simpa [tS] using h), if_pos (by omega), wrap_nat (by omega), ih (i + 1) k _ (by omega) (by omega) (by simp; omega) (by omega), if_neg h]
      simp [tS]
      omega

theorem all_f (L : List Tk) (u last : Int) (hl : L.length ≤ 100000) : provostref28_All.f (L.length + 1) (L.map tS) last u = some ((noneU u L).map tS, last, ((ofU u L).length : Int)) := by
  have := all_l0 L u last hl L.length 0 (L.length + 1) [] (by omega) (by omega) (by simp) (by omega)
  have h2 := ofU_noneU u L
  simp only [provostref28_All.f]
  rw [Int.natCast_zero] at this
  rw [this]
  simp
  omega

/-! ### the pods, rising -/
def insU (u : Int) : List Int → List Int
  | [] => [u]
  | x :: r => if x < u then x :: insU u r else if x = u then x :: r else u :: x :: r
def Asc (l : List Int) : Prop := l.Pairwise (· < ·)

theorem mem_insU {u x : Int} : ∀ {l : List Int}, x ∈ insU u l ↔ x = u ∨ x ∈ l
  | [] => by simp [insU]
  | y :: r => by
    unfold insU
    split
    · simp [mem_insU (l := r)]
      constructor
      · rintro (h | h | h) <;> simp [h]
      · rintro (h | h | h) <;> simp [h]
    · split
      · rename_i h; subst h; simp
      · simp
theorem insU_asc {u : Int} : ∀ {l : List Int}, Asc l → Asc (insU u l)
  | [], _ => by simp [insU, Asc]
  | y :: r, h => by
    obtain ⟨h1, h2⟩ := List.pairwise_cons.1 h
    unfold insU
    split
    · rename_i hlt
      refine List.pairwise_cons.2 ⟨fun z hz => ?_, insU_asc h2⟩
      rcases mem_insU.1 hz with rfl | hz
      · exact hlt
      · exact h1 z hz
    · split
      · exact h
      · rename_i h3 h4
        refine List.pairwise_cons.2 ⟨fun z hz => ?_, h⟩
        rcases List.mem_cons.1 hz with rfl | hz
        · omega
        · have := h1 z hz; omega
theorem insU_len (u : Int) : ∀ l : List Int, (insU u l).length ≤ l.length + 1
  | [] => by simp [insU]
  | y :: r => by
    unfold insU
    split
    · have := insU_len u r; simp; omega
    · split <;> simp

def uidsL (L : List Tk) (acc : List Int) : List Int := L.foldl (fun a t => insU t.2.1 a) acc
theorem mem_uidsL {x : Int} : ∀ {L : List Tk} {acc : List Int}, x ∈ uidsL L acc ↔ x ∈ acc ∨ ∃ t ∈ L, t.2.1 = x
  | [], acc => by simp [uidsL]
  | t :: r, acc => by
    have := mem_uidsL (x := x) (L := r) (acc := insU t.2.1 acc)
    unfold uidsL at this ⊢
    rw [List.foldl_cons, this, mem_insU]
    constructor
    · rintro ((h | h) | ⟨s, h1, h2⟩)
      · exact .inr ⟨t, by simp, h.symm⟩
      · exact .inl h
      · exact .inr ⟨s, by simp [h1], h2⟩
    · rintro (h | ⟨s, h1, h2⟩)
      · exact .inl (.inr h)
      · rcases List.mem_cons.1 h1 with rfl | h1
        · exact .inl (.inl h2.symm)
        · exact .inr ⟨s, h1, h2⟩
theorem uidsL_asc : ∀ {L : List Tk} {acc : List Int}, Asc acc → Asc (uidsL L acc)
  | [], _, h => h
  | t :: r, acc, h => uidsL_asc (L := r) (insU_asc h)

/-- Two rising lists of the same members are one. -/
theorem asc_eq : ∀ {a b : List Int}, Asc a → Asc b → (∀ x, x ∈ a ↔ x ∈ b) → a = b
  | [], [], _, _, _ => rfl
  | [], y :: s, _, _, h => by have := (h y).2 (by simp); simp at this
  | x :: r, [], _, _, h => by have := (h x).1 (by simp); simp at this
  | x :: r, y :: s, ha, hb, h => by
    obtain ⟨a1, a2⟩ := List.pairwise_cons.1 ha
    obtain ⟨b1, b2⟩ := List.pairwise_cons.1 hb
    have hxy : x = y := by
      rcases List.mem_cons.1 ((h x).1 (by simp)) with e | e
      · exact e
      · rcases List.mem_cons.1 ((h y).2 (by simp)) with e2 | e2
        · exact e2.symm
        · have := b1 x e; have := a1 y e2; omega
    subst hxy
    rw [asc_eq a2 b2 (fun z => ?_)]
    constructor
    · intro hz
      rcases List.mem_cons.1 ((h z).1 (by simp [hz])) with e | e
      · have := a1 z hz; omega
      · exact e
    · intro hz
      rcases List.mem_cons.1 ((h z).2 (by simp [hz])) with e | e
      · have := b1 z hz; omega
      · exact e

/-- Where u stands or belongs. -/
def atU (u : Int) : List Int → Nat
  | [] => 0
  | x :: r => if x < u then atU u r + 1 else 0
theorem insU_at (u : Int) : ∀ l : List Int, insU u l = if l[atU u l]? = some u then l else l.take (atU u l) ++ u :: l.drop (atU u l)
  | [] => by simp [insU, atU]
  | x :: r => by
    unfold insU atU
    by_cases h : x < u
    · rw [if_pos h, if_pos h, insU_at u r]
      simp only [List.getElem?_cons_succ, List.take_succ_cons, List.drop_succ_cons]
      split <;> simp
    · rw [if_neg h, if_neg h]
      by_cases h2 : x = u <;> simp [h2]
theorem atU_le (u : Int) : ∀ l : List Int, atU u l ≤ l.length
  | [] => by simp [atU]
  | x :: r => by
    unfold atU
    split
    · have := atU_le u r; simp; omega
    · omega
theorem atU_lt (u : Int) : ∀ (l : List Int) (i : Nat) (h : i < l.length), i < atU u l → l[i] < u
  | [], i, h, _ => by simp at h
  | x :: r, i, h, hi => by
    unfold atU at hi
    split at hi
    · cases i with
      | zero => simpa
      | succ i => exact atU_lt u r i (by simpa using h) (by omega)
    · omega
theorem atU_ge (u : Int) : ∀ (l : List Int) (h : atU u l < l.length), ¬ l[atU u l] < u
  | [], h => by simp at h
  | x :: r, h => by
    by_cases hx : x < u
    · have e : atU u (x :: r) = atU u r + 1 := by simp [atU, hx]
      have h' : atU u r < r.length := by rw [e] at h; simpa using h
      have := atU_ge u r h'
      simp only [e, List.getElem_cons_succ]
      exact this
    · have e : atU u (x :: r) = 0 := by simp [atU, hx]
      simp only [e, List.getElem_cons_zero]
      exact hx

theorem rdI {ps : List Int} {i : Nat} (h : i < ps.length) : rd ps (i : Int) = ps[i] := by unfold rd; simp [h]

theorem uids_l1 (L : List Tk) (last : Int) (hl : L.length ≤ 100000) (acc : List Int) (ha : acc.length ≤ 100000) (j : Nat) (hj : j < L.length) (R : Nat) :
    ∀ (d i k : Nat), d = atU L[j].2.1 acc - i → i ≤ atU L[j].2.1 acc → R + d + 1 ≤ k → ∃ k', R ≤ k' ∧ provostref28_UIDs.l1 k acc (j : Int) (i : Int) (L.map tS) last = provostref28_UIDs.l0 k' (insU L[j].2.1 acc) ((j + 1 : Nat) : Int) (L.map tS) last := by
  have hle := atU_le L[j].2.1 acc
  intro d
  induction d with
  | zero =>
    intro i k hd hi hk
    obtain ⟨k, rfl⟩ : ∃ m, k = m + 1 := ⟨k - 1, by omega⟩
    have hie : i = atU L[j].2.1 acc := by omega
    refine ⟨k, by omega, ?_⟩
    simp only [provostref28_UIDs.l1, List.length_map, rd85 hj, Option.bind_some, Int.toNat_natCast]
    rw [insU_at, ← hie]
    by_cases hil : i < acc.length
    · have hge : ¬ acc[i] < L[j].2.1 := by
        have := atU_ge L[j].2.1 acc (by omega)
        simp only [← hie] at this
        exact this
      rw [if_pos (by omega), if_pos (by omega), if_pos (by omega), if_pos (by omega), rdI hil, if_neg (by simpa [tS] using hge), List.getElem?_eq_getElem hil]
      by_cases he : acc[i] = L[j].2.1
      · rw [if_pos (by simpa [tS] using he), if_pos (by rw [he]), wrap_nat (by omega)]
      · rw [if_neg (by simpa [tS] using he), if_neg (show ¬ (some acc[i] = some L[j].2.1) by simpa using he), if_pos (by omega), if_pos (by simp; omega), if_pos (by simp; omega), if_pos (by simp; omega), wrap_nat (by omega)]
        simp [tS]
    · rw [if_neg (by omega), if_pos (by omega), if_pos (by omega), if_pos (by omega), if_pos (by omega), if_pos (by simp; omega), if_pos (by simp; omega), if_pos (by simp; omega), wrap_nat (by omega)]
      rw [List.getElem?_eq_none (by omega)]
      simp [tS]
  | succ d ih =>
    intro i k hd hi hk
    obtain ⟨k, rfl⟩ : ∃ m, k = m + 1 := ⟨k - 1, by omega⟩
    have hil : i < acc.length := by omega
    simp only [provostref28_UIDs.l1, List.length_map, rd85 hj]
    have hlt := atU_lt L[j].2.1 acc i hil (by omega)
    rw [if_pos (by omega), if_pos (by omega), if_pos (by omega), if_pos (by omega), rdI hil, if_pos (by simpa [tS] using hlt), wrap_nat (by omega)]
    exact ih (i + 1) k (by omega) (by omega) (by omega)

theorem uids_l0 (N : Nat) (hN : 2000 ≤ N) (L : List Tk) (last : Int) (hl : L.length ≤ 1000) : ∀ (d j k : Nat) (acc : List Int), d = L.length - j → j ≤ L.length → acc.length ≤ j → d * N + 1 ≤ k →
    provostref28_UIDs.l0 k acc (j : Int) (L.map tS) last = some (uidsL (L.drop j) acc) := by
  intro d
  induction d with
  | zero =>
    intro j k acc hd hj ha hk
    obtain ⟨k, rfl⟩ : ∃ m, k = m + 1 := ⟨k - 1, by omega⟩
    have : j = L.length := by omega
    subst this
    simp only [provostref28_UIDs.l0, List.length_map]
    rw [if_neg (by omega), List.drop_length]
    rfl
  | succ d ih =>
    intro j k acc hd hj ha hk
    obtain ⟨k, rfl⟩ : ∃ m, k = m + 1 := ⟨k - 1, by omega⟩
    have hjl : j < L.length := by omega
    rw [Nat.succ_mul] at hk
    have hle := atU_le L[j].2.1 acc
    simp only [provostref28_UIDs.l0, List.length_map]
    rw [if_pos (by omega)]
    obtain ⟨k', hk', e⟩ := uids_l1 L last (by omega) acc (by omega) j hjl (d * N + 1) (atU L[j].2.1 acc) 0 k (by omega) (by omega) (by omega)
    rw [Int.natCast_zero] at e
    rw [e, ih (j + 1) k' _ (by omega) (by omega) (by have := insU_len L[j].2.1 acc; omega) hk', List.drop_eq_getElem_cons hjl]
    rfl

theorem uids_f (L : List Tk) (last : Int) (hl : L.length ≤ 1000) (N : Nat) (hN : 2000 ≤ N) : provostref28_UIDs.f (L.length * N + 1) (L.map tS) last = some (uidsL L []) := by
  have := uids_l0 N hN L last hl L.length 0 (L.length * N + 1) [] (by omega) (by omega) (by simp) (by omega)
  simpa [provostref28_UIDs.f] using this

theorem same_l0 (l : List Tk) (hl : l.length ≤ 100000) : ∀ (d i k : Nat), d = l.length - i → i ≤ l.length → 2 * d + 1 < k → provostlaw28_same.l0 k (l.map tU) (l.map tS) (i : Int) = some true := by
  intro d
  induction d with
  | zero =>
    intro i k hd hi hk
    obtain ⟨k, rfl⟩ : ∃ m, k = m + 1 := ⟨k - 1, by omega⟩
    obtain ⟨k, rfl⟩ : ∃ m, k = m + 1 := ⟨k - 1, by omega⟩
    simp only [provostlaw28_same.l0, List.length_map]
    rw [if_neg (by omega)]
    simp [provostlaw28_same.j1]
  | succ d ih =>
    intro i k hd hi hk
    obtain ⟨k, rfl⟩ : ∃ m, k = m + 1 := ⟨k - 1, by omega⟩
    obtain ⟨k, rfl⟩ : ∃ m, k = m + 1 := ⟨k - 1, by omega⟩
    have hil : i < l.length := by omega
    simp only [provostlaw28_same.l0, List.length_map]
    rw [if_pos (by omega)]
    simp only [provostlaw28_same.j1, List.length_map]
    rw [if_pos (by simp; omega), if_pos (by omega), if_pos (by omega), if_pos (by omega), rd30 hil, rd85 hil]
    simp only [provostlaw28_is.f, tU, tS, if_true, beq_self_eq_true, Option.bind_some]
    rw [wrap_nat (by omega)]
    exact ih (i + 1) k (by omega) (by omega) (by omega)
theorem same_f (l : List Tk) (hl : l.length ≤ 100000) : provostlaw28_same.f (2 * l.length + 2) (l.map tU) (l.map tS) = some true := by
  have := same_l0 l hl l.length 0 (2 * l.length + 2) (by omega) (by omega) (by omega)
  simp only [provostlaw28_same.f, List.length_map, if_true]
  exact this
theorem is_f (t : Tk) : provostlaw28_is.f t.1 t.2.1 t.2.2 t.1 t.2.1 t.2.2 = some true := by simp [provostlaw28_is.f]

theorem sameI_l0 (a : List Int) (hl : a.length ≤ 100000) : ∀ (d i k : Nat), d = a.length - i → i ≤ a.length → d < k → provostbook_SameInts.l0 k a a true (i : Int) = some true := by
  intro d
  induction d with
  | zero =>
    intro i k hd hi hk
    obtain ⟨k, rfl⟩ : ∃ m, k = m + 1 := ⟨k - 1, by omega⟩
    simp only [provostbook_SameInts.l0]
    rw [if_pos trivial, if_neg (by omega)]
  | succ d ih =>
    intro i k hd hi hk
    obtain ⟨k, rfl⟩ : ∃ m, k = m + 1 := ⟨k - 1, by omega⟩
    simp only [provostbook_SameInts.l0]
    rw [if_pos trivial, if_pos (by omega), if_pos (by omega), if_pos (by omega), wrap_nat (by omega), beq_self_eq_true]
    exact ih (i + 1) k (by omega) (by omega) (by omega)
theorem sameI_f (a : List Int) (hl : a.length ≤ 100000) : provostbook_SameInts.f (a.length + 1) a a = some true := by
  have := sameI_l0 a hl a.length 0 (a.length + 1) (by omega) (by omega) (by omega)
  simpa [provostbook_SameInts.f] using this

/-! ### the list beside the rows -/
structure TRel (rows : TRows) (L : List Tk) : Prop where
  flt : ∀ u, ofU u L = rl rows u
  ne : ∀ r ∈ rows, r.2.2 ≠ []
  nodup : (rows.map (·.1)).Nodup

theorem rl_mem {rows : TRows} {r : Int × (Value × List Tk)} (hn : (rows.map (·.1)).Nodup) (h : r ∈ rows) : rl rows r.1 = r.2.2 := by
  unfold rl
  rw [aget_of_mem hn (k := r.1) (v := r.2) h]
  rfl
theorem rl_key {rows : TRows} {u : Int} (h : rl rows u ≠ []) : u ∈ rows.map (·.1) := by
  unfold rl at h
  cases hg : aget u rows with
  | none => rw [hg] at h; simp at h
  | some v => exact List.mem_map.2 ⟨(u, v), aget_mem hg, rfl⟩
theorem TRel.key {rows : TRows} {L : List Tk} (h : TRel rows L) (u : Int) : u ∈ rows.map (·.1) ↔ ∃ t ∈ L, t.2.1 = u := by
  constructor
  · intro hu
    obtain ⟨r, hr, rfl⟩ := List.mem_map.1 hu
    have h1 := h.ne r hr
    have h2 := h.flt r.1
    rw [rl_mem h.nodup hr] at h2
    cases hh : r.2.2 with
    | nil => exact absurd hh h1
    | cons t ts =>
      rw [hh] at h2
      have : t ∈ ofU r.1 L := by rw [h2]; simp
      obtain ⟨h3, h4⟩ := List.mem_filter.1 this
      exact ⟨t, h3, by simpa using h4⟩
  · rintro ⟨t, ht, rfl⟩
    refine rl_key ?_
    rw [← h.flt]
    intro e
    have : t ∈ ofU t.2.1 L := List.mem_filter.2 ⟨ht, by simp⟩
    rw [e] at this; cases this

/-- How many the pods of ks have together. -/
def sumLen (rows : TRows) : List Int → Nat
  | [] => 0
  | u :: r => (rl rows u).length + sumLen rows r
def sumOf (L : List Tk) : List Int → Nat
  | [] => 0
  | u :: r => (ofU u L).length + sumOf L r
theorem sumOf_cons (t : Tk) (L : List Tk) : ∀ ks : List Int, ks.Nodup → sumOf (t :: L) ks = sumOf L ks + if t.2.1 ∈ ks then 1 else 0
  | [], _ => by simp [sumOf]
  | u :: r, h => by
    obtain ⟨h1, h2⟩ := List.nodup_cons.1 h
    unfold sumOf
    rw [sumOf_cons t L r h2, ofU_cons]
    by_cases hu : t.2.1 = u
    · subst hu
      simp [h1]; omega
    · have : t.2.1 ∈ u :: r ↔ t.2.1 ∈ r := by simp [hu]
      rw [if_neg hu]
      by_cases hr : t.2.1 ∈ r <;> simp [hr, hu] <;> omega
theorem sumOf_all : ∀ (L : List Tk) (ks : List Int), ks.Nodup → (∀ t ∈ L, t.2.1 ∈ ks) → sumOf L ks = L.length
  | [], ks, _, _ => by
    induction ks with
    | nil => rfl
    | cons u r ih => rename_i h _; unfold sumOf; rw [ih (List.nodup_cons.1 h).2 (by simp)]; simp [ofU]
  | t :: L, ks, h, hm => by
    rw [sumOf_cons t L ks h, sumOf_all L ks h (fun s hs => hm s (by simp [hs])), if_pos (hm t (by simp))]
    rfl
theorem TRel.sum {rows : TRows} {L : List Tk} (h : TRel rows L) : ∀ ks : List Int, sumLen rows ks = sumOf L ks
  | [] => rfl
  | u :: r => by unfold sumLen sumOf; rw [h.sum r, h.flt]
end Go.Proofs.Ytnceglkoolfncaa.Tp
