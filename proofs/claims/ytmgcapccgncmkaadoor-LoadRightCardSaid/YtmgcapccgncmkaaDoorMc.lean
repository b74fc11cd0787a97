/- Numbers' texts, read again. -/
import Derived.Test.YtmgcapccgncmkaaDoorLl
import Derived.Test.YtmgcapccgncmkaaDoorMp
set_option linter.unusedSimpArgs false
set_option linter.unusedVariables false
namespace Go.Proofs.YtmgcapccgncmkaaDoor.Ld
open Go.RowKit Go.Pv Go.Proofs.YtmgcapccgncmkaaDoor.PLoadRight Go.Proofs.YtmgcapccgncmkaaDoorW.PrintWords Go.Proofs.YtmgcapccgncmkaaDoorW.PrintLast Go.Proofs.YtmgcapccgncmkaaDoorW.PrintMore

def vstep (a c : Int) : Int := a * 10 + (c - 48)
def valD (l : List Int) : Int := l.foldl vstep 0
theorem valD_snoc (l : List Int) (c : Int) : valD (l ++ [c]) = valD l * 10 + (c - 48) := by simp [valD, vstep]
def Dig (c : Int) : Prop := 48 ≤ c ∧ c ≤ 57
theorem dig_mod (m : Int) (h : 0 ≤ m) : Dig (48 + m % 10) := by unfold Dig; omega
theorem digsF_form : ∀ (k : Nat) (m : Int) (acc : List Int), 0 ≤ m → m < 10 ^ k → 0 < k →
    ∃ pre, digsF k m acc = pre ++ acc ∧ pre ≠ [] ∧ (∀ c ∈ pre, Dig c) ∧ valD pre = m ∧ (0 < m → pre.head? ≠ some 48) ∧ (m = 0 → pre.length = 1)
  | 0, m, acc, _, _, h => by omega
  | k + 1, m, acc, hm, hp, _ => by
    have hd := dig_mod m hm
    by_cases hz : m / 10 = 0
    · refine ⟨[48 + m % 10], by rw [digsF, if_pos hz]; rfl, by simp, by simpa using hd, ?_, ?_, fun _ => rfl⟩
      · simp only [valD, List.foldl, vstep]; omega
      · intro h
        simp only [List.head?_cons, ne_eq, Option.some.injEq]
        omega
    · have hlt : m / 10 < 10 ^ k := rt_small hp
      have hk : 0 < k := by
        rcases Nat.eq_zero_or_pos k with h | h
        · rw [h] at hlt; simp at hlt; exact absurd (show m / 10 = 0 by omega) hz
        · exact h
      have hq : 0 ≤ m / 10 ∧ 0 < m / 10 := by clear hlt hp; omega
      obtain ⟨pre, h1, h2, h3, h4, h5, h6⟩ := digsF_form k (m / 10) ((48 + m % 10) :: acc) hq.1 hlt hk
      clear hlt hp
      refine ⟨pre ++ [48 + m % 10], by rw [digsF, if_neg hz, h1]; simp, by simp, ?_, ?_, ?_, ?_⟩
      · intro c hc
        rcases List.mem_append.1 hc with h | h
        · exact h3 c h
        · rw [List.mem_singleton] at h; subst h; exact hd
      · rw [valD_snoc, h4]; omega
      · intro _
        rw [List.head?_append]
        have := h5 hq.2
        cases pre with
        | nil => exact absurd rfl h2
        | cons a r => simpa using this
      · intro h; omega
theorem digs_form (n : Int) (h0 : 0 ≤ n) (h1 : n ≤ 1073741824) : digs n ≠ [] ∧ (∀ c ∈ digs n, Dig c) ∧ valD (digs n) = n ∧ (1 < (digs n).length → (digs n).head? ≠ some 48) := by
  have hp : n < (10 : Int) ^ 20 := by
    have : (10 : Int) ^ 20 = 100000000000000000000 := by decide
    omega
  obtain ⟨pre, e1, e2, e3, e4, e5, e6⟩ := digsF_form 20 n [] h0 hp (by omega)
  clear hp
  have e : digs n = pre := by unfold digs; rw [e1, List.append_nil]
  rw [e]
  refine ⟨e2, e3, e4, fun hl => ?_⟩
  by_cases hz : n = 0
  · rw [e6 hz] at hl; omega
  · exact e5 (by omega)
theorem valD_mono : ∀ (l : List Int), (∀ c ∈ l, Dig c) → ∀ (j : Nat), 0 ≤ valD (l.take j) ∧ valD (l.take j) ≤ valD (l.take (j + 1))
  | l, h, j => by
    have h0 : ∀ (j : Nat), 0 ≤ valD (l.take j) := by
      intro j
      induction j with
      | zero => simp [valD]
      | succ j ih =>
        rw [List.take_add_one]
        cases hj : l[j]? with
        | none => simpa using ih
        | some c =>
          have := h c (List.mem_of_getElem? hj)
          unfold Dig at this
          simp only [Option.toList_some]
          rw [valD_snoc]
          omega
    refine ⟨h0 j, ?_⟩
    rw [List.take_add_one]
    cases hj : l[j]? with
    | none => simp
    | some c =>
      have := h c (List.mem_of_getElem? hj)
      unfold Dig at this
      simp only [Option.toList_some]
      rw [valD_snoc]
      have := h0 j
      omega
theorem valD_le (l : List Int) (h : ∀ c ∈ l, Dig c) : ∀ (d j : Nat), j + d = l.length → valD (l.take j) ≤ valD l
  | 0, j, hd => by rw [List.take_of_length_le (by omega)]; exact Int.le_refl _
  | d + 1, j, hd => Int.le_trans (valD_mono l h j).2 (valD_le l h d (j + 1) (by omega))
theorem bt_nums (l : List Int) (h : ∀ c ∈ l, Dig c) (j : Nat) (hj : j < l.length) : bt (strOfNums l) (j : Int) = l[j] := by
  have h1 := h l[j] (List.getElem_mem hj)
  unfold Dig at h1
  have hs : (strOfNums l).size = l.length := strOfNums_size' l
  have := bt_at (strOfNums l) (j : Int) (by rw [hs]; simpa using hj)
  rw [← this]
  simp only [strOfNums, Int.toNat_natCast]
  show (((l.map fun n => UInt8.ofNat n.toNat).toArray[j]'(by simpa using hj)).toNat : Int) = l[j]
  simp only [List.getElem_toArray, List.getElem_map, UInt8.toNat_ofNat']
  omega
theorem mul10_eq (x : Int) (h0 : 0 ≤ x) (h1 : x ≤ 1073741824) (k : Nat) : num_Mul.f (k + 2) x 10 = some (x * 10, true) := by
  unfold num_Mul.f
  by_cases hx : x = 0
  · rw [if_pos hx, num_Mul.j0, if_pos rfl, hx]; rfl
  · have e1 : wrap64 (x * 10) = x * 10 := by unfold wrap64; omega
    have e2 : Int.tdiv (x * 10) 10 = x := by rw [Int.tdiv_eq_ediv_of_nonneg (by omega)]; omega
    have e3 : wrap64 x = x := by unfold wrap64; omega
    have e4 : ¬ (((10 : Int) == 0) = true) := by decide
    rw [if_neg hx, num_Mul.j0, if_neg e4, if_neg (by omega), if_neg (by omega), num_Mul.j1, if_neg (by simp), if_neg (by omega), e1, e2, e3, if_pos rfl]
theorem add_eq (p d : Int) (h0 : 0 ≤ p) (h1 : p ≤ 10737418240) (h2 : 0 ≤ d) (h3 : d ≤ 9) : num_Add.f p d = some (p + d, true) := by
  have e1 : wrap64 (p + d) = p + d := by unfold wrap64; omega
  unfold num_Add.f
  rw [e1]
  by_cases hd : d > 0
  · rw [if_pos hd, if_neg (by omega), if_neg (by omega)]
  · rw [if_neg hd, if_neg (by omega)]
theorem step_facts {X V c : Int} {j L sz : Nat} (hc : 48 ≤ c ∧ c ≤ 57) (hm : 0 ≤ X) (hle : X ≤ V) (hv : V ≤ 1073741824) (hjl : j < L) (hs : sz = L) :
    (0 : Int) ≤ (j : Int) ∧ (j : Int) < (sz : Int) ∧ (0 ≤ X * 10 ∧ X * 10 ≤ 10737418240 ∧ 0 ≤ c - 48 ∧ c - 48 ≤ 9) ∧ X ≤ 1073741824 ∧ (j : Int) < (L : Int) ∧ ¬ (c < 48) ∧ ¬ (c > 57) := by
  refine ⟨?_, ?_, ⟨?_, ?_, ?_, ?_⟩, ?_, ?_, ?_, ?_⟩ <;> omega
theorem end_facts {V : Int} {j L : Nat} (hv : V ≤ 1073741824) (hj : j + 0 = L) : ¬ ((j : Int) < (L : Int)) ∧ ¬ (V > 1073741824) ∧ L ≤ j := by refine ⟨?_, ?_, ?_⟩ <;> omega
theorem parse_l (l : List Int) (hd : ∀ c ∈ l, Dig c) (hl : l.length ≤ 20) (hv : valD l ≤ 1073741824) : ∀ (d j k : Nat), j + d = l.length → 2 * d + 4 < k →
    num_Parse.l0 k (strOfNums l) 1073741824 (valD (l.take j)) (l.length : Int) (j : Int) = some (valD l, true)
  | 0, j, k, hj, hk => by
    obtain ⟨k, rfl⟩ : ∃ m, k = m + 1 := ⟨k - 1, by clear hv; omega⟩
    obtain ⟨q1, q2, q3⟩ := end_facts hv hj
    rw [num_Parse.l0, if_neg q1, List.take_of_length_le q3, if_neg q2]
  | d + 1, j, k, hj, hk => by
    obtain ⟨k, rfl⟩ : ∃ m, k = m + 4 := ⟨k - 4, by clear hv; omega⟩
    have hjl : j < l.length := by clear hv; omega
    have hs : (strOfNums l).size = l.length := strOfNums_size' l
    have hb := bt_nums l hd j hjl
    have hc := hd l[j] (List.getElem_mem hjl)
    unfold Dig at hc
    have hm := (valD_mono l hd j).1
    have hle := valD_le l hd (d + 1) j hj
    have e1 : (l[j] - 48) % 256 = l[j] - 48 := by clear hle hm hv; omega
    have e2 : wrap64 ((j : Int) + 1) = ((j + 1 : Nat) : Int) := by clear hle hm hv e1; unfold wrap64; omega
    have e3 : valD (l.take j) * 10 + (l[j] - 48) = valD (l.take (j + 1)) := by
      rw [List.take_add_one, List.getElem?_eq_getElem hjl, Option.toList_some, valD_snoc]
    obtain ⟨q1, q2, q3, q4, q5, q6, q7⟩ := step_facts hc hm hle hv hjl hs
    have key : num_Parse.j2 (k + 3) (strOfNums l) 1073741824 (valD (l.take j)) (j : Int) (l.length : Int) (j : Int) false = some (valD l, true) := by
      rw [num_Parse.j2, if_neg (by simp), mul10_eq _ hm q4 k, Option.bind_some]
      dsimp only
      rw [if_pos rfl, if_pos q1, if_pos q2, hb, e1, add_eq _ _ q3.1 q3.2.1 q3.2.2.1 q3.2.2.2, Option.bind_some]
      dsimp only
      rw [if_pos rfl, e2, e3]
      exact parse_l l hd hl hv d (j + 1) (k + 2) (by rw [Nat.add_right_comm, Nat.add_assoc]; exact hj) (by clear e1 e2 e3 hle hm hv q3 q4 q6 q7 hb; omega)
    rw [num_Parse.l0, if_pos q5, if_pos q1, if_pos q2, hb, if_neg q6, decide_eq_false q7]
    exact key
theorem parse_eq (n : Int) (h0 : 0 ≤ n) (h1 : n ≤ 1073741824) : num_Parse.f 60 (ntext n) 1073741824 = some (n, true) := by
  obtain ⟨f1, f2, f3, f4⟩ := digs_form n h0 h1
  have hl : (digs n).length ≤ 20 := by have := digsF_length 20 n []; simpa [digs] using this
  have hs : (strOfNums (digs n)).size = (digs n).length := strOfNums_size' _
  have hpos : 0 < (digs n).length := List.length_pos_iff.2 f1
  unfold ntext num_Parse.f
  have hne : ¬ ((strOfNums (digs n)).toList = ([] : List UInt8)) := by
    intro e
    have := isEmpty_size (strOfNums (digs n))
    rw [e, hs] at this
    simp at this
    exact f1 this
  have hmain := parse_l (digs n) f2 hl (by rw [f3]; exact h1) (digs n).length 0 59 (Nat.zero_add _) (by clear f3; omega)
  rw [List.take_zero, f3] at hmain
  have hz : valD [] = 0 := rfl
  rw [hz] at hmain
  have hm2 : num_Parse.l0 59 (strOfNums (digs n)) 1073741824 0 ((strOfNums (digs n)).size : Int) 0 = some (n, true) := by rw [hs]; exact hmain
  rw [if_neg hne]
  by_cases h2 : ((strOfNums (digs n)).size : Int) > 1
  · rw [if_pos h2, if_pos (by omega)]
    have hb := bt_nums (digs n) f2 0 hpos
    have hh := f4 (by omega)
    have hb2 : ((bt (strOfNums (digs n)) 0) == 48) = false := by
      rw [show (0 : Int) = ((0 : Nat) : Int) from rfl, hb]
      simp only [beq_eq_false_iff_ne]
      intro e
      apply hh
      rw [List.head?_eq_getElem?, List.getElem?_eq_getElem hpos, e]
    rw [hb2, num_Parse.j0, if_neg (by simp)]
    exact hm2
  · rw [if_neg h2, num_Parse.j0, if_neg (by simp)]
    exact hm2
theorem parse_any (n : Int) (h0 : 0 ≤ n) (h1 : n ≤ 1073741824) (w : World) : Calls Tryd.prog 81 #[.string (ntext n), .int .i64 1073741824] w fun e w' => e = .returned (.tuple #[.int .i64 n, .bool true]) ∧ Below w.heap.size w w' :=
  (num_Parse.calls 60 _ _ _ _ w (parse_eq n h0 h1)).mono fun e w' h => ⟨h.1, h.2.below⟩
end Go.Proofs.YtmgcapccgncmkaaDoor.Ld
