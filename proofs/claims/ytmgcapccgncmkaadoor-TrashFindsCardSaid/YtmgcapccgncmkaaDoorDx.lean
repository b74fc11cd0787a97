/- Texts: the document's parts of an image are the program's. (merged: Dx Dy Dz) -/
import Derived.Test.YtmgcapccgncmkaaDoorIq
import Derived.Test.YtmgcapccgncmkaaDoorTb
import Derived.Test.YtmgcapccgncmkaaDoorDa
import Derived.Test.YtmgcapccgncmkaaDoorIy
import Derived.Test.YtmgcapccgncmkaaDoorDu
import Derived.Sort.Walk0
set_option linter.unusedSimpArgs false
set_option linter.unusedVariables false
namespace Go.Proofs.YtmgcapccgncmkaaDoor.Tx
open Go.RowKit Go.Pv Go.Proofs.YtmgcapccgncmkaaDoor.Im Go.Proofs.YtmgcapccgncmkaaDoorW.PrintWords Go.Proofs.YtmgcapccgncmkaaDoorW.PrintLast Go.Proofs.YtmgcapccgncmkaaDoorW.PrintMore Go.Proofs.YtmgcapccgncmkaaDoor.PImgKeeps

/-! ### cut at a byte -/
/-- What stands between the bytes c. -/
def sp (c : UInt8) : List UInt8 → List (List UInt8)
  | [] => [[]]
  | x :: l => if x = c then [] :: sp c l else match sp c l with
    | h :: t => (x :: h) :: t
    | [] => [[x]]
theorem sp_ne (c : UInt8) (l : List UInt8) : sp c l ≠ [] := by
  cases l with
  | nil => simp [sp]
  | cons x l => unfold sp; split <;> (try split) <;> simp
theorem cut_cons (c b : UInt8) (l : List UInt8) : Lib.cut (b :: l) [c] = if b = c then ([], l, true) else (b :: (Lib.cut l [c]).1, (Lib.cut l [c]).2.1, (Lib.cut l [c]).2.2) := by
  have hge := Lib.index_ge l [c]
  by_cases h : b = c
  · subst h
    have e : Lib.index (b :: l) [b] = 0 := by
      rw [Lib.index]
      simp [List.isPrefixOf]
    rw [if_pos rfl]
    unfold Lib.cut
    rw [e]
    simp
  · have h1 : ([c].isPrefixOf (b :: l)) = false := by
      simp only [List.isPrefixOf, Bool.and_true, beq_eq_false_iff_ne, ne_eq]
      exact fun e => h e.symm
    have e : Lib.index (b :: l) [c] = if Lib.index l [c] == -1 then -1 else Lib.index l [c] + 1 := by
      rw [Lib.index, h1]
      simp
    rw [if_neg h]
    unfold Lib.cut
    rw [e]
    by_cases h2 : Lib.index l [c] = -1
    · rw [h2]
      simp
    · have h3 : (Lib.index l [c] == -1) = false := beq_eq_false_iff_ne.2 h2
      obtain ⟨i, hi⟩ : ∃ i : Nat, Lib.index l [c] = i := ⟨(Lib.index l [c]).toNat, by omega⟩
      rw [h3, hi]
      simp only [Bool.false_eq_true, if_false]
      rw [if_pos (by omega), if_pos (by omega)]
      have e1 : ((i : Int) + 1).toNat = i + 1 := by omega
      rw [e1]
      simp
theorem sp_cut (c : UInt8) : ∀ l : List UInt8, sp c l = if (Lib.cut l [c]).2.2 then (Lib.cut l [c]).1 :: sp c (Lib.cut l [c]).2.1 else [(Lib.cut l [c]).1]
  | [] => rfl
  | b :: l => by
    have ih := sp_cut c l
    rw [cut_cons, sp]
    by_cases h : b = c
    · rw [if_pos h, if_pos h]; simp
    · rw [if_neg h, if_neg h, ih]
      by_cases hf : (Lib.cut l [c]).2.2 = true
      · rw [if_pos hf]; simp only [hf, if_true]
      · rw [if_neg hf]; simp only [hf]; simp
theorem cut_len (c : UInt8) : ∀ l : List UInt8, (Lib.cut l [c]).2.2 = true → l.length = (Lib.cut l [c]).1.length + 1 + (Lib.cut l [c]).2.1.length
  | [], h => by cases h
  | b :: l, h => by
    rw [cut_cons] at h ⊢
    by_cases e : b = c
    · rw [if_pos e]; simp; omega
    · rw [if_neg e] at h ⊢
      have := cut_len c l h
      simp only [List.length_cons]
      omega
theorem sp_none (c : UInt8) : ∀ l : List UInt8, c ∉ l → sp c l = [l]
  | [], _ => rfl
  | b :: l, h => by
    rw [List.mem_cons, not_or] at h
    unfold sp
    rw [if_neg (fun e => h.1 e.symm), sp_none c l h.2]
theorem sp_two (c : UInt8) (l : List UInt8) (h : c ∈ l) : 2 ≤ (sp c l).length := by
  induction l with
  | nil => simp at h
  | cons b l ih =>
    unfold sp
    by_cases e : b = c
    · rw [if_pos e]
      have := List.length_pos_iff.2 (sp_ne c l)
      simp only [List.length_cons]
      omega
    · rw [if_neg e]
      have h2 : c ∈ l := by
        rcases List.mem_cons.1 h with h | h
        · exact absurd h.symm e
        · exact h
      have := ih h2
      cases hs : sp c l with
      | nil => rw [hs] at this; simp at this
      | cons a t => rw [hs] at this; simpa using this

/-! ### the document's parts -/
def mk (l : List UInt8) : ByteArray := ⟨l.toArray⟩
def glue (last : ByteArray) : List (List UInt8) → List ByteArray
  | h :: t => mk (last.data.toList ++ h) :: t.map mk
  | [] => [last]
theorem bt_u (s : ByteArray) (i : Nat) (h : i < s.size) : bt s (i : Int) = ((s.data.toList[i]'(by simpa using h)).toNat : Int) := by
  unfold bt
  simp only [Int.toNat_natCast, h, dif_pos]
  rfl
theorem bt_eq (s : ByteArray) (i : Nat) (h : i < s.size) (c : UInt8) : bt s (i : Int) = (c.toNat : Int) ↔ s.data.toList[i]'(by simpa using h) = c := by
  rw [bt_u s i h]
  constructor
  · intro e
    exact UInt8.toNat_inj.1 (by omega)
  · intro e; rw [e]
theorem extract_one (s : ByteArray) (i : Nat) (h : i < s.size) : (s.extract i (i + 1)).data.toList = [s.data.toList[i]'(by simpa using h)] := by
  have h2 : i < s.data.toList.length := by simpa using h
  rw [ByteArray.data_extract, Array.toList_extract, List.extract_eq_take_drop, show i + 1 - i = 1 by omega, List.drop_eq_getElem_cons h2]
  rfl
theorem extract_size (s : ByteArray) (i : Nat) (h : i < s.size) : (s.extract i (i + 1)).size = 1 := by
  have := congrArg List.length (extract_one s i h)
  rw [Array.length_toList] at this
  exact this
theorem parts_x (s : ByteArray) (c : UInt8) (hs : s.size ≤ 100) : ∀ (n k i : Nat) (init : List ByteArray) (last : ByteArray), s.size = i + n → n < k → init.length ≤ i → last.size ≤ i →
    provostref03_parts.l0 k s (c.toNat : Int) (init ++ [last]) (i : Int) = some (init ++ glue last (sp c (s.data.toList.drop i)))
  | 0, k, i, init, last, h1, h2, h3, h4 => by
    obtain ⟨k, rfl⟩ : ∃ j, k = j + 1 := ⟨k - 1, by omega⟩
    unfold provostref03_parts.l0
    rw [if_neg (by omega), List.drop_of_length_le (by rw [Array.length_toList]; have : s.data.size = s.size := rfl; omega)]
    simp [sp, glue, mk]
  | n + 1, k, i, init, last, h1, h2, h3, h4 => by
    obtain ⟨k, rfl⟩ : ∃ j, k = j + 1 := ⟨k - 1, by omega⟩
    have hi : i < s.size := by omega
    have hil : i < s.data.toList.length := by simpa using hi
    unfold provostref03_parts.l0
    rw [if_pos (by omega), if_pos (by omega), wr1 (by omega), List.drop_eq_getElem_cons hil]
    have hlen : (init ++ [last]).length = init.length + 1 := by simp
    by_cases he : s.data.toList[i] = c
    · rw [if_pos ((bt_eq s i hi c).2 he), if_pos (by rw [hlen]; omega)]
      have ih := parts_x s c hs n k (i + 1) (init ++ [last]) ⟨#[]⟩ (by omega) (by omega) (by rw [hlen]; omega) (Nat.zero_le _)
      rw [ih]
      have : sp c (s.data.toList[i] :: s.data.toList.drop (i + 1)) = [] :: sp c (s.data.toList.drop (i + 1)) := by
        rw [sp, if_pos he]
      rw [this]
      cases hq : sp c (s.data.toList.drop (i + 1)) with
      | nil => exact absurd hq (sp_ne _ _)
      | cons a t => simp [glue, mk]
    · rw [if_neg (fun e => he ((bt_eq s i hi c).1 e))]
      have e1 : wrap64 (((init ++ [last]).length : Int) - 1) = (init.length : Int) := by
        rw [hlen]; unfold wrap64; omega
      rw [e1, if_pos (by omega), if_pos (by rw [hlen]; omega), if_pos (by omega), if_pos (by omega)]
      simp only [Int.toNat_natCast]
      have e2 : rdOf ByteArray.empty (init ++ [last]) (init.length : Int) = last := by simp [rdOf, List.getD_eq_getElem?_getD]
      have e3 := extract_one s i hi
      have e4 := extract_size s i hi
      rw [e2, if_pos (by omega), List.set_append_right _ _ (Nat.le_refl _), Nat.sub_self]
      have e5 : (last ++ s.extract i (i + 1)).data.toList = last.data.toList ++ [s.data.toList[i]] := by
        rw [ByteArray.data_append, Array.toList_append, e3]
      have e6 : (last ++ s.extract i (i + 1)).size = last.size + 1 := by
        rw [ByteArray.size_append, e4]
      have ih := parts_x s c hs n k (i + 1) init (last ++ s.extract i (i + 1)) (by omega) (by omega) (by omega) (by omega)
      simp only [List.set_cons_zero]
      rw [ih]
      congr 2
      rw [sp, if_neg he]
      cases hq : sp c (s.data.toList.drop (i + 1)) with
      | nil => exact absurd hq (sp_ne _ _)
      | cons a t =>
        simp only [glue]
        rw [e5]
        simp
theorem parts_f (s : ByteArray) (c : UInt8) (hs : s.size ≤ 100) (k : Nat) (hk : 101 ≤ k) : provostref03_parts.f k s (c.toNat : Int) = some ((sp c s.data.toList).map mk) := by
  have := parts_x s c hs s.size k 0 [] ⟨#[]⟩ (by omega) (by omega) (Nat.le_refl 0) (Nat.le_refl 0)
  unfold provostref03_parts.f
  refine this.trans ?_
  simp only [List.nil_append, List.drop_zero]
  cases hq : sp c s.data.toList with
  | nil => exact absurd hq (sp_ne _ _)
  | cons a t => rfl
/-! ### bytes -/
def smallB (c : Int) : Bool := decide (97 ≤ c ∧ c ≤ 122 ∨ 48 ≤ c ∧ c ≤ 57)
theorem small_f (c : Int) : provostref03_small.f c = some (smallB c) := by
  unfold provostref03_small.f smallB
  by_cases h1 : c ≥ 97 <;> by_cases h2 : c ≤ 122 <;> by_cases h3 : c ≥ 48 <;> by_cases h4 : c ≤ 57 <;> simp [h1, h2, h3, h4] <;> omega
theorem has1 (c : Int) (h0 : 0 ≤ c) (h1 : c < 256) : hasB 1 c = (smallB c || decide (c = 45)) := by
  have key : ∀ n : Fin 256, hasB 1 (n.val : Int) = (smallB (n.val : Int) || decide ((n.val : Int) = 45)) := by decide +kernel
  have := key ⟨c.toNat, by omega⟩
  simp only at this
  rw [Int.toNat_of_nonneg h0] at this
  exact this
theorem has2 (c : Int) (h0 : 0 ≤ c) (h1 : c < 256) : hasB 2 c = (smallB c || decide (c = 45) || decide (c = 46)) := by
  have key : ∀ n : Fin 256, hasB 2 (n.val : Int) = (smallB (n.val : Int) || decide ((n.val : Int) = 45) || decide ((n.val : Int) = 46)) := by decide +kernel
  have := key ⟨c.toNat, by omega⟩
  simp only at this
  rw [Int.toNat_of_nonneg h0] at this
  exact this
theorem bt_r (s : ByteArray) (i : Int) : 0 ≤ bt s i ∧ bt s i < 256 := by have := bt_range s i; omega
/-! ### names -/
theorem rname_l (s : ByteArray) (hs : s.size ≤ 100) : ∀ (n k i : Nat), s.size = i + n → n < k → provostref03_Name.l0 k s (i : Int) = some ((List.range' i n).all fun j => hasB 1 (bt s (j : Int)))
  | 0, k, i, h1, h2 => by
    obtain ⟨k, rfl⟩ : ∃ j, k = j + 1 := ⟨k - 1, by omega⟩
    unfold provostref03_Name.l0
    rw [if_neg (by omega)]
    rfl
  | n + 1, k, i, h1, h2 => by
    obtain ⟨k, rfl⟩ : ∃ j, k = j + 1 := ⟨k - 1, by omega⟩
    have ih := rname_l s hs n k (i + 1) (by omega) (by omega)
    have hr := bt_r s (i : Int)
    unfold provostref03_Name.l0
    rw [if_pos (by omega), if_pos (by omega), small_f, Option.bind_some, wr1 (by omega), ih, List.range'_succ, List.all_cons, has1 _ hr.1 hr.2]
    by_cases h3 : smallB (bt s (i : Int)) = true
    · rw [if_pos h3, h3]; simp
    · rw [if_neg h3]
      have h4 : smallB (bt s (i : Int)) = false := by simpa using h3
      by_cases h5 : bt s (i : Int) = 45
      · rw [if_pos h5, h4]; simp [h5]
      · rw [if_neg h5, h4]; simp [h5]
theorem rname_f (s : ByteArray) (hs : s.size ≤ 100) (k : Nat) (hk : 110 ≤ k) : provostref03_Name.f k s = some (nameB s) := by
  obtain ⟨k, rfl⟩ : ∃ j, k = j + 2 := ⟨k - 2, by omega⟩
  have hl := rname_l s hs s.size (k + 1) 0 (by omega) (by omega)
  have hall : allB 1 s = (List.range' 0 s.size).all fun j => hasB 1 (bt s (j : Int)) := by rw [← List.range_eq_range']; rfl
  rw [← hall] at hl
  have jt : provostref03_Name.j0 (k + 2) s true = some false := by rw [show k + 2 = (k + 1) + 1 from rfl, provostref03_Name.j0, if_pos rfl]
  have jf : provostref03_Name.j0 (k + 2) s false = some (allB 1 s) := by rw [show k + 2 = (k + 1) + 1 from rfl, provostref03_Name.j0, if_neg (by decide)]; exact hl
  unfold provostref03_Name.f nameB
  by_cases h1 : (s.size : Int) < 1
  · rw [if_pos h1, jt]
    have : s.size = 0 := by omega
    simp [this]
  · rw [if_neg h1]
    by_cases h2 : (s.size : Int) > 16
    · rw [if_pos h2, jt]
      have : ¬ s.size ≤ 16 := by omega
      simp [this]
    · have e1 : wrap64 ((s.size : Int) - 1) = (s.size : Int) - 1 := by unfold wrap64; omega
      have d1 : decide (s.size ≠ 0) = true := decide_eq_true (by omega)
      have d2 : decide (s.size ≤ 16) = true := decide_eq_true (by omega)
      rw [if_neg h2, if_pos (by omega), e1, d1, d2]
      by_cases h3 : bt s 0 = 45
      · rw [if_pos h3, jt]; simp [h3]
      · rw [if_neg h3, if_pos (by omega), if_pos (by omega)]
        have d3 : (bt s 0 == 45) = false := beq_eq_false_iff_ne.2 h3
        rw [d3]
        cases h4 : (bt s ((s.size : Int) - 1) == 45) with
        | true => rw [jt]; simp
        | false => rw [jf]; simp
theorem mk_size (l : List UInt8) : (mk l).size = l.length := by
  show l.toArray.size = l.length
  simp
theorem rd_map (L : List (List UInt8)) (i : Nat) (h : i < L.length) : rdOf ByteArray.empty (L.map mk) (i : Int) = mk L[i] := by simp [rdOf, List.getD_eq_getElem?_getD, h]
theorem rnames_l (L : List (List UInt8)) (hL : L.length ≤ 101) (hs : ∀ y ∈ L, y.length ≤ 100) : ∀ (n k i : Nat), L.length = i + n → n + 111 < k → provostref03_names.l0 k (L.map mk) (i : Int) = some (if (L.drop i).all (fun y => nameB (mk y)) then ((L.length : Int), true) else (0, false))
  | 0, k, i, h1, h2 => by
    obtain ⟨k, rfl⟩ : ∃ j, k = j + 1 := ⟨k - 1, by omega⟩
    unfold provostref03_names.l0
    rw [if_neg (by rw [List.length_map]; omega), List.drop_of_length_le (by omega), List.length_map]
    rfl
  | n + 1, k, i, h1, h2 => by
    obtain ⟨k, rfl⟩ : ∃ j, k = j + 1 := ⟨k - 1, by omega⟩
    have hi : i < L.length := by omega
    have ih := rnames_l L hL hs n k (i + 1) (by omega) (by omega)
    unfold provostref03_names.l0
    rw [if_pos (by rw [List.length_map]; omega), if_pos (by omega), rd_map L i hi, rname_f _ (by rw [mk_size]; exact hs _ (List.getElem_mem hi)) k (by omega), Option.bind_some, wr1 (by omega), ih, List.drop_eq_getElem_cons hi, List.all_cons]
    by_cases h3 : nameB (mk L[i]) = true
    · rw [if_pos h3, h3]; simp
    · rw [if_neg h3]
      have h4 : nameB (mk L[i]) = false := by simpa using h3
      rw [h4]; simp
theorem sp_bound (c : UInt8) : ∀ (l : List UInt8), (sp c l).length ≤ l.length + 1 ∧ ∀ y ∈ sp c l, y.length ≤ l.length
  | [] => by simp [sp]
  | x :: l => by
    obtain ⟨h1, h2⟩ := sp_bound c l
    rw [sp]
    split
    · refine ⟨by simp; omega, fun y hy => ?_⟩
      rcases List.mem_cons.1 hy with rfl | hy
      · simp
      · have := h2 y hy; simp; omega
    · cases hq : sp c l with
      | nil => exact absurd hq (sp_ne _ _)
      | cons a t =>
        rw [hq] at h1 h2
        refine ⟨by simp at h1 ⊢; omega, fun y hy => ?_⟩
        rcases List.mem_cons.1 hy with rfl | hy
        · have := h2 a (by simp); simp; omega
        · have := h2 y (by simp [hy]); simp; omega
theorem rnames_f (s : ByteArray) (hs : s.size ≤ 100) (k : Nat) (hk : 220 ≤ k) : ∃ n, provostref03_names.f k s = some (n, (sp 47 s.data.toList).all (fun y => nameB (mk y))) := by
  have hb := sp_bound 47 s.data.toList
  have hd : s.data.toList.length = s.size := by rw [Array.length_toList]; rfl
  have h := rnames_l (sp 47 s.data.toList) (by omega) (fun y hy => by have := hb.2 y hy; omega) (sp 47 s.data.toList).length k 0 (by omega) (by omega)
  have hp := parts_f s 47 hs k (by omega)
  unfold provostref03_names.f
  rw [show (47 : Int) = (((47 : UInt8).toNat : Nat) : Int) from rfl, hp, Option.bind_some]
  refine ⟨if (sp 47 s.data.toList).all (fun y => nameB (mk y)) then ((sp 47 s.data.toList).length : Int) else 0, h.trans ?_⟩
  rw [List.drop_zero]
  cases (sp 47 s.data.toList).all (fun y => nameB (mk y)) <;> simp
theorem name_pos {s : ByteArray} (h : nameB s = true) : 0 < s.size := by
  unfold nameB at h
  simp only [Bool.and_eq_true, decide_eq_true_eq] at h
  omega
theorem names_sp : ∀ (n : Nat) (s : ByteArray), s.size < 2 * n → namesB n s = (sp 47 s.data.toList).all (fun y => nameB (mk y))
  | 0, s, h => by omega
  | n + 1, s, h => by
    have hc := sp_cut 47 s.data.toList
    have hl := cut_len 47 s.data.toList
    have hd : s.data.toList.length = s.size := by rw [Array.length_toList]; rfl
    unfold namesB
    rw [hc]
    have ea : cutA s 47 = mk (Lib.cut s.data.toList [47]).1 := rfl
    have eb : cutB s 47 = mk (Lib.cut s.data.toList [47]).2.1 := rfl
    have ef : cutF s 47 = (Lib.cut s.data.toList [47]).2.2 := rfl
    rw [ea, eb, ef]
    cases hf : (Lib.cut s.data.toList [47]).2.2 with
    | false => simp
    | true =>
      have hl2 := hl hf
      rw [if_pos rfl, List.all_cons]
      cases hn : nameB (mk (Lib.cut s.data.toList [47]).1) with
      | false => simp
      | true =>
        have hp := name_pos hn
        rw [mk_size] at hp
        have ih := names_sp n (mk (Lib.cut s.data.toList [47]).2.1) (by rw [mk_size]; omega)
        rw [ih]
        simp [mk]
/-! ### an image's parts -/
theorem rsplit_l (x y : ByteArray) (hy : y.size ≤ 100) : ∀ (n k i : Nat) (b : Bool), y.size = i + n → n < k → provostref03_Split.l0 k [x, y] b (i : Int) = some (if b && (List.range' i n).all (fun j => hasB 2 (bt y (j : Int))) then (x, y, true) else (⟨#[]⟩, ⟨#[]⟩, false))
  | 0, k, i, b, h1, h2 => by
    obtain ⟨k, rfl⟩ : ∃ j, k = j + 1 := ⟨k - 1, by omega⟩
    have e1 : rdOf ByteArray.empty [x, y] 1 = y := rfl
    have e0 : rdOf ByteArray.empty [x, y] 0 = x := rfl
    unfold provostref03_Split.l0
    rw [if_pos (by simp), e1, e0, if_neg (by omega)]
    cases b <;> simp
  | n + 1, k, i, b, h1, h2 => by
    obtain ⟨k, rfl⟩ : ∃ j, k = j + 1 := ⟨k - 1, by omega⟩
    have ih := fun b => rsplit_l x y hy n k (i + 1) b (by omega) (by omega)
    have e1 : rdOf ByteArray.empty [x, y] 1 = y := rfl
    have hr := bt_r y (i : Int)
    unfold provostref03_Split.l0
    rw [if_pos (by simp), e1, if_pos (by omega), if_pos (by omega), wr1 (by omega), small_f, Option.bind_some, ih, ih, ih, List.range'_succ, List.all_cons, has2 _ hr.1 hr.2]
    cases b with
    | false => simp
    | true =>
      rw [if_pos rfl]
      by_cases h3 : smallB (bt y (i : Int)) = true
      · rw [if_pos h3, h3]
        cases (List.range' (i + 1) n).all (fun j => hasB 2 (bt y (j : Int))) <;> rfl
      · rw [if_neg h3]
        have h4 : smallB (bt y (i : Int)) = false := by simpa using h3
        by_cases h5 : bt y (i : Int) = 45
        · rw [if_pos h5, h4, h5]
          cases (List.range' (i + 1) n).all (fun j => hasB 2 (bt y (j : Int))) <;> rfl
        · rw [if_neg h5, h4, decide_eq_false h5]
          by_cases h6 : bt y (i : Int) = 46
          · rw [h6]
            cases (List.range' (i + 1) n).all (fun j => hasB 2 (bt y (j : Int))) <;> rfl
          · rw [beq_eq_false_iff_ne.2 h6, decide_eq_false h6]
            cases (List.range' (i + 1) n).all (fun j => hasB 2 (bt y (j : Int))) <;> rfl
theorem has2_58 : hasB 2 58 = false := by decide +kernel
theorem all2_no {b : List UInt8} (h : 58 ∈ b) : allB 2 (mk b) = false := by
  obtain ⟨i, hi, he⟩ := List.getElem_of_mem h
  have hi2 : i < (mk b).size := by rw [mk_size]; exact hi
  have hb : bt (mk b) (i : Int) = 58 := (bt_eq (mk b) i hi2 58).2 (by simpa [mk] using he)
  unfold allB
  rw [Bool.eq_false_iff]
  intro hc
  rw [List.all_eq_true] at hc
  have := hc i (List.mem_range.2 hi2)
  rw [hb, has2_58] at this
  cases this
theorem all2_range (s : ByteArray) : allB 2 s = (List.range' 0 s.size).all fun j => hasB 2 (bt s (j : Int)) := by rw [← List.range_eq_range']; rfl
/-- What an image splits into is the document's. -/
theorem rsplit_f (s : ByteArray) (hs : s.size ≤ 100) (k : Nat) (hk : 300 ≤ k) : provostref03_Split.f k s = some (repoOf s, tagOf s, partsB s) := by
  have hb := sp_bound 58 s.data.toList
  have hd : s.data.toList.length = s.size := by rw [Array.length_toList]; rfl
  have hp := parts_f s 58 hs k (by omega)
  have hc := sp_cut 58 s.data.toList
  have ea : cutA s 58 = mk (Lib.cut s.data.toList [58]).1 := rfl
  have eb : cutB s 58 = mk (Lib.cut s.data.toList [58]).2.1 := rfl
  have ef : cutF s 58 = (Lib.cut s.data.toList [58]).2.2 := rfl
  have hl := cut_len 58 s.data.toList
  obtain ⟨k, rfl⟩ : ∃ j, k = j + 1 := ⟨k - 1, by omega⟩
  have jt : ∀ L, provostref03_Split.j0 (k + 1) L true = some (⟨#[]⟩, ⟨#[]⟩, false) := fun L => by rw [provostref03_Split.j0, if_pos rfl]
  have none : partsB s = false → (some (repoOf s, tagOf s, partsB s) : Option (ByteArray × ByteArray × Bool)) = some (⟨#[]⟩, ⟨#[]⟩, false) := fun h => by unfold repoOf tagOf; rw [h]; rfl
  unfold provostref03_Split.f
  rw [if_neg (by omega), show (58 : Int) = (((58 : UInt8).toNat : Nat) : Int) from rfl, hp, Option.bind_some, List.length_map]
  by_cases h2 : ((sp 58 s.data.toList).length : Int) = 2
  · rw [if_pos h2, if_pos (by omega)]
    cases hf : (Lib.cut s.data.toList [58]).2.2 with
    | false =>
      rw [hc, hf] at h2
      simp at h2
    | true =>
      have hl2 := hl hf
      have hno : 58 ∉ (Lib.cut s.data.toList [58]).2.1 := fun hm => by
        have := sp_two 58 _ hm
        rw [hc, hf] at h2
        simp at h2
        omega
      have hsp : sp 58 s.data.toList = [(Lib.cut s.data.toList [58]).1, (Lib.cut s.data.toList [58]).2.1] := by
        rw [hc, hf, if_pos rfl, sp_none 58 _ hno]
      rw [hsp]
      generalize (Lib.cut s.data.toList [58]).1 = a at *
      generalize (Lib.cut s.data.toList [58]).2.1 = b at *
      have r0 : rdOf ByteArray.empty ([a, b].map mk) 0 = mk a := rfl
      have r1 : rdOf ByteArray.empty ([a, b].map mk) 1 = mk b := rfl
      rw [r0, r1, mk_size, mk_size]
      have hpB : partsB s = ((decide (a.length ≤ 24) && namesB 24 (mk a)) && (decide (b.length ≠ 0) && (decide (b.length ≤ 8) && allB 2 (mk b)))) := by
        unfold partsB repoB tagB
        rw [ef, hf, ea, eb, mk_size, mk_size]
        simp
      by_cases h3 : (a.length : Int) > 24
      · rw [if_pos h3, jt]
        refine (none ?_).symm
        rw [hpB, decide_eq_false (by omega)]; simp
      · rw [if_neg h3, if_pos (by simp)]
        by_cases h4 : (b.length : Int) < 1
        · rw [if_pos h4, jt]
          refine (none ?_).symm
          rw [hpB, show decide (b.length ≠ 0) = false from decide_eq_false (by omega)]; simp
        · rw [if_neg h4]
          by_cases h5 : (b.length : Int) > 8
          · rw [decide_eq_true h5, jt]
            refine (none ?_).symm
            rw [hpB, show decide (b.length ≤ 8) = false from decide_eq_false (by omega)]; simp
          · rw [decide_eq_false h5]
            rw [provostref03_Split.j0, if_neg (by decide), if_pos (by simp), r0]
            obtain ⟨m, hm⟩ := rnames_f (mk a) (by rw [mk_size]; omega) k (by omega)
            have hll := rsplit_l (mk a) (mk b) (by rw [mk_size]; omega) (mk b).size k 0 ((sp 47 (mk a).data.toList).all (fun y => nameB (mk y))) (by omega) (by rw [mk_size]; omega)
            rw [hm, Option.bind_some]
            refine hll.trans ?_
            rw [← all2_range, ← names_sp 24 (mk a) (by rw [mk_size]; omega)]
            rw [show decide (a.length ≤ 24) = true from decide_eq_true (by omega), show decide (b.length ≠ 0) = true from decide_eq_true (by omega), show decide (b.length ≤ 8) = true from decide_eq_true (by omega)] at hpB
            simp only [Bool.true_and] at hpB
            unfold repoOf tagOf
            rw [← hpB, ea, eb]
            cases partsB s <;> rfl
  · rw [if_neg h2, jt]
    refine (none ?_).symm
    unfold partsB
    rw [ef, eb]
    cases hf : (Lib.cut s.data.toList [58]).2.2 with
    | false => rfl
    | true =>
      have hm : 58 ∈ (Lib.cut s.data.toList [58]).2.1 := by
        refine Decidable.by_contra fun hno => h2 ?_
        rw [hc, hf, if_pos rfl, sp_none 58 _ hno]
        rfl
      unfold tagB
      rw [all2_no hm]
      simp
/-- The ticks of an image are the document's. -/
theorem rticks_f (s : ByteArray) (hs : s.size ≤ 100) (k : Nat) (hk : 300 ≤ k) : provostref18_Ticks.f k s = some (ticksOf s) := by
  unfold provostref18_Ticks.f
  rw [rsplit_f s hs k hk, Option.bind_some]
  unfold ticksOf
  cases h : partsB s with
  | false =>
    rw [if_neg (by simp), if_pos (by unfold tagOf; rw [h]; rfl)]
  | true =>
    rw [if_pos rfl, if_neg ?_]
    unfold tagOf
    rw [h, if_pos rfl]
    unfold partsB tagB at h
    simp only [Bool.and_eq_true, decide_eq_true_eq] at h
    exact h.2.2.1
end Go.Proofs.YtmgcapccgncmkaaDoor.Tx
namespace Go.Proofs.YtmgcapccgncmkaaDoor.Im
open Go.RowKit Go.Pv Go.Proofs.YtmgcapccgncmkaaDoor.Tx Go.Proofs.YtmgcapccgncmkaaDoorW.PrintWords Go.Proofs.YtmgcapccgncmkaaDoorW.PrintLast Go.Proofs.YtmgcapccgncmkaaDoorW.PrintMore Go.Proofs.YtmgcapccgncmkaaDoor.PImgKeeps

def entE (al : IL) (k : ByteArray) : S136 := ⟨k, (getI k al).1, (getI k al).2.1, (getI k al).2.2⟩
def entL (al : IL) : List S136 := (namesA al).map (entE al)
def ltB (a b : ByteArray) : Prop := a.data.toList < b.data.toList
theorem ltB_irrefl (a : ByteArray) : ¬ ltB a a := List.lt_irrefl _
theorem ltB_asymm {a b : ByteArray} (h : ltB a b) (h2 : ltB b a) : False := ltB_irrefl a (List.lt_trans h h2)
theorem ba_ext {a b : ByteArray} (h : a.data.toList = b.data.toList) : a = b := ByteArray.ext (Array.toList_inj.1 h)
theorem names_nodup {al : IL} (h : (al.map (·.1)).Nodup) : (namesA al).Nodup := (namesA_perm al).nodup_iff.2 h
theorem names_sorted {al : IL} (h : (al.map (·.1)).Nodup) : (namesA al).Pairwise ltB := by
  have h1 : ((al.map fun r => r.1.data.toList).mergeSort Go.leB).Pairwise (fun a b => Go.leB a b = true) := by
    refine List.pairwise_mergeSort ?_ ?_ _
    · intro a b c h1 h2
      simp only [Go.leB, decide_eq_true_eq] at h1 h2 ⊢
      exact List.le_trans h1 h2
    · intro a b
      simp only [Go.leB, Bool.or_eq_true, decide_eq_true_eq]
      exact List.le_total a b
  have hnd := names_nodup h
  have h2 : (namesA al).Pairwise (fun a b => a.data.toList ≤ b.data.toList) := by
    unfold namesA
    rw [List.pairwise_map]
    refine h1.imp ?_
    intro a b hab
    simpa [Go.leB] using hab
  refine (h2.and hnd).imp ?_
  rintro a b ⟨h3, h4⟩
  unfold ltB
  rcases List.le_iff_lt_or_eq.1 h3 with h5 | h5
  · exact h5
  · exact absurd (ba_ext h5) h4
theorem sorted_uniq {l1 l2 : List ByteArray} (hp : l1.Perm l2) (h1 : l1.Pairwise ltB) (h2 : l2.Pairwise ltB) : l1 = l2 :=
  List.Perm.eq_of_pairwise (fun a b _ _ h3 h4 => (ltB_asymm h3 h4).elim) h1 h2 hp
theorem names_of_keys {al al2 : IL} (h : al2.map (·.1) = al.map (·.1)) : namesA al2 = namesA al := by
  have : (al2.map fun r => r.1.data.toList) = (al.map fun r => r.1.data.toList) := by
    have := congrArg (List.map fun x : ByteArray => x.data.toList) h
    simpa [List.map_map, Function.comp_def] using this
  unfold namesA
  rw [this]
theorem names_mem {al : IL} {k : ByteArray} : k ∈ namesA al ↔ k ∈ al.map (·.1) := (namesA_perm al).mem_iff
theorem aget_mem {al : IL} {k : ByteArray} : (aget k al).isSome = true ↔ k ∈ al.map (·.1) := by
  induction al with
  | nil => simp [aget]
  | cons a r ih =>
    unfold aget
    by_cases h : a.1 = k
    · simp [h]
    · rw [if_neg h, ih]
      simp only [List.map_cons, List.mem_cons]
      exact ⟨.inr, fun h2 => h2.resolve_left (fun e => h e.symm)⟩
/-! ### where a name stands -/
theorem rd136 (l : List S136) (j : Nat) (h : j < l.length) : rd_T136 l (j : Int) = l[j] := by simp [rd_T136, List.getD_eq_getElem?_getD, h]
theorem index_x (e : ByteArray → S136) (he : ∀ q, (e q).f0 = q) (N : List ByteArray) (hN : N.length ≤ 1000) (a : ByteArray) (now : Int) : ∀ (n k i : Nat), N.length = i + n → n < k →
    (∃ j, ∃ (h : j < N.length), N[j] = a ∧ provostref18_Index.l0 k a (i : Int) (N.map e) now = some (j : Int)) ∨ ((∀ j (h : j < N.length), i ≤ j → N[j] ≠ a) ∧ provostref18_Index.l0 k a (i : Int) (N.map e) now = some (-1))
  | 0, k, i, h1, h2 => by
    obtain ⟨k, rfl⟩ : ∃ j, k = j + 1 := ⟨k - 1, by omega⟩
    refine .inr ⟨fun j h hij => by omega, ?_⟩
    unfold provostref18_Index.l0
    rw [if_neg (by rw [List.length_map]; omega)]
  | n + 1, k, i, h1, h2 => by
    obtain ⟨k, rfl⟩ : ∃ j, k = j + 1 := ⟨k - 1, by omega⟩
    have hi : i < N.length := by omega
    have hrd : (rd_T136 (N.map e) (i : Int)).f0 = N[i] := by rw [rd136 _ i (by rw [List.length_map]; exact hi), List.getElem_map, he]
    unfold provostref18_Index.l0
    rw [if_pos (by rw [List.length_map]; omega), if_pos (by omega), hrd, wr1 (by omega)]
    by_cases h3 : N[i] = a
    · exact .inl ⟨i, hi, h3, by rw [if_pos (by rw [h3])]⟩
    · rw [if_neg (fun e => h3 (ba_ext (by rwa [ByteArray.toList_eq, ByteArray.toList_eq] at e)))]
      rcases index_x e he N hN a now n k (i + 1) (by omega) (by omega) with ⟨j, h, hj, hq⟩ | ⟨hj, hq⟩
      · exact .inl ⟨j, h, hj, hq⟩
      · refine .inr ⟨fun j h hij => ?_, hq⟩
        by_cases hji : j = i
        · subst hji; exact h3
        · exact hj j h (by omega)
theorem index_ent (al : IL) (hs : Short al) (a : ByteArray) (now : Int) (k : Nat) (hk : 1001 ≤ k) :
    (∃ i, ∃ (h : i < (namesA al).length), (namesA al)[i] = a ∧ provostref18_Index.f k (entL al) now a = some (i : Int)) ∨ (a ∉ namesA al ∧ provostref18_Index.f k (entL al) now a = some (-1)) := by
  have hl : (namesA al).length ≤ 1000 := by rw [namesA_length]; have := hs.2; omega
  unfold provostref18_Index.f entL
  rcases index_x (entE al) (fun _ => rfl) (namesA al) hl a now (namesA al).length k 0 (by omega) (by omega) with h | ⟨h, hq⟩
  · exact .inl h
  · exact .inr ⟨fun hm => by
      obtain ⟨j, hj, e⟩ := List.getElem_of_mem hm
      exact h j hj (Nat.zero_le _) e, hq⟩
theorem ent_at (al : IL) (i : Nat) (h : i < (namesA al).length) : rd_T136 (entL al) (i : Int) = entE al (namesA al)[i] := by
  unfold entL
  rw [rd136 _ i (by rw [List.length_map]; exact h), List.getElem_map]
theorem ent_length (al : IL) : (entL al).length = al.length := by unfold entL; rw [List.length_map, namesA_length]
theorem there_ent (al : IL) (hs : Short al) (hl : ∀ k, 0 ≤ (getI k al).1) (a : ByteArray) (now : Int) (k : Nat) (hk : 1001 ≤ k) :
    (thereB a al = true ∧ ∃ i, ∃ (h : i < (namesA al).length), (namesA al)[i] = a ∧ provostref18_There.f k (entL al) now a = some (i : Int)) ∨ (thereB a al = false ∧ provostref18_There.f k (entL al) now a = some (-1)) := by
  unfold provostref18_There.f
  rcases index_ent al hs a now k hk with ⟨i, h, e, hq⟩ | ⟨h, hq⟩
  · have hm : (aget a al).isSome = true := aget_mem.2 (names_mem.1 (e ▸ List.getElem_mem h))
    rw [hq, Option.bind_some, if_pos (by omega), if_pos (by omega), if_pos (by rw [ent_length, ← namesA_length]; omega), ent_at al i h, e]
    have h0 := hl a
    by_cases h2 : (entE al a).f1 > 0
    · rw [if_pos h2]
      refine .inr ⟨?_, rfl⟩
      unfold thereB
      have : ¬ (getI a al).1 = 0 := fun e => by unfold entE at h2; simp only at h2; omega
      simp [this]
    · rw [if_neg h2]
      refine .inl ⟨there_mk hm ?_, i, h, e, rfl⟩
      unfold entE at h2
      simp only at h2
      omega
  · rw [hq, Option.bind_some, if_neg (by omega)]
    refine .inr ⟨?_, rfl⟩
    have hm : ¬ (aget a al).isSome = true := fun e => h (names_mem.2 (aget_mem.1 e))
    unfold thereB
    simp [hm]
/-! ### one image is another one -/
theorem ent_set {al : IL} (hnd : (al.map (·.1)).Nodup) {k : ByteArray} {s : Im} {i : Nat} (h : i < (namesA al).length) (e : (namesA al)[i] = k) : entL (aset k s al) = (entL al).set i ⟨k, s.1, s.2.1, s.2.2⟩ := by
  have hm : (aget k al).isSome = true := aget_mem.2 (names_mem.1 (e ▸ List.getElem_mem h))
  have hn : namesA (aset k s al) = namesA al := names_of_keys (names_aset k s al hm)
  unfold entL
  rw [hn]
  refine List.ext_getElem (by simp) fun j h1 h2 => ?_
  rw [List.length_map] at h1
  rw [List.getElem_map, List.getElem_set]
  by_cases hij : i = j
  · subst hij
    rw [if_pos rfl, e]
    unfold entE
    rw [getI_aset_same]
  · rw [if_neg hij, List.getElem_map]
    have hne : (namesA al)[j] ≠ k := fun e2 => hij ((List.getElem_inj (names_nodup hnd)).1 (e.trans e2.symm))
    unfold entE
    rw [getI_aset_other hne]
/-- What Use gives. -/
def useR (l : List S136) (j : Int) : List S136 := if j < 0 then l else l.set j.toNat ⟨(rd_T136 l j).f0, (rd_T136 l j).f1, wrap64 ((rd_T136 l j).f2 + 1), (rd_T136 l j).f3⟩
theorem use_ent {n : Nat} {al : IL} {tick : Int} (hg : GI n al tick) (hn : n ≤ 1000) (k : ByteArray) (now j : Int) (hj : provostref18_There.f 1300 (entL al) now k = some j) : useR (entL al) j = entL (useA k al) := by
  have hr := hg.rg k
  rcases there_ent al hg.short (fun q => (hg.rg q).1) k now 1300 (by omega) with ⟨ht, i, h, e, hq⟩ | ⟨ht, hq⟩
  · rw [hj] at hq
    obtain rfl := Option.some.inj hq
    unfold useR useA
    rw [if_neg (by omega), if_pos ht, ent_set hg.nd h e, ent_at al i h, e]
    unfold entE
    simp only [Int.toNat_natCast]
    rw [show wrap64 ((getI k al).2.1 + 1) = (getI k al).2.1 + 1 by unfold Rg at hr; unfold wrap64; omega]
  · rw [hj] at hq
    obtain rfl := Option.some.inj hq
    unfold useR useA
    rw [if_pos (by omega), if_neg (by rw [ht]; decide)]
/-- What Leave gives. -/
def leaveR (l : List S136) (now j : Int) : List S136 := if j < 0 then l else if (rd_T136 l j).f2 = 0 then l else
  l.set j.toNat ⟨(rd_T136 l j).f0, (rd_T136 l j).f1, wrap64 ((rd_T136 l j).f2 - 1), if wrap64 ((rd_T136 l j).f2 - 1) = 0 then now else (rd_T136 l j).f3⟩
theorem leave_ent {n : Nat} {al : IL} {tick : Int} (hg : GI n al tick) (hn : n ≤ 1000) (k : ByteArray) (j : Int) (hj : provostref18_There.f 1300 (entL al) tick k = some j) : leaveR (entL al) tick j = entL (leaveA k tick al) := by
  have hr := hg.rg k
  rcases there_ent al hg.short (fun q => (hg.rg q).1) k tick 1300 (by omega) with ⟨ht, i, h, e, hq⟩ | ⟨ht, hq⟩
  · rw [hj] at hq
    obtain rfl := Option.some.inj hq
    unfold leaveR leaveA
    rw [if_neg (by omega), if_pos ht, ent_at al i h, e]
    unfold entE
    simp only [Int.toNat_natCast]
    by_cases hz : (getI k al).2.1 = 0
    · rw [if_pos hz, if_pos hz]
    · rw [if_neg hz, if_neg hz, ent_set hg.nd h e, show wrap64 ((getI k al).2.1 - 1) = (getI k al).2.1 - 1 by unfold Rg at hr; unfold wrap64; omega]
  · rw [hj] at hq
    obtain rfl := Option.some.inj hq
    unfold leaveR leaveA
    rw [if_pos (by omega), if_neg (by rw [ht]; decide)]
/-! ### a tick -/
def nxE (T : Int) (x : S136) : S136 := if x.f1 = 0 then x else if wrap64 (x.f1 - 1) = 0 then ⟨x.f0, wrap64 (x.f1 - 1), x.f2, T⟩ else ⟨x.f0, wrap64 (x.f1 - 1), x.f2, x.f3⟩
theorem getI_tkA (T : Int) : ∀ (ks : List ByteArray) (al : IL) (q : ByteArray), ks.Nodup → (q ∈ ks → getI q (tkA T al ks) = tickI T (getI q al)) ∧ (q ∉ ks → getI q (tkA T al ks) = getI q al)
  | [], al, q, _ => ⟨fun h => by simp at h, fun _ => rfl⟩
  | a :: r, al, q, h => by
    have h2 := List.nodup_cons.1 h
    obtain ⟨i1, i2⟩ := getI_tkA T r (tkS T al a) q h2.2
    have e : tkA T al (a :: r) = tkA T (tkS T al a) r := rfl
    rw [e]
    by_cases hqa : q = a
    · subst hqa
      refine ⟨fun _ => ?_, fun hn => absurd (by simp) hn⟩
      rw [i2 h2.1, getI_tkS, if_pos rfl]
    · refine ⟨fun hm => ?_, fun hn => ?_⟩
      · have hr : q ∈ r := (List.mem_cons.1 hm).resolve_left hqa
        rw [i1 hr, getI_tkS, if_neg hqa]
      · rw [i2 (fun hr => hn (by simp [hr])), getI_tkS, if_neg hqa]
theorem tick_ent {n : Nat} {al : IL} {tick : Int} (hg : GI n al tick) (T : Int) : (entL al).map (nxE T) = entL (tkA T al (namesA al)) := by
  unfold entL
  rw [names_of_keys (names_tkA T al (namesA al)), List.map_map]
  refine List.map_congr_left fun q hq => ?_
  have hr := hg.rg q
  unfold entE
  rw [(getI_tkA T _ al q (names_nodup hg.nd)).1 hq]
  unfold Function.comp nxE tickI
  simp only
  have hw : wrap64 ((getI q al).1 - 1) = (getI q al).1 - 1 := by unfold Rg at hr; unfold wrap64; omega
  rw [hw]
  by_cases h0 : (getI q al).1 = 0
  · rw [if_pos h0, if_pos h0]
  · rw [if_neg h0, if_neg h0]
    by_cases h1 : (getI q al).1 = 1
    · rw [if_pos (by omega), if_pos h1]
      simp [h1]
    · rw [if_neg (by omega), if_neg h1]
end Go.Proofs.YtmgcapccgncmkaaDoor.Im
namespace Go.Proofs.YtmgcapccgncmkaaDoor.Im
open Go.RowKit Go.Pv Go.Proofs.YtmgcapccgncmkaaDoor.Tx Go.Proofs.YtmgcapccgncmkaaDoorW.PrintWords Go.Proofs.YtmgcapccgncmkaaDoorW.PrintLast Go.Proofs.YtmgcapccgncmkaaDoorW.PrintMore Go.Proofs.YtmgcapccgncmkaaDoor.PImgKeeps

/-! ### Pull -/
theorem less_lt (a b : ByteArray) : Op.bytesLess a.toList b.toList = true ↔ ltB a b := by
  rw [ByteArray.toList_eq, ByteArray.toList_eq, bytesLess_eq]
  unfold ltB
  simp
theorem pull_x (e : ByteArray → S136) (he : ∀ q, (e q).f0 = q) (a : ByteArray) (ha : a.size ≤ 100) (N : List ByteArray) (hN : N.length ≤ 900) (now : Int) : ∀ (n k i : Nat), N.length = i + n → n + 310 < k → (∀ j (h : j < N.length), j < i → ltB N[j] a) →
    ∃ p, p ≤ N.length ∧ (∀ j (h : j < N.length), j < p → ltB N[j] a) ∧ (∀ (h : p < N.length), ¬ ltB N[p] a) ∧ provostref18_Pull.l0 k a (i : Int) (N.map e) now = some ((N.map e).take p ++ ⟨a, ticksOf a, 0, 0⟩ :: (N.map e).drop p, now, 0)
  | 0, k, i, h1, h2, h3 => by
    obtain ⟨k, rfl⟩ : ∃ j, k = j + 1 := ⟨k - 1, by omega⟩
    refine ⟨i, by omega, h3, fun h => by omega, ?_⟩
    unfold provostref18_Pull.l0
    rw [if_neg (by rw [List.length_map]; omega), rticks_f a ha k (by omega)]
    simp only [Option.bind_some, List.nil_append, List.length_nil, Nat.zero_add, List.length_append, List.length_cons, List.length_drop, List.length_take, List.length_map, Int.toNat_natCast]
    rw [if_pos (by omega), if_pos (by omega), if_pos (by omega), if_pos (by omega), if_pos (by omega)]
    simp
  | n + 1, k, i, h1, h2, h3 => by
    obtain ⟨k, rfl⟩ : ∃ j, k = j + 1 := ⟨k - 1, by omega⟩
    have hi : i < N.length := by omega
    have hrd : (rd_T136 (N.map e) (i : Int)).f0 = N[i] := by rw [rd136 _ i (by rw [List.length_map]; exact hi), List.getElem_map, he]
    unfold provostref18_Pull.l0
    rw [if_pos (by rw [List.length_map]; omega), if_pos (by omega), hrd, wr1 (by omega), rticks_f a ha k (by omega)]
    by_cases h4 : Op.bytesLess N[i].toList a.toList = true
    · rw [if_pos h4]
      refine pull_x e he a ha N hN now n k (i + 1) (by omega) (by omega) (fun j h hj => ?_)
      by_cases hji : j = i
      · subst hji; exact (less_lt _ _).1 h4
      · exact h3 j h (by omega)
    · rw [if_neg h4]
      refine ⟨i, by omega, h3, fun h hc => h4 ((less_lt _ _).2 hc), ?_⟩
      simp only [Option.bind_some, List.nil_append, List.length_nil, Nat.zero_add, List.length_append, List.length_cons, List.length_drop, List.length_take, List.length_map, Int.toNat_natCast]
      rw [if_pos (by omega), if_pos (by omega), if_pos (by omega), if_pos (by omega)]
      simp
theorem ltB_tri {a b : ByteArray} (h : ¬ ltB a b) (hne : a ≠ b) : ltB b a := by
  unfold ltB at *
  rcases List.le_iff_lt_or_eq.1 (List.not_lt.1 h) with h2 | h2
  · exact h2
  · exact absurd (ba_ext h2.symm) hne
theorem insert_sorted {N : List ByteArray} (hN : N.Pairwise ltB) {a : ByteArray} (hn : a ∉ N) {p : Nat} (hp : p ≤ N.length) (h1 : ∀ j (h : j < N.length), j < p → ltB N[j] a) (h2 : ∀ (h : p < N.length), ¬ ltB N[p] a) : (N.take p ++ a :: N.drop p).Pairwise ltB := by
  rw [List.pairwise_append]
  have hlt : ∀ x ∈ N.take p, ltB x a := fun x hx => by
    obtain ⟨j, hj, rfl⟩ := List.getElem_of_mem hx
    rw [List.length_take] at hj
    rw [List.getElem_take]
    exact h1 j (by omega) (by omega)
  have hgt : ∀ x ∈ N.drop p, ltB a x := fun x hx => by
    have hpl : p < N.length := by
      rcases Nat.lt_or_ge p N.length with h | h
      · exact h
      · rw [List.drop_of_length_le h] at hx; simp at hx
    have h0 : ltB a N[p] := ltB_tri (h2 hpl) (fun e => hn (e ▸ List.getElem_mem hpl))
    obtain ⟨j, hj, rfl⟩ := List.getElem_of_mem hx
    rw [List.length_drop] at hj
    rw [List.getElem_drop]
    by_cases hj0 : j = 0
    · subst hj0; exact h0
    · exact List.lt_trans h0 (List.pairwise_iff_getElem.1 hN p (p + j) hpl (by omega) (by omega))
  refine ⟨hN.sublist (List.take_sublist _ _), List.pairwise_cons.2 ⟨hgt, hN.sublist (List.drop_sublist _ _)⟩, fun x hx y hy => ?_⟩
  rcases List.mem_cons.1 hy with rfl | hy
  · exact hlt x hx
  · exact List.lt_trans (hlt x hx) (hgt y hy)
theorem pull_ent {n : Nat} {al : IL} {tick : Int} (hg : GI n al tick) (a : ByteArray) (ha : a.size ≤ 100) (now : Int) : ∃ e, provostref18_Pull.f 2000 (entL al) now a = some (entL (pullA a al), now, e) := by
  unfold provostref18_Pull.f
  have hlen := namesA_length al
  have h16 := hg.short.2
  have htk : ticksOf a = 0 ↔ ¬ partsB a = true := by
    unfold ticksOf
    constructor
    · intro h hc
      have : 0 < (tagOf a).size := by
        unfold tagOf
        rw [if_pos hc]
        unfold partsB tagB at hc
        simp only [Bool.and_eq_true, decide_eq_true_eq] at hc
        have := hc.2.2.1
        omega
      rw [if_neg (by omega)] at h
      omega
    · intro h
      rw [if_pos (by unfold tagOf; rw [if_neg h]; rfl)]
  rw [rticks_f a ha 2000 (by omega), Option.bind_some]
  by_cases ht : ticksOf a = 0
  · rw [if_pos ht]
    refine ⟨33, ?_⟩
    unfold pullA
    rw [if_neg (fun h => htk.1 ht h.1)]
  · rw [if_neg ht]
    have hpt : partsB a = true := Decidable.by_contra (fun h => ht (htk.2 h))
    rcases index_ent al hg.short a now 2000 (by omega) with ⟨i, h, e, hq⟩ | ⟨h, hq⟩
    · have hm : (aget a al).isSome = true := aget_mem.2 (names_mem.1 (e ▸ List.getElem_mem h))
      rw [hq, Option.bind_some, if_pos (by omega), if_pos (by omega), if_pos (by rw [ent_length]; omega)]
      have hpl : pullA a al = al := by
        unfold pullA
        rw [if_neg (fun hc => by rw [hm] at hc; exact absurd hc.2.1 (by decide))]
      rw [hpl]
      split
      · exact ⟨7, rfl⟩
      · exact ⟨0, rfl⟩
    · rw [hq, Option.bind_some, if_neg (by omega)]
      have hm : ¬ (aget a al).isSome = true := fun e => h (names_mem.2 (aget_mem.1 e))
      by_cases h3 : ((entL al).length : Int) ≥ 16
      · rw [if_pos h3]
        rw [ent_length] at h3
        refine ⟨8, ?_⟩
        unfold pullA
        rw [if_neg (fun hc => by have := hc.2.2; omega)]
      · rw [if_neg h3]
        rw [ent_length] at h3
        have hpl : pullA a al = aset a (ticksOf a, 0, 0) al := by
          unfold pullA
          rw [if_pos ⟨hpt, by simpa using hm, by omega⟩]
        obtain ⟨p, hp, hp1, hp2, hpq⟩ := pull_x (entE al) (fun _ => rfl) a ha (namesA al) (by omega) now (namesA al).length 2000 0 (by omega) (by omega) (fun j _ hj => by omega)
        refine ⟨0, hpq.trans ?_⟩
        have hk : (aset a (ticksOf a, 0, 0) al).map (·.1) = al.map (·.1) ++ [a] := by
          rw [aset_keys, if_neg (fun hc => hm (aget_mem.2 hc))]
        have hnd2 : ((aset a (ticksOf a, 0, 0) al).map (·.1)).Nodup := aset_nodup _ _ hg.nd
        have hN : namesA (aset a (ticksOf a, 0, 0) al) = (namesA al).take p ++ a :: (namesA al).drop p := by
          refine sorted_uniq ?_ (names_sorted hnd2) (insert_sorted (names_sorted hg.nd) h hp hp1 hp2)
          refine (namesA_perm _).trans ?_
          rw [hk]
          refine ((List.perm_append_comm).trans ((List.Perm.cons a (namesA_perm al).symm).trans ?_))
          refine List.Perm.trans ?_ (List.perm_middle).symm
          rw [List.take_append_drop]
        rw [hpl]
        unfold entL
        rw [hN, List.map_append, List.map_cons]
        have hsame : ∀ q ∈ namesA al, entE (aset a (ticksOf a, 0, 0) al) q = entE al q := fun q hq2 => by
          have hne : q ≠ a := fun e => h (e ▸ hq2)
          unfold entE
          rw [getI_aset_other hne]
        rw [List.map_congr_left (fun q hq2 => hsame q (List.mem_of_mem_take hq2)), List.map_congr_left (l := (namesA al).drop p) (fun q hq2 => hsame q (List.mem_of_mem_drop hq2))]
        have hself : entE (aset a (ticksOf a, 0, 0) al) a = ⟨a, ticksOf a, 0, 0⟩ := by
          unfold entE
          rw [getI_aset_same]
        rw [hself, List.map_take, List.map_drop]
/-! ### List -/
theorem list_x (l : List S136) (hl : l.length ≤ 1000) (now : Int) : ∀ (n k i : Nat) (acc : List ByteArray), l.length = i + n → n < k → acc.length ≤ i → provostref18_List.l0 k acc (i : Int) l now = some (acc ++ ((l.drop i).filter fun x => decide (x.f1 = 0)).map (·.f0))
  | 0, k, i, acc, h1, h2, h3 => by
    obtain ⟨k, rfl⟩ : ∃ j, k = j + 1 := ⟨k - 1, by omega⟩
    unfold provostref18_List.l0
    rw [if_neg (by omega), List.drop_of_length_le (by omega)]
    simp
  | n + 1, k, i, acc, h1, h2, h3 => by
    obtain ⟨k, rfl⟩ : ∃ j, k = j + 1 := ⟨k - 1, by omega⟩
    have hi : i < l.length := by omega
    unfold provostref18_List.l0
    rw [if_pos (by omega), if_pos (by omega), rd136 l i hi, wr1 (by omega), List.drop_eq_getElem_cons hi, List.filter_cons]
    by_cases h4 : l[i].f1 = 0
    · rw [if_pos h4, if_pos (by omega), list_x l hl now n k (i + 1) _ (by omega) (by omega) (by simp <;> omega)]
      simp [h4]
    · rw [if_neg h4, list_x l hl now n k (i + 1) _ (by omega) (by omega) (by omega)]
      simp [h4]
theorem there_at {al : IL} {q : ByteArray} (hq : q ∈ namesA al) : thereB q al = decide ((getI q al).1 = 0) := by
  unfold thereB
  rw [aget_mem.2 (names_mem.1 hq)]
  simp only [Bool.true_and]
  by_cases h : (getI q al).1 = 0 <;> simp [h]
theorem list_ent {n : Nat} {al : IL} {tick : Int} (hg : GI n al tick) (now : Int) : provostref18_List.f 1100 (entL al) now = some (listA al) := by
  have hl : (entL al).length ≤ 1000 := by rw [ent_length]; have := hg.short.2; omega
  unfold provostref18_List.f
  refine (list_x (entL al) hl now (entL al).length 1100 0 [] (by omega) (by omega) (by simp)).trans ?_
  congr 1
  rw [List.nil_append, List.drop_zero]
  unfold entL listA
  rw [List.filter_map, List.map_map]
  have h1 : (namesA al).filter ((fun x : S136 => decide (x.f1 = 0)) ∘ entE al) = (namesA al).filter (fun k => thereB k al) := List.filter_congr fun q hq => by
    rw [there_at hq]
    rfl
  rw [h1]
  exact List.map_id _
/-! ### in order of since -/
def insB {α : Type} (lt : α → α → Bool) (x : α) : List α → List α
  | [] => [x]
  | y :: r => if lt x y then y :: insB lt x r else x :: y :: r
def isort {α : Type} (lt : α → α → Bool) (l : List α) : List α := l.foldl (fun acc x => (insB lt x acc.reverse).reverse) []
theorem insB_map {α β : Type} (lt : α → α → Bool) (lt2 : β → β → Bool) (f : α → β) (h : ∀ x y, lt x y = lt2 (f x) (f y)) (x : α) : ∀ l : List α, (insB lt x l).map f = insB lt2 (f x) (l.map f)
  | [] => rfl
  | y :: r => by
    unfold insB
    rw [List.map_cons, h]
    simp only
    split
    · rw [List.map_cons, insB_map lt lt2 f h x r]
    · rfl
theorem isort_map {α β : Type} (lt : α → α → Bool) (lt2 : β → β → Bool) (f : α → β) (h : ∀ x y, lt x y = lt2 (f x) (f y)) (l : List α) : (isort lt l).map f = isort lt2 (l.map f) := by
  unfold isort
  rw [List.foldl_map]
  have key : ∀ (l : List α) (acc : List α), (l.foldl (fun acc x => (insB lt x acc.reverse).reverse) acc).map f = l.foldl (fun acc x => (insB lt2 (f x) acc.reverse).reverse) (acc.map f) := by
    intro l
    induction l with
    | nil => intro acc; rfl
    | cons a r ih =>
      intro acc
      rw [List.foldl_cons, List.foldl_cons, ih]
      congr 1
      rw [List.map_reverse, insB_map lt lt2 f h, List.map_reverse]
  exact key l []
def ltC (c : ByteArray → ByteArray → Int) (x y : ByteArray) : Bool := decide (c x y < 0)
theorem bub_ins (c : ByteArray → ByteArray → Int) (x : ByteArray) : ∀ (R B : List ByteArray), bub c R.length (R.reverse ++ x :: B) = (insB (ltC c) x R).reverse ++ B
  | [], B => rfl
  | y :: R, B => by
    have h0 : (R.reverse ++ y :: x :: B).getD R.length ⟨#[]⟩ = y := by simp [List.getD_eq_getElem?_getD]
    have h1 : (R.reverse ++ y :: x :: B).getD (R.length + 1) ⟨#[]⟩ = x := by simp [List.getD_eq_getElem?_getD]
    have hl : (y :: R).reverse ++ x :: B = R.reverse ++ y :: x :: B := by simp
    rw [hl, List.length_cons]
    unfold bub insB
    rw [h0, h1]
    unfold ltC
    by_cases hc : c x y < 0
    · rw [if_pos hc, if_pos (by simpa using hc)]
      have hs : swp (R.reverse ++ y :: x :: B) R.length = R.reverse ++ x :: y :: B := by
        unfold swp
        rw [h0, h1]
        have e1 : R.length + 1 = R.reverse.length + 1 := by simp
        have e2 : R.length = R.reverse.length + 0 := by simp
        rw [List.set_append_right _ _ (by simp), show R.length + 1 - R.reverse.length = 1 by simp, List.set_append_right _ _ (by simp), show R.length - R.reverse.length = 0 by simp]
        rfl
      rw [hs, bub_ins c x R (y :: B)]
      have e : ltC c = fun x y => decide (c x y < 0) := rfl
      simp [e]
    · rw [if_neg hc, if_neg (by simpa using hc)]
      simp
theorem insN_isort (c : ByteArray → ByteArray → Int) : ∀ (i : Nat) (A B : List ByteArray), A.length = i + 1 → insN c i (A ++ B) = isort (ltC c) A ++ B
  | 0, A, B, h => by
    match A, h with
    | [a], _ => rfl
  | i + 1, A, B, h => by
    have hne : A ≠ [] := fun e => by rw [e] at h; simp at h
    obtain ⟨A', x, rfl⟩ : ∃ A' x, A = A' ++ [x] := ⟨A.dropLast, A.getLast hne, (List.dropLast_concat_getLast hne).symm⟩
    have hl : A'.length = i + 1 := by simpa using h
    have ih := insN_isort c i A' (x :: B) hl
    have e : A' ++ [x] ++ B = A' ++ x :: B := by simp
    have hll : ∀ (l : List ByteArray), (isort (ltC c) l).length = l.length := fun l => by
      have hb : ∀ (x : ByteArray) (l : List ByteArray), (insB (ltC c) x l).length = l.length + 1 := fun x l => by
        induction l with
        | nil => rfl
        | cons a r ih => unfold insB; split <;> simp [ih]
      have key : ∀ (l acc : List ByteArray), (l.foldl (fun acc x => (insB (ltC c) x acc.reverse).reverse) acc).length = l.length + acc.length := by
        intro l
        induction l with
        | nil => intro acc; simp
        | cons a r ih => intro acc; rw [List.foldl_cons, ih, List.length_reverse, hb]; simp; omega
      exact (key l []).trans (by simp)
    unfold insN
    rw [e, ih]
    have h2 := bub_ins c x (isort (ltC c) A').reverse B
    rw [List.length_reverse, hll, hl, List.reverse_reverse] at h2
    rw [h2]
    unfold isort
    rw [List.foldl_append]
    rfl
theorem sortC_isort (c : ByteArray → ByteArray → Int) (l : List ByteArray) : sortC c l = isort (ltC c) l := by
  unfold sortC
  cases l with
  | nil => rfl
  | cons a r =>
    have := insN_isort c r.length (a :: r) [] (by simp)
    simpa using this
/-! ### Unused -/
def Evt {α : Type} (g : Nat → Option α) (r : α) : Prop := ∃ K, ∀ k, K ≤ k → g k = some r
def ltS (x y : S136) : Bool := decide (y.f3 > x.f3)
def okU (ago tick : Int) (x : S136) : Bool := !(decide (x.f1 > 0) || decide (x.f2 > 0) || decide (ago > tick - x.f3))
theorem unused_l2 (l : List S136) (hl : l.length ≤ 1000) : ∀ (n k i : Nat) (acc : List ByteArray), l.length = i + n → n < k → acc.length ≤ i → provostref18_Unused.l2 k l acc (i : Int) = some (acc ++ (l.drop i).map (·.f0))
  | 0, k, i, acc, h1, h2, h3 => by
    obtain ⟨k, rfl⟩ : ∃ j, k = j + 1 := ⟨k - 1, by omega⟩
    unfold provostref18_Unused.l2
    rw [if_neg (by omega), List.drop_of_length_le (by omega)]
    simp
  | n + 1, k, i, acc, h1, h2, h3 => by
    obtain ⟨k, rfl⟩ : ∃ j, k = j + 1 := ⟨k - 1, by omega⟩
    have hi : i < l.length := by omega
    unfold provostref18_Unused.l2
    rw [if_pos (by omega), if_pos (by omega), if_pos (by omega), rd136 l i hi, wr1 (by omega), unused_l2 l hl n k (i + 1) _ (by omega) (by omega) (by simp <;> omega), List.drop_eq_getElem_cons hi, List.map_cons, List.append_assoc]
    rfl
theorem unused_l1 (ago : Int) (x : S136) (i : Nat) (hi : i ≤ 1000) (l : List S136) (tick : Int) (r : List ByteArray) : ∀ (R B : List S136), (R.reverse ++ B).length ≤ 1000 → Evt (fun k => provostref18_Unused.l0 k ago ((insB ltS x R).reverse ++ B) ((i + 1 : Nat) : Int) l tick) r →
    Evt (fun k => provostref18_Unused.l1 k ago (R.reverse ++ B) (i : Int) ((R.length : Nat) : Int) l tick x.f0 x.f1 x.f2 x.f3) r
  | [], B, hB, ⟨K, hK⟩ => by
    refine ⟨K + 1, fun k hk => ?_⟩
    obtain ⟨k, rfl⟩ : ∃ j, k = j + 1 := ⟨k - 1, by omega⟩
    have hB2 : B.length ≤ 1000 := by simpa using hB
    show provostref18_Unused.l1 (k + 1) _ _ _ _ _ _ _ _ _ _ = _
    rw [provostref18_Unused.l1, if_neg (by simp)]
    simp only [Option.bind_some, List.length_cons, List.length_nil, List.reverse_nil, List.nil_append, Int.natCast_zero, Int.toNat_zero, List.take_zero, List.drop_zero, List.length_append]
    rw [if_pos (by omega), if_pos (by omega), if_pos (by omega), if_pos (by omega), if_pos (by omega), wr1 (by omega)]
    exact hK k (by omega)
  | y :: R, B, hB, h => by
    have hlen : (y :: R).reverse ++ B = R.reverse ++ y :: B := by simp
    have hRB : (R.reverse ++ y :: B).length ≤ 1000 := by rw [← hlen]; exact hB
    have hRl : R.length ≤ 1000 := by simp at hRB; omega
    have e1 : wrap64 (((y :: R).length : Int) - 1) = (R.length : Int) := by rw [List.length_cons]; unfold wrap64; omega
    have e2 : rd_T136 (R.reverse ++ y :: B) (R.length : Int) = y := by
      rw [rd136 _ R.length (by simp)]
      simp
    by_cases hlt : y.f3 > x.f3
    · have hins : (insB ltS x (y :: R)).reverse ++ B = (insB ltS x R).reverse ++ y :: B := by
        rw [insB, if_pos (by unfold ltS; exact decide_eq_true hlt)]
        simp
      rw [hins] at h
      obtain ⟨K, hK⟩ := unused_l1 ago x i hi l tick r R (y :: B) hRB h
      refine ⟨K + 1, fun k hk => ?_⟩
      obtain ⟨k, rfl⟩ : ∃ j, k = j + 1 := ⟨k - 1, by omega⟩
      show provostref18_Unused.l1 (k + 1) _ _ _ _ _ _ _ _ _ _ = _
      rw [provostref18_Unused.l1, e1, if_pos (by simp <;> omega), if_pos (by omega), hlen, if_pos (by simp <;> omega), e2, if_pos hlt]
      exact hK k (by omega)
    · have hins : (insB ltS x (y :: R)).reverse ++ B = R.reverse ++ y :: x :: B := by
        rw [insB, if_neg (by unfold ltS; simpa using hlt)]
        simp
      rw [hins] at h
      obtain ⟨K, hK⟩ := h
      refine ⟨K + 1, fun k hk => ?_⟩
      obtain ⟨k, rfl⟩ : ∃ j, k = j + 1 := ⟨k - 1, by omega⟩
      show provostref18_Unused.l1 (k + 1) _ _ _ _ _ _ _ _ _ _ = _
      rw [provostref18_Unused.l1, e1, if_pos (by simp <;> omega), if_pos (by omega), hlen, if_pos (by simp <;> omega), e2, if_neg hlt]
      have ht : ((R.length + 1 : Nat) : Int).toNat = R.length + 1 := by omega
      have hd : (R.reverse ++ y :: B).drop (R.length + 1) = B := by
        rw [List.drop_append]; simp
      have htk : (R.reverse ++ y :: B).take (R.length + 1) = R.reverse ++ [y] := by
        rw [List.take_append, List.take_of_length_le (by simp)]; simp
      simp only [Option.bind_some, List.length_cons, List.length_nil, List.nil_append, Nat.zero_add, ht, hd, htk, List.length_append, List.length_reverse]
      simp only [List.length_append, List.length_reverse, List.length_cons] at hRB
      rw [if_pos (by omega), if_pos (by omega), if_pos (by omega), if_pos (by omega), if_pos (by omega), wr1 (by omega)]
      have := hK k (by omega)
      simpa using this
theorem unused_l0 (ago tick : Int) (ht : 0 ≤ tick ∧ tick ≤ 1000000) (l : List S136) (hl : l.length ≤ 1000) (hs : ∀ x ∈ l, 0 ≤ x.f3 ∧ x.f3 ≤ 1000000) : ∀ (n i : Nat) (acc : List S136), l.length = i + n → acc.length ≤ i →
    Evt (fun k => provostref18_Unused.l0 k ago acc (i : Int) l tick) ((((l.drop i).filter (okU ago tick)).foldl (fun acc x => (insB ltS x acc.reverse).reverse) acc).map (·.f0))
  | 0, i, acc, h1, h2 => by
    refine ⟨acc.length + 2, fun k hk => ?_⟩
    obtain ⟨k, rfl⟩ : ∃ j, k = j + 1 := ⟨k - 1, by omega⟩
    show provostref18_Unused.l0 (k + 1) _ _ _ _ _ = _
    rw [provostref18_Unused.l0, if_neg (by omega), List.drop_of_length_le (by omega)]
    have := unused_l2 acc (by omega) acc.length k 0 [] (by omega) (by omega) (by simp)
    refine this.trans ?_
    simp
  | n + 1, i, acc, h1, h2 => by
    have hi : i < l.length := by omega
    have h3 := hs l[i] (List.getElem_mem hi)
    have e0 : wrap64 (tick - l[i].f3) = tick - l[i].f3 := by unfold wrap64; omega
    have hj1 : ∀ b, okU ago tick l[i] = !b → provostref18_Unused.l0 = provostref18_Unused.l0 → Evt (fun k => provostref18_Unused.j1 k ago acc (i : Int) b l tick l[i].f0 l[i].f1 l[i].f2 l[i].f3) ((((l.drop i).filter (okU ago tick)).foldl (fun acc x => (insB ltS x acc.reverse).reverse) acc).map (·.f0)) := fun b hb _ => by
      rw [List.drop_eq_getElem_cons hi, List.filter_cons, hb]
      cases b with
      | true =>
        obtain ⟨K, hK⟩ := unused_l0 ago tick ht l hl hs n (i + 1) acc (by omega) (by omega)
        refine ⟨K + 1, fun k hk => ?_⟩
        obtain ⟨k, rfl⟩ : ∃ j, k = j + 1 := ⟨k - 1, by omega⟩
        show provostref18_Unused.j1 (k + 1) _ _ _ _ _ _ _ _ _ _ = _
        rw [provostref18_Unused.j1, if_pos rfl, wr1 (by omega)]
        exact hK k (by omega)
      | false =>
        have hin : (insB ltS l[i] acc.reverse).reverse.length ≤ i + 1 := by
          have hb : ∀ (x : S136) (l : List S136), (insB ltS x l).length = l.length + 1 := fun x l => by
            induction l with
            | nil => rfl
            | cons a r ih => unfold insB; split <;> simp [ih]
          rw [List.length_reverse, hb, List.length_reverse]
          omega
        have h4 := unused_l0 ago tick ht l hl hs n (i + 1) (insB ltS l[i] acc.reverse).reverse (by omega) hin
        have h5 := unused_l1 ago l[i] i (by omega) l tick _ acc.reverse [] (by simp <;> omega) (by simpa using h4)
        obtain ⟨K, hK⟩ := h5
        refine ⟨K + 1, fun k hk => ?_⟩
        obtain ⟨k, rfl⟩ : ∃ j, k = j + 1 := ⟨k - 1, by omega⟩
        show provostref18_Unused.j1 (k + 1) _ _ _ _ _ _ _ _ _ _ = _
        rw [provostref18_Unused.j1, if_neg (by decide)]
        have := hK k (by omega)
        simpa using this
    have hgo : ∀ b, okU ago tick l[i] = !b → (∀ k, provostref18_Unused.l0 (k + 1) ago acc (i : Int) l tick = provostref18_Unused.j1 k ago acc (i : Int) b l tick l[i].f0 l[i].f1 l[i].f2 l[i].f3) → Evt (fun k => provostref18_Unused.l0 k ago acc (i : Int) l tick) ((((l.drop i).filter (okU ago tick)).foldl (fun acc x => (insB ltS x acc.reverse).reverse) acc).map (·.f0)) := fun b hb h => by
      obtain ⟨K, hK⟩ := hj1 b hb rfl
      refine ⟨K + 1, fun k hk => ?_⟩
      obtain ⟨k, rfl⟩ : ∃ j, k = j + 1 := ⟨k - 1, by omega⟩
      exact (h k).trans (hK k (by omega))
    by_cases q1 : l[i].f1 > 0
    · refine hgo true (by unfold okU; simp [q1]) (fun k => ?_)
      rw [provostref18_Unused.l0, if_pos (by omega), if_pos (by omega), rd136 l i hi, if_pos q1]
    · by_cases q2 : l[i].f2 > 0
      · refine hgo true (by unfold okU; simp [q2]) (fun k => ?_)
        rw [provostref18_Unused.l0, if_pos (by omega), if_pos (by omega), rd136 l i hi, if_neg q1, if_pos q2]
      · refine hgo (decide (ago > tick - l[i].f3)) (by unfold okU; simp [q1, q2]) (fun k => ?_)
        rw [provostref18_Unused.l0, if_pos (by omega), if_pos (by omega), rd136 l i hi, if_neg q1, if_neg q2, e0]
theorem unused_ent {n : Nat} {al : IL} {tick : Int} (hg : GI n al tick) (hn : n ≤ 1000) (ago : Int) : ∃ k, provostref18_Unused.f k (entL al) tick ago = some (Tr.unX tick ago al) := by
  have ht := hg.t
  have h16 := hg.short.2
  have hl : (entL al).length ≤ 1000 := by rw [ent_length]; omega
  obtain ⟨K, hK⟩ := unused_l0 ago tick (by omega) (entL al) hl (fun x hx => by
    unfold entL at hx
    obtain ⟨q, _, rfl⟩ := List.mem_map.1 hx
    have := hg.rg q
    unfold entE
    unfold Rg at this
    simp only
    omega) (entL al).length 0 [] (by omega) (by simp)
  refine ⟨K, ?_⟩
  unfold provostref18_Unused.f
  refine (hK K (Nat.le_refl _)).trans ?_
  congr 1
  rw [List.drop_zero]
  unfold Tr.unX
  rw [sortC_isort]
  have hf : (entL al).filter (okU ago tick) = (unusedA tick ago al).map (entE al) := by
    unfold entL unusedA listA
    rw [List.filter_map, List.filter_filter]
    congr 1
    refine List.filter_congr fun q hq => ?_
    have hr := hg.rg q
    rw [there_at hq]
    unfold okU usedB entE Function.comp
    simp only
    unfold Rg at hr
    by_cases h1 : (getI q al).1 = 0
    · have h2 : ¬ (getI q al).1 > 0 := by omega
      simp [h1]
    · have h2 : (getI q al).1 > 0 := by omega
      simp [h1, h2]
  rw [hf]
  have hm := isort_map (ltC (cmpS al)) ltS (entE al) (fun x y => by
    unfold ltC cmpS cmpI ltS entE
    simp only
    by_cases h1 : (getI x al).2.2 < (getI y al).2.2
    · rw [if_pos h1]
      simp [h1]
    · rw [if_neg h1]
      split <;> simp [h1]) (unusedA tick ago al)
  have : ((unusedA tick ago al).map (entE al)).foldl (fun acc x => (insB ltS x acc.reverse).reverse) [] = (isort (ltC (cmpS al)) (unusedA tick ago al)).map (entE al) := hm.symm
  rw [this, List.map_map]
  exact List.map_id _
end Go.Proofs.YtmgcapccgncmkaaDoor.Im
