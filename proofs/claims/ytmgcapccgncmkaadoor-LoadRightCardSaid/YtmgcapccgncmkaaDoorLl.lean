/- Load: plain laws: all entries of a script may be; how many have each verb; numbers as texts; entries held against one another. -/
import Derived.Test.YtmgcapccgncmkaaDoorLk
import Derived.Test.YtmgcapccgncmkaaDoorPLoadScriptsx2
set_option linter.unusedSimpArgs false
set_option linter.unusedVariables false
namespace Go.Proofs.YtmgcapccgncmkaaDoor.Ld
open Go.RowKit Go.Pv Go.Proofs.YtmgcapccgncmkaaDoor.PLoadScripts Go.Proofs.YtmgcapccgncmkaaDoorW.PrintWords Go.Proofs.YtmgcapccgncmkaaDoorW.PrintLast Go.Proofs.YtmgcapccgncmkaaDoorW.PrintMore

/-! ### all may be -/
theorem letter_name (x : Int) : nameB (letter x) = true := by
  have h := dr_in x 6 (by omega)
  have hc : dr x 6 = 0 ∨ dr x 6 = 1 ∨ dr x 6 = 2 ∨ dr x 6 = 3 ∨ dr x 6 = 4 ∨ dr x 6 = 5 := by omega
  unfold letter
  rcases hc with h | h | h | h | h | h <;> rw [h] <;> decide +kernel
theorem numB_of {n : Int} (h0 : 0 ≤ n) (h1 : n ≤ 1000) : numB n = true := by simp [numB]; omega
theorem numB_dr (x n : Int) (h : 1 ≤ n) (h2 : n ≤ 100) : numB (dr x n) = true := by
  have := dr_in x n h
  exact numB_of (by omega) (by omega)
theorem numB_dr1 (x n : Int) (h : 1 ≤ n) (h2 : n ≤ 100) : numB (1 + dr x n) = true := by
  have := dr_in x n h
  exact numB_of (by omega) (by omega)
theorem right_of {v : Int} {ns : List Int} {d : ByteArray} (h : (decide (1 ≤ v) && decide (v < 24) && decide ((ns.length : Int) = (vb v).2.1) && dataB (vb v).2.2 d) = true) (hn : ∀ n ∈ ns, numB n = true) (hk : (vb v).2.2 ≠ 1) : rightB (v, ns, d) = true ∧ (vb v).2.2 ≠ 1 := by
  refine ⟨?_, hk⟩
  unfold rightB
  simp only [Bool.and_eq_true] at h ⊢
  exact ⟨⟨h.1, List.all_eq_true.2 hn⟩, h.2⟩
def okE (E : Ent) : Prop := rightB E = true ∧ (vb E.1).2.2 ≠ 1
theorem enk_ok (k x : Int) : okE (enk k x).1 := by
  unfold enk okE
  split
  · refine right_of ?_ ?_ (by decide)
    · have h1 : vb 23 = (⟨#[114, 117, 110]⟩, 4, 2) := rfl
      have h2 : dataB 2 (letter (nx (nx (nx x)))) = true := letter_name _
      rw [h1, h2]
      rfl
    · intro n hn
      simp only [List.mem_cons, List.mem_nil_iff, or_false] at hn
      rcases hn with rfl | rfl | rfl | rfl
      · decide
      · exact numB_dr1 _ _ (by omega) (by omega)
      · exact numB_dr _ _ (by omega) (by omega)
      · exact numB_dr _ _ (by omega) (by omega)
  split
  · refine right_of (by rfl) ?_ (by decide)
    intro n hn
    simp only [List.mem_cons, List.mem_nil_iff, or_false] at hn
    rcases hn with rfl | rfl
    · decide
    · exact numB_dr1 _ _ (by omega) (by omega)
  split
  · refine right_of (by rfl) ?_ (by decide)
    intro n hn
    simp only [List.mem_cons, List.mem_nil_iff, or_false] at hn
    rcases hn with rfl | rfl | rfl
    · decide
    · exact numB_dr1 _ _ (by omega) (by omega)
    · exact numB_dr _ _ (by omega) (by omega)
  split
  · exact ⟨by rfl, (by decide : (vb 6).2.2 ≠ 1)⟩
  split
  · exact ⟨by rfl, (by decide : (vb 5).2.2 ≠ 1)⟩
  split
  · refine right_of (by rfl) ?_ (by decide)
    intro n hn
    simp only [List.mem_cons, List.mem_nil_iff, or_false] at hn
    rcases hn with rfl | rfl | rfl
    · exact numB_dr1 _ _ (by omega) (by omega)
    · exact numB_dr _ _ (by omega) (by omega)
    · exact numB_dr _ _ (by omega) (by omega)
  split
  · exact ⟨by rfl, (by decide : (vb 21).2.2 ≠ 1)⟩
  split
  · exact ⟨by rfl, (by decide : (vb 3).2.2 ≠ 1)⟩
  split
  · refine right_of (by rfl) ?_ (by decide)
    intro n hn
    simp only [List.mem_cons, List.mem_nil_iff, or_false] at hn
    subst hn
    exact numB_dr _ _ (by omega) (by omega)
  · refine right_of (by rfl) ?_ (by decide)
    intro n hn
    simp only [List.mem_cons, List.mem_nil_iff, or_false] at hn
    rcases hn with rfl | rfl
    · decide
    · exact numB_dr1 _ _ (by omega) (by omega)
theorem en_ok (x : Int) : okE (en x).1 := enk_ok _ _
theorem ents_ok : ∀ (k : Nat) (x : Int) (e : Ent), e ∈ ents k x → okE e
  | 0, _, _, h => by simp [ents] at h
  | k + 1, x, e, h => by
    rw [ents, List.mem_cons] at h
    rcases h with rfl | h
    · exact en_ok x
    · exact ents_ok k _ e h
theorem scr_ok (x n : Int) (e : Ent) (h : e ∈ scr x n) : okE e := by
  unfold scr at h
  rw [List.mem_cons] at h
  rcases h with rfl | h
  · exact ⟨by rfl, (by decide : (vb 1).2.2 ≠ 1)⟩
  · exact ents_ok _ _ e h
theorem many_le (n : Int) : many n ≤ 200 := by unfold many; omega
theorem scr_length (x n : Int) : (scr x n).length = many n + 1 := by simp [scr, ents_length]

/-! ### how many of each verb -/
def mix1 (l : List Int) (E : Ent) : List Int := l.set E.1.toNat (rd l E.1 + 1)
def mixL (es : List Ent) : List Int := es.foldl mix1 (List.replicate 24 0)
theorem mix1_length (l : List Int) (E : Ent) : (mix1 l E).length = l.length := by simp [mix1]
theorem mixL_snoc (es : List Ent) (E : Ent) : mixL (es ++ [E]) = mix1 (mixL es) E := by simp [mixL]
theorem foldl_mix_length : ∀ (es : List Ent) (l : List Int), (es.foldl mix1 l).length = l.length
  | [], _ => rfl
  | e :: es, l => by rw [List.foldl_cons, foldl_mix_length es, mix1_length]
theorem mixL_length (es : List Ent) : (mixL es).length = 24 := by unfold mixL; rw [foldl_mix_length]; rfl
theorem mix1_bound {l : List Int} {m : Int} (h : ∀ x ∈ l, 0 ≤ x ∧ x ≤ m) (hm : 0 ≤ m) (E : Ent) : ∀ x ∈ mix1 l E, 0 ≤ x ∧ x ≤ m + 1 := by
  intro x hx
  unfold mix1 at hx
  rcases List.mem_or_eq_of_mem_set hx with h2 | rfl
  · have := h x h2; omega
  · unfold rd
    rw [List.getD_eq_getElem?_getD]
    cases h3 : l[E.1.toNat]? with
    | none => simp; omega
    | some y => have := h y (List.mem_of_getElem? h3); simp; omega
theorem foldl_mix_bound : ∀ (es : List Ent) (l : List Int) (m : Int), 0 ≤ m → (∀ x ∈ l, 0 ≤ x ∧ x ≤ m) → ∀ x ∈ es.foldl mix1 l, 0 ≤ x ∧ x ≤ m + es.length
  | [], l, m, hm, h, x, hx => by simpa using h x hx
  | e :: es, l, m, hm, h, x, hx => by
    have := foldl_mix_bound es (mix1 l e) (m + 1) (by omega) (mix1_bound h hm e) x hx
    simp only [List.length_cons]
    omega
theorem mixL_rd (es : List Ent) (i : Int) : 0 ≤ rd (mixL es) i ∧ rd (mixL es) i ≤ es.length := by
  unfold rd
  rw [List.getD_eq_getElem?_getD]
  cases h3 : (mixL es)[i.toNat]? with
  | none => simp
  | some y =>
    have := foldl_mix_bound es (List.replicate 24 0) 0 (by omega) (fun x hx => by rw [List.eq_of_mem_replicate hx]; omega) y (List.mem_of_getElem? h3)
    simp; omega
theorem okE_verb {E : Ent} (h : okE E) : 1 ≤ E.1 ∧ E.1 < 24 := rightB_verb h.1
theorem mix_l (es : List Ent) (hes : ∀ e ∈ es, okE e) (hl : es.length ≤ 1000) : ∀ (d j k : Nat), j + d = es.length → d < k → load_Mix.l0 k (mixL (es.take j)) (es.map sE) (es.length : Int) (j : Int) = some (mixL es)
  | 0, j, k, hd, hk => by
    obtain ⟨k, rfl⟩ : ∃ m, k = m + 1 := ⟨k - 1, by omega⟩
    rw [load_Mix.l0, if_neg (by omega), List.take_of_length_le (by omega)]
  | d + 1, j, k, hd, hk => by
    obtain ⟨k, rfl⟩ : ∃ m, k = m + 1 := ⟨k - 1, by omega⟩
    have hj : j < es.length := by omega
    have hv := okE_verb (hes es[j] (List.getElem_mem hj))
    have e1 : (rd_T34 (es.map sE) (j : Int)).f0 = es[j].1 := by
      unfold rd_T34
      rw [List.getD_eq_getElem?_getD]
      simp [hj, sE]
    have hb := mixL_rd (es.take j) es[j].1
    have hlt : (es.take j).length ≤ 1000 := by rw [List.length_take]; omega
    have hw : wrap64 (rd (mixL (es.take j)) es[j].1 + 1) = rd (mixL (es.take j)) es[j].1 + 1 := by unfold wrap64; omega
    have hw2 : wrap64 ((j : Int) + 1) = ((j + 1 : Nat) : Int) := by unfold wrap64; omega
    have hs : (mixL (es.take j)).set es[j].1.toNat (rd (mixL (es.take j)) es[j].1 + 1) = mixL (es.take (j + 1)) := by
      rw [List.take_add_one, List.getElem?_eq_getElem hj]
      exact (mixL_snoc _ _).symm
    rw [load_Mix.l0, if_pos (by omega), if_pos (by omega), if_pos (by simp; omega), e1, if_pos (by omega), if_pos (by rw [mixL_length]; omega), if_pos (by omega), hw, hw2, hs]
    exact mix_l es hes hl d (j + 1) k (by omega) (by omega)
theorem mix_eq (es : List Ent) (hes : ∀ e ∈ es, okE e) (hl : es.length ≤ 1000) : load_Mix.f (es.length + 1) (es.map sE) = some (mixL es) := by
  unfold load_Mix.f
  rw [if_pos (by omega), List.length_map]
  exact mix_l es hes hl es.length 0 _ (by omega) (by omega)

/-! ### numbers as texts, as the document has them -/
theorem strOfNums_cons (x : Int) (l : List Int) : strOfNums [x] ++ strOfNums l = strOfNums (x :: l) := by
  apply ByteArray.ext
  rw [ByteArray.data_append]
  simp [strOfNums]
theorem strOfNums_size' (xs : List Int) : (strOfNums xs).size = xs.length := by
  have := strOfNums_size xs
  rwa [Array.length_toList] at this
theorem rt_step (x0 : Int) (hx0 : 0 ≤ x0) (k : Nat) (s : ByteArray) (m i : Int) (hc : i = 0 ∨ (m > 0 ∧ i < 20)) : provostref01_Text.l0 (k + 1) x0 s m i = ((some ([(IntKind.u64.wrap (48 + Int.tmod m 10)) % 256] : List Int)).bind fun y => (if (strOfNums y).size + s.size ≤ 9223372036854775807 then (provostref01_Text.l0 k x0 ((strOfNums y) ++ s) (IntKind.u64.wrap (Int.tdiv m 10)) (wrap64 (i + 1))) else none)) := by
  rcases hc with h | ⟨h1, h2⟩
  · rw [provostref01_Text.l0, if_pos h]
  · by_cases hi : i = 0
    · rw [provostref01_Text.l0, if_pos hi]
    · rw [provostref01_Text.l0, if_neg hi, if_pos h1, if_pos h2]
theorem rt_end (x0 : Int) (hx0 : 0 ≤ x0) (k : Nat) (s : ByteArray) (i : Int) (hi : i ≠ 0) : provostref01_Text.l0 (k + 1) x0 s 0 i = some s := by
  rw [provostref01_Text.l0, if_neg hi, if_neg (by omega), if_neg (by omega)]
theorem rt_case {m : Int} {i d : Nat} (hm : 0 ≤ m) (hx : ¬ (m = 0 ∧ i ≠ 0)) (hi : i + (d + 1) ≤ 19) : (i : Int) = 0 ∨ (m > 0 ∧ (i : Int) < 20) := by omega
theorem rt_ne {i : Nat} (h : i ≠ 0) : (i : Int) ≠ 0 := by omega
theorem rt_small {m : Int} {d : Nat} (hp : m < 10 ^ (d + 1)) : m / 10 < 10 ^ d := by
  rw [Int.pow_succ 10 d] at hp
  generalize (10 : Int) ^ d = z at hp ⊢
  omega
theorem rtext_l (n : Int) (h0 : 0 ≤ n) (x0 : Int) (hx0 : 0 ≤ x0) : ∀ (d : Nat) (k : Nat) (acc : List Int) (m : Int) (i : Nat), 0 ≤ m → m ≤ 9223372036854775807 → m < 10 ^ d → d ≤ 19 → i + d ≤ 19 → acc.length ≤ 20 - d → d + 1 < k → 0 < d →
    provostref01_Text.l0 k x0 (strOfNums acc) m (i : Int) = (if m = 0 ∧ i ≠ 0 then some (strOfNums acc) else some (strOfNums (digsF d m acc)))
  | 0, k, acc, m, i, hm, hm2, hp, hd, hi, ha, hk, h1 => by omega
  | d + 1, k, acc, m, i, hm, hm2, hp, hd, hi, ha, hk, h1 => by
    obtain ⟨k, rfl⟩ : ∃ j, k = j + 1 := ⟨k - 1, by omega⟩
    have e1 : (IntKind.u64.wrap (48 + Int.tmod m 10)) % 256 = 48 + m % 10 := by
      rw [Int.tmod_eq_emod_of_nonneg hm, IntWalk.u64_in _ (by omega)]; omega
    have e2 : IntKind.u64.wrap (Int.tdiv m 10) = m / 10 := by
      rw [Int.tdiv_eq_ediv_of_nonneg hm, IntWalk.u64_in _ (by omega)]
    have e3 : wrap64 ((i : Int) + 1) = ((i + 1 : Nat) : Int) := by unfold wrap64; omega
    have hsz : (strOfNums [48 + m % 10]).size + (strOfNums acc).size ≤ 9223372036854775807 := by
      rw [strOfNums_size', strOfNums_size']; simp; omega
    have hlt : m / 10 < 10 ^ d := rt_small hp
    clear hp
    by_cases hx : m = 0 ∧ i ≠ 0
    · rw [if_pos hx, hx.1]
      exact rt_end x0 hx0 k _ _ (rt_ne hx.2)
    · rw [if_neg hx, rt_step x0 hx0 k _ m i (rt_case hm hx hi), Option.bind_some, e1, if_pos hsz, e2, e3, strOfNums_cons]
      clear e1 e2 e3 hsz
      by_cases hz : m / 10 = 0
      · rw [hz, digsF, if_pos hz]
        obtain ⟨k, rfl⟩ : ∃ j, k = j + 1 := ⟨k - 1, by omega⟩
        exact rt_end x0 hx0 k _ _ (rt_ne (Nat.succ_ne_zero i))
      · have hd0 : 0 < d := by
          rcases Nat.eq_zero_or_pos d with h | h
          · rw [h] at hlt; simp at hlt; exact absurd (show m / 10 = 0 by omega) hz
          · exact h
        have q1 : 0 ≤ m / 10 ∧ m / 10 ≤ 9223372036854775807 := by clear hlt; omega
        have q2 : ((48 + m % 10) :: acc).length ≤ 20 - d := by clear hlt; simp only [List.length_cons]; omega
        have q3 : ¬ (m / 10 = 0 ∧ i + 1 ≠ 0) := fun h => hz h.1
        rw [rtext_l n h0 x0 hx0 d k _ (m / 10) (i + 1) q1.1 q1.2 hlt (by clear hlt; omega) (by clear hlt; omega) q2 (by clear hlt; omega) hd0, if_neg q3, digsF, if_neg hz]
theorem digsF_more : ∀ (a b : Nat) (m : Int) (acc : List Int), 0 ≤ m → m < 10 ^ a → 0 < a → a ≤ b → digsF a m acc = digsF b m acc
  | 0, b, m, acc, _, _, h, _ => by omega
  | a + 1, 0, m, acc, _, _, _, h => by omega
  | a + 1, b + 1, m, acc, hm, hp, h, hab => by
    rw [digsF, digsF]
    by_cases hz : m / 10 = 0
    · rw [if_pos hz, if_pos hz]
    · rw [if_neg hz, if_neg hz]
      have hlt : m / 10 < 10 ^ a := rt_small hp
      have ha : 0 < a := by
        rcases Nat.eq_zero_or_pos a with rfl | h
        · simp at hlt; omega
        · exact h
      exact digsF_more a b _ _ (by omega) hlt ha (by omega)
theorem rtext_eq (n : Int) (h0 : 0 ≤ n) (h1 : n ≤ 1073741824) : provostref01_Text.f 22 n = some (ntext n) := by
  unfold provostref01_Text.f provostref01_size.f
  have hw : IntKind.u64.wrap n = n := IntWalk.u64_in _ (by omega)
  rw [if_neg (by omega), hw, Option.bind_some]
  have hp : n < (10 : Int) ^ 19 := by
    have : (10 : Int) ^ 19 = 10000000000000000000 := by decide
    omega
  have h := rtext_l n h0 n h0 19 22 [] n 0 h0 (by omega) hp (by omega) (by omega) (by simp) (by omega) (by omega)
  rw [if_neg (by omega)] at h
  have e : strOfNums [] = (⟨#[]⟩ : ByteArray) := rfl
  rw [e] at h
  refine h.trans ?_
  unfold ntext digs
  rw [digsF_more 19 20 n [] h0 hp (by omega) (by omega)]
theorem rtext_any (n : Int) (h0 : 0 ≤ n) (h1 : n ≤ 1073741824) (w : World) : Calls Tryd.prog 48 #[.int .i64 n] w fun e w' => e = .returned (.string (ntext n)) ∧ Below w.heap.size w w' :=
  provostref01_Text.calls 22 n _ w (rtext_eq n h0 h1)

/-! ### two lists of numbers are one -/
theorem same_l (l : List Int) (hl : l.length ≤ 1000) : ∀ (d j k : Nat), j + d = l.length → d < k → provostbook_SameInts.l0 k l l true (j : Int) = some true
  | 0, j, k, hd, hk => by
    obtain ⟨k, rfl⟩ : ∃ m, k = m + 1 := ⟨k - 1, by omega⟩
    rw [provostbook_SameInts.l0, if_pos rfl, if_neg (by omega)]
  | d + 1, j, k, hd, hk => by
    obtain ⟨k, rfl⟩ : ∃ m, k = m + 1 := ⟨k - 1, by omega⟩
    have hw2 : wrap64 ((j : Int) + 1) = ((j + 1 : Nat) : Int) := by unfold wrap64; omega
    rw [provostbook_SameInts.l0, if_pos rfl, if_pos (by omega), if_pos (by omega), if_pos (by omega), hw2, beq_self_eq_true]
    exact same_l l hl d (j + 1) k (by omega) (by omega)
theorem same_eq (l : List Int) (hl : l.length ≤ 1000) : provostbook_SameInts.f (l.length + 1) l l = some true := by
  unfold provostbook_SameInts.f
  rw [beq_self_eq_true]
  exact same_l l hl l.length 0 _ (by omega) (by omega)
theorem is_eq (E : Ent) (hl : E.2.1.length ≤ 1000) : provostlaw48_is.f (E.2.1.length + 1) E.1 E.2.1 E.2.2 E.1 E.2.1 E.2.2 = some true := by
  unfold provostlaw48_is.f
  rw [if_pos rfl, same_eq _ hl, Option.bind_some, if_pos rfl, beq_self_eq_true]
end Go.Proofs.YtmgcapccgncmkaaDoor.Ld
