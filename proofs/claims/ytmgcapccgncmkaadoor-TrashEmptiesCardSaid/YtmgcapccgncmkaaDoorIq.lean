/- Images: merged (Io Iq Ir Is). -/
import Derived.Test.YtmgcapccgncmkaaDoorPImgKeepsx10
import Derived.Test.YtmgcapccgncmkaaDoorYb
import Derived.Test.YtmgcapccgncmkaaDoorYd
import Derived.Test.YtmgcapccgncmkaaDoorIg
set_option linter.unusedSimpArgs false
set_option linter.unusedVariables false
namespace Go.Proofs.YtmgcapccgncmkaaDoor.Im
open Go.RowKit Go.Proofs.YtmgcapccgncmkaaDoorW.PrintWords Go.Proofs.YtmgcapccgncmkaaDoorW.PrintLast Go.Proofs.YtmgcapccgncmkaaDoorW.PrintMore Go.Proofs.YtmgcapccgncmkaaDoor.PImgKeeps

theorem wr1 {i : Nat} (h : i ≤ 1000000) : wrap64 ((i : Int) + 1) = ((i + 1 : Nat) : Int) := by unfold wrap64; omega
theorem small_t (x : Int) : ∃ b, provostref03_small.f x = some b := by
  unfold provostref03_small.f
  repeat' split
  all_goals exact ⟨_, rfl⟩
theorem rd_mem {l : List ByteArray} {i : Int} (h0 : 0 ≤ i) (h1 : i < (l.length : Int)) : rdOf ByteArray.empty l i ∈ l := by
  obtain ⟨n, rfl⟩ : ∃ n : Nat, i = (n : Int) := ⟨i.toNat, by omega⟩
  have hn : n < l.length := by omega
  simp only [rdOf, Int.toNat_natCast, List.getD_eq_getElem?_getD, List.getElem?_eq_getElem hn, Option.getD_some]
  exact List.getElem_mem hn
theorem parts_l (s : ByteArray) (c : Int) (hs : s.size ≤ 100) : ∀ (n k i : Nat) (x : List ByteArray), s.size = i + n → n < k → x.length ≤ i + 1 → 0 < x.length → (∀ y ∈ x, y.size ≤ i) →
    ∃ r, provostref03_parts.l0 k s c x (i : Int) = some r ∧ 0 < r.length ∧ r.length ≤ 101 ∧ ∀ y ∈ r, y.size ≤ 100
  | 0, k, i, x, h1, h2, h3, h4, h5 => by
    obtain ⟨k, rfl⟩ : ∃ j, k = j + 1 := ⟨k - 1, by omega⟩
    unfold provostref03_parts.l0
    rw [if_neg (by omega)]
    exact ⟨x, rfl, h4, by omega, fun y hy => by have := h5 y hy; omega⟩
  | n + 1, k, i, x, h1, h2, h3, h4, h5 => by
    obtain ⟨k, rfl⟩ : ∃ j, k = j + 1 := ⟨k - 1, by omega⟩
    have e1 := wr1 (i := i) (by omega)
    have e2 : wrap64 ((x.length : Int) - 1) = ((x.length - 1 : Nat) : Int) := by unfold wrap64; omega
    unfold provostref03_parts.l0
    rw [if_pos (by omega), if_pos (by omega), e1, e2]
    by_cases hc : bt s (i : Int) = c
    · rw [if_pos hc, if_pos (by omega)]
      refine parts_l s c hs n k (i + 1) _ (by omega) (by omega) (by simp; omega) (by simp) (fun y hy => ?_)
      rcases List.mem_append.1 hy with h | h
      · have := h5 y h; omega
      · simp only [List.mem_cons, List.not_mem_nil, or_false] at h
        subst h
        exact Nat.zero_le _
    · have hm := h5 _ (rd_mem (l := x) (i := ((x.length - 1 : Nat) : Int)) (by omega) (by omega))
      have hx : (s.extract (i : Int).toNat ((i + 1 : Nat) : Int).toNat).size ≤ 1 := by simp [ByteArray.size_extract]; omega
      rw [if_neg hc, if_pos (by omega), if_pos (by omega), if_pos (by omega), if_pos (by omega), if_pos (by omega)]
      refine parts_l s c hs n k (i + 1) _ (by omega) (by omega) (by rw [List.length_set]; omega) (by rw [List.length_set]; exact h4) (fun y hy => ?_)
      rcases List.mem_or_eq_of_mem_set hy with h | h
      · have := h5 y h; omega
      · subst h
        rw [ByteArray.size_append]
        omega
theorem parts_t (s : ByteArray) (c : Int) (hs : s.size ≤ 100) (k : Nat) (hk : 101 ≤ k) : ∃ r, provostref03_parts.f k s c = some r ∧ 0 < r.length ∧ r.length ≤ 101 ∧ ∀ y ∈ r, y.size ≤ 100 := by
  unfold provostref03_parts.f
  exact parts_l s c hs s.size k 0 _ (by omega) (by omega) (by simp) (by simp) (fun y hy => by simp only [List.mem_cons, List.not_mem_nil, or_false] at hy; subst hy; exact Nat.zero_le _)
theorem name_l (s : ByteArray) (hs : s.size ≤ 100) : ∀ (n k i : Nat), s.size = i + n → n < k → ∃ r, provostref03_Name.l0 k s (i : Int) = some r
  | 0, k, i, h1, h2 => by
    obtain ⟨k, rfl⟩ : ∃ j, k = j + 1 := ⟨k - 1, by omega⟩
    unfold provostref03_Name.l0
    rw [if_neg (by omega)]
    exact ⟨_, rfl⟩
  | n + 1, k, i, h1, h2 => by
    obtain ⟨k, rfl⟩ : ∃ j, k = j + 1 := ⟨k - 1, by omega⟩
    unfold provostref03_Name.l0
    obtain ⟨b, hb⟩ := small_t (bt s (i : Int))
    rw [if_pos (by omega), if_pos (by omega), hb, wr1 (by omega), Option.bind_some]
    have ih := name_l s hs n k (i + 1) (by omega) (by omega)
    repeat' split
    all_goals first | exact ih | exact ⟨_, rfl⟩
theorem name_j (s : ByteArray) (hs : s.size ≤ 100) (b : Bool) (k : Nat) (hk : 102 ≤ k) : ∃ r, provostref03_Name.j0 k s b = some r := by
  obtain ⟨k, rfl⟩ : ∃ j, k = j + 1 := ⟨k - 1, by omega⟩
  rw [provostref03_Name.j0]
  split
  · exact ⟨_, rfl⟩
  · exact name_l s hs s.size k 0 (by omega) (by omega)
theorem name_t (s : ByteArray) (hs : s.size ≤ 100) (k : Nat) (hk : 102 ≤ k) : ∃ r, provostref03_Name.f k s = some r := by
  unfold provostref03_Name.f
  have hj := fun b => name_j s hs b k hk
  by_cases h0 : (s.size : Int) < 1
  · rw [if_pos h0]; exact hj _
  · have e : wrap64 ((s.size : Int) - 1) = (s.size : Int) - 1 := by unfold wrap64; omega
    rw [if_neg h0, e, if_pos (show (0 : Int) < (s.size : Int) by omega), if_pos (show 0 ≤ (s.size : Int) - 1 by omega), if_pos (show (s.size : Int) - 1 < (s.size : Int) by omega)]
    repeat' split
    all_goals exact hj _
theorem names_l (l : List ByteArray) (hl : l.length ≤ 101) (hs : ∀ y ∈ l, y.size ≤ 100) : ∀ (n k i : Nat), l.length = i + n → n + 102 < k → ∃ r, provostref03_names.l0 k l (i : Int) = some r
  | 0, k, i, h1, h2 => by
    obtain ⟨k, rfl⟩ : ∃ j, k = j + 1 := ⟨k - 1, by omega⟩
    unfold provostref03_names.l0
    rw [if_neg (by omega)]
    exact ⟨_, rfl⟩
  | n + 1, k, i, h1, h2 => by
    obtain ⟨k, rfl⟩ : ∃ j, k = j + 1 := ⟨k - 1, by omega⟩
    unfold provostref03_names.l0
    obtain ⟨b, hb⟩ := name_t (rdOf ByteArray.empty l (i : Int)) (hs _ (rd_mem (by omega) (by omega))) k (by omega)
    rw [if_pos (by omega), if_pos (by omega), hb, wr1 (by omega), Option.bind_some]
    have ih := names_l l hl hs n k (i + 1) (by omega) (by omega)
    split
    · exact ih
    · exact ⟨_, rfl⟩
theorem names_t (s : ByteArray) (hs : s.size ≤ 100) (k : Nat) (hk : 210 ≤ k) : ∃ r, provostref03_names.f k s = some r := by
  unfold provostref03_names.f
  obtain ⟨r, hr, h1, h2, h3⟩ := parts_t s 47 hs k (by omega)
  rw [hr, Option.bind_some]
  exact names_l r h2 h3 r.length k 0 (by omega) (by omega)
theorem split_l (l : List ByteArray) (hl : l.length = 2) (hs : ∀ y ∈ l, y.size ≤ 100) : ∀ (n k i : Nat) (b : Bool), (rdOf ByteArray.empty l 1).size = i + n → n < k → ∃ r, provostref03_Split.l0 k l b (i : Int) = some r
  | 0, k, i, b, h1, h2 => by
    obtain ⟨k, rfl⟩ : ∃ j, k = j + 1 := ⟨k - 1, by omega⟩
    unfold provostref03_Split.l0
    rw [if_pos (by omega), if_neg (by omega)]
    split
    · rw [if_pos (by omega)]; exact ⟨_, rfl⟩
    · exact ⟨_, rfl⟩
  | n + 1, k, i, b, h1, h2 => by
    obtain ⟨k, rfl⟩ : ∃ j, k = j + 1 := ⟨k - 1, by omega⟩
    have hm := hs _ (rd_mem (l := l) (i := 1) (by omega) (by omega))
    unfold provostref03_Split.l0
    obtain ⟨c, hc⟩ := small_t (bt (rdOf ByteArray.empty l 1) (i : Int))
    rw [if_pos (by omega), if_pos (by omega), if_pos (by omega), hc, wr1 (by omega), Option.bind_some]
    have ih := fun b => split_l l hl hs n k (i + 1) b (by omega) (by omega)
    repeat' split
    all_goals exact ih _
theorem split_j (l : List ByteArray) (hl : 0 < l.length) (hs : ∀ y ∈ l, y.size ≤ 100) (b : Bool) (h2 : b = true ∨ l.length = 2) (k : Nat) (hk : 211 ≤ k) : ∃ r, provostref03_Split.j0 k l b = some r := by
  obtain ⟨k, rfl⟩ : ∃ j, k = j + 1 := ⟨k - 1, by omega⟩
  rw [provostref03_Split.j0]
  split
  · exact ⟨_, rfl⟩
  · rename_i hb
    have h2 : l.length = 2 := h2.resolve_left hb
    obtain ⟨r, hr⟩ := names_t (rdOf ByteArray.empty l 0) (hs _ (rd_mem (by omega) (by omega))) k (by omega)
    rw [if_pos (by omega), hr, Option.bind_some]
    have hm := hs _ (rd_mem (l := l) (i := 1) (by omega) (by omega))
    exact split_l l h2 hs (rdOf ByteArray.empty l 1).size k 0 _ (by omega) (by omega)
theorem split_t (s : ByteArray) (hs : s.size ≤ 100) (k : Nat) (hk : 211 ≤ k) : ∃ r, provostref03_Split.f k s = some r := by
  unfold provostref03_Split.f
  obtain ⟨l, hr, h1, h2, h3⟩ := parts_t s 58 hs k (by omega)
  rw [if_neg (by omega), hr, Option.bind_some]
  by_cases hl : (l.length : Int) = 2
  · have hj := fun b => split_j l h1 h3 b (.inr (by omega)) k hk
    rw [if_pos hl, if_pos (show (0 : Int) < (l.length : Int) by omega), if_pos (show (1 : Int) < (l.length : Int) by omega)]
    repeat' split
    all_goals exact hj _
  · rw [if_neg hl]
    exact split_j l h1 h3 true (.inl rfl) k hk
theorem rticks_t (s : ByteArray) (hs : s.size ≤ 100) (k : Nat) (hk : 211 ≤ k) : ∃ r, provostref18_Ticks.f k s = some r := by
  unfold provostref18_Ticks.f
  obtain ⟨r, hr⟩ := split_t s hs k hk
  rw [hr, Option.bind_some]
  split <;> exact ⟨_, rfl⟩
theorem index_l (a : ByteArray) (l : List S136) (now : Int) (hl : l.length ≤ 1000) : ∀ (n k i : Nat), l.length = i + n → n < k → ∃ r, provostref18_Index.l0 k a (i : Int) l now = some r ∧ -1 ≤ r ∧ r < (l.length : Int)
  | 0, k, i, h1, h2 => by
    obtain ⟨k, rfl⟩ : ∃ j, k = j + 1 := ⟨k - 1, by omega⟩
    unfold provostref18_Index.l0
    rw [if_neg (by omega)]
    exact ⟨_, rfl, by omega, by omega⟩
  | n + 1, k, i, h1, h2 => by
    obtain ⟨k, rfl⟩ : ∃ j, k = j + 1 := ⟨k - 1, by omega⟩
    unfold provostref18_Index.l0
    rw [if_pos (by omega), if_pos (by omega), wr1 (by omega)]
    have ih := index_l a l now hl n k (i + 1) (by omega) (by omega)
    split
    · exact ⟨_, rfl, by omega, by omega⟩
    · exact ih
theorem index_t (l : List S136) (now : Int) (a : ByteArray) (hl : l.length ≤ 1000) (k : Nat) (hk : 1001 ≤ k) : ∃ r, provostref18_Index.f k l now a = some r ∧ -1 ≤ r ∧ r < (l.length : Int) := by
  unfold provostref18_Index.f
  exact index_l a l now hl l.length k 0 (by omega) (by omega)
theorem rthere_t (l : List S136) (now : Int) (a : ByteArray) (hl : l.length ≤ 1000) (k : Nat) (hk : 1001 ≤ k) : ∃ r, provostref18_There.f k l now a = some r ∧ -1 ≤ r ∧ r < (l.length : Int) := by
  unfold provostref18_There.f
  obtain ⟨r, hr, h1, h2⟩ := index_t l now a hl k hk
  rw [hr, Option.bind_some]
  by_cases h0 : r ≥ 0
  · rw [if_pos h0, if_pos h0, if_pos h2]
    split
    · exact ⟨_, rfl, by omega, by omega⟩
    · exact ⟨_, rfl, h1, h2⟩
  · rw [if_neg h0]
    exact ⟨_, rfl, h1, h2⟩
theorem with_t (l : List S136) (now i : Int) (a : ByteArray) (b c d : Int) (hl : l.length ≤ 1000) (h0 : 0 ≤ i) (h1 : i < (l.length : Int)) : ∃ r, provostref18_with.f l now i a b c d = some (r, now) ∧ r.length = l.length := by
  unfold provostref18_with.f
  simp only [Option.bind_some, List.nil_append, List.length_nil, Nat.zero_add]
  rw [if_pos (by omega), if_pos h0, if_pos h1]
  exact ⟨_, rfl, by rw [List.length_set]⟩
theorem rpull_l (a : ByteArray) (ha : a.size ≤ 100) (l : List S136) (now : Int) (hl : l.length ≤ 999) : ∀ (n k i : Nat), l.length = i + n → n + 211 < k → ∃ r e, provostref18_Pull.l0 k a (i : Int) l now = some (r, now, e) ∧ r.length ≤ l.length + 1
  | 0, k, i, h1, h2 => by
    obtain ⟨k, rfl⟩ : ∃ j, k = j + 1 := ⟨k - 1, by omega⟩
    obtain ⟨t, ht⟩ := rticks_t a ha k (by omega)
    unfold provostref18_Pull.l0
    rw [if_neg (by omega), ht]
    simp only [Option.bind_some, List.nil_append, List.length_nil, Nat.zero_add, List.length_append, List.length_cons, List.length_drop, List.length_take, Int.toNat_natCast]
    rw [if_pos (by omega), if_pos (by omega), if_pos (by omega), if_pos (by omega), if_pos (by omega)]
    exact ⟨_, _, rfl, by simp; omega⟩
  | n + 1, k, i, h1, h2 => by
    obtain ⟨k, rfl⟩ : ∃ j, k = j + 1 := ⟨k - 1, by omega⟩
    obtain ⟨t, ht⟩ := rticks_t a ha k (by omega)
    have ih := rpull_l a ha l now hl n k (i + 1) (by omega) (by omega)
    unfold provostref18_Pull.l0
    rw [if_pos (by omega), if_pos (by omega), wr1 (by omega), ht]
    split
    · exact ih
    · simp only [Option.bind_some, List.nil_append, List.length_nil, Nat.zero_add, List.length_append, List.length_cons, List.length_drop, List.length_take, Int.toNat_natCast]
      rw [if_pos (by omega), if_pos (by omega), if_pos (by omega), if_pos (by omega)]
      exact ⟨_, _, rfl, by simp; omega⟩
theorem rpull_t (l : List S136) (now : Int) (a : ByteArray) (ha : a.size ≤ 100) (hl : l.length ≤ 999) (k : Nat) (hk : 1300 ≤ k) : ∃ r e, provostref18_Pull.f k l now a = some (r, now, e) ∧ r.length ≤ l.length + 1 := by
  unfold provostref18_Pull.f
  obtain ⟨t, ht⟩ := rticks_t a ha k (by omega)
  obtain ⟨j, hj, h1, h2⟩ := index_t l now a (by omega) k (by omega)
  rw [ht, Option.bind_some, hj, Option.bind_some]
  by_cases h0 : t = 0
  · rw [if_pos h0]; exact ⟨_, _, rfl, by omega⟩
  · rw [if_neg h0]
    by_cases h3 : j ≥ 0
    · rw [if_pos h3, if_pos h3, if_pos h2]
      split <;> exact ⟨_, _, rfl, by omega⟩
    · rw [if_neg h3]
      split
      · exact ⟨_, _, rfl, by omega⟩
      · exact rpull_l a ha l now hl l.length k 0 (by omega) (by omega)
end Go.Proofs.YtmgcapccgncmkaaDoor.Im
namespace Go.Proofs.YtmgcapccgncmkaaDoor.Im
open Go.RowKit Go.Pv Go.Proofs.YtmgcapccgncmkaaDoorW.PrintWords Go.Proofs.YtmgcapccgncmkaaDoorW.PrintLast Go.Proofs.YtmgcapccgncmkaaDoorW.PrintMore Go.Proofs.YtmgcapccgncmkaaDoor.PImgKeeps

/-- The store of the reference as a value. -/
abbrev QR (w : World) (B : Nat) (P : Nat → Prop) (v : Value) (l : List S136) : Prop := Kd.R k136 136 w B P v l
theorem two_boxes {w : World} {x : Value} {y : Int} : ∃ W1, W1 = (w.alloc (.cells #[x, .int .i64 y] 60)).alloc (.cells #[.slice none 0 0, .int .i64 0] 60) ∧ W1.heap[w.heap.size]? = some (.cells #[x, .int .i64 y] 60 (0, 0)) ∧
    W1.heap[w.heap.size + 1]? = some (.cells #[.slice none 0 0, .int .i64 0] 60 (0, 0)) ∧ Below w.heap.size w W1 ∧ W1.heap.size = w.heap.size + 2 := by
  refine ⟨_, rfl, ?_, heap_at _ _ _ (by simp), ((Below.refl _ w).alloc (Nat.le_refl _) _).alloc (by simp) _, by simp⟩
  exact (Below.heap_alloc _ _ _ (by simp)).trans (heap_alloc_new w _)
theorem put2 {W : World} {b t : Nat} {x y p q : Value} (h : W.heap[b]? = some (.cells #[p, q] t (0, 0))) : ((W.setCell ⟨b, 0, none⟩ x).setCell ⟨b, 1, none⟩ y).heap[b]? = some (.cells #[x, y] t (0, 0)) :=
  heap_setCell_same _ b 1 _ t y (heap_setCell_same W b 0 _ t x h)
theorem cells2 {W : World} {b t : Nat} {p q : Value} (h : W.heap[b]? = some (.cells #[p, q] t (0, 0))) : W.cell? ⟨b, 0, none⟩ = some p ∧ W.cell? ⟨b, 1, none⟩ = some q ∧ ∀ j, W.frozen? ⟨b, j, none⟩ = false := by
  refine ⟨?_, ?_, fun j => by simp [World.frozen?, h]⟩ <;> (rw [cell_of_row _ _ _ _ _ _ h]; rfl)
theorem cells4 {W : World} {b t : Nat} {p q r s : Value} (h : W.heap[b]? = some (.cells #[p, q, r, s] t (0, 0))) : W.cell? ⟨b, 0, none⟩ = some p ∧ W.cell? ⟨b, 1, none⟩ = some q ∧ W.cell? ⟨b, 2, none⟩ = some r ∧ W.cell? ⟨b, 3, none⟩ = some s ∧ ∀ j, W.frozen? ⟨b, j, none⟩ = false := by
  refine ⟨?_, ?_, ?_, ?_, fun j => by simp [World.frozen?, h]⟩ <;> (rw [cell_of_row _ _ _ _ _ _ h]; rfl)
theorem blk_of {W V : World} {b : Nat} {o : Obj} (hb : Below W.heap.size W V) (h : W.heap[b]? = some o) : V.heap[b]? = some o := (hb.block b (Array.getElem?_eq_some_iff.1 h).1).trans h
theorem put2_below {w W : World} {b : Nat} {x y : Value} (h : Below w.heap.size w W) (hb : w.heap.size ≤ b) : Below w.heap.size w ((W.setCell ⟨b, 0, none⟩ x).setCell ⟨b, 1, none⟩ y) := (h.setCell (p := ⟨b, 0, none⟩) hb x).setCell (p := ⟨b, 1, none⟩) hb y
theorem put2_R {W : World} {B b : Nat} {P : Nat → Prop} {v x y : Value} {l : List S136} (h : QR W B P v l) (hP : ∀ k, P k → k ≠ b) : QR ((W.setCell ⟨b, 0, none⟩ x).setCell ⟨b, 1, none⟩ y) B P v l :=
  Kd.R_far (p := ⟨b, 1, none⟩) (Kd.R_far (p := ⟨b, 0, none⟩) h hP x) hP y

set_option maxRecDepth 10000 in
set_option maxHeartbeats 2000000 in
theorem ruse_any {w : World} {B c : Nat} {P : Nat → Prop} {A : Option Addr} {l : List S136} {now : Int} {a : ByteArray} (hR : QR w B P (.slice A l.length c) l) (hB : B ≤ w.heap.size) (hP : ∀ k, P k → k < w.heap.size) (hl : l.length ≤ 1000) :
    Calls Tryd.prog 65 #[.agg #[.slice A l.length c, .int .i64 now], .string a] w fun e w' => ∃ v r m t, e = .returned (.tuple #[.agg #[v, .int .i64 m], .int .i64 t]) ∧ QR w' B (fun k => P k ∨ w.heap.size ≤ k) v r ∧ r.length = l.length ∧ Below w.heap.size w w' := by
  obtain ⟨j, hj, h1, h2⟩ := rthere_t l now a hl 1300 (by omega)
  have hc := (Kd.R_reads' hR).2.1
  have HTh := hid (fun W (hC : Kd.C k136 W A l.length l) => provostref18_There.calls 1300 A c l now a j W hC hc hj)
  have HR := hid hR
  obtain ⟨W1, hW1, k2, k4, hB1, hS1⟩ := two_boxes (w := w) (x := .slice A l.length c) (y := now)
  have HC1 := hid (Kd.C_below (Kd.R_reads' hR).2.2 hB1)
  have HB1 := hid hB1
  obtain ⟨b2, hb2⟩ : ∃ b2, b2 = w.heap.size := ⟨_, rfl⟩
  obtain ⟨b4, hb4⟩ : ∃ b4, b4 = w.heap.size + 1 := ⟨_, rfl⟩
  rw [← hb2] at k2
  rw [← hb4] at k4
  have K2 := hid k2
  have K4 := hid k4
  have HS1 := hid hS1
  have HP := hid hP
  obtain ⟨e20, e21, e2f⟩ := cells2 k2
  clear hj hR hB1 k2 k4 hS1 hP
  by_cases h0 : j < 0
  · have hd : decide (j < 0) = true := decide_eq_true h0
    go_enter Tryd.func65, Tryd.ntmps65
    go_upto_region 1 with fail
    rw [← hb4, ← hb2, ← hW1]
    have HB4 := hid hb4
    have HB2 := hid hb2
    clear hW1 hb4 hb2
    go_upto_region 3 with (go_at_call 96; go_must (with_reducible refine (HTh.out _ HC1.out).mono ?_); rintro e w2 ⟨rfl, hb⟩; have HB3 := hid hb; clear hb)
    have K2' := hid (blk_of HB3.out K2.out)
    have K4' := hid (blk_of HB3.out K4.out)
    obtain ⟨u0, u1, uf⟩ := cells2 K2'.out
    obtain ⟨v0, v1, vf⟩ := cells2 K4'.out
    have vf0 := vf 0
    have vf1 := vf 1
    clear e20 e21 e2f uf vf
    go_wp2_with fail
    refine bodyPost_ret (results_ct rfl _ _ b4 60 #[.slice A l.length c, .int .i64 now] (0, 0) _ rfl (put2 K4'.out) Tryd.underlying60 rfl (by kernel_rfl)) rfl ?_
    have hbb : Below w.heap.size w w2 := HB1.out.trans (HB3.out.mono HB1.out.size)
    have h4 := HB4.out
    exact ⟨_, l, now, _, rfl, Kd.R_mono (put2_R (Kd.R_below HR.out hbb) (fun k hk => by have := HP.out k hk; omega)) (fun k hk => .inl hk), rfl, put2_below hbb (by omega)⟩
  · have hd : decide (j < 0) = false := decide_eq_false h0
    obtain ⟨i, rfl⟩ : ∃ i : Nat, j = (i : Int) := ⟨j.toNat, by omega⟩
    have hil : i < l.length := by omega
    go_enter Tryd.func65, Tryd.ntmps65
    go_upto_region 1 with fail
    rw [← hb4, ← hb2, ← hW1]
    have HB4 := hid hb4
    have HB2 := hid hb2
    clear hW1 hb4 hb2 h0 h1 h2
    go_upto_region 4 with (go_at_call 96; go_must (with_reducible refine (HTh.out _ HC1.out).mono ?_); rintro e w2 ⟨rfl, hb⟩; have HB3 := hid hb; clear hb)
    have K2' := hid (blk_of HB3.out K2.out)
    have K4' := hid (blk_of HB3.out K4.out)
    have HC2 := hid (Kd.C_below HC1.out HB3.out)
    obtain ⟨u0, u1, uf⟩ := cells2 K2'.out
    obtain ⟨ad, hA, d0, d1, d2, d3⟩ := at_T136 HC2.out (i : Int) (by omega) (by omega)
    subst hA
    simp only [Int.toNat_natCast] at d0 d1 d2 d3
    obtain ⟨r, hr, hrl⟩ := with_t l now (i : Int) ((rd_T136 l (i : Int)).f0) ((rd_T136 l (i : Int)).f1) (wrap64 (((rd_T136 l (i : Int)).f2) + 1)) ((rd_T136 l (i : Int)).f3) hl (by omega) (by omega)
    have HWi := hid (fun W (hC : Kd.C k136 W (some ad) l.length l) => provostref18_with.calls (some ad) c l now (i : Int) _ _ _ _ r now W hC hc hr)
    generalize (rd_T136 l (i : Int)).f0 = f0 at d0 HWi
    generalize (rd_T136 l (i : Int)).f1 = f1 at d1 HWi
    generalize (rd_T136 l (i : Int)).f2 = f2 at d2 HWi
    generalize (rd_T136 l (i : Int)).f3 = f3 at d3 HWi
    have HRL := hid hrl
    clear e20 e21 e2f uf hr hrl
    go_upto_region 6 with fail
    obtain ⟨W5, hW5⟩ : ∃ W5, W5 = w2.alloc (.cells #[.string f0, .int .i64 f1, .int .i64 (wrap64 (f2 + 1)), .int .i64 f3] 136) := ⟨_, rfl⟩
    have hB5 : Below w2.heap.size w2 W5 := by rw [hW5]; exact (Below.refl _ w2).alloc (Nat.le_refl _) _
    have k7 : W5.heap[w2.heap.size]? = some (.cells #[.string f0, .int .i64 f1, .int .i64 (wrap64 (f2 + 1)), .int .i64 f3] 136 (0, 0)) := by rw [hW5]; exact heap_alloc_new _ _
    rw [← hW5]
    have HB5 := hid hB5
    have K25 := hid (blk_of hB5 K2'.out)
    have K45 := hid (blk_of hB5 K4'.out)
    have HC5 := hid (Kd.C_below HC2.out hB5)
    obtain ⟨p0, p1, p2, p3, pf⟩ := cells4 k7
    obtain ⟨q0, q1, qf⟩ := cells2 K25.out
    clear d0 d1 d2 d3 u0 u1 pf qf k7 hW5 hB5
    have HF := hid (show ∀ V, Below W5.heap.size W5 V → V.cell? ⟨b4, 0, none⟩ = some (.slice none 0 0) ∧ V.cell? ⟨b4, 1, none⟩ = some (.int .i64 0) ∧ ∀ j, V.frozen? ⟨b4, j, none⟩ = false from fun V hV => cells2 (blk_of hV K45.out))
    go_wp2_with (go_at_call 95; go_must (with_reducible refine (HWi.out _ HC5.out).mono ?_); rintro e w6 ⟨v6, rfl, hR6, hb⟩; obtain ⟨A6, c6, hv6⟩ := Kd.R_slice hR6; subst hv6; have HR6 := hid hR6; have HB6 := hid hb; obtain ⟨v0, v1, vf⟩ := HF.out _ hb; have vf0 := vf 0; have vf1 := vf 1; clear hR6 hb vf)
    have K46 := hid (blk_of HB6.out K45.out)
    refine bodyPost_ret (results_ct rfl _ _ b4 60 #[.slice A6 r.length c6, .int .i64 now] (0, 0) _ rfl (put2 K46.out) Tryd.underlying60 rfl (by kernel_rfl)) rfl ?_
    have hbb : Below w.heap.size w w2 := HB1.out.trans (HB3.out.mono HB1.out.size)
    have hb5 : Below w.heap.size w W5 := hbb.trans (HB5.out.mono hbb.size)
    have hb6 : Below w.heap.size w w6 := hb5.trans (HB6.out.mono hb5.size)
    have h4 := HB4.out
    have hS := HS1.out
    have hs5 := HB5.out.size
    have hs3 := HB3.out.size
    have hs45 : b4 < W5.heap.size := by omega
    exact ⟨_, r, now, _, rfl, Kd.R_mono (put2_R (Kd.R_lower (Kd.R_bound HR6.out) (by have := hb5.size; omega)) (fun k hk => by have := hk.2.1; omega)) (fun k hk => .inr (by have := hk.2.1; have := hb5.size; omega)), HRL.out, put2_below hb6 (by omega)⟩
end Go.Proofs.YtmgcapccgncmkaaDoor.Im
namespace Go.Proofs.YtmgcapccgncmkaaDoor.Im
open Go.RowKit Go.Pv Go.Proofs.YtmgcapccgncmkaaDoorW.PrintWords Go.Proofs.YtmgcapccgncmkaaDoorW.PrintLast Go.Proofs.YtmgcapccgncmkaaDoorW.PrintMore Go.Proofs.YtmgcapccgncmkaaDoor.PImgKeeps

set_option maxRecDepth 10000 in
set_option maxHeartbeats 2000000 in
theorem rleave_any {w : World} {B c : Nat} {P : Nat → Prop} {A : Option Addr} {l : List S136} {now : Int} {a : ByteArray} (hR : QR w B P (.slice A l.length c) l) (hB : B ≤ w.heap.size) (hP : ∀ k, P k → k < w.heap.size) (hl : l.length ≤ 1000) :
    Calls Tryd.prog 67 #[.agg #[.slice A l.length c, .int .i64 now], .string a] w fun e w' => ∃ v r m t, e = .returned (.tuple #[.agg #[v, .int .i64 m], .int .i64 t]) ∧ QR w' B (fun k => P k ∨ w.heap.size ≤ k) v r ∧ r.length = l.length ∧ Below w.heap.size w w' := by
  obtain ⟨j, hj, h1, h2⟩ := rthere_t l now a hl 1300 (by omega)
  have hc := (Kd.R_reads' hR).2.1
  have HTh := hid (fun W (hC : Kd.C k136 W A l.length l) => provostref18_There.calls 1300 A c l now a j W hC hc hj)
  have HR := hid hR
  obtain ⟨W1, hW1, k2, k4, hB1, hS1⟩ := two_boxes (w := w) (x := .slice A l.length c) (y := now)
  have HC1 := hid (Kd.C_below (Kd.R_reads' hR).2.2 hB1)
  have HB1 := hid hB1
  obtain ⟨b2, hb2⟩ : ∃ b2, b2 = w.heap.size := ⟨_, rfl⟩
  obtain ⟨b4, hb4⟩ : ∃ b4, b4 = w.heap.size + 1 := ⟨_, rfl⟩
  rw [← hb2] at k2
  rw [← hb4] at k4
  have K2 := hid k2
  have K4 := hid k4
  have HS1 := hid hS1
  have HP := hid hP
  obtain ⟨e20, e21, e2f⟩ := cells2 k2
  clear hj hR hB1 k2 k4 hS1 hP
  by_cases h0 : j < 0
  · have hd : decide (j < 0) = true := decide_eq_true h0
    go_enter Tryd.func67, Tryd.ntmps67
    go_upto_region 1 with fail
    rw [← hb4, ← hb2, ← hW1]
    have HB4 := hid hb4
    have HB2 := hid hb2
    clear hW1 hb4 hb2
    go_upto_region 3 with (go_at_call 96; go_must (with_reducible refine (HTh.out _ HC1.out).mono ?_); rintro e w2 ⟨rfl, hb⟩; have HB3 := hid hb; clear hb)
    have K2' := hid (blk_of HB3.out K2.out)
    have K4' := hid (blk_of HB3.out K4.out)
    obtain ⟨u0, u1, uf⟩ := cells2 K2'.out
    obtain ⟨v0, v1, vf⟩ := cells2 K4'.out
    have vf0 := vf 0
    have vf1 := vf 1
    clear e20 e21 e2f uf vf
    go_wp2_with fail
    refine bodyPost_ret (results_ct rfl _ _ b4 60 #[.slice A l.length c, .int .i64 now] (0, 0) _ rfl (put2 K4'.out) Tryd.underlying60 rfl (by kernel_rfl)) rfl ?_
    have hbb : Below w.heap.size w w2 := HB1.out.trans (HB3.out.mono HB1.out.size)
    have h4 := HB4.out
    exact ⟨_, l, now, _, rfl, Kd.R_mono (put2_R (Kd.R_below HR.out hbb) (fun k hk => by have := HP.out k hk; omega)) (fun k hk => .inl hk), rfl, put2_below hbb (by omega)⟩
  · have hd : decide (j < 0) = false := decide_eq_false h0
    obtain ⟨i, rfl⟩ : ∃ i : Nat, j = (i : Int) := ⟨j.toNat, by omega⟩
    have hil : i < l.length := by omega
    go_enter Tryd.func67, Tryd.ntmps67
    go_upto_region 1 with fail
    rw [← hb4, ← hb2, ← hW1]
    have HB4 := hid hb4
    have HB2 := hid hb2
    clear hW1 hb4 hb2 h0 h1 h2
    go_upto_region 4 with (go_at_call 96; go_must (with_reducible refine (HTh.out _ HC1.out).mono ?_); rintro e w2 ⟨rfl, hb⟩; have HB3 := hid hb; clear hb)
    have K2' := hid (blk_of HB3.out K2.out)
    have K4' := hid (blk_of HB3.out K4.out)
    have HC2 := hid (Kd.C_below HC1.out HB3.out)
    obtain ⟨u0, u1, uf⟩ := cells2 K2'.out
    obtain ⟨ad, hA, d0, d1, d2, d3⟩ := at_T136 HC2.out (i : Int) (by omega) (by omega)
    subst hA
    simp only [Int.toNat_natCast] at d0 d1 d2 d3
    obtain ⟨f0, hf0⟩ : ∃ f, f = (rd_T136 l (i : Int)).f0 := ⟨_, rfl⟩
    obtain ⟨f1, hf1⟩ : ∃ f, f = (rd_T136 l (i : Int)).f1 := ⟨_, rfl⟩
    obtain ⟨f2, hf2⟩ : ∃ f, f = (rd_T136 l (i : Int)).f2 := ⟨_, rfl⟩
    obtain ⟨f3, hf3⟩ : ∃ f, f = (rd_T136 l (i : Int)).f3 := ⟨_, rfl⟩
    rw [← hf0] at d0
    rw [← hf1] at d1
    rw [← hf2] at d2
    rw [← hf3] at d3
    clear hf0 hf1 hf2 hf3 e20 e21 e2f uf
    by_cases hz : f2 = 0
    · have hd2 : decide (f2 = 0) = true := decide_eq_true hz
      have hd3 : (f2 == 0) = true := by simpa using hz
      clear hz
      go_upto_region 6 with fail
      obtain ⟨W5, hW5⟩ : ∃ W5, W5 = w2.alloc (.cells #[.string f0, .int .i64 f1, .int .i64 f2, .int .i64 f3] 136) := ⟨_, rfl⟩
      have hB5 : Below w2.heap.size w2 W5 := by rw [hW5]; exact (Below.refl _ w2).alloc (Nat.le_refl _) _
      rw [← hW5]
      have K25 := hid (blk_of hB5 K2'.out)
      have K45 := hid (blk_of hB5 K4'.out)
      obtain ⟨q0, q1, qf⟩ := cells2 K25.out
      obtain ⟨v0, v1, vf⟩ := cells2 K45.out
      have vf0 := vf 0
      have vf1 := vf 1
      have HB5 := hid hB5
      clear qf vf d0 d1 d2 d3 u0 u1 hW5 hB5
      go_wp2_with fail
      refine bodyPost_ret (results_ct rfl _ _ b4 60 #[.slice (some ad) l.length c, .int .i64 now] (0, 0) _ rfl (put2 K45.out) Tryd.underlying60 rfl (by kernel_rfl)) rfl ?_
      have hbb : Below w.heap.size w w2 := HB1.out.trans (HB3.out.mono HB1.out.size)
      have hb5 : Below w.heap.size w W5 := hbb.trans (HB5.out.mono hbb.size)
      have h4 := HB4.out
      exact ⟨_, l, now, _, rfl, Kd.R_mono (put2_R (Kd.R_below HR.out hb5) (fun k hk => by have := HP.out k hk; omega)) (fun k hk => .inl hk), rfl, put2_below hb5 (by omega)⟩
    · have hd2 : decide (f2 = 0) = false := decide_eq_false hz
      have hd3 : (f2 == 0) = false := by simpa using hz
      clear hz
      by_cases hy : wrap64 (f2 - 1) = 0
      · have hd4 : decide (wrap64 (f2 - 1) = 0) = true := decide_eq_true hy
        have hd5 : (wrap64 (f2 - 1) == 0) = true := by simpa using hy
        have hb2l : b2 < w2.heap.size := (Array.getElem?_eq_some_iff.1 K2'.out).1
        clear hy
        obtain ⟨r, hr, hrl⟩ := with_t l now (i : Int) f0 f1 (wrap64 (f2 - 1)) now hl (by omega) (by omega)
        have HWi := hid (fun W (hC : Kd.C k136 W (some ad) l.length l) => provostref18_with.calls (some ad) c l now (i : Int) _ _ _ _ r now W hC hc hr)
        have HRL := hid hrl
        clear hr hrl
        go_upto_region 10 with fail
        obtain ⟨W5, hW5⟩ : ∃ W5, W5 = w2.alloc (.cells #[.string f0, .int .i64 f1, .int .i64 (wrap64 (f2 - 1)), .int .i64 now] 136) := ⟨_, rfl⟩
        have hB5 : Below w2.heap.size w2 W5 := by rw [hW5]; exact (Below.refl _ w2).alloc (Nat.le_refl _) _
        have k7 : W5.heap[w2.heap.size]? = some (.cells #[.string f0, .int .i64 f1, .int .i64 (wrap64 (f2 - 1)), .int .i64 now] 136 (0, 0)) := by rw [hW5]; exact heap_alloc_new _ _
        rw [← hW5]
        have HB5 := hid hB5
        have K25 := hid (blk_of hB5 K2'.out)
        have K45 := hid (blk_of hB5 K4'.out)
        have HC5 := hid (Kd.C_below HC2.out hB5)
        obtain ⟨p0, p1, p2, p3, pf⟩ := cells4 k7
        obtain ⟨q0, q1, qf⟩ := cells2 K25.out
        clear d0 d1 d2 d3 u0 u1 pf qf k7 hW5 hB5
        have HF := hid (show ∀ V, Below W5.heap.size W5 V → V.cell? ⟨b4, 0, none⟩ = some (.slice none 0 0) ∧ V.cell? ⟨b4, 1, none⟩ = some (.int .i64 0) ∧ ∀ j, V.frozen? ⟨b4, j, none⟩ = false from fun V hV => cells2 (blk_of hV K45.out))
        go_wp2_with (go_at_call 95; go_must (with_reducible refine (HWi.out _ HC5.out).mono ?_); rintro e w6 ⟨v6, rfl, hR6, hb⟩; obtain ⟨A6, c6, hv6⟩ := Kd.R_slice hR6; subst hv6; have HR6 := hid hR6; have HB6 := hid hb; obtain ⟨v0, v1, vf⟩ := HF.out _ hb; have vf0 := vf 0; have vf1 := vf 1; clear hR6 hb vf)
        have K46 := hid (blk_of HB6.out K45.out)
        refine bodyPost_ret (results_ct rfl _ _ b4 60 #[.slice A6 r.length c6, .int .i64 now] (0, 0) _ rfl (put2 K46.out) Tryd.underlying60 rfl (by kernel_rfl)) rfl ?_
        have hbb : Below w.heap.size w w2 := HB1.out.trans (HB3.out.mono HB1.out.size)
        have hb5 : Below w.heap.size w W5 := hbb.trans (HB5.out.mono hbb.size)
        have hb6 : Below w.heap.size w w6 := hb5.trans (HB6.out.mono hb5.size)
        have h4 := HB4.out
        have hS := HS1.out
        have hs5 := HB5.out.size
        have hs3 := HB3.out.size
        have hs45 : b4 < W5.heap.size := by omega
        exact ⟨_, r, now, _, rfl, Kd.R_mono (put2_R (Kd.R_lower (Kd.R_bound HR6.out) (by have := hb5.size; omega)) (fun k hk => by have := hk.2.1; omega)) (fun k hk => .inr (by have := hk.2.1; have := hb5.size; omega)), HRL.out, put2_below hb6 (by omega)⟩
      · have hd4 : decide (wrap64 (f2 - 1) = 0) = false := decide_eq_false hy
        have hd5 : (wrap64 (f2 - 1) == 0) = false := by simpa using hy
        clear hy
        obtain ⟨r, hr, hrl⟩ := with_t l now (i : Int) f0 f1 (wrap64 (f2 - 1)) f3 hl (by omega) (by omega)
        have HWi := hid (fun W (hC : Kd.C k136 W (some ad) l.length l) => provostref18_with.calls (some ad) c l now (i : Int) _ _ _ _ r now W hC hc hr)
        have HRL := hid hrl
        clear hr hrl
        go_upto_region 10 with fail
        obtain ⟨W5, hW5⟩ : ∃ W5, W5 = w2.alloc (.cells #[.string f0, .int .i64 f1, .int .i64 (wrap64 (f2 - 1)), .int .i64 f3] 136) := ⟨_, rfl⟩
        have hB5 : Below w2.heap.size w2 W5 := by rw [hW5]; exact (Below.refl _ w2).alloc (Nat.le_refl _) _
        have k7 : W5.heap[w2.heap.size]? = some (.cells #[.string f0, .int .i64 f1, .int .i64 (wrap64 (f2 - 1)), .int .i64 f3] 136 (0, 0)) := by rw [hW5]; exact heap_alloc_new _ _
        rw [← hW5]
        have HB5 := hid hB5
        have K25 := hid (blk_of hB5 K2'.out)
        have K45 := hid (blk_of hB5 K4'.out)
        have HC5 := hid (Kd.C_below HC2.out hB5)
        obtain ⟨p0, p1, p2, p3, pf⟩ := cells4 k7
        obtain ⟨q0, q1, qf⟩ := cells2 K25.out
        clear d0 d1 d2 d3 u0 u1 pf qf k7 hW5 hB5
        have HF := hid (show ∀ V, Below W5.heap.size W5 V → V.cell? ⟨b4, 0, none⟩ = some (.slice none 0 0) ∧ V.cell? ⟨b4, 1, none⟩ = some (.int .i64 0) ∧ ∀ j, V.frozen? ⟨b4, j, none⟩ = false from fun V hV => cells2 (blk_of hV K45.out))
        go_wp2_with (go_at_call 95; go_must (with_reducible refine (HWi.out _ HC5.out).mono ?_); rintro e w6 ⟨v6, rfl, hR6, hb⟩; obtain ⟨A6, c6, hv6⟩ := Kd.R_slice hR6; subst hv6; have HR6 := hid hR6; have HB6 := hid hb; obtain ⟨v0, v1, vf⟩ := HF.out _ hb; have vf0 := vf 0; have vf1 := vf 1; clear hR6 hb vf)
        have K46 := hid (blk_of HB6.out K45.out)
        refine bodyPost_ret (results_ct rfl _ _ b4 60 #[.slice A6 r.length c6, .int .i64 now] (0, 0) _ rfl (put2 K46.out) Tryd.underlying60 rfl (by kernel_rfl)) rfl ?_
        have hbb : Below w.heap.size w w2 := HB1.out.trans (HB3.out.mono HB1.out.size)
        have hb5 : Below w.heap.size w W5 := hbb.trans (HB5.out.mono hbb.size)
        have hb6 : Below w.heap.size w w6 := hb5.trans (HB6.out.mono hb5.size)
        have h4 := HB4.out
        have hS := HS1.out
        have hs5 := HB5.out.size
        have hs3 := HB3.out.size
        have hs45 : b4 < W5.heap.size := by omega
        exact ⟨_, r, now, _, rfl, Kd.R_mono (put2_R (Kd.R_lower (Kd.R_bound HR6.out) (by have := hb5.size; omega)) (fun k hk => by have := hk.2.1; omega)) (fun k hk => .inr (by have := hk.2.1; have := hb5.size; omega)), HRL.out, put2_below hb6 (by omega)⟩
end Go.Proofs.YtmgcapccgncmkaaDoor.Im
namespace Go.Proofs.YtmgcapccgncmkaaDoor.Im
open Go.RowKit Go.Pv Go.Proofs.YtmgcapccgncmkaaDoorW.PrintWords Go.Proofs.YtmgcapccgncmkaaDoorW.PrintLast Go.Proofs.YtmgcapccgncmkaaDoorW.PrintMore Go.Proofs.YtmgcapccgncmkaaDoor.PImgKeeps

/-- While the reference's tick goes. -/
structure NX (w W : World) (B b1 b2 : Nat) (P : Nat → Prop) (v : Value) (l : List S136) (T : Int) (s : Value) (L : List ByteArray) : Prop where
  low : Below w.heap.size w W
  k1 : W.heap[b1]? = some (.cells #[v, .int .i64 T] 60 (0, 0))
  k2 : W.heap[b2]? = some (.cells #[.slice none 0 0, .int .i64 0] 60 (0, 0))
  r : QR W B (fun k => (P k ∨ w.heap.size ≤ k) ∧ k ≠ b1 ∧ k ≠ b2 ∧ some k ≠ s.ownBlock) v l
  sl : SlOf W 9 1 encS s L
  new : ∀ g, s.ownBlock = some g → w.heap.size ≤ g ∧ g ≠ b1 ∧ g ≠ b2
  b : w.heap.size ≤ b1 ∧ w.heap.size ≤ b2 ∧ b1 ≠ b2
section
variable {w W V : World} {B b1 b2 : Nat} {P : Nat → Prop} {v s : Value} {l : List S136} {T : Int} {L : List ByteArray}
theorem NX.lt (h : NX w W B b1 b2 P v l T s L) : b1 < W.heap.size ∧ b2 < W.heap.size := ⟨(Array.getElem?_eq_some_iff.1 h.k1).1, (Array.getElem?_eq_some_iff.1 h.k2).1⟩
theorem NX.later (h : NX w W B b1 b2 P v l T s L) (hb : Below W.heap.size W V) : NX w V B b1 b2 P v l T s L :=
  ⟨h.low.trans (hb.mono h.low.size), blk_of hb h.k1, blk_of hb h.k2, Kd.R_below h.r hb, SlRow.kept h.sl (Keeps.of_below (F := fun _ => False) hb) (by simp), h.new, h.b⟩
theorem NX.app {A1 : Option Addr} {n1 c1 : Nat} (h : NX w W B b1 b2 P v l T (.slice A1 n1 c1) L) (hL : L.length ≤ 1000) (hn : n1 = L.length) (x : ByteArray) :
    ∃ A' n' c' w3, Hid ((Builtin.append_ #[69, 69] 69 #[.slice A1 n1 c1, .slice (some ⟨W.heap.size, 0, none⟩) 1 1]).run Tryd.prog (W.alloc (.cells #[.string x] 9)) = .ok (.slice A' n' c') w3) ∧ Hid (n' = (L ++ [x]).length) ∧
      Hid (NX w w3 B b1 b2 P v l T (.slice A' n' c') (L ++ [x])) ∧ Hid (Keeps (fun k => (Value.slice A1 n1 c1).ownBlock = some k) W w3) := by
  obtain ⟨A', n', c', w3, hr, hn', hs, hk, hl⟩ := sapp1 h.sl hL hn x
  have hlt := h.lt
  refine ⟨A', n', c', w3, hr, hn', ⟨h.low.trans (hk.below h.low.size (fun i hi => (h.new i hi).1)), (hk.block b1 hlt.1 (fun e => (h.new _ e).2.1 rfl)).trans h.k1, (hk.block b2 hlt.2 (fun e => (h.new _ e).2.2 rfl)).trans h.k2, ?_, hs, fun g hg => ?_, h.b⟩, hk⟩
  · refine Kd.R_mono (Kd.R_kept (S := fun k => (Value.slice A1 n1 c1).ownBlock = some k) (Kd.R_bound h.r) ⟨hk.size, hk.block⟩ (fun k hk e => hk.1.2.2.2 e.symm)) (fun k hk => ⟨hk.1.1, hk.1.2.1, hk.1.2.2.1, fun e => ?_⟩)
    rcases hl with h1 | ⟨g, h1, h2⟩
    · exact hk.1.2.2.2 (e.trans h1)
    · rw [h1] at e
      cases e
      have := hk.2.2.1
      omega
  · rcases hl with h1 | ⟨g', h1, h2⟩
    · exact h.new g (h1 ▸ hg)
    · rw [h1] at hg
      cases hg
      have := h.low.size
      exact ⟨by omega, by omega, by omega⟩
/-- A new row of images is laid in. -/
theorem NX.with {r : List S136} {v6 : Value} (h : NX w W B b1 b2 P v l T s L) (hR : QR V W.heap.size (fun _ => True) v6 r) (hb : Below W.heap.size W V) (hB : B ≤ w.heap.size) :
    NX w ((V.setCell ⟨b1, 0, none⟩ v6).setCell ⟨b1, 1, none⟩ (.int .i64 T)) B b1 b2 P v6 r T s L := by
  have h2 := h.later hb
  have hlt := h.lt
  have hs := h.low.size
  have hk : Keeps (fun i => i = b1) V ((V.setCell ⟨b1, 0, none⟩ v6).setCell ⟨b1, 1, none⟩ (.int .i64 T)) := ((Keeps.refl (fun i => i = b1) V).setCell ⟨b1, 0, none⟩ _ (.inl rfl)).setCell ⟨b1, 1, none⟩ _ (.inl rfl)
  refine ⟨put2_below h2.low h.b.1, put2 h2.k1, (hk.block b2 h2.lt.2 (fun e => h.b.2.2 e.symm)).trans h2.k2, ?_, SlRow.kept h2.sl hk (fun g hg e => (h.new g hg).2.1 e), h.new, h.b⟩
  refine Kd.R_mono (put2_R (Kd.R_lower (Kd.R_bound hR) (by omega)) (fun k hk => by have := hk.2.1; omega)) (fun k hk => ?_)
  have h3 := hk.2.1
  refine ⟨.inr (by omega), by omega, by omega, fun e => ?_⟩
  have := SlRow.lt h.sl e.symm
  omega
end
set_option maxRecDepth 10000 in
set_option maxHeartbeats 4000000 in
theorem rnext_any {w : World} {B c : Nat} {P : Nat → Prop} {A : Option Addr} {l : List S136} {now : Int} (hR : QR w B P (.slice A l.length c) l) (hB : B ≤ w.heap.size) (hP : ∀ k, P k → k < w.heap.size) (hl : l.length ≤ 1000) :
    Calls Tryd.prog 62 #[.agg #[.slice A l.length c, .int .i64 now]] w fun e w' => ∃ v r m A' n' c' L, e = .returned (.tuple #[.agg #[v, .int .i64 m], .slice A' n' c']) ∧ QR w' B (fun k => P k ∨ w.heap.size ≤ k) v r ∧ r.length = l.length ∧ Below w.heap.size w w' ∧
      n' = L.length ∧ L.length ≤ l.length ∧ SlOf w' 9 1 encS (.slice A' n' c') L := by
  obtain ⟨W1, hW1, k2, k4, hB1, hS1⟩ := two_boxes (w := w) (x := .slice A l.length c) (y := now)
  obtain ⟨b1, hb1⟩ : ∃ b1, b1 = w.heap.size := ⟨_, rfl⟩
  obtain ⟨b2, hb2⟩ : ∃ b2, b2 = w.heap.size + 1 := ⟨_, rfl⟩
  obtain ⟨T, hT⟩ : ∃ T, T = wrap64 (now + 1) := ⟨_, rfl⟩
  obtain ⟨W2, hW2⟩ : ∃ W2, W2 = W1.setCell ⟨b1, 1, none⟩ (.int .i64 T) := ⟨_, rfl⟩
  rw [← hb1] at k2
  rw [← hb2] at k4
  have hk2 : Keeps (fun i => i = b1) W1 W2 := by rw [hW2]; exact (Keeps.refl (fun i => i = b1) W1).setCell ⟨b1, 1, none⟩ _ (.inl rfl)
  have H0 : NX w W2 B b1 b2 P (.slice A l.length c) l T (.slice none 0 0) [] := by
    refine ⟨by rw [hW2]; exact hB1.setCell (p := ⟨b1, 1, none⟩) (by simp only; omega) _, by rw [hW2]; exact heap_setCell_same _ b1 1 _ _ _ k2, (hk2.block b2 (Array.getElem?_eq_some_iff.1 k4).1 (by omega)).trans k4, ?_, SlRow.nil _ _ _, by simp [Value.ownBlock], by omega, by omega, by omega⟩
    rw [hW2]
    exact Kd.R_mono (Kd.R_far (p := ⟨b1, 1, none⟩) (Kd.R_below hR hB1) (fun k hk => by have := hP k hk; simp only; omega) (.int .i64 T)) (fun k hk => by have := hP k hk; exact ⟨.inl hk, by omega, by omega, by simp [Value.ownBlock]⟩)
  have HN0 := hid H0
  have HB := hid hB
  obtain ⟨e20, e21, e2f⟩ := cells2 k2
  have e2f1 := e2f 1
  obtain ⟨n, hn⟩ : ∃ n, n = l.length := ⟨_, rfl⟩
  rw [← hn] at HN0 hl hW1 ⊢
  have hln := hid hn.symm
  clear hn e2f hR hB1 k2 k4 hS1 hP hk2 H0 hB
  go_enter Tryd.func62, Tryd.ntmps62
  go_upto_region 1 with fail
  rw [← hb2, ← hb1, ← hW1]
  clear hW1 hb1 hb2
  go_upto_region 2 with fail
  rw [← hT, ← hW2]
  clear e20 e21 e2f1 hT hW2
  go_wp2_with fail
  go_loopg [4, 5] n (fun q s4 s5 wr => ∃ (k : Nat) (A1 : Option Addr) (n1 c1 : Nat) (A2 : Option Addr) (c2 : Nat) (l2 : List S136) (L : List ByteArray), s4 = .slice A1 n1 c1 ∧ s5 = .int .i64 (k : Int) ∧ q = n - k ∧ k ≤ n ∧ Hid (l2.length = n) ∧ Hid (n1 = L.length) ∧ Hid (L.length ≤ k) ∧ Hid (NX w wr B b1 b2 P (.slice A2 n c2) l2 T (.slice A1 n1 c1) L))
  case atStart => exact ⟨0, none, 0, 0, A, c, l, [], rfl, rfl, by omega, by omega, hln, hid rfl, hid (Nat.zero_le _), HN0⟩
  case round =>
    clear HN0
    obtain ⟨k, A1, n1, c1, A2, c2, l2, L, rfl, rfl, rfl, hkn, hl2, hn1, hLk, HN⟩ := hrel
    have hwk : wrap64 ((k : Int) + 1) = ((k + 1 : Nat) : Int) := wr1 (by omega)
    have hwk2 : IntKind.i64.wrap ((k : Int) + 1) = ((k + 1 : Nat) : Int) := by rw [IntWalk.i64_in _ (by omega)]; omega
    obtain ⟨x0, x1, -⟩ := cells2 HN.out.k1
    by_cases hlt : k < n
    · have hc2 := (Kd.R_reads' HN.out.r).2.1
      have hC := (Kd.R_reads' HN.out.r).2.2
      rw [hl2.out] at hC
      obtain ⟨ad, hA, d0, d1, d2, d3⟩ := at_T136 hC (k : Int) (by omega) (by omega)
      subst hA
      simp only [Int.toNat_natCast] at d0 d1 d2 d3
      obtain ⟨f0, hf0⟩ : ∃ f, f = (rd_T136 l2 (k : Int)).f0 := ⟨_, rfl⟩
      obtain ⟨f1, hf1⟩ : ∃ f, f = (rd_T136 l2 (k : Int)).f1 := ⟨_, rfl⟩
      obtain ⟨f2, hf2⟩ : ∃ f, f = (rd_T136 l2 (k : Int)).f2 := ⟨_, rfl⟩
      obtain ⟨f3, hf3⟩ : ∃ f, f = (rd_T136 l2 (k : Int)).f3 := ⟨_, rfl⟩
      rw [← hf0] at d0
      rw [← hf1] at d1
      rw [← hf2] at d2
      rw [← hf3] at d3
      have hb1l := HN.out.lt.1
      have hcc := hid hc2
      clear hf0 hf1 hf2 hf3 hC hc2
      by_cases hz : f1 = 0
      · have hd2 : decide (f1 = 0) = true := decide_eq_true hz
        have hd3 : (f1 == 0) = true := by simpa using hz
        have HN2 := hid (HN.out.later ((Below.refl _ wr).alloc (Nat.le_refl _) (.cells #[.string f0, .int .i64 f1, .int .i64 f2, .int .i64 f3] 136)))
        clear hz
        go_wp2_with fail
        go_roundg (n - (k + 1))
        case measure => omega
        case rel => exact ⟨k + 1, A1, n1, c1, some ad, c2, l2, L, rfl, rfl, rfl, by omega, hl2, hn1, hid (Nat.le_succ_of_le hLk.out), HN2⟩
      · have hd2 : decide (f1 = 0) = false := decide_eq_false hz
        have hd3 : (f1 == 0) = false := by simpa using hz
        clear hz
        by_cases hy : wrap64 (f1 - 1) = 0
        · have hd4 : decide (wrap64 (f1 - 1) = 0) = true := decide_eq_true hy
          have hd5 : (wrap64 (f1 - 1) == 0) = true := by simpa using hy
          clear hy
          obtain ⟨r, hr, hrl⟩ := with_t l2 T (k : Int) f0 (wrap64 (f1 - 1)) f2 T (by have := hl2.out; omega) (by omega) (by have := hl2.out; omega)
          have hwi := fun W (hC : Kd.C k136 W (some ad) l2.length l2) => provostref18_with.calls (some ad) c2 l2 T (k : Int) _ _ _ _ r T W hC (by have := hl2.out; have := hcc.out; omega) hr
          rw [hl2.out] at hwi hrl
          have HWi := hid hwi
          have HRL := hid hrl
          clear hwi hr hrl
          go_upto_region 11 with fail
          obtain ⟨W5, hW5⟩ : ∃ W5, W5 = wr.alloc (.cells #[.string f0, .int .i64 (wrap64 (f1 - 1)), .int .i64 f2, .int .i64 T] 136) := ⟨_, rfl⟩
          have hB5 : Below wr.heap.size wr W5 := by rw [hW5]; exact (Below.refl _ wr).alloc (Nat.le_refl _) _
          have k7 : W5.heap[wr.heap.size]? = some (.cells #[.string f0, .int .i64 (wrap64 (f1 - 1)), .int .i64 f2, .int .i64 T] 136 (0, 0)) := by rw [hW5]; exact heap_alloc_new _ _
          rw [← hW5]
          have HN5 := hid (HN.out.later hB5)
          have K7 := hid k7
          obtain ⟨p0, p1, p2, p3, -⟩ := cells4 k7
          have hLk2 := hLk.out
          obtain ⟨A3, n3, c3, w6, HRA, HN3, HN6, HK6⟩ := HN5.out.app (by omega) hn1.out f0
          have hs7 : ∀ g, (Value.slice A1 n1 c1).ownBlock = some g → wr.heap.size ≠ g := fun g hg e => by
            have := SlRow.lt HN.out.sl hg
            omega
          have K76 := hid ((HK6.out.block wr.heap.size (Array.getElem?_eq_some_iff.1 k7).1 (fun e => hs7 _ e rfl)).trans k7)
          clear d0 d1 d2 d3 x0 x1 p1 p2 p3 hW5 hB5 hs7 hb1l k7
          go_upto_region 12 with (at_builtin; refine wl_append rfl _ _ _ rfl ⟨_, _, HRA.out, ?_⟩)
          obtain ⟨x0, x1, -⟩ := cells2 HN6.out.k1
          obtain ⟨p0, p1, p2, p3, -⟩ := cells4 K76.out
          have hC := (Kd.R_reads' HN6.out.r).2.2
          rw [hl2.out] at hC
          have HC6 := hid hC
          clear hC
          have HF := hid (show ∀ V, Below w6.heap.size w6 V → V.cell? ⟨b1, 0, none⟩ = some (.slice (some ad) n c2) ∧ V.cell? ⟨b1, 1, none⟩ = some (.int .i64 T) ∧ ∀ j, V.frozen? ⟨b1, j, none⟩ = false from fun V hV => cells2 (blk_of hV HN6.out.k1))
          go_wp2_with (go_at_call 95; go_must (with_reducible refine (HWi.out _ HC6.out).mono ?_); rintro e w7 ⟨v7, rfl, hR7, hb⟩; obtain ⟨A7, c7, hv7⟩ := Kd.R_slice hR7; subst hv7; rw [HRL.out] at hR7; have HN8 := hid (HN6.out.with hR7 hb HB.out); obtain ⟨v0, v1, vf⟩ := HF.out _ hb; have vf0 := vf 0; have vf1 := vf 1; rw [HRL.out]; clear hR7 hb vf)
          go_roundg (n - (k + 1))
          case measure => omega
          case rel => exact ⟨k + 1, A3, n3, c3, A7, c7, r, L ++ [f0], rfl, rfl, rfl, by omega, HRL, HN3, hid (by have := hLk.out; simp; omega), HN8⟩
        · have hd4 : decide (wrap64 (f1 - 1) = 0) = false := decide_eq_false hy
          have hd5 : (wrap64 (f1 - 1) == 0) = false := by simpa using hy
          clear hy
          obtain ⟨r, hr, hrl⟩ := with_t l2 T (k : Int) f0 (wrap64 (f1 - 1)) f2 f3 (by have := hl2.out; omega) (by omega) (by have := hl2.out; omega)
          have hwi := fun W (hC : Kd.C k136 W (some ad) l2.length l2) => provostref18_with.calls (some ad) c2 l2 T (k : Int) _ _ _ _ r T W hC (by have := hl2.out; have := hcc.out; omega) hr
          rw [hl2.out] at hwi hrl
          have HWi := hid hwi
          have HRL := hid hrl
          clear hwi hr hrl
          go_upto_region 12 with fail
          obtain ⟨w6, hw6⟩ : ∃ w6, w6 = wr.alloc (.cells #[.string f0, .int .i64 (wrap64 (f1 - 1)), .int .i64 f2, .int .i64 f3] 136) := ⟨_, rfl⟩
          have hB5 : Below wr.heap.size wr w6 := by rw [hw6]; exact (Below.refl _ wr).alloc (Nat.le_refl _) _
          have K76 := hid (show w6.heap[wr.heap.size]? = some (.cells #[.string f0, .int .i64 (wrap64 (f1 - 1)), .int .i64 f2, .int .i64 f3] 136 (0, 0)) by rw [hw6]; exact heap_alloc_new _ _)
          rw [← hw6]
          have HN6 := hid (HN.out.later hB5)
          clear d0 d1 d2 d3 x0 x1 hw6 hB5 hb1l
          obtain ⟨x0, x1, -⟩ := cells2 HN6.out.k1
          obtain ⟨p0, p1, p2, p3, -⟩ := cells4 K76.out
          have hC := (Kd.R_reads' HN6.out.r).2.2
          rw [hl2.out] at hC
          have HC6 := hid hC
          clear hC
          have HF := hid (show ∀ V, Below w6.heap.size w6 V → V.cell? ⟨b1, 0, none⟩ = some (.slice (some ad) n c2) ∧ V.cell? ⟨b1, 1, none⟩ = some (.int .i64 T) ∧ ∀ j, V.frozen? ⟨b1, j, none⟩ = false from fun V hV => cells2 (blk_of hV HN6.out.k1))
          go_wp2_with (go_at_call 95; go_must (with_reducible refine (HWi.out _ HC6.out).mono ?_); rintro e w7 ⟨v7, rfl, hR7, hb⟩; obtain ⟨A7, c7, hv7⟩ := Kd.R_slice hR7; subst hv7; rw [HRL.out] at hR7; have HN8 := hid (HN6.out.with hR7 hb HB.out); obtain ⟨v0, v1, vf⟩ := HF.out _ hb; have vf0 := vf 0; have vf1 := vf 1; rw [HRL.out]; clear hR7 hb vf)
          go_roundg (n - (k + 1))
          case measure => omega
          case rel => exact ⟨k + 1, A1, n1, c1, A7, c7, r, L, rfl, rfl, rfl, by omega, HRL, hn1, hid (Nat.le_succ_of_le hLk.out), HN8⟩
    · have hke : k = n := by omega
      subst hke
      obtain ⟨z0, z1, zf⟩ := cells2 HN.out.k2
      have zf0 := zf 0
      have zf1 := zf 1
      clear zf
      go_wp2_with fail
      refine bodyPost_ret (results_ct rfl _ _ b2 60 #[.slice A2 k c2, .int .i64 T] (0, 0) _ rfl (put2 HN.out.k2) Tryd.underlying60 rfl (by kernel_rfl)) rfl ?_
      have hk : Keeps (fun i => i = b2) wr ((wr.setCell ⟨b2, 0, none⟩ (.slice A2 k c2)).setCell ⟨b2, 1, none⟩ (.int .i64 T)) := ((Keeps.refl (fun i => i = b2) wr).setCell ⟨b2, 0, none⟩ _ (.inl rfl)).setCell ⟨b2, 1, none⟩ _ (.inl rfl)
      exact ⟨_, l2, T, A1, n1, c1, L, rfl, Kd.R_mono (put2_R HN.out.r (fun k hk => hk.2.2.1)) (fun k hk => hk.1), hl2.out, put2_below HN.out.low HN.out.b.2.1, hn1.out, hLk.out, SlRow.kept HN.out.sl hk (fun g hg e => (HN.out.new g hg).2.2 e)⟩
end Go.Proofs.YtmgcapccgncmkaaDoor.Im
