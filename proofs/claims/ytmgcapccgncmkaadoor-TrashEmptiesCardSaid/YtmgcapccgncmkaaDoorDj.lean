/- Trash: the boxes of the law's own. (merged: Di Dj Dk) -/
import Derived.Test.YtmgcapccgncmkaaDoorDe
import Derived.Test.YtmgcapccgncmkaaDoorSt
import Derived.Test.YtmgcapccgncmkaaDoorRows
set_option linter.unusedSimpArgs false
set_option linter.unusedVariables false
namespace Go.Proofs.YtmgcapccgncmkaaDoor.Tr
open Go.RowKit Go.Pv Go.Proofs.YtmgcapccgncmkaaDoor.Im Go.Proofs.YtmgcapccgncmkaaDoor.Tx Go.Proofs.YtmgcapccgncmkaaDoorW.PrintWords Go.Proofs.YtmgcapccgncmkaaDoorW.PrintLast Go.Proofs.YtmgcapccgncmkaaDoor.PTrashFinds

/-! ### containers by value -/
def enc95 (x : S95) : List Value := [.int .i64 x.f0, .string x.f1, .string x.f2, .int .i64 x.f3.f0, .int .i64 x.f3.f1, .int .i64 x.f3.f2, .bool x.f4]
theorem flat95 {W : World} : ∀ (l : List S95) (cs : List Value), Reps (k95.K W) 7 l cs → cs = l.flatMap enc95
  | [], cs, h => by
    have := h.1
    simp at this
    simp [this]
  | a :: r, cs, h => by
    have h1 := k95_open (h.2 0 a rfl)
    have h2 := flat95 r (cs.drop 7) (by simpa using Kd.reps_drop (m := 1) h)
    simp only [Nat.zero_mul, List.drop_zero] at h1
    rw [← List.take_append_drop 7 cs, h1, h2]
    rfl
theorem flat_set : ∀ (l : List S95) (k : Nat) (hk : k < l.length) (x : Int), (l.flatMap enc95).set (k * 7) (.int .i64 x) = (l.set k { l[k] with f0 := x }).flatMap enc95
  | a :: r, 0, hk, x => rfl
  | a :: r, k + 1, hk, x => by
    have ih := flat_set r k (by simpa using hk) x
    rw [List.flatMap_cons, List.set_cons_succ, List.flatMap_cons, List.set_append_right _ _ (by simp [enc95]; omega), List.getElem_cons_succ, ← ih]
    congr 2
    simp [enc95]
    omega
theorem flat_len95 (l : List S95) : (l.flatMap enc95).length = l.length * 7 := by
  induction l with
  | nil => rfl
  | cons a r ih => rw [List.flatMap_cons, List.length_append, ih]; simp [enc95]; omega
theorem flat_get (l : List S95) (k : Nat) (hk : k < l.length) (d : Nat) (hd : d < 7) : (l.flatMap enc95)[k * 7 + d]? = (enc95 l[k])[d]? := by
  induction l generalizing k with
  | nil => simp at hk
  | cons a r ih =>
    rw [List.flatMap_cons]
    cases k with
    | zero => rw [List.getElem?_append_left (by simp [enc95]; omega)]; simp
    | succ k =>
      rw [List.getElem?_append_right (by simp [enc95]; omega)]
      have := ih k (by simpa using hk)
      rw [List.getElem_cons_succ, ← this]
      congr 1
      simp [enc95]
      omega
theorem reps_flat (W : World) (l : List S95) : Reps (k95.K W) 7 l (l.flatMap enc95) := by
  refine ⟨flat_len95 l, fun j x hx => ?_⟩
  obtain ⟨hj, rfl⟩ := List.getElem?_eq_some_iff.1 hx
  have : ((l.flatMap enc95).drop (j * 7)).take 7 = enc95 l[j] := by
    apply List.ext_getElem?
    intro i
    rw [List.getElem?_take]
    split
    · rename_i hi
      rw [List.getElem?_drop, flat_get l j hj i hi]
    · rename_i hi
      rw [List.getElem?_eq_none (by simp [enc95]; omega)]
  rw [this]
  exact k95_mk W l[j]
/-- What reads of a row of the call's own. -/
theorem C_of_row {α : Type} {d : Kd α} {W : World} {e : TypeId} {A : Option Addr} {n c : Nat} {cells : List Value} {xs : List α} (h : SlRow W e d.sz (.slice A n c) n cells) (hr : Reps (d.K W) d.sz xs cells) (hn : n = xs.length) (hl : n ≤ 100000) : d.C W A n xs ∧ n ≤ c := by
  rcases h.2 with ⟨h1, h2⟩ | ⟨g, o, cap, cur, h1, h2, h3, -⟩
  · simp only [Value.slice.injEq] at h1
    exact ⟨⟨hn.symm, by omega, fun h0 => by omega⟩, by omega⟩
  · have h1' := h1
    simp only [Value.slice.injEq, true_and] at h1
    obtain ⟨rfl, rfl⟩ := h1
    refine ⟨⟨hn.symm, by omega, fun h0 => ⟨_, rfl, fun j p hp => ?_⟩⟩, h3⟩
    have hK := hr.2 j p hp
    refine ⟨_, d.K_len hK, hK, fun i u hu => ?_⟩
    rw [List.getElem?_take] at hu
    split at hu
    · rw [List.getElem?_drop] at hu
      have := SlRow.cells h h1' (j * d.sz + i) u hu
      rw [Addr.add_lit]
      exact this
    · cases hu
theorem C_of_sl95 {W : World} {A : Option Addr} {n c : Nat} {l : List S95} (h : SlOf W 95 7 enc95 (.slice A n c) l) (hn : n = l.length) (hl : l.length ≤ 100000) : Kd.C k95 W A l.length l ∧ l.length ≤ c := by
  subst hn
  exact C_of_row (d := k95) h (reps_flat W l) rfl hl
theorem info95' : ∃ i, Tryd.prog.info? 95 = some i ∧ i.zero = some (.agg #[.int .i64 0, .string ⟨#[]⟩, .string ⟨#[]⟩, .int .i64 0, .int .i64 0, .int .i64 0, .bool false]) ∧ i.size = 7 ∧ i.bytes = 72 :=
  infoParts (show (Tryd.prog.info? 95).map (fun i => (i.zero, i.size, i.bytes)) = some (some (.agg #[.int .i64 0, .string ⟨#[]⟩, .string ⟨#[]⟩, .int .i64 0, .int .i64 0, .int .i64 0, .bool false]), 7, 72) by kernel_rfl)
theorem info83' : ∃ i, Tryd.prog.info? 83 = some i ∧ i.zero = some (.agg #[.int .i64 0, .int .i64 0, .int .i64 0, .slice none 0 0]) ∧ i.size = 4 ∧ i.bytes = 48 :=
  infoParts (show (Tryd.prog.info? 83).map (fun i => (i.zero, i.size, i.bytes)) = some (some (.agg #[.int .i64 0, .int .i64 0, .int .i64 0, .slice none 0 0]), 4, 48) by kernel_rfl)
/-- A copy of containers. -/
theorem copy95 {W W1 : World} {A : Option Addr} {c : Nat} {l : List S95} (h : Kd.C k95 W A l.length l) (hl : l.length ≤ 1000) (hW1 : W1 = W.alloc (.cells #[] 95)) :
    ∃ A2 c2 w2, (Builtin.append_ #[81, 81] 81 #[.slice (some ⟨W.heap.size, 0, none⟩) 0 0, .slice A l.length c]).run Tryd.prog W1 = .ok (.slice A2 l.length c2) w2 ∧ SlOf w2 95 7 enc95 (.slice A2 l.length c2) l ∧ (∀ g, (Value.slice A2 l.length c2).ownBlock = some g → W.heap.size ≤ g) ∧ Below W.heap.size W w2 := by
  have k1 : Below W.heap.size W W1 := by rw [hW1]; exact (Below.refl _ W).alloc (Nat.le_refl _) _
  have hrow : SlRow W1 95 7 (.slice (some ⟨W.heap.size, 0, none⟩) 0 0) 0 [] := by rw [hW1]; exact SlRow.made W 95 7 0 #[] rfl (by unfold maxLen; omega)
  obtain ⟨i0, hi, hz0, hz1, hz2⟩ := info95'
  cases l with
  | nil =>
    have hr : (Builtin.append_ #[81, 81] 81 #[.slice (some ⟨W.heap.size, 0, none⟩) 0 0, .slice A ([] : List S95).length c]).run Tryd.prog W1 = .ok (.slice (some ⟨W.heap.size, 0, none⟩) 0 0) W1 := by
      cases A <;> simp [Builtin.append_, run_underlying Tryd.underlying81, sizeOf, typeInfo, hi, Builtin.lenOf, Builtin.firstCells, loadCells, loadCellsFrom, storeCells]
    exact ⟨_, 0, W1, hr, hrow, fun g hg => by simp [Value.ownBlock] at hg; omega, k1⟩
  | cons a r =>
    obtain ⟨ad, rfl, -⟩ := h.2.2 (by simp)
    obtain ⟨inner, q1, q2⟩ := ReadsRow.inner_ h
    have q3 := flat95 _ _ q1
    subst q3
    obtain ⟨v', w2, q4, q5, q6, q7, -, -⟩ := run_append_sl (P := Tryd.prog) W1 81 81 95 i0 _ 7 72 Tryd.underlying81 hi hz0 hz1 hz2 rfl _ 0 [] hrow (.slice (some ad) (a :: r).length c) (a :: r).length ((a :: r).flatMap enc95)
      (.inr ⟨ad, c, rfl, fun j u hu => pw_cell_below k1 (q2 j u hu)⟩) (flat_len95 _) (by simp [enc95, Value.oneCell']; intro u x _ hu; rcases hu with rfl | rfl | rfl | rfl | rfl | rfl | rfl <;> rfl) (by unfold maxLen; omega) (by omega)
    rw [Nat.zero_add, List.nil_append] at q5
    obtain ⟨A2, c2, rfl⟩ : ∃ A2 c2, v' = .slice A2 (a :: r).length c2 := by
      rcases SlRow.form q5 with ⟨h1, h2⟩ | ⟨g, o, c, h1⟩
      · exact ⟨none, 0, by rw [h1, h2]⟩
      · exact ⟨_, _, h1⟩
    refine ⟨A2, c2, w2, q4, q5, fun g hg => ?_, k1.trans (q6.below (B := W.heap.size) k1.size (fun i hi => by simp [Value.ownBlock] at hi; omega))⟩
    rcases q7 with h1 | h1
    · rw [h1] at hg; simp [Value.ownBlock] at hg; omega
    · rw [h1] at hg; simp at hg; have := k1.size; omega

/-! ### the law's boxes -/
def KN (W : World) (x : S83) (cs : List Value) : Prop := ∃ A c, cs = [.int .i64 x.f0, .int .i64 x.f1, .int .i64 x.f2, .slice A x.f3.length c] ∧ SlOf W 95 7 enc95 (.slice A x.f3.length c) x.f3
structure NowR (lo : Nat) (W : World) (v : Value) (M : List S83) : Prop where
  row : ∃ cells, SlRow W 83 4 v M.length cells ∧ Reps (KN W) 4 M cells
  lo : ∀ g, v.ownBlock = some g → lo ≤ g
theorem KN.later {W V : World} {x : S83} {cs : List Value} (h : KN W x cs) (hb : Below W.heap.size W V) : KN V x cs := by
  obtain ⟨A, c, h1, h2⟩ := h
  exact ⟨A, c, h1, SlRow.kept h2 (Keeps.of_below (F := fun _ => False) hb) (by simp)⟩
theorem NowR.later {lo : Nat} {W V : World} {v : Value} {M : List S83} (h : NowR lo W v M) (hb : Below W.heap.size W V) : NowR lo V v M := by
  obtain ⟨cells, h1, h2⟩ := h.row
  exact ⟨⟨cells, SlRow.kept h1 (Keeps.of_below (F := fun _ => False) hb) (by simp), h2.imp_ (fun _ _ hp => hp.later hb)⟩, h.lo⟩
theorem NowR.nil (lo : Nat) (W : World) : NowR lo W (.slice none 0 0) [] := ⟨⟨[], SlRow.nil _ _ _, Reps.none _ _⟩, by simp [Value.ownBlock]⟩
theorem NowR.reads {lo : Nat} {W : World} {A : Option Addr} {n c : Nat} {M : List S83} (h : NowR lo W (.slice A n c) M) (hn : n = M.length) (hl : n ≤ 1000) (hs : ∀ b ∈ M, b.f3.length ≤ 1000) : Kd.C k83 W A n M ∧ n ≤ c := by
  obtain ⟨cells, h1, h2⟩ := h.row
  rw [← hn] at h1
  refine C_of_row (d := k83) h1 ?_ hn (by omega)
  refine ⟨h2.1, fun j x hx => ?_⟩
  obtain ⟨A3, c3, e, h3⟩ := h2.2 j x hx
  have hm := hs x (List.mem_of_getElem? hx)
  have h4 := C_of_sl95 h3 rfl (by omega)
  exact e ▸ k83_mk W x h4.2 h4.1
theorem sl_type {W : World} {e : TypeId} {sz n : Nat} {v : Value} {cells : List Value} (h : SlRow W e sz v n cells) {g : Nat} (hg : v.ownBlock = some g) : ∃ cur, W.heap[g]? = some (.cells cur e (0, 0)) := by
  rcases h.2 with ⟨rfl, _⟩ | ⟨g', o, cap, cur, rfl, h2, -⟩
  · simp [Value.ownBlock] at hg
  · simp only [Value.ownBlock] at hg
    cases hg
    exact ⟨cur, h2⟩
theorem form_slice {v : Value} {W : World} {e : TypeId} {sz n : Nat} {cells : List Value} (h : SlRow W e sz v n cells) : ∃ A c, v = .slice A n c := by
  rcases SlRow.form h with ⟨h1, h2⟩ | ⟨g, o, c, h1⟩
  · exact ⟨none, 0, by rw [h1, h2]⟩
  · exact ⟨_, _, h1⟩
/-- One box more. -/
theorem NowR.add {lo : Nat} {W : World} {v : Value} {M : List S83} (h : NowR lo W v M) (hlo : lo ≤ W.heap.size) (hl : M.length ≤ 1000) (x : S83) {A3 : Option Addr} {c3 : Nat} (hx : SlOf W 95 7 enc95 (.slice A3 x.f3.length c3) x.f3) :
    ∃ A2 c2 w2, (Builtin.append_ #[72, 72] 72 #[v, .slice (some ⟨W.heap.size, 0, none⟩) 1 1]).run Tryd.prog (W.alloc (.cells #[.int .i64 x.f0, .int .i64 x.f1, .int .i64 x.f2, .slice A3 x.f3.length c3] 83)) = .ok (.slice A2 (M.length + 1) c2) w2 ∧ NowR lo w2 (.slice A2 (M.length + 1) c2) (M ++ [x]) ∧
      Keeps (fun g => lo ≤ g ∧ ∃ cur, W.heap[g]? = some (.cells cur 83 (0, 0))) W w2 := by
  obtain ⟨cells, h1, h2⟩ := h.row
  obtain ⟨i0, hi, hz0, hz1, hz2⟩ := info83'
  have k1 : Below W.heap.size W (W.alloc (.cells #[.int .i64 x.f0, .int .i64 x.f1, .int .i64 x.f2, .slice A3 x.f3.length c3] 83)) := (Below.refl _ W).alloc (Nat.le_refl _) _
  have bx := heap_at W (.cells #[.int .i64 x.f0, .int .i64 x.f1, .int .i64 x.f2, .slice A3 x.f3.length c3] 83) _ rfl
  have s1 : SlRow (W.alloc (.cells #[.int .i64 x.f0, .int .i64 x.f1, .int .i64 x.f2, .slice A3 x.f3.length c3] 83)) 83 4 v M.length cells := SlRow.kept h1 (Keeps.of_below (F := fun _ => False) k1) (by simp)
  obtain ⟨v', w2, q4, q5, q6, q7, -, -⟩ := run_append_sl (P := Tryd.prog) _ 72 72 83 i0 _ 4 48 Tryd.underlying72 hi hz0 hz1 hz2 rfl _ _ _ s1 (.slice (some ⟨W.heap.size, 0, none⟩) 1 1) 1 [.int .i64 x.f0, .int .i64 x.f1, .int .i64 x.f2, .slice A3 x.f3.length c3]
    (.inr ⟨_, _, rfl, World.news_of_block (cs := #[.int .i64 x.f0, .int .i64 x.f1, .int .i64 x.f2, .slice A3 x.f3.length c3]) (t := 83) (fr := (0, 0)) bx⟩) rfl (by simp [Value.oneCell']) (by unfold maxLen; omega) (by omega)
  obtain ⟨A2, c2, rfl⟩ := form_slice q5
  have hk : Keeps (fun g => lo ≤ g ∧ ∃ cur, W.heap[g]? = some (.cells cur 83 (0, 0))) W w2 := (Keeps.of_below (F := fun g => lo ≤ g ∧ ∃ cur, W.heap[g]? = some (.cells cur 83 (0, 0))) k1).trans (q6.mono (fun i hi => ⟨h.lo i hi, sl_type h1 hi⟩)) (fun i hi => .inl hi)
  have hin : ∀ y cs, KN W y cs → KN w2 y cs := fun y cs ⟨A, c, e, hs⟩ => ⟨A, c, e, SlRow.kept hs hk (fun g hg hF => by
    obtain ⟨cur, h3⟩ := sl_type hs hg
    obtain ⟨_, cur2, h4⟩ := hF
    rw [h3] at h4
    cases h4)⟩
  refine ⟨A2, c2, w2, q4, ⟨⟨_, by rw [List.length_append]; exact q5, (h2.imp_ hin).snoc (hin x _ ⟨A3, c3, rfl, hx⟩) rfl⟩, fun g hg => ?_⟩, hk⟩
  rcases q7 with h3 | h3
  · exact h.lo g (h3 ▸ hg)
  · rw [h3] at hg
    cases hg
    have := k1.size
    omega

/-! ### numbers -/
def rn (l : List S95) (j : Nat) : List S95 := l.mapIdx fun k c => if k < j then { c with f0 := (k : Int) } else c
theorem rn_length (l : List S95) (j : Nat) : (rn l j).length = l.length := by simp [rn]
theorem rn_zero (l : List S95) : rn l 0 = l := by
  apply List.ext_getElem
  · simp [rn]
  · intro i h1 h2
    simp [rn]
theorem rn_at (l : List S95) (j k : Nat) (hk : k < (rn l j).length) : (rn l j)[k] = if k < j then { l[k]'(by rw [← rn_length l j]; exact hk) with f0 := (k : Int) } else l[k]'(by rw [← rn_length l j]; exact hk) := by simp [rn]
theorem rn_next (l : List S95) (j : Nat) (hj : j < (rn l j).length) : (rn l j).set j { (rn l j)[j] with f0 := (j : Int) } = rn l (j + 1) := by
  apply List.ext_getElem
  · simp [rn_length]
  · intro k h1 h2
    rw [List.getElem_set, rn_at l (j + 1) k h2]
    by_cases hkj : j = k
    · subst hkj
      rw [if_pos rfl, if_pos (by omega), rn_at l j j hj, if_neg (by omega)]
    · rw [if_neg hkj, rn_at l j k (by simpa using h1)]
      by_cases hk : k < j
      · rw [if_pos hk, if_pos (by omega)]
      · rw [if_neg hk, if_neg (by omega)]
def nbB (i : Nat) (b : S83) : S83 := ⟨((i + 1 : Nat) : Int), b.f1, b.f2, rn b.f3 b.f3.length⟩
def nowN (L : List S83) (i : Nat) : List S83 := (L.take i).mapIdx nbB
theorem nowN_length (L : List S83) (i : Nat) (hi : i ≤ L.length) : (nowN L i).length = i := by simp [nowN]; omega
theorem nowN_next (L : List S83) (i : Nat) (hi : i < L.length) : nowN L (i + 1) = nowN L i ++ [nbB i L[i]] := by
  unfold nowN
  rw [List.take_succ_eq_append_getElem hi, List.mapIdx_concat, List.length_take, Nat.min_eq_left (by omega)]
theorem cnt_next (l : List S95) (j : Nat) (hj : j < l.length) : cntL (l.take (j + 1)) = cntL (l.take j) + (if isX l[j] then 0 else 1) := by
  unfold cntL
  rw [List.take_succ_eq_append_getElem hj, List.filter_append, List.length_append]
  cases h : isX l[j] <;> simp [h]
def liveL (L : List S83) : Nat := (L.map fun b => cntL b.f3).sum
theorem live_next (L : List S83) (i : Nat) (hi : i < L.length) : liveL (L.take (i + 1)) = liveL (L.take i) + cntL L[i].f3 := by
  unfold liveL
  rw [List.take_succ_eq_append_getElem hi, List.map_append, List.sum_append]
  simp
theorem cntL_le (l : List S95) : cntL l ≤ l.length := List.length_filter_le _ _
theorem liveL_le (L : List S83) (h : ∀ b ∈ L, b.f3.length ≤ 1000) : liveL L ≤ L.length * 1000 := by
  unfold liveL
  induction L with
  | nil => simp
  | cons a r ih =>
    have h1 := ih (fun b hb => h b (by simp [hb]))
    have h2 := h a (by simp)
    have h3 := cntL_le a.f3
    simp only [List.map_cons, List.sum_cons, List.length_cons]
    omega
theorem liveL_take (L : List S83) (h : Light L) (j : Nat) : liveL (L.take j) ≤ 20000 := by
  have h1 := liveL_le (L.take j) (fun b hb => h.2 b (List.mem_of_mem_take hb))
  have h2 : (L.take j).length ≤ 20 := by rw [List.length_take]; have := h.1; omega
  omega
theorem rn_cnt (l : List S95) : cntL (rn l l.length) = cntL l := by
  have key : ∀ j, j ≤ l.length → cntL ((rn l l.length).take j) = cntL (l.take j) := by
    intro j
    induction j with
    | zero => intro _; rfl
    | succ j ih =>
      intro hj
      have hr : j < (rn l l.length).length := by rw [rn_length]; omega
      rw [cnt_next _ j hr, cnt_next l j (by omega), ih (by omega)]
      have : isX (rn l l.length)[j] = isX l[j] := by
        rw [rn_at, if_pos (by omega)]
        rfl
      rw [this]
  have h1 := key l.length (Nat.le_refl _)
  rw [List.take_length, List.take_of_length_le (by rw [rn_length]; omega)] at h1
  exact h1
theorem rn_rise (l : List S95) : Rise (rn l l.length) := by
  unfold Rise Trash.Rise
  rw [List.pairwise_iff_getElem]
  intro i j hi hj hij
  have h1 := rn_length l l.length
  rw [rn_at, rn_at, if_pos (by omega), if_pos (by omega)]
  simp only
  omega
theorem ei_start (L : List S83) (hL : Light L) : EI L (nowN L L.length) := by
  refine ⟨nowN_length L _ (Nat.le_refl _), fun i b x hb hx => ?_⟩
  obtain ⟨hi, rfl⟩ := List.getElem?_eq_some_iff.1 hb
  have hx2 : x = nbB i L[i] := by
    unfold nowN at hx
    rw [List.take_length, List.getElem?_mapIdx, hb] at hx
    simpa using hx.symm
  subst hx2
  have hb2 := hL.2 _ (List.getElem_mem hi)
  refine ⟨rfl, rn_rise _, rn_cnt _, fun hn => ?_, by simp only [nbB, rn_length]; exact hb2⟩
  have h0 : 0 < L[i].f3.length := by
    cases h : L[i].f3 with
    | nil => exact absurd h hn
    | cons a r => simp
  have h1 := rn_length L[i].f3 L[i].f3.length
  have hne : rn L[i].f3 L[i].f3.length ≠ [] := fun e => by rw [e] at h1; simp at h1; omega
  refine ⟨(rn L[i].f3 L[i].f3.length).dropLast, (rn L[i].f3 L[i].f3.length).getLast hne, (List.dropLast_concat_getLast hne).symm, ?_⟩
  rw [List.getLast_eq_getElem, rn_at, if_pos (by omega)]
  simp only
  omega
theorem tot_le (M : List S83) (h : ∀ b ∈ M, b.f3.length ≤ 40) : totL M ≤ M.length * 40 := by
  unfold totL
  induction M with
  | nil => simp
  | cons a r ih =>
    have h1 := ih (fun b hb => h b (by simp [hb]))
    have h2 := h a (by simp)
    simp only [List.map_cons, List.sum_cons, List.length_cons]
    omega
end Go.Proofs.YtmgcapccgncmkaaDoor.Tr
namespace Go.Proofs.YtmgcapccgncmkaaDoor.Tr
open Go.RowKit Go.Pv Go.Proofs.YtmgcapccgncmkaaDoor.Im Go.Proofs.YtmgcapccgncmkaaDoor.Tx Go.Proofs.YtmgcapccgncmkaaDoorW.PrintWords Go.Proofs.YtmgcapccgncmkaaDoorW.PrintLast Go.Proofs.YtmgcapccgncmkaaDoor.PTrashFinds

/-- What stays through the law. -/
structure TS (w W : World) (p mb b5 n : Nat) (al : IL) (tick a0 a1 : Int) : Prop where
  low : Below w.heap.size w W
  bk : IBk W p mb al tick
  gi : GI n al tick
  ne : NE al
  k5 : W.heap[b5]? = some (.cells #[.int .i64 a0, .int .i64 a1] 74 (0, 0))
  ge : w.heap.size ≤ p ∧ w.heap.size ≤ mb
section
variable {w W V : World} {p mb b5 n : Nat} {al : IL} {tick a0 a1 : Int}
theorem TS.later (h : TS w W p mb b5 n al tick a0 a1) (hb : Below W.heap.size W V) : TS w V p mb b5 n al tick a0 a1 :=
  ⟨h.low.trans (hb.mono h.low.size), h.bk.below hb, h.gi, h.ne, blk_of hb h.k5, h.ge⟩
theorem TS.kept83 (h : TS w W p mb b5 n al tick a0 a1) (hk : Keeps (fun g => w.heap.size ≤ g ∧ ∃ cur, W.heap[g]? = some (.cells cur 83 (0, 0))) W V) : TS w V p mb b5 n al tick a0 a1 := by
  refine ⟨h.low.trans (hk.below h.low.size (fun i hi => hi.1)), h.bk.kept hk ?_ ?_, h.gi, h.ne, (hk.block b5 (Array.getElem?_eq_some_iff.1 h.k5).1 ?_).trans h.k5, h.ge⟩
  · rintro ⟨_, cur, hc⟩
    rw [h.bk.cell] at hc
    cases hc
  · rintro ⟨_, cur, hc⟩
    obtain ⟨es, clock, hm, _⟩ := h.bk.map
    rw [hm] at hc
    cases hc
  · rintro ⟨_, cur, hc⟩
    rw [h.k5] at hc
    cases hc
end
/-- A box of the law's, while its containers get their numbers. -/
structure TI (w V : World) (b : Nat) (x0 x1 x2 : Int) (v : Value) (l : List S95) : Prop where
  low : Below w.heap.size w V
  box : V.heap[b]? = some (.cells #[.int .i64 x0, .int .i64 x1, .int .i64 x2, v] 83 (0, 0))
  sl : SlOf V 95 7 enc95 v l
  new : ∀ g, v.ownBlock = some g → w.heap.size ≤ g ∧ g ≠ b
theorem TI.put {w V : World} {b : Nat} {x0 x1 x2 : Int} {g o n c : Nat} {l : List S95} (h : TI w V b x0 x1 x2 (.slice (some ⟨g, o, none⟩) n c) l) (hn : n = l.length) (j : Nat) (hj : j < l.length) (x : Int) :
    TI w (V.setCell ⟨g, o + j * 7, none⟩ (.int .i64 x)) b x0 x1 x2 (.slice (some ⟨g, o, none⟩) n c) (l.set j { l[j] with f0 := x }) := by
  have hg := h.new g rfl
  refine ⟨h.low.setCell (p := ⟨g, o + j * 7, none⟩) hg.1 _, blk_far h.box (p := ⟨g, o + j * 7, none⟩) (fun e => hg.2 e.symm) _, ?_, h.new⟩
  have := SlRow.setCell h.sl (by rw [hn]) (j * 7) (.int .i64 x) (by omega)
  unfold SlOf
  rw [flat_set l j hj x] at this
  rw [List.length_set]
  exact this
theorem TI.cells {w V : World} {b : Nat} {x0 x1 x2 : Int} {g o n c : Nat} {l : List S95} (h : TI w V b x0 x1 x2 (.slice (some ⟨g, o, none⟩) n c) l) (hn : n = l.length) (j : Nat) (hj : j < l.length) :
    V.cell? ⟨g, o + j * 7, none⟩ = some (.int .i64 l[j].f0) ∧ V.cell? ⟨g, o + j * 7 + 3, none⟩ = some (.int .i64 l[j].f3.f0) ∧ V.frozen? ⟨g, o + j * 7, none⟩ = false := by
  refine ⟨?_, ?_, ?_⟩
  · have := SlRow.cells h.sl (by rw [hn]) (j * 7 + 0) _ (flat_get l j hj 0 (by omega))
    simpa using this
  · have := SlRow.cells h.sl (by rw [hn]) (j * 7 + 3) _ (flat_get l j hj 3 (by omega))
    rw [← Nat.add_assoc] at this
    exact this
  · obtain ⟨cur, hc⟩ := sl_type h.sl (g := g) rfl
    exact blk_frozen hc _
theorem st_rn (l : List S95) (j : Nat) (hj : j < l.length) : ((rn l j)[j]'(by rw [rn_length]; exact hj)).f3.f0 = l[j].f3.f0 := by
  rw [rn_at, if_neg (by omega)]
/-- Boxes that are read, whatever becomes of a map. -/
def MR (mb : Nat) (W : World) (A : Option Addr) (n : Nat) (M : List S83) : Prop := ∀ V, Keeps (fun i => i = mb) W V → Kd.C k83 V A n M
theorem MR.now {mb n : Nat} {W : World} {A : Option Addr} {M : List S83} (h : MR mb W A n M) : Kd.C k83 W A n M := h W (Keeps.refl _ _)
theorem MR.keeps {mb n : Nat} {W V : World} {A : Option Addr} {M : List S83} (h : MR mb W A n M) (hk : Keeps (fun i => i = mb) W V) : MR mb V A n M := fun V2 h2 => h V2 (hk.trans h2 (fun i hi => .inl hi))
theorem MR.later {mb n : Nat} {W V : World} {A : Option Addr} {M : List S83} (h : MR mb W A n M) (hb : Below W.heap.size W V) : MR mb V A n M := h.keeps (Keeps.of_below hb)
theorem MR.of_now {lo mb n c : Nat} {W : World} {A : Option Addr} {M : List S83} (h : NowR lo W (.slice A n c) M) (hm : ∃ es clock, W.heap[mb]? = some (.map es clock)) (hn : n = M.length) (hl : n ≤ 1000) (hs : ∀ b ∈ M, b.f3.length ≤ 1000) : MR mb W A n M := fun V hk => by
  obtain ⟨es, clock, hmb⟩ := hm
  have hno : ∀ {e : TypeId} {sz m : Nat} {v : Value} {cells : List Value}, SlRow W e sz v m cells → SlRow V e sz v m cells := fun hr => SlRow.kept hr hk (fun g hg e => by
    obtain ⟨cur, hc⟩ := sl_type hr hg
    rw [e, hmb] at hc
    cases hc)
  obtain ⟨cells, h1, h2⟩ := h.row
  have h3 : NowR lo V (.slice A n c) M := ⟨⟨cells, hno h1, h2.imp_ (fun x cs ⟨A3, c3, e, hs⟩ => ⟨A3, c3, e, hno hs⟩)⟩, h.lo⟩
  exact (h3.reads hn hl hs).1
theorem TS.drop {w W V : World} {p mb b5 n : Nat} {al : IL} {tick a0 a1 : Int} (h : TS w W p mb b5 n al tick a0 a1) (u : ByteArray) (hu : u.size ≤ 100) (hI : IBk V p mb (dropA u al) tick) (hk : Keeps (fun i => i = mb) W V) : TS w V p mb b5 (n + 1) (dropA u al) tick a0 a1 := by
  have hg := gi_act h.gi 4 u hu
  have hn := ne_act h.ne 4 tick u
  refine ⟨h.low.trans (hk.below h.low.size (fun i hi => by rw [hi]; exact h.ge.2)), hI, by simpa [actA, actT] using hg, by simpa [actA] using hn, (hk.block b5 (Array.getElem?_eq_some_iff.1 h.k5).1 (fun e => ?_)).trans h.k5, h.ge⟩
  obtain ⟨es, clock, hm, _⟩ := h.bk.map
  rw [← e, h.k5] at hm
  cases hm
theorem adel_length_lt {k : ByteArray} {al : IL} (h : k ∈ al.map (·.1)) : (adel k al).length < al.length := by
  induction al with
  | nil => simp at h
  | cons a r ih =>
    unfold adel
    split
    · simp
    · rename_i hne
      have : k ∈ r.map (·.1) := by
        rcases List.mem_cons.1 h with e | h
        · exact absurd e.symm hne
        · exact h
      have := ih this
      simp only [List.length_cons]
      omega
theorem at83 {W : World} {A : Option Addr} {n : Nat} {M : List S83} (h : Kd.C k83 W A n M) (j : Nat) (hj : j < n) {x : S83} (hx : M[j]? = some x) : ∃ ad A3 c3, A = some ad ∧ W.cell? (ad.add (j * 4)) = some (.int .i64 x.f0) ∧ W.cell? ⟨(ad.add (j * 4)).block, (ad.add (j * 4)).off + 3, none⟩ = some (.slice A3 x.f3.length c3) ∧ k95.C W A3 x.f3.length x.f3 := by
  obtain ⟨hjM, rfl⟩ := List.getElem?_eq_some_iff.1 hx
  obtain ⟨ad, A3, c3, h1, h2, -, -, h3, -, h4⟩ := at_T83 h (j : Int) (by omega) (by omega)
  rw [rd83 M j hjM] at h2 h3 h4
  simp only [Int.toNat_natCast] at h2 h3
  exact ⟨ad, A3, c3, h1, h2, h3, h4⟩
theorem live_same {L M : List S83} (h : EI L M) : liveL M = liveL L := by
  unfold liveL
  congr 1
  refine List.ext_getElem? fun i => ?_
  rw [List.getElem?_map, List.getElem?_map]
  have hl := h.1
  by_cases hi : i < L.length
  · have hm : i < M.length := by omega
    rw [List.getElem?_eq_getElem hi, List.getElem?_eq_getElem hm]
    simp only [Option.map_some]
    rw [(h.2 i _ _ (List.getElem?_eq_getElem hi) (List.getElem?_eq_getElem hm)).cnt]
  · rw [List.getElem?_eq_none (by omega), List.getElem?_eq_none (by omega)]
theorem tot_now (L : List S83) (hL : L.length ≤ 20) (h : ∀ b ∈ L, b.f3.length ≤ 40) : totL (nowN L L.length) ≤ 800 := by
  have h1 := tot_le (nowN L L.length) (fun b hb => by
    unfold nowN at hb
    rw [List.mem_mapIdx] at hb
    obtain ⟨i, hi, rfl⟩ := hb
    simp only [nbB, rn_length]
    exact h _ (List.mem_of_mem_take (List.getElem_mem _)))
  rw [nowN_length L _ (Nat.le_refl _)] at h1
  omega
/-- An image that is trash: it is there, and unused. -/
theorem img_trash {n : Nat} {al : IL} {tick keep ago : Int} {u : ByteArray} (hg : GI n al tick) (hne : NE al) (h : imgF keep ago tick al = some u) : (getI u al).2.1 = 0 ∧ dropC u al = 0 ∧ (dropA u al).length < al.length ∧ u.size ≤ 100 ∧ 0 < u.size := by
  unfold imgF at h
  split at h
  · cases h
  · have hm : u ∈ unX tick ago al := List.mem_of_head? h
    unfold unX at hm
    have h1 := (sortC_perm (cmpS al) (unusedA tick ago al)).mem_iff.1 hm
    unfold unusedA listA at h1
    simp only [List.mem_filter] at h1
    obtain ⟨⟨h2, h3⟩, h4⟩ := h1
    have hz : ¬ (getI u al).2.1 > 0 := fun hc => by simp [usedB, hc] at h4
    have hr := hg.rg u
    have h0 : (getI u al).2.1 = 0 := by unfold Rg at hr; omega
    have hk : u ∈ al.map (·.1) := (namesA_perm al).mem_iff.1 h2
    refine ⟨h0, by unfold dropC; rw [if_pos h3, if_neg hz], ?_, ?_, hne u hk⟩
    · unfold dropA
      rw [if_pos h3, if_neg hz]
      have := adel_length_lt hk
      exact this
    · obtain ⟨r, hr1, hr2⟩ := List.mem_map.1 hk
      rw [← hr2]
      exact hg.short.1 r hr1
set_option maxRecDepth 10000 in
set_option maxHeartbeats 8000000 in
theorem empties_any {w : World} {A : Option Addr} {c : Nat} {L : List S83} (hC : Kd.C k83 w A L.length L) (hcc : L.length ≤ c) {A2 : Option Addr} {c2 : Nat} {l : List (Int × ByteArray)} (hC2 : Kd.C kA w A2 l.length l) (a0 a1 : Int) (hG : Gm w) :
    Calls Tryd.prog 8 #[.slice A L.length c, .slice A2 l.length c2, .agg #[.int .i64 a0, .int .i64 a1]] w fun e w' => e = .returned (.bool true) ∧ Below w.heap.size w w' := by
  obtain ⟨W0, hW0⟩ : ∃ W0, W0 = w.alloc (.cells #[.int .i64 a0, .int .i64 a1] 74) := ⟨_, rfl⟩
  obtain ⟨b5, hb5⟩ : ∃ b5, b5 = w.heap.size := ⟨_, rfl⟩
  have hB0 : Below w.heap.size w W0 := by rw [hW0]; exact (Below.refl _ w).alloc (Nat.le_refl _) _
  have k5 : W0.heap[b5]? = some (.cells #[.int .i64 a0, .int .i64 a1] 74 (0, 0)) := by rw [hW0, hb5]; exact heap_alloc_new _ _
  have HB0 := hid hB0
  have HK5 := hid k5
  have HWk := hid (works_any W0)
  have HIm := hid (fun W (hb : Below w.heap.size w W) => images_any (c := c2) (Kd.C_below hC2 hb) (hG.later hb))
  obtain ⟨bl, hbl, hLi⟩ : ∃ b, (∀ W, Below w.heap.size w W → Calls Tryd.prog 34 #[.slice A L.length c] W (fun e w' => e = .returned (.bool b) ∧ Drawn0 W w')) ∧ (b = true → Light L ∧ ∀ b ∈ L, b.f3.length ≤ 40) := by
    obtain ⟨b, h1, h2⟩ := light_l L (min L.length 20) 100 0 (by omega) (by omega) (fun m hm h => by omega)
    exact ⟨b, fun W hb => provostlaw33_light.calls 100 A c L b W (Kd.C_below hC hb) hcc h1, h2⟩
  have HLt := hid hbl
  have HLi := hid hLi
  have HLO2 := hid (fun W (hb : Below w.heap.size w W) (j : Nat) (hj : j < L.length) y (hy : L[j]? = some y) => at83 (Kd.C_below hC hb) j hj hy)
  have HLO := hid (fun W (hb : Below w.heap.size w W) (j : Nat) (hj : j < L.length) => at_T83 (Kd.C_below hC hb) (j : Int) (by omega) (by omega))
  obtain ⟨n, hn⟩ : ∃ n, n = L.length := ⟨_, rfl⟩
  rw [← hn] at HLt ⊢
  have HN := hid hn
  obtain ⟨n2, hn2⟩ : ∃ n2, n2 = l.length := ⟨_, rfl⟩
  rw [← hn2] at HIm ⊢
  clear hB0 k5 hbl hLi hC hcc hC2 hG hn hn2
  go_enter Tryd.func8, Tryd.ntmps8
  go_upto_region 1 with fail
  rw [← hW0, ← hb5]
  clear hW0 hb5
  go_upto_region 4 with (first
    | (go_at_call 35; go_must (with_reducible refine HWk.out.mono ?_); rintro e w1 ⟨rfl, hb⟩; have HB1 := hid (HB0.out.trans (hb.mono HB0.out.size)); have HK51 := hid (blk_of hb HK5.out); clear hb)
    | (go_at_call 33; go_must (with_reducible refine (HIm.out _ HB1.out).mono ?_); rintro e w2 ⟨op, A3, n3, c3, m, rfl, hb, hI⟩; have HB2 := hid (HB1.out.trans (hb.mono HB1.out.size)); have HK52 := hid (blk_of hb HK51.out); have HI := hid hI; have HS12 := hid hb.size; clear hb hI))
  have HNew := hid (fun W => new_any W)
  cases op with
  | none =>
    go_wp2_with (go_at_call 27; go_must (with_reducible refine (HNew.out _).mono ?_); rintro e w3 ⟨rfl, hI, hb⟩; have HB3 := hid hb; clear hI hb)
    go_ret
    exact ⟨rfl, (HB2.out.alloc HB2.out.size _).trans (HB3.out.mono (Nat.le_trans HB2.out.size (by simp)))⟩
  | some ad =>
    obtain ⟨p, mb, n0, al, tick, hop, hn0, hbk, hgi, hne, hgp, hgm⟩ := HI.out.resolve_left (by simp)
    cases hop
    cases bl with
    | false =>
      clear HI hbk hgi hne
      go_wp2_with (first
        | (go_at_call 34; go_must (with_reducible refine (HLt.out _ (HB2.out.alloc HB2.out.size _)).mono ?_); rintro e w3 ⟨rfl, hd⟩; have HB3 := hid hd.below; clear hd)
        | (go_at_call 27; go_must (with_reducible refine (HNew.out _).mono ?_); rintro e w4 ⟨rfl, hI, hb⟩; have HB4 := hid hb; clear hI hb))
      go_ret
      have h3 := (HB2.out.alloc HB2.out.size (.cells #[.slice A3 n3 c3, .int .i64 m] 60)).trans (HB3.out.mono (Nat.le_trans HB2.out.size (by simp)))
      exact ⟨rfl, h3.trans (HB4.out.mono h3.size)⟩
    | true =>
      obtain ⟨hLt, hL40⟩ := HLi.out rfl
      have HTS := hid (show TS w w2 p mb b5 n0 al tick a0 a1 from ⟨HB2.out, hbk, hgi, hne, HK52.out, Nat.le_trans HB1.out.size hgp, Nat.le_trans HB1.out.size hgm⟩)
      have hn20 : n ≤ 20 := by rw [HN.out]; exact hLt.1
      have HLT := hid hLt
      have HL40 := hid hL40
      clear HI hbk hgi hne hgp hgm hLt hL40 HK52
      go_upto_region 6 with (go_at_call 34; go_must (with_reducible refine (HLt.out _ (HB2.out.alloc HB2.out.size _)).mono ?_); rintro e w3 ⟨rfl, hd⟩; have HTS3 := hid ((HTS.out.later ((Below.refl _ w2).alloc (Nat.le_refl _) _)).later hd.below); clear hd)
      go_wp2_with fail
      have H0 := hid (NowR.nil w.heap.size w3)
      have HZ := hid (show nowN L 0 = [] from rfl)
      have HZ2 := hid (show liveL (L.take 0) = 0 from rfl)
      rw [← HZ.out] at H0
      go_loopg [9, 10, 11] n (fun q s9 s10 s11 wr => ∃ (i : Nat) (A4 : Option Addr) (c4 : Nat), s9 = .slice A4 i c4 ∧ s10 = .int .i64 ((liveL (L.take i) : Nat) : Int) ∧ s11 = .int .i64 (i : Int) ∧ q = n - i ∧ i ≤ n ∧ Hid (NowR w.heap.size wr (.slice A4 i c4) (nowN L i)) ∧ Hid (TS w wr p mb b5 n0 al tick a0 a1))
      case atStart => exact ⟨0, none, 0, rfl, by rw [HZ2.out]; rfl, rfl, by omega, by omega, H0, HTS3⟩
      case round =>
        clear H0 HTS3
        obtain ⟨i, A4, c4, rfl, rfl, rfl, rfl, hi, HNow, HT⟩ := hrel
        have hwi : IntKind.i64.wrap ((i : Int) + 1) = ((i + 1 : Nat) : Int) := by rw [IntWalk.i64_in _ (by omega)]; omega
        by_cases hlt : i < n
        · have hil : i < L.length := by rw [← HN.out]; exact hlt
          obtain ⟨ad, A5, c5, hA, d0, d1, d2, d3, hc5, hC5⟩ := HLO.out wr HT.out.low i hil
          subst hA
          rw [rd83 L i hil] at d0 d1 d2 d3 hc5 hC5
          simp only [Int.toNat_natCast] at d0 d1 d2 d3
          have hnn := nowN_next L i hil
          have hln := live_next L i hil
          have hll := liveL_take L HLT.out i
          have hbl : L[i].f3.length ≤ 1000 := HLT.out.2 _ (List.getElem_mem hil)
          have hnl := nowN_length L i (by omega)
          generalize liveL (L.take i) = live at hln hll ⊢
          generalize nowN L i = M at hnn HNow hnl
          generalize L[i] = x at d0 d1 d2 d3 hc5 hC5 hnn hln hbl
          obtain ⟨f0, f1, f2, f3⟩ := x
          simp only at d0 d1 d2 d3 hc5 hC5 hln hbl
          have HNN := hid hnn
          have HLN := hid hln
          clear hnn hln
          obtain ⟨mm, hmm⟩ : ∃ mm, mm = f3.length := ⟨_, rfl⟩
          rw [← hmm] at d3 hc5 hC5 hbl
          obtain ⟨b12, hb12⟩ : ∃ b12, b12 = wr.heap.size := ⟨_, rfl⟩
          obtain ⟨V1, hV1⟩ : ∃ V1, V1 = wr.alloc (.cells #[.int .i64 f0, .int .i64 f1, .int .i64 f2, .slice A5 mm c5] 83) := ⟨_, rfl⟩
          obtain ⟨V2, hV2⟩ : ∃ V2, V2 = V1.setCell ⟨b12, 0, none⟩ (.int .i64 ((i : Int) + 1)) := ⟨_, rfl⟩
          have hb1 : Below wr.heap.size wr V1 := by rw [hV1]; exact (Below.refl _ wr).alloc (Nat.le_refl _) _
          have hs1 : V1.heap.size = wr.heap.size + 1 := by rw [hV1]; simp
          have kb1 : V1.heap[b12]? = some (.cells #[.int .i64 f0, .int .i64 f1, .int .i64 f2, .slice A5 mm c5] 83 (0, 0)) := by rw [hV1, hb12]; exact heap_alloc_new _ _
          have hb2 : Below wr.heap.size wr V2 := by rw [hV2]; exact hb1.setCell (p := ⟨b12, 0, none⟩) (by simp only; omega) _
          have hs2 : V2.heap.size = wr.heap.size + 1 := by rw [hV2]; simp [hs1]
          have kb2 : V2.heap[b12]? = some (.cells #[.int .i64 ((i : Int) + 1), .int .i64 f1, .int .i64 f2, .slice A5 mm c5] 83 (0, 0)) := by rw [hV2]; exact blk_set kb1 0 _
          have hC6 := Kd.C_below hC5 hb2
          rw [hmm] at hC6
          obtain ⟨A6, c6, V4, hr6, hsl6, hnw6, hb6⟩ := copy95 (W := V2) (c := c5) hC6 (by rw [← hmm]; exact hbl) rfl
          rw [← hmm] at hr6 hsl6 hnw6
          have kb4 := blk_of hb6 kb2
          obtain ⟨V5, hV5⟩ : ∃ V5, V5 = V4.setCell ⟨b12, 3, none⟩ (.slice A6 mm c6) := ⟨_, rfl⟩
          have kb5 : V5.heap[b12]? = some (.cells #[.int .i64 ((i : Int) + 1), .int .i64 f1, .int .i64 f2, .slice A6 mm c6] 83 (0, 0)) := by rw [hV5]; exact blk_set kb4 3 _
          have hb4 : Below wr.heap.size wr V4 := hb2.trans (hb6.mono hb2.size)
          have HTI0 := hid (show TI wr V5 b12 ((i : Int) + 1) f1 f2 (.slice A6 mm c6) f3 from ⟨by rw [hV5]; exact hb4.setCell (p := ⟨b12, 3, none⟩) (by simp only; omega) _, kb5,
            by rw [hV5]; exact SlRow.kept hsl6 ((Keeps.refl (fun k => k = b12) V4).setCell ⟨b12, 3, none⟩ _ (.inl rfl)) (fun g hg e => by have := hnw6 g hg; omega), fun g hg => by have := hnw6 g hg; exact ⟨by omega, by omega⟩⟩)
          have HR6 := hid hr6
          have hlt12 : b12 < V2.heap.size := by omega
          have HKB2 := hid kb2
          have HKB4 := hid kb4
          obtain ⟨y0, y1, y2, y3, yf⟩ := cells4 kb1
          have yf0 := yf 0
          have HMM := hid hmm
          clear hmm yf hb1 hs1 hb2 hs2 kb1 kb2 hC6 hC5 hc5 hr6 hsl6 hnw6 hb6 kb4 kb5 hb4
          go_upto_region 12 with fail
          rw [← hb12, ← hV1]
          clear hV1 hb12 d0 d1 d2 d3
          go_upto_region 13 with fail
          rw [← hV2]
          clear hV2 y0 y1 y2 y3 yf0
          obtain ⟨y0, y1, y2, y3, -⟩ := cells4 HKB2.out
          obtain ⟨z0, z1, z2, z3, zf⟩ := cells4 HKB4.out
          have zf3 := zf 3
          clear zf
          go_upto_region 14 with (at_builtin; refine wl_append rfl _ _ _ rfl ⟨_, _, HR6.out, ?_⟩)
          rw [← hV5]
          clear hV5 y0 y1 y2 y3 z0 z1 z2 z3 zf3
          obtain ⟨y0, y1, y2, y3, -⟩ := cells4 HTI0.out.box
          go_wp2_with fail
          clear y0 y1 y2 y3 hlt12
          have HZ3 := hid (show cntL (f3.take 0) = 0 from rfl)
          rw [← rn_zero f3] at HTI0
          go_loopg [10, 59] mm (fun q s10 s59 wr2 => ∃ j : Nat, s10 = .int .i64 ((live + cntL (f3.take j) : Nat) : Int) ∧ s59 = .int .i64 (j : Int) ∧ q = mm - j ∧ j ≤ mm ∧ Hid (TI wr wr2 b12 ((i : Int) + 1) f1 f2 (.slice A6 mm c6) (rn f3 j)))
          case atStart => exact ⟨0, by rw [HZ3.out]; rfl, rfl, by omega, by omega, HTI0⟩
          case round =>
            clear HTI0
            obtain ⟨j, rfl, rfl, rfl, hj, HTI⟩ := hrel
            have hwj : IntKind.i64.wrap ((j : Int) + 1) = ((j + 1 : Nat) : Int) := by rw [IntWalk.i64_in _ (by omega)]; omega
            by_cases hjm : j < mm
            · have hjl : j < f3.length := by rw [← HMM.out]; exact hjm
              obtain ⟨g, o, hA6⟩ : ∃ g o, A6 = some ⟨g, o, none⟩ := by
                rcases SlRow.form HTI.out.sl with ⟨h1, h2⟩ | ⟨g, o, cc, h1⟩
                · rw [rn_length] at h2; omega
                · exact ⟨g, o, by injection h1⟩
              subst hA6
              have hrl : j < (rn f3 j).length := by rw [rn_length]; exact hjl
              have hml : mm = (rn f3 j).length := by rw [rn_length]; exact HMM.out
              obtain ⟨u0, u3, uf⟩ := HTI.out.cells hml j hrl
              have hpt := HTI.out.put hml j hrl (j : Int)
              rw [rn_next f3 j hrl] at hpt
              rw [st_rn f3 j hjl] at u3
              have hct := cnt_next f3 j hjl
              have hcl : cntL (f3.take j) ≤ 1000 := by
                have h1 := cntL_le (f3.take j)
                rw [List.length_take] at h1
                omega
              have hix : isX f3[j] = decide (f3[j].f3.f0 = 4) := rfl
              rw [hix] at hct
              generalize (rn f3 j)[j].f0 = o0 at u0
              generalize f3[j].f3.f0 = st at u3 hct
              generalize cntL (f3.take j) = ct at hct hcl ⊢
              have HPT := hid hpt
              have hgb : ¬ b12 = g := fun e => (HTI.out.new g rfl).2 e.symm
              have hgb2 : ¬ g = b12 := fun e => hgb e.symm
              obtain ⟨y0, y1, y2, y3, -⟩ := cells4 HTI.out.box
              clear hpt hml hrl hjl hix
              by_cases q4 : st = 4
              · have e1 : decide (st = 4) = true := decide_eq_true q4
                have e2 : (st == 4) = true := by simpa using q4
                rw [e1, if_pos rfl, Nat.add_zero] at hct
                have HCT := hid hct
                subst q4
                clear hct
                go_wp2_with fail
                go_roundg (mm - (j + 1))
                case measure => omega
                case rel => exact ⟨j + 1, by rw [HCT.out]; simp, rfl, rfl, by omega, HPT⟩
              · have e1 : decide (st = 4) = false := decide_eq_false q4
                have e2 : (st == 4) = false := by simpa using q4
                rw [e1, if_neg (by decide)] at hct
                have HCT := hid hct
                have hwc : IntKind.i64.wrap (((live + ct : Nat) : Int) + 1) = ((live + (ct + 1) : Nat) : Int) := by rw [IntWalk.i64_in _ (by omega)]; omega
                clear hct q4
                go_wp2_with fail
                go_roundg (mm - (j + 1))
                case measure => omega
                case rel => exact ⟨j + 1, by rw [HCT.out]; simp; omega, rfl, rfl, by omega, HPT⟩
            · have hje : j = mm := by omega
              subst hje
              have he : (rn f3 f3.length).length = j := by rw [rn_length, HMM.out]
              have hsl := HTI.out.sl
              have hx : SlOf wr 95 7 enc95 (.slice A6 (nbB i ⟨f0, f1, f2, f3⟩).f3.length c6) (nbB i ⟨f0, f1, f2, f3⟩).f3 := by
                have h2 : rn f3 j = rn f3 f3.length := by rw [HMM.out]
                rw [h2] at hsl
                simp only [nbB, he]
                exact hsl
              obtain ⟨A7, c7, w7, hr7, hnw7, hk7⟩ := (HNow.out.later HTI.out.low).add (Nat.le_trans HT.out.low.size HTI.out.low.size) (by omega) _ hx
              simp only [nbB, he] at hr7
              rw [hnl] at hr7 hnw7
              have HR7 := hid hr7
              rw [← HNN.out] at hnw7
              have HNW := hid hnw7
              have HT7 := hid ((HT.out.later HTI.out.low).kept83 hk7)
              have HLN2 := hid (show liveL (L.take (i + 1)) = live + cntL (f3.take j) by rw [HLN.out, HMM.out, List.take_length])
              obtain ⟨y0, y1, y2, y3, -⟩ := cells4 HTI.out.box
              clear hr7 hnw7 hk7 hx hsl he
              go_wp2_with (at_builtin; refine wl_append rfl _ _ _ rfl ⟨_, _, HR7.out, ?_⟩)
              go_roundg (n - (i + 1))
              case measure => omega
              case rel => exact ⟨i + 1, A7, c7, rfl, by rw [HLN2.out]; simp, rfl, rfl, by omega, HNW, HT7⟩
        · have hie : i = n := by omega
          subst hie
          have hei := ei_start L HLT.out
          have htn := tot_now L HLT.out.1 HL40.out
          have hlen := nowN_length L i (by rw [HN.out]; omega)
          rw [← HN.out] at hei htn
          have hlm := hei.light HLT.out.1
          obtain ⟨es, clock, hmap, -⟩ := HT.out.bk.map
          have HM0 := hid (MR.of_now (mb := mb) HNow.out ⟨es, clock, hmap⟩ hlen.symm (by omega) hlm.2)
          have HC0 := hid (HNow.out.reads hlen.symm (by omega) hlm.2).2
          have hal := HT.out.gi.short.2
          have HE0 := hid hei
          generalize nowN L i = M0 at HM0 HE0 htn
          clear HNow hei hlen hlm hmap
          go_wp2_with fail
          have hlv : liveL (L.take i) = liveL L := by rw [HN.out, List.take_length]
          generalize liveL (L.take i) = live at hlv ⊢
          have HLV := hid hlv
          have hb0 : n0 ≤ 400 + 0 := hn0
          have HTW := hid HT.out
          clear hlv hwi HT hn0
          go_loopg [9, 14] 1000 (fun q s9 s14 wr => ∃ (k : Nat) (A8 : Option Addr) (c8 : Nat) (M : List S83) (n1 : Nat) (al1 : IL), s9 = .slice A8 i c8 ∧ s14 = .int .i64 (k : Int) ∧ q = 1000 - k ∧ k ≤ 1000 ∧ totL M + al1.length + k ≤ 816 ∧ n1 ≤ 400 + k ∧ Hid (MR mb wr A8 i M) ∧ Hid (i ≤ c8) ∧ Hid (EI L M) ∧ Hid (TS w wr p mb b5 n1 al1 tick a0 a1))
          case atStart => exact ⟨0, A4, c4, M0, n0, al, rfl, rfl, by omega, by omega, by omega, hb0, HM0, HC0, HE0, HTW⟩
          case round =>
            clear HM0 HC0 HE0 HTW htn hal hb0
            obtain ⟨k, A8, c8, M, n1, al1, rfl, rfl, rfl, hk, htot, hn1, HM, HC8, HE, HT⟩ := hrel
            have hwk : IntKind.i64.wrap ((k : Int) + 1) = ((k + 1 : Nat) : Int) := by rw [IntWalk.i64_in _ (by omega)]; omega
            have hk1 : k < 1000 := by omega
            have hMn : M.length = i := by rw [HE.out.1, HN.out]
            have hlm := HE.out.light HLT.out.1
            have ht := HT.out.gi.t
            have HNx := hid (fun V (hM : MR mb V A8 i M) (hT : TS w V p mb b5 n1 al1 tick a0 a1) => show Calls Tryd.prog 41 #[.slice A8 i c8, .pointer (some ⟨p, 0, none⟩), .int .i64 a0, .int .i64 a1] V (NextSays (nextF M a0 a1 tick al1) V) from by
              have h1 := hM.now
              rw [← hMn] at h1
              have h2 := next_any hT.bk hT.gi.short (by omega) (fun q => by have := hT.gi.rg q; unfold Rg at this; omega) a0 a1 (c := c8) h1 hlm
              rw [hMn] at h2
              exact h2)
            have HWo := hid (fun V (hM : MR mb V A8 i M) bx ct im => show Calls Tryd.prog 43 #[.slice A8 i c8, .agg #[.int .i64 bx, .int .i64 ct, .string im]] V (fun e w' => ∃ A' c', e = .returned (.slice A' i c') ∧ (∀ mb V2, mb < V.heap.size → Keeps (fun i => i = mb) w' V2 → Kd.C k83 V2 A' i (woL bx ct M)) ∧ i ≤ c' ∧ Below V.heap.size V w') from by
              have h1 := hM.now
              rw [← hMn] at h1
              have h2 := without_any (c := c8) h1 (by rw [hMn]; exact HC8.out) hlm bx ct im
              rw [hMn] at h2
              exact h2)
            obtain ⟨x0, x1, -⟩ := cells2 HT.out.k5
            clear hMn hlm ht
            cases hx : nextB M with
            | some x =>
              obtain ⟨q1, q2⟩ := x
              have hF : nextF M a0 a1 tick al1 = ((q1, q2, ⟨#[]⟩), true) := by unfold nextF; rw [hx]
              rw [hF] at HNx
              have HN1 := hid (HNx.out wr HM.out HT.out)
              have HN1e := hid (fun e w' => show NextSays ((q1, q2, ⟨#[]⟩), true) wr e w' = (e = .returned (.tuple #[.agg #[.int .i64 q1, .int .i64 q2, .string ⟨#[]⟩], .bool true]) ∧ Below wr.heap.size wr w') from rfl)
              obtain ⟨hE2, hlt2⟩ := HE.out.step hx
              have HE2 := hid hE2
              clear HNx hF hx hE2
              go_wp2_with (first
                | (go_at_call 41; go_must (with_reducible refine HN1.out.mono ?_); rintro e w4 hS; rw [HN1e.out] at hS; obtain ⟨rfl, hb⟩ := hS; have HB4 := hid hb; clear hb)
                | (go_at_call 43; go_must (with_reducible refine (HWo.out _ ((HM.out.later HB4.out).later ((Below.refl _ w4).alloc (Nat.le_refl _) _)) q1 q2 ⟨#[]⟩).mono ?_); rintro e w5 ⟨A9, c9, rfl, hM9, hc9, hb⟩; have HT5 := hid (((HT.out.later HB4.out).later ((Below.refl _ w4).alloc (Nat.le_refl _) _)).later hb); have HM9 := hid hM9; have HC9 := hid hc9; clear hb hM9 hc9))
              go_roundg (1000 - (k + 1))
              case measure => omega
              case rel => exact ⟨k + 1, A9, c9, _, n1, al1, rfl, rfl, rfl, by omega, by omega, by omega, hid (fun V hV => HM9.out mb V (by have := HT.out.bk.lt.2; have := HB4.out.size; simp; omega) hV), HC9, HE2, HT5⟩
            | none =>
              cases hi : imgF a0 a1 tick al1 with
              | some u =>
                have hF : nextF M a0 a1 tick al1 = ((0, 0, u), true) := by unfold nextF; rw [hx]; simp only [hi, Option.getD_some, Option.isSome_some]
                rw [hF] at HNx
                obtain ⟨hu0, hd0, hal2, husz, hupos⟩ := img_trash HT.out.gi HT.out.ne hi
                have HN1 := hid (HNx.out wr HM.out HT.out)
                have HN1e := hid (fun e w' => show NextSays ((0, 0, u), true) wr e w' = (e = .returned (.tuple #[.agg #[.int .i64 0, .int .i64 0, .string u], .bool true]) ∧ Below wr.heap.size wr w') from rfl)
                have HUs := hid (fun V (hT : TS w V p mb b5 n1 al1 tick a0 a1) => show Calls Tryd.prog 28 #[.pointer (some ⟨p, 0, none⟩), .string u] V (fun e w' => e = .returned (.int .i64 0) ∧ w' = V) from by have := users_any hT.bk u; rw [hu0] at this; exact this)
                have HDr := hid (fun V (hT : TS w V p mb b5 n1 al1 tick a0 a1) => show Calls Tryd.prog 31 #[.pointer (some ⟨p, 0, none⟩), .string u] V (fun e w' => e = .returned (.int .i64 0) ∧ IBk w' p mb (dropA u al1) tick ∧ Keeps (fun i => i = mb) V w') from by have := drop_any hT.bk u; rw [hd0] at this; exact this)
                have hune : ¬ u.data.toList = [] := fun e => by
                  have h1 : u.data.toList.length = 0 := by rw [e]; rfl
                  rw [Array.length_toList] at h1
                  have h2 : u.size = 0 := h1
                  omega
                have hune3 : ¬ u.toList = [] := fun e => hune (by rw [ByteArray.toList_eq] at e; exact e)
                have hune2 : (!u.toList.isEmpty) = true := by simpa using hune3
                clear hune
                clear HNx hF hx hi hu0 hd0
                go_wp2_with (first
                  | (go_at_call 41; go_must (with_reducible refine HN1.out.mono ?_); rintro e w4 hS; rw [HN1e.out] at hS; obtain ⟨rfl, hb⟩ := hS; have HB4 := hid hb; have HT4 := hid ((HT.out.later hb).later ((Below.refl _ w4).alloc (Nat.le_refl _) (.cells #[.int .i64 0, .int .i64 0, .string u] 79))); clear hb)
                  | (go_at_call 28; go_must (with_reducible refine (HUs.out _ HT4.out).mono ?_); rintro e w5 ⟨rfl, rfl⟩)
                  | (go_at_call 31; go_must (with_reducible refine (HDr.out _ HT4.out).mono ?_); rintro e w6 ⟨rfl, hI, hk6⟩; have HT6 := hid (HT4.out.drop u husz hI hk6); have HK6 := hid hk6; clear hI hk6))
                go_roundg (1000 - (k + 1))
                case measure => omega
                case rel => exact ⟨k + 1, A8, c8, M, n1 + 1, dropA u al1, rfl, rfl, rfl, by omega, by omega, by omega, hid (((HM.out.later HB4.out).later ((Below.refl _ w4).alloc (Nat.le_refl _) _)).keeps HK6.out), HC8, HE, HT6⟩
              | none =>
                have hF : nextF M a0 a1 tick al1 = ((0, 0, ⟨#[]⟩), false) := by unfold nextF; rw [hx]; simp only [hi, Option.getD_none, Option.isSome_none]
                rw [hF] at HNx
                have HN1 := hid (fun V hM hT => HNx.out V hM hT)
                have HN1e := hid (fun V e w' => show NextSays ((0, 0, ⟨#[]⟩), false) V e w' = (e = .returned (.tuple #[.agg #[.int .i64 0, .int .i64 0, .string ⟨#[]⟩], .bool false]) ∧ Below V.heap.size V w') from rfl)
                have HCn := hid (nextB_no hx)
                have HK5 := hid HT.out.k5
                clear HNx hF hx hi x0 x1
                obtain ⟨x0, x1, -⟩ := cells2 HK5.out
                go_upto_region 32 with (first
                  | (have z := HB4.out; clear z; go_at_call 41; go_must (with_reducible refine (HN1.out _ ((HM.out.later HB4.out).later ((Below.refl _ w4).alloc (Nat.le_refl _) _)) HT4.out).mono ?_); rintro e w5 hS; rw [HN1e.out] at hS; obtain ⟨rfl, hb⟩ := hS; have HB5 := hid hb; have HT5 := hid (HT4.out.later hb); clear hb)
                  | (go_at_call 41; go_must (with_reducible refine (HN1.out _ HM.out HT.out).mono ?_); rintro e w4 hS; rw [HN1e.out] at hS; obtain ⟨rfl, hb⟩ := hS; have HB4 := hid hb; have HT4 := hid ((HT.out.later hb).later ((Below.refl _ w4).alloc (Nat.le_refl _) (.cells #[.int .i64 0, .int .i64 0, .string ⟨#[]⟩] 79))); have hlt4 : b5 < w4.heap.size := (Array.getElem?_eq_some_iff.1 (blk_of hb HK5.out)).1; obtain ⟨x0, x1, -⟩ := cells2 (blk_of hb HK5.out); clear hb))
                obtain ⟨W9, hW9⟩ : ∃ W9, W9 = w5.alloc (.cells #[.int .i64 0, .int .i64 0, .string ⟨#[]⟩] 79) := ⟨_, rfl⟩
                have hb9 : Below w5.heap.size w5 W9 := by rw [hW9]; exact (Below.refl _ w5).alloc (Nat.le_refl _) _
                have hm9 := (((HM.out.later HB4.out).later ((Below.refl _ w4).alloc (Nat.le_refl _) (.cells #[.int .i64 0, .int .i64 0, .string ⟨#[]⟩] 79))).later HB5.out).later hb9
                have HB9 := hid (HT5.out.low.trans (hb9.mono HT5.out.low.size))
                have HM9 := hid hm9.now
                have hMn : M.length = i := by rw [HE.out.1, HN.out]
                have hlm := HE.out.light HLT.out.1
                have HLM := hid (fun W (hb : Below W9.heap.size W9 W) (j : Nat) (hj : j < i) x (hx : M[j]? = some x) => at83 (Kd.C_below HM9.out hb) j hj hx)
                have HLS := hid (live_same HE.out)
                have HCt := hid (fun V (hb : Below W9.heap.size W9 V) => show Calls Tryd.prog 42 #[.slice A8 i c8] V (fun e w' => e = .returned (.int .i64 0) ∧ Below V.heap.size V w') from by
                  have h1 := Kd.C_below HM9.out hb
                  rw [← hMn] at h1
                  have h2 := count_any (c := c8) h1 hlm
                  rw [hMn] at h2
                  refine h2.mono ?_
                  rintro e w' ⟨rfl, hb⟩
                  exact ⟨by rw [HCn.out]; rfl, hb⟩)
                have HLm := hid hlm
                have HMn := hid hMn
                have H9 := hid (show Below W9.heap.size W9 W9 from Below.refl _ _)
                have HZ9 := hid (show liveL (M.take 0) = 0 from rfl)
                rw [← hW9]
                clear hW9 hb9 hm9 hMn hlm hlt4 x0 x1
                go_wp2_with fail
                go_loopg [19, 20] i (fun q s19 s20 wr => ∃ j : Nat, s19 = .int .i64 ((liveL (M.take j) : Nat) : Int) ∧ s20 = .int .i64 (j : Int) ∧ q = i - j ∧ j ≤ i ∧ Hid (Below W9.heap.size W9 wr))
                case atStart => exact ⟨0, by rw [HZ9.out]; rfl, rfl, by omega, by omega, H9⟩
                case round =>
                  clear H9
                  obtain ⟨j, rfl, rfl, rfl, hj, HB⟩ := hrel
                  have hwj : IntKind.i64.wrap ((j : Int) + 1) = ((j + 1 : Nat) : Int) := by rw [IntWalk.i64_in _ (by omega)]; omega
                  by_cases hji : j < i
                  · have hjM : j < M.length := by rw [HMn.out]; exact hji
                    have hjL : j < L.length := by rw [← HN.out]; exact hji
                    have hln := live_next M j hjM
                    have hll := liveL_take M HLm.out j
                    have hbx := HE.out.2 j _ _ (List.getElem?_eq_getElem hjL) (List.getElem?_eq_getElem hjM)
                    generalize liveL (M.take j) = lv at hln hll ⊢
                    obtain ⟨x, hx⟩ : ∃ x, M[j] = x := ⟨_, rfl⟩
                    have hx2 : M[j]? = some x := by rw [List.getElem?_eq_getElem hjM, hx]
                    have HXM := hid (fun W hb => HLM.out W hb j hji x hx2)
                    obtain ⟨y, hy⟩ : ∃ y, L[j] = y := ⟨_, rfl⟩
                    have hy2 : L[j]? = some y := by rw [List.getElem?_eq_getElem hjL, hy]
                    have HXL := hid (fun W hb => HLO2.out W hb j hjL y hy2)
                    rw [hx, hy] at hbx
                    rw [hx] at hln
                    have HBX := hid hbx
                    have HLN := hid hln
                    have hm5 := hbx.len
                    obtain ⟨f0, f1, f2, f3⟩ := x
                    obtain ⟨h0, h1, h2, h3⟩ := y
                    simp only at hm5 HLN
                    have HY2 := hid hy2
                    clear hx hy hx2 hy2 hbx hln hjM hjL
                    have HZ10 := hid (show cntL (f3.take 0) = 0 from rfl)
                    go_wp2_with fail
                    go_loopg [19, 21] f3.length (fun q s19 s21 wr2 => ∃ jj : Nat, s19 = .int .i64 ((lv + cntL (f3.take jj) : Nat) : Int) ∧ s21 = .int .i64 (jj : Int) ∧ q = f3.length - jj ∧ jj ≤ f3.length ∧ Hid (Below W9.heap.size W9 wr2))
                    case atStart => exact ⟨0, by rw [HZ10.out]; rfl, rfl, by omega, by omega, HB⟩
                    case round =>
                      clear HB
                      obtain ⟨jj, rfl, rfl, rfl, hjj, HB⟩ := hrel
                      have hwjj : IntKind.i64.wrap ((jj : Int) + 1) = ((jj + 1 : Nat) : Int) := by rw [IntWalk.i64_in _ (by omega)]; omega
                      obtain ⟨ad, A9, c9, hA, d0, d3, hC9⟩ := HXM.out wr HB.out
                      subst hA
                      by_cases hjl : jj < f3.length
                      · obtain ⟨ad9, hA, e0, e1, e2, e3, -⟩ := at_T95 hC9 (jj : Int) (by omega) (by omega)
                        subst hA
                        rw [rd95 f3 jj hjl] at e0 e1 e2 e3
                        simp only [Int.toNat_natCast] at e0 e1 e2 e3
                        have hct := cnt_next f3 jj hjl
                        have hcl : cntL (f3.take jj) ≤ 1000 := by
                          have h1 := cntL_le (f3.take jj)
                          rw [List.length_take] at h1
                          omega
                        have hix : isX f3[jj] = decide (f3[jj].f3.f0 = 4) := rfl
                        rw [hix] at hct
                        generalize f3[jj].f3.f0 = st at e3 hct
                        generalize cntL (f3.take jj) = ct at hct hcl ⊢
                        clear hix hC9 e0 e1 e2 d0
                        by_cases q4 : st = 4
                        · have z1 : decide (st = 4) = true := decide_eq_true q4
                          have z2 : (st == 4) = true := by simpa using q4
                          rw [z1, if_pos rfl, Nat.add_zero] at hct
                          have HCT := hid hct
                          subst q4
                          clear hct
                          go_wp2_with fail
                          go_roundg (f3.length - (jj + 1))
                          case measure => omega
                          case rel => exact ⟨jj + 1, by rw [HCT.out]; simp, rfl, rfl, by omega, HB⟩
                        · have z1 : decide (st = 4) = false := decide_eq_false q4
                          have z2 : (st == 4) = false := by simpa using q4
                          rw [z1, if_neg (by decide)] at hct
                          have HCT := hid hct
                          have hwc : IntKind.i64.wrap (((lv + ct : Nat) : Int) + 1) = ((lv + (ct + 1) : Nat) : Int) := by rw [IntWalk.i64_in _ (by omega)]; omega
                          clear hct q4
                          go_wp2_with fail
                          go_roundg (f3.length - (jj + 1))
                          case measure => omega
                          case rel => exact ⟨jj + 1, by rw [HCT.out]; simp; omega, rfl, rfl, by omega, HB⟩
                      · have hje : jj = f3.length := by omega
                        subst hje
                        have HLN2 := hid (show liveL (M.take (j + 1)) = lv + cntL (f3.take f3.length) by rw [HLN.out, List.take_length])
                        obtain ⟨adL, A10, c10, hA, g0, g3, hC10⟩ := HXL.out wr (HB9.out.trans (HB.out.mono HB9.out.size))
                        subst hA
                        have hm0 : h3.length ≤ 1000 := by have h := HLT.out.2 ⟨h0, h1, h2, h3⟩ (List.mem_of_getElem? HY2.out); exact h
                        go_upto_region 41 with fail
                        by_cases hz : h3 = []
                        · subst hz
                          simp only [List.length_nil] at g3
                          clear hC9 hm0 g0 d0
                          go_quiet (fail)
                          go_wp2_with fail
                          go_roundg (i - (j + 1))
                          case measure => omega
                          case rel => exact ⟨j + 1, by rw [HLN2.out], rfl, rfl, by omega, hid (pw_below_drewN HB.out _)⟩
                        · obtain ⟨r, z, hrz, hz0⟩ := HBX.out.last hz
                          simp only at hrz hz0
                          have hlr : f3.length = r.length + 1 := by rw [hrz]; simp
                          have hpos : 0 < h3.length := by cases h3 with | nil => exact absurd rfl hz | cons a b => simp
                          obtain ⟨ad9, hA, e0, -⟩ := at_T95 hC9 (r.length : Int) (by omega) (by omega)
                          subst hA
                          rw [rd95 f3 r.length (by omega)] at e0
                          simp only [Int.toNat_natCast] at e0
                          have hzz : f3[r.length].f0 = (h3.length : Int) - 1 := by
                            have : f3[r.length]'(by omega) = z := by simp [hrz]
                            rw [this]; exact hz0
                          rw [hzz] at e0
                          have E1 : ((f3.length : Int) == 0) = false := beq_eq_false_iff_ne.2 (by omega)
                          have E2 : IntKind.i64.wrap ((f3.length : Int) - 1) = (r.length : Int) := by rw [IntWalk.i64_in _ (by omega)]; omega
                          have E4 : 0 < f3.length := by omega
                          obtain ⟨w1, hw⟩ : ∃ w1, w1 = (h3.length : Int) - 1 := ⟨_, rfl⟩
                          have E3 : IntKind.i64.wrap ((h3.length : Int) - 1) = w1 := by rw [hw]; exact IntWalk.i64_in _ (by omega)
                          rw [← hw] at e0
                          have E5 : r.length < f3.length := by omega
                          have HLR := hid hlr
                          clear hC9 hm0 g0 d0 hrz hz0 hzz hw hlr hz
                          go_quiet (fail)
                          go_wp2_with fail
                          go_roundg (i - (j + 1))
                          case measure => omega
                          case rel => exact ⟨j + 1, by rw [HLN2.out], rfl, rfl, by omega, hid (pw_below_drewN HB.out _)⟩
                  · have hje : j = i := by omega
                    subst hje
                    have he : liveL (M.take j) = live := by
                      rw [List.take_of_length_le (Nat.le_of_eq HMn.out), HLS.out, HLV.out]
                    rw [he]
                    clear he
                    go_wp2_with (go_at_call 42; go_must (with_reducible refine (HCt.out _ HB.out).mono ?_); rintro e w10 ⟨rfl, hb⟩; have HB10 := hid hb; clear hb)
                    go_ret
                    have h3 := HB9.out.trans (HB.out.mono HB9.out.size)
                    exact ⟨rfl, h3.trans (HB10.out.mono h3.size)⟩
end Go.Proofs.YtmgcapccgncmkaaDoor.Tr
namespace Go.Proofs.YtmgcapccgncmkaaDoor.Tr
open Go.ChangeShapes Go.WideShapes Go.ChangeAt Go.RowKit Go.Pv Go.Proofs.YtmgcapccgncmkaaDoor.Im Go.Proofs.YtmgcapccgncmkaaDoor.Tx Go.Proofs.YtmgcapccgncmkaaDoorW.PrintWords Go.Proofs.YtmgcapccgncmkaaDoor.PTrashFinds
theorem okWide_array {P : Program} {w : World} {r : Reach} {base : Nat} {t e : TypeId} {n : Nat} {v : Value} (ht : P.underlying t = some (.array n e)) (h : Value.okWide P w r base t v) : ∃ cs, v = .agg cs ∧ cs.size = P.cellsOf t := by
  simp only [Value.okWide, ht] at h
  obtain ⟨cs, h1, h2, _⟩ := h
  exact ⟨cs, h1, h2⟩
set_option maxRecDepth 100000 in
theorem open_two {H : Type} {enc : TypeId × Value → H} {W : World} {base b2 fuel : Nat} {r : Reach} {spare : Nat → Bool} {held : Bool} {v : Value} {x : DataW H × List MemPlace} (hv : Value.okWide Tryd.prog W r base 74 v) (h : DataW.trod enc Tryd.prog W b2 spare held fuel 74 v.cells.toList = some x) : ∃ a0 a1, v = .agg #[.int .i64 a0, .int .i64 a1] := by
  obtain ⟨cs, rfl, hs⟩ := okWide_array Tryd.underlying74 hv
  have hs2 : cs.size = 2 := hs.trans (show Tryd.prog.cellsOf 74 = 2 by kernel_rfl)
  obtain ⟨m, hel⟩ : ∃ m : Nat, ∀ i, i < 2 → ∃ y, DataW.trod enc Tryd.prog W b2 spare held m 3 ((cs.toList.drop (i * 1)).take 1) = some y := by
    obtain ⟨xs, m, -, -, -, hx, hel⟩ := DataW.trod_array Tryd.underlying74 h
    refine ⟨m, fun i hi => ?_⟩
    have h1 := hel i hi
    rw [show Tryd.prog.cellsOf 3 = 1 by kernel_rfl, List.getElem?_eq_getElem (by rw [hx]; exact hi)] at h1
    exact ⟨_, h1⟩
  obtain ⟨y0, h0⟩ := hel 0 (by omega)
  obtain ⟨y1, h1⟩ := hel 1 (by omega)
  obtain ⟨a0, e0, _⟩ := DataW.trod_int Tryd.underlying3 h0
  obtain ⟨a1, e1, _⟩ := DataW.trod_int Tryd.underlying3 h1
  refine ⟨a0, a1, ?_⟩
  have h3 : cs.toList = [.int .i64 a0, .int .i64 a1] := by
    obtain ⟨l⟩ := cs
    simp only at e0 e1 hs2 ⊢
    match l, hs2 with
    | [x, y], _ =>
      simp at e0 e1
      rw [e0, e1]
  rw [← h3]
theorem opn93 : Opn Tryd.prog 93 k93 (fun _ => True) :=
  (opn_iso (fun a => (⟨a.1, a.2.1, a.2.2⟩ : S93)) (fun _ => rfl) (opn_struct Tryd.underlying93 (by kernel_rfl) (.cons rfl (by kernel_rfl) (opn_int Tryd.underlying3) (.cons rfl (by kernel_rfl) (opn_int Tryd.underlying3) (.last rfl (by kernel_rfl) (opn_int Tryd.underlying3)))))).mono (fun _ _ => trivial)
theorem opn95 : Opn Tryd.prog 95 k95 (fun _ => True) :=
  (opn_iso (fun a => (⟨a.1, a.2.1, a.2.2.1, a.2.2.2.1, a.2.2.2.2⟩ : S95)) (fun _ => rfl) (opn_struct Tryd.underlying95 (by kernel_rfl) (.cons rfl (by kernel_rfl) (opn_int Tryd.underlying3) (.cons rfl (by kernel_rfl) (opn_string Tryd.underlying9) (.cons rfl (by kernel_rfl) (opn_string Tryd.underlying9) (.cons rfl (by kernel_rfl) opn93 (.last rfl (by kernel_rfl) (opn_bool Tryd.underlying4)))))))).mono (fun _ _ => trivial)
theorem opn83 : Opn Tryd.prog 83 k83 (fun _ => True) :=
  (opn_iso (fun a => (⟨a.1, a.2.1, a.2.2.1, a.2.2.2⟩ : S83)) (fun _ => rfl) (opn_struct Tryd.underlying83 (by kernel_rfl) (.cons rfl (by kernel_rfl) (opn_int Tryd.underlying3) (.cons rfl (by kernel_rfl) (opn_int Tryd.underlying3) (.cons rfl (by kernel_rfl) (opn_int Tryd.underlying3) (.last rfl (by kernel_rfl) (opn_slice Tryd.underlying81 (by kernel_rfl) opn95))))))).mono (fun _ _ => trivial)
theorem opnBoxes : Opn Tryd.prog 72 (Kd.slice 83 k83) (fun _ => True) := (opn_slice Tryd.underlying72 (by kernel_rfl) opn83).mono (fun _ _ => trivial)
theorem opnAct2 : Opn Tryd.prog 132 kA (fun _ => True) :=
  (opn_struct Tryd.underlying132 (by kernel_rfl) (.cons rfl (by kernel_rfl) (opn_int Tryd.underlying3) (.last rfl (by kernel_rfl) (opn_string Tryd.underlying9)))).mono (fun _ _ => trivial)
theorem opnActs2 : Opn Tryd.prog 73 (Kd.slice 132 kA) (fun _ => True) := (opn_slice Tryd.underlying73 (by kernel_rfl) opnAct2).mono (fun _ _ => trivial)
theorem emptiesLaw' {v v2 : Value} {L : List S83} {l : List (Int × ByteArray)} {a0 a1 : Int} {W : World} (hz : Rz k83 W v L) (hz2 : Rz kA W v2 l) (hG : Gm W) : Calls Tryd.prog 8 #[v, v2, .agg #[.int .i64 a0, .int .i64 a1]] W fun e w' => e = .returned (.bool true) ∧ Below W.heap.size W w' := by
  obtain ⟨A, c, rfl, hc, hC⟩ := hz
  obtain ⟨A2, c2, rfl, hc2, hC2⟩ := hz2
  exact empties_any hC hc hC2 a0 a1 hG
end Go.Proofs.YtmgcapccgncmkaaDoor.Tr
