/- Trash: images behind acts. (merged: De Df Dg Dh) -/
import Derived.Test.YtmgcapccgncmkaaDoorDa
import Derived.Test.YtmgcapccgncmkaaDoorIy
import Derived.Test.YtmgcapccgncmkaaDoorDt
set_option linter.unusedSimpArgs false
set_option linter.unusedVariables false
namespace Go.Proofs.YtmgcapccgncmkaaDoor.Tr
open Go.RowKit Go.Pv Go.Proofs.YtmgcapccgncmkaaDoor.Im Go.Proofs.YtmgcapccgncmkaaDoor.Tx Go.Proofs.YtmgcapccgncmkaaDoorW.PrintWords Go.Proofs.YtmgcapccgncmkaaDoorW.PrintLast

/-- No name is empty. -/
def NE (al : IL) : Prop := ∀ q ∈ al.map (·.1), 0 < q.size
theorem ne_set {al : IL} (h : NE al) (k : ByteArray) (s : Im) (hk : (aget k al).isSome = true ∨ 0 < k.size) : NE (aset k s al) := by
  unfold NE
  by_cases hi : (aget k al).isSome = true
  · rw [names_aset k s al hi]
    exact h
  · rw [aset_keys]
    split
    · exact h
    · intro q hq
      rcases List.mem_append.1 hq with h1 | h1
      · exact h q h1
      · simp only [List.mem_cons, List.not_mem_nil, or_false] at h1
        rw [h1]
        exact hk.resolve_left hi
theorem parts0 : partsB ⟨#[]⟩ = false := by kernel_rfl
theorem parts_pos {k : ByteArray} (h : partsB k = true) : 0 < k.size := by
  rcases Nat.eq_zero_or_pos k.size with h0 | h0
  · have : k = ⟨#[]⟩ := by
      cases k with
      | mk d => congr 1; exact Array.eq_empty_of_size_eq_zero h0
    rw [this, parts0] at h
    cases h
  · exact h0
theorem ne_act {al : IL} (h : NE al) (kind tick : Int) (k : ByteArray) : NE (actA kind k tick al) := by
  unfold actA
  split
  · unfold pullA
    split
    · rename_i hc
      exact ne_set h k _ (.inr (parts_pos hc.1))
    · exact h
  · split
    · unfold NE
      rw [names_tkA]
      exact h
    · split
      · unfold useA
        split
        · rename_i hc
          exact ne_set h k _ (.inl (there_some hc).1)
        · exact h
      · split
        · unfold leaveA
          split
          · rename_i hc
            split
            · exact h
            · exact ne_set h k _ (.inl (there_some hc).1)
          · exact h
        · unfold dropA
          split
          · split
            · exact h
            · exact fun q hq => h q (((adel_sublist k al).map (·.1)).subset hq)
          · exact h
/-- While acts are done to images and to the document's. -/
structure IM (w W : World) (p mb g3 g5 n : Nat) (al : IL) (tick : Int) (v : Value) (now : Int) (l : List Go.Proofs.YtmgcapccgncmkaaDoor.PImgKeeps.S136) : Prop where
  low : Below w.heap.size w W
  bk : IBk W p mb al tick
  gi : GI n al tick
  ne : NE al
  k3 : W.heap[g3]? = some (.cells #[.slice none 0 0, .int .i64 0] 60 (0, 0))
  k5 : W.heap[g5]? = some (.cells #[v, .int .i64 now] 60 (0, 0))
  q : QR W w.heap.size (fun k => w.heap.size ≤ k ∧ k ≠ p ∧ k ≠ mb ∧ k ≠ g3 ∧ k ≠ g5) v l
  ll : l.length ≤ n
  ge : w.heap.size ≤ p ∧ w.heap.size ≤ mb ∧ w.heap.size ≤ g3 ∧ w.heap.size ≤ g5 ∧ p ≠ g3 ∧ mb ≠ g3 ∧ p ≠ g5 ∧ mb ≠ g5 ∧ g3 ≠ g5
section
variable {w W V : World} {p mb g3 g5 n : Nat} {al : IL} {tick : Int} {v : Value} {now : Int} {l : List Go.Proofs.YtmgcapccgncmkaaDoor.PImgKeeps.S136}
theorem IM.lts (h : IM w W p mb g3 g5 n al tick v now l) : p < W.heap.size ∧ mb < W.heap.size ∧ g3 < W.heap.size ∧ g5 < W.heap.size :=
  ⟨h.bk.lt.1, h.bk.lt.2, (Array.getElem?_eq_some_iff.1 h.k3).1, (Array.getElem?_eq_some_iff.1 h.k5).1⟩
theorem IM.prog {al2 : IL} {t2 : Int} (h : IM w W p mb g3 g5 n al tick v now l) (hI : IBk V p mb al2 t2) (hg : GI (n + 1) al2 t2) (hne : NE al2) (hk : Keeps (fun i => i = p ∨ i = mb) W V) : IM w V p mb g3 g5 (n + 1) al2 t2 v now l := by
  have hge := h.ge
  have hlt := h.lts
  exact ⟨h.low.trans (hk.below h.low.size (fun i hi => by omega)), hI, hg, hne, (hk.block g3 hlt.2.2.1 (by omega)).trans h.k3, (hk.block g5 hlt.2.2.2 (by omega)).trans h.k5,
    Kd.R_kept (S := fun i => i = p ∨ i = mb) h.q ⟨hk.size, hk.block⟩ (fun k hk => by omega), by have := h.ll; omega, hge⟩
theorem IM.next (h : IM w W p mb g3 g5 n al tick v now l) : IM w W p mb g3 g5 (n + 1) al tick v now l := ⟨h.low, h.bk, h.gi.next, h.ne, h.k3, h.k5, h.q, by have := h.ll; omega, h.ge⟩
theorem IM.put {P : Nat → Prop} {v2 : Value} {m : Int} {r : List Go.Proofs.YtmgcapccgncmkaaDoor.PImgKeeps.S136} (h : IM w W p mb g3 g5 n al tick v now l) (hk : Keeps P W V) (hP : ∀ k, P k → w.heap.size ≤ k ∧ k ≠ p ∧ k ≠ mb ∧ k ≠ g3 ∧ k ≠ g5)
    (hR : QR V w.heap.size (fun k => P k ∨ W.heap.size ≤ k) v2 r) (hr : r.length ≤ l.length + 1) :
    IM w ((V.setCell ⟨g5, 0, none⟩ v2).setCell ⟨g5, 1, none⟩ (.int .i64 m)) p mb g3 g5 (n + 1) al tick v2 m r ∧ V.heap[g5]? = some (.cells #[v, .int .i64 now] 60 (0, 0)) := by
  have hge := h.ge
  have hlt := h.lts
  have hll := h.ll
  have k5 : V.heap[g5]? = some (.cells #[v, .int .i64 now] 60 (0, 0)) := (hk.block g5 hlt.2.2.2 (fun e => (hP _ e).2.2.2.2 rfl)).trans h.k5
  have hb : Below w.heap.size w V := h.low.trans (hk.below h.low.size (fun i hi => (hP i hi).1))
  have hk2 : Keeps (fun i => i = g5) V ((V.setCell ⟨g5, 0, none⟩ v2).setCell ⟨g5, 1, none⟩ (.int .i64 m)) := ((Keeps.refl (fun i => i = g5) V).setCell ⟨g5, 0, none⟩ _ (.inl rfl)).setCell ⟨g5, 1, none⟩ _ (.inl rfl)
  have hbk : IBk V p mb al tick := h.bk.kept hk (fun e => (hP _ e).2.1 rfl) (fun e => (hP _ e).2.2.1 rfl)
  have hs := hk.size
  refine ⟨⟨put2_below hb hge.2.2.2.1, hbk.kept hk2 (by omega) (by omega), h.gi.next, h.ne, ?_, put2 k5, ?_, by omega, hge⟩, k5⟩
  · exact (hk2.block g3 (by omega) (by omega)).trans ((hk.block g3 hlt.2.2.1 (fun e => (hP _ e).2.2.2.1 rfl)).trans h.k3)
  · have h2 : QR V w.heap.size (fun k => w.heap.size ≤ k ∧ k ≠ p ∧ k ≠ mb ∧ k ≠ g3 ∧ k ≠ g5) v2 r := Kd.R_mono hR (fun k hk => by
      rcases hk with h6 | h6
      · exact hP k h6
      · have := h.low.size
        exact ⟨by omega, by omega, by omega, by omega, by omega⟩)
    exact put2_R h2 (fun k hk => hk.2.2.2.2)
end
end Go.Proofs.YtmgcapccgncmkaaDoor.Tr
namespace Go.Proofs.YtmgcapccgncmkaaDoor.Tr
open Go.RowKit Go.Pv Go.Proofs.YtmgcapccgncmkaaDoor.Im Go.Proofs.YtmgcapccgncmkaaDoor.Tx Go.Proofs.YtmgcapccgncmkaaDoorW.PrintWords Go.Proofs.YtmgcapccgncmkaaDoorW.PrintLast

theorem blk_drew {W : World} {b : Nat} {o : Obj} (h : W.heap[b]? = some o) : W.drew.heap[b]? = some o := h
theorem gi0 : GI 0 [] 0 := ⟨⟨by simp, by simp⟩, by omega, by simp, fun k => by simp [getI, aget, Rg]⟩
end Go.Proofs.YtmgcapccgncmkaaDoor.Tr
namespace Go.Proofs.YtmgcapccgncmkaaDoor.Tr
open Go.RowKit Go.Pv Go.Proofs.YtmgcapccgncmkaaDoor.Im Go.Proofs.YtmgcapccgncmkaaDoor.Tx Go.Proofs.YtmgcapccgncmkaaDoorW.PrintWords Go.Proofs.YtmgcapccgncmkaaDoorW.PrintLast Go.Proofs.YtmgcapccgncmkaaDoor.PTrashFinds

theorem light_l (L : List S83) : ∀ (n k i : Nat), min L.length 20 = i + n → 2 * n + 2 < k → (∀ m (h : m < L.length), m < i → L[m].f3.length ≤ 40) → ∃ b, provostlaw33_light.l0 k L (i : Int) = some b ∧ (b = true → Light L ∧ ∀ b ∈ L, b.f3.length ≤ 40)
  | 0, k, i, h1, h2, h3 => by
    obtain ⟨k, rfl⟩ : ∃ j, k = j + 2 := ⟨k - 2, by omega⟩
    have key : provostlaw33_light.j1 (k + 1) L (i : Int) false = some (decide ((L.length : Int) ≤ 20)) := by
      unfold provostlaw33_light.j1
      rw [if_neg (by decide)]
    refine ⟨decide ((L.length : Int) ≤ 20), ?_, fun h => ?_⟩
    · unfold provostlaw33_light.l0
      by_cases hi : (i : Int) < (L.length : Int)
      · rw [if_pos hi, show decide ((i : Int) < 20) = false from decide_eq_false (by omega)]
        exact key
      · rw [if_neg hi]
        exact key
    · have h4 : L.length ≤ 20 := by have := of_decide_eq_true h; omega
      have h5 : ∀ b ∈ L, b.f3.length ≤ 40 := fun b hb => by
        obtain ⟨m, hm, rfl⟩ := List.getElem_of_mem hb
        exact h3 m hm (by omega)
      exact ⟨⟨h4, fun b hb => Nat.le_trans (h5 b hb) (by omega)⟩, h5⟩
  | n + 1, k, i, h1, h2, h3 => by
    obtain ⟨k, rfl⟩ : ∃ j, k = j + 2 := ⟨k - 2, by omega⟩
    have hi : i < L.length := by omega
    unfold provostlaw33_light.l0
    rw [if_pos (by omega), show decide ((i : Int) < 20) = true from decide_eq_true (by omega)]
    unfold provostlaw33_light.j1
    rw [if_pos rfl, if_pos (by omega), if_pos (by omega), rd83 L i hi]
    by_cases hl : (L[i].f3.length : Int) > 40
    · rw [if_pos hl]
      exact ⟨false, rfl, by simp⟩
    · rw [if_neg hl, wr1 (by omega)]
      refine light_l L n k (i + 1) (by omega) (by omega) (fun m hm hmi => ?_)
      by_cases he : m = i
      · subst he; omega
      · exact h3 m hm (by omega)
/-- Boxes without a container. -/
def woB (bx ct : Int) (b : S83) : S83 := ⟨b.f0, b.f1, b.f2, b.f3.filter fun c => !(decide (b.f0 = bx) && decide (c.f0 = ct))⟩
def woL (bx ct : Int) (L : List S83) : List S83 := L.map (woB bx ct)
/-! ### what stays -/
def isX (c : S95) : Bool := decide (c.f3.f0 = 4)
theorem deadL_mem {l : List S95} {d : Int} (h : d ∈ deadL l) : ∃ x ∈ l, x.f0 = d ∧ Trash.deadB S95.f0 S95.f1 isX (Trash.lastL S95.f0 S95.f1 l) x = true := by
  unfold deadL at h
  obtain ⟨x, h1, rfl⟩ := List.mem_map.1 h
  rw [List.mem_filter] at h1
  exact ⟨x, h1.1, rfl, h1.2⟩
def Rise (l : List S95) : Prop := Trash.Rise S95.f0 l
def cntL (l : List S95) : Nat := (l.filter fun c => !isX c).length
/-- A box of the law's, as it was and as it is. -/
structure BoxI (i : Nat) (b x : S83) : Prop where
  id : x.f0 = (i + 1 : Nat)
  rise : Rise x.f3
  cnt : cntL x.f3 = cntL b.f3
  last : b.f3 ≠ [] → ∃ r z, x.f3 = r ++ [z] ∧ z.f0 = (b.f3.length : Int) - 1
  len : x.f3.length ≤ 1000
def EI (L M : List S83) : Prop := M.length = L.length ∧ ∀ i b x, L[i]? = some b → M[i]? = some x → BoxI i b x
def totL (M : List S83) : Nat := (M.map fun b => b.f3.length).sum
theorem nextB_at {M : List S83} {x : Int × Int} (h : nextB M = some x) : ∃ i, ∃ (hi : i < M.length), M[i].f0 = x.1 ∧ x.2 ∈ deadL M[i].f3 := by
  unfold nextB at h
  obtain ⟨b, hb, h1⟩ := List.exists_of_findSome?_eq_some h
  obtain ⟨i, hi, rfl⟩ := List.getElem_of_mem hb
  cases hd : deadL M[i].f3 with
  | nil => rw [hd] at h1; simp at h1
  | cons d r =>
    rw [hd] at h1
    simp only [List.head?_cons, Option.map_some, Option.some.injEq] at h1
    subst h1
    exact ⟨i, hi, rfl, by rw [hd]; simp⟩
theorem woB_other {bx ct : Int} {b : S83} (h : b.f0 ≠ bx) : woB bx ct b = b := by
  unfold woB
  have : (b.f3.filter fun c => !(decide (b.f0 = bx) && decide (c.f0 = ct))) = b.f3 := List.filter_eq_self.2 (fun c _ => by simp [h])
  rw [this]
theorem woB_same {ct : Int} (b : S83) : woB b.f0 ct b = ⟨b.f0, b.f1, b.f2, Trash.wo S95.f0 ct b.f3⟩ := by
  unfold woB Trash.wo
  simp
theorem EI.step {L M : List S83} (h : EI L M) {x : Int × Int} (hx : nextB M = some x) : EI L (woL x.1 x.2 M) ∧ totL (woL x.1 x.2 M) < totL M := by
  obtain ⟨i, hi, h1, h2⟩ := nextB_at hx
  obtain ⟨c, hc, hc2, hd⟩ := deadL_mem h2
  have hiL : i < L.length := by rw [← h.1]; exact hi
  have hI := h.2 i _ _ (List.getElem?_eq_getElem hiL) (List.getElem?_eq_getElem hi)
  have hne : ∀ j (hj : j < M.length), j ≠ i → M[j].f0 ≠ x.1 := fun j hj hji e => by
    have hjL : j < L.length := by rw [← h.1]; exact hj
    have h3 := (h.2 j _ _ (List.getElem?_eq_getElem hjL) (List.getElem?_eq_getElem hj)).id
    rw [e, ← h1, hI.id] at h3
    omega
  refine ⟨⟨by rw [woL, List.length_map]; exact h.1, fun j b y hb hy => ?_⟩, ?_⟩
  · unfold woL at hy
    rw [List.getElem?_map, Option.map_eq_some_iff] at hy
    obtain ⟨z, hz, rfl⟩ := hy
    obtain ⟨hj, hz2⟩ := List.getElem?_eq_some_iff.1 hz
    have hB := h.2 j b z hb hz
    by_cases hji : j = i
    · subst hji
      rw [hz2] at h1 hc hd
      rw [← h1, woB_same, ← hc2]
      refine ⟨hB.id, Trash.Rise.wo S95.f0 hB.rise _, ?_, fun hbn => ?_, Nat.le_trans (Trash.wo_le _ _ _) hB.len⟩
      · have := Trash.wo_live S95.f0 S95.f1 isX hB.rise hc hd
        unfold cntL
        simp only
        rw [this]
        exact hB.cnt
      · obtain ⟨r, q, hr, hq⟩ := hB.last hbn
        have hR := hB.rise
        simp only
        rw [hr] at hc hd hR ⊢
        exact ⟨_, q, Trash.wo_last S95.f0 S95.f1 isX hR hc hd, hq⟩
    · have := hne j hj hji
      rw [hz2] at this
      rw [woB_other this]
      exact hB
  · have hsum : ∀ (N : List S83), totL (woL x.1 x.2 N) ≤ totL N := fun N => by
      unfold totL woL
      induction N with
      | nil => simp
      | cons a r ih =>
        simp only [List.map_cons, List.sum_cons]
        have : (woB x.1 x.2 a).f3.length ≤ a.f3.length := List.length_filter_le _ _
        omega
    have happ : ∀ (N N' : List S83), totL (N ++ N') = totL N + totL N' := fun N N' => by simp [totL]
    have hsp : M = M.take i ++ M[i] :: M.drop (i + 1) := by rw [← List.drop_eq_getElem_cons hi, List.take_append_drop]
    have hmm : woL x.1 x.2 M = woL x.1 x.2 (M.take i) ++ woB x.1 x.2 M[i] :: woL x.1 x.2 (M.drop (i + 1)) := by
      conv => lhs; rw [hsp]
      unfold woL
      rw [List.map_append, List.map_cons]
    rw [hmm, happ]
    conv => rhs; rw [hsp, happ]
    have h4 := hsum (M.take i)
    have h5 := hsum (M.drop (i + 1))
    have h6 : (woB x.1 x.2 M[i]).f3.length < M[i].f3.length := by
      rw [← h1, woB_same, ← hc2]
      exact Trash.wo_less S95.f0 hc
    have h7 : ∀ (a : S83) (r : List S83), totL (a :: r) = a.f3.length + totL r := fun a r => by simp [totL]
    rw [h7, h7]
    omega
end Go.Proofs.YtmgcapccgncmkaaDoor.Tr
namespace Go.Proofs.YtmgcapccgncmkaaDoor.Tr
open Go.RowKit Go.Pv Go.Proofs.YtmgcapccgncmkaaDoor.Im Go.Proofs.YtmgcapccgncmkaaDoor.Tx Go.Proofs.YtmgcapccgncmkaaDoorW.PrintWords Go.Proofs.YtmgcapccgncmkaaDoorW.PrintLast Go.Proofs.YtmgcapccgncmkaaDoor.PTrashFinds

theorem C_of_blk {α : Type} {d : Kd α} {W : World} {g t : Nat} {cs : Array Value} {xs : List α} (h : W.heap[g]? = some (.cells cs t (0, 0))) (hr : Reps (d.K W) d.sz xs cs.toList) (hm : xs.length ≤ 1000) : d.C W (some ⟨g, 0, none⟩) xs.length xs := by
  refine ⟨rfl, by omega, fun h0 => ⟨_, rfl, fun j p hp => ?_⟩⟩
  have hK := hr.2 j p hp
  refine ⟨_, d.K_len hK, hK, fun i u hu => ?_⟩
  rw [add_plain, cell_of_row _ _ _ _ _ _ h]
  rw [List.getElem?_take] at hu
  split at hu
  · rw [List.getElem?_drop] at hu
    rw [← Array.getElem?_toList]
    exact hu
  · cases hu
abbrev nmA : ByteArray := ⟨#[97]⟩
abbrev cw0 : S95 := ⟨0, nmA, ⟨#[]⟩, ⟨4, 0, 0⟩, false⟩
abbrev cw1 : S95 := ⟨1, nmA, ⟨#[]⟩, ⟨4, 0, 0⟩, false⟩
abbrev xw : S83 := ⟨5, 0, 0, [cw0, cw1]⟩
theorem dead_w : deadL [cw0, cw1] = [0] := by
  simp [deadL, deadB, lastL, lastS, aget, aset]
theorem next_w : nextF [xw] 9 0 0 [] = ((5, 0, ⟨#[]⟩), true) := by
  unfold nextF nextB
  simp [dead_w]
theorem count_w : countL [xw] = 1 := by
  unfold countL
  simp [dead_w]
theorem light_w : Light [xw] := ⟨by decide, by simp⟩
theorem reps95 (W : World) : Reps (k95.K W) 7 [cw0, cw1] [.int .i64 0, .string nmA, .string ⟨#[]⟩, .int .i64 4, .int .i64 0, .int .i64 0, .bool false, .int .i64 1, .string nmA, .string ⟨#[]⟩, .int .i64 4, .int .i64 0, .int .i64 0, .bool false] := by
  have h := Reps.snoc (Reps.snoc (Reps.none (k95.K W) 7) (p := cw0) (k95_mk W cw0) rfl) (p := cw1) (k95_mk W cw1) rfl
  exact h
theorem c_w {W : World} {b b1 : Nat} (h1 : W.heap[b1]? = some (.cells #[.int .i64 0, .string nmA, .string ⟨#[]⟩, .int .i64 4, .int .i64 0, .int .i64 0, .bool false, .int .i64 1, .string nmA, .string ⟨#[]⟩, .int .i64 4, .int .i64 0, .int .i64 0, .bool false] 95 (0, 0)))
    (h2 : W.heap[b]? = some (.cells #[.int .i64 5, .int .i64 0, .int .i64 0, .slice (some ⟨b1, 0, none⟩) 2 2] 83 (0, 0))) : Kd.C k83 W (some ⟨b, 0, none⟩) [xw].length [xw] := by
  refine C_of_blk h2 ?_ (by decide)
  have h3 : Kd.C k95 W (some ⟨b1, 0, none⟩) 2 [cw0, cw1] := C_of_blk (xs := [cw0, cw1]) h1 (reps95 W) (by decide)
  have h := Reps.snoc (Reps.none (k83.K W) 4) (p := xw) (k83_mk W xw (A3 := some ⟨b1, 0, none⟩) (c3 := 2) (by decide) h3) rfl
  exact h
set_option maxRecDepth 10000 in
set_option maxHeartbeats 4000000 in
theorem works_any (w : World) : Calls Tryd.prog 35 #[] w fun e w' => e = .returned (.bool true) ∧ Below w.heap.size w w' := by
  obtain ⟨b1, hb1⟩ : ∃ b1, b1 = w.heap.size + 1 := ⟨_, rfl⟩
  obtain ⟨b2, hb2⟩ : ∃ b2, b2 = w.heap.size + 1 + 1 := ⟨_, rfl⟩
  obtain ⟨W1, hW1⟩ : ∃ W1, W1 = (w.alloc (.cells #[.int .i64 4, .int .i64 0, .int .i64 0] 93)).alloc (.cells #[.int .i64 0, .string nmA, .string ⟨#[]⟩, .int .i64 4, .int .i64 0, .int .i64 0, .bool false, .int .i64 1, .string nmA, .string ⟨#[]⟩, .int .i64 4, .int .i64 0, .int .i64 0, .bool false] 95) := ⟨_, rfl⟩
  obtain ⟨W2, hW2⟩ : ∃ W2, W2 = W1.alloc (.cells #[.int .i64 5, .int .i64 0, .int .i64 0, .slice (some ⟨b1, 0, none⟩) 2 2] 83) := ⟨_, rfl⟩
  have hB1 : Below w.heap.size w W1 := by rw [hW1]; exact ((Below.refl _ w).alloc (Nat.le_refl _) _).alloc (by simp) _
  have hs1 : W1.heap.size = b2 := by rw [hW1, hb2]; simp
  have hB12 : Below W1.heap.size W1 W2 := by rw [hW2]; exact (Below.refl _ W1).alloc (Nat.le_refl _) _
  have hB2 : Below w.heap.size w W2 := hB1.trans (hB12.mono hB1.size)
  have k1 : W1.heap[b1]? = some (.cells #[.int .i64 0, .string nmA, .string ⟨#[]⟩, .int .i64 4, .int .i64 0, .int .i64 0, .bool false, .int .i64 1, .string nmA, .string ⟨#[]⟩, .int .i64 4, .int .i64 0, .int .i64 0, .bool false] 95 (0, 0)) := by
    rw [hW1, hb1]
    exact heap_at _ _ _ (by simp)
  have k12 := blk_of hB12 k1
  have k2 : W2.heap[b2]? = some (.cells #[.int .i64 5, .int .i64 0, .int .i64 0, .slice (some ⟨b1, 0, none⟩) 2 2] 83 (0, 0)) := by rw [hW2, ← hs1]; exact heap_alloc_new _ _
  have HB2 := hid hB2
  have HNew := hid (new_any W2)
  have HNx := hid (fun w3 (hI : IBk w3 (W2.heap.size + 1) W2.heap.size [] 0) (hb : Below W2.heap.size W2 w3) =>
    show Calls Tryd.prog 41 #[.slice (some ⟨w3.heap.size, 0, none⟩) 1 1, .pointer (some ⟨W2.heap.size + 1, 0, none⟩), .int .i64 9, .int .i64 0] (w3.alloc (.cells #[.int .i64 5, .int .i64 0, .int .i64 0, .slice (some ⟨b1, 0, none⟩) 2 2] 83)) fun e w' => e = .returned (.tuple #[.agg #[.int .i64 5, .int .i64 0, .string ⟨#[]⟩], .bool true]) ∧ Below W2.heap.size W2 w' ∧ w'.heap[b1]? = w3.heap[b1]? from by
      have hb3 : Below w3.heap.size w3 (w3.alloc (.cells #[.int .i64 5, .int .i64 0, .int .i64 0, .slice (some ⟨b1, 0, none⟩) 2 2] 83)) := (Below.refl _ w3).alloc (Nat.le_refl _) _
      have h := next_any (hI.below hb3) ⟨by simp, by simp⟩ (by omega) (fun k => by simp [getI, aget]) 9 0 (c := 1) (c_w (blk_of hb3 (blk_of hb k12)) (heap_alloc_new w3 _)) light_w
      rw [next_w] at h
      refine h.mono ?_
      rintro e w' ⟨rfl, hb4⟩
      refine ⟨rfl, (hb.trans (hb3.mono hb.size)).trans (hb4.mono (by have := hb.size; simp; omega)), ?_⟩
      have hlt : b1 < w3.heap.size := (Array.getElem?_eq_some_iff.1 (blk_of hb k12)).1
      exact (hb4.block b1 (by simp; omega)).trans (hb3.block b1 hlt))
  have HCt := hid (fun w3 (hb : Below W2.heap.size W2 w3) n (hn : n = w3.heap.size) =>
    show Calls Tryd.prog 42 #[.slice (some ⟨n, 0, none⟩) 1 1] (w3.alloc (.cells #[.int .i64 5, .int .i64 0, .int .i64 0, .slice (some ⟨b1, 0, none⟩) 2 2] 83)) fun e w' => e = .returned (.int .i64 1) ∧ Below W2.heap.size W2 w' from by
      have hb3 : Below w3.heap.size w3 (w3.alloc (.cells #[.int .i64 5, .int .i64 0, .int .i64 0, .slice (some ⟨b1, 0, none⟩) 2 2] 83)) := (Below.refl _ w3).alloc (Nat.le_refl _) _
      subst hn
      have h := count_any (c := 1) (c_w (blk_of hb3 (blk_of hb k12)) (heap_alloc_new w3 _)) light_w
      refine h.mono ?_
      rintro e w' ⟨rfl, hb4⟩
      refine ⟨by rw [count_w]; rfl, (hb.trans (hb3.mono hb.size)).trans (hb4.mono (by have := hb.size; simp; omega))⟩)
  have HF := hid (fun w3 (hb : Below W2.heap.size W2 w3) => cells4 (blk_of hb k2))
  have HK2 := hid k2
  clear hB1 hB12 hB2 k1 k12 k2 hs1
  go_enter Tryd.func35, Tryd.ntmps35
  go_upto_region 3 with fail
  rw [← hW1, ← hb2, ← hb1]
  rw [← hW2]
  clear hW1 hW2 hb1 hb2
  go_wp2_with (first
    | (go_at_call 27; go_must (with_reducible refine HNew.out.mono ?_); rintro e w3 ⟨rfl, hI, hb⟩; obtain ⟨x0, x1, x2, x3, -⟩ := HF.out _ hb; have HI3 := hid hI; have HB3 := hid hb; clear hI hb)
    | (go_at_call 41; go_must (with_reducible refine (HNx.out _ HI3.out HB3.out).mono ?_); rintro e w4 ⟨rfl, hb, -⟩; clear x0 x1 x2 x3; obtain ⟨y0, y1, y2, y3, -⟩ := HF.out _ hb; have hlt4 : b2 < w4.heap.size := World.block_lt_of_cell? _ _ y0; have HB4 := hid hb; clear hb)
    | (go_at_call 42; go_must (with_reducible refine (HCt.out (w4.alloc (.cells #[.int .i64 5, .int .i64 0, .string ⟨#[]⟩] 79)) (HB4.out.alloc HB4.out.size _) (w4.heap.size + 1) (by simp)).mono ?_); rintro e w5 ⟨rfl, hb⟩; have HB5 := hid hb; clear hb))
  go_ret
  exact ⟨rfl, HB2.out.trans (HB5.out.mono HB2.out.size)⟩
end Go.Proofs.YtmgcapccgncmkaaDoor.Tr
