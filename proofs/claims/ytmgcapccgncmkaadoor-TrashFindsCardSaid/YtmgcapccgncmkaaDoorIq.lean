/- Images: merged (Io Iq Ir Is). -/
import Derived.Test.YtmgcapccgncmkaaDoorPImgKeepsx10
import Derived.Test.YtmgcapccgncmkaaDoorYb
import Derived.Test.YtmgcapccgncmkaaDoorYd
import Derived.Test.YtmgcapccgncmkaaDoorIg
set_option linter.unusedSimpArgs false
set_option linter.unusedVariables false
namespace Go.Proofs.YtmgcapccgncmkaaDoor.Im
open Go.RowKit Go.Proofs.YtmgcapccgncmkaaDoorW.PrintWords Go.Proofs.YtmgcapccgncmkaaDoorW.PrintLast Go.Proofs.YtmgcapccgncmkaaDoorW.PrintMore Go.Proofs.YtmgcapccgncmkaaDoor.PImgKeeps

theorem wr1 {i : Nat} (h : i ≤ 1000000) : wrap64 ((i : Int) + 1) = ((i + 1 : Nat) : Int) := by unfold wrap64; omega
theorem index_l (a : ByteArray) (l : List S136) (now : Int) (hl : l.length ≤ 1000) : ∀ (n k i : Nat), l.length = i + n → n < k → ∃ r, provostref18_Index.l0 k a (i : Int) l now = some r ∧ -1 ≤ r ∧ r < (l.length : Int)
  | 0, k, i, h1, h2 => by
    obtain ⟨k, rfl⟩ : ∃ j, k = j + 1 := ⟨k - 1, by omega⟩
    unfold provostref18_Index.l0
    rw [if_neg (by omega)]
    exact ⟨_, rfl, by omega, by omega⟩
  | n + 1, k, i, h1, h2 => by
    obtain ⟨k, rfl⟩ : ∃ j, k = j + 1 := ⟨k - 1, by omega⟩
    unfold provostref18_Index.l0
    rw [if_pos (by omega), if_pos (by omega), wr1 (by omega)]
    have ih := index_l a l now hl n k (i + 1) (by omega) (by omega)
    split
    · exact ⟨_, rfl, by omega, by omega⟩
    · exact ih
theorem index_t (l : List S136) (now : Int) (a : ByteArray) (hl : l.length ≤ 1000) (k : Nat) (hk : 1001 ≤ k) : ∃ r, provostref18_Index.f k l now a = some r ∧ -1 ≤ r ∧ r < (l.length : Int) := by
  unfold provostref18_Index.f
  exact index_l a l now hl l.length k 0 (by omega) (by omega)
theorem rthere_t (l : List S136) (now : Int) (a : ByteArray) (hl : l.length ≤ 1000) (k : Nat) (hk : 1001 ≤ k) : ∃ r, provostref18_There.f k l now a = some r ∧ -1 ≤ r ∧ r < (l.length : Int) := by
  unfold provostref18_There.f
  obtain ⟨r, hr, h1, h2⟩ := index_t l now a hl k hk
  rw [hr, Option.bind_some]
  by_cases h0 : r ≥ 0
  · rw [if_pos h0, if_pos h0, if_pos h2]
    split
    · exact ⟨_, rfl, by omega, by omega⟩
    · exact ⟨_, rfl, h1, h2⟩
  · rw [if_neg h0]
    exact ⟨_, rfl, h1, h2⟩
end Go.Proofs.YtmgcapccgncmkaaDoor.Im
namespace Go.Proofs.YtmgcapccgncmkaaDoor.Im
open Go.RowKit Go.Pv Go.Proofs.YtmgcapccgncmkaaDoorW.PrintWords Go.Proofs.YtmgcapccgncmkaaDoorW.PrintLast Go.Proofs.YtmgcapccgncmkaaDoorW.PrintMore Go.Proofs.YtmgcapccgncmkaaDoor.PImgKeeps

/-- The store of the reference as a value. -/
abbrev QR (w : World) (B : Nat) (P : Nat → Prop) (v : Value) (l : List S136) : Prop := Kd.R k136 136 w B P v l
theorem two_boxes {w : World} {x : Value} {y : Int} : ∃ W1, W1 = (w.alloc (.cells #[x, .int .i64 y] 60)).alloc (.cells #[.slice none 0 0, .int .i64 0] 60) ∧ W1.heap[w.heap.size]? = some (.cells #[x, .int .i64 y] 60 (0, 0)) ∧
    W1.heap[w.heap.size + 1]? = some (.cells #[.slice none 0 0, .int .i64 0] 60 (0, 0)) ∧ Below w.heap.size w W1 ∧ W1.heap.size = w.heap.size + 2 := by
  refine ⟨_, rfl, ?_, heap_at _ _ _ (by simp), ((Below.refl _ w).alloc (Nat.le_refl _) _).alloc (by simp) _, by simp⟩
  exact (Below.heap_alloc _ _ _ (by simp)).trans (heap_alloc_new w _)
theorem put2 {W : World} {b t : Nat} {x y p q : Value} (h : W.heap[b]? = some (.cells #[p, q] t (0, 0))) : ((W.setCell ⟨b, 0, none⟩ x).setCell ⟨b, 1, none⟩ y).heap[b]? = some (.cells #[x, y] t (0, 0)) :=
  heap_setCell_same _ b 1 _ t y (heap_setCell_same W b 0 _ t x h)
theorem cells2 {W : World} {b t : Nat} {p q : Value} (h : W.heap[b]? = some (.cells #[p, q] t (0, 0))) : W.cell? ⟨b, 0, none⟩ = some p ∧ W.cell? ⟨b, 1, none⟩ = some q ∧ ∀ j, W.frozen? ⟨b, j, none⟩ = false := by
  refine ⟨?_, ?_, fun j => by simp [World.frozen?, h]⟩ <;> (rw [cell_of_row _ _ _ _ _ _ h]; rfl)
theorem cells4 {W : World} {b t : Nat} {p q r s : Value} (h : W.heap[b]? = some (.cells #[p, q, r, s] t (0, 0))) : W.cell? ⟨b, 0, none⟩ = some p ∧ W.cell? ⟨b, 1, none⟩ = some q ∧ W.cell? ⟨b, 2, none⟩ = some r ∧ W.cell? ⟨b, 3, none⟩ = some s ∧ ∀ j, W.frozen? ⟨b, j, none⟩ = false := by
  refine ⟨?_, ?_, ?_, ?_, fun j => by simp [World.frozen?, h]⟩ <;> (rw [cell_of_row _ _ _ _ _ _ h]; rfl)
theorem blk_of {W V : World} {b : Nat} {o : Obj} (hb : Below W.heap.size W V) (h : W.heap[b]? = some o) : V.heap[b]? = some o := (hb.block b (Array.getElem?_eq_some_iff.1 h).1).trans h
theorem put2_below {w W : World} {b : Nat} {x y : Value} (h : Below w.heap.size w W) (hb : w.heap.size ≤ b) : Below w.heap.size w ((W.setCell ⟨b, 0, none⟩ x).setCell ⟨b, 1, none⟩ y) := (h.setCell (p := ⟨b, 0, none⟩) hb x).setCell (p := ⟨b, 1, none⟩) hb y
theorem put2_R {W : World} {B b : Nat} {P : Nat → Prop} {v x y : Value} {l : List S136} (h : QR W B P v l) (hP : ∀ k, P k → k ≠ b) : QR ((W.setCell ⟨b, 0, none⟩ x).setCell ⟨b, 1, none⟩ y) B P v l :=
  Kd.R_far (p := ⟨b, 1, none⟩) (Kd.R_far (p := ⟨b, 0, none⟩) h hP x) hP y

end Go.Proofs.YtmgcapccgncmkaaDoor.Im
namespace Go.Proofs.YtmgcapccgncmkaaDoor.Im
open Go.RowKit Go.Pv Go.Proofs.YtmgcapccgncmkaaDoorW.PrintWords Go.Proofs.YtmgcapccgncmkaaDoorW.PrintLast Go.Proofs.YtmgcapccgncmkaaDoorW.PrintMore Go.Proofs.YtmgcapccgncmkaaDoor.PImgKeeps

end Go.Proofs.YtmgcapccgncmkaaDoor.Im
namespace Go.Proofs.YtmgcapccgncmkaaDoor.Im
open Go.RowKit Go.Pv Go.Proofs.YtmgcapccgncmkaaDoorW.PrintWords Go.Proofs.YtmgcapccgncmkaaDoorW.PrintLast Go.Proofs.YtmgcapccgncmkaaDoorW.PrintMore Go.Proofs.YtmgcapccgncmkaaDoor.PImgKeeps

/-- While the reference's tick goes. -/
structure NX (w W : World) (B b1 b2 : Nat) (P : Nat → Prop) (v : Value) (l : List S136) (T : Int) (s : Value) (L : List ByteArray) : Prop where
  low : Below w.heap.size w W
  k1 : W.heap[b1]? = some (.cells #[v, .int .i64 T] 60 (0, 0))
  k2 : W.heap[b2]? = some (.cells #[.slice none 0 0, .int .i64 0] 60 (0, 0))
  r : QR W B (fun k => (P k ∨ w.heap.size ≤ k) ∧ k ≠ b1 ∧ k ≠ b2 ∧ some k ≠ s.ownBlock) v l
  sl : SlOf W 9 1 encS s L
  new : ∀ g, s.ownBlock = some g → w.heap.size ≤ g ∧ g ≠ b1 ∧ g ≠ b2
  b : w.heap.size ≤ b1 ∧ w.heap.size ≤ b2 ∧ b1 ≠ b2
section
variable {w W V : World} {B b1 b2 : Nat} {P : Nat → Prop} {v s : Value} {l : List S136} {T : Int} {L : List ByteArray}
theorem NX.lt (h : NX w W B b1 b2 P v l T s L) : b1 < W.heap.size ∧ b2 < W.heap.size := ⟨(Array.getElem?_eq_some_iff.1 h.k1).1, (Array.getElem?_eq_some_iff.1 h.k2).1⟩
theorem NX.later (h : NX w W B b1 b2 P v l T s L) (hb : Below W.heap.size W V) : NX w V B b1 b2 P v l T s L :=
  ⟨h.low.trans (hb.mono h.low.size), blk_of hb h.k1, blk_of hb h.k2, Kd.R_below h.r hb, SlRow.kept h.sl (Keeps.of_below (F := fun _ => False) hb) (by simp), h.new, h.b⟩
theorem NX.app {A1 : Option Addr} {n1 c1 : Nat} (h : NX w W B b1 b2 P v l T (.slice A1 n1 c1) L) (hL : L.length ≤ 1000) (hn : n1 = L.length) (x : ByteArray) :
    ∃ A' n' c' w3, Hid ((Builtin.append_ #[69, 69] 69 #[.slice A1 n1 c1, .slice (some ⟨W.heap.size, 0, none⟩) 1 1]).run Tryd.prog (W.alloc (.cells #[.string x] 9)) = .ok (.slice A' n' c') w3) ∧ Hid (n' = (L ++ [x]).length) ∧
      Hid (NX w w3 B b1 b2 P v l T (.slice A' n' c') (L ++ [x])) ∧ Hid (Keeps (fun k => (Value.slice A1 n1 c1).ownBlock = some k) W w3) := by
  obtain ⟨A', n', c', w3, hr, hn', hs, hk, hl⟩ := sapp1 h.sl hL hn x
  have hlt := h.lt
  refine ⟨A', n', c', w3, hr, hn', ⟨h.low.trans (hk.below h.low.size (fun i hi => (h.new i hi).1)), (hk.block b1 hlt.1 (fun e => (h.new _ e).2.1 rfl)).trans h.k1, (hk.block b2 hlt.2 (fun e => (h.new _ e).2.2 rfl)).trans h.k2, ?_, hs, fun g hg => ?_, h.b⟩, hk⟩
  · refine Kd.R_mono (Kd.R_kept (S := fun k => (Value.slice A1 n1 c1).ownBlock = some k) (Kd.R_bound h.r) ⟨hk.size, hk.block⟩ (fun k hk e => hk.1.2.2.2 e.symm)) (fun k hk => ⟨hk.1.1, hk.1.2.1, hk.1.2.2.1, fun e => ?_⟩)
    rcases hl with h1 | ⟨g, h1, h2⟩
    · exact hk.1.2.2.2 (e.trans h1)
    · rw [h1] at e
      cases e
      have := hk.2.2.1
      omega
  · rcases hl with h1 | ⟨g', h1, h2⟩
    · exact h.new g (h1 ▸ hg)
    · rw [h1] at hg
      cases hg
      have := h.low.size
      exact ⟨by omega, by omega, by omega⟩
/-- A new row of images is laid in. -/
theorem NX.with {r : List S136} {v6 : Value} (h : NX w W B b1 b2 P v l T s L) (hR : QR V W.heap.size (fun _ => True) v6 r) (hb : Below W.heap.size W V) (hB : B ≤ w.heap.size) :
    NX w ((V.setCell ⟨b1, 0, none⟩ v6).setCell ⟨b1, 1, none⟩ (.int .i64 T)) B b1 b2 P v6 r T s L := by
  have h2 := h.later hb
  have hlt := h.lt
  have hs := h.low.size
  have hk : Keeps (fun i => i = b1) V ((V.setCell ⟨b1, 0, none⟩ v6).setCell ⟨b1, 1, none⟩ (.int .i64 T)) := ((Keeps.refl (fun i => i = b1) V).setCell ⟨b1, 0, none⟩ _ (.inl rfl)).setCell ⟨b1, 1, none⟩ _ (.inl rfl)
  refine ⟨put2_below h2.low h.b.1, put2 h2.k1, (hk.block b2 h2.lt.2 (fun e => h.b.2.2 e.symm)).trans h2.k2, ?_, SlRow.kept h2.sl hk (fun g hg e => (h.new g hg).2.1 e), h.new, h.b⟩
  refine Kd.R_mono (put2_R (Kd.R_lower (Kd.R_bound hR) (by omega)) (fun k hk => by have := hk.2.1; omega)) (fun k hk => ?_)
  have h3 := hk.2.1
  refine ⟨.inr (by omega), by omega, by omega, fun e => ?_⟩
  have := SlRow.lt h.sl e.symm
  omega
end
end Go.Proofs.YtmgcapccgncmkaaDoor.Im
