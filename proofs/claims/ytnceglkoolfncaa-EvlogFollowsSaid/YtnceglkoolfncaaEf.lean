/- The log of events: from. -/
import Derived.Test.YtnceglkoolfncaaEs
namespace Go.Proofs.Ytnceglkoolfncaa.Ev
open Go.RowKit Go.Pv

def above (rev : Int) (evs : List Event) (i : Nat) : Bool := decide (rev < revOf (evs.getD i []))
def Rising (evs : List Event) : Prop := evs.Pairwise (fun a b => revOf a < revOf b)

theorem above_mono (rev : Int) {evs : List Event} (h : Rising evs) (a b : Nat) (hab : a ≤ b) (hb : b < evs.length) (ha : above rev evs a = true) : above rev evs b = true := by
  rcases Nat.lt_or_ge a b with hlt | hge
  · have := List.pairwise_iff_getElem.1 h a b (by omega) hb hlt
    unfold above at *
    simp only [decide_eq_true_eq, List.getD_eq_getElem?_getD] at *
    rw [List.getElem?_eq_getElem hb]
    rw [List.getElem?_eq_getElem (by omega : a < evs.length)] at ha
    simp at *
    omega
  · have : a = b := by omega
    subst this; exact ha

set_option maxRecDepth 10000 in
set_option maxHeartbeats 1000000 in
theorem above_any {w : World} {p g N first : Nat} {floor last : Int} {evs : List Event} (h : LogAt w p g N first floor last evs) (rev : Int) (b1 b2 : Nat)
    (h1 : w.cell? ⟨b1, 0, none⟩ = some (.pointer (some ⟨p, 0, none⟩))) (h2 : w.cell? ⟨b2, 0, none⟩ = some (.int .u64 rev)) (i : Nat) (hi : i < evs.length) :
    Calls Try.prog 141 #[.int .i64 (i : Nat), .pointer (some ⟨b1, 0, none⟩), .pointer (some ⟨b2, 0, none⟩)] w fun e w' => e = .returned (.bool (above rev evs i)) ∧ Keeps (fun _ => False) w w' := by
  have hl := h.len
  have hN := h.nN
  have hslot := h.el i evs[i] (List.getElem?_eq_getElem hi)
  obtain ⟨r, hr⟩ : ∃ r, r = revOf evs[i] := ⟨_, rfl⟩
  have r1 := hslot.1 1 _ hslot.2.2.2
  rw [← hr] at r1
  obtain ⟨j, hj⟩ : ∃ j, j = (first + i) % N := ⟨_, rfl⟩
  have HAT : Hid (∀ V : World, V.heap = w.heap → Calls Try.prog 100 #[.pointer (some ⟨p, 0, none⟩), .int .i64 i] V fun e w' => e = .returned (.pointer (some ⟨g, j * 15, none⟩)) ∧ w' = V.drew) := hid fun V hV => by
    rw [hj]; exact at_any (h.same hV) i (by omega)
  rw [← hj] at r1
  have S0 : ∀ V : World, V.heap = w.heap → V.cell? ⟨b1, 0, none⟩ = some (.pointer (some ⟨p, 0, none⟩)) ∧ V.cell? ⟨b2, 0, none⟩ = some (.int .u64 rev) ∧ V.cell? ⟨g, j * 15 + 1, none⟩ = some (.int .u64 r) := fun V hV => by
    refine ⟨?_, ?_, ?_⟩ <;> rw [World.cell?_of_block (w := w) (by rw [hV])] <;> assumption
  have ha : above rev evs i = decide (rev < r) := by
    unfold above
    rw [List.getD_eq_getElem?_getD, List.getElem?_eq_getElem hi, hr]; rfl
  rw [ha]
  have HS := hid S0
  clear h hslot hl hN hr hj ha S0 r1 h1 h2 hi
  go_enter Try.func141, Try.ntmps141
  go_wp2
  go_region_held3 (fun V => V.cell? ⟨b1, 0, none⟩ = some (.pointer (some ⟨p, 0, none⟩)) ∧ V.cell? ⟨b2, 0, none⟩ = some (.int .u64 rev) ∧ V.cell? ⟨g, j * 15 + 1, none⟩ = some (.int .u64 r)) (first | exact HS.out w.drew rfl | exact HS.out w.drew.drew rfl) ((go_at_call 100; go_must (refine (HAT.out w.drew rfl).mono ?_; rintro e w1 ⟨rfl, rfl⟩)))
  go_wp2
  go_ret
  exact ⟨rfl, (Keeps.refl _ w).drew.drew⟩

/-- k is the place of the first event above rev. -/
def IsFrom (rev : Int) (evs : List Event) (k : Nat) : Prop := k ≤ evs.length ∧ (∀ i, i < k → above rev evs i = false) ∧ (∀ i, k ≤ i → i < evs.length → above rev evs i = true)

set_option maxRecDepth 10000 in
set_option maxHeartbeats 1000000 in
theorem from_any {w : World} {p g N first : Nat} {floor last : Int} {evs : List Event} (h : LogAt w p g N first floor last evs) (hs : Rising evs) (rev : Int) :
    Calls Try.prog 101 #[.pointer (some ⟨p, 0, none⟩), .int .u64 rev] w fun e w' => (∃ k : Nat, e = .returned (.int .i64 k) ∧ IsFrom rev evs k) ∧ Keeps (fun _ => False) w w' := by
  obtain ⟨-, -, c2, -, -, -⟩ := ((h.alloc (.cells #[.pointer (some ⟨p, 0, none⟩)] 39)).alloc (.cells #[.int .u64 rev] 41)).cells
  have b0 : ((w.alloc (.cells #[.pointer (some ⟨p, 0, none⟩)] 39)).alloc (.cells #[.int .u64 rev] 41)).heap[w.heap.size]? = some (.cells #[.pointer (some ⟨p, 0, none⟩)] 39 (0, 0)) := by
    rw [Below.heap_alloc _ _ _ (by simp)]; exact heap_at _ _ _ rfl
  have b1 : ((w.alloc (.cells #[.pointer (some ⟨p, 0, none⟩)] 39)).alloc (.cells #[.int .u64 rev] 41)).heap[w.heap.size + 1]? = some (.cells #[.int .u64 rev] 41 (0, 0)) := heap_at _ _ _ (by simp)
  have hl := h.len
  have hN := h.nN
  have hlw := (h.alloc (.cells #[.pointer (some ⟨p, 0, none⟩)] 39)).alloc (.cells #[.int .u64 rev] 41)
  obtain ⟨W, hW⟩ : ∃ W, W = ((w.alloc (.cells #[.pointer (some ⟨p, 0, none⟩)] 39)).alloc (.cells #[.int .u64 rev] 41)) := ⟨_, rfl⟩
  rw [← hW] at b0 b1 hlw
  have hc := fun W' i (k : Keeps (fun _ => False) W W') (hi : i < evs.length) => above_any (hlw.kept k (by simp) (by simp)) rev w.heap.size (w.heap.size + 1)
    (by rw [cell_of_row W' _ 0 _ _ _ ((k.block _ (by rw [hW]; simp; omega) (by simp)).trans b0)]; rfl) (by rw [cell_of_row W' _ 0 _ _ _ ((k.block _ (by rw [hW]; simp) (by simp)).trans b1)]; rfl) i hi
  have HSR := hid (search_any W evs.length (by omega) _ _ (above rev evs) hc (above_mono rev hs))
  have a0 : W.cell? ⟨w.heap.size, 0, none⟩ = some (.pointer (some ⟨p, 0, none⟩)) := by rw [cell_of_row _ _ _ _ _ _ b0]; rfl
  have a1 : W.cell? ⟨w.heap.size + 1, 0, none⟩ = some (.int .u64 rev) := by rw [cell_of_row _ _ _ _ _ _ b1]; rfl
  have HW := hid hW
  have hmf : ∀ fn first cap (w : World), (Instr.makeFunc fn first cap).run Try.prog w = .ok (.func fn first cap) w := fun _ _ _ _ => rfl
  obtain ⟨L, hL⟩ : ∃ L, L = evs.length := ⟨_, rfl⟩
  rw [← hL] at c2 HSR
  have HL := hid hL
  clear b0 b1 h hW hc hlw hl hN hs hL
  go_enter Try.func101, Try.ntmps101
  go_wp2_with (go_at_call 140; go_must (rw [← HW.out]; refine HSR.out.mono ?_; rintro e w2 ⟨⟨k, rfl, hk⟩, hk2⟩; have HK := hid hk; have HK2 := hid hk2; clear hk hk2))
  go_ret
  refine ⟨⟨_, rfl, by rw [HL.out] at HK; exact HK.out⟩, ?_⟩
  refine Keeps.trans ?_ HK2.out (fun i hi => .inl hi)
  rw [HW.out]
  exact ((Keeps.refl _ w).alloc _).alloc _
end Go.Proofs.Ytnceglkoolfncaa.Ev
