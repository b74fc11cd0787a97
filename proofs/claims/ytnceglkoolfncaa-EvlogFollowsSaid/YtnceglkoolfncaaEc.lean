/- The log of events: Compact. -/
import Derived.Test.YtnceglkoolfncaaEa
namespace Go.Proofs.Ytnceglkoolfncaa.Ev
open Go.RowKit Go.Pv

/-- What is left of the events, and the floor, when all up to a revision are dropped. -/
def cut (to : Int) : List Event → Int → List Event × Int
  | [], f => ([], f)
  | e :: r, f => if revOf e ≤ to then cut to r (max f (revOf e)) else (e :: r, f)

theorem cut_len (to : Int) : ∀ (evs : List Event) (f : Int), (cut to evs f).1.length ≤ evs.length
  | [], _ => Nat.le_refl _
  | e :: r, f => by
    simp only [cut]
    split
    · have := cut_len to r (max f (revOf e)); simp; omega
    · simp

structure CInv (w : World) (p g N : Nat) (to last f0 : Int) (evs0 : List Event) (wr : World) : Prop where
  ex : ∃ first floor evs, LogAt wr p g N first floor last evs ∧ cut to evs floor = cut to evs0 f0 ∧ evs.length ≤ evs0.length
  keep : Keeps (fun i => i = p ∨ i = g) w wr

def lenIn (p : Nat) (wr : World) : Nat := match wr.cell? ⟨p, 2, none⟩ with | some (.int _ n) => n.toNat | _ => 0
theorem LogAt.lenIn {w : World} {p g N first : Nat} {floor last : Int} {evs : List Event} (h : LogAt w p g N first floor last evs) : lenIn p w = evs.length := by
  unfold Ev.lenIn; rw [h.cells.2.2.1]; simp

set_option maxRecDepth 10000 in
set_option maxHeartbeats 1000000 in
theorem compact_any {w : World} {p g N first : Nat} {floor last : Int} {evs : List Event} (h : LogAt w p g N first floor last evs) (to : Int) :
    Calls Try.prog 25 #[.pointer (some ⟨p, 0, none⟩), .int .u64 to] w fun e w' => (∃ n, e = .returned (.int .i64 n)) ∧ (∃ first', LogAt w' p g N first' (max (cut (min to last) evs floor).2 (min to last)) last (cut (min to last) evs floor).1) ∧ Keeps (fun i => i = p ∨ i = g) w w' := by
  obtain ⟨-, -, c2, -, c4, -⟩ := h.cells
  have hN := h.nN
  have hlen := h.len
  obtain ⟨L0, hL0⟩ : ∃ L0, L0 = evs.length := ⟨_, rfl⟩
  rw [← hL0] at c2
  obtain ⟨to', hto⟩ : ∃ t, t = min to last := ⟨_, rfl⟩
  rw [← hto]
  have H0 : Hid (CInv w p g N to' last floor evs w) := hid ⟨⟨first, floor, evs, h, rfl, Nat.le_refl _⟩, Keeps.refl _ _⟩
  have hL64 : L0 ≤ 64 := by omega
  have HL0 := hid hL0
  have HTO := hid hto
  clear h hL0 hN hlen hto
  go_enter Try.func25, Try.ntmps25
  go_wp2
  rw [← HTO.out]
  go_loopw [] (fun wr => CInv w p g N to' last floor evs wr) (fun wr => lenIn p wr)
  case atStart => exact H0.out
  case round =>
    clear H0 c2 c4
    have hI := hrel
    obtain ⟨first', floor', evs', hl, hc, hle⟩ := hI.ex
    have HI := hid hI
    have HC := hid hc
    have HL := hid hl
    obtain ⟨-, -, c2, c3, c4, cf⟩ := hl.cells
    cases evs' with
    | nil =>
      simp only [List.length_nil] at c2
      clear hI hc hl
      go_wp2
      go_ret
      refine ⟨⟨_, rfl⟩, ⟨first', ?_⟩, HI.out.keep.setCell _ _ (.inl (.inl rfl))⟩
      rw [← HC.out]
      exact HL.out.setFloor _
    | cons e rest =>
      have hlen := hl.len
      have hN := hl.nN
      obtain ⟨L, hL⟩ : ∃ L, L = (e :: rest).length := ⟨_, rfl⟩
      rw [← hL] at c2
      have hL1 : (0 : Int) < (L : Int) := by rw [hL]; simp only [List.length_cons]; omega
      have hL2 : L ≤ 64 := by omega
      obtain ⟨r, hr⟩ : ∃ r, r = revOf e := ⟨_, rfl⟩
      have hslot := hl.el 0 e rfl
      have fN := hl.fN
      have r1 : wr.cell? ⟨g, first' * 15 + 1, none⟩ = some (.int .u64 r) := by
        rw [hr]
        have := hslot.1 1 _ hslot.2.2.2
        simp only [Nat.add_zero, Nat.mod_eq_of_lt fN] at this
        exact this
      have hat := at_any hl 0 (by omega)
      simp only [Nat.add_zero, Nat.mod_eq_of_lt fN, Int.natCast_zero] at hat
      have HAT := hid hat
      have HD := hid (drop_any hl.drew)
      have HR := hid hr
      have HLL := hid hL
      clear hat hslot fN hlen hN hL hr hI hc hl
      by_cases hle2 : r ≤ to'
      · have hle3 : decide (r ≤ to') = true := by simp [hle2]
        go_wp2_with (first
          | (go_at_call 100; go_must (refine HAT.out.mono ?_; rintro e w1 ⟨rfl, rfl⟩))
          | (go_at_call 99; go_must (refine HD.out.mono ?_; rintro e w2 ⟨rfl, hd1, hd2⟩; have HD1 := hid hd1; have HD2 := hid hd2; clear hd1 hd2)))
        go_roundw
        case rel =>
          refine ⟨⟨_, _, rest, HD1.out, ?_, ?_⟩, (HI.out.keep.drew).trans HD2.out (fun i hi => .inl hi)⟩
          · rw [← HC.out]
            conv => rhs; unfold cut
            rw [← HR.out, if_pos hle2]
          · have := hle; simp at this; omega
        case measure =>
          rw [HD1.out.lenIn, HL.out.lenIn]; simp
      · go_wp2_with (first
          | (go_at_call 100; go_must (refine HAT.out.mono ?_; rintro e w1 ⟨rfl, rfl⟩)))
        go_ret
        refine ⟨⟨_, rfl⟩, ⟨first', ?_⟩, HI.out.keep.drew.setCell _ _ (.inl (.inl rfl))⟩
        rw [← HC.out]
        unfold cut
        rw [← HR.out, if_neg (by omega)]
        exact HL.out.drew.setFloor _
end Go.Proofs.Ytnceglkoolfncaa.Ev
