/- The log of events: After. -/
import Derived.Test.YtnceglkoolfncaaEf
import Derived.Deep.AppendLies
namespace Go.Proofs.Ytnceglkoolfncaa.Ev
open Go.RowKit Go.Pv

abbrev SlEv (w : World) (v : Value) (l : List Event) : Prop := SlOf w 54 15 (fun e : Event => e) v l

theorem len15 {l : List Value} (h : l.length = 15) : ∃ x0 x1 x2 x3 x4 x5 x6 x7 x8 x9 x10 x11 x12 x13 x14, l = [x0, x1, x2, x3, x4, x5, x6, x7, x8, x9, x10, x11, x12, x13, x14] := by
  match l, h with
  | [a0, a1, a2, a3, a4, a5, a6, a7, a8, a9, a10, a11, a12, a13, a14], _ => exact ⟨a0, a1, a2, a3, a4, a5, a6, a7, a8, a9, a10, a11, a12, a13, a14, rfl⟩

set_option maxRecDepth 10000 in
theorem after_old {w : World} {p g N first : Nat} {floor last : Int} {evs : List Event} (h : LogAt w p g N first floor last evs) (rev most : Int) (hr : rev < floor) :
    Calls Try.prog 26 #[.pointer (some ⟨p, 0, none⟩), .int .u64 rev, .int .i64 most] w fun e w' => e = .returned (.tuple #[.slice none 0 0, .int .i64 120]) ∧ w' = w := by
  obtain ⟨-, -, -, c3, -, -⟩ := h.cells
  clear h
  go_enter Try.func26, Try.ntmps26
  go_wp2
  refine bodyPost_ret (results_tmp2 rfl _ _ _) rfl ?_
  exact ⟨rfl, rfl⟩

structure AInv (w : World) (evs : List Event) (k m : Nat) (v : Value) (wr : World) : Prop where
  sl : SlEv wr v ((evs.drop k).take m)
  own : ∀ b, v.ownBlock = some b → w.heap.size ≤ b
  keep : Keeps (fun i => w.heap.size ≤ i) w wr

set_option maxRecDepth 10000 in
set_option maxHeartbeats 1000000 in
theorem after_yes {w : World} {p g N first : Nat} {floor last : Int} {evs : List Event} (h : LogAt w p g N first floor last evs) (hs : Rising evs) (rev most : Int) (hr : floor ≤ rev) :
    Calls Try.prog 26 #[.pointer (some ⟨p, 0, none⟩), .int .u64 rev, .int .i64 most] w fun e w' =>
      ∃ v k, e = .returned (.tuple #[v, .int .i64 0]) ∧ IsFrom rev evs k ∧ SlEv w' v ((evs.drop k).take most.toNat) ∧ (∀ b, v.ownBlock = some b → w.heap.size ≤ b) ∧ Below w.heap.size w w' := by
  obtain ⟨-, -, c2, c3, -, -⟩ := h.cells
  have hnr : ¬ (rev < floor) := by omega
  have hN := h.nN
  have hlen := h.len
  have HF := hid (from_any h hs rev)
  have H := hid h
  clear h hs hr
  obtain ⟨L, hL⟩ : ∃ L, L = evs.length := ⟨_, rfl⟩
  rw [← hL] at c2
  have HL := hid hL
  have hL64 : L ≤ 64 := by omega
  clear hL hN hlen
  go_enter Try.func26, Try.ntmps26
  go_wp2_with (go_at_call 101; go_must (refine HF.out.mono ?_; rintro e w2 ⟨⟨k, rfl, hk⟩, hk2⟩; have HK := hid hk; have HK2 := hid hk2; clear hk hk2))
  clear c2 c3 hnr
  go_loopw [8, 9] (fun v iv wr => ∃ m : Nat, iv = .int .i64 (k + m : Nat) ∧ k + m ≤ L ∧ (m ≤ most.toNat) ∧ Hid (AInv w evs k m v wr)) (fun _ iv _ => L - (intOf iv).toNat)
  case atStart => exact ⟨0, rfl, by have := HK.out.1; rw [← HL.out] at this; omega, by omega, hid ⟨by rw [List.take_zero]; exact SlRow.nil w2 54 15, by simp [Value.ownBlock], Keeps.mono HK2.out (by simp)⟩⟩
  case round =>
    obtain ⟨m, rfl, hm1, hm2, HA⟩ := hrel
    have hlw : LogAt wr p g N first floor last evs := H.out.kept HA.out.keep (by have := H.out.plt; omega) (by have := H.out.glt; omega)
    obtain ⟨-, -, c2, -, -, -⟩ := hlw.cells
    rw [← HL.out] at c2
    have hml : ((evs.drop k).take m).length = m := by rw [List.length_take, List.length_drop, ← HL.out]; omega
    obtain ⟨va, vc, rfl⟩ : ∃ va vc, u8 = .slice va m vc := by
      rcases SlRow.form HA.out.sl with ⟨h1, h2⟩ | ⟨b, o, c, h1⟩
      · rw [hml] at h2; rw [h2]; exact ⟨_, _, h1⟩
      · rw [hml] at h1; exact ⟨_, _, h1⟩
    obtain ⟨q, hq⟩ : ∃ q, q = k + m := ⟨_, rfl⟩
    rw [← hq] at hm1 ⊢
    have hm64 : m ≤ 64 := by omega
    have HQ := hid hq
    clear hq
    by_cases hqL : q < L
    · by_cases hmm : (m : Int) < most
      · have hqe : q < evs.length := by rw [← HL.out]; exact hqL
        have hslot := hlw.el q evs[q] (List.getElem?_eq_getElem hqe)
        obtain ⟨ev, hev⟩ : ∃ ev, ev = evs[q] := ⟨_, rfl⟩
        rw [← hev] at hslot
        obtain ⟨j, hj⟩ : ∃ j, j = (first + q) % N := ⟨_, rfl⟩
        have hat := at_any hlw q (by omega)
        rw [← hj] at hslot hat
        have hq1 : (q : Int) < (L : Int) := by omega
        have eq1 : IntKind.i64.wrap ((q : Int) + 1) = (q : Int) + 1 := IntWalk.i64_in _ (by omega)
        obtain ⟨x0, x1, x2, x3, x4, x5, x6, x7, x8, x9, x10, x11, x12, x13, x14, rfl⟩ := len15 hslot.2.1
        obtain ⟨i0, hi, hz0, hz1, hz2⟩ := info54
        have hw2 := ((Keeps.refl (fun _ => False) wr).alloc (.cells #[x0, x1, x2, x3, x4, x5, x6, x7, x8, x9, x10, x11, x12, x13, x14] 54)).drew
        obtain ⟨v', w4, hr4, hs4, hk4, hloc4, -, -⟩ := run_append_sl (P := Try.prog) (wr.alloc (.cells #[x0, x1, x2, x3, x4, x5, x6, x7, x8, x9, x10, x11, x12, x13, x14] 54)).drew 57 57 54 i0 _ 15 i0.bytes Try.underlying57 hi hz0 hz1 rfl rfl _ _ _ (SlRow.kept HA.out.sl hw2 (by simp))
          (.slice (some ⟨wr.heap.size, 0, none⟩) 1 1) 1 [x0, x1, x2, x3, x4, x5, x6, x7, x8, x9, x10, x11, x12, x13, x14]
          (.inr ⟨_, _, rfl, World.news_of_block (cs := #[x0, x1, x2, x3, x4, x5, x6, x7, x8, x9, x10, x11, x12, x13, x14]) (t := 54) (fr := (0, 0)) (heap_at _ _ _ rfl)⟩) rfl hslot.2.2.1 (by rw [hml]; unfold maxLen; omega) (by
            rw [hml]
            have : (m + 1) * i0.bytes ≤ 100 * 1000 := Nat.mul_le_mul (by omega) hz2
            omega)
        have HR4 := hid hr4
        have HS4 := hid hs4
        have HK4 := hid hk4
        have HLOC := hid hloc4
        clear hr4 hs4 hk4 hloc4 hi hz0 hz1 hz2 hw2
        have HAT := hid hat
        have HSL := hid hslot
        have HEV := hid hev
        clear hev hj hslot hat hlw hml
        go_wp2_with (first
          | (go_at_call 100; go_must (refine HAT.out.mono ?_; rintro e w1 ⟨rfl, rfl⟩))
          | ((with_reducible refine gate_load 54 rfl ?_); go_must (refine wl_load_mid rfl 54 _ rfl g (j * 15) [x0, x1, x2, x3, x4, x5, x6, x7, x8, x9, x10, x11, x12, x13, x14] rfl _ Try.underlying54 rfl (by rw [HSL.out.2.1]; exact size54) HSL.out.1 ?_))
          | (at_builtin; go_must (refine wl_append rfl _ _ _ rfl ⟨_, _, HR4.out, ?_⟩)))
        go_roundw
        case rel =>
          have hqq := HQ.out
          refine ⟨m + 1, by rw [hqq]; go_num, by omega, by omega, hid ⟨?_, ?_, ?_⟩⟩
          · have e1 : (evs.drop k).take (m + 1) = (evs.drop k).take m ++ [evs[q]] := by
              rw [List.take_add_one, List.getElem?_drop, ← hqq, List.getElem?_eq_getElem hqe]; rfl
            rw [e1, ← HEV.out]
            have := HS4.out
            unfold SlEv SlOf
            rw [List.flatMap_append, List.length_append]
            exact this
          · intro b hb
            rcases HLOC.out with h | h
            · rw [h] at hb; exact HA.out.own b hb
            · rw [h] at hb
              simp [World.drew] at hb
              have := HA.out.keep.size
              omega
          · refine Keeps.trans (((HA.out.keep).alloc _).drew) HK4.out (fun i hi => .inl (HA.out.own i hi))
        case measure => simp [intOf]; omega
      · clear hml hlw
        have hme : m = most.toNat := by omega
        have HME := hid hme
        clear hme
        go_wp2
        refine bodyPost_ret (results_tmp2 rfl _ _ _) rfl ?_
        exact ⟨_, rfl, k, HK.out, by rw [← HME.out]; exact HA.out.sl, HA.out.own, HA.out.keep.below (Nat.le_refl _) (fun i hi => hi)⟩
    · have hqL' : q = L := by omega
      have hnq : ¬ ((q : Int) < (L : Int)) := by omega
      have HQL := hid hqL'
      clear hml hlw hqL' hqL
      go_wp2
      refine bodyPost_ret (results_tmp2 rfl _ _ _) rfl ?_
      refine ⟨_, rfl, k, HK.out, ?_, HA.out.own, HA.out.keep.below (Nat.le_refl _) (fun i hi => hi)⟩
      have e1 : (evs.drop k).take most.toNat = (evs.drop k).take m := by
        have h1 := HQL.out
        have h2 := HQ.out
        have h3 := HL.out
        rw [List.take_of_length_le (by simp; omega), List.take_of_length_le (by simp; omega)]
      rw [e1]
      exact HA.out.sl
end Go.Proofs.Ytnceglkoolfncaa.Ev
