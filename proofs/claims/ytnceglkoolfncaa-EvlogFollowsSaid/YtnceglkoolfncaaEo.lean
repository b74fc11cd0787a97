/- EvlogOnly: the walk. -/
import Derived.Test.YtnceglkoolfncaaEh
import Derived.Test.YtnceglkoolfncaaRd
namespace Go.Proofs.Ytnceglkoolfncaa.Ev
open Go.RowKit Go.Pv

abbrev EAct := Int × Int × Int
def encE (t : EAct) : List Value := [.int .i64 t.1, .int .i64 t.2.1, .int .u64 t.2.2]

/-- The order of a log. -/
structure Ord (floor last : Int) (evs : List Event) : Prop where
  fl : floor ≤ last
  ris : Rising evs
  lo : ∀ e ∈ evs, floor < revOf e
  hi : ∀ e ∈ evs, revOf e ≤ last

theorem Ord.empty : Ord 0 0 [] := ⟨by omega, List.Pairwise.nil, by simp, by simp⟩

theorem Ord.add {floor last : Int} {evs : List Event} (h : Ord floor last evs) (ev : Event) (hr : last < revOf ev) : Ord floor (revOf ev) (evs ++ [ev]) where
  fl := by have := h.fl; omega
  ris := by
    unfold Rising
    rw [List.pairwise_append]
    refine ⟨h.ris, by simp, fun a ha b hb => ?_⟩
    simp at hb; subst hb
    have := h.hi a ha; omega
  lo := fun e he => by
    rcases List.mem_append.1 he with he | he
    · exact h.lo e he
    · simp at he; subst he; have := h.fl; omega
  hi := fun e he => by
    rcases List.mem_append.1 he with he | he
    · have := h.hi e he; omega
    · simp at he; subst he; omega

theorem Ord.tail {floor last : Int} {e0 : Event} {evs : List Event} (h : Ord floor last (e0 :: evs)) : Ord (max floor (revOf e0)) last evs where
  fl := by have := h.fl; have := h.hi e0 (by simp); omega
  ris := (List.pairwise_cons.1 h.ris).2
  lo := fun e he => by have := h.lo e (by simp [he]); have := (List.pairwise_cons.1 h.ris).1 e he; omega
  hi := fun e he => h.hi e (by simp [he])

theorem cut_ord (to : Int) {last : Int} : ∀ (evs : List Event) (f : Int), Ord f last evs → to ≤ last → Ord (max (cut to evs f).2 to) last (cut to evs f).1 ∧ f ≤ (cut to evs f).2
  | [], f, h, ht => ⟨⟨by have := h.fl; simp only [cut]; omega, List.Pairwise.nil, by simp [cut], by simp [cut]⟩, by simp [cut]⟩
  | e :: r, f, h, ht => by
    simp only [cut]
    split
    · obtain ⟨h1, h2⟩ := cut_ord to r (max f (revOf e)) h.tail ht
      exact ⟨h1, by omega⟩
    · rename_i hn
      refine ⟨⟨by have := h.fl; simp only; omega, h.ris, fun x hx => ?_, h.hi⟩, by simp⟩
      have h1 := h.lo x hx
      rcases List.mem_cons.1 hx with rfl | hx
      · simp only; omega
      · have := (List.pairwise_cons.1 h.ris).1 x hx; simp only; omega

theorem evCells_ok (n r : Int) {s : Value} (hs : s.oneCell' = true) : EvOk (evCells n r s) := ⟨rfl, by simp [Value.oneCell'] at hs ⊢; exact hs, rfl⟩

/-- Add of an event above the last: all that is asked of it. -/
theorem add_yes {w : World} {p g N first : Nat} {floor last : Int} {evs : List Event} (h : LogAt w p g N first floor last evs) (ho : Ord floor last evs) (ev : Event) (hev : EvOk ev) (hr : last < revOf ev) :
    Calls Try.prog 23 #[.pointer (some ⟨p, 0, none⟩), .agg ev.toArray] w fun e w' => e = .returned (.int .i64 0) ∧ (∃ first' floor' d, LogAt w' p g N first' floor' (revOf ev) ((evs ++ [ev]).drop d) ∧ Ord floor' (revOf ev) ((evs ++ [ev]).drop d) ∧
      floor ≤ floor' ∧ ∀ e ∈ (evs ++ [ev]).take d, revOf e ≤ floor') ∧ Keeps (fun i => i = p ∨ i = g) w w' := by
  rcases Nat.lt_or_ge evs.length N with hn | hn
  · refine (add_room h hn ev hev hr).mono ?_
    rintro e w' ⟨rfl, h1, h2⟩
    exact ⟨rfl, ⟨first, floor, 0, h1, ho.add ev hr, Int.le_refl _, by simp⟩, h2⟩
  · cases evs with
    | nil => have := h.n0; simp at hn; omega
    | cons e0 r =>
      have hl := h.len
      refine (add_full h (by omega) ev hev hr).mono ?_
      rintro e w' ⟨rfl, h1, h2⟩
      exact ⟨rfl, ⟨_, _, 1, h1, ho.tail.add ev hr, by omega, by simp; omega⟩, h2⟩

theorem below_drew {B : Nat} {a b : World} (h : Below B a b) : Below B a b.drew := ⟨h.os, h.tape, h.output, h.size, h.block⟩

/-- What holds ahead of each round. -/
structure OInv (w : World) (p g N : Nat) (wr : World) : Prop where
  ex : ∃ first floor last evs, LogAt wr p g N first floor last evs ∧ Ord floor last evs
  below : Below w.heap.size w wr

set_option maxRecDepth 100000 in
set_option maxHeartbeats 4000000 in
theorem only_any {w : World} {v : Value} {l : List EAct} (hv : Rd w 3 encE v l) (most : Int) (hlen : (l.length : Int) ≤ 9223372036854775807) :
    Calls Try.prog 5 #[.int .i64 most, v] w fun e w' => e = .returned (.bool true) ∧ Below w.heap.size w w' := by
  have HV := hid hv
  have hvf := hv.form
  obtain ⟨va, vcap, rfl⟩ := hvf
  have h21 := hid (works_any w)
  clear hv
  go_enter Try.func5, Try.ntmps5
  go_wp2_with (first
    | (go_at_call 21; go_must (refine h21.out.mono ?_; rintro e w1 ⟨rfl, hb1⟩; have HB1 := hid hb1; clear hb1))
    | (go_at_call 22; go_must (refine (new_any _ most).mono ?_; rintro e w2 ⟨rfl, hL, hk2, hs2⟩; have HL := hid hL; have HK2 := hid hk2; clear hL hk2 hs2)))
  have HG := hid (⟨by have := HB1.out.size; omega, by have := HB1.out.size; omega⟩ : w.heap.size ≤ w1.heap.size + 1 ∧ w.heap.size ≤ w1.heap.size)
  have H0 : Hid (OInv w (w1.heap.size + 1) w1.heap.size (nOf most) w2) := hid ⟨⟨_, _, _, _, HL.out, Ord.empty⟩, HB1.out.trans (Keeps.below HK2.out HB1.out.size (by simp))⟩
  have HNN := hid (nOf_pos most)
  generalize w1.heap.size + 1 = p at *
  generalize w1.heap.size = g at *
  obtain ⟨N, hN⟩ : ∃ N, N = nOf most := ⟨_, rfl⟩
  rw [← hN] at H0 HNN
  clear HL HK2 HB1 h21 hN
  go_loopw [6] (fun iv wr => ∃ (k : Nat), iv = .int .i64 k ∧ k ≤ 100 ∧ k ≤ l.length ∧ Hid (OInv w p g N wr)) (fun iv _ => 100 - (intOf iv).toNat)
  case atStart => exact ⟨0, rfl, by omega, by omega, H0⟩
  case round =>
    clear H0
    obtain ⟨k, rfl, hk1, hk2, HI⟩ := hrel
    by_cases hlen2 : k < l.length
    · by_cases hk100 : k < 100
      · obtain ⟨b, o, hva, hb, hc⟩ : ∃ b o, va = some ⟨b, o, none⟩ ∧ b < w.heap.size ∧ ∀ i x, l[i]? = some x → ∀ j u, (encE x)[j]? = some u → w.cell? ⟨b, o + i * 3 + j, none⟩ = some u := by
          rcases HV.out with ⟨h, _⟩ | ⟨b, o, cap, h, h1, h2⟩
          · subst h; simp at hlen2
          · simp only [Value.slice.injEq] at h; exact ⟨b, o, h.1, h1, h2⟩
        subst hva
        obtain ⟨⟨kd, n, r⟩, hak⟩ : ∃ a, l[k]? = some a := ⟨l[k], List.getElem?_eq_getElem hlen2⟩
        obtain ⟨first, floor, last, evs, hl, ho⟩ := HI.out.ex
        have hbw := HI.out.below
        have HD : Hid (∀ W, Below w.heap.size w W → W.cell? ⟨b, o + k * 3, none⟩ = some (.int .i64 kd) ∧ W.cell? ⟨b, o + k * 3 + 1, none⟩ = some (.int .i64 n) ∧ W.cell? ⟨b, o + k * 3 + 2, none⟩ = some (.int .u64 r)) := hid fun W hW =>
          ⟨(hW.cell (p := ⟨b, o + k * 3, none⟩) hb).trans (hc k _ hak 0 _ rfl), (hW.cell (p := ⟨b, o + k * 3 + 1, none⟩) hb).trans (hc k _ hak 1 _ rfl), (hW.cell (p := ⟨b, o + k * 3 + 2, none⟩) hb).trans (hc k _ hak 2 _ rfl)⟩
        obtain ⟨d0, d1, d2⟩ := HD.out wr hbw
        have HBW := hid hbw
        have HLG := hid hl
        have HO := hid ho
        have h27 := hid (floor_any hl)
        have h28 := hid (last_any hl)
        clear hak hc hbw hl ho hb
        by_cases hkd : kd = 1
        · subst hkd
          obtain ⟨f', hf'⟩ : ∃ f', f' = max (cut (min r last) evs floor).2 (min r last) := ⟨_, rfl⟩
          obtain ⟨evs', hevs'⟩ : ∃ e, e = (cut (min r last) evs floor).1 := ⟨_, rfl⟩
          obtain ⟨q1, q2⟩ := cut_ord (min r last) evs floor HO.out (by omega)
          have h25 := compact_any HLG.out r
          rw [← hf', ← hevs'] at h25 q1
          have hff : floor ≤ f' := by omega
          have hfl := q1.fl
          have HQ1 := hid q1
          have H25 := hid h25
          clear q1 q2 h25 hf' hevs'
          go_wp2_with (first
            | (go_at_call 25
               go_must (
                refine H25.out.mono ?_
                rintro e w3 ⟨⟨nn, rfl⟩, ⟨first', hl3⟩, hk3⟩
                have h27b := hid (floor_any hl3)
                have h28b := hid (last_any hl3)
                have h29b := hid (len_any hl3)
                have hn3 : (evs'.length : Int) ≤ min (max most 1) 64 := by have h1 := hl3.len; have h2 := HNN.out.2.2; omega
                have HL3 := hid hl3
                have HK3 := hid hk3
                clear hl3 hk3))
            | (go_at_call 27; refine h27b.out.mono ?_; rintro e w4 ⟨rfl, hw⟩; have hw2 := hw.symm; clear hw; subst hw2)
            | (go_at_call 28; refine h28b.out.mono ?_; rintro e w4 ⟨rfl, hw⟩; have hw2 := hw.symm; clear hw; subst hw2)
            | (go_at_call 29; refine h29b.out.mono ?_; rintro e w4 ⟨rfl, hw⟩; have hw2 := hw.symm; clear hw; subst hw2)
            | (go_at_call 27; refine h27.out.mono ?_; rintro e w4 ⟨rfl, hw⟩; have hw2 := hw.symm; clear hw; subst hw2)
            | (go_at_call 28; refine h28.out.mono ?_; rintro e w4 ⟨rfl, hw⟩; have hw2 := hw.symm; clear hw; subst hw2))
          all_goals try (exfalso; omega)
          go_roundw
          case rel => exact ⟨k + 1, by go_num, by omega, by omega, hid ⟨⟨_, _, _, _, HL3.out, HQ1.out⟩, HBW.out.trans (Keeps.below HK3.out HBW.out.size (by have := HG.out; omega))⟩⟩
          case measure => simp [intOf]; omega
        · have hkd1 : (kd == 1) = false := by simp [hkd]
          clear hkd
          have h24 := hid (event_any wr.drew kd n r)
          by_cases hgt : last < r
          · go_wp2_with (first
              | (go_at_call 27; refine h27.out.mono ?_; rintro e w4 ⟨rfl, hw⟩; have hw2 := hw.symm; clear hw; subst hw2)
              | (go_at_call 28; refine h28.out.mono ?_; rintro e w4 ⟨rfl, hw⟩; have hw2 := hw.symm; clear hw; subst hw2))
            obtain ⟨s0, s1, s2⟩ := HD.out wr.drew (below_drew HBW.out)
            have S0 : wr.drew.cell? ⟨b, o + k * 3, none⟩ = some (.int .i64 kd) ∧ wr.drew.cell? ⟨b, o + k * 3 + 1, none⟩ = some (.int .i64 n) ∧ wr.drew.cell? ⟨b, o + k * 3 + 2, none⟩ = some (.int .u64 r) := ⟨s0, s1, s2⟩
            clear s0 s1 s2
            have ik1 : (0 : Int) ≤ (k : Int) := by omega
            have ik2 : (k : Int) < (l.length : Int) := by omega
            go_region_held3 (fun V => V.cell? ⟨b, o + k * 3, none⟩ = some (.int .i64 kd) ∧ V.cell? ⟨b, o + k * 3 + 1, none⟩ = some (.int .i64 n) ∧ V.cell? ⟨b, o + k * 3 + 2, none⟩ = some (.int .u64 r)) (first | exact S0 | exact S3 | exact S4) ((first
              | (go_at_call 24
                 go_must (
                  refine h24.out.mono ?_
                  rintro e w3 ⟨rfl, hb3⟩
                  have hb3' : Below w.heap.size w w3 := (below_drew HBW.out).trans (hb3.mono HBW.out.size)
                  have S3 := HD.out w3 hb3'
                  have HB3 := hid hb3'
                  have hl3 := HLG.out.drew.kept (F := fun _ => False) (Keeps.of_below hb3) (by simp) (by simp)
                  have h23 := add_yes hl3 HO.out (evCells n r (.slice (some ⟨wr.drew.heap.size + 1 + 1, 0, none⟩) 1 1)) (evCells_ok n r (by simp [Value.oneCell'])) hgt
                  have H23 := hid h23
                  clear h23 hl3 hb3 hb3'))
              | (go_at_call 23
                 go_must (
                  refine H23.out.mono ?_
                  rintro e w4 ⟨rfl, ⟨first', f', d, hl4, ho4, hff, -⟩, hk4⟩
                  obtain ⟨E, hl5, ho5⟩ : ∃ E, LogAt w4 p g N first' f' r E ∧ Ord f' r E := ⟨_, hl4, ho4⟩
                  have hb4' : Below w.heap.size w w4 := HB3.out.trans (Keeps.below hk4 HB3.out.size (by have := HG.out; omega))
                  have S4 := HD.out w4 hb4'
                  have h27b := hid (floor_any hl5)
                  have h28b := hid (last_any hl5)
                  have h29b := hid (len_any hl5)
                  have hfl := ho5.fl
                  have hn3 := hl5.len
                  have HL5 := hid hl5
                  have HO5 := hid ho5
                  have HB4 := hid hb4'
                  clear hl5 ho5 hb4' hl4 ho4 hk4))))
            clear S0
            have hn4 := HNN.out.2.2
            go_wp2_with (first
              | (go_at_call 27; refine h27b.out.mono ?_; rintro e w5 ⟨rfl, hw⟩; have hw2 := hw.symm; clear hw; subst hw2)
              | (go_at_call 28; refine h28b.out.mono ?_; rintro e w5 ⟨rfl, hw⟩; have hw2 := hw.symm; clear hw; subst hw2)
              | (go_at_call 29; refine h29b.out.mono ?_; rintro e w5 ⟨rfl, hw⟩; have hw2 := hw.symm; clear hw; subst hw2))
            all_goals try (exfalso; omega)
            go_roundw
            case rel => exact ⟨k + 1, by go_num, by omega, by omega, hid ⟨⟨_, _, _, _, HL5.out, HO5.out⟩, HB4.out⟩⟩
            case measure => simp [intOf]; omega
          · go_wp2_with (first
              | (go_at_call 27; refine h27.out.mono ?_; rintro e w4 ⟨rfl, hw⟩; have hw2 := hw.symm; clear hw; subst hw2)
              | (go_at_call 28; refine h28.out.mono ?_; rintro e w4 ⟨rfl, hw⟩; have hw2 := hw.symm; clear hw; subst hw2))
            obtain ⟨s0, s1, s2⟩ := HD.out wr.drew (below_drew HBW.out)
            have S0 : wr.drew.cell? ⟨b, o + k * 3, none⟩ = some (.int .i64 kd) ∧ wr.drew.cell? ⟨b, o + k * 3 + 1, none⟩ = some (.int .i64 n) ∧ wr.drew.cell? ⟨b, o + k * 3 + 2, none⟩ = some (.int .u64 r) := ⟨s0, s1, s2⟩
            clear s0 s1 s2
            have ik1 : (0 : Int) ≤ (k : Int) := by omega
            have ik2 : (k : Int) < (l.length : Int) := by omega
            go_region_held3 (fun V => V.cell? ⟨b, o + k * 3, none⟩ = some (.int .i64 kd) ∧ V.cell? ⟨b, o + k * 3 + 1, none⟩ = some (.int .i64 n) ∧ V.cell? ⟨b, o + k * 3 + 2, none⟩ = some (.int .u64 r)) (first | exact S0 | exact S3 | exact S4) ((first
              | (go_at_call 24
                 go_must (
                  refine h24.out.mono ?_
                  rintro e w3 ⟨rfl, hb3⟩
                  have hb3' : Below w.heap.size w w3 := (below_drew HBW.out).trans (hb3.mono HBW.out.size)
                  have S3 := HD.out w3 hb3'
                  have HB3 := hid hb3'
                  have hl3 := HLG.out.drew.kept (F := fun _ => False) (Keeps.of_below hb3) (by simp) (by simp)
                  have h23 := add_no hl3 (evCells n r (.slice (some ⟨wr.drew.heap.size + 1 + 1, 0, none⟩) 1 1)) (evCells_ok n r (by simp [Value.oneCell'])) (show r ≤ last by omega)
                  have H23 := hid h23
                  have HL3 := hid hl3
                  clear h23 hl3 hb3 hb3'))
              | (go_at_call 23
                 go_must (
                  refine H23.out.mono ?_
                  rintro e w4 ⟨rfl, hk4⟩
                  have hl5 := HL3.out.kept (F := fun _ => False) (Keeps.of_below hk4) (by simp) (by simp)
                  have ho5 := HO.out
                  have hb4' : Below w.heap.size w w4 := HB3.out.trans (hk4.mono HB3.out.size)
                  have S4 := HD.out w4 hb4'
                  have h27b := hid (floor_any hl5)
                  have h28b := hid (last_any hl5)
                  have h29b := hid (len_any hl5)
                  have hfl := ho5.fl
                  have hn3 := hl5.len
                  have HL5 := hid hl5
                  have HO5 := hid ho5
                  have HB4 := hid hb4'
                  clear hl5 ho5 hb4' hk4))))
            clear S0
            have hn4 := HNN.out.2.2
            go_wp2_with (first
              | (go_at_call 27; refine h27b.out.mono ?_; rintro e w5 ⟨rfl, hw⟩; have hw2 := hw.symm; clear hw; subst hw2)
              | (go_at_call 28; refine h28b.out.mono ?_; rintro e w5 ⟨rfl, hw⟩; have hw2 := hw.symm; clear hw; subst hw2)
              | (go_at_call 29; refine h29b.out.mono ?_; rintro e w5 ⟨rfl, hw⟩; have hw2 := hw.symm; clear hw; subst hw2))
            all_goals try (exfalso; omega)
            go_roundw
            case rel => exact ⟨k + 1, by go_num, by omega, by omega, hid ⟨⟨_, _, _, _, HL5.out, HO5.out⟩, HB4.out⟩⟩
            case measure => simp [intOf]; omega
      · have HBW := hid HI.out.below
        go_wp2
        go_ret
        exact ⟨rfl, HBW.out⟩
    · have HBW := hid HI.out.below
      go_wp2
      go_ret
      exact ⟨rfl, HBW.out⟩
end Go.Proofs.Ytnceglkoolfncaa.Ev
