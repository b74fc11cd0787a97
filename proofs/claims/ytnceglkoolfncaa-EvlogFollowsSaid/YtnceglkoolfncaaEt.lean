/- EvlogFollows: the walk. -/
import Derived.Test.YtnceglkoolfncaaEr
namespace Go.Proofs.Ytnceglkoolfncaa.Ev
open Go.RowKit Go.Pv

def encU (r : Int) : List Value := [.int .u64 r]

theorem info41 : ∃ i, Try.prog.info? 41 = some i ∧ i.zero = some (.int .u64 0) ∧ i.size = 1 ∧ i.bytes = 8 := by
  have h : (Try.prog.info? 41).map (fun i => (i.zero, i.size, i.bytes)) = some (some (.int .u64 0), 1, 8) := by kernel_rfl
  cases h0 : Try.prog.info? 41 with
  | none => rw [h0] at h; cases h
  | some i => rw [h0] at h; simp at h; exact ⟨i, rfl, h.1, h.2.1, h.2.2⟩

theorem flat_u (A : List Int) (m : Nat) (h : m < A.length) : (A.flatMap encU)[m]? = some (.int .u64 A[m]) := by
  induction A generalizing m with
  | nil => simp at h
  | cons a r ih =>
    cases m with
    | zero => rfl
    | succ m => simpa [encU] using ih m (by simpa using h)

theorem flat_ev (T : List Event) (hT : ∀ e ∈ T, e.length = 15) (q j : Nat) (hq : q < T.length) (hj : j < 15) : (T.flatMap fun e => e)[q * 15 + j]? = T[q][j]? := by
  induction T generalizing q with
  | nil => simp at hq
  | cons e r ih =>
    have he := hT e (by simp)
    rw [List.flatMap_cons]
    cases q with
    | zero =>
      rw [List.getElem?_append_left (by omega)]
      simp
    | succ q =>
      rw [List.getElem?_append_right (by omega), he, show (q + 1) * 15 + j - 15 = q * 15 + j by omega]
      simpa using ih (fun x hx => hT x (by simp [hx])) q (by simpa using hq)

/-- A slice of revisions. -/
theorem uform {w : World} {v : Value} {A : List Int} (h : SlOf w 41 1 encU v A) : ∃ aa c, v = .slice aa A.length c ∧ ∀ m (hm : m < A.length), ∃ ab ao, aa = some ⟨ab, ao, none⟩ ∧ w.cell? ⟨ab, ao + m, none⟩ = some (.int .u64 A[m]) := by
  rcases SlRow.form h with ⟨h1, h2⟩ | ⟨b, o, c, h1⟩
  · exact ⟨none, 0, by rw [h1, h2], fun m hm => by omega⟩
  · exact ⟨_, c, h1, fun m hm => ⟨b, o, rfl, SlRow.cells h h1 m _ (flat_u A m hm)⟩⟩

/-- A slice of events. -/
theorem evform {w : World} {v : Value} {T : List Event} (h : SlEv w v T) (hT : ∀ e ∈ T, EvOk e) : ∃ aa c, v = .slice aa T.length c ∧ ∀ m (hm : m < T.length), ∃ ab ao, aa = some ⟨ab, ao, none⟩ ∧ w.cell? ⟨ab, ao + m * 15 + 1, none⟩ = some (.int .u64 (revOf T[m])) := by
  rcases SlRow.form h with ⟨h1, h2⟩ | ⟨b, o, c, h1⟩
  · exact ⟨none, 0, by rw [h1, h2], fun m hm => by omega⟩
  · refine ⟨_, c, h1, fun m hm => ⟨b, o, rfl, ?_⟩⟩
    have := SlRow.cells h h1 (m * 15 + 1) _ ((flat_ev T (fun e he => (hT e he).1) m 1 hm (by omega)).trans (hT _ (List.getElem_mem hm)).2.2)
    rw [← Nat.add_assoc] at this
    exact this

theorem cells3 {w : World} {b : Nat} {x y z : Value} {T : TypeId} (h : w.heap[b]? = some (.cells #[x, y, z] T (0, 0))) : w.cell? ⟨b, 0, none⟩ = some x ∧ w.cell? ⟨b, 1, none⟩ = some y ∧ w.cell? ⟨b, 2, none⟩ = some z :=
  ⟨by rw [cell_of_row w b 0 _ _ _ h]; rfl, by rw [cell_of_row w b 1 _ _ _ h]; rfl, by rw [cell_of_row w b 2 _ _ _ h]; rfl⟩

/-- What holds ahead of each round. -/
structure FInv (w : World) (p g N k : Nat) (seen : Int) (av : Value) (nx : Nat) (wr : World) : Prop where
  ex : ∃ first floor last evs A, LogAt wr p g N first floor last evs ∧ FP floor last evs A nx seen ∧ SlOf wr 41 1 encU av A ∧ A.length ≤ k
  own : ∀ b, av.ownBlock = some b → w.heap.size ≤ b ∧ b ≠ p ∧ b ≠ g
  below : Below w.heap.size w wr

/-- Behind what turned the log alone. -/
theorem FInv.turned {w wr w2 : World} {p g N k : Nat} {seen : Int} {av : Value} {nx nx' : Nat} {seen' : Int} (h : FInv w p g N k seen av nx wr) (hg : w.heap.size ≤ p ∧ w.heap.size ≤ g) (kp : Keeps (fun i => i = p ∨ i = g) wr w2)
    {first : Nat} {floor last : Int} {evs : List Event} {A : List Int} (hl : LogAt w2 p g N first floor last evs) (hf : FP floor last evs A nx' seen') (hs : SlOf wr 41 1 encU av A) (ha : A.length ≤ k) : FInv w p g N (k + 1) seen' av nx' w2 where
  ex := ⟨first, floor, last, evs, A, hl, hf, SlRow.kept hs kp (fun b hb e => by have := h.own b hb; omega), by omega⟩
  own := h.own
  below := h.below.trans (Keeps.below kp h.below.size (by omega))

set_option maxRecDepth 100000 in
set_option maxHeartbeats 4000000 in
theorem follows_any {w : World} {v : Value} {l : List EAct} (hv : Rd w 3 encE v l) (most : Int) (hlen : (l.length : Int) ≤ 9223372036854775807) :
    Calls Try.prog 4 #[.int .i64 most, v] w fun e w' => e = .returned (.bool true) ∧ Below w.heap.size w w' := by
  have HV := hid hv
  have hvf := hv.form
  obtain ⟨va, vcap, rfl⟩ := hvf
  have h21 := hid (works_any w)
  clear hv
  go_enter Try.func4, Try.ntmps4
  go_wp2_with (first
    | (go_at_call 21; go_must (refine h21.out.mono ?_; rintro e w1 ⟨rfl, hb1⟩; have HB1 := hid hb1; clear hb1))
    | (go_at_call 22; go_must (refine (new_any _ most).mono ?_; rintro e w2 ⟨rfl, hL, hk2, hs2⟩; have HL := hid hL; have HK2 := hid hk2; have HS2 := hid hs2; clear hL hk2 hs2)))
  have HG := hid (⟨by have := HB1.out.size; omega, by have := HB1.out.size; omega⟩ : w.heap.size ≤ w1.heap.size + 1 ∧ w.heap.size ≤ w1.heap.size)
  have H0 : Hid (FInv w (w1.heap.size + 1) w1.heap.size (nOf most) 0 0 (.slice (some ⟨w2.heap.size, 0, none⟩) 0 0) 0 (w2.alloc (.cells #[] 41))) := hid
    ⟨⟨_, _, _, _, [], HL.out.alloc _, FP.start, SlRow.made w2 41 1 0 #[] rfl (by simp [maxLen]), by simp⟩, fun b hb => by
      simp [Value.ownBlock] at hb
      have h1 := HS2.out
      have h2 := HB1.out.size
      subst hb; omega, (HB1.out.trans (Keeps.below HK2.out HB1.out.size (by simp))).trans (Keeps.below ((Keeps.refl (fun _ => False) w2).alloc _) (by have h1 := HS2.out; have h2 := HB1.out.size; omega) (by simp))⟩
  generalize w1.heap.size + 1 = p at *
  generalize w1.heap.size = g at *
  generalize nOf most = N at *
  clear HL HK2 HB1 h21 HS2
  go_loopw [6, 7, 8, 9] (fun sv av nv iv wr => ∃ (k nx : Nat) (seen : Int), sv = .int .u64 seen ∧ nv = .int .i64 nx ∧ iv = .int .i64 k ∧ k ≤ 100 ∧ k ≤ l.length ∧ Hid (FInv w p g N k seen av nx wr)) (fun _ _ _ iv _ => 100 - (intOf iv).toNat)
  case atStart => exact ⟨0, 0, 0, rfl, rfl, rfl, by omega, by omega, H0⟩
  case round =>
    clear H0
    obtain ⟨k, nx, seen, rfl, rfl, rfl, hk1, hk2, HI⟩ := hrel
    by_cases hlen2 : k < l.length
    · by_cases hk100 : k < 100
      · obtain ⟨b, o, hva, hb, hc⟩ : ∃ b o, va = some ⟨b, o, none⟩ ∧ b < w.heap.size ∧ ∀ i x, l[i]? = some x → ∀ j u, (encE x)[j]? = some u → w.cell? ⟨b, o + i * 3 + j, none⟩ = some u := by
          rcases HV.out with ⟨h, _⟩ | ⟨b, o, cap, h, h1, h2⟩
          · subst h; simp at hlen2
          · simp only [Value.slice.injEq] at h; exact ⟨b, o, h.1, h1, h2⟩
        subst hva
        obtain ⟨⟨kd, n, r⟩, hak⟩ : ∃ a, l[k]? = some a := ⟨l[k], List.getElem?_eq_getElem hlen2⟩
        obtain ⟨first, floor, last, evs, A, hl, hf, hs, hA⟩ := HI.out.ex
        have hbw := HI.out.below
        have d0 : wr.cell? ⟨b, o + k * 3, none⟩ = some (.int .i64 kd) := (hbw.cell (p := ⟨b, o + k * 3, none⟩) hb).trans (hc k _ hak 0 _ rfl)
        have d1 : wr.cell? ⟨b, o + k * 3 + 1, none⟩ = some (.int .i64 n) := (hbw.cell (p := ⟨b, o + k * 3 + 1, none⟩) hb).trans (hc k _ hak 1 _ rfl)
        have d2 : wr.cell? ⟨b, o + k * 3 + 2, none⟩ = some (.int .u64 r) := (hbw.cell (p := ⟨b, o + k * 3 + 2, none⟩) hb).trans (hc k _ hak 2 _ rfl)
        obtain ⟨W, hW⟩ : ∃ W, W = wr.alloc (.cells #[.int .i64 kd, .int .i64 n, .int .u64 r] 44) := ⟨_, rfl⟩
        have kW : Keeps (fun _ => False) wr W := by rw [hW]; exact (Keeps.refl _ wr).alloc _
        have bW : W.heap[wr.heap.size]? = some (.cells #[.int .i64 kd, .int .i64 n, .int .u64 r] 44 (0, 0)) := by rw [hW]; exact heap_at _ _ _ rfl
        have hlW : LogAt W p g N first floor last evs := by rw [hW]; exact hl.alloc _
        have HKW := hid kW
        have HBX := hid bW
        have HLG := hid hl
        have HLW := hid hlW
        have HF := hid hf
        have HS := hid hs
        have HW := hid hW
        have HA := hid hA
        clear hak hc hbw hl hf hs hb hA kW bW hlW hW
        have hA2 : A.length ≤ 100 := by have := HA.out; omega
        have G3 : Hid (∀ w3, Below W.heap.size W w3 → Keeps (fun _ => False) wr w3 ∧ w3.heap[wr.heap.size]? = some (.cells #[.int .i64 kd, .int .i64 n, .int .u64 r] 44 (0, 0)) ∧ LogAt w3 p g N first floor last evs) := hid fun w3 hb3 =>
          ⟨HKW.out.trans (Keeps.of_below (F := fun _ => False) hb3) (by simp), (hb3.block wr.heap.size (Array.getElem?_eq_some_iff.1 HBX.out).1).trans HBX.out, HLW.out.kept (F := fun _ => False) (Keeps.of_below hb3) (by simp) (by simp)⟩
        have G4 : Hid (∀ w3 w4, Below W.heap.size W w3 → Keeps (fun i => i = p ∨ i = g) w3 w4 → Keeps (fun i => i = p ∨ i = g) wr w4 ∧ w4.heap[wr.heap.size]? = some (.cells #[.int .i64 kd, .int .i64 n, .int .u64 r] 44 (0, 0))) := hid fun w3 w4 hb3 hk4 => by
          obtain ⟨q1, q2, q3⟩ := G3.out w3 hb3
          refine ⟨(Keeps.mono q1 (by simp)).trans hk4 (fun i hi => .inl hi), (hk4.block wr.heap.size (Array.getElem?_eq_some_iff.1 q2).1 ?_).trans q2⟩
          have h1 := HLG.out.plt
          have h2 := HLG.out.glt
          omega
        by_cases hkd0 : kd = 0
        · subst hkd0
          have h24 := hid (event_any W 0 n r)
          by_cases hgt : last < r
          · go_wp2_with (first
              | (go_at_call 24
                 go_must (
                  rw [← HW.out]
                  refine h24.out.mono ?_
                  rintro e w3 ⟨rfl, hb3⟩
                  obtain ⟨-, -, hl3⟩ := G3.out w3 hb3
                  have h23 := add_yes hl3 HF.out.ord (evCells n r (.slice (some ⟨W.heap.size + 1 + 1, 0, none⟩) 1 1)) (evCells_ok n r (by simp [Value.oneCell'])) hgt
                  have HB3 := hid hb3
                  have H23 := hid h23
                  clear h23 hl3 hb3))
              | (go_at_call 23
                 go_must (
                  refine H23.out.mono ?_
                  rintro e w4 ⟨rfl, ⟨first', f', d, hl4, ho4, hff, hd⟩, hk4⟩
                  obtain ⟨K4, B4⟩ := G4.out w3 w4 HB3.out hk4
                  obtain ⟨x0, x1, x2⟩ := cells3 B4
                  clear B4
                  obtain ⟨E, f'', hl5, hf5⟩ : ∃ E f'', LogAt w4 p g N first' f'' r E ∧ FP f'' r E (A ++ [r]) nx seen := ⟨_, _, hl4, FP.add (ev := evCells n r (.slice (some ⟨W.heap.size + 1 + 1, 0, none⟩) 1 1)) HF.out hgt ho4 hff hd⟩
                  have hs4 := SlRow.kept HS.out K4 (fun b hb e => by have := HI.out.own b hb; omega)
                  obtain ⟨i0, hi, hz0, hz1, hz2⟩ := info41
                  obtain ⟨v', w5, hr5, hs5, hk5, hloc5, -, -⟩ := run_append_sl (P := Try.prog) (w4.alloc (.cells #[.int .u64 r] 41)) 42 42 41 i0 _ 1 8 Try.underlying42 hi hz0 hz1 hz2 rfl _ _ _ (SlRow.alloc hs4 (.cells #[.int .u64 r] 41))
                    (.slice (some ⟨w4.heap.size, 0, none⟩) 1 1) 1 [.int .u64 r] (.inr ⟨_, _, rfl, World.news_of_block (cs := #[.int .u64 r]) (t := 41) (fr := (0, 0)) (heap_at _ _ _ rfl)⟩) rfl (by simp [Value.oneCell']) (by unfold maxLen; omega) (by omega)
                  have HR5 := hid hr5
                  have HS5 := hid hs5
                  have HK5 := hid hk5
                  have HLOC := hid hloc5
                  have HL5 := hid hl5
                  have HF5 := hid hf5
                  have HK4 := hid K4
                  clear hl4 ho4 hff hd hk4 K4 hl5 hf5 hs4 hi hz0 hz1 hz2 hr5 hs5 hk5 hloc5 x0 x1))
              | (at_builtin; go_must (refine wl_append rfl _ _ _ rfl ⟨_, _, HR5.out, ?_⟩)))
            go_roundw
            case rel =>
              have hp := HLG.out.plt
              have hg' := HLG.out.glt
              have hz := HI.out.below.size
              have hz4 := HK4.out.size
              have k45 : Keeps (fun i => u7.ownBlock = some i) w4 w5 := ((Keeps.refl _ w4).alloc _).trans HK5.out (fun i hi => .inl hi)
              refine ⟨k + 1, nx, seen, rfl, rfl, by go_num, by omega, by omega, hid ⟨⟨first', f'', r, E, A ++ [r], HL5.out.kept k45 (fun e => by have := HI.out.own _ e; omega) (fun e => by have := HI.out.own _ e; omega), HF5.out, ?_, by have := HA.out; simp; omega⟩, fun b hb => ?_, ?_⟩⟩
              · have := HS5.out
                unfold SlOf
                rw [List.flatMap_append, List.length_append]
                exact this
              · rcases HLOC.out with h | h
                · rw [h] at hb; exact HI.out.own b hb
                · rw [h] at hb
                  simp at hb
                  subst hb; omega
              · exact (HI.out.below.trans (Keeps.below HK4.out hz (by have := HG.out; omega))).trans (Keeps.below k45 (by omega) (fun i hi => (HI.out.own i hi).1))
            case measure => simp [intOf]; omega
          · go_wp2_with (first
              | (go_at_call 24
                 go_must (
                  rw [← HW.out]
                  refine h24.out.mono ?_
                  rintro e w3 ⟨rfl, hb3⟩
                  obtain ⟨-, -, hl3⟩ := G3.out w3 hb3
                  have h23 := add_no hl3 (evCells n r (.slice (some ⟨W.heap.size + 1 + 1, 0, none⟩) 1 1)) (evCells_ok n r (by simp [Value.oneCell'])) (show r ≤ last by omega)
                  have HL3 := hid hl3
                  have HB3 := hid hb3
                  have H23 := hid h23
                  clear h23 hl3 hb3))
              | (go_at_call 23
                 go_must (
                  refine H23.out.mono ?_
                  rintro e w4 ⟨rfl, hk4⟩
                  have HK4 := hid hk4
                  clear hk4)))
            go_roundw
            case rel => exact ⟨k + 1, nx, seen, rfl, rfl, by go_num, by omega, by omega, hid (HI.out.turned HG.out ((Keeps.mono (G3.out _ HB3.out).1 (by simp)).trans (Keeps.of_below (F := fun _ => False) HK4.out) (by simp)) (HL3.out.kept (F := fun _ => False) (Keeps.of_below HK4.out) (by simp) (by simp)) HF.out HS.out HA.out)⟩
            case measure => simp [intOf]; omega
        · have hk0 : (kd == 0) = false := by simp [hkd0]
          by_cases hkd1 : kd = 1
          · subst hkd1
            clear hkd0 hk0
            have h25 := hid (compact_any HLW.out r)
            go_wp2_with (first
              | (go_at_call 25
                 go_must (
                  rw [← HW.out]
                  refine h25.out.mono ?_
                  rintro e w3 ⟨⟨nn, rfl⟩, ⟨first', hl3⟩, hk3⟩
                  have HL3 := hid hl3
                  have HK3 := hid hk3
                  clear hl3 hk3)))
            go_roundw
            case rel => exact ⟨k + 1, nx, seen, rfl, rfl, by go_num, by omega, by omega, hid (HI.out.turned HG.out ((Keeps.mono HKW.out (by simp)).trans HK3.out (fun i hi => .inl hi)) HL3.out (HF.out.compact (min r last) (by omega)) HS.out HA.out)⟩
            case measure => simp [intOf]; omega
          · have hk1' : (kd == 1) = false := by simp [hkd1]
            clear hkd0 hkd1
            by_cases hold : seen < floor
            · obtain ⟨aa, ac, hav, hcell⟩ := uform (SlRow.kept HS.out HKW.out (by simp))
              subst hav
              have HC := hid hcell
              have h26 := hid (after_old HLW.out seen n hold)
              have h27 := hid (floor_any HLW.out)
              have HOLD := hid (HF.out.old hold)
              clear hcell
              go_wp2_with (first
                | (go_at_call 26; go_must (rw [← HW.out]; refine h26.out.mono ?_; rintro e w3 ⟨rfl, hw⟩; have hw2 := hw.symm; clear hw; subst hw2))
                | (go_at_call 27; go_must (refine h27.out.mono ?_; rintro e w3 ⟨rfl, hw⟩; have hw2 := hw.symm; clear hw; subst hw2)))
              go_loopw [8] (fun nv wr' => ∃ m : Nat, nv = .int .i64 m ∧ m ≤ A.length ∧ W = wr' ∧ Hid (FQ floor last evs A m)) (fun nv _ => A.length - (intOf nv).toNat)
              case atStart => exact ⟨nx, rfl, HF.out.le, rfl, HOLD⟩
              case round =>
                obtain ⟨m, rfl, hm, hWW, HQ⟩ := hrel
                subst hWW
                by_cases hmA : m < A.length
                · obtain ⟨ab, ao, haa, hcm⟩ := HC.out m hmA
                  subst haa
                  obtain ⟨x, hx⟩ : ∃ x, x = A[m] := ⟨_, rfl⟩
                  rw [← hx] at hcm
                  have HX := hid hx
                  clear hx
                  by_cases hxf : x ≤ floor
                  · go_wp2
                    go_roundw
                    case rel => exact ⟨m + 1, by go_num, by omega, trivial, hid (HQ.out.step hmA (HX.out ▸ hxf))⟩
                    case measure => simp [intOf]; omega
                  · go_wp2
                    go_roundw
                    case rel => exact ⟨k + 1, m, floor, rfl, rfl, by go_num, by omega, by omega, hid (HI.out.turned HG.out (Keeps.mono HKW.out (by simp)) HLW.out (HQ.out.fin (fun h => by rw [← HX.out]; omega)) HS.out HA.out)⟩
                    case measure => simp [intOf]; omega
                · have hmn : ¬ ((m : Int) < (A.length : Int)) := by omega
                  go_wp2
                  go_roundw
                  case rel => exact ⟨k + 1, m, floor, rfl, rfl, by go_num, by omega, by omega, hid (HI.out.turned HG.out (Keeps.mono HKW.out (by simp)) HLW.out (HQ.out.fin (fun h => absurd h hmA)) HS.out HA.out)⟩
                  case measure => simp [intOf]; omega
            · have hfs : floor ≤ seen := by omega
              have h26 := hid (after_yes HLW.out HF.out.ord.ris seen n hfs)
              have GA : Hid (∀ w4 gv gk, Below W.heap.size W w4 → IsFrom seen evs gk → SlEv w4 gv ((evs.drop gk).take n.toNat) → LogAt w4 p g N first floor last evs ∧ Keeps (fun _ => False) wr w4 ∧
                  ∃ ga gc RL, gv = .slice ga RL gc ∧ RL = min n.toNat (A.length - nx) ∧ (∀ m, m < RL → ∃ ab ao x, ga = some ⟨ab, ao, none⟩ ∧ A[nx + m]? = some x ∧ w4.cell? ⟨ab, ao + m * 15 + 1, none⟩ = some (.int .u64 x))) := hid fun w4 gv gk hb4 hk hse => by
                obtain ⟨q1, -, q3⟩ := G3.out w4 hb4
                have hT : ∀ e ∈ (evs.drop gk).take n.toNat, EvOk e := fun e he => by
                  have h1 := List.mem_of_mem_drop (List.mem_of_mem_take he)
                  obtain ⟨i, hi⟩ := List.mem_iff_getElem?.1 h1
                  exact (q3.el i e hi).2
                obtain ⟨ga, gc, e1, e2⟩ := evform hse hT
                have hm := HF.out.got hfs hk
                have hml : ((evs.drop gk).take n.toNat).length = min n.toNat (A.length - nx) := by
                  rw [List.length_take]
                  have := congrArg List.length hm
                  rw [List.length_map, List.length_drop (l := A)] at this
                  rw [this]
                refine ⟨q3, q1, ga, gc, _, e1, hml, fun m hmm => ?_⟩
                obtain ⟨ab, ao, r1, r2⟩ := e2 m hmm
                refine ⟨ab, ao, _, r1, ?_, r2⟩
                rw [← List.getElem?_drop, ← hm, List.getElem?_map, List.getElem_take]
                rw [List.getElem?_eq_getElem (by rw [List.length_take] at hmm; omega)]
                rfl
              have hnold : ¬ (seen < floor) := hold
              go_wp2_with (first
                | (go_at_call 26
                   go_must (
                    rw [← HW.out]
                    refine h26.out.mono ?_
                    rintro e w4 ⟨gv, gk, rfl, hk, hsE, -, hb4⟩
                    obtain ⟨hl4, hk4, ga, gc, RL, hgv, hTm, hgc⟩ := GA.out w4 gv gk hb4 hk hsE
                    have HB4 := hid (G3.out w4 hb4).2.1
                    subst hgv
                    have h27 := hid (floor_any hl4)
                    have HL4 := hid hl4
                    have HK4 := hid hk4
                    have HTM := hid hTm
                    have HGC := hid hgc
                    clear hl4 hk4 hTm hgc hk hsE hb4))
                | (go_at_call 27; go_must (refine h27.out.mono ?_; rintro e w5 ⟨rfl, hw⟩; have hw2 := hw.symm; clear hw; subst hw2)))
              have hsE := SlRow.kept HS.out HK4.out (by simp)
              obtain ⟨aa, ac, hav, hcell⟩ := uform hsE
              have HAV := hid hav
              have HC := hid hcell
              clear hcell hav hsE hnold
              have hRL : RL ≤ 100 := by have := HTM.out; omega
              have HBXC : Hid (∀ V, Keeps (fun _ => False) w4 V → V.cell? ⟨wr.heap.size, 1, none⟩ = some (.int .i64 n)) := hid fun V hV => by
                have h1 := (hV.block wr.heap.size (Array.getElem?_eq_some_iff.1 HB4.out).1 (by simp)).trans HB4.out
                exact (cells3 h1).2.1
              go_loopw [6, 8, 13] (fun sv nv kv wr' => ∃ (q : Nat) (s' : Int), sv = .int .u64 s' ∧ nv = .int .i64 (nx + q : Nat) ∧ kv = .int .i64 q ∧ q ≤ RL ∧ Hid (Keeps (fun _ => False) w4 wr') ∧ Hid (FP floor last evs A (nx + q) s')) (fun _ _ kv _ => RL - (intOf kv).toNat)
              case atStart => exact ⟨0, seen, rfl, rfl, rfl, by omega, hid (Keeps.refl _ _), HF⟩
              case round =>
                obtain ⟨q, s', rfl, rfl, rfl, hq1, HKQ, HFQ⟩ := hrel
                have hav := HAV.out
                subst hav
                by_cases hq : q < RL
                · obtain ⟨gb, go, x, hga, hx, hgc⟩ := HGC.out q hq
                  subst hga
                  have hnx : nx + q < A.length := (List.getElem?_eq_some_iff.1 hx).1
                  obtain ⟨ab, ao, haa, hac⟩ := HC.out (nx + q) hnx
                  subst haa
                  have hxx : A[nx + q] = x := (List.getElem?_eq_some_iff.1 hx).2
                  rw [hxx] at hac
                  have HXX := hid hxx
                  have k4 := HKQ.out
                  have s1 : wr.drew.cell? ⟨gb, go + q * 15 + 1, none⟩ = some (.int .u64 x) := (k4.cell (p := ⟨gb, go + q * 15 + 1, none⟩) (World.block_lt_of_cell? _ _ hgc) (by simp)).trans hgc
                  have s2 : wr.drew.cell? ⟨ab, ao + (nx + q), none⟩ = some (.int .u64 x) := (k4.cell (p := ⟨ab, ao + (nx + q), none⟩) (World.block_lt_of_cell? _ _ hac) (by simp)).trans hac
                  obtain ⟨z, hz⟩ : ∃ z, z = nx + q := ⟨_, rfl⟩
                  rw [← hz] at s2 hnx ⊢
                  have HZ := hid hz
                  have i1 : (0 : Int) ≤ (z : Int) := by omega
                  have i2 : (z : Int) < (A.length : Int) := by omega
                  have i3 : (0 : Int) ≤ (q : Int) := by omega
                  have i4 : (q : Int) < (RL : Int) := by omega
                  have i5 : ¬ ((A.length : Int) ≤ (z : Int)) := by omega
                  clear hx hgc hac hxx k4 hz
                  go_wp2
                  have i6 : ¬ ((A.length : Int) ≤ (z : Int)) := by omega
                  have i7 : ¬ (A.length ≤ z) := by omega
                  have i8 : (0 : Int) ≤ (q : Int) := by omega
                  have i9 : (q : Int) < (RL : Int) := by omega
                  have i10 : (0 : Int) ≤ (z : Int) := by omega
                  have i11 : (z : Int) < (A.length : Int) := by omega
                  have S0 : wr.drew.cell? ⟨gb, go + q * 15 + 1, none⟩ = some (.int .u64 x) ∧ wr.drew.cell? ⟨ab, ao + z, none⟩ = some (.int .u64 x) := ⟨s1, s2⟩
                  go_region_held3 (fun V => V.cell? ⟨gb, go + q * 15 + 1, none⟩ = some (.int .u64 x) ∧ V.cell? ⟨ab, ao + z, none⟩ = some (.int .u64 x)) (exact S0) (fail)
                  go_wp2
                  go_roundw
                  case rel =>
                    have hzz := HZ.out
                    exact ⟨q + 1, x, rfl, by rw [hzz]; go_num, by go_num, by omega, hid HKQ.out.drew, hid (by have h1 := HFQ.out.step (by omega); rw [HXX.out] at h1; exact h1)⟩
                  case measure => simp [intOf]; omega
                · have hqR : q = RL := by omega
                  have hqn : ¬ ((q : Int) < (RL : Int)) := by omega
                  have HQR := hid hqR
                  have hle := HFQ.out.le
                  have hmin := HTM.out
                  have hfin : ¬ ((RL : Int) < n ∧ ¬ (nx + q = A.length)) := by omega
                  have HFIN := hid hfin
                  obtain ⟨z, hz⟩ : ∃ z, z = nx + q := ⟨_, rfl⟩
                  rw [← hz] at HFIN HFQ ⊢
                  have HFQ := HFQ
                  have xb := HBXC.out wr HKQ.out
                  clear hfin hmin hle hqR hz
                  by_cases hn : (RL : Int) < n
                  · have hza : z = A.length := by have := HFIN.out; omega
                    have hne : ((z : Int) != (A.length : Int)) = false := by rw [hza]; simp
                    clear hza
                    go_wp2
                    go_roundw
                    case rel => exact ⟨k + 1, z, s', rfl, rfl, by go_num, by omega, by omega, hid (HI.out.turned HG.out (Keeps.mono (HK4.out.trans HKQ.out (by simp)) (by simp)) (HL4.out.kept HKQ.out (by simp) (by simp)) HFQ.out HS.out HA.out)⟩
                    case measure => simp [intOf]; omega
                  · go_wp2
                    go_roundw
                    case rel => exact ⟨k + 1, z, s', rfl, rfl, by go_num, by omega, by omega, hid (HI.out.turned HG.out (Keeps.mono (HK4.out.trans HKQ.out (by simp)) (by simp)) (HL4.out.kept HKQ.out (by simp) (by simp)) HFQ.out HS.out HA.out)⟩
                    case measure => simp [intOf]; omega
      · have HBW := hid HI.out.below
        obtain ⟨first, floor, last, evs, A, hl, hf, hs, hA⟩ := HI.out.ex
        have h27 := hid (floor_any hl)
        have h28 := hid (last_any hl)
        have hfl := hf.ord.fl
        clear hl hf hs hA
        go_wp2_with (first
          | (go_at_call 27; go_must (refine h27.out.mono ?_; rintro e w3 ⟨rfl, hw⟩; have hw2 := hw.symm; clear hw; subst hw2))
          | (go_at_call 28; go_must (refine h28.out.mono ?_; rintro e w3 ⟨rfl, hw⟩; have hw2 := hw.symm; clear hw; subst hw2)))
        go_ret
        exact ⟨by simp, HBW.out⟩
    · have HBW := hid HI.out.below
      obtain ⟨first, floor, last, evs, A, hl, hf, hs, hA⟩ := HI.out.ex
      have h27 := hid (floor_any hl)
      have h28 := hid (last_any hl)
      have hfl := hf.ord.fl
      clear hl hf hs hA
      go_wp2_with (first
        | (go_at_call 27; go_must (refine h27.out.mono ?_; rintro e w3 ⟨rfl, hw⟩; have hw2 := hw.symm; clear hw; subst hw2))
        | (go_at_call 28; go_must (refine h28.out.mono ?_; rintro e w3 ⟨rfl, hw⟩; have hw2 := hw.symm; clear hw; subst hw2)))
      go_ret
      exact ⟨by simp, HBW.out⟩
end Go.Proofs.Ytnceglkoolfncaa.Ev
