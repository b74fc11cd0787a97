/- Use: acts; the law UseBounds. -/
import Derived.Test.YtnceglkoolfncaaCh
set_option linter.unusedSimpArgs false
set_option linter.unusedVariables false
namespace Go.Proofs.Ytnceglkoolfncaa.Us
open Go.RowKit Go.Pv Go.Proofs.Ytnceglkoolfncaa.Po Go.Proofs.YtnceglkoolfncaaW.PrintWords Go.Proofs.YtnceglkoolfncaaW.PrintLast Go.Proofs.Ytnceglkoolfncaa.Pr

/-- An act: kind, sandbox, container, resources. -/
abbrev AT := Int × Int × Int × Int × Int × Int
def k147 : Kd AT := Kd.pair (Kd.int .i64) (Kd.pair (Kd.int .i64) (Kd.pair (Kd.int .i64) (Kd.pair (Kd.int .i64) (Kd.pair (Kd.int .i64) (Kd.int .i64)))))
theorem k147_open {w : World} {x : AT} {cs : List Value} (h : k147.K w x cs) : cs = [.int .i64 x.1, .int .i64 x.2.1, .int .i64 x.2.2.1, .int .i64 x.2.2.2.1, .int .i64 x.2.2.2.2.1, .int .i64 x.2.2.2.2.2] := by
  obtain ⟨_, _, rfl, rfl, _, _, rfl, rfl, _, _, rfl, rfl, _, _, rfl, rfl, _, _, rfl, rfl, rfl⟩ := h
  rfl
theorem opn145 : Opn Try.prog 145 (Kd.pair (Kd.int .i64) (Kd.pair (Kd.int .i64) (Kd.int .i64))) (fun _ => True) :=
  (opn_struct Try.underlying145 (by kernel_rfl) (.cons rfl (by kernel_rfl) (opn_int (P := Try.prog) Try.underlying3) (.cons rfl (by kernel_rfl) (opn_int (P := Try.prog) Try.underlying3) (.last rfl (by kernel_rfl) (opn_int (P := Try.prog) Try.underlying3))))).mono (fun _ _ => trivial)
theorem opn147 : Opn Try.prog 147 k147 (fun _ => True) :=
  (opn_struct Try.underlying147 (by kernel_rfl) (.cons rfl (by kernel_rfl) (opn_int (P := Try.prog) Try.underlying3) (.cons rfl (by kernel_rfl) (opn_int (P := Try.prog) Try.underlying3) (.cons rfl (by kernel_rfl) (opn_int (P := Try.prog) Try.underlying3) (.last rfl (by kernel_rfl) opn145))))).mono (fun _ _ => trivial)
theorem opn140 : Opn Try.prog 140 (Kd.slice 147 k147) (fun _ => True) := (opn_slice Try.underlying140 (by kernel_rfl) opn147).mono (fun _ _ => trivial)

/-- The act's box. -/
def BxU (w : World) (g : Nat) (a : AT) : Prop := w.heap[g]? = some (.cells #[.int .i64 a.1, .int .i64 a.2.1, .int .i64 a.2.2.1, .int .i64 a.2.2.2.1, .int .i64 a.2.2.2.2.1, .int .i64 a.2.2.2.2.2] 147 (0, 0))
theorem BxU.cells {w : World} {g : Nat} {a : AT} (h : BxU w g a) : w.cell? ⟨g, 0, none⟩ = some (.int .i64 a.1) ∧ w.cell? ⟨g, 1, none⟩ = some (.int .i64 a.2.1) ∧ w.cell? ⟨g, 2, none⟩ = some (.int .i64 a.2.2.1) ∧ w.cell? ⟨g, 3, none⟩ = some (.int .i64 a.2.2.2.1) ∧ w.cell? ⟨g, 4, none⟩ = some (.int .i64 a.2.2.2.2.1) ∧ w.cell? ⟨g, 5, none⟩ = some (.int .i64 a.2.2.2.2.2) := by
  refine ⟨?_, ?_, ?_, ?_, ?_, ?_⟩ <;> (rw [cell_of_row w g _ _ _ _ h]; rfl)
structure UB (u w : World) (p mb : Nat) (al : UL) (g : Nat) (a : AT) (gp : Nat) (pk : R3) : Prop where
  uv : UV u w p mb al
  bx : BxU w g a
  pb : w.heap[gp]? = some (.cells #[.int .i64 pk.1, .int .i64 pk.2.1, .int .i64 pk.2.2] 145 (0, 0))
section
variable {u w w' : World} {p mb : Nat} {al al' : UL} {g gp gn : Nat} {a : AT} {pk : R3}
theorem UB.later (h : UB u w p mb al g a gp pk) (hb : Below w.heap.size w w') : UB u w' p mb al g a gp pk :=
  ⟨h.uv.later hb, (hb.block g (Array.getElem?_eq_some_iff.1 h.bx).1).trans h.bx, (hb.block gp (Array.getElem?_eq_some_iff.1 h.pb).1).trans h.pb⟩
theorem UB.step (h : UB u w p mb al g a gp pk) (hu : UV u w' p mb al') (k : Keeps (fun i => i = mb) w w') : UB u w' p mb al' g a gp pk :=
  ⟨hu, blkU h.bx h.uv.bk (by intro es c e; cases e) k, blkU h.pb h.uv.bk (by intro es c e; cases e) k⟩
theorem UB.s17 {n : R3} (h : UB u w p mb al g a gp pk) (hn : w.heap[gn]? = some (.cells #[.int .i64 n.1, .int .i64 n.2.1, .int .i64 n.2.2] 145 (0, 0))) : w.cell? ⟨gn, 0, none⟩ = some (.int .i64 n.1) ∧ w.cell? ⟨gn, 1, none⟩ = some (.int .i64 n.2.1) ∧ w.cell? ⟨gn, 2, none⟩ = some (.int .i64 n.2.2) ∧ w.cell? ⟨g, 1, none⟩ = some (.int .i64 a.2.1) ∧ w.cell? ⟨g, 2, none⟩ = some (.int .i64 a.2.2.1) := by
  obtain ⟨a0, a1, a2, -⟩ := cells145 hn
  obtain ⟨_, b1, b2, _⟩ := h.bx.cells
  exact ⟨a0, a1, a2, b1, b2⟩
theorem UB.s19 (h : UB u w p mb al g a gp pk) : w.cell? ⟨gp, 0, none⟩ = some (.int .i64 pk.1) ∧ w.cell? ⟨gp, 1, none⟩ = some (.int .i64 pk.2.1) ∧ w.cell? ⟨gp, 2, none⟩ = some (.int .i64 pk.2.2) := by
  obtain ⟨a0, a1, a2, -⟩ := cells145 h.pb
  exact ⟨a0, a1, a2⟩
end
/-- The most that a container used. -/
def peakOf (al : UL) (k : Int × Int) : R3 := ((aget k al).getD z6).2
theorem peak_up (al : UL) (k j : Int × Int) (r : R3) : fits (peakOf al j) (peakOf (addA k r al) j) := by
  unfold peakOf addA
  by_cases h : j = k
  · subst h
    rw [aget_aset_same]
    exact fits_max_left _ _
  · rw [aget_aset_other h]
    unfold fits
    refine r3_ext ?_ ?_ ?_ <;> simp only [max3] <;> omega
theorem fits_low {n : R3} (h : In3 n) : fits (0, 0, 0) n := by
  unfold fits
  simp only [In3] at h
  refine r3_ext ?_ ?_ ?_ <;> simp only [max3] <;> omega
theorem fits_high {n : R3} (h : In3 n) : fits n (1099511627776, 1099511627776, 1099511627776) := by
  unfold fits
  simp only [In3] at h
  refine r3_ext ?_ ?_ ?_ <;> simp only [max3] <;> omega
theorem fitsT {a b : R3} (h : fits a b) (w : World) : Calls Try.prog 93 #[rv a, rv b] w fun e w' => e = .returned (.bool true) ∧ Below w.heap.size w w' := by
  have := fits_any a b w
  rwa [decide_eq_true h] at this
theorem gone_none (bx : Int) (al : UL) : ofU bx (al.filter fun r => !(r.1.1 == bx)) = (0, 0, 0) := by
  unfold ofU sumM
  rw [List.filter_filter, List.filter_eq_nil_iff.2 (by intro r _; cases h : (r.1.1 == bx) <;> simp [h])]
  rfl
def bnd17.T : Bool × List (List Nat × List Nat) := (true, [([], []), ([], []), ([0, 1], [0, 1]), ([2], [2]), ([3, 2], [3]), ([4], [4]), ([4], [4]), ([5, 6, 4, 4], [4, 5, 6]), ([7, 4], [4, 7]), ([4, 8], [4, 8]), ([9, 7], [9]), ([10], [10]), ([10], [10]), ([10], [10]), ([13, 10], [10, 13]), ([10], [10]), ([15, 10], [10, 15]), ([12, 14, 16, 10, 10], [10, 12, 14, 16]), ([11, 17, 10], [10, 11, 17]), ([10, 18], [10, 18]), ([19, 17], [19]), ([20], [20]), ([20], [20]), ([20], [20]), ([23, 20], [20, 23]), ([20], [20]), ([25, 20], [20, 25]), ([22, 24, 26, 20, 20], [20, 22, 24, 26]), ([21, 27, 27, 20], [20, 21, 27]), ([28, 20], [20, 28]), ([20, 29], [20, 29])])
def bnd17.B : List Nat := [0, 0, 3, 7, 15, 31, 31, 127, 255, 511, 1023, 2047, 2047, 2047, 10239, 2047, 34815, 129023, 262143, 524287, 1048575, 2097151, 2097151, 2097151, 10485759, 2097151, 35651583, 132120575, 268435455, 536870911, 1073741823]
theorem bnd17.tab : rtab .any (opsOf Try.f13 17) = bnd17.T := by kernel_rfl
theorem bnd17.bits : waitsOk bnd17.T.2 bnd17.B = true := by kernel_rfl
def bnd19.T : Bool × List (List Nat × List Nat) := (true, [([], []), ([], []), ([], []), ([], []), ([1, 2, 3], [1, 2, 3]), ([0, 4, 4], [0, 4]), ([5], [5])])
def bnd19.B : List Nat := [0, 0, 0, 0, 14, 31, 63]
theorem bnd19.tab : rtab .any (opsOf Try.f13 19) = bnd19.T := by kernel_rfl
theorem bnd19.bits : waitsOk bnd19.T.2 bnd19.B = true := by kernel_rfl
set_option maxRecDepth 100000 in
set_option maxHeartbeats 8000000 in
theorem bounds_any {w : World} {v0 : Value} {L : List AT} (h : Rz k147 w v0 L) (bx cx : Int) : Calls Try.prog 13 #[v0, .int .i64 bx, .int .i64 cx] w fun e w' => e = .returned (.bool true) ∧ Below w.heap.size w w' := by
  have HL := hid h
  obtain ⟨A, c, rfl, hlc, hC⟩ := h
  have hlen : (L.length : Int) ≤ 9223372036854775807 := by have := Kd.C_max hC; omega
  clear hC hlc
  have HW := hid (works_any w)
  go_enter Try.func13, Try.ntmps13
  go_wp2_with (first
    | (go_at_call 92; go_must (with_reducible refine HW.out.mono ?_); rintro e_ w1 ⟨rfl, b1⟩; have HB1 := hid b1; have HN := hid (new_uv w1); clear b1)
    | (go_at_call 79; go_must (with_reducible refine HN.out.mono ?_); rintro e_ w2 ⟨rfl, h2⟩; have H2 := hid h2; clear h2))
  obtain ⟨mb, hmb⟩ : ∃ mb, mb = w1.heap.size := ⟨_, rfl⟩
  obtain ⟨p, hp⟩ : ∃ p, p = w1.heap.size + 1 := ⟨_, rfl⟩
  rw [← hp]
  have hzz := HB1.out.size
  have H0 : Hid (UV w w2 p mb []) := hid (by rw [hp, hmb]; exact ⟨HB1.out.trans (H2.out.low.mono hzz), by omega, by omega, H2.out.bk, H2.out.gd⟩)
  clear H2 HN HW HB1 hp hmb hzz
  go_loopg [8] 100 (fun g s8 wr => ∃ (i : Nat) (al : UL), g = 100 - i ∧ i ≤ 100 ∧ i ≤ L.length ∧ s8 = .int .i64 i ∧ Hid (UV w wr p mb al) ∧ Hid (al.length ≤ i))
  case atStart => exact ⟨0, [], rfl, by omega, by omega, rfl, H0, hid (by simp)⟩
  case round =>
    clear H0
    obtain ⟨i, al, rfl, hi1, hi2, rfl, HV, HM⟩ := hrel
    by_cases hlen2 : i < L.length
    · by_cases hk100 : i < 100
      · obtain ⟨b', o', c', hva, hb, cs, hK, hc⟩ := HL.out.at_ (by decide) i hlen2
        obtain ⟨⟨kd, b, c1, r0, r1, r2⟩, ha⟩ : ∃ a, a = L[i] := ⟨_, rfl⟩
        rw [← ha] at hK
        obtain rfl := k147_open hK
        simp only [Value.slice.injEq] at hva
        obtain ⟨rfl, -, rfl⟩ := hva
        have hbw := HV.out.low
        have e6 : k147.sz = 6 := rfl
        rw [e6] at hc
        have d0 : wr.cell? ⟨b', o' + i * 6, none⟩ = some (.int .i64 kd) := (hbw.cell (p := ⟨b', o' + i * 6, none⟩) hb).trans (hc 0 _ rfl)
        have d1 : wr.cell? ⟨b', o' + i * 6 + 1, none⟩ = some (.int .i64 b) := (hbw.cell (p := ⟨b', o' + i * 6 + 1, none⟩) hb).trans (hc 1 _ rfl)
        have d2 : wr.cell? ⟨b', o' + i * 6 + 2, none⟩ = some (.int .i64 c1) := (hbw.cell (p := ⟨b', o' + i * 6 + 2, none⟩) hb).trans (hc 2 _ rfl)
        have d3 : wr.cell? ⟨b', o' + i * 6 + 3, none⟩ = some (.int .i64 r0) := (hbw.cell (p := ⟨b', o' + i * 6 + 3, none⟩) hb).trans (hc 3 _ rfl)
        have d4 : wr.cell? ⟨b', o' + i * 6 + 4, none⟩ = some (.int .i64 r1) := (hbw.cell (p := ⟨b', o' + i * 6 + 4, none⟩) hb).trans (hc 4 _ rfl)
        have d5 : wr.cell? ⟨b', o' + i * 6 + 5, none⟩ = some (.int .i64 r2) := (hbw.cell (p := ⟨b', o' + i * 6 + 5, none⟩) hb).trans (hc 5 _ rfl)
        have zw := hbw.size
        have hml := HM.out
        obtain ⟨⟨o0, o1, o2⟩, hpk⟩ : ∃ q, q = peakOf al (bx, cx) := ⟨_, rfl⟩
        have HV1 := hid (HV.out.alloc (.cells #[.int .i64 kd, .int .i64 b, .int .i64 c1, .int .i64 r0, .int .i64 r1, .int .i64 r2] 147))
        have HX1 := hid (show BxU (wr.alloc (.cells #[.int .i64 kd, .int .i64 b, .int .i64 c1, .int .i64 r0, .int .i64 r1, .int .i64 r2] 147)) wr.heap.size (kd, b, c1, r0, r1, r2) from heap_at _ _ _ rfl)
        have hcp := peak_any HV1.out.bk bx cx
        rw [show ((aget (bx, cx) al).getD z6).2 = (o0, o1, o2) from hpk.symm] at hcp
        unfold rv at hcp
        have HCP := hid hcp
        have HPK := hid hpk
        clear ha hK hc hbw hcp hpk
        go_upto_region 11 with (go_at_call 88; go_must (with_reducible refine HCP.out.mono ?_); rintro e_ w3 ⟨rfl, b3⟩; have HV3 := hid (HV1.out.later b3); have HX3 := hid (show BxU w3 wr.heap.size (kd, b, c1, r0, r1, r2) from (b3.block _ (Array.getElem?_eq_some_iff.1 HX1.out).1).trans HX1.out); clear b3)
        have HU3 : Hid (UB w (w3.alloc (.cells #[.int .i64 o0, .int .i64 o1, .int .i64 o2] 145)) p mb al wr.heap.size (kd, b, c1, r0, r1, r2) w3.heap.size (o0, o1, o2)) :=
          hid ⟨HV3.out.alloc _, (Below.heap_alloc _ _ _ (Array.getElem?_eq_some_iff.1 HX3.out).1).trans HX3.out, heap_at _ _ _ rfl⟩
        obtain ⟨W4, hW4⟩ : ∃ W4, W4 = w3.alloc (.cells #[.int .i64 o0, .int .i64 o1, .int .i64 o2] 145) := ⟨_, rfl⟩
        obtain ⟨g, hg⟩ : ∃ g, g = wr.heap.size := ⟨_, rfl⟩
        obtain ⟨gp, hgp⟩ : ∃ gp, gp = w3.heap.size := ⟨_, rfl⟩
        rw [← hW4, ← hg, ← hgp] at HU3 ⊢
        obtain ⟨x0, x1, x2, x3, x4, x5⟩ := HU3.out.bx.cells
        clear hW4 hg hgp HV1 HX1 HCP HV3 HX3 HV d0 d1 d2 d3 d4 d5
        by_cases hkd0 : kd = 0
        · subst hkd0
          have hca := HU3.out.uv.add b c1 (r0, r1, r2)
          obtain ⟨⟨⟨n0, n1, n2⟩, ⟨k0, k1, k2⟩⟩, hs⟩ : ∃ s, s = addS ((aget (b, c1) al).getD z6) (r0, r1, r2) := ⟨_, rfl⟩
          have hgd := z6_get HU3.out.uv.gd (b, c1)
          have hgood := addS_good hgd.1 hgd.2.1 (r0, r1, r2)
          have hup := peak_up al (b, c1) (bx, cx) (r0, r1, r2)
          rw [← HPK.out] at hup
          obtain ⟨⟨q0, q1, q2⟩, hq⟩ : ∃ q, q = peakOf (addA (b, c1) (r0, r1, r2) al) (bx, cx) := ⟨_, rfl⟩
          have hget : (aget (b, c1) (addA (b, c1) (r0, r1, r2) al)).getD z6 = ((n0, n1, n2), (k0, k1, k2)) := by unfold addA; rw [aget_aset_same, ← hs]; rfl
          have hln : (addA (b, c1) (r0, r1, r2) al).length ≤ al.length + 1 := aset_lenU _ _ _
          rw [← hs] at hca hgood
          rw [← hq] at hup
          obtain ⟨al', hal'⟩ : ∃ al', al' = addA (b, c1) (r0, r1, r2) al := ⟨_, rfl⟩
          rw [← hal'] at hca hget hln hq
          have E0 : ∀ W, (Op.equalIn 10000 145 (.agg #[.int .i64 n0, .int .i64 n1, .int .i64 n2]) (.agg #[.int .i64 n0, .int .i64 n1, .int .i64 n2])).run Try.prog W = .ok true W := fun W => by
            have := eq145 W (n0, n1, n2) (n0, n1, n2)
            rwa [decide_eq_true rfl] at this
          have hf1 := fun W => fitsT (fits_low hgood.1) W
          have hf2 := fun W => fitsT (fits_high hgood.1) W
          have hf3 := fun W => fitsT hgood.2.2 W
          have hf4 := fun W => fitsT hup W
          have hge : ∀ W, UBk W p mb al' → Calls Try.prog 87 #[.pointer (some ⟨p, 0, none⟩), .int .i64 b, .int .i64 c1] W fun e w' => e = .returned (rv (n0, n1, n2)) ∧ Below W.heap.size W w' := fun W hW => by
            have := get_any hW b c1
            rwa [hget] at this
          have hpe : ∀ W, UBk W p mb al' → Calls Try.prog 88 #[.pointer (some ⟨p, 0, none⟩), .int .i64 b, .int .i64 c1] W fun e w' => e = .returned (rv (k0, k1, k2)) ∧ Below W.heap.size W w' := fun W hW => by
            have := peak_any hW b c1
            rwa [hget] at this
          have hp2 : ∀ W, UBk W p mb al' → Calls Try.prog 88 #[.pointer (some ⟨p, 0, none⟩), .int .i64 bx, .int .i64 cx] W fun e w' => e = .returned (rv (q0, q1, q2)) ∧ Below W.heap.size W w' := fun W hW => by
            have := peak_any hW bx cx
            rwa [show ((aget (bx, cx) al').getD z6).2 = (q0, q1, q2) from hq.symm] at this
          unfold rv at hca hf1 hf2 hf3 hf4 hge hpe hp2
          have HCA := hid hca
          have HF1 := hid hf1
          have HF2 := hid hf2
          have HF3 := hid hf3
          have HF4 := hid hf4
          have HGET := hid hge
          have HPEK := hid hpe
          have HPK2 := hid hp2
          clear hca hgd hgood hup hget hq hs hal' hf1 hf2 hf3 hf4 hge hpe hp2
          go_upto_region 17 with (go_at_call 81; go_must (with_reducible refine HCA.out.mono ?_); rintro e_ w5 ⟨rfl, h5, k5⟩; have HU5 := hid (HU3.out.step h5 k5); clear h5 k5)
          obtain ⟨W6, hW6⟩ : ∃ W6, W6 = w5.alloc (.cells #[.int .i64 n0, .int .i64 n1, .int .i64 n2] 145) := ⟨_, rfl⟩
          obtain ⟨gn, hgn⟩ : ∃ gn, gn = w5.heap.size := ⟨_, rfl⟩
          have hU6 := HU5.out.later ((Below.refl _ w5).alloc (Nat.le_refl _) (.cells #[.int .i64 n0, .int .i64 n1, .int .i64 n2] 145))
          have hn6 : (w5.alloc (.cells #[.int .i64 n0, .int .i64 n1, .int .i64 n2] 145)).heap[w5.heap.size]? = some (.cells #[.int .i64 n0, .int .i64 n1, .int .i64 n2] 145 (0, 0)) := heap_at _ _ _ rfl
          rw [← hW6] at hU6
          rw [← hW6, ← hgn] at hn6
          rw [← hW6, ← hgn]
          have HU := hid (hU6.later (Below.refl _ W6).drew)
          have HNB := hid (show W6.drew.heap[gn]? = _ from hn6)
          clear hU6 hn6 hW6 hgn HU5 HU3 HCA x0 x1 x2 x3 x4 x5
          refine start_ (n := 31) (S := fun V : World => V.cell? ⟨gn, 0, none⟩ = some (.int .i64 n0) ∧ V.cell? ⟨gn, 1, none⟩ = some (.int .i64 n1) ∧ V.cell? ⟨gn, 2, none⟩ = some (.int .i64 n2) ∧ V.cell? ⟨g, 1, none⟩ = some (.int .i64 b) ∧ V.cell? ⟨g, 2, none⟩ = some (.int .i64 c1)) (ds := []) #[false, false, false, false, false, false, false, false, false, false, false, false, false, false, false, false, false, false, false, false, false, false, false, false, false, false, false, false, false, false, false] (by kernel_rfl) rfl rfl (HU.out.s17 (gn := gn) (n := (n0, n1, n2)) HNB.out) (fun hHeld => ?_); refine with_tabW bnd17.tab bnd17.bits (fun HT_ HW_ => ?_)
          refine pure_ (i := 0) (N := some 64) (v := ?_) (a' := ?_) #[true, false, false, false, false, false, false, false, false, false, false, false, false, false, false, false, false, false, false, false, false, false, false, false, false, false, false, false, false, false, false] rfl rfl (any_of HT_.out (by kernel_rfl)) (fun _ _ _ h => h) (Or.inl ⟨by rfl, ?_⟩) ?_ ?_
          rotate_left
          · intro w'
            go_simp
            with_reducible rfl
          rotate_left
          · simp only [Act.put, List.setIfInBounds_toArray, List.set_cons_zero, List.set_cons_succ, i64_w, i32_w]
            rfl
          refine take_ (i := 1) (N := some 65) (v := ?_) (a' := ?_) #[true, true, false, false, false, false, false, false, false, false, false, false, false, false, false, false, false, false, false, false, false, false, false, false, false, false, false, false, false, false, false] rfl rfl (take_ofW HT_.out HW_.out (by kernel_rfl)) (fun _ _ _ h => h) (Or.inl ⟨by rfl, ?_⟩) hHeld ?_ ?_
          rotate_left
          · rintro w' ⟨s0, s1, s2, s3, s4⟩
            go_simp
            with_reducible rfl
          rotate_left
          · simp only [Act.put, List.setIfInBounds_toArray, List.set_cons_zero, List.set_cons_succ, i64_w, i32_w]
            rfl
          refine one_ (i := 2) (N := some 66) #[true, true, true, false, false, false, false, false, false, false, false, false, false, false, false, false, false, false, false, false, false, false, false, false, false, false, false, false, false, false, false] rfl rfl (one_of HT_.out (by kernel_rfl)) (by decide) (fun K hK => ?_)
          refine goes_ Try.func93 (by kernel_rfl) rfl #[.agg #[.int .i64 0, .int .i64 0, .int .i64 0], .agg #[.int .i64 n0, .int .i64 n1, .int .i64 n2]] (by rfl) rfl rfl (by (try simp only [List.map_toArray, List.map_cons, List.map_nil]); first | done | rfl) ?_
          with_reducible refine (HF1.out _).mono ?_
          rintro e_ V2 ⟨rfl, hb⟩
          refine ⟨_, rfl, ?_⟩
          have HUN := hid (HU.out.later hb)
          have HBN := hid ((hb.block gn (Array.getElem?_eq_some_iff.1 HNB.out).1).trans HNB.out)
          clear HU HNB hb
          have HU := HUN
          have HNB := HBN
          clear HUN HBN
          refine hK.out _ _ (HU.out.s17 (gn := gn) (n := (n0, n1, n2)) HNB.out) (fun hHeld => ?_)
          clear hK K
          refine norm_ (a' := ?_) ?_ ?_
          rotate_left
          · show Act.put _ (some 66) _ = _
            simp only [Act.put, List.setIfInBounds_toArray, List.set_cons_zero, List.set_cons_succ, i64_w, i32_w]
            rfl
          refine pure_ (i := 3) (N := some 67) (v := ?_) (a' := ?_) #[true, true, true, true, false, false, false, false, false, false, false, false, false, false, false, false, false, false, false, false, false, false, false, false, false, false, false, false, false, false, false] rfl rfl (any_of HT_.out (by kernel_rfl)) (fun _ _ _ h => h) (Or.inl ⟨by rfl, ?_⟩) ?_ ?_
          rotate_left
          · intro w'
            go_simp
            with_reducible rfl
          rotate_left
          · simp only [Act.put, List.setIfInBounds_toArray, List.set_cons_zero, List.set_cons_succ, i64_w, i32_w]
            rfl
          refine pure_ (i := 4) (N := some 68) (v := ?_) (a' := ?_) #[true, true, true, true, true, false, false, false, false, false, false, false, false, false, false, false, false, false, false, false, false, false, false, false, false, false, false, false, false, false, false] rfl rfl (any_of HT_.out (by kernel_rfl)) (fun _ _ _ h => h) (Or.inl ⟨by rfl, ?_⟩) ?_ ?_
          rotate_left
          · intro w'
            go_simp
            with_reducible rfl
          rotate_left
          · simp only [Act.put, List.setIfInBounds_toArray, List.set_cons_zero, List.set_cons_succ, i64_w, i32_w]
            rfl
          refine pure_ (i := 6) (N := some 70) (v := ?_) (a' := ?_) #[true, true, true, true, true, false, true, false, false, false, false, false, false, false, false, false, false, false, false, false, false, false, false, false, false, false, false, false, false, false, false] rfl rfl (any_of HT_.out (by kernel_rfl)) (fun _ _ _ h => h) (Or.inl ⟨by rfl, ?_⟩) ?_ ?_
          rotate_left
          · intro w'
            go_simp
            with_reducible rfl
          rotate_left
          · simp only [Act.put, List.setIfInBounds_toArray, List.set_cons_zero, List.set_cons_succ, i64_w, i32_w]
            rfl
          refine take_ (i := 5) (N := some 69) (v := ?_) (a' := ?_) #[true, true, true, true, true, true, true, false, false, false, false, false, false, false, false, false, false, false, false, false, false, false, false, false, false, false, false, false, false, false, false] rfl rfl (take_ofW HT_.out HW_.out (by kernel_rfl)) (fun _ _ _ h => h) (Or.inl ⟨by rfl, ?_⟩) hHeld ?_ ?_
          rotate_left
          · rintro w' ⟨s0, s1, s2, s3, s4⟩
            go_simp
            with_reducible rfl
          rotate_left
          · simp only [Act.put, List.setIfInBounds_toArray, List.set_cons_zero, List.set_cons_succ, i64_w, i32_w]
            rfl
          refine one_ (i := 7) (N := some 71) #[true, true, true, true, true, true, true, true, false, false, false, false, false, false, false, false, false, false, false, false, false, false, false, false, false, false, false, false, false, false, false] rfl rfl (one_of HT_.out (by kernel_rfl)) (by decide) (fun K hK => ?_)
          refine goes_ Try.func93 (by kernel_rfl) rfl #[.agg #[.int .i64 n0, .int .i64 n1, .int .i64 n2], .agg #[.int .i64 1099511627776, .int .i64 1099511627776, .int .i64 1099511627776]] (by rfl) rfl rfl (by (try simp only [List.map_toArray, List.map_cons, List.map_nil]); first | done | rfl) ?_
          with_reducible refine (HF2.out _).mono ?_
          rintro e_ V7 ⟨rfl, hb⟩
          refine ⟨_, rfl, ?_⟩
          have HUN := hid (HU.out.later hb)
          have HBN := hid ((hb.block gn (Array.getElem?_eq_some_iff.1 HNB.out).1).trans HNB.out)
          clear HU HNB hb
          have HU := HUN
          have HNB := HBN
          clear HUN HBN
          refine hK.out _ _ (HU.out.s17 (gn := gn) (n := (n0, n1, n2)) HNB.out) (fun hHeld => ?_)
          clear hK K
          refine norm_ (a' := ?_) ?_ ?_
          rotate_left
          · show Act.put _ (some 71) _ = _
            simp only [Act.put, List.setIfInBounds_toArray, List.set_cons_zero, List.set_cons_succ, i64_w, i32_w]
            rfl
          refine pure_ (i := 8) (N := some 72) (v := ?_) (a' := ?_) #[true, true, true, true, true, true, true, true, true, false, false, false, false, false, false, false, false, false, false, false, false, false, false, false, false, false, false, false, false, false, false] rfl rfl (any_of HT_.out (by kernel_rfl)) (fun _ _ _ h => h) (Or.inl ⟨by rfl, ?_⟩) ?_ ?_
          rotate_left
          · intro w'
            go_simp
            with_reducible rfl
          rotate_left
          · simp only [Act.put, List.setIfInBounds_toArray, List.set_cons_zero, List.set_cons_succ, i64_w, i32_w]
            rfl
          refine pure_ (i := 9) (N := some 73) (v := ?_) (a' := ?_) #[true, true, true, true, true, true, true, true, true, true, false, false, false, false, false, false, false, false, false, false, false, false, false, false, false, false, false, false, false, false, false] rfl rfl (any_of HT_.out (by kernel_rfl)) (fun _ _ _ h => h) (Or.inl ⟨by rfl, ?_⟩) ?_ ?_
          rotate_left
          · intro w'
            go_simp
            with_reducible rfl
          rotate_left
          · simp only [Act.put, List.setIfInBounds_toArray, List.set_cons_zero, List.set_cons_succ, i64_w, i32_w]
            rfl
          refine pure_ (i := 10) (N := some 74) (v := ?_) (a' := ?_) #[true, true, true, true, true, true, true, true, true, true, true, false, false, false, false, false, false, false, false, false, false, false, false, false, false, false, false, false, false, false, false] rfl rfl (any_of HT_.out (by kernel_rfl)) (fun _ _ _ h => h) (Or.inl ⟨by rfl, ?_⟩) ?_ ?_
          rotate_left
          · intro w'
            go_simp
            with_reducible rfl
          rotate_left
          · simp only [Act.put, List.setIfInBounds_toArray, List.set_cons_zero, List.set_cons_succ, i64_w, i32_w]
            rfl
          refine pure_ (i := 12) (N := some 76) (v := ?_) (a' := ?_) #[true, true, true, true, true, true, true, true, true, true, true, false, true, false, false, false, false, false, false, false, false, false, false, false, false, false, false, false, false, false, false] rfl rfl (any_of HT_.out (by kernel_rfl)) (fun _ _ _ h => h) (Or.inl ⟨by rfl, ?_⟩) ?_ ?_
          rotate_left
          · intro w'
            go_simp
            with_reducible rfl
          rotate_left
          · simp only [Act.put, List.setIfInBounds_toArray, List.set_cons_zero, List.set_cons_succ, i64_w, i32_w]
            rfl
          refine pure_ (i := 13) (N := some 77) (v := ?_) (a' := ?_) #[true, true, true, true, true, true, true, true, true, true, true, false, true, true, false, false, false, false, false, false, false, false, false, false, false, false, false, false, false, false, false] rfl rfl (any_of HT_.out (by kernel_rfl)) (fun _ _ _ h => h) (Or.inl ⟨by rfl, ?_⟩) ?_ ?_
          rotate_left
          · intro w'
            go_simp
            with_reducible rfl
          rotate_left
          · simp only [Act.put, List.setIfInBounds_toArray, List.set_cons_zero, List.set_cons_succ, i64_w, i32_w]
            rfl
          refine pure_ (i := 15) (N := some 79) (v := ?_) (a' := ?_) #[true, true, true, true, true, true, true, true, true, true, true, false, true, true, false, true, false, false, false, false, false, false, false, false, false, false, false, false, false, false, false] rfl rfl (any_of HT_.out (by kernel_rfl)) (fun _ _ _ h => h) (Or.inl ⟨by rfl, ?_⟩) ?_ ?_
          rotate_left
          · intro w'
            go_simp
            with_reducible rfl
          rotate_left
          · simp only [Act.put, List.setIfInBounds_toArray, List.set_cons_zero, List.set_cons_succ, i64_w, i32_w]
            rfl
          refine take_ (i := 11) (N := some 75) (v := ?_) (a' := ?_) #[true, true, true, true, true, true, true, true, true, true, true, true, true, true, false, true, false, false, false, false, false, false, false, false, false, false, false, false, false, false, false] rfl rfl (take_ofW HT_.out HW_.out (by kernel_rfl)) (fun _ _ _ h => h) (Or.inl ⟨by rfl, ?_⟩) hHeld ?_ ?_
          rotate_left
          · rintro w' ⟨s0, s1, s2, s3, s4⟩
            go_simp
            with_reducible rfl
          rotate_left
          · simp only [Act.put, List.setIfInBounds_toArray, List.set_cons_zero, List.set_cons_succ, i64_w, i32_w]
            rfl
          refine take_ (i := 14) (N := some 78) (v := ?_) (a' := ?_) #[true, true, true, true, true, true, true, true, true, true, true, true, true, true, true, true, false, false, false, false, false, false, false, false, false, false, false, false, false, false, false] rfl rfl (take_ofW HT_.out HW_.out (by kernel_rfl)) (fun _ _ _ h => h) (Or.inl ⟨by rfl, ?_⟩) hHeld ?_ ?_
          rotate_left
          · rintro w' ⟨s0, s1, s2, s3, s4⟩
            go_simp
            with_reducible rfl
          rotate_left
          · simp only [Act.put, List.setIfInBounds_toArray, List.set_cons_zero, List.set_cons_succ, i64_w, i32_w]
            rfl
          refine take_ (i := 16) (N := some 80) (v := ?_) (a' := ?_) #[true, true, true, true, true, true, true, true, true, true, true, true, true, true, true, true, true, false, false, false, false, false, false, false, false, false, false, false, false, false, false] rfl rfl (take_ofW HT_.out HW_.out (by kernel_rfl)) (fun _ _ _ h => h) (Or.inl ⟨by rfl, ?_⟩) hHeld ?_ ?_
          rotate_left
          · rintro w' ⟨s0, s1, s2, s3, s4⟩
            go_simp
            with_reducible rfl
          rotate_left
          · simp only [Act.put, List.setIfInBounds_toArray, List.set_cons_zero, List.set_cons_succ, i64_w, i32_w]
            rfl
          refine one_ (i := 17) (N := some 81) #[true, true, true, true, true, true, true, true, true, true, true, true, true, true, true, true, true, true, false, false, false, false, false, false, false, false, false, false, false, false, false] rfl rfl (one_of HT_.out (by kernel_rfl)) (by decide) (fun K hK => ?_)
          refine goes_ Try.func87 (by kernel_rfl) rfl #[.pointer (some ⟨p, 0, none⟩), .int .i64 b, .int .i64 c1] (by rfl) rfl rfl (by (try simp only [List.map_toArray, List.map_cons, List.map_nil]); first | done | rfl) ?_
          with_reducible refine (HGET.out _ HU.out.uv.bk).mono ?_
          rintro e_ V17 ⟨rfl, hb⟩
          refine ⟨_, rfl, ?_⟩
          have HUN := hid (HU.out.later hb)
          have HBN := hid ((hb.block gn (Array.getElem?_eq_some_iff.1 HNB.out).1).trans HNB.out)
          clear HU HNB hb
          have HU := HUN
          have HNB := HBN
          clear HUN HBN
          refine hK.out _ _ (HU.out.s17 (gn := gn) (n := (n0, n1, n2)) HNB.out) (fun hHeld => ?_)
          clear hK K
          refine norm_ (a' := ?_) ?_ ?_
          rotate_left
          · show Act.put _ (some 81) _ = _
            simp only [Act.put, List.setIfInBounds_toArray, List.set_cons_zero, List.set_cons_succ, i64_w, i32_w]
            rfl
          refine pure_ (i := 18) (N := some 82) (v := ?_) (a' := ?_) #[true, true, true, true, true, true, true, true, true, true, true, true, true, true, true, true, true, true, true, false, false, false, false, false, false, false, false, false, false, false, false] rfl rfl (any_of HT_.out (by kernel_rfl)) (fun _ _ _ h => h) (Or.inl ⟨by rfl, ?_⟩) ?_ ?_
          rotate_left
          · intro w'
            go_simp
            with_reducible rfl
          rotate_left
          · simp only [Act.put, List.setIfInBounds_toArray, List.set_cons_zero, List.set_cons_succ, i64_w, i32_w]
            rfl
          refine pure_ (i := 19) (N := some 83) (v := ?_) (a' := ?_) #[true, true, true, true, true, true, true, true, true, true, true, true, true, true, true, true, true, true, true, true, false, false, false, false, false, false, false, false, false, false, false] rfl rfl (any_of HT_.out (by kernel_rfl)) (fun _ _ _ h => h) (Or.inl ⟨by rfl, ?_⟩) ?_ ?_
          rotate_left
          · intro w'
            go_simp
            with_reducible rfl
          rotate_left
          · simp only [Act.put, List.setIfInBounds_toArray, List.set_cons_zero, List.set_cons_succ, i64_w, i32_w]
            rfl
          refine pure_ (i := 20) (N := some 84) (v := ?_) (a' := ?_) #[true, true, true, true, true, true, true, true, true, true, true, true, true, true, true, true, true, true, true, true, true, false, false, false, false, false, false, false, false, false, false] rfl rfl (any_of HT_.out (by kernel_rfl)) (fun _ _ _ h => h) (Or.inl ⟨by rfl, ?_⟩) ?_ ?_
          rotate_left
          · intro w'
            go_simp
            with_reducible rfl
          rotate_left
          · simp only [Act.put, List.setIfInBounds_toArray, List.set_cons_zero, List.set_cons_succ, i64_w, i32_w]
            rfl
          refine pure_ (i := 22) (N := some 86) (v := ?_) (a' := ?_) #[true, true, true, true, true, true, true, true, true, true, true, true, true, true, true, true, true, true, true, true, true, false, true, false, false, false, false, false, false, false, false] rfl rfl (any_of HT_.out (by kernel_rfl)) (fun _ _ _ h => h) (Or.inl ⟨by rfl, ?_⟩) ?_ ?_
          rotate_left
          · intro w'
            go_simp
            with_reducible rfl
          rotate_left
          · simp only [Act.put, List.setIfInBounds_toArray, List.set_cons_zero, List.set_cons_succ, i64_w, i32_w]
            rfl
          refine pure_ (i := 23) (N := some 87) (v := ?_) (a' := ?_) #[true, true, true, true, true, true, true, true, true, true, true, true, true, true, true, true, true, true, true, true, true, false, true, true, false, false, false, false, false, false, false] rfl rfl (any_of HT_.out (by kernel_rfl)) (fun _ _ _ h => h) (Or.inl ⟨by rfl, ?_⟩) ?_ ?_
          rotate_left
          · intro w'
            go_simp
            with_reducible rfl
          rotate_left
          · simp only [Act.put, List.setIfInBounds_toArray, List.set_cons_zero, List.set_cons_succ, i64_w, i32_w]
            rfl
          refine pure_ (i := 25) (N := some 89) (v := ?_) (a' := ?_) #[true, true, true, true, true, true, true, true, true, true, true, true, true, true, true, true, true, true, true, true, true, false, true, true, false, true, false, false, false, false, false] rfl rfl (any_of HT_.out (by kernel_rfl)) (fun _ _ _ h => h) (Or.inl ⟨by rfl, ?_⟩) ?_ ?_
          rotate_left
          · intro w'
            go_simp
            with_reducible rfl
          rotate_left
          · simp only [Act.put, List.setIfInBounds_toArray, List.set_cons_zero, List.set_cons_succ, i64_w, i32_w]
            rfl
          refine take_ (i := 21) (N := some 85) (v := ?_) (a' := ?_) #[true, true, true, true, true, true, true, true, true, true, true, true, true, true, true, true, true, true, true, true, true, true, true, true, false, true, false, false, false, false, false] rfl rfl (take_ofW HT_.out HW_.out (by kernel_rfl)) (fun _ _ _ h => h) (Or.inl ⟨by rfl, ?_⟩) hHeld ?_ ?_
          rotate_left
          · rintro w' ⟨s0, s1, s2, s3, s4⟩
            go_simp
            with_reducible rfl
          rotate_left
          · simp only [Act.put, List.setIfInBounds_toArray, List.set_cons_zero, List.set_cons_succ, i64_w, i32_w]
            rfl
          refine take_ (i := 24) (N := some 88) (v := ?_) (a' := ?_) #[true, true, true, true, true, true, true, true, true, true, true, true, true, true, true, true, true, true, true, true, true, true, true, true, true, true, false, false, false, false, false] rfl rfl (take_ofW HT_.out HW_.out (by kernel_rfl)) (fun _ _ _ h => h) (Or.inl ⟨by rfl, ?_⟩) hHeld ?_ ?_
          rotate_left
          · rintro w' ⟨s0, s1, s2, s3, s4⟩
            go_simp
            with_reducible rfl
          rotate_left
          · simp only [Act.put, List.setIfInBounds_toArray, List.set_cons_zero, List.set_cons_succ, i64_w, i32_w]
            rfl
          refine take_ (i := 26) (N := some 90) (v := ?_) (a' := ?_) #[true, true, true, true, true, true, true, true, true, true, true, true, true, true, true, true, true, true, true, true, true, true, true, true, true, true, true, false, false, false, false] rfl rfl (take_ofW HT_.out HW_.out (by kernel_rfl)) (fun _ _ _ h => h) (Or.inl ⟨by rfl, ?_⟩) hHeld ?_ ?_
          rotate_left
          · rintro w' ⟨s0, s1, s2, s3, s4⟩
            go_simp
            with_reducible rfl
          rotate_left
          · simp only [Act.put, List.setIfInBounds_toArray, List.set_cons_zero, List.set_cons_succ, i64_w, i32_w]
            rfl
          refine one_ (i := 27) (N := some 91) #[true, true, true, true, true, true, true, true, true, true, true, true, true, true, true, true, true, true, true, true, true, true, true, true, true, true, true, true, false, false, false] rfl rfl (one_of HT_.out (by kernel_rfl)) (by decide) (fun K hK => ?_)
          refine goes_ Try.func88 (by kernel_rfl) rfl #[.pointer (some ⟨p, 0, none⟩), .int .i64 b, .int .i64 c1] (by rfl) rfl rfl (by (try simp only [List.map_toArray, List.map_cons, List.map_nil]); first | done | rfl) ?_
          with_reducible refine (HPEK.out _ HU.out.uv.bk).mono ?_
          rintro e_ V27 ⟨rfl, hb⟩
          refine ⟨_, rfl, ?_⟩
          have HUN := hid (HU.out.later hb)
          have HBN := hid ((hb.block gn (Array.getElem?_eq_some_iff.1 HNB.out).1).trans HNB.out)
          clear HU HNB hb
          have HU := HUN
          have HNB := HBN
          clear HUN HBN
          refine hK.out _ _ (HU.out.s17 (gn := gn) (n := (n0, n1, n2)) HNB.out) (fun hHeld => ?_)
          clear hK K
          refine norm_ (a' := ?_) ?_ ?_
          rotate_left
          · show Act.put _ (some 91) _ = _
            simp only [Act.put, List.setIfInBounds_toArray, List.set_cons_zero, List.set_cons_succ, i64_w, i32_w]
            rfl
          refine one_ (i := 28) (N := some 92) #[true, true, true, true, true, true, true, true, true, true, true, true, true, true, true, true, true, true, true, true, true, true, true, true, true, true, true, true, true, false, false] rfl rfl (one_of HT_.out (by kernel_rfl)) (by decide) (fun K hK => ?_)
          refine goes_ Try.func93 (by kernel_rfl) rfl #[.agg #[.int .i64 n0, .int .i64 n1, .int .i64 n2], .agg #[.int .i64 k0, .int .i64 k1, .int .i64 k2]] (by rfl) rfl rfl (by (try simp only [List.map_toArray, List.map_cons, List.map_nil]); first | done | rfl) ?_
          with_reducible refine (HF3.out _).mono ?_
          rintro e_ V28 ⟨rfl, hb⟩
          refine ⟨_, rfl, ?_⟩
          have HUN := hid (HU.out.later hb)
          have HBN := hid ((hb.block gn (Array.getElem?_eq_some_iff.1 HNB.out).1).trans HNB.out)
          clear HU HNB hb
          have HU := HUN
          have HNB := HBN
          clear HUN HBN
          refine hK.out _ _ (HU.out.s17 (gn := gn) (n := (n0, n1, n2)) HNB.out) (fun hHeld => ?_)
          clear hK K
          refine norm_ (a' := ?_) ?_ ?_
          rotate_left
          · show Act.put _ (some 92) _ = _
            simp only [Act.put, List.setIfInBounds_toArray, List.set_cons_zero, List.set_cons_succ, i64_w, i32_w]
            rfl
          refine pure_ (i := 29) (N := some 93) (v := ?_) (a' := ?_) #[true, true, true, true, true, true, true, true, true, true, true, true, true, true, true, true, true, true, true, true, true, true, true, true, true, true, true, true, true, true, false] rfl rfl (any_of HT_.out (by kernel_rfl)) (fun _ _ _ h => h) (Or.inl ⟨by rfl, ?_⟩) ?_ ?_
          rotate_left
          · intro w'
            go_simp
            with_reducible rfl
          rotate_left
          · simp only [Act.put, List.setIfInBounds_toArray, List.set_cons_zero, List.set_cons_succ, i64_w, i32_w]
            rfl
          refine pure_ (i := 30) (N := some 94) (v := ?_) (a' := ?_) #[true, true, true, true, true, true, true, true, true, true, true, true, true, true, true, true, true, true, true, true, true, true, true, true, true, true, true, true, true, true, true] rfl rfl (any_of HT_.out (by kernel_rfl)) (fun _ _ _ h => h) (Or.inl ⟨by rfl, ?_⟩) ?_ ?_
          rotate_left
          · intro w'
            go_simp
            with_reducible rfl
          rotate_left
          · simp only [Act.put, List.setIfInBounds_toArray, List.set_cons_zero, List.set_cons_succ, i64_w, i32_w]
            rfl
          refine done_ (done_of HT_.out (by kernel_rfl)) ?_
          go_upto_region 19 with fail
          have HUN := hid (HU.out.later (Below.refl _ _).drew)
          have HBN := hid (show (World.drew _).heap[gn]? = _ from HNB.out)
          clear HU HNB
          have HU := HUN
          have HNB := HBN
          clear HUN HBN
          refine start_ (n := 7) (S := fun V : World => V.cell? ⟨gp, 0, none⟩ = some (.int .i64 o0) ∧ V.cell? ⟨gp, 1, none⟩ = some (.int .i64 o1) ∧ V.cell? ⟨gp, 2, none⟩ = some (.int .i64 o2)) (ds := []) #[false, false, false, false, false, false, false] (by kernel_rfl) rfl rfl HU.out.s19 (fun hHeld => ?_); refine with_tabW bnd19.tab bnd19.bits (fun HT_ HW_ => ?_)
          refine pure_ (i := 1) (N := some 96) (v := ?_) (a' := ?_) #[false, true, false, false, false, false, false] rfl rfl (any_of HT_.out (by kernel_rfl)) (fun _ _ _ h => h) (Or.inl ⟨by rfl, ?_⟩) ?_ ?_
          rotate_left
          · intro w'
            go_simp
            with_reducible rfl
          rotate_left
          · simp only [Act.put, List.setIfInBounds_toArray, List.set_cons_zero, List.set_cons_succ, i64_w, i32_w]
            rfl
          refine pure_ (i := 2) (N := some 97) (v := ?_) (a' := ?_) #[false, true, true, false, false, false, false] rfl rfl (any_of HT_.out (by kernel_rfl)) (fun _ _ _ h => h) (Or.inl ⟨by rfl, ?_⟩) ?_ ?_
          rotate_left
          · intro w'
            go_simp
            with_reducible rfl
          rotate_left
          · simp only [Act.put, List.setIfInBounds_toArray, List.set_cons_zero, List.set_cons_succ, i64_w, i32_w]
            rfl
          refine pure_ (i := 3) (N := some 98) (v := ?_) (a' := ?_) #[false, true, true, true, false, false, false] rfl rfl (any_of HT_.out (by kernel_rfl)) (fun _ _ _ h => h) (Or.inl ⟨by rfl, ?_⟩) ?_ ?_
          rotate_left
          · intro w'
            go_simp
            with_reducible rfl
          rotate_left
          · simp only [Act.put, List.setIfInBounds_toArray, List.set_cons_zero, List.set_cons_succ, i64_w, i32_w]
            rfl
          refine take_ (i := 0) (N := some 95) (v := ?_) (a' := ?_) #[true, true, true, true, false, false, false] rfl rfl (take_ofW HT_.out HW_.out (by kernel_rfl)) (fun _ _ _ h => h) (Or.inl ⟨by rfl, ?_⟩) hHeld ?_ ?_
          rotate_left
          · rintro w' ⟨s0, s1, s2⟩
            go_simp
            with_reducible rfl
          rotate_left
          · simp only [Act.put, List.setIfInBounds_toArray, List.set_cons_zero, List.set_cons_succ, i64_w, i32_w]
            rfl
          refine one_ (i := 4) (N := some 99) #[true, true, true, true, true, false, false] rfl rfl (one_of HT_.out (by kernel_rfl)) (by decide) (fun K hK => ?_)
          refine goes_ Try.func88 (by kernel_rfl) rfl #[.pointer (some ⟨p, 0, none⟩), .int .i64 bx, .int .i64 cx] (by rfl) rfl rfl (by (try simp only [List.map_toArray, List.map_cons, List.map_nil]); first | done | rfl) ?_
          with_reducible refine (HPK2.out _ HU.out.uv.bk).mono ?_
          rintro e_ V4 ⟨rfl, hb⟩
          refine ⟨_, rfl, ?_⟩
          have HUN := hid (HU.out.later hb)
          have HBN := hid ((hb.block gn (Array.getElem?_eq_some_iff.1 HNB.out).1).trans HNB.out)
          clear HU HNB hb
          have HU := HUN
          have HNB := HBN
          clear HUN HBN
          refine hK.out _ _ HU.out.s19 (fun hHeld => ?_)
          clear hK K
          refine norm_ (a' := ?_) ?_ ?_
          rotate_left
          · show Act.put _ (some 99) _ = _
            simp only [Act.put, List.setIfInBounds_toArray, List.set_cons_zero, List.set_cons_succ, i64_w, i32_w]
            rfl
          refine one_ (i := 5) (N := some 100) #[true, true, true, true, true, true, false] rfl rfl (one_of HT_.out (by kernel_rfl)) (by decide) (fun K hK => ?_)
          refine goes_ Try.func93 (by kernel_rfl) rfl #[.agg #[.int .i64 o0, .int .i64 o1, .int .i64 o2], .agg #[.int .i64 q0, .int .i64 q1, .int .i64 q2]] (by rfl) rfl rfl (by (try simp only [List.map_toArray, List.map_cons, List.map_nil]); first | done | rfl) ?_
          with_reducible refine (HF4.out _).mono ?_
          rintro e_ V5 ⟨rfl, hb⟩
          refine ⟨_, rfl, ?_⟩
          have HUN := hid (HU.out.later hb)
          have HBN := hid ((hb.block gn (Array.getElem?_eq_some_iff.1 HNB.out).1).trans HNB.out)
          clear HU HNB hb
          have HU := HUN
          have HNB := HBN
          clear HUN HBN
          refine hK.out _ _ HU.out.s19 (fun hHeld => ?_)
          clear hK K
          refine norm_ (a' := ?_) ?_ ?_
          rotate_left
          · show Act.put _ (some 100) _ = _
            simp only [Act.put, List.setIfInBounds_toArray, List.set_cons_zero, List.set_cons_succ, i64_w, i32_w]
            rfl
          refine pure_ (i := 6) (N := some 101) (v := ?_) (a' := ?_) #[true, true, true, true, true, true, true] rfl rfl (any_of HT_.out (by kernel_rfl)) (fun _ _ _ h => h) (Or.inl ⟨by rfl, ?_⟩) ?_ ?_
          rotate_left
          · intro w'
            go_simp
            with_reducible rfl
          rotate_left
          · simp only [Act.put, List.setIfInBounds_toArray, List.set_cons_zero, List.set_cons_succ, i64_w, i32_w]
            rfl
          refine done_ (done_of HT_.out (by kernel_rfl)) ?_
          go_wp2 
          go_roundg (100 - (i + 1))
          case measure => omega
          case rel => exact ⟨i + 1, al', rfl, by omega, by omega, by go_num, hid HU.out.uv, hid (by omega)⟩
        · by_cases hkd1 : kd = 1
          · subst hkd1
            obtain ⟨al', hal'⟩ : ∃ al', al' = adel (b, c1) al := ⟨_, rfl⟩
            have hnd := HU3.out.uv.bk.nd
            have hln : al'.length ≤ al.length := by rw [hal']; exact adel_lenU _ hnd
            have hno : aget (b, c1) al' = none := by rw [hal']; exact aget_adel_same _ hnd
            have hnn : adel (b, c1) al' = al' := by
              rw [adel_filterU _ _ (by rw [hal']; exact adel_nodup _ hnd), List.filter_eq_self]
              intro r hr
              have := aget_none hno r hr
              simpa using this
            have hca := HU3.out.uv.drop b c1
            rw [← hal'] at hca
            have HCA := hid hca
            have HNO := hid hno
            have HNN := hid hnn
            have E0 : ∀ W, (Op.equalIn 10000 145 (.agg #[.int .i64 0, .int .i64 0, .int .i64 0]) (.agg #[.int .i64 0, .int .i64 0, .int .i64 0])).run Try.prog W = .ok true W := fun W => eq145 W (0, 0, 0) (0, 0, 0)
            obtain ⟨db, hdb⟩ : ∃ db, db = decide (al'.length < al.length) := ⟨_, rfl⟩
            rw [← hdb] at HCA
            clear hca hal' hnd hno hnn hdb
            go_wp2_with (first
              | (have hH := HCB.out; clear hH; go_at_call 83; go_must (with_reducible refine HCB.out.mono ?_); rintro e_ w7 ⟨rfl, h7, k7⟩; have HU7 := hid (HU6.out.step h7 k7); clear h7 k7)
              | (go_at_call 83; go_must (with_reducible refine HCA.out.mono ?_); rintro e_ w5 ⟨rfl, h5, k5⟩; have HU5 := hid (HU3.out.step h5 k5); obtain ⟨y0, y1, y2, -⟩ := HU5.out.bx.cells; have hge := get_any HU5.out.uv.bk b c1; rw [HNO.out, show ((none : Option US).getD z6).1 = (0, 0, 0) from rfl] at hge; unfold rv at hge; have HGE := hid hge; clear h5 k5 hge)
              | (go_at_call 87; go_must (with_reducible refine HGE.out.mono ?_); rintro e_ w6 ⟨rfl, b6⟩; have HU6 := hid (HU5.out.later b6); obtain ⟨z0, z1, z2, -⟩ := HU6.out.bx.cells; have hcb := HU6.out.uv.drop b c1; rw [HNN.out, show decide (al'.length < al'.length) = false by simp] at hcb; have HCB := hid hcb; clear b6 hcb))
            go_roundg (100 - (i + 1))
            case measure => omega
            case rel => exact ⟨i + 1, al', rfl, by omega, by omega, by go_num, hid HU7.out.uv, hid (by omega)⟩
          · obtain ⟨al', hal'⟩ : ∃ al', al' = al.filter fun r => !(r.1.1 == b) := ⟨_, rfl⟩
            have hln : al'.length ≤ al.length := by rw [hal']; exact List.length_filter_le _ _
            have hof : ofU b al' = (0, 0, 0) := by rw [hal']; exact gone_none b al
            have hnn : (al'.filter fun r => !(r.1.1 == b)) = al' := by rw [hal', List.filter_filter]; congr 1; funext r; simp
            have hca := HU3.out.uv.gone (by omega) b
            rw [← hal'] at hca
            have HCA := hid hca
            have HOF := hid hof
            have HNN := hid hnn
            have E0 : ∀ W, (Op.equalIn 10000 145 (.agg #[.int .i64 0, .int .i64 0, .int .i64 0]) (.agg #[.int .i64 0, .int .i64 0, .int .i64 0])).run Try.prog W = .ok true W := fun W => eq145 W (0, 0, 0) (0, 0, 0)
            clear hca hal' hof hnn
            go_wp2_with (first
              | (have hH := HCB.out; clear hH; go_at_call 84; go_must (with_reducible refine HCB.out.mono ?_); rintro e_ w7 ⟨rfl, h7, k7⟩; have HU7 := hid (HU6.out.step h7 k7); clear h7 k7)
              | (go_at_call 84; go_must (with_reducible refine HCA.out.mono ?_); rintro e_ w5 ⟨rfl, h5, k5⟩; have HU5 := hid (HU3.out.step h5 k5); obtain ⟨y0, y1, y2, -⟩ := HU5.out.bx.cells; have hge := of_use HU5.out.uv.bk HU5.out.uv.gd (by omega) b; rw [HOF.out] at hge; unfold rv at hge; have HGE := hid hge; clear h5 k5 hge)
              | (go_at_call 89; go_must (with_reducible refine HGE.out.mono ?_); rintro e_ w6 ⟨rfl, b6⟩; have HU6 := hid (HU5.out.later b6); obtain ⟨z0, z1, z2, -⟩ := HU6.out.bx.cells; have hcb := HU6.out.uv.gone (by omega) b; rw [HNN.out, show (al'.length : Int) - (al'.length : Int) = 0 by omega] at hcb; have HCB := hid hcb; clear b6 hcb))
            go_roundg (100 - (i + 1))
            case measure => omega
            case rel => exact ⟨i + 1, al', rfl, by omega, by omega, by go_num, hid HU7.out.uv, hid (by omega)⟩
      · go_wp2_with fail
        go_ret
        exact ⟨rfl, HV.out.low⟩
    · go_wp2_with fail
      go_ret
      exact ⟨rfl, HV.out.low⟩
end Go.Proofs.Ytnceglkoolfncaa.Us
