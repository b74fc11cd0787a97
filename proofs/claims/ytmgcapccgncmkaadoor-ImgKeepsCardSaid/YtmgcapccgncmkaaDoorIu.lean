/- The law of chapter 18: does, of a tick. -/
import Derived.Test.YtmgcapccgncmkaaDoorIt
set_option linter.unusedSimpArgs false
set_option linter.unusedVariables false
namespace Go.Proofs.YtmgcapccgncmkaaDoor.Im
open Go.RowKit Go.Pv Go.Proofs.YtmgcapccgncmkaaDoor.Tx Go.Proofs.YtmgcapccgncmkaaDoorW.PrintWords Go.Proofs.YtmgcapccgncmkaaDoorW.PrintLast Go.Proofs.YtmgcapccgncmkaaDoorW.PrintMore Go.Proofs.YtmgcapccgncmkaaDoor.PImgKeeps
/-- What does says. -/
def DoesSays (w : World) (p mb B : Nat) (P : Nat → Prop) (l : List S136) (al2 : IL) (T : Int) (e : Ending) (w' : World) : Prop :=
  ∃ v r m x, e = .returned (.tuple #[.agg #[v, .int .i64 m], x]) ∧ QR w' B (fun k => P k ∨ w.heap.size ≤ k) v r ∧ r.length ≤ l.length + 1 ∧ IBk w' p mb al2 T ∧ Keeps (fun i => P i ∨ i = p ∨ i = mb) w w'
def dt11.T : Bool × List (List Nat × List Nat) := (true, [([], []), ([], []), ([], []), ([1, 2], [1, 2]), ([0, 3, 0], [0]), ([3, 4, 0, 1, 2, 3, 4], [3])])
def dt11.B : List Nat := [0, 0, 0, 6, 15, 31]
theorem dt11.tab : rtab .any (opsOf Tryd.f29 11) = dt11.T := by kernel_rfl
theorem dt11.bits : waitsOk dt11.T.2 dt11.B = true := by kernel_rfl

set_option maxRecDepth 10000 in
set_option maxHeartbeats 2000000 in
theorem does_tick {w : World} {p mb B c : Nat} {al : IL} {tick now : Int} {P : Nat → Prop} {A : Option Addr} {l : List S136} {k : ByteArray} (h : IBk w p mb al tick) (hq : QR w B P (.slice A l.length c) l) (hB : B ≤ w.heap.size) (hP : ∀ k, P k → k < w.heap.size ∧ k ≠ p ∧ k ≠ mb) (hl : l.length ≤ 900)
    (hs : Short al) (ht : 0 ≤ tick ∧ tick ≤ 1000000) (hg : ∀ k, 0 ≤ (getI k al).1 ∧ (getI k al).1 ≤ 1000) :
    Calls Tryd.prog 29 #[.pointer (some ⟨p, 0, none⟩), .agg #[.slice A l.length c, .int .i64 now], .agg #[.int .i64 1, .string k]] w fun e w' => DoesSays w p mb B P l (tkA (tick + 1) al (namesA al)) (tick + 1) e w' := by
  obtain ⟨W1, hW1, k4, k5, k6, hB1, hS1⟩ := three_boxes (w := w) (x := .slice A l.length c) (y := now) (k := 1) (a := k)
  obtain ⟨b4, hb4⟩ : ∃ b4, b4 = w.heap.size := ⟨_, rfl⟩
  obtain ⟨b5, hb5⟩ : ∃ b5, b5 = w.heap.size + 1 := ⟨_, rfl⟩
  obtain ⟨b6, hb6⟩ : ∃ b6, b6 = w.heap.size + 2 := ⟨_, rfl⟩
  rw [← hb4] at k4
  rw [← hb5] at k5
  rw [← hb6] at k6
  have hlt := h.lt
  have HI1 := hid (h.below hB1)
  have HQ1 := hid (Kd.R_below hq hB1)
  have htk := tick_any (h.below hB1) hs ht hg
  have hcl : (cameL (tick + 1) al (namesA al)).length ≤ 16 := Nat.le_trans (cameL_length _ _ _) (by rw [namesA_length]; exact hs.2)
  generalize tkA (tick + 1) al (namesA al) = al2 at *
  generalize cameL (tick + 1) al (namesA al) = L1 at *
  generalize tick + 1 = T at *
  have HTK := hid htk
  have HCL := hid hcl
  have HLX := hid hl
  have HRF := hid (fun W (hR : QR W B P (.slice A l.length c) l) (hBW : B ≤ W.heap.size) (hPW : ∀ k, P k → k < W.heap.size) => rnext_any (now := now) hR hBW hPW (by omega : l.length ≤ 1000))
  have HP := hid hP
  have HB := hid hB
  have HB1 := hid hB1
  have hbb : b4 < W1.heap.size ∧ b5 < W1.heap.size ∧ b6 < W1.heap.size := by omega
  have hn4 : w.heap.size ≤ b4 ∧ w.heap.size ≤ b5 ∧ w.heap.size ≤ b6 ∧ b4 ≠ b6 ∧ b4 ≠ b5 ∧ b5 ≠ b6 := by omega
  have hS1' := hid hS1
  have HHH := hid hn4
  have HBB := hid hbb
  have HLT := hid hlt
  obtain ⟨x0, x1, -⟩ := cells2 k5
  have K4 := hid k4
  have K5 := hid k5
  have K6 := hid k6
  clear h hq hB hP hl hB1 hS1 hn4 hbb hlt k4 k5 k6 hs ht hg htk hcl
  go_enter Tryd.func29, Tryd.ntmps29
  go_upto_region 1 with fail
  rw [← hb6, ← hb5, ← hb4, ← hW1]
  clear hb4 hb5 hb6 hW1
  go_upto_region 11 with (first
    | (go_at_call 62; go_must (with_reducible refine (HRF.out w2 HQ2.out HS2.out.1 HS2.out.2).mono ?_); rintro e w3 ⟨v3, r, m, Aw, nw, cw, Lw, rfl, hR3, hl3, hb3, hnw, hlw, hSw⟩; obtain ⟨A3, c3, hv3⟩ := Kd.R_slice hR3; subst hv3; have HR3 := hid hR3; have HL3 := hid hl3; have HB3 := hid hb3; have HNW := hid hnw; have HLW := hid hlw; have HSW := hid hSw; clear hR3 hl3 hb3 hnw hlw hSw)
    | (go_at_call 59; go_must (with_reducible refine HTK.out.mono ?_); rintro e w2 ⟨Ac, cc, rfl, hI2, hk2, hSc⟩; have K42 := hid (blk_keeps hk2 (by have := HHH.out; have := HLT.out; omega) K4.out); have K62 := hid (blk_keeps hk2 (by have := HHH.out; have := HLT.out; omega) K6.out); obtain ⟨y0, y1, -⟩ := cells2 K42.out; have HQ2 := hid (Kd.R_kept (S := fun i => i = p ∨ i = mb) HQ1.out ⟨hk2.size, hk2.block⟩ (fun k hk e => e.elim (HP.out k hk).2.1 (HP.out k hk).2.2)); have HI2 := hid hI2; have HK2 := hid hk2; have HSC := hid hSc; have HS2 := hid (show B ≤ w2.heap.size ∧ ∀ k, P k → k < w2.heap.size from ⟨Nat.le_trans HB.out (Nat.le_trans HB1.out.size hk2.size), fun k hk => Nat.lt_of_lt_of_le (HP.out k hk).1 (Nat.le_trans HB1.out.size hk2.size)⟩); clear hI2 hk2 hSc))
  obtain ⟨W4, hW4⟩ : ∃ W4, W4 = w3.alloc (.cells #[.slice A3 r.length c3, .int .i64 m] 60) := ⟨_, rfl⟩
  obtain ⟨b11, hb11⟩ : ∃ b11, b11 = w3.heap.size := ⟨_, rfl⟩
  have hk4 : Below w3.heap.size w3 W4 := by rw [hW4]; exact (Below.refl _ w3).alloc (Nat.le_refl _) _
  have k11 : W4.heap[b11]? = some (.cells #[.slice A3 r.length c3, .int .i64 m] 60 (0, 0)) := by rw [hW4, hb11]; exact heap_alloc_new _ _
  have k64 := blk_of hk4 (blk_of HB3.out K62.out)
  rw [← hW4, ← hb11]
  clear hW4 hb11
  obtain ⟨Wd, hWd⟩ : ∃ Wd, Wd = W4.drew := ⟨_, rfl⟩
  have hbd : Below W4.heap.size W4 Wd := by rw [hWd]; exact (Below.refl _ W4).drew
  have HWd := hid hWd
  have K11 := hid (blk_of hbd k11)
  have K6d := hid (blk_of hbd k64)
  have HBD := hid hbd
  have HK4 := hid hk4
  have hscd : SlOf Wd 9 1 encS (.slice Ac L1.length cc) L1 := SlRow.kept (SlRow.kept (SlRow.kept HSC.out (Keeps.of_below (F := fun _ => False) HB3.out) (by simp)) (Keeps.of_below (F := fun _ => False) hk4) (by simp)) (Keeps.of_below (F := fun _ => False) hbd) (by simp)
  have hswd : SlOf Wd 9 1 encS (.slice Aw nw cw) Lw := SlRow.kept (SlRow.kept HSW.out (Keeps.of_below (F := fun _ => False) hk4) (by simp)) (Keeps.of_below (F := fun _ => False) hbd) (by simp)
  have hlw := HLW.out
  have hcl := HCL.out
  have hlr := HL3.out
  obtain ⟨bs, hbs⟩ := same_t L1 Lw (by omega) 2000 (by omega)
  have hC1 := C_of_sl hscd rfl (by omega)
  have hC2 := C_of_sl hswd HNW.out (by
    have := HLW.out
    have := HLX.out
    omega)
  have hsm := provostbook_SameTexts.calls 2000 Ac cc L1 Aw cw Lw bs Wd hC1.1 hC1.2 hC2.1 hC2.2 hbs
  rw [← HNW.out] at hsm
  have HSM := hid hsm
  have HSS := hid (show (fun V : World => V.cell? ⟨b11, 0, none⟩ = some (.slice A3 r.length c3) ∧ V.cell? ⟨b11, 1, none⟩ = some (.int .i64 m)) Wd from ⟨(cells2 K11.out).1, (cells2 K11.out).2.1⟩)
  clear hWd hbd hk4 hscd hswd hlw hcl hlr hbs hC1 hC2 k11 k64 hsm
  refine start_ (n := 6) (S := fun V : World => V.cell? ⟨b11, 0, none⟩ = some (.slice A3 r.length c3) ∧ V.cell? ⟨b11, 1, none⟩ = some (.int .i64 m)) (ds := [4]) #[false, false, false, false, false, false] (by kernel_rfl) rfl rfl (by rw [← HWd.out]; exact HSS.out) (fun hHeld => ?_); refine with_tabW dt11.tab dt11.bits (fun HT_ HW_ => ?_)
  rw [← HWd.out] at hHeld ⊢
  refine pure_ (i := 1) (N := some 49) (v := ?_) (a' := ?_) #[false, true, false, false, false, false] rfl rfl (any_of HT_.out (by kernel_rfl)) (fun _ _ _ h => h) (Or.inl ⟨by rfl, ?_⟩) ?_ ?_
  rotate_left
  · intro w'
    go_simp
    with_reducible rfl
  rotate_left
  · simp only [Act.put, List.setIfInBounds_toArray, List.set_cons_zero, List.set_cons_succ, i64_w, i32_w]
    rfl
  refine pure_ (i := 2) (N := some 50) (v := ?_) (a' := ?_) #[false, true, true, false, false, false] rfl rfl (any_of HT_.out (by kernel_rfl)) (fun _ _ _ h => h) (Or.inl ⟨by rfl, ?_⟩) ?_ ?_
  rotate_left
  · intro w'
    go_simp
    with_reducible rfl
  rotate_left
  · simp only [Act.put, List.setIfInBounds_toArray, List.set_cons_zero, List.set_cons_succ, i64_w, i32_w]
    rfl
  refine take_ (i := 0) (N := some 48) (v := ?_) (a' := ?_) #[true, true, true, false, false, false] rfl rfl (take_ofW HT_.out HW_.out (by kernel_rfl)) (fun _ _ _ h => h) (Or.inl ⟨by rfl, ?_⟩) hHeld ?_ ?_
  rotate_left
  · rintro w' ⟨s0, s1⟩
    go_simp
    with_reducible rfl
  rotate_left
  · simp only [Act.put, List.setIfInBounds_toArray, List.set_cons_zero, List.set_cons_succ, i64_w, i32_w]
    rfl
  refine one_ (i := 3) (N := some 51) #[true, true, true, true, false, false] rfl rfl (one_of HT_.out (by kernel_rfl)) (by decide) (fun K hK => ?_)
  refine goes_ Tryd.func63 (by kernel_rfl) rfl #[.slice Ac L1.length cc, .slice Aw nw cw] (by rfl) rfl rfl (by (try simp only [List.map_toArray, List.map_cons, List.map_nil]); first | done | rfl) ?_
  with_reducible refine HSM.out.mono ?_
  rintro e W5 ⟨rfl, hdr⟩
  have hB5 : Below Wd.heap.size Wd W5 := hdr.below
  refine ⟨_, rfl, ?_⟩
  have HB5 := hid hB5
  have K6v := hid (blk_of hB5 K6d.out)
  obtain ⟨u0, u1, uf⟩ := cells2 K6v.out
  have uf0 := uf 0
  have uf1 := uf 1
  have HS5 := hid (show (fun V : World => V.cell? ⟨b11, 0, none⟩ = some (.slice A3 r.length c3) ∧ V.cell? ⟨b11, 1, none⟩ = some (.int .i64 m)) W5 from ⟨cell_on hB5 HSS.out.1, cell_on hB5 HSS.out.2⟩)
  obtain ⟨W6, hW6⟩ : ∃ W6, W6 = (W5.setCell ⟨b6, 0, none⟩ (.slice A3 r.length c3)).setCell ⟨b6, 1, none⟩ (.int .i64 m) := ⟨_, rfl⟩
  have HW6 := hid hW6
  clear hW6 hB5 hdr uf
  refine hK.out _ _ HS5.out (fun hHeld => ?_)
  clear hK K
  refine norm_ (a' := ?_) ?_ ?_
  rotate_left
  · show Act.put _ (some 51) _ = _
    simp only [Act.put, List.setIfInBounds_toArray, List.set_cons_zero, List.set_cons_succ, i64_w, i32_w]
    rfl
  refine last_ (i := 4) (N := none) #[true, true, true, true, true, false] rfl rfl (one_of HT_.out (by kernel_rfl)) (by decide) (fun K hK => ?_)
  refine skip_ (w1 := W6) (by rfl) rfl (by rw [HW6.out]; go_simp) ?_
  refine hK.out _ _ ?_
  clear hK K
  refine pure_ (i := 5) (N := some 7) (v := ?_) (a' := ?_) #[true, true, true, true, true, true] rfl rfl (any_of HT_.out (by kernel_rfl)) (fun _ _ _ h => h) (Or.inl ⟨by rfl, ?_⟩) ?_ ?_
  rotate_left
  · intro w'
    go_simp
    with_reducible rfl
  rotate_left
  · simp only [Act.put, List.setIfInBounds_toArray, List.set_cons_zero, List.set_cons_succ, i64_w, i32_w]
    rfl
  refine done_ (done_of HT_.out (by kernel_rfl)) ?_
  go_wp2_with fail
  refine bodyPost_ret (results_ct rfl _ _ b6 60 #[.slice A3 r.length c3, .int .i64 m] (0, 0) _ rfl (by rw [HW6.out]; exact put2 K6v.out) Tryd.underlying60 rfl (by kernel_rfl)) rfl ?_
  have hk6 : Keeps (fun i => i = b6) W5 W6 := by rw [HW6.out]; exact ((Keeps.refl (fun i => i = b6) W5).setCell ⟨b6, 0, none⟩ _ (.inl rfl)).setCell ⟨b6, 1, none⟩ _ (.inl rfl)
  have hh := HHH.out
  have hl2 := HLT.out
  have hs1 := HB1.out.size
  have hs2 := HK2.out.size
  have hs3 := HB3.out.size
  have hbl := HBB.out
  have b25 : Below w2.heap.size w2 W5 := ((HB3.out.trans (HK4.out.mono HB3.out.size)).trans (HBD.out.mono (Nat.le_trans HB3.out.size HK4.out.size))).trans (HB5.out.mono (Nat.le_trans HB3.out.size (Nat.le_trans HK4.out.size HBD.out.size)))
  have b35 : Below w3.heap.size w3 W5 := (HK4.out.trans (HBD.out.mono HK4.out.size)).trans (HB5.out.mono (Nat.le_trans HK4.out.size HBD.out.size))
  have kk : Keeps (fun i => P i ∨ i = p ∨ i = mb) w W6 :=
    ((((Keeps.of_below (F := fun i => P i ∨ i = p ∨ i = mb) HB1.out).trans HK2.out (fun i hi => .inl (.inr hi))).trans (Keeps.of_below (F := fun i => i = p) b25) (fun i hi => .inl (.inr (.inl hi)))).trans hk6 (fun i hi => .inr (by omega)))
  unfold DoesSays
  exact ⟨_, r, m, _, rfl, Kd.R_mono (show QR W6 B (fun k => P k ∨ w2.heap.size ≤ k) _ r by rw [HW6.out]; exact put2_R (Kd.R_below HR3.out b35) (fun k hk e => by
    rcases hk with h1 | h1
    · have := (HP.out k h1).1; omega
    · omega)) (fun k hk => hk.imp id (fun h1 => by omega)), by rw [HL3.out]; omega,
    (HI2.out.below b25).kept hk6 (by omega) (by omega), kk⟩
end Go.Proofs.YtmgcapccgncmkaaDoor.Im
