/- Use: the law UsePlays. -/
import Derived.Test.YtnceglkoolfncaaCm
set_option linter.unusedSimpArgs false
set_option linter.unusedVariables false
namespace Go.Proofs.Ytnceglkoolfncaa.Us
open Go.RowKit Go.Pv Go.Proofs.Ytnceglkoolfncaa.Po Go.Proofs.YtnceglkoolfncaaW.PrintWords Go.Proofs.YtnceglkoolfncaaW.PrintLast Go.Proofs.Ytnceglkoolfncaa.Pr PUsePlays

theorem cell_keeps {w w' : World} {p mb : Nat} {al : UL} {a : Addr} {u : Value} (h : w.cell? a = some u) (hb : UBk w p mb al) (k : Keeps (fun i => i = mb) w w') : w'.cell? a = some u := by
  have hne : a.block ≠ mb := fun e => by
    obtain ⟨es, clock, hm, _⟩ := hb.map
    unfold World.cell? at h
    rw [e, hm] at h
    cases h
  exact (k.cell (World.block_lt_of_cell? _ _ h) hne).trans h
theorem rz_keeps {w w' : World} {p mb : Nat} {al : UL} {v : Value} {q : List S153} (h : Rz k153 w v q) (hb : UBk w p mb al) (k : Keeps (fun i => i = mb) w w') : Rz k153 w' v q := by
  obtain ⟨A, c, h1, h2, h3⟩ := h
  refine ⟨A, c, h1, h2, h3.1, h3.2.1, fun hp => ?_⟩
  obtain ⟨ad, e, hc⟩ := h3.2.2 hp
  refine ⟨ad, e, fun j x hj => ?_⟩
  obtain ⟨cs, c1, c2, c3⟩ := hc j x hj
  have := k153_open c2
  exact ⟨cs, c1, by rw [this]; exact k153_mk w' x, fun i u hu => cell_keeps (c3 i u hu) hb k⟩
/-- The book and the document's list side by side. -/
structure PU (u w : World) (p mb : Nat) (al : UL) (q : List S153) (v : Value) : Prop where
  uv : UV u w p mb al
  qz : Rz k153 w v q
  eq : q.map toU = al
section
variable {u w w' : World} {p mb : Nat} {al al' : UL} {q q' : List S153} {v v' : Value}
theorem PU.later (h : PU u w p mb al q v) (hb : Below w.heap.size w w') : PU u w' p mb al q v := ⟨h.uv.later hb, h.qz.below hb, h.eq⟩
theorem PU.step (h : PU u w p mb al q v) (hu : UV u w' p mb al') (k : Keeps (fun i => i = mb) w w') (hq : Rz k153 w v' q') (he : q'.map toU = al') : PU u w' p mb al' q' v' := ⟨hu, rz_keeps hq h.uv.bk k, he⟩
theorem PU.len (h : PU u w p mb al q v) : al.length = q.length := by rw [← h.eq, List.length_map]
theorem PU.pLen (h : PU u w p mb al q v) : Calls Try.prog 86 #[.pointer (some ⟨p, 0, none⟩)] w fun e w' => e = .returned (.int .i64 q.length) ∧ Below w.heap.size w w' := by
  rw [← h.len]
  exact (len_any h.uv.bk).mono fun e w' ⟨h1, h2⟩ => ⟨h1, by rw [h2]; exact Below.refl _ _⟩
theorem PU.rAdd (h : PU u w p mb al q v) (hl : q.length ≤ 1000) (b c : Int) (r : R3) : Calls Try.prog 80 #[v, .int .i64 b, .int .i64 c, rv r] w fun e w' => ∃ v' q', e = .returned (.tuple #[v', rv (addS ((aget (b, c) al).getD z6) r).1]) ∧ Rz k153 w' v' q' ∧ q'.map toU = addA (b, c) r al ∧ Below w.heap.size w w' := by
  obtain ⟨A, c0, rfl, h1, h2⟩ := h.qz
  obtain ⟨q', e1, e2⟩ := add_f b c r h.eq h.uv.bk.nd h.uv.gd (by omega) (q.length + 7) (by omega)
  exact (provostref22_Add.calls (q.length + 7) A c0 q b c r.1 r.2.1 r.2.2 q' _ _ _ w h2 h1 e1).mono fun e w' ⟨v', f1, f2, f3⟩ => ⟨v', q', f1, Rz.of_R f2, e2, f3⟩
theorem PU.rWithout (h : PU u w p mb al q v) (hl : q.length ≤ 1000) (b c : Int) (whole : Bool) : Calls Try.prog 82 #[v, .int .i64 b, .int .i64 c, .bool whole] w fun e w' => ∃ v', e = .returned v' ∧ Rz k153 w' v' (q.filter (keepW b c whole)) ∧ Below w.heap.size w w' := by
  obtain ⟨A, c0, rfl, h1, h2⟩ := h.qz
  exact (provostref22_Without.calls (q.length + 5) A c0 q b c whole _ w h2 h1 (without_f q b c whole (by omega) _ (by omega))).mono fun e w' ⟨v', f1, f2, f3⟩ => ⟨v', f1, Rz.of_R f2, f3⟩
theorem PU.rGet (h : PU u w p mb al q v) (hl : q.length ≤ 1000) (b c : Int) {s : US} (hs : (aget (b, c) al).getD z6 = s) : Calls Try.prog 85 #[v, .int .i64 b, .int .i64 c] w fun e w' => (∃ b' c' : Int, e = .returned (.agg #[.int .i64 b', .int .i64 c', .int .i64 s.1.1, .int .i64 s.1.2.1, .int .i64 s.1.2.2, .int .i64 s.2.1, .int .i64 s.2.2.1, .int .i64 s.2.2.2])) ∧ Below w.heap.size w w' := by
  obtain ⟨A, c0, rfl, h1, h2⟩ := h.qz
  obtain ⟨b', c', e1⟩ := get_f b c h.eq h.uv.bk.nd (by omega) (q.length + 5) (by omega)
  rw [hs] at e1
  exact (provostref22_Get.calls (q.length + 5) A c0 q b c _ _ _ _ _ _ _ _ w h2 h1 e1).mono fun e w' ⟨f1, f2⟩ => ⟨⟨b', c', f1⟩, f2⟩
theorem rOf {w : World} {al : UL} {q : List S153} {v : Value} (hq : Rz k153 w v q) (h : q.map toU = al) (hg : GoodU al) (hl : q.length ≤ 1000) (bx : Int) (all : Bool) : Calls Try.prog 90 #[v, .int .i64 bx, .bool all] w fun e w' => e = .returned (rv (if all then allU al else ofU bx al)) ∧ Below w.heap.size w w' := by
  obtain ⟨A, c0, rfl, h1, h2⟩ := hq
  exact provostref22_Of.calls (q.length + 5) A c0 q bx all _ _ _ w h2 h1 (of_f bx all h hg hl _ (by omega))
theorem s17U {g gx : Nat} {a : AT} {n : R3} (h : BxU w g a) (hn : B145 w gx n) : w.cell? ⟨g, 1, none⟩ = some (.int .i64 a.2.1) ∧ w.cell? ⟨g, 2, none⟩ = some (.int .i64 a.2.2.1) ∧ w.cell? ⟨g, 3, none⟩ = some (.int .i64 a.2.2.2.1) ∧ w.cell? ⟨g, 4, none⟩ = some (.int .i64 a.2.2.2.2.1) ∧ w.cell? ⟨g, 5, none⟩ = some (.int .i64 a.2.2.2.2.2) ∧
    w.cell? ⟨gx, 0, none⟩ = some (.int .i64 n.1) ∧ w.cell? ⟨gx, 1, none⟩ = some (.int .i64 n.2.1) ∧ w.cell? ⟨gx, 2, none⟩ = some (.int .i64 n.2.2) := by
  obtain ⟨_, a1, a2, a3, a4, a5⟩ := h.cells
  obtain ⟨b0, b1, b2, -⟩ := cells145 hn
  exact ⟨a1, a2, a3, a4, a5, b0, b1, b2⟩
theorem s23U {g : Nat} {b c w0 w1 w2 k0 k1 k2 : Int} (h : w.heap[g]? = some (.cells #[.int .i64 b, .int .i64 c, .int .i64 w0, .int .i64 w1, .int .i64 w2, .int .i64 k0, .int .i64 k1, .int .i64 k2] 153 (0, 0))) :
    w.cell? ⟨g, 2, none⟩ = some (.int .i64 w0) ∧ w.cell? ⟨g, 3, none⟩ = some (.int .i64 w1) ∧ w.cell? ⟨g, 4, none⟩ = some (.int .i64 w2) ∧ w.cell? ⟨g, 5, none⟩ = some (.int .i64 k0) ∧ w.cell? ⟨g, 6, none⟩ = some (.int .i64 k1) ∧ w.cell? ⟨g, 7, none⟩ = some (.int .i64 k2) := by
  refine ⟨?_, ?_, ?_, ?_, ?_, ?_⟩ <;> (rw [cell_of_row w g _ _ _ _ h]; rfl)
end
theorem drop_sameU {q : List S153} {al : UL} (h : q.map toU = al) (nd : (al.map (·.1)).Nodup) (b c : Int) : decide ((adel (b, c) al).length < al.length) = decide ((q.filter (keepW b c false)).length < q.length) := by
  rw [← without_one b c h nd, List.length_map, ← h, List.length_map]
theorem gone_sameU {q : List S153} {al : UL} (h : q.map toU = al) (b : Int) : (al.length : Int) - ((al.filter fun r => !(r.1.1 == b)).length : Int) = (q.length : Int) - ((q.filter (keepW b 0 true)).length : Int) := by
  have e : (q.filter (keepW b 0 true)).map toU = al.filter fun r => !(r.1.1 == b) := by
    rw [← h, List.filter_map]
    congr 1
    refine List.filter_congr fun r _ => ?_
    simp [keepW, toU]
  rw [← e, List.length_map, ← h, List.length_map]
def pl17.T : Bool × List (List Nat × List Nat) := (true, [([], []), ([], []), ([1], [1]), ([], []), ([3], [3]), ([], []), ([5], [5]), ([0, 2, 4, 6], [0, 2, 4, 6]), ([], []), ([7, 8], [7, 8]), ([9, 7, 0, 1, 2, 3, 4, 5, 6, 7, 8, 9], [9])])
def pl17.B : List Nat := [0, 0, 2, 0, 8, 0, 32, 127, 0, 511, 1023]
theorem pl17.tab : rtab .any (opsOf Try.f12 17) = pl17.T := by kernel_rfl
theorem pl17.bits : waitsOk pl17.T.2 pl17.B = true := by kernel_rfl
def pl23.T : Bool × List (List Nat × List Nat) := (true, [([], []), ([0], [0]), ([1], [1]), ([2], [2]), ([3, 2, 2], [2, 3]), ([2], [2]), ([5, 2], [2, 5]), ([4, 6, 2], [2, 4, 6]), ([2, 7], [2, 7]), ([8, 4], [8]), ([9], [9]), ([9], [9]), ([9], [9]), ([10, 11, 12, 9, 9], [9, 10, 11, 12]), ([9], [9]), ([14, 9], [9, 14]), ([13, 15, 9], [9, 13, 15]), ([9, 16], [9, 16]), ([17, 13], [17]), ([18], [18]), ([18], [18]), ([18], [18]), ([19, 20, 21, 18, 18], [18, 19, 20, 21]), ([18], [18]), ([23, 18], [18, 23]), ([22, 24, 18], [18, 22, 24]), ([18, 25], [18, 25]), ([26, 22], [26]), ([27], [27]), ([27], [27]), ([28, 29, 27, 27], [27, 28, 29]), ([27], [27]), ([27], [27]), ([31, 32, 30, 27], [27, 31, 32]), ([30, 33, 27], [27, 30, 33]), ([27, 34], [27, 34]), ([35, 33], [35]), ([36], [36]), ([37, 36, 36], [36, 37]), ([36], [36]), ([39, 38, 36], [36, 39]), ([38, 40, 36], [36, 38, 40]), ([36, 41], [36, 41])])
def pl23.B : List Nat := [0, 1, 3, 7, 15, 7, 39, 127, 255, 511, 1023, 1023, 1023, 8191, 1023, 17407, 65535, 131071, 262143, 524287, 524287, 524287, 4194303, 524287, 8912895, 33554431, 67108863, 134217727, 268435455, 268435455, 1073741823, 268435455, 268435455, 8589934591, 17179869183, 34359738367, 68719476735, 137438953471, 274877906943, 137438953471, 1099511627775, 2199023255551, 4398046511103]
theorem pl23.tab : rtab .any (opsOf Try.f12 23) = pl23.T := by kernel_rfl
theorem pl23.bits : waitsOk pl23.T.2 pl23.B = true := by kernel_rfl
set_option maxRecDepth 100000 in
set_option maxHeartbeats 8000000 in
theorem plays_any {w : World} {v0 : Value} {L : List AT} (h : Rz k147 w v0 L) (bx cx : Int) : Calls Try.prog 12 #[v0, .int .i64 bx, .int .i64 cx] w fun e w' => e = .returned (.bool true) ∧ Below w.heap.size w w' := by
  have HL := hid h
  obtain ⟨A, c, rfl, hlc, hC⟩ := h
  have hlen : (L.length : Int) ≤ 9223372036854775807 := by have := Kd.C_max hC; omega
  clear hC hlc
  have HN := hid (new_uv w)
  obtain ⟨mb, hmb⟩ : ∃ mb, mb = w.heap.size := ⟨_, rfl⟩
  obtain ⟨p, hp⟩ : ∃ p, p = mb + 1 := ⟨_, rfl⟩
  rw [← hmb, ← hp] at HN
  clear hmb hp
  go_enter Try.func12, Try.ntmps12
  go_wp2_with (go_at_call 79; go_must (with_reducible refine HN.out.mono ?_); rintro e_ w2 ⟨rfl, h2⟩; have H0 : Hid (PU w w2 p mb [] [] (.slice none 0 0)) := hid ⟨h2, Rz.nil _ _, rfl⟩; clear h2 HN)
  go_loopg [8, 9] 100 (fun g s8 s9 wr => ∃ (i : Nat) (al : UL) (q : List S153), g = 100 - i ∧ i ≤ 100 ∧ i ≤ L.length ∧ s9 = .int .i64 i ∧ Hid (PU w wr p mb al q s8) ∧ Hid (q.length ≤ i))
  case atStart => exact ⟨0, [], [], rfl, by omega, by omega, rfl, H0, hid (by simp)⟩
  case round =>
    clear H0
    obtain ⟨i, al, q, rfl, hi1, hi2, rfl, HV, HM⟩ := hrel
    obtain ⟨qA, qc, hqv, -, -⟩ := HV.out.qz
    subst hqv
    by_cases hlen2 : i < L.length
    · by_cases hk100 : i < 100
      · obtain ⟨b', o', c', hva, hb, cs, hK, hc⟩ := HL.out.at_ (by decide) i hlen2
        obtain ⟨⟨kd, b, c1, r0, r1, r2⟩, ha⟩ : ∃ a, a = L[i] := ⟨_, rfl⟩
        rw [← ha] at hK
        obtain rfl := k147_open hK
        simp only [Value.slice.injEq] at hva
        obtain ⟨rfl, -, rfl⟩ := hva
        have hbw := HV.out.uv.low
        have e6 : k147.sz = 6 := rfl
        rw [e6] at hc
        have d0 : wr.cell? ⟨b', o' + i * 6, none⟩ = some (.int .i64 kd) := (hbw.cell (p := ⟨b', o' + i * 6, none⟩) hb).trans (hc 0 _ rfl)
        have d1 : wr.cell? ⟨b', o' + i * 6 + 1, none⟩ = some (.int .i64 b) := (hbw.cell (p := ⟨b', o' + i * 6 + 1, none⟩) hb).trans (hc 1 _ rfl)
        have d2 : wr.cell? ⟨b', o' + i * 6 + 2, none⟩ = some (.int .i64 c1) := (hbw.cell (p := ⟨b', o' + i * 6 + 2, none⟩) hb).trans (hc 2 _ rfl)
        have d3 : wr.cell? ⟨b', o' + i * 6 + 3, none⟩ = some (.int .i64 r0) := (hbw.cell (p := ⟨b', o' + i * 6 + 3, none⟩) hb).trans (hc 3 _ rfl)
        have d4 : wr.cell? ⟨b', o' + i * 6 + 4, none⟩ = some (.int .i64 r1) := (hbw.cell (p := ⟨b', o' + i * 6 + 4, none⟩) hb).trans (hc 4 _ rfl)
        have d5 : wr.cell? ⟨b', o' + i * 6 + 5, none⟩ = some (.int .i64 r2) := (hbw.cell (p := ⟨b', o' + i * 6 + 5, none⟩) hb).trans (hc 5 _ rfl)
        have zw := hbw.size
        have hml := HM.out
        have HV1 := hid (HV.out.later ((Below.refl _ wr).alloc (Nat.le_refl _) (.cells #[.int .i64 kd, .int .i64 b, .int .i64 c1, .int .i64 r0, .int .i64 r1, .int .i64 r2] 147)))
        have HX1 := hid (show BxU (wr.alloc (.cells #[.int .i64 kd, .int .i64 b, .int .i64 c1, .int .i64 r0, .int .i64 r1, .int .i64 r2] 147)) wr.heap.size (kd, b, c1, r0, r1, r2) from heap_at _ _ _ rfl)
        obtain ⟨W1, hW1⟩ : ∃ W1, W1 = wr.alloc (.cells #[.int .i64 kd, .int .i64 b, .int .i64 c1, .int .i64 r0, .int .i64 r1, .int .i64 r2] 147) := ⟨_, rfl⟩
        obtain ⟨g, hg⟩ : ∃ g, g = wr.heap.size := ⟨_, rfl⟩
        rw [← hW1] at HV1
        rw [← hW1, ← hg] at HX1
        obtain ⟨x0, x1, x2, x3, x4, x5⟩ := HX1.out.cells
        clear ha hK hc hbw HV
        go_upto_region 10 with fail
        rw [← hW1, ← hg]
        clear hW1 hg d0 d1 d2 d3 d4 d5
        go_upto_block 2 with fail
        go_cut [8, 11] (fun s8 s11 wx => ∃ (al' : UL) (q' : List S153), s11 = .bool true ∧ Hid (PU w wx p mb al' q' s8) ∧ Hid (q'.length ≤ i + 1))
        case first =>
          by_cases hkd0 : kd = 0
          · subst hkd0
            have h80 := HV1.out.rAdd (by omega) b c1 (r0, r1, r2)
            obtain ⟨⟨n0, n1, n2⟩, hn⟩ : ∃ n, n = (addS ((aget (b, c1) al).getD z6) (r0, r1, r2)).1 := ⟨_, rfl⟩
            have hadd : ∀ W, UV w W p mb al → Calls Try.prog 81 #[.pointer (some ⟨p, 0, none⟩), .int .i64 b, .int .i64 c1, rv (r0, r1, r2)] W fun e w' => e = .returned (rv (n0, n1, n2)) ∧ UV w w' p mb (addA (b, c1) (r0, r1, r2) al) ∧ Keeps (fun i => i = mb) W w' := fun W hW => by
              have := hW.add b c1 (r0, r1, r2)
              rwa [← hn] at this
            rw [← hn] at h80
            have hln : (addA (b, c1) (r0, r1, r2) al).length ≤ al.length + 1 := aset_lenU _ _ _
            have hle := HV1.out.len
            obtain ⟨al', hal'⟩ : ∃ al', al' = addA (b, c1) (r0, r1, r2) al := ⟨_, rfl⟩
            rw [← hal'] at h80 hln hadd
            have E0 : ∀ W, (Op.equalIn 10000 145 (.agg #[.int .i64 n0, .int .i64 n1, .int .i64 n2]) (.agg #[.int .i64 n0, .int .i64 n1, .int .i64 n2])).run Try.prog W = .ok true W := fun W => by
              have := eq145 W (n0, n1, n2) (n0, n1, n2)
              rwa [decide_eq_true rfl] at this
            unfold rv at h80 hadd
            have H80 := hid h80
            have HADD := hid hadd
            have HX1' := hid (And.intro x0 x1)
            clear h80 hadd hn hal'
            go_upto_region 17 with (go_at_call 80; go_must (with_reducible refine H80.out.mono ?_); rintro e_ w5 ⟨v5, q5, rfl, z5, e5, b5⟩; have HU5 := hid (HV1.out.later b5); have HBX5 := hid (show BxU w5 g (0, b, c1, r0, r1, r2) from (b5.block _ (Array.getElem?_eq_some_iff.1 HX1.out).1).trans HX1.out); have HQ4 := hid z5; have HE5 := hid e5; clear z5 e5 b5)
            obtain ⟨W6, hW6⟩ : ∃ W6, W6 = w5.alloc (.cells #[.int .i64 n0, .int .i64 n1, .int .i64 n2] 145) := ⟨_, rfl⟩
            obtain ⟨gx, hgx⟩ : ∃ gx, gx = w5.heap.size := ⟨_, rfl⟩
            have k6 : Below w5.heap.size w5 (w5.alloc (.cells #[.int .i64 n0, .int .i64 n1, .int .i64 n2] 145)) := (Below.refl _ w5).alloc (Nat.le_refl _) _
            have hn6 : B145 (w5.alloc (.cells #[.int .i64 n0, .int .i64 n1, .int .i64 n2] 145)) w5.heap.size (n0, n1, n2) := heap_at _ _ _ rfl
            rw [← hW6] at k6 hn6
            rw [← hgx] at hn6
            rw [← hW6, ← hgx]
            have HU := hid ((HU5.out.later k6).later (Below.refl _ W6).drew)
            have HBX := hid (show BxU W6.drew g (0, b, c1, r0, r1, r2) from (k6.block _ (Array.getElem?_eq_some_iff.1 HBX5.out).1).trans HBX5.out)
            have HNX := hid (show B145 W6.drew gx (n0, n1, n2) from hn6)
            have HQ5 := hid ((HQ4.out.below k6).below (Below.refl _ W6).drew)
            obtain ⟨A5, c5, hv5, -, -⟩ := HQ4.out
            subst hv5
            clear hW6 hgx k6 hn6 HU5 HBX5 HQ4 x0 x1 x2 x3 x4 x5
            refine start_ (n := 11) (S := fun V : World => V.cell? ⟨g, 1, none⟩ = some (.int .i64 b) ∧ V.cell? ⟨g, 2, none⟩ = some (.int .i64 c1) ∧ V.cell? ⟨g, 3, none⟩ = some (.int .i64 r0) ∧ V.cell? ⟨g, 4, none⟩ = some (.int .i64 r1) ∧ V.cell? ⟨g, 5, none⟩ = some (.int .i64 r2) ∧ V.cell? ⟨gx, 0, none⟩ = some (.int .i64 n0) ∧ V.cell? ⟨gx, 1, none⟩ = some (.int .i64 n1) ∧ V.cell? ⟨gx, 2, none⟩ = some (.int .i64 n2)) (ds := []) #[false, false, false, false, false, false, false, false, false, false, false] (by kernel_rfl) rfl rfl (s17U HBX.out HNX.out) (fun hHeld => ?_); refine with_tabW pl17.tab pl17.bits (fun HT_ HW_ => ?_)
            refine pure_ (i := 0) (N := some 65) (v := ?_) (a' := ?_) #[true, false, false, false, false, false, false, false, false, false, false] rfl rfl (any_of HT_.out (by kernel_rfl)) (fun _ _ _ h => h) (Or.inl ⟨by rfl, ?_⟩) ?_ ?_
            rotate_left
            · intro w'
              go_simp
              with_reducible rfl
            rotate_left
            · simp only [Act.put, List.setIfInBounds_toArray, List.set_cons_zero, List.set_cons_succ, i64_w, i32_w]
              rfl
            refine pure_ (i := 1) (N := some 66) (v := ?_) (a' := ?_) #[true, true, false, false, false, false, false, false, false, false, false] rfl rfl (any_of HT_.out (by kernel_rfl)) (fun _ _ _ h => h) (Or.inl ⟨by rfl, ?_⟩) ?_ ?_
            rotate_left
            · intro w'
              go_simp
              with_reducible rfl
            rotate_left
            · simp only [Act.put, List.setIfInBounds_toArray, List.set_cons_zero, List.set_cons_succ, i64_w, i32_w]
              rfl
            refine pure_ (i := 3) (N := some 68) (v := ?_) (a' := ?_) #[true, true, false, true, false, false, false, false, false, false, false] rfl rfl (any_of HT_.out (by kernel_rfl)) (fun _ _ _ h => h) (Or.inl ⟨by rfl, ?_⟩) ?_ ?_
            rotate_left
            · intro w'
              go_simp
              with_reducible rfl
            rotate_left
            · simp only [Act.put, List.setIfInBounds_toArray, List.set_cons_zero, List.set_cons_succ, i64_w, i32_w]
              rfl
            refine pure_ (i := 5) (N := some 70) (v := ?_) (a' := ?_) #[true, true, false, true, false, true, false, false, false, false, false] rfl rfl (any_of HT_.out (by kernel_rfl)) (fun _ _ _ h => h) (Or.inl ⟨by rfl, ?_⟩) ?_ ?_
            rotate_left
            · intro w'
              go_simp
              with_reducible rfl
            rotate_left
            · simp only [Act.put, List.setIfInBounds_toArray, List.set_cons_zero, List.set_cons_succ, i64_w, i32_w]
              rfl
            refine take_ (i := 2) (N := some 67) (v := ?_) (a' := ?_) #[true, true, true, true, false, true, false, false, false, false, false] rfl rfl (take_ofW HT_.out HW_.out (by kernel_rfl)) (fun _ _ _ h => h) (Or.inl ⟨by rfl, ?_⟩) hHeld ?_ ?_
            rotate_left
            · rintro w' ⟨s0, s1, s2, s3, s4, s5, s6, s7⟩
              go_simp
              with_reducible rfl
            rotate_left
            · simp only [Act.put, List.setIfInBounds_toArray, List.set_cons_zero, List.set_cons_succ, i64_w, i32_w]
              rfl
            refine take_ (i := 4) (N := some 69) (v := ?_) (a' := ?_) #[true, true, true, true, true, true, false, false, false, false, false] rfl rfl (take_ofW HT_.out HW_.out (by kernel_rfl)) (fun _ _ _ h => h) (Or.inl ⟨by rfl, ?_⟩) hHeld ?_ ?_
            rotate_left
            · rintro w' ⟨s0, s1, s2, s3, s4, s5, s6, s7⟩
              go_simp
              with_reducible rfl
            rotate_left
            · simp only [Act.put, List.setIfInBounds_toArray, List.set_cons_zero, List.set_cons_succ, i64_w, i32_w]
              rfl
            refine take_ (i := 6) (N := some 71) (v := ?_) (a' := ?_) #[true, true, true, true, true, true, true, false, false, false, false] rfl rfl (take_ofW HT_.out HW_.out (by kernel_rfl)) (fun _ _ _ h => h) (Or.inl ⟨by rfl, ?_⟩) hHeld ?_ ?_
            rotate_left
            · rintro w' ⟨s0, s1, s2, s3, s4, s5, s6, s7⟩
              go_simp
              with_reducible rfl
            rotate_left
            · simp only [Act.put, List.setIfInBounds_toArray, List.set_cons_zero, List.set_cons_succ, i64_w, i32_w]
              rfl
            refine take_ (i := 8) (N := some 73) (v := ?_) (a' := ?_) #[true, true, true, true, true, true, true, false, true, false, false] rfl rfl (take_ofW HT_.out HW_.out (by kernel_rfl)) (fun _ _ _ h => h) (Or.inl ⟨by rfl, ?_⟩) hHeld ?_ ?_
            rotate_left
            · rintro w' ⟨s0, s1, s2, s3, s4, s5, s6, s7⟩
              go_simp
              with_reducible rfl
            rotate_left
            · simp only [Act.put, List.setIfInBounds_toArray, List.set_cons_zero, List.set_cons_succ, i64_w, i32_w]
              rfl
            refine one_ (i := 7) (N := some 72) #[true, true, true, true, true, true, true, true, true, false, false] rfl rfl (one_of HT_.out (by kernel_rfl)) (by decide) (fun K hK => ?_)
            refine goes_ Try.func81 (by kernel_rfl) rfl #[.pointer (some ⟨p, 0, none⟩), .int .i64 b, .int .i64 c1, .agg #[.int .i64 r0, .int .i64 r1, .int .i64 r2]] (by rfl) rfl rfl (by (try simp only [List.map_toArray, List.map_cons, List.map_nil]); first | done | rfl) ?_
            with_reducible refine (HADD.out _ HU.out.uv).mono ?_
            rintro e_ V7 ⟨rfl, h7, k7⟩
            refine ⟨_, rfl, ?_⟩
            have HUN := hid (HU.out.step h7 k7 HQ5.out HE5.out)
            have HXN := hid (show B145 V7 gx (n0, n1, n2) from blkU HNX.out HU.out.uv.bk (by intro es c e; cases e) k7)
            have HBN := hid (show BxU V7 g (0, b, c1, r0, r1, r2) from blkU HBX.out HU.out.uv.bk (by intro es c e; cases e) k7)
            clear h7 k7
            refine hK.out _ _ (s17U HBN.out HXN.out) (fun hHeld => ?_)
            clear hK K
            refine norm_ (a' := ?_) ?_ ?_
            rotate_left
            · show Act.put _ (some 72) _ = _
              simp only [Act.put, List.setIfInBounds_toArray, List.set_cons_zero, List.set_cons_succ, i64_w, i32_w]
              rfl
            refine pure_ (i := 9) (N := some 74) (v := ?_) (a' := ?_) #[true, true, true, true, true, true, true, true, true, true, false] rfl rfl (any_of HT_.out (by kernel_rfl)) (fun _ _ _ h => h) (Or.inl ⟨by rfl, ?_⟩) ?_ ?_
            rotate_left
            · intro w'
              go_simp
              with_reducible rfl
            rotate_left
            · simp only [Act.put, List.setIfInBounds_toArray, List.set_cons_zero, List.set_cons_succ, i64_w, i32_w]
              rfl
            refine pure_ (i := 10) (N := some 11) (v := ?_) (a' := ?_) #[true, true, true, true, true, true, true, true, true, true, true] rfl rfl (any_of HT_.out (by kernel_rfl)) (fun _ _ _ h => h) (Or.inl ⟨by rfl, ?_⟩) ?_ ?_
            rotate_left
            · intro w'
              go_simp
              with_reducible rfl
            rotate_left
            · simp only [Act.put, List.setIfInBounds_toArray, List.set_cons_zero, List.set_cons_succ, i64_w, i32_w]
              rfl
            refine done_ (done_of HT_.out (by kernel_rfl)) ?_
            go_wp2
            go_meet
            exact ⟨al', q5, rfl, HUN, hid (by have := HUN.out.len; omega)⟩
          · by_cases hkd1 : kd = 1
            · subst hkd1
              have h82 := HV1.out.rWithout (by omega) b c1 false
              have hnd := HV1.out.uv.bk.nd
              have hds := drop_sameU HV1.out.eq hnd b c1
              have hone := without_one b c1 HV1.out.eq hnd
              have hfl := List.length_filter_le (keepW b c1 false) q
              obtain ⟨q3, hq3⟩ : ∃ q3, q3 = q.filter (keepW b c1 false) := ⟨_, rfl⟩
              rw [← hq3] at h82 hds hfl hone
              have H82 := hid h82
              have HDS := hid hds
              have HONE := hid hone
              clear h82 hq3 hds hnd hone
              go_wp2_with (first
                | (go_at_call 82; go_must (with_reducible refine H82.out.mono ?_); rintro e_ w3 ⟨v3, rfl, z3, b3⟩; have HV3 := hid (HV1.out.later b3); have HX3 := hid (show BxU w3 g (1, b, c1, r0, r1, r2) from (b3.block _ (Array.getElem?_eq_some_iff.1 HX1.out).1).trans HX1.out); obtain ⟨y0, y1, y2, -⟩ := HX3.out.cells; have hc83 := HV3.out.uv.drop b c1; rw [HDS.out] at hc83; have H83 := hid hc83; have HQ3 := hid z3; obtain ⟨A3, c3, hv3, -, -⟩ := z3; subst hv3; clear b3 hc83)
                | (go_at_call 83; go_must (with_reducible refine H83.out.mono ?_); rintro e_ w4 ⟨rfl, h4, k4⟩; have HV4 := hid (HV3.out.step h4 k4 HQ3.out HONE.out); clear h4 k4))
              go_meet
              exact ⟨_, q3, rfl, HV4, hid (by omega)⟩
            · have h82 := HV1.out.rWithout (by omega) b 0 true
              have hds := gone_sameU HV1.out.eq b
              have hone := without_box b 0 HV1.out.eq
              have hfl := List.length_filter_le (keepW b 0 true) q
              obtain ⟨q3, hq3⟩ : ∃ q3, q3 = q.filter (keepW b 0 true) := ⟨_, rfl⟩
              rw [← hq3] at h82 hds hfl hone
              have H82 := hid h82
              have HDS := hid hds
              have HONE := hid hone
              have wsub : IntKind.i64.wrap ((q.length : Int) - (q3.length : Int)) = (q.length : Int) - (q3.length : Int) := IntWalk.i64_in _ (by omega)
              clear h82 hq3 hds hone
              go_wp2_with (first
                | (go_at_call 82; go_must (with_reducible refine H82.out.mono ?_); rintro e_ w3 ⟨v3, rfl, z3, b3⟩; have HV3 := hid (HV1.out.later b3); have HX3 := hid (show BxU w3 g (kd, b, c1, r0, r1, r2) from (b3.block _ (Array.getElem?_eq_some_iff.1 HX1.out).1).trans HX1.out); obtain ⟨y0, y1, y2, -⟩ := HX3.out.cells; have hc84 := HV3.out.uv.gone (by have := HV3.out.len; omega) b; rw [HDS.out] at hc84; have H84 := hid hc84; have HQ3 := hid z3; obtain ⟨A3, c3, hv3, -, -⟩ := z3; subst hv3; clear b3 hc84)
                | (go_at_call 84; go_must (with_reducible refine H84.out.mono ?_); rintro e_ w4 ⟨rfl, h4, k4⟩; have HV4 := hid (HV3.out.step h4 k4 HQ3.out HONE.out); clear h4 k4))
              go_meet
              exact ⟨_, q3, rfl, HV4, hid (by omega)⟩
        case rest =>
          clear HV1 HX1 x0 x1 x2 x3 x4 x5
          obtain ⟨al', q', rfl, HV3, HM3⟩ := hcut
          obtain ⟨A3, c3, hv3, -, -⟩ := HV3.out.qz
          subst hv3
          have hl3 := HM3.out
          have hle := HV3.out.len
          have hgd := HV3.out.uv.gd
          obtain ⟨⟨⟨w0, w1, w2⟩, ⟨k0, k1, k2⟩⟩, hs⟩ : ∃ s, s = (aget (bx, cx) al').getD z6 := ⟨_, rfl⟩
          have h85 := HV3.out.rGet (by omega) bx cx hs.symm
          obtain ⟨⟨o0, o1, o2⟩, ho⟩ : ∃ o, o = ofU bx al' := ⟨_, rfl⟩
          obtain ⟨⟨a0, a1, a2⟩, ha⟩ : ∃ o, o = allU al' := ⟨_, rfl⟩
          have hge : ∀ W, UBk W p mb al' → Calls Try.prog 87 #[.pointer (some ⟨p, 0, none⟩), .int .i64 bx, .int .i64 cx] W fun e w' => e = .returned (rv (w0, w1, w2)) ∧ Below W.heap.size W w' := fun W hW => by
            have := get_any hW bx cx
            rwa [← hs] at this
          have hpe : ∀ W, UBk W p mb al' → Calls Try.prog 88 #[.pointer (some ⟨p, 0, none⟩), .int .i64 bx, .int .i64 cx] W fun e w' => e = .returned (rv (k0, k1, k2)) ∧ Below W.heap.size W w' := fun W hW => by
            have := peak_any hW bx cx
            rwa [← hs] at this
          have hof : ∀ W, UV w W p mb al' → Calls Try.prog 89 #[.pointer (some ⟨p, 0, none⟩), .int .i64 bx] W fun e w' => e = .returned (rv (o0, o1, o2)) ∧ Below W.heap.size W w' := fun W hW => by
            have := of_use hW.bk hW.gd (by omega) bx
            rwa [← ho] at this
          have hal : ∀ W, UV w W p mb al' → Calls Try.prog 91 #[.pointer (some ⟨p, 0, none⟩)] W fun e w' => e = .returned (rv (a0, a1, a2)) ∧ Below W.heap.size W w' := fun W hW => by
            have := all_use hW.bk hW.gd (by omega)
            rwa [← ha] at this
          have hrof : ∀ W, Rz k153 W (.slice A3 q'.length c3) q' → Calls Try.prog 90 #[.slice A3 q'.length c3, .int .i64 bx, .bool false] W fun e w' => e = .returned (rv (o0, o1, o2)) ∧ Below W.heap.size W w' := fun W hW => by
            have := rOf hW HV3.out.eq hgd (by omega) bx false
            rwa [if_neg (by decide), ← ho] at this
          have hral : ∀ W, Rz k153 W (.slice A3 q'.length c3) q' → Calls Try.prog 90 #[.slice A3 q'.length c3, .int .i64 0, .bool true] W fun e w' => e = .returned (rv (a0, a1, a2)) ∧ Below W.heap.size W w' := fun W hW => by
            have := rOf hW HV3.out.eq hgd (by omega) 0 true
            rwa [if_pos rfl, ← ha] at this
          have E0 : ∀ W, (Op.equalIn 10000 145 (.agg #[.int .i64 w0, .int .i64 w1, .int .i64 w2]) (.agg #[.int .i64 w0, .int .i64 w1, .int .i64 w2])).run Try.prog W = .ok true W := fun W => by
            have := eq145 W (w0, w1, w2) (w0, w1, w2)
            rwa [decide_eq_true rfl] at this
          have E1 : ∀ W, (Op.equalIn 10000 145 (.agg #[.int .i64 k0, .int .i64 k1, .int .i64 k2]) (.agg #[.int .i64 k0, .int .i64 k1, .int .i64 k2])).run Try.prog W = .ok true W := fun W => by
            have := eq145 W (k0, k1, k2) (k0, k1, k2)
            rwa [decide_eq_true rfl] at this
          have E2 : ∀ W, (Op.equalIn 10000 145 (.agg #[.int .i64 o0, .int .i64 o1, .int .i64 o2]) (.agg #[.int .i64 o0, .int .i64 o1, .int .i64 o2])).run Try.prog W = .ok true W := fun W => by
            have := eq145 W (o0, o1, o2) (o0, o1, o2)
            rwa [decide_eq_true rfl] at this
          have E3 : ∀ W, (Op.equalIn 10000 145 (.agg #[.int .i64 a0, .int .i64 a1, .int .i64 a2]) (.agg #[.int .i64 a0, .int .i64 a1, .int .i64 a2])).run Try.prog W = .ok true W := fun W => by
            have := eq145 W (a0, a1, a2) (a0, a1, a2)
            rwa [decide_eq_true rfl] at this
          unfold rv at hge hpe hof hal hrof hral
          simp only at h85 hge hpe hof hal hrof hral
          have H85 := hid h85
          have HGET := hid hge
          have HPEK := hid hpe
          have HOF := hid hof
          have HALL := hid hal
          have HROF := hid hrof
          have HRALL := hid hral
          clear h85 hge hpe hof hal hrof hral hs ho ha hgd
          go_upto_region 23 with (go_at_call 85; go_must (with_reducible refine H85.out.mono ?_); rintro e_ w5 ⟨⟨b9, c9, rfl⟩, b5⟩; have HV5 := hid (HV3.out.later b5); clear b5)
          obtain ⟨W6, hW6⟩ : ∃ W6, W6 = w5.alloc (.cells #[.int .i64 b9, .int .i64 c9, .int .i64 w0, .int .i64 w1, .int .i64 w2, .int .i64 k0, .int .i64 k1, .int .i64 k2] 153) := ⟨_, rfl⟩
          obtain ⟨ge, hge⟩ : ∃ ge, ge = w5.heap.size := ⟨_, rfl⟩
          have k6 : Below w5.heap.size w5 (w5.alloc (.cells #[.int .i64 b9, .int .i64 c9, .int .i64 w0, .int .i64 w1, .int .i64 w2, .int .i64 k0, .int .i64 k1, .int .i64 k2] 153)) := (Below.refl _ w5).alloc (Nat.le_refl _) _
          have hn6 : (w5.alloc (.cells #[.int .i64 b9, .int .i64 c9, .int .i64 w0, .int .i64 w1, .int .i64 w2, .int .i64 k0, .int .i64 k1, .int .i64 k2] 153)).heap[w5.heap.size]? = some (.cells #[.int .i64 b9, .int .i64 c9, .int .i64 w0, .int .i64 w1, .int .i64 w2, .int .i64 k0, .int .i64 k1, .int .i64 k2] 153 (0, 0)) := heap_at _ _ _ rfl
          rw [← hW6] at k6 hn6
          rw [← hge] at hn6
          rw [← hW6, ← hge]
          have HU := hid ((HV5.out.later k6).later (Below.refl _ W6).drew)
          have HGE := hid (show W6.drew.heap[ge]? = _ from hn6)
          clear hW6 hge k6 hn6 HV5 HV3
          refine start_ (n := 43) (S := fun V : World => V.cell? ⟨ge, 2, none⟩ = some (.int .i64 w0) ∧ V.cell? ⟨ge, 3, none⟩ = some (.int .i64 w1) ∧ V.cell? ⟨ge, 4, none⟩ = some (.int .i64 w2) ∧ V.cell? ⟨ge, 5, none⟩ = some (.int .i64 k0) ∧ V.cell? ⟨ge, 6, none⟩ = some (.int .i64 k1) ∧ V.cell? ⟨ge, 7, none⟩ = some (.int .i64 k2)) (ds := []) #[false, false, false, false, false, false, false, false, false, false, false, false, false, false, false, false, false, false, false, false, false, false, false, false, false, false, false, false, false, false, false, false, false, false, false, false, false, false, false, false, false, false, false] (by kernel_rfl) rfl rfl (s23U HGE.out) (fun hHeld => ?_); refine with_tabW pl23.tab pl23.bits (fun HT_ HW_ => ?_)
          refine pure_ (i := 0) (N := some 100) (v := ?_) (a' := ?_) #[true, false, false, false, false, false, false, false, false, false, false, false, false, false, false, false, false, false, false, false, false, false, false, false, false, false, false, false, false, false, false, false, false, false, false, false, false, false, false, false, false, false, false] rfl rfl (any_of HT_.out (by kernel_rfl)) (fun _ _ _ h => h) (Or.inl ⟨by rfl, ?_⟩) ?_ ?_
          rotate_left
          · intro w'
            go_simp
            with_reducible rfl
          rotate_left
          · simp only [Act.put, List.setIfInBounds_toArray, List.set_cons_zero, List.set_cons_succ, i64_w, i32_w]
            rfl
          refine pure_ (i := 1) (N := some 101) (v := ?_) (a' := ?_) #[true, true, false, false, false, false, false, false, false, false, false, false, false, false, false, false, false, false, false, false, false, false, false, false, false, false, false, false, false, false, false, false, false, false, false, false, false, false, false, false, false, false, false] rfl rfl (any_of HT_.out (by kernel_rfl)) (fun _ _ _ h => h) (Or.inl ⟨by rfl, ?_⟩) ?_ ?_
          rotate_left
          · intro w'
            go_simp
            with_reducible rfl
          rotate_left
          · simp only [Act.put, List.setIfInBounds_toArray, List.set_cons_zero, List.set_cons_succ, i64_w, i32_w]
            rfl
          refine pure_ (i := 2) (N := some 102) (v := ?_) (a' := ?_) #[true, true, true, false, false, false, false, false, false, false, false, false, false, false, false, false, false, false, false, false, false, false, false, false, false, false, false, false, false, false, false, false, false, false, false, false, false, false, false, false, false, false, false] rfl rfl (any_of HT_.out (by kernel_rfl)) (fun _ _ _ h => h) (Or.inl ⟨by rfl, ?_⟩) ?_ ?_
          rotate_left
          · intro w'
            go_simp
            with_reducible rfl
          rotate_left
          · simp only [Act.put, List.setIfInBounds_toArray, List.set_cons_zero, List.set_cons_succ, i64_w, i32_w]
            rfl
          refine pure_ (i := 3) (N := some 103) (v := ?_) (a' := ?_) #[true, true, true, true, false, false, false, false, false, false, false, false, false, false, false, false, false, false, false, false, false, false, false, false, false, false, false, false, false, false, false, false, false, false, false, false, false, false, false, false, false, false, false] rfl rfl (any_of HT_.out (by kernel_rfl)) (fun _ _ _ h => h) (Or.inl ⟨by rfl, ?_⟩) ?_ ?_
          rotate_left
          · intro w'
            go_simp
            with_reducible rfl
          rotate_left
          · simp only [Act.put, List.setIfInBounds_toArray, List.set_cons_zero, List.set_cons_succ, i64_w, i32_w]
            rfl
          refine pure_ (i := 5) (N := some 105) (v := ?_) (a' := ?_) #[true, true, true, true, false, true, false, false, false, false, false, false, false, false, false, false, false, false, false, false, false, false, false, false, false, false, false, false, false, false, false, false, false, false, false, false, false, false, false, false, false, false, false] rfl rfl (any_of HT_.out (by kernel_rfl)) (fun _ _ _ h => h) (Or.inl ⟨by rfl, ?_⟩) ?_ ?_
          rotate_left
          · intro w'
            go_simp
            with_reducible rfl
          rotate_left
          · simp only [Act.put, List.setIfInBounds_toArray, List.set_cons_zero, List.set_cons_succ, i64_w, i32_w]
            rfl
          refine pure_ (i := 6) (N := some 106) (v := ?_) (a' := ?_) #[true, true, true, true, false, true, true, false, false, false, false, false, false, false, false, false, false, false, false, false, false, false, false, false, false, false, false, false, false, false, false, false, false, false, false, false, false, false, false, false, false, false, false] rfl rfl (any_of HT_.out (by kernel_rfl)) (fun _ _ _ h => h) (Or.inl ⟨by rfl, ?_⟩) ?_ ?_
          rotate_left
          · intro w'
            go_simp
            with_reducible rfl
          rotate_left
          · simp only [Act.put, List.setIfInBounds_toArray, List.set_cons_zero, List.set_cons_succ, i64_w, i32_w]
            rfl
          refine one_ (i := 4) (N := some 104) #[true, true, true, true, true, true, true, false, false, false, false, false, false, false, false, false, false, false, false, false, false, false, false, false, false, false, false, false, false, false, false, false, false, false, false, false, false, false, false, false, false, false, false] rfl rfl (one_of HT_.out (by kernel_rfl)) (by decide) (fun K hK => ?_)
          refine goes_ Try.func86 (by kernel_rfl) rfl #[.pointer (some ⟨p, 0, none⟩)] (by rfl) rfl rfl (by (try simp only [List.map_toArray, List.map_cons, List.map_nil]); first | done | rfl) ?_
          with_reducible refine (HU.out.pLen).mono ?_
          rintro e_ V4 ⟨rfl, hb⟩
          refine ⟨_, rfl, ?_⟩
          have HUN := hid (HU.out.later hb)
          have HEN := hid ((hb.block ge (Array.getElem?_eq_some_iff.1 HGE.out).1).trans HGE.out)
          clear HU HGE hb
          have HU := HUN
          have HGE := HEN
          clear HUN HEN
          refine hK.out _ _ (s23U HGE.out) (fun hHeld => ?_)
          clear hK K
          refine norm_ (a' := ?_) ?_ ?_
          rotate_left
          · show Act.put _ (some 104) _ = _
            simp only [Act.put, List.setIfInBounds_toArray, List.set_cons_zero, List.set_cons_succ, i64_w, i32_w]
            rfl
          refine pure_ (i := 7) (N := some 107) (v := ?_) (a' := ?_) #[true, true, true, true, true, true, true, true, false, false, false, false, false, false, false, false, false, false, false, false, false, false, false, false, false, false, false, false, false, false, false, false, false, false, false, false, false, false, false, false, false, false, false] rfl rfl (any_of HT_.out (by kernel_rfl)) (fun _ _ _ h => h) (Or.inl ⟨by rfl, ?_⟩) ?_ ?_
          rotate_left
          · intro w'
            go_simp
            with_reducible rfl
          rotate_left
          · simp only [Act.put, List.setIfInBounds_toArray, List.set_cons_zero, List.set_cons_succ, i64_w, i32_w]
            rfl
          refine pure_ (i := 8) (N := some 108) (v := ?_) (a' := ?_) #[true, true, true, true, true, true, true, true, true, false, false, false, false, false, false, false, false, false, false, false, false, false, false, false, false, false, false, false, false, false, false, false, false, false, false, false, false, false, false, false, false, false, false] rfl rfl (any_of HT_.out (by kernel_rfl)) (fun _ _ _ h => h) (Or.inl ⟨by rfl, ?_⟩) ?_ ?_
          rotate_left
          · intro w'
            go_simp
            with_reducible rfl
          rotate_left
          · simp only [Act.put, List.setIfInBounds_toArray, List.set_cons_zero, List.set_cons_succ, i64_w, i32_w]
            rfl
          refine pure_ (i := 9) (N := some 109) (v := ?_) (a' := ?_) #[true, true, true, true, true, true, true, true, true, true, false, false, false, false, false, false, false, false, false, false, false, false, false, false, false, false, false, false, false, false, false, false, false, false, false, false, false, false, false, false, false, false, false] rfl rfl (any_of HT_.out (by kernel_rfl)) (fun _ _ _ h => h) (Or.inl ⟨by rfl, ?_⟩) ?_ ?_
          rotate_left
          · intro w'
            go_simp
            with_reducible rfl
          rotate_left
          · simp only [Act.put, List.setIfInBounds_toArray, List.set_cons_zero, List.set_cons_succ, i64_w, i32_w]
            rfl
          refine pure_ (i := 10) (N := some 110) (v := ?_) (a' := ?_) #[true, true, true, true, true, true, true, true, true, true, true, false, false, false, false, false, false, false, false, false, false, false, false, false, false, false, false, false, false, false, false, false, false, false, false, false, false, false, false, false, false, false, false] rfl rfl (any_of HT_.out (by kernel_rfl)) (fun _ _ _ h => h) (Or.inl ⟨by rfl, ?_⟩) ?_ ?_
          rotate_left
          · intro w'
            go_simp
            with_reducible rfl
          rotate_left
          · simp only [Act.put, List.setIfInBounds_toArray, List.set_cons_zero, List.set_cons_succ, i64_w, i32_w]
            rfl
          refine pure_ (i := 11) (N := some 111) (v := ?_) (a' := ?_) #[true, true, true, true, true, true, true, true, true, true, true, true, false, false, false, false, false, false, false, false, false, false, false, false, false, false, false, false, false, false, false, false, false, false, false, false, false, false, false, false, false, false, false] rfl rfl (any_of HT_.out (by kernel_rfl)) (fun _ _ _ h => h) (Or.inl ⟨by rfl, ?_⟩) ?_ ?_
          rotate_left
          · intro w'
            go_simp
            with_reducible rfl
          rotate_left
          · simp only [Act.put, List.setIfInBounds_toArray, List.set_cons_zero, List.set_cons_succ, i64_w, i32_w]
            rfl
          refine pure_ (i := 12) (N := some 112) (v := ?_) (a' := ?_) #[true, true, true, true, true, true, true, true, true, true, true, true, true, false, false, false, false, false, false, false, false, false, false, false, false, false, false, false, false, false, false, false, false, false, false, false, false, false, false, false, false, false, false] rfl rfl (any_of HT_.out (by kernel_rfl)) (fun _ _ _ h => h) (Or.inl ⟨by rfl, ?_⟩) ?_ ?_
          rotate_left
          · intro w'
            go_simp
            with_reducible rfl
          rotate_left
          · simp only [Act.put, List.setIfInBounds_toArray, List.set_cons_zero, List.set_cons_succ, i64_w, i32_w]
            rfl
          refine pure_ (i := 14) (N := some 114) (v := ?_) (a' := ?_) #[true, true, true, true, true, true, true, true, true, true, true, true, true, false, true, false, false, false, false, false, false, false, false, false, false, false, false, false, false, false, false, false, false, false, false, false, false, false, false, false, false, false, false] rfl rfl (any_of HT_.out (by kernel_rfl)) (fun _ _ _ h => h) (Or.inl ⟨by rfl, ?_⟩) ?_ ?_
          rotate_left
          · intro w'
            go_simp
            with_reducible rfl
          rotate_left
          · simp only [Act.put, List.setIfInBounds_toArray, List.set_cons_zero, List.set_cons_succ, i64_w, i32_w]
            rfl
          refine take_ (i := 15) (N := some 115) (v := ?_) (a' := ?_) #[true, true, true, true, true, true, true, true, true, true, true, true, true, false, true, true, false, false, false, false, false, false, false, false, false, false, false, false, false, false, false, false, false, false, false, false, false, false, false, false, false, false, false] rfl rfl (take_ofW HT_.out HW_.out (by kernel_rfl)) (fun _ _ _ h => h) (Or.inl ⟨by rfl, ?_⟩) hHeld ?_ ?_
          rotate_left
          · rintro w' ⟨s0, s1, s2, s3, s4, s5⟩
            go_simp
            with_reducible rfl
          rotate_left
          · simp only [Act.put, List.setIfInBounds_toArray, List.set_cons_zero, List.set_cons_succ, i64_w, i32_w]
            rfl
          refine one_ (i := 13) (N := some 113) #[true, true, true, true, true, true, true, true, true, true, true, true, true, true, true, true, false, false, false, false, false, false, false, false, false, false, false, false, false, false, false, false, false, false, false, false, false, false, false, false, false, false, false] rfl rfl (one_of HT_.out (by kernel_rfl)) (by decide) (fun K hK => ?_)
          refine goes_ Try.func87 (by kernel_rfl) rfl #[.pointer (some ⟨p, 0, none⟩), .int .i64 bx, .int .i64 cx] (by rfl) rfl rfl (by (try simp only [List.map_toArray, List.map_cons, List.map_nil]); first | done | rfl) ?_
          with_reducible refine (HGET.out _ HU.out.uv.bk).mono ?_
          rintro e_ V13 ⟨rfl, hb⟩
          refine ⟨_, rfl, ?_⟩
          have HUN := hid (HU.out.later hb)
          have HEN := hid ((hb.block ge (Array.getElem?_eq_some_iff.1 HGE.out).1).trans HGE.out)
          clear HU HGE hb
          have HU := HUN
          have HGE := HEN
          clear HUN HEN
          refine hK.out _ _ (s23U HGE.out) (fun hHeld => ?_)
          clear hK K
          refine norm_ (a' := ?_) ?_ ?_
          rotate_left
          · show Act.put _ (some 113) _ = _
            simp only [Act.put, List.setIfInBounds_toArray, List.set_cons_zero, List.set_cons_succ, i64_w, i32_w]
            rfl
          refine pure_ (i := 16) (N := some 116) (v := ?_) (a' := ?_) #[true, true, true, true, true, true, true, true, true, true, true, true, true, true, true, true, true, false, false, false, false, false, false, false, false, false, false, false, false, false, false, false, false, false, false, false, false, false, false, false, false, false, false] rfl rfl (any_of HT_.out (by kernel_rfl)) (fun _ _ _ h => h) (Or.inl ⟨by rfl, ?_⟩) ?_ ?_
          rotate_left
          · intro w'
            go_simp
            with_reducible rfl
          rotate_left
          · simp only [Act.put, List.setIfInBounds_toArray, List.set_cons_zero, List.set_cons_succ, i64_w, i32_w]
            rfl
          refine pure_ (i := 17) (N := some 117) (v := ?_) (a' := ?_) #[true, true, true, true, true, true, true, true, true, true, true, true, true, true, true, true, true, true, false, false, false, false, false, false, false, false, false, false, false, false, false, false, false, false, false, false, false, false, false, false, false, false, false] rfl rfl (any_of HT_.out (by kernel_rfl)) (fun _ _ _ h => h) (Or.inl ⟨by rfl, ?_⟩) ?_ ?_
          rotate_left
          · intro w'
            go_simp
            with_reducible rfl
          rotate_left
          · simp only [Act.put, List.setIfInBounds_toArray, List.set_cons_zero, List.set_cons_succ, i64_w, i32_w]
            rfl
          refine pure_ (i := 18) (N := some 118) (v := ?_) (a' := ?_) #[true, true, true, true, true, true, true, true, true, true, true, true, true, true, true, true, true, true, true, false, false, false, false, false, false, false, false, false, false, false, false, false, false, false, false, false, false, false, false, false, false, false, false] rfl rfl (any_of HT_.out (by kernel_rfl)) (fun _ _ _ h => h) (Or.inl ⟨by rfl, ?_⟩) ?_ ?_
          rotate_left
          · intro w'
            go_simp
            with_reducible rfl
          rotate_left
          · simp only [Act.put, List.setIfInBounds_toArray, List.set_cons_zero, List.set_cons_succ, i64_w, i32_w]
            rfl
          refine pure_ (i := 19) (N := some 119) (v := ?_) (a' := ?_) #[true, true, true, true, true, true, true, true, true, true, true, true, true, true, true, true, true, true, true, true, false, false, false, false, false, false, false, false, false, false, false, false, false, false, false, false, false, false, false, false, false, false, false] rfl rfl (any_of HT_.out (by kernel_rfl)) (fun _ _ _ h => h) (Or.inl ⟨by rfl, ?_⟩) ?_ ?_
          rotate_left
          · intro w'
            go_simp
            with_reducible rfl
          rotate_left
          · simp only [Act.put, List.setIfInBounds_toArray, List.set_cons_zero, List.set_cons_succ, i64_w, i32_w]
            rfl
          refine pure_ (i := 20) (N := some 120) (v := ?_) (a' := ?_) #[true, true, true, true, true, true, true, true, true, true, true, true, true, true, true, true, true, true, true, true, true, false, false, false, false, false, false, false, false, false, false, false, false, false, false, false, false, false, false, false, false, false, false] rfl rfl (any_of HT_.out (by kernel_rfl)) (fun _ _ _ h => h) (Or.inl ⟨by rfl, ?_⟩) ?_ ?_
          rotate_left
          · intro w'
            go_simp
            with_reducible rfl
          rotate_left
          · simp only [Act.put, List.setIfInBounds_toArray, List.set_cons_zero, List.set_cons_succ, i64_w, i32_w]
            rfl
          refine pure_ (i := 21) (N := some 121) (v := ?_) (a' := ?_) #[true, true, true, true, true, true, true, true, true, true, true, true, true, true, true, true, true, true, true, true, true, true, false, false, false, false, false, false, false, false, false, false, false, false, false, false, false, false, false, false, false, false, false] rfl rfl (any_of HT_.out (by kernel_rfl)) (fun _ _ _ h => h) (Or.inl ⟨by rfl, ?_⟩) ?_ ?_
          rotate_left
          · intro w'
            go_simp
            with_reducible rfl
          rotate_left
          · simp only [Act.put, List.setIfInBounds_toArray, List.set_cons_zero, List.set_cons_succ, i64_w, i32_w]
            rfl
          refine pure_ (i := 23) (N := some 123) (v := ?_) (a' := ?_) #[true, true, true, true, true, true, true, true, true, true, true, true, true, true, true, true, true, true, true, true, true, true, false, true, false, false, false, false, false, false, false, false, false, false, false, false, false, false, false, false, false, false, false] rfl rfl (any_of HT_.out (by kernel_rfl)) (fun _ _ _ h => h) (Or.inl ⟨by rfl, ?_⟩) ?_ ?_
          rotate_left
          · intro w'
            go_simp
            with_reducible rfl
          rotate_left
          · simp only [Act.put, List.setIfInBounds_toArray, List.set_cons_zero, List.set_cons_succ, i64_w, i32_w]
            rfl
          refine take_ (i := 24) (N := some 124) (v := ?_) (a' := ?_) #[true, true, true, true, true, true, true, true, true, true, true, true, true, true, true, true, true, true, true, true, true, true, false, true, true, false, false, false, false, false, false, false, false, false, false, false, false, false, false, false, false, false, false] rfl rfl (take_ofW HT_.out HW_.out (by kernel_rfl)) (fun _ _ _ h => h) (Or.inl ⟨by rfl, ?_⟩) hHeld ?_ ?_
          rotate_left
          · rintro w' ⟨s0, s1, s2, s3, s4, s5⟩
            go_simp
            with_reducible rfl
          rotate_left
          · simp only [Act.put, List.setIfInBounds_toArray, List.set_cons_zero, List.set_cons_succ, i64_w, i32_w]
            rfl
          refine one_ (i := 22) (N := some 122) #[true, true, true, true, true, true, true, true, true, true, true, true, true, true, true, true, true, true, true, true, true, true, true, true, true, false, false, false, false, false, false, false, false, false, false, false, false, false, false, false, false, false, false] rfl rfl (one_of HT_.out (by kernel_rfl)) (by decide) (fun K hK => ?_)
          refine goes_ Try.func88 (by kernel_rfl) rfl #[.pointer (some ⟨p, 0, none⟩), .int .i64 bx, .int .i64 cx] (by rfl) rfl rfl (by (try simp only [List.map_toArray, List.map_cons, List.map_nil]); first | done | rfl) ?_
          with_reducible refine (HPEK.out _ HU.out.uv.bk).mono ?_
          rintro e_ V22 ⟨rfl, hb⟩
          refine ⟨_, rfl, ?_⟩
          have HUN := hid (HU.out.later hb)
          have HEN := hid ((hb.block ge (Array.getElem?_eq_some_iff.1 HGE.out).1).trans HGE.out)
          clear HU HGE hb
          have HU := HUN
          have HGE := HEN
          clear HUN HEN
          refine hK.out _ _ (s23U HGE.out) (fun hHeld => ?_)
          clear hK K
          refine norm_ (a' := ?_) ?_ ?_
          rotate_left
          · show Act.put _ (some 122) _ = _
            simp only [Act.put, List.setIfInBounds_toArray, List.set_cons_zero, List.set_cons_succ, i64_w, i32_w]
            rfl
          refine pure_ (i := 25) (N := some 125) (v := ?_) (a' := ?_) #[true, true, true, true, true, true, true, true, true, true, true, true, true, true, true, true, true, true, true, true, true, true, true, true, true, true, false, false, false, false, false, false, false, false, false, false, false, false, false, false, false, false, false] rfl rfl (any_of HT_.out (by kernel_rfl)) (fun _ _ _ h => h) (Or.inl ⟨by rfl, ?_⟩) ?_ ?_
          rotate_left
          · intro w'
            go_simp
            with_reducible rfl
          rotate_left
          · simp only [Act.put, List.setIfInBounds_toArray, List.set_cons_zero, List.set_cons_succ, i64_w, i32_w]
            rfl
          refine pure_ (i := 26) (N := some 126) (v := ?_) (a' := ?_) #[true, true, true, true, true, true, true, true, true, true, true, true, true, true, true, true, true, true, true, true, true, true, true, true, true, true, true, false, false, false, false, false, false, false, false, false, false, false, false, false, false, false, false] rfl rfl (any_of HT_.out (by kernel_rfl)) (fun _ _ _ h => h) (Or.inl ⟨by rfl, ?_⟩) ?_ ?_
          rotate_left
          · intro w'
            go_simp
            with_reducible rfl
          rotate_left
          · simp only [Act.put, List.setIfInBounds_toArray, List.set_cons_zero, List.set_cons_succ, i64_w, i32_w]
            rfl
          refine pure_ (i := 27) (N := some 127) (v := ?_) (a' := ?_) #[true, true, true, true, true, true, true, true, true, true, true, true, true, true, true, true, true, true, true, true, true, true, true, true, true, true, true, true, false, false, false, false, false, false, false, false, false, false, false, false, false, false, false] rfl rfl (any_of HT_.out (by kernel_rfl)) (fun _ _ _ h => h) (Or.inl ⟨by rfl, ?_⟩) ?_ ?_
          rotate_left
          · intro w'
            go_simp
            with_reducible rfl
          rotate_left
          · simp only [Act.put, List.setIfInBounds_toArray, List.set_cons_zero, List.set_cons_succ, i64_w, i32_w]
            rfl
          refine pure_ (i := 28) (N := some 128) (v := ?_) (a' := ?_) #[true, true, true, true, true, true, true, true, true, true, true, true, true, true, true, true, true, true, true, true, true, true, true, true, true, true, true, true, true, false, false, false, false, false, false, false, false, false, false, false, false, false, false] rfl rfl (any_of HT_.out (by kernel_rfl)) (fun _ _ _ h => h) (Or.inl ⟨by rfl, ?_⟩) ?_ ?_
          rotate_left
          · intro w'
            go_simp
            with_reducible rfl
          rotate_left
          · simp only [Act.put, List.setIfInBounds_toArray, List.set_cons_zero, List.set_cons_succ, i64_w, i32_w]
            rfl
          refine pure_ (i := 29) (N := some 129) (v := ?_) (a' := ?_) #[true, true, true, true, true, true, true, true, true, true, true, true, true, true, true, true, true, true, true, true, true, true, true, true, true, true, true, true, true, true, false, false, false, false, false, false, false, false, false, false, false, false, false] rfl rfl (any_of HT_.out (by kernel_rfl)) (fun _ _ _ h => h) (Or.inl ⟨by rfl, ?_⟩) ?_ ?_
          rotate_left
          · intro w'
            go_simp
            with_reducible rfl
          rotate_left
          · simp only [Act.put, List.setIfInBounds_toArray, List.set_cons_zero, List.set_cons_succ, i64_w, i32_w]
            rfl
          refine pure_ (i := 31) (N := some 131) (v := ?_) (a' := ?_) #[true, true, true, true, true, true, true, true, true, true, true, true, true, true, true, true, true, true, true, true, true, true, true, true, true, true, true, true, true, true, false, true, false, false, false, false, false, false, false, false, false, false, false] rfl rfl (any_of HT_.out (by kernel_rfl)) (fun _ _ _ h => h) (Or.inl ⟨by rfl, ?_⟩) ?_ ?_
          rotate_left
          · intro w'
            go_simp
            with_reducible rfl
          rotate_left
          · simp only [Act.put, List.setIfInBounds_toArray, List.set_cons_zero, List.set_cons_succ, i64_w, i32_w]
            rfl
          refine pure_ (i := 32) (N := some 132) (v := ?_) (a' := ?_) #[true, true, true, true, true, true, true, true, true, true, true, true, true, true, true, true, true, true, true, true, true, true, true, true, true, true, true, true, true, true, false, true, true, false, false, false, false, false, false, false, false, false, false] rfl rfl (any_of HT_.out (by kernel_rfl)) (fun _ _ _ h => h) (Or.inl ⟨by rfl, ?_⟩) ?_ ?_
          rotate_left
          · intro w'
            go_simp
            with_reducible rfl
          rotate_left
          · simp only [Act.put, List.setIfInBounds_toArray, List.set_cons_zero, List.set_cons_succ, i64_w, i32_w]
            rfl
          refine one_ (i := 30) (N := some 130) #[true, true, true, true, true, true, true, true, true, true, true, true, true, true, true, true, true, true, true, true, true, true, true, true, true, true, true, true, true, true, true, true, true, false, false, false, false, false, false, false, false, false, false] rfl rfl (one_of HT_.out (by kernel_rfl)) (by decide) (fun K hK => ?_)
          refine goes_ Try.func89 (by kernel_rfl) rfl #[.pointer (some ⟨p, 0, none⟩), .int .i64 bx] (by rfl) rfl rfl (by (try simp only [List.map_toArray, List.map_cons, List.map_nil]); first | done | rfl) ?_
          with_reducible refine (HOF.out _ HU.out.uv).mono ?_
          rintro e_ V30 ⟨rfl, hb⟩
          refine ⟨_, rfl, ?_⟩
          have HUN := hid (HU.out.later hb)
          have HEN := hid ((hb.block ge (Array.getElem?_eq_some_iff.1 HGE.out).1).trans HGE.out)
          clear HU HGE hb
          have HU := HUN
          have HGE := HEN
          clear HUN HEN
          refine hK.out _ _ (s23U HGE.out) (fun hHeld => ?_)
          clear hK K
          refine norm_ (a' := ?_) ?_ ?_
          rotate_left
          · show Act.put _ (some 130) _ = _
            simp only [Act.put, List.setIfInBounds_toArray, List.set_cons_zero, List.set_cons_succ, i64_w, i32_w]
            rfl
          refine one_ (i := 33) (N := some 133) #[true, true, true, true, true, true, true, true, true, true, true, true, true, true, true, true, true, true, true, true, true, true, true, true, true, true, true, true, true, true, true, true, true, true, false, false, false, false, false, false, false, false, false] rfl rfl (one_of HT_.out (by kernel_rfl)) (by decide) (fun K hK => ?_)
          refine goes_ Try.func90 (by kernel_rfl) rfl #[.slice A3 q'.length c3, .int .i64 bx, .bool false] (by rfl) rfl rfl (by (try simp only [List.map_toArray, List.map_cons, List.map_nil]); first | done | rfl) ?_
          with_reducible refine (HROF.out _ HU.out.qz).mono ?_
          rintro e_ V33 ⟨rfl, hb⟩
          refine ⟨_, rfl, ?_⟩
          have HUN := hid (HU.out.later hb)
          have HEN := hid ((hb.block ge (Array.getElem?_eq_some_iff.1 HGE.out).1).trans HGE.out)
          clear HU HGE hb
          have HU := HUN
          have HGE := HEN
          clear HUN HEN
          refine hK.out _ _ (s23U HGE.out) (fun hHeld => ?_)
          clear hK K
          refine norm_ (a' := ?_) ?_ ?_
          rotate_left
          · show Act.put _ (some 133) _ = _
            simp only [Act.put, List.setIfInBounds_toArray, List.set_cons_zero, List.set_cons_succ, i64_w, i32_w]
            rfl
          refine pure_ (i := 34) (N := some 134) (v := ?_) (a' := ?_) #[true, true, true, true, true, true, true, true, true, true, true, true, true, true, true, true, true, true, true, true, true, true, true, true, true, true, true, true, true, true, true, true, true, true, true, false, false, false, false, false, false, false, false] rfl rfl (any_of HT_.out (by kernel_rfl)) (fun _ _ _ h => h) (Or.inl ⟨by rfl, ?_⟩) ?_ ?_
          rotate_left
          · intro w'
            go_simp
            with_reducible rfl
          rotate_left
          · simp only [Act.put, List.setIfInBounds_toArray, List.set_cons_zero, List.set_cons_succ, i64_w, i32_w]
            rfl
          refine pure_ (i := 35) (N := some 135) (v := ?_) (a' := ?_) #[true, true, true, true, true, true, true, true, true, true, true, true, true, true, true, true, true, true, true, true, true, true, true, true, true, true, true, true, true, true, true, true, true, true, true, true, false, false, false, false, false, false, false] rfl rfl (any_of HT_.out (by kernel_rfl)) (fun _ _ _ h => h) (Or.inl ⟨by rfl, ?_⟩) ?_ ?_
          rotate_left
          · intro w'
            go_simp
            with_reducible rfl
          rotate_left
          · simp only [Act.put, List.setIfInBounds_toArray, List.set_cons_zero, List.set_cons_succ, i64_w, i32_w]
            rfl
          refine pure_ (i := 36) (N := some 136) (v := ?_) (a' := ?_) #[true, true, true, true, true, true, true, true, true, true, true, true, true, true, true, true, true, true, true, true, true, true, true, true, true, true, true, true, true, true, true, true, true, true, true, true, true, false, false, false, false, false, false] rfl rfl (any_of HT_.out (by kernel_rfl)) (fun _ _ _ h => h) (Or.inl ⟨by rfl, ?_⟩) ?_ ?_
          rotate_left
          · intro w'
            go_simp
            with_reducible rfl
          rotate_left
          · simp only [Act.put, List.setIfInBounds_toArray, List.set_cons_zero, List.set_cons_succ, i64_w, i32_w]
            rfl
          refine pure_ (i := 37) (N := some 137) (v := ?_) (a' := ?_) #[true, true, true, true, true, true, true, true, true, true, true, true, true, true, true, true, true, true, true, true, true, true, true, true, true, true, true, true, true, true, true, true, true, true, true, true, true, true, false, false, false, false, false] rfl rfl (any_of HT_.out (by kernel_rfl)) (fun _ _ _ h => h) (Or.inl ⟨by rfl, ?_⟩) ?_ ?_
          rotate_left
          · intro w'
            go_simp
            with_reducible rfl
          rotate_left
          · simp only [Act.put, List.setIfInBounds_toArray, List.set_cons_zero, List.set_cons_succ, i64_w, i32_w]
            rfl
          refine pure_ (i := 39) (N := some 139) (v := ?_) (a' := ?_) #[true, true, true, true, true, true, true, true, true, true, true, true, true, true, true, true, true, true, true, true, true, true, true, true, true, true, true, true, true, true, true, true, true, true, true, true, true, true, false, true, false, false, false] rfl rfl (any_of HT_.out (by kernel_rfl)) (fun _ _ _ h => h) (Or.inl ⟨by rfl, ?_⟩) ?_ ?_
          rotate_left
          · intro w'
            go_simp
            with_reducible rfl
          rotate_left
          · simp only [Act.put, List.setIfInBounds_toArray, List.set_cons_zero, List.set_cons_succ, i64_w, i32_w]
            rfl
          refine one_ (i := 38) (N := some 138) #[true, true, true, true, true, true, true, true, true, true, true, true, true, true, true, true, true, true, true, true, true, true, true, true, true, true, true, true, true, true, true, true, true, true, true, true, true, true, true, true, false, false, false] rfl rfl (one_of HT_.out (by kernel_rfl)) (by decide) (fun K hK => ?_)
          refine goes_ Try.func91 (by kernel_rfl) rfl #[.pointer (some ⟨p, 0, none⟩)] (by rfl) rfl rfl (by (try simp only [List.map_toArray, List.map_cons, List.map_nil]); first | done | rfl) ?_
          with_reducible refine (HALL.out _ HU.out.uv).mono ?_
          rintro e_ V38 ⟨rfl, hb⟩
          refine ⟨_, rfl, ?_⟩
          have HUN := hid (HU.out.later hb)
          have HEN := hid ((hb.block ge (Array.getElem?_eq_some_iff.1 HGE.out).1).trans HGE.out)
          clear HU HGE hb
          have HU := HUN
          have HGE := HEN
          clear HUN HEN
          refine hK.out _ _ (s23U HGE.out) (fun hHeld => ?_)
          clear hK K
          refine norm_ (a' := ?_) ?_ ?_
          rotate_left
          · show Act.put _ (some 138) _ = _
            simp only [Act.put, List.setIfInBounds_toArray, List.set_cons_zero, List.set_cons_succ, i64_w, i32_w]
            rfl
          refine one_ (i := 40) (N := some 140) #[true, true, true, true, true, true, true, true, true, true, true, true, true, true, true, true, true, true, true, true, true, true, true, true, true, true, true, true, true, true, true, true, true, true, true, true, true, true, true, true, true, false, false] rfl rfl (one_of HT_.out (by kernel_rfl)) (by decide) (fun K hK => ?_)
          refine goes_ Try.func90 (by kernel_rfl) rfl #[.slice A3 q'.length c3, .int .i64 0, .bool true] (by rfl) rfl rfl (by (try simp only [List.map_toArray, List.map_cons, List.map_nil]); first | done | rfl) ?_
          with_reducible refine (HRALL.out _ HU.out.qz).mono ?_
          rintro e_ V40 ⟨rfl, hb⟩
          refine ⟨_, rfl, ?_⟩
          have HUN := hid (HU.out.later hb)
          have HEN := hid ((hb.block ge (Array.getElem?_eq_some_iff.1 HGE.out).1).trans HGE.out)
          clear HU HGE hb
          have HU := HUN
          have HGE := HEN
          clear HUN HEN
          refine hK.out _ _ (s23U HGE.out) (fun hHeld => ?_)
          clear hK K
          refine norm_ (a' := ?_) ?_ ?_
          rotate_left
          · show Act.put _ (some 140) _ = _
            simp only [Act.put, List.setIfInBounds_toArray, List.set_cons_zero, List.set_cons_succ, i64_w, i32_w]
            rfl
          refine pure_ (i := 41) (N := some 141) (v := ?_) (a' := ?_) #[true, true, true, true, true, true, true, true, true, true, true, true, true, true, true, true, true, true, true, true, true, true, true, true, true, true, true, true, true, true, true, true, true, true, true, true, true, true, true, true, true, true, false] rfl rfl (any_of HT_.out (by kernel_rfl)) (fun _ _ _ h => h) (Or.inl ⟨by rfl, ?_⟩) ?_ ?_
          rotate_left
          · intro w'
            go_simp
            with_reducible rfl
          rotate_left
          · simp only [Act.put, List.setIfInBounds_toArray, List.set_cons_zero, List.set_cons_succ, i64_w, i32_w]
            rfl
          refine pure_ (i := 42) (N := some 142) (v := ?_) (a' := ?_) #[true, true, true, true, true, true, true, true, true, true, true, true, true, true, true, true, true, true, true, true, true, true, true, true, true, true, true, true, true, true, true, true, true, true, true, true, true, true, true, true, true, true, true] rfl rfl (any_of HT_.out (by kernel_rfl)) (fun _ _ _ h => h) (Or.inl ⟨by rfl, ?_⟩) ?_ ?_
          rotate_left
          · intro w'
            go_simp
            with_reducible rfl
          rotate_left
          · simp only [Act.put, List.setIfInBounds_toArray, List.set_cons_zero, List.set_cons_succ, i64_w, i32_w]
            rfl
          refine done_ (done_of HT_.out (by kernel_rfl)) ?_
          go_wp2
          go_roundg (100 - (i + 1))
          case measure => omega
          case rel => exact ⟨i + 1, al', q', rfl, by omega, by omega, by go_num, HU, HM3⟩
      · have HVE := HV
        go_wp2_with (first
          | (go_at_call 86
             go_must (with_reducible refine HVE.out.pLen.mono ?_)
             rintro e w5 ⟨rfl, b5⟩
             have HVG := hid (HVE.out.later b5)
             clear b5)
          | (go_at_call 92
             go_must (with_reducible refine (works_any _).mono ?_)
             rintro e w6 ⟨rfl, b6⟩
             have HVF := hid (HVG.out.later b6)
             clear b6))
        go_ret
        exact ⟨rfl, HVF.out.uv.low⟩
    · have HVE := HV
      go_wp2_with (first
        | (go_at_call 86
           go_must (with_reducible refine HVE.out.pLen.mono ?_)
           rintro e w5 ⟨rfl, b5⟩
           have HVG := hid (HVE.out.later b5)
           clear b5)
        | (go_at_call 92
           go_must (with_reducible refine (works_any _).mono ?_)
           rintro e w6 ⟨rfl, b6⟩
           have HVF := hid (HVG.out.later b6)
           clear b6))
      go_ret
      exact ⟨rfl, HVF.out.uv.low⟩
end Go.Proofs.Ytnceglkoolfncaa.Us
