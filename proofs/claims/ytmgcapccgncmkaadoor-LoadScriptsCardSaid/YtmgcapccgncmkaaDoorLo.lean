/- Load: the law LoadDraws, walked. -/
import Derived.Test.YtmgcapccgncmkaaDoorLn
set_option linter.unusedSimpArgs false
set_option linter.unusedVariables false
namespace Go.Proofs.YtmgcapccgncmkaaDoor.Ld
open Go.RowKit Go.Pv Go.Proofs.YtmgcapccgncmkaaDoor.PLoadScripts Go.Proofs.YtmgcapccgncmkaaDoorW.PrintWords Go.Proofs.YtmgcapccgncmkaaDoorW.PrintLast Go.Proofs.YtmgcapccgncmkaaDoorW.PrintMore

theorem is_any (E : Ent) (hl : E.2.1.length ≤ 1000) (A : Option Addr) (c : Nat) (A1 : Option Addr) (c1 : Nat) (w : World) (hC : Kd.C (Kd.int .i64) w A E.2.1.length E.2.1) (hc : E.2.1.length ≤ c) (hC1 : Kd.C (Kd.int .i64) w A1 E.2.1.length E.2.1) (hc1 : E.2.1.length ≤ c1) :
    Calls Tryd.prog 13 #[.agg #[.int .i64 E.1, .slice A E.2.1.length c, .string E.2.2], .agg #[.int .i64 E.1, .slice A1 E.2.1.length c1, .string E.2.2]] w fun e w' => e = .returned (.bool true) ∧ Below w.heap.size w w' :=
  provostlaw48_is.calls _ _ _ _ _ _ _ _ _ _ _ _ w hC hc hC1 hc1 (is_eq E hl)
theorem en_len (x : Int) : (en x).1.2.1.length ≤ 5 := rightB_len (en_ok x).1
/-- Two generators. -/
structure DW (w W : World) (g h : Nat) (x y : Int) : Prop where
  low : Below w.heap.size w W
  one : IsS98 w W g x
  two : IsS98 w W h y
  ne : g ≠ h
theorem DW.later {w W V : World} {g h : Nat} {x y : Int} (H : DW w W g h x y) (hb : Below W.heap.size W V) : DW w V g h x y :=
  ⟨H.low.trans (hb.mono H.low.size), H.one.below hb, H.two.below hb, H.ne⟩
theorem DW.keep1 {w W V : World} {g h : Nat} {x y x' : Int} (H : DW w W g h x y) (hI : IsS98 w V g x') (hB : Below w.heap.size w V) (hk : KeepBut W V g none) : DW w V g h x' y :=
  ⟨hB, hI, ⟨(hk.2 h H.two.lt (fun e => H.ne e.symm) (by simp)).trans H.two.1, H.two.2⟩, H.ne⟩
theorem DW.keep2 {w W V : World} {g h : Nat} {x y y' : Int} (H : DW w W g h x y) (hI : IsS98 w V h y') (hB : Below w.heap.size w V) (hk : KeepBut W V h none) : DW w V g h x y' :=
  ⟨hB, ⟨(hk.2 g H.one.lt H.ne (by simp)).trans H.one.1, H.one.2⟩, hI, H.ne⟩
/-- The document's entry beside them, in its box. -/
structure DX (w W : World) (g h : Nat) (x y : Int) (b : Nat) (E : Ent) (v : Value) : Prop where
  dw : DW w W g h x y
  box : W.heap[b]? = some (.cells #[.int .i64 E.1, v, .string E.2.2] 29 (0, 0))
  row : Kd.R (Kd.int .i64) 3 W w.heap.size (fun k => k ≠ g ∧ k ≠ h) v E.2.1
theorem DX.later {w W V : World} {g h : Nat} {x y : Int} {b : Nat} {E : Ent} {v : Value} (H : DX w W g h x y b E v) (hb : Below W.heap.size W V) : DX w V g h x y b E v :=
  ⟨H.dw.later hb, (hb.block _ (Array.getElem?_eq_some_iff.1 H.box).1).trans H.box, Kd.R_below H.row hb⟩
theorem DX.keep1 {w W V : World} {g h : Nat} {x y x' : Int} {b : Nat} {E : Ent} {v : Value} (H : DX w W g h x y b E v) (hI : IsS98 w V g x') (hB : Below w.heap.size w V) (hk : KeepBut W V g none) : DX w V g h x' y b E v :=
  ⟨H.dw.keep1 hI hB hk, (hk.2 b (Array.getElem?_eq_some_iff.1 H.box).1 (fun e => H.dw.one.ne_blk H.box (by decide) e.symm) (by simp)).trans H.box, Kd.R_keep H.row hk (fun _ h => h.1)⟩
theorem DX.keep2 {w W V : World} {g h : Nat} {x y y' : Int} {b : Nat} {E : Ent} {v : Value} (H : DX w W g h x y b E v) (hI : IsS98 w V h y') (hB : Below w.heap.size w V) (hk : KeepBut W V h none) : DX w V g h x y' b E v :=
  ⟨H.dw.keep2 hI hB hk, (hk.2 b (Array.getElem?_eq_some_iff.1 H.box).1 (fun e => H.dw.two.ne_blk H.box (by decide) e.symm) (by simp)).trans H.box, Kd.R_keep H.row hk (fun _ h => h.2)⟩
theorem DX.cells {w W : World} {g h : Nat} {x y : Int} {b : Nat} {E : Ent} {v : Value} (H : DX w W g h x y b E v) : W.cell? ⟨b, 0, none⟩ = some (.int .i64 E.1) ∧ W.cell? ⟨b, 1, none⟩ = some v ∧ W.cell? ⟨b, 2, none⟩ = some (.string E.2.2) := by
  refine ⟨?_, ?_, ?_⟩ <;> (rw [cell_of_row W _ _ _ _ _ H.box]; rfl)
theorem DX.start {w W V : World} {g h : Nat} {x y : Int} {E : Ent} {v : Value} (H : DW w W g h x y) (hb : Below W.heap.size W V) (hR : Kd.R (Kd.int .i64) 3 V W.heap.size (fun _ => True) v E.2.1) :
    DX w (V.alloc (.cells #[.int .i64 E.1, v, .string E.2.2] 29)) g h x y V.heap.size E v := by
  have hB : Below V.heap.size V (V.alloc (.cells #[.int .i64 E.1, v, .string E.2.2] 29)) := (Below.refl _ V).alloc (Nat.le_refl _) _
  refine ⟨H.later (hb.trans (hB.mono hb.size)), heap_alloc_new V _, ?_⟩
  have h1 := Kd.R_lower (Kd.R_mono (Kd.R_bound hR) (ok' := fun k => k ≠ g ∧ k ≠ h) (fun k hk => ?_)) H.low.size
  · exact Kd.R_below h1 hB
  · have := hk.2.1
    have := H.one.lt
    have := H.two.lt
    exact ⟨by omega, by omega⟩
theorem DW.start {w w1 w2 : World} {g h : Nat} {x y : Int} (H : IsS98 w w1 g x ∧ Below w.heap.size w w1) (hI : IsS98 w1 w2 h y) (hb : Below w1.heap.size w1 w2) : DW w w2 g h x y :=
  ⟨H.2.trans (hb.mono H.2.size), H.1.below hb, ⟨hI.1, Nat.le_trans H.2.size hI.2⟩, fun e => by have h1 := H.1.lt; have h2 := hI.ge; omega⟩
theorem cell_low {w W : World} {p : Addr} {u : Value} (hB : Below w.heap.size w W) (h : w.cell? p = some u) : W.cell? p = some u := (hB.cell (World.block_lt_of_cell? _ _ h)).trans h
def reg3x12.T : Bool × List (List Nat × List Nat) := (true, [([], []), ([], []), ([], []), ([1, 2], [1, 2]), ([3], [3]), ([0, 4], [0, 4]), ([], []), ([5, 6], [5, 6]), ([7, 5], [7]), ([8], [8]), ([9, 8, 8], [8, 9]), ([8], [8]), ([10, 11, 10, 8], [8, 10, 11]), ([12, 8], [8, 12]), ([8, 13], [8, 13])])
def reg3x12.B : List Nat := [0, 0, 0, 6, 14, 31, 0, 127, 255, 511, 1023, 511, 4095, 8191, 16383]
theorem reg3x12.tab : rtab .any (opsOf Tryd.f3 12) = reg3x12.T := by kernel_rfl
theorem reg3x12.bits : waitsOk reg3x12.T.2 reg3x12.B = true := by kernel_rfl

set_option maxRecDepth 10000 in
set_option maxHeartbeats 2000000 in
theorem drawsLaw_any (x : Int) (l : List Int) (hl : ∀ n ∈ l, n ≤ 9223372036854775807) (A : Option Addr) (c : Nat) (w : World) (hC : Kd.C (Kd.int .i64) w A l.length l) (hG : Gl w) :
    Calls Tryd.prog 3 #[.int .u64 x, .slice A l.length c] w fun e w' => e = .returned (.bool true) ∧ Below w.heap.size w w' := by
  have HN := hid (fun x W hB => new_any x w W hB)
  have HRn := hid (fun x n hn (W : World) => rnext_any x n hn W)
  have HRe := hid (fun x (W : World) => rentry_any x W)
  have HNx := hid (fun g x n W hI hB => gnext_any g x n w W hI hB)
  have HEn := hid (fun g x W hI hB => entry_any g x w W hI hB)
  have HN2 := hid (fun x W => new_any x W W (Below.refl _ W))
  have HIs := hid is_any
  have HWk := hid works_any
  have HC0 := hid hC
  have HLL := hid hl
  have HG0 := hid hG
  have HLn := hid en_len
  have HW := hid (Below.refl w.heap.size w)
  clear hC hl hG
  have hdr1 : ∀ x : Int, dr x 1 = 0 := fun x => by have := dr_in x 1 (by omega); omega
  go_enter Tryd.func3, Tryd.ntmps3
  go_wp2_with (first
    | (have h9 := HD1.out; clear h9; go_at_call 9; go_must (with_reducible refine (HN2.out _ _).mono ?_); rintro e w2 ⟨h, rfl, hI, hB, hb⟩; have HD := hid (DW.start HD1.out hI hb); clear hI hB hb HD1)
    | (go_at_call 9; go_must (with_reducible refine (HN.out _ _ HW.out).mono ?_); rintro e w1 ⟨g, rfl, hI, hB, hb⟩; have HD1 := hid (And.intro hI hB); clear hI hB hb HW))
  go_loopg [7, 8, 9] (min l.length 60) (fun q s7 s8 s9 wr => ∃ (j : Nat) (x1 y1 : Int), s7 = .int .u64 x1 ∧ s8 = .int .u64 y1 ∧ s9 = .int .i64 j ∧ q = min l.length 60 - j ∧ j ≤ min l.length 60 ∧ Hid (DW w wr g h x1 y1))
  case atStart => exact ⟨0, x, x, rfl, rfl, rfl, by omega, by omega, HD⟩
  case round =>
    clear HD
    obtain ⟨j, x1, y1, rfl, rfl, rfl, rfl, hj, HD⟩ := hrel
    by_cases hjm : j < min l.length 60
    · have hjl : j < l.length := by omega
      have b1 : decide ((j : Int) < (l.length : Int)) = true := decide_eq_true (by omega)
      have b2 : decide ((j : Int) < 60) = true := decide_eq_true (by omega)
      have HCr := hid (Kd.C_below HC0.out HD.out.low)
      obtain ⟨b, o, hA, hcell0⟩ := C_int_at HC0.out j hjl
      subst hA
      have hcell := cell_low HD.out.low hcell0
      have hn := HLL.out l[j] (List.getElem_mem hjl)
      obtain ⟨n, hnn⟩ : ∃ n, n = l[j] := ⟨_, rfl⟩
      rw [← hnn] at hcell hcell0 hn
      have HCell := hid hcell0
      clear hnn hcell0 HCr
      go_wp2_with (first
        | (go_at_call 10; go_must (with_reducible refine (HRn.out _ _ hn _).mono ?_); rintro e w3 ⟨rfl, hb⟩; have HD3 := hid (HD.out.later hb); have hcell3 := (hb.cell (World.block_lt_of_cell? _ _ hcell)).trans hcell; clear hb hcell HD)
        | (go_at_call 11; go_must (with_reducible refine (HRe.out _ _).mono ?_); rintro e w4 ⟨v4, rfl, hR, hb⟩; have hcell4 := (hb.cell (World.block_lt_of_cell? _ _ hcell3)).trans hcell3; have HX := hid (DX.start HD3.out hb hR); obtain ⟨A4, c4, hv4⟩ := Kd.R_slice hR; clear hb hR hcell3 hcell4 HD3; subst hv4))
      obtain ⟨Wd, hWd⟩ : ∃ Wd, Wd = (w4.alloc (.cells #[.int .i64 (en y1).1.1, .slice A4 (en y1).1.2.1.length c4, .string (en y1).1.2.2] 29)).drew := ⟨_, rfl⟩
      have HWd := hid hWd
      have HXd := hid (show DX w Wd g h x1 y1 w4.heap.size (en y1).1 (.slice A4 (en y1).1.2.1.length c4) by rw [hWd]; exact HX.out.later (Below.refl _ _).drew)
      clear hWd HX
      have hdd : (dr x1 n != dr x1 n) = false := bne_self_eq_false _
      refine start_ (n := 15) (S := fun V : World => V.cell? ⟨b, o + j, none⟩ = some (.int .i64 n) ∧ V.cell? ⟨w4.heap.size, 0, none⟩ = some (.int .i64 (en y1).1.1) ∧ V.cell? ⟨w4.heap.size, 1, none⟩ = some (.slice A4 (en y1).1.2.1.length c4) ∧ V.cell? ⟨w4.heap.size, 2, none⟩ = some (.string (en y1).1.2.2)) (ds := []) #[false, false, false, false, false, false, false, false, false, false, false, false, false, false, false] (by kernel_rfl) rfl rfl (by rw [← HWd.out]; exact ⟨cell_low HXd.out.dw.low HCell.out, HXd.out.cells⟩) (fun hHeld => ?_); refine with_tabW reg3x12.tab reg3x12.bits (fun HT_ HW_ => ?_)
      rw [← HWd.out] at hHeld ⊢
      refine pure_ (i := 0) (N := some 52) (v := ?_) (a' := ?_) #[true, false, false, false, false, false, false, false, false, false, false, false, false, false, false] rfl rfl (any_of HT_.out (by kernel_rfl)) (fun _ _ _ h => h) (Or.inl ⟨by rfl, ?_⟩) ?_ ?_
      rotate_left
      · intro w'
        go_simp
        with_reducible rfl
      rotate_left
      · simp only [Act.put, List.setIfInBounds_toArray, List.set_cons_zero, List.set_cons_succ, i64_w, i32_w]
        rfl
      refine pure_ (i := 1) (N := some 53) (v := ?_) (a' := ?_) #[true, true, false, false, false, false, false, false, false, false, false, false, false, false, false] rfl rfl (any_of HT_.out (by kernel_rfl)) (fun _ _ _ h => h) (Or.inl ⟨by rfl, ?_⟩) ?_ ?_
      rotate_left
      · intro w'
        go_simp
        with_reducible rfl
      rotate_left
      · simp only [Act.put, List.setIfInBounds_toArray, List.set_cons_zero, List.set_cons_succ, i64_w, i32_w]
        rfl
      refine pure_ (i := 2) (N := some 54) (v := ?_) (a' := ?_) #[true, true, true, false, false, false, false, false, false, false, false, false, false, false, false] rfl rfl (any_of HT_.out (by kernel_rfl)) (fun _ _ _ h => h) (Or.inl ⟨by rfl, ?_⟩) ?_ ?_
      rotate_left
      · intro w'
        go_simp
        with_reducible rfl
      rotate_left
      · simp only [Act.put, List.setIfInBounds_toArray, List.set_cons_zero, List.set_cons_succ, i64_w, i32_w]
        rfl
      refine pure_ (i := 3) (N := some 55) (v := ?_) (a' := ?_) #[true, true, true, true, false, false, false, false, false, false, false, false, false, false, false] rfl rfl (any_of HT_.out (by kernel_rfl)) (fun _ _ _ h => h) (Or.inl ⟨by rfl, ?_⟩) ?_ ?_
      rotate_left
      · intro w'
        go_simp
        with_reducible rfl
      rotate_left
      · simp only [Act.put, List.setIfInBounds_toArray, List.set_cons_zero, List.set_cons_succ, i64_w, i32_w]
        rfl
      refine pure_ (i := 6) (N := some 58) (v := ?_) (a' := ?_) #[true, true, true, true, false, false, true, false, false, false, false, false, false, false, false] rfl rfl (any_of HT_.out (by kernel_rfl)) (fun _ _ _ h => h) (Or.inl ⟨by rfl, ?_⟩) ?_ ?_
      rotate_left
      · intro w'
        go_simp
        with_reducible rfl
      rotate_left
      · simp only [Act.put, List.setIfInBounds_toArray, List.set_cons_zero, List.set_cons_succ, i64_w, i32_w]
        rfl
      refine take_ (i := 4) (N := some 56) (v := ?_) (a' := ?_) #[true, true, true, true, true, false, true, false, false, false, false, false, false, false, false] rfl rfl (take_ofW HT_.out HW_.out (by kernel_rfl)) (fun _ _ _ h => h) (Or.inl ⟨by rfl, ?_⟩) hHeld ?_ ?_
      rotate_left
      · rintro w' ⟨s0, s1, s2, s3⟩
        go_simp
        with_reducible rfl
      rotate_left
      · simp only [Act.put, List.setIfInBounds_toArray, List.set_cons_zero, List.set_cons_succ, i64_w, i32_w]
        rfl
      refine one_ (i := 5) (N := some 57) #[true, true, true, true, true, true, true, false, false, false, false, false, false, false, false] rfl rfl (one_of HT_.out (by kernel_rfl)) (by decide) (fun K hK => ?_)
      refine goes_ Tryd.func12 (by kernel_rfl) rfl #[.pointer (some ⟨g, 0, none⟩), .int .i64 n] (by rfl) rfl rfl (by (try simp only [List.map_toArray, List.map_cons, List.map_nil]); first | done | rfl) ?_
      with_reducible refine (HNx.out _ _ n _ HXd.out.dw.one HXd.out.dw.low).mono ?_
      rintro e w5 ⟨rfl, hI, hB, hk⟩
      have HX5 := hid (HXd.out.keep1 hI hB hk)
      clear hI hB hk
      refine ⟨_, rfl, ?_⟩
      refine hK.out _ _ ⟨cell_low HX5.out.dw.low HCell.out, HX5.out.cells⟩ (fun hHeld => ?_)
      clear hK K
      refine norm_ (a' := ?_) ?_ ?_
      rotate_left
      · show Act.put _ (some 57) _ = _
        simp only [Act.put, List.setIfInBounds_toArray, List.set_cons_zero, List.set_cons_succ, i64_w, i32_w]
        rfl
      refine pure_ (i := 7) (N := some 59) (v := ?_) (a' := ?_) #[true, true, true, true, true, true, true, true, false, false, false, false, false, false, false] rfl rfl (any_of HT_.out (by kernel_rfl)) (fun _ _ _ h => h) (Or.inl ⟨by rfl, ?_⟩) ?_ ?_
      rotate_left
      · intro w'
        go_simp
        with_reducible rfl
      rotate_left
      · simp only [Act.put, List.setIfInBounds_toArray, List.set_cons_zero, List.set_cons_succ, i64_w, i32_w]
        rfl
      refine pure_ (i := 8) (N := some 60) (v := ?_) (a' := ?_) #[true, true, true, true, true, true, true, true, true, false, false, false, false, false, false] rfl rfl (any_of HT_.out (by kernel_rfl)) (fun _ _ _ h => h) (Or.inl ⟨by rfl, ?_⟩) ?_ ?_
      rotate_left
      · intro w'
        go_simp
        with_reducible rfl
      rotate_left
      · simp only [Act.put, List.setIfInBounds_toArray, List.set_cons_zero, List.set_cons_succ, i64_w, i32_w]
        rfl
      refine pure_ (i := 9) (N := some 61) (v := ?_) (a' := ?_) #[true, true, true, true, true, true, true, true, true, true, false, false, false, false, false] rfl rfl (any_of HT_.out (by kernel_rfl)) (fun _ _ _ h => h) (Or.inl ⟨by rfl, ?_⟩) ?_ ?_
      rotate_left
      · intro w'
        go_simp
        with_reducible rfl
      rotate_left
      · simp only [Act.put, List.setIfInBounds_toArray, List.set_cons_zero, List.set_cons_succ, i64_w, i32_w]
        rfl
      refine take_ (i := 11) (N := some 63) (v := ?_) (a' := ?_) #[true, true, true, true, true, true, true, true, true, true, false, true, false, false, false] rfl rfl (take_ofW HT_.out HW_.out (by kernel_rfl)) (fun _ _ _ h => h) (Or.inl ⟨by rfl, ?_⟩) hHeld ?_ ?_
      rotate_left
      · rintro w' ⟨s0, s1, s2, s3⟩
        go_simp
        with_reducible rfl
      rotate_left
      · simp only [Act.put, List.setIfInBounds_toArray, List.set_cons_zero, List.set_cons_succ, i64_w, i32_w]
        rfl
      refine one_ (i := 10) (N := some 62) #[true, true, true, true, true, true, true, true, true, true, true, true, false, false, false] rfl rfl (one_of HT_.out (by kernel_rfl)) (by decide) (fun K hK => ?_)
      refine goes_ Tryd.func14 (by kernel_rfl) rfl #[.pointer (some ⟨h, 0, none⟩)] (by rfl) rfl rfl (by (try simp only [List.map_toArray, List.map_cons, List.map_nil]); first | done | rfl) ?_
      with_reducible refine (HEn.out _ _ _ HX5.out.dw.two HX5.out.dw.low).mono ?_
      rintro e w6 ⟨v6, rfl, hR, hI, hB, hk⟩
      have HX6 := hid (HX5.out.keep2 hI hB hk)
      obtain ⟨A6, c6, hv6, hc6, hC6⟩ := Kd.R_reads hR
      subst hv6
      have HC6 := hid hC6
      clear hI hB hk hC6 hR
      refine ⟨_, rfl, ?_⟩
      refine hK.out _ _ ⟨cell_low HX6.out.dw.low HCell.out, HX6.out.cells⟩ (fun hHeld => ?_)
      clear hK K
      refine norm_ (a' := ?_) ?_ ?_
      rotate_left
      · show Act.put _ (some 62) _ = _
        simp only [Act.put, List.setIfInBounds_toArray, List.set_cons_zero, List.set_cons_succ, i64_w, i32_w]
        rfl
      refine one_ (i := 12) (N := some 64) #[true, true, true, true, true, true, true, true, true, true, true, true, true, false, false] rfl rfl (one_of HT_.out (by kernel_rfl)) (by decide) (fun K hK => ?_)
      refine goes_ Tryd.func13 (by kernel_rfl) rfl #[.agg #[.int .i64 (en y1).1.1, .slice A6 (en y1).1.2.1.length c6, .string (en y1).1.2.2], .agg #[.int .i64 (en y1).1.1, .slice A4 (en y1).1.2.1.length c4, .string (en y1).1.2.2]] (by rfl) rfl rfl (by (try simp only [List.map_toArray, List.map_cons, List.map_nil]); first | done | rfl) ?_
      with_reducible refine (HIs.out (en y1).1 (Nat.le_trans (HLn.out y1) (by omega)) A6 c6 A4 c4 _ HC6.out hc6 (Kd.R_reads' HX6.out.row).2.2 (Kd.R_reads' HX6.out.row).2.1).mono ?_
      rintro e w7 ⟨rfl, hb⟩
      have HX7 := hid (HX6.out.later hb)
      have HD7 := hid HX7.out.dw
      clear hb
      refine ⟨_, rfl, ?_⟩
      refine hK.out _ _ ⟨cell_low HX7.out.dw.low HCell.out, HX7.out.cells⟩ (fun hHeld => ?_)
      clear hK K
      refine norm_ (a' := ?_) ?_ ?_
      rotate_left
      · show Act.put _ (some 64) _ = _
        simp only [Act.put, List.setIfInBounds_toArray, List.set_cons_zero, List.set_cons_succ, i64_w, i32_w]
        rfl
      refine pure_ (i := 13) (N := some 65) (v := ?_) (a' := ?_) #[true, true, true, true, true, true, true, true, true, true, true, true, true, true, false] rfl rfl (any_of HT_.out (by kernel_rfl)) (fun _ _ _ h => h) (Or.inl ⟨by rfl, ?_⟩) ?_ ?_
      rotate_left
      · intro w'
        go_simp
        with_reducible rfl
      rotate_left
      · simp only [Act.put, List.setIfInBounds_toArray, List.set_cons_zero, List.set_cons_succ, i64_w, i32_w]
        rfl
      refine pure_ (i := 14) (N := some 66) (v := ?_) (a' := ?_) #[true, true, true, true, true, true, true, true, true, true, true, true, true, true, true] rfl rfl (any_of HT_.out (by kernel_rfl)) (fun _ _ _ h => h) (Or.inl ⟨by rfl, ?_⟩) ?_ ?_
      rotate_left
      · intro w'
        go_simp
        with_reducible rfl
      rotate_left
      · simp only [Act.put, List.setIfInBounds_toArray, List.set_cons_zero, List.set_cons_succ, i64_w, i32_w]
        rfl
      refine done_ (done_of HT_.out (by kernel_rfl)) ?_
      go_wp2_with fail
      go_roundg (min l.length 60 - (j + 1))
      case measure => omega
      case rel => exact ⟨j + 1, _, _, rfl, rfl, by simp, rfl, by omega, HD7⟩
    · have hcase : ¬ j < l.length ∨ (j < l.length ∧ decide ((j : Int) < 60) = false ∧ ¬ ((j : Int) < 60)) := by
        by_cases hq : j < l.length
        · exact .inr ⟨hq, decide_eq_false (by omega), by omega⟩
        · exact .inl hq
      have hd1 := hdr1 x1
      have HN1 := hid (fun W hI hB => gnext_any g x1 1 w W hI hB)
      rw [hd1] at HN1
      rcases hcase with b1 | ⟨b1, b2, b3⟩
      · go_wp2_with (first
          | (go_at_call 12; go_must (with_reducible refine (HN1.out _ HD.out.one HD.out.low).mono ?_); rintro e w5 ⟨rfl, hI, hB, hk⟩; have HB5 := hid hB; clear hI hB hk)
          | (go_at_call 15; go_must (with_reducible refine (HWk.out _ (HG0.out.later HB5.out)).mono ?_); rintro e w6 ⟨rfl, hb⟩; have HE := hid (HB5.out.trans (hb.mono HB5.out.size)); clear hb))
        go_ret
        exact ⟨rfl, HE.out⟩
      · go_wp2_with (first
          | (go_at_call 12; go_must (with_reducible refine (HN1.out _ HD.out.one HD.out.low).mono ?_); rintro e w5 ⟨rfl, hI, hB, hk⟩; have HB5 := hid hB; clear hI hB hk)
          | (go_at_call 15; go_must (with_reducible refine (HWk.out _ (HG0.out.later HB5.out)).mono ?_); rintro e w6 ⟨rfl, hb⟩; have HE := hid (HB5.out.trans (hb.mono HB5.out.size)); clear hb))
        go_ret
        exact ⟨rfl, HE.out⟩
end Go.Proofs.YtmgcapccgncmkaaDoor.Ld
