/- Load: the law LoadRight, walked. -/
import Derived.Test.YtmgcapccgncmkaaDoorMf
import Derived.Test.YtmgcapccgncmkaaDoorLn
set_option linter.unusedSimpArgs false
set_option linter.unusedVariables false
namespace Go.Proofs.YtmgcapccgncmkaaDoor.Ld
open Go.RowKit Go.Pv Go.Proofs.YtmgcapccgncmkaaDoor.PLoadScripts Go.Proofs.YtmgcapccgncmkaaDoorW.PrintWords Go.Proofs.YtmgcapccgncmkaaDoorW.PrintLast Go.Proofs.YtmgcapccgncmkaaDoorW.PrintMore

theorem below_eq (a : Int) (N : Nat) (h0 : 0 < N) (h1 : N ≤ 1000) (ha : -9223372036854775808 ≤ a ∧ a ≤ 9223372036854775807) : ∃ k : Nat, k < N ∧ PLoadRight.provostbook_Below.f a (N : Int) = some (k : Int) := by
  have e1 : Int.tmod a (N : Int) < N ∧ -(N : Int) < Int.tmod a (N : Int) := by
    have h := Int.tmod_lt_of_pos a (show (0 : Int) < N by omega)
    have h2 := Int.lt_tmod_of_pos a (show (0 : Int) < N by omega)
    exact ⟨h, h2⟩
  unfold PLoadRight.provostbook_Below.f
  rw [if_neg (by omega)]
  have hw : wrap64 (Int.tmod a (N : Int)) = Int.tmod a (N : Int) := by unfold wrap64; omega
  generalize Int.tmod a (N : Int) = t at *
  by_cases ht : t < 0
  · have hw2 : wrap64 (t + N) = t + N := by unfold wrap64; omega
    refine ⟨(t + N).toNat, by omega, ?_⟩
    rw [if_pos ht, hw2]
    congr 1
    omega
  · refine ⟨t.toNat, by omega, ?_⟩
    rw [if_neg ht]
    congr 1
    omega
theorem ents_take : ∀ (a b : Nat) (x : Int), a ≤ b → ents a x = (ents b x).take a
  | 0, b, x, _ => by simp [ents]
  | a + 1, 0, x, h => by omega
  | a + 1, b + 1, x, h => by rw [ents, ents, List.take_succ_cons, ents_take a b _ (by omega)]
theorem scr_take (x n : Int) (k : Nat) (h : k ≤ many n) : scr x (k : Int) = (scr x n).take (k + 1) := by
  have hk : many (k : Int) = k := by have := many_le n; unfold many at *; omega
  unfold scr
  rw [hk, List.take_succ_cons, ents_take k (many n) x h]
/-- While a script is looked through: it, what was read of its text, the shorter one. -/
structure LR (w W : World) (es fs : List Ent) (A : Option Addr) (A2 : Option Addr) (A3 : Option Addr) : Prop where
  low : Below w.heap.size w W
  one : k34.C W A es.length (es.map sE)
  two : k34.C W A2 es.length (es.map sE)
  thr : k34.C W A3 fs.length (fs.map sE)
theorem LR.later {w W V : World} {es fs : List Ent} {A A2 A3 : Option Addr} (h : LR w W es fs A A2 A3) (hb : Below W.heap.size W V) : LR w V es fs A A2 A3 :=
  ⟨h.low.trans (hb.mono h.low.size), Kd.C_below h.one hb, Kd.C_below h.two hb, Kd.C_below h.thr hb⟩
def reg5x12.T : Bool × List (List Nat × List Nat) := (true, [([], []), ([], []), ([0, 1], [0, 1]), ([2], [2]), ([3], [3]), ([4], [4]), ([5, 4], [5]), ([6], [6]), ([6], [6]), ([7, 8, 6], [6, 7, 8]), ([9, 6], [6, 9]), ([10, 6, 6], [6, 10]), ([6], [6]), ([6], [6]), ([12, 13, 6], [6, 12, 13]), ([14, 6], [6, 14]), ([15, 11, 6], [6, 15]), ([11, 16, 6], [6, 11, 16]), ([6, 17], [6, 17]), ([18, 16], [18]), ([19], [19]), ([19], [19]), ([21, 19], [19, 21]), ([20, 22, 19], [19, 20, 22]), ([23, 19, 19], [19, 23]), ([24], [24]), ([24], [24]), ([25, 26, 24], [24, 25, 26]), ([27, 24], [24, 27]), ([28, 24, 24], [24, 28]), ([24], [24]), ([24], [24]), ([30, 31, 24], [24, 30, 31]), ([32, 24], [24, 32]), ([33, 29, 24], [24, 33]), ([29, 34, 24], [24, 29, 34]), ([24, 35, 19], [19, 24, 35]), ([19, 36], [19, 36])])
def reg5x12.B : List Nat := [0, 0, 3, 7, 15, 31, 63, 127, 127, 511, 1023, 2047, 127, 127, 12415, 28799, 65535, 131071, 262143, 524287, 1048575, 1048575, 3145727, 8388607, 16777215, 33554431, 33554431, 134217727, 268435455, 536870911, 33554431, 33554431, 3254779903, 7549747199, 17179869183, 34359738367, 68719476735, 137438953471]
theorem reg5x12.tab : rtab .any (opsOf Tryd.f5 12) = reg5x12.T := by kernel_rfl
theorem reg5x12.bits : waitsOk reg5x12.T.2 reg5x12.B = true := by kernel_rfl

set_option maxRecDepth 10000 in
set_option maxHeartbeats 4000000 in
theorem rightLaw_any (x n a m : Int) (ha : -9223372036854775808 ≤ a ∧ a ≤ 9223372036854775807) (w : World) (hG : Gl w) (hm : w.cell? ⟨1, 0, none⟩ = some (.int .i64 m)) :
    Calls Tryd.prog 5 #[.int .u64 x, .int .i64 n, .int .i64 a] w fun e w' => e = .returned (.bool true) ∧ Below w.heap.size w w' := by
  have HS := hid (fun W => script_at x n W)
  have HTx := hid (fun W hG => ltext_any x n W hG)
  have HRd := hid (fun W hG hm => read_any (scr x n) (scr_ok x n) (scr_small x n) m W hG hm)
  have hes := scr_ok x n
  have hlen := scr_small x n
  have hln := scr_length x n
  have hml := many_le n
  obtain ⟨k, hk, hbe⟩ := below_eq a (scr x n).length (by omega) hlen ha
  have hfs := scr_take x n k (by omega)
  have HFs := hid (fun W => script_at x (k : Int) W)
  have hfl : (scr x (k : Int)).length = k + 1 := by rw [hfs, List.length_take]; omega
  have hfi : ∀ (i : Nat) (h1 : i < (scr x (k : Int)).length) (h2 : i < (scr x n).length), (scr x (k : Int))[i] = (scr x n)[i] := by
    intro i h1 h2
    have := List.getElem_take (xs := scr x n) (j := k + 1) (i := i) (h := by rw [← hfs]; exact h1)
    rw [← this]
    congr 1
  have HBe : Hid (∀ W, Calls Tryd.prog 22 #[.int .i64 a, .int .i64 ((scr x n).length : Int)] W fun e w' => e = .returned (.int .i64 (k : Int)) ∧ Below W.heap.size W w') := fun W => (PLoadRight.provostbook_Below.calls a _ _ W hbe).mono fun e w' h => ⟨h.1, h.2.below⟩
  have HFI := hid hfi
  generalize scr x n = es at HS HTx HRd hes hlen hk HBe HFI hln
  generalize scr x (k : Int) = fs at HFs hfl HFI
  clear hfs hfi hbe hln hml
  rw [hfl] at HFs
  have HES := hid hes
  have HLN := hid hlen
  have HK := hid hk
  have HFL := hid hfl
  have HWk := hid works_any
  have HG0 := hid hG
  have HM0 := hid hm
  have HRt := hid right_any
  have HLi := hid line_any
  have hkw : IntKind.i64.wrap ((k : Int) + 1) = (k : Int) + 1 := IntWalk.i64_in _ (by omega)
  clear hG hm hes hlen hk hfl
  go_enter Tryd.func5, Tryd.ntmps5
  go_wp2_with (first
    | (go_at_call 15; go_must (with_reducible refine (HWk.out _ HG0.out).mono ?_); rintro e w1 ⟨rfl, hb⟩; have HB1 := hid hb; clear hb)
    | (have h9 := HC2.out; clear h9; go_at_call 16; go_must (with_reducible refine (HFs.out _).mono ?_); rintro e w4 ⟨A3, c3, rfl, hc3, hC, hb⟩; have HC4 := hid (And.intro (HC3.out.1.trans (hb.mono HC3.out.1.size)) (And.intro (Kd.C_below HC3.out.2 hb) hC)); clear hC hb hc3 HC3 HC2)
    | (go_at_call 16; go_must (with_reducible refine (HS.out _).mono ?_); rintro e w2 ⟨A, c, rfl, hc, hC, hb⟩; have HC2 := hid (And.intro (HB1.out.trans (hb.mono HB1.out.size)) hC); clear hC hb hc)
    | (go_at_call 22; go_must (with_reducible refine (HBe.out _).mono ?_); rintro e w3 ⟨rfl, hb⟩; have HC3 := hid (And.intro (HC2.out.1.trans (hb.mono HC2.out.1.size)) (Kd.C_below HC2.out.2 hb)); clear hb)
    | (go_at_call 21; go_must (with_reducible refine (HTx.out _ (HG0.out.later HC4.out.1)).mono ?_); rintro e w5 ⟨rfl, hb⟩; have HC5 := hid (And.intro (HC4.out.1.trans (hb.mono HC4.out.1.size)) (And.intro (Kd.C_below HC4.out.2.1 hb) (Kd.C_below HC4.out.2.2 hb))); clear hb HC4)
    | (go_at_call 23; go_must (with_reducible refine (HRd.out _ (HG0.out.later HC5.out.1) (cell_on HC5.out.1 HM0.out)).mono ?_); rintro e w6 ⟨x6, rfl, hR, hb⟩; obtain ⟨A2, c2, hx6, hc2, hC⟩ := Kd.R_reads hR; rw [List.length_map] at hx6 hC; subst hx6; have HLR := hid (LR.mk (fs := fs) (HC5.out.1.trans (hb.mono HC5.out.1.size)) (Kd.C_below HC5.out.2.1 hb) hC (by rw [HFL.out]; exact Kd.C_below HC5.out.2.2 hb)); clear hb hR hC hc2 HC5))
  go_loopg [12] es.length (fun q s12 wr => ∃ j : Nat, s12 = .int .i64 (j : Int) ∧ q = es.length - j ∧ j ≤ es.length ∧ Hid (LR w wr es fs A A2 A3))
  case atStart => exact ⟨0, rfl, by omega, by omega, HLR⟩
  case round =>
    clear HLR
    obtain ⟨j, rfl, rfl, hj, HLR⟩ := hrel
    by_cases hjm : j < es.length
    · have b1 : decide ((j : Int) < (es.length : Int)) = true := decide_eq_true (by omega)
      obtain ⟨b1, o1, A1, c1, hA, k0, k1, k2, hc1, hC1⟩ := k34_at HLR.out.one j hjm
      subst hA
      obtain ⟨b2, o2, A2', c2', hA, l0, l1, l2, hc2, hC2⟩ := k34_at HLR.out.two j hjm
      subst hA
      have hok := HES.out es[j] (List.getElem_mem hjm)
      have hl1000 := HLN.out
      have hw1 : IntKind.i64.wrap ((j : Int) + 1) = ((j + 1 : Nat) : Int) := by rw [IntWalk.i64_in _ (by omega)]; omega
      by_cases hjk : j < k + 1
      · have hjf : j < fs.length := by rw [HFL.out]; exact hjk
        obtain ⟨b3, o3, A3', c3', hA, n0, n1, n2, hc3', hC3⟩ := k34_at HLR.out.thr j hjf
        subst hA
        rw [HFI.out j hjf hjm] at n0 n1 n2 hc3' hC3
        generalize es[j] = E at k0 k1 k2 hc1 hC1 l0 l1 l2 hc2 hC2 n0 n1 n2 hc3' hC3 hok
        have HR1 := hid (fun A c W hC hc hG => HRt.out E A c W hC hc hG)
        rw [hok.1] at HR1
        have HL1 := hid (fun A c W hC hc hG => HLi.out E hok.1 hok.2 A c W hC hc hG)
        generalize lineL E = L at HL1
        clear hok
        obtain ⟨v, ns, d⟩ := E
        simp only at k0 k1 k2 hc1 hC1 l0 l1 l2 hc2 hC2 n0 n1 n2 hc3' hC3 HR1 HL1
        have b5 : decide ((j : Int) < (k : Int) + 1) = true := decide_eq_true (by omega)
        have b6 : (j : Int) < (k : Int) + 1 := by omega
        have hq1 : (L.toList == L.toList) = true := beq_self_eq_true _
        have HC1 := hid hc1
        have HC2 := hid hc2
        have HC3 := hid hc3'
        have HST : Hid (∀ W V, (fun V : World => LR w V es fs (some ⟨b1, o1, none⟩) (some ⟨b2, o2, none⟩) (some ⟨b3, o3, none⟩) ∧ Kd.C (Kd.int .i64) V A1 ns.length ns ∧ Kd.C (Kd.int .i64) V A2' ns.length ns ∧ Kd.C (Kd.int .i64) V A3' ns.length ns ∧ V.cell? ⟨b1, o1 + j * 3, none⟩ = some (.int .i64 v) ∧ V.cell? ⟨b1, o1 + j * 3 + 1, none⟩ = some (.slice A1 ns.length c1) ∧ V.cell? ⟨b1, o1 + j * 3 + 2, none⟩ = some (.string d) ∧ V.cell? ⟨b2, o2 + j * 3, none⟩ = some (.int .i64 v) ∧ V.cell? ⟨b2, o2 + j * 3 + 1, none⟩ = some (.slice A2' ns.length c2') ∧ V.cell? ⟨b2, o2 + j * 3 + 2, none⟩ = some (.string d) ∧ V.cell? ⟨b3, o3 + j * 3, none⟩ = some (.int .i64 v) ∧ V.cell? ⟨b3, o3 + j * 3 + 1, none⟩ = some (.slice A3' ns.length c3') ∧ V.cell? ⟨b3, o3 + j * 3 + 2, none⟩ = some (.string d)) W → Below W.heap.size W V → (fun V : World => LR w V es fs (some ⟨b1, o1, none⟩) (some ⟨b2, o2, none⟩) (some ⟨b3, o3, none⟩) ∧ Kd.C (Kd.int .i64) V A1 ns.length ns ∧ Kd.C (Kd.int .i64) V A2' ns.length ns ∧ Kd.C (Kd.int .i64) V A3' ns.length ns ∧ V.cell? ⟨b1, o1 + j * 3, none⟩ = some (.int .i64 v) ∧ V.cell? ⟨b1, o1 + j * 3 + 1, none⟩ = some (.slice A1 ns.length c1) ∧ V.cell? ⟨b1, o1 + j * 3 + 2, none⟩ = some (.string d) ∧ V.cell? ⟨b2, o2 + j * 3, none⟩ = some (.int .i64 v) ∧ V.cell? ⟨b2, o2 + j * 3 + 1, none⟩ = some (.slice A2' ns.length c2') ∧ V.cell? ⟨b2, o2 + j * 3 + 2, none⟩ = some (.string d) ∧ V.cell? ⟨b3, o3 + j * 3, none⟩ = some (.int .i64 v) ∧ V.cell? ⟨b3, o3 + j * 3 + 1, none⟩ = some (.slice A3' ns.length c3') ∧ V.cell? ⟨b3, o3 + j * 3 + 2, none⟩ = some (.string d)) V) := fun W V h hb => ⟨h.1.later hb, Kd.C_below h.2.1 hb, Kd.C_below h.2.2.1 hb, Kd.C_below h.2.2.2.1 hb, cell_on hb h.2.2.2.2.1, cell_on hb h.2.2.2.2.2.1, cell_on hb h.2.2.2.2.2.2.1, cell_on hb h.2.2.2.2.2.2.2.1, cell_on hb h.2.2.2.2.2.2.2.2.1, cell_on hb h.2.2.2.2.2.2.2.2.2.1, cell_on hb h.2.2.2.2.2.2.2.2.2.2.1, cell_on hb h.2.2.2.2.2.2.2.2.2.2.2.1, cell_on hb h.2.2.2.2.2.2.2.2.2.2.2.2⟩
        have HX : Hid ((fun V : World => LR w V es fs (some ⟨b1, o1, none⟩) (some ⟨b2, o2, none⟩) (some ⟨b3, o3, none⟩) ∧ Kd.C (Kd.int .i64) V A1 ns.length ns ∧ Kd.C (Kd.int .i64) V A2' ns.length ns ∧ Kd.C (Kd.int .i64) V A3' ns.length ns ∧ V.cell? ⟨b1, o1 + j * 3, none⟩ = some (.int .i64 v) ∧ V.cell? ⟨b1, o1 + j * 3 + 1, none⟩ = some (.slice A1 ns.length c1) ∧ V.cell? ⟨b1, o1 + j * 3 + 2, none⟩ = some (.string d) ∧ V.cell? ⟨b2, o2 + j * 3, none⟩ = some (.int .i64 v) ∧ V.cell? ⟨b2, o2 + j * 3 + 1, none⟩ = some (.slice A2' ns.length c2') ∧ V.cell? ⟨b2, o2 + j * 3 + 2, none⟩ = some (.string d) ∧ V.cell? ⟨b3, o3 + j * 3, none⟩ = some (.int .i64 v) ∧ V.cell? ⟨b3, o3 + j * 3 + 1, none⟩ = some (.slice A3' ns.length c3') ∧ V.cell? ⟨b3, o3 + j * 3 + 2, none⟩ = some (.string d)) wr) := ⟨HLR.out, hC1, hC2, hC3, k0, k1, k2, l0, l1, l2, n0, n1, n2⟩
        clear k0 k1 k2 l0 l1 l2 n0 n1 n2 hC1 hC2 hC3 hc1 hc2 hc3' HLR
        go_wp2_with fail
        obtain ⟨Wd, hWd⟩ : ∃ Wd, Wd = wr.drew := ⟨_, rfl⟩
        have HWd := hid hWd
        have HXd : Hid ((fun V : World => LR w V es fs (some ⟨b1, o1, none⟩) (some ⟨b2, o2, none⟩) (some ⟨b3, o3, none⟩) ∧ Kd.C (Kd.int .i64) V A1 ns.length ns ∧ Kd.C (Kd.int .i64) V A2' ns.length ns ∧ Kd.C (Kd.int .i64) V A3' ns.length ns ∧ V.cell? ⟨b1, o1 + j * 3, none⟩ = some (.int .i64 v) ∧ V.cell? ⟨b1, o1 + j * 3 + 1, none⟩ = some (.slice A1 ns.length c1) ∧ V.cell? ⟨b1, o1 + j * 3 + 2, none⟩ = some (.string d) ∧ V.cell? ⟨b2, o2 + j * 3, none⟩ = some (.int .i64 v) ∧ V.cell? ⟨b2, o2 + j * 3 + 1, none⟩ = some (.slice A2' ns.length c2') ∧ V.cell? ⟨b2, o2 + j * 3 + 2, none⟩ = some (.string d) ∧ V.cell? ⟨b3, o3 + j * 3, none⟩ = some (.int .i64 v) ∧ V.cell? ⟨b3, o3 + j * 3 + 1, none⟩ = some (.slice A3' ns.length c3') ∧ V.cell? ⟨b3, o3 + j * 3 + 2, none⟩ = some (.string d)) Wd) := by rw [hWd]; exact HST.out _ _ HX.out (Below.refl _ wr).drew
        clear hWd HX
        refine start_ (n := 38) (S := fun V : World => V.cell? ⟨b1, o1 + j * 3, none⟩ = some (.int .i64 v) ∧ V.cell? ⟨b1, o1 + j * 3 + 1, none⟩ = some (.slice A1 ns.length c1) ∧ V.cell? ⟨b1, o1 + j * 3 + 2, none⟩ = some (.string d) ∧ V.cell? ⟨b2, o2 + j * 3, none⟩ = some (.int .i64 v) ∧ V.cell? ⟨b2, o2 + j * 3 + 1, none⟩ = some (.slice A2' ns.length c2') ∧ V.cell? ⟨b2, o2 + j * 3 + 2, none⟩ = some (.string d) ∧ V.cell? ⟨b3, o3 + j * 3, none⟩ = some (.int .i64 v) ∧ V.cell? ⟨b3, o3 + j * 3 + 1, none⟩ = some (.slice A3' ns.length c3') ∧ V.cell? ⟨b3, o3 + j * 3 + 2, none⟩ = some (.string d)) (ds := []) #[false, false, false, false, false, false, false, false, false, false, false, false, false, false, false, false, false, false, false, false, false, false, false, false, false, false, false, false, false, false, false, false, false, false, false, false, false, false] (by kernel_rfl) rfl rfl (by rw [← HWd.out]; exact HXd.out.2.2.2.2) (fun hHeld => ?_); refine with_tabW reg5x12.tab reg5x12.bits (fun HT_ HW_ => ?_)
        rw [← HWd.out] at hHeld ⊢
        refine pure_ (i := 0) (N := some 60) (v := ?_) (a' := ?_) #[true, false, false, false, false, false, false, false, false, false, false, false, false, false, false, false, false, false, false, false, false, false, false, false, false, false, false, false, false, false, false, false, false, false, false, false, false, false] rfl rfl (any_of HT_.out (by kernel_rfl)) (fun _ _ _ h => h) (Or.inl ⟨by rfl, ?_⟩) ?_ ?_
        rotate_left
        · intro w'
          go_simp
          with_reducible rfl
        rotate_left
        · simp only [Act.put, List.setIfInBounds_toArray, List.set_cons_zero, List.set_cons_succ, i64_w, i32_w]
          rfl
        refine pure_ (i := 1) (N := some 61) (v := ?_) (a' := ?_) #[true, true, false, false, false, false, false, false, false, false, false, false, false, false, false, false, false, false, false, false, false, false, false, false, false, false, false, false, false, false, false, false, false, false, false, false, false, false] rfl rfl (any_of HT_.out (by kernel_rfl)) (fun _ _ _ h => h) (Or.inl ⟨by rfl, ?_⟩) ?_ ?_
        rotate_left
        · intro w'
          go_simp
          with_reducible rfl
        rotate_left
        · simp only [Act.put, List.setIfInBounds_toArray, List.set_cons_zero, List.set_cons_succ, i64_w, i32_w]
          rfl
        refine pure_ (i := 2) (N := some 62) (v := ?_) (a' := ?_) #[true, true, true, false, false, false, false, false, false, false, false, false, false, false, false, false, false, false, false, false, false, false, false, false, false, false, false, false, false, false, false, false, false, false, false, false, false, false] rfl rfl (any_of HT_.out (by kernel_rfl)) (fun _ _ _ h => h) (Or.inl ⟨by rfl, ?_⟩) ?_ ?_
        rotate_left
        · intro w'
          go_simp
          with_reducible rfl
        rotate_left
        · simp only [Act.put, List.setIfInBounds_toArray, List.set_cons_zero, List.set_cons_succ, i64_w, i32_w]
          rfl
        refine take_ (i := 3) (N := some 63) (v := ?_) (a' := ?_) #[true, true, true, true, false, false, false, false, false, false, false, false, false, false, false, false, false, false, false, false, false, false, false, false, false, false, false, false, false, false, false, false, false, false, false, false, false, false] rfl rfl (take_ofW HT_.out HW_.out (by kernel_rfl)) (fun _ _ _ h => h) (Or.inl ⟨by rfl, ?_⟩) hHeld ?_ ?_
        rotate_left
        · rintro w' ⟨s0, s1, s2, s3, s4, s5, s6, s7, s8⟩
          go_simp
          with_reducible rfl
        rotate_left
        · simp only [Act.put, List.setIfInBounds_toArray, List.set_cons_zero, List.set_cons_succ, i64_w, i32_w]
          rfl
        refine one_ (i := 4) (N := some 64) #[true, true, true, true, true, false, false, false, false, false, false, false, false, false, false, false, false, false, false, false, false, false, false, false, false, false, false, false, false, false, false, false, false, false, false, false, false, false] rfl rfl (one_of HT_.out (by kernel_rfl)) (by decide) (fun K hK => ?_)
        refine goes_ Tryd.func24 (by kernel_rfl) rfl #[.agg #[.int .i64 v, .slice A1 ns.length c1, .string d]] (by rfl) rfl rfl (by (try simp only [List.map_toArray, List.map_cons, List.map_nil]); first | done | rfl) ?_
        with_reducible refine (HR1.out A1 c1 _ HXd.out.2.1 HC1.out (HG0.out.later HXd.out.1.low)).mono ?_
        rintro e w1 ⟨rfl, hb⟩
        have HX1 := hid (HST.out _ _ HXd.out hb)
        clear hb
        refine ⟨_, rfl, ?_⟩
        refine hK.out _ _ HX1.out.2.2.2.2 (fun hHeld => ?_)
        clear hK K
        refine norm_ (a' := ?_) ?_ ?_
        rotate_left
        · show Act.put _ (some 64) _ = _
          simp only [Act.put, List.setIfInBounds_toArray, List.set_cons_zero, List.set_cons_succ, i64_w, i32_w]
          rfl
        refine pure_ (i := 5) (N := some 65) (v := ?_) (a' := ?_) #[true, true, true, true, true, true, false, false, false, false, false, false, false, false, false, false, false, false, false, false, false, false, false, false, false, false, false, false, false, false, false, false, false, false, false, false, false, false] rfl rfl (any_of HT_.out (by kernel_rfl)) (fun _ _ _ h => h) (Or.inl ⟨by rfl, ?_⟩) ?_ ?_
        rotate_left
        · intro w'
          go_simp
          with_reducible rfl
        rotate_left
        · simp only [Act.put, List.setIfInBounds_toArray, List.set_cons_zero, List.set_cons_succ, i64_w, i32_w]
          rfl
        refine pure_ (i := 6) (N := some 66) (v := ?_) (a' := ?_) #[true, true, true, true, true, true, true, false, false, false, false, false, false, false, false, false, false, false, false, false, false, false, false, false, false, false, false, false, false, false, false, false, false, false, false, false, false, false] rfl rfl (any_of HT_.out (by kernel_rfl)) (fun _ _ _ h => h) (Or.inl ⟨by rfl, ?_⟩) ?_ ?_
        rotate_left
        · intro w'
          go_simp
          with_reducible rfl
        rotate_left
        · simp only [Act.put, List.setIfInBounds_toArray, List.set_cons_zero, List.set_cons_succ, i64_w, i32_w]
          rfl
        refine pure_ (i := 7) (N := some 67) (v := ?_) (a' := ?_) #[true, true, true, true, true, true, true, true, false, false, false, false, false, false, false, false, false, false, false, false, false, false, false, false, false, false, false, false, false, false, false, false, false, false, false, false, false, false] rfl rfl (any_of HT_.out (by kernel_rfl)) (fun _ _ _ h => h) (Or.inl ⟨by rfl, ?_⟩) ?_ ?_
        rotate_left
        · intro w'
          go_simp
          with_reducible rfl
        rotate_left
        · simp only [Act.put, List.setIfInBounds_toArray, List.set_cons_zero, List.set_cons_succ, i64_w, i32_w]
          rfl
        refine pure_ (i := 8) (N := some 68) (v := ?_) (a' := ?_) #[true, true, true, true, true, true, true, true, true, false, false, false, false, false, false, false, false, false, false, false, false, false, false, false, false, false, false, false, false, false, false, false, false, false, false, false, false, false] rfl rfl (any_of HT_.out (by kernel_rfl)) (fun _ _ _ h => h) (Or.inl ⟨by rfl, ?_⟩) ?_ ?_
        rotate_left
        · intro w'
          go_simp
          with_reducible rfl
        rotate_left
        · simp only [Act.put, List.setIfInBounds_toArray, List.set_cons_zero, List.set_cons_succ, i64_w, i32_w]
          rfl
        refine pure_ (i := 9) (N := some 69) (v := ?_) (a' := ?_) #[true, true, true, true, true, true, true, true, true, true, false, false, false, false, false, false, false, false, false, false, false, false, false, false, false, false, false, false, false, false, false, false, false, false, false, false, false, false] rfl rfl (any_of HT_.out (by kernel_rfl)) (fun _ _ _ h => h) (Or.inl ⟨by rfl, ?_⟩) ?_ ?_
        rotate_left
        · intro w'
          go_simp
          with_reducible rfl
        rotate_left
        · simp only [Act.put, List.setIfInBounds_toArray, List.set_cons_zero, List.set_cons_succ, i64_w, i32_w]
          rfl
        refine pure_ (i := 12) (N := some 72) (v := ?_) (a' := ?_) #[true, true, true, true, true, true, true, true, true, true, false, false, true, false, false, false, false, false, false, false, false, false, false, false, false, false, false, false, false, false, false, false, false, false, false, false, false, false] rfl rfl (any_of HT_.out (by kernel_rfl)) (fun _ _ _ h => h) (Or.inl ⟨by rfl, ?_⟩) ?_ ?_
        rotate_left
        · intro w'
          go_simp
          with_reducible rfl
        rotate_left
        · simp only [Act.put, List.setIfInBounds_toArray, List.set_cons_zero, List.set_cons_succ, i64_w, i32_w]
          rfl
        refine pure_ (i := 13) (N := some 73) (v := ?_) (a' := ?_) #[true, true, true, true, true, true, true, true, true, true, false, false, true, true, false, false, false, false, false, false, false, false, false, false, false, false, false, false, false, false, false, false, false, false, false, false, false, false] rfl rfl (any_of HT_.out (by kernel_rfl)) (fun _ _ _ h => h) (Or.inl ⟨by rfl, ?_⟩) ?_ ?_
        rotate_left
        · intro w'
          go_simp
          with_reducible rfl
        rotate_left
        · simp only [Act.put, List.setIfInBounds_toArray, List.set_cons_zero, List.set_cons_succ, i64_w, i32_w]
          rfl
        refine pure_ (i := 14) (N := some 74) (v := ?_) (a' := ?_) #[true, true, true, true, true, true, true, true, true, true, false, false, true, true, true, false, false, false, false, false, false, false, false, false, false, false, false, false, false, false, false, false, false, false, false, false, false, false] rfl rfl (any_of HT_.out (by kernel_rfl)) (fun _ _ _ h => h) (Or.inl ⟨by rfl, ?_⟩) ?_ ?_
        rotate_left
        · intro w'
          go_simp
          with_reducible rfl
        rotate_left
        · simp only [Act.put, List.setIfInBounds_toArray, List.set_cons_zero, List.set_cons_succ, i64_w, i32_w]
          rfl
        refine take_ (i := 10) (N := some 70) (v := ?_) (a' := ?_) #[true, true, true, true, true, true, true, true, true, true, true, false, true, true, true, false, false, false, false, false, false, false, false, false, false, false, false, false, false, false, false, false, false, false, false, false, false, false] rfl rfl (take_ofW HT_.out HW_.out (by kernel_rfl)) (fun _ _ _ h => h) (Or.inl ⟨by rfl, ?_⟩) hHeld ?_ ?_
        rotate_left
        · rintro w' ⟨s0, s1, s2, s3, s4, s5, s6, s7, s8⟩
          go_simp
          with_reducible rfl
        rotate_left
        · simp only [Act.put, List.setIfInBounds_toArray, List.set_cons_zero, List.set_cons_succ, i64_w, i32_w]
          rfl
        refine take_ (i := 15) (N := some 75) (v := ?_) (a' := ?_) #[true, true, true, true, true, true, true, true, true, true, true, false, true, true, true, true, false, false, false, false, false, false, false, false, false, false, false, false, false, false, false, false, false, false, false, false, false, false] rfl rfl (take_ofW HT_.out HW_.out (by kernel_rfl)) (fun _ _ _ h => h) (Or.inl ⟨by rfl, ?_⟩) hHeld ?_ ?_
        rotate_left
        · rintro w' ⟨s0, s1, s2, s3, s4, s5, s6, s7, s8⟩
          go_simp
          with_reducible rfl
        rotate_left
        · simp only [Act.put, List.setIfInBounds_toArray, List.set_cons_zero, List.set_cons_succ, i64_w, i32_w]
          rfl
        refine one_ (i := 11) (N := some 71) #[true, true, true, true, true, true, true, true, true, true, true, true, true, true, true, true, false, false, false, false, false, false, false, false, false, false, false, false, false, false, false, false, false, false, false, false, false, false] rfl rfl (one_of HT_.out (by kernel_rfl)) (by decide) (fun K hK => ?_)
        refine goes_ Tryd.func25 (by kernel_rfl) rfl #[.agg #[.int .i64 v, .slice A1 ns.length c1, .string d]] (by rfl) rfl rfl (by (try simp only [List.map_toArray, List.map_cons, List.map_nil]); first | done | rfl) ?_
        with_reducible refine (HL1.out A1 c1 _ HX1.out.2.1 HC1.out (HG0.out.later HX1.out.1.low)).mono ?_
        rintro e w2 ⟨rfl, hb⟩
        have HX2 := hid (HST.out _ _ HX1.out hb)
        clear hb
        refine ⟨_, rfl, ?_⟩
        refine hK.out _ _ HX2.out.2.2.2.2 (fun hHeld => ?_)
        clear hK K
        refine norm_ (a' := ?_) ?_ ?_
        rotate_left
        · show Act.put _ (some 71) _ = _
          simp only [Act.put, List.setIfInBounds_toArray, List.set_cons_zero, List.set_cons_succ, i64_w, i32_w]
          rfl
        refine one_ (i := 16) (N := some 76) #[true, true, true, true, true, true, true, true, true, true, true, true, true, true, true, true, true, false, false, false, false, false, false, false, false, false, false, false, false, false, false, false, false, false, false, false, false, false] rfl rfl (one_of HT_.out (by kernel_rfl)) (by decide) (fun K hK => ?_)
        refine goes_ Tryd.func25 (by kernel_rfl) rfl #[.agg #[.int .i64 v, .slice A2' ns.length c2', .string d]] (by rfl) rfl rfl (by (try simp only [List.map_toArray, List.map_cons, List.map_nil]); first | done | rfl) ?_
        with_reducible refine (HL1.out A2' c2' _ HX2.out.2.2.1 HC2.out (HG0.out.later HX2.out.1.low)).mono ?_
        rintro e w3 ⟨rfl, hb⟩
        have HX3 := hid (HST.out _ _ HX2.out hb)
        clear hb
        refine ⟨_, rfl, ?_⟩
        refine hK.out _ _ HX3.out.2.2.2.2 (fun hHeld => ?_)
        clear hK K
        refine norm_ (a' := ?_) ?_ ?_
        rotate_left
        · show Act.put _ (some 76) _ = _
          simp only [Act.put, List.setIfInBounds_toArray, List.set_cons_zero, List.set_cons_succ, i64_w, i32_w]
          rfl
        refine pure_ (i := 17) (N := some 77) (v := ?_) (a' := ?_) #[true, true, true, true, true, true, true, true, true, true, true, true, true, true, true, true, true, true, false, false, false, false, false, false, false, false, false, false, false, false, false, false, false, false, false, false, false, false] rfl rfl (any_of HT_.out (by kernel_rfl)) (fun _ _ _ h => h) (Or.inl ⟨by rfl, ?_⟩) ?_ ?_
        rotate_left
        · intro w'
          go_simp
          with_reducible rfl
        rotate_left
        · simp only [Act.put, List.setIfInBounds_toArray, List.set_cons_zero, List.set_cons_succ, i64_w, i32_w]
          rfl
        refine pure_ (i := 18) (N := some 78) (v := ?_) (a' := ?_) #[true, true, true, true, true, true, true, true, true, true, true, true, true, true, true, true, true, true, true, false, false, false, false, false, false, false, false, false, false, false, false, false, false, false, false, false, false, false] rfl rfl (any_of HT_.out (by kernel_rfl)) (fun _ _ _ h => h) (Or.inl ⟨by rfl, ?_⟩) ?_ ?_
        rotate_left
        · intro w'
          go_simp
          with_reducible rfl
        rotate_left
        · simp only [Act.put, List.setIfInBounds_toArray, List.set_cons_zero, List.set_cons_succ, i64_w, i32_w]
          rfl
        refine pure_ (i := 19) (N := some 79) (v := ?_) (a' := ?_) #[true, true, true, true, true, true, true, true, true, true, true, true, true, true, true, true, true, true, true, true, false, false, false, false, false, false, false, false, false, false, false, false, false, false, false, false, false, false] rfl rfl (any_of HT_.out (by kernel_rfl)) (fun _ _ _ h => h) (Or.inl ⟨by rfl, ?_⟩) ?_ ?_
        rotate_left
        · intro w'
          go_simp
          with_reducible rfl
        rotate_left
        · simp only [Act.put, List.setIfInBounds_toArray, List.set_cons_zero, List.set_cons_succ, i64_w, i32_w]
          rfl
        refine pure_ (i := 20) (N := some 80) (v := ?_) (a' := ?_) #[true, true, true, true, true, true, true, true, true, true, true, true, true, true, true, true, true, true, true, true, true, false, false, false, false, false, false, false, false, false, false, false, false, false, false, false, false, false] rfl rfl (any_of HT_.out (by kernel_rfl)) (fun _ _ _ h => h) (Or.inl ⟨by rfl, ?_⟩) ?_ ?_
        rotate_left
        · intro w'
          go_simp
          with_reducible rfl
        rotate_left
        · simp only [Act.put, List.setIfInBounds_toArray, List.set_cons_zero, List.set_cons_succ, i64_w, i32_w]
          rfl
        refine pure_ (i := 21) (N := some 81) (v := ?_) (a' := ?_) #[true, true, true, true, true, true, true, true, true, true, true, true, true, true, true, true, true, true, true, true, true, true, false, false, false, false, false, false, false, false, false, false, false, false, false, false, false, false] rfl rfl (any_of HT_.out (by kernel_rfl)) (fun _ _ _ h => h) (Or.inl ⟨by rfl, ?_⟩) ?_ ?_
        rotate_left
        · intro w'
          go_simp
          with_reducible rfl
        rotate_left
        · simp only [Act.put, List.setIfInBounds_toArray, List.set_cons_zero, List.set_cons_succ, i64_w, i32_w]
          rfl
        refine pure_ (i := 22) (N := some 82) (v := ?_) (a' := ?_) #[true, true, true, true, true, true, true, true, true, true, true, true, true, true, true, true, true, true, true, true, true, true, true, false, false, false, false, false, false, false, false, false, false, false, false, false, false, false] rfl rfl (any_of HT_.out (by kernel_rfl)) (fun _ _ _ h => h) (Or.inl ⟨by rfl, ?_⟩) ?_ ?_
        rotate_left
        · intro w'
          go_simp
          with_reducible rfl
        rotate_left
        · simp only [Act.put, List.setIfInBounds_toArray, List.set_cons_zero, List.set_cons_succ, i64_w, i32_w]
          rfl
        refine pure_ (i := 23) (N := some 83) (v := ?_) (a' := ?_) #[true, true, true, true, true, true, true, true, true, true, true, true, true, true, true, true, true, true, true, true, true, true, true, true, false, false, false, false, false, false, false, false, false, false, false, false, false, false] rfl rfl (any_of HT_.out (by kernel_rfl)) (fun _ _ _ h => h) (Or.inl ⟨by rfl, ?_⟩) ?_ ?_
        rotate_left
        · intro w'
          go_simp
          with_reducible rfl
        rotate_left
        · simp only [Act.put, List.setIfInBounds_toArray, List.set_cons_zero, List.set_cons_succ, i64_w, i32_w]
          rfl
        refine pure_ (i := 24) (N := some 84) (v := ?_) (a' := ?_) #[true, true, true, true, true, true, true, true, true, true, true, true, true, true, true, true, true, true, true, true, true, true, true, true, true, false, false, false, false, false, false, false, false, false, false, false, false, false] rfl rfl (any_of HT_.out (by kernel_rfl)) (fun _ _ _ h => h) (Or.inl ⟨by rfl, ?_⟩) ?_ ?_
        rotate_left
        · intro w'
          go_simp
          with_reducible rfl
        rotate_left
        · simp only [Act.put, List.setIfInBounds_toArray, List.set_cons_zero, List.set_cons_succ, i64_w, i32_w]
          rfl
        refine pure_ (i := 25) (N := some 85) (v := ?_) (a' := ?_) #[true, true, true, true, true, true, true, true, true, true, true, true, true, true, true, true, true, true, true, true, true, true, true, true, true, true, false, false, false, false, false, false, false, false, false, false, false, false] rfl rfl (any_of HT_.out (by kernel_rfl)) (fun _ _ _ h => h) (Or.inl ⟨by rfl, ?_⟩) ?_ ?_
        rotate_left
        · intro w'
          go_simp
          with_reducible rfl
        rotate_left
        · simp only [Act.put, List.setIfInBounds_toArray, List.set_cons_zero, List.set_cons_succ, i64_w, i32_w]
          rfl
        refine pure_ (i := 26) (N := some 86) (v := ?_) (a' := ?_) #[true, true, true, true, true, true, true, true, true, true, true, true, true, true, true, true, true, true, true, true, true, true, true, true, true, true, true, false, false, false, false, false, false, false, false, false, false, false] rfl rfl (any_of HT_.out (by kernel_rfl)) (fun _ _ _ h => h) (Or.inl ⟨by rfl, ?_⟩) ?_ ?_
        rotate_left
        · intro w'
          go_simp
          with_reducible rfl
        rotate_left
        · simp only [Act.put, List.setIfInBounds_toArray, List.set_cons_zero, List.set_cons_succ, i64_w, i32_w]
          rfl
        refine pure_ (i := 27) (N := some 87) (v := ?_) (a' := ?_) #[true, true, true, true, true, true, true, true, true, true, true, true, true, true, true, true, true, true, true, true, true, true, true, true, true, true, true, true, false, false, false, false, false, false, false, false, false, false] rfl rfl (any_of HT_.out (by kernel_rfl)) (fun _ _ _ h => h) (Or.inl ⟨by rfl, ?_⟩) ?_ ?_
        rotate_left
        · intro w'
          go_simp
          with_reducible rfl
        rotate_left
        · simp only [Act.put, List.setIfInBounds_toArray, List.set_cons_zero, List.set_cons_succ, i64_w, i32_w]
          rfl
        refine pure_ (i := 30) (N := some 90) (v := ?_) (a' := ?_) #[true, true, true, true, true, true, true, true, true, true, true, true, true, true, true, true, true, true, true, true, true, true, true, true, true, true, true, true, false, false, true, false, false, false, false, false, false, false] rfl rfl (any_of HT_.out (by kernel_rfl)) (fun _ _ _ h => h) (Or.inl ⟨by rfl, ?_⟩) ?_ ?_
        rotate_left
        · intro w'
          go_simp
          with_reducible rfl
        rotate_left
        · simp only [Act.put, List.setIfInBounds_toArray, List.set_cons_zero, List.set_cons_succ, i64_w, i32_w]
          rfl
        refine pure_ (i := 31) (N := some 91) (v := ?_) (a' := ?_) #[true, true, true, true, true, true, true, true, true, true, true, true, true, true, true, true, true, true, true, true, true, true, true, true, true, true, true, true, false, false, true, true, false, false, false, false, false, false] rfl rfl (any_of HT_.out (by kernel_rfl)) (fun _ _ _ h => h) (Or.inl ⟨by rfl, ?_⟩) ?_ ?_
        rotate_left
        · intro w'
          go_simp
          with_reducible rfl
        rotate_left
        · simp only [Act.put, List.setIfInBounds_toArray, List.set_cons_zero, List.set_cons_succ, i64_w, i32_w]
          rfl
        refine pure_ (i := 32) (N := some 92) (v := ?_) (a' := ?_) #[true, true, true, true, true, true, true, true, true, true, true, true, true, true, true, true, true, true, true, true, true, true, true, true, true, true, true, true, false, false, true, true, true, false, false, false, false, false] rfl rfl (any_of HT_.out (by kernel_rfl)) (fun _ _ _ h => h) (Or.inl ⟨by rfl, ?_⟩) ?_ ?_
        rotate_left
        · intro w'
          go_simp
          with_reducible rfl
        rotate_left
        · simp only [Act.put, List.setIfInBounds_toArray, List.set_cons_zero, List.set_cons_succ, i64_w, i32_w]
          rfl
        refine take_ (i := 28) (N := some 88) (v := ?_) (a' := ?_) #[true, true, true, true, true, true, true, true, true, true, true, true, true, true, true, true, true, true, true, true, true, true, true, true, true, true, true, true, true, false, true, true, true, false, false, false, false, false] rfl rfl (take_ofW HT_.out HW_.out (by kernel_rfl)) (fun _ _ _ h => h) (Or.inl ⟨by rfl, ?_⟩) hHeld ?_ ?_
        rotate_left
        · rintro w' ⟨s0, s1, s2, s3, s4, s5, s6, s7, s8⟩
          go_simp
          with_reducible rfl
        rotate_left
        · simp only [Act.put, List.setIfInBounds_toArray, List.set_cons_zero, List.set_cons_succ, i64_w, i32_w]
          rfl
        refine take_ (i := 33) (N := some 93) (v := ?_) (a' := ?_) #[true, true, true, true, true, true, true, true, true, true, true, true, true, true, true, true, true, true, true, true, true, true, true, true, true, true, true, true, true, false, true, true, true, true, false, false, false, false] rfl rfl (take_ofW HT_.out HW_.out (by kernel_rfl)) (fun _ _ _ h => h) (Or.inl ⟨by rfl, ?_⟩) hHeld ?_ ?_
        rotate_left
        · rintro w' ⟨s0, s1, s2, s3, s4, s5, s6, s7, s8⟩
          go_simp
          with_reducible rfl
        rotate_left
        · simp only [Act.put, List.setIfInBounds_toArray, List.set_cons_zero, List.set_cons_succ, i64_w, i32_w]
          rfl
        refine one_ (i := 29) (N := some 89) #[true, true, true, true, true, true, true, true, true, true, true, true, true, true, true, true, true, true, true, true, true, true, true, true, true, true, true, true, true, true, true, true, true, true, false, false, false, false] rfl rfl (one_of HT_.out (by kernel_rfl)) (by decide) (fun K hK => ?_)
        refine goes_ Tryd.func25 (by kernel_rfl) rfl #[.agg #[.int .i64 v, .slice A3' ns.length c3', .string d]] (by rfl) rfl rfl (by (try simp only [List.map_toArray, List.map_cons, List.map_nil]); first | done | rfl) ?_
        with_reducible refine (HL1.out A3' c3' _ HX3.out.2.2.2.1 HC3.out (HG0.out.later HX3.out.1.low)).mono ?_
        rintro e w4 ⟨rfl, hb⟩
        have HX4 := hid (HST.out _ _ HX3.out hb)
        clear hb
        refine ⟨_, rfl, ?_⟩
        refine hK.out _ _ HX4.out.2.2.2.2 (fun hHeld => ?_)
        clear hK K
        refine norm_ (a' := ?_) ?_ ?_
        rotate_left
        · show Act.put _ (some 89) _ = _
          simp only [Act.put, List.setIfInBounds_toArray, List.set_cons_zero, List.set_cons_succ, i64_w, i32_w]
          rfl
        refine one_ (i := 34) (N := some 94) #[true, true, true, true, true, true, true, true, true, true, true, true, true, true, true, true, true, true, true, true, true, true, true, true, true, true, true, true, true, true, true, true, true, true, true, false, false, false] rfl rfl (one_of HT_.out (by kernel_rfl)) (by decide) (fun K hK => ?_)
        refine goes_ Tryd.func25 (by kernel_rfl) rfl #[.agg #[.int .i64 v, .slice A1 ns.length c1, .string d]] (by rfl) rfl rfl (by (try simp only [List.map_toArray, List.map_cons, List.map_nil]); first | done | rfl) ?_
        with_reducible refine (HL1.out A1 c1 _ HX4.out.2.1 HC1.out (HG0.out.later HX4.out.1.low)).mono ?_
        rintro e w5 ⟨rfl, hb⟩
        have HX5 := hid (HST.out _ _ HX4.out hb)
        clear hb
        refine ⟨_, rfl, ?_⟩
        refine hK.out _ _ HX5.out.2.2.2.2 (fun hHeld => ?_)
        clear hK K
        refine norm_ (a' := ?_) ?_ ?_
        rotate_left
        · show Act.put _ (some 94) _ = _
          simp only [Act.put, List.setIfInBounds_toArray, List.set_cons_zero, List.set_cons_succ, i64_w, i32_w]
          rfl
        refine pure_ (i := 35) (N := some 95) (v := ?_) (a' := ?_) #[true, true, true, true, true, true, true, true, true, true, true, true, true, true, true, true, true, true, true, true, true, true, true, true, true, true, true, true, true, true, true, true, true, true, true, true, false, false] rfl rfl (any_of HT_.out (by kernel_rfl)) (fun _ _ _ h => h) (Or.inl ⟨by rfl, ?_⟩) ?_ ?_
        rotate_left
        · intro w'
          go_simp
          with_reducible rfl
        rotate_left
        · simp only [Act.put, List.setIfInBounds_toArray, List.set_cons_zero, List.set_cons_succ, i64_w, i32_w]
          rfl
        refine pure_ (i := 36) (N := some 96) (v := ?_) (a' := ?_) #[true, true, true, true, true, true, true, true, true, true, true, true, true, true, true, true, true, true, true, true, true, true, true, true, true, true, true, true, true, true, true, true, true, true, true, true, true, false] rfl rfl (any_of HT_.out (by kernel_rfl)) (fun _ _ _ h => h) (Or.inl ⟨by rfl, ?_⟩) ?_ ?_
        rotate_left
        · intro w'
          go_simp
          with_reducible rfl
        rotate_left
        · simp only [Act.put, List.setIfInBounds_toArray, List.set_cons_zero, List.set_cons_succ, i64_w, i32_w]
          rfl
        refine pure_ (i := 37) (N := some 97) (v := ?_) (a' := ?_) #[true, true, true, true, true, true, true, true, true, true, true, true, true, true, true, true, true, true, true, true, true, true, true, true, true, true, true, true, true, true, true, true, true, true, true, true, true, true] rfl rfl (any_of HT_.out (by kernel_rfl)) (fun _ _ _ h => h) (Or.inl ⟨by rfl, ?_⟩) ?_ ?_
        rotate_left
        · intro w'
          go_simp
          with_reducible rfl
        rotate_left
        · simp only [Act.put, List.setIfInBounds_toArray, List.set_cons_zero, List.set_cons_succ, i64_w, i32_w]
          rfl
        refine done_ (done_of HT_.out (by kernel_rfl)) ?_
        go_wp2_with fail
        go_roundg (es.length - (j + 1))
        case measure => omega
        case rel => exact ⟨j + 1, by simp, rfl, by omega, HX5.out.1⟩
      · generalize es[j] = E at k0 k1 k2 hc1 hC1 l0 l1 l2 hc2 hC2 hok
        have HR1 := hid (fun A c W hC hc hG => HRt.out E A c W hC hc hG)
        rw [hok.1] at HR1
        have HL1 := hid (fun A c W hC hc hG => HLi.out E hok.1 hok.2 A c W hC hc hG)
        generalize lineL E = L at HL1
        clear hok
        obtain ⟨v, ns, d⟩ := E
        simp only at k0 k1 k2 hc1 hC1 l0 l1 l2 hc2 hC2 HR1 HL1
        have b5 : decide ((j : Int) < (k : Int) + 1) = false := decide_eq_false (by omega)
        have b6 : ¬ ((j : Int) < (k : Int) + 1) := by omega
        have hq1 : (L.toList == L.toList) = true := beq_self_eq_true _
        have HC1 := hid hc1
        have HC2 := hid hc2
        have HST : Hid (∀ W V, (fun V : World => LR w V es fs (some ⟨b1, o1, none⟩) (some ⟨b2, o2, none⟩) A3 ∧ Kd.C (Kd.int .i64) V A1 ns.length ns ∧ Kd.C (Kd.int .i64) V A2' ns.length ns ∧ V.cell? ⟨b1, o1 + j * 3, none⟩ = some (.int .i64 v) ∧ V.cell? ⟨b1, o1 + j * 3 + 1, none⟩ = some (.slice A1 ns.length c1) ∧ V.cell? ⟨b1, o1 + j * 3 + 2, none⟩ = some (.string d) ∧ V.cell? ⟨b2, o2 + j * 3, none⟩ = some (.int .i64 v) ∧ V.cell? ⟨b2, o2 + j * 3 + 1, none⟩ = some (.slice A2' ns.length c2') ∧ V.cell? ⟨b2, o2 + j * 3 + 2, none⟩ = some (.string d)) W → Below W.heap.size W V → (fun V : World => LR w V es fs (some ⟨b1, o1, none⟩) (some ⟨b2, o2, none⟩) A3 ∧ Kd.C (Kd.int .i64) V A1 ns.length ns ∧ Kd.C (Kd.int .i64) V A2' ns.length ns ∧ V.cell? ⟨b1, o1 + j * 3, none⟩ = some (.int .i64 v) ∧ V.cell? ⟨b1, o1 + j * 3 + 1, none⟩ = some (.slice A1 ns.length c1) ∧ V.cell? ⟨b1, o1 + j * 3 + 2, none⟩ = some (.string d) ∧ V.cell? ⟨b2, o2 + j * 3, none⟩ = some (.int .i64 v) ∧ V.cell? ⟨b2, o2 + j * 3 + 1, none⟩ = some (.slice A2' ns.length c2') ∧ V.cell? ⟨b2, o2 + j * 3 + 2, none⟩ = some (.string d)) V) := fun W V h hb => ⟨h.1.later hb, Kd.C_below h.2.1 hb, Kd.C_below h.2.2.1 hb, cell_on hb h.2.2.2.1, cell_on hb h.2.2.2.2.1, cell_on hb h.2.2.2.2.2.1, cell_on hb h.2.2.2.2.2.2.1, cell_on hb h.2.2.2.2.2.2.2.1, cell_on hb h.2.2.2.2.2.2.2.2⟩
        have HX : Hid ((fun V : World => LR w V es fs (some ⟨b1, o1, none⟩) (some ⟨b2, o2, none⟩) A3 ∧ Kd.C (Kd.int .i64) V A1 ns.length ns ∧ Kd.C (Kd.int .i64) V A2' ns.length ns ∧ V.cell? ⟨b1, o1 + j * 3, none⟩ = some (.int .i64 v) ∧ V.cell? ⟨b1, o1 + j * 3 + 1, none⟩ = some (.slice A1 ns.length c1) ∧ V.cell? ⟨b1, o1 + j * 3 + 2, none⟩ = some (.string d) ∧ V.cell? ⟨b2, o2 + j * 3, none⟩ = some (.int .i64 v) ∧ V.cell? ⟨b2, o2 + j * 3 + 1, none⟩ = some (.slice A2' ns.length c2') ∧ V.cell? ⟨b2, o2 + j * 3 + 2, none⟩ = some (.string d)) wr) := ⟨HLR.out, hC1, hC2, k0, k1, k2, l0, l1, l2⟩
        clear k0 k1 k2 l0 l1 l2 hC1 hC2 hc1 hc2 HLR
        go_wp2_with fail
        obtain ⟨Wd, hWd⟩ : ∃ Wd, Wd = wr.drew := ⟨_, rfl⟩
        have HWd := hid hWd
        have HXd : Hid ((fun V : World => LR w V es fs (some ⟨b1, o1, none⟩) (some ⟨b2, o2, none⟩) A3 ∧ Kd.C (Kd.int .i64) V A1 ns.length ns ∧ Kd.C (Kd.int .i64) V A2' ns.length ns ∧ V.cell? ⟨b1, o1 + j * 3, none⟩ = some (.int .i64 v) ∧ V.cell? ⟨b1, o1 + j * 3 + 1, none⟩ = some (.slice A1 ns.length c1) ∧ V.cell? ⟨b1, o1 + j * 3 + 2, none⟩ = some (.string d) ∧ V.cell? ⟨b2, o2 + j * 3, none⟩ = some (.int .i64 v) ∧ V.cell? ⟨b2, o2 + j * 3 + 1, none⟩ = some (.slice A2' ns.length c2') ∧ V.cell? ⟨b2, o2 + j * 3 + 2, none⟩ = some (.string d)) Wd) := by rw [hWd]; exact HST.out _ _ HX.out (Below.refl _ wr).drew
        clear hWd HX
        refine start_ (n := 38) (S := fun V : World => V.cell? ⟨b1, o1 + j * 3, none⟩ = some (.int .i64 v) ∧ V.cell? ⟨b1, o1 + j * 3 + 1, none⟩ = some (.slice A1 ns.length c1) ∧ V.cell? ⟨b1, o1 + j * 3 + 2, none⟩ = some (.string d) ∧ V.cell? ⟨b2, o2 + j * 3, none⟩ = some (.int .i64 v) ∧ V.cell? ⟨b2, o2 + j * 3 + 1, none⟩ = some (.slice A2' ns.length c2') ∧ V.cell? ⟨b2, o2 + j * 3 + 2, none⟩ = some (.string d)) (ds := []) #[false, false, false, false, false, false, false, false, false, false, false, false, false, false, false, false, false, false, false, false, false, false, false, false, false, false, false, false, false, false, false, false, false, false, false, false, false, false] (by kernel_rfl) rfl rfl (by rw [← HWd.out]; exact HXd.out.2.2.2) (fun hHeld => ?_); refine with_tabW reg5x12.tab reg5x12.bits (fun HT_ HW_ => ?_)
        rw [← HWd.out] at hHeld ⊢
        refine pure_ (i := 0) (N := some 60) (v := ?_) (a' := ?_) #[true, false, false, false, false, false, false, false, false, false, false, false, false, false, false, false, false, false, false, false, false, false, false, false, false, false, false, false, false, false, false, false, false, false, false, false, false, false] rfl rfl (any_of HT_.out (by kernel_rfl)) (fun _ _ _ h => h) (Or.inl ⟨by rfl, ?_⟩) ?_ ?_
        rotate_left
        · intro w'
          go_simp
          with_reducible rfl
        rotate_left
        · simp only [Act.put, List.setIfInBounds_toArray, List.set_cons_zero, List.set_cons_succ, i64_w, i32_w]
          rfl
        refine pure_ (i := 1) (N := some 61) (v := ?_) (a' := ?_) #[true, true, false, false, false, false, false, false, false, false, false, false, false, false, false, false, false, false, false, false, false, false, false, false, false, false, false, false, false, false, false, false, false, false, false, false, false, false] rfl rfl (any_of HT_.out (by kernel_rfl)) (fun _ _ _ h => h) (Or.inl ⟨by rfl, ?_⟩) ?_ ?_
        rotate_left
        · intro w'
          go_simp
          with_reducible rfl
        rotate_left
        · simp only [Act.put, List.setIfInBounds_toArray, List.set_cons_zero, List.set_cons_succ, i64_w, i32_w]
          rfl
        refine pure_ (i := 2) (N := some 62) (v := ?_) (a' := ?_) #[true, true, true, false, false, false, false, false, false, false, false, false, false, false, false, false, false, false, false, false, false, false, false, false, false, false, false, false, false, false, false, false, false, false, false, false, false, false] rfl rfl (any_of HT_.out (by kernel_rfl)) (fun _ _ _ h => h) (Or.inl ⟨by rfl, ?_⟩) ?_ ?_
        rotate_left
        · intro w'
          go_simp
          with_reducible rfl
        rotate_left
        · simp only [Act.put, List.setIfInBounds_toArray, List.set_cons_zero, List.set_cons_succ, i64_w, i32_w]
          rfl
        refine take_ (i := 3) (N := some 63) (v := ?_) (a' := ?_) #[true, true, true, true, false, false, false, false, false, false, false, false, false, false, false, false, false, false, false, false, false, false, false, false, false, false, false, false, false, false, false, false, false, false, false, false, false, false] rfl rfl (take_ofW HT_.out HW_.out (by kernel_rfl)) (fun _ _ _ h => h) (Or.inl ⟨by rfl, ?_⟩) hHeld ?_ ?_
        rotate_left
        · rintro w' ⟨s0, s1, s2, s3, s4, s5⟩
          go_simp
          with_reducible rfl
        rotate_left
        · simp only [Act.put, List.setIfInBounds_toArray, List.set_cons_zero, List.set_cons_succ, i64_w, i32_w]
          rfl
        refine one_ (i := 4) (N := some 64) #[true, true, true, true, true, false, false, false, false, false, false, false, false, false, false, false, false, false, false, false, false, false, false, false, false, false, false, false, false, false, false, false, false, false, false, false, false, false] rfl rfl (one_of HT_.out (by kernel_rfl)) (by decide) (fun K hK => ?_)
        refine goes_ Tryd.func24 (by kernel_rfl) rfl #[.agg #[.int .i64 v, .slice A1 ns.length c1, .string d]] (by rfl) rfl rfl (by (try simp only [List.map_toArray, List.map_cons, List.map_nil]); first | done | rfl) ?_
        with_reducible refine (HR1.out A1 c1 _ HXd.out.2.1 HC1.out (HG0.out.later HXd.out.1.low)).mono ?_
        rintro e w1 ⟨rfl, hb⟩
        have HX1 := hid (HST.out _ _ HXd.out hb)
        clear hb
        refine ⟨_, rfl, ?_⟩
        refine hK.out _ _ HX1.out.2.2.2 (fun hHeld => ?_)
        clear hK K
        refine norm_ (a' := ?_) ?_ ?_
        rotate_left
        · show Act.put _ (some 64) _ = _
          simp only [Act.put, List.setIfInBounds_toArray, List.set_cons_zero, List.set_cons_succ, i64_w, i32_w]
          rfl
        refine pure_ (i := 5) (N := some 65) (v := ?_) (a' := ?_) #[true, true, true, true, true, true, false, false, false, false, false, false, false, false, false, false, false, false, false, false, false, false, false, false, false, false, false, false, false, false, false, false, false, false, false, false, false, false] rfl rfl (any_of HT_.out (by kernel_rfl)) (fun _ _ _ h => h) (Or.inl ⟨by rfl, ?_⟩) ?_ ?_
        rotate_left
        · intro w'
          go_simp
          with_reducible rfl
        rotate_left
        · simp only [Act.put, List.setIfInBounds_toArray, List.set_cons_zero, List.set_cons_succ, i64_w, i32_w]
          rfl
        refine pure_ (i := 6) (N := some 66) (v := ?_) (a' := ?_) #[true, true, true, true, true, true, true, false, false, false, false, false, false, false, false, false, false, false, false, false, false, false, false, false, false, false, false, false, false, false, false, false, false, false, false, false, false, false] rfl rfl (any_of HT_.out (by kernel_rfl)) (fun _ _ _ h => h) (Or.inl ⟨by rfl, ?_⟩) ?_ ?_
        rotate_left
        · intro w'
          go_simp
          with_reducible rfl
        rotate_left
        · simp only [Act.put, List.setIfInBounds_toArray, List.set_cons_zero, List.set_cons_succ, i64_w, i32_w]
          rfl
        refine pure_ (i := 7) (N := some 67) (v := ?_) (a' := ?_) #[true, true, true, true, true, true, true, true, false, false, false, false, false, false, false, false, false, false, false, false, false, false, false, false, false, false, false, false, false, false, false, false, false, false, false, false, false, false] rfl rfl (any_of HT_.out (by kernel_rfl)) (fun _ _ _ h => h) (Or.inl ⟨by rfl, ?_⟩) ?_ ?_
        rotate_left
        · intro w'
          go_simp
          with_reducible rfl
        rotate_left
        · simp only [Act.put, List.setIfInBounds_toArray, List.set_cons_zero, List.set_cons_succ, i64_w, i32_w]
          rfl
        refine pure_ (i := 8) (N := some 68) (v := ?_) (a' := ?_) #[true, true, true, true, true, true, true, true, true, false, false, false, false, false, false, false, false, false, false, false, false, false, false, false, false, false, false, false, false, false, false, false, false, false, false, false, false, false] rfl rfl (any_of HT_.out (by kernel_rfl)) (fun _ _ _ h => h) (Or.inl ⟨by rfl, ?_⟩) ?_ ?_
        rotate_left
        · intro w'
          go_simp
          with_reducible rfl
        rotate_left
        · simp only [Act.put, List.setIfInBounds_toArray, List.set_cons_zero, List.set_cons_succ, i64_w, i32_w]
          rfl
        refine pure_ (i := 9) (N := some 69) (v := ?_) (a' := ?_) #[true, true, true, true, true, true, true, true, true, true, false, false, false, false, false, false, false, false, false, false, false, false, false, false, false, false, false, false, false, false, false, false, false, false, false, false, false, false] rfl rfl (any_of HT_.out (by kernel_rfl)) (fun _ _ _ h => h) (Or.inl ⟨by rfl, ?_⟩) ?_ ?_
        rotate_left
        · intro w'
          go_simp
          with_reducible rfl
        rotate_left
        · simp only [Act.put, List.setIfInBounds_toArray, List.set_cons_zero, List.set_cons_succ, i64_w, i32_w]
          rfl
        refine pure_ (i := 12) (N := some 72) (v := ?_) (a' := ?_) #[true, true, true, true, true, true, true, true, true, true, false, false, true, false, false, false, false, false, false, false, false, false, false, false, false, false, false, false, false, false, false, false, false, false, false, false, false, false] rfl rfl (any_of HT_.out (by kernel_rfl)) (fun _ _ _ h => h) (Or.inl ⟨by rfl, ?_⟩) ?_ ?_
        rotate_left
        · intro w'
          go_simp
          with_reducible rfl
        rotate_left
        · simp only [Act.put, List.setIfInBounds_toArray, List.set_cons_zero, List.set_cons_succ, i64_w, i32_w]
          rfl
        refine pure_ (i := 13) (N := some 73) (v := ?_) (a' := ?_) #[true, true, true, true, true, true, true, true, true, true, false, false, true, true, false, false, false, false, false, false, false, false, false, false, false, false, false, false, false, false, false, false, false, false, false, false, false, false] rfl rfl (any_of HT_.out (by kernel_rfl)) (fun _ _ _ h => h) (Or.inl ⟨by rfl, ?_⟩) ?_ ?_
        rotate_left
        · intro w'
          go_simp
          with_reducible rfl
        rotate_left
        · simp only [Act.put, List.setIfInBounds_toArray, List.set_cons_zero, List.set_cons_succ, i64_w, i32_w]
          rfl
        refine pure_ (i := 14) (N := some 74) (v := ?_) (a' := ?_) #[true, true, true, true, true, true, true, true, true, true, false, false, true, true, true, false, false, false, false, false, false, false, false, false, false, false, false, false, false, false, false, false, false, false, false, false, false, false] rfl rfl (any_of HT_.out (by kernel_rfl)) (fun _ _ _ h => h) (Or.inl ⟨by rfl, ?_⟩) ?_ ?_
        rotate_left
        · intro w'
          go_simp
          with_reducible rfl
        rotate_left
        · simp only [Act.put, List.setIfInBounds_toArray, List.set_cons_zero, List.set_cons_succ, i64_w, i32_w]
          rfl
        refine take_ (i := 10) (N := some 70) (v := ?_) (a' := ?_) #[true, true, true, true, true, true, true, true, true, true, true, false, true, true, true, false, false, false, false, false, false, false, false, false, false, false, false, false, false, false, false, false, false, false, false, false, false, false] rfl rfl (take_ofW HT_.out HW_.out (by kernel_rfl)) (fun _ _ _ h => h) (Or.inl ⟨by rfl, ?_⟩) hHeld ?_ ?_
        rotate_left
        · rintro w' ⟨s0, s1, s2, s3, s4, s5⟩
          go_simp
          with_reducible rfl
        rotate_left
        · simp only [Act.put, List.setIfInBounds_toArray, List.set_cons_zero, List.set_cons_succ, i64_w, i32_w]
          rfl
        refine take_ (i := 15) (N := some 75) (v := ?_) (a' := ?_) #[true, true, true, true, true, true, true, true, true, true, true, false, true, true, true, true, false, false, false, false, false, false, false, false, false, false, false, false, false, false, false, false, false, false, false, false, false, false] rfl rfl (take_ofW HT_.out HW_.out (by kernel_rfl)) (fun _ _ _ h => h) (Or.inl ⟨by rfl, ?_⟩) hHeld ?_ ?_
        rotate_left
        · rintro w' ⟨s0, s1, s2, s3, s4, s5⟩
          go_simp
          with_reducible rfl
        rotate_left
        · simp only [Act.put, List.setIfInBounds_toArray, List.set_cons_zero, List.set_cons_succ, i64_w, i32_w]
          rfl
        refine one_ (i := 11) (N := some 71) #[true, true, true, true, true, true, true, true, true, true, true, true, true, true, true, true, false, false, false, false, false, false, false, false, false, false, false, false, false, false, false, false, false, false, false, false, false, false] rfl rfl (one_of HT_.out (by kernel_rfl)) (by decide) (fun K hK => ?_)
        refine goes_ Tryd.func25 (by kernel_rfl) rfl #[.agg #[.int .i64 v, .slice A1 ns.length c1, .string d]] (by rfl) rfl rfl (by (try simp only [List.map_toArray, List.map_cons, List.map_nil]); first | done | rfl) ?_
        with_reducible refine (HL1.out A1 c1 _ HX1.out.2.1 HC1.out (HG0.out.later HX1.out.1.low)).mono ?_
        rintro e w2 ⟨rfl, hb⟩
        have HX2 := hid (HST.out _ _ HX1.out hb)
        clear hb
        refine ⟨_, rfl, ?_⟩
        refine hK.out _ _ HX2.out.2.2.2 (fun hHeld => ?_)
        clear hK K
        refine norm_ (a' := ?_) ?_ ?_
        rotate_left
        · show Act.put _ (some 71) _ = _
          simp only [Act.put, List.setIfInBounds_toArray, List.set_cons_zero, List.set_cons_succ, i64_w, i32_w]
          rfl
        refine one_ (i := 16) (N := some 76) #[true, true, true, true, true, true, true, true, true, true, true, true, true, true, true, true, true, false, false, false, false, false, false, false, false, false, false, false, false, false, false, false, false, false, false, false, false, false] rfl rfl (one_of HT_.out (by kernel_rfl)) (by decide) (fun K hK => ?_)
        refine goes_ Tryd.func25 (by kernel_rfl) rfl #[.agg #[.int .i64 v, .slice A2' ns.length c2', .string d]] (by rfl) rfl rfl (by (try simp only [List.map_toArray, List.map_cons, List.map_nil]); first | done | rfl) ?_
        with_reducible refine (HL1.out A2' c2' _ HX2.out.2.2.1 HC2.out (HG0.out.later HX2.out.1.low)).mono ?_
        rintro e w3 ⟨rfl, hb⟩
        have HX3 := hid (HST.out _ _ HX2.out hb)
        clear hb
        refine ⟨_, rfl, ?_⟩
        refine hK.out _ _ HX3.out.2.2.2 (fun hHeld => ?_)
        clear hK K
        refine norm_ (a' := ?_) ?_ ?_
        rotate_left
        · show Act.put _ (some 76) _ = _
          simp only [Act.put, List.setIfInBounds_toArray, List.set_cons_zero, List.set_cons_succ, i64_w, i32_w]
          rfl
        refine pure_ (i := 17) (N := some 77) (v := ?_) (a' := ?_) #[true, true, true, true, true, true, true, true, true, true, true, true, true, true, true, true, true, true, false, false, false, false, false, false, false, false, false, false, false, false, false, false, false, false, false, false, false, false] rfl rfl (any_of HT_.out (by kernel_rfl)) (fun _ _ _ h => h) (Or.inl ⟨by rfl, ?_⟩) ?_ ?_
        rotate_left
        · intro w'
          go_simp
          with_reducible rfl
        rotate_left
        · simp only [Act.put, List.setIfInBounds_toArray, List.set_cons_zero, List.set_cons_succ, i64_w, i32_w]
          rfl
        refine pure_ (i := 18) (N := some 78) (v := ?_) (a' := ?_) #[true, true, true, true, true, true, true, true, true, true, true, true, true, true, true, true, true, true, true, false, false, false, false, false, false, false, false, false, false, false, false, false, false, false, false, false, false, false] rfl rfl (any_of HT_.out (by kernel_rfl)) (fun _ _ _ h => h) (Or.inl ⟨by rfl, ?_⟩) ?_ ?_
        rotate_left
        · intro w'
          go_simp
          with_reducible rfl
        rotate_left
        · simp only [Act.put, List.setIfInBounds_toArray, List.set_cons_zero, List.set_cons_succ, i64_w, i32_w]
          rfl
        refine pure_ (i := 19) (N := some 79) (v := ?_) (a' := ?_) #[true, true, true, true, true, true, true, true, true, true, true, true, true, true, true, true, true, true, true, true, false, false, false, false, false, false, false, false, false, false, false, false, false, false, false, false, false, false] rfl rfl (any_of HT_.out (by kernel_rfl)) (fun _ _ _ h => h) (Or.inl ⟨by rfl, ?_⟩) ?_ ?_
        rotate_left
        · intro w'
          go_simp
          with_reducible rfl
        rotate_left
        · simp only [Act.put, List.setIfInBounds_toArray, List.set_cons_zero, List.set_cons_succ, i64_w, i32_w]
          rfl
        refine pure_ (i := 20) (N := some 80) (v := ?_) (a' := ?_) #[true, true, true, true, true, true, true, true, true, true, true, true, true, true, true, true, true, true, true, true, true, false, false, false, false, false, false, false, false, false, false, false, false, false, false, false, false, false] rfl rfl (any_of HT_.out (by kernel_rfl)) (fun _ _ _ h => h) (Or.inl ⟨by rfl, ?_⟩) ?_ ?_
        rotate_left
        · intro w'
          go_simp
          with_reducible rfl
        rotate_left
        · simp only [Act.put, List.setIfInBounds_toArray, List.set_cons_zero, List.set_cons_succ, i64_w, i32_w]
          rfl
        refine pure_ (i := 21) (N := some 81) (v := ?_) (a' := ?_) #[true, true, true, true, true, true, true, true, true, true, true, true, true, true, true, true, true, true, true, true, true, true, false, false, false, false, false, false, false, false, false, false, false, false, false, false, false, false] rfl rfl (any_of HT_.out (by kernel_rfl)) (fun _ _ _ h => h) (Or.inl ⟨by rfl, ?_⟩) ?_ ?_
        rotate_left
        · intro w'
          go_simp
          with_reducible rfl
        rotate_left
        · simp only [Act.put, List.setIfInBounds_toArray, List.set_cons_zero, List.set_cons_succ, i64_w, i32_w]
          rfl
        refine pure_ (i := 22) (N := some 82) (v := ?_) (a' := ?_) #[true, true, true, true, true, true, true, true, true, true, true, true, true, true, true, true, true, true, true, true, true, true, true, false, false, false, false, false, false, false, false, false, false, false, false, false, false, false] rfl rfl (any_of HT_.out (by kernel_rfl)) (fun _ _ _ h => h) (Or.inl ⟨by rfl, ?_⟩) ?_ ?_
        rotate_left
        · intro w'
          go_simp
          with_reducible rfl
        rotate_left
        · simp only [Act.put, List.setIfInBounds_toArray, List.set_cons_zero, List.set_cons_succ, i64_w, i32_w]
          rfl
        refine pure_ (i := 23) (N := some 83) (v := ?_) (a' := ?_) #[true, true, true, true, true, true, true, true, true, true, true, true, true, true, true, true, true, true, true, true, true, true, true, true, false, false, false, false, false, false, false, false, false, false, false, false, false, false] rfl rfl (any_of HT_.out (by kernel_rfl)) (fun _ _ _ h => h) (Or.inl ⟨by rfl, ?_⟩) ?_ ?_
        rotate_left
        · intro w'
          go_simp
          with_reducible rfl
        rotate_left
        · simp only [Act.put, List.setIfInBounds_toArray, List.set_cons_zero, List.set_cons_succ, i64_w, i32_w]
          rfl
        refine pure_ (i := 24) (N := some 84) (v := ?_) (a' := ?_) #[true, true, true, true, true, true, true, true, true, true, true, true, true, true, true, true, true, true, true, true, true, true, true, true, true, false, false, false, false, false, false, false, false, false, false, false, false, false] rfl rfl (any_of HT_.out (by kernel_rfl)) (fun _ _ _ h => h) (Or.inl ⟨by rfl, ?_⟩) ?_ ?_
        rotate_left
        · intro w'
          go_simp
          with_reducible rfl
        rotate_left
        · simp only [Act.put, List.setIfInBounds_toArray, List.set_cons_zero, List.set_cons_succ, i64_w, i32_w]
          rfl
        refine pure_ (i := 25) (N := some 85) (v := undef) (a' := ?_) #[true, true, true, true, true, true, true, true, true, true, true, true, true, true, true, true, true, true, true, true, true, true, true, true, true, true, false, false, false, false, false, false, false, false, false, false, false, false] rfl rfl (any_of HT_.out (by kernel_rfl)) (fun _ _ _ h => h) (Or.inr ⟨by rfl, rfl⟩) ?_ ?_
        rotate_left
        · simp only [Act.put, List.setIfInBounds_toArray, List.set_cons_zero, List.set_cons_succ, i64_w, i32_w]
          rfl
        refine pure_ (i := 26) (N := some 86) (v := undef) (a' := ?_) #[true, true, true, true, true, true, true, true, true, true, true, true, true, true, true, true, true, true, true, true, true, true, true, true, true, true, true, false, false, false, false, false, false, false, false, false, false, false] rfl rfl (any_of HT_.out (by kernel_rfl)) (fun _ _ _ h => h) (Or.inr ⟨by rfl, rfl⟩) ?_ ?_
        rotate_left
        · simp only [Act.put, List.setIfInBounds_toArray, List.set_cons_zero, List.set_cons_succ, i64_w, i32_w]
          rfl
        refine pure_ (i := 27) (N := some 87) (v := undef) (a' := ?_) #[true, true, true, true, true, true, true, true, true, true, true, true, true, true, true, true, true, true, true, true, true, true, true, true, true, true, true, true, false, false, false, false, false, false, false, false, false, false] rfl rfl (any_of HT_.out (by kernel_rfl)) (fun _ _ _ h => h) (Or.inr ⟨by rfl, rfl⟩) ?_ ?_
        rotate_left
        · simp only [Act.put, List.setIfInBounds_toArray, List.set_cons_zero, List.set_cons_succ, i64_w, i32_w]
          rfl
        refine pure_ (i := 28) (N := some 88) (v := undef) (a' := ?_) #[true, true, true, true, true, true, true, true, true, true, true, true, true, true, true, true, true, true, true, true, true, true, true, true, true, true, true, true, true, false, false, false, false, false, false, false, false, false] rfl rfl (any_of HT_.out (by kernel_rfl)) (fun _ _ _ h => h) (Or.inr ⟨by rfl, rfl⟩) ?_ ?_
        rotate_left
        · simp only [Act.put, List.setIfInBounds_toArray, List.set_cons_zero, List.set_cons_succ, i64_w, i32_w]
          rfl
        refine pure_ (i := 29) (N := some 89) (v := undef) (a' := ?_) #[true, true, true, true, true, true, true, true, true, true, true, true, true, true, true, true, true, true, true, true, true, true, true, true, true, true, true, true, true, true, false, false, false, false, false, false, false, false] rfl rfl (any_of HT_.out (by kernel_rfl)) (fun _ _ _ h => h) (Or.inr ⟨by rfl, rfl⟩) ?_ ?_
        rotate_left
        · simp only [Act.put, List.setIfInBounds_toArray, List.set_cons_zero, List.set_cons_succ, i64_w, i32_w]
          rfl
        refine pure_ (i := 30) (N := some 90) (v := undef) (a' := ?_) #[true, true, true, true, true, true, true, true, true, true, true, true, true, true, true, true, true, true, true, true, true, true, true, true, true, true, true, true, true, true, true, false, false, false, false, false, false, false] rfl rfl (any_of HT_.out (by kernel_rfl)) (fun _ _ _ h => h) (Or.inr ⟨by rfl, rfl⟩) ?_ ?_
        rotate_left
        · simp only [Act.put, List.setIfInBounds_toArray, List.set_cons_zero, List.set_cons_succ, i64_w, i32_w]
          rfl
        refine pure_ (i := 31) (N := some 91) (v := undef) (a' := ?_) #[true, true, true, true, true, true, true, true, true, true, true, true, true, true, true, true, true, true, true, true, true, true, true, true, true, true, true, true, true, true, true, true, false, false, false, false, false, false] rfl rfl (any_of HT_.out (by kernel_rfl)) (fun _ _ _ h => h) (Or.inr ⟨by rfl, rfl⟩) ?_ ?_
        rotate_left
        · simp only [Act.put, List.setIfInBounds_toArray, List.set_cons_zero, List.set_cons_succ, i64_w, i32_w]
          rfl
        refine pure_ (i := 32) (N := some 92) (v := undef) (a' := ?_) #[true, true, true, true, true, true, true, true, true, true, true, true, true, true, true, true, true, true, true, true, true, true, true, true, true, true, true, true, true, true, true, true, true, false, false, false, false, false] rfl rfl (any_of HT_.out (by kernel_rfl)) (fun _ _ _ h => h) (Or.inr ⟨by rfl, rfl⟩) ?_ ?_
        rotate_left
        · simp only [Act.put, List.setIfInBounds_toArray, List.set_cons_zero, List.set_cons_succ, i64_w, i32_w]
          rfl
        refine pure_ (i := 33) (N := some 93) (v := undef) (a' := ?_) #[true, true, true, true, true, true, true, true, true, true, true, true, true, true, true, true, true, true, true, true, true, true, true, true, true, true, true, true, true, true, true, true, true, true, false, false, false, false] rfl rfl (any_of HT_.out (by kernel_rfl)) (fun _ _ _ h => h) (Or.inr ⟨by rfl, rfl⟩) ?_ ?_
        rotate_left
        · simp only [Act.put, List.setIfInBounds_toArray, List.set_cons_zero, List.set_cons_succ, i64_w, i32_w]
          rfl
        refine pure_ (i := 34) (N := some 94) (v := undef) (a' := ?_) #[true, true, true, true, true, true, true, true, true, true, true, true, true, true, true, true, true, true, true, true, true, true, true, true, true, true, true, true, true, true, true, true, true, true, true, false, false, false] rfl rfl (any_of HT_.out (by kernel_rfl)) (fun _ _ _ h => h) (Or.inr ⟨by rfl, rfl⟩) ?_ ?_
        rotate_left
        · simp only [Act.put, List.setIfInBounds_toArray, List.set_cons_zero, List.set_cons_succ, i64_w, i32_w]
          rfl
        refine pure_ (i := 35) (N := some 95) (v := undef) (a' := ?_) #[true, true, true, true, true, true, true, true, true, true, true, true, true, true, true, true, true, true, true, true, true, true, true, true, true, true, true, true, true, true, true, true, true, true, true, true, false, false] rfl rfl (any_of HT_.out (by kernel_rfl)) (fun _ _ _ h => h) (Or.inr ⟨by rfl, rfl⟩) ?_ ?_
        rotate_left
        · simp only [Act.put, List.setIfInBounds_toArray, List.set_cons_zero, List.set_cons_succ, i64_w, i32_w]
          rfl
        refine pure_ (i := 36) (N := some 96) (v := ?_) (a' := ?_) #[true, true, true, true, true, true, true, true, true, true, true, true, true, true, true, true, true, true, true, true, true, true, true, true, true, true, true, true, true, true, true, true, true, true, true, true, true, false] rfl rfl (any_of HT_.out (by kernel_rfl)) (fun _ _ _ h => h) (Or.inl ⟨by rfl, ?_⟩) ?_ ?_
        rotate_left
        · intro w'
          go_simp
          with_reducible rfl
        rotate_left
        · simp only [Act.put, List.setIfInBounds_toArray, List.set_cons_zero, List.set_cons_succ, i64_w, i32_w]
          rfl
        refine pure_ (i := 37) (N := some 97) (v := ?_) (a' := ?_) #[true, true, true, true, true, true, true, true, true, true, true, true, true, true, true, true, true, true, true, true, true, true, true, true, true, true, true, true, true, true, true, true, true, true, true, true, true, true] rfl rfl (any_of HT_.out (by kernel_rfl)) (fun _ _ _ h => h) (Or.inl ⟨by rfl, ?_⟩) ?_ ?_
        rotate_left
        · intro w'
          go_simp
          with_reducible rfl
        rotate_left
        · simp only [Act.put, List.setIfInBounds_toArray, List.set_cons_zero, List.set_cons_succ, i64_w, i32_w]
          rfl
        refine done_ (done_of HT_.out (by kernel_rfl)) ?_
        go_wp2_with fail
        go_roundg (es.length - (j + 1))
        case measure => omega
        case rel => exact ⟨j + 1, by simp, rfl, by omega, HX3.out.1⟩
    · have b1 : decide ((j : Int) < (es.length : Int)) = false := decide_eq_false (by omega)
      go_wp2_with fail
      go_ret
      exact ⟨rfl, HLR.out.low⟩
end Go.Proofs.YtmgcapccgncmkaaDoor.Ld
