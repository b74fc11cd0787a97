/- The table of ports: the law PortOne walked. -/
import Derived.Test.YtnceglkoolfncaaPm
import Derived.Deep.LoopGhost
namespace Go.Proofs.Ytnceglkoolfncaa.Po
open Go.RowKit Go.Pv

theorem take_code {o : Int} {ps : List Int} {hs : List Hd} (h : ((takeRes o ps hs).1 == 0) = true) : takeAll o ps hs = some (takeRes o ps hs).2 ∧ allPorts ps := by
  have h0 : (takeRes o ps hs).1 = 0 := by simpa using h
  rcases takeRes_cases o ps hs with ⟨_, h2⟩ | ⟨_, h2, _, h4⟩
  · exact absurd h0 h2
  · exact ⟨h4, h2⟩
theorem take_code_no {o : Int} {ps : List Int} {hs : List Hd} (h : ((takeRes o ps hs).1 == 0) = false) : (takeRes o ps hs).2 = hs := by
  have h0 : ¬ (takeRes o ps hs).1 = 0 := by simpa using h
  rcases takeRes_cases o ps hs with ⟨h1, _⟩ | ⟨h1, _⟩
  · exact h1
  · exact absurd h1 h0

/-- What holds ahead of each round. -/
def One (w : World) (p : Nat) (ow : Int) (i : Nat) (mv nv : Value) (wr : World) : Prop :=
  ∃ hs ml, PInv w.heap.size w p hs mv ml wr ∧ POk ow hs ml i ∧ nv = .int .i64 hs.length

set_option maxRecDepth 100000 in
set_option maxHeartbeats 4000000 in
theorem one_any {w : World} {v : Value} {l : List PAct} (hv : Rd w 3 encPA v l) (hps : ∀ a ∈ l, Rd w 1 encI a.v a.ps) (ow : Int) (hlen : (l.length : Int) ≤ 9223372036854775807) :
    Calls Try.prog 7 #[v, .int .i64 ow] w fun e w' => e = .returned (.bool true) ∧ Below w.heap.size w w' := by
  have HV := hid hv
  have HP := hid hps
  have hvf := hv.form
  obtain ⟨va, vcap, rfl⟩ := hvf
  have h31 := hid (works_any w)
  clear hv hps
  go_enter Try.func7, Try.ntmps7
  go_wp2_with (first
    | (go_at_call 31; refine h31.out.mono ?_; rintro e w1 ⟨rfl, hb1⟩; have HB1 := hid hb1; clear hb1)
    | (go_at_call 30; refine (new_any _).mono ?_; rintro e w2 ⟨rfl, hT, hk, hz⟩; have HT := hid hT; have HK := hid hk; clear hT hk hz))
  have h0 : One w w1.heap.size ow 0 (.slice none 0 0) (.int .i64 0) w2 := by
    have hz := HB1.out.size
    exact ⟨[], [], ⟨⟨_, HT.out, by simp [Value.ownBlock]⟩, hz, SlRow.nil _ _ _, by simp [Value.ownBlock], HB1.out.trans (HK.out.below hz (by simp))⟩, POk.nil ow, rfl⟩
  have H0 := hid h0
  generalize w1.heap.size = p at *
  clear h0 h31 HB1 HT HK
  go_loopg [6, 7, 8] 40 (fun g mv nv iv wr => ∃ i : Nat, g = 40 - i ∧ i ≤ 40 ∧ i ≤ l.length ∧ iv = .int .i64 i ∧ Hid (One w p ow i mv nv wr))
  case atStart => exact ⟨0, rfl, by omega, by omega, rfl, H0⟩
  case round =>
    clear H0
    obtain ⟨i, rfl, hi1, hi2, rfl, hT⟩ := hrel
    by_cases hlen2 : i < l.length
    · by_cases hk40 : i < 40
      · obtain ⟨b, o, hva, hb, hc⟩ : ∃ b o, va = some ⟨b, o, none⟩ ∧ b < w.heap.size ∧ ∀ i x, l[i]? = some x → ∀ j u, (encPA x)[j]? = some u → w.cell? ⟨b, o + i * 3 + j, none⟩ = some u := by
          rcases HV.out with ⟨h, _⟩ | ⟨b, o, cap, h, h1, h2⟩
          · subst h; simp at hlen2
          · simp only [Value.slice.injEq] at h; exact ⟨b, o, h.1, h1, h2⟩
        subst hva
        have hak : l[i]? = some l[i] := List.getElem?_eq_getElem hlen2
        have hpa := HP.out l[i] (List.getElem_mem hlen2)
        obtain ⟨⟨kd, u, pv, ps⟩, ha⟩ : ∃ a, a = l[i] := ⟨_, rfl⟩
        rw [← ha] at hak hpa
        have hpa : Rd w 1 encI pv ps := hpa
        obtain ⟨hs, ml, hI, hO, hnv⟩ := hT.out
        subst hnv
        obtain ⟨ma, mc, hmv⟩ := sl_form hI.sl
        subst hmv
        have hbw := hI.below
        have zw := hbw.size
        have d0 : wr.cell? ⟨b, o + i * 3, none⟩ = some (.int .i64 kd) := (hbw.cell (p := ⟨b, o + i * 3, none⟩) hb).trans (hc i _ hak 0 _ rfl)
        have d1 : wr.cell? ⟨b, o + i * 3 + 1, none⟩ = some (.int .i64 u) := (hbw.cell (p := ⟨b, o + i * 3 + 1, none⟩) hb).trans (hc i _ hak 1 _ rfl)
        have d2 : wr.cell? ⟨b, o + i * 3 + 2, none⟩ = some pv := (hbw.cell (p := ⟨b, o + i * 3 + 2, none⟩) hb).trans (hc i _ hak 2 _ rfl)
        obtain ⟨pa, pc, hpv⟩ := hpa.form
        subst hpv
        have hI2 := hI.alloc zw (.cells #[.int .i64 kd, .int .i64 u, .slice pa ps.length pc] 68)
        have hfew := hO.few
        have HI := hid hI2
        have SL0 := hid hI.sl
        have HO := hid hO
        have HPA := hid hpa
        have Zp := hid hI.plt
        clear hpa ha hak hc hT hI hI2 hO hbw
        by_cases h20 : ps.length ≤ 20
        · have h20' : decide ((20 : Int) < (ps.length : Int)) = false := by simp; omega
          refine (Decidable.em (kd = 0)).elim (fun hkd => ?kdy) (fun hkd => ?kdn)
          case' kdy =>
            subst hkd
            have h33 := take_inv HI.out (by simp; omega) (HPA.out.below HI.out.below) (by omega) u
            refine (Bool.eq_false_or_eq_true ((takeRes u ps hs).1 == 0)).elim (fun hc => ?ct) (fun hc => ?cf)
            case' ct =>
              obtain ⟨ht, hall⟩ := take_code hc
              have e0 : (takeRes u ps hs).1 = 0 := by simpa using hc
              rw [e0] at h33
              have hO2 := HO.out.take ht hall h20
              obtain ⟨hs5, hhs5⟩ : ∃ x, x = (takeRes u ps hs).2 := ⟨_, rfl⟩
              rw [← hhs5] at h33 hO2 ht
              have hn5 : (hs.length : Int) + (ps.length : Int) = (hs5.length : Int) := by have := take_length ht; omega
              have H33 := hid h33
              clear h33 e0 hc hhs5 hall ht
              refine (Decidable.em (u = ow)).elim (fun huo => ?ua) (fun huo => ?ub)
              case' ua =>
                obtain rfl := huo.symm
                rw [if_pos rfl] at hO2
                obtain ⟨ml5, hml2⟩ : ∃ x, x = ml ++ ps := ⟨_, rfl⟩
                rw [← hml2] at hO2
                have HML2 := hid hml2
                clear hml2
                have HOx := hid hO2
                clear hO2
                go_upto_region 22 with (first
                  | (go_at_call 33
                     refine H33.out.mono ?_
                     rintro e w3 ⟨rfl, hI3, hk3⟩
                     obtain ⟨bx, z3⟩ := box_kept (fun i h => by have := Zp.out; omega) hk3
                     obtain ⟨x0, x1, x2⟩ := cells3 bx
                     obtain ⟨ma5, mc5, w4, hr4, hI4, hk4⟩ := append_mine hI3 (by omega) (HPA.out.below hI3.below) (by have := HO.out.few_mine; omega) (by omega) 50
                     obtain ⟨y0, y1, y2⟩ := cells3 ((hk4.block _ z3 (fun h => by have := SlRow.lt SL0.out h; omega)).trans bx)
                     rw [← HML2.out] at hr4 hI4; clear hk4; have HR4 := hid hr4; have HIx := hid hI4; have zx := hid z3; clear bx hI3 hk3 hr4 hI4)
                  | (at_builtin; refine wl_append rfl _ _ _ rfl ⟨_, _, HR4.out, ?_⟩))
              case' ub =>
                obtain ⟨ma5, h5⟩ : ∃ x, x = ma := ⟨_, rfl⟩
                subst h5
                obtain ⟨mc5, h5⟩ : ∃ x, x = mc := ⟨_, rfl⟩
                subst h5
                obtain ⟨ml5, h5⟩ : ∃ x, x = ml := ⟨_, rfl⟩
                subst h5
                rw [if_neg huo] at hO2
                have HOx := hid hO2
                have hne : (u == ow) = false := by simp [huo]
                clear hO2 huo
                go_upto_region 22 with (go_at_call 33
                                        refine H33.out.mono ?_
                                        rintro e w3 ⟨rfl, hI3, hk3⟩
                                        obtain ⟨bx, z3⟩ := box_kept (fun i h => by have := Zp.out; omega) hk3
                                        obtain ⟨x0, x1, x2⟩ := cells3 bx
                                        have HIx := hid hI3; have zx := hid z3; clear bx hI3 hk3)
            case' cf =>
              obtain ⟨ma5, h5⟩ : ∃ x, x = ma := ⟨_, rfl⟩
              subst h5
              obtain ⟨mc5, h5⟩ : ∃ x, x = mc := ⟨_, rfl⟩
              subst h5
              obtain ⟨ml5, h5⟩ : ∃ x, x = ml := ⟨_, rfl⟩
              subst h5
              obtain ⟨hs5, h5⟩ : ∃ x, x = hs := ⟨_, rfl⟩
              subst h5
              have e0 := take_code_no hc
              rw [e0] at h33
              have HOx := hid HO.out.same
              obtain ⟨cd, hcd⟩ : ∃ x, x = (takeRes u ps hs5).1 := ⟨_, rfl⟩
              rw [← hcd] at h33 hc
              have H33 := hid h33
              clear h33 e0 hcd
              go_upto_region 22 with (go_at_call 33
                                      refine H33.out.mono ?_
                                      rintro e w3 ⟨rfl, hI3, hk3⟩
                                      obtain ⟨bx, z3⟩ := box_kept (fun i h => by have := Zp.out; omega) hk3
                                      obtain ⟨x0, x1, x2⟩ := cells3 bx
                                      have HIx := hid hI3; have zx := hid z3; clear bx hI3 hk3)
          case' kdn =>
            have hk0 : (kd == 0) = false := by simp [hkd]
            clear hkd
            have H35 := hid (free_inv HI.out (by simp; omega) (by omega) u)
            have hO2 := HO.out.free (o := u)
            have hnn : IntKind.i64.wrap ((hs.length : Int) - ((hs.length : Int) - ((without u hs).length : Int))) = (without u hs).length := by
              have : (without u hs).length ≤ hs.length := by unfold without; exact List.length_filter_le _ _
              rw [IntKind.wrap_i64]; omega
            refine (Decidable.em (u = ow)).elim (fun huo => ?uc) (fun huo => ?ud)
            case' uc =>
              obtain rfl := huo.symm
              rw [if_pos rfl] at hO2
              have HOx := hid hO2
              clear hO2
              go_upto_region 22 with (go_at_call 35
                                      refine H35.out.mono ?_
                                      rintro e w3 ⟨rfl, hI3, hk3⟩
                                      obtain ⟨bx, z3⟩ := box_kept (fun i h => by have := Zp.out; omega) hk3
                                      obtain ⟨x0, x1, x2⟩ := cells3 bx
                                      have HIx := hid (hI3.mine (mv' := .slice none 0 0) (ml' := []) (by omega) (Keeps.refl _ _) (SlRow.nil _ 3 1) (by simp [Value.ownBlock])); have zx := hid z3; clear bx hI3 hk3)
              have hI5 := HIx.out
              have hO5 := HOx.out
              have few5 := hO5.few
              have fewm := hO5.few_mine
              have zz5 := hI5.below.size
              have H36 := hid (len_inv hI5)
              have H39 := hid (held_inv hI5 zz5 (by omega) ow)
              have hml := hO5.len
              have HML := hid hml
              clear hI5 hO5 hml
              go_upto_region 24 with (first
                | (go_at_call 36; refine H36.out.mono ?_; rintro e w6 ⟨rfl, rfl⟩)
                | (go_at_call 39; refine H39.out.mono ?_; rintro e w6 ⟨ha, hc, rfl, -, -, hI6, -⟩; have HI6 := hid hI6; rw [← HML.out]; clear hI6))
              go_wp2
              go_loopg [10] 1 (fun g kv wx => kv = .int .i64 0 ∧ wx = w6)
              case atStart => exact ⟨rfl, rfl⟩
              case round =>
                obtain ⟨rfl, rfl⟩ := hrel
                go_wp2
                go_roundg (40 - (i + 1))
                case measure => omega
                case rel => exact ⟨i + 1, rfl, by omega, by omega, by go_num, ⟨_, _, HI6.out, HOx.out, rfl⟩⟩
            case' ud =>
              obtain ⟨ma5, h5⟩ : ∃ x, x = ma := ⟨_, rfl⟩
              subst h5
              obtain ⟨mc5, h5⟩ : ∃ x, x = mc := ⟨_, rfl⟩
              subst h5
              obtain ⟨ml5, h5⟩ : ∃ x, x = ml := ⟨_, rfl⟩
              subst h5
              rw [if_neg huo] at hO2
              obtain ⟨hs5, hh5⟩ : ∃ x, x = without u hs := ⟨_, rfl⟩
              rw [← hh5] at hnn H35 hO2
              clear hh5
              have HOx := hid hO2
              have hne : (u == ow) = false := by simp [huo]
              clear hO2 huo
              go_upto_region 22 with (go_at_call 35
                                      refine H35.out.mono ?_
                                      rintro e w3 ⟨rfl, hI3, hk3⟩
                                      obtain ⟨bx, z3⟩ := box_kept (fun i h => by have := Zp.out; omega) hk3
                                      obtain ⟨x0, x1, x2⟩ := cells3 bx
                                      have HIx := hid hI3; have zx := hid z3; clear bx hI3 hk3)
          all_goals
            have hI5 := HIx.out
            have hO5 := HOx.out
            have few5 := hO5.few
            have fewm := hO5.few_mine
            have zz5 := hI5.below.size
            have H36 := hid (len_inv hI5)
            have H39 := hid (held_inv hI5 zz5 (by omega) ow)
            have hml := hO5.len
            have HML := hid hml
            clear hI5 hO5 hml
            go_upto_region 24 with (first
              | (go_at_call 36; refine H36.out.mono ?_; rintro e w6 ⟨rfl, rfl⟩)
              | (go_at_call 39; refine H39.out.mono ?_; rintro e w6 ⟨ha, hc, rfl, -, -, hI6, -⟩; have HI6 := hid hI6; rw [← HML.out]; clear hI6))
            go_wp2
            go_loopg [10] 1000 (fun g kv wx => ∃ j : Nat, g = 1000 - j ∧ kv = .int .i64 j ∧ j ≤ ml5.length ∧ Hid (PInv w.heap.size w p hs5 (.slice ma5 ml5.length mc5) ml5 wx))
            case atStart =>
              exact ⟨0, rfl, rfl, by omega, HI6⟩
            case round =>
              clear H36 H39 HIx HI6 HML
              obtain ⟨j, rfl, rfl, hj, HI⟩ := hrel
              have z9 := HI.out.below.size
              by_cases hjl : j < ml5.length
              · obtain ⟨x, hx⟩ : ∃ x, x = ml5[j] := ⟨_, rfl⟩
                obtain ⟨mb2, mo2, rfl, hcell⟩ := mine_cell HI.out.sl hjl
                rw [← hx] at hcell
                obtain ⟨hm1, hm2⟩ := HOx.out.mem x (hx ▸ List.getElem_mem hjl)
                have h37 := owner_inv HI.out z9 (by omega) x
                rw [owner_mem HI.out.ris hm1] at h37
                have H37 := hid h37
                have HM1 := hid hm1
                have HM2 := hid hm2
                have HX := hid hx
                clear h37 hm1 hm2 hx
                go_wp2_with (first
                  | (go_at_call 37
                     refine H37.out.mono ?_
                     rintro e w8 ⟨rfl, hI8, hk8⟩
                     have z8 := hI8.below.size
                     obtain ⟨mb3, mo3, he3, hcell3⟩ := mine_cell hI8.sl hjl
                     rw [← HX.out] at hcell3
                     simp only [Option.some.injEq, Addr.mk.injEq, true_and, and_true] at he3
                     obtain ⟨e1, e2⟩ := he3
                     subst e1
                     subst e2
                     have h33 := take_inv (hI8.alloc z8 (.cells #[.int .i64 x] 3)) (by simp; omega) (rd_one x (heap_at _ _ _ rfl) 1) (by simp; omega) 9
                     rw [takeRes_one hI8.ris HM1.out HM2.out] at h33
                     have H33 := hid h33
                     clear h33 hI8 hk8)
                  | (go_at_call 33
                     refine H33.out.mono ?_
                     rintro e w9 ⟨rfl, hI9, hk9⟩
                     have HI9 := hid hI9
                     clear hI9 hk9))
                go_roundg (1000 - (j + 1))
                case measure => omega
                case rel => exact ⟨j + 1, rfl, by go_num, by omega, HI9⟩
              · go_wp2
                go_roundg (40 - (i + 1))
                case measure => omega
                case rel => exact ⟨i + 1, rfl, by omega, by omega, by go_num, ⟨_, _, HI.out, HOx.out, rfl⟩⟩
        · have h20' : decide ((20 : Int) < (ps.length : Int)) = true := by simp; omega
          go_wp2
          go_ret
          exact ⟨rfl, HI.out.below⟩
      · obtain ⟨hs, ml, hI, -, -⟩ := hT.out
        have HB := hid hI.below
        clear hT hI
        go_wp2
        go_ret
        exact ⟨rfl, HB.out⟩
    · obtain ⟨hs, ml, hI, -, -⟩ := hT.out
      have HB := hid hI.below
      clear hT hI
      go_wp2
      go_ret
      exact ⟨rfl, HB.out⟩
end Go.Proofs.Ytnceglkoolfncaa.Po
