/- The table of ports: the law PortPlays walked. -/
import Derived.Test.YtnceglkoolfncaaPu
import Derived.Test.YtnceglkoolfncaaPl
import Derived.Deep.LoopGhost
namespace Go.Proofs.Ytnceglkoolfncaa.Po
open Go.RowKit Go.Pv

/-- append(want, x) -/
theorem append_one {w : World} {mv : Value} {ml : List Int} (h : SlOf w 3 1 encI mv ml) (hl : ml.length ≤ 10000) (x : Int) (ty : TypeId) (b : Nat) (hb : w.heap[b]? = some (.cells #[.int .i64 x] 3 (0, 0))) :
    ∃ a c w', (Builtin.append_ #[50, 50] ty #[mv, .slice (some ⟨b, 0, none⟩) 1 1]).run Try.prog w = .ok (.slice a (ml ++ [x]).length c) w' ∧ SlOf w' 3 1 encI (.slice a (ml ++ [x]).length c) (ml ++ [x]) ∧ Keeps (fun i => mv.ownBlock = some i) w w' ∧
      (∀ g, Value.ownBlock (.slice a (ml ++ [x]).length c) = some g → mv.ownBlock = some g ∨ w.heap.size ≤ g) := by
  obtain ⟨i, hi, hz, hs', hby⟩ := info3'
  obtain ⟨v', w', r1, r2, r3, r4, _⟩ := run_append_sl (P := Try.prog) w 50 ty 3 i _ 1 8 Try.underlying50 hi hz hs' hby rfl mv _ _ h (.slice (some ⟨b, 0, none⟩) 1 1) 1 [.int .i64 x]
    (.inr ⟨_, _, rfl, fun j u hu => by
      cases j with
      | succ j => simp at hu
      | zero => simp at hu; subst hu; rw [Addr.add_lit, cell_of_row w b _ _ _ _ hb]; rfl⟩) rfl (by simp [Value.oneCell']) (by unfold maxLen; omega) (by omega)
  have hsl : SlOf w' 3 1 encI v' (ml ++ [x]) := by unfold SlOf; rw [List.length_append, List.flatMap_append]; exact r2
  obtain ⟨a, c', rfl⟩ := sl_form hsl
  refine ⟨a, c', w', r1, hsl, r3, fun g hg => ?_⟩
  rcases r4 with h4 | h4
  · rw [h4] at hg; exact .inl hg
  · rw [h4] at hg; simp at hg; exact .inr (by omega)

/-- What holds ahead of each round. -/
def Plays (w : World) (p : Nat) (i : Nat) (qv : Value) (wr : World) : Prop :=
  ∃ hs A c, qv = .slice A hs.length c ∧ PInv w.heap.size w p hs (.slice none 0 0) [] wr ∧ QV wr (fun k => w.heap.size ≤ k ∧ k ≠ p) A c hs ∧ Owned hs ∧ hs.length ≤ 20 * i

def CapOk (v : Value) : Prop := ∃ a n c, v = .slice a n c ∧ n ≤ c

set_option maxRecDepth 100000 in
set_option maxHeartbeats 8000000 in
theorem plays_any {w : World} {v : Value} {l : List PAct} (hv : Rd w 3 encPA v l) (hps : ∀ a ∈ l, Rd w 1 encI a.v a.ps ∧ CapOk a.v) (ask most : Int) (hlen : (l.length : Int) ≤ 9223372036854775807) :
    Calls Try.prog 6 #[v, .int .i64 ask, .int .i64 most] w fun e w' => e = .returned (.bool true) ∧ Below w.heap.size w w' := by
  have HV := hid hv
  have HP := hid hps
  have hvf := hv.form
  obtain ⟨va, vcap, rfl⟩ := hvf
  clear hv hps
  go_enter Try.func6, Try.ntmps6
  go_wp2_with (go_at_call 30; refine (new_any _).mono ?_; rintro e w2 ⟨rfl, hT, hk, hz⟩; have HT := hid hT; have HK := hid hk; clear hT hk hz)
  have h0 : Plays w w.heap.size 0 (.slice none 0 0) w2 :=
    ⟨[], none, 0, rfl, ⟨⟨_, HT.out, by simp [Value.ownBlock]⟩, Nat.le_refl _, SlRow.nil _ _ _, by simp [Value.ownBlock], HK.out.below (Nat.le_refl _) (by simp)⟩, QV.nil _ _, (by intro x h; cases h), by simp⟩
  have H0 := hid h0
  obtain ⟨p, hp⟩ : ∃ p, p = w.heap.size := ⟨_, rfl⟩
  rw [← hp] at H0 ⊢
  clear h0 HT HK hp
  go_loopg [8, 9] 40 (fun g qv iv wr => ∃ i : Nat, g = 40 - i ∧ i ≤ 40 ∧ i ≤ l.length ∧ iv = .int .i64 i ∧ Hid (Plays w p i qv wr))
  case atStart => exact ⟨0, rfl, by omega, by omega, rfl, H0⟩
  case round =>
    clear H0
    obtain ⟨i, rfl, hi1, hi2, rfl, hT⟩ := hrel
    obtain ⟨hs, qa, qc, hqv, hI, hQ, hO, hfew⟩ := hT.out
    subst hqv
    have hbw := hI.below
    have zw := hbw.size
    have Zp := hid hI.plt
    have HBW := hid hbw
    have HI0 := hid hI
    have HQ0 := hid hQ
    have HO := hid hO
    clear hT hI hQ hO hbw
    refine (Decidable.em (i < l.length)).elim (fun hlen2 => ?il) (fun hlen2 => ?ol)
    case' il =>
      refine (Decidable.em (i < 40)).elim (fun hk40 => ?ik) (fun hk40 => ?ok)
      case ik =>
        obtain ⟨b, o, hva, hb, hc⟩ : ∃ b o, va = some ⟨b, o, none⟩ ∧ b < w.heap.size ∧ ∀ i x, l[i]? = some x → ∀ j u, (encPA x)[j]? = some u → w.cell? ⟨b, o + i * 3 + j, none⟩ = some u := by
          rcases HV.out with ⟨h, _⟩ | ⟨b, o, cap, h, h1, h2⟩
          · subst h; simp at hlen2
          · simp only [Value.slice.injEq] at h; exact ⟨b, o, h.1, h1, h2⟩
        subst hva
        have hak : l[i]? = some l[i] := List.getElem?_eq_getElem hlen2
        obtain ⟨hpa, hcap⟩ := HP.out l[i] (List.getElem_mem hlen2)
        obtain ⟨⟨kd, u, pv, ps⟩, ha⟩ : ∃ a, a = l[i] := ⟨_, rfl⟩
        rw [← ha] at hak hpa hcap
        have hpa : Rd w 1 encI pv ps := hpa
        have hcap : CapOk pv := hcap
        have d0 : wr.cell? ⟨b, o + i * 3, none⟩ = some (.int .i64 kd) := (HBW.out.cell (p := ⟨b, o + i * 3, none⟩) hb).trans (hc i _ hak 0 _ rfl)
        have d1 : wr.cell? ⟨b, o + i * 3 + 1, none⟩ = some (.int .i64 u) := (HBW.out.cell (p := ⟨b, o + i * 3 + 1, none⟩) hb).trans (hc i _ hak 1 _ rfl)
        have d2 : wr.cell? ⟨b, o + i * 3 + 2, none⟩ = some pv := (HBW.out.cell (p := ⟨b, o + i * 3 + 2, none⟩) hb).trans (hc i _ hak 2 _ rfl)
        obtain ⟨pa, pc, hpv⟩ := hpa.form
        subst hpv
        have hcp : ps.length ≤ pc := by
          obtain ⟨a, n, c, he, hn⟩ := hcap
          simp only [Value.slice.injEq] at he
          omega
        have hI2 := HI0.out.alloc zw (.cells #[.int .i64 kd, .int .i64 u, .slice pa ps.length pc] 68)
        have hQ2 := HQ0.out.kept (F := fun _ => False) ((Keeps.refl _ wr).alloc (.cells #[.int .i64 kd, .int .i64 u, .slice pa ps.length pc] 68)) (by simp)
        have HI := hid hI2
        have HQ := hid hQ2
        have HPA := hid hpa
        clear hpa ha hak hc hcap hI2 hQ2
        by_cases h20 : ps.length ≤ 20
        · have h20' : decide ((20 : Int) < (ps.length : Int)) = false := by simp; omega
          refine (Decidable.em (kd = 0)).elim (fun hkd => ?kdy) (fun hkd => ?kdn)
          case' kdy =>
            subst hkd
            have h32 := rTake HQ.out HI.out.ris HO.out (HPA.out.below HI.out.below) hcp (by omega) (by omega) u
            have ho5 := takeRes_owned (o := u) (ps := ps) HO.out
            have hf5 := takeRes_few u ps hs
            obtain ⟨hs5, hh5⟩ : ∃ x, x = (takeRes u ps hs).2 := ⟨_, rfl⟩
            obtain ⟨cd, hcd⟩ : ∃ x, x = (takeRes u ps hs).1 := ⟨_, rfl⟩
            rw [← hh5] at h32 ho5 hf5
            rw [← hcd] at h32
            have HH5 := hid hh5
            have HCD := hid hcd
            have H32 := hid h32
            have HOx := hid ho5
            have hf5' : hs5.length ≤ 20 * (i + 1) := by omega
            clear h32 ho5 hf5 hh5 hcd
            go_upto_region 20 with (first
              | (go_at_call 32
                 refine H32.out.mono ?_
                 rintro e w3 ⟨qa5, qc5, rfl, hQ3, hk3⟩
                 obtain ⟨bx, z3⟩ := box_kept (F := fun _ => False) (by simp) hk3
                 obtain ⟨x0, x1, x2⟩ := cells3 bx
                 have hI3 := HI.out.kept (by simp; omega) hk3
                 have h33 := take_inv hI3 (by omega) (HPA.out.below hI3.below) (by omega) u
                 rw [← HH5.out, ← HCD.out] at h33
                 have H33 := hid h33; have HQ3 := hid hQ3; clear h33 hQ3 hI3 hk3 bx)
              | (go_at_call 33
                 refine H33.out.mono ?_
                 rintro e w4 ⟨rfl, hI4, hk4⟩
                 have HIx := hid hI4
                 have HQx := hid (((HQ3.out.mono (ok' := fun k => w.heap.size ≤ k ∧ k ≠ p) (fun k hk => by have := Zp.out; simp at hk; omega)).kept hk4 (fun k hk => hk.2)))
                 clear hI4 hk4))
          case' kdn =>
            have hk0 : (kd == 0) = false := by simp [hkd]
            clear hkd
            have h34 := rFree HQ.out (by omega) u
            have ho5 := without_owned (o := u) HO.out
            have hf5 := without_few u hs
            obtain ⟨hs5, hh5⟩ : ∃ x, x = without u hs := ⟨_, rfl⟩
            rw [← hh5] at h34 ho5 hf5
            have HH5 := hid hh5
            have H34 := hid h34
            have HOx := hid ho5
            have hf5' : hs5.length ≤ 20 * (i + 1) := by omega
            clear h34 ho5 hf5 hh5
            go_upto_region 20 with (first
              | (go_at_call 34
                 refine H34.out.mono ?_
                 rintro e w3 ⟨qa5, qc5, rfl, hQ3, hk3⟩
                 obtain ⟨bx, z3⟩ := box_kept (F := fun _ => False) (by simp) hk3
                 obtain ⟨x0, x1, x2⟩ := cells3 bx
                 have hI3 := HI.out.kept (by simp; omega) hk3
                 have h35 := free_inv hI3 (by omega) (by omega) u
                 rw [← HH5.out] at h35
                 have H35 := hid h35; have HQ3 := hid hQ3; clear h35 hQ3 hI3 hk3 bx)
              | (go_at_call 35
                 refine H35.out.mono ?_
                 rintro e w4 ⟨rfl, hI4, hk4⟩
                 have HIx := hid hI4
                 have HQx := hid (((HQ3.out.mono (ok' := fun k => w.heap.size ≤ k ∧ k ≠ p) (fun k hk => by have := Zp.out; simp at hk; omega)).kept hk4 (fun k hk => hk.2)))
                 clear hI4 hk4))
          all_goals
            have zx := HIx.out.below.size
            have H36 := hid (len_inv HIx.out)
            have H37 := hid (owner_inv HIx.out zx (by omega) ask)
            go_wp2_with (first
              | (go_at_call 36; refine H36.out.mono ?_; rintro e w6 ⟨rfl, rfl⟩)
              | (go_at_call 37; refine H37.out.mono ?_; rintro e w6 ⟨rfl, hI6, hk6⟩; have hQ6 := HQx.out.kept hk6 (fun k hk => hk.2); have H38 := hid (rOwner hQ6 (by omega) ask); have HI6 := hid hI6; have HQ6 := hid hQ6; clear hI6 hk6 hQ6)
              | (go_at_call 38; refine H38.out.mono ?_; rintro e w7 ⟨rfl, hk7⟩; have HI7 := hid (HI6.out.kept HI6.out.below.size hk7); have HQ7 := hid (HQ6.out.kept hk7 (by simp)); clear hk7))
            go_roundg (40 - (i + 1))
            case measure => omega
            case rel => exact ⟨i + 1, rfl, by omega, by omega, by go_num, ⟨_, _, _, rfl, HI7.out, HQ7.out, HOx.out, hf5'⟩⟩
        · have h20' : decide ((20 : Int) < (ps.length : Int)) = true := by simp; omega
          go_wp2_with (go_at_call 31; refine (works_any _).mono ?_; rintro e w3 ⟨rfl, hb⟩; have HB := hid hb; clear hb)
          go_ret
          exact ⟨rfl, HI.out.below.trans (HB.out.mono HI.out.below.size)⟩
      case' ok =>
        go_upto_region 22 with fail
    case' ol =>
      go_upto_region 22 with fail
    all_goals
      obtain ⟨wo, hwo⟩ : ∃ wo : World, wo = wr := ⟨_, rfl⟩
      subst hwo
      have h0 : SlOf wo 3 1 encI (.slice none 0 0) [] := SlRow.nil _ _ _
      have H0 := hid h0
      have HCL := hid (cells_of_C HQ0.out.C.2)
      clear h0
      go_wp2
      go_loopg [15, 16] hs.length (fun g wv jv wx => ∃ j : Nat, g = hs.length - j ∧ j ≤ hs.length ∧ jv = .int .i64 j ∧ ∃ wa wc, wv = .slice wa (mine ask (hs.take j)).length wc ∧ Hid (SlOf wx 3 1 encI wv (mine ask (hs.take j)) ∧ (∀ g, wv.ownBlock = some g → wo.heap.size ≤ g) ∧ Below wo.heap.size wo wx))
      case atStart => exact ⟨0, rfl, by omega, rfl, none, 0, rfl, H0.out, by simp [Value.ownBlock], Below.refl _ _⟩
      case round =>
        clear H0
        obtain ⟨j, rfl, hj, rfl, wa, wc, rfl, hX⟩ := hrel
        by_cases hjl : j < hs.length
        · obtain ⟨b, o, rfl, hb, hc1, hc2⟩ := HCL.out j hjl
          obtain ⟨hw1, hw2, hw3⟩ := hX.out
          have hm : hs.take (j + 1) = hs.take j ++ [hs[j]] := by rw [List.take_add_one, List.getElem?_eq_getElem hjl]; rfl
          obtain ⟨⟨y1, y2⟩, hy⟩ : ∃ y, y = hs[j] := ⟨_, rfl⟩
          rw [← hy] at hc1 hc2 hm
          have e1 : wr.cell? ⟨b, o + j * 2, none⟩ = some (.int .i64 y1) := (hw3.cell (p := ⟨b, o + j * 2, none⟩) hb).trans hc1
          have e2 : wr.cell? ⟨b, o + j * 2 + 1, none⟩ = some (.int .i64 y2) := (hw3.cell (p := ⟨b, o + j * 2 + 1, none⟩) hb).trans hc2
          have HM := hid hm
          have hml : (mine ask (hs.take j)).length ≤ 1000 := by
            have : (mine ask (hs.take j)).length ≤ (hs.take j).length := by unfold mine; rw [List.length_map]; exact List.length_filter_le _ _
            rw [List.length_take] at this; omega
          have zz := hw3.size
          by_cases ho : y2 = ask
          · subst ho
            obtain ⟨a4, c4, w4, hr4, hs4, hk4, hg4⟩ := append_one (hw1.alloc (.cells #[.int .i64 y1] 3)) (by omega) y1 50 wr.heap.size (heap_at _ _ _ rfl)
            have hmm : mine y2 (hs.take (j + 1)) = mine y2 (hs.take j) ++ [y1] := by rw [hm]; exact mine_hit y2 (hs.take j) (y1, y2) (by simp)
            have hb4 : Below wo.heap.size wo w4 := (hw3.alloc zz _).trans (hk4.below (by simp; omega) hw2)
            rw [← hmm] at hr4 hs4 hg4
            have HR4 := hid hr4
            have HX4 : Hid (SlOf w4 3 1 encI (.slice a4 (mine y2 (hs.take (j + 1))).length c4) (mine y2 (hs.take (j + 1))) ∧ (∀ g, Value.ownBlock (.slice a4 (mine y2 (hs.take (j + 1))).length c4) = some g → wo.heap.size ≤ g) ∧ Below wo.heap.size wo w4) :=
              hid ⟨hs4, fun g hg => by rcases hg4 g hg with h | h; exact hw2 g h; simp at h; omega, hb4⟩
            clear hm hy hc1 hc2 hw1 hw2 hw3 hr4 hs4 hk4 hg4 hmm hb4 hX HM
            go_wp2_with (at_builtin; refine wl_append rfl _ _ _ rfl ⟨_, _, HR4.out, ?_⟩)
            go_roundg (hs.length - (j + 1))
            case measure => omega
            case rel => exact ⟨j + 1, rfl, by omega, by go_num, _, _, rfl, HX4⟩
          · have hob : (y2 == ask) = false := by simp [ho]
            have hmm : mine ask (hs.take (j + 1)) = mine ask (hs.take j) := by rw [hm]; exact mine_miss ask (hs.take j) (y1, y2) hob
            have HMM := hid hmm
            clear hm hy hc1 hc2 hw1 hw2 hw3 hmm HM ho
            go_wp2
            go_roundg (hs.length - (j + 1))
            case measure => omega
            case rel => exact ⟨j + 1, rfl, by omega, by go_num, wa, wc, by rw [HMM.out], by rw [HMM.out]; exact hX⟩
        · have hje : j = hs.length := by omega
          subst hje
          rw [List.take_length] at hX ⊢
          obtain ⟨hw1, hw2, hw3⟩ := hX.out
          obtain ⟨tv, hT, -⟩ := HI0.out.tab
          have hkeep : ∀ x : World, Below wo.heap.size wo x → TabAt x p tv hs := fun x hb => hT.kept (below_keeps hb (fun _ => False)) (by simp) (by simp)
          have HKT := hid hkeep
          have hml : (mine ask hs).length ≤ 1000 := by
            have : (mine ask hs).length ≤ hs.length := by unfold mine; rw [List.length_map]; exact List.length_filter_le _ _
            omega
          have HW := hid hw1
          have H39 := hid (held_low (hkeep _ hw3) (by omega) ask)
          have HW3 := hid hw3
          have zz := hw3.size
          clear hX hw1 hw2 hT hkeep hw3
          go_wp2_with (first
            | (go_at_call 39
               refine H39.out.mono ?_
               rintro e w6 ⟨ha, hc, rfl, hS6, hg6, hb6⟩
               have H40 := hid (rSame hS6 (SlRow.kept HW.out (below_keeps hb6 (fun _ => False)) (by simp)) (by omega))
               have HS6 := hid hS6; have HG6 := hid hg6; have HB6 := hid (HW3.out.trans (hb6.mono zz)); clear hS6 hg6 hb6)
            | (go_at_call 40
               refine H40.out.mono ?_
               rintro e w7 ⟨rfl, hk7⟩
               have hb7 : Below wo.heap.size wo w7 := HB6.out.trans (hk7.below HB6.out.size (by simp))
               have H41 := hid (spoil_any (SlRow.kept HS6.out hk7 (by simp)) (by omega) wo.heap.size (fun g hg => by have := HG6.out g hg; omega) hb7.size)
               have HB7 := hid hb7; clear hb7 hk7)
            | (go_at_call 41
               refine H41.out.mono ?_
               rintro e w8 ⟨⟨sv, rfl⟩, hb8⟩
               have hb8' : Below wo.heap.size wo w8 := HB7.out.trans hb8
               have H42 := hid (callsIn_wide.1 (allLaw_in Fence.wide 3 trivial trivial trivial rfl (by omega) p tv hs (by omega) w8 (HKT.out _ hb8') qa qc (fun k hk => by
                 obtain ⟨b, o, h1, h2, h3, h4⟩ := HCL.out k hk
                 exact ⟨b, o, h1, Nat.lt_of_lt_of_le h2 hb8'.size, (hb8'.cell (p := ⟨b, o + k * 2, none⟩) h2).trans h3, (hb8'.cell (p := ⟨b, o + k * 2 + 1, none⟩) h2).trans h4⟩) most))
               have HB8 := hid hb8'; clear hb8 hb8')
            | (go_at_call 42
               refine H42.out.mono ?_
               rintro e w9 ⟨rfl, hb9⟩
               have HB9 := hid (HB8.out.trans (hb9.mono HB8.out.size)); clear hb9)
            | (go_at_call 31
               refine (works_any _).mono ?_
               rintro e w10 ⟨rfl, hb10⟩
               have HB10 := hid (HB9.out.trans (hb10.mono HB9.out.size)); clear hb10))
          go_ret
          exact ⟨rfl, HBW.out.trans (HB10.out.mono zw)⟩
end Go.Proofs.Ytnceglkoolfncaa.Po
