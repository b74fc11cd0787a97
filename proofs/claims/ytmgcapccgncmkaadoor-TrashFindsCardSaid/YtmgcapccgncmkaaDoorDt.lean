import Derived.Test.YtmgcapccgncmkaaDoorPTrashFindsx0
namespace Go.Proofs.YtmgcapccgncmkaaDoor.PTrashFinds
open Go.RowKit Go.Proofs.YtmgcapccgncmkaaDoorW.PrintWords Go.Proofs.YtmgcapccgncmkaaDoorW.PrintLast Go.Proofs.YtmgcapccgncmkaaDoorW.PrintMore
attribute [local go_sem] max2_int min2_int max_two min_two max_three min_three max_four min_four   -- for this text's walks alone
set_option linter.unusedVariables false
set_option linter.unusedSimpArgs false

theorem info83 : (Tryd.prog.info? 83).map (fun i => (i.zero, i.size, i.bytes)) = some (some (.agg #[(.int .i64 0), (.int .i64 0), (.int .i64 0), (.slice none 0 0)]), 4, 48) := by kernel_rfl
theorem info95 : (Tryd.prog.info? 95).map (fun i => (i.zero, i.size, i.bytes)) = some (some (.agg #[(.int .i64 0), (.string ⟨#[]⟩), (.string ⟨#[]⟩), (.int .i64 0), (.int .i64 0), (.int .i64 0), (.bool false)]), 7, 72) := by kernel_rfl
/-! ### provostlaw33_light: function 34 -/
mutual
def provostlaw33_light.l0 : Nat → List (S83) → Int → Option (Bool)
  | 0, _, _ => none
  | k + 1, x0, x3 => if x3 < (x0.length : Int) then (provostlaw33_light.j1 k x0 x3 (decide (x3 < 20))) else (provostlaw33_light.j1 k x0 x3 false)
def provostlaw33_light.j1 : Nat → List (S83) → Int → Bool → Option (Bool)
  | 0, _, _, _ => none
  | k + 1, x0, x3, x11 => if x11 = true then (if 0 ≤ x3 then (if x3 < (x0.length : Int) then (if (((rd_T83 x0 x3).f3).length : Int) > 40 then (some false) else (provostlaw33_light.l0 k x0 (wrap64 (x3 + 1)))) else (none)) else (none)) else (some (decide ((x0.length : Int) ≤ 20)))
end
def provostlaw33_light.f (k : Nat) (l0 : List (S83)) : Option (Bool) := provostlaw33_light.l0 k l0 0
set_option maxHeartbeats 8000000 in
set_option maxRecDepth 100000 in
theorem provostlaw33_light.calls (k : Nat) (A0 : Option Addr) (c0 : Nat) (l0 : List (S83)) (r : Bool) (w : World) (hr0 : Kd.C k83 w A0 l0.length l0) (hc0 : l0.length ≤ c0) (h : provostlaw33_light.f k l0 = some r) :
    Calls Tryd.prog 34 #[.slice A0 l0.length c0] w fun e w' => e = .returned (.bool r) ∧ Drawn0 w w' := by
  have HR0 := Aside0.mk hr0
  have HC0 := Aside0.mk hc0
  clear hr0 hc0
  have H : (provostlaw33_light.l0 k l0 0) = some r := h
  clear h
  have H' := Aside0.mk H
  clear H
  go_enter Tryd.func34, Tryd.ntmps34
  go_wp2
  go_loopg [3] k (fun kq v3 w' => ∃ (x3_1 : Int), v3 = .int .i64 x3_1 ∧ Aside0 (provostlaw33_light.l0 kq l0 x3_1 = some r) ∧ Aside0 (kq ≤ k) ∧ Drawn0 w w')
  case atStart => exact ⟨(0), (by first | rfl | (simp; done) | (simp [*]; done)), H', ⟨Nat.le_refl _⟩, by repeat (first | exact Drawn0.refl _ | apply Drawn0.step)⟩
  case round =>
    clear H'
    obtain ⟨x3_1, rfl, HA, HK1, ⟨m1, rfl⟩⟩ := hrel
    cases gk with
    | zero => exact absurd HA.out (by simp [provostlaw33_light.l0])
    | succ k1 =>
      have H := HA.out
      clear HA
      simp only [provostlaw33_light.l0] at H
      have HC2 := Aside0.mk H
      clear H
      go_upto_region 2 with (fail)
      go_cut [11] (fun v11 wc => ∃ (kq : Nat) (x11_1 : Bool), v11 = .bool x11_1 ∧ Aside0 (provostlaw33_light.j1 kq l0 x3_1 x11_1 = some r) ∧ Aside0 (kq ≤ k1) ∧ Drawn0 w wc)
      case first =>
        have H := HC2.out
        clear HC2
        by_cases c3 : x3_1 < (l0.length : Int)
        · rw [if_pos c3] at H
          have c3b0 : decide (x3_1 < (l0.length : Int)) = true := decide_eq_true c3
          clear c3
          (first | rw [c3b0] | (simp only [i64_w, i32_w]; rw [c3b0]) | skip)
          have H' := Aside0.mk H
          clear H
          go_wp2
          go_meet
          case rel => exact ⟨_, (decide (x3_1 < 20)), (by first | rfl | (simp; done) | (simp [*]; done)), H', ⟨by have := HK1.out; first | omega | exact Nat.le_refl _⟩, by repeat (first | exact Drawn0.refl _ | apply Drawn0.step)⟩
        · rw [if_neg c3] at H
          have c3b0 : decide (x3_1 < (l0.length : Int)) = false := decide_eq_false c3
          clear c3
          (first | rw [c3b0] | (simp only [i64_w, i32_w]; rw [c3b0]) | skip)
          have H' := Aside0.mk H
          clear H
          go_wp2
          go_meet
          case rel => exact ⟨_, (false), (by first | rfl | (simp; done) | (simp [*]; done)), H', ⟨by have := HK1.out; first | omega | exact Nat.le_refl _⟩, by repeat (first | exact Drawn0.refl _ | apply Drawn0.step)⟩
      case rest =>
        clear HC2
        try clear p2
        try clear c3
        try clear c3b0
        obtain ⟨kq, x11_1, rfl, HA, HJ1, ⟨mc1, rfl⟩⟩ := hcut
        cases kq with
        | zero => exact absurd HA.out (by simp [provostlaw33_light.j1])
        | succ kj1 =>
          have H := HA.out
          clear HA
          simp only [provostlaw33_light.j1] at H
          by_cases c4 : x11_1 = true
          · subst c4
            have H1 : (if 0 ≤ x3_1 then (if x3_1 < (l0.length : Int) then (if (((rd_T83 l0 x3_1).f3).length : Int) > 40 then (some false) else (provostlaw33_light.l0 kj1 l0 (wrap64 (x3_1 + 1)))) else (none)) else (none)) = some r := by rw [if_pos rfl] at H; exact H
            clear H
            have H := H1
            clear H1
            by_cases c5 : 0 ≤ x3_1
            · rw [if_pos c5] at H
              have c5b0 : decide (0 ≤ x3_1) = true := decide_eq_true c5
              clear c5
              by_cases c6 : x3_1 < (l0.length : Int)
              · rw [if_pos c6] at H
                have c6b0 : decide (x3_1 < (l0.length : Int)) = true := decide_eq_true c6
                clear c6
                by_cases c7 : (((rd_T83 l0 x3_1).f3).length : Int) > 40
                · rw [if_pos c7] at H
                  have c7b0 : decide (40 < (((rd_T83 l0 x3_1).f3).length : Int)) = true := decide_eq_true c7
                  have c7b1 : decide (40 < ((rd_T83 l0 x3_1).f3).length) = true := decide_eq_true (by omega)
                  clear c7
                  obtain rfl := Option.some.inj H
                  have p362 : 0 ≤ (x3_1 : Int) := of_decide_eq_true (by first | (with_reducible assumption) | assumption)
                  have q362 : x3_1 < (l0.length : Int) := of_decide_eq_true (by first | (with_reducible assumption) | assumption)
                  obtain ⟨ad362, A362_3, c362_3, e362, hx362_0, hx362_1, hx362_2, hx362_3, hl362_3, hi362_3⟩ := at_T83 HR0.out x3_1 p362 q362
                  cases e362
                  have HR362_3 := Aside0.mk hi362_3
                  have HC362_3 := Aside0.mk hl362_3
                  clear hi362_3 hl362_3
                  replace p362 := eq_true p362
                  replace q362 := eq_true q362
                  go_wp2
                  go_ret
                  exact ⟨by first | rfl | (simp; done) | (simp [*]; done), by repeat (first | exact Drawn0.refl _ | apply Drawn0.step)⟩
                · rw [if_neg c7] at H
                  have c7b0 : decide (40 < (((rd_T83 l0 x3_1).f3).length : Int)) = false := decide_eq_false c7
                  have c7b1 : decide (40 < ((rd_T83 l0 x3_1).f3).length) = false := decide_eq_false (by omega)
                  clear c7
                  have H' := Aside0.mk H
                  clear H
                  have p362 : 0 ≤ (x3_1 : Int) := of_decide_eq_true (by first | (with_reducible assumption) | assumption)
                  have q362 : x3_1 < (l0.length : Int) := of_decide_eq_true (by first | (with_reducible assumption) | assumption)
                  obtain ⟨ad362, A362_3, c362_3, e362, hx362_0, hx362_1, hx362_2, hx362_3, hl362_3, hi362_3⟩ := at_T83 HR0.out x3_1 p362 q362
                  cases e362
                  have HR362_3 := Aside0.mk hi362_3
                  have HC362_3 := Aside0.mk hl362_3
                  clear hi362_3 hl362_3
                  replace p362 := eq_true p362
                  replace q362 := eq_true q362
                  go_wp2
                  go_roundg kj1
                  case measure => have := HK1.out; have := HJ1.out; omega
                  case rel => exact ⟨(wrap64 (x3_1 + 1)), (by first | rfl | (simp; done) | (simp [*]; done)), H', ⟨by have := HK1.out; have := HJ1.out; omega⟩, by repeat (first | exact Drawn0.refl _ | apply Drawn0.step)⟩
              · rw [if_neg c6] at H
                exact absurd H (by simp)
            · rw [if_neg c5] at H
              exact absurd H (by simp)
          · replace c4 := Bool.eq_false_iff.mpr c4
            subst c4
            have H1 : (some (decide ((l0.length : Int) ≤ 20))) = some r := by rw [if_neg (show ¬ (false = true) by decide)] at H; exact H
            clear H
            have H := H1
            clear H1
            obtain rfl := Option.some.inj H
            go_wp2
            go_ret
            exact ⟨by first | rfl | (simp; done) | (simp [*]; done), by repeat (first | exact Drawn0.refl _ | apply Drawn0.step)⟩

-- NOT PRINTED: function 37 (trash_Dead)

-- NOT PRINTED: function 97 (slices_IndexFunc_string_string)

-- NOT PRINTED: function 70 (slices_DeleteFunc_string_string)

-- NOT PRINTED: function 30 (img_Store_Has)

-- NOT PRINTED: function 71 (img_Store_List)

-- NOT PRINTED: function 114 (slices_insertionSortCmpFunc_string)

-- NOT PRINTED: function 153 (slices_swapRangeCmpFunc_string)

-- NOT PRINTED: function 133 (slices_rotateCmpFunc_string)

-- NOT PRINTED: function 115 (slices_symMergeCmpFunc_string)

-- NOT PRINTED: function 98 (slices_stableCmpFunc_string)

-- NOT PRINTED: function 73 (slices_SortStableFunc_string_string)

-- NOT PRINTED: function 32 (img_Store_Unused)

-- NOT PRINTED: function 40 (trash_Image)

-- NOT PRINTED: function 41 (trash_Next)

-- NOT PRINTED: function 42 (trash_Count)

-- NOT PRINTED: function 35 (provostlaw33_works)

/-! ### provostlaw33_without: function 43 -/
mutual
def provostlaw33_without.l0 : Nat → List (S83) → List (S83) → Int → Int → Int → ByteArray → Option ((List (S83)))
  | 0, _, _, _, _, _, _ => none
  | k + 1, x0, x5, x6, x370000, x370001, x370002 => if x6 < (x0.length : Int) then (if 0 ≤ x6 then (provostlaw33_without.l1 k x0 x5 x6 ([] : List (S95)) 0 x370000 x370001 x370002 ((rd_T83 x0 x6).f0) ((rd_T83 x0 x6).f1) ((rd_T83 x0 x6).f2) ((rd_T83 x0 x6).f3)) else (none)) else (some x5)
def provostlaw33_without.l1 : Nat → List (S83) → List (S83) → Int → List (S95) → Int → Int → Int → ByteArray → Int → Int → Int → List (S95) → Option ((List (S83)))
  | 0, _, _, _, _, _, _, _, _, _, _, _, _ => none
  | k + 1, x0, x5, x6, x8, x9, x370000, x370001, x370002, x372000, x372001, x372002, x372003 => if x9 < (x372003.length : Int) then (if x372000 = x370000 then (if 0 ≤ x9 then (if ((rd_T95 x372003 x9).f0) = x370001 then (provostlaw33_without.l1 k x0 x5 x6 x8 (wrap64 (x9 + 1)) x370000 x370001 x370002 x372000 x372001 x372002 x372003) else (if x8.length < 1954687338268 then (provostlaw33_without.l1 k x0 x5 x6 (x8 ++ [(⟨(rd_T95 x372003 x9).f0, (rd_T95 x372003 x9).f1, (rd_T95 x372003 x9).f2, (⟨(rd_T95 x372003 x9).f3.f0, (rd_T95 x372003 x9).f3.f1, (rd_T95 x372003 x9).f3.f2⟩ : S93), (rd_T95 x372003 x9).f4⟩ : S95)]) (wrap64 (x9 + 1)) x370000 x370001 x370002 x372000 x372001 x372002 x372003) else (none))) else (none)) else (if 0 ≤ x9 then (if x8.length < 1954687338268 then (provostlaw33_without.l1 k x0 x5 x6 (x8 ++ [(⟨(rd_T95 x372003 x9).f0, (rd_T95 x372003 x9).f1, (rd_T95 x372003 x9).f2, (⟨(rd_T95 x372003 x9).f3.f0, (rd_T95 x372003 x9).f3.f1, (rd_T95 x372003 x9).f3.f2⟩ : S93), (rd_T95 x372003 x9).f4⟩ : S95)]) (wrap64 (x9 + 1)) x370000 x370001 x370002 x372000 x372001 x372002 x372003) else (none)) else (none))) else (if x5.length < 2932031007402 then (provostlaw33_without.l0 k x0 (x5 ++ [(⟨x372000, x372001, x372002, x8⟩ : S83)]) (wrap64 (x6 + 1)) x370000 x370001 x370002) else (none))
end
def provostlaw33_without.f (k : Nat) (l0 : List (S83)) (a1_0 : Int) (a1_1 : Int) (a1_2 : ByteArray) : Option ((List (S83))) := provostlaw33_without.l0 k l0 ([] : List (S83)) 0 a1_0 a1_1 a1_2
set_option maxHeartbeats 8000000 in
set_option maxRecDepth 100000 in
theorem provostlaw33_without.calls (k : Nat) (A0 : Option Addr) (c0 : Nat) (l0 : List (S83)) (a1_0 : Int) (a1_1 : Int) (a1_2 : ByteArray) (r : List (S83)) (w : World) (hr0 : Kd.C k83 w A0 l0.length l0) (hc0 : l0.length ≤ c0) (h : provostlaw33_without.f k l0 a1_0 a1_1 a1_2 = some r) :
    Calls Tryd.prog 43 #[.slice A0 l0.length c0, .agg #[.int .i64 a1_0, .int .i64 a1_1, .string a1_2]] w fun e w' => ∃ v0_ : Value, e = .returned (v0_) ∧ Kd.S k83 83 w' w.heap.size (fun _ => True) v0_ r ∧ Below w.heap.size w w' := by
  have hu79 := Tryd.underlying79
  have hu83 := Tryd.underlying83
  have hu95 := Tryd.underlying95
  have HR0 := Aside0.mk hr0
  have HC0 := Aside0.mk hc0
  clear hr0 hc0
  have HB := Aside0.mk (Below.refl w.heap.size w)
  have H : (provostlaw33_without.l0 k l0 ([] : List (S83)) 0 a1_0 a1_1 a1_2) = some r := h
  clear h
  have H' := Aside0.mk H
  clear H
  go_enter Tryd.func43, Tryd.ntmps43
  go_wp2_with (first | ((with_reducible refine gate_dst (N := 3) rfl ?_); refine box_event ?hg (N := 3) ?hd (cs := #[.int .i64 a1_0, .int .i64 a1_1, .string a1_2]) (t := 79) ?hr ?_; (case hd => rfl); (case hg => rfl); (case hr => first | (go_simp; done) | (go_simp; rfl)); intro gb369 hg w3 hbox hb; have n0_ := Aside0.mk (below_step (by repeat (first | (with_reducible first | exact HB.out | apply below_alloc | apply pw_below_drewN | apply below_drew1) | exact HB.out)) hb); have n1_ := Aside0.mk (hbox); have n2_ := Aside0.mk ((by rw [hg]; exact (below_size (by repeat (first | (with_reducible first | exact HB.out | apply below_alloc | apply pw_below_drewN | apply below_drew1) | exact HB.out))) : w.heap.size ≤ gb369)); have n3_ := Aside0.mk ((by rw [hg]; exact (below_size (by repeat (first | (with_reducible first | exact HB.out | apply below_alloc | apply pw_below_drewN | apply below_drew1) | exact HB.out))) : w.heap.size ≤ gb369)); clear HB; have HB := n0_; have BK369 := n1_; have GW369 := n2_; have GE369 := n3_; clear n0_ n1_ n2_ n3_; clear hb hbox hg))
  repeat (go_quiet (first | ((with_reducible refine gate_dst (N := 3) rfl ?_); refine box_event ?hg (N := 3) ?hd (cs := #[.int .i64 a1_0, .int .i64 a1_1, .string a1_2]) (t := 79) ?hr ?_; (case hd => rfl); (case hg => rfl); (case hr => first | (go_simp; done) | (go_simp; rfl)); intro gb369 hg w3 hbox hb; have n0_ := Aside0.mk (below_step (by repeat (first | (with_reducible first | exact HB.out | apply below_alloc | apply pw_below_drewN | apply below_drew1) | exact HB.out)) hb); have n1_ := Aside0.mk (hbox); have n2_ := Aside0.mk ((by rw [hg]; exact (below_size (by repeat (first | (with_reducible first | exact HB.out | apply below_alloc | apply pw_below_drewN | apply below_drew1) | exact HB.out))) : w.heap.size ≤ gb369)); have n3_ := Aside0.mk ((by rw [hg]; exact (below_size (by repeat (first | (with_reducible first | exact HB.out | apply below_alloc | apply pw_below_drewN | apply below_drew1) | exact HB.out))) : w.heap.size ≤ gb369)); clear HB; have HB := n0_; have BK369 := n1_; have GW369 := n2_; have GE369 := n3_; clear n0_ n1_ n2_ n3_; clear hb hbox hg)); try go_wp2_with (first | ((with_reducible refine gate_dst (N := 3) rfl ?_); refine box_event ?hg (N := 3) ?hd (cs := #[.int .i64 a1_0, .int .i64 a1_1, .string a1_2]) (t := 79) ?hr ?_; (case hd => rfl); (case hg => rfl); (case hr => first | (go_simp; done) | (go_simp; rfl)); intro gb369 hg w3 hbox hb; have n0_ := Aside0.mk (below_step (by repeat (first | (with_reducible first | exact HB.out | apply below_alloc | apply pw_below_drewN | apply below_drew1) | exact HB.out)) hb); have n1_ := Aside0.mk (hbox); have n2_ := Aside0.mk ((by rw [hg]; exact (below_size (by repeat (first | (with_reducible first | exact HB.out | apply below_alloc | apply pw_below_drewN | apply below_drew1) | exact HB.out))) : w.heap.size ≤ gb369)); have n3_ := Aside0.mk ((by rw [hg]; exact (below_size (by repeat (first | (with_reducible first | exact HB.out | apply below_alloc | apply pw_below_drewN | apply below_drew1) | exact HB.out))) : w.heap.size ≤ gb369)); clear HB; have HB := n0_; have BK369 := n1_; have GW369 := n2_; have GE369 := n3_; clear n0_ n1_ n2_ n3_; clear hb hbox hg)))
  go_loopg [5, 6] k (fun kq v5 v6 w' => ∃ (x5_1 : List (S83)) (x6_1 : Int), v6 = .int .i64 x6_1 ∧ Aside0 (provostlaw33_without.l0 kq l0 x5_1 x6_1 a1_0 a1_1 a1_2 = some r) ∧ Aside0 (kq ≤ k) ∧ Aside0 (Kd.S k83 83 w' w.heap.size (fun _ => True) v5 x5_1) ∧ Aside0 (w'.heap[gb369]? = some (.cells #[.int .i64 a1_0, .int .i64 a1_1, .string a1_2] 79 (0, 0))) ∧ Aside0 (Below w.heap.size w w'))
  case atStart => exact ⟨(([] : List (S83))), (0), (by first | rfl | (simp; done) | (simp [*]; done)), H', ⟨Nat.le_refl _⟩, ⟨by first | exact Kd.S_nil _ _ _ _ _ | exact Kd.N_nil _ _ _ _ _ | exact Kd.V_nil _ _ _ _ _ | exact Kd.Q_nil _ _ _ _ _ | exact Kd.R_nil _ _ _ _ _⟩, ⟨by (with_reducible repeat (first | refine blk_drewN ?_ _ | refine blk_drew ?_ | refine blk_alloc ?_ _)); exact BK369.out⟩, ⟨by repeat (first | (with_reducible first | exact HB.out | apply below_alloc | apply pw_below_drewN | apply below_drew1 | refine below_set ?_ GE369.out) | exact HB.out)⟩⟩
  case round =>
    clear H'
    try clear p2
    obtain ⟨x5_1, x6_1, rfl, HA, HK1, HO_5, BK369, HB⟩ := hrel
    cases gk with
    | zero => exact absurd HA.out (by simp [provostlaw33_without.l0])
    | succ k1 =>
      have H := HA.out
      clear HA
      simp only [provostlaw33_without.l0] at H
      by_cases c4 : x6_1 < (l0.length : Int)
      · rw [if_pos c4] at H
        have c4b0 : decide (x6_1 < (l0.length : Int)) = true := decide_eq_true c4
        clear c4
        by_cases c5 : 0 ≤ x6_1
        · rw [if_pos c5] at H
          have c5b0 : decide (0 ≤ x6_1) = true := decide_eq_true c5
          clear c5
          have H' := Aside0.mk H
          clear H
          have p370 : 0 ≤ (x6_1 : Int) := of_decide_eq_true (by first | (with_reducible assumption) | assumption)
          have q370 : x6_1 < (l0.length : Int) := of_decide_eq_true (by first | (with_reducible assumption) | assumption)
          obtain ⟨ad370, A370_3, c370_3, e370, hx370_0, hx370_1, hx370_2, hx370_3, hl370_3, hi370_3⟩ := at_T83 HR0.out x6_1 p370 q370
          cases e370
          replace hx370_0 := (HB.out.cell (World.block_lt_of_cell? w _ hx370_0)).trans hx370_0
          replace hx370_1 := (HB.out.cell (World.block_lt_of_cell? w _ hx370_1)).trans hx370_1
          replace hx370_2 := (HB.out.cell (World.block_lt_of_cell? w _ hx370_2)).trans hx370_2
          replace hx370_3 := (HB.out.cell (World.block_lt_of_cell? w _ hx370_3)).trans hx370_3
          have HR370_3 := Aside0.mk hi370_3
          have HC370_3 := Aside0.mk hl370_3
          clear hi370_3 hl370_3
          replace p370 := eq_true p370
          replace q370 := eq_true q370
          go_wp2_with (first | ((with_reducible refine gate_dst (N := 7) rfl ?_); refine box_event ?hg (N := 7) ?hd (cs := #[.int .i64 0, .int .i64 0, .int .i64 0, .slice none 0 0]) (t := 83) ?hr ?_; (case hd => rfl); (case hg => rfl); (case hr => first | (go_simp; done) | (go_simp; rfl)); intro gb371 hg w6 hbox hb; have n0_ := Aside0.mk (Kd.S_below (Kd.S_elderB (by (with_reducible repeat (first | apply Kd.S_alloc | apply Kd.S_drewN | apply Kd.S_drew)); exact HO_5.out) gb371 (Nat.le_of_eq hg.symm)) hb); have n1_ := Aside0.mk (blk_below (g := gb369) (o := .cells #[.int .i64 a1_0, .int .i64 a1_1, .string a1_2] 79 (0, 0)) (by (with_reducible repeat (first | refine blk_drewN ?_ _ | refine blk_drew ?_ | refine blk_alloc ?_ _)); exact BK369.out) hb); have n2_ := Aside0.mk (below_step (by repeat (first | (with_reducible first | exact HB.out | apply below_alloc | apply pw_below_drewN | apply below_drew1 | refine below_set ?_ GE369.out) | exact HB.out)) hb); have n3_ := Aside0.mk (hbox); have n4_ := Aside0.mk ((by rw [hg]; exact (below_size (by repeat (first | (with_reducible first | exact HB.out | apply below_alloc | apply pw_below_drewN | apply below_drew1 | refine below_set ?_ GE369.out) | exact HB.out))) : w.heap.size ≤ gb371)); have n5_ := Aside0.mk ((by rw [hg]; exact (below_size (by repeat (first | (with_reducible first | exact HB.out | apply below_alloc | apply pw_below_drewN | apply below_drew1 | refine below_set ?_ GE369.out) | exact HB.out))) : w.heap.size ≤ gb371)); have n6_ := Aside0.mk ((by rw [hg]; exact Nat.ne_of_lt (blk_lt (g := gb369) (o := .cells #[.int .i64 a1_0, .int .i64 a1_1, .string a1_2] 79 (0, 0)) (by (with_reducible repeat (first | refine blk_drewN ?_ _ | refine blk_drew ?_ | refine blk_alloc ?_ _)); exact BK369.out)) : gb369 ≠ gb371)); have n7_ := Aside0.mk ((by rw [hg]; exact Nat.ne_of_gt (blk_lt (g := gb369) (o := .cells #[.int .i64 a1_0, .int .i64 a1_1, .string a1_2] 79 (0, 0)) (by (with_reducible repeat (first | refine blk_drewN ?_ _ | refine blk_drew ?_ | refine blk_alloc ?_ _)); exact BK369.out)) : gb371 ≠ gb369)); clear HO_5; clear BK369; clear HB; have HO_5 := n0_; have BK369 := n1_; have HB := n2_; have BK371 := n3_; have GW371 := n4_; have GE371 := n5_; have NB369_371 := n6_; have NB371_369 := n7_; clear n0_ n1_ n2_ n3_ n4_ n5_ n6_ n7_; clear hb hbox hg; have hnb7 := NB371_369.out; have hnc7 := NB369_371.out; have hcz8_0 : w6.cell? ⟨gb371, 0, none⟩ = some (.int .i64 0) := (blk_cell BK371.out 0).trans rfl; have hcz8_1 : w6.cell? ⟨gb371, 1, none⟩ = some (.int .i64 0) := (blk_cell BK371.out 1).trans rfl; have hcz8_2 : w6.cell? ⟨gb371, 2, none⟩ = some (.int .i64 0) := (blk_cell BK371.out 2).trans rfl; have hcz8_3 : w6.cell? ⟨gb371, 3, none⟩ = some (.slice none 0 0) := (blk_cell BK371.out 3).trans rfl; have hfz8_0 := blk_frozen BK371.out 0; have hfz8_1 := blk_frozen BK371.out 1; have hfz8_2 := blk_frozen BK371.out 2; have hfz8_3 := blk_frozen BK371.out 3))
          repeat (go_quiet (first | ((with_reducible refine gate_dst (N := 7) rfl ?_); refine box_event ?hg (N := 7) ?hd (cs := #[.int .i64 0, .int .i64 0, .int .i64 0, .slice none 0 0]) (t := 83) ?hr ?_; (case hd => rfl); (case hg => rfl); (case hr => first | (go_simp; done) | (go_simp; rfl)); intro gb371 hg w6 hbox hb; have n0_ := Aside0.mk (Kd.S_below (Kd.S_elderB (by (with_reducible repeat (first | apply Kd.S_alloc | apply Kd.S_drewN | apply Kd.S_drew)); exact HO_5.out) gb371 (Nat.le_of_eq hg.symm)) hb); have n1_ := Aside0.mk (blk_below (g := gb369) (o := .cells #[.int .i64 a1_0, .int .i64 a1_1, .string a1_2] 79 (0, 0)) (by (with_reducible repeat (first | refine blk_drewN ?_ _ | refine blk_drew ?_ | refine blk_alloc ?_ _)); exact BK369.out) hb); have n2_ := Aside0.mk (below_step (by repeat (first | (with_reducible first | exact HB.out | apply below_alloc | apply pw_below_drewN | apply below_drew1 | refine below_set ?_ GE369.out) | exact HB.out)) hb); have n3_ := Aside0.mk (hbox); have n4_ := Aside0.mk ((by rw [hg]; exact (below_size (by repeat (first | (with_reducible first | exact HB.out | apply below_alloc | apply pw_below_drewN | apply below_drew1 | refine below_set ?_ GE369.out) | exact HB.out))) : w.heap.size ≤ gb371)); have n5_ := Aside0.mk ((by rw [hg]; exact (below_size (by repeat (first | (with_reducible first | exact HB.out | apply below_alloc | apply pw_below_drewN | apply below_drew1 | refine below_set ?_ GE369.out) | exact HB.out))) : w.heap.size ≤ gb371)); have n6_ := Aside0.mk ((by rw [hg]; exact Nat.ne_of_lt (blk_lt (g := gb369) (o := .cells #[.int .i64 a1_0, .int .i64 a1_1, .string a1_2] 79 (0, 0)) (by (with_reducible repeat (first | refine blk_drewN ?_ _ | refine blk_drew ?_ | refine blk_alloc ?_ _)); exact BK369.out)) : gb369 ≠ gb371)); have n7_ := Aside0.mk ((by rw [hg]; exact Nat.ne_of_gt (blk_lt (g := gb369) (o := .cells #[.int .i64 a1_0, .int .i64 a1_1, .string a1_2] 79 (0, 0)) (by (with_reducible repeat (first | refine blk_drewN ?_ _ | refine blk_drew ?_ | refine blk_alloc ?_ _)); exact BK369.out)) : gb371 ≠ gb369)); clear HO_5; clear BK369; clear HB; have HO_5 := n0_; have BK369 := n1_; have HB := n2_; have BK371 := n3_; have GW371 := n4_; have GE371 := n5_; have NB369_371 := n6_; have NB371_369 := n7_; clear n0_ n1_ n2_ n3_ n4_ n5_ n6_ n7_; clear hb hbox hg; have hnb7 := NB371_369.out; have hnc7 := NB369_371.out; have hcz8_0 : w6.cell? ⟨gb371, 0, none⟩ = some (.int .i64 0) := (blk_cell BK371.out 0).trans rfl; have hcz8_1 : w6.cell? ⟨gb371, 1, none⟩ = some (.int .i64 0) := (blk_cell BK371.out 1).trans rfl; have hcz8_2 : w6.cell? ⟨gb371, 2, none⟩ = some (.int .i64 0) := (blk_cell BK371.out 2).trans rfl; have hcz8_3 : w6.cell? ⟨gb371, 3, none⟩ = some (.slice none 0 0) := (blk_cell BK371.out 3).trans rfl; have hfz8_0 := blk_frozen BK371.out 0; have hfz8_1 := blk_frozen BK371.out 1; have hfz8_2 := blk_frozen BK371.out 2; have hfz8_3 := blk_frozen BK371.out 3)); try go_wp2_with (first | ((with_reducible refine gate_dst (N := 7) rfl ?_); refine box_event ?hg (N := 7) ?hd (cs := #[.int .i64 0, .int .i64 0, .int .i64 0, .slice none 0 0]) (t := 83) ?hr ?_; (case hd => rfl); (case hg => rfl); (case hr => first | (go_simp; done) | (go_simp; rfl)); intro gb371 hg w6 hbox hb; have n0_ := Aside0.mk (Kd.S_below (Kd.S_elderB (by (with_reducible repeat (first | apply Kd.S_alloc | apply Kd.S_drewN | apply Kd.S_drew)); exact HO_5.out) gb371 (Nat.le_of_eq hg.symm)) hb); have n1_ := Aside0.mk (blk_below (g := gb369) (o := .cells #[.int .i64 a1_0, .int .i64 a1_1, .string a1_2] 79 (0, 0)) (by (with_reducible repeat (first | refine blk_drewN ?_ _ | refine blk_drew ?_ | refine blk_alloc ?_ _)); exact BK369.out) hb); have n2_ := Aside0.mk (below_step (by repeat (first | (with_reducible first | exact HB.out | apply below_alloc | apply pw_below_drewN | apply below_drew1 | refine below_set ?_ GE369.out) | exact HB.out)) hb); have n3_ := Aside0.mk (hbox); have n4_ := Aside0.mk ((by rw [hg]; exact (below_size (by repeat (first | (with_reducible first | exact HB.out | apply below_alloc | apply pw_below_drewN | apply below_drew1 | refine below_set ?_ GE369.out) | exact HB.out))) : w.heap.size ≤ gb371)); have n5_ := Aside0.mk ((by rw [hg]; exact (below_size (by repeat (first | (with_reducible first | exact HB.out | apply below_alloc | apply pw_below_drewN | apply below_drew1 | refine below_set ?_ GE369.out) | exact HB.out))) : w.heap.size ≤ gb371)); have n6_ := Aside0.mk ((by rw [hg]; exact Nat.ne_of_lt (blk_lt (g := gb369) (o := .cells #[.int .i64 a1_0, .int .i64 a1_1, .string a1_2] 79 (0, 0)) (by (with_reducible repeat (first | refine blk_drewN ?_ _ | refine blk_drew ?_ | refine blk_alloc ?_ _)); exact BK369.out)) : gb369 ≠ gb371)); have n7_ := Aside0.mk ((by rw [hg]; exact Nat.ne_of_gt (blk_lt (g := gb369) (o := .cells #[.int .i64 a1_0, .int .i64 a1_1, .string a1_2] 79 (0, 0)) (by (with_reducible repeat (first | refine blk_drewN ?_ _ | refine blk_drew ?_ | refine blk_alloc ?_ _)); exact BK369.out)) : gb371 ≠ gb369)); clear HO_5; clear BK369; clear HB; have HO_5 := n0_; have BK369 := n1_; have HB := n2_; have BK371 := n3_; have GW371 := n4_; have GE371 := n5_; have NB369_371 := n6_; have NB371_369 := n7_; clear n0_ n1_ n2_ n3_ n4_ n5_ n6_ n7_; clear hb hbox hg; have hnb7 := NB371_369.out; have hnc7 := NB369_371.out; have hcz8_0 : w6.cell? ⟨gb371, 0, none⟩ = some (.int .i64 0) := (blk_cell BK371.out 0).trans rfl; have hcz8_1 : w6.cell? ⟨gb371, 1, none⟩ = some (.int .i64 0) := (blk_cell BK371.out 1).trans rfl; have hcz8_2 : w6.cell? ⟨gb371, 2, none⟩ = some (.int .i64 0) := (blk_cell BK371.out 2).trans rfl; have hcz8_3 : w6.cell? ⟨gb371, 3, none⟩ = some (.slice none 0 0) := (blk_cell BK371.out 3).trans rfl; have hfz8_0 := blk_frozen BK371.out 0; have hfz8_1 := blk_frozen BK371.out 1; have hfz8_2 := blk_frozen BK371.out 2; have hfz8_3 := blk_frozen BK371.out 3)))
          go_loopg [8, 9] k1 (fun kq v8 v9 w' => ∃ (x8_2 : List (S95)) (x9_2 : Int), v9 = .int .i64 x9_2 ∧ Aside0 (provostlaw33_without.l1 kq l0 x5_1 x6_1 x8_2 x9_2 a1_0 a1_1 a1_2 ((rd_T83 l0 x6_1).f0) ((rd_T83 l0 x6_1).f1) ((rd_T83 l0 x6_1).f2) ((rd_T83 l0 x6_1).f3) = some r) ∧ Aside0 (kq ≤ k1) ∧ Aside0 (Kd.S k83 83 w' w.heap.size (fun k_ => some k_ ≠ (v8 : Value).ownBlock ∧ k_ ≠ gb371) u5 x5_1) ∧ Aside0 (Kd.R k95 95 w' w.heap.size (fun _ => True) v8 x8_2) ∧ Aside0 (w'.heap[gb369]? = some (.cells #[.int .i64 a1_0, .int .i64 a1_1, .string a1_2] 79 (0, 0))) ∧ Aside0 (w'.heap[gb371]? = some (.cells #[.int .i64 ((rd_T83 l0 x6_1).f0), .int .i64 ((rd_T83 l0 x6_1).f1), .int .i64 ((rd_T83 l0 x6_1).f2), (.slice A370_3 ((rd_T83 l0 x6_1).f3).length c370_3)] 83 (0, 0))) ∧ Aside0 (Below w.heap.size w w'))
          case atStart => exact ⟨(([] : List (S95))), (0), (by first | rfl | (simp; done) | (simp [*]; done)), H', ⟨Nat.le_refl _⟩, ⟨by (with_reducible repeat (first | apply Kd.S_alloc | apply Kd.S_drewN | apply Kd.S_drew)); exact Kd.S_mono (Kd.S_far (p := ⟨gb371, 3, none⟩) (Kd.S_far (p := ⟨gb371, 2, none⟩) (Kd.S_far (p := ⟨gb371, 1, none⟩) (Kd.S_far (p := ⟨gb371, 0, none⟩) (Kd.S_mono HO_5.out (fun k_ hk => (⟨hk, hk.2⟩ : _ ∧ k_ ≠ gb371))) (fun _ hk => hk.2) (.int .i64 ((rd_T83 l0 x6_1).f0))) (fun _ hk => hk.2) (.int .i64 ((rd_T83 l0 x6_1).f1))) (fun _ hk => hk.2) (.int .i64 ((rd_T83 l0 x6_1).f2))) (fun _ hk => hk.2) (.slice A370_3 ((rd_T83 l0 x6_1).f3).length c370_3)) (fun _ hk => ⟨(by simp [Value.ownBlock]), hk.1.2⟩)⟩, ⟨by first | exact Kd.R_nil _ _ _ _ _ | exact Kd.N_nil _ _ _ _ _ | exact Kd.V_nil _ _ _ _ _ | exact Kd.Q_nil _ _ _ _ _ | exact Kd.S_nil _ _ _ _ _⟩, ⟨by (with_reducible repeat (first | refine blk_drewN ?_ _ | refine blk_drew ?_ | refine blk_alloc ?_ _)); refine blk_far ?_ NB369_371.out _; (with_reducible repeat (first | refine blk_drewN ?_ _ | refine blk_drew ?_ | refine blk_alloc ?_ _)); refine blk_far ?_ NB369_371.out _; (with_reducible repeat (first | refine blk_drewN ?_ _ | refine blk_drew ?_ | refine blk_alloc ?_ _)); refine blk_far ?_ NB369_371.out _; (with_reducible repeat (first | refine blk_drewN ?_ _ | refine blk_drew ?_ | refine blk_alloc ?_ _)); refine blk_far ?_ NB369_371.out _; (with_reducible repeat (first | refine blk_drewN ?_ _ | refine blk_drew ?_ | refine blk_alloc ?_ _)); exact BK369.out⟩, ⟨by (with_reducible repeat (first | refine blk_drewN ?_ _ | refine blk_drew ?_ | refine blk_alloc ?_ _)); refine blk_put (cs := #[.int .i64 ((rd_T83 l0 x6_1).f0), .int .i64 ((rd_T83 l0 x6_1).f1), .int .i64 ((rd_T83 l0 x6_1).f2), .slice none 0 0]) ?_ 3 _ rfl; (with_reducible repeat (first | refine blk_drewN ?_ _ | refine blk_drew ?_ | refine blk_alloc ?_ _)); refine blk_put (cs := #[.int .i64 ((rd_T83 l0 x6_1).f0), .int .i64 ((rd_T83 l0 x6_1).f1), .int .i64 0, .slice none 0 0]) ?_ 2 _ rfl; (with_reducible repeat (first | refine blk_drewN ?_ _ | refine blk_drew ?_ | refine blk_alloc ?_ _)); refine blk_put (cs := #[.int .i64 ((rd_T83 l0 x6_1).f0), .int .i64 0, .int .i64 0, .slice none 0 0]) ?_ 1 _ rfl; (with_reducible repeat (first | refine blk_drewN ?_ _ | refine blk_drew ?_ | refine blk_alloc ?_ _)); refine blk_put (cs := #[.int .i64 0, .int .i64 0, .int .i64 0, .slice none 0 0]) ?_ 0 _ rfl; (with_reducible repeat (first | refine blk_drewN ?_ _ | refine blk_drew ?_ | refine blk_alloc ?_ _)); exact BK371.out⟩, ⟨by repeat (first | (with_reducible first | exact HB.out | apply below_alloc | apply pw_below_drewN | apply below_drew1 | refine below_set ?_ GE369.out | refine below_set ?_ GE371.out) | exact HB.out)⟩⟩
          case round =>
            clear H'
            try clear p2
            try clear c3
            try clear p3
            try clear q3
            try clear hx3
            try clear c4
            try clear c4b0
            try clear c5
            try clear c5b0
            try clear c7
            try clear hcz8_0
            try clear hcz8_1
            try clear hcz8_2
            try clear hcz8_3
            try clear hfz8_0
            try clear hfz8_1
            try clear hfz8_2
            try clear hfz8_3
            try clear hx370_0
            try clear hx370_1
            try clear hx370_2
            try clear hx370_3
            try clear p2
            try clear p370
            try clear q370
            obtain ⟨x8_2, x9_2, rfl, HA, HK2, HO_5, HO_8, BK369, BK371, HB⟩ := hrel
            cases gk with
            | zero => exact absurd HA.out (by simp [provostlaw33_without.l1])
            | succ k2 =>
              have H := HA.out
              clear HA
              simp only [provostlaw33_without.l1] at H
              by_cases c9 : x9_2 < (((rd_T83 l0 x6_1).f3).length : Int)
              · rw [if_pos c9] at H
                have c9b0 : decide (x9_2 < (((rd_T83 l0 x6_1).f3).length : Int)) = true := decide_eq_true c9
                clear c9
                by_cases c10 : ((rd_T83 l0 x6_1).f0) = a1_0
                · rw [if_pos c10] at H
                  have c10b0 : (((rd_T83 l0 x6_1).f0) == a1_0) = true := beq_iff_eq.mpr c10
                  have c10b1 : (((rd_T83 l0 x6_1).f0) != a1_0) = false := bne_eq_false_iff_eq.mpr c10
                  clear c10
                  by_cases c11 : 0 ≤ x9_2
                  · rw [if_pos c11] at H
                    have c11b0 : decide (0 ≤ x9_2) = true := decide_eq_true c11
                    clear c11
                    by_cases c12 : ((rd_T95 ((rd_T83 l0 x6_1).f3) x9_2).f0) = a1_1
                    · rw [if_pos c12] at H
                      have c12b0 : (((rd_T95 ((rd_T83 l0 x6_1).f3) x9_2).f0) == a1_1) = true := beq_iff_eq.mpr c12
                      have c12b1 : (((rd_T95 ((rd_T83 l0 x6_1).f3) x9_2).f0) != a1_1) = false := bne_eq_false_iff_eq.mpr c12
                      clear c12
                      have H' := Aside0.mk H
                      clear H
                      have hnb13 := NB371_369.out
                      have hnc13 := NB369_371.out
                      have hcz14_0 : wr.cell? ⟨gb371, 0, none⟩ = some (.int .i64 ((rd_T83 l0 x6_1).f0)) := (blk_cell BK371.out 0).trans rfl
                      have hcz14_1 : wr.cell? ⟨gb371, 1, none⟩ = some (.int .i64 ((rd_T83 l0 x6_1).f1)) := (blk_cell BK371.out 1).trans rfl
                      have hcz14_2 : wr.cell? ⟨gb371, 2, none⟩ = some (.int .i64 ((rd_T83 l0 x6_1).f2)) := (blk_cell BK371.out 2).trans rfl
                      have hcz14_3 : wr.cell? ⟨gb371, 3, none⟩ = some (.slice A370_3 ((rd_T83 l0 x6_1).f3).length c370_3) := (blk_cell BK371.out 3).trans rfl
                      have hfz14_0 := blk_frozen BK371.out 0
                      have hfz14_1 := blk_frozen BK371.out 1
                      have hfz14_2 := blk_frozen BK371.out 2
                      have hfz14_3 := blk_frozen BK371.out 3
                      have hcz15_0 : wr.cell? ⟨gb369, 0, none⟩ = some (.int .i64 a1_0) := (blk_cell BK369.out 0).trans rfl
                      have hcz15_1 : wr.cell? ⟨gb369, 1, none⟩ = some (.int .i64 a1_1) := (blk_cell BK369.out 1).trans rfl
                      have hcz15_2 : wr.cell? ⟨gb369, 2, none⟩ = some (.string a1_2) := (blk_cell BK369.out 2).trans rfl
                      have hfz15_0 := blk_frozen BK369.out 0
                      have hfz15_1 := blk_frozen BK369.out 1
                      have hfz15_2 := blk_frozen BK369.out 2
                      have p372 : 0 ≤ (x9_2 : Int) := of_decide_eq_true (by first | (with_reducible assumption) | assumption)
                      have q372 : x9_2 < (((rd_T83 l0 x6_1).f3).length : Int) := of_decide_eq_true (by first | (with_reducible assumption) | assumption)
                      obtain ⟨ad372, e372, hx372_0, hx372_1, hx372_2, hx372_3, hx372_4, hx372_5, hx372_6⟩ := at_T95 HR370_3.out x9_2 p372 q372
                      cases e372
                      replace hx372_0 := (HB.out.cell (World.block_lt_of_cell? w _ hx372_0)).trans hx372_0
                      replace hx372_1 := (HB.out.cell (World.block_lt_of_cell? w _ hx372_1)).trans hx372_1
                      replace hx372_2 := (HB.out.cell (World.block_lt_of_cell? w _ hx372_2)).trans hx372_2
                      replace hx372_3 := (HB.out.cell (World.block_lt_of_cell? w _ hx372_3)).trans hx372_3
                      replace hx372_4 := (HB.out.cell (World.block_lt_of_cell? w _ hx372_4)).trans hx372_4
                      replace hx372_5 := (HB.out.cell (World.block_lt_of_cell? w _ hx372_5)).trans hx372_5
                      replace hx372_6 := (HB.out.cell (World.block_lt_of_cell? w _ hx372_6)).trans hx372_6
                      replace p372 := eq_true p372
                      replace q372 := eq_true q372
                      go_wp2
                      repeat (go_quiet (fail); try go_wp2)
                      go_roundg k2
                      case measure => have := HK1.out; have := HK2.out; omega
                      case rel => exact ⟨(x8_2), (wrap64 (x9_2 + 1)), (by first | rfl | (simp; done) | (simp [*]; done)), H', ⟨by have := HK1.out; have := HK2.out; omega⟩, ⟨by (with_reducible repeat (first | apply Kd.S_alloc | apply Kd.S_drewN | apply Kd.S_drew)); exact HO_5.out⟩, ⟨by (with_reducible repeat (first | apply Kd.R_alloc | apply Kd.R_drewN | apply Kd.R_drew)); exact HO_8.out⟩, ⟨by (with_reducible repeat (first | refine blk_drewN ?_ _ | refine blk_drew ?_ | refine blk_alloc ?_ _)); exact BK369.out⟩, ⟨by (with_reducible repeat (first | refine blk_drewN ?_ _ | refine blk_drew ?_ | refine blk_alloc ?_ _)); exact BK371.out⟩, ⟨by repeat (first | (with_reducible first | exact HB.out | apply below_alloc | apply pw_below_drewN | apply below_drew1 | refine below_set ?_ GE369.out | refine below_set ?_ GE371.out) | exact HB.out)⟩⟩
                    · rw [if_neg c12] at H
                      have c12b0 : (((rd_T95 ((rd_T83 l0 x6_1).f3) x9_2).f0) == a1_1) = false := beq_eq_false_iff_ne.mpr c12
                      have c12b1 : (((rd_T95 ((rd_T83 l0 x6_1).f3) x9_2).f0) != a1_1) = true := bne_iff_ne.mpr c12
                      by_cases c16 : x8_2.length < 1954687338268
                      · rw [if_pos c16] at H
                        have LMc16 := Aside0.mk c16
                        clear c16
                        obtain ⟨y374, hy374⟩ : ∃ y_ : List (S95), y_ = (x8_2 ++ [(⟨(rd_T95 ((rd_T83 l0 x6_1).f3) x9_2).f0, (rd_T95 ((rd_T83 l0 x6_1).f3) x9_2).f1, (rd_T95 ((rd_T83 l0 x6_1).f3) x9_2).f2, (⟨(rd_T95 ((rd_T83 l0 x6_1).f3) x9_2).f3.f0, (rd_T95 ((rd_T83 l0 x6_1).f3) x9_2).f3.f1, (rd_T95 ((rd_T83 l0 x6_1).f3) x9_2).f3.f2⟩ : S93), (rd_T95 ((rd_T83 l0 x6_1).f3) x9_2).f4⟩ : S95)]) := ⟨_, rfl⟩
                        replace H : (provostlaw33_without.l1 k2 l0 x5_1 x6_1 y374 (wrap64 (x9_2 + 1)) a1_0 a1_1 a1_2 ((rd_T83 l0 x6_1).f0) ((rd_T83 l0 x6_1).f1) ((rd_T83 l0 x6_1).f2) ((rd_T83 l0 x6_1).f3)) = some r := by first | (rw [hy374]; with_reducible exact H) | (have H2_ := (Option.bind_some _ _).symm.trans H; rw [hy374]; with_reducible exact H2_) | (have H2_ := (Option.bind_some _ _).symm.trans H; with_reducible exact H2_) | with_reducible exact H | (rw [hy374]; exact H) | exact H
                        have Ny374 := Aside0.mk hy374
                        clear hy374
                        have H' := Aside0.mk H
                        clear H
                        have hnb17 := NB371_369.out
                        have hnc17 := NB369_371.out
                        have hcz18_0 : wr.cell? ⟨gb371, 0, none⟩ = some (.int .i64 ((rd_T83 l0 x6_1).f0)) := (blk_cell BK371.out 0).trans rfl
                        have hcz18_1 : wr.cell? ⟨gb371, 1, none⟩ = some (.int .i64 ((rd_T83 l0 x6_1).f1)) := (blk_cell BK371.out 1).trans rfl
                        have hcz18_2 : wr.cell? ⟨gb371, 2, none⟩ = some (.int .i64 ((rd_T83 l0 x6_1).f2)) := (blk_cell BK371.out 2).trans rfl
                        have hcz18_3 : wr.cell? ⟨gb371, 3, none⟩ = some (.slice A370_3 ((rd_T83 l0 x6_1).f3).length c370_3) := (blk_cell BK371.out 3).trans rfl
                        have hfz18_0 := blk_frozen BK371.out 0
                        have hfz18_1 := blk_frozen BK371.out 1
                        have hfz18_2 := blk_frozen BK371.out 2
                        have hfz18_3 := blk_frozen BK371.out 3
                        have hcz19_0 : wr.cell? ⟨gb369, 0, none⟩ = some (.int .i64 a1_0) := (blk_cell BK369.out 0).trans rfl
                        have hcz19_1 : wr.cell? ⟨gb369, 1, none⟩ = some (.int .i64 a1_1) := (blk_cell BK369.out 1).trans rfl
                        have hcz19_2 : wr.cell? ⟨gb369, 2, none⟩ = some (.string a1_2) := (blk_cell BK369.out 2).trans rfl
                        have hfz19_0 := blk_frozen BK369.out 0
                        have hfz19_1 := blk_frozen BK369.out 1
                        have hfz19_2 := blk_frozen BK369.out 2
                        have p372 : 0 ≤ (x9_2 : Int) := of_decide_eq_true (by first | (with_reducible assumption) | assumption)
                        have q372 : x9_2 < (((rd_T83 l0 x6_1).f3).length : Int) := of_decide_eq_true (by first | (with_reducible assumption) | assumption)
                        obtain ⟨ad372, e372, hx372_0, hx372_1, hx372_2, hx372_3, hx372_4, hx372_5, hx372_6⟩ := at_T95 HR370_3.out x9_2 p372 q372
                        cases e372
                        replace hx372_0 := (HB.out.cell (World.block_lt_of_cell? w _ hx372_0)).trans hx372_0
                        replace hx372_1 := (HB.out.cell (World.block_lt_of_cell? w _ hx372_1)).trans hx372_1
                        replace hx372_2 := (HB.out.cell (World.block_lt_of_cell? w _ hx372_2)).trans hx372_2
                        replace hx372_3 := (HB.out.cell (World.block_lt_of_cell? w _ hx372_3)).trans hx372_3
                        replace hx372_4 := (HB.out.cell (World.block_lt_of_cell? w _ hx372_4)).trans hx372_4
                        replace hx372_5 := (HB.out.cell (World.block_lt_of_cell? w _ hx372_5)).trans hx372_5
                        replace hx372_6 := (HB.out.cell (World.block_lt_of_cell? w _ hx372_6)).trans hx372_6
                        replace p372 := eq_true p372
                        replace q372 := eq_true q372
                        have p373 : 0 ≤ (x9_2 : Int) := of_decide_eq_true (by first | (with_reducible assumption) | assumption)
                        have q373 : x9_2 < (((rd_T83 l0 x6_1).f3).length : Int) := of_decide_eq_true (by first | (with_reducible assumption) | assumption)
                        obtain ⟨ad373, e373, hx373_0, hx373_1, hx373_2, hx373_3, hx373_4, hx373_5, hx373_6⟩ := at_T95 HR370_3.out x9_2 p373 q373
                        obtain rfl : ad372 = ad373 := (by injection e373)
                        replace hx373_0 := (HB.out.cell (World.block_lt_of_cell? w _ hx373_0)).trans hx373_0
                        replace hx373_1 := (HB.out.cell (World.block_lt_of_cell? w _ hx373_1)).trans hx373_1
                        replace hx373_2 := (HB.out.cell (World.block_lt_of_cell? w _ hx373_2)).trans hx373_2
                        replace hx373_3 := (HB.out.cell (World.block_lt_of_cell? w _ hx373_3)).trans hx373_3
                        replace hx373_4 := (HB.out.cell (World.block_lt_of_cell? w _ hx373_4)).trans hx373_4
                        replace hx373_5 := (HB.out.cell (World.block_lt_of_cell? w _ hx373_5)).trans hx373_5
                        replace hx373_6 := (HB.out.cell (World.block_lt_of_cell? w _ hx373_6)).trans hx373_6
                        replace p373 := eq_true p373
                        replace q373 := eq_true q373
                        go_wp2_with (first | ((with_reducible refine gate_builtin (b := .append) (xs := #[.tmp 43, .tmp 49]) rfl ?_); at_builtin; refine Kd.R_append k95 (w0 := w) w.heap.size rfl (.tmp 43) (.tmp 49) 81 95 (.agg #[(.int .i64 0), (.string ⟨#[]⟩), (.string ⟨#[]⟩), (.int .i64 0), (.int .i64 0), (.int .i64 0), (.bool false)]) 72 rfl Tryd.underlying81 info95 rfl (by decide) (by omega) u8 x8_2 (⟨(rd_T95 ((rd_T83 l0 x6_1).f3) x9_2).f0, (rd_T95 ((rd_T83 l0 x6_1).f3) x9_2).f1, (rd_T95 ((rd_T83 l0 x6_1).f3) x9_2).f2, (⟨(rd_T95 ((rd_T83 l0 x6_1).f3) x9_2).f3.f0, (rd_T95 ((rd_T83 l0 x6_1).f3) x9_2).f3.f1, (rd_T95 ((rd_T83 l0 x6_1).f3) x9_2).f3.f2⟩ : S93), (rd_T95 ((rd_T83 l0 x6_1).f3) x9_2).f4⟩ : S95) [.int .i64 ((rd_T95 ((rd_T83 l0 x6_1).f3) x9_2).f0), .string ((rd_T95 ((rd_T83 l0 x6_1).f3) x9_2).f1), .string ((rd_T95 ((rd_T83 l0 x6_1).f3) x9_2).f2), .int .i64 ((rd_T95 ((rd_T83 l0 x6_1).f3) x9_2).f3.f0), .int .i64 ((rd_T95 ((rd_T83 l0 x6_1).f3) x9_2).f3.f1), .int .i64 ((rd_T95 ((rd_T83 l0 x6_1).f3) x9_2).f3.f2), .bool ((rd_T95 ((rd_T83 l0 x6_1).f3) x9_2).f4)] (fun _ => True) (fun _ => False) rfl rfl ?aP (fun _ hk => hk.elim) ?aF ?aO ?aB ?aS ?aL ?_; (case aP => exact k95_mkM _ _ _ (⟨(rd_T95 ((rd_T83 l0 x6_1).f3) x9_2).f0, (rd_T95 ((rd_T83 l0 x6_1).f3) x9_2).f1, (rd_T95 ((rd_T83 l0 x6_1).f3) x9_2).f2, (⟨(rd_T95 ((rd_T83 l0 x6_1).f3) x9_2).f3.f0, (rd_T95 ((rd_T83 l0 x6_1).f3) x9_2).f3.f1, (rd_T95 ((rd_T83 l0 x6_1).f3) x9_2).f3.f2⟩ : S93), (rd_T95 ((rd_T83 l0 x6_1).f3) x9_2).f4⟩ : S95)); (case aB => exact (by repeat (first | (with_reducible first | exact HB.out | apply below_alloc | apply pw_below_drewN | apply below_drew1 | refine below_set ?_ GE369.out | refine below_set ?_ GE371.out) | exact HB.out))); (case aF => exact (fun _ _ => trivial)); (case aO => exact (by (with_reducible repeat (first | apply Kd.R_alloc | apply Kd.R_drewN | apply Kd.R_drew)); exact HO_8.out)); (case aS => exact (below_size (by repeat (first | (with_reducible first | exact HB.out | apply below_alloc | apply pw_below_drewN | apply below_drew1 | refine below_set ?_ GE369.out | refine below_set ?_ GE371.out) | exact HB.out)))); (case aL => have := LMc16.out; omega); intro v375 w20 ho hb hg hat; rw [← Ny374.out] at ho; have n0_ := Aside0.mk (Kd.S_after (ok := (fun k_ => k_ ≠ gb371)) (by (with_reducible repeat (first | apply Kd.S_alloc | apply Kd.S_drewN | apply Kd.S_drew)); exact Kd.S_mono HO_5.out (fun _ hk => ⟨hk.2, hk.1⟩)) hg hat); have n1_ := Aside0.mk (blk_grown (g := gb369) (o := .cells #[.int .i64 a1_0, .int .i64 a1_1, .string a1_2] 79 (0, 0)) (by (with_reducible repeat (first | refine blk_drewN ?_ _ | refine blk_drew ?_ | refine blk_alloc ?_ _)); exact BK369.out) hg (Kd.R_ne HO_8.out BK369.out (by decide))); have n2_ := Aside0.mk (blk_grown (g := gb371) (o := .cells #[.int .i64 ((rd_T83 l0 x6_1).f0), .int .i64 ((rd_T83 l0 x6_1).f1), .int .i64 ((rd_T83 l0 x6_1).f2), .slice (some ad372) ((rd_T83 l0 x6_1).f3).length c370_3] 83 (0, 0)) (by (with_reducible repeat (first | refine blk_drewN ?_ _ | refine blk_drew ?_ | refine blk_alloc ?_ _)); exact BK371.out) hg (Kd.R_ne HO_8.out BK371.out (by decide))); have n3_ := Aside0.mk (hb); have n4_ := Aside0.mk (ho); clear HO_5; clear BK369; clear BK371; clear HB; clear HO_8; have HO_5 := n0_; have BK369 := n1_; have BK371 := n2_; have HB := n3_; have HO376 := n4_; clear n0_ n1_ n2_ n3_ n4_; clear ho hb hg hat))
                        repeat (go_quiet (first | ((with_reducible refine gate_builtin (b := .append) (xs := #[.tmp 43, .tmp 49]) rfl ?_); at_builtin; refine Kd.R_append k95 (w0 := w) w.heap.size rfl (.tmp 43) (.tmp 49) 81 95 (.agg #[(.int .i64 0), (.string ⟨#[]⟩), (.string ⟨#[]⟩), (.int .i64 0), (.int .i64 0), (.int .i64 0), (.bool false)]) 72 rfl Tryd.underlying81 info95 rfl (by decide) (by omega) u8 x8_2 (⟨(rd_T95 ((rd_T83 l0 x6_1).f3) x9_2).f0, (rd_T95 ((rd_T83 l0 x6_1).f3) x9_2).f1, (rd_T95 ((rd_T83 l0 x6_1).f3) x9_2).f2, (⟨(rd_T95 ((rd_T83 l0 x6_1).f3) x9_2).f3.f0, (rd_T95 ((rd_T83 l0 x6_1).f3) x9_2).f3.f1, (rd_T95 ((rd_T83 l0 x6_1).f3) x9_2).f3.f2⟩ : S93), (rd_T95 ((rd_T83 l0 x6_1).f3) x9_2).f4⟩ : S95) [.int .i64 ((rd_T95 ((rd_T83 l0 x6_1).f3) x9_2).f0), .string ((rd_T95 ((rd_T83 l0 x6_1).f3) x9_2).f1), .string ((rd_T95 ((rd_T83 l0 x6_1).f3) x9_2).f2), .int .i64 ((rd_T95 ((rd_T83 l0 x6_1).f3) x9_2).f3.f0), .int .i64 ((rd_T95 ((rd_T83 l0 x6_1).f3) x9_2).f3.f1), .int .i64 ((rd_T95 ((rd_T83 l0 x6_1).f3) x9_2).f3.f2), .bool ((rd_T95 ((rd_T83 l0 x6_1).f3) x9_2).f4)] (fun _ => True) (fun _ => False) rfl rfl ?aP (fun _ hk => hk.elim) ?aF ?aO ?aB ?aS ?aL ?_; (case aP => exact k95_mkM _ _ _ (⟨(rd_T95 ((rd_T83 l0 x6_1).f3) x9_2).f0, (rd_T95 ((rd_T83 l0 x6_1).f3) x9_2).f1, (rd_T95 ((rd_T83 l0 x6_1).f3) x9_2).f2, (⟨(rd_T95 ((rd_T83 l0 x6_1).f3) x9_2).f3.f0, (rd_T95 ((rd_T83 l0 x6_1).f3) x9_2).f3.f1, (rd_T95 ((rd_T83 l0 x6_1).f3) x9_2).f3.f2⟩ : S93), (rd_T95 ((rd_T83 l0 x6_1).f3) x9_2).f4⟩ : S95)); (case aB => exact (by repeat (first | (with_reducible first | exact HB.out | apply below_alloc | apply pw_below_drewN | apply below_drew1 | refine below_set ?_ GE369.out | refine below_set ?_ GE371.out) | exact HB.out))); (case aF => exact (fun _ _ => trivial)); (case aO => exact (by (with_reducible repeat (first | apply Kd.R_alloc | apply Kd.R_drewN | apply Kd.R_drew)); exact HO_8.out)); (case aS => exact (below_size (by repeat (first | (with_reducible first | exact HB.out | apply below_alloc | apply pw_below_drewN | apply below_drew1 | refine below_set ?_ GE369.out | refine below_set ?_ GE371.out) | exact HB.out)))); (case aL => have := LMc16.out; omega); intro v375 w20 ho hb hg hat; rw [← Ny374.out] at ho; have n0_ := Aside0.mk (Kd.S_after (ok := (fun k_ => k_ ≠ gb371)) (by (with_reducible repeat (first | apply Kd.S_alloc | apply Kd.S_drewN | apply Kd.S_drew)); exact Kd.S_mono HO_5.out (fun _ hk => ⟨hk.2, hk.1⟩)) hg hat); have n1_ := Aside0.mk (blk_grown (g := gb369) (o := .cells #[.int .i64 a1_0, .int .i64 a1_1, .string a1_2] 79 (0, 0)) (by (with_reducible repeat (first | refine blk_drewN ?_ _ | refine blk_drew ?_ | refine blk_alloc ?_ _)); exact BK369.out) hg (Kd.R_ne HO_8.out BK369.out (by decide))); have n2_ := Aside0.mk (blk_grown (g := gb371) (o := .cells #[.int .i64 ((rd_T83 l0 x6_1).f0), .int .i64 ((rd_T83 l0 x6_1).f1), .int .i64 ((rd_T83 l0 x6_1).f2), .slice (some ad372) ((rd_T83 l0 x6_1).f3).length c370_3] 83 (0, 0)) (by (with_reducible repeat (first | refine blk_drewN ?_ _ | refine blk_drew ?_ | refine blk_alloc ?_ _)); exact BK371.out) hg (Kd.R_ne HO_8.out BK371.out (by decide))); have n3_ := Aside0.mk (hb); have n4_ := Aside0.mk (ho); clear HO_5; clear BK369; clear BK371; clear HB; clear HO_8; have HO_5 := n0_; have BK369 := n1_; have BK371 := n2_; have HB := n3_; have HO376 := n4_; clear n0_ n1_ n2_ n3_ n4_; clear ho hb hg hat)); try go_wp2_with (first | ((with_reducible refine gate_builtin (b := .append) (xs := #[.tmp 43, .tmp 49]) rfl ?_); at_builtin; refine Kd.R_append k95 (w0 := w) w.heap.size rfl (.tmp 43) (.tmp 49) 81 95 (.agg #[(.int .i64 0), (.string ⟨#[]⟩), (.string ⟨#[]⟩), (.int .i64 0), (.int .i64 0), (.int .i64 0), (.bool false)]) 72 rfl Tryd.underlying81 info95 rfl (by decide) (by omega) u8 x8_2 (⟨(rd_T95 ((rd_T83 l0 x6_1).f3) x9_2).f0, (rd_T95 ((rd_T83 l0 x6_1).f3) x9_2).f1, (rd_T95 ((rd_T83 l0 x6_1).f3) x9_2).f2, (⟨(rd_T95 ((rd_T83 l0 x6_1).f3) x9_2).f3.f0, (rd_T95 ((rd_T83 l0 x6_1).f3) x9_2).f3.f1, (rd_T95 ((rd_T83 l0 x6_1).f3) x9_2).f3.f2⟩ : S93), (rd_T95 ((rd_T83 l0 x6_1).f3) x9_2).f4⟩ : S95) [.int .i64 ((rd_T95 ((rd_T83 l0 x6_1).f3) x9_2).f0), .string ((rd_T95 ((rd_T83 l0 x6_1).f3) x9_2).f1), .string ((rd_T95 ((rd_T83 l0 x6_1).f3) x9_2).f2), .int .i64 ((rd_T95 ((rd_T83 l0 x6_1).f3) x9_2).f3.f0), .int .i64 ((rd_T95 ((rd_T83 l0 x6_1).f3) x9_2).f3.f1), .int .i64 ((rd_T95 ((rd_T83 l0 x6_1).f3) x9_2).f3.f2), .bool ((rd_T95 ((rd_T83 l0 x6_1).f3) x9_2).f4)] (fun _ => True) (fun _ => False) rfl rfl ?aP (fun _ hk => hk.elim) ?aF ?aO ?aB ?aS ?aL ?_; (case aP => exact k95_mkM _ _ _ (⟨(rd_T95 ((rd_T83 l0 x6_1).f3) x9_2).f0, (rd_T95 ((rd_T83 l0 x6_1).f3) x9_2).f1, (rd_T95 ((rd_T83 l0 x6_1).f3) x9_2).f2, (⟨(rd_T95 ((rd_T83 l0 x6_1).f3) x9_2).f3.f0, (rd_T95 ((rd_T83 l0 x6_1).f3) x9_2).f3.f1, (rd_T95 ((rd_T83 l0 x6_1).f3) x9_2).f3.f2⟩ : S93), (rd_T95 ((rd_T83 l0 x6_1).f3) x9_2).f4⟩ : S95)); (case aB => exact (by repeat (first | (with_reducible first | exact HB.out | apply below_alloc | apply pw_below_drewN | apply below_drew1 | refine below_set ?_ GE369.out | refine below_set ?_ GE371.out) | exact HB.out))); (case aF => exact (fun _ _ => trivial)); (case aO => exact (by (with_reducible repeat (first | apply Kd.R_alloc | apply Kd.R_drewN | apply Kd.R_drew)); exact HO_8.out)); (case aS => exact (below_size (by repeat (first | (with_reducible first | exact HB.out | apply below_alloc | apply pw_below_drewN | apply below_drew1 | refine below_set ?_ GE369.out | refine below_set ?_ GE371.out) | exact HB.out)))); (case aL => have := LMc16.out; omega); intro v375 w20 ho hb hg hat; rw [← Ny374.out] at ho; have n0_ := Aside0.mk (Kd.S_after (ok := (fun k_ => k_ ≠ gb371)) (by (with_reducible repeat (first | apply Kd.S_alloc | apply Kd.S_drewN | apply Kd.S_drew)); exact Kd.S_mono HO_5.out (fun _ hk => ⟨hk.2, hk.1⟩)) hg hat); have n1_ := Aside0.mk (blk_grown (g := gb369) (o := .cells #[.int .i64 a1_0, .int .i64 a1_1, .string a1_2] 79 (0, 0)) (by (with_reducible repeat (first | refine blk_drewN ?_ _ | refine blk_drew ?_ | refine blk_alloc ?_ _)); exact BK369.out) hg (Kd.R_ne HO_8.out BK369.out (by decide))); have n2_ := Aside0.mk (blk_grown (g := gb371) (o := .cells #[.int .i64 ((rd_T83 l0 x6_1).f0), .int .i64 ((rd_T83 l0 x6_1).f1), .int .i64 ((rd_T83 l0 x6_1).f2), .slice (some ad372) ((rd_T83 l0 x6_1).f3).length c370_3] 83 (0, 0)) (by (with_reducible repeat (first | refine blk_drewN ?_ _ | refine blk_drew ?_ | refine blk_alloc ?_ _)); exact BK371.out) hg (Kd.R_ne HO_8.out BK371.out (by decide))); have n3_ := Aside0.mk (hb); have n4_ := Aside0.mk (ho); clear HO_5; clear BK369; clear BK371; clear HB; clear HO_8; have HO_5 := n0_; have BK369 := n1_; have BK371 := n2_; have HB := n3_; have HO376 := n4_; clear n0_ n1_ n2_ n3_ n4_; clear ho hb hg hat)))
                        go_roundg k2
                        case measure => have := HK1.out; have := HK2.out; omega
                        case rel => exact ⟨(y374), (wrap64 (x9_2 + 1)), (by first | rfl | (simp; done) | (simp [*]; done)), H', ⟨by have := HK1.out; have := HK2.out; omega⟩, ⟨by (with_reducible repeat (first | apply Kd.S_alloc | apply Kd.S_drewN | apply Kd.S_drew)); exact Kd.S_mono HO_5.out (fun _ hk => ⟨hk.2, hk.1⟩)⟩, ⟨by (with_reducible repeat (first | apply Kd.R_alloc | apply Kd.R_drewN | apply Kd.R_drew)); exact HO376.out⟩, ⟨by (with_reducible repeat (first | refine blk_drewN ?_ _ | refine blk_drew ?_ | refine blk_alloc ?_ _)); exact BK369.out⟩, ⟨by (with_reducible repeat (first | refine blk_drewN ?_ _ | refine blk_drew ?_ | refine blk_alloc ?_ _)); exact BK371.out⟩, ⟨by repeat (first | (with_reducible first | exact HB.out | apply below_alloc | apply pw_below_drewN | apply below_drew1 | refine below_set ?_ GE369.out | refine below_set ?_ GE371.out) | exact HB.out)⟩⟩
                      · rw [if_neg c16] at H
                        exact absurd H (by simp)
                  · rw [if_neg c11] at H
                    exact absurd H (by simp)
                · rw [if_neg c10] at H
                  have c10b0 : (((rd_T83 l0 x6_1).f0) == a1_0) = false := beq_eq_false_iff_ne.mpr c10
                  have c10b1 : (((rd_T83 l0 x6_1).f0) != a1_0) = true := bne_iff_ne.mpr c10
                  by_cases c21 : 0 ≤ x9_2
                  · rw [if_pos c21] at H
                    have c21b0 : decide (0 ≤ x9_2) = true := decide_eq_true c21
                    clear c21
                    by_cases c22 : x8_2.length < 1954687338268
                    · rw [if_pos c22] at H
                      have LMc22 := Aside0.mk c22
                      clear c22
                      obtain ⟨y378, hy378⟩ : ∃ y_ : List (S95), y_ = (x8_2 ++ [(⟨(rd_T95 ((rd_T83 l0 x6_1).f3) x9_2).f0, (rd_T95 ((rd_T83 l0 x6_1).f3) x9_2).f1, (rd_T95 ((rd_T83 l0 x6_1).f3) x9_2).f2, (⟨(rd_T95 ((rd_T83 l0 x6_1).f3) x9_2).f3.f0, (rd_T95 ((rd_T83 l0 x6_1).f3) x9_2).f3.f1, (rd_T95 ((rd_T83 l0 x6_1).f3) x9_2).f3.f2⟩ : S93), (rd_T95 ((rd_T83 l0 x6_1).f3) x9_2).f4⟩ : S95)]) := ⟨_, rfl⟩
                      replace H : (provostlaw33_without.l1 k2 l0 x5_1 x6_1 y378 (wrap64 (x9_2 + 1)) a1_0 a1_1 a1_2 ((rd_T83 l0 x6_1).f0) ((rd_T83 l0 x6_1).f1) ((rd_T83 l0 x6_1).f2) ((rd_T83 l0 x6_1).f3)) = some r := by first | (rw [hy378]; with_reducible exact H) | (have H2_ := (Option.bind_some _ _).symm.trans H; rw [hy378]; with_reducible exact H2_) | (have H2_ := (Option.bind_some _ _).symm.trans H; with_reducible exact H2_) | with_reducible exact H | (rw [hy378]; exact H) | exact H
                      have Ny378 := Aside0.mk hy378
                      clear hy378
                      have H' := Aside0.mk H
                      clear H
                      have hnb23 := NB371_369.out
                      have hnc23 := NB369_371.out
                      have hcz24_0 : wr.cell? ⟨gb371, 0, none⟩ = some (.int .i64 ((rd_T83 l0 x6_1).f0)) := (blk_cell BK371.out 0).trans rfl
                      have hcz24_1 : wr.cell? ⟨gb371, 1, none⟩ = some (.int .i64 ((rd_T83 l0 x6_1).f1)) := (blk_cell BK371.out 1).trans rfl
                      have hcz24_2 : wr.cell? ⟨gb371, 2, none⟩ = some (.int .i64 ((rd_T83 l0 x6_1).f2)) := (blk_cell BK371.out 2).trans rfl
                      have hcz24_3 : wr.cell? ⟨gb371, 3, none⟩ = some (.slice A370_3 ((rd_T83 l0 x6_1).f3).length c370_3) := (blk_cell BK371.out 3).trans rfl
                      have hfz24_0 := blk_frozen BK371.out 0
                      have hfz24_1 := blk_frozen BK371.out 1
                      have hfz24_2 := blk_frozen BK371.out 2
                      have hfz24_3 := blk_frozen BK371.out 3
                      have hcz25_0 : wr.cell? ⟨gb369, 0, none⟩ = some (.int .i64 a1_0) := (blk_cell BK369.out 0).trans rfl
                      have hcz25_1 : wr.cell? ⟨gb369, 1, none⟩ = some (.int .i64 a1_1) := (blk_cell BK369.out 1).trans rfl
                      have hcz25_2 : wr.cell? ⟨gb369, 2, none⟩ = some (.string a1_2) := (blk_cell BK369.out 2).trans rfl
                      have hfz25_0 := blk_frozen BK369.out 0
                      have hfz25_1 := blk_frozen BK369.out 1
                      have hfz25_2 := blk_frozen BK369.out 2
                      have p377 : 0 ≤ (x9_2 : Int) := of_decide_eq_true (by first | (with_reducible assumption) | assumption)
                      have q377 : x9_2 < (((rd_T83 l0 x6_1).f3).length : Int) := of_decide_eq_true (by first | (with_reducible assumption) | assumption)
                      obtain ⟨ad377, e377, hx377_0, hx377_1, hx377_2, hx377_3, hx377_4, hx377_5, hx377_6⟩ := at_T95 HR370_3.out x9_2 p377 q377
                      cases e377
                      replace hx377_0 := (HB.out.cell (World.block_lt_of_cell? w _ hx377_0)).trans hx377_0
                      replace hx377_1 := (HB.out.cell (World.block_lt_of_cell? w _ hx377_1)).trans hx377_1
                      replace hx377_2 := (HB.out.cell (World.block_lt_of_cell? w _ hx377_2)).trans hx377_2
                      replace hx377_3 := (HB.out.cell (World.block_lt_of_cell? w _ hx377_3)).trans hx377_3
                      replace hx377_4 := (HB.out.cell (World.block_lt_of_cell? w _ hx377_4)).trans hx377_4
                      replace hx377_5 := (HB.out.cell (World.block_lt_of_cell? w _ hx377_5)).trans hx377_5
                      replace hx377_6 := (HB.out.cell (World.block_lt_of_cell? w _ hx377_6)).trans hx377_6
                      replace p377 := eq_true p377
                      replace q377 := eq_true q377
                      go_wp2_with (first | ((with_reducible refine gate_builtin (b := .append) (xs := #[.tmp 43, .tmp 49]) rfl ?_); at_builtin; refine Kd.R_append k95 (w0 := w) w.heap.size rfl (.tmp 43) (.tmp 49) 81 95 (.agg #[(.int .i64 0), (.string ⟨#[]⟩), (.string ⟨#[]⟩), (.int .i64 0), (.int .i64 0), (.int .i64 0), (.bool false)]) 72 rfl Tryd.underlying81 info95 rfl (by decide) (by omega) u8 x8_2 (⟨(rd_T95 ((rd_T83 l0 x6_1).f3) x9_2).f0, (rd_T95 ((rd_T83 l0 x6_1).f3) x9_2).f1, (rd_T95 ((rd_T83 l0 x6_1).f3) x9_2).f2, (⟨(rd_T95 ((rd_T83 l0 x6_1).f3) x9_2).f3.f0, (rd_T95 ((rd_T83 l0 x6_1).f3) x9_2).f3.f1, (rd_T95 ((rd_T83 l0 x6_1).f3) x9_2).f3.f2⟩ : S93), (rd_T95 ((rd_T83 l0 x6_1).f3) x9_2).f4⟩ : S95) [.int .i64 ((rd_T95 ((rd_T83 l0 x6_1).f3) x9_2).f0), .string ((rd_T95 ((rd_T83 l0 x6_1).f3) x9_2).f1), .string ((rd_T95 ((rd_T83 l0 x6_1).f3) x9_2).f2), .int .i64 ((rd_T95 ((rd_T83 l0 x6_1).f3) x9_2).f3.f0), .int .i64 ((rd_T95 ((rd_T83 l0 x6_1).f3) x9_2).f3.f1), .int .i64 ((rd_T95 ((rd_T83 l0 x6_1).f3) x9_2).f3.f2), .bool ((rd_T95 ((rd_T83 l0 x6_1).f3) x9_2).f4)] (fun _ => True) (fun _ => False) rfl rfl ?aP (fun _ hk => hk.elim) ?aF ?aO ?aB ?aS ?aL ?_; (case aP => exact k95_mkM _ _ _ (⟨(rd_T95 ((rd_T83 l0 x6_1).f3) x9_2).f0, (rd_T95 ((rd_T83 l0 x6_1).f3) x9_2).f1, (rd_T95 ((rd_T83 l0 x6_1).f3) x9_2).f2, (⟨(rd_T95 ((rd_T83 l0 x6_1).f3) x9_2).f3.f0, (rd_T95 ((rd_T83 l0 x6_1).f3) x9_2).f3.f1, (rd_T95 ((rd_T83 l0 x6_1).f3) x9_2).f3.f2⟩ : S93), (rd_T95 ((rd_T83 l0 x6_1).f3) x9_2).f4⟩ : S95)); (case aB => exact (by repeat (first | (with_reducible first | exact HB.out | apply below_alloc | apply pw_below_drewN | apply below_drew1 | refine below_set ?_ GE369.out | refine below_set ?_ GE371.out) | exact HB.out))); (case aF => exact (fun _ _ => trivial)); (case aO => exact (by (with_reducible repeat (first | apply Kd.R_alloc | apply Kd.R_drewN | apply Kd.R_drew)); exact HO_8.out)); (case aS => exact (below_size (by repeat (first | (with_reducible first | exact HB.out | apply below_alloc | apply pw_below_drewN | apply below_drew1 | refine below_set ?_ GE369.out | refine below_set ?_ GE371.out) | exact HB.out)))); (case aL => have := LMc22.out; omega); intro v379 w26 ho hb hg hat; rw [← Ny378.out] at ho; have n0_ := Aside0.mk (Kd.S_after (ok := (fun k_ => k_ ≠ gb371)) (by (with_reducible repeat (first | apply Kd.S_alloc | apply Kd.S_drewN | apply Kd.S_drew)); exact Kd.S_mono HO_5.out (fun _ hk => ⟨hk.2, hk.1⟩)) hg hat); have n1_ := Aside0.mk (blk_grown (g := gb369) (o := .cells #[.int .i64 a1_0, .int .i64 a1_1, .string a1_2] 79 (0, 0)) (by (with_reducible repeat (first | refine blk_drewN ?_ _ | refine blk_drew ?_ | refine blk_alloc ?_ _)); exact BK369.out) hg (Kd.R_ne HO_8.out BK369.out (by decide))); have n2_ := Aside0.mk (blk_grown (g := gb371) (o := .cells #[.int .i64 ((rd_T83 l0 x6_1).f0), .int .i64 ((rd_T83 l0 x6_1).f1), .int .i64 ((rd_T83 l0 x6_1).f2), .slice (some ad377) ((rd_T83 l0 x6_1).f3).length c370_3] 83 (0, 0)) (by (with_reducible repeat (first | refine blk_drewN ?_ _ | refine blk_drew ?_ | refine blk_alloc ?_ _)); exact BK371.out) hg (Kd.R_ne HO_8.out BK371.out (by decide))); have n3_ := Aside0.mk (hb); have n4_ := Aside0.mk (ho); clear HO_5; clear BK369; clear BK371; clear HB; clear HO_8; have HO_5 := n0_; have BK369 := n1_; have BK371 := n2_; have HB := n3_; have HO380 := n4_; clear n0_ n1_ n2_ n3_ n4_; clear ho hb hg hat))
                      repeat (go_quiet (first | ((with_reducible refine gate_builtin (b := .append) (xs := #[.tmp 43, .tmp 49]) rfl ?_); at_builtin; refine Kd.R_append k95 (w0 := w) w.heap.size rfl (.tmp 43) (.tmp 49) 81 95 (.agg #[(.int .i64 0), (.string ⟨#[]⟩), (.string ⟨#[]⟩), (.int .i64 0), (.int .i64 0), (.int .i64 0), (.bool false)]) 72 rfl Tryd.underlying81 info95 rfl (by decide) (by omega) u8 x8_2 (⟨(rd_T95 ((rd_T83 l0 x6_1).f3) x9_2).f0, (rd_T95 ((rd_T83 l0 x6_1).f3) x9_2).f1, (rd_T95 ((rd_T83 l0 x6_1).f3) x9_2).f2, (⟨(rd_T95 ((rd_T83 l0 x6_1).f3) x9_2).f3.f0, (rd_T95 ((rd_T83 l0 x6_1).f3) x9_2).f3.f1, (rd_T95 ((rd_T83 l0 x6_1).f3) x9_2).f3.f2⟩ : S93), (rd_T95 ((rd_T83 l0 x6_1).f3) x9_2).f4⟩ : S95) [.int .i64 ((rd_T95 ((rd_T83 l0 x6_1).f3) x9_2).f0), .string ((rd_T95 ((rd_T83 l0 x6_1).f3) x9_2).f1), .string ((rd_T95 ((rd_T83 l0 x6_1).f3) x9_2).f2), .int .i64 ((rd_T95 ((rd_T83 l0 x6_1).f3) x9_2).f3.f0), .int .i64 ((rd_T95 ((rd_T83 l0 x6_1).f3) x9_2).f3.f1), .int .i64 ((rd_T95 ((rd_T83 l0 x6_1).f3) x9_2).f3.f2), .bool ((rd_T95 ((rd_T83 l0 x6_1).f3) x9_2).f4)] (fun _ => True) (fun _ => False) rfl rfl ?aP (fun _ hk => hk.elim) ?aF ?aO ?aB ?aS ?aL ?_; (case aP => exact k95_mkM _ _ _ (⟨(rd_T95 ((rd_T83 l0 x6_1).f3) x9_2).f0, (rd_T95 ((rd_T83 l0 x6_1).f3) x9_2).f1, (rd_T95 ((rd_T83 l0 x6_1).f3) x9_2).f2, (⟨(rd_T95 ((rd_T83 l0 x6_1).f3) x9_2).f3.f0, (rd_T95 ((rd_T83 l0 x6_1).f3) x9_2).f3.f1, (rd_T95 ((rd_T83 l0 x6_1).f3) x9_2).f3.f2⟩ : S93), (rd_T95 ((rd_T83 l0 x6_1).f3) x9_2).f4⟩ : S95)); (case aB => exact (by repeat (first | (with_reducible first | exact HB.out | apply below_alloc | apply pw_below_drewN | apply below_drew1 | refine below_set ?_ GE369.out | refine below_set ?_ GE371.out) | exact HB.out))); (case aF => exact (fun _ _ => trivial)); (case aO => exact (by (with_reducible repeat (first | apply Kd.R_alloc | apply Kd.R_drewN | apply Kd.R_drew)); exact HO_8.out)); (case aS => exact (below_size (by repeat (first | (with_reducible first | exact HB.out | apply below_alloc | apply pw_below_drewN | apply below_drew1 | refine below_set ?_ GE369.out | refine below_set ?_ GE371.out) | exact HB.out)))); (case aL => have := LMc22.out; omega); intro v379 w26 ho hb hg hat; rw [← Ny378.out] at ho; have n0_ := Aside0.mk (Kd.S_after (ok := (fun k_ => k_ ≠ gb371)) (by (with_reducible repeat (first | apply Kd.S_alloc | apply Kd.S_drewN | apply Kd.S_drew)); exact Kd.S_mono HO_5.out (fun _ hk => ⟨hk.2, hk.1⟩)) hg hat); have n1_ := Aside0.mk (blk_grown (g := gb369) (o := .cells #[.int .i64 a1_0, .int .i64 a1_1, .string a1_2] 79 (0, 0)) (by (with_reducible repeat (first | refine blk_drewN ?_ _ | refine blk_drew ?_ | refine blk_alloc ?_ _)); exact BK369.out) hg (Kd.R_ne HO_8.out BK369.out (by decide))); have n2_ := Aside0.mk (blk_grown (g := gb371) (o := .cells #[.int .i64 ((rd_T83 l0 x6_1).f0), .int .i64 ((rd_T83 l0 x6_1).f1), .int .i64 ((rd_T83 l0 x6_1).f2), .slice (some ad377) ((rd_T83 l0 x6_1).f3).length c370_3] 83 (0, 0)) (by (with_reducible repeat (first | refine blk_drewN ?_ _ | refine blk_drew ?_ | refine blk_alloc ?_ _)); exact BK371.out) hg (Kd.R_ne HO_8.out BK371.out (by decide))); have n3_ := Aside0.mk (hb); have n4_ := Aside0.mk (ho); clear HO_5; clear BK369; clear BK371; clear HB; clear HO_8; have HO_5 := n0_; have BK369 := n1_; have BK371 := n2_; have HB := n3_; have HO380 := n4_; clear n0_ n1_ n2_ n3_ n4_; clear ho hb hg hat)); try go_wp2_with (first | ((with_reducible refine gate_builtin (b := .append) (xs := #[.tmp 43, .tmp 49]) rfl ?_); at_builtin; refine Kd.R_append k95 (w0 := w) w.heap.size rfl (.tmp 43) (.tmp 49) 81 95 (.agg #[(.int .i64 0), (.string ⟨#[]⟩), (.string ⟨#[]⟩), (.int .i64 0), (.int .i64 0), (.int .i64 0), (.bool false)]) 72 rfl Tryd.underlying81 info95 rfl (by decide) (by omega) u8 x8_2 (⟨(rd_T95 ((rd_T83 l0 x6_1).f3) x9_2).f0, (rd_T95 ((rd_T83 l0 x6_1).f3) x9_2).f1, (rd_T95 ((rd_T83 l0 x6_1).f3) x9_2).f2, (⟨(rd_T95 ((rd_T83 l0 x6_1).f3) x9_2).f3.f0, (rd_T95 ((rd_T83 l0 x6_1).f3) x9_2).f3.f1, (rd_T95 ((rd_T83 l0 x6_1).f3) x9_2).f3.f2⟩ : S93), (rd_T95 ((rd_T83 l0 x6_1).f3) x9_2).f4⟩ : S95) [.int .i64 ((rd_T95 ((rd_T83 l0 x6_1).f3) x9_2).f0), .string ((rd_T95 ((rd_T83 l0 x6_1).f3) x9_2).f1), .string ((rd_T95 ((rd_T83 l0 x6_1).f3) x9_2).f2), .int .i64 ((rd_T95 ((rd_T83 l0 x6_1).f3) x9_2).f3.f0), .int .i64 ((rd_T95 ((rd_T83 l0 x6_1).f3) x9_2).f3.f1), .int .i64 ((rd_T95 ((rd_T83 l0 x6_1).f3) x9_2).f3.f2), .bool ((rd_T95 ((rd_T83 l0 x6_1).f3) x9_2).f4)] (fun _ => True) (fun _ => False) rfl rfl ?aP (fun _ hk => hk.elim) ?aF ?aO ?aB ?aS ?aL ?_; (case aP => exact k95_mkM _ _ _ (⟨(rd_T95 ((rd_T83 l0 x6_1).f3) x9_2).f0, (rd_T95 ((rd_T83 l0 x6_1).f3) x9_2).f1, (rd_T95 ((rd_T83 l0 x6_1).f3) x9_2).f2, (⟨(rd_T95 ((rd_T83 l0 x6_1).f3) x9_2).f3.f0, (rd_T95 ((rd_T83 l0 x6_1).f3) x9_2).f3.f1, (rd_T95 ((rd_T83 l0 x6_1).f3) x9_2).f3.f2⟩ : S93), (rd_T95 ((rd_T83 l0 x6_1).f3) x9_2).f4⟩ : S95)); (case aB => exact (by repeat (first | (with_reducible first | exact HB.out | apply below_alloc | apply pw_below_drewN | apply below_drew1 | refine below_set ?_ GE369.out | refine below_set ?_ GE371.out) | exact HB.out))); (case aF => exact (fun _ _ => trivial)); (case aO => exact (by (with_reducible repeat (first | apply Kd.R_alloc | apply Kd.R_drewN | apply Kd.R_drew)); exact HO_8.out)); (case aS => exact (below_size (by repeat (first | (with_reducible first | exact HB.out | apply below_alloc | apply pw_below_drewN | apply below_drew1 | refine below_set ?_ GE369.out | refine below_set ?_ GE371.out) | exact HB.out)))); (case aL => have := LMc22.out; omega); intro v379 w26 ho hb hg hat; rw [← Ny378.out] at ho; have n0_ := Aside0.mk (Kd.S_after (ok := (fun k_ => k_ ≠ gb371)) (by (with_reducible repeat (first | apply Kd.S_alloc | apply Kd.S_drewN | apply Kd.S_drew)); exact Kd.S_mono HO_5.out (fun _ hk => ⟨hk.2, hk.1⟩)) hg hat); have n1_ := Aside0.mk (blk_grown (g := gb369) (o := .cells #[.int .i64 a1_0, .int .i64 a1_1, .string a1_2] 79 (0, 0)) (by (with_reducible repeat (first | refine blk_drewN ?_ _ | refine blk_drew ?_ | refine blk_alloc ?_ _)); exact BK369.out) hg (Kd.R_ne HO_8.out BK369.out (by decide))); have n2_ := Aside0.mk (blk_grown (g := gb371) (o := .cells #[.int .i64 ((rd_T83 l0 x6_1).f0), .int .i64 ((rd_T83 l0 x6_1).f1), .int .i64 ((rd_T83 l0 x6_1).f2), .slice (some ad377) ((rd_T83 l0 x6_1).f3).length c370_3] 83 (0, 0)) (by (with_reducible repeat (first | refine blk_drewN ?_ _ | refine blk_drew ?_ | refine blk_alloc ?_ _)); exact BK371.out) hg (Kd.R_ne HO_8.out BK371.out (by decide))); have n3_ := Aside0.mk (hb); have n4_ := Aside0.mk (ho); clear HO_5; clear BK369; clear BK371; clear HB; clear HO_8; have HO_5 := n0_; have BK369 := n1_; have BK371 := n2_; have HB := n3_; have HO380 := n4_; clear n0_ n1_ n2_ n3_ n4_; clear ho hb hg hat)))
                      go_roundg k2
                      case measure => have := HK1.out; have := HK2.out; omega
                      case rel => exact ⟨(y378), (wrap64 (x9_2 + 1)), (by first | rfl | (simp; done) | (simp [*]; done)), H', ⟨by have := HK1.out; have := HK2.out; omega⟩, ⟨by (with_reducible repeat (first | apply Kd.S_alloc | apply Kd.S_drewN | apply Kd.S_drew)); exact Kd.S_mono HO_5.out (fun _ hk => ⟨hk.2, hk.1⟩)⟩, ⟨by (with_reducible repeat (first | apply Kd.R_alloc | apply Kd.R_drewN | apply Kd.R_drew)); exact HO380.out⟩, ⟨by (with_reducible repeat (first | refine blk_drewN ?_ _ | refine blk_drew ?_ | refine blk_alloc ?_ _)); exact BK369.out⟩, ⟨by (with_reducible repeat (first | refine blk_drewN ?_ _ | refine blk_drew ?_ | refine blk_alloc ?_ _)); exact BK371.out⟩, ⟨by repeat (first | (with_reducible first | exact HB.out | apply below_alloc | apply pw_below_drewN | apply below_drew1 | refine below_set ?_ GE369.out | refine below_set ?_ GE371.out) | exact HB.out)⟩⟩
                    · rw [if_neg c22] at H
                      exact absurd H (by simp)
                  · rw [if_neg c21] at H
                    exact absurd H (by simp)
              · rw [if_neg c9] at H
                have c9b0 : decide (x9_2 < (((rd_T83 l0 x6_1).f3).length : Int)) = false := decide_eq_false c9
                clear c9
                by_cases c27 : x5_1.length < 2932031007402
                · rw [if_pos c27] at H
                  have LMc27 := Aside0.mk c27
                  clear c27
                  obtain ⟨y381, hy381⟩ : ∃ y_ : List (S83), y_ = (x5_1 ++ [(⟨((rd_T83 l0 x6_1).f0), ((rd_T83 l0 x6_1).f1), ((rd_T83 l0 x6_1).f2), x8_2⟩ : S83)]) := ⟨_, rfl⟩
                  replace H : (provostlaw33_without.l0 k2 l0 y381 (wrap64 (x6_1 + 1)) a1_0 a1_1 a1_2) = some r := by first | (rw [hy381]; with_reducible exact H) | (have H2_ := (Option.bind_some _ _).symm.trans H; rw [hy381]; with_reducible exact H2_) | (have H2_ := (Option.bind_some _ _).symm.trans H; with_reducible exact H2_) | with_reducible exact H | (rw [hy381]; exact H) | exact H
                  have Ny381 := Aside0.mk hy381
                  clear hy381
                  have H' := Aside0.mk H
                  clear H
                  have hnb28 := NB371_369.out
                  have hnc28 := NB369_371.out
                  have hcz29_0 : wr.cell? ⟨gb371, 0, none⟩ = some (.int .i64 ((rd_T83 l0 x6_1).f0)) := (blk_cell BK371.out 0).trans rfl
                  have hcz29_1 : wr.cell? ⟨gb371, 1, none⟩ = some (.int .i64 ((rd_T83 l0 x6_1).f1)) := (blk_cell BK371.out 1).trans rfl
                  have hcz29_2 : wr.cell? ⟨gb371, 2, none⟩ = some (.int .i64 ((rd_T83 l0 x6_1).f2)) := (blk_cell BK371.out 2).trans rfl
                  have hcz29_3 : wr.cell? ⟨gb371, 3, none⟩ = some (.slice A370_3 ((rd_T83 l0 x6_1).f3).length c370_3) := (blk_cell BK371.out 3).trans rfl
                  have hfz29_0 := blk_frozen BK371.out 0
                  have hfz29_1 := blk_frozen BK371.out 1
                  have hfz29_2 := blk_frozen BK371.out 2
                  have hfz29_3 := blk_frozen BK371.out 3
                  obtain ⟨Ao30, co30, eo30⟩ := Kd.R_slice HO_8.out
                  subst eo30
                  go_wp2_with (first | ((with_reducible refine gate_store (t := 81) (p := 52) rfl ?_); (try (rw [drewN_self wr]; generalize hq_ : World.drewN wr _ = wr; have n0_ := Aside0.mk (Kd.S_at hq_ HO_5.out); have n1_ := Aside0.mk (Kd.R_at hq_ HO_8.out); have n2_ := Aside0.mk (blk_at hq_ BK369.out); have n3_ := Aside0.mk (blk_at hq_ BK371.out); have n4_ := Aside0.mk (below_at hq_ HB.out); clear hq_ HO_5 HO_8 BK369 BK371 HB; have HO_5 := n0_; have HO_8 := n1_; have BK369 := n2_; have BK371 := n3_; have HB := n4_; clear n0_ n1_ n2_ n3_ n4_)); refine store_event (t := 81) (p := 52) (v := ?vo_w31) (w1 := (wr.setCell ⟨gb371, 3, none⟩ (.slice Ao30 x8_2.length co30))) ?hg ?ho ?hn ?hr ?_; (case ho => rfl); (case hg => rfl); (case hn => rfl); (case hr => first | (go_simp; done) | (go_simp; rfl)); intro w31 hw; have n0_ : Aside0 (Kd.S k83 83 w31 w.heap.size (fun k_ => some k_ ≠ (.slice Ao30 x8_2.length co30 : Value).ownBlock ∧ k_ ≠ gb371) u5 x5_1) := ⟨(by rw [hw]; exact (by (with_reducible repeat (first | apply Kd.S_alloc | apply Kd.S_drewN | apply Kd.S_drew)); exact Kd.S_mono (Kd.S_far (p := ⟨gb371, 3, none⟩) (Kd.S_mono HO_5.out (fun k_ hk => (⟨hk, hk.2⟩ : _ ∧ k_ ≠ gb371))) (fun _ hk => hk.2) (.slice Ao30 x8_2.length co30)) (fun _ hk => ⟨hk.1.1, hk.1.2⟩)))⟩; have n1_ : Aside0 (Kd.R k95 95 w31 w.heap.size (fun _ => True) (.slice Ao30 x8_2.length co30) x8_2) := ⟨(by rw [hw]; exact (by (with_reducible repeat (first | apply Kd.R_alloc | apply Kd.R_drewN | apply Kd.R_drew)); exact Kd.R_mono (Kd.R_far (p := ⟨gb371, 3, none⟩) (Kd.R_types HO_8.out BK371.out (by decide)) (fun _ hk => hk.2) (.slice Ao30 x8_2.length co30)) (fun _ hk => trivial)))⟩; have n2_ : Aside0 (w31.heap[gb369]? = some (.cells #[.int .i64 a1_0, .int .i64 a1_1, .string a1_2] 79 (0, 0))) := ⟨(by rw [hw]; exact (by (with_reducible repeat (first | refine blk_drewN ?_ _ | refine blk_drew ?_ | refine blk_alloc ?_ _)); refine blk_far ?_ NB369_371.out _; (with_reducible repeat (first | refine blk_drewN ?_ _ | refine blk_drew ?_ | refine blk_alloc ?_ _)); exact BK369.out))⟩; have n3_ : Aside0 (w31.heap[gb371]? = some (.cells #[.int .i64 ((rd_T83 l0 x6_1).f0), .int .i64 ((rd_T83 l0 x6_1).f1), .int .i64 ((rd_T83 l0 x6_1).f2), .slice Ao30 x8_2.length co30] 83 (0, 0))) := ⟨(by rw [hw]; exact (by (with_reducible repeat (first | refine blk_drewN ?_ _ | refine blk_drew ?_ | refine blk_alloc ?_ _)); refine blk_put (cs := #[.int .i64 ((rd_T83 l0 x6_1).f0), .int .i64 ((rd_T83 l0 x6_1).f1), .int .i64 ((rd_T83 l0 x6_1).f2), .slice A370_3 ((rd_T83 l0 x6_1).f3).length c370_3]) ?_ 3 _ rfl; (with_reducible repeat (first | refine blk_drewN ?_ _ | refine blk_drew ?_ | refine blk_alloc ?_ _)); exact BK371.out))⟩; have n4_ : Aside0 (Below w.heap.size w w31) := ⟨(by rw [hw]; exact (by repeat (first | (with_reducible first | exact HB.out | apply below_alloc | apply pw_below_drewN | apply below_drew1 | refine below_set ?_ GE369.out | refine below_set ?_ GE371.out) | exact HB.out)))⟩; clear hw; clear HO_5; clear HO_8; clear BK369; clear BK371; clear HB; have HO_5 := n0_; have HO_8 := n1_; have BK369 := n2_; have BK371 := n3_; have HB := n4_; clear n0_ n1_ n2_ n3_ n4_; have hcz32_0 : w31.cell? ⟨gb371, 0, none⟩ = some (.int .i64 ((rd_T83 l0 x6_1).f0)) := (blk_cell BK371.out 0).trans rfl; have hcz32_1 : w31.cell? ⟨gb371, 1, none⟩ = some (.int .i64 ((rd_T83 l0 x6_1).f1)) := (blk_cell BK371.out 1).trans rfl; have hcz32_2 : w31.cell? ⟨gb371, 2, none⟩ = some (.int .i64 ((rd_T83 l0 x6_1).f2)) := (blk_cell BK371.out 2).trans rfl; have hcz32_3 : w31.cell? ⟨gb371, 3, none⟩ = some (.slice Ao30 x8_2.length co30) := (blk_cell BK371.out 3).trans rfl; have hfz32_0 := blk_frozen BK371.out 0; have hfz32_1 := blk_frozen BK371.out 1; have hfz32_2 := blk_frozen BK371.out 2; have hfz32_3 := blk_frozen BK371.out 3) | ((with_reducible refine gate_builtin (b := .append) (xs := #[.tmp 53, .tmp 55]) rfl ?_); at_builtin; refine Kd.S_append k83 (w0 := w) w.heap.size rfl (.tmp 53) (.tmp 55) 72 83 (.agg #[(.int .i64 0), (.int .i64 0), (.int .i64 0), (.slice none 0 0)]) 48 rfl Tryd.underlying72 info83 rfl (by decide) (by omega) u5 x5_1 (⟨((rd_T83 l0 x6_1).f0), ((rd_T83 l0 x6_1).f1), ((rd_T83 l0 x6_1).f2), x8_2⟩ : S83) [.int .i64 ((rd_T83 l0 x6_1).f0), .int .i64 ((rd_T83 l0 x6_1).f1), .int .i64 ((rd_T83 l0 x6_1).f2), .slice Ao30 x8_2.length co30] (fun k_ => k_ ≠ gb371) (fun k_ => some k_ = (.slice Ao30 x8_2.length co30 : Value).ownBlock) rfl rfl ?aP (fun k_ hk_ => ((Kd.R_mono (ok' := fun k_ => ((fun k_ => k_ ≠ gb371)) k_ ∧ some k_ ≠ (u5 : Value).ownBlock) (Kd.R_types (Kd.R_apart' (HO_8.out) (Kd.S_typed HO_5.out) (by decide)) BK371.out (by decide)) (fun k_ hk => ⟨hk.2, hk.1.2⟩))).1 k_ hk_.symm) ?aF ?aO ?aB ?aS ?aL ?_; (case aP => exact k83_mkM _ _ _ (⟨((rd_T83 l0 x6_1).f0), ((rd_T83 l0 x6_1).f1), ((rd_T83 l0 x6_1).f2), x8_2⟩ : S83) (Kd.R_mono (Kd.R_tight rfl (Kd.R_mono (ok' := fun k_ => ((fun k_ => k_ ≠ gb371)) k_ ∧ some k_ ≠ (u5 : Value).ownBlock) (Kd.R_types (Kd.R_apart' (HO_8.out) (Kd.S_typed HO_5.out) (by decide)) BK371.out (by decide)) (fun k_ hk => ⟨hk.2, hk.1.2⟩))) (fun _ h_ => h_))); (case aB => exact (by repeat (first | (with_reducible first | exact HB.out | apply below_alloc | apply pw_below_drewN | apply below_drew1 | refine below_set ?_ GE369.out | refine below_set ?_ GE371.out) | exact HB.out))); (case aF => exact (fun k_ hk => Kd.freshB (g := gb371) (o := .cells #[.int .i64 ((rd_T83 l0 x6_1).f0), .int .i64 ((rd_T83 l0 x6_1).f1), .int .i64 ((rd_T83 l0 x6_1).f2), .slice Ao30 x8_2.length co30] 83 (0, 0)) (by (with_reducible repeat (first | refine blk_drewN ?_ _ | refine blk_drew ?_ | refine blk_alloc ?_ _)); exact BK371.out) k_ hk)); (case aO => exact (by (with_reducible repeat (first | apply Kd.S_alloc | apply Kd.S_drewN | apply Kd.S_drew)); exact Kd.S_mono HO_5.out (fun k_ hk => ⟨hk.2, fun e_ => hk.1 e_⟩))); (case aS => exact (below_size (by repeat (first | (with_reducible first | exact HB.out | apply below_alloc | apply pw_below_drewN | apply below_drew1 | refine below_set ?_ GE369.out | refine below_set ?_ GE371.out) | exact HB.out)))); (case aL => have := LMc27.out; omega); intro v382 w33 ho hb hg hat; rw [← Ny381.out] at ho; have n0_ := Aside0.mk (blk_grown (g := gb369) (o := .cells #[.int .i64 a1_0, .int .i64 a1_1, .string a1_2] 79 (0, 0)) (by (with_reducible repeat (first | refine blk_drewN ?_ _ | refine blk_drew ?_ | refine blk_alloc ?_ _)); exact BK369.out) hg (Kd.S_ne HO_5.out BK369.out (by decide))); have n1_ := Aside0.mk (blk_grown (g := gb371) (o := .cells #[.int .i64 ((rd_T83 l0 x6_1).f0), .int .i64 ((rd_T83 l0 x6_1).f1), .int .i64 ((rd_T83 l0 x6_1).f2), .slice Ao30 x8_2.length co30] 83 (0, 0)) (by (with_reducible repeat (first | refine blk_drewN ?_ _ | refine blk_drew ?_ | refine blk_alloc ?_ _)); exact BK371.out) hg (Kd.S_away HO_5.out (fun _ hk => hk.2))); have n2_ := Aside0.mk (hb); have n3_ := Aside0.mk (ho); clear BK369; clear BK371; clear HB; clear HO_5; clear HO_8; have BK369 := n0_; have BK371 := n1_; have HB := n2_; have HO383 := n3_; clear n0_ n1_ n2_ n3_; clear ho hb hg hat))
                  repeat (go_quiet (first | ((with_reducible refine gate_store (t := 81) (p := 52) rfl ?_); (try (rw [drewN_self wr]; generalize hq_ : World.drewN wr _ = wr; have n0_ := Aside0.mk (Kd.S_at hq_ HO_5.out); have n1_ := Aside0.mk (Kd.R_at hq_ HO_8.out); have n2_ := Aside0.mk (blk_at hq_ BK369.out); have n3_ := Aside0.mk (blk_at hq_ BK371.out); have n4_ := Aside0.mk (below_at hq_ HB.out); clear hq_ HO_5 HO_8 BK369 BK371 HB; have HO_5 := n0_; have HO_8 := n1_; have BK369 := n2_; have BK371 := n3_; have HB := n4_; clear n0_ n1_ n2_ n3_ n4_)); refine store_event (t := 81) (p := 52) (v := ?vo_w31) (w1 := (wr.setCell ⟨gb371, 3, none⟩ (.slice Ao30 x8_2.length co30))) ?hg ?ho ?hn ?hr ?_; (case ho => rfl); (case hg => rfl); (case hn => rfl); (case hr => first | (go_simp; done) | (go_simp; rfl)); intro w31 hw; have n0_ : Aside0 (Kd.S k83 83 w31 w.heap.size (fun k_ => some k_ ≠ (.slice Ao30 x8_2.length co30 : Value).ownBlock ∧ k_ ≠ gb371) u5 x5_1) := ⟨(by rw [hw]; exact (by (with_reducible repeat (first | apply Kd.S_alloc | apply Kd.S_drewN | apply Kd.S_drew)); exact Kd.S_mono (Kd.S_far (p := ⟨gb371, 3, none⟩) (Kd.S_mono HO_5.out (fun k_ hk => (⟨hk, hk.2⟩ : _ ∧ k_ ≠ gb371))) (fun _ hk => hk.2) (.slice Ao30 x8_2.length co30)) (fun _ hk => ⟨hk.1.1, hk.1.2⟩)))⟩; have n1_ : Aside0 (Kd.R k95 95 w31 w.heap.size (fun _ => True) (.slice Ao30 x8_2.length co30) x8_2) := ⟨(by rw [hw]; exact (by (with_reducible repeat (first | apply Kd.R_alloc | apply Kd.R_drewN | apply Kd.R_drew)); exact Kd.R_mono (Kd.R_far (p := ⟨gb371, 3, none⟩) (Kd.R_types HO_8.out BK371.out (by decide)) (fun _ hk => hk.2) (.slice Ao30 x8_2.length co30)) (fun _ hk => trivial)))⟩; have n2_ : Aside0 (w31.heap[gb369]? = some (.cells #[.int .i64 a1_0, .int .i64 a1_1, .string a1_2] 79 (0, 0))) := ⟨(by rw [hw]; exact (by (with_reducible repeat (first | refine blk_drewN ?_ _ | refine blk_drew ?_ | refine blk_alloc ?_ _)); refine blk_far ?_ NB369_371.out _; (with_reducible repeat (first | refine blk_drewN ?_ _ | refine blk_drew ?_ | refine blk_alloc ?_ _)); exact BK369.out))⟩; have n3_ : Aside0 (w31.heap[gb371]? = some (.cells #[.int .i64 ((rd_T83 l0 x6_1).f0), .int .i64 ((rd_T83 l0 x6_1).f1), .int .i64 ((rd_T83 l0 x6_1).f2), .slice Ao30 x8_2.length co30] 83 (0, 0))) := ⟨(by rw [hw]; exact (by (with_reducible repeat (first | refine blk_drewN ?_ _ | refine blk_drew ?_ | refine blk_alloc ?_ _)); refine blk_put (cs := #[.int .i64 ((rd_T83 l0 x6_1).f0), .int .i64 ((rd_T83 l0 x6_1).f1), .int .i64 ((rd_T83 l0 x6_1).f2), .slice A370_3 ((rd_T83 l0 x6_1).f3).length c370_3]) ?_ 3 _ rfl; (with_reducible repeat (first | refine blk_drewN ?_ _ | refine blk_drew ?_ | refine blk_alloc ?_ _)); exact BK371.out))⟩; have n4_ : Aside0 (Below w.heap.size w w31) := ⟨(by rw [hw]; exact (by repeat (first | (with_reducible first | exact HB.out | apply below_alloc | apply pw_below_drewN | apply below_drew1 | refine below_set ?_ GE369.out | refine below_set ?_ GE371.out) | exact HB.out)))⟩; clear hw; clear HO_5; clear HO_8; clear BK369; clear BK371; clear HB; have HO_5 := n0_; have HO_8 := n1_; have BK369 := n2_; have BK371 := n3_; have HB := n4_; clear n0_ n1_ n2_ n3_ n4_; have hcz32_0 : w31.cell? ⟨gb371, 0, none⟩ = some (.int .i64 ((rd_T83 l0 x6_1).f0)) := (blk_cell BK371.out 0).trans rfl; have hcz32_1 : w31.cell? ⟨gb371, 1, none⟩ = some (.int .i64 ((rd_T83 l0 x6_1).f1)) := (blk_cell BK371.out 1).trans rfl; have hcz32_2 : w31.cell? ⟨gb371, 2, none⟩ = some (.int .i64 ((rd_T83 l0 x6_1).f2)) := (blk_cell BK371.out 2).trans rfl; have hcz32_3 : w31.cell? ⟨gb371, 3, none⟩ = some (.slice Ao30 x8_2.length co30) := (blk_cell BK371.out 3).trans rfl; have hfz32_0 := blk_frozen BK371.out 0; have hfz32_1 := blk_frozen BK371.out 1; have hfz32_2 := blk_frozen BK371.out 2; have hfz32_3 := blk_frozen BK371.out 3) | ((with_reducible refine gate_builtin (b := .append) (xs := #[.tmp 53, .tmp 55]) rfl ?_); at_builtin; refine Kd.S_append k83 (w0 := w) w.heap.size rfl (.tmp 53) (.tmp 55) 72 83 (.agg #[(.int .i64 0), (.int .i64 0), (.int .i64 0), (.slice none 0 0)]) 48 rfl Tryd.underlying72 info83 rfl (by decide) (by omega) u5 x5_1 (⟨((rd_T83 l0 x6_1).f0), ((rd_T83 l0 x6_1).f1), ((rd_T83 l0 x6_1).f2), x8_2⟩ : S83) [.int .i64 ((rd_T83 l0 x6_1).f0), .int .i64 ((rd_T83 l0 x6_1).f1), .int .i64 ((rd_T83 l0 x6_1).f2), .slice Ao30 x8_2.length co30] (fun k_ => k_ ≠ gb371) (fun k_ => some k_ = (.slice Ao30 x8_2.length co30 : Value).ownBlock) rfl rfl ?aP (fun k_ hk_ => ((Kd.R_mono (ok' := fun k_ => ((fun k_ => k_ ≠ gb371)) k_ ∧ some k_ ≠ (u5 : Value).ownBlock) (Kd.R_types (Kd.R_apart' (HO_8.out) (Kd.S_typed HO_5.out) (by decide)) BK371.out (by decide)) (fun k_ hk => ⟨hk.2, hk.1.2⟩))).1 k_ hk_.symm) ?aF ?aO ?aB ?aS ?aL ?_; (case aP => exact k83_mkM _ _ _ (⟨((rd_T83 l0 x6_1).f0), ((rd_T83 l0 x6_1).f1), ((rd_T83 l0 x6_1).f2), x8_2⟩ : S83) (Kd.R_mono (Kd.R_tight rfl (Kd.R_mono (ok' := fun k_ => ((fun k_ => k_ ≠ gb371)) k_ ∧ some k_ ≠ (u5 : Value).ownBlock) (Kd.R_types (Kd.R_apart' (HO_8.out) (Kd.S_typed HO_5.out) (by decide)) BK371.out (by decide)) (fun k_ hk => ⟨hk.2, hk.1.2⟩))) (fun _ h_ => h_))); (case aB => exact (by repeat (first | (with_reducible first | exact HB.out | apply below_alloc | apply pw_below_drewN | apply below_drew1 | refine below_set ?_ GE369.out | refine below_set ?_ GE371.out) | exact HB.out))); (case aF => exact (fun k_ hk => Kd.freshB (g := gb371) (o := .cells #[.int .i64 ((rd_T83 l0 x6_1).f0), .int .i64 ((rd_T83 l0 x6_1).f1), .int .i64 ((rd_T83 l0 x6_1).f2), .slice Ao30 x8_2.length co30] 83 (0, 0)) (by (with_reducible repeat (first | refine blk_drewN ?_ _ | refine blk_drew ?_ | refine blk_alloc ?_ _)); exact BK371.out) k_ hk)); (case aO => exact (by (with_reducible repeat (first | apply Kd.S_alloc | apply Kd.S_drewN | apply Kd.S_drew)); exact Kd.S_mono HO_5.out (fun k_ hk => ⟨hk.2, fun e_ => hk.1 e_⟩))); (case aS => exact (below_size (by repeat (first | (with_reducible first | exact HB.out | apply below_alloc | apply pw_below_drewN | apply below_drew1 | refine below_set ?_ GE369.out | refine below_set ?_ GE371.out) | exact HB.out)))); (case aL => have := LMc27.out; omega); intro v382 w33 ho hb hg hat; rw [← Ny381.out] at ho; have n0_ := Aside0.mk (blk_grown (g := gb369) (o := .cells #[.int .i64 a1_0, .int .i64 a1_1, .string a1_2] 79 (0, 0)) (by (with_reducible repeat (first | refine blk_drewN ?_ _ | refine blk_drew ?_ | refine blk_alloc ?_ _)); exact BK369.out) hg (Kd.S_ne HO_5.out BK369.out (by decide))); have n1_ := Aside0.mk (blk_grown (g := gb371) (o := .cells #[.int .i64 ((rd_T83 l0 x6_1).f0), .int .i64 ((rd_T83 l0 x6_1).f1), .int .i64 ((rd_T83 l0 x6_1).f2), .slice Ao30 x8_2.length co30] 83 (0, 0)) (by (with_reducible repeat (first | refine blk_drewN ?_ _ | refine blk_drew ?_ | refine blk_alloc ?_ _)); exact BK371.out) hg (Kd.S_away HO_5.out (fun _ hk => hk.2))); have n2_ := Aside0.mk (hb); have n3_ := Aside0.mk (ho); clear BK369; clear BK371; clear HB; clear HO_5; clear HO_8; have BK369 := n0_; have BK371 := n1_; have HB := n2_; have HO383 := n3_; clear n0_ n1_ n2_ n3_; clear ho hb hg hat)); try go_wp2_with (first | ((with_reducible refine gate_store (t := 81) (p := 52) rfl ?_); (try (rw [drewN_self wr]; generalize hq_ : World.drewN wr _ = wr; have n0_ := Aside0.mk (Kd.S_at hq_ HO_5.out); have n1_ := Aside0.mk (Kd.R_at hq_ HO_8.out); have n2_ := Aside0.mk (blk_at hq_ BK369.out); have n3_ := Aside0.mk (blk_at hq_ BK371.out); have n4_ := Aside0.mk (below_at hq_ HB.out); clear hq_ HO_5 HO_8 BK369 BK371 HB; have HO_5 := n0_; have HO_8 := n1_; have BK369 := n2_; have BK371 := n3_; have HB := n4_; clear n0_ n1_ n2_ n3_ n4_)); refine store_event (t := 81) (p := 52) (v := ?vo_w31) (w1 := (wr.setCell ⟨gb371, 3, none⟩ (.slice Ao30 x8_2.length co30))) ?hg ?ho ?hn ?hr ?_; (case ho => rfl); (case hg => rfl); (case hn => rfl); (case hr => first | (go_simp; done) | (go_simp; rfl)); intro w31 hw; have n0_ : Aside0 (Kd.S k83 83 w31 w.heap.size (fun k_ => some k_ ≠ (.slice Ao30 x8_2.length co30 : Value).ownBlock ∧ k_ ≠ gb371) u5 x5_1) := ⟨(by rw [hw]; exact (by (with_reducible repeat (first | apply Kd.S_alloc | apply Kd.S_drewN | apply Kd.S_drew)); exact Kd.S_mono (Kd.S_far (p := ⟨gb371, 3, none⟩) (Kd.S_mono HO_5.out (fun k_ hk => (⟨hk, hk.2⟩ : _ ∧ k_ ≠ gb371))) (fun _ hk => hk.2) (.slice Ao30 x8_2.length co30)) (fun _ hk => ⟨hk.1.1, hk.1.2⟩)))⟩; have n1_ : Aside0 (Kd.R k95 95 w31 w.heap.size (fun _ => True) (.slice Ao30 x8_2.length co30) x8_2) := ⟨(by rw [hw]; exact (by (with_reducible repeat (first | apply Kd.R_alloc | apply Kd.R_drewN | apply Kd.R_drew)); exact Kd.R_mono (Kd.R_far (p := ⟨gb371, 3, none⟩) (Kd.R_types HO_8.out BK371.out (by decide)) (fun _ hk => hk.2) (.slice Ao30 x8_2.length co30)) (fun _ hk => trivial)))⟩; have n2_ : Aside0 (w31.heap[gb369]? = some (.cells #[.int .i64 a1_0, .int .i64 a1_1, .string a1_2] 79 (0, 0))) := ⟨(by rw [hw]; exact (by (with_reducible repeat (first | refine blk_drewN ?_ _ | refine blk_drew ?_ | refine blk_alloc ?_ _)); refine blk_far ?_ NB369_371.out _; (with_reducible repeat (first | refine blk_drewN ?_ _ | refine blk_drew ?_ | refine blk_alloc ?_ _)); exact BK369.out))⟩; have n3_ : Aside0 (w31.heap[gb371]? = some (.cells #[.int .i64 ((rd_T83 l0 x6_1).f0), .int .i64 ((rd_T83 l0 x6_1).f1), .int .i64 ((rd_T83 l0 x6_1).f2), .slice Ao30 x8_2.length co30] 83 (0, 0))) := ⟨(by rw [hw]; exact (by (with_reducible repeat (first | refine blk_drewN ?_ _ | refine blk_drew ?_ | refine blk_alloc ?_ _)); refine blk_put (cs := #[.int .i64 ((rd_T83 l0 x6_1).f0), .int .i64 ((rd_T83 l0 x6_1).f1), .int .i64 ((rd_T83 l0 x6_1).f2), .slice A370_3 ((rd_T83 l0 x6_1).f3).length c370_3]) ?_ 3 _ rfl; (with_reducible repeat (first | refine blk_drewN ?_ _ | refine blk_drew ?_ | refine blk_alloc ?_ _)); exact BK371.out))⟩; have n4_ : Aside0 (Below w.heap.size w w31) := ⟨(by rw [hw]; exact (by repeat (first | (with_reducible first | exact HB.out | apply below_alloc | apply pw_below_drewN | apply below_drew1 | refine below_set ?_ GE369.out | refine below_set ?_ GE371.out) | exact HB.out)))⟩; clear hw; clear HO_5; clear HO_8; clear BK369; clear BK371; clear HB; have HO_5 := n0_; have HO_8 := n1_; have BK369 := n2_; have BK371 := n3_; have HB := n4_; clear n0_ n1_ n2_ n3_ n4_; have hcz32_0 : w31.cell? ⟨gb371, 0, none⟩ = some (.int .i64 ((rd_T83 l0 x6_1).f0)) := (blk_cell BK371.out 0).trans rfl; have hcz32_1 : w31.cell? ⟨gb371, 1, none⟩ = some (.int .i64 ((rd_T83 l0 x6_1).f1)) := (blk_cell BK371.out 1).trans rfl; have hcz32_2 : w31.cell? ⟨gb371, 2, none⟩ = some (.int .i64 ((rd_T83 l0 x6_1).f2)) := (blk_cell BK371.out 2).trans rfl; have hcz32_3 : w31.cell? ⟨gb371, 3, none⟩ = some (.slice Ao30 x8_2.length co30) := (blk_cell BK371.out 3).trans rfl; have hfz32_0 := blk_frozen BK371.out 0; have hfz32_1 := blk_frozen BK371.out 1; have hfz32_2 := blk_frozen BK371.out 2; have hfz32_3 := blk_frozen BK371.out 3) | ((with_reducible refine gate_builtin (b := .append) (xs := #[.tmp 53, .tmp 55]) rfl ?_); at_builtin; refine Kd.S_append k83 (w0 := w) w.heap.size rfl (.tmp 53) (.tmp 55) 72 83 (.agg #[(.int .i64 0), (.int .i64 0), (.int .i64 0), (.slice none 0 0)]) 48 rfl Tryd.underlying72 info83 rfl (by decide) (by omega) u5 x5_1 (⟨((rd_T83 l0 x6_1).f0), ((rd_T83 l0 x6_1).f1), ((rd_T83 l0 x6_1).f2), x8_2⟩ : S83) [.int .i64 ((rd_T83 l0 x6_1).f0), .int .i64 ((rd_T83 l0 x6_1).f1), .int .i64 ((rd_T83 l0 x6_1).f2), .slice Ao30 x8_2.length co30] (fun k_ => k_ ≠ gb371) (fun k_ => some k_ = (.slice Ao30 x8_2.length co30 : Value).ownBlock) rfl rfl ?aP (fun k_ hk_ => ((Kd.R_mono (ok' := fun k_ => ((fun k_ => k_ ≠ gb371)) k_ ∧ some k_ ≠ (u5 : Value).ownBlock) (Kd.R_types (Kd.R_apart' (HO_8.out) (Kd.S_typed HO_5.out) (by decide)) BK371.out (by decide)) (fun k_ hk => ⟨hk.2, hk.1.2⟩))).1 k_ hk_.symm) ?aF ?aO ?aB ?aS ?aL ?_; (case aP => exact k83_mkM _ _ _ (⟨((rd_T83 l0 x6_1).f0), ((rd_T83 l0 x6_1).f1), ((rd_T83 l0 x6_1).f2), x8_2⟩ : S83) (Kd.R_mono (Kd.R_tight rfl (Kd.R_mono (ok' := fun k_ => ((fun k_ => k_ ≠ gb371)) k_ ∧ some k_ ≠ (u5 : Value).ownBlock) (Kd.R_types (Kd.R_apart' (HO_8.out) (Kd.S_typed HO_5.out) (by decide)) BK371.out (by decide)) (fun k_ hk => ⟨hk.2, hk.1.2⟩))) (fun _ h_ => h_))); (case aB => exact (by repeat (first | (with_reducible first | exact HB.out | apply below_alloc | apply pw_below_drewN | apply below_drew1 | refine below_set ?_ GE369.out | refine below_set ?_ GE371.out) | exact HB.out))); (case aF => exact (fun k_ hk => Kd.freshB (g := gb371) (o := .cells #[.int .i64 ((rd_T83 l0 x6_1).f0), .int .i64 ((rd_T83 l0 x6_1).f1), .int .i64 ((rd_T83 l0 x6_1).f2), .slice Ao30 x8_2.length co30] 83 (0, 0)) (by (with_reducible repeat (first | refine blk_drewN ?_ _ | refine blk_drew ?_ | refine blk_alloc ?_ _)); exact BK371.out) k_ hk)); (case aO => exact (by (with_reducible repeat (first | apply Kd.S_alloc | apply Kd.S_drewN | apply Kd.S_drew)); exact Kd.S_mono HO_5.out (fun k_ hk => ⟨hk.2, fun e_ => hk.1 e_⟩))); (case aS => exact (below_size (by repeat (first | (with_reducible first | exact HB.out | apply below_alloc | apply pw_below_drewN | apply below_drew1 | refine below_set ?_ GE369.out | refine below_set ?_ GE371.out) | exact HB.out)))); (case aL => have := LMc27.out; omega); intro v382 w33 ho hb hg hat; rw [← Ny381.out] at ho; have n0_ := Aside0.mk (blk_grown (g := gb369) (o := .cells #[.int .i64 a1_0, .int .i64 a1_1, .string a1_2] 79 (0, 0)) (by (with_reducible repeat (first | refine blk_drewN ?_ _ | refine blk_drew ?_ | refine blk_alloc ?_ _)); exact BK369.out) hg (Kd.S_ne HO_5.out BK369.out (by decide))); have n1_ := Aside0.mk (blk_grown (g := gb371) (o := .cells #[.int .i64 ((rd_T83 l0 x6_1).f0), .int .i64 ((rd_T83 l0 x6_1).f1), .int .i64 ((rd_T83 l0 x6_1).f2), .slice Ao30 x8_2.length co30] 83 (0, 0)) (by (with_reducible repeat (first | refine blk_drewN ?_ _ | refine blk_drew ?_ | refine blk_alloc ?_ _)); exact BK371.out) hg (Kd.S_away HO_5.out (fun _ hk => hk.2))); have n2_ := Aside0.mk (hb); have n3_ := Aside0.mk (ho); clear BK369; clear BK371; clear HB; clear HO_5; clear HO_8; have BK369 := n0_; have BK371 := n1_; have HB := n2_; have HO383 := n3_; clear n0_ n1_ n2_ n3_; clear ho hb hg hat)))
                  go_roundg k2
                  case measure => have := HK1.out; have := HK2.out; omega
                  case rel => exact ⟨(y381), (wrap64 (x6_1 + 1)), (by first | rfl | (simp; done) | (simp [*]; done)), H', ⟨by have := HK1.out; have := HK2.out; omega⟩, ⟨by (with_reducible repeat (first | apply Kd.S_alloc | apply Kd.S_drewN | apply Kd.S_drew)); exact Kd.S_mono HO383.out (fun _ hk => trivial)⟩, ⟨by (with_reducible repeat (first | refine blk_drewN ?_ _ | refine blk_drew ?_ | refine blk_alloc ?_ _)); exact BK369.out⟩, ⟨by repeat (first | (with_reducible first | exact HB.out | apply below_alloc | apply pw_below_drewN | apply below_drew1 | refine below_set ?_ GE369.out | refine below_set ?_ GE371.out) | exact HB.out)⟩⟩
                · rw [if_neg c27] at H
                  exact absurd H (by simp)
        · rw [if_neg c5] at H
          exact absurd H (by simp)
      · rw [if_neg c4] at H
        have c4b0 : decide (x6_1 < (l0.length : Int)) = false := decide_eq_false c4
        clear c4
        obtain rfl := Option.some.inj H
        go_wp2
        repeat (go_quiet (fail); try go_wp2)
        go_ret
        exact ⟨_, by first | rfl | (simp [errW_none, errW_some] <;> rfl) | (simp [*, errW_none, errW_some] <;> rfl), by (with_reducible repeat (first | apply Kd.S_alloc | apply Kd.S_drewN | apply Kd.S_drew)); exact HO_5.out, by repeat (first | (with_reducible first | exact HB.out | apply below_alloc | apply pw_below_drewN | apply below_drew1 | refine below_set ?_ GE369.out) | exact HB.out)⟩

-- NOT PRINTED: function 8 (provostlaw33_TrashEmpties)


end Go.Proofs.YtmgcapccgncmkaaDoor.PTrashFinds
