/- Texts: what may stand in a name, a tag, a value (chapter 3). -/
import Derived.Test.YtmgcapccgncmkaaDoorProg
import Derived.Test.YtmgcapccgncmkaaDoorRz
import Derived.StillTailTactics
import Derived.WalkSpells
import Derived.Outline
import Derived.KernelRfl
import Derived.IntWalk
import Derived.PlainAid
import Derived.Deep.RegionHeld3
import Derived.Deep.DeepMust
import Derived.Deep.QuietTactic
import Derived.Deep.LoopGhost
set_option linter.unusedSimpArgs false
set_option linter.unusedVariables false
namespace Go.Proofs.YtmgcapccgncmkaaDoor.Tx
open Go.RowKit Go.Pv Go.Proofs.YtmgcapccgncmkaaDoorW.PrintWords

theorem hid {p : Prop} (h : p) : Hid p := h
def mtab (i : Nat) : Int := if i = 13 then 7 else if i = 14 then 6 else if i = 63 then 4 else 0
/-- The marks; the library's greatest length holds some number. -/
structure Gm (w : World) : Prop where
  marks : ∀ i, i < 64 → w.cell? ⟨2, i, none⟩ = some (.int .i64 (mtab i))
  len : ∃ m, w.cell? ⟨1, 0, none⟩ = some (.int .i64 m)
theorem Gm.later {w W : World} (h : Gm w) (hb : Below w.heap.size w W) : Gm W :=
  ⟨fun i hi => (hb.cell (World.block_lt_of_cell? w _ (h.marks i hi))).trans (h.marks i hi), by obtain ⟨m, hm⟩ := h.len; exact ⟨m, (hb.cell (World.block_lt_of_cell? w _ hm)).trans hm⟩⟩

/-- What a byte may stand in. -/
def ofB (c : Int) : Int := if 97 ≤ c ∧ c ≤ 122 ∨ 48 ≤ c ∧ c ≤ 57 then 7 else if 65 ≤ c ∧ c ≤ 90 then 4 else if 32 ≤ c ∧ c < 96 then mtab (c - 32).toNat else 0
theorem or7 : bits BinOp.or IntKind.i64 (bits BinOp.or IntKind.i64 0 3) 4 = 7 := by decide
theorem or4 : bits BinOp.or IntKind.i64 0 4 = 4 := by decide
set_option maxRecDepth 10000 in
theorem of_any (c : Int) (h0 : 0 ≤ c) (h1 : c < 256) (w : World) (hG : Gm w) : Calls Tryd.prog 122 #[.int .u8 c] w fun e w' => e = .returned (.int .i64 (ofB c)) ∧ w' = w := by
  have HG := hid hG
  clear hG
  by_cases a1 : 97 ≤ c ∧ c ≤ 122
  · have b1 : decide (c ≥ 97) = true := decide_eq_true a1.1
    have b2 : decide (c ≤ 122) = true := decide_eq_true a1.2
    have hr : ofB c = 7 := by unfold ofB; rw [if_pos (.inl a1)]
    rw [hr]
    clear hr
    go_enter Tryd.func122, Tryd.ntmps122
    go_wp2
    rw [or7]
    go_ret
    exact ⟨rfl, rfl⟩
  have ha : decide (c ≥ 97) = false ∨ (decide (c ≥ 97) = true ∧ decide (c ≤ 122) = false) := by
    by_cases h : c ≥ 97
    · exact .inr ⟨decide_eq_true h, decide_eq_false (by omega)⟩
    · exact .inl (decide_eq_false h)
  by_cases a2 : 48 ≤ c ∧ c ≤ 57
  · have b1 : decide (c ≥ 97) = false := decide_eq_false (by omega)
    have b3 : decide (c ≥ 48) = true := decide_eq_true a2.1
    have b4 : decide (c ≤ 57) = true := decide_eq_true a2.2
    have hr : ofB c = 7 := by unfold ofB; rw [if_pos (.inr a2)]
    rw [hr]
    clear hr ha
    go_enter Tryd.func122, Tryd.ntmps122
    go_wp2
    rw [or7]
    go_ret
    exact ⟨rfl, rfl⟩
  have hb : decide (c ≥ 48) = false ∨ (decide (c ≥ 48) = true ∧ decide (c ≤ 57) = false) := by
    by_cases h : c ≥ 48
    · exact .inr ⟨decide_eq_true h, decide_eq_false (by omega)⟩
    · exact .inl (decide_eq_false h)
  by_cases a3 : 65 ≤ c ∧ c ≤ 90
  · have b1 : decide (c ≥ 97) = false := decide_eq_false (by omega)
    have b3 : decide (c ≥ 48) = true := decide_eq_true (by omega)
    have b4 : decide (c ≤ 57) = false := decide_eq_false (by omega)
    have b5 : decide (c ≥ 65) = true := decide_eq_true a3.1
    have b6 : decide (c ≤ 90) = true := decide_eq_true a3.2
    have hr : ofB c = 4 := by unfold ofB; rw [if_neg (by omega), if_pos a3]
    rw [hr]
    clear hr ha hb
    go_enter Tryd.func122, Tryd.ntmps122
    go_wp2
    rw [or4]
    go_ret
    exact ⟨rfl, rfl⟩
  have hc : decide (c ≥ 65) = false ∨ (decide (c ≥ 65) = true ∧ decide (c ≤ 90) = false) := by
    by_cases h : c ≥ 65
    · exact .inr ⟨decide_eq_true h, decide_eq_false (by omega)⟩
    · exact .inl (decide_eq_false h)
  by_cases a4 : 32 ≤ c ∧ c < 96
  · have b7 : decide (c ≥ 32) = true := decide_eq_true a4.1
    have hw : IntKind.u8.wrap (c - 32) = c - 32 := by rw [IntKind.wrap_u8]; omega
    have hw2 : (c - 32) % 256 = c - 32 := by omega
    have hw3 : IntKind.i64.wrap (c - 32) = c - 32 := IntWalk.i64_in _ (by omega)
    have b8 : decide (c - 32 < 64) = true := decide_eq_true (by omega)
    have b9 : c - 32 < 64 := by omega
    have b10 : 0 ≤ c - 32 := by omega
    have b11 : (c - 32).toNat < 64 := by omega
    have hcell := HG.out.marks (c - 32).toNat b11
    have hr : ofB c = mtab (c - 32).toNat := by unfold ofB; rw [if_neg (by omega), if_neg a3, if_pos a4]
    rw [hr]
    clear hr
    rcases ha with ha | ⟨ha, ha'⟩ <;> rcases hb with hb | ⟨hb, hb'⟩ <;> rcases hc with hc | ⟨hc, hc'⟩
    all_goals (go_enter Tryd.func122, Tryd.ntmps122; go_wp2; go_ret; exact ⟨rfl, rfl⟩)
  · have hr : ofB c = 0 := by unfold ofB; rw [if_neg (by omega), if_neg a3, if_neg a4]
    rw [hr]
    clear hr
    by_cases h : 32 ≤ c
    · have b7 : decide (c ≥ 32) = true := decide_eq_true h
      have hw : IntKind.u8.wrap (c - 32) = c - 32 := by rw [IntKind.wrap_u8]; omega
      have hw2 : (c - 32) % 256 = c - 32 := by omega
      have hw3 : IntKind.i64.wrap (c - 32) = c - 32 := IntWalk.i64_in _ (by omega)
      have b8 : decide (c - 32 < 64) = false := decide_eq_false (by omega)
      rcases ha with ha | ⟨ha, ha'⟩ <;> rcases hb with hb | ⟨hb, hb'⟩ <;> rcases hc with hc | ⟨hc, hc'⟩
      all_goals (go_enter Tryd.func122, Tryd.ntmps122; go_wp2; go_ret; exact ⟨rfl, rfl⟩)
    · have b7 : decide (c ≥ 32) = false := decide_eq_false (by omega)
      rcases ha with ha | ⟨ha, ha'⟩ <;> rcases hb with hb | ⟨hb, hb'⟩ <;> rcases hc with hc | ⟨hc, hc'⟩
      all_goals (go_enter Tryd.func122, Tryd.ntmps122; go_wp2; go_ret; exact ⟨rfl, rfl⟩)

/-- May all bytes stand there? -/
def hasB (what c : Int) : Bool := !(bits BinOp.and IntKind.i64 (ofB c) what == 0)
def allB (what : Int) (s : ByteArray) : Bool := (List.range s.size).all (fun (i : Nat) => hasB what (bt s (i : Int)))
set_option maxRecDepth 10000 in
theorem all_any (s : ByteArray) (what : Int) (hs : s.size ≤ 1000000000) (w : World) (hG : Gm w) : Calls Tryd.prog 107 #[.string s, .int .i64 what] w fun e w' => e = .returned (.bool (allB what s)) ∧ w' = w := by
  have HO := hid (fun c h0 h1 => of_any c h0 h1 w hG)
  go_enter Tryd.func107, Tryd.ntmps107
  go_wp2_with fail
  go_loopg [5, 8] s.size (fun q s5 s8 wr => ∃ j : Nat, s8 = .int .i64 j ∧ q = s.size - j ∧ j ≤ s.size ∧ w = wr ∧ Hid (∀ i < j, hasB what (bt s (i : Int)) = true))
  case atStart => exact ⟨0, rfl, by omega, by omega, rfl, fun i hi => by omega⟩
  case round =>
    obtain ⟨j, rfl, rfl, hj, rfl, HA⟩ := hrel
    by_cases hjs : j < s.size
    · have b1 : decide ((j : Int) < (s.size : Int)) = true := decide_eq_true (by omega)
      have ebt : bt s (j : Int) = ((s[j]'hjs).toNat : Int) := by
        have := bt_at s (j : Int) (by simpa using hjs)
        simpa using this.symm
      have hc0 : 0 ≤ ((s[j]'hjs).toNat : Int) := by omega
      have hc1 : ((s[j]'hjs).toNat : Int) < 256 := by have := (s[j]'hjs).toNat_lt; omega
      by_cases hh : hasB what (bt s (j : Int)) = true
      · have hb : (bits BinOp.and IntKind.i64 (ofB ((s[j]'hjs).toNat : Int)) what == 0) = false := by
          rw [ebt] at hh
          unfold hasB at hh
          simpa using hh
        go_wp2_with (go_at_call 122; go_must (with_reducible refine (HO.out _ hc0 hc1).mono ?_); rintro e w1 ⟨rfl, rfl⟩)
        go_roundg (s.size - (j + 1))
        case measure => omega
        case rel =>
          refine ⟨j + 1, by simp, rfl, by omega, rfl, fun i hi => ?_⟩
          by_cases hij : i = j
          · subst hij; exact hh
          · exact HA.out i (by omega)
      · have hb : (bits BinOp.and IntKind.i64 (ofB ((s[j]'hjs).toNat : Int)) what == 0) = true := by
          rw [ebt] at hh
          unfold hasB at hh
          simpa using hh
        have hr : allB what s = false := by
          unfold allB
          rw [List.all_eq_false]
          exact ⟨j, by simpa using hjs, by simpa using hh⟩
        go_wp2_with (go_at_call 122; go_must (with_reducible refine (HO.out _ hc0 hc1).mono ?_); rintro e w1 ⟨rfl, rfl⟩)
        go_ret
        exact ⟨by rw [hr]; rfl, rfl⟩
    · have b1 : decide ((j : Int) < (s.size : Int)) = false := decide_eq_false (by omega)
      have hr : allB what s = true := by
        unfold allB
        rw [List.all_eq_true]
        intro i hi
        exact HA.out i (by have : i < s.size := by simpa using hi
                           omega)
      go_wp2_with fail
      go_ret
      exact ⟨by rw [hr]; rfl, rfl⟩

/-- May a text be a name? -/
def nameB (s : ByteArray) : Bool := decide (s.size ≠ 0) && decide (s.size ≤ 16) && allB 1 s && !(bt s 0 == 45) && !(bt s ((s.size : Int) - 1) == 45)
theorem isEmpty_size (s : ByteArray) : s.toList.isEmpty = decide (s.size = 0) := by
  have h1 : s.toList.length = s.size := by rw [ByteArray.toList_eq]; exact Array.length_toList
  rw [← h1]
  cases s.toList <;> simp
set_option maxRecDepth 10000 in
theorem name_any (s : ByteArray) (w : World) (hG : Gm w) : Calls Tryd.prog 86 #[.string s] w fun e w' => e = .returned (.bool (nameB s)) ∧ w' = w := by
  have hE := isEmpty_size s
  by_cases h0 : s.size = 0
  · have hr : nameB s = false := by simp [nameB, h0]
    rw [hr]
    rw [h0] at hE
    have hE : s.toList.isEmpty = true := hE
    go_enter Tryd.func86, Tryd.ntmps86
    go_wp2_with fail
    go_ret
    exact ⟨rfl, rfl⟩
  rw [decide_eq_false h0] at hE
  by_cases h1 : s.size ≤ 16
  · have b1 : decide ((s.size : Int) ≤ 16) = true := decide_eq_true (by omega)
    have HA := hid (fun (w : World) hG => all_any s 1 (by omega) w hG)
    cases ha : allB 1 s with
    | false =>
      have hr : nameB s = false := by simp [nameB, ha]
      rw [hr]
      rw [ha] at HA
      clear hr ha h0
      go_enter Tryd.func86, Tryd.ntmps86
      go_wp2_with (go_at_call 107; go_must (with_reducible refine (HA.out _ hG).mono ?_); rintro e w1 ⟨rfl, rfl⟩)
      go_ret
      exact ⟨rfl, rfl⟩
    | true =>
      rw [ha] at HA
      have z1 : 0 < s.size := by omega
      have ez : bt s 0 = ((s[0]'z1).toNat : Int) := (bt_at s 0 z1).symm
      have el : bt s ((s.size : Int) - 1) = ((s[((s.size : Int) - 1).toNat]'(by omega)).toNat : Int) := (bt_at s ((s.size : Int) - 1) (by omega)).symm
      have hw : IntKind.i64.wrap ((s.size : Int) - 1) = (s.size : Int) - 1 := IntWalk.i64_in _ (by omega)
      have b2 : decide ((0 : Int) < (s.size : Int)) = true := decide_eq_true (by omega)
      have b3 : (0 : Int) ≤ (s.size : Int) - 1 := by omega
      have b5 : (1 : Int) ≤ (s.size : Int) := by omega
      have b4 : (s.size : Int) - 1 < (s.size : Int) := by omega
      go_enter Tryd.func86, Tryd.ntmps86
      go_wp2_with (go_at_call 107; go_must (with_reducible refine (HA.out _ hG).mono ?_); rintro e w1 ⟨rfl, rfl⟩)
      · rename_i h45
        have hr : nameB s = false := by simp [nameB, ez, h45]
        go_ret
        exact ⟨by rw [hr]; rfl, rfl⟩
      · rename_i h45
        have hx : ((s.size : Int) - 1).toNat = s.size - 1 := by omega
        have hr : nameB s = (((s[0]'z1).toNat : Int) != 45 && ((s[s.size - 1]'(by omega)).toNat : Int) != 45) := by
          have e1 : decide (s.size ≠ 0) = true := decide_eq_true h0
          have e2 : decide (s.size ≤ 16) = true := decide_eq_true h1
          unfold nameB
          rw [e1, e2, ha, ez, el]
          simp only [hx, Bool.true_and]
          rfl
        go_ret
        exact ⟨by rw [hr]; rfl, rfl⟩
  · have b1 : decide ((s.size : Int) ≤ 16) = false := decide_eq_false (by omega)
    have hr : nameB s = false := by simp [nameB, h1]
    rw [hr]
    clear hr
    go_enter Tryd.func86, Tryd.ntmps86
    go_wp2_with fail
    go_ret
    exact ⟨rfl, rfl⟩
end Go.Proofs.YtmgcapccgncmkaaDoor.Tx
