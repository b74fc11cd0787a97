/- The table of ports: what finds a port. -/
import Derived.Test.YtnceglkoolfncaaWd
import Derived.Test.YtnceglkoolfncaaProg
import Derived.WalkSpells
import Derived.Outline
import Derived.KernelRfl
import Derived.Deep.RegionHeld3
import Derived.Deep.DeepMust
import Derived.Deep.AppendLies
import Derived.Lib.MinMax
import Derived.Maps.OwnSet
import Derived.IntWalk
import Derived.Handy
namespace Go.Proofs.Ytnceglkoolfncaa.Po
open Go.RowKit Go.Pv

theorem hid {p : Prop} (h : p) : Hid p := h
theorem heap_at (w : World) (o : Obj) (n : Nat) (h : n = w.heap.size) : (w.alloc o).heap[n]? = some o := by subst h; exact heap_alloc_new w o
theorem row_set {w : World} {g i : Nat} {cs : Array Value} {t : TypeId} (hg : w.heap[g]? = some (.cells cs t (0, 0))) (v : Value) : (w.setCell ⟨g, i, none⟩ v).heap[g]? = some (.cells (cs.setIfInBounds i v) t (0, 0)) := heap_setCell_same w g i cs t v hg

/-- A port and its owner. -/
abbrev Hd := Int × Int
def encH (h : Hd) : List Value := [.int .i64 h.1, .int .i64 h.2]

def cmpI (x y : Int) : Int := if x < y then -1 else if y < x then 1 else 0

set_option maxRecDepth 10000 in
theorem nan_any (x : Int) (w : World) : Calls Try.prog 164 #[.int .i64 x] w fun e w' => e = .returned (.bool false) ∧ w' = w := by
  go_enter Try.func164, Try.ntmps164
  go_wp2
  go_ret
  exact ⟨by simp, rfl⟩

set_option maxRecDepth 10000 in
theorem cmp_any (x y : Int) (w : World) : Calls Try.prog 144 #[.int .i64 x, .int .i64 y] w fun e w' => e = .returned (.int .i64 (cmpI x y)) ∧ w' = w := by
  have h1 := hid (fun w => nan_any x w)
  by_cases hxy : x < y
  · have e : cmpI x y = -1 := by simp [cmpI, hxy]
    rw [e]
    clear e
    go_enter Try.func144, Try.ntmps144
    go_wp2_with (go_at_call 164; refine (nan_any _ _).mono ?_; rintro e w1 ⟨rfl, rfl⟩)
    go_ret
    exact ⟨rfl, rfl⟩
  · by_cases hyx : y < x
    · have e : cmpI x y = 1 := by simp [cmpI, hxy, hyx]
      rw [e]
      clear e
      go_enter Try.func144, Try.ntmps144
      go_wp2_with (go_at_call 164; refine (nan_any _ _).mono ?_; rintro e w1 ⟨rfl, rfl⟩)
      go_ret
      exact ⟨rfl, rfl⟩
    · have e : cmpI x y = 0 := by simp [cmpI, hxy, hyx]
      rw [e]
      clear e
      go_enter Try.func144, Try.ntmps144
      go_wp2_with (go_at_call 164; refine (nan_any _ _).mono ?_; rintro e w1 ⟨rfl, rfl⟩)
      go_ret
      exact ⟨rfl, rfl⟩

set_option maxRecDepth 10000 in
theorem cmpH_any (x o y : Int) (w : World) : Calls Try.prog 143 #[.agg #[.int .i64 x, .int .i64 o], .int .i64 y] w fun e w' => e = .returned (.int .i64 (cmpI x y)) ∧ Keeps (fun _ => False) w w' := by
  go_enter Try.func143, Try.ntmps143
  go_wp2_with (go_at_call 144; refine (cmp_any _ _ _).mono ?_; rintro e w1 ⟨rfl, rfl⟩)
  go_ret
  exact ⟨rfl, (Keeps.refl _ w).alloc _⟩

theorem flat_h (l : List Hd) (m j : Nat) (h : m < l.length) (hj : j < 2) : (l.flatMap encH)[m * 2 + j]? = (encH l[m])[j]? := by
  induction l generalizing m with
  | nil => simp at h
  | cons a r ih =>
    rw [List.flatMap_cons]
    have ha : (encH a).length = 2 := rfl
    cases m with
    | zero =>
      rw [List.getElem?_append_left (by omega)]
      simp
    | succ m =>
      rw [List.getElem?_append_right (by omega), ha, show (m + 1) * 2 + j - 2 = m * 2 + j by omega]
      simpa using ih m (by simpa using h)

/-- A slice of them. -/
theorem hform {w : World} {v : Value} {l : List Hd} (h : SlOf w 181 2 encH v l) : ∃ aa c, v = .slice aa l.length c ∧ ∀ m (hm : m < l.length), ∃ ab ao, aa = some ⟨ab, ao, none⟩ ∧ ab < w.heap.size ∧ w.cell? ⟨ab, ao + m * 2, none⟩ = some (.int .i64 l[m].1) ∧ w.cell? ⟨ab, ao + m * 2 + 1, none⟩ = some (.int .i64 l[m].2) := by
  rcases SlRow.form h with ⟨h1, h2⟩ | ⟨b, o, c, h1⟩
  · exact ⟨none, 0, by rw [h1, h2], fun m hm => by omega⟩
  · refine ⟨_, c, h1, fun m hm => ⟨b, o, rfl, SlRow.lt h (by rw [h1]; rfl), ?_, ?_⟩⟩
    · exact SlRow.cells h h1 (m * 2) _ (flat_h l m 0 hm (by omega))
    · have := SlRow.cells h h1 (m * 2 + 1) _ (flat_h l m 1 hm (by omega))
      rw [← Nat.add_assoc] at this
      exact this

def Rising (l : List Hd) : Prop := l.Pairwise (fun a b => a.1 < b.1)
/-- k is where a port stands, or belongs. -/
def IsAt (p : Int) (l : List Hd) (k : Nat) : Prop := k ≤ l.length ∧ (∀ i (h : i < l.length), i < k → l[i].1 < p) ∧ (∀ i (h : i < l.length), k ≤ i → p ≤ l[i].1)
def foundAt (p : Int) (l : List Hd) (k : Nat) : Bool := match l[k]? with | some h => decide (h.1 = p) | none => false

set_option maxRecDepth 10000 in
set_option maxHeartbeats 1000000 in
theorem search_any {w : World} {v : Value} {l : List Hd} (h : SlOf w 181 2 encH v l) (hl : l.length ≤ 100000) (hr : Rising l) (p : Int) :
    Calls Try.prog 142 #[v, .int .i64 p, .func (.func 143) #[] #[]] w fun e w' => (∃ k : Nat, e = .returned (.tuple #[.int .i64 k, .bool (foundAt p l k)]) ∧ IsAt p l k) ∧ Keeps (fun _ => False) w w' := by
  obtain ⟨aa, ac, rfl, hcell⟩ := hform h
  have HC := hid hcell
  have HR := hid hr
  have H0 : Hid ((∀ i (h : i < l.length), i < 0 → l[i].1 < p) ∧ (∀ i (h : i < l.length), l.length ≤ i → p ≤ l[i].1)) := hid ⟨fun i h h' => by omega, fun i h h' => by omega⟩
  have HK := hid (Keeps.refl (fun _ => False) w)
  clear h hr hcell
  go_enter Try.func142, Try.ntmps142
  go_wp2
  go_loopw [9, 10] (fun s5 s6 wr => ∃ lo hi : Nat, s5 = .int .i64 lo ∧ s6 = .int .i64 hi ∧ lo ≤ hi ∧ hi ≤ l.length ∧ Hid (Keeps (fun _ => False) w wr) ∧ Hid ((∀ i (h : i < l.length), i < lo → l[i].1 < p) ∧ (∀ i (h : i < l.length), hi ≤ i → p ≤ l[i].1))) (fun s5 s6 _ => (intOf s6).toNat - (intOf s5).toNat)
  case atStart => exact ⟨0, l.length, rfl, rfl, by omega, by omega, HK, H0⟩
  case round =>
    clear H0 HK
    obtain ⟨lo, hi, rfl, rfl, hlh, hin, HK, HI⟩ := hrel
    by_cases hlt : lo < hi
    · have e1 : IntKind.i64.wrap ((lo : Int) + (hi : Int)) = (lo : Int) + (hi : Int) := IntWalk.i64_in _ (by omega)
      have e3 : ((lo : Int) + (hi : Int)) / 2 = (((lo + hi) / 2 : Nat) : Int) := by omega
      obtain ⟨m, hm⟩ : ∃ m, m = (lo + hi) / 2 := ⟨_, rfl⟩
      rw [← hm] at e3
      have HMM := hid hm
      clear hm
      have hmm : lo ≤ m ∧ m < hi := by have := HMM.out; omega
      have hml : m < l.length := by omega
      obtain ⟨ab, ao, haa, hab, hc1, hc2⟩ := HC.out m hml
      subst haa
      obtain ⟨x, hx⟩ : ∃ x, x = l[m] := ⟨_, rfl⟩
      rw [← hx] at hc1 hc2
      have HX := hid hx
      obtain ⟨x1, x2⟩ := x
      have d1 : wr.cell? ⟨ab, ao + m * 2, none⟩ = some (.int .i64 x1) := (HK.out.cell (p := ⟨ab, ao + m * 2, none⟩) hab (by simp)).trans hc1
      have d2 : wr.cell? ⟨ab, ao + m * 2 + 1, none⟩ = some (.int .i64 x2) := (HK.out.cell (p := ⟨ab, ao + m * 2 + 1, none⟩) hab (by simp)).trans hc2
      have hcl := cmpH_any x1 x2 p wr
      clear hc1 hc2 hx hab
      by_cases hxp : x1 < p
      · have ec : cmpI x1 p = -1 := by simp [cmpI, hxp]
        rw [ec] at hcl
        have HCL := hid hcl
        clear hcl ec
        go_wp2_with (go_at_call 143; go_must (refine HCL.out.mono ?_; rintro e w' ⟨rfl, hk⟩; have HK2 := hid hk; clear hk))
        go_roundw
        case rel =>
          refine ⟨m + 1, hi, by go_num, rfl, by omega, hin, hid (HK.out.trans HK2.out (fun i h => .inl h)), hid ⟨fun i h h' => ?_, HI.out.2⟩⟩
          rcases Nat.lt_or_ge i m with h1 | h1
          · have := List.pairwise_iff_getElem.1 HR.out i m h hml h1
            rw [← HX.out] at this
            simp at this; omega
          · have : i = m := by omega
            subst this
            rw [← HX.out]; exact hxp
        case measure => simp [intOf]; omega
      · have ec : ¬ (cmpI x1 p < 0) := by unfold cmpI; rw [if_neg hxp]; split <;> omega
        obtain ⟨c, hc⟩ : ∃ c, c = cmpI x1 p := ⟨_, rfl⟩
        rw [← hc] at hcl ec
        have HCL := hid hcl
        clear hcl hc
        go_wp2_with (go_at_call 143; go_must (refine HCL.out.mono ?_; rintro e w' ⟨rfl, hk⟩; have HK2 := hid hk; clear hk))
        go_roundw
        case rel =>
          refine ⟨lo, m, rfl, by go_num, by omega, by omega, hid (HK.out.trans HK2.out (fun i h => .inl h)), hid ⟨HI.out.1, fun i h h' => ?_⟩⟩
          rcases Nat.lt_or_ge m i with h1 | h1
          · have := List.pairwise_iff_getElem.1 HR.out m i hml h h1
            rw [← HX.out] at this
            simp at this; omega
          · have : i = m := by omega
            subst this
            rw [← HX.out]; simp; omega
        case measure => simp [intOf]; omega
    · have heq : lo = hi := by omega
      subst heq
      clear hlt
      have hat : IsAt p l lo := ⟨hin, HI.out.1, HI.out.2⟩
      have HAT := hid hat
      clear hat
      by_cases hml : lo < l.length
      · obtain ⟨ab, ao, haa, hab, hc1, hc2⟩ := HC.out lo hml
        subst haa
        obtain ⟨x, hx⟩ : ∃ x, x = l[lo] := ⟨_, rfl⟩
        rw [← hx] at hc1 hc2
        have hf : foundAt p l lo = decide (x.1 = p) := by unfold foundAt; rw [List.getElem?_eq_getElem hml, hx]
        obtain ⟨x1, x2⟩ := x
        have d1 : wr.cell? ⟨ab, ao + lo * 2, none⟩ = some (.int .i64 x1) := (HK.out.cell (p := ⟨ab, ao + lo * 2, none⟩) hab (by simp)).trans hc1
        have d2 : wr.cell? ⟨ab, ao + lo * 2 + 1, none⟩ = some (.int .i64 x2) := (HK.out.cell (p := ⟨ab, ao + lo * 2 + 1, none⟩) hab (by simp)).trans hc2
        have hcl := cmpH_any x1 x2 p wr
        obtain ⟨c, hc⟩ : ∃ c, c = cmpI x1 p := ⟨_, rfl⟩
        rw [← hc] at hcl
        have hcz : (c == 0) = foundAt p l lo := by
          rw [hf, hc]; unfold cmpI
          rcases Int.lt_trichotomy x1 p with h1 | h1 | h1
          · rw [if_pos h1]; simp; omega
          · subst h1; simp
          · rw [if_neg (by omega), if_pos h1]; simp; omega
        have HCZ := hid hcz
        have HCL := hid hcl
        clear hcl hc hcz hf hc1 hc2 hx hab
        go_wp2_with (go_at_call 143; go_must (refine HCL.out.mono ?_; rintro e w' ⟨rfl, hk⟩; have HK2 := hid hk; clear hk))
        refine bodyPost_ret (results_tmp2 rfl _ _ _) rfl ?_
        exact ⟨⟨lo, by rw [← HCZ.out]; rfl, HAT.out⟩, HK.out.trans HK2.out (fun i h => .inl h)⟩
      · have hn : foundAt p l lo = false := by unfold foundAt; rw [List.getElem?_eq_none (by omega)]
        have HN := hid hn
        have hnl : ¬ ((lo : Int) < (l.length : Int)) := by omega
        clear hn
        go_wp2
        refine bodyPost_ret (results_tmp2 rfl _ _ _) rfl ?_
        exact ⟨⟨lo, by rw [HN.out]; rfl, HAT.out⟩, HK.out⟩
end Go.Proofs.Ytnceglkoolfncaa.Po
