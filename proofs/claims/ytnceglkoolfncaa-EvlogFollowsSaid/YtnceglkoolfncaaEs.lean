/- sort.Search, and the place of the first event above a revision. -/
import Derived.Test.YtnceglkoolfncaaEc
namespace Go.Proofs.Ytnceglkoolfncaa.Ev
open Go.RowKit Go.Pv

set_option maxRecDepth 10000 in
set_option maxHeartbeats 1000000 in
theorem search_any (w : World) (n : Nat) (hn : n ≤ 1000) (c0 c1 : Value) (pred : Nat → Bool)
    (hc : ∀ W i, Keeps (fun _ => False) w W → i < n → Calls Try.prog 141 #[.int .i64 (i : Nat), c0, c1] W fun e w' => e = .returned (.bool (pred i)) ∧ Keeps (fun _ => False) W w')
    (mono : ∀ a b, a ≤ b → b < n → pred a = true → pred b = true) :
    Calls Try.prog 140 #[.int .i64 n, .func (.func 141) #[] #[c0, c1]] w fun e w' =>
      (∃ k : Nat, e = .returned (.int .i64 k) ∧ k ≤ n ∧ (∀ i, i < k → pred i = false) ∧ (∀ i, k ≤ i → i < n → pred i = true)) ∧ Keeps (fun _ => False) w w' := by
  have HC := hid hc
  have HM := hid mono
  have H0 : Hid ((∀ i, i < 0 → pred i = false) ∧ (∀ i, n ≤ i → i < n → pred i = true)) := hid ⟨by omega, by omega⟩
  have HK := hid (Keeps.refl (fun _ => False) w)
  clear hc mono
  go_enter Try.func140, Try.ntmps140
  go_wp2
  go_loopw [5, 6] (fun s5 s6 wr => ∃ lo hi : Nat, s5 = .int .i64 lo ∧ s6 = .int .i64 hi ∧ lo ≤ hi ∧ hi ≤ n ∧ Hid (Keeps (fun _ => False) w wr) ∧ Hid ((∀ i, i < lo → pred i = false) ∧ (∀ i, hi ≤ i → i < n → pred i = true))) (fun s5 s6 _ => (intOf s6).toNat - (intOf s5).toNat)
  case atStart => exact ⟨0, n, rfl, rfl, by omega, by omega, HK, H0⟩
  case round =>
    clear H0 HK
    obtain ⟨lo, hi, rfl, rfl, hlh, hin, HK, HI⟩ := hrel
    by_cases hlt : lo < hi
    · have hcall := hid (HC.out wr ((lo + hi) / 2) HK.out (by omega))
      have e1 : IntKind.i64.wrap ((lo : Int) + (hi : Int)) = (lo : Int) + (hi : Int) := IntWalk.i64_in _ (by omega)
      have e3 : ((lo : Int) + (hi : Int)) / 2 = (((lo + hi) / 2 : Nat) : Int) := by omega
      obtain ⟨m, hm⟩ : ∃ m, m = (lo + hi) / 2 := ⟨_, rfl⟩
      rw [← hm] at hcall e3
      have HMM := hid hm
      clear hm
      have hmm : lo ≤ m ∧ m < hi := by have := HMM.out; omega
      cases hp : pred m with
      | false =>
        rw [hp] at hcall
        go_wp2_with (go_at_call 141; go_must (refine hcall.out.mono ?_; rintro e w' ⟨rfl, hk⟩; have HK2 := hid hk; clear hk))
        go_roundw
        case rel =>
          refine ⟨m + 1, hi, by go_num, rfl, by omega, hin, hid (HK.out.trans HK2.out (fun i h => .inl h)), hid ⟨fun i h => ?_, HI.out.2⟩⟩
          cases hq : pred i with
          | false => rfl
          | true => rw [HM.out i m (by omega) (by omega) hq] at hp; cases hp
        case measure => simp [intOf]; omega
      | true =>
        rw [hp] at hcall
        go_wp2_with (go_at_call 141; go_must (refine hcall.out.mono ?_; rintro e w' ⟨rfl, hk⟩; have HK2 := hid hk; clear hk))
        go_roundw
        case rel =>
          exact ⟨lo, m, rfl, by go_num, by omega, by omega, hid (HK.out.trans HK2.out (fun i h => .inl h)), hid ⟨HI.out.1, fun i h1 h2 => HM.out m i h1 h2 hp⟩⟩
        case measure => simp [intOf]; omega
    · have heq : lo = hi := by omega
      subst heq
      clear hlt
      go_wp2
      go_ret
      exact ⟨⟨lo, rfl, hin, HI.out⟩, HK.out⟩
end Go.Proofs.Ytnceglkoolfncaa.Ev
