/- The table of ports: Take. -/
import Derived.Test.YtnceglkoolfncaaPf
import Derived.Test.YtnceglkoolfncaaRd
namespace Go.Proofs.Ytnceglkoolfncaa.Po
open Go.RowKit Go.Pv

def encI (p : Int) : List Value := [.int .i64 p]

/-- Its cells, in each world that keeps it. -/
theorem rd_cells {w : World} {v : Value} {ps : List Int} (h : Rd w 1 encI v ps) : ∃ aa c, v = .slice aa ps.length c ∧ ∀ k (hk : k < ps.length), ∃ b o, aa = some ⟨b, o, none⟩ ∧ b < w.heap.size ∧ w.cell? ⟨b, o + k, none⟩ = some (.int .i64 ps[k]) := by
  rcases h with ⟨rfl, a, cap, rfl⟩ | ⟨b, o, cap, rfl, h1, h2⟩
  · exact ⟨a, cap, rfl, fun k hk => by simp at hk⟩
  · refine ⟨_, cap, rfl, fun k hk => ⟨b, o, rfl, h1, ?_⟩⟩
    have := h2 k ps[k] (List.getElem?_eq_getElem hk) 0 _ rfl
    simpa using this

set_option maxRecDepth 10000 in
theorem take_nobody {w : World} (p : Nat) (v : Value) (o : Int) (ho : o < 1) :
    Calls Try.prog 33 #[.pointer (some ⟨p, 0, none⟩), .int .i64 o, v] w fun e w' => e = .returned (.int .i64 1) ∧ w' = w := by
  go_enter Try.func33, Try.ntmps33
  go_wp2
  go_ret
  exact ⟨rfl, rfl⟩

theorem first_bad : ∀ ps : List Int, allPorts ps ∨ ∃ j, ∃ hj : j < ps.length, ¬ (1 ≤ ps[j] ∧ ps[j] ≤ 65535) ∧ allPorts (ps.take j)
  | [] => .inl (by simp [allPorts])
  | a :: r => by
    by_cases ha : 1 ≤ a ∧ a ≤ 65535
    · rcases first_bad r with h | ⟨j, hj, h1, h2⟩
      · refine .inl fun x hx => ?_
        rcases List.mem_cons.1 hx with rfl | hx
        · exact ha
        · exact h x hx
      · refine .inr ⟨j + 1, by simpa using hj, by simpa using h1, fun x hx => ?_⟩
        rw [List.take_succ_cons] at hx
        rcases List.mem_cons.1 hx with rfl | hx
        · exact ha
        · exact h2 x hx
    · exact .inr ⟨0, by simp, ha, by simp [allPorts]⟩

set_option maxRecDepth 10000 in
set_option maxHeartbeats 1000000 in
theorem take_range {w : World} {v : Value} {ps : List Int} (h : Rd w 1 encI v ps) (hl : ps.length ≤ 100000) (p : Nat) (o : Int) (ho : 1 ≤ o) {j : Nat} (hj : j < ps.length) (h1 : ¬ (1 ≤ ps[j] ∧ ps[j] ≤ 65535)) (h2 : allPorts (ps.take j)) :
    Calls Try.prog 33 #[.pointer (some ⟨p, 0, none⟩), .int .i64 o, v] w fun e w' => e = .returned (.int .i64 1) ∧ w' = w := by
  obtain ⟨aa, ac, rfl, hcell⟩ := rd_cells h
  have HC := hid hcell
  have H1 := hid h1
  have H2 := hid h2
  have hno : ¬ (o < 1) := by omega
  clear h hcell h1 h2
  go_enter Try.func33, Try.ntmps33
  go_wp2
  go_loopw [18] (fun iv wr => ∃ i : Nat, iv = .int .i64 i ∧ i ≤ j ∧ w = wr) (fun iv _ => ps.length - (intOf iv).toNat)
  case atStart => exact ⟨0, rfl, by omega, rfl⟩
  case round =>
    obtain ⟨i, rfl, hij, hww⟩ := hrel
    subst hww
    have hil : i < ps.length := by omega
    obtain ⟨b, of, haa, -, hc⟩ := HC.out i hil
    subst haa
    obtain ⟨q, hq⟩ : ∃ q, q = ps[i] := ⟨_, rfl⟩
    rw [← hq] at hc
    have HQ := hid hq
    clear hq
    by_cases hie : i = j
    · have hbad : q < 1 ∨ 65535 < q := by have h1 := H1.out; subst hie; rw [← HQ.out] at h1; omega
      have HB := hid hbad
      clear hbad hie
      by_cases hq1 : q < 1
      · go_wp2
        go_ret
        exact ⟨rfl, rfl⟩
      · have hq2 : 65535 < q := by have := HB.out; omega
        go_wp2
        go_ret
        exact ⟨rfl, rfl⟩
    · have hgood : 1 ≤ q ∧ q ≤ 65535 := by
        have hi2 : i < j := by omega
        rw [HQ.out]
        exact H2.out _ (by rw [List.mem_iff_getElem?]; exact ⟨i, by rw [List.getElem?_take_of_lt hi2, List.getElem?_eq_getElem hil]⟩)
      have hq1 : ¬ (q < 1) := by omega
      have hq2 : ¬ (65535 < q) := by omega
      clear hgood
      go_wp2
      go_roundw
      case rel => exact ⟨i + 1, by go_num, by omega, trivial⟩
      case measure => simp [intOf]; omega
end Go.Proofs.Ytnceglkoolfncaa.Po
