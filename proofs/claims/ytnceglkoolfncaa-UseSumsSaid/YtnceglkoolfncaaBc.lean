/- Probes: Next; Gone. -/
import Derived.Test.YtnceglkoolfncaaBb
import Derived.Test.YtnceglkoolfncaaRi
import Derived.Maps.RangeWalk
import Derived.Deep.LoopGhost
set_option linter.unusedSimpArgs false
set_option linter.unusedVariables false
namespace Go.Proofs.Ytnceglkoolfncaa.Pr
open Go.RowKit Go.Pv Go.Proofs.Ytnceglkoolfncaa.Po

/-- The next time, of those that were looked at. -/
def nextF (now : Int) (l : AL) : Int := l.foldl (fun acc r => if now < r.2.2.2.1 ∧ (acc = 0 ∨ r.2.2.2.1 < acc) then r.2.2.2.1 else acc) 0
theorem nextF_snoc (now : Int) (l : AL) (r : (Int × Int) × PS) : nextF now (l ++ [r]) = if now < r.2.2.2.1 ∧ (nextF now l = 0 ∨ r.2.2.2.1 < nextF now l) then r.2.2.2.1 else nextF now l := by
  unfold nextF
  rw [List.foldl_append]
  rfl
theorem nextF_perm {now : Int} (hn : 0 ≤ now) {l m : AL} (h : l.Perm m) : nextF now l = nextF now m := by
  unfold nextF
  refine h.foldl_eq' (fun x _ y _ z => ?_) 0
  by_cases h1 : now < x.2.2.2.1 <;> by_cases h2 : now < y.2.2.2.1 <;> simp only [h1, h2, true_and, false_and, if_false]
  by_cases hz : z = 0
  · subst hz
    simp only [true_or, if_true]
    have hx : x.2.2.2.1 ≠ 0 := by omega
    have hy : y.2.2.2.1 ≠ 0 := by omega
    simp only [hx, hy, false_or]
    split <;> split <;> omega
  · simp only [hz, false_or]
    have hx : x.2.2.2.1 ≠ 0 := by omega
    have hy : y.2.2.2.1 ≠ 0 := by omega
    by_cases a1 : x.2.2.2.1 < z <;> by_cases a2 : y.2.2.2.1 < z <;> simp only [a1, a2, if_true, if_false, hx, hy, hz, false_or] <;> (repeat' split) <;> omega

theorem next_cases (now n nx : Int) : (decide (now < n) = true ∧ (nx == 0) = true ∧ Hid (now < n ∧ (nx = 0 ∨ n < nx))) ∨ (decide (now < n) = true ∧ (nx == 0) = false ∧ decide (n < nx) = true ∧ Hid (now < n ∧ (nx = 0 ∨ n < nx))) ∨
    (decide (now < n) = true ∧ (nx == 0) = false ∧ decide (n < nx) = false ∧ Hid (¬ (now < n ∧ (nx = 0 ∨ n < nx)))) ∨ (decide (now < n) = false ∧ Hid (¬ (now < n ∧ (nx = 0 ∨ n < nx)))) := by
  by_cases h1 : now < n
  · by_cases h2 : nx = 0
    · exact .inl ⟨by simpa using h1, by simpa using h2, hid ⟨h1, .inl h2⟩⟩
    · by_cases h3 : n < nx
      · exact .inr (.inl ⟨by simpa using h1, by simpa using h2, by simpa using h3, hid ⟨h1, .inr h3⟩⟩)
      · exact .inr (.inr (.inl ⟨by simpa using h1, by simpa using h2, by simpa using h3, hid fun h => h.2.elim h2 h3⟩))
  · exact .inr (.inr (.inr ⟨by simpa using h1, hid fun h => h1 h.1⟩))
theorem below_round {w wr w2 : World} (hb : Below w.heap.size w wr) (hk : Keeps (fun k => k = w.heap.size) wr w2) (o : Obj) : Below w.heap.size w (w2.alloc o) :=
  (hb.trans (hk.below hb.size (fun i h => by omega))).alloc (Nat.le_trans hb.size hk.size) o
theorem perm_round {vis l1 l2 al : AL} {x : (Int × Int) × PS} (h : (vis ++ (l1 ++ x :: l2)).Perm al) : ((vis ++ [x]) ++ (l1 ++ l2)).Perm al := by
  refine List.Perm.trans ?_ h
  rw [List.append_assoc]
  refine List.Perm.append_left vis ?_
  simpa using (List.perm_middle (a := x) (l₁ := l1) (l₂ := l2)).symm
abbrev fP (r : (Int × Int) × PS) : Value := psv r.2

set_option maxRecDepth 10000 in
set_option maxHeartbeats 4000000 in
theorem next_any {w : World} {p mb : Nat} {al : AL} (h : PBk w p mb al) (now : Int) :
    Calls Try.prog 73 #[.pointer (some ⟨p, 0, none⟩), .int .i64 now] w fun e w' => (∃ vis : AL, vis.Perm al ∧ e = .returned (.int .i64 (nextF now vis))) ∧ Below w.heap.size w w' := by
  have c0 := h.c0
  obtain ⟨ob, hr, hI⟩ := h.map.range (P := Try.prog) Try.underlying203
  have H0 := hid (And.intro hI ((Below.refl _ w).alloc (Nat.le_refl _) ob))
  have HR := hid hr
  clear h hr hI
  go_enter Try.func73, Try.ntmps73
  go_wp2_with (at_range; refine wl_range rfl _ _ rfl ⟨_, _, HR.out, ?_⟩)
  go_frame
  go_loopg [5] al.length (fun g s5 wr => ∃ (vis left : AL) (nx : Int), g = left.length ∧ s5 = .int .i64 nx ∧ Hid (Iter wr w.heap.size mb kp (al.map fun r => (r.1, psv r.2)) (left.map fun r => (r.1, fP r)) ∧ Below w.heap.size w wr) ∧ Hid ((vis ++ left).Perm al ∧ nx = nextF now vis))
  case atStart => exact ⟨[], al, 0, rfl, rfl, H0, hid ⟨by simp, rfl⟩⟩
  case round =>
    clear H0
    obtain ⟨vis, left, nx, rfl, rfl, HI, HV⟩ := hrel
    go_wp2_with (at_next
                 refine wl_next (κ := Int × Int) (τ := PS) (ke := kp) (r := w.heap.size) (mb := mb) rfl _ rfl (al := al.map fun r => (r.1, psv r.2)) (left := left) fP HI.out.1 (by rfl) ?_ ?_
                 case' refine_1 => (intro hl; have HL := hid hl; clear hl)
                 case' refine_2 => (rintro l1 ⟨⟨b, c⟩, ⟨e, f, n, d⟩⟩ l2 w2 hl hI hk hs hen
                                    simp only [kp, fP, psv] at hen ⊢
                                    have HL := hid hl
                                    have H2 := hid (And.intro hI (And.intro hk hs))
                                    clear hl hI hk hs
                                    obtain ⟨d1, d2, HC⟩ | ⟨d1, d2, d3, HC⟩ | ⟨d1, d2, d3, HC⟩ | ⟨d1, HC⟩ := next_cases now n nx))
    · have HJ := HI
      go_roundg (l1 ++ l2).length
      case measure => rw [HL.out]; simp
      case rel => exact ⟨vis ++ [((b, c), (e, f, n, d))], l1 ++ l2, n, rfl, rfl, hid ⟨(H2.out.1.kept ((Keeps.refl (fun _ => False) w2).alloc _) (by simp) (by simp)), below_round HJ.out.2 H2.out.2.1 _⟩, hid ⟨perm_round (by rw [← HL.out]; exact HV.out.1), by rw [nextF_snoc, ← HV.out.2]; exact (if_pos HC.out).symm⟩⟩
    · have HJ := HI
      go_roundg (l1 ++ l2).length
      case measure => rw [HL.out]; simp
      case rel => exact ⟨vis ++ [((b, c), (e, f, n, d))], l1 ++ l2, n, rfl, rfl, hid ⟨(H2.out.1.kept ((Keeps.refl (fun _ => False) w2).alloc _) (by simp) (by simp)), below_round HJ.out.2 H2.out.2.1 _⟩, hid ⟨perm_round (by rw [← HL.out]; exact HV.out.1), by rw [nextF_snoc, ← HV.out.2]; exact (if_pos HC.out).symm⟩⟩
    · have HJ := HI
      go_roundg (l1 ++ l2).length
      case measure => rw [HL.out]; simp
      case rel => exact ⟨vis ++ [((b, c), (e, f, n, d))], l1 ++ l2, nx, rfl, rfl, hid ⟨(H2.out.1.kept ((Keeps.refl (fun _ => False) w2).alloc _) (by simp) (by simp)), below_round HJ.out.2 H2.out.2.1 _⟩, hid ⟨perm_round (by rw [← HL.out]; exact HV.out.1), by rw [nextF_snoc, ← HV.out.2]; exact (if_neg HC.out).symm⟩⟩
    · have HJ := HI
      go_roundg (l1 ++ l2).length
      case measure => rw [HL.out]; simp
      case rel => exact ⟨vis ++ [((b, c), (e, f, n, d))], l1 ++ l2, nx, rfl, rfl, hid ⟨(H2.out.1.kept ((Keeps.refl (fun _ => False) w2).alloc _) (by simp) (by simp)), below_round HJ.out.2 H2.out.2.1 _⟩, hid ⟨perm_round (by rw [← HL.out]; exact HV.out.1), by rw [nextF_snoc, ← HV.out.2]; exact (if_neg HC.out).symm⟩⟩
    · rw [HL.out] at HV
      go_ret
      exact ⟨⟨vis, by simpa using HV.out.1, congrArg (fun x => Ending.returned (.int .i64 x)) HV.out.2⟩, HI.out.2⟩
end Go.Proofs.Ytnceglkoolfncaa.Pr
