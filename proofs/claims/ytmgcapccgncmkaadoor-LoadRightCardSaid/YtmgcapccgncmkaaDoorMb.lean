/- Scripts: the verb of a word; what a verb's last part says (45.1). -/
import Derived.Test.YtmgcapccgncmkaaDoorLm
import Derived.Deep.MidRow
set_option linter.unusedSimpArgs false
set_option linter.unusedVariables false
namespace Go.Proofs.YtmgcapccgncmkaaDoor.Ld
open Go.RowKit Go.Pv Go.Proofs.YtmgcapccgncmkaaDoor.PLoadScripts Go.Proofs.YtmgcapccgncmkaaDoorW.PrintWords Go.Proofs.YtmgcapccgncmkaaDoorW.PrintLast Go.Proofs.YtmgcapccgncmkaaDoorW.PrintMore

/-- The table of verbs, as one value. -/
def vflat : List Value := vtab.flatMap fun e => [.string e.1, .int .i64 e.2.1, .int .i64 e.2.2]
theorem flat3_get {α β : Type} (f g h : α → β) : ∀ (l : List α) (j : Nat) (v : β), (l.flatMap fun e => [f e, g e, h e])[j]? = some v → ∃ i e, l[i]? = some e ∧ ((j = i * 3 ∧ v = f e) ∨ (j = i * 3 + 1 ∧ v = g e) ∨ (j = i * 3 + 2 ∧ v = h e))
  | [], j, v, hv => by simp at hv
  | e :: l, 0, v, hv => ⟨0, e, rfl, .inl ⟨rfl, by simpa using hv.symm⟩⟩
  | e :: l, 1, v, hv => ⟨0, e, rfl, .inr (.inl ⟨rfl, by simpa using hv.symm⟩)⟩
  | e :: l, 2, v, hv => ⟨0, e, rfl, .inr (.inr ⟨rfl, by simpa using hv.symm⟩)⟩
  | e :: l, j + 3, v, hv => by
    have h2 : (l.flatMap fun e => [f e, g e, h e])[j]? = some v := by
      rw [List.flatMap_cons] at hv
      simpa using hv
    obtain ⟨i, e2, h3, h4⟩ := flat3_get f g h l j v h2
    refine ⟨i + 1, e2, by simpa using h3, ?_⟩
    rcases h4 with ⟨rfl, h4⟩ | ⟨rfl, h4⟩ | ⟨rfl, h4⟩
    · exact .inl ⟨by omega, h4⟩
    · exact .inr (.inl ⟨by omega, h4⟩)
    · exact .inr (.inr ⟨by omega, h4⟩)
theorem range_verbs (W : World) (hG : Gl W) : W.rangeAt 0 0 vflat := by
  intro j v hv
  obtain ⟨i, e, he, h⟩ := flat3_get _ _ _ vtab j v hv
  have h2 := hG.verbs i e he
  rw [Nat.zero_add]
  rcases h with ⟨rfl, rfl⟩ | ⟨rfl, rfl⟩ | ⟨rfl, rfl⟩
  · exact h2.1
  · exact h2.2.1
  · exact h2.2.2
theorem index_verbs (j : Nat) (hj : j < 24) (W : World) : (Instr.index 114 (.agg vflat.toArray) (.int .i64 (j : Int))).run Tryd.prog W = .ok (.agg #[.string (vb (j : Int)).1, .int .i64 (vb (j : Int)).2.1, .int .i64 (vb (j : Int)).2.2]) W :=
  match j, hj with
  | 0, _ => by kernel_rfl
  | 1, _ => by kernel_rfl
  | 2, _ => by kernel_rfl
  | 3, _ => by kernel_rfl
  | 4, _ => by kernel_rfl
  | 5, _ => by kernel_rfl
  | 6, _ => by kernel_rfl
  | 7, _ => by kernel_rfl
  | 8, _ => by kernel_rfl
  | 9, _ => by kernel_rfl
  | 10, _ => by kernel_rfl
  | 11, _ => by kernel_rfl
  | 12, _ => by kernel_rfl
  | 13, _ => by kernel_rfl
  | 14, _ => by kernel_rfl
  | 15, _ => by kernel_rfl
  | 16, _ => by kernel_rfl
  | 17, _ => by kernel_rfl
  | 18, _ => by kernel_rfl
  | 19, _ => by kernel_rfl
  | 20, _ => by kernel_rfl
  | 21, _ => by kernel_rfl
  | 22, _ => by kernel_rfl
  | 23, _ => by kernel_rfl
  | k + 24, h => by omega
theorem beq_bytes (a b : ByteArray) : (a.toList == b.toList) = (a.data.toList == b.data.toList) := by
  rw [ByteArray.toList_eq, ByteArray.toList_eq]
theorem words_ne : ∀ j : Fin 24, ∀ u : Fin 24, j ≠ u → ((vb ((j.val : Nat) : Int)).1.data.toList == (vb ((u.val : Nat) : Int)).1.data.toList) = false := by decide +kernel
set_option maxRecDepth 10000 in
set_option maxHeartbeats 1000000 in
theorem find_any (u : Nat) (h1 : 1 ≤ u) (h2 : u < 24) (w : World) (hG : Gl w) : Calls Tryd.prog 80 #[.string (vb (u : Int)).1] w fun e w' => e = .returned (.int .i64 (u : Int)) ∧ Below w.heap.size w w' := by
  have hld := range_verbs w hG
  have HIX := hid index_verbs
  have hsz : (Tryd.prog.info? 114).map (·.size) = some vflat.length := by kernel_rfl
  obtain ⟨cs, hcs⟩ : ∃ cs, cs = vflat := ⟨_, rfl⟩
  rw [← hcs] at hld HIX hsz
  have HLD := hid hld
  have HSZ := hid hsz
  clear hld hsz hcs
  have HB := hid (Below.refl w.heap.size w)
  go_enter Tryd.func80, Tryd.ntmps80
  go_wp2_with (with_reducible refine wpList_load_mid rfl 114 (.global 0) rfl 0 0 rfl cs _ HLD.out Tryd.underlying114 rfl HSZ.out ?_)
  clear HLD HSZ
  go_loopg [6] (u + 1) (fun q s6 wr => ∃ j : Nat, s6 = .int .i64 (j : Int) ∧ q = u + 1 - j ∧ j ≤ u ∧ Hid (Below w.heap.size w wr))
  case atStart => exact ⟨0, rfl, by omega, by omega, HB⟩
  case round =>
    clear HB
    obtain ⟨j, rfl, rfl, hj, HB⟩ := hrel
    have b1 : decide ((j : Int) < 24) = true := decide_eq_true (by omega)
    have b2 : (j : Int) < 24 := by omega
    have hix := HIX.out j (by omega)
    have HB2 := hid (HB.out.alloc HB.out.size (.cells #[.string (vb (j : Int)).1, .int .i64 (vb (j : Int)).2.1, .int .i64 (vb (j : Int)).2.2] 113))
    by_cases hju : j = u
    · subst hju
      have b3 : decide ((j : Int) > 0) = true := decide_eq_true (by omega)
      have b4 : 0 < j := by omega
      have b5 : ((vb (j : Int)).1.toList == (vb (j : Int)).1.toList) = true := beq_self_eq_true _
      go_wp2_with fail
      go_ret
      exact ⟨rfl, HB2.out⟩
    · have b5 : ((vb (j : Int)).1.toList == (vb (u : Int)).1.toList) = false := by
        rw [beq_bytes]
        exact words_ne ⟨j, by omega⟩ ⟨u, h2⟩ (fun e => hju (Fin.mk.inj_iff.1 e))
      by_cases h0 : j = 0
      · have b3 : decide ((j : Int) > 0) = false := decide_eq_false (by omega)
        have b4 : ¬ (0 < j) := by omega
        have h9 : j < u + 1 := by omega
        clear h0
        go_wp2_with fail
        go_roundg (u + 1 - (j + 1))
        case measure => omega
        case rel => exact ⟨j + 1, by simp, rfl, by omega, HB2⟩
      · have b3 : decide ((j : Int) > 0) = true := decide_eq_true (by omega)
        have b4 : 0 < j := by omega
        go_wp2_with fail
        go_roundg (u + 1 - (j + 1))
        case measure => omega
        case rel => exact ⟨j + 1, by simp, rfl, by omega, HB2⟩
set_option maxRecDepth 10000 in
/-- What a last part says: of a verb without data there is none. -/
theorem data0_any (w : World) (A : Option Addr) (c : Nat) : Calls Tryd.prog 82 #[.int .i64 0, .slice A 0 c] w fun e w' => e = .returned (.tuple #[.string ⟨#[]⟩, .bool true]) ∧ w' = w := by
  go_enter Tryd.func82, Tryd.ntmps82
  go_wp2_with fail
  exact bodyPost_ret (v := .tuple #[.string ⟨#[]⟩, .bool true]) (by simp [results, Tryd.results82, go_sem]) rfl ⟨rfl, rfl⟩
set_option maxRecDepth 10000 in
theorem data2_any (w : World) (b o c : Nat) (d : ByteArray) (h : w.cell? ⟨b, o, none⟩ = some (.string d)) : Calls Tryd.prog 82 #[.int .i64 2, .slice (some ⟨b, o, none⟩) 1 c] w fun e w' => e = .returned (.tuple #[.string d, .bool true]) ∧ w' = w := by
  go_enter Tryd.func82, Tryd.ntmps82
  go_wp2_with fail
  exact bodyPost_ret (v := .tuple #[.string d, .bool true]) (by simp [results, Tryd.results82, go_sem]) rfl ⟨rfl, rfl⟩
end Go.Proofs.YtmgcapccgncmkaaDoor.Ld
