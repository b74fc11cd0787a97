/- TrashFinds: the law returns true whatever it is given, and its arguments read as they did; the tables of the program's text that it looks into are tied to that text (a tied card). -/
import Derived.Test.YtmgcapccgncmkaaDoorTie
import Derived.Test.YtmgcapccgncmkaaDoorCards
import Derived.Test.YtmgcapccgncmkaaDoorFd
import Derived.Test.YtmgcapccgncmkaaDoorIy
import Derived.WalkKit
import Derived.ProofKit
import Derived.OpenShut
import Derived.ShutString
import Derived.ChangeOld
import Derived.Below
import Derived.SizedLaws
import Derived.SevenTiedAt
set_option linter.unusedSimpArgs false
set_option linter.unusedVariables false
namespace Go.Proofs.YtmgcapccgncmkaaDoor.TrashFindsRow
open Go.ChangeShapes Go.WideShapes Go.ChangeAt Go.RowKit Go.Pv Go.Proofs.YtmgcapccgncmkaaDoorW.PrintWords
open Go.ChangeMaps (open_string shut_string)

theorem own : ownKnob Tryd.prog.godebug = none := by kernel_rfl
theorem laidOut : laidOutB Tryd.prog = true := by kernel_rfl

set_option maxRecDepth 100000 in
theorem lifted (os : Os) (started : os.Started) (H : Type) (enc : TypeId × Value → H) :
    ReturnsInHanded {} Tryd.checked os 7 .any (fun w args => (Rows.trashFindsSpec.pre enc Tryd.prog Tryd.f7 [] false w args ∧ laidMetH Tryd.prog [("provost/text.marks", Rows.laid_provost_text_marks)] w) ∧ sizedMet enc Tryd.prog Tryd.f7 (OpenSpec.ofChange Rows.trashFindsSpec) false w args) (Rows.trashFindsSpec.post enc Tryd.prog Tryd.f7 false true false false) := by
  refine handed_and_shaped (C := Tryd.checked) (X := fun w _ => laidMetH Tryd.prog [("provost/text.marks", Rows.laid_provost_text_marks)] w) (fun _ _ _ hh h => h.of_heap hh) own started (by kernel_rfl) Tryd.func7
    (ChangeSpec.witness_shaped (enc := enc) (C := Tryd.checked) (os := os) (X := fun w _ => laidMetH Tryd.prog [("provost/text.marks", Rows.laid_provost_text_marks)] w) false (World.laidAll Tryd.prog os Im.laid1) #[.slice none 0 0, .slice none 0 0, .agg #[.int .i64 0, .int .i64 0]] 8 (World.laidAll_os _ _ _) (World.shaped_of_ZipB (by kernel_rfl) (by kernel_rfl)) (by kernel_rfl) (by kernel_rfl) (by kernel_rfl) (Im.all_met1 os _)) ?_
  intro W base args ds gs before hval0 hW hL hSh
  have hval : ∀ (j : Nat) t v, Tryd.f7.params[j]? = some t → args[j]? = some v → Value.okWide Tryd.prog W .any base t v := hval0
  have hW' := hW
  obtain ⟨p, q, hA0, hV, rfl, hfz, hnd⟩ := hW
  have hA : DataW.TrodAll enc Tryd.prog W 0 (fun _ => true) true Tryd.f7.params.toList args.toList ds p := hA0
  rw [Tryd.params7] at hA hval
  have hG := Im.marks_of1 hL
  have hG2 := Im.gm_of hG (Im.len_cell hSh)
  obtain ⟨v0, vs0, d0, ds0, p0, q0, hargs, rfl, rfl, h0, r0⟩ := trodAll_cons hA
  obtain ⟨v1, vs1, d1, ds1, p1, q1, rfl, rfl, rfl, h1, r1⟩ := trodAll_cons r0
  obtain ⟨v2, vs2, d2, ds2, p2, q2, rfl, rfl, rfl, h2, r2⟩ := trodAll_cons r1
  obtain ⟨rfl, rfl, rfl⟩ := trodAll_nil r2
  obtain rfl : args = #[v0, v1, v2] := by cases args; simp_all
  obtain ⟨rfl, rfl⟩ := trodVars_none hV
  have k0 := h0
  have lt0 : ∀ x ∈ p0, x.block < W.heap.size := by obtain ⟨m, hm⟩ := k0; exact DataW.trod_lt m _ _ _ hm
  obtain ⟨a0, len0, cap0, rfl⟩ := okWide_slice Tryd.underlying72 (hval 0 72 v0 rfl rfl)
  obtain ⟨l0, hz0, hq0⟩ : ∃ l : List (PTrashFinds.S83), Rz PTrashFinds.k83 W (.slice a0 len0 cap0) l ∧ (fun _ => True) l := by
    obtain ⟨fuel, hf⟩ := h0
    obtain ⟨l, ⟨A, c, e, hl, hc⟩, hq⟩ := Tr.opnBoxes _ enc W _ _ _ _ _ _ hf
    exact ⟨l, ⟨A, c, by simpa [Value.cells] using e, hl, hc⟩, hq⟩
  have k1 := h1
  have lt1 : ∀ x ∈ p1, x.block < W.heap.size := by obtain ⟨m, hm⟩ := k1; exact DataW.trod_lt m _ _ _ hm
  obtain ⟨a1, len1, cap1, rfl⟩ := okWide_slice Tryd.underlying73 (hval 1 73 v1 rfl rfl)
  obtain ⟨l1, hz1, hq1⟩ : ∃ l : List (Int × ByteArray), Rz Im.kA W (.slice a1 len1 cap1) l ∧ (fun _ => True) l := by
    obtain ⟨fuel, hf⟩ := h1
    obtain ⟨l, ⟨A, c, e, hl, hc⟩, hq⟩ := Tr.opnActs2 _ enc W _ _ _ _ _ _ hf
    exact ⟨l, ⟨A, c, by simpa [Value.cells] using e, hl, hc⟩, hq⟩
  have k2 := h2
  have lt2 : ∀ x ∈ p2, x.block < W.heap.size := by obtain ⟨m, hm⟩ := k2; exact DataW.trod_lt m _ _ _ hm
  obtain ⟨a20, a21, rfl⟩ : ∃ b c, v2 = .agg #[.int .i64 b, .int .i64 c] := by
    obtain ⟨m, hm⟩ := h2
    exact Tr.open_two (hval 2 74 v2 rfl rfl) hm
  clear hA0 hval0
  refine (Tr.findsLaw' hz0 hz1 hG2).mono fun e W' ⟨he, bel⟩ => ?_
  subst he
  exact ⟨_, rfl, _, _, _, [], _, [], hW', trodAll_mk1 (shut_bool Tryd.underlying4 _), (trodAll_cons_mk (Below.trod laidOut (by kernel_rfl) (of_decide_eq_true (by kernel_rfl)) k0 bel lt0) (trodAll_cons_mk (Below.trod laidOut (by kernel_rfl) (of_decide_eq_true (by kernel_rfl)) k1 bel lt1) (trodAll_cons_mk (Below.trod laidOut (by kernel_rfl) (of_decide_eq_true (by kernel_rfl)) k2 bel lt2) trodAll_mk0))), rfl, bel.frame _, fun h => by cases h⟩

theorem over : Rows.TrashFindsSaid :=
  OpenClaim.holds_of_wide 7 Tryd.f7 rfl rfl rfl rfl rfl rfl rfl ⟨rfl, rfl, rfl, rfl, rfl⟩ rfl rfl rfl rfl rfl (by kernel_rfl) Tryd.func7 (by kernel_rfl)
    (of_decide_eq_true (by kernel_rfl)) (by unfold Func.isWrapper; first | (rw [if_pos (by decide +kernel)]; kernel_rfl) | (rw [if_neg (by decide +kernel)]; exact ⟨rfl, rfl⟩))
    (fun os started H enc _ => lifted os started H enc)
theorem card : Rows.TrashFindsCardSaid :=
  Claim7.holds_tied_plain_at .later [] [.data] true (true, "dab19d4f924c41c20e92ed8b867b90eccafe7c8f2852a26f510741a3bbeffadb") false
    over (fun _ h => by cases h) (by kernel_rfl) (fun _ h => by cases h) trashFinds_row_tie rfl ⟨rfl, rfl⟩ (by kernel_rfl) rfl
    (fun f fn hf hfn => by
      obtain rfl : f = 7 := Option.some.inj ((show Tryd.prog.funcNamed "provost/provostlaw33.TrashFinds" = some 7 by kernel_rfl).symm.trans hf) |>.symm
      obtain rfl : fn = Tryd.f7 := (Option.some.inj (Tryd.func7.symm.trans hfn)).symm
      exact ⟨by kernel_rfl, fun j t ht => by
        rw [Tryd.params7] at ht
        have hm : t ∈ [72, 73, 74] := by simpa using Array.mem_of_getElem? ht
        have hall : ([72, 73, 74].all fun u => !Tryd.prog.wantsStandIn u) = true := by kernel_rfl
        exact (show Tryd.prog.wantsStandIn t = false by simpa using List.all_eq_true.1 hall t hm)⟩)
    (by kernel_rfl)
end Go.Proofs.YtmgcapccgncmkaaDoor.TrashFindsRow
namespace Go.Proofs.YtmgcapccgncmkaaDoor
/-- The card, under a short name, for the claim. -/
theorem trashFinds_holds : Rows.TrashFindsCardSaid := TrashFindsRow.card
#print axioms trashFinds_holds
end Go.Proofs.YtmgcapccgncmkaaDoor
