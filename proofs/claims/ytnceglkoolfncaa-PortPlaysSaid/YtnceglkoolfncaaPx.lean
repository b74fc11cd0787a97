/- PortPlays: the law returns true whatever it is given, and its arguments read as they did. -/
import Derived.Test.YtnceglkoolfncaaRows
import Derived.Test.YtnceglkoolfncaaPv
import Derived.WalkKit
import Derived.ProofKit
import Derived.OpenShut
import Derived.ShutString
import Derived.ChangeOld
import Derived.Below
import Derived.SizedLaws
namespace Go.Proofs.Ytnceglkoolfncaa.PortPlaysRow
open Go.ChangeShapes Go.WideShapes Go.ChangeAt Go.RowKit Go.Pv
open Go.ChangeMaps (open_string shut_string)

theorem own : ownKnob Try.prog.godebug = none := by kernel_rfl
theorem laidOut : laidOutB Try.prog = true := by kernel_rfl


theorem cells68 : Try.prog.cellsOf 68 = 3 := by kernel_rfl
theorem cells3' : Try.prog.cellsOf 3 = 1 := by kernel_rfl
theorem cells50 : Try.prog.cellsOf 50 = 1 := by kernel_rfl

theorem len3 {α : Type} {l : List α} (h : l.length = 3) : ∃ a b c, l = [a, b, c] := by
  match l, h with
  | [a, b, c], _ => exact ⟨a, b, c, rfl⟩

theorem one_of {H : Type} {enc : TypeId × Value → H} {w : World} {base : Nat} {spare : Nat → Bool} {held : Bool} (n : Nat) (cs : List Value) (y : DataW H × List MemPlace) (h : DataW.trod enc Try.prog w base spare held n 3 cs = some y) :
    ∃ a : Int, cs = Po.encI a ∧ True := by
  obtain ⟨a0, e0, _⟩ := DataW.trod_int Try.underlying3 h
  exact ⟨a0, e0, trivial⟩

set_option maxRecDepth 100000 in
theorem act_of {H : Type} {enc : TypeId × Value → H} {w : World} {base : Nat} {spare : Nat → Bool} {held : Bool} (n : Nat) (cs : List Value) (y : DataW H × List MemPlace) (h : DataW.trod enc Try.prog w base spare held n 68 cs = some y) :
    ∃ a : Po.PAct, cs = Po.encPA a ∧ Rd w 1 Po.encI a.v a.ps ∧ Po.CapOk a.v := by
  obtain ⟨y0, y1, y2, m, _, hl, h0, h1, h2⟩ := Deep.trod_struct3 Try.underlying68 h
  rw [cells68] at hl
  obtain ⟨c0, c1, c2, rfl⟩ := len3 hl
  rw [cells3'] at h0 h1
  rw [cells50] at h2
  obtain ⟨a0, e0, _⟩ := DataW.trod_int Try.underlying3 h0
  obtain ⟨a1, e1, _⟩ := DataW.trod_int Try.underlying3 h1
  simp at e0 e1 h2
  obtain ⟨ps, h3, -, -⟩ := rd_of_trod (τ := Int) (en := Po.encI) (Pr := fun _ => True) Try.underlying50 (by rw [cells3']; omega) h2 (fun n cs y _ hy => one_of n cs y hy)
  rw [cells3'] at h3
  have h4 : Po.CapOk c2 := by
    rcases Deep.open_slice Try.underlying50 h2 with ⟨hv, _⟩ | ⟨a, len, cap, _, _, _, _, hv, _, hl, _⟩
    · simp only [List.cons.injEq, and_true] at hv; exact ⟨none, 0, 0, hv, Nat.le_refl _⟩
    · simp only [List.cons.injEq, and_true] at hv; exact ⟨_, len, cap, hv, hl⟩
  exact ⟨⟨a0, a1, c2, ps⟩, by simp [Po.encPA, e0, e1], h3, h4⟩

set_option maxRecDepth 100000 in
theorem lifted (os : Os) (started : os.Started) (H : Type) (enc : TypeId × Value → H) :
    ReturnsInHanded {} Try.checked os 6 .any (Rows.portPlaysSpec.pre6 enc Try.prog Try.f6 Rows.portPlaysRow.domain false) (Rows.portPlaysSpec.post enc Try.prog Try.f6 false true false false) := by
  refine returnsInHanded_of_change_sized (C := Try.checked) own started (by kernel_rfl) Try.func6
    (ChangeSpec.witness6 (enc := enc) (C := Try.checked) false ⟨#[], #[.slice none 0 0, .int .i64 0, .int .i64 0], []⟩ 8 (by kernel_rfl) (by kernel_rfl) (by kernel_rfl) (by kernel_rfl)) ?_
  intro W base args ds gs before hval0 hW hcnd hsz0 _
  have hval : ∀ (j : Nat) t v, Try.f6.params[j]? = some t → args[j]? = some v → Value.okWide Try.prog W .any base t v := hval0
  have hW' := hW
  obtain ⟨p, q, hA0, hV, rfl, hfz, hnd⟩ := hW
  have hA : DataW.TrodAll enc Try.prog W 0 (fun _ => true) true Try.f6.params.toList args.toList ds p := hA0
  rw [Try.params6] at hA hval
  obtain ⟨v0, vs0, d0, ds0, p0, q0, hargs, rfl, rfl, h0, r0⟩ := trodAll_cons hA
  obtain ⟨v1, vs1, d1, ds1, p1, q1, rfl, rfl, rfl, h1, r1⟩ := trodAll_cons r0
  obtain ⟨v2, vs2, d2, ds2, p2, q2, rfl, rfl, rfl, h2, r2⟩ := trodAll_cons r1
  obtain ⟨rfl, rfl, rfl⟩ := trodAll_nil r2
  obtain rfl : args = #[v0, v1, v2] := by cases args; simp_all
  obtain ⟨rfl, rfl⟩ := trodVars_none hV
  have k0 := h0
  have lt0 : ∀ x ∈ p0, x.block < W.heap.size := by obtain ⟨m, hm⟩ := k0; exact DataW.trod_lt m _ _ _ hm
  obtain ⟨a0, len0, cap0, rfl⟩ := okWide_slice Try.underlying63 (hval 0 63 v0 rfl rfl)
  obtain ⟨l0, hrd0, hpr0, hlen0⟩ : ∃ l : List (Po.PAct), Rd W 3 Po.encPA (.slice a0 len0 cap0) l ∧ (∀ a ∈ l, Rd W 1 Po.encI a.v a.ps ∧ Po.CapOk a.v) ∧ l.length ≤ maxLen := by
    obtain ⟨fuel, hf⟩ := h0
    have := rd_of_trod (τ := Po.PAct) (en := Po.encPA) (Pr := fun a => Rd W 1 Po.encI a.v a.ps ∧ Po.CapOk a.v) Try.underlying63 (by rw [cells68]; omega) hf (fun n cs y _ hy => act_of n cs y hy)
    rw [cells68] at this
    exact this
  obtain ⟨a1, rfl, rfl, rfl, w1⟩ := open_int Try.underlying3 (hval 1 3 v1 rfl rfl) h1
  obtain ⟨a2, rfl, rfl, rfl, w2⟩ := open_int Try.underlying3 (hval 2 3 v2 rfl rfl) h2
  clear hA0 hval0 hsz0
  refine (Po.plays_any hrd0 hpr0 a1 a2 (by unfold maxLen at hlen0; omega)).mono fun e W' ⟨he, bel⟩ => ?_
  subst he
  exact ⟨_, rfl, _, _, _, [], _, [], hW', trodAll_mk1 (shut_bool Try.underlying4 _), (trodAll_cons_mk (Below.trod laidOut (by kernel_rfl) (of_decide_eq_true (by kernel_rfl)) k0 bel lt0) (trodAll_cons_mk (shut_int Try.underlying3 w1) (trodAll_cons_mk (shut_int Try.underlying3 w2) trodAll_mk0))), rfl, bel.frame _, fun h => by cases h⟩

theorem over : Rows.portPlaysRow.holds Try.pinned (OpenSpec.ofChange Rows.portPlaysSpec) :=
  OpenClaim.holds_of_wide 6 Try.f6 rfl rfl rfl rfl rfl rfl rfl ⟨rfl, rfl, rfl, rfl, rfl⟩ rfl rfl rfl rfl rfl (by kernel_rfl) Try.func6 (by kernel_rfl)
    (of_decide_eq_true (by kernel_rfl)) (by unfold Func.isWrapper; first | (rw [if_pos (by decide +kernel)]; kernel_rfl) | (rw [if_neg (by decide +kernel)]; exact ⟨rfl, rfl⟩))
    (fun os started H enc _ => lifted os started H enc)
end Go.Proofs.Ytnceglkoolfncaa.PortPlaysRow
namespace Go.Proofs.Ytnceglkoolfncaa
/-- The row, under a short name, for the claim. -/
theorem portPlays_holds : Rows.PortPlaysSaid := PortPlaysRow.over
#print axioms portPlays_holds
end Go.Proofs.Ytnceglkoolfncaa
