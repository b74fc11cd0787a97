/- Load: a script's text (48.3); the chapter's example. -/
import Derived.Test.YtmgcapccgncmkaaDoorLm
set_option linter.unusedSimpArgs false
set_option linter.unusedVariables false
namespace Go.Proofs.YtmgcapccgncmkaaDoor.Ld
open Go.RowKit Go.Pv Go.Proofs.YtmgcapccgncmkaaDoor.PLoadScripts Go.Proofs.YtmgcapccgncmkaaDoorW.PrintWords Go.Proofs.YtmgcapccgncmkaaDoorW.PrintLast Go.Proofs.YtmgcapccgncmkaaDoorW.PrintMore

/-- A script as it comes: its slice. -/
theorem script_at (x n : Int) (w : World) : Calls Tryd.prog 16 #[.int .u64 x, .int .i64 n] w fun e w' => ∃ A c, e = .returned (.slice A (scr x n).length c) ∧ (scr x n).length ≤ c ∧ k34.C w' A (scr x n).length ((scr x n).map sE) ∧ Below w.heap.size w w' := by
  refine (script_any x n w).mono ?_
  rintro e w' ⟨v, rfl, hR, hb⟩
  obtain ⟨A, c, rfl, hc, hC⟩ := Kd.R_reads hR
  rw [List.length_map] at hc hC ⊢
  exact ⟨A, c, rfl, hc, hC, hb⟩
theorem scr_small (x n : Int) : (scr x n).length ≤ 1000 := by have := many_le n; rw [scr_length]; omega
set_option maxRecDepth 10000 in
theorem ltext_any (x n : Int) (w : World) (hG : Gl w) : Calls Tryd.prog 21 #[.int .u64 x, .int .i64 n] w fun e w' => e = .returned (.string ⟨(writeL (scr x n)).toArray⟩) ∧ Below w.heap.size w w' := by
  have HS := hid (fun W => script_at x n W)
  have HW := hid (fun A c W hC hG => write_any (scr x n) (fun e he => scr_ok x n e he) (scr_small x n) A c W hC hG)
  go_enter Tryd.func21, Tryd.ntmps21
  go_wp2_with (first
    | (go_at_call 16; go_must (with_reducible refine (HS.out _).mono ?_); rintro e w1 ⟨A, c, rfl, hc, hC, hb⟩; have HC := hid hC; have HB := hid hb; clear hC hb)
    | (go_at_call 50; go_must (with_reducible refine (HW.out _ _ _ HC.out (hG.later HB.out)).mono ?_); rintro e w2 ⟨rfl, hb⟩; have HE := hid (HB.out.trans (hb.mono HB.out.size)); clear hb))
  go_ret
  exact ⟨rfl, HE.out⟩
theorem mixL_any (es : List Ent) (hes : ∀ e ∈ es, okE e) (hl : es.length ≤ 1000) (A : Option Addr) (c : Nat) (hc : es.length ≤ c) (W : World) (hC : k34.C W A es.length (es.map sE)) :
    Calls Tryd.prog 20 #[.slice A es.length c] W fun e w' => ∃ v, e = .returned v ∧ Kd.R (Kd.int .i64) 3 w' W.heap.size (fun _ => True) v (mixL es) ∧ Below W.heap.size W w' := by
  have h := load_Mix.calls (es.length + 1) A c (es.map sE) (mixL es) W (by rw [List.length_map]; exact hC) (by rw [List.length_map]; exact hc) (mix_eq es hes hl)
  rw [List.length_map] at h
  exact h
set_option maxRecDepth 10000 in
theorem works_any (w : World) (hG : Gl w) : Calls Tryd.prog 15 #[] w fun e w' => e = .returned (.bool true) ∧ Below w.heap.size w w' := by
  have h1 : scr 7 0 = [e1] := rfl
  have h2 : (⟨(writeL (scr 7 (-1))).toArray⟩ : ByteArray) = ⟨#[99, 111, 110, 110, 101, 99, 116, 10]⟩ := by decide +kernel
  have HS := hid (fun W => script_at 7 0 W)
  have HT := hid (fun W hG => ltext_any 7 (-1) W hG)
  have HM : RowKit.Hid (∀ A c W, 1 ≤ c → k34.C W A [e1].length ([e1].map sE) → Calls Tryd.prog 20 #[.slice A 1 c] W fun e w' => ∃ v, e = .returned v ∧ Kd.R (Kd.int .i64) 3 w' W.heap.size (fun _ => True) v (mixL [e1]) ∧ Below W.heap.size W w') := fun A c W hc hC => mixL_any [e1] (fun e he => scr_ok 7 0 e (by rw [h1]; exact he)) (by decide) A c hc W hC
  rw [h1] at HS
  rw [h2] at HT
  clear h1 h2
  have hb3 : ((⟨#[99, 111, 110, 110, 101, 99, 116, 10]⟩ : ByteArray).toList == (⟨#[99, 111, 110, 110, 101, 99, 116, 10]⟩ : ByteArray).toList) = true := beq_self_eq_true _
  go_enter Tryd.func15, Tryd.ntmps15
  go_wp2_with (first
    | (go_at_call 16; go_must (with_reducible refine (HS.out _).mono ?_); rintro e w1 ⟨A, c, rfl, hc, hC, hb⟩; have HB := hid hb; have HC := hid hC; obtain ⟨b, o, A1, c1, hA, k0, k1, k2, hc1, hC1⟩ := k34_at hC 0 (by decide); clear hb k1 k2 hc1 hC1 hC; subst hA; have k0 : w1.cell? ⟨b, o, none⟩ = some (.int .i64 1) := k0; have hl1 : [e1].length = 1 := rfl)
    | (go_at_call 21; go_must (with_reducible refine (HT.out _ (hG.later HB.out)).mono ?_); rintro e w2 ⟨rfl, hb⟩; have HB2 := hid (HB.out.trans (hb.mono HB.out.size)); have HC2 := hid (Kd.C_below HC.out hb); clear hb)
    | (go_at_call 20; go_must (with_reducible refine (HM.out _ _ _ hc HC2.out).mono ?_); rintro e w3 ⟨v, rfl, hR, hb⟩; have HB3 := hid (HB2.out.trans (hb.mono HB2.out.size)); obtain ⟨A3, c3, hv⟩ := Kd.R_slice hR; rw [mixL_length] at hv; subst hv; clear hb hR))
  go_ret
  exact ⟨rfl, HB3.out⟩
end Go.Proofs.YtmgcapccgncmkaaDoor.Ld
