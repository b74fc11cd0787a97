/- Load: the script of a number (48.3), as the document has it. -/
import Derived.Test.YtmgcapccgncmkaaDoorLc
set_option linter.unusedSimpArgs false
set_option linter.unusedVariables false
namespace Go.Proofs.YtmgcapccgncmkaaDoor.Ld
open Go.RowKit Go.Pv Go.Proofs.YtmgcapccgncmkaaDoor.PLoadScripts Go.Proofs.YtmgcapccgncmkaaDoorW.PrintWords Go.Proofs.YtmgcapccgncmkaaDoorW.PrintLast Go.Proofs.YtmgcapccgncmkaaDoorW.PrintMore

theorem info29 : (Tryd.prog.info? 29).map (fun i => (i.zero, i.size, i.bytes)) = some (some (.agg #[(.int .i64 0), (.slice none 0 0), (.string ⟨#[]⟩)]), 3, 48) := by kernel_rfl
theorem box_below (W : World) (X Y Z : Value) : Below W.heap.size W ((((W.alloc zb).setCell ⟨W.heap.size, 0, none⟩ X).setCell ⟨W.heap.size, 1, none⟩ Y).setCell ⟨W.heap.size, 2, none⟩ Z) :=
  put3_below (w := W) ((Below.refl _ W).alloc (Nat.le_refl _) zb) (Nat.le_refl _)
/-- While the document's script is made. -/
structure SR (w W : World) (v : Value) (es : List S34) : Prop where
  low : Below w.heap.size w W
  row : k34.R 29 W w.heap.size (fun _ => True) v es
section
variable {w W W1 : World} {v v1 : Value} {es : List S34} {E : Ent}
theorem SR.entry (h : SR w W v es) (hR : Kd.R (Kd.int .i64) 3 W1 W.heap.size (fun _ => True) v1 E.2.1) (hB : Below W.heap.size W W1) :
    SR w W1 v es ∧ k34.M W1 w.heap.size (fun k => some k ≠ v.ownBlock) (sE E) [.int .i64 E.1, v1, .string E.2.2] := by
  refine ⟨⟨h.low.trans (hB.mono h.low.size), Kd.R_below h.row hB⟩, ?_⟩
  refine k34_mkM W1 w.heap.size _ (sE E) (Kd.R_lower (Kd.R_mono (Kd.R_bound hR) (fun k hk e => ?_)) h.low.size)
  obtain ⟨inner, ho⟩ := Kd.R_own h.row
  have := own_lt ho k e.symm
  have := hk.2.1
  omega
theorem SR.later {cs : List Value} {x : S34} (h : SR w W v es ∧ k34.M W w.heap.size (fun k => some k ≠ v.ownBlock) x cs) (hb : Below W.heap.size W W1) : SR w W1 v es ∧ k34.M W1 w.heap.size (fun k => some k ≠ v.ownBlock) x cs :=
  ⟨⟨h.1.low.trans (hb.mono h.1.low.size), Kd.R_below h.1.row hb⟩, Kd.M_below h.2 hb⟩
theorem SR.start (w : World) : SR w (w.alloc (.cells #[.int .i64 1, .slice none 0 0, .string ⟨#[]⟩] 29)) (.slice (some ⟨w.heap.size, 0, none⟩) 1 1) [sE e1] := by
  refine ⟨(Below.refl _ w).alloc (Nat.le_refl _) _, ⟨fun _ _ => trivial, [.int .i64 1, .slice none 0 0, .string ⟨#[]⟩], ⟨rfl, .inr ⟨w.heap.size, 1, _, rfl, Nat.le_refl _, heap_alloc_new w _, Nat.le_refl _, by decide, rfl, rfl⟩⟩, ?_⟩⟩
  exact (Reps.none _ _).snoc (k34_mkM _ _ _ (sE e1) (Kd.R_nil _ _ _ _ _)) rfl
end
set_option maxRecDepth 10000 in
set_option maxHeartbeats 1000000 in
theorem rscript_any (x n : Int) (hn : n ≤ 9223372036854775807) (w : World) : Calls Tryd.prog 17 #[.int .u64 x, .int .i64 n] w fun e w' => ∃ v, e = .returned v ∧ k34.R 29 w' w.heap.size (fun _ => True) v ((scr x n).map sE) ∧ Below w.heap.size w w' := by
  have HE := hid (fun x W => rentry_any x W)
  have HS := hid (SR.start w)
  go_enter Tryd.func17, Tryd.ntmps17
  go_wp2_with fail
  go_loopg [0, 5, 6] (many n) (fun q s0 s5 s6 wr => ∃ j : Nat, s0 = .int .u64 (stx j x) ∧ s6 = .int .i64 j ∧ q = many n - j ∧ j ≤ many n ∧ Hid (SR w wr s5 ((e1 :: ents j x).map sE)))
  case atStart => exact ⟨0, rfl, rfl, by omega, by omega, HS⟩
  case round =>
    clear HS
    obtain ⟨j, rfl, rfl, rfl, hj, HS⟩ := hrel
    by_cases hjm : j < many n
    · have hlt : decide ((j : Int) < n) = true := decide_eq_true (by unfold many at hjm; omega)
      have hl2 : decide ((j : Int) < 200) = true := decide_eq_true (by unfold many at hjm; omega)
      have hlen : ((e1 :: ents j x).map sE).length = j + 1 := by simp [ents_length]
      have hj2 : j < 200 := by unfold many at hjm; omega
      go_wp2_with (first
        | (go_at_call 11; go_must (with_reducible refine (HE.out _ _).mono ?_); rintro e w3 ⟨v3, rfl, hR, hB⟩; have HM := hid (SR.later (HS.out.entry hR hB) ((Below.refl _ w3).alloc (Nat.le_refl _) (.cells #[.int .i64 (en (stx j x)).1.1, v3, .string (en (stx j x)).1.2.2] 29))); obtain ⟨A3, c3, hv3⟩ := Kd.R_slice hR; subst hv3; clear hR hB HS)
        | ((with_reducible refine gate_builtin (b := .append) (xs := #[.tmp 26, .tmp 28]) rfl ?_); at_builtin; go_must (refine Kd.R_append k34 (w0 := w) w.heap.size rfl (.tmp 26) (.tmp 28) 40 29 (.agg #[(.int .i64 0), (.slice none 0 0), (.string ⟨#[]⟩)]) 48 rfl Tryd.underlying40 info29 rfl (by decide) (by omega) u5 ((e1 :: ents j x).map sE) (sE (en (stx j x)).1) [.int .i64 (en (stx j x)).1.1, .slice A3 _ c3, .string (en (stx j x)).1.2.2] (fun _ => True) (fun k => some k ≠ u5.ownBlock) rfl ?aX ?aP (fun k hk => ⟨trivial, hk⟩) (fun _ _ => trivial) ?aO ?aB ?aS ?aL ?_); go_must ((case aX => show Value.slice (some ⟨w3.heap.size + 1, 0, none⟩) 1 1 = _; simp); (case aP => exact HM.out.2); (case aO => exact HM.out.1.row); (case aB => exact HM.out.1.low); (case aS => exact HM.out.1.low.size); (case aL => rw [hlen]; omega)); intro v4 w4 ho hb hg hat; have HS := hid (SR.mk hb ho); clear ho hb hg hat HM))
      go_roundg (many n - (j + 1))
      case measure => omega
      case rel =>
        have e2 : (e1 :: ents (j + 1) x).map sE = (e1 :: ents j x).map sE ++ [sE (en (stx j x)).1] := by rw [ents_snoc]; simp
        refine ⟨j + 1, by rw [stx_snoc], by simp, rfl, by omega, ?_⟩
        rw [e2]
        exact HS
    · have hjj : j = many n := by omega
      subst hjj
      by_cases hq : ((many n : Nat) : Int) < n
      · have hlt : decide (((many n : Nat) : Int) < n) = true := decide_eq_true hq
        have hl2 : decide (((many n : Nat) : Int) < 200) = false := decide_eq_false (by unfold many at hq ⊢; omega)
        go_wp2_with fail
        go_ret
        exact ⟨_, rfl, HS.out.row, HS.out.low⟩
      · have hlt : decide (((many n : Nat) : Int) < n) = false := decide_eq_false hq
        go_wp2_with fail
        go_ret
        exact ⟨_, rfl, HS.out.row, HS.out.low⟩
end Go.Proofs.YtmgcapccgncmkaaDoor.Ld
