/- Scripts: the walk of an entry's line. -/
import Derived.Test.YtmgcapccgncmkaaDoorLi
set_option linter.unusedSimpArgs false
set_option linter.unusedVariables false
namespace Go.Proofs.YtmgcapccgncmkaaDoor.Ld
open Go.RowKit Go.Pv Go.Proofs.YtmgcapccgncmkaaDoor.PLoadScripts Go.Proofs.YtmgcapccgncmkaaDoorW.PrintWords Go.Proofs.YtmgcapccgncmkaaDoorW.PrintLast Go.Proofs.YtmgcapccgncmkaaDoorW.PrintMore

theorem strs_of_R {W : World} {B : Nat} {ok : Nat → Prop} {v : Value} {xs : List ByteArray} (h : Kd.string.R 9 W B ok v xs) (h0 : 0 < xs.length) :
    ∃ g c, v = .slice (some ⟨g, 0, none⟩) xs.length c ∧ xs.length ≤ c ∧ g < W.heap.size ∧ ∀ j x, xs[j]? = some x → W.cell? ⟨g, 0 + j, none⟩ = some (.string x) := by
  have ho := Kd.own_of_R h
  rcases ho.2 with ⟨_, h1⟩ | ⟨g, c, cur, rfl, hg, hh, hc, _, hs, ht⟩
  · omega
  · refine ⟨g, c, rfl, hc, (Array.getElem?_eq_some_iff.1 hh).1, fun j x hx => ?_⟩
    rw [cell_of_row W g _ _ _ _ hh]
    have hj : j < xs.length := (List.getElem?_eq_some_iff.1 hx).1
    have := congrArg (fun l : List Value => l[j]?) ht
    simp only [encs, List.getElem?_map, hx, Option.map_some, List.getElem?_take] at this
    rw [if_pos (by omega)] at this
    simpa using this
theorem R_strs {W : World} {g B : Nat} {x : ByteArray} (hB : B ≤ g) (h : W.heap[g]? = some (.cells #[.string x] 9 (0, 0))) : Kd.string.R 9 W B (fun _ => True) (.slice (some ⟨g, 0, none⟩) 1 1) [x] :=
  Kd.R_of_own ⟨rfl, .inr ⟨g, 1, _, rfl, hB, h, Nat.le_refl _, by decide, rfl, rfl⟩⟩ (fun _ _ => trivial)
theorem Gl.tab {W : World} {v : Int} (h : Gl W) (h1 : 1 ≤ v) (h2 : v < 24) : W.cell? ⟨0, v.toNat * 3, none⟩ = some (.string (vb v).1) ∧ W.cell? ⟨0, v.toNat * 3 + 1, none⟩ = some (.int .i64 (vb v).2.1) ∧ W.cell? ⟨0, v.toNat * 3 + 2, none⟩ = some (.int .i64 (vb v).2.2) := by
  have hx : vtab[v.toNat]? = some (vb v) := by
    unfold vb
    rw [List.getD_eq_getElem?_getD, List.getElem?_eq_getElem (by show v.toNat < 24; omega)]
    rfl
  exact h.verbs v.toNat _ hx
theorem LW.start {w W : World} {E : Ent} {A : Option Addr} {c : Nat} (hB : Below w.heap.size w W) (h1 : W.heap[w.heap.size]? = some (.cells #[.int .i64 E.1, .slice A E.2.1.length c, .string E.2.2] 34 (0, 0))) :
    LW w ((W.alloc (.cells #[.string (vb E.1).1, .int .i64 (vb E.1).2.1, .int .i64 (vb E.1).2.2] 113)).alloc (.cells #[.string (vb E.1).1] 9)) W.heap.size E A c (.slice (some ⟨W.heap.size + 1, 0, none⟩) 1 1) [(vb E.1).1] := by
  have hlt := (Array.getElem?_eq_some_iff.1 h1).1
  refine ⟨(hB.alloc hB.size _).alloc (by have := hB.size; simp; omega) _, ?_, ?_, R_strs (by have := hB.size; omega) (heap_at _ _ _ (by simp))⟩
  · exact (Below.heap_alloc _ _ _ (by simp; omega)).trans ((Below.heap_alloc _ _ _ hlt).trans h1)
  · exact (Below.heap_alloc _ _ _ (by simp)).trans (heap_alloc_new W _)

set_option maxRecDepth 10000 in
set_option maxHeartbeats 1000000 in
theorem line_any (E : Ent) (hr : rightB E = true) (hk : (vb E.1).2.2 ≠ 1) (A : Option Addr) (c : Nat) (w : World) (hC : Kd.C (Kd.int .i64) w A E.2.1.length E.2.1) (hc : E.2.1.length ≤ c) (hG : Gl w) :
    Calls Tryd.prog 25 #[.agg #[.int .i64 E.1, .slice A E.2.1.length c, .string E.2.2]] w fun e w' => e = .returned (.string (lineL E)) ∧ Below w.heap.size w w' := by
  have HRt := hid (fun (W : World) hC hG => right_any E A c W hC hc hG)
  rw [hr] at HRt
  have HTx := hid (fun n h0 h1 (W : World) => text_any n h0 h1 W)
  have hv := rightB_verb hr
  have hkk : (vb E.1).2.2 = 0 ∨ (vb E.1).2.2 = 2 := by have := vb_kind E.1; omega
  have HPS := hid (parts_small hr)
  have HNU := hid (fun n hn => rightB_nums hr n hn)
  have hlen5 := rightB_len hr
  have hparts : partsL E = heads E ++ (if (vb E.1).2.2 = 2 then [E.2.2] else []) := rfl
  have hline : lineL E = ⟨(Lib.join ((partsL E).map (·.data.toList)) [32]).toArray⟩ := rfl
  have hheads : heads E = (vb E.1).1 :: E.2.1.map ntext := rfl
  obtain ⟨v, ns, d⟩ := E
  simp only at hC hc HRt hv hkk HPS HNU hlen5 hparts hheads ⊢
  have hb0 : Below w.heap.size w (w.alloc (.cells #[.int .i64 v, .slice A ns.length c, .string d] 34)) := (Below.refl _ w).alloc (Nat.le_refl _) _
  have HG := hid (hG.later hb0)
  have HC := hid (Kd.C_below hC hb0)
  have HB0 := hid hb0
  have HBX := hid (heap_alloc_new w (.cells #[.int .i64 v, .slice A ns.length c, .string d] 34))
  have b4 : (0 : Int) ≤ v := by omega
  have b5 : v < 24 := by omega
  have HC0 := hid hC
  have HLI := hid hline
  have HHE := hid hheads
  have HPA := hid hparts
  clear hb0 hC hG hline hheads hparts
  go_enter Tryd.func25, Tryd.ntmps25
  go_wp2_with (go_at_call 24; go_must (with_reducible refine (HRt.out _ HC.out HG.out).mono ?_); go_must (rintro e w1 ⟨rfl, hb⟩; have HB1 := hid (HB0.out.trans (hb.mono HB0.out.size)); have HX1 := hid ((hb.block _ (Array.getElem?_eq_some_iff.1 HBX.out).1).trans HBX.out); have HG1 := hid (HG.out.later hb); have HC1 := hid (Kd.C_below HC.out hb); have hcx := HX1.out; have hc0 : w1.cell? ⟨w.heap.size, 0, none⟩ = some (.int .i64 v) := (cell_of_row _ _ _ _ _ _ hcx).trans rfl;  obtain ⟨hv0, hv1, hv2⟩ := HG1.out.tab hv.1 hv.2; have HL := hid (LW.start (E := (v, ns, d)) HB1.out hcx); have q1 := HL.out.cells.2.1; simp only at q1; clear hcx hb HB0 HBX HG HC HX1))
  go_loopg [4, 6, 20] ns.length (fun q s4 s6 s20 wr => ∃ j : Nat, s20 = .int .i64 j ∧ q = ns.length - j ∧ j ≤ ns.length ∧ Hid (LW w wr w1.heap.size (v, ns, d) A c s4 ((vb v).1 :: (ns.take j).map ntext)))
  case atStart => exact ⟨0, rfl, by omega, by omega, HL⟩
  case round =>
    clear HL
    obtain ⟨j, rfl, rfl, hj, HL⟩ := hrel
    have HCr := hid (Kd.C_below HC0.out HL.out.low)
    obtain ⟨z0, z1, z2, z3⟩ := HL.out.cells
    simp only at z0 z1 z2 z3
    by_cases hjn : j < ns.length
    · have b6 : decide ((j : Int) < (ns.length : Int)) = true := decide_eq_true (by omega)
      obtain ⟨b, o, hA, hcell⟩ := C_int_at HCr.out j hjn
      subst hA
      have hnu := HNU.out ns[j] (List.getElem_mem hjn)
      have hxl : ((vb v).1 :: (ns.take j).map ntext).length = j + 1 := by simp; omega
      go_wp2_with (first
        | (go_at_call 54; go_must (with_reducible refine (HTx.out _ hnu.1 (by omega) _).mono ?_); rintro e w2 ⟨rfl, hb⟩; have HL2 := hid (HL.out.later hb); clear hb HL; have HL := HL2; clear HL2)
        | ((with_reducible refine gate_builtin (b := .append) (xs := #[.tmp 24, .tmp 27]) rfl ?_); at_builtin; go_must (refine Kd.R_append Kd.string (w0 := w) w.heap.size rfl (.tmp 24) (.tmp 27) 69 9 (.string ⟨#[]⟩) 16 rfl Tryd.underlying69 info9 rfl (by decide) (by omega) u4 ((vb v).1 :: (ns.take j).map ntext) (ntext ns[j]) [.string (ntext ns[j])] (fun _ => True) (fun _ => False) rfl rfl rfl (fun _ hk => hk.elim) (fun _ _ => trivial) HL.out.row HL.out.low HL.out.low.size ?aL ?_); (case aL => rw [hxl]; omega); intro v4 w4 ho hb hg hat; have HL2 := hid (HL.out.put ho hb hg); clear ho hb hg hat HL; have HL := HL2; clear HL2))
      go_roundg (ns.length - (j + 1))
      case measure => omega
      case rel =>
        refine ⟨j + 1, by simp, rfl, by omega, ?_⟩
        have e2 : (vb v).1 :: (ns.take (j + 1)).map ntext = ((vb v).1 :: (ns.take j).map ntext) ++ [ntext ns[j]] := by rw [List.take_add_one, List.getElem?_eq_getElem hjn, List.map_append]; rfl
        rw [e2]
        exact HL
    · have b6 : decide ((j : Int) < (ns.length : Int)) = false := decide_eq_false (by omega)
      have hjj : j = ns.length := by omega
      subst hjj
      rw [List.take_length, ← HHE.out] at HL
      have hJ : ∀ (W : World) (x : Value) (xs : List ByteArray), LW w W w1.heap.size (v, ns, d) A c x xs → 0 < xs.length → xs = partsL (v, ns, d) → ∃ g c4, x = .slice (some ⟨g, 0, none⟩) xs.length c4 ∧ Calls Tryd.prog 57 #[.slice (some ⟨g, 0, none⟩) xs.length c4, .string ⟨#[32]⟩] W fun e w' => e = .returned (.string (lineL (v, ns, d))) ∧ Below W.heap.size W w' := by
        intro W x xs h h0 hx
        obtain ⟨g, c4, h1, h2, h3, h4⟩ := strs_of_R h.row h0
        refine ⟨g, c4, h1, ?_⟩
        have hp := HPS.out
        rw [← hx] at hp
        rw [HLI.out, ← hx]
        exact Tryd.join_any g 0 c4 xs ⟨#[32]⟩ W h4 h3 (by omega) h2 (by have := hp.2; exact Nat.le_trans this (by omega))
      have HJ := hid hJ
      clear hJ
      have hh0 : 0 < (heads (v, ns, d)).length := by rw [HHE.out]; simp
      rcases hkk with hk | hk
      · rw [hk] at z3
        have hparts := HPA.out
        rw [hk, if_neg (by decide), List.append_nil] at hparts
        obtain ⟨g, c4, rfl, hcall⟩ := HJ.out _ _ _ HL.out hh0 hparts.symm
        have HCa := hid hcall
        clear hcall hparts
        go_wp2_with (go_at_call 57; go_must (with_reducible refine (HCa.out).mono ?_); rintro e w5 ⟨rfl, hb⟩; have HE := hid (HL.out.low.trans (hb.mono HL.out.low.size)); clear hb)
        go_ret
        exact ⟨rfl, HE.out⟩
      · rw [hk] at z3
        have hparts := HPA.out
        rw [hk, if_pos rfl] at hparts
        have HP3 := hid hparts.symm
        clear hparts
        have hxl : (heads (v, ns, d)).length ≤ 7 := by rw [HHE.out]; simp; omega
        go_wp2_with (first
          | ((with_reducible refine gate_builtin (b := .append) (xs := #[.tmp 42, .tmp 45]) rfl ?_); at_builtin; go_must (refine Kd.R_append Kd.string (w0 := w) w.heap.size rfl (.tmp 42) (.tmp 45) 69 9 (.string ⟨#[]⟩) 16 rfl Tryd.underlying69 info9 rfl (by decide) (by omega) u4 (heads (v, ns, d)) d [.string d] (fun _ => True) (fun _ => False) rfl rfl rfl (fun _ hk => hk.elim) (fun _ _ => trivial) HL.out.row HL.out.low HL.out.low.size ?aL ?_); (case aL => omega); intro v4 w4 ho hb hg hat; have HL2 := hid (HL.out.put ho hb hg); clear ho hb hg hat HL; obtain ⟨g, c4, rfl, hcall⟩ := HJ.out _ _ _ HL2.out (by simp) HP3.out; simp only [List.length_append, List.length_singleton] at hcall; have HCa := hid hcall; clear hcall)
          | (go_at_call 57; go_must (with_reducible refine (HCa.out).mono ?_); rintro e w5 ⟨rfl, hb⟩; have HE := hid (HL2.out.low.trans (hb.mono HL2.out.low.size)); clear hb))
        go_ret
        exact ⟨rfl, HE.out⟩
end Go.Proofs.YtmgcapccgncmkaaDoor.Ld
