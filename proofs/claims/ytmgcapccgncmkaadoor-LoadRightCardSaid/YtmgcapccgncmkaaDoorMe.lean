/- Scripts: the walk of Parse (45.1). -/
import Derived.Test.YtmgcapccgncmkaaDoorMd
import Derived.StillTailTactics
set_option linter.unusedSimpArgs false
set_option linter.unusedVariables false
namespace Go.Proofs.YtmgcapccgncmkaaDoor.Ld
open Go.RowKit Go.Pv Go.Proofs.YtmgcapccgncmkaaDoor.PLoadScripts Go.Proofs.YtmgcapccgncmkaaDoorW.PrintWords Go.Proofs.YtmgcapccgncmkaaDoorW.PrintLast Go.Proofs.YtmgcapccgncmkaaDoorW.PrintMore

theorem lsize {E : Ent} (h : okE E) : (lineL E).size ≤ 1000 := (parts_small h.1).2
theorem cell_on {W V : World} {p : Addr} {u : Value} (hb : Below W.heap.size W V) (h : W.cell? p = some u) : V.cell? p = some u := (hb.cell (World.block_lt_of_cell? _ _ h)).trans h
theorem lsplit_any (E : Ent) (h : okE E) (m : Int) (W : World) (hm : W.cell? ⟨1, 0, none⟩ = some (.int .i64 m)) :
    Calls Tryd.prog 51 #[.string (lineL E), .string ⟨#[32]⟩] W fun e w' => ∃ g, e = .returned (.slice (some ⟨g, 0, none⟩) (partsL E).length (partsL E).length) ∧ W.heap.size ≤ g ∧ w'.heap[g]? = some (.cells ((partsL E).map Value.string).toArray 9 (0, 0)) ∧ Below W.heap.size W w' := by
  obtain ⟨h1, h2⟩ := line_split h
  have hs := Tryd.split_any (lineL E) ⟨#[32]⟩ m W (by have := lsize h; omega) hm (by decide)
  rw [h1, h2] at hs
  refine hs.mono ?_
  rintro e w' ⟨rfl, rfl⟩
  exact ⟨_, rfl, Nat.le_refl _, heap_alloc_new _ _, (Below.refl _ _).alloc (Nat.le_refl _) _⟩
theorem vfind_any (v : Int) (h1 : 1 ≤ v) (h2 : v < 24) (w : World) (hG : Gl w) : Calls Tryd.prog 80 #[.string (vb v).1] w fun e w' => e = .returned (.int .i64 v) ∧ Below w.heap.size w w' := by
  have h := find_any v.toNat (by omega) (by omega) w hG
  rw [Int.toNat_of_nonneg (by omega)] at h
  exact h
/-- Behind the split. -/
structure P0 (w W : World) (g br : Nat) (parts : List ByteArray) : Prop where
  low : Below w.heap.size w W
  rb : W.heap[br]? = some (.cells #[.int .i64 0, .slice none 0 0, .string ⟨#[]⟩] 34 (0, 0))
  pt : W.heap[g]? = some (.cells (parts.map Value.string).toArray 9 (0, 0))
  ge : w.heap.size ≤ br
section
variable {w W V : World} {g br : Nat} {parts : List ByteArray} {v : Int}
theorem P0.later (h : P0 w W g br parts) (hb : Below W.heap.size W V) : P0 w V g br parts :=
  ⟨h.low.trans (hb.mono h.low.size), (hb.block _ (Array.getElem?_eq_some_iff.1 h.rb).1).trans h.rb, (hb.block _ (Array.getElem?_eq_some_iff.1 h.pt).1).trans h.pt, h.ge⟩
theorem P0.start {w V : World} {g : Nat} {parts : List ByteArray} (hb : Below (w.alloc (.cells #[.int .i64 0, .slice none 0 0, .string ⟨#[]⟩] 34)).heap.size (w.alloc (.cells #[.int .i64 0, .slice none 0 0, .string ⟨#[]⟩] 34)) V) (hp : V.heap[g]? = some (.cells (parts.map Value.string).toArray 9 (0, 0))) : P0 w V g w.heap.size parts := by
  have hA : Below w.heap.size w (w.alloc (.cells #[.int .i64 0, .slice none 0 0, .string ⟨#[]⟩] 34)) := (Below.refl _ w).alloc (Nat.le_refl _) _
  refine ⟨hA.trans (hb.mono hA.size), (hb.block _ ?_).trans (heap_alloc_new w _), hp, Nat.le_refl _⟩
  simp
theorem P0.next (h : P0 w W g br parts) : PS w ((W.alloc (.cells #[.int .i64 v, .slice none 0 0, .string ⟨#[]⟩] 34)).alloc (.cells #[.string (vb v).1, .int .i64 (vb v).2.1, .int .i64 (vb v).2.2] 113)) g W.heap.size (W.heap.size + 1) br parts v (.slice none 0 0) ⟨#[]⟩ := by
  have hA : Below W.heap.size W (W.alloc (.cells #[.int .i64 v, .slice none 0 0, .string ⟨#[]⟩] 34)) := (Below.refl _ W).alloc (Nat.le_refl _) _
  have hB : Below W.heap.size W ((W.alloc (.cells #[.int .i64 v, .slice none 0 0, .string ⟨#[]⟩] 34)).alloc (.cells #[.string (vb v).1, .int .i64 (vb v).2.1, .int .i64 (vb v).2.2] 113)) := hA.alloc (by simp) _
  have h2 := h.later hB
  refine ⟨h2.low, ?_, ?_, h2.rb, h2.pt, h.ge, (Array.getElem?_eq_some_iff.1 h.rb).1⟩
  · exact (Below.heap_alloc _ _ _ (by simp)).trans (heap_alloc_new W _)
  · exact heap_at _ _ _ (by simp)
theorem put3_boxT {W : World} {b t : Nat} {x y z p q r : Value} (h : W.heap[b]? = some (.cells #[p, q, r] t (0, 0))) : (put3 W b x y z).heap[b]? = some (.cells #[x, y, z] t (0, 0)) := by
  have h1 := heap_setCell_same W b 0 _ t x h
  have h2 := heap_setCell_same _ b 1 _ t y h1
  have h3 := heap_setCell_same _ b 2 _ t z h2
  exact h3
theorem put3_cellsT {W : World} {b t : Nat} {x y z p q r : Value} (h : W.heap[b]? = some (.cells #[p, q, r] t (0, 0))) : (put3 W b x y z).cell? ⟨b, 0, none⟩ = some x ∧ (put3 W b x y z).cell? ⟨b, 1, none⟩ = some y ∧ (put3 W b x y z).cell? ⟨b, 2, none⟩ = some z := by
  have h1 := put3_boxT (x := x) (y := y) (z := z) h
  refine ⟨?_, ?_, ?_⟩ <;> (rw [cell_of_row _ _ _ _ _ _ h1]; rfl)
end
def reg52x14.T : Bool × List (List Nat × List Nat) := (true, [([], []), ([0], [0]), ([], []), ([], []), ([3], [3]), ([4], [4]), ([2, 5], [2, 5]), ([1, 6], [1, 6]), ([7], [7]), ([8], [8]), ([8], [8]), ([9, 7, 0, 1, 2, 3, 4, 5, 6, 7, 8, 9], [9]), ([10, 11, 0, 1, 2, 3, 4, 5, 6, 7, 8, 9, 10, 11], [10])])
def reg52x14.B : List Nat := [0, 1, 0, 0, 8, 24, 60, 127, 255, 511, 511, 1023, 4095]
theorem reg52x14.tab : rtab .any (opsOf Tryd.f52 14) = reg52x14.T := by kernel_rfl
theorem reg52x14.bits : waitsOk reg52x14.T.2 reg52x14.B = true := by kernel_rfl

set_option maxRecDepth 10000 in
set_option maxHeartbeats 2000000 in
theorem eparse_any (E : Ent) (h : okE E) (m : Int) (w : World) (hG : Gl w) (hm : w.cell? ⟨1, 0, none⟩ = some (.int .i64 m)) :
    Calls Tryd.prog 52 #[.string (lineL E)] w fun e w' => ∃ x, e = .returned (.tuple #[.agg #[.int .i64 E.1, x, .string E.2.2], .int .i64 0]) ∧ Kd.R (Kd.int .i64) 3 w' w.heap.size (fun _ => True) x E.2.1 ∧ Below w.heap.size w w' := by
  have HSp := hid (fun W hm => lsplit_any E h m W hm)
  have hv := okE_verb h
  have HFd := hid (fun W hG => vfind_any E.1 hv.1 hv.2 W hG)
  have HPr := hid parse_any
  have HNU := hid (fun n hn => rightB_nums h.1 n hn)
  have hnp := parts_len h
  have HP0 := hid (parts_0 E)
  have HPN := hid (parts_n E)
  have HPD := hid (parts_d E)
  have hvn : (vb E.1).2.1 = (E.2.1.length : Int) := by
    have := h.1
    unfold rightB at this
    simp only [Bool.and_eq_true] at this
    exact (of_decide_eq_true this.1.1.2).symm
  have hdat := okE_data h
  have hl5 := rightB_len h.1
  have HRt := hid (fun A c W hC hc hG => right_any E A c W hC hc hG)
  rw [h.1] at HRt
  have HG0 := hid hG
  have hm1 := cell_on ((Below.refl _ w).alloc (Nat.le_refl _) (.cells #[.int .i64 0, .slice none 0 0, .string ⟨#[]⟩] 34)) hm
  generalize partsL E = parts at HSp hnp HP0 HPN HPD
  generalize lineL E = line at HSp ⊢
  obtain ⟨v, ns, d⟩ := E
  simp only at HSp HFd HNU hnp HP0 HPN HPD hvn hdat hl5 HRt hv ⊢
  have hk1 : ns.length + 1 ≤ parts.length ∧ parts.length ≤ ns.length + 2 := by split at hnp <;> omega
  have HVN := hid hvn
  have b0 : (0 : Int) ≤ v := by omega
  have b24 : v < 24 := by omega
  have bv0 : (v == 0) = false := by simp only [beq_eq_false_iff_ne]; omega
  have q1 : IntKind.i64.wrap ((parts.length : Int) - 1) = (parts.length : Int) - 1 := IntWalk.i64_in _ (by omega)
  have q2 : decide ((parts.length : Int) - 1 < (ns.length : Int)) = false := decide_eq_false (by omega)
  have q3 : ¬ ((parts.length : Int) - 1 < (ns.length : Int)) := by omega
  have q4 : IntKind.i64.wrap (1 + (ns.length : Int)) = 1 + (ns.length : Int) := IntWalk.i64_in _ (by omega)
  have q5 : 0 < parts.length := by omega
  have HSM := hid (fun g => sl_mid g parts.length (1 + ns.length) (by omega) (by omega))
  have HSF := hid (fun g => sl_from g parts.length (1 + ns.length) (by omega))
  have HNP := hid hnp
  have HDT := hid hdat
  have HK1 := hid hk1
  have HL5 := hid hl5
  clear h hm hG hnp hdat hk1 hl5 hvn
  go_enter Tryd.func52, Tryd.ntmps52
  go_wp2_with (first
    | (go_at_call 51; go_must (with_reducible refine (HSp.out _ hm1).mono ?_); rintro e w2 ⟨g, rfl, hg, hp, hb⟩; have HA2 := hid (P0.start hb hp); have hc0 : w2.cell? ⟨g, 0, none⟩ = some (.string (vb v).1) := (by rw [cell_of_row _ _ _ _ _ _ hp]; simp [HP0.out]); clear hb hp hm1)
    | (go_at_call 80; go_must (with_reducible refine (HFd.out _ (HG0.out.later HA2.out.low)).mono ?_); rintro e w3 ⟨rfl, hb⟩; have HA3 := hid (HA2.out.later hb); have HPS := hid (HA3.out.next (v := v)); have hgt := ((HG0.out.later HA3.out.low).later ((Below.refl _ w3).alloc (Nat.le_refl _) (.cells #[.int .i64 v, .slice none 0 0, .string ⟨#[]⟩] 34))).tab hv.1 hv.2; obtain ⟨t0, t1, t2⟩ := hgt; obtain ⟨A1, hs1, hA1⟩ := HSM.out g; have hvn1 := HVN.out; rw [hvn1] at t1; have hs2 : ∀ w' : World, (Instr.slice 69 (.slice (some ⟨g, 0, none⟩) parts.length parts.length) (some (.int .i64 1)) (some (.int .i64 (1 + (ns.length : Int)))) none).run Tryd.prog w' = .ok (.slice A1 ns.length (parts.length - 1)) w' := (fun w' => by have := hs1 w'; rw [Nat.add_sub_cancel_left] at this; simpa using this); clear hb hs1 hvn1 HA2))
  rw [HVN.out] at HPS
  have HR0 := hid (Kd.R_nil (Kd.int .i64) 3 ((w3.alloc (.cells #[.int .i64 v, .slice none 0 0, .string ⟨#[]⟩] 34)).alloc (.cells #[.string (vb v).1, .int .i64 (ns.length : Int), .int .i64 (vb v).2.2] 113)) w.heap.size (fun _ => True))
  clear hs2 t0 t1 t2 hc0 q2 q3
  go_loopg [42] ns.length (fun q s42 wr => ∃ (j : Nat) (x : Value), s42 = .int .i64 (j : Int) ∧ q = ns.length - j ∧ j ≤ ns.length ∧ Hid (PS w wr g w3.heap.size (w3.heap.size + 1) w.heap.size parts v x ⟨#[]⟩) ∧ Hid (Kd.R (Kd.int .i64) 3 wr w.heap.size (fun _ => True) x (ns.take j)))
  case atStart => exact ⟨0, _, rfl, by omega, by omega, HPS, HR0⟩
  case round =>
    clear HPS HR0 HA3
    obtain ⟨j, x, rfl, rfl, hj, HPS, HR⟩ := hrel
    by_cases hjn : j < ns.length
    · have b1 : decide ((j : Int) < (ns.length : Int)) = true := decide_eq_true (by omega)
      have hA := hA1 (by have := HK1.out; omega)
      subst hA
      have hpc := HPS.out.part (HPN.out j hjn)
      have hnu := HNU.out ns[j] (List.getElem_mem hjn)
      have hlt : (ns.take j).length = j := by rw [List.length_take]; omega
      have hl5 := HL5.out
      have hle : (ns.take j ++ [ns[j]]).length = j + 1 := by rw [List.length_append, hlt]; rfl
      go_wp2_with (first
        | (go_at_call 81; go_must (with_reducible refine (HPr.out _ hnu.1 hnu.2 _).mono ?_); rintro e w4 ⟨rfl, hb⟩; have HP4 := hid (HPS.out.later hb); have HR4 := hid (Kd.R_below HR.out hb); obtain ⟨⟨y0, y1, y2⟩, _, _, _⟩ := HP4.out.cells; clear hb hpc HPS HR)
        | ((with_reducible refine gate_builtin (b := .append) (xs := #[.tmp 55, .tmp 57]) rfl ?_); at_builtin; go_must (refine Kd.R_append (Kd.int .i64) (w0 := w) w.heap.size rfl (.tmp 55) (.tmp 57) 23 3 (.int .i64 0) 8 rfl Tryd.underlying23 info3 rfl (by decide) (by omega) x (ns.take j) ns[j] [.int .i64 ns[j]] (fun _ => True) (fun _ => False) rfl rfl rfl (fun _ hk => hk.elim) (fun _ _ => trivial) HR4.out HP4.out.low HP4.out.low.size ?aL ?_); (case aL => rw [hlt]; omega); intro x5 w5 ho hb hg hat; obtain ⟨A5, c5, hx5⟩ := Kd.R_slice ho; rw [hle] at hx5; subst hx5; have HP5 := hid (HP4.out.grown HR4.out hb hg); have HR5 := hid ho; obtain ⟨⟨z0, z1, z2⟩, _, _, zf⟩ := HP5.out.cells; have zf1 := zf 1; clear ho hb hg hat HP4 HR4 y0 y1 y2 zf))
      have HP6 := hid (HP5.out.set1 (.slice A5 (j + 1) c5))
      have HR6 := hid (Kd.R_set HR5.out HP5.out.eb (by decide) 1 (.slice A5 (j + 1) c5))
      have e2 : ns.take (j + 1) = ns.take j ++ [ns[j]] := by rw [List.take_add_one, List.getElem?_eq_getElem hjn]; rfl
      rw [← e2] at HR6
      go_roundg (ns.length - (j + 1))
      case measure => omega
      case rel => exact ⟨j + 1, _, by simp, rfl, by omega, HP6, HR6⟩
    · have b1 : decide ((j : Int) < (ns.length : Int)) = false := decide_eq_false (by omega)
      have hjj : j = ns.length := by omega
      subst hjj
      rw [List.take_length] at HR
      obtain ⟨⟨y0, y1, y2⟩, y3, y4, yf⟩ := HPS.out.cells
      have HR1 := HR.out
      obtain ⟨Ax, cx, hx, hcx, hCx⟩ := Kd.R_reads HR1
      subst hx
      obtain ⟨A2, hs2, hA2⟩ := HSF.out g
      have hs3 : ∀ w' : World, (Instr.slice 69 (.slice (some ⟨g, 0, none⟩) parts.length parts.length) (some (.int .i64 (1 + (ns.length : Int)))) none none).run Tryd.prog w' = .ok (.slice A2 (parts.length - (1 + ns.length)) (parts.length - (1 + ns.length))) w' := fun w' => by have := hs2 w'; simpa using this
      clear hs2 HR1 hCx
      have HCX := hid hcx
      clear hcx
      rw [HVN.out] at y3
      have HDA : Hid (∀ W, W.cell? ⟨g, 1 + ns.length, none⟩ = parts[1 + ns.length]?.map Value.string → Calls Tryd.prog 82 #[.int .i64 (vb v).2.2, .slice A2 (parts.length - (1 + ns.length)) (parts.length - (1 + ns.length))] W fun e w' => e = .returned (.tuple #[.string d, .bool true]) ∧ Below W.heap.size W w') := by
        intro W hW
        rcases HDT.out with ⟨hk, hd⟩ | ⟨hk, hd⟩
        · have hl := HNP.out
          rw [hk, if_neg (by decide)] at hl
          have e1 : parts.length - (1 + ns.length) = 0 := by omega
          have e2 : d = ⟨#[]⟩ := by
            apply ByteArray.ext
            apply Array.eq_empty_of_size_eq_zero
            exact hd
          rw [hk, e1, e2]
          exact (data0_any W A2 0).mono fun e w' h => ⟨h.1, by rw [h.2]; exact Below.refl _ _⟩
        · have hl := HNP.out
          rw [hk, if_pos rfl] at hl
          have e1 : parts.length - (1 + ns.length) = 1 := by omega
          rw [HPD.out hk] at hW
          rw [hk, e1, hA2 (by omega)]
          exact (data2_any W g (1 + ns.length) 1 d hW).mono fun e w' h => ⟨h.1, by rw [h.2]; exact Below.refl _ _⟩
      go_wp2_with fail
      obtain ⟨Wd, hWd⟩ : ∃ Wd, Wd = wr.drew := ⟨_, rfl⟩
      have HWd := hid hWd
      have HPd := hid (show PS w Wd g w3.heap.size (w3.heap.size + 1) w.heap.size parts v (.slice Ax ns.length cx) ⟨#[]⟩ by rw [hWd]; exact HPS.out.later (Below.refl _ _).drew)
      have HRd := hid (show Kd.R (Kd.int .i64) 3 Wd w.heap.size (fun _ => True) (.slice Ax ns.length cx) ns by rw [hWd]; exact Kd.R_below HR.out (Below.refl _ _).drew)
      have HSd := hid (show (fun V : World => V.cell? ⟨w3.heap.size + 1, 1, none⟩ = some (.int .i64 (ns.length : Int)) ∧ V.cell? ⟨w3.heap.size + 1, 2, none⟩ = some (.int .i64 (vb v).2.2)) Wd by rw [hWd]; exact ⟨y3, y4⟩)
      clear hWd y0 y1 y2 y3 y4 yf HPS HR
      refine start_ (n := 13) (S := fun V : World => V.cell? ⟨w3.heap.size + 1, 1, none⟩ = some (.int .i64 (ns.length : Int)) ∧ V.cell? ⟨w3.heap.size + 1, 2, none⟩ = some (.int .i64 (vb v).2.2)) (ds := []) #[false, false, false, false, false, false, false, false, false, false, false, false, false] (by kernel_rfl) rfl rfl (by rw [← HWd.out]; exact HSd.out) (fun hHeld => ?_); refine with_tabW reg52x14.tab reg52x14.bits (fun HT_ HW_ => ?_)
      rw [← HWd.out] at hHeld ⊢
      refine pure_ (i := 0) (N := some 62) (v := ?_) (a' := ?_) #[true, false, false, false, false, false, false, false, false, false, false, false, false] rfl rfl (any_of HT_.out (by kernel_rfl)) (fun _ _ _ h => h) (Or.inl ⟨by rfl, ?_⟩) ?_ ?_
      rotate_left
      · intro w'
        go_simp
        with_reducible rfl
      rotate_left
      · simp only [Act.put, List.setIfInBounds_toArray, List.set_cons_zero, List.set_cons_succ, i64_w, i32_w]
        rfl
      refine pure_ (i := 2) (N := some 64) (v := ?_) (a' := ?_) #[true, false, true, false, false, false, false, false, false, false, false, false, false] rfl rfl (any_of HT_.out (by kernel_rfl)) (fun _ _ _ h => h) (Or.inl ⟨by rfl, ?_⟩) ?_ ?_
      rotate_left
      · intro w'
        go_simp
        with_reducible rfl
      rotate_left
      · simp only [Act.put, List.setIfInBounds_toArray, List.set_cons_zero, List.set_cons_succ, i64_w, i32_w]
        rfl
      refine pure_ (i := 3) (N := some 65) (v := ?_) (a' := ?_) #[true, false, true, true, false, false, false, false, false, false, false, false, false] rfl rfl (any_of HT_.out (by kernel_rfl)) (fun _ _ _ h => h) (Or.inl ⟨by rfl, ?_⟩) ?_ ?_
      rotate_left
      · intro w'
        go_simp
        with_reducible rfl
      rotate_left
      · simp only [Act.put, List.setIfInBounds_toArray, List.set_cons_zero, List.set_cons_succ, i64_w, i32_w]
        rfl
      refine take_ (i := 1) (N := some 63) (v := ?_) (a' := ?_) #[true, true, true, true, false, false, false, false, false, false, false, false, false] rfl rfl (take_ofW HT_.out HW_.out (by kernel_rfl)) (fun _ _ _ h => h) (Or.inl ⟨by rfl, ?_⟩) hHeld ?_ ?_
      rotate_left
      · rintro w' ⟨s0, s1⟩
        go_simp
        with_reducible rfl
      rotate_left
      · simp only [Act.put, List.setIfInBounds_toArray, List.set_cons_zero, List.set_cons_succ, i64_w, i32_w]
        rfl
      refine take_ (i := 4) (N := some 66) (v := ?_) (a' := ?_) #[true, true, true, true, true, false, false, false, false, false, false, false, false] rfl rfl (take_ofW HT_.out HW_.out (by kernel_rfl)) (fun _ _ _ h => h) (Or.inl ⟨by rfl, ?_⟩) hHeld ?_ ?_
      rotate_left
      · rintro w' ⟨s0, s1⟩
        go_simp
        with_reducible rfl
      rotate_left
      · simp only [Act.put, List.setIfInBounds_toArray, List.set_cons_zero, List.set_cons_succ, i64_w, i32_w]
        rfl
      refine pure_ (i := 5) (N := some 67) (v := ?_) (a' := ?_) #[true, true, true, true, true, true, false, false, false, false, false, false, false] rfl rfl (any_of HT_.out (by kernel_rfl)) (fun _ _ _ h => h) (Or.inl ⟨by rfl, ?_⟩) ?_ ?_
      rotate_left
      · intro w'
        go_simp
        with_reducible rfl
      rotate_left
      · simp only [Act.put, List.setIfInBounds_toArray, List.set_cons_zero, List.set_cons_succ, i64_w, i32_w]
        rfl
      refine pure_ (i := 6) (N := some 68) (v := ?_) (a' := ?_) #[true, true, true, true, true, true, true, false, false, false, false, false, false] rfl rfl (any_of HT_.out (by kernel_rfl)) (fun _ _ _ h => h) (Or.inl ⟨by rfl, ?_⟩) ?_ ?_
      rotate_left
      · intro w'
        go_simp
        with_reducible rfl
      rotate_left
      · simp only [Act.put, List.setIfInBounds_toArray, List.set_cons_zero, List.set_cons_succ, i64_w, i32_w]
        rfl
      refine one_ (i := 7) (N := some 69) #[true, true, true, true, true, true, true, true, false, false, false, false, false] rfl rfl (one_of HT_.out (by kernel_rfl)) (by decide) (fun K hK => ?_)
      refine goes_ Tryd.func82 (by kernel_rfl) rfl #[.int .i64 (vb v).2.2, .slice A2 (parts.length - (1 + ns.length)) (parts.length - (1 + ns.length))] (by rfl) rfl rfl (by (try simp only [List.map_toArray, List.map_cons, List.map_nil]); first | done | rfl) ?_
      with_reducible refine (HDA.out _ ?hW).mono ?_
      case hW => rw [cell_of_row _ _ _ _ _ _ HPd.out.pt]; simp
      rintro e w6 ⟨rfl, hb⟩
      have HP6 := hid (HPd.out.later hb)
      have HR6 := hid (Kd.R_below HRd.out hb)
      have HS6 := hid (show (fun V : World => V.cell? ⟨w3.heap.size + 1, 1, none⟩ = some (.int .i64 (ns.length : Int)) ∧ V.cell? ⟨w3.heap.size + 1, 2, none⟩ = some (.int .i64 (vb v).2.2)) w6 from ⟨cell_on hb HSd.out.1, cell_on hb HSd.out.2⟩)
      clear hb
      refine ⟨_, rfl, ?_⟩
      refine hK.out _ _ HS6.out (fun hHeld => ?_)
      clear hK K
      refine norm_ (a' := ?_) ?_ ?_
      rotate_left
      · show Act.put _ (some 69) _ = _
        simp only [Act.put, List.setIfInBounds_toArray, List.set_cons_zero, List.set_cons_succ, i64_w, i32_w]
        rfl
      refine pure_ (i := 8) (N := some 61) (v := ?_) (a' := ?_) #[true, true, true, true, true, true, true, true, true, false, false, false, false] rfl rfl (any_of HT_.out (by kernel_rfl)) (fun _ _ _ h => h) (Or.inl ⟨by rfl, ?_⟩) ?_ ?_
      rotate_left
      · intro w'
        go_simp
        with_reducible rfl
      rotate_left
      · simp only [Act.put, List.setIfInBounds_toArray, List.set_cons_zero, List.set_cons_succ, i64_w, i32_w]
        rfl
      refine pure_ (i := 9) (N := some 70) (v := ?_) (a' := ?_) #[true, true, true, true, true, true, true, true, true, true, false, false, false] rfl rfl (any_of HT_.out (by kernel_rfl)) (fun _ _ _ h => h) (Or.inl ⟨by rfl, ?_⟩) ?_ ?_
      rotate_left
      · intro w'
        go_simp
        with_reducible rfl
      rotate_left
      · simp only [Act.put, List.setIfInBounds_toArray, List.set_cons_zero, List.set_cons_succ, i64_w, i32_w]
        rfl
      refine pure_ (i := 10) (N := some 71) (v := ?_) (a' := ?_) #[true, true, true, true, true, true, true, true, true, true, true, false, false] rfl rfl (any_of HT_.out (by kernel_rfl)) (fun _ _ _ h => h) (Or.inl ⟨by rfl, ?_⟩) ?_ ?_
      rotate_left
      · intro w'
        go_simp
        with_reducible rfl
      rotate_left
      · simp only [Act.put, List.setIfInBounds_toArray, List.set_cons_zero, List.set_cons_succ, i64_w, i32_w]
        rfl
      refine pure_ (i := 11) (N := some 11) (v := ?_) (a' := ?_) #[true, true, true, true, true, true, true, true, true, true, true, true, false] rfl rfl (any_of HT_.out (by kernel_rfl)) (fun _ _ _ h => h) (Or.inl ⟨by rfl, ?_⟩) ?_ ?_
      rotate_left
      · intro w'
        go_simp
        with_reducible rfl
      rotate_left
      · simp only [Act.put, List.setIfInBounds_toArray, List.set_cons_zero, List.set_cons_succ, i64_w, i32_w]
        rfl
      refine pure_ (i := 12) (N := some 12) (v := ?_) (a' := ?_) #[true, true, true, true, true, true, true, true, true, true, true, true, true] rfl rfl (any_of HT_.out (by kernel_rfl)) (fun _ _ _ h => h) (Or.inl ⟨by rfl, ?_⟩) ?_ ?_
      rotate_left
      · intro w'
        go_simp
        with_reducible rfl
      rotate_left
      · simp only [Act.put, List.setIfInBounds_toArray, List.set_cons_zero, List.set_cons_succ, i64_w, i32_w]
        rfl
      refine done_ (done_of HT_.out (by kernel_rfl)) ?_
      obtain ⟨⟨z0, z1, z2⟩, _, _, zf⟩ := HP6.out.cells
      have zf2 := zf 2
      have HP7 := hid (HP6.out.set2 d)
      have HR7 := hid (Kd.R_set HR6.out HP6.out.eb (by decide) 2 (.string d))
      obtain ⟨⟨o0, o1, o2⟩, _, _, _⟩ := HP7.out.cells
      clear zf z0 z1
      go_wp2_with (go_at_call 24; go_must (with_reducible refine (HRt.out _ _ _ (Kd.R_reads' HR7.out).2.2 (Kd.R_reads' HR7.out).2.1 (HG0.out.later HP7.out.low)).mono ?_); rintro e w8 ⟨rfl, hb⟩; have HP8 := hid (HP7.out.later hb); have HR8 := hid (Kd.R_below HR7.out hb); obtain ⟨⟨r0, r1, r2⟩, _, _, _⟩ := HP8.out.cells; obtain ⟨s0, s1, s2, sf⟩ := HP8.out.res; have sf0 := sf 0; have sf1 := sf 1; have sf2 := sf 2; clear hb sf)
      obtain ⟨p0, p1, p2⟩ := put3_cellsT (x := .int .i64 v) (y := .slice Ax ns.length cx) (z := .string d) HP8.out.rb
      unfold put3 at p0 p1 p2
      refine bodyPost_ret (v := .tuple #[.agg #[.int .i64 v, .slice Ax ns.length cx, .string d], .int .i64 0]) (by simp [results, Tryd.results52, go_sem, p0, p1, p2]) rfl ?_
      exact ⟨_, rfl, Kd.R_mono (Kd.R_move (Kd.R_types HR8.out HP8.out.rb (by decide)) (fun k hk => put3_other hk.2)) (fun _ _ => trivial), put3_below HP8.out.low HP8.out.ge.1⟩
end Go.Proofs.YtmgcapccgncmkaaDoor.Ld
