/- Images: Ticks, Pull (18.1). -/
import Derived.Test.YtmgcapccgncmkaaDoorIb
set_option linter.unusedSimpArgs false
set_option linter.unusedVariables false
namespace Go.Proofs.YtmgcapccgncmkaaDoor.Im
open Go.RowKit Go.Pv Go.Proofs.YtmgcapccgncmkaaDoor.Tx Go.Proofs.YtmgcapccgncmkaaDoorW.PrintWords Go.Proofs.YtmgcapccgncmkaaDoorW.PrintLast

/-- How many ticks an image needs. -/
def ticksOf (s : ByteArray) : Int := if (tagOf s).size = 0 then 0 else 1 + ((tagOf s).size : Int) % 3
theorem ticks_in (s : ByteArray) : 0 ≤ ticksOf s ∧ ticksOf s ≤ 3 := by unfold ticksOf; split <;> omega
theorem tag_small (s : ByteArray) : (tagOf s).size ≤ 8 := by
  unfold tagOf
  split
  · rename_i h
    unfold partsB at h
    simp only [Bool.and_eq_true] at h
    have := h.2.2
    unfold tagB at this
    simp only [Bool.and_eq_true] at this
    exact of_decide_eq_true this.2.1
  · exact Nat.zero_le _
set_option maxRecDepth 10000 in
theorem ticks_any (s : ByteArray) (hs : s.size < 4294967281) (w : World) (hG : Gm w) : Calls Tryd.prog 60 #[.string s] w fun e w' => e = .returned (.int .i64 (ticksOf s)) ∧ Below w.heap.size w w' := by
  have HS := hid (fun w hG => split_any s hs w hG)
  have ht := tag_small s
  unfold ticksOf
  generalize repoOf s = A at *
  generalize tagOf s = B at *
  have hE := isEmpty_size B
  by_cases h0 : B.size = 0
  · rw [decide_eq_true h0] at hE
    rw [if_pos h0]
    clear h0 ht
    go_enter Tryd.func60, Tryd.ntmps60
    go_wp2_with (go_at_call 92; go_must (with_reducible refine (HS.out _ hG).mono ?_); rintro e w1 ⟨rfl, hb⟩; have HB := hid hb; clear hb)
    go_ret
    exact ⟨rfl, HB.out⟩
  · rw [decide_eq_false h0] at hE
    rw [if_neg h0]
    have e1 : Int.tmod (B.size : Int) 3 = (B.size : Int) % 3 := Int.tmod_eq_emod_of_nonneg (by omega)
    have e2 : IntKind.i64.wrap ((B.size : Int) % 3) = (B.size : Int) % 3 := IntWalk.i64_in _ (by omega)
    have e3 : IntKind.i64.wrap (1 + (B.size : Int) % 3) = 1 + (B.size : Int) % 3 := IntWalk.i64_in _ (by omega)
    clear h0 ht
    go_enter Tryd.func60, Tryd.ntmps60
    go_wp2_with (go_at_call 92; go_must (with_reducible refine (HS.out _ hG).mono ?_); rintro e w1 ⟨rfl, hb⟩; have HB := hid hb; clear hb)
    go_ret
    exact ⟨rfl, HB.out⟩

def pullC (k : ByteArray) (al : IL) : Int := if partsB k then (if (aget k al).isSome then (if (getI k al).1 = 0 then 7 else 0) else if al.length ≥ 16 then 8 else 0) else 33
def pullA (k : ByteArray) (al : IL) : IL := if partsB k ∧ (aget k al).isSome = false ∧ al.length < 16 then aset k (ticksOf k, 0, 0) al else al
/-- A store of a key, in a region that draws. -/
theorem mapU_ {P : Program} {ops : Array Oper} {o : Oper} {a : Act} {w w1 : World} {Q : Exit → Act → World → Prop} {K : Act → World → Prop} (hg : o.guard = none) (hd : o.dst = none) (m x y : Operand) (t : TypeId) (ho : o.op = .mapUpdate t m x y)
    (hr : (Instr.mapUpdate t (a.eval m) (a.eval x) (a.eval y)).run P w = .ok () w1) (hk : K a w1) : if Region.wanted o (yielded ops a.tmps) = true then o.wp P a w K Q else K (a.put none undef) w := by
  rw [if_pos (by simp [Region.wanted, hg])]
  unfold Oper.wp execOp
  simp only [ho, Sem.run_bind, Sem.run_pure, Result.andThen_ok, hr]
  show K (a.put o.dst undef) w1
  rw [hd]
  exact hk
def regPull.T : Bool × List (List Nat × List Nat) := (true, [([], []), ([0], [0]), ([1], [1]), ([2], [2]), ([], []), ([], []), ([5], [5]), ([6], [6]), ([3, 4, 7, 6, 0, 1, 2, 3, 4, 5, 6, 7], [3, 4, 7])])
def regPull.B : List Nat := [0, 1, 3, 7, 0, 0, 32, 96, 255]
theorem regPull.tab : rtab .any (opsOf Tryd.f58 11) = regPull.T := by kernel_rfl
theorem regPull.bits : waitsOk regPull.T.2 regPull.B = true := by kernel_rfl

set_option maxRecDepth 10000 in
set_option maxHeartbeats 1000000 in
theorem pull_any {w : World} {p mb : Nat} {al : IL} {tick : Int} (h : IBk w p mb al tick) (k : ByteArray) (hk : k.size < 4294967281) (hG : Gm w) :
    Calls Tryd.prog 58 #[.pointer (some ⟨p, 0, none⟩), .string k] w fun e w' => e = .returned (.int .i64 (pullC k al)) ∧ IBk w' p mb (pullA k al) tick ∧ Keeps (fun i => i = mb) w w' := by
  have HI := hid (fun w hG => image_any k hk w hG)
  have HTk := hid (fun w hG => ticks_any k hk w hG)
  have HP := hid h
  have HG0 := hid hG
  have HLn := hid (fun w1 (h : Below w.heap.size w w1) => (HP.out.below h).len 3)
  have HLk := hid (fun w1 (h : Below w.heap.size w w1) => (HP.out.below h).look_ok k)
  have hgi : (aget k al).getD (0, 0, 0) = getI k al := rfl
  rw [hgi] at HLk
  unfold pullC pullA
  generalize hF : (aget k al).isSome = F at *
  have hz : F = false → getI k al = (0, 0, 0) := fun e => by
    rw [e] at hF
    unfold getI
    cases hq : aget k al with
    | none => rfl
    | some x => rw [hq] at hF; cases hF
  generalize getI k al = s at *
  generalize partsB k = B at *
  clear h hG hgi hF
  obtain ⟨l, u, s⟩ := s
  unfold imv at HLk
  simp only at HLk hz ⊢
  cases B with
  | false =>
    clear hz
    go_enter Tryd.func58, Tryd.ntmps58
    go_wp2_with (go_at_call 89; go_must (with_reducible refine (HI.out _ HG0.out).mono ?_); rintro e w1 ⟨rfl, hb⟩; have HB := hid hb; clear hb)
    go_ret
    exact ⟨rfl, HP.out.below HB.out, Keeps.of_below HB.out⟩
  | true =>
    cases F with
    | true =>
      clear hz
      have e1 : ¬ (true = true ∧ true = false ∧ al.length < 16) := by simp
      rw [if_pos rfl, if_pos rfl, if_neg e1]
      by_cases hl : l = 0
      · have hd : (l == 0) = true := by simpa using hl
        rw [if_pos hl]
        clear hl e1
        go_enter Tryd.func58, Tryd.ntmps58
        go_wp2_with (first
          | (go_at_call 89; go_must (with_reducible refine (HI.out _ HG0.out).mono ?_); rintro e w1 ⟨rfl, hb⟩; have HB := hid hb; have c0 := (HP.out.below HB.out).c0; have HL := hid (HLk.out _ HB.out); clear hb)
          | (at_lookup; refine wl_lookup rfl _ _ _ _ rfl ⟨_, _, HL.out, ?_⟩))
        go_ret
        exact ⟨rfl, HP.out.below (HB.out.alloc HB.out.size _), Keeps.of_below (HB.out.alloc HB.out.size _)⟩
      · have hd : (l == 0) = false := by simpa using hl
        rw [if_neg hl]
        clear e1
        go_enter Tryd.func58, Tryd.ntmps58
        go_wp2_with (first
          | (go_at_call 89; go_must (with_reducible refine (HI.out _ HG0.out).mono ?_); rintro e w1 ⟨rfl, hb⟩; have HB := hid hb; have c0 := (HP.out.below HB.out).c0; have HL := hid (HLk.out _ HB.out); clear hb)
          | (at_lookup; refine wl_lookup rfl _ _ _ _ rfl ⟨_, _, HL.out, ?_⟩))
        go_ret
        exact ⟨rfl, HP.out.below (HB.out.alloc HB.out.size _), Keeps.of_below (HB.out.alloc HB.out.size _)⟩
    | false =>
      have hz2 := hz rfl
      simp only [Prod.mk.injEq] at hz2
      obtain ⟨rfl, rfl, rfl⟩ := hz2
      clear hz
      by_cases hn : al.length ≥ 16
      · have e1 : ¬ (true = true ∧ false = false ∧ al.length < 16) := by omega
        have hd : decide ((al.length : Int) ≥ 16) = true := decide_eq_true (by omega)
        rw [if_pos rfl, if_neg (by simp), if_pos hn, if_neg e1]
        clear e1
        go_enter Tryd.func58, Tryd.ntmps58
        go_wp2_with (first
          | (go_at_call 89; go_must (with_reducible refine (HI.out _ HG0.out).mono ?_); rintro e w1 ⟨rfl, hb⟩; have HB := hid hb; have c0 := (HP.out.below HB.out).c0; have HL := hid (HLk.out _ HB.out); have HB2 := hid (HB.out.alloc HB.out.size (.cells #[.int .i64 0, .int .i64 0, .int .i64 0] 121)); have HN := hid (HLn.out _ HB2.out); have c0b := (HP.out.below HB2.out).c0; clear hb)
          | (at_lookup; refine wl_lookup rfl _ _ _ _ rfl ⟨_, _, HL.out, ?_⟩)
          | (at_len; refine wl_len rfl _ _ rfl ⟨_, _, HN.out, ?_⟩))
        go_ret
        exact ⟨rfl, HP.out.below HB2.out, Keeps.of_below HB2.out⟩
      · have e1 : true = true ∧ false = false ∧ al.length < 16 := ⟨rfl, rfl, by omega⟩
        have hd : decide ((al.length : Int) ≥ 16) = false := decide_eq_false (by omega)
        rw [if_pos rfl, if_neg (by simp), if_neg hn, if_pos e1]
        clear e1
        generalize ticksOf k = tk at *
        go_enter Tryd.func58, Tryd.ntmps58
        go_wp2_with (first
          | (go_at_call 89; go_must (with_reducible refine (HI.out _ HG0.out).mono ?_); rintro e w1 ⟨rfl, hb⟩; have HB := hid hb; have c0 := (HP.out.below HB.out).c0; have HL := hid (HLk.out _ HB.out); have HB2 := hid (HB.out.alloc HB.out.size (.cells #[.int .i64 0, .int .i64 0, .int .i64 0] 121)); have HN := hid (HLn.out _ HB2.out); have c0b := (HP.out.below HB2.out).c0; clear hb)
          | (at_lookup; refine wl_lookup rfl _ _ _ _ rfl ⟨_, _, HL.out, ?_⟩)
          | (at_len; refine wl_len rfl _ _ rfl ⟨_, _, HN.out, ?_⟩))
        obtain ⟨Wd, hWd⟩ : ∃ Wd, Wd = (w1.alloc (.cells #[.int .i64 0, .int .i64 0, .int .i64 0] 121)).drew := ⟨_, rfl⟩
        have HWd := hid hWd
        have HBd := hid (show Below w.heap.size w Wd by rw [hWd]; exact HB2.out.drew)
        clear hWd c0 c0b
        refine start_ (n := 9) (S := fun V : World => V.cell? ⟨p, 0, none⟩ = some (.map (some mb))) (ds := [8]) #[false, false, false, false, false, false, false, false, false] (by kernel_rfl) rfl rfl (by rw [← HWd.out]; exact (HP.out.below HBd.out).c0) (fun hHeld => ?_); refine with_tabW regPull.tab regPull.bits (fun HT_ HW_ => ?_)
        rw [← HWd.out] at hHeld ⊢
        refine pure_ (i := 0) (N := some 38) (v := ?_) (a' := ?_) #[true, false, false, false, false, false, false, false, false] rfl rfl (any_of HT_.out (by kernel_rfl)) (fun _ _ _ h => h) (Or.inl ⟨by rfl, ?_⟩) ?_ ?_
        rotate_left
        · intro w'
          go_simp
          with_reducible rfl
        rotate_left
        · simp only [Act.put, List.setIfInBounds_toArray, List.set_cons_zero, List.set_cons_succ, i64_w, i32_w]
          rfl
        refine pure_ (i := 1) (N := some 39) (v := ?_) (a' := ?_) #[true, true, false, false, false, false, false, false, false] rfl rfl (any_of HT_.out (by kernel_rfl)) (fun _ _ _ h => h) (Or.inl ⟨by rfl, ?_⟩) ?_ ?_
        rotate_left
        · intro w'
          go_simp
          with_reducible rfl
        rotate_left
        · simp only [Act.put, List.setIfInBounds_toArray, List.set_cons_zero, List.set_cons_succ, i64_w, i32_w]
          rfl
        refine pure_ (i := 2) (N := some 40) (v := ?_) (a' := ?_) #[true, true, true, false, false, false, false, false, false] rfl rfl (any_of HT_.out (by kernel_rfl)) (fun _ _ _ h => h) (Or.inl ⟨by rfl, ?_⟩) ?_ ?_
        rotate_left
        · intro w'
          go_simp
          with_reducible rfl
        rotate_left
        · simp only [Act.put, List.setIfInBounds_toArray, List.set_cons_zero, List.set_cons_succ, i64_w, i32_w]
          rfl
        refine pure_ (i := 4) (N := some 42) (v := ?_) (a' := ?_) #[true, true, true, false, true, false, false, false, false] rfl rfl (any_of HT_.out (by kernel_rfl)) (fun _ _ _ h => h) (Or.inl ⟨by rfl, ?_⟩) ?_ ?_
        rotate_left
        · intro w'
          go_simp
          with_reducible rfl
        rotate_left
        · simp only [Act.put, List.setIfInBounds_toArray, List.set_cons_zero, List.set_cons_succ, i64_w, i32_w]
          rfl
        refine pure_ (i := 5) (N := some 43) (v := ?_) (a' := ?_) #[true, true, true, false, true, true, false, false, false] rfl rfl (any_of HT_.out (by kernel_rfl)) (fun _ _ _ h => h) (Or.inl ⟨by rfl, ?_⟩) ?_ ?_
        rotate_left
        · intro w'
          go_simp
          with_reducible rfl
        rotate_left
        · simp only [Act.put, List.setIfInBounds_toArray, List.set_cons_zero, List.set_cons_succ, i64_w, i32_w]
          rfl
        refine take_ (i := 3) (N := some 41) (v := ?_) (a' := ?_) #[true, true, true, true, true, true, false, false, false] rfl rfl (take_ofW HT_.out HW_.out (by kernel_rfl)) (fun _ _ _ h => h) (Or.inl ⟨by rfl, ?_⟩) hHeld ?_ ?_
        rotate_left
        · rintro w' s0
          go_simp
          with_reducible rfl
        rotate_left
        · simp only [Act.put, List.setIfInBounds_toArray, List.set_cons_zero, List.set_cons_succ, i64_w, i32_w]
          rfl
        refine one_ (i := 6) (N := some 44) #[true, true, true, true, true, true, true, false, false] rfl rfl (one_of HT_.out (by kernel_rfl)) (by decide) (fun K hK => ?_)
        refine goes_ Tryd.func60 (by kernel_rfl) rfl #[.string k] (by rfl) rfl rfl (by (try simp only [List.map_toArray, List.map_cons, List.map_nil]); first | done | rfl) ?_
        with_reducible refine (HTk.out _ (HG0.out.later HBd.out)).mono ?_
        rintro e w4 ⟨rfl, hb⟩
        have HB4 := hid (HBd.out.trans (hb.mono HBd.out.size))
        obtain ⟨w5, HR, H3⟩ := HP.out.setF HB4.out k tk 0 0
        clear hb
        refine ⟨_, rfl, ?_⟩
        refine hK.out _ _ (HP.out.below HB4.out).c0 (fun hHeld => ?_)
        clear hK K
        refine norm_ (a' := ?_) ?_ ?_
        rotate_left
        · show Act.put _ (some 44) _ = _
          simp only [Act.put, List.setIfInBounds_toArray, List.set_cons_zero, List.set_cons_succ, i64_w, i32_w]
          rfl
        refine pure_ (i := 7) (N := some 45) (v := ?_) (a' := ?_) #[true, true, true, true, true, true, true, true, false] rfl rfl (any_of HT_.out (by kernel_rfl)) (fun _ _ _ h => h) (Or.inl ⟨by rfl, ?_⟩) ?_ ?_
        rotate_left
        · intro w'
          go_simp
          with_reducible rfl
        rotate_left
        · simp only [Act.put, List.setIfInBounds_toArray, List.set_cons_zero, List.set_cons_succ, i64_w, i32_w]
          rfl
        refine last_ (i := 8) (N := none) #[true, true, true, true, true, true, true, true, true] rfl rfl (one_of HT_.out (by kernel_rfl)) (by decide) (fun K hK => ?_)
        refine mapU_ rfl rfl _ _ _ _ rfl (w1 := w5) HR.out ?_
        refine hK.out _ _ ?_
        clear hK K
        refine done_ (done_of HT_.out (by kernel_rfl)) ?_
        go_wp2_with fail
        go_ret
        exact ⟨rfl, H3.out⟩
end Go.Proofs.YtmgcapccgncmkaaDoor.Im
