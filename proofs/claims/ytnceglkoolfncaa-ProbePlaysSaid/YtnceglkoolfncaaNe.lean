/- Relist: what changed of a container. -/
import Derived.Test.YtnceglkoolfncaaNd
import Derived.Deep.CutBlock
import Derived.Deep.DeepCutAuto
set_option linter.unusedSimpArgs false
set_option linter.unusedVariables false
namespace Go.Proofs.Ytnceglkoolfncaa.Rl
open Go.RowKit Go.Pv Go.Proofs.Ytnceglkoolfncaa.Po Go.Proofs.YtnceglkoolfncaaW.PrintWords Go.Proofs.YtnceglkoolfncaaW.PrintLast
def ctr6.T : Bool × List (List Nat × List Nat) := (true, [([], []), ([0], [0]), ([1], [1]), ([2], [2]), ([3], [3]), ([], []), ([5], [5]), ([6], [6]), ([7], [7]), ([8], [8]), ([9], [9]), ([4, 4, 0, 1, 2, 3, 4], [4]), ([10, 11, 0, 1, 2, 3, 4, 5, 6, 7, 8, 9, 10, 11], [10])])
def ctr6.B : List Nat := [0, 1, 3, 7, 15, 0, 32, 96, 224, 480, 992, 31, 4095]
theorem ctr6.tab : rtab .any (opsOf Try.f155 6) = ctr6.T := by kernel_rfl
theorem ctr6.bits : waitsOk ctr6.T.2 ctr6.B = true := by kernel_rfl

set_option maxRecDepth 10000 in
theorem runs_any (s c l : Int) (w : World) : Calls Try.prog 167 #[.agg #[.int .i64 s, .int .i64 c, .int .i64 l]] w fun e w' => e = .returned (.bool (runsB s)) ∧ Below w.heap.size w w' := by
  unfold runsB
  go_enter Try.func167, Try.ntmps167
  cases h : (s == 2)
  all_goals
    go_wp2
    go_ret
    exact ⟨rfl, (Below.refl _ w).alloc (Nat.le_refl _) _⟩

/-- A container's cells. -/
def CellsC (V : World) (b o : Nat) (c : CV) : Prop := V.cell? ⟨b, o, none⟩ = some (.int .i64 c.f0) ∧ V.cell? ⟨b, o + 3, none⟩ = some (.int .i64 c.f3.f0) ∧ V.cell? ⟨b, o + 4, none⟩ = some (.int .i64 c.f3.f1) ∧ V.cell? ⟨b, o + 5, none⟩ = some (.int .i64 c.f3.f2)
theorem pt_c {w : World} {p : Value} {c : CV} (h : Pt PRelistNone.k112 w p (some c)) : ∃ b o, p = .pointer (some ⟨b, o, none⟩) ∧ ∀ V, Below w.heap.size w V → CellsC V b o c := by
  obtain ⟨b, o, cs, h1, h2, h3, h4⟩ := h
  obtain rfl := PRelistNone.k112_open h3
  exact ⟨b, o, h1, fun V hV => ⟨(hV.cell (p := ⟨b, o, none⟩) h2).trans (h4 0 _ rfl), (hV.cell (p := ⟨b, o + 3, none⟩) h2).trans (h4 3 _ rfl), (hV.cell (p := ⟨b, o + 4, none⟩) h2).trans (h4 4 _ rfl), (hV.cell (p := ⟨b, o + 5, none⟩) h2).trans (h4 5 _ rfl)⟩⟩
/-- A sandbox's box. -/
def CellsB (V : World) (b : Nat) (id uid st : Int) (sv : Value) : Prop := V.cell? ⟨b, 0, none⟩ = some (.int .i64 id) ∧ V.cell? ⟨b, 1, none⟩ = some (.int .i64 uid) ∧ V.cell? ⟨b, 2, none⟩ = some (.int .i64 st) ∧ V.cell? ⟨b, 3, none⟩ = some sv

/-- What holds all the while. -/
structure St (u : World) (X : Nat → Prop) (pf : Nat) (w1 : World) (L : List Ch) (V : World) : Prop where
  fi : FI u X pf L V
  kx : KX X w1 V
theorem St.below {u w1 V V' : World} {X : Nat → Prop} {pf : Nat} {L : List Ch} (h : St u X pf w1 L V) (hb : Below V.heap.size V V') : St u X pf w1 L V' := ⟨h.fi.below hb, h.kx.trans (h.fi.kx hb)⟩
theorem St.says {u w1 w : World} {X : Nat → Prop} {pf : Nat} {L : List Ch} (h : St u X pf w1 L w) (hl : L.length ≤ 1000000) (kind id uid st n : Int) (sv : Value) :
    Calls Try.prog 151 #[.pointer (some ⟨pf, 0, none⟩), .int .i64 kind, .agg #[.int .i64 id, .int .i64 uid, .int .i64 st, sv], .int .i64 n] w fun e w' =>
      e = .returned (.tuple #[]) ∧ St u X pf w1 (L ++ [(kind, uid, id, n)]) w' :=
  (says_any h.fi hl kind id uid st n sv).mono fun e w' ⟨h1, h2, h3⟩ => ⟨h1, h2, h.kx.trans h3⟩
theorem St.boxed {u w V : World} {X : Nat → Prop} {pf : Nat} {L : List Ch} {id uid st : Int} {sv : Value} (h : St u (fun k => X k ∨ k = w.heap.size) pf (w.alloc (.cells #[.int .i64 id, .int .i64 uid, .int .i64 st, sv] 108)) L V) : CellsB V w.heap.size id uid st sv := by
  have hb : V.heap[w.heap.size]? = some (.cells #[.int .i64 id, .int .i64 uid, .int .i64 st, sv] 108 (0, 0)) := (h.kx w.heap.size (.inr rfl)).trans (heap_at w _ _ rfl)
  exact ⟨by rw [cell_of_row V _ 0 _ _ _ hb]; rfl, by rw [cell_of_row V _ 1 _ _ _ hb]; rfl, by rw [cell_of_row V _ 2 _ _ _ hb]; rfl, by rw [cell_of_row V _ 3 _ _ _ hb]; rfl⟩
theorem St.post {u w V : World} {X : Nat → Prop} {pf : Nat} {L L0 : List Ch} {o : Obj} (h0 : FI u X pf L0 w) (h : St u (fun k => X k ∨ k = w.heap.size) pf (w.alloc o) L V) : FI u X pf L V ∧ KX X w V :=
  ⟨h.fi.fewer fun _ hk => .inl hk, (h0.kx ((Below.refl _ w).alloc (Nat.le_refl _) o)).trans (h.kx.mono fun _ hk => .inl hk)⟩

/-- What is left to say once it is known whether it ran, and was dead. -/
def restR (u b : Int) (r : Bool) (c : CV) : List Ch := if r then [(6, u, b, c.f0)] else []
def restD (u b : Int) (d : Bool) (c : CV) : List Ch := if d then [(7, u, b, c.f0)] else []

set_option maxRecDepth 10000 in
set_option maxHeartbeats 4000000 in
theorem ctr_gone {u w : World} {X : Nat → Prop} {pf : Nat} {L : List Ch} (h : FI u X pf L w) (hl : L.length ≤ 999990) {pa : Value} {a : CV} (ha : Pt PRelistNone.k112 u pa (some a)) (id uid st : Int) (sv : Value) :
    Calls Try.prog 155 #[.pointer (some ⟨pf, 0, none⟩), .agg #[.int .i64 id, .int .i64 uid, .int .i64 st, sv], pa, .pointer none] w fun e w' =>
      e = .returned (.tuple #[]) ∧ FI u X pf (L ++ oneC uid id (some a) none) w' ∧ KX X w w' := by
  obtain ⟨ab, ao, rfl, hac⟩ := pt_c ha
  have s1 : St u (fun k => X k ∨ k = w.heap.size) pf (w.alloc (.cells #[.int .i64 id, .int .i64 uid, .int .i64 st, sv] 108)) L (w.alloc (.cells #[.int .i64 id, .int .i64 uid, .int .i64 st, sv] 108)) := ⟨h.push _, KX.refl _ _⟩
  have HP := hid (fun L' V => St.post (L := L') (V := V) (o := .cells #[.int .i64 id, .int .i64 uid, .int .i64 st, sv] 108) h)
  have HX := hid (fun L' V (h : St u (fun k => X k ∨ k = w.heap.size) pf (w.alloc (.cells #[.int .i64 id, .int .i64 uid, .int .i64 st, sv] 108)) L' V) => h.boxed)
  obtain ⟨W1, hW1⟩ : ∃ W1, W1 = w.alloc (.cells #[.int .i64 id, .int .i64 uid, .int .i64 st, sv] 108) := ⟨_, rfl⟩
  rw [← hW1] at s1 HP HX
  obtain ⟨bx, hbx⟩ : ∃ bx, bx = w.heap.size := ⟨_, rfl⟩
  obtain ⟨Y, hY⟩ : ∃ Y : Nat → Prop, Y = (fun k => X k ∨ k = w.heap.size) := ⟨_, rfl⟩
  rw [← hY] at s1 HP HX
  rw [← hbx] at HX
  have S1 := hid s1
  have HW := hid hW1
  have HBX := hid hbx
  have HA := hid hac
  clear h s1 hW1 hY hbx ha hac
  go_enter Try.func155, Try.ntmps155
  go_upto_if 11 with fail
  rw [← HW.out, ← HBX.out]
  have s2 := S1.out.below (Below.refl _ W1).drew
  obtain ⟨y0, y1, y2, y3⟩ := HX.out _ _ S1.out
  obtain ⟨x0, x1, x2, x3⟩ := HA.out _ S1.out.fi.low
  have H2 := hid (s2.says (by omega) 5 id uid st a.f0 sv)
  clear s2
  go_wp2
  go_still_tail 6, (by kernel_rfl)
  change wpList _ _ _ _ _ _
  go_wp2_with (go_at_call 151
               go_must (with_reducible refine H2.out.mono ?_)
               rintro e w2 ⟨rfl, hi2⟩
               have S2 := hid hi2
               clear hi2)
  exact bodyPost_ret (v := .tuple #[]) (by simp [results, Try.results155, go_sem]) rfl ⟨rfl, HP.out _ _ S2.out⟩

set_option maxRecDepth 10000 in
set_option maxHeartbeats 4000000 in
theorem ctr_new {u w : World} {X : Nat → Prop} {pf : Nat} {L : List Ch} (h : FI u X pf L w) (hl : L.length ≤ 999990) {pb : Value} {c : CV} (hb : Pt PRelistNone.k112 u pb (some c)) (id uid st : Int) (sv : Value) :
    Calls Try.prog 155 #[.pointer (some ⟨pf, 0, none⟩), .agg #[.int .i64 id, .int .i64 uid, .int .i64 st, sv], .pointer none, pb] w fun e w' =>
      e = .returned (.tuple #[]) ∧ FI u X pf (L ++ oneC uid id none (some c)) w' ∧ KX X w w' := by
  obtain ⟨b, o, rfl, hc⟩ := pt_c hb
  have s1 : St u (fun k => X k ∨ k = w.heap.size) pf (w.alloc (.cells #[.int .i64 id, .int .i64 uid, .int .i64 st, sv] 108)) L (w.alloc (.cells #[.int .i64 id, .int .i64 uid, .int .i64 st, sv] 108)) := ⟨h.push _, KX.refl _ _⟩
  have HP := hid (fun L' V => St.post (L := L') (V := V) (o := .cells #[.int .i64 id, .int .i64 uid, .int .i64 st, sv] 108) h)
  have HX := hid (fun L' V (h : St u (fun k => X k ∨ k = w.heap.size) pf (w.alloc (.cells #[.int .i64 id, .int .i64 uid, .int .i64 st, sv] 108)) L' V) => h.boxed)
  obtain ⟨W1, hW1⟩ : ∃ W1, W1 = w.alloc (.cells #[.int .i64 id, .int .i64 uid, .int .i64 st, sv] 108) := ⟨_, rfl⟩
  rw [← hW1] at s1 HP HX
  obtain ⟨bx, hbx⟩ : ∃ bx, bx = w.heap.size := ⟨_, rfl⟩
  obtain ⟨Y, hY⟩ : ∃ Y : Nat → Prop, Y = (fun k => X k ∨ k = w.heap.size) := ⟨_, rfl⟩
  rw [← hY] at s1 HP HX
  rw [← hbx] at HX
  have S1 := hid s1
  have HW := hid hW1
  have HBX := hid hbx
  have HC := hid hc
  clear h s1 hW1 hY hbx hb hc
  go_enter Try.func155, Try.ntmps155
  go_upto_if 20 with fail
  rw [← HW.out, ← HBX.out]
  go_cut [8, 9] (fun s8 s9 wx => s8 = .bool false ∧ s9 = .bool false ∧ Hid (St u Y pf W1 (L ++ [(4, uid, id, c.f0)]) wx))
  case first =>
    have s2 := S1.out.below (Below.refl _ W1).drew
    obtain ⟨y0, y1, y2, y3⟩ := HX.out _ _ S1.out
    obtain ⟨x0, x1, x2, x3⟩ := HC.out _ S1.out.fi.low
    have H2 := hid (s2.says (by omega) 4 id uid st c.f0 sv)
    clear s2
    go_wp2
    go_still_tail 6, (by kernel_rfl)
    change wpList _ _ _ _ _ _
    go_wp2_with (go_at_call 151
                 go_must (with_reducible refine H2.out.mono ?_)
                 rintro e w2 ⟨rfl, hi2⟩
                 have S2 := hid hi2
                 clear hi2)
    go_meet
    exact ⟨rfl, rfl, S2⟩
  case rest =>
    obtain ⟨rfl, rfl, S2⟩ := hcut
    obtain ⟨L1, hL1⟩ : ∃ L1, L1 = L ++ [(4, uid, id, c.f0)] := ⟨_, rfl⟩
    rw [← hL1] at S2
    have hl1 : L1.length ≤ 999991 := by rw [hL1]; simp; omega
    obtain ⟨ran, hran⟩ : ∃ r, r = false := ⟨_, rfl⟩
    obtain ⟨died, hdied⟩ : ∃ r, r = false := ⟨_, rfl⟩
    obtain ⟨r, hr⟩ : ∃ r, r = runsB c.f3.f0 := ⟨_, rfl⟩
    obtain ⟨d, hd⟩ : ∃ d, d = doneB c.f3.f0 := ⟨_, rfl⟩
    have hfin : L ++ oneC uid id none (some c) = L1 ++ restR uid id (r && !ran) c ++ restD uid id (d && !died) c := by
      rw [hL1, hran, hdied, hr, hd]
      simp [oneC, restR, restD]
    have hd4 : (c.f3.f0 == 4) = d := by rw [hd]; rfl
    have HD4 := hid hd4
    have HF := hid hfin
    have hrw : ∀ w, Calls Try.prog 167 #[.agg #[.int .i64 c.f3.f0, .int .i64 c.f3.f1, .int .i64 c.f3.f2]] w fun e w' => e = .returned (.bool r) ∧ Below w.heap.size w w' := fun w => by rw [hr]; exact runs_any _ _ _ w
    have HRW := hid hrw
    clear hrw hfin hr hd hL1 hd4 S1
    subst hran
    subst hdied
    cases r
    · cases d
      · skip
        have hd4 := HD4.out
        obtain ⟨x0, x1, x2, x3⟩ := HC.out _ S2.out.fi.low
        go_wp2_with (go_at_call 167
                     go_must (with_reducible refine (HRW.out _).mono ?_)
                     rintro e w3 ⟨rfl, hb3⟩
                     have S3 := hid (S2.out.below hb3)
                     obtain ⟨z0, z1, z2, z3⟩ := HC.out _ S3.out.fi.low
                     clear hb3)
        go_end0
        have hp := HP.out _ _ S3.out
        have hf := HF.out
        simp only [restD, restR, Bool.not_true, Bool.not_false, Bool.and_false, Bool.and_true, Bool.false_eq_true, if_false, if_true, List.append_nil] at hf
        rw [hf]
        exact ⟨rfl, hp⟩
      · skip
        have hd4 := HD4.out
        obtain ⟨x0, x1, x2, x3⟩ := HC.out _ S2.out.fi.low
        go_wp2_with (go_at_call 167
                     go_must (with_reducible refine (HRW.out _).mono ?_)
                     rintro e w3 ⟨rfl, hb3⟩
                     have S3 := hid (S2.out.below hb3)
                     obtain ⟨z0, z1, z2, z3⟩ := HC.out _ S3.out.fi.low
                     clear hb3)
        obtain ⟨y0, y1, y2, y3⟩ := HX.out _ _ S3.out
        have H3 := hid ((S3.out.below (Below.refl _ w3).drew).says (by omega) 7 id uid st c.f0 sv)
        go_still_tail 6, (by kernel_rfl)
        change wpList _ _ _ _ _ _
        go_wp2_with (go_at_call 151
                     go_must (with_reducible refine H3.out.mono ?_)
                     rintro e w5 ⟨rfl, hi5⟩
                     have S5 := hid hi5
                     clear hi5)
        go_end0
        have hp := HP.out _ _ S5.out
        have hf := HF.out
        simp only [restD, restR, Bool.not_true, Bool.not_false, Bool.and_false, Bool.and_true, Bool.false_eq_true, if_false, if_true, List.append_nil] at hf
        rw [hf]
        exact ⟨rfl, hp⟩
    · cases d
      · skip
        have hd4 := HD4.out
        obtain ⟨x0, x1, x2, x3⟩ := HC.out _ S2.out.fi.low
        go_wp2_with (go_at_call 167
                     go_must (with_reducible refine (HRW.out _).mono ?_)
                     rintro e w3 ⟨rfl, hb3⟩
                     have S3 := hid (S2.out.below hb3)
                     obtain ⟨z0, z1, z2, z3⟩ := HC.out _ S3.out.fi.low
                     clear hb3)
        obtain ⟨y0, y1, y2, y3⟩ := HX.out _ _ S3.out
        have H2 := hid ((S3.out.below (Below.refl _ w3).drew).says (by omega) 6 id uid st c.f0 sv)
        go_still_tail 6, (by kernel_rfl)
        change wpList _ _ _ _ _ _
        go_wp2_with (go_at_call 151
                     go_must (with_reducible refine H2.out.mono ?_)
                     rintro e w4 ⟨rfl, hi4⟩
                     have S4 := hid hi4
                     obtain ⟨q0, q1, q2, q3⟩ := HC.out _ S4.out.fi.low
                     clear hi4)
        clear y0 y1 y2 y3
        go_end0
        have hp := HP.out _ _ S4.out
        have hf := HF.out
        simp only [restD, restR, Bool.not_true, Bool.not_false, Bool.and_false, Bool.and_true, Bool.false_eq_true, if_false, if_true, List.append_nil] at hf
        rw [hf]
        exact ⟨rfl, hp⟩
      · skip
        have hd4 := HD4.out
        obtain ⟨x0, x1, x2, x3⟩ := HC.out _ S2.out.fi.low
        go_wp2_with (go_at_call 167
                     go_must (with_reducible refine (HRW.out _).mono ?_)
                     rintro e w3 ⟨rfl, hb3⟩
                     have S3 := hid (S2.out.below hb3)
                     obtain ⟨z0, z1, z2, z3⟩ := HC.out _ S3.out.fi.low
                     clear hb3)
        obtain ⟨y0, y1, y2, y3⟩ := HX.out _ _ S3.out
        have H2 := hid ((S3.out.below (Below.refl _ w3).drew).says (by omega) 6 id uid st c.f0 sv)
        go_still_tail 6, (by kernel_rfl)
        change wpList _ _ _ _ _ _
        go_wp2_with (go_at_call 151
                     go_must (with_reducible refine H2.out.mono ?_)
                     rintro e w4 ⟨rfl, hi4⟩
                     have S4 := hid hi4
                     obtain ⟨q0, q1, q2, q3⟩ := HC.out _ S4.out.fi.low
                     clear hi4)
        clear y0 y1 y2 y3
        obtain ⟨y0, y1, y2, y3⟩ := HX.out _ _ S4.out
        have H3 := hid ((S4.out.below (Below.refl _ w4).drew).says (by simp; omega) 7 id uid st c.f0 sv)
        go_still_tail 6, (by kernel_rfl)
        change wpList _ _ _ _ _ _
        go_wp2_with (go_at_call 151
                     go_must (with_reducible refine H3.out.mono ?_)
                     rintro e w5 ⟨rfl, hi5⟩
                     have S5 := hid hi5
                     clear hi5)
        go_end0
        have hp := HP.out _ _ S5.out
        have hf := HF.out
        simp only [restD, restR, Bool.not_true, Bool.not_false, Bool.and_false, Bool.and_true, Bool.false_eq_true, if_false, if_true, List.append_nil] at hf
        rw [hf]
        exact ⟨rfl, hp⟩

set_option maxRecDepth 10000 in
set_option maxHeartbeats 4000000 in
theorem ctr_both {u w : World} {X : Nat → Prop} {pf : Nat} {L : List Ch} (h : FI u X pf L w) (hl : L.length ≤ 999990) {pa : Value} {a : CV} (ha : Pt PRelistNone.k112 u pa (some a)) {pb : Value} {c : CV} (hb : Pt PRelistNone.k112 u pb (some c)) (id uid st : Int) (sv : Value) :
    Calls Try.prog 155 #[.pointer (some ⟨pf, 0, none⟩), .agg #[.int .i64 id, .int .i64 uid, .int .i64 st, sv], pa, pb] w fun e w' =>
      e = .returned (.tuple #[]) ∧ FI u X pf (L ++ oneC uid id (some a) (some c)) w' ∧ KX X w w' := by
  obtain ⟨b, o, rfl, hc⟩ := pt_c hb
  obtain ⟨ab, ao, rfl, hac⟩ := pt_c ha
  have s1 : St u (fun k => X k ∨ k = w.heap.size) pf (w.alloc (.cells #[.int .i64 id, .int .i64 uid, .int .i64 st, sv] 108)) L (w.alloc (.cells #[.int .i64 id, .int .i64 uid, .int .i64 st, sv] 108)) := ⟨h.push _, KX.refl _ _⟩
  have HP := hid (fun L' V => St.post (L := L') (V := V) (o := .cells #[.int .i64 id, .int .i64 uid, .int .i64 st, sv] 108) h)
  have HX := hid (fun L' V (h : St u (fun k => X k ∨ k = w.heap.size) pf (w.alloc (.cells #[.int .i64 id, .int .i64 uid, .int .i64 st, sv] 108)) L' V) => h.boxed)
  obtain ⟨W1, hW1⟩ : ∃ W1, W1 = w.alloc (.cells #[.int .i64 id, .int .i64 uid, .int .i64 st, sv] 108) := ⟨_, rfl⟩
  rw [← hW1] at s1 HP HX
  obtain ⟨bx, hbx⟩ : ∃ bx, bx = w.heap.size := ⟨_, rfl⟩
  obtain ⟨Y, hY⟩ : ∃ Y : Nat → Prop, Y = (fun k => X k ∨ k = w.heap.size) := ⟨_, rfl⟩
  rw [← hY] at s1 HP HX
  rw [← hbx] at HX
  have S1 := hid s1
  have HW := hid hW1
  have HBX := hid hbx
  have HC := hid hc
  have HA := hid hac
  clear h s1 hW1 hY hbx hb hc ha hac
  go_enter Try.func155, Try.ntmps155
  go_upto_if 20 with fail
  rw [← HW.out, ← HBX.out]
  go_cut [8, 9] (fun s8 s9 wx => s8 = .bool (runsB a.f3.f0) ∧ s9 = .bool (doneB a.f3.f0) ∧ Hid (St u Y pf W1 L wx))
  case first =>
    obtain ⟨Wd, hWd⟩ : ∃ Wd, Wd = W1.drew := ⟨_, rfl⟩
    have S2 := hid (show St u Y pf W1 L Wd by rw [hWd]; exact S1.out.below (Below.refl _ W1).drew)
    have HWD := hid hWd
    clear hWd
    go_wp2
    refine start_ (n := 13) (S := fun V : World => V.cell? ⟨ab, ao + 3, none⟩ = some (.int .i64 a.f3.f0) ∧ V.cell? ⟨ab, ao + 4, none⟩ = some (.int .i64 a.f3.f1) ∧ V.cell? ⟨ab, ao + 5, none⟩ = some (.int .i64 a.f3.f2)) (ds := []) #[false, false, false, false, false, false, false, false, false, false, false, false, false] (by kernel_rfl) rfl rfl (by rw [← HWD.out]; exact (HA.out _ S2.out.fi.low).2) (fun hHeld => ?_); refine with_tabW ctr6.tab ctr6.bits (fun HT_ HW_ => ?_)
    rw [← HWD.out] at hHeld ⊢
    refine pure_ (i := 0) (N := some 28) (v := ?_) (a' := ?_) #[true, false, false, false, false, false, false, false, false, false, false, false, false] rfl rfl (any_of HT_.out (by kernel_rfl)) (fun _ _ _ h => h) (Or.inl ⟨by rfl, ?_⟩) ?_ ?_
    rotate_left
    · intro w'
      go_simp
      with_reducible rfl
    rotate_left
    · simp only [Act.put, List.setIfInBounds_toArray, List.set_cons_zero, List.set_cons_succ, i64_w, i32_w]
      rfl
    refine pure_ (i := 1) (N := some 29) (v := ?_) (a' := ?_) #[true, true, false, false, false, false, false, false, false, false, false, false, false] rfl rfl (any_of HT_.out (by kernel_rfl)) (fun _ _ _ h => h) (Or.inl ⟨by rfl, ?_⟩) ?_ ?_
    rotate_left
    · intro w'
      go_simp
      with_reducible rfl
    rotate_left
    · simp only [Act.put, List.setIfInBounds_toArray, List.set_cons_zero, List.set_cons_succ, i64_w, i32_w]
      rfl
    refine pure_ (i := 2) (N := some 30) (v := ?_) (a' := ?_) #[true, true, true, false, false, false, false, false, false, false, false, false, false] rfl rfl (any_of HT_.out (by kernel_rfl)) (fun _ _ _ h => h) (Or.inl ⟨by rfl, ?_⟩) ?_ ?_
    rotate_left
    · intro w'
      go_simp
      with_reducible rfl
    rotate_left
    · simp only [Act.put, List.setIfInBounds_toArray, List.set_cons_zero, List.set_cons_succ, i64_w, i32_w]
      rfl
    refine pure_ (i := 5) (N := some 33) (v := ?_) (a' := ?_) #[true, true, true, false, false, true, false, false, false, false, false, false, false] rfl rfl (any_of HT_.out (by kernel_rfl)) (fun _ _ _ h => h) (Or.inl ⟨by rfl, ?_⟩) ?_ ?_
    rotate_left
    · intro w'
      go_simp
      with_reducible rfl
    rotate_left
    · simp only [Act.put, List.setIfInBounds_toArray, List.set_cons_zero, List.set_cons_succ, i64_w, i32_w]
      rfl
    refine pure_ (i := 6) (N := some 34) (v := ?_) (a' := ?_) #[true, true, true, false, false, true, true, false, false, false, false, false, false] rfl rfl (any_of HT_.out (by kernel_rfl)) (fun _ _ _ h => h) (Or.inl ⟨by rfl, ?_⟩) ?_ ?_
    rotate_left
    · intro w'
      go_simp
      with_reducible rfl
    rotate_left
    · simp only [Act.put, List.setIfInBounds_toArray, List.set_cons_zero, List.set_cons_succ, i64_w, i32_w]
      rfl
    refine pure_ (i := 7) (N := some 35) (v := ?_) (a' := ?_) #[true, true, true, false, false, true, true, true, false, false, false, false, false] rfl rfl (any_of HT_.out (by kernel_rfl)) (fun _ _ _ h => h) (Or.inl ⟨by rfl, ?_⟩) ?_ ?_
    rotate_left
    · intro w'
      go_simp
      with_reducible rfl
    rotate_left
    · simp only [Act.put, List.setIfInBounds_toArray, List.set_cons_zero, List.set_cons_succ, i64_w, i32_w]
      rfl
    refine pure_ (i := 8) (N := some 36) (v := ?_) (a' := ?_) #[true, true, true, false, false, true, true, true, true, false, false, false, false] rfl rfl (any_of HT_.out (by kernel_rfl)) (fun _ _ _ h => h) (Or.inl ⟨by rfl, ?_⟩) ?_ ?_
    rotate_left
    · intro w'
      go_simp
      with_reducible rfl
    rotate_left
    · simp only [Act.put, List.setIfInBounds_toArray, List.set_cons_zero, List.set_cons_succ, i64_w, i32_w]
      rfl
    refine take_ (i := 3) (N := some 31) (v := ?_) (a' := ?_) #[true, true, true, true, false, true, true, true, true, false, false, false, false] rfl rfl (take_ofW HT_.out HW_.out (by kernel_rfl)) (fun _ _ _ h => h) (Or.inl ⟨by rfl, ?_⟩) hHeld ?_ ?_
    rotate_left
    · rintro w' ⟨q3, q4, q5⟩
      go_simp
      with_reducible rfl
    rotate_left
    · simp only [Act.put, List.setIfInBounds_toArray, List.set_cons_zero, List.set_cons_succ, i64_w, i32_w]
      rfl
    refine take_ (i := 9) (N := some 37) (v := ?_) (a' := ?_) #[true, true, true, true, false, true, true, true, true, true, false, false, false] rfl rfl (take_ofW HT_.out HW_.out (by kernel_rfl)) (fun _ _ _ h => h) (Or.inl ⟨by rfl, ?_⟩) hHeld ?_ ?_
    rotate_left
    · rintro w' ⟨q3, q4, q5⟩
      go_simp
      with_reducible rfl
    rotate_left
    · simp only [Act.put, List.setIfInBounds_toArray, List.set_cons_zero, List.set_cons_succ, i64_w, i32_w]
      rfl
    refine pure_ (i := 10) (N := some 38) (v := ?_) (a' := ?_) #[true, true, true, true, false, true, true, true, true, true, true, false, false] rfl rfl (any_of HT_.out (by kernel_rfl)) (fun _ _ _ h => h) (Or.inl ⟨by rfl, ?_⟩) ?_ ?_
    rotate_left
    · intro w'
      go_simp
      with_reducible rfl
    rotate_left
    · simp only [Act.put, List.setIfInBounds_toArray, List.set_cons_zero, List.set_cons_succ, i64_w, i32_w]
      rfl
    refine one_ (i := 4) (N := some 32) #[true, true, true, true, true, true, true, true, true, true, true, false, false] rfl rfl (one_of HT_.out (by kernel_rfl)) (by decide) (fun K hK => ?_)
    refine goes_ Try.func167 (by kernel_rfl) rfl #[.agg #[.int .i64 a.f3.f0, .int .i64 a.f3.f1, .int .i64 a.f3.f2]] (by rfl) rfl rfl (by (try simp only [List.map_toArray, List.map_cons, List.map_nil]); first | done | rfl) ?_
    with_reducible refine (runs_any _ _ _ _).mono ?_
    rintro e V4 ⟨rfl, hbq⟩
    refine ⟨_, rfl, ?_⟩
    have S4 := hid (S2.out.below hbq)
    clear hbq
    refine hK.out _ _ (HA.out _ S4.out.fi.low).2 (fun hHeld => ?_)
    clear hK K
    refine norm_ (a' := ?_) ?_ ?_
    rotate_left
    · show Act.put _ (some 32) _ = _
      simp only [Act.put, List.setIfInBounds_toArray, List.set_cons_zero, List.set_cons_succ, i64_w, i32_w]
      rfl
    refine pure_ (i := 11) (N := some 8) (v := ?_) (a' := ?_) #[true, true, true, true, true, true, true, true, true, true, true, true, false] rfl rfl (any_of HT_.out (by kernel_rfl)) (fun _ _ _ h => h) (Or.inl ⟨by rfl, ?_⟩) ?_ ?_
    rotate_left
    · intro w'
      go_simp
      with_reducible rfl
    rotate_left
    · simp only [Act.put, List.setIfInBounds_toArray, List.set_cons_zero, List.set_cons_succ, i64_w, i32_w]
      rfl
    refine pure_ (i := 12) (N := some 9) (v := ?_) (a' := ?_) #[true, true, true, true, true, true, true, true, true, true, true, true, true] rfl rfl (any_of HT_.out (by kernel_rfl)) (fun _ _ _ h => h) (Or.inl ⟨by rfl, ?_⟩) ?_ ?_
    rotate_left
    · intro w'
      go_simp
      with_reducible rfl
    rotate_left
    · simp only [Act.put, List.setIfInBounds_toArray, List.set_cons_zero, List.set_cons_succ, i64_w, i32_w]
      rfl
    refine done_ (done_of HT_.out (by kernel_rfl)) ?_
    go_wp2
    go_meet
    exact ⟨rfl, rfl, S4⟩
  case rest =>
    obtain ⟨rfl, rfl, S2⟩ := hcut
    obtain ⟨L1, hL1⟩ : ∃ L1, L1 = L := ⟨_, rfl⟩
    rw [← hL1] at S2
    have hl1 : L1.length ≤ 999991 := by rw [hL1]; omega
    obtain ⟨ran, hran⟩ : ∃ r, r = (runsB a.f3.f0) := ⟨_, rfl⟩
    obtain ⟨died, hdied⟩ : ∃ r, r = (doneB a.f3.f0) := ⟨_, rfl⟩
    obtain ⟨r, hr⟩ : ∃ r, r = runsB c.f3.f0 := ⟨_, rfl⟩
    obtain ⟨d, hd⟩ : ∃ d, d = doneB c.f3.f0 := ⟨_, rfl⟩
    have hfin : L ++ oneC uid id (some a) (some c) = L1 ++ restR uid id (r && !ran) c ++ restD uid id (d && !died) c := by
      rw [hL1, hran, hdied, hr, hd]
      simp [oneC, restR, restD]
    have hd4 : (c.f3.f0 == 4) = d := by rw [hd]; rfl
    have HD4 := hid hd4
    have HF := hid hfin
    have hrw : ∀ w, Calls Try.prog 167 #[.agg #[.int .i64 c.f3.f0, .int .i64 c.f3.f1, .int .i64 c.f3.f2]] w fun e w' => e = .returned (.bool r) ∧ Below w.heap.size w w' := fun w => by rw [hr]; exact runs_any _ _ _ w
    have HRW := hid hrw
    clear hrw hfin hr hd hL1 hd4 S1
    rw [← hran, ← hdied]
    clear hran hdied
    cases r
    · cases ran
      · cases d
        · cases died
          · skip
            have hd4 := HD4.out
            obtain ⟨x0, x1, x2, x3⟩ := HC.out _ S2.out.fi.low
            go_wp2_with (go_at_call 167
                         go_must (with_reducible refine (HRW.out _).mono ?_)
                         rintro e w3 ⟨rfl, hb3⟩
                         have S3 := hid (S2.out.below hb3)
                         obtain ⟨z0, z1, z2, z3⟩ := HC.out _ S3.out.fi.low
                         clear hb3)
            go_end0
            have hp := HP.out _ _ S3.out
            have hf := HF.out
            simp only [restD, restR, Bool.not_true, Bool.not_false, Bool.and_false, Bool.and_true, Bool.false_eq_true, if_false, if_true, List.append_nil] at hf
            rw [hf]
            exact ⟨rfl, hp⟩
          · skip
            have hd4 := HD4.out
            obtain ⟨x0, x1, x2, x3⟩ := HC.out _ S2.out.fi.low
            go_wp2_with (go_at_call 167
                         go_must (with_reducible refine (HRW.out _).mono ?_)
                         rintro e w3 ⟨rfl, hb3⟩
                         have S3 := hid (S2.out.below hb3)
                         obtain ⟨z0, z1, z2, z3⟩ := HC.out _ S3.out.fi.low
                         clear hb3)
            go_end0
            have hp := HP.out _ _ S3.out
            have hf := HF.out
            simp only [restD, restR, Bool.not_true, Bool.not_false, Bool.and_false, Bool.and_true, Bool.false_eq_true, if_false, if_true, List.append_nil] at hf
            rw [hf]
            exact ⟨rfl, hp⟩
        · cases died
          · skip
            have hd4 := HD4.out
            obtain ⟨x0, x1, x2, x3⟩ := HC.out _ S2.out.fi.low
            go_wp2_with (go_at_call 167
                         go_must (with_reducible refine (HRW.out _).mono ?_)
                         rintro e w3 ⟨rfl, hb3⟩
                         have S3 := hid (S2.out.below hb3)
                         obtain ⟨z0, z1, z2, z3⟩ := HC.out _ S3.out.fi.low
                         clear hb3)
            obtain ⟨y0, y1, y2, y3⟩ := HX.out _ _ S3.out
            have H3 := hid ((S3.out.below (Below.refl _ w3).drew).says (by omega) 7 id uid st c.f0 sv)
            go_still_tail 6, (by kernel_rfl)
            change wpList _ _ _ _ _ _
            go_wp2_with (go_at_call 151
                         go_must (with_reducible refine H3.out.mono ?_)
                         rintro e w5 ⟨rfl, hi5⟩
                         have S5 := hid hi5
                         clear hi5)
            go_end0
            have hp := HP.out _ _ S5.out
            have hf := HF.out
            simp only [restD, restR, Bool.not_true, Bool.not_false, Bool.and_false, Bool.and_true, Bool.false_eq_true, if_false, if_true, List.append_nil] at hf
            rw [hf]
            exact ⟨rfl, hp⟩
          · skip
            have hd4 := HD4.out
            obtain ⟨x0, x1, x2, x3⟩ := HC.out _ S2.out.fi.low
            go_wp2_with (go_at_call 167
                         go_must (with_reducible refine (HRW.out _).mono ?_)
                         rintro e w3 ⟨rfl, hb3⟩
                         have S3 := hid (S2.out.below hb3)
                         obtain ⟨z0, z1, z2, z3⟩ := HC.out _ S3.out.fi.low
                         clear hb3)
            go_end0
            have hp := HP.out _ _ S3.out
            have hf := HF.out
            simp only [restD, restR, Bool.not_true, Bool.not_false, Bool.and_false, Bool.and_true, Bool.false_eq_true, if_false, if_true, List.append_nil] at hf
            rw [hf]
            exact ⟨rfl, hp⟩
      · cases d
        · cases died
          · skip
            have hd4 := HD4.out
            obtain ⟨x0, x1, x2, x3⟩ := HC.out _ S2.out.fi.low
            go_wp2_with (go_at_call 167
                         go_must (with_reducible refine (HRW.out _).mono ?_)
                         rintro e w3 ⟨rfl, hb3⟩
                         have S3 := hid (S2.out.below hb3)
                         obtain ⟨z0, z1, z2, z3⟩ := HC.out _ S3.out.fi.low
                         clear hb3)
            go_end0
            have hp := HP.out _ _ S3.out
            have hf := HF.out
            simp only [restD, restR, Bool.not_true, Bool.not_false, Bool.and_false, Bool.and_true, Bool.false_eq_true, if_false, if_true, List.append_nil] at hf
            rw [hf]
            exact ⟨rfl, hp⟩
          · skip
            have hd4 := HD4.out
            obtain ⟨x0, x1, x2, x3⟩ := HC.out _ S2.out.fi.low
            go_wp2_with (go_at_call 167
                         go_must (with_reducible refine (HRW.out _).mono ?_)
                         rintro e w3 ⟨rfl, hb3⟩
                         have S3 := hid (S2.out.below hb3)
                         obtain ⟨z0, z1, z2, z3⟩ := HC.out _ S3.out.fi.low
                         clear hb3)
            go_end0
            have hp := HP.out _ _ S3.out
            have hf := HF.out
            simp only [restD, restR, Bool.not_true, Bool.not_false, Bool.and_false, Bool.and_true, Bool.false_eq_true, if_false, if_true, List.append_nil] at hf
            rw [hf]
            exact ⟨rfl, hp⟩
        · cases died
          · skip
            have hd4 := HD4.out
            obtain ⟨x0, x1, x2, x3⟩ := HC.out _ S2.out.fi.low
            go_wp2_with (go_at_call 167
                         go_must (with_reducible refine (HRW.out _).mono ?_)
                         rintro e w3 ⟨rfl, hb3⟩
                         have S3 := hid (S2.out.below hb3)
                         obtain ⟨z0, z1, z2, z3⟩ := HC.out _ S3.out.fi.low
                         clear hb3)
            obtain ⟨y0, y1, y2, y3⟩ := HX.out _ _ S3.out
            have H3 := hid ((S3.out.below (Below.refl _ w3).drew).says (by omega) 7 id uid st c.f0 sv)
            go_still_tail 6, (by kernel_rfl)
            change wpList _ _ _ _ _ _
            go_wp2_with (go_at_call 151
                         go_must (with_reducible refine H3.out.mono ?_)
                         rintro e w5 ⟨rfl, hi5⟩
                         have S5 := hid hi5
                         clear hi5)
            go_end0
            have hp := HP.out _ _ S5.out
            have hf := HF.out
            simp only [restD, restR, Bool.not_true, Bool.not_false, Bool.and_false, Bool.and_true, Bool.false_eq_true, if_false, if_true, List.append_nil] at hf
            rw [hf]
            exact ⟨rfl, hp⟩
          · skip
            have hd4 := HD4.out
            obtain ⟨x0, x1, x2, x3⟩ := HC.out _ S2.out.fi.low
            go_wp2_with (go_at_call 167
                         go_must (with_reducible refine (HRW.out _).mono ?_)
                         rintro e w3 ⟨rfl, hb3⟩
                         have S3 := hid (S2.out.below hb3)
                         obtain ⟨z0, z1, z2, z3⟩ := HC.out _ S3.out.fi.low
                         clear hb3)
            go_end0
            have hp := HP.out _ _ S3.out
            have hf := HF.out
            simp only [restD, restR, Bool.not_true, Bool.not_false, Bool.and_false, Bool.and_true, Bool.false_eq_true, if_false, if_true, List.append_nil] at hf
            rw [hf]
            exact ⟨rfl, hp⟩
    · cases ran
      · cases d
        · cases died
          · skip
            have hd4 := HD4.out
            obtain ⟨x0, x1, x2, x3⟩ := HC.out _ S2.out.fi.low
            go_wp2_with (go_at_call 167
                         go_must (with_reducible refine (HRW.out _).mono ?_)
                         rintro e w3 ⟨rfl, hb3⟩
                         have S3 := hid (S2.out.below hb3)
                         obtain ⟨z0, z1, z2, z3⟩ := HC.out _ S3.out.fi.low
                         clear hb3)
            obtain ⟨y0, y1, y2, y3⟩ := HX.out _ _ S3.out
            have H2 := hid ((S3.out.below (Below.refl _ w3).drew).says (by omega) 6 id uid st c.f0 sv)
            go_still_tail 6, (by kernel_rfl)
            change wpList _ _ _ _ _ _
            go_wp2_with (go_at_call 151
                         go_must (with_reducible refine H2.out.mono ?_)
                         rintro e w4 ⟨rfl, hi4⟩
                         have S4 := hid hi4
                         obtain ⟨q0, q1, q2, q3⟩ := HC.out _ S4.out.fi.low
                         clear hi4)
            clear y0 y1 y2 y3
            go_end0
            have hp := HP.out _ _ S4.out
            have hf := HF.out
            simp only [restD, restR, Bool.not_true, Bool.not_false, Bool.and_false, Bool.and_true, Bool.false_eq_true, if_false, if_true, List.append_nil] at hf
            rw [hf]
            exact ⟨rfl, hp⟩
          · skip
            have hd4 := HD4.out
            obtain ⟨x0, x1, x2, x3⟩ := HC.out _ S2.out.fi.low
            go_wp2_with (go_at_call 167
                         go_must (with_reducible refine (HRW.out _).mono ?_)
                         rintro e w3 ⟨rfl, hb3⟩
                         have S3 := hid (S2.out.below hb3)
                         obtain ⟨z0, z1, z2, z3⟩ := HC.out _ S3.out.fi.low
                         clear hb3)
            obtain ⟨y0, y1, y2, y3⟩ := HX.out _ _ S3.out
            have H2 := hid ((S3.out.below (Below.refl _ w3).drew).says (by omega) 6 id uid st c.f0 sv)
            go_still_tail 6, (by kernel_rfl)
            change wpList _ _ _ _ _ _
            go_wp2_with (go_at_call 151
                         go_must (with_reducible refine H2.out.mono ?_)
                         rintro e w4 ⟨rfl, hi4⟩
                         have S4 := hid hi4
                         obtain ⟨q0, q1, q2, q3⟩ := HC.out _ S4.out.fi.low
                         clear hi4)
            clear y0 y1 y2 y3
            go_end0
            have hp := HP.out _ _ S4.out
            have hf := HF.out
            simp only [restD, restR, Bool.not_true, Bool.not_false, Bool.and_false, Bool.and_true, Bool.false_eq_true, if_false, if_true, List.append_nil] at hf
            rw [hf]
            exact ⟨rfl, hp⟩
        · cases died
          · skip
            have hd4 := HD4.out
            obtain ⟨x0, x1, x2, x3⟩ := HC.out _ S2.out.fi.low
            go_wp2_with (go_at_call 167
                         go_must (with_reducible refine (HRW.out _).mono ?_)
                         rintro e w3 ⟨rfl, hb3⟩
                         have S3 := hid (S2.out.below hb3)
                         obtain ⟨z0, z1, z2, z3⟩ := HC.out _ S3.out.fi.low
                         clear hb3)
            obtain ⟨y0, y1, y2, y3⟩ := HX.out _ _ S3.out
            have H2 := hid ((S3.out.below (Below.refl _ w3).drew).says (by omega) 6 id uid st c.f0 sv)
            go_still_tail 6, (by kernel_rfl)
            change wpList _ _ _ _ _ _
            go_wp2_with (go_at_call 151
                         go_must (with_reducible refine H2.out.mono ?_)
                         rintro e w4 ⟨rfl, hi4⟩
                         have S4 := hid hi4
                         obtain ⟨q0, q1, q2, q3⟩ := HC.out _ S4.out.fi.low
                         clear hi4)
            clear y0 y1 y2 y3
            obtain ⟨y0, y1, y2, y3⟩ := HX.out _ _ S4.out
            have H3 := hid ((S4.out.below (Below.refl _ w4).drew).says (by simp; omega) 7 id uid st c.f0 sv)
            go_still_tail 6, (by kernel_rfl)
            change wpList _ _ _ _ _ _
            go_wp2_with (go_at_call 151
                         go_must (with_reducible refine H3.out.mono ?_)
                         rintro e w5 ⟨rfl, hi5⟩
                         have S5 := hid hi5
                         clear hi5)
            go_end0
            have hp := HP.out _ _ S5.out
            have hf := HF.out
            simp only [restD, restR, Bool.not_true, Bool.not_false, Bool.and_false, Bool.and_true, Bool.false_eq_true, if_false, if_true, List.append_nil] at hf
            rw [hf]
            exact ⟨rfl, hp⟩
          · skip
            have hd4 := HD4.out
            obtain ⟨x0, x1, x2, x3⟩ := HC.out _ S2.out.fi.low
            go_wp2_with (go_at_call 167
                         go_must (with_reducible refine (HRW.out _).mono ?_)
                         rintro e w3 ⟨rfl, hb3⟩
                         have S3 := hid (S2.out.below hb3)
                         obtain ⟨z0, z1, z2, z3⟩ := HC.out _ S3.out.fi.low
                         clear hb3)
            obtain ⟨y0, y1, y2, y3⟩ := HX.out _ _ S3.out
            have H2 := hid ((S3.out.below (Below.refl _ w3).drew).says (by omega) 6 id uid st c.f0 sv)
            go_still_tail 6, (by kernel_rfl)
            change wpList _ _ _ _ _ _
            go_wp2_with (go_at_call 151
                         go_must (with_reducible refine H2.out.mono ?_)
                         rintro e w4 ⟨rfl, hi4⟩
                         have S4 := hid hi4
                         obtain ⟨q0, q1, q2, q3⟩ := HC.out _ S4.out.fi.low
                         clear hi4)
            clear y0 y1 y2 y3
            go_end0
            have hp := HP.out _ _ S4.out
            have hf := HF.out
            simp only [restD, restR, Bool.not_true, Bool.not_false, Bool.and_false, Bool.and_true, Bool.false_eq_true, if_false, if_true, List.append_nil] at hf
            rw [hf]
            exact ⟨rfl, hp⟩
      · cases d
        · cases died
          · skip
            have hd4 := HD4.out
            obtain ⟨x0, x1, x2, x3⟩ := HC.out _ S2.out.fi.low
            go_wp2_with (go_at_call 167
                         go_must (with_reducible refine (HRW.out _).mono ?_)
                         rintro e w3 ⟨rfl, hb3⟩
                         have S3 := hid (S2.out.below hb3)
                         obtain ⟨z0, z1, z2, z3⟩ := HC.out _ S3.out.fi.low
                         clear hb3)
            go_end0
            have hp := HP.out _ _ S3.out
            have hf := HF.out
            simp only [restD, restR, Bool.not_true, Bool.not_false, Bool.and_false, Bool.and_true, Bool.false_eq_true, if_false, if_true, List.append_nil] at hf
            rw [hf]
            exact ⟨rfl, hp⟩
          · skip
            have hd4 := HD4.out
            obtain ⟨x0, x1, x2, x3⟩ := HC.out _ S2.out.fi.low
            go_wp2_with (go_at_call 167
                         go_must (with_reducible refine (HRW.out _).mono ?_)
                         rintro e w3 ⟨rfl, hb3⟩
                         have S3 := hid (S2.out.below hb3)
                         obtain ⟨z0, z1, z2, z3⟩ := HC.out _ S3.out.fi.low
                         clear hb3)
            go_end0
            have hp := HP.out _ _ S3.out
            have hf := HF.out
            simp only [restD, restR, Bool.not_true, Bool.not_false, Bool.and_false, Bool.and_true, Bool.false_eq_true, if_false, if_true, List.append_nil] at hf
            rw [hf]
            exact ⟨rfl, hp⟩
        · cases died
          · skip
            have hd4 := HD4.out
            obtain ⟨x0, x1, x2, x3⟩ := HC.out _ S2.out.fi.low
            go_wp2_with (go_at_call 167
                         go_must (with_reducible refine (HRW.out _).mono ?_)
                         rintro e w3 ⟨rfl, hb3⟩
                         have S3 := hid (S2.out.below hb3)
                         obtain ⟨z0, z1, z2, z3⟩ := HC.out _ S3.out.fi.low
                         clear hb3)
            obtain ⟨y0, y1, y2, y3⟩ := HX.out _ _ S3.out
            have H3 := hid ((S3.out.below (Below.refl _ w3).drew).says (by omega) 7 id uid st c.f0 sv)
            go_still_tail 6, (by kernel_rfl)
            change wpList _ _ _ _ _ _
            go_wp2_with (go_at_call 151
                         go_must (with_reducible refine H3.out.mono ?_)
                         rintro e w5 ⟨rfl, hi5⟩
                         have S5 := hid hi5
                         clear hi5)
            go_end0
            have hp := HP.out _ _ S5.out
            have hf := HF.out
            simp only [restD, restR, Bool.not_true, Bool.not_false, Bool.and_false, Bool.and_true, Bool.false_eq_true, if_false, if_true, List.append_nil] at hf
            rw [hf]
            exact ⟨rfl, hp⟩
          · skip
            have hd4 := HD4.out
            obtain ⟨x0, x1, x2, x3⟩ := HC.out _ S2.out.fi.low
            go_wp2_with (go_at_call 167
                         go_must (with_reducible refine (HRW.out _).mono ?_)
                         rintro e w3 ⟨rfl, hb3⟩
                         have S3 := hid (S2.out.below hb3)
                         obtain ⟨z0, z1, z2, z3⟩ := HC.out _ S3.out.fi.low
                         clear hb3)
            go_end0
            have hp := HP.out _ _ S3.out
            have hf := HF.out
            simp only [restD, restR, Bool.not_true, Bool.not_false, Bool.and_false, Bool.and_true, Bool.false_eq_true, if_false, if_true, List.append_nil] at hf
            rw [hf]
            exact ⟨rfl, hp⟩
end Go.Proofs.Ytnceglkoolfncaa.Rl
