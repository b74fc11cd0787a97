/- Use: the book: Add. -/
import Derived.Test.YtnceglkoolfncaaCd
import Derived.Test.YtnceglkoolfncaaPUsePlaysx2
set_option linter.unusedSimpArgs false
set_option linter.unusedVariables false
namespace Go.Proofs.Ytnceglkoolfncaa.Us
open Go.RowKit Go.Pv Go.Proofs.Ytnceglkoolfncaa.Po Go.Proofs.YtnceglkoolfncaaW.PrintWords Go.Proofs.YtnceglkoolfncaaW.PrintLast

def plusF (x y : Int) : Int := min (max (x + min (max y (-1099511627776)) 1099511627776) 0) 1099511627776
theorem plusF_in (x y : Int) : 0 ≤ plusF x y ∧ plusF x y ≤ 1099511627776 := by unfold plusF; omega
theorem plus_any {x : Int} (h : 0 ≤ x ∧ x ≤ 1099511627776) (y : Int) (w : World) : Calls Try.prog 127 #[.int .i64 x, .int .i64 y] w fun e w' => e = .returned (.int .i64 (plusF x y)) ∧ Below w.heap.size w w' := by
  refine PUsePlays.use_plus.calls x y _ w ?_
  unfold PUsePlays.use_plus.f
  have h1 : wrap64 (x + mn (mx y (-1099511627776)) 1099511627776) = x + min (max y (-1099511627776)) 1099511627776 := by
    unfold mn mx wrap64
    split <;> split <;> omega
  rw [h1]
  congr 1
  unfold mn mx plusF
  split <;> split <;> omega
def In3 (r : R3) : Prop := (0 ≤ r.1 ∧ r.1 ≤ 1099511627776) ∧ (0 ≤ r.2.1 ∧ r.2.1 ≤ 1099511627776) ∧ (0 ≤ r.2.2 ∧ r.2.2 ≤ 1099511627776)
def plus3 (x r : R3) : R3 := (plusF x.1 r.1, plusF x.2.1 r.2.1, plusF x.2.2 r.2.2)
theorem plus3_in (x r : R3) : In3 (plus3 x r) := ⟨plusF_in _ _, plusF_in _ _, plusF_in _ _⟩
def addS (s : US) (r : R3) : US := (plus3 s.1 r, max3 s.2 (plus3 s.1 r))
def addA (k : Int × Int) (r : R3) (al : UL) : UL := aset k (addS ((aget k al).getD z6) r) al

/-- Within Add: the boxes and the book. -/
structure A0 (w V : World) (p mb : Nat) (al : UL) (b c : Int) (r : R3) : Prop where
  low : Below w.heap.size w V
  bk : UBk V p mb al
  hp : p < w.heap.size
  hm : mb < w.heap.size
  bx : V.heap[w.heap.size]? = some (.cells #[.int .i64 r.1, .int .i64 r.2.1, .int .i64 r.2.2] 145 (0, 0))
  rt : V.heap[w.heap.size + 1]? = some (.cells #[.int .i64 0, .int .i64 0, .int .i64 0] 145 (0, 0))
  ky : V.heap[w.heap.size + 2]? = some (.cells #[.int .i64 b, .int .i64 c] 223 (0, 0))
structure A1 (w V : World) (p mb : Nat) (al : UL) (b c : Int) (r : R3) (s : US) : Prop extends A0 w V p mb al b c r where
  en : V.heap[w.heap.size + 3]? = some (.cells #[.int .i64 s.1.1, .int .i64 s.1.2.1, .int .i64 s.1.2.2, .int .i64 s.2.1, .int .i64 s.2.2.1, .int .i64 s.2.2.2] 225 (0, 0))
section
variable {w V V' : World} {p mb : Nat} {al : UL} {b c : Int} {r : R3} {s : US}
theorem A0.later (h : A0 w V p mb al b c r) (hb : Below V.heap.size V V') : A0 w V' p mb al b c r :=
  ⟨h.low.trans (hb.mono h.low.size), h.bk.below hb, h.hp, h.hm, (hb.block _ (Array.getElem?_eq_some_iff.1 h.bx).1).trans h.bx, (hb.block _ (Array.getElem?_eq_some_iff.1 h.rt).1).trans h.rt, (hb.block _ (Array.getElem?_eq_some_iff.1 h.ky).1).trans h.ky⟩
theorem A1.later (h : A1 w V p mb al b c r s) (hb : Below V.heap.size V V') : A1 w V' p mb al b c r s :=
  ⟨h.toA0.later hb, (hb.block _ (Array.getElem?_eq_some_iff.1 h.en).1).trans h.en⟩
theorem A0.start (h : UBk w p mb al) (b c : Int) (r : R3) : A0 w (((w.alloc (.cells #[.int .i64 r.1, .int .i64 r.2.1, .int .i64 r.2.2] 145)).alloc (.cells #[.int .i64 0, .int .i64 0, .int .i64 0] 145)).alloc (.cells #[.int .i64 b, .int .i64 c] 223)) p mb al b c r := by
  have k : Below w.heap.size w (((w.alloc (.cells #[.int .i64 r.1, .int .i64 r.2.1, .int .i64 r.2.2] 145)).alloc (.cells #[.int .i64 0, .int .i64 0, .int .i64 0] 145)).alloc (.cells #[.int .i64 b, .int .i64 c] 223)) :=
    (((Below.refl _ w).alloc (Nat.le_refl _) _).alloc (by simp) _).alloc (by simp; omega) _
  refine ⟨k, h.below k, h.lt.1, h.lt.2, ?_, ?_, heap_at _ _ _ (by simp)⟩
  · exact (Below.heap_alloc _ _ _ (by simp; omega)).trans ((Below.heap_alloc _ _ _ (by simp)).trans (heap_at _ _ _ rfl))
  · exact (Below.heap_alloc _ _ _ (by simp)).trans (heap_at _ _ _ (by simp))
theorem A1.turn {s' : US} (h : A1 w V p mb al b c r s) (k : Keeps (fun i => i = w.heap.size + 3) V V') (hb : V'.heap[w.heap.size + 3]? = some (.cells #[.int .i64 s'.1.1, .int .i64 s'.1.2.1, .int .i64 s'.1.2.2, .int .i64 s'.2.1, .int .i64 s'.2.2.1, .int .i64 s'.2.2.2] 225 (0, 0))) : A1 w V' p mb al b c r s' := by
  have l := h.low.size
  exact ⟨⟨h.low.trans (k.below l (fun i hi => by omega)), h.bk.kept k (by have := h.hp; omega) (by have := h.hm; omega), h.hp, h.hm, (k.block _ (Array.getElem?_eq_some_iff.1 h.bx).1 (by omega)).trans h.bx, (k.block _ (Array.getElem?_eq_some_iff.1 h.rt).1 (by omega)).trans h.rt, (k.block _ (Array.getElem?_eq_some_iff.1 h.ky).1 (by omega)).trans h.ky⟩, hb⟩
theorem A1.now (h : A1 w V p mb al b c r s) (m n o : Int) : A1 w (((V.setCell ⟨w.heap.size + 3, 0, none⟩ (.int .i64 m)).setCell ⟨w.heap.size + 3, 1, none⟩ (.int .i64 n)).setCell ⟨w.heap.size + 3, 2, none⟩ (.int .i64 o)) p mb al b c r ((m, n, o), s.2) := by
  refine h.turn ((((Keeps.refl (fun i => i = w.heap.size + 3) V).setCell ⟨_, 0, none⟩ _ (.inl rfl)).setCell ⟨_, 1, none⟩ _ (.inl rfl)).setCell ⟨_, 2, none⟩ _ (.inl rfl)) ?_
  have e1 := heap_setCell_same V _ 0 _ 225 (.int .i64 m) h.en
  have e2 := heap_setCell_same _ _ 1 _ 225 (.int .i64 n) e1
  exact heap_setCell_same _ _ 2 _ 225 (.int .i64 o) e2
theorem A1.peak (h : A1 w V p mb al b c r s) (m n o : Int) : A1 w (((V.setCell ⟨w.heap.size + 3, 3, none⟩ (.int .i64 m)).setCell ⟨w.heap.size + 3, 4, none⟩ (.int .i64 n)).setCell ⟨w.heap.size + 3, 5, none⟩ (.int .i64 o)) p mb al b c r (s.1, (m, n, o)) := by
  refine h.turn ((((Keeps.refl (fun i => i = w.heap.size + 3) V).setCell ⟨_, 3, none⟩ _ (.inl rfl)).setCell ⟨_, 4, none⟩ _ (.inl rfl)).setCell ⟨_, 5, none⟩ _ (.inl rfl)) ?_
  have e1 := heap_setCell_same V _ 3 _ 225 (.int .i64 m) h.en
  have e2 := heap_setCell_same _ _ 4 _ 225 (.int .i64 n) e1
  exact heap_setCell_same _ _ 5 _ 225 (.int .i64 o) e2
theorem A1.ec (h : A1 w V p mb al b c r s) : V.cell? ⟨w.heap.size + 3, 0, none⟩ = some (.int .i64 s.1.1) ∧ V.cell? ⟨w.heap.size + 3, 1, none⟩ = some (.int .i64 s.1.2.1) ∧ V.cell? ⟨w.heap.size + 3, 2, none⟩ = some (.int .i64 s.1.2.2) ∧
    V.cell? ⟨w.heap.size + 3, 3, none⟩ = some (.int .i64 s.2.1) ∧ V.cell? ⟨w.heap.size + 3, 4, none⟩ = some (.int .i64 s.2.2.1) ∧ V.cell? ⟨w.heap.size + 3, 5, none⟩ = some (.int .i64 s.2.2.2) ∧ ∀ j, V.frozen? ⟨w.heap.size + 3, j, none⟩ = false := by
  refine ⟨?_, ?_, ?_, ?_, ?_, ?_, fun j => by simp [World.frozen?, h.en]⟩ <;> (rw [cell_of_row V _ _ _ _ _ h.en]; rfl)
theorem A0.kc (h : A0 w V p mb al b c r) : V.cell? ⟨w.heap.size + 2, 0, none⟩ = some (.int .i64 b) ∧ V.cell? ⟨w.heap.size + 2, 1, none⟩ = some (.int .i64 c) := by
  refine ⟨?_, ?_⟩ <;> (rw [cell_of_row V _ _ _ _ _ h.ky]; rfl)
theorem A1.s3 (h : A1 w V p mb al b c r s) : V.cell? ⟨w.heap.size + 3, 0, none⟩ = some (.int .i64 s.1.1) ∧ V.cell? ⟨w.heap.size + 3, 1, none⟩ = some (.int .i64 s.1.2.1) ∧ V.cell? ⟨w.heap.size + 3, 2, none⟩ = some (.int .i64 s.1.2.2) ∧
    V.cell? ⟨w.heap.size, 0, none⟩ = some (.int .i64 r.1) ∧ V.cell? ⟨w.heap.size, 1, none⟩ = some (.int .i64 r.2.1) ∧ V.cell? ⟨w.heap.size, 2, none⟩ = some (.int .i64 r.2.2) := by
  obtain ⟨e0, e1, e2, -⟩ := h.ec
  refine ⟨e0, e1, e2, ?_, ?_, ?_⟩ <;> (rw [cell_of_row V _ _ _ _ _ h.bx]; rfl)
end
def add2.T : Bool × List (List Nat × List Nat) := (true, [([], []), ([0], [0]), ([1], [1]), ([2], [2]), ([], []), ([3, 4], [3, 4]), ([], []), ([6, 5, 0, 1, 2, 3, 4, 5, 6], [5, 6])])
def add2.B : List Nat := [0, 1, 3, 7, 0, 31, 0, 127]
theorem add2.tab : rtab .any (opsOf Try.f81 2) = add2.T := by kernel_rfl
theorem add2.bits : waitsOk add2.T.2 add2.B = true := by kernel_rfl
def add3.T : Bool × List (List Nat × List Nat) := (true, [([], []), ([0], [0]), ([1], [1]), ([], []), ([3], [3]), ([2, 4], [2, 4]), ([], []), ([6], [6]), ([7], [7]), ([], []), ([9], [9]), ([8, 10, 5], [8, 10]), ([], []), ([12], [12]), ([13], [13]), ([], []), ([15], [15]), ([14, 16, 11], [14, 16]), ([5, 11, 17], [5, 11, 17]), ([0, 1, 2, 3, 4, 5, 6, 7, 8, 9, 10, 11, 12, 13, 14, 15, 16, 17, 18], []), ([19, 18, 17, 0, 1, 2, 3, 4, 5, 6, 7, 8, 9, 10, 11, 12, 13, 14, 15, 16, 17, 18], [18, 19])])
def add3.B : List Nat := [0, 1, 3, 0, 8, 31, 0, 64, 192, 0, 512, 2047, 0, 4096, 12288, 0, 32768, 131071, 262143, 524287, 1048575]
theorem add3.tab : rtab .any (opsOf Try.f81 3) = add3.T := by kernel_rfl
theorem add3.bits : waitsOk add3.T.2 add3.B = true := by kernel_rfl
set_option maxRecDepth 100000 in
set_option maxHeartbeats 4000000 in
theorem add_any' {w : World} {p mb : Nat} {al : UL} (h : UBk w p mb al) (b c : Int) (r : R3) (hin : In3 ((aget (b, c) al).getD z6).1) :
    Calls Try.prog 81 #[.pointer (some ⟨p, 0, none⟩), .int .i64 b, .int .i64 c, rv r] w fun e w' => e = .returned (rv (addS ((aget (b, c) al).getD z6) r).1) ∧ UBk w' p mb (addA (b, c) r al) ∧ Keeps (fun i => i = mb) w w' := by
  unfold addA
  obtain ⟨⟨⟨x, y, z⟩, ⟨u, v, t⟩⟩, hs⟩ : ∃ s, s = (aget (b, c) al).getD z6 := ⟨_, rfl⟩
  rw [← hs] at hin ⊢
  obtain ⟨r0, r1, r2⟩ := r
  have H0 := hid (fun W => plus_any hin.1 r0 W)
  have H1 := hid (fun W => plus_any hin.2.1 r1 W)
  have H2 := hid (fun W => plus_any hin.2.2 r2 W)
  clear hin
  obtain ⟨m, hm⟩ : ∃ m, m = plusF x r0 := ⟨_, rfl⟩
  obtain ⟨n, hn⟩ : ∃ n, n = plusF y r1 := ⟨_, rfl⟩
  obtain ⟨o, ho⟩ : ∃ o, o = plusF z r2 := ⟨_, rfl⟩
  have hadd : addS ((x, y, z), (u, v, t)) (r0, r1, r2) = ((m, n, o), max3 (u, v, t) (m, n, o)) := by simp only [addS, plus3, hm, hn, ho]
  rw [hadd]
  obtain ⟨⟨pm, pn, po⟩, hmx⟩ : ∃ q, q = max3 (u, v, t) (m, n, o) := ⟨_, rfl⟩
  have hx := fun W => max_any (u, v, t) (m, n, o) W
  rw [← hmx] at hx ⊢
  unfold rv at hx
  have HX := hid hx
  clear hmx hx
  simp only at H0 H1 H2
  rw [← hm] at H0
  rw [← hn] at H1
  rw [← ho] at H2
  clear hadd hm hn ho
  have hst := A0.start h b c (r0, r1, r2)
  obtain ⟨W1, hW1⟩ : ∃ W1, W1 = (((w.alloc (.cells #[.int .i64 r0, .int .i64 r1, .int .i64 r2] 145)).alloc (.cells #[.int .i64 0, .int .i64 0, .int .i64 0] 145)).alloc (.cells #[.int .i64 b, .int .i64 c] 223)) := ⟨_, rfl⟩
  simp only at hst
  rw [← hW1] at hst
  obtain ⟨Wd, hWd⟩ : ∃ Wd, Wd = W1.drew := ⟨_, rfl⟩
  have hd : A0 w Wd p mb al b c (r0, r1, r2) := by rw [hWd]; exact hst.later (Below.refl _ _).drew
  have hz : Wd.heap.size = w.heap.size + 3 := by rw [hWd, hW1]; simp
  obtain ⟨W2, hW2⟩ : ∃ W2, W2 = Wd.alloc (.cells #[.int .i64 0, .int .i64 0, .int .i64 0, .int .i64 0, .int .i64 0, .int .i64 0] 225) := ⟨_, rfl⟩
  have k2 : Below Wd.heap.size Wd W2 := by rw [hW2]; exact (Below.refl _ Wd).alloc (Nat.le_refl _) _
  have m2 : W2.heap[w.heap.size + 3]? = some (.cells #[.int .i64 0, .int .i64 0, .int .i64 0, .int .i64 0, .int .i64 0, .int .i64 0] 225 (0, 0)) := by rw [hW2]; exact heap_at Wd _ _ hz.symm
  have h2 : A1 w W2 p mb al b c (r0, r1, r2) z6 := ⟨hd.later k2, m2⟩
  obtain ⟨W3, hW3⟩ : ∃ W3, W3 = (((((W2.setCell ⟨w.heap.size + 3, 0, none⟩ (.int .i64 x)).setCell ⟨w.heap.size + 3, 1, none⟩ (.int .i64 y)).setCell ⟨w.heap.size + 3, 2, none⟩ (.int .i64 z)).setCell ⟨w.heap.size + 3, 3, none⟩ (.int .i64 u)).setCell ⟨w.heap.size + 3, 4, none⟩ (.int .i64 v)).setCell ⟨w.heap.size + 3, 5, none⟩ (.int .i64 t) := ⟨_, rfl⟩
  have h3 : A1 w W3 p mb al b c (r0, r1, r2) ((x, y, z), (u, v, t)) := by rw [hW3]; exact (h2.now x y z).peak u v t
  have k3 : Below Wd.heap.size Wd W3 := by rw [hW3]; exact (((((k2.setCell (by simp; omega) _).setCell (by simp; omega) _).setCell (by simp; omega) _).setCell (by simp; omega) _).setCell (by simp; omega) _).setCell (by simp; omega) _
  obtain ⟨q0, q1, q2, q3, q4, q5, qf⟩ := h2.ec
  simp only [z6] at q0 q1 q2 q3 q4 q5
  have qf0 := qf 0
  have qf1 := qf 1
  have qf2 := qf 2
  have qf3 := qf 3
  have qf4 := qf 4
  have qf5 := qf 5
  have HS := hid (show ∀ V, Below Wd.heap.size Wd V → (fun V : World => V.cell? ⟨p, 0, none⟩ = some (.map (some mb)) ∧ V.cell? ⟨w.heap.size + 2, 0, none⟩ = some (.int .i64 b) ∧ V.cell? ⟨w.heap.size + 2, 1, none⟩ = some (.int .i64 c) ∧ (Instr.lookup 217 (.map (some mb)) (.agg #[.int .i64 b, .int .i64 c]) false).run Try.prog V = .ok (.agg #[.int .i64 x, .int .i64 y, .int .i64 z, .int .i64 u, .int .i64 v, .int .i64 t]) V) V from fun V hV => by
    have hv := hd.later hV
    have hl := hv.bk.look (b, c)
    rw [← hs] at hl
    exact ⟨hv.bk.c0, hv.kc.1, hv.kc.2, hl⟩)
  have HWD := hid hWd
  have HW1 := hid hW1
  have HW2 := hid hW2
  have HW3 := hid hW3
  have HK2 := hid k2
  have HK3 := hid k3
  have HA := hid h3
  have HZ := hid hz
  clear qf h hst hd hz k2 m2 h2 h3 k3 hs hWd hW1 hW2 hW3
  unfold rv
  go_enter Try.func81, Try.ntmps81
  go_upto_region 2 with fail
  rw [← HW1.out]
  refine start_ (n := 8) (S := fun V : World => V.cell? ⟨p, 0, none⟩ = some (.map (some mb)) ∧ V.cell? ⟨w.heap.size + 2, 0, none⟩ = some (.int .i64 b) ∧ V.cell? ⟨w.heap.size + 2, 1, none⟩ = some (.int .i64 c) ∧ (Instr.lookup 217 (.map (some mb)) (.agg #[.int .i64 b, .int .i64 c]) false).run Try.prog V = .ok (.agg #[.int .i64 x, .int .i64 y, .int .i64 z, .int .i64 u, .int .i64 v, .int .i64 t]) V) (ds := []) #[false, false, false, false, false, false, false, false] (by kernel_rfl) rfl rfl (by rw [← HWD.out]; exact HS.out _ (Below.refl _ _)) (fun hHeld => ?_); refine with_tabW add2.tab add2.bits (fun HT_ HW_ => ?_)
  rw [← HWD.out] at hHeld ⊢
  refine pure_ (i := 0) (N := some 14) (v := ?_) (a' := ?_) #[true, false, false, false, false, false, false, false] rfl rfl (any_of HT_.out (by kernel_rfl)) (fun _ _ _ h => h) (Or.inl ⟨by rfl, ?_⟩) ?_ ?_
  rotate_left
  · intro w'
    go_simp
    with_reducible rfl
  rotate_left
  · simp only [Act.put, List.setIfInBounds_toArray, List.set_cons_zero, List.set_cons_succ, i64_w, i32_w]
    rfl
  refine pure_ (i := 1) (N := some 15) (v := ?_) (a' := ?_) #[true, true, false, false, false, false, false, false] rfl rfl (any_of HT_.out (by kernel_rfl)) (fun _ _ _ h => h) (Or.inl ⟨by rfl, ?_⟩) ?_ ?_
  rotate_left
  · intro w'
    go_simp
    with_reducible rfl
  rotate_left
  · simp only [Act.put, List.setIfInBounds_toArray, List.set_cons_zero, List.set_cons_succ, i64_w, i32_w]
    rfl
  refine pure_ (i := 2) (N := some 16) (v := ?_) (a' := ?_) #[true, true, true, false, false, false, false, false] rfl rfl (any_of HT_.out (by kernel_rfl)) (fun _ _ _ h => h) (Or.inl ⟨by rfl, ?_⟩) ?_ ?_
  rotate_left
  · intro w'
    go_simp
    with_reducible rfl
  rotate_left
  · simp only [Act.put, List.setIfInBounds_toArray, List.set_cons_zero, List.set_cons_succ, i64_w, i32_w]
    rfl
  refine take_ (i := 3) (N := some 17) (v := ?_) (a' := ?_) #[true, true, true, true, false, false, false, false] rfl rfl (take_ofW HT_.out HW_.out (by kernel_rfl)) (fun _ _ _ h => h) (Or.inl ⟨by rfl, ?_⟩) hHeld ?_ ?_
  rotate_left
  · rintro w' ⟨s0, s1, s2, s3⟩
    go_simp
    with_reducible rfl
  rotate_left
  · simp only [Act.put, List.setIfInBounds_toArray, List.set_cons_zero, List.set_cons_succ, i64_w, i32_w]
    rfl
  refine take_ (i := 4) (N := some 18) (v := ?_) (a' := ?_) #[true, true, true, true, true, false, false, false] rfl rfl (take_ofW HT_.out HW_.out (by kernel_rfl)) (fun _ _ _ h => h) (Or.inl ⟨by rfl, ?_⟩) hHeld ?_ ?_
  rotate_left
  · rintro w' ⟨s0, s1, s2, s3⟩
    go_simp
    with_reducible rfl
  rotate_left
  · simp only [Act.put, List.setIfInBounds_toArray, List.set_cons_zero, List.set_cons_succ, i64_w, i32_w]
    rfl
  refine take_ (i := 5) (N := some 19) (v := ?_) (a' := ?_) #[true, true, true, true, true, true, false, false] rfl rfl (take_ofW HT_.out HW_.out (by kernel_rfl)) (fun _ _ _ h => h) (Or.inl ⟨by rfl, ?_⟩) hHeld ?_ ?_
  rotate_left
  · rintro w' ⟨s0, s1, s2, s3⟩
    go_simp
    with_reducible rfl
  rotate_left
  · simp only [Act.put, List.setIfInBounds_toArray, List.set_cons_zero, List.set_cons_succ, i64_w, i32_w]
    rfl
  refine one_ (i := 6) (N := some 10) #[true, true, true, true, true, true, true, false] rfl rfl (one_of HT_.out (by kernel_rfl)) (by decide) (fun K hK => ?_)
  refine value_ (v := .pointer (some ⟨w.heap.size + 3, 0, none⟩)) (w1 := W2) (by rfl) rfl (by rw [HW2.out, ← HZ.out]; go_simp) ?_
  refine hK.out _ _ (HS.out _ HK2.out) (fun hHeld => ?_)
  clear hK K
  refine norm_ (a' := ?_) ?_ ?_
  rotate_left
  · show Act.put _ (some 10) _ = _
    simp only [Act.put, List.setIfInBounds_toArray, List.set_cons_zero, List.set_cons_succ, i64_w, i32_w]
    rfl
  refine one_ (i := 7) (N := none) #[true, true, true, true, true, true, true, true] rfl rfl (one_of HT_.out (by kernel_rfl)) (by decide) (fun K hK => ?_)
  refine skip_ (w1 := W3) (by rfl) rfl (by rw [HW3.out]; go_simp) ?_
  refine hK.out _ _ (HS.out _ HK3.out) (fun hHeld => ?_)
  clear hK K
  refine done_ (done_of HT_.out (by kernel_rfl)) ?_
  clear q0 q1 q2 q3 q4 q5 qf0 qf1 qf2 qf3 qf4 qf5 HS HWD HW1 HW2 HW3 HK2 HK3 HZ
  go_upto_region 3 with fail
  have HAN := hid (HA.out.later (Below.refl _ _).drew)
  clear HA
  have HA := HAN
  clear HAN
  refine start_ (n := 21) (S := fun V : World => V.cell? ⟨w.heap.size + 3, 0, none⟩ = some (.int .i64 x) ∧ V.cell? ⟨w.heap.size + 3, 1, none⟩ = some (.int .i64 y) ∧ V.cell? ⟨w.heap.size + 3, 2, none⟩ = some (.int .i64 z) ∧ V.cell? ⟨w.heap.size, 0, none⟩ = some (.int .i64 r0) ∧ V.cell? ⟨w.heap.size, 1, none⟩ = some (.int .i64 r1) ∧ V.cell? ⟨w.heap.size, 2, none⟩ = some (.int .i64 r2)) (ds := [20]) #[false, false, false, false, false, false, false, false, false, false, false, false, false, false, false, false, false, false, false, false, false] (by kernel_rfl) rfl rfl HA.out.s3 (fun hHeld => ?_); refine with_tabW add3.tab add3.bits (fun HT_ HW_ => ?_)
  refine pure_ (i := 0) (N := some 20) (v := ?_) (a' := ?_) #[true, false, false, false, false, false, false, false, false, false, false, false, false, false, false, false, false, false, false, false, false] rfl rfl (any_of HT_.out (by kernel_rfl)) (fun _ _ _ h => h) (Or.inl ⟨by rfl, ?_⟩) ?_ ?_
  rotate_left
  · intro w'
    go_simp
    with_reducible rfl
  rotate_left
  · simp only [Act.put, List.setIfInBounds_toArray, List.set_cons_zero, List.set_cons_succ, i64_w, i32_w]
    rfl
  refine pure_ (i := 1) (N := some 21) (v := ?_) (a' := ?_) #[true, true, false, false, false, false, false, false, false, false, false, false, false, false, false, false, false, false, false, false, false] rfl rfl (any_of HT_.out (by kernel_rfl)) (fun _ _ _ h => h) (Or.inl ⟨by rfl, ?_⟩) ?_ ?_
  rotate_left
  · intro w'
    go_simp
    with_reducible rfl
  rotate_left
  · simp only [Act.put, List.setIfInBounds_toArray, List.set_cons_zero, List.set_cons_succ, i64_w, i32_w]
    rfl
  refine pure_ (i := 3) (N := some 23) (v := ?_) (a' := ?_) #[true, true, false, true, false, false, false, false, false, false, false, false, false, false, false, false, false, false, false, false, false] rfl rfl (any_of HT_.out (by kernel_rfl)) (fun _ _ _ h => h) (Or.inl ⟨by rfl, ?_⟩) ?_ ?_
  rotate_left
  · intro w'
    go_simp
    with_reducible rfl
  rotate_left
  · simp only [Act.put, List.setIfInBounds_toArray, List.set_cons_zero, List.set_cons_succ, i64_w, i32_w]
    rfl
  refine pure_ (i := 6) (N := some 26) (v := ?_) (a' := ?_) #[true, true, false, true, false, false, true, false, false, false, false, false, false, false, false, false, false, false, false, false, false] rfl rfl (any_of HT_.out (by kernel_rfl)) (fun _ _ _ h => h) (Or.inl ⟨by rfl, ?_⟩) ?_ ?_
  rotate_left
  · intro w'
    go_simp
    with_reducible rfl
  rotate_left
  · simp only [Act.put, List.setIfInBounds_toArray, List.set_cons_zero, List.set_cons_succ, i64_w, i32_w]
    rfl
  refine pure_ (i := 7) (N := some 27) (v := ?_) (a' := ?_) #[true, true, false, true, false, false, true, true, false, false, false, false, false, false, false, false, false, false, false, false, false] rfl rfl (any_of HT_.out (by kernel_rfl)) (fun _ _ _ h => h) (Or.inl ⟨by rfl, ?_⟩) ?_ ?_
  rotate_left
  · intro w'
    go_simp
    with_reducible rfl
  rotate_left
  · simp only [Act.put, List.setIfInBounds_toArray, List.set_cons_zero, List.set_cons_succ, i64_w, i32_w]
    rfl
  refine pure_ (i := 9) (N := some 29) (v := ?_) (a' := ?_) #[true, true, false, true, false, false, true, true, false, true, false, false, false, false, false, false, false, false, false, false, false] rfl rfl (any_of HT_.out (by kernel_rfl)) (fun _ _ _ h => h) (Or.inl ⟨by rfl, ?_⟩) ?_ ?_
  rotate_left
  · intro w'
    go_simp
    with_reducible rfl
  rotate_left
  · simp only [Act.put, List.setIfInBounds_toArray, List.set_cons_zero, List.set_cons_succ, i64_w, i32_w]
    rfl
  refine pure_ (i := 12) (N := some 32) (v := ?_) (a' := ?_) #[true, true, false, true, false, false, true, true, false, true, false, false, true, false, false, false, false, false, false, false, false] rfl rfl (any_of HT_.out (by kernel_rfl)) (fun _ _ _ h => h) (Or.inl ⟨by rfl, ?_⟩) ?_ ?_
  rotate_left
  · intro w'
    go_simp
    with_reducible rfl
  rotate_left
  · simp only [Act.put, List.setIfInBounds_toArray, List.set_cons_zero, List.set_cons_succ, i64_w, i32_w]
    rfl
  refine pure_ (i := 13) (N := some 33) (v := ?_) (a' := ?_) #[true, true, false, true, false, false, true, true, false, true, false, false, true, true, false, false, false, false, false, false, false] rfl rfl (any_of HT_.out (by kernel_rfl)) (fun _ _ _ h => h) (Or.inl ⟨by rfl, ?_⟩) ?_ ?_
  rotate_left
  · intro w'
    go_simp
    with_reducible rfl
  rotate_left
  · simp only [Act.put, List.setIfInBounds_toArray, List.set_cons_zero, List.set_cons_succ, i64_w, i32_w]
    rfl
  refine pure_ (i := 15) (N := some 35) (v := ?_) (a' := ?_) #[true, true, false, true, false, false, true, true, false, true, false, false, true, true, false, true, false, false, false, false, false] rfl rfl (any_of HT_.out (by kernel_rfl)) (fun _ _ _ h => h) (Or.inl ⟨by rfl, ?_⟩) ?_ ?_
  rotate_left
  · intro w'
    go_simp
    with_reducible rfl
  rotate_left
  · simp only [Act.put, List.setIfInBounds_toArray, List.set_cons_zero, List.set_cons_succ, i64_w, i32_w]
    rfl
  refine take_ (i := 2) (N := some 22) (v := ?_) (a' := ?_) #[true, true, true, true, false, false, true, true, false, true, false, false, true, true, false, true, false, false, false, false, false] rfl rfl (take_ofW HT_.out HW_.out (by kernel_rfl)) (fun _ _ _ h => h) (Or.inl ⟨by rfl, ?_⟩) hHeld ?_ ?_
  rotate_left
  · rintro w' ⟨s0, s1, s2, s3, s4, s5⟩
    go_simp
    with_reducible rfl
  rotate_left
  · simp only [Act.put, List.setIfInBounds_toArray, List.set_cons_zero, List.set_cons_succ, i64_w, i32_w]
    rfl
  refine take_ (i := 4) (N := some 24) (v := ?_) (a' := ?_) #[true, true, true, true, true, false, true, true, false, true, false, false, true, true, false, true, false, false, false, false, false] rfl rfl (take_ofW HT_.out HW_.out (by kernel_rfl)) (fun _ _ _ h => h) (Or.inl ⟨by rfl, ?_⟩) hHeld ?_ ?_
  rotate_left
  · rintro w' ⟨s0, s1, s2, s3, s4, s5⟩
    go_simp
    with_reducible rfl
  rotate_left
  · simp only [Act.put, List.setIfInBounds_toArray, List.set_cons_zero, List.set_cons_succ, i64_w, i32_w]
    rfl
  refine take_ (i := 8) (N := some 28) (v := ?_) (a' := ?_) #[true, true, true, true, true, false, true, true, true, true, false, false, true, true, false, true, false, false, false, false, false] rfl rfl (take_ofW HT_.out HW_.out (by kernel_rfl)) (fun _ _ _ h => h) (Or.inl ⟨by rfl, ?_⟩) hHeld ?_ ?_
  rotate_left
  · rintro w' ⟨s0, s1, s2, s3, s4, s5⟩
    go_simp
    with_reducible rfl
  rotate_left
  · simp only [Act.put, List.setIfInBounds_toArray, List.set_cons_zero, List.set_cons_succ, i64_w, i32_w]
    rfl
  refine take_ (i := 10) (N := some 30) (v := ?_) (a' := ?_) #[true, true, true, true, true, false, true, true, true, true, true, false, true, true, false, true, false, false, false, false, false] rfl rfl (take_ofW HT_.out HW_.out (by kernel_rfl)) (fun _ _ _ h => h) (Or.inl ⟨by rfl, ?_⟩) hHeld ?_ ?_
  rotate_left
  · rintro w' ⟨s0, s1, s2, s3, s4, s5⟩
    go_simp
    with_reducible rfl
  rotate_left
  · simp only [Act.put, List.setIfInBounds_toArray, List.set_cons_zero, List.set_cons_succ, i64_w, i32_w]
    rfl
  refine take_ (i := 14) (N := some 34) (v := ?_) (a' := ?_) #[true, true, true, true, true, false, true, true, true, true, true, false, true, true, true, true, false, false, false, false, false] rfl rfl (take_ofW HT_.out HW_.out (by kernel_rfl)) (fun _ _ _ h => h) (Or.inl ⟨by rfl, ?_⟩) hHeld ?_ ?_
  rotate_left
  · rintro w' ⟨s0, s1, s2, s3, s4, s5⟩
    go_simp
    with_reducible rfl
  rotate_left
  · simp only [Act.put, List.setIfInBounds_toArray, List.set_cons_zero, List.set_cons_succ, i64_w, i32_w]
    rfl
  refine take_ (i := 16) (N := some 36) (v := ?_) (a' := ?_) #[true, true, true, true, true, false, true, true, true, true, true, false, true, true, true, true, true, false, false, false, false] rfl rfl (take_ofW HT_.out HW_.out (by kernel_rfl)) (fun _ _ _ h => h) (Or.inl ⟨by rfl, ?_⟩) hHeld ?_ ?_
  rotate_left
  · rintro w' ⟨s0, s1, s2, s3, s4, s5⟩
    go_simp
    with_reducible rfl
  rotate_left
  · simp only [Act.put, List.setIfInBounds_toArray, List.set_cons_zero, List.set_cons_succ, i64_w, i32_w]
    rfl
  refine one_ (i := 5) (N := some 25) #[true, true, true, true, true, true, true, true, true, true, true, false, true, true, true, true, true, false, false, false, false] rfl rfl (one_of HT_.out (by kernel_rfl)) (by decide) (fun K hK => ?_)
  refine goes_ Try.func127 (by kernel_rfl) rfl #[.int .i64 x, .int .i64 r0] (by rfl) rfl rfl (by (try simp only [List.map_toArray, List.map_cons, List.map_nil]); first | done | rfl) ?_
  with_reducible refine (H0.out _).mono ?_
  rintro e_ V5 ⟨rfl, hb⟩
  refine ⟨_, rfl, ?_⟩
  have HAN := hid (HA.out.later hb)
  clear HA hb
  have HA := HAN
  clear HAN
  refine hK.out _ _ HA.out.s3 (fun hHeld => ?_)
  clear hK K
  refine norm_ (a' := ?_) ?_ ?_
  rotate_left
  · show Act.put _ (some 25) _ = _
    simp only [Act.put, List.setIfInBounds_toArray, List.set_cons_zero, List.set_cons_succ, i64_w, i32_w]
    rfl
  refine one_ (i := 11) (N := some 31) #[true, true, true, true, true, true, true, true, true, true, true, true, true, true, true, true, true, false, false, false, false] rfl rfl (one_of HT_.out (by kernel_rfl)) (by decide) (fun K hK => ?_)
  refine goes_ Try.func127 (by kernel_rfl) rfl #[.int .i64 y, .int .i64 r1] (by rfl) rfl rfl (by (try simp only [List.map_toArray, List.map_cons, List.map_nil]); first | done | rfl) ?_
  with_reducible refine (H1.out _).mono ?_
  rintro e_ V11 ⟨rfl, hb⟩
  refine ⟨_, rfl, ?_⟩
  have HAN := hid (HA.out.later hb)
  clear HA hb
  have HA := HAN
  clear HAN
  refine hK.out _ _ HA.out.s3 (fun hHeld => ?_)
  clear hK K
  refine norm_ (a' := ?_) ?_ ?_
  rotate_left
  · show Act.put _ (some 31) _ = _
    simp only [Act.put, List.setIfInBounds_toArray, List.set_cons_zero, List.set_cons_succ, i64_w, i32_w]
    rfl
  refine one_ (i := 17) (N := some 37) #[true, true, true, true, true, true, true, true, true, true, true, true, true, true, true, true, true, true, false, false, false] rfl rfl (one_of HT_.out (by kernel_rfl)) (by decide) (fun K hK => ?_)
  refine goes_ Try.func127 (by kernel_rfl) rfl #[.int .i64 z, .int .i64 r2] (by rfl) rfl rfl (by (try simp only [List.map_toArray, List.map_cons, List.map_nil]); first | done | rfl) ?_
  with_reducible refine (H2.out _).mono ?_
  rintro e_ V17 ⟨rfl, hb⟩
  refine ⟨_, rfl, ?_⟩
  have HAN := hid (HA.out.later hb)
  clear HA hb
  have HA := HAN
  clear HAN
  refine hK.out _ _ HA.out.s3 (fun hHeld => ?_)
  clear hK K
  refine norm_ (a' := ?_) ?_ ?_
  rotate_left
  · show Act.put _ (some 37) _ = _
    simp only [Act.put, List.setIfInBounds_toArray, List.set_cons_zero, List.set_cons_succ, i64_w, i32_w]
    rfl
  refine pure_ (i := 18) (N := some 38) (v := ?_) (a' := ?_) #[true, true, true, true, true, true, true, true, true, true, true, true, true, true, true, true, true, true, true, false, false] rfl rfl (any_of HT_.out (by kernel_rfl)) (fun _ _ _ h => h) (Or.inl ⟨by rfl, ?_⟩) ?_ ?_
  rotate_left
  · intro w'
    go_simp
    with_reducible rfl
  rotate_left
  · simp only [Act.put, List.setIfInBounds_toArray, List.set_cons_zero, List.set_cons_succ, i64_w, i32_w]
    rfl
  refine pure_ (i := 19) (N := some 39) (v := ?_) (a' := ?_) #[true, true, true, true, true, true, true, true, true, true, true, true, true, true, true, true, true, true, true, true, false] rfl rfl (any_of HT_.out (by kernel_rfl)) (fun _ _ _ h => h) (Or.inl ⟨by rfl, ?_⟩) ?_ ?_
  rotate_left
  · intro w'
    go_simp
    with_reducible rfl
  rotate_left
  · simp only [Act.put, List.setIfInBounds_toArray, List.set_cons_zero, List.set_cons_succ, i64_w, i32_w]
    rfl
  refine last_ (i := 20) (N := none) #[true, true, true, true, true, true, true, true, true, true, true, true, true, true, true, true, true, true, true, true, true] rfl rfl (one_of HT_.out (by kernel_rfl)) (by decide) (fun K hK => ?_)
  obtain ⟨W4, hW4⟩ : ∃ W4, W4 = ((V17.setCell ⟨w.heap.size + 3, 0, none⟩ (.int .i64 m)).setCell ⟨w.heap.size + 3, 1, none⟩ (.int .i64 n)).setCell ⟨w.heap.size + 3, 2, none⟩ (.int .i64 o) := ⟨_, rfl⟩
  have HAN := hid (show A1 w W4 p mb al b c (r0, r1, r2) ((m, n, o), (u, v, t)) by rw [hW4]; exact HA.out.now m n o)
  have HW4 := hid hW4
  obtain ⟨y0, y1, y2, -, -, -, yf⟩ := HA.out.ec
  have yf0 := yf 0
  have yf1 := yf 1
  have yf2 := yf 2
  clear hW4 yf
  refine skip_ (w1 := W4) (by rfl) rfl (by rw [HW4.out]; go_simp) ?_
  clear y0 y1 y2 yf0 yf1 yf2 HA HW4
  have HA := HAN
  clear HAN
  refine hK.out _ _ ?_
  clear hK K
  refine done_ (done_of HT_.out (by kernel_rfl)) ?_
  clear H0 H1 H2
  obtain ⟨e0, e1, e2, e3, e4, e5, -⟩ := HA.out.ec
  simp only at e0 e1 e2 e3 e4 e5
  go_upto_region 5 with (go_at_call 128; go_must (with_reducible refine (HX.out _).mono ?_); rintro e_ w5 ⟨rfl, hb⟩; have HA5 := hid (HA.out.later hb); obtain ⟨f0, f1, f2, f3, f4, f5, ff⟩ := HA5.out.ec; simp only at f0 f1 f2 f3 f4 f5; have ff3 := ff 3; have ff4 := ff 4; have ff5 := ff 5; clear hb ff)
  obtain ⟨W6, hW6⟩ : ∃ W6, W6 = ((w5.setCell ⟨w.heap.size + 3, 3, none⟩ (.int .i64 pm)).setCell ⟨w.heap.size + 3, 4, none⟩ (.int .i64 pn)).setCell ⟨w.heap.size + 3, 5, none⟩ (.int .i64 po) := ⟨_, rfl⟩
  have h6 : A1 w W6 p mb al b c (r0, r1, r2) ((m, n, o), (pm, pn, po)) := by rw [hW6]; exact HA5.out.peak pm pn po
  rw [← hW6]
  clear f0 f1 f2 f3 f4 f5 ff3 ff4 ff5 e0 e1 e2 e3 e4 e5 HA HA5 hW6 HX
  obtain ⟨W7, hr7, b7, k7, -⟩ := UBk.set (w := W6.drew) (h6.bk.below (Below.refl _ W6).drew) (b, c) ((m, n, o), (pm, pn, po))
  unfold kp usv at hr7
  have n0 : ¬ (w.heap.size + 3 = mb) := by have := h6.hm; omega
  have n1 : ¬ (w.heap.size + 1 = mb) := by have := h6.hm; omega
  have en7 : W7.heap[w.heap.size + 3]? = some (.cells #[.int .i64 m, .int .i64 n, .int .i64 o, .int .i64 pm, .int .i64 pn, .int .i64 po] 225 (0, 0)) := (k7.block _ (Array.getElem?_eq_some_iff.1 h6.en).1 n0).trans h6.en
  have rt7 : W7.heap[w.heap.size + 1]? = some (.cells #[.int .i64 0, .int .i64 0, .int .i64 0] 145 (0, 0)) := (k7.block _ (Array.getElem?_eq_some_iff.1 h6.rt).1 n1).trans h6.rt
  have low7 : Keeps (fun i => i = mb) w W7 := (Keeps.of_below h6.low).drew.trans k7 (fun i hi => .inl hi)
  obtain ⟨W8, hW8⟩ : ∃ W8, W8 = ((W7.setCell ⟨w.heap.size + 1, 0, none⟩ (.int .i64 m)).setCell ⟨w.heap.size + 1, 1, none⟩ (.int .i64 n)).setCell ⟨w.heap.size + 1, 2, none⟩ (.int .i64 o) := ⟨_, rfl⟩
  have k8 : Keeps (fun i => i = w.heap.size + 1) W7 W8 := by rw [hW8]; exact ((((Keeps.refl (fun i => i = w.heap.size + 1) W7).setCell ⟨_, 0, none⟩ _ (.inl rfl)).setCell ⟨_, 1, none⟩ _ (.inl rfl)).setCell ⟨_, 2, none⟩ _ (.inl rfl))
  have b8 : UBk W8 p mb (aset (b, c) ((m, n, o), (pm, pn, po)) al) := b7.kept k8 (by have := h6.hp; omega) (by have := h6.hm; omega)
  have low8 : Keeps (fun i => i = mb) w W8 := low7.trans k8 (fun i hi => .inr (by omega))
  have rt8 : W8.heap[w.heap.size + 1]? = some (.cells #[.int .i64 m, .int .i64 n, .int .i64 o] 145 (0, 0)) := by
    rw [hW8]
    have e1 := heap_setCell_same W7 _ 0 _ 145 (.int .i64 m) rt7
    have e2 := heap_setCell_same _ _ 1 _ 145 (.int .i64 n) e1
    exact heap_setCell_same _ _ 2 _ 145 (.int .i64 o) e2
  obtain ⟨g0, g1, g2, -⟩ := cells145 rt8
  obtain ⟨t0, t1, t2, tf⟩ := cells145 rt7
  have tf0 := tf 0
  have tf1 := tf 1
  have tf2 := tf 2
  have c6 := h6.bk.c0
  obtain ⟨ky0, ky1⟩ := h6.kc
  obtain ⟨e0, e1, e2, e3, e4, e5, -⟩ := h6.ec
  simp only at e0 e1 e2 e3 e4 e5
  have u0 : W7.cell? ⟨w.heap.size + 3, 0, none⟩ = some (.int .i64 m) := by rw [cell_of_row W7 _ _ _ _ _ en7]; rfl
  have u1 : W7.cell? ⟨w.heap.size + 3, 1, none⟩ = some (.int .i64 n) := by rw [cell_of_row W7 _ _ _ _ _ en7]; rfl
  have u2 : W7.cell? ⟨w.heap.size + 3, 2, none⟩ = some (.int .i64 o) := by rw [cell_of_row W7 _ _ _ _ _ en7]; rfl
  have HR7 := hid hr7
  have HE := hid (And.intro b8 low8)
  have HW8 := hid hW8
  clear h6 hr7 b7 k7 n0 n1 en7 rt7 low7 k8 b8 low8 rt8 tf hW8
  go_still_tail 6, (by kernel_rfl)
  change wpList _ _ _ _ _ _
  go_wp2_with (at_mapUpdate; refine wl_mapUpdate rfl _ _ _ _ rfl ⟨_, HR7.out, ?_⟩)
  rw [← HW8.out]
  exact bodyPost_ret (v := .agg #[.int .i64 m, .int .i64 n, .int .i64 o]) (by simp [results, Try.results81, go_sem, g0, g1, g2]) rfl ⟨rfl, HE.out⟩
end Go.Proofs.Ytnceglkoolfncaa.Us
