/- Images: how a store of images lies; there, Has, Users, Use, Leave, Drop (chapter 18). -/
import Derived.Test.YtmgcapccgncmkaaDoorTb
import Derived.Test.YtmgcapccgncmkaaDoorMs
import Derived.Test.YtmgcapccgncmkaaDoorWTab
import Derived.BigQuiet
import Derived.Deep.CutBlock
import Derived.Deep.DeepCutAuto
set_option linter.unusedSimpArgs false
set_option linter.unusedVariables false
namespace Go.Proofs.YtmgcapccgncmkaaDoor.Im
open Go.RowKit Go.Pv Go.Proofs.YtmgcapccgncmkaaDoor.Tx Go.Proofs.YtmgcapccgncmkaaDoorW.PrintWords Go.Proofs.YtmgcapccgncmkaaDoorW.PrintLast

theorem heap_at (w : World) (o : Obj) (n : Nat) (h : n = w.heap.size) : (w.alloc o).heap[n]? = some o := by subst h; exact heap_alloc_new w o
theorem cell_on {W V : World} {p : Addr} {u : Value} (hb : Below W.heap.size W V) (h : W.cell? p = some u) : V.cell? p = some u := (hb.cell (World.block_lt_of_cell? _ _ h)).trans h
/-! ### keys that are texts -/
def sv (s : ByteArray) : Value := .string s
theorem beq_bytes (a b : ByteArray) : (a == b) = decide (a = b) := by
  have h : (a == b) = (a.data == b.data) := rfl
  rw [h]
  by_cases e : a = b
  · subst e; simp
  · rw [decide_eq_false e]
    simp only [beq_eq_false_iff_ne]
    intro e2
    exact e (ByteArray.ext e2)
theorem findNow_str (a : ByteArray) : ∀ (es : List MapEntry) (ks : List ByteArray) (i : Nat), es.map (·.key) = ks.map sv →
    Instr.findNow .string (.string a) es i = some (findE a ks es i)
  | [], [], i, _ => rfl
  | e :: es, k :: ks, i, h => by
    simp only [List.map_cons, List.cons.injEq, sv] at h
    simp only [Instr.findNow, h.1, Instr.sameNow]
    by_cases hk : k = a
    · subst hk
      rw [beq_bytes, decide_eq_true rfl]
      simp [findE]
    · rw [beq_bytes, decide_eq_false (fun e => hk e.symm)]
      simp [findE, hk, findNow_str a es ks (i + 1) h.2]
  | [], _ :: _, _, h => by simp at h
  | _ :: _, [], _, h => by simp at h
theorem strKey {P : Program} {kt : TypeId} (hk : P.underlying kt = some .string) : KeyT P kt sv where
  inj := fun h => by simpa [sv] using h
  check := fun em w a => by
    unfold Instr.checkKey
    simp only [Sem.run_bind, run_underlying hk, Result.andThen_ok]
    rfl
  find := fun w a es ks h => by
    simp only [Instr.findKey, Sem.run_bind, run_underlying hk, Result.andThen_ok, sv, findNow_str a es ks 0 h, Sem.run_pure]
  stays := fun w a => by
    have : Instr.sameBits 10000 (Value.string a) (Value.string a) = true := by unfold Instr.sameBits; exact (beq_bytes a a).trans (decide_eq_true rfl)
    show (Instr.keyThatStays (Value.string a) (Value.string a)).run P w = _; simp only [Instr.keyThatStays, this, if_true, Sem.run_pure]; rfl

/-- An image: left, users, since. -/
abbrev Im := Int × Int × Int
def imv (s : Im) : Value := .agg #[.int .i64 s.1, .int .i64 s.2.1, .int .i64 s.2.2]
abbrev IL := List (ByteArray × Im)
theorem keyS : KeyT Tryd.prog 9 sv := strKey Tryd.underlying9
theorem zeroI (w : World) : (zeroValue 121).run Tryd.prog w = .ok (imv (0, 0, 0)) w := by kernel_rfl
/-- How a store of images lies. -/
structure IBk (w : World) (p mb : Nat) (al : IL) (tick : Int) : Prop where
  cell : w.heap[p]? = some (.cells #[.map (some mb), .int .i64 tick] 119 (0, 0))
  map : IsMap w mb sv (al.map fun r => (r.1, imv r.2))
  nd : (al.map (·.1)).Nodup
section
variable {w w' : World} {p mb : Nat} {al : IL} {tick : Int}
theorem IBk.lt (h : IBk w p mb al tick) : p < w.heap.size ∧ mb < w.heap.size := ⟨(Array.getElem?_eq_some_iff.1 h.cell).1, h.map.lt⟩
theorem IBk.ne (h : IBk w p mb al tick) : p ≠ mb := by
  intro e
  obtain ⟨es, clock, hb, _⟩ := h.map
  rw [← e, h.cell] at hb
  cases hb
theorem IBk.kept {F : Nat → Prop} (h : IBk w p mb al tick) (k : Keeps F w w') (hp : ¬ F p) (hm : ¬ F mb) : IBk w' p mb al tick := ⟨(k.block p h.lt.1 hp).trans h.cell, h.map.kept k hm, h.nd⟩
theorem IBk.below (h : IBk w p mb al tick) (k : Below w.heap.size w w') : IBk w' p mb al tick := h.kept (Keeps.of_below (F := fun _ => False) k) (by simp) (by simp)
theorem IBk.c0 (h : IBk w p mb al tick) : w.cell? ⟨p, 0, none⟩ = some (.map (some mb)) := by rw [cell_of_row w p 0 _ _ _ h.cell]; rfl
theorem IBk.c1 (h : IBk w p mb al tick) : w.cell? ⟨p, 1, none⟩ = some (.int .i64 tick) := by rw [cell_of_row w p 1 _ _ _ h.cell]; rfl
theorem IBk.fr (h : IBk w p mb al tick) (j : Nat) : w.frozen? ⟨p, j, none⟩ = false := by simp [World.frozen?, h.cell]
theorem IBk.len (h : IBk w p mb al tick) (ty : TypeId) : (Builtin.len_ #[117] ty #[.map (some mb)]).run Tryd.prog w = .ok (.int .i64 al.length) w := by
  have := h.map.len (P := Tryd.prog) (ty := ty) Tryd.underlying117
  rw [this, List.length_map]
theorem IBk.look (h : IBk w p mb al tick) (k : ByteArray) : (Instr.lookup 117 (.map (some mb)) (.string k) false).run Tryd.prog w = .ok (imv ((aget k al).getD (0, 0, 0))) w := by
  have := h.map.lookup keyS Tryd.underlying117 zeroI k
  rw [aget_map] at this
  refine this.trans ?_
  cases aget k al <;> rfl
theorem IBk.look_ok (h : IBk w p mb al tick) (k : ByteArray) : (Instr.lookup 117 (.map (some mb)) (.string k) true).run Tryd.prog w = .ok (.tuple #[imv ((aget k al).getD (0, 0, 0)), .bool (aget k al).isSome]) w := by
  have := h.map.lookup_ok keyS Tryd.underlying117 zeroI k
  rw [aget_map] at this
  refine this.trans ?_
  cases aget k al <;> rfl
theorem IBk.set (h : IBk w p mb al tick) (k : ByteArray) (s : Im) : ∃ w', (Instr.mapUpdate 117 (.map (some mb)) (.string k) (imv s)).run Tryd.prog w = .ok () w' ∧ IBk w' p mb (aset k s al) tick ∧ Keeps (fun i => i = mb) w w' ∧ w'.heap.size = w.heap.size := by
  obtain ⟨w1, h1, h2, h3, h4⟩ := h.map.update keyS Tryd.underlying117 k (imv s)
  rw [aset_map] at h2
  exact ⟨w1, h1, ⟨(h3.block p h.lt.1 h.ne).trans h.cell, h2, aset_nodup k s h.nd⟩, h3, h4⟩
end

set_option maxRecDepth 10000 in
theorem new_any (w : World) : Calls Tryd.prog 27 #[] w fun e w' => e = .returned (.pointer (some ⟨w.heap.size + 1, 0, none⟩)) ∧ IBk w' (w.heap.size + 1) w.heap.size [] 0 ∧ Below w.heap.size w w' := by
  have hmm := @run_makeMap Tryd.prog
  go_enter Tryd.func27, Tryd.ntmps27
  go_wp2
  go_ret
  exact ⟨rfl, ⟨heap_at _ _ _ (by simp), (IsMap.made w sv).kept ((Keeps.refl (fun _ => False) _).alloc _) (by simp), by simp⟩, ((Below.refl _ w).alloc (Nat.le_refl _) _).alloc (by simp) _⟩

/-- An image as it is, and whether it is there. -/
def getI (k : ByteArray) (al : IL) : Im := (aget k al).getD (0, 0, 0)
def thereB (k : ByteArray) (al : IL) : Bool := (aget k al).isSome && ((getI k al).1 == 0)
def put3 (W : World) (b : Nat) (x y z : Value) : World := ((W.setCell ⟨b, 0, none⟩ x).setCell ⟨b, 1, none⟩ y).setCell ⟨b, 2, none⟩ z
theorem put3_boxT {W : World} {b t : Nat} {x y z p q r : Value} (h : W.heap[b]? = some (.cells #[p, q, r] t (0, 0))) : (put3 W b x y z).heap[b]? = some (.cells #[x, y, z] t (0, 0)) := by
  have h1 := heap_setCell_same W b 0 _ t x h
  have h2 := heap_setCell_same _ b 1 _ t y h1
  have h3 := heap_setCell_same _ b 2 _ t z h2
  exact h3
theorem put3_cellsT {W : World} {b t : Nat} {x y z p q r : Value} (h : W.heap[b]? = some (.cells #[p, q, r] t (0, 0))) : (put3 W b x y z).cell? ⟨b, 0, none⟩ = some x ∧ (put3 W b x y z).cell? ⟨b, 1, none⟩ = some y ∧ (put3 W b x y z).cell? ⟨b, 2, none⟩ = some z := by
  have h1 := put3_boxT (x := x) (y := y) (z := z) h
  refine ⟨?_, ?_, ?_⟩ <;> (rw [cell_of_row _ _ _ _ _ _ h1]; rfl)
theorem put3_below {w W : World} {b : Nat} {x y z : Value} (h : Below w.heap.size w W) (hb : w.heap.size ≤ b) : Below w.heap.size w (put3 W b x y z) := ((h.setCell (p := ⟨b, 0, none⟩) hb x).setCell (p := ⟨b, 1, none⟩) hb y).setCell (p := ⟨b, 2, none⟩) hb z
def regThere.T : Bool × List (List Nat × List Nat) := (true, [([], []), ([], []), ([1], [1]), ([2], [2]), ([3, 2], [2, 3]), ([4, 2], [2, 4]), ([2, 5], [2, 5]), ([0, 2, 0], [0]), ([6, 7, 0, 1, 2, 3, 4, 5, 6, 7], [6])])
def regThere.B : List Nat := [0, 0, 2, 6, 14, 30, 62, 7, 255]
theorem regThere.tab : rtab .any (opsOf Tryd.f69 2) = regThere.T := by kernel_rfl
theorem regThere.bits : waitsOk regThere.T.2 regThere.B = true := by kernel_rfl

set_option maxRecDepth 10000 in
set_option maxHeartbeats 1000000 in
theorem there_any {w : World} {p mb : Nat} {al : IL} {tick : Int} (h : IBk w p mb al tick) (k : ByteArray) :
    Calls Tryd.prog 69 #[.pointer (some ⟨p, 0, none⟩), .string k] w fun e w' => e = .returned (.tuple #[imv (getI k al), .bool (thereB k al)]) ∧ Below w.heap.size w w' := by
  have hp := h.lt.1
  have c0 := cell_on ((Below.refl _ w).alloc (Nat.le_refl _) (.cells #[.int .i64 0, .int .i64 0, .int .i64 0] 121)) h.c0
  have HL := hid ((h.below ((Below.refl _ w).alloc (Nat.le_refl _) (.cells #[.int .i64 0, .int .i64 0, .int .i64 0] 121))).look_ok k)
  unfold thereB
  have hgi : (aget k al).getD (0, 0, 0) = getI k al := rfl
  rw [hgi] at HL
  clear h hgi
  generalize (aget k al).isSome = F at *
  generalize getI k al = s at *
  obtain ⟨l, u, s⟩ := s
  unfold imv at HL
  obtain ⟨Wd, hWd⟩ : ∃ Wd, Wd = ((w.alloc (.cells #[.int .i64 0, .int .i64 0, .int .i64 0] 121)).alloc (.cells #[.int .i64 l, .int .i64 u, .int .i64 s] 121)).drew := ⟨_, rfl⟩
  have HWd := hid hWd
  have x4 : Wd.heap[w.heap.size]? = some (.cells #[.int .i64 0, .int .i64 0, .int .i64 0] 121 (0, 0)) := by
    rw [hWd]
    exact (Below.heap_alloc _ _ _ (by simp)).trans (heap_alloc_new w _)
  have x6 : Wd.heap[w.heap.size + 1]? = some (.cells #[.int .i64 l, .int .i64 u, .int .i64 s] 121 (0, 0)) := by
    rw [hWd]
    exact heap_at _ _ _ (by simp)
  have HX := hid (show Wd.cell? ⟨w.heap.size + 1, 0, none⟩ = some (.int .i64 l) ∧ Wd.cell? ⟨w.heap.size + 1, 1, none⟩ = some (.int .i64 u) ∧ Wd.cell? ⟨w.heap.size + 1, 2, none⟩ = some (.int .i64 s) by
    refine ⟨?_, ?_, ?_⟩ <;> (rw [cell_of_row _ _ _ _ _ _ x6]; rfl))
  have HB := hid (show Below w.heap.size w Wd by rw [hWd]; exact (((Below.refl _ w).alloc (Nat.le_refl _) _).alloc (by simp) _).drew)
  have d0 : Wd.cell? ⟨w.heap.size, 0, none⟩ = some (.int .i64 0) := by rw [cell_of_row _ _ _ _ _ _ x4]; rfl
  have d1 : Wd.cell? ⟨w.heap.size, 1, none⟩ = some (.int .i64 0) := by rw [cell_of_row _ _ _ _ _ _ x4]; rfl
  have d2 : Wd.cell? ⟨w.heap.size, 2, none⟩ = some (.int .i64 0) := by rw [cell_of_row _ _ _ _ _ _ x4]; rfl
  have df : ∀ j, Wd.frozen? ⟨w.heap.size, j, none⟩ = false := fun j => by simp [World.frozen?, x4]
  have df0 := df 0
  have df1 := df 1
  have df2 := df 2
  have X4 := hid x4
  have HX3 := hid (show (fun V : World => V.cell? ⟨w.heap.size + 1, 0, none⟩ = some (.int .i64 l) ∧ V.cell? ⟨w.heap.size + 1, 1, none⟩ = some (.int .i64 u) ∧ V.cell? ⟨w.heap.size + 1, 2, none⟩ = some (.int .i64 s)) (put3 Wd w.heap.size (.int .i64 l) (.int .i64 u) (.int .i64 s)) by
    have x6' : (put3 Wd w.heap.size (.int .i64 l) (.int .i64 u) (.int .i64 s)).heap[w.heap.size + 1]? = some (.cells #[.int .i64 l, .int .i64 u, .int .i64 s] 121 (0, 0)) := by
      unfold put3
      rw [Below.heap_setCell _ _ _ _ (by simp), Below.heap_setCell _ _ _ _ (by simp), Below.heap_setCell _ _ _ _ (by simp)]
      exact x6
    refine ⟨?_, ?_, ?_⟩ <;> (rw [cell_of_row _ _ _ _ _ _ x6']; rfl))
  clear hWd x4 x6 df
  cases F with
  | true =>
    go_enter Tryd.func69, Tryd.ntmps69
    go_wp2_with (at_lookup; refine wl_lookup rfl _ _ _ _ rfl ⟨_, _, HL.out, ?_⟩)
    refine start_ (n := 9) (S := fun V : World => V.cell? ⟨w.heap.size + 1, 0, none⟩ = some (.int .i64 l) ∧ V.cell? ⟨w.heap.size + 1, 1, none⟩ = some (.int .i64 u) ∧ V.cell? ⟨w.heap.size + 1, 2, none⟩ = some (.int .i64 s)) (ds := []) #[false, false, false, false, false, false, false, false, false] (by kernel_rfl) rfl rfl (by rw [← HWd.out]; exact HX.out) (fun hHeld => ?_); refine with_tabW regThere.tab regThere.bits (fun HT_ HW_ => ?_)
    rw [← HWd.out] at hHeld ⊢
    refine pure_ (i := 1) (N := some 18) (v := ?_) (a' := ?_) #[false, true, false, false, false, false, false, false, false] rfl rfl (any_of HT_.out (by kernel_rfl)) (fun _ _ _ h => h) (Or.inl ⟨by rfl, ?_⟩) ?_ ?_
    rotate_left
    · intro w'
      go_simp
      with_reducible rfl
    rotate_left
    · simp only [Act.put, List.setIfInBounds_toArray, List.set_cons_zero, List.set_cons_succ, i64_w, i32_w]
      rfl
    refine pure_ (i := 2) (N := some 19) (v := ?_) (a' := ?_) #[false, true, true, false, false, false, false, false, false] rfl rfl (any_of HT_.out (by kernel_rfl)) (fun _ _ _ h => h) (Or.inl ⟨by rfl, ?_⟩) ?_ ?_
    rotate_left
    · intro w'
      go_simp
      with_reducible rfl
    rotate_left
    · simp only [Act.put, List.setIfInBounds_toArray, List.set_cons_zero, List.set_cons_succ, i64_w, i32_w]
      rfl
    refine pure_ (i := 3) (N := some 20) (v := ?_) (a' := ?_) #[false, true, true, true, false, false, false, false, false] rfl rfl (any_of HT_.out (by kernel_rfl)) (fun _ _ _ h => h) (Or.inl ⟨by rfl, ?_⟩) ?_ ?_
    rotate_left
    · intro w'
      go_simp
      with_reducible rfl
    rotate_left
    · simp only [Act.put, List.setIfInBounds_toArray, List.set_cons_zero, List.set_cons_succ, i64_w, i32_w]
      rfl
    refine take_ (i := 0) (N := some 17) (v := ?_) (a' := ?_) #[true, true, true, true, false, false, false, false, false] rfl rfl (take_ofW HT_.out HW_.out (by kernel_rfl)) (fun _ _ _ h => h) (Or.inl ⟨by rfl, ?_⟩) hHeld ?_ ?_
    rotate_left
    · rintro w' ⟨s0, s1, s2⟩
      go_simp
      with_reducible rfl
    rotate_left
    · simp only [Act.put, List.setIfInBounds_toArray, List.set_cons_zero, List.set_cons_succ, i64_w, i32_w]
      rfl
    refine take_ (i := 4) (N := some 21) (v := ?_) (a' := ?_) #[true, true, true, true, true, false, false, false, false] rfl rfl (take_ofW HT_.out HW_.out (by kernel_rfl)) (fun _ _ _ h => h) (Or.inl ⟨by rfl, ?_⟩) hHeld ?_ ?_
    rotate_left
    · rintro w' ⟨s0, s1, s2⟩
      go_simp
      with_reducible rfl
    rotate_left
    · simp only [Act.put, List.setIfInBounds_toArray, List.set_cons_zero, List.set_cons_succ, i64_w, i32_w]
      rfl
    refine pure_ (i := 5) (N := some 22) (v := ?_) (a' := ?_) #[true, true, true, true, true, true, false, false, false] rfl rfl (any_of HT_.out (by kernel_rfl)) (fun _ _ _ h => h) (Or.inl ⟨by rfl, ?_⟩) ?_ ?_
    rotate_left
    · intro w'
      go_simp
      with_reducible rfl
    rotate_left
    · simp only [Act.put, List.setIfInBounds_toArray, List.set_cons_zero, List.set_cons_succ, i64_w, i32_w]
      rfl
    refine pure_ (i := 6) (N := some 23) (v := ?_) (a' := ?_) #[true, true, true, true, true, true, true, false, false] rfl rfl (any_of HT_.out (by kernel_rfl)) (fun _ _ _ h => h) (Or.inl ⟨by rfl, ?_⟩) ?_ ?_
    rotate_left
    · intro w'
      go_simp
      with_reducible rfl
    rotate_left
    · simp only [Act.put, List.setIfInBounds_toArray, List.set_cons_zero, List.set_cons_succ, i64_w, i32_w]
      rfl
    refine one_ (i := 7) (N := none) #[true, true, true, true, true, true, true, true, false] rfl rfl (one_of HT_.out (by kernel_rfl)) (by decide) (fun K hK => ?_)
    refine skip_ (w1 := ((Wd.setCell ⟨w.heap.size, 0, none⟩ (.int .i64 l)).setCell ⟨w.heap.size, 1, none⟩ (.int .i64 u)).setCell ⟨w.heap.size, 2, none⟩ (.int .i64 s)) (by rfl) rfl (by go_simp) ?_
    refine hK.out _ _ HX3.out (fun hHeld => ?_)
    clear hK K
    refine pure_ (i := 8) (N := some 5) (v := ?_) (a' := ?_) #[true, true, true, true, true, true, true, true, true] rfl rfl (any_of HT_.out (by kernel_rfl)) (fun _ _ _ h => h) (Or.inl ⟨by rfl, ?_⟩) ?_ ?_
    rotate_left
    · intro w'
      go_simp
      with_reducible rfl
    rotate_left
    · simp only [Act.put, List.setIfInBounds_toArray, List.set_cons_zero, List.set_cons_succ, i64_w, i32_w]
      rfl
    refine done_ (done_of HT_.out (by kernel_rfl)) ?_
    go_wp2_with fail
    obtain ⟨p0, p1, p2⟩ := put3_cellsT (x := .int .i64 l) (y := .int .i64 u) (z := .int .i64 s) X4.out
    unfold put3 at p0 p1 p2
    refine bodyPost_ret (v := .tuple #[.agg #[.int .i64 l, .int .i64 u, .int .i64 s], .bool (l == 0)]) (by simp [results, Tryd.results69, go_sem, p0, p1, p2]) rfl ?_
    exact ⟨by simp [imv], put3_below HB.out (Nat.le_refl _)⟩
  | false =>
    go_enter Tryd.func69, Tryd.ntmps69
    go_wp2_with (at_lookup; refine wl_lookup rfl _ _ _ _ rfl ⟨_, _, HL.out, ?_⟩)
    refine start_ (n := 9) (S := fun V : World => V.cell? ⟨w.heap.size + 1, 0, none⟩ = some (.int .i64 l) ∧ V.cell? ⟨w.heap.size + 1, 1, none⟩ = some (.int .i64 u) ∧ V.cell? ⟨w.heap.size + 1, 2, none⟩ = some (.int .i64 s)) (ds := []) #[false, false, false, false, false, false, false, false, false] (by kernel_rfl) rfl rfl (by rw [← HWd.out]; exact HX.out) (fun hHeld => ?_); refine with_tabW regThere.tab regThere.bits (fun HT_ HW_ => ?_)
    rw [← HWd.out] at hHeld ⊢
    refine pure_ (i := 1) (N := some 18) (v := ?_) (a' := ?_) #[false, true, false, false, false, false, false, false, false] rfl rfl (any_of HT_.out (by kernel_rfl)) (fun _ _ _ h => h) (Or.inl ⟨by rfl, ?_⟩) ?_ ?_
    rotate_left
    · intro w'
      go_simp
      with_reducible rfl
    rotate_left
    · simp only [Act.put, List.setIfInBounds_toArray, List.set_cons_zero, List.set_cons_succ, i64_w, i32_w]
      rfl
    refine pure_ (i := 2) (N := some 19) (v := ?_) (a' := ?_) #[false, true, true, false, false, false, false, false, false] rfl rfl (any_of HT_.out (by kernel_rfl)) (fun _ _ _ h => h) (Or.inl ⟨by rfl, ?_⟩) ?_ ?_
    rotate_left
    · intro w'
      go_simp
      with_reducible rfl
    rotate_left
    · simp only [Act.put, List.setIfInBounds_toArray, List.set_cons_zero, List.set_cons_succ, i64_w, i32_w]
      rfl
    refine pure_ (i := 3) (N := some 20) (v := undef) (a' := ?_) #[false, true, true, true, false, false, false, false, false] rfl rfl (any_of HT_.out (by kernel_rfl)) (fun _ _ _ h => h) (Or.inr ⟨by rfl, rfl⟩) ?_ ?_
    rotate_left
    · simp only [Act.put, List.setIfInBounds_toArray, List.set_cons_zero, List.set_cons_succ, i64_w, i32_w]
      rfl
    refine pure_ (i := 4) (N := some 21) (v := undef) (a' := ?_) #[false, true, true, true, true, false, false, false, false] rfl rfl (any_of HT_.out (by kernel_rfl)) (fun _ _ _ h => h) (Or.inr ⟨by rfl, rfl⟩) ?_ ?_
    rotate_left
    · simp only [Act.put, List.setIfInBounds_toArray, List.set_cons_zero, List.set_cons_succ, i64_w, i32_w]
      rfl
    refine pure_ (i := 5) (N := some 22) (v := undef) (a' := ?_) #[false, true, true, true, true, true, false, false, false] rfl rfl (any_of HT_.out (by kernel_rfl)) (fun _ _ _ h => h) (Or.inr ⟨by rfl, rfl⟩) ?_ ?_
    rotate_left
    · simp only [Act.put, List.setIfInBounds_toArray, List.set_cons_zero, List.set_cons_succ, i64_w, i32_w]
      rfl
    refine pure_ (i := 6) (N := some 23) (v := ?_) (a' := ?_) #[false, true, true, true, true, true, true, false, false] rfl rfl (any_of HT_.out (by kernel_rfl)) (fun _ _ _ h => h) (Or.inl ⟨by rfl, ?_⟩) ?_ ?_
    rotate_left
    · intro w'
      go_simp
      with_reducible rfl
    rotate_left
    · simp only [Act.put, List.setIfInBounds_toArray, List.set_cons_zero, List.set_cons_succ, i64_w, i32_w]
      rfl
    refine take_ (i := 0) (N := some 17) (v := ?_) (a' := ?_) #[true, true, true, true, true, true, true, false, false] rfl rfl (take_ofW HT_.out HW_.out (by kernel_rfl)) (fun _ _ _ h => h) (Or.inl ⟨by rfl, ?_⟩) hHeld ?_ ?_
    rotate_left
    · rintro w' ⟨s0, s1, s2⟩
      go_simp
      with_reducible rfl
    rotate_left
    · simp only [Act.put, List.setIfInBounds_toArray, List.set_cons_zero, List.set_cons_succ, i64_w, i32_w]
      rfl
    refine one_ (i := 7) (N := none) #[true, true, true, true, true, true, true, true, false] rfl rfl (one_of HT_.out (by kernel_rfl)) (by decide) (fun K hK => ?_)
    refine skip_ (w1 := ((Wd.setCell ⟨w.heap.size, 0, none⟩ (.int .i64 l)).setCell ⟨w.heap.size, 1, none⟩ (.int .i64 u)).setCell ⟨w.heap.size, 2, none⟩ (.int .i64 s)) (by rfl) rfl (by go_simp) ?_
    refine hK.out _ _ HX3.out (fun hHeld => ?_)
    clear hK K
    refine pure_ (i := 8) (N := some 5) (v := ?_) (a' := ?_) #[true, true, true, true, true, true, true, true, true] rfl rfl (any_of HT_.out (by kernel_rfl)) (fun _ _ _ h => h) (Or.inl ⟨by rfl, ?_⟩) ?_ ?_
    rotate_left
    · intro w'
      go_simp
      with_reducible rfl
    rotate_left
    · simp only [Act.put, List.setIfInBounds_toArray, List.set_cons_zero, List.set_cons_succ, i64_w, i32_w]
      rfl
    refine done_ (done_of HT_.out (by kernel_rfl)) ?_
    go_wp2_with fail
    obtain ⟨p0, p1, p2⟩ := put3_cellsT (x := .int .i64 l) (y := .int .i64 u) (z := .int .i64 s) X4.out
    unfold put3 at p0 p1 p2
    refine bodyPost_ret (v := .tuple #[.agg #[.int .i64 l, .int .i64 u, .int .i64 s], .bool false]) (by simp [results, Tryd.results69, go_sem, p0, p1, p2]) rfl ?_
    exact ⟨by simp [imv], put3_below HB.out (Nat.le_refl _)⟩
end Go.Proofs.YtmgcapccgncmkaaDoor.Im
