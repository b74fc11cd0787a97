/- The table of ports: Insert of one. -/
import Derived.Test.YtnceglkoolfncaaPd
import Derived.Test.YtnceglkoolfncaaIn
import Derived.Lib.Overlaps
import Derived.Laws.Externs
namespace Go.Proofs.Ytnceglkoolfncaa.Po
open Go.RowKit Go.Pv

theorem slice_to (g o n cap b : Nat) (hb : b ≤ cap) (w' : World) :
    (Instr.slice 176 (.slice (some ⟨g, o, none⟩) n cap) none (some (.int .i64 (b : Nat))) none).run Try.prog w' = .ok (.slice (some ⟨g, o, none⟩) b cap) w' := by
  obtain ⟨i0, hi, -, -, -⟩ := info181
  have := run_sliceBound_ok (P := Try.prog) w' b cap .sliceAcap hb
  simp only [Instr.slice, Instr.sliceBounds, Sem.run_bind, run_underlying Try.underlying176, Result.andThen_ok, Sem.run_pure, Option.isSome_none, this, sizeOf, typeInfo, run_program, hi, Bool.false_eq_true, if_false]
  simp [this, Addr.add_lit]

theorem slice_from (g o n cap a : Nat) (ha : a ≤ n) (hc : a < cap) (w' : World) :
    (Instr.slice 176 (.slice (some ⟨g, o, none⟩) n cap) (some (.int .i64 (a : Nat))) none none).run Try.prog w' = .ok (.slice (some ⟨g, o + a * 2, none⟩) (n - a) (cap - a)) w' := by
  obtain ⟨i0, hi, -, h2, -⟩ := info181
  have := run_slice_from' (P := Try.prog) Try.underlying176 hi g o n cap a ha (by omega) w'
  rw [h2] at this
  exact this

theorem flat_ins (l : List Hd) (a : Nat) (x : Hd) : (l.take a ++ x :: l.drop a).flatMap encH = (l.flatMap encH).take (a * 2) ++ encH x ++ (l.flatMap encH).drop (a * 2) := by
  rw [List.flatMap_append, List.flatMap_cons, ← flat_take, List.append_assoc]
  congr 2
  have h1 : l.flatMap encH = (l.take a).flatMap encH ++ (l.drop a).flatMap encH := by rw [← List.flatMap_append, List.take_append_drop]
  have h2 := flat_take l a
  have h3 := List.take_append_drop (a * 2) (l.flatMap encH)
  rw [h2] at h3
  exact (List.append_cancel_left (h1.symm.trans h3.symm))

structure InsOut (w w' : World) (v v' : Value) (l : List Hd) (a : Nat) (x : Hd) : Prop where
  sl : SlOf w' 181 2 encH v' (l.take a ++ x :: l.drop a)
  keep : Keeps (fun k => v.ownBlock = some k) w w'
  own : ∀ g, v'.ownBlock = some g → v.ownBlock = some g ∨ w.heap.size ≤ g

set_option maxRecDepth 10000 in
set_option maxHeartbeats 2000000 in
theorem insert_end {w : World} {v : Value} {l : List Hd} (h : SlOf w 181 2 encH v l) (hl : l.length ≤ 50000) (x : Hd) (b : Nat) (hb : w.heap[b]? = some (.cells #[.int .i64 x.1, .int .i64 x.2] 181 (0, 0))) :
    Calls Try.prog 104 #[v, .int .i64 l.length, .slice (some ⟨b, 0, none⟩) 1 1] w fun e w' => ∃ v', e = .returned v' ∧ InsOut w w' v v' l l.length x := by
  obtain ⟨i0, hi, hz0, hz1, hz2⟩ := info181
  obtain ⟨v1, hs1, -, -⟩ := run_slice_from (P := Try.prog) Try.underlying176 hi (show SlRow w 181 i0.size v l.length (l.flatMap encH) by rw [hz1]; exact h) l.length (Nat.le_refl _)
  obtain ⟨v', w1, hr, hs, hk, hloc, -, -⟩ := run_append_sl (P := Try.prog) w 176 176 181 i0 _ 2 16 Try.underlying176 hi hz0 hz1 hz2 rfl
    v l.length _ h (.slice (some ⟨b, 0, none⟩) 1 1) 1 (encH x) (.inr ⟨_, _, rfl, World.news_of_block (cs := #[.int .i64 x.1, .int .i64 x.2]) (t := 181) (fr := (0, 0)) hb⟩) rfl (by simp [encH, Value.oneCell']) (by unfold maxLen; omega) (by omega)
  obtain ⟨aa, ac, hav, -⟩ := hform h
  have HR := hid hr
  have HS := hid hs
  have HK := hid hk
  have HLOC := hid hloc
  subst hav
  clear h hr hs hk hloc hi hz0 hz1 hz2 hb
  go_enter Try.func104, Try.ntmps104
  go_wp2_with (at_builtin; refine wl_append rfl _ _ _ rfl ⟨_, _, HR.out, ?_⟩)
  go_ret
  refine ⟨v', rfl, ?_, HK.out, fun g hg => ?_⟩
  · have h1 := HS.out
    unfold SlOf
    rw [flat_ins, List.take_of_length_le (l := l.flatMap encH) (by rw [flat_len]; exact Nat.le_refl _), List.drop_of_length_le (l := l.flatMap encH) (by rw [flat_len]; exact Nat.le_refl _), List.append_nil]
    simpa using h1
  · rcases HLOC.out with h1 | h1
    · rw [h1] at hg; exact .inl hg
    · rw [h1] at hg; simp at hg; exact .inr (by omega)

theorem wl_append2 {P : Program} {ops : Array Oper} {rest : List Oper} {o : Oper} {a : Act} {w : World} {Q : Exit → Act → World → Prop} (hg : o.guard = none) (s x : Operand) (t u : TypeId) (ho : o.op = .call { callee := .builtin .append, args := #[s, x], argTypes := #[t, u] })
    (H : ∃ v' w', (Builtin.append_ #[t, u] o.type #[a.eval s, a.eval x]).run P w = .ok v' w' ∧ wpList P ops Q rest (a.put o.dst v') w') : wpList P ops Q (o :: rest) a w := by
  obtain ⟨v', w', hr, hk⟩ := H
  refine wpList_plain hg fun K hK => ?_
  unfold Oper.wp execOp
  simp only [ho, resolve, invoke, builtin, Sem.run_bind, Sem.run_pure, Result.andThen_ok, List.map_toArray, List.map_cons, List.map_nil, hr]
  exact hK _ _ hk

theorem ins_cells (A Z N D : List Value) (p q : Nat) (hA : A.length = p) (hq : q = p + N.length) (hl : (A ++ Z).length = p + N.length + D.length) :
    ((A ++ Z).take p ++ N ++ (A ++ Z).drop (p + N.length)).take q ++ D ++ ((A ++ Z).take p ++ N ++ (A ++ Z).drop (p + N.length)).drop (q + D.length) = A ++ N ++ D := by
  subst hq
  subst hA
  have e0 : (A ++ Z).take A.length = A := List.take_left
  rw [e0]
  have hR : ((A ++ Z).drop (A.length + N.length)).length = D.length := by rw [List.length_drop, hl]; omega
  generalize (A ++ Z).drop (A.length + N.length) = R at hR
  have e1 : (A ++ N ++ R).take (A.length + N.length) = A ++ N := by
    rw [← List.length_append]; exact List.take_left
  rw [e1, List.drop_of_length_le (by simp; omega), List.append_nil]

theorem one_x (x : Hd) : ∀ u ∈ encH x, u.oneCell' = true := by simp [encH, Value.oneCell']

set_option maxRecDepth 10000 in
set_option maxHeartbeats 2000000 in
theorem insert_grow {w : World} {g o cap : Nat} {l : List Hd} (h : SlOf w 181 2 encH (.slice (some ⟨g, o, none⟩) l.length cap) l) (hl : l.length ≤ 50000) (a : Nat) (ha : a < l.length) (hcap : cap < l.length + 1) (x : Hd) (b : Nat) (hb : w.heap[b]? = some (.cells #[.int .i64 x.1, .int .i64 x.2] 181 (0, 0))) :
    Calls Try.prog 104 #[.slice (some ⟨g, o, none⟩) l.length cap, .int .i64 a, .slice (some ⟨b, 0, none⟩) 1 1] w fun e w' => ∃ v', e = .returned v' ∧ InsOut w w' (.slice (some ⟨g, o, none⟩) l.length cap) v' l a x := by
  have hln : l.length ≤ cap := by
    rcases h.2 with ⟨hh, _⟩ | ⟨g', o', cap', cur, hh, _, r1, _⟩
    · cases hh
    · simp only [Value.slice.injEq] at hh
      obtain ⟨-, -, rfl⟩ := hh
      omega
  obtain ⟨i0, hi, hz0, hz1, hz2⟩ := info181
  have hblt : b < w.heap.size := (Array.getElem?_eq_some_iff.1 hb).1
  have hglt := SlRow.lt h (by rfl : Value.ownBlock (.slice (some ⟨g, o, none⟩) l.length cap) = some g)
  obtain ⟨k, hk⟩ : ∃ k, k = l.length + 1 - a := ⟨_, rfl⟩
  have hfl := flat_len l
  -- the new row
  have hnb : Builtin.nextslicecap (a + k) cap * i0.bytes ≤ 281474976710656 := by
    rw [hz2]
    exact growslice_fits (by omega) (by omega)
  have hr1 := run_append_zeros (P := Try.prog) (w := w) 176 3 176 i0 _ .i64 Try.underlying176 Try.underlying3 hi hz0 ⟨g, o, none⟩ a cap ((l.flatMap encH).take (a * 2)) (by rw [hz1, List.length_take, hfl]; omega)
    (fun j u hu => by
      have hj : j < a * 2 := by have := (List.getElem?_eq_some_iff.1 hu).1; rw [List.length_take] at this; omega
      rw [List.getElem?_take_of_lt hj] at hu
      exact SlRow.addcells h rfl j u hu) k (by omega) (by omega) (by omega) (by omega) (by rw [hz2]; omega) hnb
  have hge := grownCap_ge w (a + k) cap 181
  have hcm : grownCap w (a + k) cap 181 ≤ maxLen := grownCap_le_maxLen w (a + k) cap 181 (by unfold maxLen; omega)
  generalize grownCap w (a + k) cap 181 = nc at hr1 hge hcm
  have hzk : (Builtin.zeroCells (Value.agg #[.int .i64 0, .int .i64 0]).cells k).toList.length = k * 2 := by rw [Array.length_toList, size_zeroCells]; rfl
  have hzr : (Builtin.zeroCells (Value.agg #[.int .i64 0, .int .i64 0]).cells (nc - (a + k))).size = (nc - (a + k)) * 2 := by rw [size_zeroCells]; rfl
  generalize Builtin.zeroCells (Value.agg #[.int .i64 0, .int .i64 0]).cells k = zk at hr1 hzk
  generalize Builtin.zeroCells (Value.agg #[.int .i64 0, .int .i64 0]).cells (nc - (a + k)) = zr at hr1 hzr
  obtain ⟨W1, hW1⟩ : ∃ W1, W1 = w.drew.alloc (.cells (((l.flatMap encH).take (a * 2)).toArray ++ zk ++ zr) 181) := ⟨_, rfl⟩
  rw [← hW1] at hr1
  have htk : ((l.flatMap encH).take (a * 2)).length = a * 2 := by rw [List.length_take, hfl]; omega
  have hs1 : SlRow W1 181 2 (.slice (some ⟨w.heap.size, 0, none⟩) (a + k) nc) (a + k) ((l.flatMap encH).take (a * 2) ++ zk.toList) := by
    refine ⟨by rw [List.length_append, htk, hzk]; omega, .inr ⟨w.heap.size, 0, nc, _, rfl, by rw [hW1]; exact heap_alloc_new w.drew _, hge, hcm, ?_, ?_⟩⟩
    · simp only [Array.size_append, List.size_toArray, htk, hzr]
      rw [← Array.length_toList (xs := zk), hzk]
      omega
    · simp only [Array.toList_append, List.drop_zero]
      have : (a + k) * 2 = ((l.flatMap encH).take (a * 2) ++ zk.toList).length := by rw [List.length_append, htk, hzk]; omega
      rw [this]
      exact List.take_left
  have k1 : Keeps (fun _ => False) w W1 := by rw [hW1]; exact (Keeps.refl _ w).drew.alloc _
  -- the new element
  obtain ⟨W2, c1, c2, c3, c4⟩ := run_copy_sl (P := Try.prog) hs1 (t := 176) (u := 176) (ty := 3) Try.underlying176 hi hz1 rfl a k (nc - a) ⟨b, 0, none⟩ 1 1 (encH x)
    (by rw [Nat.min_eq_left (by omega)]; rfl) (by have : (encH x).length = 2 := rfl; omega)
    (fun j u hu => World.news_of_block (cs := #[.int .i64 x.1, .int .i64 x.2]) (t := 181) (fr := (0, 0)) ((k1.block b hblt (by simp)).trans hb) j u hu) (one_x x)
  -- what stood behind
  have k2 : Keeps (fun i => i = w.heap.size) w W2 := (Keeps.mono k1 (by simp)).trans c3 (fun i hi => .inl hi)
  have hs0 : SlOf W2 181 2 encH (.slice (some ⟨g, o, none⟩) l.length cap) l := SlRow.kept h k2 (fun g' hg' e => by simp [Value.ownBlock] at hg'; omega)
  obtain ⟨W3, e1, e2, e3, e4⟩ := run_copy_sl (P := Try.prog) (w := W2.drew) c2.drew (t := 176) (u := 176) (ty := 3) Try.underlying176 hi hz1 rfl (a + 1) (a + k - (a + 1)) (nc - (a + 1)) ⟨g, o + a * 2, none⟩ (l.length - a) (cap - a) ((l.flatMap encH).drop (a * 2))
    (by rw [List.length_drop, hfl, Nat.min_eq_left (by omega)]; omega) (by rw [List.length_drop, hfl]; omega)
    (fun j u hu => by
      rw [List.getElem?_drop] at hu
      have := SlRow.addcells hs0 rfl (a * 2 + j) u hu
      change W2.cell? _ = _
      rw [Addr.add_lit] at this ⊢
      rw [Nat.add_assoc]; exact this) (fun u hu => one_h l u (List.mem_of_mem_drop hu))
  have sa := slice_from g o l.length cap a (by omega) (by omega)
  have sto := slice_to g o l.length cap a (by omega)
  have na := slice_from w.heap.size 0 (a + k) nc a (by omega) (by omega)
  have na1 := slice_from w.heap.size 0 (a + k) nc (a + 1) (by omega) (by omega)
  rw [Nat.zero_add] at c1 e1
  simp only [Nat.zero_add, Nat.add_sub_cancel_left] at na
  simp only [Nat.zero_add] at na1
  push_cast at na1
  obtain ⟨A2, hA2⟩ : ∃ A2, A2 = (a + 1) * 2 := ⟨_, rfl⟩
  obtain ⟨D2, hD2⟩ : ∃ D2, D2 = a + k - (a + 1) := ⟨_, rfl⟩
  obtain ⟨C2, hC2⟩ : ∃ C2, C2 = nc - (a + 1) := ⟨_, rfl⟩
  rw [← hA2, ← hD2, ← hC2] at na1 e1
  clear hA2 hD2 hC2
  have i1 : IntKind.i64.wrap ((l.length : Int) + 1) = (l.length : Int) + 1 := IntWalk.i64_in _ (by omega)
  have i2 : IntKind.i64.wrap ((l.length : Int) + 1 - (a : Int)) = (k : Int) := by rw [IntWalk.i64_in _ (by omega)]; omega
  have i3 : IntKind.i64.wrap ((a : Int) + 1) = (a : Int) + 1 := IntWalk.i64_in _ (by omega)
  have i4 : ((a : Int) == (l.length : Int)) = false := by simp; omega
  have i5 : (cap : Int) < (l.length : Int) + 1 := by omega
  have HR := hid hr1
  have HE2 := hid e2
  have HE3 := hid e3
  have HK2 := hid k2
  have HKE := hid hk
  have HFL := hid hfl
  have HTK := hid htk
  have HZK := hid hzk
  clear h hr1 hs1 k1 c2 c3 k2 hs0 e2 e3 hk hfl htk hi hz0 hz1 hz2 hnb hzk hzr hW1 hb
  go_enter Try.func104, Try.ntmps104
  go_wp2_with (at_builtin; go_must (refine wl_append2 rfl _ _ _ _ rfl ⟨_, _, HR.out, ?_⟩))
  go_region_held3 (fun _ => True) (trivial) (fail)
  go_wp2
  go_ret
  refine ⟨_, rfl, ?_, ?_, ?_⟩
  · have h1 := HE2.out
    have hx2 : (encH x).length = 2 := rfl
    rw [ins_cells _ zk.toList (encH x) _ (a * 2) ((a + 1) * 2) HTK.out (by rw [hx2]; omega) (by rw [List.length_append, HTK.out, HZK.out, hx2, List.length_drop, HFL.out, HKE.out]; omega)] at h1
    unfold SlOf
    rw [flat_ins]
    have hn : (l.take a ++ x :: l.drop a).length = a + k := by rw [HKE.out]; simp; omega
    rw [hn]
    exact h1
  · have k3 : Keeps (fun i => i = w.heap.size) w W3 := HK2.out.drew.trans HE3.out (fun i hi => .inl hi)
    exact ⟨k3.os, k3.tape, k3.output, k3.size, fun i hi hn => k3.block i hi (by omega)⟩
  · intro g' hg'
    simp [Value.ownBlock] at hg'
    exact .inr (by omega)

theorem shift_cells (xs ys N : List Value) (p q : Nat) (hp : p + (xs.drop p).length = xs.length) (hq : q = p + N.length) (hy : ys.length = N.length) :
    (((xs ++ ys).take q ++ xs.drop p ++ (xs ++ ys).drop (q + (xs.drop p).length)).take p ++ N ++ ((xs ++ ys).take q ++ xs.drop p ++ (xs ++ ys).drop (q + (xs.drop p).length)).drop (p + N.length)) = xs.take p ++ N ++ xs.drop p := by
  subst hq
  have hpl : p ≤ xs.length := by omega
  have e3 : (xs ++ ys).drop (p + N.length + (xs.drop p).length) = [] := List.drop_of_length_le (by simp only [List.length_append]; omega)
  rw [e3, List.append_nil]
  have ht : ((xs ++ ys).take (p + N.length)).length = p + N.length := by rw [List.length_take, List.length_append]; omega
  have e1 : ((xs ++ ys).take (p + N.length) ++ xs.drop p).take p = xs.take p := by
    rw [List.take_append_of_le_length (by omega), List.take_take, Nat.min_eq_left (by omega), List.take_append_of_le_length hpl]
  have e2 : ((xs ++ ys).take (p + N.length) ++ xs.drop p).drop (p + N.length) = xs.drop p := by
    have := List.drop_left (l₁ := (xs ++ ys).take (p + N.length)) (l₂ := xs.drop p)
    rw [ht] at this; exact this
  rw [e1, e2]

set_option maxRecDepth 10000 in
set_option maxHeartbeats 2000000 in
theorem insert_shift {w : World} {g o cap : Nat} {l : List Hd} (h : SlOf w 181 2 encH (.slice (some ⟨g, o, none⟩) l.length cap) l) (hl : l.length ≤ 50000) (a : Nat) (ha : a < l.length) (hcap : l.length + 1 ≤ cap) (x : Hd) (b : Nat) (hb : w.heap[b]? = some (.cells #[.int .i64 x.1, .int .i64 x.2] 181 (0, 0))) (hgb : b ≠ g) :
    Calls Try.prog 104 #[.slice (some ⟨g, o, none⟩) l.length cap, .int .i64 a, .slice (some ⟨b, 0, none⟩) 1 1] w fun e w' => ∃ v', e = .returned v' ∧ InsOut w w' (.slice (some ⟨g, o, none⟩) l.length cap) v' l a x := by
  obtain ⟨i0, hi, hz0, hz1, hz2⟩ := info181
  have hfl := flat_len l
  obtain ⟨cur, hcur⟩ := SlRow.elem h (by rfl : Value.ownBlock (.slice (some ⟨g, o, none⟩) l.length cap) = some g)
  have hcs : cur.size ≠ 0 := by
    rcases h.2 with ⟨hh, _⟩ | ⟨g', o', cap', cur', hh, hc', r1, r2, r3, _⟩
    · cases hh
    · simp only [Value.slice.injEq, Option.some.injEq, Addr.mk.injEq, true_and, and_true] at hh
      obtain ⟨⟨rfl, rfl⟩, rfl⟩ := hh
      rw [hcur] at hc'
      simp only [Option.some.injEq, Obj.cells.injEq, and_true] at hc'
      subst hc'
      omega
  have hov : ∀ lb cb ob, (callFunc 145 #[.slice (some ⟨b, 0, none⟩) 1 1, .slice (some ⟨g, ob, none⟩) lb cb]).run Try.prog w = .ok (.value (.bool false)) w := fun lb cb ob => by
    rw [run_callFunc_extern Try.func145 (by kernel_rfl) (by kernel_rfl) (by kernel_rfl) (e := Extern.SlicesOverlaps.overlaps #[176, 176] #[4]) (by kernel_rfl),
      Lib.run_overlaps_apart w 176 4 181 Try.underlying176 2 (fun w => by rw [show (Go.sizeOf 181).run Try.prog w = .ok i0.size w from by simp [sizeOf, typeInfo, hi], hz1]) ⟨b, 0, none⟩ ⟨g, ob, none⟩ 1 1 lb cb hgb 181 181 2 cur.size
        (by simp [World.shape?, hb]) (by simp [World.shape?, hcur]) hcs (frozen_of_row _ _ _ _ _ hb) (frozen_of_row _ _ _ _ _ hb)]
    rfl
  obtain ⟨ys, hys, hw1⟩ := SlRow.widen h rfl 1 hcap
  obtain ⟨N1, hN1⟩ : ∃ N1, N1 = l.length + 1 := ⟨_, rfl⟩
  rw [← hN1] at hw1
  have hdl : ((l.flatMap encH).drop (a * 2)).length = (l.length - a) * 2 := by rw [List.length_drop, hfl]; omega
  obtain ⟨W2, c1, c2, c3, c4⟩ := run_copy_sl (P := Try.prog) (w := w.drew) hw1.drew (t := 176) (u := 176) (ty := 3) Try.underlying176 hi hz1 rfl (a + 1) (N1 - (a + 1)) (cap - (a + 1)) ⟨g, o + a * 2, none⟩ (N1 - a) (cap - a) ((l.flatMap encH).drop (a * 2))
    (by rw [hdl, Nat.min_eq_right (by omega)]; omega) (by rw [hdl]; omega)
    (fun j u hu => by
      rw [List.getElem?_drop] at hu
      have := SlRow.addcells h rfl (a * 2 + j) u hu
      rw [Addr.add_lit] at this ⊢
      rw [Nat.add_assoc]; exact this) (fun u hu => one_h l u (List.mem_of_mem_drop hu))
  have hb2 := (c3.block b (Array.getElem?_eq_some_iff.1 hb).1 hgb).trans hb
  obtain ⟨W3, e1, e2, e3, e4⟩ := run_copy_sl (P := Try.prog) c2 (t := 176) (u := 176) (ty := 3) Try.underlying176 hi hz1 rfl a (N1 - a) (cap - a) ⟨b, 0, none⟩ 1 1 (encH x)
    (by rw [Nat.min_eq_left (by omega)]; rfl) (by have : (encH x).length = 2 := rfl; omega)
    (fun j u hu => World.news_of_block (cs := #[.int .i64 x.1, .int .i64 x.2]) (t := 181) (fr := (0, 0)) hb2 j u hu) (one_x x)
  have sa := slice_from g o l.length cap a (by omega) (by omega)
  have sto := slice_to g o l.length cap (l.length + 1) hcap
  push_cast at sto
  rw [← hN1] at sto
  have fa := slice_from g o N1 cap a (by omega) (by omega)
  have fa1 := slice_from g o N1 cap (a + 1) (by omega) (by omega)
  push_cast at fa1
  obtain ⟨A2, hA2⟩ : ∃ A2, A2 = o + (a + 1) * 2 := ⟨_, rfl⟩
  obtain ⟨D2, hD2⟩ : ∃ D2, D2 = N1 - (a + 1) := ⟨_, rfl⟩
  obtain ⟨C2, hC2⟩ : ∃ C2, C2 = cap - (a + 1) := ⟨_, rfl⟩
  rw [← hA2, ← hD2, ← hC2] at fa1 c1
  have i1 : IntKind.i64.wrap ((l.length : Int) + 1) = (l.length : Int) + 1 := IntWalk.i64_in _ (by omega)
  have i3 : IntKind.i64.wrap ((a : Int) + 1) = (a : Int) + 1 := IntWalk.i64_in _ (by omega)
  have i4 : ((a : Int) == (l.length : Int)) = false := by simp; omega
  have i5 : ¬ ((cap : Int) < (l.length : Int) + 1) := by omega
  have HOV := hid hov
  have HE2 := hid e2
  have HE3 := hid e3
  have HC3 := hid c3
  have HN1 := hid hN1
  have HFL := hid hfl
  have HYS := hid hys
  have HDL := hid hdl
  clear h c2 c3 e2 e3 hfl hi hz0 hz1 hz2 hb hb2 hw1 hys hov hA2 hD2 hC2 hcur hcs hdl hN1
  go_enter Try.func104, Try.ntmps104
  go_wp2_with (simp only [HOV.out])
  go_region_held3 (fun _ => True) (trivial) (fail)
  go_wp2
  go_ret
  refine ⟨_, rfl, ?_, ?_, ?_⟩
  · have h1 := HE2.out
    have hx2 : (encH x).length = 2 := rfl
    rw [shift_cells (l.flatMap encH) ys (encH x) (a * 2) ((a + 1) * 2) (by rw [HDL.out, HFL.out]; omega) (by rw [hx2]; omega) (by rw [HYS.out, hx2])] at h1
    unfold SlOf
    rw [flat_ins]
    have hn : (l.take a ++ x :: l.drop a).length = N1 := by rw [HN1.out]; simp; omega
    rw [hn]
    exact h1
  · have k3 : Keeps (fun i => i = g) w W3 := (Keeps.drew_left HC3.out).trans HE3.out (fun i hi => .inl hi)
    exact k3.mono (fun i hi => by rw [hi]; rfl)
  · intro g' hg'
    exact .inl hg'
end Go.Proofs.Ytnceglkoolfncaa.Po
