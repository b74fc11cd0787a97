/- Use: the keys of the book, collected: maps.Keys, slices.AppendSeq, slices.Collect at keys that are pairs. -/
import Derived.Test.YtnceglkoolfncaaRi
import Derived.Test.YtnceglkoolfncaaKp
import Derived.Test.YtnceglkoolfncaaPa
import Derived.Test.YtnceglkoolfncaaBx
import Derived.Shelf.SlIterI.Nil
import Derived.OwnWalkIn
import Derived.TacticsInMore
import Derived.RangeFuncBound
import Derived.Sort.LoopGhostIn
import Derived.Deep.LoopGhost
set_option linter.unusedSimpArgs false
set_option linter.unusedVariables false
namespace Go.Pv
open Go Go.RowKit
section
variable {κ τ : Type} {F : Fence} {n : Nat} {P : Program} {ops : Array Oper} {Q : Exit → Act → World → Prop} {a : Act} {w : World} {rest : List Oper} {o : Oper} {ke : κ → Value}
/-- 'range m', inside a fence. -/
theorem wlI_range (hg : o.guard = none) (m : Operand) (t : TypeId) (ho : o.op = .range t m) (H : ∃ v' w', (Instr.range t (a.eval m)).run P w = .ok v' w' ∧ wpListIn F n P ops Q rest (a.put o.dst v') w') : wpListIn F n P ops Q (o :: rest) a w := by
  obtain ⟨v', w', hr, hk⟩ := H
  refine wpListIn_plain hg fun K' hK' => ?_
  unfold Oper.wpIn
  refine ⟨by simp [Oper.about, ho], ?_⟩
  rw [Oper.semAt_plain F _ _ (by rw [ho]; intro c hc'; cases hc')]
  simp [execOp, ho, hr, Result.andThen]
  exact hK' _ _ hk
/-- 'next', inside a fence. -/
theorem wlI_next (hg : o.guard = none) (it : Operand) (ho : o.op = .next it false) {r mb : Nat} (f : κ × τ → Value) {al : List (κ × Value)} {left : List (κ × τ)} (h : Iter w r mb ke al (left.map fun p => (p.1, f p))) (hit : a.eval it = .pointer (some ⟨r, 0, none⟩))
    (hdone : left = [] → wpListIn F n P ops Q rest (a.put o.dst (.tuple #[.bool false])) w)
    (hmore : ∀ l1 p l2 w', left = l1 ++ p :: l2 → Iter w' r mb ke al ((l1 ++ l2).map fun p => (p.1, f p)) → Keeps (fun k => k = r) w w' → w'.heap.size = w.heap.size → (Instr.entry (.pointer (some ⟨r, 0, none⟩))).run P w' = .ok (.tuple #[ke p.1, f p]) w' →
      wpListIn F n P ops Q rest (a.put o.dst (.tuple #[.bool true, ke p.1, f p])) w') : wpListIn F n P ops Q (o :: rest) a w := by
  refine wpListIn_plain hg fun K' hK' => ?_
  unfold Oper.wpIn
  refine ⟨by simp [Oper.about, ho], ?_⟩
  rw [Oper.semAt_plain F _ _ (by rw [ho]; intro c hc'; cases hc')]
  rcases h.next (P := P) o.type with ⟨h1, h2⟩ | ⟨l1, p, l2, w', h1, h2, h3, h4, h5, h6⟩
  · simp [execOp, ho, hit, h2, Result.andThen]
    exact hK' _ _ (hdone (by simpa using h1))
  · obtain ⟨a1, x, a2, e, e1, e2, e3⟩ := split_map h1
    subst e2
    simp [execOp, ho, hit, h2, Result.andThen]
    exact hK' _ _ (hmore a1 x a2 w' e (by rw [List.map_append, e1, e3]; exact h3) h4 h5 h6)
end
end Go.Pv
namespace Go.Proofs.Ytnceglkoolfncaa.Us
open Go Go.RowKit Go.Pv Go.Shelf Go.Sort Go.Proofs.Ytnceglkoolfncaa.Po
attribute [local go_sem] Oper.semAt_some

theorem iter_walks {w w' : World} {r mb : Nat} {al left : List ((Int × Int) × Value)} (h : Iter w r mb kp al left) (hk : KeepsWalks w w') : Iter w' r mb kp al left := by
  have h' := h
  obtain ⟨es, clock, since, c0, seen, h1, h2, h3, h4, h5, _⟩ := h
  exact h'.of_blocks ((hk.same r _ h5 rfl).trans h5.symm) ((hk.same mb _ h1 rfl).trans h1.symm)
theorem iter_is {w : World} {r mb : Nat} {al left : List ((Int × Int) × Value)} (h : Iter w r mb kp al left) : ∃ o : Obj, w.heap[r]? = some o ∧ o.isWalk = true := by
  obtain ⟨es, clock, since, c0, seen, h1, h2, h3, h4, h5, _⟩ := h
  exact ⟨_, h5, rfl⟩

set_option maxRecDepth 100000 in
set_option maxHeartbeats 2000000 in
theorem keysIt {n : Nat} (hn : 1 ≤ n) (l Bm mb : Nat) (al : List ((Int × Int) × Value)) (J : List (Int × Int) → World → Prop)
    (hY : ∀ pre x W, J pre W → pre.length < al.length → YieldAt Fence.wide (n - 1) Try.prog l #[kp x] W fun e W' => e = .returned (.bool true) ∧ J (pre ++ [x]) W' ∧ KeepsWalks W W')
    (W : World) (hJ : AbidesFrom W.heap.size J) (hm : W.cell? ⟨Bm, 0, none⟩ = some (.map (some mb))) (hmap : IsMap W mb kp al) (h0 : J [] W) :
    CallsIn Fence.wide n Try.prog 189 #[.func (.yield l) #[] #[], .pointer (some ⟨Bm, 0, none⟩)] W fun e W' => (∃ v, e = .returned v) ∧ ∃ ss : List (Int × Int), ss.Perm (al.map (·.1)) ∧ J ss W' := by
  obtain ⟨ob, hrun, hit0⟩ := hmap.range (P := Try.prog) (t := 217) Try.underlying217
  have hJ1 : J [] (W.alloc ob) := hJ [] W _ none h0 (World.grownBy_alloc W _ none) (fun r e => by cases e)
  refine callsIn_of_wp Try.func189 rfl trivial ?_ rfl
  simp only [Try.ntmps189, List.size_toArray, List.length_cons, List.length_nil, Nat.reduceAdd, Nat.reduceSub, Array.replicate_succ, Array.replicate_zero, List.push_toArray, List.append_toArray, List.nil_append, List.cons_append]
  gi_wp2_with (first
    | (gi_at_range; refine wlI_range rfl _ 217 rfl ⟨_, _, hrun, ?_⟩)
    | gi_in)
  go_frame
  clear hrun
  gi_loopg [3] al.length (fun g s3 wr => ∃ (left : List ((Int × Int) × Value)) (ss : List (Int × Int)), g = left.length ∧ Iter wr W.heap.size mb kp al left ∧ (ss ++ left.map (·.1)).Perm (al.map (·.1)) ∧ J ss wr)
  case atStart => exact ⟨al, [], rfl, hit0, List.Perm.refl _, hJ1⟩
  case round =>
    obtain ⟨left, ss, rfl, hI, hP, hJs⟩ := hrel
    have hI' : Iter wr W.heap.size mb kp al (left.map fun p => (p.1, p.2)) := by simpa using hI
    gi_wp2_with (first
      | (gi_at_next; refine wlI_next (ke := kp) (n := n) rfl _ rfl (r := W.heap.size) (mb := mb) (fun p : (Int × Int) × Value => p.2) (al := al) (left := left) hI' (by rfl) ?_ ?_)
      | gi_in)
    · intro hnil
      subst hnil
      gi_wp2
      go_end0
      exact ⟨⟨_, rfl⟩, ss, by simpa using hP, hJs⟩
    · intro l1 x1 x2 xv l2 w2 e hI2 hk hs hen
      subst e
      have hI3 : Iter w2 W.heap.size mb kp al (l1 ++ l2) := by simpa using hI2
      have hg2 : wr.grownBy w2 (some W.heap.size) := ⟨hk.os, hk.tape, hk.output, hk.size, fun i hi hne => hk.block i hi (fun e => hne (by rw [e]))⟩
      have hJ2 : J ss w2 := hJ ss wr w2 (some W.heap.size) hJs hg2 (fun r e => by cases e; exact ⟨Nat.le_refl _, iter_is hI⟩)
      have hJ3 : J ss (w2.alloc (.cells #[.int .i64 x1, .int .i64 x2] 223)) := hJ ss w2 _ none hJ2 (World.grownBy_alloc w2 _ none) (fun r e => by cases e)
      have hlen : ss.length < al.length := by
        have := hP.length_eq
        simp only [List.length_append, List.length_map, List.length_cons] at this
        omega
      obtain ⟨fn, tmps, assign, body, hy, hR⟩ := hY ss (x1, x2) _ hJ3 hlen
      unfold kp at hy hen
      have hI4 : Iter (w2.alloc (.cells #[.int .i64 x1, .int .i64 x2] 223)) W.heap.size mb kp al (l1 ++ l2) := hI3.of_blocks (Below.heap_alloc _ _ _ hI3.lt.1) (Below.heap_alloc _ _ _ hI3.lt.2)
      have HI4 := hid hI4
      have HP := hid hP
      clear hs hI hI' hI2 hI3 hI4 hJ2 hJ3 hJs hg2 hk hP
      gi_wp2
      refine hR.mono ?_
      rintro e W3 ⟨rfl, hJ4, hk3⟩
      gi_wp2
      gi_roundg (l1 ++ l2).length
      case measure => simp
      case rel => exact ⟨l1 ++ l2, ss ++ [(x1, x2)], rfl, iter_walks HI4.out hk3, (by
          refine List.Perm.trans ?_ HP.out
          simp only [List.map_append, List.map_cons, List.append_assoc]
          refine List.Perm.append_left ss ?_
          simp only [List.singleton_append]
          exact List.perm_middle.symm), hJ4⟩

/-- maps.Keys(m) hands back an iterator over m's keys. -/
theorem keysGives {n : Nat} (hn : 1 ≤ n) (Bm mb : Nat) (al : List ((Int × Int) × Value)) (w : World) (hBm : Bm < w.heap.size) (hm : w.cell? ⟨Bm, 0, none⟩ = some (.map (some mb))) (hmap : IsMap w mb kp al) :
    SeqGives Fence.wide n Try.prog 189 #[.pointer (some ⟨Bm, 0, none⟩)] kp (fun ss => ss.Perm (al.map (·.1))) al.length w := fun l J W hW hJ hY h0 =>
  keysIt hn l Bm mb al J hY W hJ ((hW.cell (p := ⟨Bm, 0, none⟩) hBm).trans hm) (hmap.kept (Keeps.of_below (F := fun _ => False) hW) (by simp)) h0

noncomputable def apParts : Code × Code := match Try.f199.body with
  | some (.seq _ (.seq (.seq _ (.block _ (.rangeFunc _ _ ag bd))) _)) => (ag, bd)
  | _ => (.ret, .ret)
abbrev encC := Pr.encP
/-- The loop's record: AppendSeq's temporaries as they stood at the entering. -/
noncomputable def apRec (fn : FuncId) (sv : Value) (Bs D : Nat) (st : LoopState) (pend : Option Code) : Loop :=
  { state := st, pending := pend, fn, tmps := #[.slice none 0 0, sv, .pointer (some ⟨Bs, 0, none⟩), undef, .slice none 0 0, undef, sv, undef, undef, undef, undef, undef, undef], params := #[7], assign := apParts.1, body := apParts.2, defers := D }

/-- Between two rounds. -/
structure ApAt (w0 : World) (fn : FuncId) (sv : Value) (Bs l D : Nat) (ss : List (Int × Int)) (W : World) : Prop where
  box : ∃ v, W.heap[Bs]? = some (.cells #[v] 226 (0, 0)) ∧ W.ownsRow w0.heap.size 223 2 v ss.length (ss.flatMap encC)
  L : W.heap[l]? = some (.loop (apRec fn sv Bs D .ready none))
  K : W.heap[D]? = some (.deferred (some []))
  below : Below w0.heap.size w0 W

theorem ap_abides (w0 : World) (fn : FuncId) (sv : Value) (Bs l D B : Nat) (hB : w0.heap.size ≤ B) : AbidesFrom B (ApAt w0 fn sv Bs l D) := fun s W W' row h hg hrow => by
  have hrow' : ∀ r, row = some r → ∃ o : Obj, W.heap[r]? = some o ∧ o.isWalk = true := fun r e => (hrow r e).2
  obtain ⟨v, hv, hr⟩ := h.box
  exact ⟨⟨v, (grownBy_keeps hg hrow' hv rfl).trans hv, ownsRow_abides_a hr hg hrow'⟩, (grownBy_keeps hg hrow' h.L rfl).trans h.L, (grownBy_keeps hg hrow' h.K rfl).trans h.K,
    h.below.grown hg h.below.size (fun k e => Nat.le_trans hB (hrow k e).1)⟩

theorem info223 : (Try.prog.info? 223).map (fun i => (i.zero, i.size, i.bytes)) = some (some (.agg #[.int .i64 0, .int .i64 0]), 2, 16) := by kernel_rfl

set_option maxRecDepth 100000 in
set_option maxHeartbeats 2000000 in
theorem apYield (m : Nat) (w0 : World) (fn : FuncId) (sv : Value) (Bs l D : Nat) (hBl : Bs ≠ l) (hDl : D ≠ l) (hDB : D ≠ Bs) (h0B : w0.heap.size ≤ Bs) (h0l : w0.heap.size ≤ l)
    (N : Nat) (hN : N ≤ 1000000) (ss : List (Int × Int)) (x : Int × Int) (W : World) (h : ApAt w0 fn sv Bs l D ss W) (hlen : ss.length < N) :
    YieldAt Fence.wide m Try.prog l #[kp x] W fun e W' => e = .returned (.bool true) ∧ ApAt w0 fn sv Bs l D (ss ++ [x]) W' ∧ KeepsWalks W W' := by
  have u223 := run_underlying Try.underlying223
  have u226 := run_underlying Try.underlying226
  obtain ⟨x1, x2⟩ := x
  obtain ⟨i0, hi, hz0, hz1, hz2⟩ := info_parts info223
  obtain ⟨v, hv, hrow⟩ := h.box
  refine ⟨fn, #[.slice none 0 0, sv, .pointer (some ⟨Bs, 0, none⟩), undef, .slice none 0 0, undef, sv, .agg #[.int .i64 x1, .int .i64 x2], undef, undef, undef, undef, undef], apParts.1, apParts.2, by simpa [apRec, kp] using run_yield (P := Try.prog) (args := #[kp (x1, x2)]) h.L rfl, roundIn_of_wpIn trivial ?_⟩
  -- the key's box
  obtain ⟨Wk, hWk⟩ : ∃ Wk, W.alloc (.cells #[.int .i64 x1, .int .i64 x2] 223) = Wk := ⟨_, rfl⟩
  have old : ∀ k, k < W.heap.size → Wk.heap[k]? = W.heap[k]? := fun k hk => by rw [← hWk]; exact Below.heap_alloc _ _ k hk
  have hkk : Wk.heap[W.heap.size]? = some (.cells #[.int .i64 x1, .int .i64 x2] 223 (0, 0)) := by rw [← hWk]; exact World.alloc_heap_new W _
  have hvk := (old Bs (Array.getElem?_eq_some_iff.1 hv).1).trans hv
  have hKk := (old D (Array.getElem?_eq_some_iff.1 h.K).1).trans h.K
  have hlW : l < W.heap.size := (Array.getElem?_eq_some_iff.1 h.L).1
  have hLk := (old l hlW).trans h.L
  have hrowk : Wk.ownsRow w0.heap.size 223 2 v ss.length (ss.flatMap encC) := by rw [← hWk]; exact hrow.alloc _
  have hbk : Below w0.heap.size w0 Wk := by rw [← hWk]; exact h.below.alloc h.below.size _
  have hkw : KeepsWalks W Wk := by rw [← hWk]; exact KeepsWalks.alloc _ _
  have hl : l < Wk.heap.size := (Array.getElem?_eq_some_iff.1 hLk).1
  have hbr := run_beginRound (P := Try.prog) hLk rfl
  obtain ⟨W2, hW2⟩ : ∃ W2, Wk.putObj l (.loop { apRec fn sv Bs D .ready none with state := .busy }) = W2 := ⟨_, rfl⟩
  rw [hW2] at hbr
  have hg2 : Wk.grownBy W2 (some l) := by rw [← hW2]; exact grownBy_putObj_a _ _ _
  have hk2 : KeepsWalks W W2 := by rw [← hW2]; exact hkw.trans (KeepsWalks.putObj _ hLk rfl)
  have hv2 : W2.heap[Bs]? = some (.cells #[v] 226 (0, 0)) := by rw [← hW2]; exact (World.putObj_heap_other hBl).trans hvk
  have hK2 : W2.heap[D]? = some (.deferred (some [])) := by rw [← hW2]; exact (World.putObj_heap_other hDl).trans hKk
  have hL2 : W2.heap[l]? = some (.loop { apRec fn sv Bs D .ready none with state := .busy }) := by rw [← hW2]; exact World.putObj_heap_same hl
  have hkk2 : W2.heap[W.heap.size]? = some (.cells #[.int .i64 x1, .int .i64 x2] 223 (0, 0)) := by rw [← hW2]; exact (World.putObj_heap_other (by omega)).trans hkk
  have hrow2 : W2.ownsRow w0.heap.size 223 2 v ss.length (ss.flatMap encC) := hrowk.kept hg2 (ownsRow_ne_a hrowk hLk (fun cur e => by cases e))
  have hb2 : Below w0.heap.size w0 W2 := hbk.grown hg2 hbk.size (fun k e => by cases e; exact h0l)
  obtain ⟨hc2, hf2⟩ := cell_of_box_a hv2
  have k0 : W2.cell? ⟨W.heap.size, 0, none⟩ = some (.int .i64 x1) := by rw [cell_of_row W2 _ 0 _ _ _ hkk2]; rfl
  have k1 : W2.cell? ⟨W.heap.size, 1, none⟩ = some (.int .i64 x2) := by rw [cell_of_row W2 _ 1 _ _ _ hkk2]; rfl
  have hBlt : Bs < W2.heap.size := (Array.getElem?_eq_some_iff.1 hv2).1
  have hl2 : l < W2.heap.size := (Array.getElem?_eq_some_iff.1 hL2).1
  have hDlt : D < W2.heap.size := (Array.getElem?_eq_some_iff.1 hK2).1
  have ne_of : ∀ {j : Nat} {o : Obj}, W2.heap[j]? = some o → (∀ cur, o ≠ .cells cur 223 (0, 0)) → some j ≠ v.ownBlock := fun hj hno => by
    rcases ownsRow_ne_a hrow2 hj hno with e | e
    · rw [e]; simp
    · exact fun e' => e e'.symm
  have news2 : ∀ j u, [Value.int .i64 x1, .int .i64 x2][j]? = some u → (W2.alloc (.cells #[.int .i64 x1, .int .i64 x2] 223)).cell? ((⟨W2.heap.size, 0, none⟩ : Addr).add j) = some u := fun j u hj => by
    have hnb : (W2.alloc (.cells #[.int .i64 x1, .int .i64 x2] 223)).heap[W2.heap.size]? = some (.cells #[.int .i64 x1, .int .i64 x2] 223 (0, 0)) := World.alloc_heap_new W2 _
    exact World.news_of_block (cs := #[.int .i64 x1, .int .i64 x2]) hnb j u hj
  have HBR := hid hbr
  have HWk := hid hWk
  clear hW2 hbr hWk
  simp only [apParts, Try.f199]
  gi_wp2_with gi_round_op_a
  rw [HWk.out]
  refine ⟨W2, HBR.out, ?_⟩
  clear hkk hvk hKk hLk hrowk hbk hkw hg2 hkk2
  gi_wp2_with (first
    | (gi_at_builtin; refine wpListIn_append_own _ rfl _ _ 226 rfl w0.heap.size 223 i0 (.agg #[.int .i64 0, .int .i64 0]) 2 16 Try.underlying226 hi hz0 hz1 hz2 rfl (by decide) _ _ _ rfl (hrow2.alloc _) ⟨W2.heap.size, 0, none⟩ 1 1 [.int .i64 x1, .int .i64 x2] rfl rfl news2 (by simp [Value.oneCell']) (by unfold maxLen; omega) (by omega) (by have := hb2.size; simp; omega) ?_; intro v' w3 hown' hg3 hnil3
       have hv3 : w3.heap[Bs]? = some (.cells #[v] 226 (0, 0)) := (hg3.block Bs (by simp; omega) (ne_of hv2 (fun cur e => by cases e))).trans ((Below.heap_alloc _ _ Bs hBlt).trans hv2)
       obtain ⟨hc3, hf3⟩ := cell_of_box_a hv3
       obtain ⟨g', cap', cur', rfl, hbase', hgb', hr1, hr2, hr3, hr4⟩ : ∃ g' cap' cur', v' = .slice (some ⟨g', 0, none⟩) (ss.length + 1) cap' ∧ w0.heap.size ≤ g' ∧ w3.heap[g']? = some (.cells cur' 223 (0, 0)) ∧ ss.length + 1 ≤ cap' ∧ cap' ≤ maxLen ∧ cur'.size = cap' * 2 ∧ cur'.toList.take ((ss.length + 1) * 2) = ss.flatMap encC ++ [.int .i64 x1, .int .i64 x2] := by
         rcases hown'.2 with ⟨_, h0⟩ | h'
         · exact absurd h0 (by omega)
         · exact h'
       go_frame)
    | gi_round_op_a)
  have hg3' : (W2.alloc (.cells #[.int .i64 x1, .int .i64 x2] 223)).grownBy w3 v.ownBlock := hg3
  have hL3 : w3.heap[l]? = some (.loop { apRec fn sv Bs D .ready none with state := .busy }) := (hg3'.block l (by simp; omega) (ne_of hL2 (fun cur e => by cases e))).trans ((Below.heap_alloc _ _ l hl2).trans hL2)
  have hK3 : w3.heap[D]? = some (.deferred (some [])) := (hg3'.block D (by simp; omega) (ne_of hK2 (fun cur e => by cases e))).trans ((Below.heap_alloc _ _ D hDlt).trans hK2)
  obtain ⟨w4, hw4⟩ : ∃ w4, w3.setCell ⟨Bs, 0, none⟩ (.slice (some ⟨g', 0, none⟩) (ss.length + 1) cap') = w4 := ⟨_, rfl⟩
  rw [hw4]
  have hg4 : w3.grownBy w4 (some Bs) := by rw [← hw4]; exact grownBy_setCell0_a _ _ _
  have hv4 : w4.heap[Bs]? = some (.cells #[.slice (some ⟨g', 0, none⟩) (ss.length + 1) cap'] 226 (0, 0)) := by rw [← hw4]; exact heap_setCell_box_a _ hv3
  have hL4 : w4.heap[l]? = some (.loop { apRec fn sv Bs D .ready none with state := .busy }) := (hg4.block l (Array.getElem?_eq_some_iff.1 hL3).1 (fun e => hBl (by cases e; rfl))).trans hL3
  have hK4 : w4.heap[D]? = some (.deferred (some [])) := (hg4.block D (Array.getElem?_eq_some_iff.1 hK3).1 (fun e => hDB (by cases e; rfl))).trans hK3
  have hrow4 := hown'.kept hg4 (ownsRow_ne_a hown' hv3 (fun cur e => by cases e))
  have hl4 : l < w4.heap.size := (Array.getElem?_eq_some_iff.1 hL4).1
  have hb3 : Below w0.heap.size w0 w3 := (hb2.alloc hb2.size _).grown hg3' (by have := hb2.size; simp; omega) (fun k e => (hrow2.lt k e).1)
  have hb4 : Below w0.heap.size w0 w4 := hb3.grown hg4 hb3.size (fun k e => by cases e; exact h0B)
  have hk4 : KeepsWalks W w4 := ((hk2.trans (KeepsWalks.alloc _ _)).trans (KeepsWalks.of_grownBy hg3' (ownsRow_not_walk_a (hrow2.alloc _)))).trans (by rw [← hw4]; exact KeepsWalks.setCell _ _ _)
  clear hw4
  refine ⟨_, _, run_endRound none hL4, rfl, ⟨⟨_, (World.putObj_heap_other hBl).trans hv4, ?_⟩, World.putObj_heap_same hl4, (World.putObj_heap_other hDl).trans hK4, hb4.grown (grownBy_putObj_a _ _ _) hb4.size (fun k e => by cases e; exact h0l)⟩, hk4.trans (KeepsWalks.putObj _ hL4 rfl)⟩
  have := hrow4.kept (grownBy_putObj_a w4 l (.loop { { apRec fn sv Bs D .ready none with state := .busy } with state := if (none : Option Code).isNone then .ready else .done, pending := none })) (ownsRow_ne_a hrow4 hL4 (fun cur e => by cases e))
  simpa [Pr.encP] using this

set_option maxRecDepth 100000 in
set_option maxHeartbeats 2000000 in
theorem appendSeq {n : Nat} (hn : 2 ≤ n) (g : Nat) (lb : Array Value) (eg : ∀ args w, (callFunc g args).run Try.prog w = .ok (.enter g args) w)
    (S : List (Int × Int) → Prop) (N : Nat) (hN : N ≤ 1000000) (w : World) (hseq : SeqGives Fence.wide (n - 1) Try.prog g lb kp S N w) :
    CallsIn Fence.wide n Try.prog 199 #[.slice none 0 0, .func (.func g) #[] lb] w fun e w' => ∃ (v : Value) (ss : List (Int × Int)), e = .returned v ∧ S ss ∧ w'.ownsRow w.heap.size 223 2 v ss.length (ss.flatMap encC) ∧ Below w.heap.size w w' := by
  have h1 : 1 ≤ n := by omega
  have u223 := run_underlying Try.underlying223
  have u226 := run_underlying Try.underlying226
  refine callsIn_of_wp_marks Try.func199 rfl trivial ?_ rfl
  simp only [Try.ntmps199, List.size_toArray, List.length_cons, List.length_nil, Nat.reduceAdd, Nat.reduceSub, Array.replicate_succ, Array.replicate_zero, List.push_toArray, List.append_toArray, List.nil_append, List.cons_append]
  gi_wp2
  refine wpIn_rangeFunc ?_
  intro fn hfn
  rw [show Fence.wide.round = none from rfl]
  obtain ⟨W0, hW0⟩ : ∃ W0, w.alloc (.cells #[.slice none 0 0] 226) = W0 := ⟨_, rfl⟩
  have hs0 : W0.heap.size = w.heap.size + 1 := by rw [← hW0]; simp
  have hv0 : W0.heap[w.heap.size]? = some (.cells #[.slice none 0 0] 226 (0, 0)) := by rw [← hW0]; exact World.alloc_heap_new w _
  have hb0 : Below w.heap.size w W0 := by rw [← hW0]; exact (Below.refl _ w).alloc (Nat.le_refl _) _
  rw [hW0]
  obtain ⟨W1, hW1⟩ : ∃ W1, (W0.alloc (.deferred (some []))).alloc (.loop (apRec fn (.func (.func g) #[] lb) w.heap.size W0.heap.size .ready none)) = W1 := ⟨_, rfl⟩
  have hold : ∀ k, k < W0.heap.size → W1.heap[k]? = W0.heap[k]? := fun k hk => by
    rw [← hW1]; exact (Below.heap_alloc _ _ k (by simp; omega)).trans (Below.heap_alloc _ _ k hk)
  have hb1 : Below w.heap.size w W1 := by rw [← hW1]; exact (hb0.alloc hb0.size _).alloc (by have := hb0.size; simp; omega) _
  have hs1 : W1.heap.size = W0.heap.size + 2 := by rw [← hW1]; simp
  have hM : ApAt w fn (.func (.func g) #[] lb) w.heap.size (W0.heap.size + 1) W0.heap.size [] W1 :=
    ⟨⟨_, (hold w.heap.size (by omega)).trans hv0, ⟨rfl, .inl ⟨rfl, rfl⟩⟩⟩,
     by rw [← hW1]; have := World.alloc_heap_new (W0.alloc (.deferred (some []))) (.loop (apRec fn (.func (.func g) #[] lb) w.heap.size W0.heap.size .ready none)); rwa [World.size_alloc] at this,
     by rw [← hW1]; exact (Below.heap_alloc _ _ _ (by simp)).trans (World.alloc_heap_new W0 _), hb1⟩
  refine ⟨W0.heap.size + 1, [{ target := .collected W0.heap.size, args := #[] }], W1, { target := .fn (.func g) lb, args := #[.func (.yield (W0.heap.size + 1)) #[] #[]] }, W1, g,
    #[.func (.yield (W0.heap.size + 1)) #[] #[]] ++ lb, W1, ?_, ?_, ?_, ?_, fun _ => h1, ?_⟩
  · rw [← hW1]; exact run_enterLoop_outer _ _ _ _ _
  · simp [resolve, go_sem]
  · intro f' hf'; exact trivial
  · simp [invoke, go_sem, eg]
  · refine (hseq (W0.heap.size + 1) (ApAt w fn (.func (.func g) #[] lb) w.heap.size (W0.heap.size + 1) W0.heap.size) W1 hb1 (ap_abides _ _ _ _ _ _ _ hb1.size)
      (fun pre x W hJ hl => apYield (n - 1 - 1) w fn _ w.heap.size (W0.heap.size + 1) W0.heap.size (by omega) (by omega) (by omega) (Nat.le_refl _) (by omega) N hN pre x W hJ hl) hM).mono ?_
    rintro e W2 ⟨⟨v0, rfl⟩, ss, hS, h2⟩
    obtain ⟨v, hv, hrow⟩ := h2.box
    have hend := run_endLoop (P := Try.prog) h2.L (by simp [apRec])
    obtain ⟨W3, hW3⟩ : ∃ W3, W2.putObj (W0.heap.size + 1) (.loop { apRec fn (.func (.func g) #[] lb) w.heap.size W0.heap.size .ready none with state := .exhausted }) = W3 := ⟨_, rfl⟩
    rw [hW3] at hend
    have hv3 : W3.heap[w.heap.size]? = some (.cells #[v] 226 (0, 0)) := by rw [← hW3]; exact (World.putObj_heap_other (by omega)).trans hv
    have hK3 : W3.heap[W0.heap.size]? = some (.deferred (some [])) := by rw [← hW3]; exact (World.putObj_heap_other (by omega)).trans h2.K
    have hg3 : W2.grownBy W3 (some (W0.heap.size + 1)) := by rw [← hW3]; exact grownBy_putObj_a _ _ _
    have hrow3 := hrow.kept hg3 (ownsRow_ne_a hrow h2.L (fun cur e => by cases e))
    have hb3 : Below w.heap.size w W3 := h2.below.grown hg3 h2.below.size (fun k e => by cases e; omega)
    obtain ⟨hc3, hf3⟩ := cell_of_box_a hv3
    clear hW3
    refine ⟨none, W3, hend, ?_⟩
    gi_wp2
    rw [← hs0]
    refine ⟨by simp, .inl ⟨_, _, rfl, run_takeDeferred hK3, ?_⟩⟩
    exact ⟨_, results_tmp rfl _ _ _, v, ss, rfl, hS, hrow3.kept (grownBy_putObj_a _ _ _) (ownsRow_ne_a hrow3 hK3 (fun cur e => by cases e)), hb3.grown (grownBy_putObj_a _ _ _) hb3.size (fun k e => by cases e; omega)⟩

set_option maxHeartbeats 1000000 in
theorem collect {n : Nat} (hn : 3 ≤ n) (g : Nat) (lb : Array Value) (eg : ∀ args w, (callFunc g args).run Try.prog w = .ok (.enter g args) w)
    (S : List (Int × Int) → Prop) (N : Nat) (hN : N ≤ 1000000) (w : World) (hseq : SeqGives Fence.wide (n - 1 - 1) Try.prog g lb kp S N w) :
    CallsIn Fence.wide n Try.prog 187 #[.func (.func g) #[] lb] w fun e w' => ∃ (v : Value) (ss : List (Int × Int)), e = .returned v ∧ S ss ∧ w'.ownsRow w.heap.size 223 2 v ss.length (ss.flatMap encC) ∧ Below w.heap.size w w' := by
  have h1 : 1 ≤ n := by omega
  have hfA : Fence.wide.fn 199 := trivial
  refine callsIn_of_wp Try.func187 rfl trivial ?_ rfl
  simp only [Try.ntmps187, List.size_toArray, List.length_cons, List.length_nil, Nat.reduceAdd, Nat.reduceSub, Array.replicate_succ, Array.replicate_zero, List.push_toArray, List.append_toArray, List.nil_append, List.cons_append]
  gi_wp2_with (gi_at_call 199; refine (appendSeq (n := n - 1) (by omega) g lb eg S N hN _ hseq).mono ?_; rintro e w' ⟨v, ss, rfl, hS, hrow, hb⟩)
  go_ret
  exact ⟨v, ss, rfl, hS, hrow, hb⟩
end Go.Proofs.Ytnceglkoolfncaa.Us
