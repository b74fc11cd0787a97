/- Trash, plain: what is dead, and what stays. (merged: Dp Da Dc Dd) -/
import Derived.Test.YtmgcapccgncmkaaDoorMs
import Derived.Test.YtmgcapccgncmkaaDoorIg
import Derived.Test.YtmgcapccgncmkaaDoorPTrashFindsx0
import Derived.Test.YtmgcapccgncmkaaDoorIq
set_option linter.unusedSimpArgs false
set_option linter.unusedVariables false
namespace Go.Pv.Trash
open Go Go.Pv
abbrev ML := List (ByteArray × Int)
section
variable {C : Type} (cid : C → Int) (nm : C → ByteArray) (ex : C → Bool)
def lastS (al : ML) (x : C) : ML := match aget (nm x) al with
  | none => aset (nm x) (cid x) al
  | some n => if cid x > n then aset (nm x) (cid x) al else al
def lastL (l : List C) : ML := l.foldl (lastS cid nm) []
def deadB (al : ML) (x : C) : Bool := ex x && decide (cid x < (aget (nm x) al).getD 0)
theorem step_a (al : ML) (x : C) (k : ByteArray) (m0 : Int) (h : aget k al = some m0) : ∃ m, aget k (lastS cid nm al x) = some m ∧ m0 ≤ m := by
  unfold lastS
  by_cases hk : k = nm x
  · subst hk
    rw [h]
    simp only
    split
    · exact ⟨cid x, aget_aset_same _ _ _, by omega⟩
    · exact ⟨m0, h, Int.le_refl _⟩
  · split
    · exact ⟨m0, by rw [aget_aset_other hk]; exact h, Int.le_refl _⟩
    · split
      · exact ⟨m0, by rw [aget_aset_other hk]; exact h, Int.le_refl _⟩
      · exact ⟨m0, h, Int.le_refl _⟩
theorem step_b (al : ML) (x : C) : ∃ m, aget (nm x) (lastS cid nm al x) = some m ∧ cid x ≤ m := by
  unfold lastS
  cases h : aget (nm x) al with
  | none => exact ⟨_, aget_aset_same _ _ _, Int.le_refl _⟩
  | some n =>
    simp only
    split
    · exact ⟨_, aget_aset_same _ _ _, Int.le_refl _⟩
    · exact ⟨n, h, by omega⟩
theorem step_c (al : ML) (x : C) (k : ByteArray) (m : Int) (h : aget k (lastS cid nm al x) = some m) : aget k al = some m ∨ nm x = k ∧ cid x = m := by
  have key : aget k (aset (nm x) (cid x) al) = some m → aget k al = some m ∨ nm x = k ∧ cid x = m := fun h => by
    by_cases hk : k = nm x
    · subst hk
      rw [aget_aset_same] at h
      exact .inr ⟨rfl, Option.some.inj h⟩
    · rw [aget_aset_other hk] at h
      exact .inl h
  unfold lastS at h
  split at h
  · exact key h
  · split at h
    · exact key h
    · exact .inl h
theorem fold_a : ∀ (l : List C) (al : ML) (k : ByteArray) (m0 : Int), aget k al = some m0 → ∃ m, aget k (l.foldl (lastS cid nm) al) = some m ∧ m0 ≤ m
  | [], al, k, m0, h => ⟨m0, h, Int.le_refl _⟩
  | x :: l, al, k, m0, h => by
    obtain ⟨m1, h1, h2⟩ := step_a cid nm al x k m0 h
    obtain ⟨m2, h3, h4⟩ := fold_a l _ k m1 h1
    exact ⟨m2, h3, by omega⟩
theorem fold_b : ∀ (l : List C) (al : ML) (x : C), x ∈ l → ∃ m, aget (nm x) (l.foldl (lastS cid nm) al) = some m ∧ cid x ≤ m
  | y :: l, al, x, h => by
    rcases List.mem_cons.1 h with rfl | h
    · obtain ⟨m1, h1, h2⟩ := step_b cid nm al x
      obtain ⟨m2, h3, h4⟩ := fold_a cid nm l _ _ m1 h1
      exact ⟨m2, h3, by omega⟩
    · exact fold_b l _ x h
theorem fold_c : ∀ (l : List C) (al : ML) (k : ByteArray) (m : Int), aget k (l.foldl (lastS cid nm) al) = some m → aget k al = some m ∨ ∃ x ∈ l, nm x = k ∧ cid x = m
  | [], al, k, m, h => .inl h
  | y :: l, al, k, m, h => by
    rcases fold_c l _ k m h with h | ⟨x, h1, h2⟩
    · rcases step_c cid nm al y k m h with h | h
      · exact .inl h
      · exact .inr ⟨y, by simp, h⟩
    · exact .inr ⟨x, by simp [h1], h2⟩
/-- One is dead, if it exited and one of its name has a greater number. -/
theorem dead_iff (l : List C) (x : C) (hx : x ∈ l) : deadB cid nm ex (lastL cid nm l) x = true ↔ ex x = true ∧ ∃ y ∈ l, nm y = nm x ∧ cid x < cid y := by
  obtain ⟨m, h1, h2⟩ := fold_b cid nm l [] x hx
  have h3 : aget (nm x) (lastL cid nm l) = some m := h1
  unfold deadB
  rw [h3]
  simp only [Option.getD_some, Bool.and_eq_true, decide_eq_true_eq]
  refine and_congr_right fun _ => ⟨fun h => ?_, fun ⟨y, hy, hn, hl⟩ => ?_⟩
  · rcases fold_c cid nm l [] (nm x) m h1 with h4 | ⟨y, hy, h4, h5⟩
    · simp [aget] at h4
    · exact ⟨y, hy, h4, by omega⟩
  · obtain ⟨m2, h4, h5⟩ := fold_b cid nm l [] y hy
    rw [hn] at h4
    have := Option.some.inj (h1.symm.trans h4)
    omega
/-- Rising numbers. -/
def Rise (l : List C) : Prop := l.Pairwise fun a b => cid a < cid b
theorem Rise.inj {l : List C} (h : Rise cid l) {x y : C} (hx : x ∈ l) (hy : y ∈ l) (he : cid x = cid y) : x = y := by
  induction l with
  | nil => simp at hx
  | cons a r ih =>
    have h2 := List.pairwise_cons.1 h
    rcases List.mem_cons.1 hx with e1 | h3
    · rcases List.mem_cons.1 hy with e2 | h4
      · rw [e1, e2]
      · have := h2.1 y h4; rw [e1] at he; omega
    · rcases List.mem_cons.1 hy with e2 | h4
      · have := h2.1 x h3; rw [e2] at he; omega
      · exact ih h2.2 h3 h4
theorem Rise.last {l : List C} {z : C} (h : Rise cid (l ++ [z])) (y : C) (hy : y ∈ l ++ [z]) : cid y ≤ cid z := by
  rcases List.mem_append.1 hy with h1 | h1
  · have := (List.pairwise_append.1 h).2.2 y h1 z (by simp)
    omega
  · simp only [List.mem_cons, List.not_mem_nil, or_false] at h1
    subst h1
    exact Int.le_refl _
/-- A list without a number. -/
def wo (c : Int) (l : List C) : List C := l.filter fun y => decide (cid y ≠ c)
theorem Rise.wo {l : List C} (h : Rise cid l) (c : Int) : Rise cid (wo cid c l) := List.Pairwise.filter _ h
theorem wo_live {l : List C} (h : Rise cid l) {x : C} (hx : x ∈ l) (hd : deadB cid nm ex (lastL cid nm l) x = true) : (wo cid (cid x) l).filter (fun y => !ex y) = l.filter (fun y => !ex y) := by
  have he := ((dead_iff cid nm ex l x hx).1 hd).1
  unfold wo
  rw [List.filter_filter]
  refine List.filter_congr fun y hy => ?_
  by_cases hc : cid y = cid x
  · have := h.inj cid hy hx hc
    subst this
    simp [he]
  · simp [hc]
theorem wo_last {l : List C} {z : C} (h : Rise cid (l ++ [z])) {x : C} (hx : x ∈ l ++ [z]) (hd : deadB cid nm ex (lastL cid nm (l ++ [z])) x = true) : wo cid (cid x) (l ++ [z]) = wo cid (cid x) l ++ [z] := by
  obtain ⟨_, y, hy, _, hl⟩ := (dead_iff cid nm ex _ x hx).1 hd
  have h1 := h.last cid y hy
  unfold wo
  rw [List.filter_append]
  have : decide (cid z ≠ cid x) = true := by simp; omega
  simp [this]
  omega
theorem wo_less {l : List C} {x : C} (hx : x ∈ l) : (wo cid (cid x) l).length < l.length := by
  unfold wo
  rw [List.length_filter_lt_length_iff_exists]
  exact ⟨x, hx, by simp⟩
theorem wo_le (c : Int) (l : List C) : (wo cid c l).length ≤ l.length := List.length_filter_le _ _
end
end Go.Pv.Trash
namespace Go.Proofs.YtmgcapccgncmkaaDoor.Tr
open Go.RowKit Go.Pv Go.Proofs.YtmgcapccgncmkaaDoor.Im Go.Proofs.YtmgcapccgncmkaaDoorW.PrintWords Go.Proofs.YtmgcapccgncmkaaDoorW.PrintLast Go.Proofs.YtmgcapccgncmkaaDoor.PTrashFinds

def encI (x : Int) : List Value := [.int .i64 x]
theorem infoI : ∃ i, Tryd.prog.info? 3 = some i ∧ i.zero = some (.int .i64 0) ∧ i.size = 1 ∧ i.bytes = 8 :=
  infoParts (show (Tryd.prog.info? 3).map (fun i => (i.zero, i.size, i.bytes)) = some (some (.int .i64 0), 1, 8) by kernel_rfl)
theorem iapp1 {w2 : World} {A : Option Addr} {n c : Nat} {L : List Int} (sl : SlOf w2 3 1 encI (.slice A n c) L) (hL : L.length ≤ 100000) (hn : n = L.length) (x : Int) :
    ∃ A' n' c' w3, (Builtin.append_ #[23, 23] 23 #[.slice A n c, .slice (some ⟨w2.heap.size, 0, none⟩) 1 1]).run Tryd.prog (w2.alloc (.cells #[.int .i64 x] 3)) = .ok (.slice A' n' c') w3 ∧ n' = (L ++ [x]).length ∧
      SlOf w3 3 1 encI (.slice A' n' c') (L ++ [x]) ∧ Keeps (fun k => (Value.slice A n c).ownBlock = some k) w2 w3 ∧ ((Value.slice A' n' c').ownBlock = (Value.slice A n c).ownBlock ∨ ∃ g, (Value.slice A' n' c').ownBlock = some g ∧ w2.heap.size ≤ g) := by
  subst hn
  obtain ⟨i0, hi, hz0, hz1, hz2⟩ := infoI
  have k3 : Below w2.heap.size w2 (w2.alloc (.cells #[.int .i64 x] 3)) := (Below.refl _ w2).alloc (Nat.le_refl _) _
  have bx : (w2.alloc (.cells #[.int .i64 x] 3)).heap[w2.heap.size]? = some (.cells #[.int .i64 x] 3 (0, 0)) := heap_at _ _ _ rfl
  have s2 : SlOf (w2.alloc (.cells #[.int .i64 x] 3)) 3 1 encI (.slice A L.length c) L := SlRow.kept sl (Keeps.of_below (F := fun _ => False) k3) (by simp)
  obtain ⟨v', w3, hr, hs3, hk3, hloc, -, -⟩ := run_append_sl (P := Tryd.prog) _ 23 23 3 i0 _ 1 8 Tryd.underlying23 hi hz0 hz1 hz2 rfl _ _ _ s2
        (.slice (some ⟨w2.heap.size, 0, none⟩) 1 1) 1 [.int .i64 x]
        (.inr ⟨_, _, rfl, World.news_of_block (cs := #[.int .i64 x]) (t := 3) (fr := (0, 0)) bx⟩) rfl (by simp [Value.oneCell']) (by unfold maxLen; omega) (by omega)
  have hform : ∃ a c, v' = .slice a (L.length + 1) c := by
    rcases SlRow.form hs3 with ⟨h1, h2⟩ | ⟨g, o, c, h1⟩
    · exact ⟨none, 0, by rw [h1, h2]⟩
    · exact ⟨_, _, h1⟩
  obtain ⟨A', c', hv'⟩ := hform
  subst hv'
  refine ⟨A', L.length + 1, c', w3, hr, by simp, ?_, (Keeps.of_below (F := fun k => (Value.slice A L.length c).ownBlock = some k) k3).trans hk3 (fun i hi => .inl hi), ?_⟩
  · unfold SlOf
    simpa [List.flatMap_append, encI] using hs3
  · rcases hloc with h | h
    · exact .inl h
    · exact .inr ⟨_, h, k3.size⟩
/-- A row of numbers that grows, behind the world w. -/
structure LI (w W : World) (v : Value) (L : List Int) : Prop where
  low : Below w.heap.size w W
  sl : SlOf W 3 1 encI v L
  new : ∀ g, v.ownBlock = some g → w.heap.size ≤ g
theorem LI.later {w W V : World} {v : Value} {L : List Int} (h : LI w W v L) (hb : Below W.heap.size W V) : LI w V v L :=
  ⟨h.low.trans (hb.mono h.low.size), SlRow.kept h.sl (Keeps.of_below (F := fun _ => False) hb) (by simp), h.new⟩
theorem LI.add {w W V : World} {v v' : Value} {L L' : List Int} (h : LI w W v L) (hs : SlOf V 3 1 encI v' L') (hk : Keeps (fun k => v.ownBlock = some k) W V) (hl : v'.ownBlock = v.ownBlock ∨ ∃ g, v'.ownBlock = some g ∧ W.heap.size ≤ g) : LI w V v' L' :=
  ⟨h.low.trans (hk.below h.low.size h.new), hs, fun g hg => by
    rcases hl with h1 | ⟨g', h1, h2⟩
    · exact h.new g (h1 ▸ hg)
    · rw [h1] at hg
      cases hg
      exact Nat.le_trans h.low.size h2⟩

/-- The greatest number of each name. -/
abbrev ML := List (ByteArray × Int)
def lastS (al : ML) (x : S95) : ML := match aget x.f1 al with
  | none => aset x.f1 x.f0 al
  | some n => if x.f0 > n then aset x.f1 x.f0 al else al
def lastL (l : List S95) : ML := l.foldl lastS []
def deadB (al : ML) (x : S95) : Bool := decide (x.f3.f0 = 4) && decide (x.f0 < (aget x.f1 al).getD 0)
/-- What is trash. -/
def deadL (l : List S95) : List Int := (l.filter (deadB (lastL l))).map (·.f0)
theorem lastL_next (l : List S95) (j : Nat) (hj : j < l.length) : lastL (l.take (j + 1)) = lastS (lastL (l.take j)) l[j] := by
  unfold lastL
  rw [List.take_succ_eq_append_getElem hj, List.foldl_append]
  rfl
theorem dead_next (p : S95 → Bool) (l : List S95) (j : Nat) (hj : j < l.length) : ((l.take (j + 1)).filter p).map (·.f0) = ((l.take j).filter p).map (·.f0) ++ (if p l[j] then [l[j].f0] else []) := by
  rw [List.take_succ_eq_append_getElem hj, List.filter_append, List.map_append]
  by_cases h : p l[j] <;> simp [h]
theorem zeroInt (w : World) : (zeroValue 3).run Tryd.prog w = .ok (.int .i64 0) w := by kernel_rfl
/-- While Dead looks. -/
structure DM (w W : World) (mb : Nat) (al : ML) : Prop where
  low : Below w.heap.size w W
  mp : IsMap W mb sv (al.map fun r => (r.1, Value.int .i64 r.2))
  nd : (al.map (·.1)).Nodup
  ge : w.heap.size ≤ mb
section
variable {w W V : World} {mb : Nat} {al : ML}
theorem DM.later (h : DM w W mb al) (hb : Below W.heap.size W V) : DM w V mb al := ⟨h.low.trans (hb.mono h.low.size), h.mp.kept (Keeps.of_below (F := fun _ => False) hb) (by simp), h.nd, h.ge⟩
theorem DM.look_ok (h : DM w W mb al) (k : ByteArray) : (Instr.lookup 133 (.map (some mb)) (.string k) true).run Tryd.prog W = .ok (.tuple #[.int .i64 ((aget k al).getD 0), .bool (aget k al).isSome]) W := by
  have := h.mp.lookup_ok keyS Tryd.underlying133 zeroInt k
  rw [aget_map] at this
  refine this.trans ?_
  cases aget k al <;> rfl
theorem DM.look (h : DM w W mb al) (k : ByteArray) : (Instr.lookup 133 (.map (some mb)) (.string k) false).run Tryd.prog W = .ok (.int .i64 ((aget k al).getD 0)) W := by
  have := h.mp.lookup keyS Tryd.underlying133 zeroInt k
  rw [aget_map] at this
  refine this.trans ?_
  cases aget k al <;> rfl
theorem DM.upd (h : DM w W mb al) (k : ByteArray) (x : Int) : ∃ w5, Hid ((Instr.mapUpdate 133 (.map (some mb)) (.string k) (.int .i64 x)).run Tryd.prog W = .ok () w5) ∧ Hid (DM w w5 mb (aset k x al)) ∧ Keeps (fun i => i = mb) W w5 := by
  obtain ⟨w5, h1, h2, h3, -⟩ := h.mp.update keyS Tryd.underlying133 k (.int .i64 x)
  rw [aset_map (fun x => Value.int .i64 x)] at h2
  exact ⟨w5, h1, ⟨h.low.trans (h3.below h.low.size (fun i hi => by rw [hi]; exact h.ge)), h2, aset_nodup k x h.nd, h.ge⟩, h3⟩
end
theorem wl_lookup_g {P : Program} {ops : Array Oper} {Q : Exit → Act → World → Prop} {o : Oper} {rest : List Oper} {a : Act} {w : World} (hw : Region.wanted o (yielded ops a.tmps) = true) (m x : Operand) (t : TypeId) (ok : Bool) (ho : o.op = .lookup t m x ok)
    (H : ∃ v' w', (Instr.lookup t (a.eval m) (a.eval x) ok).run P w = .ok v' w' ∧ wpList P ops Q rest (a.put o.dst v') w') : wpList P ops Q (o :: rest) a w := by
  obtain ⟨v', w', hr, hk⟩ := H
  refine wpList_step fun K hK => ?_
  rw [if_pos hw]
  unfold Oper.wp execOp
  simp only [ho, Sem.run_bind, Sem.run_pure, Result.andThen_ok, hr]
  exact hK _ _ hk
theorem blk_keeps {F : Nat → Prop} {W V : World} {b : Nat} {o : Obj} (hk : Keeps F W V) (hF : ¬ F b) (h : W.heap[b]? = some o) : V.heap[b]? = some o := (hk.block b (Array.getElem?_eq_some_iff.1 h).1 hF).trans h
theorem rd95 (l : List S95) (j : Nat) (h : j < l.length) : rd_T95 l (j : Int) = l[j] := by simp [rd_T95, List.getD_eq_getElem?_getD, h]
set_option maxRecDepth 10000 in
set_option maxHeartbeats 4000000 in
theorem dead_any {w : World} {A : Option Addr} {c : Nat} {l : List S95} {id uid st : Int} (hC : Kd.C k95 w A l.length l) (hl : l.length ≤ 1000) :
    Calls Tryd.prog 37 #[.agg #[.int .i64 id, .int .i64 uid, .int .i64 st, .slice A l.length c]] w fun e w' => ∃ A' n' c', e = .returned (.slice A' n' c') ∧ n' = (deadL l).length ∧ LI w w' (.slice A' n' c') (deadL l) := by
  have hmm := @run_makeMap Tryd.prog
  have HC := hid hC
  have HDL := hid (show deadL l = (l.filter (deadB (lastL l))).map (·.f0) from rfl)
  obtain ⟨n, hn⟩ : ∃ n, n = l.length := ⟨_, rfl⟩
  rw [← hn] at hl ⊢
  have HN := hid hn
  obtain ⟨W1, hW1⟩ : ∃ W1, W1 = w.alloc (.cells #[.int .i64 id, .int .i64 uid, .int .i64 st, .slice A n c] 83) := ⟨_, rfl⟩
  obtain ⟨W2, hW2⟩ : ∃ W2, W2 = W1.alloc (.map #[] 0) := ⟨_, rfl⟩
  obtain ⟨b1, hb1⟩ : ∃ b1, b1 = w.heap.size := ⟨_, rfl⟩
  obtain ⟨mb, hmb⟩ : ∃ mb, mb = w.heap.size + 1 := ⟨_, rfl⟩
  have hB1 : Below w.heap.size w W1 := by rw [hW1]; exact (Below.refl _ w).alloc (Nat.le_refl _) _
  have hs1 : W1.heap.size = w.heap.size + 1 := by rw [hW1]; simp
  have k1 : W2.heap[b1]? = some (.cells #[.int .i64 id, .int .i64 uid, .int .i64 st, .slice A n c] 83 (0, 0)) := by
    rw [hW2, hb1]
    exact (Below.heap_alloc _ _ _ (by omega)).trans (by rw [hW1]; exact heap_alloc_new _ _)
  have H0 := hid (show DM w W2 mb [] from ⟨by rw [hW2]; exact hB1.alloc hB1.size _, by rw [hW2, hmb, ← hs1]; exact IsMap.made W1 sv, by simp, by omega⟩)
  have hlo := fun W (hb : Below w.heap.size w W) (j : Nat) (hj : j < l.length) => at_T95 (Kd.C_below hC hb) (j : Int) (by omega) (by omega)
  have HLO := hid hlo
  have hbm : b1 < W2.heap.size ∧ b1 ≠ mb := by rw [hW2]; simp; omega
  have HBM := hid hbm
  obtain ⟨x0, x1, x2, x3, -⟩ := cells4 k1
  have K1 := hid k1
  clear hC hn hlo hB1 hs1 hbm k1
  go_enter Tryd.func37, Tryd.ntmps37
  go_upto_region 2 with fail
  rw [← hW1, ← hW2, ← hmb, ← hb1]
  clear hW1 hW2 hmb hb1
  go_wp2_with fail
  go_loopg [15] n (fun q s15 wr => ∃ j : Nat, s15 = .int .i64 (j : Int) ∧ q = n - j ∧ j ≤ n ∧ Hid (DM w wr mb (lastL (l.take j))) ∧ Hid (wr.heap[b1]? = some (.cells #[.int .i64 id, .int .i64 uid, .int .i64 st, .slice A n c] 83 (0, 0))))
  case atStart => exact ⟨0, rfl, by omega, by omega, H0, K1⟩
  case round =>
    clear H0 K1 x0 x1 x2 x3
    obtain ⟨j, rfl, rfl, hj, HD, K1⟩ := hrel
    have hwj : IntKind.i64.wrap ((j : Int) + 1) = ((j + 1 : Nat) : Int) := by rw [IntWalk.i64_in _ (by omega)]; omega
    by_cases hlt : j < n
    · have hjl : j < l.length := by rw [← HN.out]; exact hlt
      obtain ⟨ad, hA, d0, d1, d2, d3, d4, d5, d6⟩ := HLO.out wr HD.out.low j hjl
      subst hA
      rw [rd95 l j hjl] at d0 d1 d2 d3 d4 d5 d6
      simp only [Int.toNat_natCast] at d0 d1 d2 d3 d4 d5 d6
      have hnx := lastL_next l j hjl
      generalize lastL (l.take j) = al at HD hnx
      generalize l[j] = x at d0 d1 d2 d3 d4 d5 d6 hnx
      obtain ⟨f0, f1, f2, ⟨g0, g1, g2⟩, f4⟩ := x
      simp only at d0 d1 d2 d3 d4 d5 d6
      unfold lastS at hnx
      simp only at hnx
      have hb5 : Below wr.heap.size wr (wr.alloc (.cells #[.int .i64 f0, .string f1, .string f2, .int .i64 g0, .int .i64 g1, .int .i64 g2, .bool f4] 95)) := (Below.refl _ wr).alloc (Nat.le_refl _) _
      have HD5 := hid (HD.out.later hb5)
      have K15 := hid (blk_of hb5 K1.out)
      have HLk := hid (HD5.out.look_ok f1)
      obtain ⟨w5, HR5, HD6, hk6⟩ := HD5.out.upd f1 f0
      have hgem : b1 ≠ mb := HBM.out.2
      have K16 := hid (blk_keeps hk6 hgem K15.out)
      clear hjl hb5 hk6
      cases hg : aget f1 al with
      | none =>
        rw [hg] at HLk hnx
        simp only [Option.getD_none, Option.isSome_none] at HLk hnx
        have HNX := hid hnx
        clear hg hnx
        go_wp2_with (first
          | (at_lookup; refine wl_lookup rfl _ _ _ _ rfl ⟨_, _, HLk.out, ?_⟩)
          | (at_mapUpdate; refine wl_mapUpdate rfl _ _ _ _ rfl ⟨_, HR5.out, ?_⟩))
        go_roundg (n - (j + 1))
        case measure => omega
        case rel => exact ⟨j + 1, rfl, rfl, by omega, by rw [HNX.out]; exact HD6, K16⟩
      | some m =>
        rw [hg] at HLk hnx
        simp only [Option.getD_some, Option.isSome_some] at HLk hnx
        by_cases hgt : f0 > m
        · have q0 : decide (f0 > m) = true := decide_eq_true hgt
          rw [if_pos hgt] at hnx
          have HNX := hid hnx
          clear hg hnx hgt
          go_wp2_with (first
            | (at_lookup; refine wl_lookup rfl _ _ _ _ rfl ⟨_, _, HLk.out, ?_⟩)
            | (at_mapUpdate; refine wl_mapUpdate rfl _ _ _ _ rfl ⟨_, HR5.out, ?_⟩))
          go_roundg (n - (j + 1))
          case measure => omega
          case rel => exact ⟨j + 1, rfl, rfl, by omega, by rw [HNX.out]; exact HD6, K16⟩
        · have q0 : decide (f0 > m) = false := decide_eq_false hgt
          rw [if_neg hgt] at hnx
          have HNX := hid hnx
          clear hg hnx hgt
          go_wp2_with (at_lookup; refine wl_lookup rfl _ _ _ _ rfl ⟨_, _, HLk.out, ?_⟩)
          go_roundg (n - (j + 1))
          case measure => omega
          case rel => exact ⟨j + 1, rfl, rfl, by omega, by rw [HNX.out]; exact HD5, K15⟩
    · have hje : j = n := by omega
      subst hje
      rw [HN.out, List.take_length] at HD
      obtain ⟨x0, x1, x2, x3, -⟩ := cells4 K1.out
      have H1 := hid (show LI wr wr (.slice none 0 0) (((l.take 0).filter (deadB (lastL l))).map (·.f0)) from ⟨Below.refl _ _, SlRow.nil _ _ _, by simp [Value.ownBlock]⟩)
      clear K1
      go_wp2_with fail
      clear x0 x1 x2 x3
      generalize wr = wq at HD H1 ⊢
      go_loopg [8, 43] j (fun q s8 s43 wr2 => ∃ (i : Nat) (A1 : Option Addr) (n1 c1 : Nat), s8 = .slice A1 n1 c1 ∧ s43 = .int .i64 (i : Int) ∧ q = j - i ∧ i ≤ j ∧ Hid (n1 = (((l.take i).filter (deadB (lastL l))).map (·.f0)).length) ∧ Hid (LI wq wr2 (.slice A1 n1 c1) (((l.take i).filter (deadB (lastL l))).map (·.f0))))
      case atStart => exact ⟨0, none, 0, 0, rfl, rfl, by omega, by omega, hid (by simp), H1⟩
      case round =>
        clear H1
        obtain ⟨i, A1, n1, c1, rfl, rfl, rfl, hi, hn1, HL⟩ := hrel
        have hwi : IntKind.i64.wrap ((i : Int) + 1) = ((i + 1 : Nat) : Int) := by rw [IntWalk.i64_in _ (by omega)]; omega
        by_cases hlt : i < j
        · have hjl : i < l.length := by rw [← HN.out]; exact hlt
          have HD2 := hid (HD.out.later HL.out.low)
          obtain ⟨ad, hA, d0, d1, d2, d3, d4, d5, d6⟩ := HLO.out wr HD2.out.low i hjl
          subst hA
          rw [rd95 l i hjl] at d0 d1 d2 d3 d4 d5 d6
          simp only [Int.toNat_natCast] at d0 d1 d2 d3 d4 d5 d6
          have hnx := dead_next (deadB (lastL l)) l i hjl
          rw [show deadB (lastL l) l[i] = (decide (l[i].f3.f0 = 4) && decide (l[i].f0 < (aget l[i].f1 (lastL l)).getD 0)) from rfl] at hnx
          have hfl : (((l.take i).filter (deadB (lastL l))).map (·.f0)).length ≤ 1000 := by
            rw [List.length_map]
            exact Nat.le_trans (List.length_filter_le _ _) (by rw [List.length_take]; omega)
          generalize ((l.take i).filter (deadB (lastL l))).map (·.f0) = L1 at HL hnx hfl hn1
          generalize l[i] = x at d0 d1 d2 d3 d4 d5 d6 hnx
          obtain ⟨f0, f1, f2, ⟨g0, g1, g2⟩, f4⟩ := x
          simp only at d0 d1 d2 d3 d4 d5 d6 hnx
          have hb5 : Below wr.heap.size wr (wr.alloc (.cells #[.int .i64 f0, .string f1, .string f2, .int .i64 g0, .int .i64 g1, .int .i64 g2, .bool f4] 95)) := (Below.refl _ wr).alloc (Nat.le_refl _) _
          have HLk := hid ((HD2.out.later hb5).look f1)
          have HL5 := hid (HL.out.later hb5)
          generalize (aget f1 (lastL l)).getD 0 = m at HLk hnx
          clear hjl
          by_cases hq : g0 = 4 ∧ f0 < m
          · have q0 : decide (g0 = 4) = true := decide_eq_true hq.1
            have q1 : (g0 == 4) = true := by simpa using hq.1
            have q2 : decide (f0 < m) = true := decide_eq_true hq.2
            rw [q0, q2] at hnx
            simp only [Bool.and_self, if_true] at hnx
            have HNX := hid hnx
            clear hnx hq
            obtain ⟨A2, n2, c2, w4, hr, hn2, hs4, hk4, hl4⟩ := iapp1 HL5.out.sl (by omega) hn1.out f0
            rw [World.size_alloc] at hr
            have HR := hid hr
            have HL4 := hid (HL5.out.add hs4 hk4 hl4)
            rw [← HNX.out] at HL4 hn2
            have HN2 := hid hn2
            clear hr hs4 hk4 hl4 hn2 hfl
            go_upto_region 14 with (at_lookup; refine wl_lookup_g (by rfl) _ _ _ _ rfl ⟨_, _, HLk.out, ?_⟩)
            go_wp2_with (at_builtin; refine wl_append rfl _ _ _ rfl ⟨_, _, HR.out, ?_⟩)
            go_roundg (j - (i + 1))
            case measure => omega
            case rel => exact ⟨i + 1, A2, n2, c2, rfl, rfl, rfl, by omega, HN2, HL4⟩
          · have hB : (decide (g0 = 4) && decide (f0 < m)) = false := by
              by_cases h4 : g0 = 4
              · have : ¬ f0 < m := fun h => hq ⟨h4, h⟩
                simp [h4, this]
              · simp [h4]
            rw [hB] at hnx
            rw [if_neg (by decide), List.append_nil] at hnx
            have HNX := hid hnx
            clear hnx hB hfl
            by_cases h4 : g0 = 4
            · have q0 : decide (g0 = 4) = true := decide_eq_true h4
              have q1 : (g0 == 4) = true := by simpa using h4
              have q2 : decide (f0 < m) = false := decide_eq_false (fun h => hq ⟨h4, h⟩)
              clear hq h4
              go_wp2_with (at_lookup; refine wl_lookup_g (by rfl) _ _ _ _ rfl ⟨_, _, HLk.out, ?_⟩)
              go_roundg (j - (i + 1))
              case measure => omega
              case rel => exact ⟨i + 1, A1, n1, c1, rfl, rfl, rfl, by omega, by rw [HNX.out]; exact hn1, by rw [HNX.out]; exact HL5⟩
            · have q0 : decide (g0 = 4) = false := decide_eq_false h4
              have q1 : (g0 == 4) = false := by simpa using h4
              clear hq h4
              go_wp2_with fail
              go_roundg (j - (i + 1))
              case measure => omega
              case rel => exact ⟨i + 1, A1, n1, c1, rfl, rfl, rfl, by omega, by rw [HNX.out]; exact hn1, by rw [HNX.out]; exact HL5⟩
        · have hie : i = l.length := by rw [← HN.out]; omega
          subst hie
          rw [List.take_length] at HL hn1
          rw [← HDL.out] at HL hn1
          go_wp2_with fail
          go_ret
          exact ⟨A1, n1, c1, rfl, hn1.out, ⟨HD.out.low.trans (HL.out.low.mono HD.out.low.size), HL.out.sl, fun g hg => Nat.le_trans HD.out.low.size (HL.out.new g hg)⟩⟩
end Go.Proofs.YtmgcapccgncmkaaDoor.Tr
namespace Go.Proofs.YtmgcapccgncmkaaDoor.Tr
open Go.RowKit Go.Pv Go.Proofs.YtmgcapccgncmkaaDoor.Im Go.Proofs.YtmgcapccgncmkaaDoorW.PrintWords Go.Proofs.YtmgcapccgncmkaaDoorW.PrintLast Go.Proofs.YtmgcapccgncmkaaDoor.PTrashFinds

/-- What is unused for that long: those that are unused longest first. -/
def unX (tick ago : Int) (al : IL) : List ByteArray := sortC (cmpS al) (unusedA tick ago al)
set_option maxRecDepth 10000 in
set_option maxHeartbeats 2000000 in
theorem unused_x {w : World} {p mb : Nat} {al : IL} {tick : Int} (h : IBk w p mb al tick) (hsh : Short al) (ht : 0 ≤ tick ∧ tick ≤ 1000000) (hs : ∀ k, 0 ≤ (getI k al).2.2 ∧ (getI k al).2.2 ≤ 1000000) (ago : Int) :
    Calls Tryd.prog 32 #[.pointer (some ⟨p, 0, none⟩), .int .i64 ago] w fun e w' => ∃ A n c, e = .returned (.slice A n c) ∧ RS w w' A n c (unX tick ago al) := by
  obtain ⟨W1, hW1⟩ : ∃ W1, W1 = (w.alloc (.cells #[.pointer (some ⟨p, 0, none⟩)] 56)).alloc (.cells #[.int .i64 ago] 3) := ⟨_, rfl⟩
  obtain ⟨b3, hb3⟩ : ∃ b3, b3 = w.heap.size + 1 := ⟨_, rfl⟩
  have hB : Below w.heap.size w W1 := by rw [hW1]; exact ((Below.refl _ w).alloc (Nat.le_refl _) _).alloc (by simp) _
  have hU : US W1 p mb w.heap.size b3 al tick ago := by
    refine ⟨h.below hB, ?_, ?_⟩
    · rw [hW1]
      have h1 := heap_alloc_new w (.cells #[.pointer (some ⟨p, 0, none⟩)] 56)
      have h2 : ((w.alloc (.cells #[.pointer (some ⟨p, 0, none⟩)] 56)).alloc (.cells #[.int .i64 ago] 3)).heap[w.heap.size]? = some (.cells #[.pointer (some ⟨p, 0, none⟩)] 56 (0, 0)) := (Below.heap_alloc _ _ _ (by simp)).trans h1
      rw [cell_of_row _ _ _ _ _ _ h2]
      rfl
    · rw [hW1, hb3]
      have h1 := heap_at (w.alloc (.cells #[.pointer (some ⟨p, 0, none⟩)] 56)) (.cells #[.int .i64 ago] 3) (w.heap.size + 1) (by simp)
      rw [cell_of_row _ _ _ _ _ _ h1]
      rfl
  have c2 := hU.h2
  have HL := hid (list_any hU.bk hsh)
  have HD := hid (fun w v hL => del_rs (w := w) (v := v) (L := listA al) hU ht hs hL)
  have HS := hid (fun w A n c xs hR hn => sort_rs (w := w) (A := A) (n := n) (c := c) (xs := xs) hU hR hn)
  have hul := unusedA_length tick ago al
  have hlen := hsh.2
  have HB := hid hB
  have HP := hid (fun xs => show sortC (cmpS al) xs = sortC (cmpS al) xs from rfl)
  have HE := hid (show (listA al).filter (fun k => !usedB tick ago (getI k al)) = unusedA tick ago al from rfl)
  rw [HE.out] at HD
  unfold unX
  generalize unusedA tick ago al = U0 at HD hul HE ⊢
  clear h hsh ht hs hU hB HE
  go_enter Tryd.func32, Tryd.ntmps32
  go_upto_region 1 with fail
  rw [← hb3, ← hW1]
  clear hb3 hW1
  go_wp2_with (first
    | (go_at_call 71; go_must (with_reducible refine HL.out.mono ?_); rintro e w2 ⟨v, rfl, hL2⟩; have HL2 := hid hL2; clear hL2)
    | (go_at_call 70; go_must (with_reducible refine (HD.out _ _ HL2.out).mono ?_); rintro e w3 ⟨A, n, c, rfl, hR⟩; have HR := hid hR; clear hR)
    | (go_at_call 73; go_must (with_reducible refine (HS.out _ _ _ _ _ HR.out (by omega)).mono ?_); rintro e w4 ⟨rfl, hR⟩; have HR2 := hid hR; clear hR))
  go_ret
  exact ⟨_, _, _, rfl, ⟨HB.out.trans (HR2.out.low.mono HB.out.size), HR2.out.len, HR2.out.alt.imp id (fun ⟨g, o, h1, h2, h3, h4⟩ => ⟨g, o, h1, h2, h3, Nat.le_trans HB.out.size h4⟩)⟩⟩
theorem one_cell {w W : World} {A : Option Addr} {n c : Nat} {u : ByteArray} {U : List ByteArray} (h : RS w W A n c (u :: U)) : ∃ g o, A = some ⟨g, o, none⟩ ∧ W.cell? ⟨g, o, none⟩ = some (.string u) ∧ 0 < n ∧ Below w.heap.size w W := by
  rcases h.alt with ⟨_, _, h3⟩ | ⟨g, o, h1, h2, _, _⟩
  · cases h3
  · exact ⟨g, o, h1, (h2.cells 0 u rfl).1, by rw [h.len]; simp, h.low⟩
/-- The first image that is trash. -/
def imgF (keep ago tick : Int) (al : IL) : Option ByteArray := if ((listA al).length : Int) ≤ keep then none else (unX tick ago al).head?
def ImgSays (keep ago tick : Int) (al : IL) (w : World) (e : Ending) (w' : World) : Prop := e = .returned (.tuple #[.string ((imgF keep ago tick al).getD ⟨#[]⟩), .bool (imgF keep ago tick al).isSome]) ∧ Below w.heap.size w w'
set_option maxRecDepth 10000 in
set_option maxHeartbeats 2000000 in
theorem image_any {w : World} {p mb : Nat} {al : IL} {tick : Int} (h : IBk w p mb al tick) (hsh : Short al) (ht : 0 ≤ tick ∧ tick ≤ 1000000) (hs : ∀ k, 0 ≤ (getI k al).2.2 ∧ (getI k al).2.2 ≤ 1000000) (keep ago : Int) :
    Calls Tryd.prog 40 #[.pointer (some ⟨p, 0, none⟩), .int .i64 keep, .int .i64 ago] w (ImgSays keep ago tick al w) := by
  have HL := hid (list_any h hsh)
  have HU := hid (fun W (hb : Below w.heap.size w W) => unused_x (h.below hb) hsh ht hs ago)
  have hF : imgF keep ago tick al = if ((listA al).length : Int) ≤ keep then none else (unX tick ago al).head? := rfl
  have HS := hid (fun e w' => show ImgSays keep ago tick al w e w' = (e = .returned (.tuple #[.string ((imgF keep ago tick al).getD ⟨#[]⟩), .bool (imgF keep ago tick al).isSome]) ∧ Below w.heap.size w w') from rfl)
  generalize ImgSays keep ago tick al w = S at HS ⊢
  generalize imgF keep ago tick al = X at hF HS
  generalize listA al = L at HL hF
  generalize unX tick ago al = U at HU hF
  clear h hsh ht hs
  by_cases hk : (L.length : Int) ≤ keep
  · rw [if_pos hk] at hF
    have q0 : decide ((L.length : Int) ≤ keep) = true := decide_eq_true hk
    have HF := hid hF
    clear hF
    go_enter Tryd.func40, Tryd.ntmps40
    go_wp2_with (go_at_call 71; go_must (with_reducible refine HL.out.mono ?_); rintro e w2 ⟨v, rfl, hL2⟩; obtain ⟨A, c, rfl⟩ := hL2.form; have HL2 := hid hL2; clear hL2)

    rw [HS.out, HF.out]
    exact ⟨rfl, HL2.out.low⟩
  · rw [if_neg hk] at hF
    have q0 : decide ((L.length : Int) ≤ keep) = false := decide_eq_false hk
    have HF := hid hF
    clear hF
    cases U with
    | nil =>
      go_enter Tryd.func40, Tryd.ntmps40
      go_wp2_with (first
        | (go_at_call 71; go_must (with_reducible refine HL.out.mono ?_); rintro e w2 ⟨v, rfl, hL2⟩; obtain ⟨A, c, rfl⟩ := hL2.form; have HL2 := hid hL2; clear hL2)
        | (go_at_call 32; go_must (with_reducible refine (HU.out _ HL2.out.low).mono ?_); rintro e w3 ⟨A3, n3, c3, rfl, hR⟩; obtain rfl := hR.len; have HR := hid hR; clear hR))

      rw [HS.out, HF.out]
      exact ⟨rfl, HL2.out.low.trans (HR.out.low.mono HL2.out.low.size)⟩
    | cons u U =>
      go_enter Tryd.func40, Tryd.ntmps40
      go_wp2_with (first
        | (go_at_call 71; go_must (with_reducible refine HL.out.mono ?_); rintro e w2 ⟨v, rfl, hL2⟩; obtain ⟨A, c, rfl⟩ := hL2.form; have HL2 := hid hL2; clear hL2)
        | (go_at_call 32; go_must (with_reducible refine (HU.out _ HL2.out.low).mono ?_); rintro e w3 ⟨A3, n3, c3, rfl, hR⟩; obtain ⟨g, o, rfl, hc, hn, hlo⟩ := one_cell hR; have HR := hid hlo; clear hR hlo))

      rw [HS.out, HF.out]
      exact ⟨rfl, HL2.out.low.trans (HR.out.mono HL2.out.low.size)⟩
end Go.Proofs.YtmgcapccgncmkaaDoor.Tr
namespace Go.Proofs.YtmgcapccgncmkaaDoor.Tr
open Go.RowKit Go.Pv Go.Proofs.YtmgcapccgncmkaaDoor.Im Go.Proofs.YtmgcapccgncmkaaDoorW.PrintWords Go.Proofs.YtmgcapccgncmkaaDoorW.PrintLast Go.Proofs.YtmgcapccgncmkaaDoor.PTrashFinds

def countL (L : List S83) : Nat := (L.map fun b => (deadL b.f3).length).sum
theorem countL_next (L : List S83) (j : Nat) (hj : j < L.length) : countL (L.take (j + 1)) = countL (L.take j) + (deadL L[j].f3).length := by
  unfold countL
  rw [List.take_succ_eq_append_getElem hj, List.map_append, List.sum_append]
  simp
theorem deadL_length (l : List S95) : (deadL l).length ≤ l.length := by
  unfold deadL
  rw [List.length_map]
  exact List.length_filter_le _ _
/-- Boxes that are not too many. -/
def Light (L : List S83) : Prop := L.length ≤ 20 ∧ ∀ b ∈ L, b.f3.length ≤ 1000
theorem countL_le (L : List S83) (h : ∀ b ∈ L, b.f3.length ≤ 1000) : countL L ≤ L.length * 1000 := by
  unfold countL
  induction L with
  | nil => simp
  | cons a r ih =>
    have h1 := ih (fun b hb => h b (by simp [hb]))
    have h2 := h a (by simp)
    have h3 := deadL_length a.f3
    simp only [List.map_cons, List.sum_cons, List.length_cons]
    omega
theorem countL_take (L : List S83) (h : Light L) (j : Nat) : countL (L.take j) ≤ 20000 := by
  have h1 := countL_le (L.take j) (fun b hb => h.2 b (List.mem_of_mem_take hb))
  have h2 : (L.take j).length ≤ 20 := by rw [List.length_take]; have := h.1; omega
  omega
theorem rd83 (l : List S83) (j : Nat) (h : j < l.length) : rd_T83 l (j : Int) = l[j] := by simp [rd_T83, List.getD_eq_getElem?_getD, h]
/-- The first container that is trash. -/
def nextB (L : List S83) : Option (Int × Int) := L.findSome? fun b => (deadL b.f3).head?.map fun d => (b.f0, d)
theorem nextB_none (L : List S83) (j : Nat) (hj : j < L.length) (h : nextB (L.take j) = none) : nextB (L.take (j + 1)) = (deadL L[j].f3).head?.map fun d => (L[j].f0, d) := by
  unfold nextB at *
  rw [List.take_succ_eq_append_getElem hj, List.findSome?_append, h]
  simp only [Option.none_or, List.findSome?_cons, List.findSome?_nil]
  cases (deadL L[j].f3).head? <;> rfl
theorem nextB_some (L : List S83) (j : Nat) (x : Int × Int) (h : nextB (L.take j) = some x) : nextB L = some x := by
  unfold nextB at *
  rw [← List.take_append_drop j L, List.findSome?_append, h]
  rfl
def CountSays (L : List S83) (w : World) (e : Ending) (w' : World) : Prop := e = .returned (.int .i64 (countL L)) ∧ Below w.heap.size w w'
set_option maxRecDepth 10000 in
set_option maxHeartbeats 4000000 in
theorem count_any {w : World} {A : Option Addr} {c : Nat} {L : List S83} (hC : Kd.C k83 w A L.length L) (hL : Light L) :
    Calls Tryd.prog 42 #[.slice A L.length c] w (CountSays L w) := by
  have HS := hid (fun e w' => show CountSays L w e w' = (e = .returned (.int .i64 (countL L)) ∧ Below w.heap.size w w') from rfl)
  generalize CountSays L w = S at HS ⊢
  obtain ⟨n, hn⟩ : ∃ n, n = L.length := ⟨_, rfl⟩
  have hnl : n ≤ 20 := by rw [hn]; exact hL.1
  rw [← hn] at hC ⊢
  have HN := hid hn
  have HLI := hid hL
  have HLO := hid (fun W (hb : Below w.heap.size w W) (j : Nat) (hj : j < n) => at_T83 (Kd.C_below hC hb) (j : Int) (by omega) (by omega))
  have H0 := hid (show Below w.heap.size w w from Below.refl _ _)
  have HZ := hid (show countL (L.take 0) = 0 from rfl)
  clear hn hC hL
  go_enter Tryd.func42, Tryd.ntmps42
  go_wp2_with fail
  go_loopg [3, 8] n (fun q s3 s8 wr => ∃ j : Nat, s3 = .int .i64 ((countL (L.take j) : Nat) : Int) ∧ s8 = .int .i64 (j : Int) ∧ q = n - j ∧ j ≤ n ∧ Hid (Below w.heap.size w wr))
  case atStart => exact ⟨0, by rw [HZ.out]; rfl, rfl, by omega, by omega, H0⟩
  case round =>
    clear H0
    obtain ⟨j, rfl, rfl, rfl, hj, HB⟩ := hrel
    have hct := countL_take L HLI.out j
    have hwj : IntKind.i64.wrap ((j : Int) + 1) = ((j + 1 : Nat) : Int) := by rw [IntWalk.i64_in _ (by omega)]; omega
    by_cases hlt : j < n
    · have hjl : j < L.length := by rw [← HN.out]; exact hlt
      obtain ⟨ad, A3, c3, hA, d0, d1, d2, d3, hc3, hC3⟩ := HLO.out wr HB.out j hlt
      subst hA
      rw [rd83 L j hjl] at d0 d1 d2 d3 hc3 hC3
      simp only [Int.toNat_natCast] at d0 d1 d2 d3
      have hnx := countL_next L j hjl
      have hbl : L[j].f3.length ≤ 1000 := HLI.out.2 _ (List.getElem_mem hjl)
      have hdl := deadL_length L[j].f3
      generalize countL (L.take j) = k at hct hnx ⊢
      generalize L[j] = x at d0 d1 d2 d3 hc3 hC3 hnx hbl hdl
      obtain ⟨f0, f1, f2, f3⟩ := x
      simp only at d0 d1 d2 d3 hc3 hC3 hnx hbl hdl
      obtain ⟨W5, hW5⟩ : ∃ W5, W5 = wr.alloc (.cells #[.int .i64 f0, .int .i64 f1, .int .i64 f2, .slice A3 f3.length c3] 83) := ⟨_, rfl⟩
      have hb5 : Below wr.heap.size wr W5 := by rw [hW5]; exact (Below.refl _ wr).alloc (Nat.le_refl _) _
      have HD := hid (dead_any (c := c3) (id := f0) (uid := f1) (st := f2) (Kd.C_below hC3 hb5) hbl)
      have HB5 := hid (HB.out.trans (hb5.mono HB.out.size))
      have k5 : W5.heap[wr.heap.size]? = some (.cells #[.int .i64 f0, .int .i64 f1, .int .i64 f2, .slice A3 f3.length c3] 83 (0, 0)) := by rw [hW5]; exact heap_alloc_new _ _
      have x5 := cells4 k5
      have HX := hid x5
      have hwk : IntKind.i64.wrap ((k : Int) + ((deadL f3).length : Int)) = ((k + (deadL f3).length : Nat) : Int) := by rw [IntWalk.i64_in _ (by omega)]; omega
      generalize deadL f3 = D at HD hnx hdl hwk
      have HNX := hid hnx
      clear hjl hb5 hnx hc3 hC3 k5 x5
      go_upto_region 5 with fail
      rw [← hW5]
      clear hW5
      obtain ⟨y0, y1, y2, y3, -⟩ := HX.out
      go_wp2_with (go_at_call 37; go_must (with_reducible refine HD.out.mono ?_); rintro e w3 ⟨A4, n4, c4, rfl, rfl, hLI⟩; have HB6 := hid (HB5.out.trans (hLI.low.mono HB5.out.size)); clear hLI)
      go_roundg (n - (j + 1))
      case measure => omega
      case rel => exact ⟨j + 1, by rw [HNX.out]; simp, rfl, rfl, by omega, HB6⟩
    · have hje : j = n := by omega
      subst hje
      have HE := hid (show L.take j = L from by rw [HN.out]; exact List.take_length)
      go_wp2_with fail
      rw [HS.out, HE.out]
      exact ⟨rfl, HB.out⟩

theorem cells3b {W : World} {b t : Nat} {p q r : Value} (h : W.heap[b]? = some (.cells #[p, q, r] t (0, 0))) : W.cell? ⟨b, 0, none⟩ = some p ∧ W.cell? ⟨b, 1, none⟩ = some q ∧ W.cell? ⟨b, 2, none⟩ = some r ∧ ∀ j, W.frozen? ⟨b, j, none⟩ = false :=
  ⟨by rw [cell_of_row _ _ _ _ _ _ h]; rfl, by rw [cell_of_row _ _ _ _ _ _ h]; rfl, by rw [cell_of_row _ _ _ _ _ _ h]; rfl, fun j => blk_frozen h j⟩
/-- What Next says. -/
def nextF (L : List S83) (keep ago tick : Int) (al : IL) : (Int × Int × ByteArray) × Bool := match nextB L with
  | some x => ((x.1, x.2, ⟨#[]⟩), true)
  | none => ((0, 0, (imgF keep ago tick al).getD ⟨#[]⟩), (imgF keep ago tick al).isSome)
def NextSays (r : (Int × Int × ByteArray) × Bool) (w : World) (e : Ending) (w' : World) : Prop := e = .returned (.tuple #[.agg #[.int .i64 r.1.1, .int .i64 r.1.2.1, .string r.1.2.2], .bool r.2]) ∧ Below w.heap.size w w'
theorem first_num {w W : World} {A : Option Addr} {n c : Nat} {D : List Int} (h : LI w W (.slice A n c) D) (hn : n = D.length) {d : Int} {r : List Int} (hD : D = d :: r) : ∃ g o, A = some ⟨g, o, none⟩ ∧ W.cell? ⟨g, o, none⟩ = some (.int .i64 d) ∧ 0 < n := by
  subst hD
  rcases SlRow.form h.sl with ⟨_, h2⟩ | ⟨g, o, c', h1⟩
  · simp at h2
  · refine ⟨g, o, by injection h1, ?_, by rw [hn]; simp⟩
    have := SlRow.cells h.sl h1 0 (.int .i64 d) (by simp [encI])
    simpa using this
set_option maxRecDepth 10000 in
set_option maxHeartbeats 4000000 in
theorem next_any {w : World} {p mb : Nat} {al : IL} {tick : Int} (h : IBk w p mb al tick) (hsh : Short al) (ht : 0 ≤ tick ∧ tick ≤ 1000000) (hs : ∀ k, 0 ≤ (getI k al).2.2 ∧ (getI k al).2.2 ≤ 1000000) (keep ago : Int)
    {A : Option Addr} {c : Nat} {L : List S83} (hC : Kd.C k83 w A L.length L) (hL : Light L) :
    Calls Tryd.prog 41 #[.slice A L.length c, .pointer (some ⟨p, 0, none⟩), .int .i64 keep, .int .i64 ago] w (NextSays (nextF L keep ago tick al) w) := by
  have HS := hid (fun r e w' => show NextSays r w e w' = (e = .returned (.tuple #[.agg #[.int .i64 r.1.1, .int .i64 r.1.2.1, .string r.1.2.2], .bool r.2]) ∧ Below w.heap.size w w') from rfl)
  have HF1 := hid (fun x (hx : nextB L = some x) => show nextF L keep ago tick al = ((x.1, x.2, ⟨#[]⟩), true) by unfold nextF; rw [hx])
  have HF2 := hid (fun (hx : nextB L = none) => show nextF L keep ago tick al = ((0, 0, (imgF keep ago tick al).getD ⟨#[]⟩), (imgF keep ago tick al).isSome) by unfold nextF; rw [hx])
  have HI := hid (fun W (hb : Below w.heap.size w W) => image_any (h.below hb) hsh ht hs keep ago)
  have HIS := hid (fun W e w' => show ImgSays keep ago tick al W e w' = (e = .returned (.tuple #[.string ((imgF keep ago tick al).getD ⟨#[]⟩), .bool (imgF keep ago tick al).isSome]) ∧ Below W.heap.size W w') from rfl)
  generalize nextF L keep ago tick al = R at HF1 HF2 ⊢
  obtain ⟨S, hSd⟩ : ∃ S, S = NextSays R w := ⟨_, rfl⟩
  rw [← hSd]
  have HSd := hid hSd
  clear hSd
  generalize imgF keep ago tick al = X at HF2 HIS
  obtain ⟨n, hn⟩ : ∃ n, n = L.length := ⟨_, rfl⟩
  have hnl : n ≤ 20 := by rw [hn]; exact hL.1
  rw [← hn] at hC ⊢
  have HN := hid hn
  have HLI := hid hL
  have HLO := hid (fun W (hb : Below w.heap.size w W) (j : Nat) (hj : j < n) => at_T83 (Kd.C_below hC hb) (j : Int) (by omega) (by omega))
  obtain ⟨W0, hW0⟩ : ∃ W0, W0 = w.alloc (.cells #[.int .i64 0, .int .i64 0, .string ⟨#[]⟩] 79) := ⟨_, rfl⟩
  have H0 := hid (show Below w.heap.size w W0 by rw [hW0]; exact (Below.refl _ w).alloc (Nat.le_refl _) _)
  have K0 := hid (show W0.heap[w.heap.size]? = some (.cells #[.int .i64 0, .int .i64 0, .string ⟨#[]⟩] 79 (0, 0)) by rw [hW0]; exact heap_alloc_new _ _)
  have HZ := hid (show nextB (L.take 0) = none from rfl)
  clear hn hC hL h hsh ht hs
  go_enter Tryd.func41, Tryd.ntmps41
  go_upto_region 1 with fail
  rw [← hW0]
  clear hW0
  go_wp2_with fail
  generalize hgw : w.heap.size = gw at *
  go_loopg [17] n (fun q s17 wr => ∃ j : Nat, s17 = .int .i64 (j : Int) ∧ q = n - j ∧ j ≤ n ∧ Hid (nextB (L.take j) = none) ∧ Hid (Below gw w wr) ∧ Hid (wr.heap[gw]? = some (.cells #[.int .i64 0, .int .i64 0, .string ⟨#[]⟩] 79 (0, 0))))
  case atStart => exact ⟨0, rfl, by omega, by omega, HZ, H0, K0⟩
  case round =>
    clear H0 K0
    obtain ⟨j, rfl, rfl, hj, HNb, HB, HK⟩ := hrel
    have hwj : IntKind.i64.wrap ((j : Int) + 1) = ((j + 1 : Nat) : Int) := by rw [IntWalk.i64_in _ (by omega)]; omega
    by_cases hlt : j < n
    · have hjl : j < L.length := by rw [← HN.out]; exact hlt
      obtain ⟨ad, A3, c3, hA, d0, d1, d2, d3, hc3, hC3⟩ := HLO.out wr HB.out j hlt
      subst hA
      rw [rd83 L j hjl] at d0 d1 d2 d3 hc3 hC3
      simp only [Int.toNat_natCast] at d0 d1 d2 d3
      have hnx := nextB_none L j hjl HNb.out
      have hbl : L[j].f3.length ≤ 1000 := HLI.out.2 _ (List.getElem_mem hjl)
      generalize L[j] = x at d0 d1 d2 d3 hc3 hC3 hnx hbl
      obtain ⟨f0, f1, f2, f3⟩ := x
      simp only at d0 d1 d2 d3 hc3 hC3 hnx hbl
      obtain ⟨b5, hb5e⟩ : ∃ b5, b5 = wr.heap.size := ⟨_, rfl⟩
      obtain ⟨W5, hW5⟩ : ∃ W5, W5 = wr.alloc (.cells #[.int .i64 f0, .int .i64 f1, .int .i64 f2, .slice A3 f3.length c3] 83) := ⟨_, rfl⟩
      have hb5 : Below wr.heap.size wr W5 := by rw [hW5]; exact (Below.refl _ wr).alloc (Nat.le_refl _) _
      have hgr : gw ≤ wr.heap.size := by rw [← hgw]; exact HB.out.size
      have HD := hid (dead_any (c := c3) (id := f0) (uid := f1) (st := f2) (Kd.C_below hC3 hb5) hbl)
      have HB5 := hid (HB.out.trans (hb5.mono hgr))
      have k5 : W5.heap[b5]? = some (.cells #[.int .i64 f0, .int .i64 f1, .int .i64 f2, .slice A3 f3.length c3] 83 (0, 0)) := by rw [hW5, hb5e]; exact heap_alloc_new _ _
      have HK5 := hid (blk_of hb5 HK.out)
      have K5 := hid k5
      have hg5 : gw ≤ W5.heap.size := Nat.le_trans hgr hb5.size
      generalize deadL f3 = D at HD hnx
      clear hjl hb5 hc3 hC3
      go_upto_region 4 with fail
      rw [← hW5, ← hb5e]
      clear hW5 hb5e d0 d1 d2 d3
      obtain ⟨y0, y1, y2, y3, -⟩ := cells4 K5.out
      clear k5
      cases D with
      | nil =>
        simp only [List.head?_nil, Option.map_none] at hnx
        have HNX := hid hnx
        clear hnx
        go_wp2_with (go_at_call 37; go_must (with_reducible refine HD.out.mono ?_); rintro e w3 ⟨A4, n4, c4, rfl, rfl, hLI⟩; have HB6 := hid (HB5.out.trans (hLI.low.mono hg5)); have HK6 := hid (blk_of hLI.low HK5.out); clear hLI)
        go_roundg (n - (j + 1))
        case measure => omega
        case rel => exact ⟨j + 1, rfl, rfl, by omega, HNX, HB6, HK6⟩
      | cons d r =>
        simp only [List.head?_cons, Option.map_some] at hnx
        have HNX := hid (nextB_some L (j + 1) _ hnx)
        clear hnx
        go_upto_region 6 with (go_at_call 37; go_must (with_reducible refine HD.out.mono ?_); rintro e w3 ⟨A4, n4, c4, rfl, hn4, hLI⟩; have HB6 := hid (HB5.out.trans (hLI.low.mono hg5)); have HK6 := hid (blk_of hLI.low HK5.out); have HK7 := hid (blk_of hLI.low K5.out); obtain ⟨g4, o4, rfl, z0, z1⟩ := first_num hLI hn4 rfl; clear hn4 hLI)
        obtain ⟨v0, v1, v2, v3, -⟩ := cells4 HK7.out
        obtain ⟨t0, t1, t2, t3⟩ := cells3b HK6.out
        go_still_tail 6, (by kernel_rfl)
        change wpList _ _ _ _ _ _
        go_wp2_with fail
        obtain ⟨p0, p1, p2⟩ := put3_cellsT (x := .int .i64 f0) (y := .int .i64 d) (z := .string ⟨#[]⟩) HK6.out
        unfold put3 at p0 p1 p2
        refine bodyPost_ret (v := .tuple #[.agg #[.int .i64 f0, .int .i64 d, .string ⟨#[]⟩], .bool true]) (by simp [results, Tryd.results41, go_sem, p0, p1, p2]) rfl ?_
        subst hgw
        rw [HSd.out, HS.out, HF1.out _ HNX.out]
        exact ⟨rfl, below_drew (put3_below HB6.out (Nat.le_refl _))⟩
    · have hje : j = n := by omega
      subst hje
      have HE := hid (show L.take j = L from by rw [HN.out]; exact List.take_length)
      rw [HE.out] at HNb
      have HF := hid (HF2.out HNb.out)
      have hgr : gw ≤ wr.heap.size := by rw [← hgw]; exact HB.out.size
      generalize hx1 : X.getD ⟨#[]⟩ = x1 at *
      generalize hx2 : X.isSome = x2 at *
      go_upto_region 9 with (go_at_call 40; go_must (with_reducible refine (HI.out _ HB.out).mono ?_); rintro e w3 hI; rw [HIS.out] at hI; obtain ⟨rfl, hb⟩ := hI; have HB6 := hid (HB.out.trans (hb.mono hgr)); have HK6 := hid (blk_of hb HK.out); clear hb)
      obtain ⟨t0, t1, t2, t3⟩ := cells3b HK6.out
      clear hx1 hx2
      go_wp2_with fail
      obtain ⟨p0, p1, p2⟩ := put3_cellsT (x := .int .i64 0) (y := .int .i64 0) (z := .string x1) HK6.out
      unfold put3 at p0 p1 p2
      refine bodyPost_ret (v := .tuple #[.agg #[.int .i64 0, .int .i64 0, .string x1], .bool x2]) (by simp [results, Tryd.results41, go_sem, p0, p1, p2]) rfl ?_
      subst hgw
      rw [HSd.out, HS.out, HF.out]
      exact ⟨rfl, put3_below HB6.out (Nat.le_refl _)⟩
end Go.Proofs.YtmgcapccgncmkaaDoor.Tr
