/- The log of events: Add. -/
import Derived.Test.YtnceglkoolfncaaEz
set_option linter.unusedSimpArgs false
namespace Go.Proofs.Ytnceglkoolfncaa.Ev
open Go.RowKit Go.Pv

section
variable {w : World} {p g N first : Nat} {floor last : Int} {evs : List Event}

/-- Behind the store of the new event. -/
theorem LogAt.stored (h : LogAt w p g N first floor last evs) (hn : evs.length < N) (ev : Event) (hev : EvOk ev) {W' : World} (l' : Int) (n' : Int) (hn' : n' = (evs.length : Int) + 1)
    (hW : W'.heap = (((w.setCells g ((first + evs.length) % N * 15) ev).setCell ⟨p, 2, none⟩ (.int .i64 n')).setCell ⟨p, 4, none⟩ (.int .u64 l')).heap) :
    LogAt W' p g N first floor l' (evs ++ [ev]) := by
  subst hn'
  have hj : (first + evs.length) % N < N := Nat.mod_lt _ h.n0
  generalize hjj : (first + evs.length) % N = j0 at *
  have ht : w.there g (j0 * 15) ev.length := fun j hj' => by
    have := h.there (j0 * 15 + j) (by rw [hev.1] at hj'; omega)
    simpa using this
  have hc : ∀ q : Addr, q.block ≠ p → W'.cell? q = (w.setCells g (j0 * 15) ev).cell? q := fun q hq => by
    have e1 : W'.cell? q = (((w.setCells g (j0 * 15) ev).setCell ⟨p, 2, none⟩ (.int .i64 ((evs.length : Int) + 1))).setCell ⟨p, 4, none⟩ (.int .u64 l')).cell? q := World.cell?_of_block (by rw [hW])
    rw [e1, setCell_other (.inl hq), setCell_other (.inl hq)]
  have hz : ∀ q : Addr, W'.frozen? q = w.frozen? q := fun q => by
    have e1 : W'.frozen? q = (((w.setCells g (j0 * 15) ev).setCell ⟨p, 2, none⟩ (.int .i64 ((evs.length : Int) + 1))).setCell ⟨p, 4, none⟩ (.int .u64 l')).frozen? q := World.frozen?_of_block (by rw [hW])
    rw [e1, World.frozen?_setCell, World.frozen?_setCell, World.frozen?_setCells]
  refine h.added hn hev ?_ (fun j hj => ?_) ?_ (fun j hj cs h1 h2 i v hv => ?_)
  · have k := (Keeps.setCells (F := fun i => i = g) (.inl rfl) ev (j0 * 15) (Keeps.refl (fun i => i = g) w)).block p h.plt (fun e => h.gp e.symm)
    rw [hW, row_set (row_set (k.trans h.cell) _)]; rfl
  · rw [hc _ h.gp, hz]
    exact ⟨World.isSome_setCells _ _ _ _ _ (h.there j hj).1, (h.there j hj).2⟩
  · rw [hjj]
    intro i v hv
    rw [hc _ h.gp]
    exact World.rangeAt_setCells_same _ _ _ _ ht i v hv
  · rw [hc _ h.gp]
    rw [hjj] at hj
    exact World.rangeAt_setCells_apart h2 g _ ev (.inr (by have := apart_slots hj; rw [hev.1, h1]; omega)) i v hv

theorem LogAt.same {V W : World} (this : LogAt W p g N first floor last evs) (hV : V.heap = W.heap) : LogAt V p g N first floor last evs := by
  refine ⟨hV ▸ this.cell, this.gp, fun j hj => ?_, this.n0, this.nN, this.fN, this.len, fun i ev hi => ⟨fun j v hv => ?_, (this.el i ev hi).2⟩⟩
  · rw [World.cell?_of_block (w := W) (by rw [hV]), World.frozen?_of_block (w := W) (by rw [hV])]; exact this.there j hj
  · rw [World.cell?_of_block (w := W) (by rw [hV])]; exact (this.el i ev hi).1 j v hv

/-- What the walk of R5 .. R7 wants of the world X at hand. -/
structure Pre (X : World) (p g N bx j0 L : Nat) (last r : Int) (ev : Event) : Prop where
  at_ : ∀ V : World, V.heap = X.heap → Calls Try.prog 100 #[.pointer (some ⟨p, 0, none⟩), .int .i64 L] V fun e w' => e = .returned (.pointer (some ⟨g, j0 * 15, none⟩)) ∧ w' = V.drew
  st : ∀ V : World, V.heap = X.heap → V.cell? ⟨p, 2, none⟩ = some (.int .i64 L) ∧ V.rangeAt bx 0 ev ∧ V.there g (j0 * 15) 15
  st2 : ∀ V : World, V.heap = X.heap → (V.setCells g (j0 * 15) ev).cell? ⟨p, 2, none⟩ = some (.int .i64 L) ∧ (V.setCells g (j0 * 15) ev).rangeAt bx 0 ev ∧ (V.setCells g (j0 * 15) ev).there g (j0 * 15) 15
  c4 : X.cell? ⟨p, 4, none⟩ = some (.int .u64 last)
  x1 : X.cell? ⟨bx, 1, none⟩ = some (.int .u64 r)
  fz : ∀ j, X.frozen? ⟨p, j, none⟩ = false
  gp : g ≠ p
  gb : g ≠ bx

theorem pre_of {X : World} {bx : Nat} {ev : Event} (h : LogAt X p g N first floor last evs) (hn : evs.length < N) (hev : EvOk ev) (b0 : X.heap[bx]? = some (.cells ev.toArray 54 (0, 0))) (hgb : g ≠ bx) :
    Pre X p g N bx ((first + evs.length) % N) evs.length last (revOf ev) ev := by
  obtain ⟨c0, -, c2, -, c4, cf⟩ := h.cells
  have n0 := h.n0
  have nN := h.nN
  have hjN : (first + evs.length) % N < N := Nat.mod_lt _ n0
  have xr : ∀ V : World, V.heap = X.heap → V.rangeAt bx 0 ev := fun V hV j v hv => by
    rw [World.cell?_of_block (w := X) (by rw [hV]), cell_of_row _ _ _ _ _ _ b0]
    simpa using hv
  have hth : ∀ V : World, V.heap = X.heap → V.there g ((first + evs.length) % N * 15) 15 := fun V hV j hj => by
    rw [World.cell?_of_block (w := X) (by rw [hV]), World.frozen?_of_block (w := X) (by rw [hV])]
    have := h.there ((first + evs.length) % N * 15 + j) (by omega)
    simpa using this
  have ST : ∀ V : World, V.heap = X.heap → V.cell? ⟨p, 2, none⟩ = some (.int .i64 evs.length) ∧ V.rangeAt bx 0 ev ∧ V.there g ((first + evs.length) % N * 15) 15 := fun V hV =>
    ⟨by rw [World.cell?_of_block (w := X) (by rw [hV])]; exact c2, xr V hV, hth V hV⟩
  exact ⟨fun V hV => at_any (h.same hV) evs.length (by omega), ST, fun V hV =>
    ⟨by rw [World.cell?_setCells_out _ _ _ _ _ (fun e => absurd e.symm h.gp)]; exact (ST V hV).1, World.rangeAt_setCells_apart (xr V hV) _ _ _ (.inl hgb.symm), World.there_setCells (hth V hV) _ _ _⟩,
    c4, by rw [cell_of_row _ _ _ _ _ _ b0]; simpa using hev.2.2, cf, h.gp, hgb⟩

set_option maxRecDepth 10000 in
set_option maxHeartbeats 1000000 in
theorem add_room (h : LogAt w p g N first floor last evs) (hn : evs.length < N) (ev : Event) (hev : EvOk ev) (hr : last < revOf ev) :
    Calls Try.prog 23 #[.pointer (some ⟨p, 0, none⟩), .agg ev.toArray] w fun e w' => e = .returned (.int .i64 0) ∧ LogAt w' p g N first floor (revOf ev) (evs ++ [ev]) ∧ Keeps (fun i => i = p ∨ i = g) w w' := by
  have h1 := h.alloc (.cells ev.toArray 54)
  have b0 : (w.alloc (.cells ev.toArray 54)).heap[w.heap.size]? = some (.cells ev.toArray 54 (0, 0)) := heap_at _ _ _ rfl
  have hpb : w.heap.size ≠ p := by have := h.plt; omega
  have hgb : g ≠ w.heap.size := by have := h.glt; omega
  have n0 := h.n0
  have nN := h.nN
  obtain ⟨r, hrr⟩ : ∃ r, r = revOf ev := ⟨_, rfl⟩
  rw [← hrr] at hr ⊢
  obtain ⟨W, hW⟩ : ∃ W, W = w.alloc (.cells ev.toArray 54) := ⟨_, rfl⟩
  rw [← hW] at b0 h1
  obtain ⟨c0, -, c2, -, c4, cf⟩ := h1.cells
  have x1 : W.cell? ⟨w.heap.size, 1, none⟩ = some (.int .u64 r) := by rw [cell_of_row _ _ _ _ _ _ b0, hrr]; simpa using hev.2.2
  have S1 : W.drew.cell? ⟨w.heap.size, 1, none⟩ = some (.int .u64 r) ∧ W.drew.cell? ⟨p, 4, none⟩ = some (.int .u64 last) := ⟨x1, c4⟩
  have HWK : Hid (Keeps (fun _ => False) w W) := hid (by rw [hW]; exact (Keeps.refl _ w).alloc _)
  have HW := hid hW
  have hu := Try.underlying54
  have hev1 := hev.1
  have hi : (Try.prog.info? 54).map (·.size) = some ev.length := by rw [hev1]; exact size54
  have hone : ∀ v ∈ ev, v.oneCell' = true := hev.2.1
  have hnr : ¬ (r ≤ last) := by omega
  have S3 : W.drew.drew.cell? ⟨p, 2, none⟩ = some (.int .i64 evs.length) ∧ W.drew.drew.cell? ⟨p, 0, none⟩ = some (.slice (some ⟨g, 0, none⟩) N N) := ⟨c2, c0⟩
  have hnl : ((evs.length : Int) == (N : Int)) = false := by simp; omega
  have HP : Hid (Pre W.drew.drew p g N w.heap.size ((first + evs.length) % N) evs.length last r ev) := hid (by rw [hrr]; exact pre_of (h1.same rfl) hn hev b0 hgb)
  have H1 := hid h1
  have HEV := hid hev
  have HN := hid (⟨hn, nN⟩ : evs.length < N ∧ N ≤ 64)
  have HRR := hid hrr
  clear b0 h hW hev hrr h1 hn c0 c2 c4 cf x1 nN n0 hpb hgb
  generalize hLL : evs.length = L0 at S3 hnl
  go_enter Try.func23, Try.ntmps23
  go_wp2
  rw [← HW.out]
  go_region_held3 (fun V => V.cell? ⟨w.heap.size, 1, none⟩ = some (.int .u64 r) ∧ V.cell? ⟨p, 4, none⟩ = some (.int .u64 last)) (exact S1) (fail)
  go_wp2
  go_region_held3 (fun V => V.cell? ⟨p, 2, none⟩ = some (.int .i64 L0) ∧ V.cell? ⟨p, 0, none⟩ = some (.slice (some ⟨g, 0, none⟩) N N)) (exact S3) (fail)
  go_wp2
  clear hLL
  obtain ⟨X, hX⟩ : ∃ X, X = W.drew.drew := ⟨_, rfl⟩
  rw [← hX] at HP ⊢
  have HX := hid hX
  clear hX hnl hnr
  obtain ⟨j0, hj0⟩ : ∃ j0, j0 = (first + evs.length) % N := ⟨_, rfl⟩
  rw [← hj0] at HP
  have HJ0 := hid hj0
  obtain ⟨L, hL⟩ : ∃ L, L = evs.length := ⟨_, rfl⟩
  rw [← hL] at HP
  have eL : IntKind.i64.wrap ((L : Int) + 1) = (L : Int) + 1 := IntWalk.i64_in _ (by have := HN.out; omega)
  have HL := hid hL
  clear hj0 hL
  refine wp_region_held_drew (S := fun V => V.cell? ⟨p, 2, none⟩ = some (.int .i64 L) ∧ V.rangeAt w.heap.size 0 ev ∧ V.there g (j0 * 15) 15) (by kernel_rfl) (HP.out.st _ rfl) (fun hHeld => ?_)
  refine wpAnyH_take (i := 0) (v := ?_) rfl (by kernel_rfl) (by kernel_rfl) (by kernel_rfl) (fun _ _ _ h => h) (Or.inl ⟨by rfl, ?_⟩) (by assumption) ?_
  rotate_left
  · intro w hSw
    try dsimp only at hSw
    go_simp
    all_goals with_reducible rfl
  try simp only [List.getElem_toArray, List.getElem_cons_succ, List.getElem_cons_zero, Act.put, List.setIfInBounds_toArray, List.set_cons_zero, List.set_cons_succ]
  refine wpAnyH_take (i := 1) (v := ?_) rfl (by kernel_rfl) (by kernel_rfl) (by kernel_rfl) (fun _ _ _ h => h) (Or.inl ⟨by rfl, ?_⟩) (by assumption) ?_
  rotate_left
  · intro w hSw
    try dsimp only at hSw
    go_simp
    all_goals with_reducible rfl
  try simp only [List.getElem_toArray, List.getElem_cons_succ, List.getElem_cons_zero, Act.put, List.setIfInBounds_toArray, List.set_cons_zero, List.set_cons_succ]
  refine wpAnyH_take (i := 2) (v := ?_) rfl (by kernel_rfl) (by kernel_rfl) (by kernel_rfl) (fun _ _ _ h => h) (Or.inl ⟨by rfl, ?_⟩) (by assumption) ?_
  rotate_left
  · intro w hSw
    try dsimp only at hSw
    go_simp
    all_goals with_reducible rfl
  try simp only [List.getElem_toArray, List.getElem_cons_succ, List.getElem_cons_zero, Act.put, List.setIfInBounds_toArray, List.set_cons_zero, List.set_cons_succ]
  refine wpAnyH_take (i := 3) (v := ?_) rfl (by kernel_rfl) (by kernel_rfl) (by kernel_rfl) (fun _ _ _ h => h) (Or.inl ⟨by rfl, ?_⟩) (by assumption) ?_
  rotate_left
  · intro w hSw
    try dsimp only at hSw
    go_simp
    all_goals with_reducible rfl
  try simp only [List.getElem_toArray, List.getElem_cons_succ, List.getElem_cons_zero, Act.put, List.setIfInBounds_toArray, List.set_cons_zero, List.set_cons_succ]
  refine wpAnyH_take (i := 4) (v := ?_) rfl (by kernel_rfl) (by kernel_rfl) (by kernel_rfl) (fun _ _ _ h => h) (Or.inl ⟨by rfl, ?_⟩) (by assumption) ?_
  rotate_left
  · intro w hSw
    try dsimp only at hSw
    go_simp
    all_goals with_reducible rfl
  try simp only [List.getElem_toArray, List.getElem_cons_succ, List.getElem_cons_zero, Act.put, List.setIfInBounds_toArray, List.set_cons_zero, List.set_cons_succ]
  refine wpAnyH_take (i := 6) rfl (by kernel_rfl) (by kernel_rfl) (by kernel_rfl) (fun _ _ _ h => h) (yieldsIf_load_mid (by rfl) 54 _ rfl w.heap.size 0 rfl ev _ (fun _ h => h.2.1) hu rfl hi) (by assumption) ?_
  try simp only [List.getElem_toArray, List.getElem_cons_succ, List.getElem_cons_zero, Act.put, List.setIfInBounds_toArray, List.set_cons_zero, List.set_cons_succ]
  refine wpAnyH_ready (rs := [5]) (by kernel_rfl) (by simp) ?_
  refine AllReadyH.cons rfl (fun K hK => ?_) AllReadyH.nil
  go_simp
  refine (HP.out.at_ X.drew rfl).mono ?_
  rintro e w1 ⟨rfl, rfl⟩
  go_wp2_with fail
  refine hK.out _ _ (HP.out.st X.drew.drew rfl) (fun hHeld2 => ?_)
  clear hK K hHeld
  try simp only [List.getElem_toArray, List.getElem_cons_succ, List.getElem_cons_zero, Act.put, List.setIfInBounds_toArray, List.set_cons_zero, List.set_cons_succ]
  refine wpAnyH_take (i := 7) (v := ?_) rfl (by kernel_rfl) (by kernel_rfl) (by kernel_rfl) (fun _ _ _ h => h) (Or.inl ⟨by rfl, ?_⟩) (by assumption) ?_
  rotate_left
  · intro w hSw
    try dsimp only at hSw
    go_simp
    all_goals with_reducible rfl
  try simp only [List.getElem_toArray, List.getElem_cons_succ, List.getElem_cons_zero, Act.put, List.setIfInBounds_toArray, List.set_cons_zero, List.set_cons_succ]
  refine wpAnyH_ready (rs := [8]) (by kernel_rfl) (by simp) ?_
  refine AllReadyH.cons rfl (fun K hK => ?_) AllReadyH.nil
  rw [if_pos (by rfl)]
  refine wp_store_mid 54 _ _ rfl g (j0 * 15) ev.toArray rfl rfl (by simpa [hev1] using hHeld2.2.2) (by simpa using hi) (all_oneCell_toArray hone) ?_
  refine hK.out _ _ (HP.out.st2 X.drew.drew rfl) (fun hHeld3 => ?_)
  clear hK K hHeld2
  try simp only [List.getElem_toArray, List.getElem_cons_succ, List.getElem_cons_zero, Act.put, List.setIfInBounds_toArray, List.set_cons_zero, List.set_cons_succ]
  refine wpAnyH_done (by kernel_rfl) ?_ _
  try simp only [List.getElem_toArray, List.getElem_cons_succ, List.getElem_cons_zero, Act.put, List.setIfInBounds_toArray, List.set_cons_zero, List.set_cons_succ, List.toList_toArray]
  obtain ⟨V, hV⟩ : ∃ V, V = X.drew.drew.setCells g (j0 * 15) ev := ⟨_, rfl⟩
  rw [← hV] at hHeld3 ⊢
  have v2 := hHeld3.1
  have v4 : V.cell? ⟨p, 4, none⟩ = some (.int .u64 last) := by
    rw [hV, World.cell?_setCells_out _ _ _ _ _ (fun h => absurd h.symm HP.out.gp)]; exact HP.out.c4
  have vx : V.cell? ⟨w.heap.size, 1, none⟩ = some (.int .u64 r) := by
    rw [hV, World.cell?_setCells_out _ _ _ _ _ (fun h => absurd h.symm HP.out.gb)]; exact HP.out.x1
  have vf : ∀ j, V.frozen? ⟨p, j, none⟩ = false := fun j => by
    rw [hV, World.frozen?_setCells]; exact HP.out.fz j
  have HV := hid hV
  clear hV hHeld3 S1 S3 hi hu hone
  go_wp2
  go_ret
  refine ⟨rfl, ?_, ?_⟩
  · refine LogAt.stored (w := X.drew.drew) (H1.out.same (by rw [HX.out]; rfl)) HN.out.1 ev HEV.out r ((L : Int) + 1) (by rw [HL.out]) ?_
    rw [HV.out, HJ0.out]
  · have kx : Keeps (fun i => i = p ∨ i = g) w X.drew.drew := by rw [HX.out]; exact (Keeps.mono HWK.out (by simp)).drew.drew.drew.drew
    rw [HV.out]
    exact kx.trans (((Keeps.setCells (F := fun i => i = p ∨ i = g) (.inl (.inr rfl)) ev (j0 * 15) (Keeps.refl (fun i => i = p ∨ i = g) X.drew.drew)).setCell ⟨p, 2, none⟩ (.int .i64 ((L : Int) + 1)) (.inl (.inl rfl))).setCell ⟨p, 4, none⟩ (.int .u64 r) (.inl (.inl rfl))) (fun i hi => .inl hi)

set_option maxRecDepth 10000 in
set_option maxHeartbeats 1000000 in
theorem add_full {e0 : Event} (h : LogAt w p g N first floor last (e0 :: evs)) (hn : (e0 :: evs).length = N) (ev : Event) (hev : EvOk ev) (hr : last < revOf ev) :
    Calls Try.prog 23 #[.pointer (some ⟨p, 0, none⟩), .agg ev.toArray] w fun e w' => e = .returned (.int .i64 0) ∧ LogAt w' p g N ((first + 1) % N) (max floor (revOf e0)) (revOf ev) (evs ++ [ev]) ∧ Keeps (fun i => i = p ∨ i = g) w w' := by
  have h1 := h.alloc (.cells ev.toArray 54)
  have b0 : (w.alloc (.cells ev.toArray 54)).heap[w.heap.size]? = some (.cells ev.toArray 54 (0, 0)) := heap_at _ _ _ rfl
  have hpb : w.heap.size ≠ p := by have := h.plt; omega
  have hgb : g ≠ w.heap.size := by have := h.glt; omega
  have n0 := h.n0
  have nN := h.nN
  obtain ⟨r, hrr⟩ : ∃ r, r = revOf ev := ⟨_, rfl⟩
  rw [← hrr] at hr ⊢
  obtain ⟨W, hW⟩ : ∃ W, W = w.alloc (.cells ev.toArray 54) := ⟨_, rfl⟩
  rw [← hW] at b0 h1
  obtain ⟨c0, -, c2, -, c4, cf⟩ := h1.cells
  have x1 : W.cell? ⟨w.heap.size, 1, none⟩ = some (.int .u64 r) := by rw [cell_of_row _ _ _ _ _ _ b0, hrr]; simpa using hev.2.2
  have S1 : W.drew.cell? ⟨w.heap.size, 1, none⟩ = some (.int .u64 r) ∧ W.drew.cell? ⟨p, 4, none⟩ = some (.int .u64 last) := ⟨x1, c4⟩
  have HWK : Hid (Keeps (fun _ => False) w W) := hid (by rw [hW]; exact (Keeps.refl _ w).alloc _)
  have HW := hid hW
  have hu := Try.underlying54
  have hev1 := hev.1
  have hi : (Try.prog.info? 54).map (·.size) = some ev.length := by rw [hev1]; exact size54
  have hone : ∀ v ∈ ev, v.oneCell' = true := hev.2.1
  have hnr : ¬ (r ≤ last) := by omega
  have S3 : W.drew.drew.cell? ⟨p, 2, none⟩ = some (.int .i64 (e0 :: evs).length) ∧ W.drew.drew.cell? ⟨p, 0, none⟩ = some (.slice (some ⟨g, 0, none⟩) N N) := ⟨c2, c0⟩
  have hnl : (((e0 :: evs).length : Int) == (N : Int)) = true := by rw [hn]; simp
  have HD := hid (drop_any (h1.same (V := W.drew.drew) rfl))
  have HP0 : Hid (∀ X, Keeps (fun i => i = p ∨ i = g) W.drew.drew X → LogAt X p g N ((first + 1) % N) (max floor (revOf e0)) last evs → Pre X p g N w.heap.size (((first + 1) % N + evs.length) % N) evs.length last r ev) := hid fun X k hl => by
    rw [hrr]
    refine pre_of hl (by simp at hn; omega) hev ?_ hgb
    exact (k.block w.heap.size (by rw [hW]; simp [World.drew]) (fun e => by rcases e with e | e; exact hpb e; exact hgb e.symm)).trans b0
  have HEV := hid hev
  have HN := hid (⟨by simp at hn; omega, nN⟩ : evs.length < N ∧ N ≤ 64)
  have HRR := hid hrr
  clear b0 h hW hev hrr h1 hn c0 c2 c4 cf x1 nN n0 hpb hgb
  generalize hLL : (e0 :: evs).length = L0 at S3 hnl
  go_enter Try.func23, Try.ntmps23
  go_wp2
  rw [← HW.out]
  go_region_held3 (fun V => V.cell? ⟨w.heap.size, 1, none⟩ = some (.int .u64 r) ∧ V.cell? ⟨p, 4, none⟩ = some (.int .u64 last)) (exact S1) (fail)
  go_wp2
  go_region_held3 (fun V => V.cell? ⟨p, 2, none⟩ = some (.int .i64 L0) ∧ V.cell? ⟨p, 0, none⟩ = some (.slice (some ⟨g, 0, none⟩) N N)) (exact S3) (fail)
  go_wp2_with (go_at_call 99; go_must (refine HD.out.mono ?_; rintro e X ⟨rfl, hX1, hX2⟩; have HX1 := hid hX1; have HX2 := hid hX2; clear hX1 hX2))
  clear hLL
  have HP := hid (HP0.out X HX2.out HX1.out)
  clear HP0 HD hnl hnr
  obtain ⟨j0, hj0⟩ : ∃ j0, j0 = ((first + 1) % N + evs.length) % N := ⟨_, rfl⟩
  rw [← hj0] at HP
  have HJ0 := hid hj0
  obtain ⟨L, hL⟩ : ∃ L, L = evs.length := ⟨_, rfl⟩
  rw [← hL] at HP
  have eL : IntKind.i64.wrap ((L : Int) + 1) = (L : Int) + 1 := IntWalk.i64_in _ (by have := HN.out; omega)
  have HL := hid hL
  clear hj0 hL
  refine wp_region_held_drew (S := fun V => V.cell? ⟨p, 2, none⟩ = some (.int .i64 L) ∧ V.rangeAt w.heap.size 0 ev ∧ V.there g (j0 * 15) 15) (by kernel_rfl) (HP.out.st _ rfl) (fun hHeld => ?_)
  refine wpAnyH_take (i := 0) (v := ?_) rfl (by kernel_rfl) (by kernel_rfl) (by kernel_rfl) (fun _ _ _ h => h) (Or.inl ⟨by rfl, ?_⟩) (by assumption) ?_
  rotate_left
  · intro w hSw
    try dsimp only at hSw
    go_simp
    all_goals with_reducible rfl
  try simp only [List.getElem_toArray, List.getElem_cons_succ, List.getElem_cons_zero, Act.put, List.setIfInBounds_toArray, List.set_cons_zero, List.set_cons_succ]
  refine wpAnyH_take (i := 1) (v := ?_) rfl (by kernel_rfl) (by kernel_rfl) (by kernel_rfl) (fun _ _ _ h => h) (Or.inl ⟨by rfl, ?_⟩) (by assumption) ?_
  rotate_left
  · intro w hSw
    try dsimp only at hSw
    go_simp
    all_goals with_reducible rfl
  try simp only [List.getElem_toArray, List.getElem_cons_succ, List.getElem_cons_zero, Act.put, List.setIfInBounds_toArray, List.set_cons_zero, List.set_cons_succ]
  refine wpAnyH_take (i := 2) (v := ?_) rfl (by kernel_rfl) (by kernel_rfl) (by kernel_rfl) (fun _ _ _ h => h) (Or.inl ⟨by rfl, ?_⟩) (by assumption) ?_
  rotate_left
  · intro w hSw
    try dsimp only at hSw
    go_simp
    all_goals with_reducible rfl
  try simp only [List.getElem_toArray, List.getElem_cons_succ, List.getElem_cons_zero, Act.put, List.setIfInBounds_toArray, List.set_cons_zero, List.set_cons_succ]
  refine wpAnyH_take (i := 3) (v := ?_) rfl (by kernel_rfl) (by kernel_rfl) (by kernel_rfl) (fun _ _ _ h => h) (Or.inl ⟨by rfl, ?_⟩) (by assumption) ?_
  rotate_left
  · intro w hSw
    try dsimp only at hSw
    go_simp
    all_goals with_reducible rfl
  try simp only [List.getElem_toArray, List.getElem_cons_succ, List.getElem_cons_zero, Act.put, List.setIfInBounds_toArray, List.set_cons_zero, List.set_cons_succ]
  refine wpAnyH_take (i := 4) (v := ?_) rfl (by kernel_rfl) (by kernel_rfl) (by kernel_rfl) (fun _ _ _ h => h) (Or.inl ⟨by rfl, ?_⟩) (by assumption) ?_
  rotate_left
  · intro w hSw
    try dsimp only at hSw
    go_simp
    all_goals with_reducible rfl
  try simp only [List.getElem_toArray, List.getElem_cons_succ, List.getElem_cons_zero, Act.put, List.setIfInBounds_toArray, List.set_cons_zero, List.set_cons_succ]
  refine wpAnyH_take (i := 6) rfl (by kernel_rfl) (by kernel_rfl) (by kernel_rfl) (fun _ _ _ h => h) (yieldsIf_load_mid (by rfl) 54 _ rfl w.heap.size 0 rfl ev _ (fun _ h => h.2.1) hu rfl hi) (by assumption) ?_
  try simp only [List.getElem_toArray, List.getElem_cons_succ, List.getElem_cons_zero, Act.put, List.setIfInBounds_toArray, List.set_cons_zero, List.set_cons_succ]
  refine wpAnyH_ready (rs := [5]) (by kernel_rfl) (by simp) ?_
  refine AllReadyH.cons rfl (fun K hK => ?_) AllReadyH.nil
  go_simp
  refine (HP.out.at_ X.drew rfl).mono ?_
  rintro e w1 ⟨rfl, rfl⟩
  go_wp2_with fail
  refine hK.out _ _ (HP.out.st X.drew.drew rfl) (fun hHeld2 => ?_)
  clear hK K hHeld
  try simp only [List.getElem_toArray, List.getElem_cons_succ, List.getElem_cons_zero, Act.put, List.setIfInBounds_toArray, List.set_cons_zero, List.set_cons_succ]
  refine wpAnyH_take (i := 7) (v := ?_) rfl (by kernel_rfl) (by kernel_rfl) (by kernel_rfl) (fun _ _ _ h => h) (Or.inl ⟨by rfl, ?_⟩) (by assumption) ?_
  rotate_left
  · intro w hSw
    try dsimp only at hSw
    go_simp
    all_goals with_reducible rfl
  try simp only [List.getElem_toArray, List.getElem_cons_succ, List.getElem_cons_zero, Act.put, List.setIfInBounds_toArray, List.set_cons_zero, List.set_cons_succ]
  refine wpAnyH_ready (rs := [8]) (by kernel_rfl) (by simp) ?_
  refine AllReadyH.cons rfl (fun K hK => ?_) AllReadyH.nil
  rw [if_pos (by rfl)]
  refine wp_store_mid 54 _ _ rfl g (j0 * 15) ev.toArray rfl rfl (by simpa [hev1] using hHeld2.2.2) (by simpa using hi) (all_oneCell_toArray hone) ?_
  refine hK.out _ _ (HP.out.st2 X.drew.drew rfl) (fun hHeld3 => ?_)
  clear hK K hHeld2
  try simp only [List.getElem_toArray, List.getElem_cons_succ, List.getElem_cons_zero, Act.put, List.setIfInBounds_toArray, List.set_cons_zero, List.set_cons_succ]
  refine wpAnyH_done (by kernel_rfl) ?_ _
  try simp only [List.getElem_toArray, List.getElem_cons_succ, List.getElem_cons_zero, Act.put, List.setIfInBounds_toArray, List.set_cons_zero, List.set_cons_succ, List.toList_toArray]
  obtain ⟨V, hV⟩ : ∃ V, V = X.drew.drew.setCells g (j0 * 15) ev := ⟨_, rfl⟩
  rw [← hV] at hHeld3 ⊢
  have v2 := hHeld3.1
  have v4 : V.cell? ⟨p, 4, none⟩ = some (.int .u64 last) := by
    rw [hV, World.cell?_setCells_out _ _ _ _ _ (fun h => absurd h.symm HP.out.gp)]; exact HP.out.c4
  have vx : V.cell? ⟨w.heap.size, 1, none⟩ = some (.int .u64 r) := by
    rw [hV, World.cell?_setCells_out _ _ _ _ _ (fun h => absurd h.symm HP.out.gb)]; exact HP.out.x1
  have vf : ∀ j, V.frozen? ⟨p, j, none⟩ = false := fun j => by
    rw [hV, World.frozen?_setCells]; exact HP.out.fz j
  have HV := hid hV
  clear hV hHeld3 S1 S3 hi hu hone
  go_wp2
  go_ret
  refine ⟨rfl, ?_, ?_⟩
  · refine LogAt.stored (w := X.drew.drew) (HX1.out.same rfl) HN.out.1 ev HEV.out r ((L : Int) + 1) (by rw [HL.out]) ?_
    rw [HV.out, HJ0.out]
  · have kx : Keeps (fun i => i = p ∨ i = g) w X.drew.drew := ((Keeps.mono HWK.out (by simp)).drew.drew.trans HX2.out (fun i hi => .inl hi)).drew.drew
    rw [HV.out]
    exact kx.trans (((Keeps.setCells (F := fun i => i = p ∨ i = g) (.inl (.inr rfl)) ev (j0 * 15) (Keeps.refl (fun i => i = p ∨ i = g) X.drew.drew)).setCell ⟨p, 2, none⟩ (.int .i64 ((L : Int) + 1)) (.inl (.inl rfl))).setCell ⟨p, 4, none⟩ (.int .u64 r) (.inl (.inl rfl))) (fun i hi => .inl hi)
end
end Go.Proofs.Ytnceglkoolfncaa.Ev
