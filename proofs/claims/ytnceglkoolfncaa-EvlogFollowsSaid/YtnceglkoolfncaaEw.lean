/- The log of events: drop, event. -/
import Derived.Test.YtnceglkoolfncaaEv
import Derived.Handy
namespace Go.Proofs.Ytnceglkoolfncaa.Ev
open Go.RowKit Go.Pv

theorem row_set {w : World} {g i : Nat} {cs : Array Value} {t : TypeId} (hg : w.heap[g]? = some (.cells cs t (0, 0))) (v : Value) : (w.setCell ⟨g, i, none⟩ v).heap[g]? = some (.cells (cs.setIfInBounds i v) t (0, 0)) := heap_setCell_same w g i cs t v hg

abbrev zcells : List Value := [.int .i64 0, .int .u64 0, .int .i64 0, .int .u64 0, .string ⟨#[]⟩, .slice none 0 0, .slice none 0 0, .slice none 0 0, .int .i64 0, .int .i64 0, .int .i64 0, .int .i64 0, .slice none 0 0, .int .i64 0, .int .i64 0]

theorem size54 : (Try.prog.info? 54).map (·.size) = some 15 := by kernel_rfl
theorem zero54 : (Try.prog.info? 54).map (·.zero) = some (some (.agg zcells.toArray)) := by kernel_rfl
theorem row54 : ∃ d, Try.prog.underlying 54 = some d ∧ d.isRow = true := ⟨_, Try.underlying54, rfl⟩

theorem setCell_other {w : World} {b i : Nat} {p : Addr} {v : Value} (h : p.block ≠ b ∨ p.off ≠ i) : (w.setCell ⟨b, i, none⟩ v).cell? p = w.cell? p := World.cell?_setCell_other _ _ _ _ (fun e => by subst e; simp at h)

theorem LogAt.dropped {w w' : World} {p g N first : Nat} {floor last f : Int} {ev : Event} {evs : List Event} (h : LogAt w p g N first floor last (ev :: evs))
    (hp : w'.heap[p]? = some (.cells #[.slice (some ⟨g, 0, none⟩) N N, .int .i64 ((first + 1) % N : Nat), .int .i64 evs.length, .int .u64 f, .int .u64 last] 173 (0, 0)))
    (ht : w'.there g 0 (N * 15)) (hr : ∀ j, j ≠ first → ∀ cs, cs.length = 15 → w.rangeAt g (j * 15) cs → w'.rangeAt g (j * 15) cs) : LogAt w' p g N ((first + 1) % N) f last evs where
  cell := hp
  gp := h.gp
  there := ht
  n0 := h.n0
  nN := h.nN
  fN := Nat.mod_lt _ h.n0
  len := by have := h.len; simp at this; omega
  el := fun i e hi => by
    have hl := h.len
    have hf := h.fN
    simp only [List.length_cons] at hl
    have hil : i < evs.length := (List.getElem?_eq_some_iff.1 hi).1
    have e1 : ((first + 1) % N + i) % N = (first + (i + 1)) % N := by rw [Nat.mod_add_mod]; congr 1; omega
    have e2 : (first + (i + 1)) % N ≠ first := by
      intro e
      have h1 : N ∣ (i + 1) := by
        have : (first + (i + 1)) % N = first % N := by rw [e, Nat.mod_eq_of_lt hf]
        have h2 := Nat.sub_mod_eq_zero_of_mod_eq this
        rw [Nat.add_sub_cancel_left] at h2
        exact Nat.dvd_of_mod_eq_zero h2
      have := Nat.le_of_dvd (by omega) h1
      omega
    obtain ⟨r1, r2⟩ := h.el (i + 1) e (by simpa using hi)
    rw [e1]
    exact ⟨hr _ e2 _ r2.1 r1, r2⟩

theorem LogAt.added {w w' : World} {p g N first : Nat} {floor last l' : Int} {ev : Event} {evs : List Event} (h : LogAt w p g N first floor last evs) (hn : evs.length < N) (hev : EvOk ev)
    (hp : w'.heap[p]? = some (.cells #[.slice (some ⟨g, 0, none⟩) N N, .int .i64 first, .int .i64 (evs.length + 1 : Nat), .int .u64 floor, .int .u64 l'] 173 (0, 0)))
    (ht : w'.there g 0 (N * 15)) (hs : w'.rangeAt g ((first + evs.length) % N * 15) ev) (hr : ∀ j, j ≠ (first + evs.length) % N → ∀ cs, cs.length = 15 → w.rangeAt g (j * 15) cs → w'.rangeAt g (j * 15) cs) : LogAt w' p g N first floor l' (evs ++ [ev]) where
  cell := by simpa using hp
  gp := h.gp
  there := ht
  n0 := h.n0
  nN := h.nN
  fN := h.fN
  len := by simp; omega
  el := fun i e hi => by
    have hf := h.fN
    rcases Nat.lt_or_ge i evs.length with hil | hil
    · rw [List.getElem?_append_left hil] at hi
      have e2 : (first + i) % N ≠ (first + evs.length) % N := by
        intro e
        have h2 := Nat.sub_mod_eq_zero_of_mod_eq e.symm
        rw [show first + evs.length - (first + i) = evs.length - i by omega] at h2
        have := Nat.le_of_dvd (by omega) (Nat.dvd_of_mod_eq_zero h2)
        omega
      obtain ⟨r1, r2⟩ := h.el i e hi
      exact ⟨hr _ e2 _ r2.1 r1, r2⟩
    · rw [List.getElem?_append_right hil] at hi
      have h0 : i = evs.length := by
        rcases Nat.lt_or_ge (i - evs.length) 1 with h1 | h1
        · omega
        · rw [List.getElem?_eq_none (by simpa using h1)] at hi; cases hi
      subst h0
      simp at hi
      subst hi
      exact ⟨hs, hev⟩

theorem LogAt.setFloor {w : World} {p g N first : Nat} {floor last : Int} {evs : List Event} (h : LogAt w p g N first floor last evs) (f : Int) : LogAt (w.setCell ⟨p, 3, none⟩ (.int .u64 f)) p g N first f last evs where
  cell := by rw [row_set h.cell]; rfl
  gp := h.gp
  there := fun j hj => by
    have := h.there j hj
    exact ⟨by rw [setCell_other (.inl h.gp)]; exact this.1, by rw [World.frozen?_setCell]; exact this.2⟩
  n0 := h.n0
  nN := h.nN
  fN := h.fN
  len := h.len
  el := fun i ev hi => ⟨fun j v hv => by rw [setCell_other (.inl h.gp)]; exact (h.el i ev hi).1 j v hv, (h.el i ev hi).2⟩

/-- Behind the first store of drop, and the emptied slot. -/
structure Mid (w W : World) (p g N first : Nat) (f last : Int) (n : Nat) : Prop where
  row : W.heap[p]? = some (.cells #[.slice (some ⟨g, 0, none⟩) N N, .int .i64 first, .int .i64 n, .int .u64 f, .int .u64 last] 173 (0, 0))
  there : W.there g 0 (N * 15)
  rng : ∀ j, j ≠ first → ∀ cs, cs.length = 15 → w.rangeAt g (j * 15) cs → W.rangeAt g (j * 15) cs
  keep : Keeps (fun i => i = p ∨ i = g) w W

theorem apart_slots {i j : Nat} (h : j ≠ i) : j * 15 + 15 ≤ i * 15 ∨ i * 15 + 15 ≤ j * 15 := by omega

theorem mid_of {w : World} {p g N first : Nat} {floor last : Int} {evs : List Event} (h : LogAt w p g N first floor last evs) (f : Int) :
    Mid w ((w.setCell ⟨p, 3, none⟩ (.int .u64 f)).drew.drew.drew.setCells g (first * 15) zcells) p g N first f last evs.length where
  row := by
    have k := Keeps.setCells (F := fun i => i = g) (.inl rfl) zcells (first * 15) (Keeps.refl (fun i => i = g) (w.setCell ⟨p, 3, none⟩ (.int .u64 f)).drew.drew.drew)
    have := k.block p (by have := h.plt; simp [World.drew]; exact this) (fun e => h.gp e.symm)
    rw [this]
    exact (row_set h.cell _)
  there := World.there_setCells (h.setFloor f).drew.drew.drew.there g _ zcells
  rng := fun j hj cs hl hr => by
    refine World.rangeAt_setCells_apart (w := (w.setCell ⟨p, 3, none⟩ (.int .u64 f)).drew.drew.drew) ?_ g _ zcells (.inr ?_)
    · intro i v hv
      exact (setCell_other (.inl h.gp)).trans (hr i v hv)
    · have := apart_slots hj
      simp only [hl, zcells, List.length_cons, List.length_nil]; omega
  keep := Keeps.setCells (.inl (.inr rfl)) zcells _ (((Keeps.refl _ w).setCell ⟨p, 3, none⟩ _ (.inl (.inl rfl))).drew.drew.drew)

theorem Mid.cells {w W : World} {p g N first : Nat} {f last : Int} {n : Nat} (h : Mid w W p g N first f last n) :
    W.cell? ⟨p, 0, none⟩ = some (.slice (some ⟨g, 0, none⟩) N N) ∧ W.cell? ⟨p, 1, none⟩ = some (.int .i64 first) ∧ W.cell? ⟨p, 2, none⟩ = some (.int .i64 n) ∧ W.frozen? ⟨p, 1, none⟩ = false ∧ W.frozen? ⟨p, 2, none⟩ = false :=
  ⟨by rw [cell_of_row W p 0 _ _ _ h.row]; rfl, by rw [cell_of_row W p 1 _ _ _ h.row]; rfl, by rw [cell_of_row W p 2 _ _ _ h.row]; rfl, by simp [World.frozen?, h.row], by simp [World.frozen?, h.row]⟩

theorem Mid.fin {w W W' : World} {p g N first : Nat} {floor f last : Int} {ev : Event} {evs : List Event} (h : Mid w W p g N first f last (ev :: evs).length) (hl : LogAt w p g N first floor last (ev :: evs))
    (hW : W'.heap = ((W.setCell ⟨p, 1, none⟩ (.int .i64 ((first + 1) % N : Nat))).setCell ⟨p, 2, none⟩ (.int .i64 evs.length)).heap) (ho : W'.os = W.os ∧ W'.tape = W.tape ∧ W'.output = W.output) :
    LogAt W' p g N ((first + 1) % N) f last evs ∧ Keeps (fun i => i = p ∨ i = g) w W' := by
  have hc : ∀ q : Addr, q.block ≠ p → W'.cell? q = W.cell? q := fun q hq => by
    have e1 : W'.cell? q = ((W.setCell ⟨p, 1, none⟩ (.int .i64 ((first + 1) % N : Nat))).setCell ⟨p, 2, none⟩ (.int .i64 evs.length)).cell? q := World.cell?_of_block (by rw [hW])
    rw [e1, setCell_other (.inl hq), setCell_other (.inl hq)]
  have hz : ∀ q : Addr, W'.frozen? q = W.frozen? q := fun q => by
    have e1 : W'.frozen? q = ((W.setCell ⟨p, 1, none⟩ (.int .i64 ((first + 1) % N : Nat))).setCell ⟨p, 2, none⟩ (.int .i64 evs.length)).frozen? q := World.frozen?_of_block (by rw [hW])
    rw [e1, World.frozen?_setCell, World.frozen?_setCell]
  refine ⟨hl.dropped ?_ (fun j hj => ?_) (fun j hj cs h1 h2 i v hv => ?_), ?_⟩
  · rw [hW, row_set (row_set h.row _)]; rfl
  · rw [hc _ hl.gp, hz]; exact h.there j hj
  · rw [hc _ hl.gp]; exact h.rng j hj cs h1 h2 i v hv
  · have k := ((h.keep.setCell ⟨p, 1, none⟩ (.int .i64 ((first + 1) % N : Nat)) (.inl (.inl rfl))).setCell ⟨p, 2, none⟩ (.int .i64 evs.length) (.inl (.inl rfl)))
    exact ⟨ho.1.trans h.keep.os, ho.2.1.trans h.keep.tape, ho.2.2.trans h.keep.output, by rw [hW]; exact k.size, fun i hi hn => by rw [hW]; exact k.block i hi hn⟩

set_option maxRecDepth 10000 in
set_option maxHeartbeats 1000000 in
theorem drop_any {w : World} {p g N first : Nat} {floor last : Int} {ev : Event} {evs : List Event} (h : LogAt w p g N first floor last (ev :: evs)) :
    Calls Try.prog 99 #[.pointer (some ⟨p, 0, none⟩)] w fun e w' => e = .returned (.tuple #[]) ∧ LogAt w' p g N ((first + 1) % N) (max floor (revOf ev)) last evs ∧ Keeps (fun i => i = p ∨ i = g) w w' := by
  obtain ⟨c0, c1, c2, c3, c4, cf⟩ := h.cells
  have fN := h.fN
  have hrow := h.cell
  have hslot := h.el 0 ev rfl
  have hat := fun (W : World) (H : LogAt W p g N first floor last (ev :: evs)) => at_any H 0 (by omega)
  simp only [Nat.add_zero, Nat.mod_eq_of_lt fN, Int.natCast_zero] at hslot hat
  have n0 := h.n0
  have nN := h.nN
  have hgp := h.gp
  have hpl := h.plt
  have r1 : w.cell? ⟨g, first * 15 + 1, none⟩ = some (.int .u64 (revOf ev)) := hslot.1 1 _ hslot.2.2.2
  have e1 : IntKind.i64.wrap ((first : Int) + 1) = (first : Int) + 1 := IntWalk.i64_in _ (by omega)
  have e2 : ((first : Int) + 1).tmod (N : Int) = (((first + 1) % N : Nat) : Int) := by
    rw [Int.tmod_eq_emod_of_nonneg (by omega)]
    simp
  have e4 : ¬ (N = 0) := by omega
  obtain ⟨L, hL⟩ : ∃ L, L = (ev :: evs).length := ⟨_, rfl⟩
  obtain ⟨M, hM⟩ : ∃ M, M = evs.length := ⟨_, rfl⟩
  have hLM : L = M + 1 := by rw [hL, hM]; rfl
  have e5 : IntKind.i64.wrap ((L : Int) - 1) = (M : Int) := by
    have := h.len
    rw [← hL] at this
    rw [IntWalk.i64_in _ (by omega)]; omega
  have HL := hid hL
  have HMM := hid hM
  clear hL hM hLM
  have H := hid h
  have HAT := hid hat
  have hat2 := fun (v : Int) => at_any (h.setFloor v).drew.drew 0 (by omega)
  simp only [Nat.add_zero, Nat.mod_eq_of_lt fN, Int.natCast_zero] at hat2
  have HAT2 := hid hat2
  clear hat2
  have HSLOT := hid hslot
  have HROW := hid hrow
  clear h hat hslot hrow
  have HTH : Hid (∀ v, (w.setCell ⟨p, 3, none⟩ v).drew.drew.there g (first * 15) 15) := hid fun v j hj => by
    have := H.out.there (first * 15 + j) (by omega)
    simp only [Nat.zero_add] at this
    exact ⟨by rw [World.cell?_drew, World.cell?_drew, setCell_other (.inl hgp)]; exact this.1, by rw [World.frozen?_drew, World.frozen?_drew, World.frozen?_setCell]; exact this.2⟩
  have S0 : w.drew.cell? ⟨p, 0, none⟩ = some (.slice (some ⟨g, 0, none⟩) N N) ∧ w.drew.cell? ⟨p, 1, none⟩ = some (.int .i64 first) ∧ w.drew.cell? ⟨g, first * 15 + 1, none⟩ = some (.int .u64 (revOf ev)) := ⟨c0, c1, r1⟩
  have S1 : ∀ v, (w.drew.setCell ⟨p, 3, none⟩ v).cell? ⟨p, 0, none⟩ = some (.slice (some ⟨g, 0, none⟩) N N) ∧ (w.drew.setCell ⟨p, 3, none⟩ v).cell? ⟨p, 1, none⟩ = some (.int .i64 first) ∧ (w.drew.setCell ⟨p, 3, none⟩ v).cell? ⟨g, first * 15 + 1, none⟩ = some (.int .u64 (revOf ev)) :=
    fun v => ⟨(setCell_other (.inr (by simp))).trans c0, (setCell_other (.inr (by simp))).trans c1, (setCell_other (.inl hgp)).trans r1⟩
  have d3 : w.drew.cell? ⟨p, 3, none⟩ = some (.int .u64 floor) := c3
  have df : w.drew.frozen? ⟨p, 3, none⟩ = false := cf 3
  go_enter Try.func99, Try.ntmps99
  go_wp2_with fail
  go_region_with (go_at_call 100; refine (HAT.out _ H.out.drew).mono ?_; rintro e w1 ⟨rfl, rfl⟩)
  all_goals
    go_wp2_with (first
      | (go_at_call 100; go_must (refine (HAT2.out _).mono ?_; rintro e w1 ⟨rfl, rfl⟩))
      | ((with_reducible refine gate_store 54 rfl ?_); go_must (refine wl_store_mid rfl 54 _ _ rfl g (first * 15) zcells rfl rfl ?_ size54 (by decide) ?_; exact HTH.out _)))
    obtain ⟨W, hW⟩ : ∃ W, W = ((w.setCell ⟨p, 3, none⟩ (.int .u64 (max floor (revOf ev)))).drew.drew.drew.setCells g (first * 15) zcells) := ⟨_, rfl⟩
    rw [← hW]
    have HM : Hid (Mid w W p g N first (max floor (revOf ev)) last L) := hid (by rw [hW, HL.out]; exact mid_of H.out _)
    clear hW c0 c1 c2 c3 c4 cf r1 S0 S1 d3 df
    obtain ⟨m0, m1, m2, mf1, mf2⟩ := HM.out.cells
    go_region_with fail
  all_goals go_wp2
  all_goals
    refine bodyPost_end (results_none rfl _ _ _) rfl ?_
    exact ⟨rfl, Mid.fin (W := W) (HL.out ▸ HM.out) H.out (by rw [← HMM.out, Int.natCast_emod]; rfl) ⟨rfl, rfl, rfl⟩⟩
end Go.Proofs.Ytnceglkoolfncaa.Ev
