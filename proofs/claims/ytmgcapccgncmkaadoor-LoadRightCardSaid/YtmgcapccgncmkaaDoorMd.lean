/- Scripts: the entry of a line (45.1): what was written is read. -/
import Derived.Test.YtmgcapccgncmkaaDoorMa
import Derived.Test.YtmgcapccgncmkaaDoorMb
import Derived.Test.YtmgcapccgncmkaaDoorMc
set_option linter.unusedSimpArgs false
set_option linter.unusedVariables false
namespace Go.Proofs.YtmgcapccgncmkaaDoor.Ld
open Go.RowKit Go.Pv Go.Proofs.YtmgcapccgncmkaaDoor.PLoadScripts Go.Proofs.YtmgcapccgncmkaaDoorW.PrintWords Go.Proofs.YtmgcapccgncmkaaDoorW.PrintLast Go.Proofs.YtmgcapccgncmkaaDoorW.PrintMore

theorem sl_from (g n a : Nat) (ha : a ≤ n) : ∃ A, (∀ w' : World, (Instr.slice 69 (.slice (some ⟨g, 0, none⟩) n n) (some (.int .i64 (a : Nat))) none none).run Tryd.prog w' = .ok (.slice A (n - a) (n - a)) w') ∧ (a < n → A = some ⟨g, a, none⟩) := by
  obtain ⟨i, hi, hsz⟩ : ∃ i, Tryd.prog.info? 9 = some i ∧ i.size = 1 := by
    have := info9
    cases h : Tryd.prog.info? 9 with
    | none => rw [h] at this; simp at this
    | some i => rw [h] at this; simp at this; exact ⟨i, rfl, this.2.1⟩
  refine ⟨if n = a then some ⟨g, 0, none⟩ else some ⟨g, a, none⟩, fun w' => ?_, fun h => by rw [if_neg (by omega)]⟩
  have := run_sliceBound_ok (P := Tryd.prog) w' a n .sliceB ha
  simp only [Instr.slice, Instr.sliceBounds, Sem.run_bind, run_underlying Tryd.underlying69, Result.andThen_ok, Sem.run_pure, Option.isSome_none, this, sizeOf, typeInfo, run_program, hi, Bool.false_eq_true, if_false]
  refine congrArg (fun z => Result.ok (Value.slice z (n - a) (n - a)) w') ?_
  split
  · rfl
  · simp [Addr.add_lit, hsz]
theorem sl_mid (g n h : Nat) (h1 : 1 ≤ h) (h2 : h ≤ n) : ∃ A, (∀ w' : World, (Instr.slice 69 (.slice (some ⟨g, 0, none⟩) n n) (some (.int .i64 1)) (some (.int .i64 (h : Nat))) none).run Tryd.prog w' = .ok (.slice A (h - 1) (n - 1)) w') ∧ (1 < n → A = some ⟨g, 1, none⟩) := by
  obtain ⟨i, hi, hsz⟩ : ∃ i, Tryd.prog.info? 9 = some i ∧ i.size = 1 := by
    have := info9
    cases h : Tryd.prog.info? 9 with
    | none => rw [h] at this; simp at this
    | some i => rw [h] at this; simp at this; exact ⟨i, rfl, this.2.1⟩
  refine ⟨if n = 1 then some ⟨g, 0, none⟩ else some ⟨g, 1, none⟩, fun w' => ?_, fun h => by rw [if_neg (by omega)]⟩
  have e1 := run_sliceBound_ok (P := Tryd.prog) w' 1 h .sliceB h1
  have e2 := run_sliceBound_ok (P := Tryd.prog) w' h n .sliceAcap h2
  have e3 : (Instr.sliceBound (.int .i64 1) h .sliceB).run Tryd.prog w' = .ok 1 w' := e1
  simp only [Instr.slice, Instr.sliceBounds, Sem.run_bind, run_underlying Tryd.underlying69, Result.andThen_ok, Sem.run_pure, Option.isSome_none, Option.isSome_some, e2, e3, sizeOf, typeInfo, run_program, hi, Bool.false_eq_true, if_false, if_true]
  refine congrArg (fun z => Result.ok (Value.slice z (h - 1) (n - 1)) w') ?_
  split
  · rfl
  · simp [Addr.add_lit, hsz]

/-! ### no part holds a blank -/
theorem nb_dig (n : Int) (h0 : 0 ≤ n) (h1 : n ≤ 1073741824) : (32 : UInt8) ∉ (ntext n).data.toList := by
  obtain ⟨_, f2, _, _⟩ := digs_form n h0 h1
  unfold ntext strOfNums
  intro h
  simp only [List.mem_map] at h
  obtain ⟨c, hc, he⟩ := h
  have := f2 c hc
  unfold Dig at this
  have h3 := congrArg UInt8.toNat he
  simp only [UInt8.toNat_ofNat'] at h3
  have h4 : (32 : UInt8).toNat = 32 := rfl
  omega
theorem nb_name {d : ByteArray} (h : nameB d = true) : (32 : UInt8) ∉ d.data.toList := by
  intro hm
  unfold nameB at h
  simp only [Bool.and_eq_true] at h
  have ha := h.1.1.2
  unfold allB at ha
  rw [List.all_eq_true] at ha
  obtain ⟨i, hi, he⟩ := List.getElem_of_mem hm
  have hi2 : i < d.size := by rw [Array.length_toList] at hi; exact hi
  have h2 := ha i (List.mem_range.2 hi2)
  have hb := bt_at d (i : Int) (by simpa using hi2)
  simp only [Int.toNat_natCast] at hb
  have h4 : d[i]'hi2 = 32 := by
    have : d.data.toList[i] = d.data[i] := Array.getElem_toList _
    rw [this] at he
    exact he
  rw [h4] at hb
  rw [← hb] at h2
  revert h2
  decide
theorem nb_word (v : Int) : (32 : UInt8) ∉ (vb v).1.data.toList := by
  have h : ∀ i : Nat, (32 : UInt8) ∉ (vtab.getD i (⟨#[]⟩, 0, 0)).1.data.toList := by
    intro i
    by_cases hi : i < 24
    · have : ∀ i : Fin 24, (32 : UInt8) ∉ (vtab.getD i.val (⟨#[]⟩, 0, 0)).1.data.toList := by decide
      exact this ⟨i, hi⟩
    · rw [List.getD_eq_getElem?_getD, List.getElem?_eq_none (by show 24 ≤ i; omega)]
      simp
  exact h v.toNat
theorem okE_data {E : Ent} (h : okE E) : ((vb E.1).2.2 = 0 ∧ E.2.2.size = 0) ∨ ((vb E.1).2.2 = 2 ∧ nameB E.2.2 = true) := by
  have hk : (vb E.1).2.2 = 0 ∨ (vb E.1).2.2 = 2 := by have := vb_kind E.1; have := h.2; omega
  have hr := h.1
  unfold rightB at hr
  simp only [Bool.and_eq_true] at hr
  rcases hk with hk | hk
  · refine .inl ⟨hk, ?_⟩
    have := hr.2
    rw [hk] at this
    simpa [dataB] using this
  · refine .inr ⟨hk, ?_⟩
    have := hr.2
    rw [hk] at this
    simpa [dataB] using this
theorem parts_plain {E : Ent} (h : okE E) : ∀ y ∈ partsL E, (32 : UInt8) ∉ y.data.toList := by
  intro y hy
  unfold partsL heads at hy
  rw [List.mem_append, List.mem_cons] at hy
  rcases hy with (rfl | hy) | hy
  · exact nb_word _
  · obtain ⟨n, hn, rfl⟩ := List.mem_map.1 hy
    have := rightB_nums h.1 n hn
    exact nb_dig n this.1 (by omega)
  · rcases okE_data h with ⟨hk, _⟩ | ⟨hk, hd⟩
    · rw [if_neg (by rw [hk]; decide)] at hy
      simp at hy
    · rw [if_pos hk, List.mem_singleton] at hy
      subst hy
      exact nb_name hd
theorem line_split {E : Ent} (h : okE E) : Lib.countB (lineL E) ⟨#[32]⟩ + 1 = (partsL E).length ∧ Lib.splitB ⟨#[32]⟩ 0 (Lib.countB (lineL E) ⟨#[32]⟩) (lineL E) = partsL E := by
  obtain ⟨x, xs, hx⟩ : ∃ x xs, partsL E = x :: xs := ⟨(vb E.1).1, _, rfl⟩
  have hp := parts_plain h
  rw [hx] at hp
  have hs := split_join 32 xs x hp
  unfold lineL
  rw [hx]
  refine ⟨by rw [hs.1]; rfl, by rw [hs.1]; exact hs.2⟩
theorem parts_len {E : Ent} (h : okE E) : (partsL E).length = (if (vb E.1).2.2 = 2 then E.2.1.length + 2 else E.2.1.length + 1) := by
  unfold partsL heads
  by_cases hk : (vb E.1).2.2 = 2
  · rw [if_pos hk, if_pos hk]; simp
  · rw [if_neg hk, if_neg hk]; simp
theorem parts_0 (E : Ent) : (partsL E)[0]? = some (vb E.1).1 := by unfold partsL heads; simp
theorem parts_n (E : Ent) (i : Nat) (hi : i < E.2.1.length) : (partsL E)[1 + i]? = some (ntext E.2.1[i]) := by
  unfold partsL heads
  rw [List.getElem?_append_left (by simp; omega), Nat.add_comm, List.getElem?_cons_succ, List.getElem?_map, List.getElem?_eq_getElem hi]
  rfl
theorem parts_d (E : Ent) (hk : (vb E.1).2.2 = 2) : (partsL E)[1 + E.2.1.length]? = some E.2.2 := by
  unfold partsL heads
  rw [if_pos hk, List.getElem?_append_right (by simp; omega)]
  simp [Nat.add_comm]

/-- While a line is read. -/
structure PS (w W : World) (g be bv br : Nat) (parts : List ByteArray) (v : Int) (xc : Value) (dt : ByteArray) : Prop where
  low : Below w.heap.size w W
  eb : W.heap[be]? = some (.cells #[.int .i64 v, xc, .string dt] 34 (0, 0))
  vx : W.heap[bv]? = some (.cells #[.string (vb v).1, .int .i64 (vb v).2.1, .int .i64 (vb v).2.2] 113 (0, 0))
  rb : W.heap[br]? = some (.cells #[.int .i64 0, .slice none 0 0, .string ⟨#[]⟩] 34 (0, 0))
  pt : W.heap[g]? = some (.cells (parts.map Value.string).toArray 9 (0, 0))
  ge : w.heap.size ≤ br ∧ br < be
section
variable {w W V : World} {g be bv br : Nat} {parts : List ByteArray} {v : Int} {xc : Value} {dt : ByteArray}
theorem PS.later (h : PS w W g be bv br parts v xc dt) (hb : Below W.heap.size W V) : PS w V g be bv br parts v xc dt :=
  ⟨h.low.trans (hb.mono h.low.size), (hb.block _ (Array.getElem?_eq_some_iff.1 h.eb).1).trans h.eb, (hb.block _ (Array.getElem?_eq_some_iff.1 h.vx).1).trans h.vx, (hb.block _ (Array.getElem?_eq_some_iff.1 h.rb).1).trans h.rb, (hb.block _ (Array.getElem?_eq_some_iff.1 h.pt).1).trans h.pt, h.ge⟩
theorem PS.grown {x : Value} {xs : List Int} (h : PS w W g be bv br parts v xc dt) (hR : Kd.R (Kd.int .i64) 3 W w.heap.size (fun _ => True) x xs) (hb : Below w.heap.size w V) (hg : W.grownBy V x.ownBlock) : PS w V g be bv br parts v xc dt :=
  ⟨hb, (hg.block _ (Array.getElem?_eq_some_iff.1 h.eb).1 (Kd.R_ne hR h.eb (by decide))).trans h.eb, (hg.block _ (Array.getElem?_eq_some_iff.1 h.vx).1 (Kd.R_ne hR h.vx (by decide))).trans h.vx,
    (hg.block _ (Array.getElem?_eq_some_iff.1 h.rb).1 (Kd.R_ne hR h.rb (by decide))).trans h.rb, (hg.block _ (Array.getElem?_eq_some_iff.1 h.pt).1 (Kd.R_ne hR h.pt (by decide))).trans h.pt, h.ge⟩
theorem PS.nes (h : PS w W g be bv br parts v xc dt) : bv ≠ be ∧ br ≠ be ∧ g ≠ be := by
  refine ⟨fun e => ?_, fun e => by have := h.ge; omega, fun e => ?_⟩
  · have := h.vx; rw [e, h.eb] at this; simp at this
  · have := h.pt; rw [e, h.eb] at this; simp at this
theorem PS.set1 (h : PS w W g be bv br parts v xc dt) (x : Value) : PS w (W.setCell ⟨be, 1, none⟩ x) g be bv br parts v x dt := by
  obtain ⟨n1, n2, n3⟩ := h.nes
  have hbe : w.heap.size ≤ be := by have := h.ge; omega
  exact ⟨h.low.setCell (p := ⟨be, 1, none⟩) hbe _, heap_setCell_same W be 1 _ 34 _ h.eb, (Below.heap_setCell _ _ _ _ n1).trans h.vx, (Below.heap_setCell _ _ _ _ n2).trans h.rb, (Below.heap_setCell _ _ _ _ n3).trans h.pt, h.ge⟩
theorem PS.set2 (h : PS w W g be bv br parts v xc dt) (d : ByteArray) : PS w (W.setCell ⟨be, 2, none⟩ (.string d)) g be bv br parts v xc d := by
  obtain ⟨n1, n2, n3⟩ := h.nes
  have hbe : w.heap.size ≤ be := by have := h.ge; omega
  exact ⟨h.low.setCell (p := ⟨be, 2, none⟩) hbe _, heap_setCell_same W be 2 _ 34 _ h.eb, (Below.heap_setCell _ _ _ _ n1).trans h.vx, (Below.heap_setCell _ _ _ _ n2).trans h.rb, (Below.heap_setCell _ _ _ _ n3).trans h.pt, h.ge⟩
theorem PS.cells (h : PS w W g be bv br parts v xc dt) : (W.cell? ⟨be, 0, none⟩ = some (.int .i64 v) ∧ W.cell? ⟨be, 1, none⟩ = some xc ∧ W.cell? ⟨be, 2, none⟩ = some (.string dt)) ∧ W.cell? ⟨bv, 1, none⟩ = some (.int .i64 (vb v).2.1) ∧ W.cell? ⟨bv, 2, none⟩ = some (.int .i64 (vb v).2.2) ∧ ∀ j, W.frozen? ⟨be, j, none⟩ = false := by
  refine ⟨⟨?_, ?_, ?_⟩, ?_, ?_, fun j => by simp [World.frozen?, h.eb]⟩
  · rw [cell_of_row W _ _ _ _ _ h.eb]; rfl
  · rw [cell_of_row W _ _ _ _ _ h.eb]; rfl
  · rw [cell_of_row W _ _ _ _ _ h.eb]; rfl
  · rw [cell_of_row W _ _ _ _ _ h.vx]; rfl
  · rw [cell_of_row W _ _ _ _ _ h.vx]; rfl
theorem PS.part (h : PS w W g be bv br parts v xc dt) {i : Nat} {x : ByteArray} (hx : parts[i]? = some x) : W.cell? ⟨g, i, none⟩ = some (.string x) := by
  rw [cell_of_row W _ _ _ _ _ h.pt]
  simp [hx]
theorem PS.res (h : PS w W g be bv br parts v xc dt) : W.cell? ⟨br, 0, none⟩ = some (.int .i64 0) ∧ W.cell? ⟨br, 1, none⟩ = some (.slice none 0 0) ∧ W.cell? ⟨br, 2, none⟩ = some (.string ⟨#[]⟩) ∧ ∀ j, W.frozen? ⟨br, j, none⟩ = false := by
  refine ⟨?_, ?_, ?_, fun j => by simp [World.frozen?, h.rb]⟩ <;> (rw [cell_of_row W _ _ _ _ _ h.rb]; rfl)
end
end Go.Proofs.YtmgcapccgncmkaaDoor.Ld
