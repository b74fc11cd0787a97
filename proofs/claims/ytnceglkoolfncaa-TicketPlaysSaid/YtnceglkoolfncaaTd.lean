/- The book of tickets: Done. -/
import Derived.Test.YtnceglkoolfncaaTi
set_option linter.unusedSimpArgs false
set_option linter.unusedVariables false
namespace Go.Proofs.Ytnceglkoolfncaa
open Go.RowKit Go.Pv

theorem Book.cells {w : World} {p mb : Nat} {F : Nat → Prop} {rows : TRows} {last : Int} (hB : Book w p F rows mb last) : w.cell? ⟨p, 0, none⟩ = some (.map (some mb)) ∧ w.cell? ⟨p, 1, none⟩ = some (.int .i64 last) :=
  ⟨by rw [cell_of_row w p 0 _ _ _ hB.cell]; rfl, by rw [cell_of_row w p 1 _ _ _ hB.cell]; rfl⟩

theorem Book.pm {w : World} {p mb : Nat} {F : Nat → Prop} {rows : TRows} {last : Int} (hB : Book w p F rows mb last) : mb ≠ p := by
  intro e
  obtain ⟨es, clock, hb, _⟩ := hB.map.map
  have := hB.cell
  rw [← e, hb] at this; cases this

theorem Book.below {w w' : World} {p mb : Nat} {F : Nat → Prop} {rows : TRows} {last : Int} (hB : Book w p F rows mb last) (h : Below w.heap.size w w') : Book w' p F rows mb last :=
  hB.kept (G := fun _ => False) (Keeps.of_below h) (by simp)

theorem Book.alloc {w : World} {p mb : Nat} {F : Nat → Prop} {rows : TRows} {last : Int} (hB : Book w p F rows mb last) (o : Obj) : Book (w.alloc o) p F rows mb last :=
  hB.kept (G := fun _ => False) ((Keeps.refl _ w).alloc o) (by simp)

theorem Book.drew {w : World} {p mb : Nat} {F : Nat → Prop} {rows : TRows} {last : Int} (hB : Book w p F rows mb last) : Book w.drew p F rows mb last :=
  hB.kept (G := fun _ => False) (Keeps.refl _ w).drew (by simp)

theorem box3 {w w1 : World} {x y z : Value} {T : TypeId} (hb : Below (w.alloc (.cells #[x, y, z] T)).heap.size (w.alloc (.cells #[x, y, z] T)) w1) :
    w.heap.size < w1.heap.size ∧ w1.cell? ⟨w.heap.size, 0, none⟩ = some x ∧ w1.cell? ⟨w.heap.size, 1, none⟩ = some y ∧ w1.cell? ⟨w.heap.size, 2, none⟩ = some z ∧ (∀ j, w1.frozen? ⟨w.heap.size, j, none⟩ = false) ∧ Below w.heap.size w w1 := by
  have h1 := hb.size
  have hb' := (hb.block w.heap.size (by simp)).trans (heap_alloc_at w (.cells #[x, y, z] T) _ rfl)
  refine ⟨by simp at h1; omega, by rw [cell_of_row w1 _ 0 _ _ _ hb']; rfl, by rw [cell_of_row w1 _ 1 _ _ _ hb']; rfl, by rw [cell_of_row w1 _ 2 _ _ _ hb']; rfl, fun j => by simp [World.frozen?, hb'], ?_⟩
  exact ((Below.refl _ w).alloc (Nat.le_refl _) _).trans (hb.mono (by simp))

theorem keeps_box3 {w w1 : World} (hb : Below w.heap.size w w1) (hz : w.heap.size < w1.heap.size) (a b c : Value) : Below w.heap.size w (((w1.setCell ⟨w.heap.size, 0, none⟩ a).setCell ⟨w.heap.size, 1, none⟩ b).setCell ⟨w.heap.size, 2, none⟩ c) :=
  ((hb.setCell (Nat.le_refl _) _).setCell (Nat.le_refl _) _).setCell (Nat.le_refl _) _

set_option maxRecDepth 10000 in
theorem done_no {w : World} {p mb : Nat} {F : Nat → Prop} {rows : TRows} {last : Int} (hB : Book w p F rows mb last) (k : Int) (hl : rl rows k = []) :
    Calls Try.prog 18 #[.pointer (some ⟨p, 0, none⟩), .int .i64 k] w fun e w' => e = .returned (.tuple #[tkV (0, 0, 0), .int .i64 6]) ∧ Below w.heap.size w w' := by
  have hBa := hB.alloc (.cells #[.int .i64 0, .int .i64 0, .int .i64 0] 30)
  have h48 := head_any hBa.cells.1 hBa.map k
  rw [hl] at h48
  change Calls _ _ _ _ fun e w' => e = .returned (.tuple #[.agg #[.int .i64 0, .int .i64 0, .int .i64 0], .bool false]) ∧ _ at h48
  have H48 := hid h48
  clear h48 hBa hB hl
  go_enter Try.func18, Try.ntmps18
  go_wp2_with (go_at_call 48; go_must (refine H48.out.mono ?_); rintro e w1 ⟨rfl, hb1⟩; obtain ⟨z1, c0, c1, c2, f1, hb2⟩ := box3 hb1; have HB2 := hid hb2; clear hb1 hb2)
  refine bodyPost_ret (v := .tuple #[.agg #[.int .i64 0, .int .i64 0, .int .i64 0], .int .i64 6]) (by simp [results, Try.results18, go_sem, c0, c1, c2, z1]) rfl ⟨rfl, ?_⟩
  exact (keeps_box3 HB2.out z1 _ _ _).alloc (by simp; omega) _


/-- The rows behind Done: the first ticket at k is gone; where none is left, the key is. -/
def doneRows (rows : TRows) (k : Int) (v : Value) : TRows :=
  if (rl rows k).tail = [] then adel k (aset k (v, (rl rows k).tail) rows) else aset k (v, (rl rows k).tail) rows

set_option maxRecDepth 10000 in
theorem done_yes {w : World} {p mb : Nat} {F : Nat → Prop} {rows : TRows} {last : Int} (hB : Book w p F rows mb last) (k : Int) (t : Tk) (ts : List Tk) (hl : rl rows k = t :: ts) (hlen : ts.length ≤ 1000) :
    Calls Try.prog 18 #[.pointer (some ⟨p, 0, none⟩), .int .i64 k] w fun e w' => ∃ v' F', e = .returned (.tuple #[tkV t, .int .i64 0]) ∧ Book w' p F' (doneRows rows k v') mb last ∧ Keeps F w w' ∧ ∀ i, F' i → F i ∨ w.heap.size ≤ i := by
  have hBa := hB.alloc (.cells #[.int .i64 0, .int .i64 0, .int .i64 0] 30)
  have h48 := head_any hBa.cells.1 hBa.map k
  rw [hl] at h48
  change Calls _ _ _ _ fun e w' => e = .returned (.tuple #[.agg #[.int .i64 t.1, .int .i64 t.2.1, .int .i64 t.2.2], .bool true]) ∧ _ at h48
  have H48 := hid h48
  have HB := hid hB
  have HL := hid hl
  clear h48 hBa hB hl
  go_enter Try.func18, Try.ntmps18
  go_wp2_with (go_at_call 48; refine H48.out.mono ?_; rintro e w1 ⟨rfl, hb1⟩; obtain ⟨z1, c0, c1, c2, f1, hb2⟩ := box3 hb1; have HB2 := hid hb2; clear hb1 hb2)
  obtain ⟨W, hW⟩ : ∃ W, W = w1.alloc (.cells #[.int .i64 t.1, .int .i64 t.2.1, .int .i64 t.2.2] 30) := ⟨_, rfl⟩
  rw [← hW]
  have hBW : Book W p F rows mb last := by rw [hW]; exact (HB.out.below HB2.out).alloc _
  have q0 := hBW.cells.1
  have S0 : W.drew.cell? ⟨p, 0, none⟩ = some (.map (some mb)) := q0
  have SS : ∀ V : World, V.heap[p]? = some (.cells #[.map (some mb), .int .i64 last] 166 (0, 0)) → V.cell? ⟨p, 0, none⟩ = some (.map (some mb)) := fun V h => by rw [cell_of_row V p 0 _ _ _ h]; rfl
  have l0 := look_rows hBW.drew.map k
  obtain ⟨i0, hi, hz0, hz1, hz2⟩ := info_parts info30
  obtain ⟨v1, hs1, hsl1, ho1⟩ := run_slice_from (P := Try.prog) (t := 26) Try.underlying26 hi (w := W.drew) (v := rv rows k) (n := (rl rows k).length) (xs := (rl rows k).flatMap encT) (by rw [hz1]; exact hBW.drew.map.getD k) 1 (by rw [HL.out]; simp)
  change ∀ w' : World, Sem.run _ (Instr.slice 26 (rv rows k) (some (.int .i64 1)) none none) w' = _ at hs1
  have hsl2 : SlOf W.drew 30 3 encT v1 ts := by
    have := hsl1
    rw [hz1, HL.out] at this
    exact this
  have hcl := clone_any hsl2 (by omega)
  have Hcl := hid hcl
  have HBW := hid hBW
  have HW := hid hW
  have bB : W.heap[w1.heap.size]? = some (.cells #[.int .i64 t.1, .int .i64 t.2.1, .int .i64 t.2.2] 30 (0, 0)) := by rw [hW]; exact heap_alloc_at _ _ _ rfl
  have sW : W.heap.size = w1.heap.size + 1 := by rw [hW]; simp
  have b4 : W.heap[w.heap.size]? = w1.heap[w.heap.size]? := by rw [hW]; exact Below.heap_alloc _ _ _ z1
  have BB := hid bB
  have B4 := hid b4
  clear hcl hBW hW hsl1 hsl2 ho1 hi hz0 hz1 hz2 i0 bB b4
  go_region_held3 (fun V => V.cell? ⟨p, 0, none⟩ = some (.map (some mb))) (first | exact S0 | exact SS _ (by assumption))
    ((go_at_call 97; refine Hcl.out.mono ?_; rintro e w2 ⟨v', rfl, h1, h2, h3⟩
      have m2 := (HBW.out.drew.kept h2 (by simp))
      have bp2 := m2.cell
      obtain ⟨w3, hr3, hm3, hk3, hs3⟩ := m2.map.map.update keyI Try.underlying164 k v'
      have bp3 := (hk3.block p (Array.getElem?_eq_some_iff.1 bp2).1 (fun e => m2.pm e.symm)).trans bp2
      have H1 := hid h1; have H2 := hid h2; have H3 := hid h3; have HM2 := hid m2; have HM3 := hid hm3; have HK3 := hid hk3; have HS3 := hid hs3
      clear h1 h2 h3 m2 hm3 hk3 hs3))
  have hBd := HBW.out.drew
  have hmap3 : MapSl w3 mb ki 30 3 encT (aset k (v', ts) rows) := hBd.map.set (H2.out.mono (by simp)) H1.out (.inr H3.out) HM3.out HK3.out
  have hlt3 := HK3.out.size
  have hB3 : Book w3 p (fun i => F i ∨ v'.ownBlock = some i) (aset k (v', ts) rows) mb last := by
    refine ⟨bp3, hmap3, .inl hBd.inP, .inl hBd.inM, fun r hr g hg => ?_, fun i hi => ?_⟩
    · rcases mem_aset hBd.map.nodup hr with rfl | ⟨hr, _⟩
      · exact .inr hg
      · exact .inl (hBd.inR r hr g hg)
    · rcases hi with h | h
      · have h5 := hBd.lt i h; have := H2.out.size; omega
      · have := SlRow.lt H1.out h; omega
  have hF3 : ∀ i, (F i ∨ v'.ownBlock = some i) → (i < w.heap.size ∨ W.drew.heap.size ≤ i) := by
    intro i hi
    rcases hi with h | h
    · exact .inl (HB.out.lt i h)
    · exact .inr (H3.out i h)
  have kW3 : Keeps (fun i => i = mb) W.drew w3 := (H2.out.mono (by simp)).trans HK3.out (fun i hi => .inl hi)
  have hFm : F mb := HB.out.inM
  have hmlt : mb < w.heap.size := HB.out.lt mb hFm
  have sWd : W.drew.heap.size = w1.heap.size + 1 := sW
  have sWX : W.drew.heap.size = w1.heap.size + 1 := sW
  have fin : ∀ V : World, Keeps (fun i => i = mb) w3 V → (V.cell? ⟨w1.heap.size, 0, none⟩ = some (.int .i64 t.1) ∧ V.cell? ⟨w1.heap.size, 1, none⟩ = some (.int .i64 t.2.1) ∧ V.cell? ⟨w1.heap.size, 2, none⟩ = some (.int .i64 t.2.2)) ∧
      (V.cell? ⟨w.heap.size, 0, none⟩ = some (.int .i64 0) ∧ V.cell? ⟨w.heap.size, 1, none⟩ = some (.int .i64 0) ∧ V.cell? ⟨w.heap.size, 2, none⟩ = some (.int .i64 0)) ∧ (∀ j, V.frozen? ⟨w.heap.size, j, none⟩ = false) ∧ Keeps F w V := by
    intro V hV
    have k1 := kW3.trans hV (fun i hi => .inl hi)
    have e1 : V.heap[w1.heap.size]? = some (.cells #[.int .i64 t.1, .int .i64 t.2.1, .int .i64 t.2.2] 30 (0, 0)) := (k1.block _ (by omega) (by omega)).trans BB.out
    have e2 : V.heap[w.heap.size]? = w1.heap[w.heap.size]? := (k1.block _ (by omega) (by omega)).trans B4.out
    have e3 : ∀ j, V.cell? ⟨w.heap.size, j, none⟩ = w1.cell? ⟨w.heap.size, j, none⟩ := fun j => World.cell?_of_block (w := w1) (a := ⟨w.heap.size, j, none⟩) e2
    have e4 : ∀ j, V.frozen? ⟨w.heap.size, j, none⟩ = w1.frozen? ⟨w.heap.size, j, none⟩ := fun j => World.frozen?_of_block (w := w1) (a := ⟨w.heap.size, j, none⟩) e2
    refine ⟨⟨by rw [cell_of_row V _ 0 _ _ _ e1]; rfl, by rw [cell_of_row V _ 1 _ _ _ e1]; rfl, by rw [cell_of_row V _ 2 _ _ _ e1]; rfl⟩, ⟨(e3 0).trans c0, (e3 1).trans c1, (e3 2).trans c2⟩, fun j => (e4 j).trans (f1 j), ?_⟩
    have k0 : Keeps F w W.drew := by rw [HW.out]; exact ((Keeps.of_below HB2.out).alloc _).drew
    exact k0.trans k1 (fun i hi => .inl (hi ▸ hFm))
  have HFIN := hid fin
  have HB3 := hid hB3
  have HF3 := hid hF3
  have l3 := look_rows hmap3 k
  have e3 : rv (aset k (v', ts) rows) k = v' := by unfold rv; rw [aget_aset_same]; rfl
  rw [e3] at l3
  have L3 := hid l3
  have n3 := run_len_sl (P := Try.prog) (ty := 3) Try.underlying26 (SlRow.kept H1.out HK3.out (fun g hg e => by have := H3.out g hg; omega))
  have N3 := hid n3
  have q3 := SS w3 bp3
  have Z1 := hid z1
  clear l0 fin hB3 hmap3 hF3 kW3 l3 e3 n3 bp3 bp2 hr3 hs1 q0 S0 c0 c1 c2 f1 hlt3 hBd hFm hmlt sWd sW
  cases ts with
  | nil =>
    obtain ⟨w4, hr4, hm4, hk4, hs4⟩ := HB3.out.map.map.delete (ty := 0) keyI Try.underlying164 k 3
    have hB4 : Book w4 p (fun i => F i ∨ v'.ownBlock = some i) (adel k (aset k (v', []) rows)) mb last := by
      have hB3 := HB3.out
      refine ⟨(hk4.block p (Array.getElem?_eq_some_iff.1 hB3.cell).1 (fun e => hB3.pm e.symm)).trans hB3.cell, hB3.map.del hm4 hk4, hB3.inP, hB3.inM, fun r hr => hB3.inR r ((adel_sublist k _).mem hr), fun i hi => by rw [hs4]; exact hB3.lt i hi⟩
    have R4 := hid hr4
    have HB4 := hid hB4
    obtain ⟨⟨a0, a1, a2⟩, ⟨d0, d1, d2⟩, d3, K4⟩ := HFIN.out w4 hk4
    have HK4 := hid K4
    clear hr4 hB4 K4 hm4 hk4 hs4
    go_wp2_with (first
      | (at_lookup; refine wl_lookup rfl _ _ _ _ rfl ⟨_, _, L3.out, ?_⟩)
      | (at_len; refine wl_len rfl _ _ rfl ⟨_, _, N3.out, ?_⟩)
      | (at_delete; refine wl_delete rfl _ _ _ _ rfl ⟨_, _, R4.out, ?_⟩))
    refine bodyPost_ret (v := .tuple #[.agg #[.int .i64 t.1, .int .i64 t.2.1, .int .i64 t.2.2], .int .i64 0]) (by simp [results, Try.results18, go_sem, d0, d1, d2]) rfl ?_
    refine ⟨v', fun i => F i ∨ v'.ownBlock = some i, rfl, ?_, ?_, ?_⟩
    · have e : doneRows rows k v' = adel k (aset k (v', []) rows) := by unfold doneRows; rw [HL.out]; rfl
      rw [e]
      exact HB4.out.kept (keeps_set3 w4 _ _ _ _) (fun i hi e => by have := HF3.out i hi; have := Z1.out; have := sWX; omega)
    · exact ((HK4.out.setCell _ _ (.inr (Nat.le_refl _))).setCell _ _ (.inr (Nat.le_refl _))).setCell _ _ (.inr (Nat.le_refl _))
    · intro i hi
      rcases hi with h | h
      · exact .inl h
      · have := H3.out i h; have := Z1.out; have := sWX; exact .inr (by omega)
  | cons t2 ts2 =>
    obtain ⟨⟨a0, a1, a2⟩, ⟨d0, d1, d2⟩, d3, K4⟩ := HFIN.out w3 (Keeps.refl _ _)
    have HK4 := hid K4
    clear K4
    go_wp2_with (first
      | (at_lookup; refine wl_lookup rfl _ _ _ _ rfl ⟨_, _, L3.out, ?_⟩)
      | (at_len; refine wl_len rfl _ _ rfl ⟨_, _, N3.out, ?_⟩))
    refine bodyPost_ret (v := .tuple #[.agg #[.int .i64 t.1, .int .i64 t.2.1, .int .i64 t.2.2], .int .i64 0]) (by simp [results, Try.results18, go_sem, d0, d1, d2]) rfl ?_
    refine ⟨v', fun i => F i ∨ v'.ownBlock = some i, rfl, ?_, ?_, ?_⟩
    · have e : doneRows rows k v' = aset k (v', t2 :: ts2) rows := by unfold doneRows; rw [HL.out]; rfl
      rw [e]
      exact HB3.out.kept (keeps_set3 w3 _ _ _ _) (fun i hi e => by have := HF3.out i hi; have := Z1.out; have := sWX; omega)
    · exact ((HK4.out.setCell _ _ (.inr (Nat.le_refl _))).setCell _ _ (.inr (Nat.le_refl _))).setCell _ _ (.inr (Nat.le_refl _))
    · intro i hi
      rcases hi with h | h
      · exact .inl h
      · have := H3.out i h; have := Z1.out; have := sWX; exact .inr (by omega)

end Go.Proofs.Ytnceglkoolfncaa
