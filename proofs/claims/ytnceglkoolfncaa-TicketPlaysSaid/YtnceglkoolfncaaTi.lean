/- The book of tickets: Issue. -/
import Derived.Test.YtnceglkoolfncaaTk
import Derived.Deep.AppendLies
set_option linter.unusedSimpArgs false
set_option linter.unusedVariables false
namespace Go.Proofs.Ytnceglkoolfncaa
open Go.RowKit Go.Pv

theorem heap_alloc_at (w : World) (o : Obj) (n : Nat) (h : n = w.heap.size) : (w.alloc o).heap[n]? = some o := by subst h; exact heap_alloc_new w o

set_option maxRecDepth 10000 in
theorem issue_no {w : World} (p : Nat) (k kd : Int) (hk : k < 1 ∨ ¬ (kd = 1 ∨ kd = 2 ∨ kd = 3)) :
    Calls Try.prog 17 #[.pointer (some ⟨p, 0, none⟩), .int .i64 k, .int .i64 kd] w fun e w' => e = .returned (.tuple #[tkV (0, 0, 0), .int .i64 1]) ∧ Below w.heap.size w w' := by
  by_cases h1 : k < 1
  · clear hk
    go_enter Try.func17, Try.ntmps17
    go_wp2_with fail
    refine bodyPost_ret (v := .tuple #[.agg #[.int .i64 0, .int .i64 0, .int .i64 0], .int .i64 1]) (by simp [results, Try.results17, go_sem]) rfl ⟨rfl, ?_⟩
    exact (Below.refl _ _).alloc (Nat.le_refl _) _
  · have hn : nameB kd = ⟨#[]⟩ := by
      rcases hk with h | h
      · exact absurd h h1
      · have a1 : kd ≠ 1 := fun e => h (.inl e)
        have a2 : kd ≠ 2 := fun e => h (.inr (.inl e))
        have a3 : kd ≠ 3 := fun e => h (.inr (.inr e))
        simp [nameB, a1, a2, a3]
    have hc := fun w => name_any kd w
    rw [hn] at hc
    have Hc := hid hc
    clear hc hn hk
    go_enter Try.func17, Try.ntmps17
    go_wp2_with (go_at_call 96; refine (Hc.out _).mono ?_; rintro e w1 ⟨rfl, rfl⟩)
    refine bodyPost_ret (v := .tuple #[.agg #[.int .i64 0, .int .i64 0, .int .i64 0], .int .i64 1]) (by simp [results, Try.results17, go_sem]) rfl ⟨rfl, ?_⟩
    exact (Below.refl _ _).alloc (Nat.le_refl _) _

theorem name_yes {kd : Int} (h : kd = 1 ∨ kd = 2 ∨ kd = 3) : ∃ c cs, nameB kd = ⟨⟨c :: cs⟩⟩ := by
  rcases h with rfl | rfl | rfl <;> exact ⟨_, _, rfl⟩

set_option maxRecDepth 10000 in
theorem issue_busy {w : World} {p mb : Nat} {rows : TRows} (hc : w.cell? ⟨p, 0, none⟩ = some (.map (some mb))) (hm : MapSl w mb ki 30 3 encT rows) (k kd : Int) (hk : 1 ≤ k) (hkd : kd = 1 ∨ kd = 2 ∨ kd = 3) (hl : 4 ≤ (rl rows k).length) :
    Calls Try.prog 17 #[.pointer (some ⟨p, 0, none⟩), .int .i64 k, .int .i64 kd] w fun e w' => e = .returned (.tuple #[tkV (0, 0, 0), .int .i64 280]) ∧ Below w.heap.size w w' := by
  have hpl := World.block_lt_of_cell? _ _ hc
  obtain ⟨c, cs, hn⟩ := name_yes hkd
  have h96 := fun w => name_any kd w
  rw [hn] at h96
  have H96 := hid h96
  have h51 := room_any (w := w.alloc (.cells #[.int .i64 0, .int .i64 0, .int .i64 0] 30)) (p := p) (mb := mb) (rows := rows) (by rw [World.cell?_alloc_lt _ _ _ hpl]; exact hc) (hm.kept ((Keeps.refl (fun _ => False) w).alloc _) (by simp) (by simp)) k
  have hlt : decide (((rl rows k).length : Int) < 4) = false := by simp; omega
  rw [hlt] at h51
  have H51 := hid h51
  clear h96 hn h51 hlt hl hm hc hkd
  go_enter Try.func17, Try.ntmps17
  go_wp2_with (first | (go_at_call 96; refine (H96.out _).mono ?_; rintro e w1 ⟨rfl, rfl⟩) | (go_at_call 51; refine H51.out.mono ?_; rintro e w1 ⟨rfl, rfl⟩))
  refine bodyPost_ret (v := .tuple #[.agg #[.int .i64 0, .int .i64 0, .int .i64 0], .int .i64 280]) (by simp [results, Try.results17, go_sem]) rfl ⟨rfl, ?_⟩
  exact (Below.refl _ _).alloc (Nat.le_refl _) _

theorem keeps_set3 (w : World) (b : Nat) (x y z : Value) : Keeps (fun i => i = b) w (((w.setCell ⟨b, 0, none⟩ x).setCell ⟨b, 1, none⟩ y).setCell ⟨b, 2, none⟩ z) := by
  have h1 : Keeps (fun i => i = b) w (w.setCell ⟨b, 0, none⟩ x) := Keeps.setCell (F := fun i => i = b) (Keeps.refl _ w) ⟨b, 0, none⟩ x (.inl rfl)
  have h2 := Keeps.setCell (F := fun i => i = b) h1 ⟨b, 1, none⟩ y (.inl rfl)
  exact Keeps.setCell (F := fun i => i = b) h2 ⟨b, 2, none⟩ z (.inl rfl)

theorem issue_post {w W X w2 w3 : World} {p mb : Nat} {F : Nat → Prop} {rows : TRows} {last : Int} {k kd : Int} {v' : Value} (hB : Book w p F rows mb last)
    (hs2 : SlRow w2 30 3 v' ((aget k rows).getD (.slice none 0 0, [])).2.length.succ (List.flatMap encT ((aget k rows).getD (.slice none 0 0, [])).2 ++ [.int .i64 (last + 1), .int .i64 k, .int .i64 kd]))
    (hloc : v'.ownBlock = ((aget k rows).getD (.slice none 0 0, [])).1.ownBlock ∨ v'.ownBlock = some X.heap.size)
    (hm3 : IsMap w3 mb ki (aset k v' (rows.map fun r => (r.1, r.2.1)))) (hk2 : Keeps (fun i => (rv rows k).ownBlock = some i) X w2) (hk3 : Keeps (fun i => i = mb) w2 w3)
    (kX : Keeps (fun _ => False) W X) (kW : Keeps (fun i => i = p) w W) (mW : MapSl W mb ki 30 3 encT rows) (bp3 : w3.heap[p]? = some (.cells #[.map (some mb), .int .i64 (last + 1)] 166 (0, 0)))
    (sW : W.heap.size = w.heap.size + 2) (sX : X.heap.size = w.heap.size + 3) (hs3 : w3.heap.size = w2.heap.size) (a b c : Value) :
    ∃ v'' F', Ending.returned (.tuple #[.agg #[.int .i64 (last + 1), .int .i64 k, .int .i64 kd], .int .i64 0]) = Ending.returned (.tuple #[tkV (last + 1, k, kd), .int .i64 0]) ∧
      Book (((w3.setCell ⟨w.heap.size, 0, none⟩ a).setCell ⟨w.heap.size, 1, none⟩ b).setCell ⟨w.heap.size, 2, none⟩ c) p F' (aset k (v'', rl rows k ++ [(last + 1, k, kd)]) rows) mb (last + 1) ∧
      Keeps F w (((w3.setCell ⟨w.heap.size, 0, none⟩ a).setCell ⟨w.heap.size, 1, none⟩ b).setCell ⟨w.heap.size, 2, none⟩ c) ∧ ∀ i, F' i → F i ∨ w.heap.size ≤ i := by
  have z2 := hk2.size
  have hrv : ∀ g, (rv rows k).ownBlock = some g → F g := by
    intro g hg
    unfold rv at hg
    cases hx : aget k rows with
    | none => rw [hx] at hg; simp [Value.ownBlock] at hg
    | some x => rw [hx] at hg; exact hB.inR _ (aget_mem hx) g hg
  have hv' : ∀ g, v'.ownBlock = some g → F g ∨ g = w.heap.size + 3 := by
    intro g hg
    rcases hloc with h | h
    · exact .inl (hrv g (by unfold rv; rw [← h]; exact hg))
    · rw [h, sX] at hg; exact .inr (by simpa using hg.symm)
  have hmap : MapSl w3 mb ki 30 3 encT (aset k (v', rl rows k ++ [(last + 1, k, kd)]) rows) := by
    refine (mW.kept kX (by simp) (by simp)).set hk2 (l := rl rows k ++ [(last + 1, k, kd)]) ?_ ?_ hm3 hk3
    · unfold SlOf rl
      rw [List.flatMap_append, List.length_append]
      exact hs2
    · rcases hloc with h | h
      · exact .inl h
      · exact .inr fun g hg => by rw [h] at hg; simp at hg; omega
  refine ⟨v', fun i => F i ∨ v'.ownBlock = some i, rfl, ?_, ?_, ?_⟩
  · have hb3 : Book w3 p (fun i => F i ∨ v'.ownBlock = some i) (aset k (v', rl rows k ++ [(last + 1, k, kd)]) rows) mb (last + 1) := by
      refine ⟨bp3, hmap, .inl hB.inP, .inl hB.inM, fun r hr g hg => ?_, fun i hi => ?_⟩
      · rcases mem_aset hB.map.nodup hr with rfl | ⟨hr, _⟩
        · exact .inr hg
        · exact .inl (hB.inR r hr g hg)
      · rcases hi with h | h
        · have := hB.lt i h; omega
        · have := SlRow.lt hs2 h; omega
    refine hb3.kept (G := fun i => i = w.heap.size) (keeps_set3 w3 _ a b c) ?_
    intro i hi e
    subst e
    rcases hi with h | h
    · have := hB.lt _ h; omega
    · rcases hv' _ h with h1 | h1
      · have := hB.lt _ h1; omega
      · omega
  · have k3 : Keeps F w w3 := (((kW.mono (fun i hi => hi ▸ hB.inP)).trans kX (by simp)).trans hk2 (fun i hi => .inl (hrv i hi))).trans hk3 (fun i hi => .inl (hi ▸ hB.inM))
    exact ((k3.setCell _ _ (.inr (Nat.le_refl _))).setCell _ _ (.inr (Nat.le_refl _))).setCell _ _ (.inr (Nat.le_refl _))
  · intro i hi
    rcases hi with h | h
    · exact .inl h
    · rcases hv' i h with h1 | h1
      · exact .inl h1
      · exact .inr (by omega)

set_option maxRecDepth 10000 in
theorem issue_yes {w : World} {p mb : Nat} {F : Nat → Prop} {rows : TRows} {last : Int} (hB : Book w p F rows mb last) (h0 : 0 ≤ last) (h1 : last ≤ 1000) (k kd : Int) (hk : 1 ≤ k) (hkd : kd = 1 ∨ kd = 2 ∨ kd = 3) (hl : (rl rows k).length < 4) :
    Calls Try.prog 17 #[.pointer (some ⟨p, 0, none⟩), .int .i64 k, .int .i64 kd] w fun e w' => ∃ v' F', e = .returned (.tuple #[tkV (last + 1, k, kd), .int .i64 0]) ∧ Book w' p F' (aset k (v', rl rows k ++ [(last + 1, k, kd)]) rows) mb (last + 1) ∧ Keeps F w w' ∧ ∀ i, F' i → F i ∨ w.heap.size ≤ i := by
  have c0 : w.cell? ⟨p, 0, none⟩ = some (.map (some mb)) := by rw [cell_of_row w p 0 _ _ _ hB.cell]; rfl
  have c1 : w.cell? ⟨p, 1, none⟩ = some (.int .i64 last) := by rw [cell_of_row w p 1 _ _ _ hB.cell]; rfl
  have f1 : w.frozen? ⟨p, 1, none⟩ = false := by simp [World.frozen?, hB.cell]
  have hpl := World.block_lt_of_cell? _ _ c0
  obtain ⟨c, cs, hn⟩ := name_yes hkd
  have h96 := fun w => name_any kd w
  rw [hn] at h96
  have H96 := hid h96
  have h51 := room_any (w := w.alloc (.cells #[.int .i64 0, .int .i64 0, .int .i64 0] 30)) (p := p) (mb := mb) (rows := rows) (by rw [World.cell?_alloc_lt _ _ _ hpl]; exact c0) (hB.map.kept ((Keeps.refl (fun _ => False) w).alloc _) (by simp) (by simp)) k
  have hlt : decide (((rl rows k).length : Int) < 4) = true := by simp; omega
  rw [hlt] at h51
  have H51 := hid h51
  have HB := hid hB
  clear h96 hn h51 hlt hB hkd
  go_enter Try.func17, Try.ntmps17
  go_wp2_with (first | (go_at_call 96; refine (H96.out _).mono ?_; rintro e w1 ⟨rfl, rfl⟩) | (go_at_call 51; refine H51.out.mono ?_; rintro e w1 ⟨rfl, rfl⟩))
  have hB := HB.out
  have hmb : mb < w.heap.size := hB.map.map.lt
  have hmp : mb ≠ p := by
    intro e
    obtain ⟨es, clock, hb, _⟩ := hB.map.map
    have := hB.cell
    rw [← e, hb] at this; cases this
  obtain ⟨W, hW⟩ : ∃ W, W = ((w.setCell ⟨p, 1, none⟩ (.int .i64 (last + 1))).alloc (.cells #[.int .i64 0, .int .i64 0, .int .i64 0] 30)).alloc (.cells #[.int .i64 (last + 1), .int .i64 k, .int .i64 kd] 30) := ⟨_, rfl⟩
  have kW : Keeps (fun i => i = p) w W := by
    rw [hW]
    exact ((Keeps.setCell (F := fun i => i = p) (Keeps.refl _ w) ⟨p, 1, none⟩ _ (.inl rfl)).alloc _).alloc _
  rw [← hW]
  have sW : W.heap.size = w.heap.size + 2 := by rw [hW]; simp
  have b8 : W.heap[w.heap.size + 1]? = some (.cells #[.int .i64 (last + 1), .int .i64 k, .int .i64 kd] 30 (0, 0)) := by
    rw [hW]; exact heap_alloc_at _ _ _ (by simp)
  have b6 : W.heap[w.heap.size]? = some (.cells #[.int .i64 0, .int .i64 0, .int .i64 0] 30 (0, 0)) := by
    rw [hW, Below.heap_alloc _ _ _ (by simp)]; exact heap_alloc_at _ _ _ (by simp)
  have bp : W.heap[p]? = some (.cells #[.map (some mb), .int .i64 (last + 1)] 166 (0, 0)) := by
    rw [hW, Below.heap_alloc _ _ _ (by simp; omega), Below.heap_alloc _ _ _ (by simp; omega)]
    simp [World.setCell, Array.getElem?_modify, hB.cell]
  have mW : MapSl W mb ki 30 3 encT rows := hB.map.kept kW hmp (fun r hr g hg e => by
    subst e
    obtain ⟨cur, hc⟩ := SlRow.elem (hB.map.sl r hr) hg
    rw [hB.cell] at hc; cases hc)
  have q0 : W.cell? ⟨p, 0, none⟩ = some (.map (some mb)) := by rw [cell_of_row W p 0 _ _ _ bp]; rfl
  -- the append, and the store into the map
  have bX : (W.alloc (.cells #[.int .i64 (last + 1), .int .i64 k, .int .i64 kd] 30)).drew.heap[w.heap.size + 2]? = _ := heap_alloc_at W (.cells #[.int .i64 (last + 1), .int .i64 k, .int .i64 kd] 30) (w.heap.size + 2) sW.symm
  obtain ⟨i0, hi, hz0, hz1, hz2⟩ := info_parts info30
  have slW := SlRow.drew (SlRow.alloc (mW.getD k) (.cells #[.int .i64 (last + 1), .int .i64 k, .int .i64 kd] 30))
  obtain ⟨v', w2, hr, hs2, hk2, hloc, -, -⟩ := run_append_sl (P := Try.prog) _ 26 26 30 i0 _ 3 24 Try.underlying26 hi hz0 hz1 hz2 rfl _ _ _ slW
    (.slice (some ⟨w.heap.size + 2, 0, none⟩) 1 1) 1 [.int .i64 (last + 1), .int .i64 k, .int .i64 kd]
    (.inr ⟨_, _, rfl, World.news_of_block (cs := #[.int .i64 (last + 1), .int .i64 k, .int .i64 kd]) (t := 30) (fr := (0, 0)) bX⟩) rfl (by simp [Value.oneCell']) (by unfold maxLen; change (rl rows k).length + 1 ≤ _; omega) (by change ((rl rows k).length + 1) * 24 ≤ _; omega)
  change (Builtin.append_ #[26, 26] 26 #[rv rows k, _]).run _ _ = _ at hr
  have hne : ∀ g, (rv rows k).ownBlock = some g → g < w.heap.size ∧ g ≠ p ∧ g ≠ mb := by
    intro g hg
    have hsl := hB.map.getD k
    refine ⟨SlRow.lt hsl hg, fun e => ?_, fun e => ?_⟩
    · obtain ⟨cur, hc⟩ := SlRow.elem hsl hg
      rw [e, hB.cell] at hc; cases hc
    · obtain ⟨cur, hc⟩ := SlRow.elem hsl hg
      obtain ⟨es, clock, hb, _⟩ := hB.map.map
      rw [e, hb] at hc; cases hc
  change Keeps (fun i => (rv rows k).ownBlock = some i) _ _ at hk2
  obtain ⟨X, hX⟩ : ∃ X, X = (W.alloc (.cells #[.int .i64 (last + 1), .int .i64 k, .int .i64 kd] 30)).drew := ⟨_, rfl⟩
  rw [← hX] at hr hk2 hloc slW bX
  have kX : Keeps (fun _ => False) W X := by rw [hX]; exact ((Keeps.refl _ W).alloc _).drew
  have sX : X.heap.size = w.heap.size + 3 := by rw [hX]; simp [sW]
  have mX : MapSl X mb ki 30 3 encT rows := mW.kept kX (by simp) (by simp)
  have m2 : IsMap w2 mb ki (rows.map fun r => (r.1, r.2.1)) := mX.map.kept hk2 (fun e => (hne _ e).2.2 rfl)
  obtain ⟨w3, hr3, hm3, hk3, hs3⟩ := m2.update keyI Try.underlying164 k v'
  -- the blocks that are read, in each world
  have bpX : X.heap[p]? = some (.cells #[.map (some mb), .int .i64 (last + 1)] 166 (0, 0)) := (kX.block p (by omega) (by simp)).trans bp
  have b8X : X.heap[w.heap.size + 1]? = some (.cells #[.int .i64 (last + 1), .int .i64 k, .int .i64 kd] 30 (0, 0)) := (kX.block _ (by omega) (by simp)).trans b8
  have b6X : X.heap[w.heap.size]? = some (.cells #[.int .i64 0, .int .i64 0, .int .i64 0] 30 (0, 0)) := (kX.block _ (by omega) (by simp)).trans b6
  have bp2 := (hk2.block p (by omega) (fun e => (hne _ e).2.1 rfl)).trans bpX
  have b82 := (hk2.block (w.heap.size + 1) (by omega) (fun e => by have := (hne _ e).1; omega)).trans b8X
  have b62 := (hk2.block w.heap.size (by omega) (fun e => by have := (hne _ e).1; omega)).trans b6X
  have z2 := hk2.size
  have bp3 := (hk3.block p (by omega) (fun e => hmp e.symm)).trans bp2
  have b83 := (hk3.block (w.heap.size + 1) (by omega) (by omega)).trans b82
  have b63 := (hk3.block w.heap.size (by omega) (by omega)).trans b62
  have SS : ∀ V : World, V.heap[p]? = some (.cells #[.map (some mb), .int .i64 (last + 1)] 166 (0, 0)) → V.heap[w.heap.size + 1]? = some (.cells #[.int .i64 (last + 1), .int .i64 k, .int .i64 kd] 30 (0, 0)) →
      V.cell? ⟨p, 0, none⟩ = some (.map (some mb)) ∧ V.cell? ⟨w.heap.size + 1, 0, none⟩ = some (.int .i64 (last + 1)) ∧ V.cell? ⟨w.heap.size + 1, 1, none⟩ = some (.int .i64 k) ∧ V.cell? ⟨w.heap.size + 1, 2, none⟩ = some (.int .i64 kd) := fun V h1 h2 =>
    ⟨by rw [cell_of_row V p 0 _ _ _ h1]; rfl, by rw [cell_of_row V _ 0 _ _ _ h2]; rfl, by rw [cell_of_row V _ 1 _ _ _ h2]; rfl, by rw [cell_of_row V _ 2 _ _ _ h2]; rfl⟩
  have S0 := SS W.drew bp b8
  have S1 := SS X bpX b8X
  have S2 := SS w2 bp2 b82
  have S3 := SS w3 bp3 b83
  have l0 := look_rows (w := W.drew) (mW.kept ((Keeps.refl (fun _ => False) W).drew) (by simp) (by simp)) k
  have l1 := look_rows mX k
  have Hpost := hid (And.intro hs2 (And.intro hloc (And.intro hm3 (And.intro hk2 (And.intro hk3 (And.intro kX (And.intro kW (And.intro mW (And.intro bp3 b63)))))))))
  have HX := hid hX
  rw [hX] at l1 S1 hr
  clear SS b83 b82 b62 bp2 b8X bpX b6X m2 mX kX hne slW bX b8 b6 bp hs2 hloc hm3 hk2 hk3 kW mW bp3 b63 hX hW hmp hmb hi hz0 hz1 hz2 hB c0 c1 f1
  go_region_held3 (fun V => V.cell? ⟨p, 0, none⟩ = some (.map (some mb)) ∧ V.cell? ⟨w.heap.size + 1, 0, none⟩ = some (.int .i64 (last + 1)) ∧ V.cell? ⟨w.heap.size + 1, 1, none⟩ = some (.int .i64 k) ∧ V.cell? ⟨w.heap.size + 1, 2, none⟩ = some (.int .i64 kd))
    (first | exact S0 | exact S1 | exact S2 | exact S3) ((refine st_append rfl _ _ _ rfl ⟨_, _, hr, ?_⟩))
  all_goals
    obtain ⟨-, r0, r1, r2⟩ := S3
    have y0 : w3.cell? ⟨w.heap.size, 0, none⟩ = some (.int .i64 0) := by rw [cell_of_row w3 _ 0 _ _ _ Hpost.out.2.2.2.2.2.2.2.2.2]; rfl
    have y1 : w3.cell? ⟨w.heap.size, 1, none⟩ = some (.int .i64 0) := by rw [cell_of_row w3 _ 1 _ _ _ Hpost.out.2.2.2.2.2.2.2.2.2]; rfl
    have y2 : w3.cell? ⟨w.heap.size, 2, none⟩ = some (.int .i64 0) := by rw [cell_of_row w3 _ 2 _ _ _ Hpost.out.2.2.2.2.2.2.2.2.2]; rfl
    have y3 : ∀ j, w3.frozen? ⟨w.heap.size, j, none⟩ = false := fun j => by simp [World.frozen?, Hpost.out.2.2.2.2.2.2.2.2.2]
    go_wp2
    refine bodyPost_ret (v := .tuple #[.agg #[.int .i64 (last + 1), .int .i64 k, .int .i64 kd], .int .i64 0]) (by simp [results, Try.results17, go_sem, y0, y1, y2]) rfl ?_
    obtain ⟨hs2, hloc, hm3, hk2, hk3, kX, kW, mW, bp3, b63⟩ := Hpost.out
    have hB := HB.out
    exact issue_post hB hs2 hloc hm3 hk2 hk3 kX kW mW bp3 sW sX hs3 _ _ _
end Go.Proofs.Ytnceglkoolfncaa
