/- TicketOrder: the walk. -/
import Derived.Test.YtnceglkoolfncaaTw
import Derived.Test.YtnceglkoolfncaaRd
set_option linter.unusedSimpArgs false
set_option linter.unusedVariables false
namespace Go.Proofs.Ytnceglkoolfncaa
open Go.RowKit Go.Pv

/-- An act: what to do, to whom, with what. -/
abbrev Ac := Int × Int × Int
def encA (t : Ac) : List Value := [.int .i64 t.1, .int .i64 t.2.1, .int .i64 t.2.2]

/-- What holds ahead of each round. -/
def TInv (w : World) (p mb : Nat) (uid : Int) (k : Nat) (tv : Value) (last : Int) (wr : World) : Prop :=
  ∃ F rows, Book wr p F rows mb last ∧ 0 ≤ last ∧ last ≤ k ∧ SlOf wr 30 3 encT tv (rl rows uid) ∧ (∀ g, tv.ownBlock = some g → ¬ F g ∧ w.heap.size ≤ g) ∧ (∀ j, (rl rows j).length ≤ 4) ∧ (∀ i, F i → w.heap.size ≤ i) ∧ Below w.heap.size w wr

theorem TInv.keep {w : World} {p mb : Nat} {uid : Int} {k : Nat} {tv : Value} {last : Int} {wr w2 : World} (h : TInv w p mb uid k tv last wr) (hb : Below wr.heap.size wr w2) : TInv w p mb uid (k + 1) tv last w2 := by
  obtain ⟨F, rows, h1, h2, h3, h4, h5, h6, h7, h8⟩ := h
  have hk : Keeps (fun _ => False) wr w2 := Keeps.of_below hb
  exact ⟨F, rows, h1.below hb, h2, by omega, SlRow.kept h4 hk (by simp), h5, h6, h7, h8.trans (hb.mono h8.size)⟩

/-- A book that has turned, and a list that has, or has not. -/
theorem TInv.step {w : World} {p mb : Nat} {uid : Int} {k : Nat} {last last' : Int} {wr w2 w4 : World} {F F' G : Nat → Prop} {rows' : TRows} {tv' : Value}
    (hF : ∀ i, F i → w.heap.size ≤ i) (hw : Below w.heap.size w wr) (hk : Keeps F wr w2) (hB : Book w2 p F' rows' mb last') (hF' : ∀ i, F' i → F i ∨ wr.heap.size ≤ i) (h0 : 0 ≤ last') (h1 : last' ≤ last + 1) (h2 : last ≤ k)
    (h4 : Keeps G w2 w4) (hG : ∀ i, G i → ¬ F' i ∧ w.heap.size ≤ i) (hs : SlOf w4 30 3 encT tv' (rl rows' uid)) (ht : ∀ g, tv'.ownBlock = some g → ¬ F' g ∧ w.heap.size ≤ g) (hl : ∀ j, (rl rows' j).length ≤ 4) :
    TInv w p mb uid (k + 1) tv' last' w4 := by
  have hsz := hw.size
  have hF2 : ∀ i, F' i → w.heap.size ≤ i := fun i hi => by rcases hF' i hi with h | h; exact hF i h; omega
  have hb2 : Below w.heap.size w w2 := hw.trans (hk.below hsz hF)
  have hz2 := hb2.size
  exact ⟨F', rows', hB.kept h4 (fun i hi hg => (hG i hg).1 hi), h0, by omega, hs, ht, hl, hF2, hb2.trans (h4.below hz2 (fun i hi => (hG i hi).2))⟩

theorem box_kept {wr w2 : World} {F : Nat → Prop} {cs : Array Value} {T : TypeId} (hF : ∀ i, F i → i < wr.heap.size) (hk : Keeps F (wr.alloc (.cells cs T)) w2) : w2.heap[wr.heap.size]? = some (.cells cs T (0, 0)) ∧ wr.heap.size < w2.heap.size := by
  have h1 := hk.size
  refine ⟨(hk.block wr.heap.size (by simp) (fun h => by have := hF _ h; omega)).trans (heap_alloc_at _ _ _ rfl), by simp at h1; omega⟩

theorem cells3 {w : World} {b : Nat} {x y z : Value} {T : TypeId} (h : w.heap[b]? = some (.cells #[x, y, z] T (0, 0))) : w.cell? ⟨b, 0, none⟩ = some x ∧ w.cell? ⟨b, 1, none⟩ = some y ∧ w.cell? ⟨b, 2, none⟩ = some z :=
  ⟨by rw [cell_of_row w b 0 _ _ _ h]; rfl, by rw [cell_of_row w b 1 _ _ _ h]; rfl, by rw [cell_of_row w b 2 _ _ _ h]; rfl⟩

abbrev tk0 : Value := .agg #[.int .i64 0, .int .i64 0, .int .i64 0]

theorem issue_no' {w : World} (p : Nat) (k kd : Int) (hk : k < 1 ∨ ¬ (kd = 1 ∨ kd = 2 ∨ kd = 3)) :
    Calls Try.prog 17 #[.pointer (some ⟨p, 0, none⟩), .int .i64 k, .int .i64 kd] w fun e w' => e = .returned (.tuple #[.agg #[.int .i64 0, .int .i64 0, .int .i64 0], .int .i64 1]) ∧ Below w.heap.size w w' := issue_no p k kd hk
theorem issue_busy' {w : World} {p mb : Nat} {rows : TRows} (hc : w.cell? ⟨p, 0, none⟩ = some (.map (some mb))) (hm : MapSl w mb ki 30 3 encT rows) (k kd : Int) (hk : 1 ≤ k) (hkd : kd = 1 ∨ kd = 2 ∨ kd = 3) (hl : 4 ≤ (rl rows k).length) :
    Calls Try.prog 17 #[.pointer (some ⟨p, 0, none⟩), .int .i64 k, .int .i64 kd] w fun e w' => e = .returned (.tuple #[.agg #[.int .i64 0, .int .i64 0, .int .i64 0], .int .i64 280]) ∧ Below w.heap.size w w' := issue_busy hc hm k kd hk hkd hl
theorem issue_yes' {w : World} {p mb : Nat} {F : Nat → Prop} {rows : TRows} {last : Int} (hB : Book w p F rows mb last) (h0 : 0 ≤ last) (h1 : last ≤ 1000) (k kd : Int) (hk : 1 ≤ k) (hkd : kd = 1 ∨ kd = 2 ∨ kd = 3) (hl : (rl rows k).length < 4) :
    Calls Try.prog 17 #[.pointer (some ⟨p, 0, none⟩), .int .i64 k, .int .i64 kd] w fun e w' => ∃ v' F', e = .returned (.tuple #[.agg #[.int .i64 (last + 1), .int .i64 k, .int .i64 kd], .int .i64 0]) ∧ Book w' p F' (aset k (v', rl rows k ++ [(last + 1, k, kd)]) rows) mb (last + 1) ∧ Keeps F w w' ∧ ∀ i, F' i → F i ∨ w.heap.size ≤ i := issue_yes hB h0 h1 k kd hk hkd hl
theorem done_no' {w : World} {p mb : Nat} {F : Nat → Prop} {rows : TRows} {last : Int} (hB : Book w p F rows mb last) (k : Int) (hl : rl rows k = []) :
    Calls Try.prog 18 #[.pointer (some ⟨p, 0, none⟩), .int .i64 k] w fun e w' => e = .returned (.tuple #[.agg #[.int .i64 0, .int .i64 0, .int .i64 0], .int .i64 6]) ∧ Below w.heap.size w w' := done_no hB k hl
theorem done_yes' {w : World} {p mb : Nat} {F : Nat → Prop} {rows : TRows} {last : Int} (hB : Book w p F rows mb last) (k : Int) (t : Tk) (ts : List Tk) (hl : rl rows k = t :: ts) (hlen : ts.length ≤ 1000) :
    Calls Try.prog 18 #[.pointer (some ⟨p, 0, none⟩), .int .i64 k] w fun e w' => ∃ v' F', e = .returned (.tuple #[.agg #[.int .i64 t.1, .int .i64 t.2.1, .int .i64 t.2.2], .int .i64 0]) ∧ Book w' p F' (doneRows rows k v') mb last ∧ Keeps F w w' ∧ ∀ i, F' i → F i ∨ w.heap.size ≤ i := done_yes hB k t ts hl hlen

theorem rl_done_same {rows : TRows} (hn : (rows.map (·.1)).Nodup) (k : Int) (v : Value) : rl (doneRows rows k v) k = (rl rows k).tail := by
  unfold doneRows
  split
  · rename_i h; rw [h, rl_adel_same (aset_nodup k _ hn)]
  · rw [rl_aset_same]
theorem rl_done_other {rows : TRows} (_hn : (rows.map (·.1)).Nodup) {k j : Int} (h : j ≠ k) (v : Value) : rl (doneRows rows k v) j = rl rows j := by
  unfold doneRows
  split
  · rw [rl_adel_other _ h, rl_aset_other _ h]
  · rw [rl_aset_other _ h]

theorem below_alloc {w w2 : World} {o : Obj} (h : Below (w.alloc o).heap.size (w.alloc o) w2) : Below w.heap.size w w2 ∧ w.heap.size < w2.heap.size := by
  have h1 := h.size
  simp at h1
  exact ⟨((Below.refl _ w).alloc (Nat.le_refl _) o).trans (h.mono (by simp)), by omega⟩

set_option maxRecDepth 100000 in
set_option maxHeartbeats 4000000 in
theorem order_any {w : World} {v : Value} {l : List Ac} (hv : Rd w 3 encA v l) (uid : Int) (hlen : (l.length : Int) ≤ 9223372036854775807) :
    Calls Try.prog 3 #[v, .int .i64 uid] w fun e w' => e = .returned (.bool true) ∧ Below w.heap.size w w' := by
  have HV := hid hv
  have hvf := hv.form
  obtain ⟨va, vcap, rfl⟩ := hvf
  have h15 := hid (works_any w)
  clear hv
  go_enter Try.func3, Try.ntmps3
  go_wp2_with (first
    | (go_at_call 15; refine h15.out.mono ?_; rintro e w1 ⟨rfl, hb1⟩; have HB1 := hid hb1; clear hb1)
    | (go_at_call 16; refine (new_book _).mono ?_; rintro e w2 ⟨rfl, hB, hb2, hs2⟩; have HB := hid hB; have HB2 := hid hb2; have HS2 := hid hs2; clear hB hb2 hs2))
  have hwB : Below w.heap.size w w2 := HB1.out.trans (HB2.out.mono HB1.out.size)
  have h0 : TInv w (w1.heap.size + 1) w1.heap.size uid 0 (.slice none 0 0) 0 w2 := by
    have hz := HB1.out.size
    exact ⟨_, _, HB.out, by omega, by omega, SlRow.nil _ _ _, by simp [Value.ownBlock], fun j => by simp [rl, aget], fun i hi => by omega, hwB⟩
  have H0 := hid h0
  clear h0 hwB HB HB2 h15
  have Hz := hid HB1.out.size
  generalize w1.heap.size + 1 = p at *
  generalize w1.heap.size = mb at *
  clear HB1 HS2 Hz
  go_loopw [6, 7, 8] (fun tv lv iv wr => ∃ (k : Nat) (last : Int), iv = .int .i64 k ∧ k ≤ 100 ∧ k ≤ l.length ∧ lv = .int .i64 last ∧ TInv w p mb uid k tv last wr) (fun _ _ iv _ => 100 - (intOf iv).toNat)
  case atStart => exact ⟨0, 0, rfl, by omega, by omega, rfl, H0.out⟩
  case round =>
    clear H0
    obtain ⟨k, last, rfl, hk1, hk2, rfl, hT⟩ := hrel
    have HT := hid hT
    clear hT
    by_cases hlen2 : k < l.length
    · by_cases hk100 : k < 100
      · obtain ⟨b, o, hva, hb, hc⟩ : ∃ b o, va = some ⟨b, o, none⟩ ∧ b < w.heap.size ∧ ∀ i x, l[i]? = some x → ∀ j u, (encA x)[j]? = some u → w.cell? ⟨b, o + i * 3 + j, none⟩ = some u := by
          rcases HV.out with ⟨h, _⟩ | ⟨b, o, cap, h, h1, h2⟩
          · subst h; simp at hlen2
          · simp only [Value.slice.injEq] at h; exact ⟨b, o, h.1, h1, h2⟩
        subst hva
        obtain ⟨⟨kd, u, n⟩, hak⟩ : ∃ a, l[k]? = some a := ⟨l[k], List.getElem?_eq_getElem hlen2⟩
        obtain ⟨F, rows, hB, hl0, hl1, hs, hsf, hl4, hF, hbw⟩ := HT.out
        have d0 : wr.cell? ⟨b, o + k * 3, none⟩ = some (.int .i64 kd) := (hbw.cell (p := ⟨b, o + k * 3, none⟩) hb).trans (hc k _ hak 0 _ rfl)
        have d1 : wr.cell? ⟨b, o + k * 3 + 1, none⟩ = some (.int .i64 u) := (hbw.cell (p := ⟨b, o + k * 3 + 1, none⟩) hb).trans (hc k _ hak 1 _ rfl)
        have d2 : wr.cell? ⟨b, o + k * 3 + 2, none⟩ = some (.int .i64 n) := (hbw.cell (p := ⟨b, o + k * 3 + 2, none⟩) hb).trans (hc k _ hak 2 _ rfl)
        have HBk := hid hB
        have HS := hid hs
        have HSF := hid hsf
        have HL4 := hid hl4
        have HF := hid hF
        have HBW := hid hbw
        clear hak hc hB hs hsf hl4 hF hbw
        by_cases hkd0 : kd = 0
        · subst hkd0
          by_cases hbad : u < 1 ∨ ¬ (n = 1 ∨ n = 2 ∨ n = 3)
          · have H17 := hid (fun w => issue_no' (w := w) p u n hbad)
            clear hbad
            go_wp2_with (go_at_call 17; refine (H17.out _).mono ?_; rintro e w3 ⟨rfl, hb3⟩; obtain ⟨hb4, z3⟩ := below_alloc hb3; have HB4 := hid hb4; clear hb3 hb4)
            go_roundw
            case rel => exact ⟨k + 1, last, by go_num, by omega, by omega, rfl, HT.out.keep (HB4.out.alloc (by omega) _)⟩
            case measure => simp [intOf]; omega
          · have hu : 1 ≤ u := by omega
            have hn : n = 1 ∨ n = 2 ∨ n = 3 := by omega
            clear hbad
            by_cases hbusy : 4 ≤ (rl rows u).length
            · have H17 := hid (issue_busy' (HBk.out.alloc (.cells #[.int .i64 0, .int .i64 u, .int .i64 n] 28)).cells.1 (HBk.out.alloc (.cells #[.int .i64 0, .int .i64 u, .int .i64 n] 28)).map u n hu hn hbusy)
              clear hbusy hn hu
              go_wp2_with (go_at_call 17; refine H17.out.mono ?_; rintro e w3 ⟨rfl, hb3⟩; obtain ⟨hb4, z3⟩ := below_alloc hb3; have HB4 := hid hb4; clear hb3 hb4)
              go_roundw
              case rel => exact ⟨k + 1, last, by go_num, by omega, by omega, rfl, HT.out.keep (HB4.out.alloc (by omega) _)⟩
              case measure => simp [intOf]; omega
            · have H17 := hid (issue_yes' (HBk.out.alloc (.cells #[.int .i64 0, .int .i64 u, .int .i64 n] 28)) hl0 (by omega) u n hu hn (by omega))
              have Hbusy := hid hbusy
              clear hbusy hn hu
              by_cases hid0 : u = uid
              · subst hid0
                obtain ⟨i0, hi, hz0, hz1, hz2⟩ := info_parts info30
                go_wp2_with (first
                  | (go_at_call 17
                     refine H17.out.mono ?_
                     rintro e w3 ⟨v', F', rfl, hB3, hk3, hF3⟩
                     obtain ⟨bx, z3⟩ := box_kept HBk.out.lt hk3
                     obtain ⟨x0, x1, x2⟩ := cells3 bx
                     have hs3 := SlRow.kept (SlRow.alloc HS.out (.cells #[.int .i64 0, .int .i64 u, .int .i64 n] 28)) hk3 (fun g hg => (HSF.out g hg).1)
                     obtain ⟨tv', w4, hr4, hs4, hk4, hloc4, -, -⟩ := run_append_sl (P := Try.prog) _ 26 26 30 i0 _ 3 24 Try.underlying26 hi hz0 hz1 hz2 rfl _ _ _ (SlRow.alloc (SlRow.alloc hs3 (.cells #[.int .i64 (last + 1), .int .i64 u, .int .i64 n] 30)) (.cells #[.int .i64 (last + 1), .int .i64 u, .int .i64 n] 30))
                       (.slice (some ⟨w3.heap.size + 1, 0, none⟩) 1 1) 1 [.int .i64 (last + 1), .int .i64 u, .int .i64 n]
                       (.inr ⟨_, _, rfl, World.news_of_block (cs := #[.int .i64 (last + 1), .int .i64 u, .int .i64 n]) (t := 30) (fr := (0, 0)) (heap_alloc_at _ _ _ (by simp))⟩) rfl (by simp [Value.oneCell']) (by have := HL4.out u; unfold maxLen; omega) (by have := HL4.out u; omega)
                     have HB3 := hid hB3; have HK3 := hid hk3; have HF3 := hid hF3; have HS3 := hid hs3; have HR4 := hid hr4; have HS4 := hid hs4; have HK4 := hid hk4; have HLOC := hid hloc4; have Z3 := hid z3
                     clear hB3 hk3 hF3 hs3 hr4 hs4 hk4 hloc4 bx)
                  | (at_builtin; refine wl_append rfl _ _ _ rfl ⟨_, _, HR4.out, ?_⟩))
                go_roundw
                case rel =>
                  refine ⟨k + 1, last + 1, by go_num, by omega, by omega, rfl, ?_⟩
                  have hbw := HBW.out
                  have hzz := hbw.size
                  have z3 := Z3.out
                  have kw3 : Keeps F wr w3 := ((Keeps.refl F wr).alloc _).trans HK3.out (fun i hi => .inl hi)
                  refine TInv.step (F' := F') (G := fun i => u6.ownBlock = some i) (w2 := w3) HF.out hbw kw3 HB3.out (fun i hi => by rcases HF3.out i hi with h | h; exact .inl h; simp at h; exact .inr (by omega)) (by omega) (by omega) hl1 ?_ (fun i hi => ?_) ?_ (fun g hg => ?_) (fun j => ?_)
                  · exact (((Keeps.refl _ w3).alloc _).alloc _).trans HK4.out (fun i hi => .inl hi)
                  · have h1 := HSF.out i hi
                    have h2 := SlRow.lt HS.out hi
                    refine ⟨fun h => ?_, h1.2⟩
                    rcases HF3.out i h with h3 | h3
                    · exact h1.1 h3
                    · simp at h3; omega
                  · have := HS4.out
                    unfold SlOf
                    rw [rl_aset_same, List.flatMap_append, List.length_append]
                    exact this
                  · rcases HLOC.out with h | h
                    · rw [h] at hg
                      have h1 := HSF.out g hg
                      have h2 := SlRow.lt HS.out hg
                      refine ⟨fun h => ?_, h1.2⟩
                      rcases HF3.out g h with h3 | h3
                      · exact h1.1 h3
                      · simp at h3; omega
                    · rw [h] at hg
                      simp at hg
                      refine ⟨fun h => ?_, by omega⟩
                      have := HB3.out.lt g h
                      omega
                  · by_cases hj : j = u
                    · subst hj
                      have := Hbusy.out
                      rw [rl_aset_same]; simp; omega
                    · rw [rl_aset_other rows hj]; exact HL4.out j
                case measure => simp [intOf]; omega
              · have hne : (u == uid) = false := by simp [hid0]
                have Hid0 := hid hid0
                clear hid0
                go_wp2_with (go_at_call 17
                             refine H17.out.mono ?_
                             rintro e w3 ⟨v', F', rfl, hB3, hk3, hF3⟩
                             obtain ⟨bx, z3⟩ := box_kept HBk.out.lt hk3
                             obtain ⟨x0, x1, x2⟩ := cells3 bx
                             have HB3 := hid hB3; have HK3 := hid hk3; have HF3 := hid hF3; have Z3 := hid z3
                             clear hB3 hk3 hF3 bx)
                go_roundw
                case rel =>
                  refine ⟨k + 1, last + 1, by go_num, by omega, by omega, rfl, ?_⟩
                  have hbw := HBW.out
                  have hzz := hbw.size
                  have z3 := Z3.out
                  have kw3 : Keeps F wr w3 := ((Keeps.refl F wr).alloc _).trans HK3.out (fun i hi => .inl hi)
                  have hs3 := SlRow.kept HS.out kw3 (fun g hg => (HSF.out g hg).1)
                  refine TInv.step (F' := F') (G := fun _ => False) (w2 := w3) HF.out hbw kw3 HB3.out (fun i hi => by rcases HF3.out i hi with h | h; exact .inl h; simp at h; exact .inr (by omega)) (by omega) (by omega) hl1 ((Keeps.refl _ w3).alloc _) (by simp) ?_ (fun g hg => ?_) (fun j => ?_)
                  · rw [rl_aset_other rows (fun e => Hid0.out e.symm)]
                    exact SlRow.alloc hs3 _
                  · have h1 := HSF.out g hg
                    have h2 := SlRow.lt HS.out hg
                    refine ⟨fun h => ?_, h1.2⟩
                    rcases HF3.out g h with h3 | h3
                    · exact h1.1 h3
                    · simp at h3; omega
                  · by_cases hj : j = u
                    · subst hj
                      have := Hbusy.out
                      rw [rl_aset_same]; simp; omega
                    · rw [rl_aset_other rows hj]; exact HL4.out j
                case measure => simp [intOf]; omega
        · by_cases hkd1 : kd = 1
          · subst hkd1
            clear hkd0
            obtain ⟨ua, uc, rfl⟩ : ∃ ua uc, u6 = .slice ua (rl rows uid).length uc := by
              rcases SlRow.form HS.out with ⟨h1, h2⟩ | ⟨g, o', c', h1⟩
              · rw [h2]; exact ⟨_, _, h1⟩
              · exact ⟨_, _, h1⟩
            cases hrl : rl rows u with
            | nil =>
              have H18 := hid (done_no' (HBk.out.alloc (.cells #[.int .i64 1, .int .i64 u, .int .i64 n] 28)) u hrl)
              by_cases hid0 : u = uid
              · subst hid0
                rw [hrl] at HS HSF HT ⊢
                clear hrl
                go_wp2_with (go_at_call 18; refine H18.out.mono ?_; rintro e w3 ⟨rfl, hb3⟩; obtain ⟨bx, z3⟩ := box_kept (F := fun _ => False) (by simp) (Keeps.of_below hb3); obtain ⟨x0, x1, x2⟩ := cells3 bx; obtain ⟨hb4, -⟩ := below_alloc hb3; have HB4 := hid hb4; clear hb3 hb4 bx)
                go_roundw
                case rel => exact ⟨k + 1, last, by go_num, by omega, by omega, rfl, HT.out.keep (HB4.out.alloc (by omega) _)⟩
                case measure => simp [intOf]; omega
              · have hne : (u == uid) = false := by simp [hid0]
                clear hrl hid0
                go_wp2_with (go_at_call 18; refine H18.out.mono ?_; rintro e w3 ⟨rfl, hb3⟩; obtain ⟨bx, z3⟩ := box_kept (F := fun _ => False) (by simp) (Keeps.of_below hb3); obtain ⟨x0, x1, x2⟩ := cells3 bx; obtain ⟨hb4, -⟩ := below_alloc hb3; have HB4 := hid hb4; clear hb3 hb4 bx)
                go_roundw
                case rel => exact ⟨k + 1, last, by go_num, by omega, by omega, rfl, HT.out.keep (HB4.out.alloc (by omega) _)⟩
                case measure => simp [intOf]; omega
            | cons t ts =>
              have hts : ts.length ≤ 3 := by have := HL4.out u; rw [hrl] at this; simp at this; omega
              have H18 := hid (done_yes' (HBk.out.alloc (.cells #[.int .i64 1, .int .i64 u, .int .i64 n] 28)) u t ts hrl (by omega))
              have HRL := hid hrl
              by_cases hid0 : u = uid
              · subst hid0
                rw [hrl] at HS HSF HT ⊢
                clear hrl hts
                go_wp2_with (go_at_call 18
                             refine H18.out.mono ?_
                             rintro e w3 ⟨v', F', rfl, hB3, hk3, hF3⟩
                             obtain ⟨bx, z3⟩ := box_kept HBk.out.lt hk3
                             obtain ⟨x0, x1, x2⟩ := cells3 bx
                             have HB3 := hid hB3; have HK3 := hid hk3; have HF3 := hid hF3; have Z3 := hid z3
                             clear hB3 hk3 hF3 bx)
                have hs3 : SlOf w3 30 3 encT (.slice ua (ts.length + 1) uc) (t :: ts) := SlRow.kept (SlRow.alloc HS.out (.cells #[.int .i64 1, .int .i64 u, .int .i64 n] 28)) HK3.out (fun g hg => (HSF.out g hg).1)
                obtain ⟨g, o2, cap2, hv2, hg2, g0, g1, g2⟩ := SlOf.consForm hs3
                obtain ⟨rfl, -, rfl⟩ := Value.slice.inj hv2
                obtain ⟨i0, hi, hz0, hz1, hz2⟩ := info_parts info30
                obtain ⟨v1, hs1, hsl1, ho1⟩ := run_slice_from (P := Try.prog) (t := 26) Try.underlying26 hi (w := w3) (v := .slice (some ⟨g, o2, none⟩) (ts.length + 1) uc) (n := ts.length + 1) (xs := (t :: ts).flatMap encT) (by rw [hz1]; exact hs3) 1 (by omega)
                change ∀ w' : World, Sem.run _ (Instr.slice 26 _ (some (.int .i64 1)) none none) w' = _ at hs1
                rw [hz1] at hsl1
                have HS1 := hid hsl1
                have HO1 := hid ho1
                obtain ⟨W, hW⟩ : ∃ W, W = w3.alloc (.cells #[.int .i64 t.1, .int .i64 t.2.1, .int .i64 t.2.2] 30) := ⟨_, rfl⟩
                rw [← hW]
                have SS : W.drew.cell? ⟨w3.heap.size, 0, none⟩ = some (.int .i64 t.1) ∧ W.drew.cell? ⟨w3.heap.size, 1, none⟩ = some (.int .i64 t.2.1) ∧ W.drew.cell? ⟨w3.heap.size, 2, none⟩ = some (.int .i64 t.2.2) ∧
                    W.drew.cell? ⟨g, o2, none⟩ = some (.int .i64 t.1) ∧ W.drew.cell? ⟨g, o2 + 1, none⟩ = some (.int .i64 t.2.1) ∧ W.drew.cell? ⟨g, o2 + 2, none⟩ = some (.int .i64 t.2.2) := by
                  obtain ⟨y0, y1, y2⟩ := cells3 (show W.drew.heap[w3.heap.size]? = _ from by rw [hW]; exact heap_alloc_at _ _ _ rfl)
                  refine ⟨y0, y1, y2, ?_, ?_, ?_⟩
                  · rw [hW, World.cell?_drew, World.cell?_alloc_lt _ _ _ hg2]; exact g0
                  · rw [hW, World.cell?_drew, World.cell?_alloc_lt _ _ _ hg2]; exact g1
                  · rw [hW, World.cell?_drew, World.cell?_alloc_lt _ _ _ hg2]; exact g2
                have HW := hid hW
                clear hsl1 ho1 hi hz0 hz1 hz2 hs3 hv2 g0 g1 g2 hW
                go_region_held3 (fun V => V.cell? ⟨w3.heap.size, 0, none⟩ = some (.int .i64 t.1) ∧ V.cell? ⟨w3.heap.size, 1, none⟩ = some (.int .i64 t.2.1) ∧ V.cell? ⟨w3.heap.size, 2, none⟩ = some (.int .i64 t.2.2) ∧
                    V.cell? ⟨g, o2, none⟩ = some (.int .i64 t.1) ∧ V.cell? ⟨g, o2 + 1, none⟩ = some (.int .i64 t.2.1) ∧ V.cell? ⟨g, o2 + 2, none⟩ = some (.int .i64 t.2.2)) (exact SS) (fail)
                all_goals go_wp2
                go_roundw
                case rel =>
                  refine ⟨k + 1, last, by go_num, by omega, by omega, rfl, ?_⟩
                  have hbw := HBW.out
                  have hzz := hbw.size
                  have z3 := Z3.out
                  have kw3 : Keeps F wr w3 := ((Keeps.refl F wr).alloc _).trans HK3.out (fun i hi => .inl hi)
                  have k34 : Keeps (fun _ => False) w3 W.drew := by rw [HW.out]; exact ((Keeps.refl _ w3).alloc _).drew
                  refine TInv.step (F' := F') (G := fun _ => False) (w2 := w3) HF.out hbw kw3 HB3.out (fun i hi => by rcases HF3.out i hi with h | h; exact .inl h; simp at h; exact .inr (by omega)) hl0 (by omega) hl1 k34 (by simp) ?_ (fun g' hg => ?_) (fun j => ?_)
                  · rw [rl_done_same HBk.out.map.nodup, HRL.out]
                    exact SlRow.kept (xs := ts.flatMap encT) HS1.out k34 (by simp)
                  · rw [HO1.out] at hg
                    have h1 := HSF.out g' hg
                    have h2 := SlRow.lt HS.out hg
                    refine ⟨fun h => ?_, h1.2⟩
                    rcases HF3.out g' h with h3 | h3
                    · exact h1.1 h3
                    · simp at h3; omega
                  · by_cases hj : j = u
                    · subst hj
                      have h4 := HL4.out j
                      rw [HRL.out] at h4
                      simp at h4
                      rw [rl_done_same HBk.out.map.nodup, HRL.out]; simp; omega
                    · rw [rl_done_other HBk.out.map.nodup hj]; exact HL4.out j
                case measure => simp [intOf]; omega
              · have hne : (u == uid) = false := by simp [hid0]
                have Hid0 := hid hid0
                clear hrl hid0
                go_wp2_with (go_at_call 18
                             refine H18.out.mono ?_
                             rintro e w3 ⟨v', F', rfl, hB3, hk3, hF3⟩
                             obtain ⟨bx, z3⟩ := box_kept HBk.out.lt hk3
                             obtain ⟨x0, x1, x2⟩ := cells3 bx
                             have HB3 := hid hB3; have HK3 := hid hk3; have HF3 := hid hF3; have Z3 := hid z3
                             clear hB3 hk3 hF3 bx)
                go_roundw
                case rel =>
                  refine ⟨k + 1, last, by go_num, by omega, by omega, rfl, ?_⟩
                  have hbw := HBW.out
                  have hzz := hbw.size
                  have z3 := Z3.out
                  have kw3 : Keeps F wr w3 := ((Keeps.refl F wr).alloc _).trans HK3.out (fun i hi => .inl hi)
                  have hs3 := SlRow.kept HS.out kw3 (fun g hg => (HSF.out g hg).1)
                  refine TInv.step (F' := F') (G := fun _ => False) (w2 := w3) HF.out hbw kw3 HB3.out (fun i hi => by rcases HF3.out i hi with h | h; exact .inl h; simp at h; exact .inr (by omega)) hl0 (by omega) hl1 ((Keeps.refl _ w3).alloc _) (by simp) ?_ (fun g hg => ?_) (fun j => ?_)
                  · rw [rl_done_other HBk.out.map.nodup (fun e => Hid0.out e.symm)]
                    exact SlRow.alloc hs3 _
                  · have h1 := HSF.out g hg
                    have h2 := SlRow.lt HS.out hg
                    refine ⟨fun h => ?_, h1.2⟩
                    rcases HF3.out g h with h3 | h3
                    · exact h1.1 h3
                    · simp at h3; omega
                  · by_cases hj : j = u
                    · subst hj
                      rw [rl_done_same HBk.out.map.nodup, HRL.out]; simp; omega
                    · rw [rl_done_other HBk.out.map.nodup hj]; exact HL4.out j
                case measure => simp [intOf]; omega
          · have hk0 : (kd == 0) = false := by simp [hkd0]
            have hk1' : (kd == 1) = false := by simp [hkd1]
            clear hkd0 hkd1
            obtain ⟨ua, uc, rfl⟩ : ∃ ua uc, u6 = .slice ua (rl rows uid).length uc := by
              rcases SlRow.form HS.out with ⟨h1, h2⟩ | ⟨g, o', c', h1⟩
              · rw [h2]; exact ⟨_, _, h1⟩
              · exact ⟨_, _, h1⟩
            have H19 := hid (all_any (HBk.out.alloc (.cells #[.int .i64 kd, .int .i64 u, .int .i64 n] 28)) u)
            by_cases hid0 : u = uid
            · subst hid0
              go_wp2_with (go_at_call 19
                           refine H19.out.mono ?_
                           rintro e w3 ⟨rfl, hB3, hk3, hz3⟩
                           obtain ⟨bx, z3⟩ := box_kept HBk.out.lt hk3
                           obtain ⟨x0, x1, x2⟩ := cells3 bx
                           have HB3 := hid hB3; have HK3 := hid hk3; have Z3 := hid z3
                           clear hB3 hk3 bx hz3)
              go_roundw
              case rel =>
                refine ⟨k + 1, last, by go_num, by omega, by omega, rfl, ?_⟩
                have hbw := HBW.out
                have kw3 : Keeps F wr w3 := ((Keeps.refl F wr).alloc _).trans HK3.out (fun i hi => .inl hi)
                refine TInv.step (F' := F) (G := fun _ => False) (w2 := w3) HF.out hbw kw3 HB3.out (fun i hi => .inl hi) hl0 (by omega) hl1 (Keeps.refl _ w3) (by simp) ?_ (fun g' hg => ?_) (fun j => ?_)
                · rw [rl_adel_same HBk.out.map.nodup]; exact SlRow.nil _ _ _
                · simp [Value.ownBlock] at hg
                · by_cases hj : j = u
                  · subst hj
                    rw [rl_adel_same HBk.out.map.nodup]; simp
                  · rw [rl_adel_other _ hj]; exact HL4.out j
              case measure => simp [intOf]; omega
            · have hne : (u == uid) = false := by simp [hid0]
              have Hid0 := hid hid0
              clear hid0
              go_wp2_with (go_at_call 19
                           refine H19.out.mono ?_
                           rintro e w3 ⟨rfl, hB3, hk3, hz3⟩
                           obtain ⟨bx, z3⟩ := box_kept HBk.out.lt hk3
                           obtain ⟨x0, x1, x2⟩ := cells3 bx
                           have HB3 := hid hB3; have HK3 := hid hk3; have Z3 := hid z3
                           clear hB3 hk3 bx hz3)
              go_roundw
              case rel =>
                refine ⟨k + 1, last, by go_num, by omega, by omega, rfl, ?_⟩
                have hbw := HBW.out
                have kw3 : Keeps F wr w3 := ((Keeps.refl F wr).alloc _).trans HK3.out (fun i hi => .inl hi)
                refine TInv.step (F' := F) (G := fun _ => False) (w2 := w3) HF.out hbw kw3 HB3.out (fun i hi => .inl hi) hl0 (by omega) hl1 (Keeps.refl _ w3) (by simp) ?_ (fun g' hg => HSF.out g' hg) (fun j => ?_)
                · rw [rl_adel_other _ (fun e => Hid0.out e.symm)]
                  exact SlRow.kept HS.out kw3 (fun g hg => (HSF.out g hg).1)
                · by_cases hj : j = u
                  · subst hj
                    rw [rl_adel_same HBk.out.map.nodup]; simp
                  · rw [rl_adel_other _ hj]; exact HL4.out j
              case measure => simp [intOf]; omega
      · obtain ⟨F, rows, hB, -, -, hs, -, hl4, -, hbw⟩ := HT.out
        have HOf := hid (of_any hB.cells.1 hB.map uid (by have := hl4 uid; omega))
        have HS := hid hs
        have HBW := hid hbw
        clear hB hs hl4 hbw
        go_wp2_with (first
          | (go_at_call 20; refine HOf.out.mono ?_; rintro e w3 ⟨v', rfl, h1, h2, -⟩; have n1 := run_len_sl (P := Try.prog) (ty := 3) Try.underlying26 h1; have n2 := run_len_sl (P := Try.prog) (ty := 3) Try.underlying26 (SlRow.kept HS.out h2 (by simp)); have N1 := hid n1; have N2 := hid n2; have HK3 := hid h2; clear h1 h2 n1 n2)
          | (at_len; refine wl_len rfl _ _ rfl ⟨_, _, N1.out, ?_⟩)
          | (at_len; refine wl_len rfl _ _ rfl ⟨_, _, N2.out, ?_⟩))
        go_ret
        exact ⟨rfl, HBW.out.trans (HK3.out.below HBW.out.size (by simp))⟩
    · obtain ⟨F, rows, hB, -, -, hs, -, hl4, -, hbw⟩ := HT.out
      have HOf := hid (of_any hB.cells.1 hB.map uid (by have := hl4 uid; omega))
      have HS := hid hs
      have HBW := hid hbw
      clear hB hs hl4 hbw
      go_wp2_with (first
        | (go_at_call 20; refine HOf.out.mono ?_; rintro e w3 ⟨v', rfl, h1, h2, -⟩; have n1 := run_len_sl (P := Try.prog) (ty := 3) Try.underlying26 h1; have n2 := run_len_sl (P := Try.prog) (ty := 3) Try.underlying26 (SlRow.kept HS.out h2 (by simp)); have N1 := hid n1; have N2 := hid n2; have HK3 := hid h2; clear h1 h2 n1 n2)
        | (at_len; refine wl_len rfl _ _ rfl ⟨_, _, N1.out, ?_⟩)
        | (at_len; refine wl_len rfl _ _ rfl ⟨_, _, N2.out, ?_⟩))
      go_ret
      exact ⟨rfl, HBW.out.trans (HK3.out.below HBW.out.size (by simp))⟩
end Go.Proofs.Ytnceglkoolfncaa
