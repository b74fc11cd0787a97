/- Tickets: the book beside the document's list: each call of both, as a step. -/
import Derived.Test.YtnceglkoolfncaaVd
import Derived.Test.YtnceglkoolfncaaTo
set_option linter.unusedSimpArgs false
set_option linter.unusedVariables false
namespace Go.Proofs.Ytnceglkoolfncaa.Tp
open Go.RowKit Go.Pv Go.Proofs.YtnceglkoolfncaaW.PrintWords

/-! ### plain -/
theorem ofU_app (u : Int) (a b : List Tk) : ofU u (a ++ b) = ofU u a ++ ofU u b := by simp [ofU]
theorem ofU_doneL_same (u : Int) : ∀ L : List Tk, ofU u (doneL u L) = (ofU u L).tail
  | [] => rfl
  | x :: r => by
    unfold doneL
    by_cases h : x.2.1 = u
    · rw [if_pos h, ofU_cons, if_pos h]; rfl
    · rw [if_neg h, ofU_cons, if_neg h, ofU_cons, if_neg h, ofU_doneL_same u r]
theorem ofU_doneL_other {u j : Int} (hj : j ≠ u) : ∀ L : List Tk, ofU j (doneL u L) = ofU j L
  | [] => rfl
  | x :: r => by
    unfold doneL
    by_cases h : x.2.1 = u
    · rw [if_pos h, ofU_cons, if_neg (fun e => hj (e.symm.trans h))]
    · rw [if_neg h, ofU_cons, ofU_cons, ofU_doneL_other hj r]
theorem doneT_of (u : Int) : ∀ L : List Tk, doneT u L = match ofU u L with | [] => ((0, 0, 0), 6) | t :: _ => (t, 0)
  | [] => rfl
  | x :: r => by
    unfold doneT
    by_cases h : x.2.1 = u
    · rw [if_pos h, ofU_cons, if_pos h]
    · rw [if_neg h, ofU_cons, if_neg h, doneT_of u r]
theorem doneL_none {u : Int} {L : List Tk} (h : ofU u L = []) : doneL u L = L := by
  induction L with
  | nil => rfl
  | cons x r ih =>
    rw [ofU_cons] at h
    by_cases hx : x.2.1 = u
    · rw [if_pos hx] at h; cases h
    · rw [if_neg hx] at h
      simp [doneL, hx, ih h]
theorem doneL_len (u : Int) : ∀ L : List Tk, (doneL u L).length ≤ L.length
  | [] => by simp [doneL]
  | x :: r => by
    unfold doneL
    split
    · simp
    · have := doneL_len u r; simp; omega
theorem ofU_noneU_same (u : Int) (L : List Tk) : ofU u (noneU u L) = [] := by
  unfold ofU noneU
  rw [List.filter_filter, List.filter_eq_nil_iff]
  intro a _
  simp
theorem ofU_noneU_other {u j : Int} (hj : j ≠ u) (L : List Tk) : ofU j (noneU u L) = ofU j L := by
  unfold ofU noneU
  rw [List.filter_filter]
  apply List.filter_congr
  intro a _
  by_cases h : a.2.1 = j
  · have : a.2.1 ≠ u := fun e => hj (h.symm.trans e)
    simp [h, hj]
  · simp [h]

theorem aset_len {k : Int} {x : Value × List Tk} (rows : TRows) : (aset k x rows).length ≤ rows.length + 1 := by
  have h := congrArg List.length (aset_keys k x rows)
  rw [List.length_map] at h
  split at h
  · rw [h]; simp
  · rw [h]; simp
theorem adel_len (k : Int) (rows : TRows) : (adel k rows).length ≤ rows.length := (adel_sublist k rows).length_le

theorem TRel.issue {rows : TRows} {L : List Tk} (h : TRel rows L) (u n kd : Int) (v' : Value) : TRel (aset u (v', rl rows u ++ [(n, u, kd)]) rows) (L ++ [(n, u, kd)]) := by
  refine ⟨fun j => ?_, fun r hr => ?_, aset_nodup u _ h.nodup⟩
  · rw [ofU_app, h.flt]
    by_cases hj : j = u
    · subst hj
      rw [rl_aset_same]
      simp [ofU]
    · rw [rl_aset_other rows hj]
      have : ofU j [((n, u, kd) : Tk)] = [] := by simp [ofU]; exact fun e => hj e.symm
      rw [this, List.append_nil]
  · rcases mem_aset h.nodup hr with rfl | ⟨h1, _⟩
    · simp
    · exact h.ne r h1
theorem TRel.done {rows : TRows} {L : List Tk} (h : TRel rows L) (u : Int) (v' : Value) : TRel (doneRows rows u v') (doneL u L) := by
  have hn : ((doneRows rows u v').map (·.1)).Nodup := by
    unfold doneRows
    split
    · exact adel_nodup u (aset_nodup u _ h.nodup)
    · exact aset_nodup u _ h.nodup
  refine ⟨fun j => ?_, fun r hr => ?_, hn⟩
  · by_cases hj : j = u
    · subst hj
      rw [ofU_doneL_same, rl_done_same h.nodup, h.flt]
    · rw [ofU_doneL_other hj, rl_done_other h.nodup hj, h.flt]
  · unfold doneRows at hr
    split at hr
    · rename_i ht
      have hr' := (adel_sublist u _).mem hr
      rcases mem_aset h.nodup hr' with rfl | ⟨h1, _⟩
      · exfalso
        have hnd := aset_nodup u (v', (rl rows u).tail) h.nodup
        have := aget_adel_same u hnd
        have := aget_none this _ hr
        exact this rfl
      · exact h.ne r h1
    · rename_i ht
      rcases mem_aset h.nodup hr with rfl | ⟨h1, _⟩
      · exact ht
      · exact h.ne r h1
theorem TRel.all {rows : TRows} {L : List Tk} (h : TRel rows L) (u : Int) : TRel (adel u rows) (noneU u L) := by
  refine ⟨fun j => ?_, fun r hr => h.ne r ((adel_sublist u rows).mem hr), adel_nodup u h.nodup⟩
  by_cases hj : j = u
  · subst hj
    rw [ofU_noneU_same, rl_adel_same h.nodup]
  · rw [ofU_noneU_other hj, rl_adel_other rows hj, h.flt]

/-- The book beside the list. -/
structure TS (w : World) (p : Nat) (F : Nat → Prop) (rows : TRows) (mb : Nat) (last : Int) (L : List Tk) (i : Nat) : Prop where
  book : Book w p F rows mb last
  rel : TRel rows L
  wf : ∀ r ∈ rows, Wf r.1
  few : ∀ u, (rl rows u).length ≤ 4
  cnt : rows.length ≤ i
  len : L.length ≤ i
  l0 : 0 ≤ last
  l1 : last ≤ i

section
variable {w : World} {p : Nat} {F : Nat → Prop} {rows : TRows} {mb : Nat} {last : Int} {L : List Tk} {i : Nat}

theorem TS.kept {w' : World} {G : Nat → Prop} (h : TS w p F rows mb last L i) (k : Keeps G w w') (hG : ∀ j, F j → ¬ G j) : TS w' p F rows mb last L i :=
  ⟨h.book.kept k hG, h.rel, h.wf, h.few, h.cnt, h.len, h.l0, h.l1⟩
theorem TS.up (h : TS w p F rows mb last L i) : TS w p F rows mb last L (i + 1) := ⟨h.book, h.rel, h.wf, h.few, by have := h.cnt; omega, by have := h.len; omega, h.l0, by have := h.l1; omega⟩

theorem wf_aset {rows : TRows} (hn : (rows.map (·.1)).Nodup) (h : ∀ r ∈ rows, Wf r.1) {u : Int} (hu : Wf u) (x : Value × List Tk) : ∀ r ∈ aset u x rows, Wf r.1 := by
  intro r hr
  rcases mem_aset hn hr with rfl | ⟨h1, _⟩
  · exact hu
  · exact h r h1

theorem pIssue (h : TS w p F rows mb last L i) (hi : i ≤ 1000) (u kd : Int) (hu : Wf u) :
    Calls Try.prog 17 #[.pointer (some ⟨p, 0, none⟩), .int .i64 u, .int .i64 kd] w fun e w' => ∃ F' rows', e = .returned (.tuple #[.agg #[.int .i64 (issueR L last u kd).2.2.1.1, .int .i64 (issueR L last u kd).2.2.1.2.1, .int .i64 (issueR L last u kd).2.2.1.2.2], .int .i64 (issueR L last u kd).2.2.2]) ∧
      TS w' p F' rows' mb (issueR L last u kd).2.1 (issueR L last u kd).1 (i + 1) ∧ Keeps F w w' ∧ ∀ k, F' k → F k ∨ w.heap.size ≤ k := by
  by_cases hbad : u < 1 ∨ kd < 1 ∨ kd > 3
  · have e : issueR L last u kd = (L, last, (0, 0, 0), 1) := by unfold issueR; rw [if_pos hbad]
    rw [e]
    refine (issue_no' p u kd (by omega)).mono fun e w' ⟨h1, h2⟩ => ⟨F, rows, h1, (h.kept (Keeps.of_below (F := fun _ => False) h2) (by simp)).up, Keeps.of_below h2, fun k hk => .inl hk⟩
  · by_cases hbusy : 4 ≤ (ofU u L).length
    · have e : issueR L last u kd = (L, last, (0, 0, 0), 280) := by unfold issueR; rw [if_neg hbad, if_pos hbusy]
      rw [e]
      rw [h.rel.flt] at hbusy
      refine (issue_busy' h.book.cells.1 h.book.map u kd (by omega) (by omega) hbusy).mono fun e w' ⟨h1, h2⟩ => ⟨F, rows, h1, (h.kept (Keeps.of_below (F := fun _ => False) h2) (by simp)).up, Keeps.of_below h2, fun k hk => .inl hk⟩
    · have e : issueR L last u kd = (L ++ [(last + 1, u, kd)], last + 1, (last + 1, u, kd), 0) := by unfold issueR; rw [if_neg hbad, if_neg hbusy]
      rw [e]
      rw [h.rel.flt] at hbusy
      have hl0 := h.l0
      have hl1 := h.l1
      refine (issue_yes' h.book h.l0 (by omega) u kd (by omega) (by omega) (by omega)).mono fun e w' ⟨v', F', h1, h2, h3, h4⟩ => ⟨F', _, h1, ⟨h2, h.rel.issue u _ kd v', wf_aset h.rel.nodup h.wf hu _, fun j => ?_, ?_, ?_, by show 0 ≤ last + 1; omega, by show last + 1 ≤ ((i + 1 : Nat) : Int); omega⟩, h3, h4⟩
      · by_cases hj : j = u
        · subst hj
          rw [rl_aset_same]; simp; omega
        · rw [rl_aset_other rows hj]; exact h.few j
      · have := aset_len (k := u) (x := (v', rl rows u ++ [(last + 1, u, kd)])) rows
        have := h.cnt
        omega
      · have := h.len; simp; omega

theorem pDone (h : TS w p F rows mb last L i) (u : Int) (hu : Wf u) :
    Calls Try.prog 18 #[.pointer (some ⟨p, 0, none⟩), .int .i64 u] w fun e w' => ∃ F' rows', e = .returned (.tuple #[.agg #[.int .i64 (doneT u L).1.1, .int .i64 (doneT u L).1.2.1, .int .i64 (doneT u L).1.2.2], .int .i64 (doneT u L).2]) ∧
      TS w' p F' rows' mb last (doneL u L) (i + 1) ∧ Keeps F w w' ∧ ∀ k, F' k → F k ∨ w.heap.size ≤ k := by
  have hfl := h.rel.flt u
  have hdt := doneT_of u L
  cases hrl : rl rows u with
  | nil =>
    rw [hrl] at hfl
    rw [hfl] at hdt
    rw [hdt, doneL_none hfl]
    refine (done_no' h.book u hrl).mono fun e w' ⟨h1, h2⟩ => ⟨F, rows, h1, (h.kept (Keeps.of_below (F := fun _ => False) h2) (by simp)).up, Keeps.of_below h2, fun k hk => .inl hk⟩
  | cons t ts =>
    rw [hrl] at hfl
    rw [hfl] at hdt
    rw [hdt]
    have hf := h.few u
    rw [hrl] at hf
    simp only [List.length_cons] at hf
    refine (done_yes' h.book u t ts hrl (by omega)).mono fun e w' ⟨v', F', h1, h2, h3, h4⟩ => ⟨F', _, h1, ⟨h2, h.rel.done u v', fun r hr => ?_, fun j => ?_, ?_, ?_, h.l0, by have := h.l1; omega⟩, h3, h4⟩
    · unfold doneRows at hr
      split at hr
      · exact wf_aset h.rel.nodup h.wf hu _ r ((adel_sublist u _).mem hr)
      · exact wf_aset h.rel.nodup h.wf hu _ r hr
    · by_cases hj : j = u
      · subst hj
        rw [rl_done_same h.rel.nodup, hrl]; simp; omega
      · rw [rl_done_other h.rel.nodup hj]; exact h.few j
    · have h5 := aset_len (k := u) (x := (v', (rl rows u).tail)) rows
      have h6 := h.cnt
      unfold doneRows
      split
      · have := adel_len u (aset u (v', (rl rows u).tail) rows)
        omega
      · omega
    · have := doneL_len u L; have := h.len; omega

theorem pAll (h : TS w p F rows mb last L i) (u : Int) :
    Calls Try.prog 19 #[.pointer (some ⟨p, 0, none⟩), .int .i64 u] w fun e w' => ∃ F' rows', e = .returned (.int .i64 (ofU u L).length) ∧ TS w' p F' rows' mb last (noneU u L) (i + 1) ∧ Keeps F w w' ∧ ∀ k, F' k → F k ∨ w.heap.size ≤ k := by
  rw [h.rel.flt]
  refine (all_any h.book u).mono fun e w' ⟨h1, h2, h3, _⟩ => ⟨F, _, h1, ⟨h2, h.rel.all u, fun r hr => h.wf r ((adel_sublist u rows).mem hr), fun j => ?_, ?_, ?_, h.l0, by have := h.l1; omega⟩, h3, fun k hk => .inl hk⟩
  · by_cases hj : j = u
    · subst hj
      rw [rl_adel_same h.rel.nodup]; simp
    · rw [rl_adel_other rows hj]; exact h.few j
  · have := adel_len u rows; have := h.cnt; omega
  · have := h.len
    have h2 : (noneU u L).length ≤ L.length := List.length_filter_le _ _
    omega

theorem pLen (h : TS w p F rows mb last L i) (hi : i ≤ 1000) : Calls Try.prog 49 #[.pointer (some ⟨p, 0, none⟩)] w fun e w' => e = .returned (.int .i64 L.length) ∧ Below w.heap.size w w' := by
  have hc := h.cnt
  refine (len_any h.book.cells.1 h.book.map h.wf (by omega) (fun u => by have := h.few u; omega)).mono fun e w' ⟨su, ha, hp, he, hb⟩ => ⟨?_, hb⟩
  rw [he, h.rel.sum, sumOf_all L su (hp.nodup_iff.2 h.rel.nodup) (fun t ht => hp.mem_iff.2 ((h.rel.key t.2.1).2 ⟨t, ht, rfl⟩))]

theorem pUIDs (h : TS w p F rows mb last L i) (hi : i ≤ 1000) : Calls Try.prog 52 #[.pointer (some ⟨p, 0, none⟩)] w fun e w' => ∃ a c, e = .returned (.slice a (uidsL L []).length c) ∧ SlOf w' 3 1 encI (.slice a (uidsL L []).length c) (uidsL L []) ∧ Below w.heap.size w w' := by
  have hc := h.cnt
  refine (uids_told h.book.cells.1 h.book.map h.wf (by omega)).mono fun e w' ⟨a, c, su, he, ha, hp, hs, hb⟩ => ?_
  have e1 : su = uidsL L [] := asc_eq ha (uidsL_asc List.Pairwise.nil) (fun x => by
    rw [hp.mem_iff, mem_uidsL, h.rel.key]; simp)
  rw [← e1]
  exact ⟨a, c, he, hs, hb⟩

theorem pOf (h : TS w p F rows mb last L i) (u : Int) : Calls Try.prog 20 #[.pointer (some ⟨p, 0, none⟩), .int .i64 u] w fun e w' => ∃ a c, e = .returned (.slice a (ofU u L).length c) ∧ SlOf w' 30 3 encT (.slice a (ofU u L).length c) (ofU u L) ∧ Below w.heap.size w w' := by
  rw [h.rel.flt]
  refine (of_any h.book.cells.1 h.book.map u (by have := h.few u; omega)).mono fun e w' ⟨v', h1, h2, h3, _⟩ => ?_
  have hb : Below w.heap.size w w' := h3.below (Nat.le_refl _) (by simp)
  rcases SlRow.form h2 with ⟨h4, h5⟩ | ⟨g, o, c, h4⟩
  · subst h4
    exact ⟨none, 0, by rw [h5]; exact h1, by rw [h5]; exact h2, hb⟩
  · subst h4
    exact ⟨_, c, h1, h2, hb⟩

theorem pHead (h : TS w p F rows mb last L i) (u : Int) : Calls Try.prog 48 #[.pointer (some ⟨p, 0, none⟩), .int .i64 u] w fun e w' => e = .returned (.tuple #[.agg #[.int .i64 ((ofU u L).headD (0, 0, 0)).1, .int .i64 ((ofU u L).headD (0, 0, 0)).2.1, .int .i64 ((ofU u L).headD (0, 0, 0)).2.2], .bool (!(ofU u L).isEmpty)]) ∧ Below w.heap.size w w' := by
  rw [h.rel.flt]
  exact head_any h.book.cells.1 h.book.map u

theorem pRoom (h : TS w p F rows mb last L i) (u : Int) : Calls Try.prog 51 #[.pointer (some ⟨p, 0, none⟩), .int .i64 u] w fun e w' => e = .returned (.bool (decide (((ofU u L).length : Int) < 4))) ∧ Below w.heap.size w w' := by
  rw [h.rel.flt]
  exact (room_any h.book.cells.1 h.book.map u).mono fun e w' ⟨a, b⟩ => ⟨a, by rw [b]; exact Below.refl _ _⟩
end

/-! ### the document's -/
section
variable {w W : World} {v : Value} {L : List Tk}

theorem QR.slice (h : QR w W.heap.size v L) : ∃ a c, v = .slice a L.length c ∧ L.length ≤ c := by
  rcases h.form with ⟨h1, h2⟩ | ⟨g, cap, h1, _, _, h3, _⟩
  · exact ⟨none, 0, by rw [h2]; exact h1, by omega⟩
  · exact ⟨_, _, h1, h3⟩
theorem QR.C {A : Option Addr} {n c : Nat} (h : QR w W.heap.size (.slice A n c) L) : Kd.C PTicketPlays.k85 w A (L.map tS).length (L.map tS) := by
  obtain ⟨A', c', he, _, hC⟩ := Kd.R_reads h.toR
  simp only [Value.slice.injEq] at he
  obtain ⟨rfl, _, _⟩ := he
  exact hC

theorem keeps_of_kept {w0 w1 w2 : World} {S : Nat → Prop} (hb1 : Below w0.heap.size w0 w1) (hb2 : Below w0.heap.size w0 w2) (h : Kept w1 w2 S) : Keeps S w1 w2 :=
  ⟨hb2.os.trans hb1.os.symm, hb2.tape.trans hb1.tape.symm, hb2.output.trans hb1.output.symm, h.1, h.2⟩

theorem rIssue (h : QR w W.heap.size v L) (hb : Below W.heap.size W w) (hl : L.length ≤ 1000) {last : Int} (h0 : 0 ≤ last) (h1 : last ≤ 100000) (u kd : Int) :
    Calls Try.prog 43 #[.agg #[v, .int .i64 last], .int .i64 u, .int .i64 kd] w fun e w' => ∃ v', e = .returned (.tuple #[.agg #[v', .int .i64 (issueR L last u kd).2.1], .agg #[.int .i64 (issueR L last u kd).2.2.1.1, .int .i64 (issueR L last u kd).2.2.1.2.1, .int .i64 (issueR L last u kd).2.2.1.2.2], .int .i64 (issueR L last u kd).2.2.2]) ∧
      QR w' W.heap.size v' (issueR L last u kd).1 ∧ (∀ k, v'.ownBlock = some k → v.ownBlock = some k ∨ w.heap.size ≤ k) ∧ Keeps (fun k => v.ownBlock = some k) w w' := by
  refine (PTicketPlays.provostref28_Issue.calls _ (fun k => v.ownBlock = some k) v (L.map tS) last u kd _ _ _ _ _ _ W w hb h.toR (issue_f L last u kd (by omega) h0 h1)).mono fun e w' ⟨v', h2, h3, h4, h5⟩ => ?_
  exact ⟨v', h2, QR.ofR h3, fun k hk => h3.1 k hk, keeps_of_kept hb h4 h5⟩

theorem rDone' (h : QR w W.heap.size v L) (hb : Below W.heap.size W w) (hl : L.length ≤ 1000) (last u : Int) :
    Calls Try.prog 45 #[.agg #[v, .int .i64 last], .int .i64 u] w fun e w' => ∃ v', e = .returned (.tuple #[.agg #[v', .int .i64 last], .agg #[.int .i64 (doneT u L).1.1, .int .i64 (doneT u L).1.2.1, .int .i64 (doneT u L).1.2.2], .int .i64 (doneT u L).2]) ∧
      QR w' W.heap.size v' (doneL u L) ∧ (∀ k, v'.ownBlock = some k → v.ownBlock = some k ∨ w.heap.size ≤ k) ∧ Keeps (fun k => v.ownBlock = some k) w w' :=
  (rDone h hb.size hl last u).mono fun e w' ⟨v', h1, h2, h3, h4⟩ => ⟨v', h1, h2, h3, Keeps.of_below h4⟩

theorem rAll (h : QR w W.heap.size v L) (hb : Below W.heap.size W w) (hl : L.length ≤ 1000) (last u : Int) :
    Calls Try.prog 46 #[.agg #[v, .int .i64 last], .int .i64 u] w fun e w' => ∃ v', e = .returned (.tuple #[.agg #[v', .int .i64 last], .int .i64 (ofU u L).length]) ∧
      QR w' W.heap.size v' (noneU u L) ∧ (∀ k, v'.ownBlock = some k → v.ownBlock = some k ∨ w.heap.size ≤ k) ∧ Keeps (fun k => v.ownBlock = some k) w w' := by
  obtain ⟨a, c, rfl, hc⟩ := h.slice
  have h1 := PTicketPlays.provostref28_All.calls _ a c (L.map tS) last u _ _ _ w h.C (by rw [List.length_map]; exact hc) (all_f L u last (by omega))
  rw [List.length_map] at h1
  refine h1.mono fun e w' ⟨v', h2, h3, h4⟩ => ?_
  have h5 : QR w' w.heap.size v' (noneU u L) := QR.ofR h3
  exact ⟨v', h2, h5.low hb.size, fun k hk => .inr (h5.lt hk).1, Keeps.of_below h4⟩

theorem rOf (h : QR w W.heap.size v L) (hl : L.length ≤ 1000) (last u : Int) :
    Calls Try.prog 47 #[.agg #[v, .int .i64 last], .int .i64 u] w fun e w' => ∃ a c, e = .returned (.slice a (ofU u L).length c) ∧ (ofU u L).length ≤ c ∧ QR w' w.heap.size (.slice a (ofU u L).length c) (ofU u L) ∧ Below w.heap.size w w' := by
  obtain ⟨a, c, rfl, hc⟩ := h.slice
  have h1 := PTicketPlays.provostref28_Of.calls _ a c (L.map tS) last u _ w h.C (by rw [List.length_map]; exact hc) (of_f L u last (by omega) (L.length + 1) (by omega))
  rw [List.length_map] at h1
  refine h1.mono fun e w' ⟨v', h2, h3, h4⟩ => ?_
  have h5 : QR w' w.heap.size v' (ofU u L) := QR.ofR h3
  obtain ⟨a', c', rfl, hc'⟩ := QR.slice h5
  exact ⟨a', c', h2, hc', h5, h4⟩

theorem rUIDs (h : QR w W.heap.size v L) (hl : L.length ≤ 1000) (last : Int) :
    Calls Try.prog 53 #[.agg #[v, .int .i64 last]] w fun e w' => ∃ a c, e = .returned (.slice a (uidsL L []).length c) ∧ (uidsL L []).length ≤ c ∧ Kd.C (Kd.int .i64) w' a (uidsL L []).length (uidsL L []) ∧ Below w.heap.size w w' := by
  obtain ⟨a, c, rfl, hc⟩ := h.slice
  have h1 := PTicketPlays.provostref28_UIDs.calls _ a c (L.map tS) last _ w h.C (by rw [List.length_map]; exact hc) (uids_f L last hl 2000 (Nat.le_refl _))
  rw [List.length_map] at h1
  refine h1.mono fun e w' ⟨v', h2, h3, h4⟩ => ?_
  obtain ⟨A, c', rfl, hc', hC⟩ := Kd.R_reads h3
  exact ⟨A, c', h2, hc', hC, h4⟩

theorem C_of_sl {A : Option Addr} {n c : Nat} {l : List Int} (h : SlOf w 3 1 encI (.slice A n c) l) (hl : l.length ≤ 100000) : Kd.C (Kd.int .i64) w A l.length l := by
  refine ⟨rfl, by omega, fun h0 => ?_⟩
  rcases SlRow.form h with ⟨h1, h2⟩ | ⟨g, o, cap, h1⟩
  · omega
  · simp only [Value.slice.injEq] at h1
    obtain ⟨rfl, rfl, rfl⟩ := h1
    refine ⟨_, rfl, fun j p hp => ⟨[.int .i64 p], rfl, rfl, fun i u hu => ?_⟩⟩
    cases i with
    | succ i => simp at hu
    | zero =>
      simp at hu; subst hu
      have e : j * (Kd.int .i64).sz + 0 = j := by show j * 1 + 0 = j; omega
      rw [e, Addr.add_lit]
      exact SlRow.cells h rfl j (.int .i64 p) (by rw [flatI, List.getElem?_map, hp]; rfl)
theorem sl_cap {e : TypeId} {sz : Nat} {A : Option Addr} {n m c : Nat} {xs : List Value} (h : SlRow w e sz (.slice A n c) m xs) : n ≤ c := by
  rcases h.2 with ⟨h1, _⟩ | ⟨g, o, cap, cur, h1, _, h2, _⟩
  · simp only [Value.slice.injEq] at h1; omega
  · simp only [Value.slice.injEq] at h1; omega
theorem uidsL_len : ∀ (L : List Tk) (acc : List Int), (uidsL L acc).length ≤ L.length + acc.length
  | [], acc => by simp [uidsL]
  | t :: r, acc => by
    have := uidsL_len r (insU t.2.1 acc)
    have := insU_len t.2.1 acc
    simp only [uidsL, List.foldl_cons, List.length_cons] at *
    omega

theorem rSameI {A B : Option Addr} {c d : Nat} {l : List Int} (h : SlOf w 3 1 encI (.slice A l.length c) l) (h2 : Kd.C (Kd.int .i64) w B l.length l) (hd : l.length ≤ d) (hl : l.length ≤ 100000) :
    Calls Try.prog 40 #[.slice A l.length c, .slice B l.length d] w fun e w' => e = .returned (.bool true) ∧ Below w.heap.size w w' :=
  (PTicketPlays.provostbook_SameInts.calls _ A c l B d l true w (C_of_sl h hl) (sl_cap h) h2 hd (sameI_f l hl)).mono fun e w' ⟨a, b⟩ => ⟨a, b.below⟩

theorem flat_cell {l : List Tk} {j : Nat} (hj : j < l.length) (d : Nat) (hd : d < 3) : (l.flatMap encT)[j * 3 + d]? = (encT l[j])[d]? := by
  have h2 : ((l.flatMap encT).drop (j * 3))[d]? = (l.flatMap encT)[j * 3 + d]? := List.getElem?_drop
  rw [← h2, drop_t, List.drop_eq_getElem_cons hj, List.flatMap_cons, List.getElem?_append_left (by show d < 3; exact hd)]

theorem C30_of_sl {A : Option Addr} {n c : Nat} {l : List Tk} (h : SlOf w 30 3 encT (.slice A n c) l) (hl : l.length ≤ 100000) : Kd.C PTicketPlays.k30 w A (l.map tU).length (l.map tU) := by
  refine ⟨rfl, by simp; omega, fun h0 => ?_⟩
  rw [List.length_map] at h0
  rcases SlRow.form h with ⟨h1, h2⟩ | ⟨g, o, cap, h1⟩
  · omega
  · simp only [Value.slice.injEq] at h1
    obtain ⟨rfl, rfl, rfl⟩ := h1
    refine ⟨_, rfl, fun j p hp => ?_⟩
    rw [List.getElem?_map] at hp
    cases hx : l[j]? with
    | none => rw [hx] at hp; cases hp
    | some t =>
      rw [hx] at hp
      simp only [Option.map_some, Option.some.injEq] at hp
      subst hp
      obtain ⟨hj, rfl⟩ := List.getElem?_eq_some_iff.1 hx
      refine ⟨encT l[j], rfl, PTicketPlays.k30_mk w (tU l[j]), fun i u hu => ?_⟩
      have hi : i < 3 := (List.getElem?_eq_some_iff.1 hu).1
      have e : j * PTicketPlays.k30.sz + i = j * 3 + i := rfl
      rw [e, Addr.add_lit]
      exact SlRow.cells h rfl _ u (by rw [flat_cell hj i hi]; exact hu)

theorem rSame {A B : Option Addr} {c d : Nat} {l : List Tk} (h : SlOf w 30 3 encT (.slice A l.length c) l) (h2 : QR w W.heap.size (.slice B l.length d) l) (hd : l.length ≤ d) (hl : l.length ≤ 100000) :
    Calls Try.prog 50 #[.slice A l.length c, .slice B l.length d] w fun e w' => e = .returned (.bool true) ∧ Below w.heap.size w w' := by
  have h1 := PTicketPlays.provostlaw28_same.calls _ A c (l.map tU) B d (l.map tS) true w (C30_of_sl h hl) (by rw [List.length_map]; exact sl_cap h) h2.C (by rw [List.length_map]; exact hd) (same_f l hl)
  rw [List.length_map, List.length_map] at h1
  exact h1

theorem rIs (t : Tk) : Calls Try.prog 44 #[.agg #[.int .i64 t.1, .int .i64 t.2.1, .int .i64 t.2.2], .agg #[.int .i64 t.1, .int .i64 t.2.1, .int .i64 t.2.2]] w fun e w' => e = .returned (.bool true) ∧ Below w.heap.size w w' :=
  PTicketPlays.provostlaw28_is.calls _ _ _ _ _ _ true w (is_f t)
end
end Go.Proofs.Ytnceglkoolfncaa.Tp
