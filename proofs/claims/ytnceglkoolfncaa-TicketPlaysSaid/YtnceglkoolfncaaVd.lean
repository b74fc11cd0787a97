/- Tickets: the document's Done, walked: what it hands back is a row of its own. -/
import Derived.Test.YtnceglkoolfncaaVc
set_option linter.unusedSimpArgs false
set_option linter.unusedVariables false
namespace Go.Proofs.Ytnceglkoolfncaa.Tp
open Go.RowKit Go.Pv Go.Proofs.YtnceglkoolfncaaW.PrintWords Go.Proofs.YtnceglkoolfncaaW.PrintLast

def rdone6.T : Bool × List (List Nat × List Nat) := (true, [([], []), ([], []), ([1], [1]), ([], []), ([2, 3], [2, 3]), ([0, 4], [0, 4]), ([], []), ([6], [6]), ([], []), ([8], [8]), ([7, 9], [7, 9]), ([5, 10, 5], [5, 10]), ([0, 1, 2, 3, 4, 5, 6, 7, 8, 9, 10, 11], []), ([12, 11, 11, 0, 1, 2, 3, 4, 5, 6, 7, 8, 9, 10, 11], [11, 12])])
def rdone6.B : List Nat := [0, 0, 2, 0, 14, 31, 0, 64, 0, 256, 960, 2047, 4095, 8191]
theorem rdone6.tab : rtab .any (opsOf Try.f45 6) = rdone6.T := by kernel_rfl
theorem rdone6.bits : waitsOk rdone6.T.2 rdone6.B = true := by kernel_rfl

theorem info85 : ∃ i, Try.prog.info? 85 = some i ∧ i.zero = some (.agg #[.int .i64 0, .int .i64 0, .int .i64 0]) ∧ i.size = 3 ∧ i.bytes = 24 :=
  info_parts (show (Try.prog.info? 85).map (fun i => (i.zero, i.size, i.bytes)) = some (some (.agg #[.int .i64 0, .int .i64 0, .int .i64 0]), 3, 24) by kernel_rfl)

theorem one_t (l : List Tk) : ∀ u ∈ l.flatMap encT, u.oneCell' = true := by
  intro u hu
  obtain ⟨t, _, ht⟩ := List.mem_flatMap.1 hu
  simp [encT] at ht
  rcases ht with rfl | rfl | rfl <;> rfl
theorem len_t (l : List Tk) : (l.flatMap encT).length = l.length * 3 := by
  induction l with
  | nil => rfl
  | cons a r ih => rw [List.flatMap_cons, List.length_append, ih, List.length_cons]; show 3 + r.length * 3 = _; omega
theorem take_t (l : List Tk) (i : Nat) : (l.flatMap encT).take (i * 3) = (l.take i).flatMap encT := by
  induction l generalizing i with
  | nil => simp
  | cons a r ih =>
    cases i with
    | zero => simp
    | succ i =>
      have e : (i + 1) * 3 = (encT a).length + i * 3 := by show _ = 3 + i * 3; omega
      rw [List.flatMap_cons, e, List.take_length_add_append, ih, List.take_succ_cons, List.flatMap_cons]
theorem drop_t (l : List Tk) (i : Nat) : (l.flatMap encT).drop (i * 3) = (l.drop i).flatMap encT := by
  induction l generalizing i with
  | nil => simp
  | cons a r ih =>
    cases i with
    | zero => simp
    | succ i =>
      have e : (i + 1) * 3 = (encT a).length + i * 3 := by show _ = 3 + i * 3; omega
      rw [List.flatMap_cons, e, List.drop_length_add_append, ih, List.drop_succ_cons]

/-- The document's list: a row of its own. -/
def QR (w : World) (B : Nat) (v : Value) (L : List Tk) : Prop := w.ownsRow B 85 3 v L.length (L.flatMap encT)
theorem QR.form {w : World} {B : Nat} {v : Value} {L : List Tk} (h : QR w B v L) : (v = .slice none 0 0 ∧ L.length = 0) ∨ ∃ g cap, v = .slice (some ⟨g, 0, none⟩) L.length cap ∧ B ≤ g ∧ g < w.heap.size ∧ L.length ≤ cap ∧ ∀ j (hj : j < L.length), w.cell? ⟨g, j * 3, none⟩ = some (.int .i64 L[j].1) ∧ w.cell? ⟨g, j * 3 + 1, none⟩ = some (.int .i64 L[j].2.1) ∧ w.cell? ⟨g, j * 3 + 2, none⟩ = some (.int .i64 L[j].2.2) := by
  rcases h.2 with h1 | ⟨g, cap, cur, rfl, hg, hgb, q1, q2, q3, q4⟩
  · exact .inl h1
  · refine .inr ⟨g, cap, rfl, hg, (Array.getElem?_eq_some_iff.1 hgb).1, q1, fun j hj => ?_⟩
    have key : ∀ d, d < 3 → w.cell? ⟨g, j * 3 + d, none⟩ = (encT L[j])[d]? := by
      intro d hd
      rw [cell_of_row w g (j * 3 + d) cur 85 (0, 0) hgb]
      have h1 : (L.flatMap encT)[j * 3 + d]? = (encT L[j])[d]? := by
        have h2 : ((L.flatMap encT).drop (j * 3))[d]? = (L.flatMap encT)[j * 3 + d]? := List.getElem?_drop
        rw [← h2, drop_t, List.drop_eq_getElem_cons hj, List.flatMap_cons, List.getElem?_append_left (by show d < 3; exact hd)]
      rw [← h1, ← q4, List.getElem?_take, if_pos (by omega)]
      simp
    exact ⟨key 0 (by omega), key 1 (by omega), key 2 (by omega)⟩

theorem QR.cell {w : World} {B : Nat} {v : Value} {L : List Tk} (h : QR w B v L) {g n cap : Nat} (hv : v = .slice (some ⟨g, 0, none⟩) n cap) (j : Nat) (u : Value) (hu : (L.flatMap encT)[j]? = some u) : w.cell? ⟨g, 0 + j, none⟩ = some u := by
  rcases h.2 with ⟨h1, _⟩ | ⟨g', cap', cur, h1, hg, hgb, q1, q2, q3, q4⟩
  · rw [h1] at hv; cases hv
  · rw [h1] at hv
    simp only [Value.slice.injEq, Option.some.injEq, Addr.mk.injEq, and_true] at hv
    obtain ⟨rfl, _, _⟩ := hv
    rw [Nat.zero_add, cell_of_row w g' j cur 85 (0, 0) hgb]
    rw [← q4, List.getElem?_take] at hu
    split at hu
    · simpa using hu
    · cases hu
theorem QR.kept {w w' : World} {B : Nat} {v : Value} {L : List Tk} (h : QR w B v L) (hk : ∀ g, v.ownBlock = some g → w'.heap[g]? = w.heap[g]?) : QR w' B v L := own_move h hk
theorem QR.lt {w : World} {B : Nat} {v : Value} {L : List Tk} (h : QR w B v L) {g : Nat} (hg : v.ownBlock = some g) : B ≤ g ∧ g < w.heap.size := ⟨own_base h g hg, own_lt h g hg⟩
theorem QR.low {w : World} {B B' : Nat} {v : Value} {L : List Tk} (h : QR w B v L) (hb : B' ≤ B) : QR w B' v L := own_weaken h hb
theorem QR.below {w w' : World} {B : Nat} {v : Value} {L : List Tk} (h : QR w B v L) (hk : Below w.heap.size w w') : QR w' B v L := h.kept fun g hg => hk.block g (h.lt hg).2

theorem QR.toR {w : World} {B : Nat} {v : Value} {L : List Tk} (h : QR w B v L) : Kd.R PTicketPlays.k85 85 w B (fun k => v.ownBlock = some k) v (L.map tS) := by
  refine ⟨fun k hk => hk, L.flatMap encT, by rw [List.length_map]; exact h, ⟨by rw [len_t, List.length_map]; rfl, fun j p hp => ?_⟩⟩
  rw [List.getElem?_map] at hp
  cases hx : L[j]? with
  | none => rw [hx] at hp; cases hp
  | some t =>
    rw [hx] at hp
    simp only [Option.map_some, Option.some.injEq] at hp
    subst hp
    obtain ⟨hj, rfl⟩ := List.getElem?_eq_some_iff.1 hx
    have e : ((L.flatMap encT).drop (j * PTicketPlays.k85.sz)).take PTicketPlays.k85.sz = encT L[j] := by
      show ((L.flatMap encT).drop (j * 3)).take 3 = _
      rw [drop_t, List.drop_eq_getElem_cons hj, List.flatMap_cons]
      rfl
    rw [e]
    exact PTicketPlays.k85_mkM w B _ (tS L[j])
theorem QR.ofR {w : World} {B : Nat} {ok : Nat → Prop} {v : Value} {L : List Tk} (h : Kd.R PTicketPlays.k85 85 w B ok v (L.map tS)) : QR w B v L := by
  obtain ⟨_, inner, ho, hr⟩ := h
  rw [List.length_map] at ho
  have e : inner = L.flatMap encT := by
    have hl : inner.length = L.length * 3 := by have := hr.1; rw [List.length_map] at this; exact this
    have hp : ∀ (M : List Tk) (xs : List Value), xs.length = M.length * 3 → (∀ j (hj : j < M.length), (xs.drop (j * 3)).take 3 = encT M[j]) → xs = M.flatMap encT := by
      intro M
      induction M with
      | nil => intro xs hx _; simpa using hx
      | cons a r ih =>
        intro xs hx hj
        have h0 := hj 0 (by simp)
        simp only [Nat.zero_mul, List.drop_zero, List.getElem_cons_zero] at h0
        have h1 := ih (xs.drop 3) (by simp; simp at hx; omega) (fun j hj' => by
          have := hj (j + 1) (by simpa using hj')
          rw [List.drop_drop]
          have e : 3 + j * 3 = (j + 1) * 3 := by omega
          rw [e]; simpa using this)
        rw [List.flatMap_cons, ← h0, ← h1, List.take_append_drop]
    refine hp L inner hl (fun j hj => ?_)
    have h2 := hr.2 j (tS L[j]) (by rw [List.getElem?_map, List.getElem?_eq_getElem hj]; rfl)
    have h3 := PTicketPlays.k85_openM h2
    exact h3
  rw [e] at ho
  exact ho

theorem slice_to85 (g n cap b : Nat) (hb : b ≤ cap) (w' : World) :
    (Instr.slice 82 (.slice (some ⟨g, 0, none⟩) n cap) none (some (.int .i64 (b : Nat))) none).run Try.prog w' = .ok (.slice (some ⟨g, 0, none⟩) b cap) w' := by
  obtain ⟨i, hi, -, hs, -⟩ := info85
  have := run_sliceBound_ok (P := Try.prog) w' b cap .sliceAcap hb
  simp only [Instr.slice, Instr.sliceBounds, Sem.run_bind, run_underlying Try.underlying82, Result.andThen_ok, Sem.run_pure, Option.isSome_none, sizeOf, typeInfo, run_program, hi, Bool.false_eq_true, if_false]
  simp only [if_true, this, Result.andThen_ok]
  by_cases h0 : cap = 0 <;> simp [h0, Addr.add]
theorem slice_from85 (g n cap a : Nat) (ha : a ≤ n) (hc : n ≤ cap) (w' : World) :
    ∃ A, (Instr.slice 82 (.slice (some ⟨g, 0, none⟩) n cap) (some (.int .i64 (a : Nat))) none none).run Try.prog w' = .ok (.slice (some A) (n - a) (cap - a)) w' ∧ (a < n → A = ⟨g, a * 3, none⟩) := by
  obtain ⟨i, hi, -, hs, -⟩ := info85
  have := run_sliceBound_ok (P := Try.prog) w' a n .sliceB ha
  refine ⟨if cap = a then ⟨g, 0, none⟩ else ⟨g, a * 3, none⟩, ?_, fun h => by rw [if_neg (by omega)]⟩
  simp only [Instr.slice, Instr.sliceBounds, Sem.run_bind, run_underlying Try.underlying82, Result.andThen_ok, Sem.run_pure, Option.isSome_none, this, sizeOf, typeInfo, run_program, hi, Bool.false_eq_true, if_false]
  by_cases hca : cap = a <;> simp [hca, Addr.add_lit, hs]


set_option maxRecDepth 100000 in
set_option maxHeartbeats 4000000 in
theorem rDone {w : World} {B : Nat} {v : Value} {L : List Tk} (h : QR w B v L) (hB : B ≤ w.heap.size) (hl : L.length ≤ 1000) (last u : Int) :
    Calls Try.prog 45 #[.agg #[v, .int .i64 last], .int .i64 u] w fun e w' => ∃ v', e = .returned (.tuple #[.agg #[v', .int .i64 last], .agg #[.int .i64 (doneT u L).1.1, .int .i64 (doneT u L).1.2.1, .int .i64 (doneT u L).1.2.2], .int .i64 (doneT u L).2]) ∧
      QR w' B v' (doneL u L) ∧ (∀ k, v'.ownBlock = some k → v.ownBlock = some k ∨ w.heap.size ≤ k) ∧ Below w.heap.size w w' := by
  obtain ⟨va, vc, hv⟩ : ∃ a c, v = .slice a L.length c := by
    rcases h.form with ⟨h1, h2⟩ | ⟨g, cap, h1, _⟩
    · exact ⟨none, 0, by rw [h2]; exact h1⟩
    · exact ⟨_, _, h1⟩
  subst hv
  have HQ := hid h
  have HF := hid h.form
  obtain ⟨W0, hW0⟩ : ∃ W0, W0 = ((w.alloc (.cells #[.slice va L.length vc, .int .i64 last] 84)).alloc (.cells #[.slice none 0 0, .int .i64 0] 84)).alloc (.cells #[.int .i64 0, .int .i64 0, .int .i64 0] 85) := ⟨_, rfl⟩
  have HW0 := hid hW0
  have b0 : W0.heap[w.heap.size]? = some (.cells #[.slice va L.length vc, .int .i64 last] 84 (0, 0)) := by
    rw [hW0, Below.heap_alloc _ _ _ (by simp; omega), Below.heap_alloc _ _ _ (by simp)]; exact heap_alloc_at _ _ _ rfl
  have b1 : W0.heap[w.heap.size + 1]? = some (.cells #[.slice none 0 0, .int .i64 0] 84 (0, 0)) := by
    rw [hW0, Below.heap_alloc _ _ _ (by simp)]; exact heap_alloc_at _ _ _ (by simp)
  have b2 : W0.heap[w.heap.size + 2]? = some (.cells #[.int .i64 0, .int .i64 0, .int .i64 0] 85 (0, 0)) := by
    rw [hW0]; exact heap_alloc_at _ _ _ (by simp)
  have hb0 : Below w.heap.size w W0 := by rw [hW0]; exact (((Below.refl _ w).alloc (Nat.le_refl _) _).alloc (by simp) _).alloc (by simp; omega) _
  have z0 : W0.heap.size = w.heap.size + 3 := by rw [hW0]; simp
  have c0 : W0.cell? ⟨w.heap.size, 0, none⟩ = some (.slice va L.length vc) := by rw [cell_of_row W0 _ 0 _ _ _ b0]; rfl
  have c1 : W0.cell? ⟨w.heap.size, 1, none⟩ = some (.int .i64 last) := by rw [cell_of_row W0 _ 1 _ _ _ b0]; rfl
  have BB := hid (And.intro b0 (And.intro b1 (And.intro b2 hb0)))
  clear h hW0 b0 b1 b2 hb0
  go_enter Try.func45, Try.ntmps45
  go_wp2
  rw [← HW0.out]
  go_loopg [7] L.length (fun k iv wr => W0 = wr ∧ ∃ i : Nat, k = L.length - i ∧ i ≤ L.length ∧ iv = .int .i64 i ∧ Hid (∀ x ∈ L.take i, x.2.1 ≠ u))
  case atStart => exact ⟨rfl, 0, rfl, by omega, rfl, hid (by simp)⟩
  case round =>
    obtain ⟨rfl, i, rfl, hi, rfl, HN⟩ := hrel
    obtain ⟨b0, b1, b2, hb0⟩ := BB.out
    have f10 : ∀ j, W0.frozen? ⟨w.heap.size + 1, j, none⟩ = false := fun j => by simp [World.frozen?, b1]
    have f20 : ∀ j, W0.frozen? ⟨w.heap.size + 2, j, none⟩ = false := fun j => by simp [World.frozen?, b2]
    by_cases hil : i < L.length
    · rcases HF.out with ⟨_, h0⟩ | ⟨g, cap, hvv, hBg, hgw, hcap, hcells⟩
      · omega
      simp only [Value.slice.injEq] at hvv
      obtain ⟨rfl, _, rfl⟩ := hvv
      obtain ⟨cap, hcv⟩ : ∃ x, x = vc := ⟨_, rfl⟩
      subst hcv
      obtain ⟨d0, d1, d2⟩ := hcells i hil
      obtain ⟨⟨t1, t2, t3⟩, ht⟩ : ∃ t, t = L[i] := ⟨_, rfl⟩
      rw [← ht] at d0 d1 d2
      have e0 : W0.cell? ⟨g, i * 3, none⟩ = some (.int .i64 t1) := (hb0.cell (p := ⟨g, i * 3, none⟩) hgw).trans d0
      have e1 : W0.cell? ⟨g, i * 3 + 1, none⟩ = some (.int .i64 t2) := (hb0.cell (p := ⟨g, i * 3 + 1, none⟩) hgw).trans d1
      have e2 : W0.cell? ⟨g, i * 3 + 2, none⟩ = some (.int .i64 t3) := (hb0.cell (p := ⟨g, i * 3 + 2, none⟩) hgw).trans d2
      have HT := hid ht
      clear ht d0 d1 d2 hcells
      by_cases hu : t2 = u
      · subst hu
        have hDT : doneL t2 L = L.take i ++ L.drop (i + 1) ∧ doneT t2 L = ((t1, t2, t3), 0) := by
          obtain ⟨q1, q2⟩ := doneL_take t2 L i HN.out
          rw [List.drop_eq_getElem_cons hil, ← HT.out] at q1 q2
          exact ⟨by rw [q1]; simp [doneL], by rw [q2]; simp [doneT]⟩
        have HDT := hid hDT
        obtain ⟨W1, hW1⟩ : ∃ W1, W1 = W0.alloc (.cells #[.int .i64 t1, .int .i64 t2, .int .i64 t3] 85) := ⟨_, rfl⟩
        have z1 : W1.heap.size = w.heap.size + 4 := by rw [hW1]; simp [z0]
        have hb1 : Below w.heap.size w W1 := by rw [hW1]; exact hb0.alloc (by omega) _
        have B0 : W1.heap[w.heap.size]? = some (.cells #[.slice (some ⟨g, 0, none⟩) L.length cap, .int .i64 last] 84 (0, 0)) := by rw [hW1, Below.heap_alloc _ _ _ (by omega)]; exact b0
        have B1 : W1.heap[w.heap.size + 1]? = some (.cells #[.slice none 0 0, .int .i64 0] 84 (0, 0)) := by rw [hW1, Below.heap_alloc _ _ _ (by omega)]; exact b1
        have B2 : W1.heap[w.heap.size + 2]? = some (.cells #[.int .i64 0, .int .i64 0, .int .i64 0] 85 (0, 0)) := by rw [hW1, Below.heap_alloc _ _ _ (by omega)]; exact b2
        have B3 : W1.heap[w.heap.size + 3]? = some (.cells #[.int .i64 t1, .int .i64 t2, .int .i64 t3] 85 (0, 0)) := by rw [hW1]; exact heap_alloc_at _ _ _ (by omega)
        obtain ⟨W2, hW2⟩ : ∃ W2, W2 = W1.drew.alloc (.cells #[] 85) := ⟨_, rfl⟩
        have z2 : W2.heap.size = w.heap.size + 5 := by rw [hW2]; simp [z1]
        have hk12 : ∀ k, k < W1.heap.size → W2.heap[k]? = W1.heap[k]? := fun k hk => by rw [hW2]; exact Below.heap_alloc W1.drew _ k hk
        have hb2 : Below w.heap.size w W2 := by rw [hW2]; exact (show Below w.heap.size w W1.drew from hb1.drew).alloc (by simp [z1]) _
        have ow2 : W2.ownsRow W1.heap.size 85 3 (.slice (some ⟨W1.heap.size, 0, none⟩) 0 0) 0 [] := ⟨by simp, .inr ⟨_, 0, #[], rfl, Nat.le_refl _, by rw [hW2]; exact heap_alloc_new W1.drew _, Nat.le_refl _, by simp [maxLen], by simp, by simp⟩⟩
        obtain ⟨i0, hi0, hz0, hs0, hy0⟩ := info85
        have hQ2 : QR W2 B (.slice (some ⟨g, 0, none⟩) L.length cap) L := HQ.out.below hb2
        obtain ⟨v3, W3, hr3, ow3, hg3, -⟩ := run_append_own (P := Try.prog) W2 W1.heap.size 82 82 85 i0 _ 3 24 Try.underlying82 hi0 hz0 hs0 hy0 rfl (by omega) _ 0 [] ow2 ⟨g, 0, none⟩ i cap ((L.take i).flatMap encT) (by rw [len_t, List.length_take]; omega) (fun j u hu => by
            rw [Addr.add_lit]
            refine hQ2.cell rfl _ _ ?_
            rw [← take_t, List.getElem?_take] at hu
            split at hu
            · simpa using hu
            · cases hu) (one_t _) (by unfold maxLen; omega) (by omega) (by omega)
        rw [Nat.zero_add, List.nil_append] at ow3
        have z3 := hg3.size
        have hk23 : ∀ k, k < W1.heap.size → W3.heap[k]? = W1.heap[k]? := fun k hk => (hg3.block k (by omega) (by simp [Value.ownBlock]; omega)).trans (hk12 k hk)
        have hb3 : Below w.heap.size w W3 := hb2.grown hg3 hb2.size (fun k e => by simp [Value.ownBlock] at e; omega)
        have hQ3 : QR W3 B (.slice (some ⟨g, 0, none⟩) L.length cap) L := HQ.out.below hb3
        obtain ⟨A1, hsf, hA1⟩ : ∃ A1, (∀ w', (Instr.slice 82 (.slice (some ⟨g, 0, none⟩) L.length cap) (some (.int .i64 (wrap64 ((i : Int) + 1)))) none none).run Try.prog w' = .ok (.slice (some A1) (L.length - (i + 1)) (cap - (i + 1))) w') ∧ (i + 1 < L.length → A1 = ⟨g, (i + 1) * 3, none⟩) := by
          rw [wrap_nat (by omega)]
          obtain ⟨A, h1, h2⟩ := slice_from85 g L.length cap (i + 1) (by omega) hcap w
          refine ⟨A, fun w' => ?_, h2⟩
          obtain ⟨A', h1', h2'⟩ := slice_from85 g L.length cap (i + 1) (by omega) hcap w'
          obtain ⟨ii, hii, -, hss, -⟩ := info85
          have hb := fun w' => run_sliceBound_ok (P := Try.prog) w' (i + 1) L.length .sliceB (by omega)
          have key : ∀ w', (Instr.slice 82 (.slice (some ⟨g, 0, none⟩) L.length cap) (some (.int .i64 ((i + 1 : Nat) : Int))) none none).run Try.prog w' = .ok (.slice (some (if cap = i + 1 then ⟨g, 0, none⟩ else ⟨g, (i + 1) * 3, none⟩)) (L.length - (i + 1)) (cap - (i + 1))) w' := by
            intro w'
            simp only [Instr.slice, Instr.sliceBounds, Sem.run_bind, run_underlying Try.underlying82, Result.andThen_ok, Sem.run_pure, Option.isSome_none, hb, sizeOf, typeInfo, run_program, hii, Bool.false_eq_true, if_false]
            by_cases hca : cap = i + 1 <;> simp [hca, Addr.add_lit, hss]
          have hA := (key w).symm.trans h1
          simp only [Result.ok.injEq, Value.slice.injEq, Option.some.injEq, and_true] at hA
          rw [key w', hA]
        obtain ⟨v4, W4, hr4, ow4, hg4, -⟩ := run_append_own (P := Try.prog) W3 W1.heap.size 82 82 85 i0 _ 3 24 Try.underlying82 hi0 hz0 hs0 hy0 rfl (by omega) _ i _ ow3 A1 (L.length - (i + 1)) (cap - (i + 1)) ((L.drop (i + 1)).flatMap encT) (by rw [len_t, List.length_drop]) (fun j u hu => by
            have hj : j < (L.drop (i + 1)).length * 3 := by rw [← len_t]; exact (List.getElem?_eq_some_iff.1 hu).1
            rw [List.length_drop] at hj
            rw [hA1 (by omega), Addr.add_lit]
            rw [← drop_t, List.getElem?_drop] at hu
            have hq := hQ3.cell rfl _ _ hu
            rw [Nat.zero_add] at hq
            exact hq) (one_t _) (by unfold maxLen; omega) (by omega) (by omega)
        have z4 := hg4.size
        have ho3 : ∀ k, v3.ownBlock = some k → W1.heap.size ≤ k := fun k hk => own_base ow3 k hk
        have hk34 : ∀ k, k < W1.heap.size → W4.heap[k]? = W1.heap[k]? := fun k hk => (hg4.block k (by omega) (fun e => by have := ho3 k e.symm; omega)).trans (hk23 k hk)
        have hb4 : Below w.heap.size w W4 := hb3.grown hg4 hb3.size (fun k e => by have := ho3 k e; omega)
        have ow4' : QR W4 W1.heap.size v4 (L.take i ++ L.drop (i + 1)) := by
          unfold QR
          rw [List.flatMap_append, List.length_append, List.length_take, List.length_drop, Nat.min_eq_left (by omega)]
          exact ow4
        obtain ⟨a4, n4, c4, hv4⟩ : ∃ a n c, v4 = .slice a n c := by
          rcases ow4'.form with ⟨h1, h2⟩ | ⟨g4, cap4, h1, _⟩
          · exact ⟨none, 0, 0, h1⟩
          · exact ⟨_, _, _, h1⟩
        subst hv4
        have cell0 : ∀ V : World, V.heap[w.heap.size]? = W1.heap[w.heap.size]? → V.cell? ⟨w.heap.size, 0, none⟩ = some (.slice (some ⟨g, 0, none⟩) L.length cap) := fun V hV => by rw [cell_of_row V _ 0 _ _ _ (hV.trans B0)]; rfl
        have S0 := cell0 W1.drew rfl
        have S2 := cell0 W2 (hk12 _ (by omega))
        have S3 := cell0 W3 (hk23 _ (by omega))
        have S4 := cell0 W4 (hk34 _ (by omega))
        have F4 : W4.frozen? ⟨w.heap.size, 0, none⟩ = false := by simp [World.frozen?, hk34 _ (show w.heap.size < W1.heap.size by omega), B0]
        obtain ⟨W5, hW5⟩ : ∃ W5, W5 = W4.setCell ⟨w.heap.size, 0, none⟩ (.slice a4 n4 c4) := ⟨_, rfl⟩
        have z5 : W5.heap.size = W4.heap.size := by rw [hW5]; simp
        have C0 : W5.heap[w.heap.size]? = some (.cells #[.slice a4 n4 c4, .int .i64 last] 84 (0, 0)) := by rw [hW5]; exact heap_setCell_same W4 w.heap.size 0 _ 84 (.slice a4 n4 c4) ((hk34 _ (by omega)).trans B0)
        have C1 : W5.heap[w.heap.size + 1]? = some (.cells #[.slice none 0 0, .int .i64 0] 84 (0, 0)) := by rw [hW5, Below.heap_setCell _ _ _ _ (by simp)]; exact (hk34 _ (by omega)).trans B1
        have C2 : W5.heap[w.heap.size + 2]? = some (.cells #[.int .i64 0, .int .i64 0, .int .i64 0] 85 (0, 0)) := by rw [hW5, Below.heap_setCell _ _ _ _ (by simp)]; exact (hk34 _ (by omega)).trans B2
        have C3 : W5.heap[w.heap.size + 3]? = some (.cells #[.int .i64 t1, .int .i64 t2, .int .i64 t3] 85 (0, 0)) := by rw [hW5, Below.heap_setCell _ _ _ _ (by simp)]; exact (hk34 _ (by omega)).trans B3
        have ow5 : QR W5 W1.heap.size (.slice a4 n4 c4) (L.take i ++ L.drop (i + 1)) := ow4'.kept (fun k hk => by rw [hW5]; exact Below.heap_setCell _ _ _ _ (by have := (ow4'.lt hk).1; simp; omega))
        have hb5 : Below w.heap.size w W5 := by rw [hW5]; exact hb4.setCell (p := ⟨w.heap.size, 0, none⟩) (by simp) _
        have HEND := hid (And.intro ow5 (And.intro hb5 (And.intro z5 (And.intro C0 (And.intro C1 (And.intro C2 C3))))))
        have HW1 := hid hW1; have HW2 := hid hW2; have HR3 := hid hr3; have HR4 := hid hr4; have HSF := hid hsf; have HW5 := hid hW5
        clear hW1 hW2 hr3 hr4 hsf hW5 ow5 hb5 C0 C1 C2 C3 cell0 ow4' hb4 hk34 ho3 ow4 hg4 hA1 hQ3 hb3 hk23 ow3 hg3 hQ2 hi0 hz0 hs0 hy0 ow2 hb2 hk12 B0 B1 B2 B3 hb1 hDT z3 z4 z5
        go_upto_region 6 with fail
        rw [← HW1.out]
        refine start_ (n := 14) (S := fun w' => w'.cell? ⟨w.heap.size, 0, none⟩ = some (.slice (some ⟨g, 0, none⟩) L.length cap)) (ds := [13]) #[false, false, false, false, false, false, false, false, false, false, false, false, false, false] (by kernel_rfl) rfl rfl S0 (fun hHeld => ?_); refine with_tabW rdone6.tab rdone6.bits (fun HT_ HW_ => ?_)
        refine pure_ (i := 1) (N := some 30) (v := ?_) (a' := ?_) #[false, true, false, false, false, false, false, false, false, false, false, false, false, false] rfl rfl (any_of HT_.out (by kernel_rfl)) (fun _ _ _ h => h) (Or.inl ⟨by rfl, ?_⟩) ?_ ?_
        rotate_left
        · intro w'
          go_simp
          with_reducible rfl
        rotate_left
        · simp only [Act.put, List.setIfInBounds_toArray, List.set_cons_zero, List.set_cons_succ, i64_w, i32_w]
          rfl
        refine pure_ (i := 3) (N := some 32) (v := ?_) (a' := ?_) #[false, true, false, true, false, false, false, false, false, false, false, false, false, false] rfl rfl (any_of HT_.out (by kernel_rfl)) (fun _ _ _ h => h) (Or.inl ⟨by rfl, ?_⟩) ?_ ?_
        rotate_left
        · intro w'
          go_simp
          with_reducible rfl
        rotate_left
        · simp only [Act.put, List.setIfInBounds_toArray, List.set_cons_zero, List.set_cons_succ, i64_w, i32_w]
          rfl
        refine pure_ (i := 6) (N := some 35) (v := ?_) (a' := ?_) #[false, true, false, true, false, false, true, false, false, false, false, false, false, false] rfl rfl (any_of HT_.out (by kernel_rfl)) (fun _ _ _ h => h) (Or.inl ⟨by rfl, ?_⟩) ?_ ?_
        rotate_left
        · intro w'
          go_simp
          with_reducible rfl
        rotate_left
        · simp only [Act.put, List.setIfInBounds_toArray, List.set_cons_zero, List.set_cons_succ, i64_w, i32_w]
          rfl
        refine pure_ (i := 8) (N := some 37) (v := ?_) (a' := ?_) #[false, true, false, true, false, false, true, false, true, false, false, false, false, false] rfl rfl (any_of HT_.out (by kernel_rfl)) (fun _ _ _ h => h) (Or.inl ⟨by rfl, ?_⟩) ?_ ?_
        rotate_left
        · intro w'
          go_simp
          with_reducible rfl
        rotate_left
        · simp only [Act.put, List.setIfInBounds_toArray, List.set_cons_zero, List.set_cons_succ, i64_w, i32_w]
          rfl
        refine pure_ (i := 9) (N := some 38) (v := ?_) (a' := ?_) #[false, true, false, true, false, false, true, false, true, true, false, false, false, false] rfl rfl (any_of HT_.out (by kernel_rfl)) (fun _ _ _ h => h) (Or.inl ⟨by rfl, ?_⟩) ?_ ?_
        rotate_left
        · intro w'
          go_simp
          with_reducible rfl
        rotate_left
        · simp only [Act.put, List.setIfInBounds_toArray, List.set_cons_zero, List.set_cons_succ, i64_w, i32_w]
          rfl
        refine take_ (i := 2) (N := some 31) (v := ?_) (a' := ?_) #[false, true, true, true, false, false, true, false, true, true, false, false, false, false] rfl rfl (take_ofW HT_.out HW_.out (by kernel_rfl)) (fun _ _ _ h => h) (Or.inl ⟨by rfl, ?_⟩) hHeld ?_ ?_
        rotate_left
        · rintro w' s0
          go_simp
          with_reducible rfl
        rotate_left
        · simp only [Act.put, List.setIfInBounds_toArray, List.set_cons_zero, List.set_cons_succ, i64_w, i32_w]
          rfl
        refine pure_ (i := 4) (N := some 33) (v := ?_) (a' := ?_) #[false, true, true, true, true, false, true, false, true, true, false, false, false, false] rfl rfl (any_of HT_.out (by kernel_rfl)) (fun _ _ _ h => h) (Or.inl ⟨by rfl, ?_⟩) ?_ ?_
        rotate_left
        · intro w'
          have hs4 := slice_to85 g L.length cap i (by omega) w'
          go_simp
          rfl
        rotate_left
        · simp only [Act.put, List.setIfInBounds_toArray, List.set_cons_zero, List.set_cons_succ, i64_w, i32_w]
          rfl
        refine take_ (i := 7) (N := some 36) (v := ?_) (a' := ?_) #[false, true, true, true, true, false, true, true, true, true, false, false, false, false] rfl rfl (take_ofW HT_.out HW_.out (by kernel_rfl)) (fun _ _ _ h => h) (Or.inl ⟨by rfl, ?_⟩) hHeld ?_ ?_
        rotate_left
        · rintro w' s0
          go_simp
          with_reducible rfl
        rotate_left
        · simp only [Act.put, List.setIfInBounds_toArray, List.set_cons_zero, List.set_cons_succ, i64_w, i32_w]
          rfl
        refine pure_ (i := 10) (N := some 39) (v := ?_) (a' := ?_) #[false, true, true, true, true, false, true, true, true, true, true, false, false, false] rfl rfl (any_of HT_.out (by kernel_rfl)) (fun _ _ _ h => h) (Or.inl ⟨by rfl, ?_⟩) ?_ ?_
        rotate_left
        · intro w'
          have hs4 := HSF.out w'
          go_simp
          rfl
        rotate_left
        · simp only [Act.put, List.setIfInBounds_toArray, List.set_cons_zero, List.set_cons_succ, i64_w, i32_w]
          rfl
        refine one_ (i := 0) (N := some 29) #[true, true, true, true, true, false, true, true, true, true, true, false, false, false] rfl rfl (one_of HT_.out (by kernel_rfl)) (by decide) (fun K hK => ?_)
        refine value_ (v := .slice (some ⟨W1.heap.size, 0, none⟩) 0 0) (w1 := W2) (by rfl) rfl (by rw [HW2.out]; go_simp) ?_
        refine hK.out _ _ S2 (fun hHeld => ?_)
        clear hK K
        refine norm_ (a' := ?_) ?_ ?_
        rotate_left
        · show Act.put _ (some 29) _ = _
          simp only [Act.put, List.setIfInBounds_toArray, List.set_cons_zero, List.set_cons_succ, i64_w, i32_w]
          rfl
        refine one_ (i := 5) (N := some 34) #[true, true, true, true, true, true, true, true, true, true, true, false, false, false] rfl rfl (one_of HT_.out (by kernel_rfl)) (by decide) (fun K hK => ?_)
        refine st_append rfl _ _ _ rfl ⟨_, _, HR3.out, ?_⟩
        refine hK.out _ _ S3 (fun hHeld => ?_)
        clear hK K
        refine norm_ (a' := ?_) ?_ ?_
        rotate_left
        · show Act.put _ (some 34) _ = _
          simp only [Act.put, List.setIfInBounds_toArray, List.set_cons_zero, List.set_cons_succ, i64_w, i32_w]
          rfl
        refine one_ (i := 11) (N := some 40) #[true, true, true, true, true, true, true, true, true, true, true, true, false, false] rfl rfl (one_of HT_.out (by kernel_rfl)) (by decide) (fun K hK => ?_)
        refine st_append rfl _ _ _ rfl ⟨_, _, HR4.out, ?_⟩
        refine hK.out _ _ S4 (fun hHeld => ?_)
        clear hK K
        refine norm_ (a' := ?_) ?_ ?_
        rotate_left
        · show Act.put _ (some 40) _ = _
          simp only [Act.put, List.setIfInBounds_toArray, List.set_cons_zero, List.set_cons_succ, i64_w, i32_w]
          rfl
        refine pure_ (i := 12) (N := some 41) (v := ?_) (a' := ?_) #[true, true, true, true, true, true, true, true, true, true, true, true, true, false] rfl rfl (any_of HT_.out (by kernel_rfl)) (fun _ _ _ h => h) (Or.inl ⟨by rfl, ?_⟩) ?_ ?_
        rotate_left
        · intro w'
          go_simp
          with_reducible rfl
        rotate_left
        · simp only [Act.put, List.setIfInBounds_toArray, List.set_cons_zero, List.set_cons_succ, i64_w, i32_w]
          rfl
        refine last_ (i := 13) (N := none) #[true, true, true, true, true, true, true, true, true, true, true, true, true, true] rfl rfl (one_of HT_.out (by kernel_rfl)) (by decide) (fun K hK => ?_)
        refine skip_ (w1 := W4.setCell ⟨w.heap.size, 0, none⟩ (.slice a4 n4 c4)) (by rfl) rfl (by go_simp) ?_
        refine hK.out _ _ ?_
        clear hK K
        refine done_ (done_of HT_.out (by kernel_rfl)) ?_
        rw [← HW5.out]
        obtain ⟨ow5, hb5, z5, C0, C1, C2, C3⟩ := HEND.out
        have k00 : W5.cell? ⟨w.heap.size, 0, none⟩ = some (.slice a4 n4 c4) := by rw [cell_of_row W5 _ 0 _ _ _ C0]; rfl
        have k01 : W5.cell? ⟨w.heap.size, 1, none⟩ = some (.int .i64 last) := by rw [cell_of_row W5 _ 1 _ _ _ C0]; rfl
        have k30 : W5.cell? ⟨w.heap.size + 3, 0, none⟩ = some (.int .i64 t1) := by rw [cell_of_row W5 _ 0 _ _ _ C3]; rfl
        have k31 : W5.cell? ⟨w.heap.size + 3, 1, none⟩ = some (.int .i64 t2) := by rw [cell_of_row W5 _ 1 _ _ _ C3]; rfl
        have k32 : W5.cell? ⟨w.heap.size + 3, 2, none⟩ = some (.int .i64 t3) := by rw [cell_of_row W5 _ 2 _ _ _ C3]; rfl
        have k10 : W5.cell? ⟨w.heap.size + 1, 0, none⟩ = some (.slice none 0 0) := by rw [cell_of_row W5 _ 0 _ _ _ C1]; rfl
        have k11 : W5.cell? ⟨w.heap.size + 1, 1, none⟩ = some (.int .i64 0) := by rw [cell_of_row W5 _ 1 _ _ _ C1]; rfl
        have C2 : W5.heap[w.heap.size + 1 + 1]? = some (.cells #[.int .i64 0, .int .i64 0, .int .i64 0] 85 (0, 0)) := C2
        have k20 : W5.cell? ⟨w.heap.size + 1 + 1, 0, none⟩ = some (.int .i64 0) := by rw [cell_of_row W5 _ 0 _ _ _ C2]; rfl
        have k21 : W5.cell? ⟨w.heap.size + 1 + 1, 1, none⟩ = some (.int .i64 0) := by rw [cell_of_row W5 _ 1 _ _ _ C2]; rfl
        have k22 : W5.cell? ⟨w.heap.size + 1 + 1, 2, none⟩ = some (.int .i64 0) := by rw [cell_of_row W5 _ 2 _ _ _ C2]; rfl
        have g10 : ∀ j, W5.frozen? ⟨w.heap.size + 1, j, none⟩ = false := fun j => by simp [World.frozen?, C1]
        have g20 : ∀ j, W5.frozen? ⟨w.heap.size + 1 + 1, j, none⟩ = false := fun j => by simp [World.frozen?, C2]
        have HEND2 := hid (And.intro ow5 (And.intro hb5 (And.intro z5 (And.intro C1 C2))))
        clear ow5 hb5 z5 C0 C1 C2 C3 HEND c0 c1 e0 e1 e2 S0 S2 S3 S4 F4 f10 f20 b0 b1 b2 hb0
        go_wp2
        go_region
        go_wp2
        refine bodyPost_ret (v := .tuple #[.agg #[.slice a4 n4 c4, .int .i64 last], .agg #[.int .i64 t1, .int .i64 t2, .int .i64 t3], .int .i64 0]) (by simp [results, Try.results45, go_sem, k10, k11, k20, k21, k22]) rfl ?_
        obtain ⟨ow5, hb5, z5, C1, C2⟩ := HEND2.out
        refine ⟨_, by rw [HDT.out.2], ?_, fun k hk => .inr (by have := (ow5.lt hk).1; rw [HW1.out] at this; simp at this; omega), ?_⟩
        · rw [HDT.out.1]
          have hW1s : W1.heap.size = w.heap.size + 4 := z1
          refine (ow5.low (by omega)).kept (fun k hk => ?_)
          have hk2 := (ow5.lt hk).1
          change (World.setCell _ _ _).heap[k]? = _
          rw [Below.heap_setCell _ _ _ _ (by simp; omega), Below.heap_setCell _ _ _ _ (by simp; omega), Below.heap_setCell _ _ _ _ (by simp; omega), Below.heap_setCell _ _ _ _ (by simp; omega), Below.heap_setCell _ _ _ _ (by simp; omega)]
        · exact (((((hb5.setCell (p := ⟨w.heap.size + 1, 0, none⟩) (by simp) _).setCell (p := ⟨w.heap.size + 1, 1, none⟩) (by simp) _).setCell (p := ⟨w.heap.size + 1 + 1, 0, none⟩) (by simp; omega) _).setCell (p := ⟨w.heap.size + 1 + 1, 1, none⟩) (by simp; omega) _).setCell (p := ⟨w.heap.size + 1 + 1, 2, none⟩) (by simp; omega) _).drew
      · have HN' : Hid (∀ x ∈ L.take (i + 1), x.2.1 ≠ u) := by
          refine hid (fun x hx => ?_)
          rw [List.take_add_one, List.getElem?_eq_getElem hil, ← HT.out] at hx
          rcases List.mem_append.1 hx with hx | hx
          · exact HN.out x hx
          · simp at hx; subst hx; exact hu
        have hub : (t2 == u) = false := by simpa using hu
        clear HN b0 b1 b2 hb0
        go_wp2
        go_roundg (L.length - (i + 1))
        case measure => omega
        case rel => exact ⟨rfl, i + 1, rfl, by omega, by go_num, HN'⟩
    · obtain rfl : i = L.length := by omega
      have b2 : W0.heap[w.heap.size + 1 + 1]? = some (.cells #[.int .i64 0, .int .i64 0, .int .i64 0] 85 (0, 0)) := b2
      have k10 : W0.cell? ⟨w.heap.size + 1, 0, none⟩ = some (.slice none 0 0) := by rw [cell_of_row W0 _ 0 _ _ _ b1]; rfl
      have k11 : W0.cell? ⟨w.heap.size + 1, 1, none⟩ = some (.int .i64 0) := by rw [cell_of_row W0 _ 1 _ _ _ b1]; rfl
      have k20 : W0.cell? ⟨w.heap.size + 1 + 1, 0, none⟩ = some (.int .i64 0) := by rw [cell_of_row W0 _ 0 _ _ _ b2]; rfl
      have k21 : W0.cell? ⟨w.heap.size + 1 + 1, 1, none⟩ = some (.int .i64 0) := by rw [cell_of_row W0 _ 1 _ _ _ b2]; rfl
      have k22 : W0.cell? ⟨w.heap.size + 1 + 1, 2, none⟩ = some (.int .i64 0) := by rw [cell_of_row W0 _ 2 _ _ _ b2]; rfl
      have hDT := doneL_take u L L.length HN.out
      rw [List.take_length, List.drop_length] at hDT
      have HDT := hid hDT
      have HB0 := hid hb0
      have Hb1 := hid b1
      have Hb2 := hid b2
      clear hDT b0 b1 b2 hb0 HN
      go_wp2
      refine bodyPost_ret (v := .tuple #[.agg #[.slice va L.length vc, .int .i64 last], .agg #[.int .i64 0, .int .i64 0, .int .i64 0], .int .i64 6]) (by simp [results, Try.results45, go_sem, k10, k11, k20, k21, k22]) rfl ?_
      obtain ⟨q1, q2⟩ := HDT.out
      have e1 : doneL u L = L := by rw [q1]; simp [doneL]
      have e2 : doneT u L = ((0, 0, 0), 6) := by rw [q2]; rfl
      refine ⟨_, by rw [e2], ?_, fun k hk => .inl hk, ?_⟩
      · rw [e1]
        refine (HQ.out.below HB0.out).kept (fun k hk => ?_)
        have hk2 := (HQ.out.lt hk).2
        rw [Below.heap_setCell _ _ _ _ (by simp; omega), Below.heap_setCell _ _ _ _ (by simp; omega), Below.heap_setCell _ _ _ _ (by simp; omega), Below.heap_setCell _ _ _ _ (by simp; omega), Below.heap_setCell _ _ _ _ (by simp; omega)]
      · exact ((((HB0.out.setCell (p := ⟨w.heap.size + 1, 0, none⟩) (by simp) _).setCell (p := ⟨w.heap.size + 1, 1, none⟩) (by simp) _).setCell (p := ⟨w.heap.size + 1 + 1, 0, none⟩) (by simp; omega) _).setCell (p := ⟨w.heap.size + 1 + 1, 1, none⟩) (by simp; omega) _).setCell (p := ⟨w.heap.size + 1 + 1, 2, none⟩) (by simp; omega) _
end Go.Proofs.Ytnceglkoolfncaa.Tp
