/- Probes: Due. -/
import Derived.Test.YtnceglkoolfncaaBf
set_option linter.unusedSimpArgs false
set_option linter.unusedVariables false
namespace Go.Proofs.Ytnceglkoolfncaa.Pr
open Go.RowKit Go.Pv Go.Proofs.Ytnceglkoolfncaa.Po Go.Sort

theorem heapAt (w : World) (o : Obj) (n : Nat) (h : n = w.heap.size) : (w.alloc o).heap[n]? = some o := by subst h; exact heap_alloc_new w o
theorem infoParts {t : TypeId} {z : Value} {a b : Nat} (h : (Try.prog.info? t).map (fun i => (i.zero, i.size, i.bytes)) = some (some z, a, b)) : ∃ i, Try.prog.info? t = some i ∧ i.zero = some z ∧ i.size = a ∧ i.bytes = b := by
  cases hi : Try.prog.info? t with
  | none => rw [hi] at h; cases h
  | some i =>
    rw [hi] at h
    simp only [Option.map_some, Option.some.injEq, Prod.mk.injEq] at h
    exact ⟨i, rfl, h⟩
theorem info208 : ∃ i, Try.prog.info? 208 = some i ∧ i.zero = some (.agg #[.int .i64 0, .int .i64 0]) ∧ i.size = 2 ∧ i.bytes = 16 :=
  infoParts (show (Try.prog.info? 208).map (fun i => (i.zero, i.size, i.bytes)) = some (some (.agg #[.int .i64 0, .int .i64 0]), 2, 16) by kernel_rfl)
theorem encP_one (l : List (Int × Int)) : ∀ u ∈ l.flatMap encP, u.oneCell' = true := by
  intro u hu
  obtain ⟨x, _, hx⟩ := List.mem_flatMap.1 hu
  simp [encP] at hx
  rcases hx with rfl | rfl <;> rfl
theorem encP_len (l : List (Int × Int)) : (l.flatMap encP).length = l.length * 2 := by
  induction l with
  | nil => rfl
  | cons x xs ih => simp [List.flatMap_cons, encP] at ih ⊢; omega
theorem due_app {w2 : World} {A : Option Addr} {n c : Nat} {L : List (Int × Int)} (sl : SlOf w2 208 2 encP (.slice A n c) L) (hL : L.length ≤ 1000000) (x y e f m d : Int) :
    ∃ A' n' c' w3, (Builtin.append_ #[136, 136] 136 #[.slice A n c, .slice (some ⟨w2.heap.size + 2, 0, none⟩) 1 1]).run Try.prog (((w2.alloc (.cells #[.int .i64 x, .int .i64 y] 208)).alloc (.cells #[.int .i64 e, .int .i64 f, .int .i64 m, .int .i64 d] 210)).alloc (.cells #[.int .i64 x, .int .i64 y] 208)) = .ok (.slice A' n' c') w3 ∧
      SlOf w3 208 2 encP (.slice A' n' c') (L ++ [(x, y)]) ∧ Keeps (fun k => (Value.slice A n c).ownBlock = some k) w2 w3 ∧ ((Value.slice A' n' c').ownBlock = (Value.slice A n c).ownBlock ∨ ∃ g, (Value.slice A' n' c').ownBlock = some g ∧ w2.heap.size ≤ g) := by
  obtain ⟨i0, hi, hz0, hz1, hz2⟩ := info208
  obtain ⟨W3, hW3⟩ : ∃ W3, W3 = (((w2.alloc (.cells #[.int .i64 x, .int .i64 y] 208)).alloc (.cells #[.int .i64 e, .int .i64 f, .int .i64 m, .int .i64 d] 210)).alloc (.cells #[.int .i64 x, .int .i64 y] 208)) := ⟨_, rfl⟩
  have k3 : Below w2.heap.size w2 W3 := by rw [hW3]; exact (((Below.refl _ w2).alloc (Nat.le_refl _) _).alloc (by simp) _).alloc (by simp; omega) _
  have bx : W3.heap[w2.heap.size + 2]? = some (.cells #[.int .i64 x, .int .i64 y] 208 (0, 0)) := by rw [hW3]; exact heapAt _ _ _ (by simp)
  have s2 : SlOf W3 208 2 encP (.slice A n c) L := SlRow.kept sl (Keeps.of_below (F := fun _ => False) k3) (by simp)
  obtain ⟨v', w3, hr, hs3, hk3, hloc, -, -⟩ := run_append_sl (P := Try.prog) W3 136 136 208 i0 _ 2 16 Try.underlying136 hi hz0 hz1 hz2 rfl _ _ _ s2
        (.slice (some ⟨w2.heap.size + 2, 0, none⟩) 1 1) 1 [.int .i64 x, .int .i64 y]
        (.inr ⟨_, _, rfl, World.news_of_block (cs := #[.int .i64 x, .int .i64 y]) (t := 208) (fr := (0, 0)) bx⟩) rfl (by simp [Value.oneCell']) (by unfold maxLen; omega) (by omega)
  obtain ⟨A', n', c', hv'⟩ : ∃ a n c, v' = .slice a n c := by
    rcases SlRow.form hs3 with ⟨h1, _⟩ | ⟨g, o, c, h1⟩
    · exact ⟨_, _, _, h1⟩
    · exact ⟨_, _, _, h1⟩
  subst hv'
  refine ⟨A', n', c', w3, by rw [← hW3]; exact hr, ?_, (Keeps.of_below (F := fun k => (Value.slice A n c).ownBlock = some k) k3).trans hk3 (fun i hi => .inl hi), ?_⟩
  · unfold SlOf
    simpa [List.flatMap_append, encP] using hs3
  · rcases hloc with h | h
    · exact .inl h
    · exact .inr ⟨_, h, k3.size⟩

theorem flatP (L : List (Int × Int)) (j : Nat) (h : j < L.length * 2) : (L.flatMap encP)[j]? = some ((encP L[j / 2]!)[j % 2]!) := by
  induction L generalizing j with
  | nil => simp at h
  | cons x xs ih =>
    match j, h with
    | 0, _ => rfl
    | 1, _ => rfl
    | k + 2, h =>
      have h2 : k < xs.length * 2 := by simp only [List.length_cons] at h; omega
      have e1 : (k + 2) / 2 = k / 2 + 1 := by omega
      have e2 : (k + 2) % 2 = k % 2 := by omega
      have e3 : ((x :: xs).flatMap encP)[k + 2]? = (xs.flatMap encP)[k]? := by simp [List.flatMap_cons, encP]
      rw [e3, e1, e2, ih k h2]
      have e4 : (x :: xs)[k / 2 + 1]! = xs[k / 2]! := by simp
      rw [e4]
theorem holdsP_of {w : World} {v : Value} {l : List (Int × Int)} (h : SlOf w 208 2 encP v l) {b o c : Nat} (hv : v = .slice (some ⟨b, o, none⟩) l.length c) : HoldsK encP 2 w b o l.toArray := by
  intro j hj
  have hj' : j < l.length * 2 := by simpa using hj
  refine ⟨?_, ?_⟩
  · have := SlRow.cells h hv j _ (flatP l j hj')
    rw [this, get_flatK _ _ _ _ (by simpa using hj')]
    simp
  · rcases h.2 with ⟨h1, _⟩ | ⟨g, o1, c1, cur, h1, hb, hc, _, _, _⟩
    · rw [h1] at hv; cases hv
    · rw [h1] at hv
      simp only [Value.slice.injEq, Option.some.injEq, Addr.mk.injEq, and_true] at hv
      obtain ⟨⟨rfl, rfl⟩, _⟩ := hv
      simp [World.frozen?, hb]

def dueF (now : Int) (l : AL) : List (Int × Int) := (l.filter fun r => decide (r.2.2.2.1 ≤ now)).map (·.1)
theorem dueF_snoc (now : Int) (l : AL) (r : (Int × Int) × PS) : dueF now (l ++ [r]) = if r.2.2.2.1 ≤ now then dueF now l ++ [r.1] else dueF now l := by
  unfold dueF
  by_cases h : r.2.2.2.1 ≤ now <;> simp [List.filter_append, h]
theorem dueF_le (now : Int) (l : AL) : (dueF now l).length ≤ l.length := by
  unfold dueF
  rw [List.length_map]
  exact List.length_filter_le _ _

structure Du (w : World) (mb : Nat) (al vis left : AL) (now : Int) (v : Value) (wr : World) : Prop where
  it : Iter wr w.heap.size mb kp (al.map fun r => (r.1, psv r.2)) (left.map fun r => (r.1, fP r))
  low : Below w.heap.size w wr
  sl : SlOf wr 208 2 encP v (dueF now vis)
  new : ∀ g, v.ownBlock = some g → w.heap.size < g

/-- How the answer lies. -/
def DueAt (w' : World) (A : Option Addr) (L : List (Int × Int)) : Prop := ∀ i (hi : i < L.length), ∃ b o, A = some ⟨b, o, none⟩ ∧ b < w'.heap.size ∧ w'.cell? ⟨b, o + i * 2, none⟩ = some (.int .i64 (L[i]).1) ∧ w'.cell? ⟨b, o + i * 2 + 1, none⟩ = some (.int .i64 (L[i]).2)

set_option maxRecDepth 10000 in
set_option maxHeartbeats 4000000 in
theorem due_any {w : World} {p mb : Nat} {al : AL} (h : PBk w p mb al) (now : Int) (hs : al.length ≤ 1000000) :
    Calls Try.prog 76 #[.pointer (some ⟨p, 0, none⟩), .int .i64 now] w fun e w' => (∃ (vis : AL) (A : Option Addr) (c : Nat), vis.Perm al ∧ e = .returned (.slice A ((dueF now vis).mergeSort leP).length c) ∧ DueAt w' A ((dueF now vis).mergeSort leP)) ∧ Below w.heap.size w w' := by
  have c0 := h.c0
  have hmw := h.lt.2
  obtain ⟨ob, hr, hI⟩ := h.map.range (P := Try.prog) Try.underlying203
  have H0 := hid (show Du w mb al [] al now (.slice none 0 0) (w.alloc ob) from ⟨hI, (Below.refl _ w).alloc (Nat.le_refl _) ob, SlRow.nil _ _ _, by simp [Value.ownBlock]⟩)
  have HR := hid hr
  clear h hr hI
  go_enter Try.func76, Try.ntmps76
  go_wp2_with (at_range; refine wl_range rfl _ _ rfl ⟨_, _, HR.out, ?_⟩)
  go_frame
  go_loopg [5] al.length (fun g s5 wr => ∃ (vis left : AL) (A : Option Addr) (n c : Nat), g = left.length ∧ s5 = .slice A n c ∧ Hid (Du w mb al vis left now (.slice A n c) wr) ∧ Hid ((vis ++ left).Perm al))
  case atStart => exact ⟨[], al, none, 0, 0, rfl, rfl, H0, hid (by simp)⟩
  case round =>
    clear H0
    obtain ⟨vis, left, A, n, c, rfl, rfl, HI, HV⟩ := hrel
    go_wp2_with (first
      | (at_next
         refine wl_next (κ := Int × Int) (τ := PS) (ke := kp) (r := w.heap.size) (mb := mb) rfl _ rfl (al := al.map fun r => (r.1, psv r.2)) (left := left) fP HI.out.it (by rfl) ?_ ?_
         case' refine_1 => (intro hl; have HL := hid hl; clear hl)
         case' refine_2 => (rintro l1 ⟨⟨x, y⟩, ⟨e, f, m, d⟩⟩ l2 w2 hl hI hk hz hen
                            simp only [kp, fP, psv] at hen ⊢
                            have HL := hid hl
                            have hk2 : Below w.heap.size w w2 := HI.out.low.trans (hk.below HI.out.low.size (fun i hi => by omega))
                            have sl2 : SlOf w2 208 2 encP (.slice A n c) (dueF now vis) := SlRow.kept HI.out.sl hk (fun g hg => by have := HI.out.new g hg; omega)
                            have hlen : (dueF now vis).length ≤ 1000000 := by
                              have h1 := dueF_le now vis
                              have h2 := HV.out.length_eq
                              simp only [List.length_append] at h2
                              omega
                            obtain ⟨A', n', c', w3, hr3, sl3, k3, loc⟩ := due_app sl2 hlen x y e f m d
                            have HR3 := hid hr3
                            have HY : Hid (m ≤ now → Du w mb al (vis ++ [((x, y), (e, f, m, d))]) (l1 ++ l2) now (.slice A' n' c') w3) := hid fun hm => by
                              have hno : ∀ g, (Value.slice A n c).ownBlock = some g → w.heap.size < g := HI.out.new
                              refine ⟨(show Iter w2 w.heap.size mb kp (al.map fun r => (r.1, psv r.2)) ((l1 ++ l2).map fun r => (r.1, fP r)) by first | exact hI | (rw [List.map_append]; exact hI)).kept k3 (fun hg => by have := hno _ hg; omega) (fun hg => by have := hno _ hg; omega), hk2.trans (k3.below hk2.size (fun i hi => by have := hno _ hi; omega)), ?_, ?_⟩
                              · rw [dueF_snoc, if_pos hm]; exact sl3
                              · intro g hg
                                rcases loc with h1 | ⟨g', h1, h2⟩
                                · exact hno g (h1 ▸ hg)
                                · rw [h1] at hg
                                  cases hg
                                  have := hk2.size
                                  have := HI.out.it.lt.1
                                  have := hk.size
                                  omega
                            have HN : Hid (¬ m ≤ now → Du w mb al (vis ++ [((x, y), (e, f, m, d))]) (l1 ++ l2) now (.slice A n c) ((w2.alloc (.cells #[.int .i64 x, .int .i64 y] 208)).alloc (.cells #[.int .i64 e, .int .i64 f, .int .i64 m, .int .i64 d] 210))) := hid fun hm => by
                              have kk : Below w2.heap.size w2 ((w2.alloc (.cells #[.int .i64 x, .int .i64 y] 208)).alloc (.cells #[.int .i64 e, .int .i64 f, .int .i64 m, .int .i64 d] 210)) := ((Below.refl _ w2).alloc (Nat.le_refl _) _).alloc (by simp) _
                              refine ⟨(show Iter w2 w.heap.size mb kp (al.map fun r => (r.1, psv r.2)) ((l1 ++ l2).map fun r => (r.1, fP r)) by first | exact hI | (rw [List.map_append]; exact hI)).kept (Keeps.of_below (F := fun _ => False) kk) (by simp) (by simp), hk2.trans (kk.mono hk2.size), ?_, HI.out.new⟩
                              rw [dueF_snoc, if_neg hm]
                              exact SlRow.kept sl2 (Keeps.of_below (F := fun _ => False) kk) (by simp)
                            clear hl hI hk hz hk2 sl2 hlen hr3 sl3 k3 loc
                            by_cases hm : m ≤ now))
      | (at_builtin; refine wl_append rfl _ _ _ rfl ⟨_, _, HR3.out, ?_⟩))
    · go_roundg (l1 ++ l2).length
      case measure => rw [HL.out]; simp
      case rel => exact ⟨vis ++ [((x, y), (e, f, m, d))], l1 ++ l2, _, _, _, rfl, rfl, hid (HY.out hm), hid (perm_round (by rw [← HL.out]; exact HV.out))⟩
    · go_roundg (l1 ++ l2).length
      case measure => rw [HL.out]; simp
      case rel => exact ⟨vis ++ [((x, y), (e, f, m, d))], l1 ++ l2, _, _, _, rfl, rfl, hid (HN.out hm), hid (perm_round (by rw [← HL.out]; exact HV.out))⟩
    · have hlow := HI.out.low
      have hnew := HI.out.new
      have hsl := HI.out.sl
      have hlen : (dueF now vis).length ≤ 1000000 := by
        have h1 := dueF_le now vis
        have h2 := HV.out.length_eq
        simp only [List.length_append] at h2
        omega
      have HP := hid (show vis.Perm al by have := HV.out; rw [HL.out] at this; simpa using this)
      clear HV HL
      obtain ⟨L, hL⟩ : ∃ L, L = dueF now vis := ⟨_, rfl⟩
      have HLL := hid hL
      rw [← hL] at hsl hlen
      rcases SlRow.form hsl with ⟨hv, h0⟩ | ⟨b, o, c', hv⟩
      · have hLn : L = [] := List.eq_nil_of_length_eq_zero h0
        simp only [Value.slice.injEq] at hv
        obtain ⟨rfl, rfl, rfl⟩ := hv
        have H1 := hid (sortP_none (w := wr) none 0 (.func (.func 122) #[] #[]))
        have HF := hid (And.intro hlow hLn)
        clear hlow hnew hsl hlen hL hLn h0
        go_wp2_with (go_at_call 121; go_must (with_reducible refine H1.out.mono ?_); rintro e w4 ⟨rfl, rfl⟩)
        go_ret
        refine ⟨⟨vis, none, 0, HP.out, ?_, ?_⟩, HF.out.1⟩
        · rw [← HLL.out, HF.out.2, show ([] : List (Int × Int)).mergeSort leP = [] by simp]; rfl
        · rw [← HLL.out, HF.out.2]
          intro i hi
          simp at hi
      · simp only [Value.slice.injEq] at hv
        obtain ⟨rfl, rfl, rfl⟩ := hv
        have hblk : b < wr.heap.size := SlRow.lt hsl rfl
        have hbw := hnew b rfl
        have H1 := hid (sortP b o c (holdsP_of hsl rfl) hblk hlen)
        have HF := hid (And.intro hlow (And.intro hbw hblk))
        clear hlow hnew hsl hlen hL hblk hbw
        go_wp2_with (go_at_call 121; go_must (with_reducible refine H1.out.mono ?_); rintro e w4 ⟨rfl, h4, k4⟩; have H4 := hid (And.intro h4 k4); clear h4 k4)
        go_ret
        have hk := H4.out.2
        refine ⟨⟨vis, some ⟨b, o, none⟩, c, HP.out, ?_, ?_⟩, HF.out.1.trans (hk.below HF.out.1.size (fun i hi => by have := HF.out.2.1; omega))⟩
        · rw [← HLL.out, List.length_mergeSort]; rfl
        · rw [← HLL.out]
          intro i hi
          have q0 := (H4.out.1.cell (i := i) (c := 0) (by simpa using hi) (by omega)).1
          have q1 := (H4.out.1.cell (i := i) (c := 1) (by simpa using hi) (by omega)).1
          have e : (L.mergeSort leP).toArray[i]! = (L.mergeSort leP)[i] := by rw [getElem!_pos _ i (by simpa using hi)]; simp
          rw [e] at q0 q1
          exact ⟨b, o, rfl, Nat.lt_of_lt_of_le HF.out.2.2 hk.size, q0, q1⟩
end Go.Proofs.Ytnceglkoolfncaa.Pr
