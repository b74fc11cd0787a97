/- Probes: Gone. -/
import Derived.Test.YtnceglkoolfncaaBc
set_option linter.unusedSimpArgs false
set_option linter.unusedVariables false
namespace Go.Proofs.Ytnceglkoolfncaa.Pr
open Go.RowKit Go.Pv Go.Proofs.Ytnceglkoolfncaa.Po

/-- What still stands while left is to come. -/
def keepF (bx : Int) (left : AL) (r : (Int × Int) × PS) : Bool := left.any (fun x => decide (x.1 = r.1)) || !(r.1.1 == bx)
def curF (bx : Int) (al left : AL) : AL := al.filter (keepF bx left)
theorem adel_filter (k : Int × Int) (rows : AL) (h : (rows.map (·.1)).Nodup) : adel k rows = rows.filter (fun r => !decide (r.1 = k)) := by
  induction rows with
  | nil => rfl
  | cons x xs ih =>
    simp only [List.map_cons, List.nodup_cons, List.mem_map, not_exists, not_and] at h
    simp only [adel, List.filter_cons]
    by_cases hx : x.1 = k
    · simp only [hx, if_true, decide_true, Bool.not_true, Bool.false_eq_true, if_false]
      refine (List.filter_eq_self.2 fun r hr => ?_).symm
      have := h.1 r hr
      simp only [Bool.not_eq_true', decide_eq_false_iff_not]
      intro e
      exact this (e.trans hx.symm)
    · simp only [hx, if_false, decide_false, Bool.not_false, if_true]
      rw [ih h.2]
theorem keepF_mid (bx : Int) (l1 l2 : AL) (x r : (Int × Int) × PS) : keepF bx (l1 ++ x :: l2) r = (decide (x.1 = r.1) || keepF bx (l1 ++ l2) r) := by
  simp only [keepF, List.any_append, List.any_cons]
  cases l1.any (fun x => decide (x.1 = r.1)) <;> cases decide (x.1 = r.1) <;> cases l2.any (fun x => decide (x.1 = r.1)) <;> rfl
theorem cur_start (bx : Int) (al : AL) : curF bx al al = al := by
  refine List.filter_eq_self.2 fun r hr => ?_
  simp only [keepF, Bool.or_eq_true, List.any_eq_true, decide_eq_true_eq]
  exact .inl ⟨r, hr, rfl⟩
theorem cur_end (bx : Int) (al : AL) : curF bx al [] = al.filter (fun r => !(r.1.1 == bx)) := by
  unfold curF
  refine List.filter_congr fun r _ => ?_
  simp [keepF]
theorem cur_nodup {bx : Int} {al left : AL} (h : (al.map (·.1)).Nodup) : ((curF bx al left).map (·.1)).Nodup := h.sublist (List.Sublist.map _ List.filter_sublist)
theorem not_left {l1 l2 : AL} {x : (Int × Int) × PS} (h : ((l1 ++ x :: l2).map (·.1)).Nodup) : (∀ r ∈ l1 ++ l2, r.1 ≠ x.1) ∧ ((l1 ++ l2).map (·.1)).Nodup := by
  have h2 : ((x :: (l1 ++ l2)).map (·.1)).Nodup := (List.Perm.nodup_iff (List.Perm.map _ List.perm_middle)).1 h
  simp only [List.map_cons, List.nodup_cons, List.mem_map, not_exists, not_and] at h2
  exact ⟨fun r hr e => h2.1 r hr e, h2.2⟩
theorem keepF_key {bx : Int} {l : AL} {x r : (Int × Int) × PS} (hn : ∀ y ∈ l, y.1 ≠ x.1) (e : x.1 = r.1) : keepF bx l r = !(x.1.1 == bx) := by
  have : l.any (fun y => decide (y.1 = r.1)) = false := by
    rw [List.any_eq_false]
    intro y hy
    simpa using fun h => hn y hy (h.trans e.symm)
  simp [keepF, this, e]
theorem cur_true {bx : Int} {al l1 l2 : AL} {x : (Int × Int) × PS} (nd : (al.map (·.1)).Nodup) (hl : ((l1 ++ x :: l2).map (·.1)).Nodup) (hb : (x.1.1 == bx) = true) : adel x.1 (curF bx al (l1 ++ x :: l2)) = curF bx al (l1 ++ l2) := by
  rw [adel_filter _ _ (cur_nodup nd)]
  unfold curF
  rw [List.filter_filter]
  refine List.filter_congr fun r _ => ?_
  rw [keepF_mid]
  by_cases e : x.1 = r.1
  · rw [keepF_key (not_left hl).1 e, hb]
    simp [e]
  · have e' : ¬ r.1 = x.1 := fun h => e h.symm
    simp [e, e']
theorem cur_false {bx : Int} {al l1 l2 : AL} {x : (Int × Int) × PS} (hl : ((l1 ++ x :: l2).map (·.1)).Nodup) (hb : (x.1.1 == bx) = false) : curF bx al (l1 ++ x :: l2) = curF bx al (l1 ++ l2) := by
  unfold curF
  refine List.filter_congr fun r _ => ?_
  rw [keepF_mid]
  by_cases e : x.1 = r.1
  · rw [keepF_key (not_left hl).1 e, hb]
    simp [e]
  · simp [e]
theorem len_part (f : (Int × Int) × PS → Bool) (al : AL) : (al.length : Int) - ((al.filter fun r => !f r).length : Nat) = ((al.filter f).length : Nat) := by
  induction al with
  | nil => simp
  | cons x xs ih =>
    cases h : f x <;> simp only [List.filter_cons, h, Bool.not_false, Bool.not_true, Bool.false_eq_true, if_true, if_false, List.length_cons] <;> omega

set_option maxRecDepth 10000 in
theorem gone1_any {w : World} {q : Nat} {bx : Int} (hc : w.cell? ⟨q, 0, none⟩ = some (.int .i64 bx)) (b c : Int) (s : PS) :
    Calls Try.prog 120 #[kp (b, c), psv s, .pointer (some ⟨q, 0, none⟩)] w fun e w' => e = .returned (.bool (b == bx)) ∧ Below w.heap.size w w' := by
  have HC := hid hc
  unfold kp psv
  go_enter Try.func120, Try.ntmps120
  have hlt : q < w.heap.size := by
    have := hc
    unfold World.cell? at this
    cases h : w.heap[q]? with
    | none => simp [h] at this
    | some o => exact (Array.getElem?_eq_some_iff.1 h).1
  go_wp2_with fail
  go_ret
  exact ⟨rfl, ((Below.refl _ w).alloc (Nat.le_refl _) _).alloc (by simp) _⟩

set_option maxRecDepth 10000 in
set_option maxHeartbeats 4000000 in
theorem gone2_any {w : World} {p mb q : Nat} {al : AL} {bx : Int} (h : PBk w p mb al) (hc : w.cell? ⟨q, 0, none⟩ = some (.int .i64 bx)) (hq : q < w.heap.size) (hqm : q ≠ mb) :
    Calls Try.prog 119 #[.map (some mb), .func (.func 120) #[] #[.pointer (some ⟨q, 0, none⟩)]] w fun e w' => e = .returned (.tuple #[]) ∧ PBk w' p mb (al.filter (fun r => !(r.1.1 == bx))) ∧ Keeps (fun i => i = mb) w w' := by
  obtain ⟨ob, hr, hI⟩ := h.map.range (P := Try.prog) Try.underlying203
  have hmw := h.lt.2
  have H0 := hid (And.intro hI ((Keeps.refl (fun k => k = mb) w).alloc ob))
  have HR := hid hr
  have HP := hid h
  have HQ := hid (And.intro hc (And.intro hq hqm))
  clear h hr hI hc hq hqm
  go_enter Try.func119, Try.ntmps119
  go_wp2_with (at_range; refine wl_range rfl _ _ rfl ⟨_, _, HR.out, ?_⟩)
  go_frame
  go_loopg [] al.length (fun g wr => ∃ (left : AL), g = left.length ∧ Hid (Iter wr w.heap.size mb kp ((curF bx al left).map fun r => (r.1, psv r.2)) (left.map fun r => (r.1, fP r)) ∧ Keeps (fun k => k = mb) w wr) ∧ Hid ((left.map (·.1)).Nodup))
  case atStart => exact ⟨al, rfl, by rw [cur_start]; exact H0, hid HP.out.nd⟩
  case round =>
    clear H0
    obtain ⟨left, rfl, HI, HV⟩ := hrel
    go_wp2_with (first
      | (at_next
         refine wl_next (κ := Int × Int) (τ := PS) (ke := kp) (r := w.heap.size) (mb := mb) rfl _ rfl (al := (curF bx al left).map fun r => (r.1, psv r.2)) (left := left) fP HI.out.1 (by rfl) ?_ ?_
         case' refine_1 => (intro hl; have HL := hid hl; clear hl)
         case' refine_2 => (rintro l1 ⟨⟨b, c⟩, ⟨e, f, n, d⟩⟩ l2 w2 hl hI hk hs hen
                            have hk2 : Keeps (fun k => k = mb) w w2 := HI.out.2.trans hk (fun i hi => .inr (by omega))
                            have hk3 := (hk2.alloc (.cells #[.int .i64 b, .int .i64 c] 208)).alloc (.cells #[.int .i64 e, .int .i64 f, .int .i64 n, .int .i64 d] 210)
                            have hq3 := (hk3.cell (p := ⟨q, 0, none⟩) HQ.out.2.1 HQ.out.2.2).trans HQ.out.1
                            have HG := hid (gone1_any hq3 b c (e, f, n, d))
                            unfold kp psv at HG
                            simp only [kp, fP, psv] at hen ⊢
                            have HL := hid hl
                            have H2 := hid (And.intro hI hk3)
                            clear hl hI hk hs hk2 hk3 hq3))
      | (go_at_call 120
         go_must (with_reducible refine HG.out.mono ?_)
         rintro e' w3 ⟨rfl, hb⟩
         have hblk : w3.heap[w2.heap.size]? = some (.cells #[.int .i64 b, .int .i64 c] 208) := (hb.block _ (by simp; omega)).trans (by rw [Below.heap_alloc _ _ _ (by simp)]; exact heap_alloc_new w2 _)
         have q0 : w3.cell? ⟨w2.heap.size, 0, none⟩ = some (.int .i64 b) := by rw [cell_of_row w3 w2.heap.size 0 _ _ _ hblk]; rfl
         have q1 : w3.cell? ⟨w2.heap.size, 1, none⟩ = some (.int .i64 c) := by rw [cell_of_row w3 w2.heap.size 1 _ _ _ hblk]; rfl
         have k23 : Keeps (fun _ => False) w2 w3 := (((Keeps.refl (fun _ => False) w2).alloc _).alloc _).trans (Keeps.of_below (F := fun _ => False) hb) (by simp)
         have hI3 := H2.out.1.kept k23 (by simp) (by simp)
         have kw3 : Keeps (fun k => k = mb) w w3 := H2.out.2.trans (Keeps.of_below (F := fun _ => False) hb) (by simp)
         have hv := HV.out
         rw [HL.out] at hv hI3
         cases hbx : (b == bx)
         case' false =>
           rw [cur_false hv hbx] at hI3
           have H4 := hid (And.intro hI3 kw3)
           clear hb hblk k23 hI3 kw3 hv
         case' true =>
           obtain ⟨w4, hr4, hI4, k4, -⟩ := hI3.delete keyP Try.underlying203 (ty := 0) (b, c) 208 (by
             intro r hr e
             have hr' : r ∈ (l1 ++ l2).map (fun p => (p.1, fP p)) := by first | exact hr | (rw [List.map_append]; exact hr)
             obtain ⟨y, hy, rfl⟩ := List.mem_map.1 hr'
             exact (not_left hv).1 y hy e)
           rw [adel_map, cur_true HP.out.nd hv hbx] at hI4
           unfold kp at hr4
           have HR4 := hid hr4
           have H4 := hid (And.intro hI4 (kw3.trans k4 (fun i hi => .inl hi)))
           clear hb hblk k23 hI3 kw3 hv hr4 hI4 k4)
      | (at_delete; refine wl_delete rfl _ _ _ _ rfl ⟨_, _, HR4.out, ?_⟩))
    · go_frame
      go_roundg (l1 ++ l2).length
      case measure => rw [HL.out]; simp
      case rel => exact ⟨l1 ++ l2, rfl, hid ⟨by first | exact H4.out.1 | (rw [List.map_append]; exact H4.out.1), H4.out.2⟩, hid (not_left (HL.out ▸ HV.out)).2⟩
    · go_roundg (l1 ++ l2).length
      case measure => rw [HL.out]; simp
      case rel => exact ⟨l1 ++ l2, rfl, hid ⟨by first | exact H4.out.1 | (rw [List.map_append]; exact H4.out.1), H4.out.2⟩, hid (not_left (HL.out ▸ HV.out)).2⟩
    · rw [HL.out, cur_end] at HI
      refine bodyPost_end (results_none rfl _ _ _) rfl ?_
      exact ⟨rfl, ⟨(HI.out.2.block p HP.out.lt.1 HP.out.ne).trans HP.out.cell, HI.out.1.map, HP.out.nd.sublist (List.Sublist.map _ List.filter_sublist)⟩, HI.out.2⟩

set_option maxRecDepth 10000 in
theorem gone_any {w : World} {p mb : Nat} {al : AL} (h : PBk w p mb al) (bx : Int) (hs : al.length ≤ 1000000) :
    Calls Try.prog 67 #[.pointer (some ⟨p, 0, none⟩), .int .i64 bx] w fun e w' => e = .returned (.int .i64 (al.filter (fun r => r.1.1 == bx)).length) ∧ PBk w' p mb (al.filter (fun r => !(r.1.1 == bx))) ∧ Keeps (fun i => i = mb) w w' := by
  have h2 := h.below ((Below.refl _ w).alloc (Nat.le_refl _) (.cells #[.int .i64 bx] 3))
  have HP := hid h
  have c0 := h.c0
  have c1 := h2.c0
  have HL := hid (h2.len 3)
  clear h
  have HG := hid (gone2_any (bx := bx) (q := w.heap.size) h2 (by rw [cell_of_row _ w.heap.size 0 _ _ _ (heap_alloc_new w _)]; rfl) (by simp) (by have := h2.lt.2; have := HP.out.lt.2; omega))
  clear h2
  go_enter Try.func67, Try.ntmps67
  go_wp2_with (first
    | (go_at_call 119
       go_must (with_reducible refine HG.out.mono ?_)
       rintro e w3 ⟨rfl, h3, k3⟩
       have c3 := h3.c0
       have HL3 := hid (h3.len 3)
       have H3 := hid (And.intro h3 k3)
       clear h3 k3)
    | (at_len; refine wl_len rfl _ _ rfl ⟨_, _, (by first | exact HL.out | exact HL3.out), ?_⟩))
  have hw : wrap64 ((al.length : Int) - ((al.filter (fun r => !(r.1.1 == bx))).length : Nat)) = ((al.filter (fun r => r.1.1 == bx)).length : Nat) := by
    rw [len_part]
    have := List.length_filter_le (fun r : (Int × Int) × PS => r.1.1 == bx) al
    unfold wrap64; omega
  rw [hw]
  go_ret
  exact ⟨rfl, H3.out.1, (((Keeps.refl (fun i => i = mb) w).alloc _).trans H3.out.2 (fun i hi => .inl hi))⟩
end Go.Proofs.Ytnceglkoolfncaa.Pr
