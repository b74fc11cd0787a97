/- Use: the book: Of, All, Gone; the example. -/
import Derived.Test.YtnceglkoolfncaaCf
set_option linter.unusedSimpArgs false
set_option linter.unusedVariables false
namespace Go.Proofs.Ytnceglkoolfncaa.Us
open Go.RowKit Go.Pv Go.Proofs.Ytnceglkoolfncaa.Po Go.Proofs.YtnceglkoolfncaaW.PrintWords Go.Proofs.YtnceglkoolfncaaW.PrintLast Go.Proofs.Ytnceglkoolfncaa.Pr

set_option maxRecDepth 10000 in
theorem of1_any {w : World} {q : Nat} {bx : Int} (hc : w.cell? ⟨q, 0, none⟩ = some (.int .i64 bx)) (k : Int × Int) : Calls Try.prog 131 #[kp k, .pointer (some ⟨q, 0, none⟩)] w fun e w' => e = .returned (.bool (k.1 == bx)) ∧ Below w.heap.size w w' := by
  obtain ⟨a, b⟩ := k
  unfold kp
  have hq : q < w.heap.size := World.block_lt_of_cell? _ _ hc
  have hne : ¬ (q = w.heap.size) := by omega
  go_enter Try.func131, Try.ntmps131
  go_wp2
  go_ret
  exact ⟨rfl, (Below.refl _ w).alloc (Nat.le_refl _) _⟩
set_option maxRecDepth 10000 in
theorem all1_any (w : World) (k : Int × Int) : Calls Try.prog 133 #[kp k] w fun e w' => e = .returned (.bool true) ∧ Below w.heap.size w w' := by
  obtain ⟨a, b⟩ := k
  unfold kp
  go_enter Try.func133, Try.ntmps133
  go_wp2
  go_ret
  exact ⟨rfl, (Below.refl _ w).alloc (Nat.le_refl _) _⟩
/-- What a sandbox uses; what all use. -/
def ofU (bx : Int) (al : UL) : R3 := sumM (fun k => k.1 == bx) al
def allU (al : UL) : R3 := sumM (fun _ => true) al
theorem store145 {V : World} {g : Nat} (h : V.heap[g]? = some (.cells #[.int .i64 0, .int .i64 0, .int .i64 0] 145 (0, 0))) (x y z : Int) :
    ∃ W, W = ((V.setCell ⟨g, 0, none⟩ (.int .i64 x)).setCell ⟨g, 1, none⟩ (.int .i64 y)).setCell ⟨g, 2, none⟩ (.int .i64 z) ∧ W.heap[g]? = some (.cells #[.int .i64 x, .int .i64 y, .int .i64 z] 145 (0, 0)) ∧ Keeps (fun i => i = g) V W := by
  refine ⟨_, rfl, ?_, (((Keeps.refl (fun i => i = g) V).setCell ⟨g, 0, none⟩ _ (.inl rfl)).setCell ⟨g, 1, none⟩ _ (.inl rfl)).setCell ⟨g, 2, none⟩ _ (.inl rfl)⟩
  have e1 := heap_setCell_same V g 0 _ 145 (.int .i64 x) h
  have e2 := heap_setCell_same _ g 1 _ 145 (.int .i64 y) e1
  exact heap_setCell_same _ g 2 _ 145 (.int .i64 z) e2

set_option maxRecDepth 100000 in
theorem of_use {w : World} {p mb : Nat} {al : UL} (h : UBk w p mb al) (hg : GoodU al) (hl : al.length ≤ 1000) (bx : Int) : Calls Try.prog 89 #[.pointer (some ⟨p, 0, none⟩), .int .i64 bx] w fun e w' => e = .returned (rv (ofU bx al)) ∧ Below w.heap.size w w' := by
  obtain ⟨⟨x, y, z⟩, hr⟩ : ∃ r, r = ofU bx al := ⟨_, rfl⟩
  obtain ⟨W2, hW2⟩ : ∃ W2, W2 = ((w.alloc (.cells #[.int .i64 bx] 3)).alloc (.cells #[.int .i64 0, .int .i64 0, .int .i64 0] 145)) := ⟨_, rfl⟩
  have k2 : Below w.heap.size w W2 := by rw [hW2]; exact ((Below.refl _ w).alloc (Nat.le_refl _) _).alloc (by simp) _
  have n0 : W2.heap[w.heap.size]? = some (.cells #[.int .i64 bx] 3 (0, 0)) := by rw [hW2]; exact (Below.heap_alloc _ _ _ (by simp)).trans (heap_at _ _ _ rfl)
  have n1 : W2.heap[w.heap.size + 1]? = some (.cells #[.int .i64 0, .int .i64 0, .int .i64 0] 145 (0, 0)) := by rw [hW2]; exact heap_at _ _ _ (by simp)
  have hc : W2.cell? ⟨w.heap.size, 0, none⟩ = some (.int .i64 bx) := by rw [cell_of_row W2 _ _ _ _ _ n0]; rfl
  have hs := sumOf_any (h.below k2) hg hl (fun k => k.1 == bx) (qb := w.heap.size) (fun V hV k => of1_any ((hV.cell (p := ⟨w.heap.size, 0, none⟩) (World.block_lt_of_cell? _ _ hc)).trans hc) k)
  rw [show sumM (fun k => k.1 == bx) al = (x, y, z) from hr.symm] at hs
  rw [← hr]
  unfold rv at hs ⊢
  have HS := hid hs
  have HN := hid (And.intro k2 n1)
  have HW2 := hid hW2
  clear h hg hl hr hs k2 n0 n1 hc hW2
  go_enter Try.func89, Try.ntmps89
  go_upto_region 1 with fail
  rw [← HW2.out]
  go_wp2_with (go_at_call 130; go_must (with_reducible refine HS.out.mono ?_); rintro e_ w3 ⟨rfl, hb⟩; have hn := (hb.block _ (Array.getElem?_eq_some_iff.1 HN.out.2).1).trans HN.out.2; obtain ⟨t0, t1, t2, tf⟩ := cells145 hn; have tf0 := tf 0; have tf1 := tf 1; have tf2 := tf 2; obtain ⟨W9, hW9, rt9, k9⟩ := store145 hn x y z; obtain ⟨g0, g1, g2, -⟩ := cells145 rt9; have HE := hid (HN.out.1.trans (hb.mono HN.out.1.size)); have HW9 := hid hW9; have HK9 := hid k9; clear hb hn tf hW9 rt9 k9)
  rw [← HW9.out]
  exact bodyPost_ret (v := .agg #[.int .i64 x, .int .i64 y, .int .i64 z]) (by simp [results, Try.results89, go_sem, g0, g1, g2]) rfl ⟨rfl, HE.out.trans (HK9.out.below HE.out.size (fun i hi => by omega))⟩
set_option maxRecDepth 100000 in
theorem all_use {w : World} {p mb : Nat} {al : UL} (h : UBk w p mb al) (hg : GoodU al) (hl : al.length ≤ 1000) : Calls Try.prog 91 #[.pointer (some ⟨p, 0, none⟩)] w fun e w' => e = .returned (rv (allU al)) ∧ Below w.heap.size w w' := by
  obtain ⟨⟨x, y, z⟩, hr⟩ : ∃ r, r = allU al := ⟨_, rfl⟩
  obtain ⟨W2, hW2⟩ : ∃ W2, W2 = (w.alloc (.cells #[.int .i64 0, .int .i64 0, .int .i64 0] 145)) := ⟨_, rfl⟩
  have k2 : Below w.heap.size w W2 := by rw [hW2]; exact (Below.refl _ w).alloc (Nat.le_refl _) _
  have n1 : W2.heap[w.heap.size]? = some (.cells #[.int .i64 0, .int .i64 0, .int .i64 0] 145 (0, 0)) := by rw [hW2]; exact heap_at _ _ _ rfl
  have hs := sumAll_any (h.below k2) hg hl (fun _ => true) (fun V hV k => all1_any V k)
  rw [show sumM (fun _ => true) al = (x, y, z) from hr.symm] at hs
  rw [← hr]
  unfold rv at hs ⊢
  have HS := hid hs
  have HN := hid (And.intro k2 n1)
  have HW2 := hid hW2
  clear h hg hl hr hs k2 n1 hW2
  go_enter Try.func91, Try.ntmps91
  go_upto_region 1 with fail
  rw [← HW2.out]
  go_wp2_with (go_at_call 130; go_must (with_reducible refine HS.out.mono ?_); rintro e_ w3 ⟨rfl, hb⟩; have hn := (hb.block _ (Array.getElem?_eq_some_iff.1 HN.out.2).1).trans HN.out.2; obtain ⟨t0, t1, t2, tf⟩ := cells145 hn; have tf0 := tf 0; have tf1 := tf 1; have tf2 := tf 2; obtain ⟨W9, hW9, rt9, k9⟩ := store145 hn x y z; obtain ⟨g0, g1, g2, -⟩ := cells145 rt9; have HE := hid (HN.out.1.trans (hb.mono HN.out.1.size)); have HW9 := hid hW9; have HK9 := hid k9; clear hb hn tf hW9 rt9 k9)
  rw [← HW9.out]
  exact bodyPost_ret (v := .agg #[.int .i64 x, .int .i64 y, .int .i64 z]) (by simp [results, Try.results91, go_sem, g0, g1, g2]) rfl ⟨rfl, HE.out.trans (HK9.out.below HE.out.size (fun i hi => by omega))⟩

theorem adel_filterU (k : Int × Int) (rows : UL) (h : (rows.map (·.1)).Nodup) : adel k rows = rows.filter (fun r => !decide (r.1 = k)) := by
  induction rows with
  | nil => rfl
  | cons x xs ih =>
    simp only [List.map_cons, List.nodup_cons, List.mem_map, not_exists, not_and] at h
    simp only [adel, List.filter_cons]
    by_cases hx : x.1 = k
    · simp only [hx, if_true, decide_true, Bool.not_true, Bool.false_eq_true, if_false]
      refine (List.filter_eq_self.2 fun r hr => ?_).symm
      have := h.1 r hr
      simp only [Bool.not_eq_true', decide_eq_false_iff_not]
      intro e
      exact this (e.trans hx.symm)
    · simp only [hx, if_false, decide_false, Bool.not_false, if_true]
      rw [ih h.2]
/-- What is left when keys are taken away. -/
def delL (L : List (Int × Int)) (al : UL) : UL := al.filter fun r => !(L.contains r.1)
theorem delL_nil (al : UL) : delL [] al = al := by simp [delL]
theorem delL_nodup (L : List (Int × Int)) {al : UL} (nd : (al.map (·.1)).Nodup) : ((delL L al).map (·.1)).Nodup := nd.sublist (List.Sublist.map _ List.filter_sublist)
theorem delL_snoc (L : List (Int × Int)) (k : Int × Int) {al : UL} (nd : (al.map (·.1)).Nodup) : adel k (delL L al) = delL (L ++ [k]) al := by
  rw [adel_filterU _ _ (delL_nodup L nd)]
  unfold delL
  rw [List.filter_filter]
  refine List.filter_congr fun r _ => ?_
  rw [List.contains_append]
  by_cases h : r.1 = k <;> simp [h]
theorem delL_all (bx : Int) {al : UL} {ks : List (Int × Int)} (h : ks.Perm (al.map (·.1))) : delL (ks.filter fun k => k.1 == bx) al = al.filter fun r => !(r.1.1 == bx) := by
  unfold delL
  refine List.filter_congr fun r hr => ?_
  congr 1
  rw [Bool.eq_iff_iff, List.contains_iff_mem, List.mem_filter]
  exact ⟨fun h => h.2, fun h2 => ⟨h.mem_iff.2 (List.mem_map.2 ⟨r, hr, rfl⟩), h2⟩⟩
/-- Within Gone. -/
structure GX (w V : World) (p mb : Nat) (al : UL) (A : Option Addr) (ks : List (Int × Int)) : Prop where
  kp_ : Keeps (fun i => i = mb) w V
  bk : UBk V p mb al
  hp : p < w.heap.size
  hm : mb < w.heap.size
  ks : DueAt V A ks
  ka : ∀ a, A = some a → w.heap.size ≤ a.block
theorem GX.later {w V V' : World} {p mb : Nat} {al : UL} {A : Option Addr} {ks : List (Int × Int)} (h : GX w V p mb al A ks) (hb : Below V.heap.size V V') : GX w V' p mb al A ks :=
  ⟨h.kp_.trans (Keeps.of_below (F := fun _ => False) hb) (by simp), h.bk.below hb, h.hp, h.hm, dueAt_blocks h.ks (fun a _ hl => hb.block _ hl) hb.size, h.ka⟩
theorem GX.del {w V V' : World} {p mb : Nat} {al al' : UL} {A : Option Addr} {ks : List (Int × Int)} (h : GX w V p mb al A ks) (k : Keeps (fun i => i = mb) V V') (hb : UBk V' p mb al') : GX w V' p mb al' A ks :=
  ⟨h.kp_.trans k (fun i hi => .inl hi), hb, h.hp, h.hm, dueAt_blocks h.ks (fun a e hl => k.block _ hl (fun e2 => by have := h.ka a e; have := h.hm; omega)) k.size, h.ka⟩

set_option maxRecDepth 100000 in
set_option maxHeartbeats 4000000 in
theorem gone_use {w : World} {p mb : Nat} {al : UL} (h : UBk w p mb al) (hl : al.length ≤ 1000) (bx : Int) :
    Calls Try.prog 84 #[.pointer (some ⟨p, 0, none⟩), .int .i64 bx] w fun e w' => e = .returned (.int .i64 ((al.length : Int) - ((al.filter fun r => !(r.1.1 == bx)).length : Int))) ∧ UBk w' p mb (al.filter fun r => !(r.1.1 == bx)) ∧ Keeps (fun i => i = mb) w w' := by
  obtain ⟨al9, hal9⟩ : ∃ al9, al9 = al.filter fun r => !(r.1.1 == bx) := ⟨_, rfl⟩
  rw [← hal9]
  have HAL9 := hid hal9
  clear hal9
  have c0 := h.c0
  have HN := hid (h.len 3)
  have HK0 := hid (keys_any h.c0 h.map (by rw [List.length_map]; omega))
  have HP := hid h
  clear h
  go_enter Try.func84, Try.ntmps84
  go_wp2_with (first
    | (at_len; refine wl_len rfl _ _ rfl ⟨_, _, HN.out, ?_⟩)
    | (go_at_call 129; go_must (with_reducible refine HK0.out.mono ?_); rintro e_ w3 ⟨A, c, ks, rfl, hpm, hdu, hA, hb⟩; have HPM := hid (show ks.Perm (al.map (·.1)) by simpa [List.map_map, Function.comp_def] using hpm); have HX0 : Hid (GX w w3 p mb (delL ((ks.take 0).filter fun k => k.1 == bx) al) A ks) := hid (by rw [show delL ((ks.take 0).filter fun k => k.1 == bx) al = al from delL_nil al]; exact ⟨Keeps.of_below hb, HP.out.below hb, HP.out.lt.1, HP.out.lt.2, hdu, hA⟩); clear hpm hdu hA hb c0))
  have hkl : ks.length ≤ 1000 := by have := HPM.out.length_eq; rw [List.length_map] at this; omega
  clear HN HK0
  go_loopg [7, 16] ks.length (fun g s7 s16 wr => ∃ i : Nat, g = ks.length - i ∧ i ≤ ks.length ∧ s16 = .int .i64 i ∧ Hid (GX w wr p mb (delL ((ks.take i).filter fun k => k.1 == bx) al) A ks))
  case atStart => exact ⟨0, rfl, by omega, rfl, HX0⟩
  case round =>
    clear HX0
    obtain ⟨i, rfl, hi1, rfl, HX⟩ := hrel
    by_cases hlt : i < ks.length
    · obtain ⟨b, o, rfl, hb, d0, d1⟩ := HX.out.ks i hlt
      obtain ⟨⟨k1, k2⟩, hk12⟩ : ∃ k, k = ks[i] := ⟨_, rfl⟩
      have hsn : delL ((ks.take (i + 1)).filter fun k => k.1 == bx) al = if k1 = bx then adel (k1, k2) (delL ((ks.take i).filter fun k => k.1 == bx) al) else delL ((ks.take i).filter fun k => k.1 == bx) al := by
        rw [List.take_add_one, List.getElem?_eq_getElem hlt, ← hk12, List.filter_append]
        by_cases hkb : k1 = bx
        · rw [if_pos hkb, delL_snoc _ _ HP.out.nd]
          simp [hkb]
        · rw [if_neg hkb]
          simp [hkb]
      rw [← hk12] at d0 d1
      have HSN := hid hsn
      obtain ⟨al', hal'⟩ : ∃ al', al' = delL ((ks.take i).filter fun k => k.1 == bx) al := ⟨_, rfl⟩
      rw [← hal'] at HX HSN
      have kw : Below wr.heap.size wr (wr.alloc (.cells #[.int .i64 k1, .int .i64 k2] 223)) := (Below.refl _ wr).alloc (Nat.le_refl _) _
      have HX1 := hid (HX.out.later kw)
      have hkk : (wr.alloc (.cells #[.int .i64 k1, .int .i64 k2] 223)).heap[wr.heap.size]? = some (.cells #[.int .i64 k1, .int .i64 k2] 223 (0, 0)) := heap_at _ _ _ rfl
      obtain ⟨Wk, hWk⟩ : ∃ Wk, Wk = wr.alloc (.cells #[.int .i64 k1, .int .i64 k2] 223) := ⟨_, rfl⟩
      obtain ⟨kb, hkb⟩ : ∃ kb, kb = wr.heap.size := ⟨_, rfl⟩
      rw [← hWk] at HX1
      rw [← hWk, ← hkb] at hkk
      have ck0 : Wk.cell? ⟨kb, 0, none⟩ = some (.int .i64 k1) := by rw [cell_of_row Wk _ _ _ _ _ hkk]; rfl
      have ck1 : Wk.cell? ⟨kb, 1, none⟩ = some (.int .i64 k2) := by rw [cell_of_row Wk _ _ _ _ _ hkk]; rfl
      have HKB := hid hkb
      have HWK := hid hWk
      clear hsn hk12 hal' kw hkk HX hWk hkb
      by_cases hkb : k1 = bx
      · subst hkb
        have c1 := HX1.out.bk.c0
        obtain ⟨w5, hr5, h5, k5, -⟩ := UBk.del (w := Wk.drew) (HX1.out.bk.below (Below.refl _ Wk).drew) (k1, k2) 0
        unfold kp at hr5
        have HR5 := hid hr5
        have HX5 := hid ((HX1.out.later (Below.refl _ Wk).drew).del k5 h5)
        clear hr5 h5 k5
        go_upto_region 5 with fail
        rw [← HWK.out, ← HKB.out]
        go_upto_region 6 with fail
        go_still_tail 5, (by kernel_rfl)
        change wpList _ _ _ _ _ _
        go_wp2_with (at_delete; refine wl_delete rfl _ _ _ _ rfl ⟨_, _, HR5.out, ?_⟩)
        go_roundg (ks.length - (i + 1))
        case measure => omega
        case rel => exact ⟨i + 1, rfl, by omega, by go_num, by rw [HSN.out]; simpa using HX5⟩
      · have hkf : (k1 == bx) = false := by simpa using hkb
        have HNB := hid hkb
        clear hkb
        go_upto_region 5 with fail
        rw [← HWK.out, ← HKB.out]
        go_wp2_with fail
        go_roundg (ks.length - (i + 1))
        case measure => omega
        case rel => exact ⟨i + 1, rfl, by omega, by go_num, by rw [HSN.out, if_neg HNB.out]; exact HX1⟩
    · have hie : i = ks.length := by omega
      have hx := HX.out
      rw [hie, List.take_length, delL_all bx HPM.out] at hx
      have c9 := hx.bk.c0
      have HN9 := hid (hx.bk.len 3)
      have hnl : ¬ ((i : Int) < (ks.length : Int)) := by omega
      have hfl := List.length_filter_le (fun r : (Int × Int) × US => !(r.1.1 == bx)) al
      rw [← HAL9.out] at HN9 hfl hx
      have wsub : IntKind.i64.wrap ((al.length : Int) - (al9.length : Int)) = (al.length : Int) - (al9.length : Int) := IntWalk.i64_in _ (by omega)
      have HE := hid (And.intro hx.bk hx.kp_)
      clear hx HX
      go_wp2_with (at_len; refine wl_len rfl _ _ rfl ⟨_, _, HN9.out, ?_⟩)
      go_ret
      exact ⟨rfl, HE.out⟩
end Go.Proofs.Ytnceglkoolfncaa.Us
