/- Trash: the document's Dead; rows of numbers that are alike. (merged: Fa Fb Fc Fd Fk) -/
import Derived.Test.YtmgcapccgncmkaaDoorDa
import Derived.Test.YtmgcapccgncmkaaDoorPTrashFindsx12
import Derived.Test.YtmgcapccgncmkaaDoorDs
import Derived.Test.YtmgcapccgncmkaaDoorDx
import Derived.Test.YtmgcapccgncmkaaDoorDe
import Derived.Test.YtmgcapccgncmkaaDoorWEqStruct
import Derived.Test.YtmgcapccgncmkaaDoorRows
set_option linter.unusedSimpArgs false
set_option linter.unusedVariables false
namespace Go.Proofs.YtmgcapccgncmkaaDoor.Tr
open Go.RowKit Go.Pv Go.Proofs.YtmgcapccgncmkaaDoor.Im Go.Proofs.YtmgcapccgncmkaaDoor.Tx Go.Proofs.YtmgcapccgncmkaaDoorW.PrintWords Go.Proofs.YtmgcapccgncmkaaDoorW.PrintLast Go.Proofs.YtmgcapccgncmkaaDoorW.PrintMore Go.Proofs.YtmgcapccgncmkaaDoor.PTrashFinds

def isX' (c : S95) : Bool := decide (c.f3.f0 = 4)
/-- One of this name has a greater number. -/
def laterB (x y : S95) : Bool := decide (y.f1 = x.f1) && decide (y.f0 > x.f0)
theorem name_eq (a b : ByteArray) : a.toList = b.toList ↔ a = b := ⟨fun e => ByteArray.ext (Array.toList_inj.1 (by rwa [ByteArray.toList_eq, ByteArray.toList_eq] at e)), fun e => by rw [e]⟩
theorem rdead_l1 (l : List S95) (hl : l.length ≤ 1000) (i : Nat) (hi : i < l.length) (acc : List Int) (ha : acc.length ≤ 1000) (a b c : Int) : ∀ (n j k : Nat) (later : Bool), l.length = j + n →
    provostref33_Dead.l1 (k + n + 1) acc (i : Int) later (j : Int) a b c l = provostref33_Dead.l0 k (if isX' l[i] && (later || (l.drop j).any (laterB l[i])) then acc ++ [l[i].f0] else acc) ((i + 1 : Nat) : Int) a b c l
  | 0, j, k, later, h1 => by
    rw [show k + 0 + 1 = k + 1 from rfl, provostref33_Dead.l1, if_neg (by omega), if_pos (by omega), if_pos (by omega), rd95 l i hi, List.drop_of_length_le (by omega), wr1 (by omega)]
    unfold isX'
    by_cases h2 : l[i].f3.f0 = 4
    · rw [if_pos h2]
      cases later with
      | true => rw [if_pos rfl, if_pos (by omega)]; simp [h2]
      | false => rw [if_neg (by decide)]; simp
    · rw [if_neg h2]; simp [h2]
  | n + 1, j, k, later, h1 => by
    have hj : j < l.length := by omega
    have ih := fun b2 => rdead_l1 l hl i hi acc ha a b c n (j + 1) k b2 (by omega)
    rw [show k + (n + 1) + 1 = (k + n + 1) + 1 by omega, provostref33_Dead.l1, if_pos (by omega), wr1 (by omega), List.drop_eq_getElem_cons hj, List.any_cons]
    cases later with
    | true => rw [if_pos rfl, ih]; simp
    | false =>
      rw [if_neg (by decide), if_pos (by omega), if_pos (by omega), if_pos (by omega), rd95 l i hi, rd95 l j hj]
      unfold laterB
      by_cases h3 : l[j].f1 = l[i].f1
      · rw [if_pos ((name_eq _ _).2 h3), ih]
        simp [h3, laterB]
      · rw [if_neg (fun e => h3 ((name_eq _ _).1 e)), ih]
        simp [h3, laterB]
theorem rdead_l0 (l : List S95) (hl : l.length ≤ 1000) (a b c : Int) : ∀ (n i : Nat) (acc : List Int), l.length = i + n → acc.length ≤ i →
    ∃ k, provostref33_Dead.l0 k acc (i : Int) a b c l = some (acc ++ ((l.drop i).filter fun x => isX' x && l.any (laterB x)).map (·.f0))
  | 0, i, acc, h1, h2 => ⟨1, by
    rw [provostref33_Dead.l0, if_neg (by omega), List.drop_of_length_le (by omega)]
    simp⟩
  | n + 1, i, acc, h1, h2 => by
    have hi : i < l.length := by omega
    obtain ⟨k, hk⟩ := rdead_l0 l hl a b c n (i + 1) (if isX' l[i] && (false || (l.drop 0).any (laterB l[i])) then acc ++ [l[i].f0] else acc) (by omega) (by split <;> first | (simp; omega) | omega)
    refine ⟨(k + l.length + 1) + 1, ?_⟩
    have h3 := rdead_l1 l hl i hi acc (by omega) a b c l.length 0 k false (by omega)
    rw [provostref33_Dead.l0, if_pos (by omega)]
    refine h3.trans (hk.trans ?_)
    rw [List.drop_eq_getElem_cons hi, List.filter_cons]
    simp only [List.drop_zero, Bool.false_or]
    split
    · simp
    · rfl
theorem dead_doc (l : List S95) : (l.filter fun x => isX' x && l.any (laterB x)).map (·.f0) = deadL l := by
  unfold deadL
  congr 1
  refine List.filter_congr fun x hx => ?_
  have h := Trash.dead_iff S95.f0 S95.f1 isX' l x hx
  have e : deadB (lastL l) x = Trash.deadB S95.f0 S95.f1 isX' (Trash.lastL S95.f0 S95.f1 l) x := rfl
  rw [e, Bool.eq_iff_iff, h]
  unfold laterB
  simp [List.any_eq_true]
theorem same_l2 (l : List Int) (hl : l.length ≤ 1000) : ∀ (n k i : Nat), l.length = i + n → n < k → provostbook_SameInts.l0 k l l true (i : Int) = some true
  | 0, k, i, h1, h2 => by
    obtain ⟨k, rfl⟩ : ∃ j, k = j + 1 := ⟨k - 1, by omega⟩
    rw [provostbook_SameInts.l0, if_pos rfl, if_neg (by omega)]
  | n + 1, k, i, h1, h2 => by
    obtain ⟨k, rfl⟩ : ∃ j, k = j + 1 := ⟨k - 1, by omega⟩
    rw [provostbook_SameInts.l0, if_pos rfl, if_pos (by omega), if_pos (by omega), if_pos (by omega), wr1 (by omega)]
    have : (rd l (i : Int) == rd l (i : Int)) = true := by simp
    rw [this]
    exact same_l2 l hl n k (i + 1) (by omega) (by omega)
theorem same_any {w : World} {A A2 : Option Addr} {c c2 : Nat} {l : List Int} (hl : l.length ≤ 1000) (hC : Kd.C (Kd.int .i64) w A l.length l) (hc : l.length ≤ c) (hC2 : Kd.C (Kd.int .i64) w A2 l.length l) (hc2 : l.length ≤ c2) :
    Calls Tryd.prog 19 #[.slice A l.length c, .slice A2 l.length c2] w fun e w' => e = .returned (.bool true) ∧ Drawn0 w w' := by
  have h : provostbook_SameInts.f 1100 l l = some true := by
    unfold provostbook_SameInts.f
    rw [show ((l.length : Int) == (l.length : Int)) = true by simp]
    exact same_l2 l hl l.length 1100 0 (by omega) (by omega)
  exact provostbook_SameInts.calls 1100 A c l A2 c2 l true w hC hc hC2 hc2 h
end Go.Proofs.YtmgcapccgncmkaaDoor.Tr
namespace Go.Proofs.YtmgcapccgncmkaaDoor.Im
open Go.RowKit Go.Pv Go.Proofs.YtmgcapccgncmkaaDoorW.PrintWords Go.Proofs.YtmgcapccgncmkaaDoorW.PrintLast Go.Proofs.YtmgcapccgncmkaaDoorW.PrintMore Go.Proofs.YtmgcapccgncmkaaDoor.PImgKeeps

def UsesR (l : List S136) (now : Int) (a : ByteArray) (r : List S136) (m : Int) : Prop := m = now ∧ ∀ j, provostref18_There.f 1300 l now a = some j → r = useR l j
def LeavesR (l : List S136) (now : Int) (a : ByteArray) (r : List S136) (m : Int) : Prop := m = now ∧ ∀ j, provostref18_There.f 1300 l now a = some j → r = leaveR l now j
def NextsR (l : List S136) (now : Int) (r : List S136) (m : Int) : Prop := m = wrap64 (now + 1) ∧ r = l.map (nxE (wrap64 (now + 1)))
theorem with_x (l : List S136) (now i : Int) (a : ByteArray) (b c d : Int) (hl : l.length ≤ 1000) (h0 : 0 ≤ i) (h1 : i < (l.length : Int)) : ∃ r, provostref18_with.f l now i a b c d = some (r, now) ∧ r = l.set i.toNat ⟨a, b, c, d⟩ := by
  unfold provostref18_with.f
  simp only [Option.bind_some, List.nil_append, List.length_nil, Nat.zero_add]
  rw [if_pos (by omega), if_pos h0, if_pos h1]
  exact ⟨_, rfl, rfl⟩
def mixL (T : Int) (l : List S136) (k : Nat) : List S136 := (l.take k).map (nxE T) ++ l.drop k
theorem mix_length (T : Int) (l : List S136) (k : Nat) : (mixL T l k).length = l.length := by simp [mixL]; omega
theorem mix_rd {T : Int} {l l2 : List S136} {k : Nat} (h : l2 = mixL T l k) (hk : k < l.length) : rd_T136 l2 (k : Int) = l[k] := by
  subst h
  rw [rd136 _ k (by rw [mix_length]; exact hk)]
  unfold mixL
  rw [List.getElem_append_right (by simp; omega)]
  simp [Nat.min_eq_left (Nat.le_of_lt hk)]
theorem mix_step {T : Int} {l l2 : List S136} {k : Nat} (h : l2 = mixL T l k) (hk : k < l.length) : l2.set k (nxE T (rd_T136 l2 (k : Int))) = mixL T l (k + 1) := by
  rw [mix_rd h hk, h]
  unfold mixL
  have e1 : ((l.take k).map (nxE T)).length = k := by rw [List.length_map, List.length_take]; omega
  rw [List.set_append_right _ _ (by rw [e1]; exact Nat.le_refl _), e1, Nat.sub_self, List.drop_eq_getElem_cons hk, List.set_cons_zero, List.take_succ_eq_append_getElem hk, List.map_append, List.append_assoc]
  rfl
theorem mix_self {T : Int} {l l2 : List S136} {k : Nat} (h : l2 = mixL T l k) (hk : k < l.length) : l2.set k (rd_T136 l2 (k : Int)) = l2 := by
  have h2 : k < l2.length := by rw [h, mix_length]; exact hk
  rw [rd136 _ k h2]
  exact List.set_getElem_self h2
set_option maxRecDepth 10000 in
set_option maxHeartbeats 2000000 in
theorem ruse_x {w : World} {B c : Nat} {P : Nat → Prop} {A : Option Addr} {l : List S136} {now : Int} {a : ByteArray} (hR : QR w B P (.slice A l.length c) l) (hB : B ≤ w.heap.size) (hP : ∀ k, P k → k < w.heap.size) (hl : l.length ≤ 1000) :
    Calls Tryd.prog 65 #[.agg #[.slice A l.length c, .int .i64 now], .string a] w fun e w' => ∃ v r m t, e = .returned (.tuple #[.agg #[v, .int .i64 m], .int .i64 t]) ∧ QR w' B (fun k => P k ∨ w.heap.size ≤ k) v r ∧ UsesR l now a r m ∧ Below w.heap.size w w' := by
  obtain ⟨j, hj, h1, h2⟩ := rthere_t l now a hl 1300 (by omega)
  have hc := (Kd.R_reads' hR).2.1
  have HTh := hid (fun W (hC : Kd.C k136 W A l.length l) => provostref18_There.calls 1300 A c l now a j W hC hc hj)
  have HR := hid hR
  obtain ⟨W1, hW1, k2, k4, hB1, hS1⟩ := two_boxes (w := w) (x := .slice A l.length c) (y := now)
  have HC1 := hid (Kd.C_below (Kd.R_reads' hR).2.2 hB1)
  have HB1 := hid hB1
  obtain ⟨b2, hb2⟩ : ∃ b2, b2 = w.heap.size := ⟨_, rfl⟩
  obtain ⟨b4, hb4⟩ : ∃ b4, b4 = w.heap.size + 1 := ⟨_, rfl⟩
  rw [← hb2] at k2
  rw [← hb4] at k4
  have K2 := hid k2
  have K4 := hid k4
  have HS1 := hid hS1
  have HP := hid hP
  obtain ⟨e20, e21, e2f⟩ := cells2 k2
  have HJ := hid hj
  clear hj hR hB1 k2 k4 hS1 hP
  by_cases h0 : j < 0
  · have hd : decide (j < 0) = true := decide_eq_true h0
    go_enter Tryd.func65, Tryd.ntmps65
    go_upto_region 1 with fail
    rw [← hb4, ← hb2, ← hW1]
    have HB4 := hid hb4
    have HB2 := hid hb2
    clear hW1 hb4 hb2
    go_upto_region 3 with (go_at_call 96; go_must (with_reducible refine (HTh.out _ HC1.out).mono ?_); rintro e w2 ⟨rfl, hb⟩; have HB3 := hid hb; clear hb)
    have K2' := hid (blk_of HB3.out K2.out)
    have K4' := hid (blk_of HB3.out K4.out)
    obtain ⟨u0, u1, uf⟩ := cells2 K2'.out
    obtain ⟨v0, v1, vf⟩ := cells2 K4'.out
    have vf0 := vf 0
    have vf1 := vf 1
    clear e20 e21 e2f uf vf
    go_wp2_with fail
    refine bodyPost_ret (results_ct rfl _ _ b4 60 #[.slice A l.length c, .int .i64 now] (0, 0) _ rfl (put2 K4'.out) Tryd.underlying60 rfl (by kernel_rfl)) rfl ?_
    have hbb : Below w.heap.size w w2 := HB1.out.trans (HB3.out.mono HB1.out.size)
    have h4 := HB4.out
    exact ⟨_, l, now, _, rfl, Kd.R_mono (put2_R (Kd.R_below HR.out hbb) (fun k hk => by have := HP.out k hk; omega)) (fun k hk => .inl hk), ⟨rfl, fun j2 h2 => by rw [HJ.out] at h2; cases h2; unfold useR; rw [if_pos (of_decide_eq_true hd)]⟩, put2_below hbb (by omega)⟩
  · have hd : decide (j < 0) = false := decide_eq_false h0
    obtain ⟨i, rfl⟩ : ∃ i : Nat, j = (i : Int) := ⟨j.toNat, by omega⟩
    have hil : i < l.length := by omega
    go_enter Tryd.func65, Tryd.ntmps65
    go_upto_region 1 with fail
    rw [← hb4, ← hb2, ← hW1]
    have HB4 := hid hb4
    have HB2 := hid hb2
    clear hW1 hb4 hb2 h0 h1 h2
    go_upto_region 4 with (go_at_call 96; go_must (with_reducible refine (HTh.out _ HC1.out).mono ?_); rintro e w2 ⟨rfl, hb⟩; have HB3 := hid hb; clear hb)
    have K2' := hid (blk_of HB3.out K2.out)
    have K4' := hid (blk_of HB3.out K4.out)
    have HC2 := hid (Kd.C_below HC1.out HB3.out)
    obtain ⟨u0, u1, uf⟩ := cells2 K2'.out
    obtain ⟨ad, hA, d0, d1, d2, d3⟩ := at_T136 HC2.out (i : Int) (by omega) (by omega)
    subst hA
    simp only [Int.toNat_natCast] at d0 d1 d2 d3
    obtain ⟨r, hr, hrl⟩ := with_x l now (i : Int) ((rd_T136 l (i : Int)).f0) ((rd_T136 l (i : Int)).f1) (wrap64 (((rd_T136 l (i : Int)).f2) + 1)) ((rd_T136 l (i : Int)).f3) hl (by omega) (by omega)
    have HWi := hid (fun W (hC : Kd.C k136 W (some ad) l.length l) => provostref18_with.calls (some ad) c l now (i : Int) _ _ _ _ r now W hC hc hr)
    generalize (rd_T136 l (i : Int)).f0 = f0 at d0 HWi
    generalize (rd_T136 l (i : Int)).f1 = f1 at d1 HWi
    generalize (rd_T136 l (i : Int)).f2 = f2 at d2 HWi
    generalize (rd_T136 l (i : Int)).f3 = f3 at d3 HWi
    have HRL := hid hrl
    clear e20 e21 e2f uf hr hrl
    go_upto_region 6 with fail
    obtain ⟨W5, hW5⟩ : ∃ W5, W5 = w2.alloc (.cells #[.string f0, .int .i64 f1, .int .i64 (wrap64 (f2 + 1)), .int .i64 f3] 136) := ⟨_, rfl⟩
    have hB5 : Below w2.heap.size w2 W5 := by rw [hW5]; exact (Below.refl _ w2).alloc (Nat.le_refl _) _
    have k7 : W5.heap[w2.heap.size]? = some (.cells #[.string f0, .int .i64 f1, .int .i64 (wrap64 (f2 + 1)), .int .i64 f3] 136 (0, 0)) := by rw [hW5]; exact heap_alloc_new _ _
    rw [← hW5]
    have HB5 := hid hB5
    have K25 := hid (blk_of hB5 K2'.out)
    have K45 := hid (blk_of hB5 K4'.out)
    have HC5 := hid (Kd.C_below HC2.out hB5)
    obtain ⟨p0, p1, p2, p3, pf⟩ := cells4 k7
    obtain ⟨q0, q1, qf⟩ := cells2 K25.out
    clear d0 d1 d2 d3 u0 u1 pf qf k7 hW5 hB5
    have HF := hid (show ∀ V, Below W5.heap.size W5 V → V.cell? ⟨b4, 0, none⟩ = some (.slice none 0 0) ∧ V.cell? ⟨b4, 1, none⟩ = some (.int .i64 0) ∧ ∀ j, V.frozen? ⟨b4, j, none⟩ = false from fun V hV => cells2 (blk_of hV K45.out))
    go_wp2_with (go_at_call 95; go_must (with_reducible refine (HWi.out _ HC5.out).mono ?_); rintro e w6 ⟨v6, rfl, hR6, hb⟩; obtain ⟨A6, c6, hv6⟩ := Kd.R_slice hR6; subst hv6; have HR6 := hid hR6; have HB6 := hid hb; obtain ⟨v0, v1, vf⟩ := HF.out _ hb; have vf0 := vf 0; have vf1 := vf 1; clear hR6 hb vf)
    have K46 := hid (blk_of HB6.out K45.out)
    refine bodyPost_ret (results_ct rfl _ _ b4 60 #[.slice A6 r.length c6, .int .i64 now] (0, 0) _ rfl (put2 K46.out) Tryd.underlying60 rfl (by kernel_rfl)) rfl ?_
    have hbb : Below w.heap.size w w2 := HB1.out.trans (HB3.out.mono HB1.out.size)
    have hb5 : Below w.heap.size w W5 := hbb.trans (HB5.out.mono hbb.size)
    have hb6 : Below w.heap.size w w6 := hb5.trans (HB6.out.mono hb5.size)
    have h4 := HB4.out
    have hS := HS1.out
    have hs5 := HB5.out.size
    have hs3 := HB3.out.size
    have hs45 : b4 < W5.heap.size := by omega
    exact ⟨_, r, now, _, rfl, Kd.R_mono (put2_R (Kd.R_lower (Kd.R_bound HR6.out) (by have := hb5.size; omega)) (fun k hk => by have := hk.2.1; omega)) (fun k hk => .inr (by have := hk.2.1; have := hb5.size; omega)), ⟨rfl, fun j2 h2 => by rw [HJ.out] at h2; cases h2; rw [HRL.out]; unfold useR; rw [if_neg (by omega)]⟩, put2_below hb6 (by omega)⟩
set_option maxRecDepth 10000 in
set_option maxHeartbeats 2000000 in
theorem rleave_x {w : World} {B c : Nat} {P : Nat → Prop} {A : Option Addr} {l : List S136} {now : Int} {a : ByteArray} (hR : QR w B P (.slice A l.length c) l) (hB : B ≤ w.heap.size) (hP : ∀ k, P k → k < w.heap.size) (hl : l.length ≤ 1000) :
    Calls Tryd.prog 67 #[.agg #[.slice A l.length c, .int .i64 now], .string a] w fun e w' => ∃ v r m t, e = .returned (.tuple #[.agg #[v, .int .i64 m], .int .i64 t]) ∧ QR w' B (fun k => P k ∨ w.heap.size ≤ k) v r ∧ LeavesR l now a r m ∧ Below w.heap.size w w' := by
  obtain ⟨j, hj, h1, h2⟩ := rthere_t l now a hl 1300 (by omega)
  have hc := (Kd.R_reads' hR).2.1
  have HTh := hid (fun W (hC : Kd.C k136 W A l.length l) => provostref18_There.calls 1300 A c l now a j W hC hc hj)
  have HR := hid hR
  obtain ⟨W1, hW1, k2, k4, hB1, hS1⟩ := two_boxes (w := w) (x := .slice A l.length c) (y := now)
  have HC1 := hid (Kd.C_below (Kd.R_reads' hR).2.2 hB1)
  have HB1 := hid hB1
  obtain ⟨b2, hb2⟩ : ∃ b2, b2 = w.heap.size := ⟨_, rfl⟩
  obtain ⟨b4, hb4⟩ : ∃ b4, b4 = w.heap.size + 1 := ⟨_, rfl⟩
  rw [← hb2] at k2
  rw [← hb4] at k4
  have K2 := hid k2
  have K4 := hid k4
  have HS1 := hid hS1
  have HP := hid hP
  obtain ⟨e20, e21, e2f⟩ := cells2 k2
  have HJ := hid hj
  clear hj hR hB1 k2 k4 hS1 hP
  by_cases h0 : j < 0
  · have hd : decide (j < 0) = true := decide_eq_true h0
    go_enter Tryd.func67, Tryd.ntmps67
    go_upto_region 1 with fail
    rw [← hb4, ← hb2, ← hW1]
    have HB4 := hid hb4
    have HB2 := hid hb2
    clear hW1 hb4 hb2
    go_upto_region 3 with (go_at_call 96; go_must (with_reducible refine (HTh.out _ HC1.out).mono ?_); rintro e w2 ⟨rfl, hb⟩; have HB3 := hid hb; clear hb)
    have K2' := hid (blk_of HB3.out K2.out)
    have K4' := hid (blk_of HB3.out K4.out)
    obtain ⟨u0, u1, uf⟩ := cells2 K2'.out
    obtain ⟨v0, v1, vf⟩ := cells2 K4'.out
    have vf0 := vf 0
    have vf1 := vf 1
    clear e20 e21 e2f uf vf
    go_wp2_with fail
    refine bodyPost_ret (results_ct rfl _ _ b4 60 #[.slice A l.length c, .int .i64 now] (0, 0) _ rfl (put2 K4'.out) Tryd.underlying60 rfl (by kernel_rfl)) rfl ?_
    have hbb : Below w.heap.size w w2 := HB1.out.trans (HB3.out.mono HB1.out.size)
    have h4 := HB4.out
    exact ⟨_, l, now, _, rfl, Kd.R_mono (put2_R (Kd.R_below HR.out hbb) (fun k hk => by have := HP.out k hk; omega)) (fun k hk => .inl hk), ⟨rfl, fun j2 h2 => by rw [HJ.out] at h2; cases h2; unfold leaveR; rw [if_pos (of_decide_eq_true hd)]⟩, put2_below hbb (by omega)⟩
  · have hd : decide (j < 0) = false := decide_eq_false h0
    obtain ⟨i, rfl⟩ : ∃ i : Nat, j = (i : Int) := ⟨j.toNat, by omega⟩
    have hil : i < l.length := by omega
    go_enter Tryd.func67, Tryd.ntmps67
    go_upto_region 1 with fail
    rw [← hb4, ← hb2, ← hW1]
    have HB4 := hid hb4
    have HB2 := hid hb2
    clear hW1 hb4 hb2 h0 h1 h2
    go_upto_region 4 with (go_at_call 96; go_must (with_reducible refine (HTh.out _ HC1.out).mono ?_); rintro e w2 ⟨rfl, hb⟩; have HB3 := hid hb; clear hb)
    have K2' := hid (blk_of HB3.out K2.out)
    have K4' := hid (blk_of HB3.out K4.out)
    have HC2 := hid (Kd.C_below HC1.out HB3.out)
    obtain ⟨u0, u1, uf⟩ := cells2 K2'.out
    obtain ⟨ad, hA, d0, d1, d2, d3⟩ := at_T136 HC2.out (i : Int) (by omega) (by omega)
    subst hA
    simp only [Int.toNat_natCast] at d0 d1 d2 d3
    obtain ⟨f0, hf0⟩ : ∃ f, f = (rd_T136 l (i : Int)).f0 := ⟨_, rfl⟩
    obtain ⟨f1, hf1⟩ : ∃ f, f = (rd_T136 l (i : Int)).f1 := ⟨_, rfl⟩
    obtain ⟨f2, hf2⟩ : ∃ f, f = (rd_T136 l (i : Int)).f2 := ⟨_, rfl⟩
    obtain ⟨f3, hf3⟩ : ∃ f, f = (rd_T136 l (i : Int)).f3 := ⟨_, rfl⟩
    rw [← hf0] at d0
    rw [← hf1] at d1
    rw [← hf2] at d2
    rw [← hf3] at d3
    have HFX := hid (And.intro hf0 (And.intro hf1 (And.intro hf2 hf3)))
    clear hf0 hf1 hf2 hf3 e20 e21 e2f uf
    by_cases hz : f2 = 0
    · have hd2 : decide (f2 = 0) = true := decide_eq_true hz
      have hd3 : (f2 == 0) = true := by simpa using hz
      have HZ := hid hz
      clear hz
      go_upto_region 6 with fail
      obtain ⟨W5, hW5⟩ : ∃ W5, W5 = w2.alloc (.cells #[.string f0, .int .i64 f1, .int .i64 f2, .int .i64 f3] 136) := ⟨_, rfl⟩
      have hB5 : Below w2.heap.size w2 W5 := by rw [hW5]; exact (Below.refl _ w2).alloc (Nat.le_refl _) _
      rw [← hW5]
      have K25 := hid (blk_of hB5 K2'.out)
      have K45 := hid (blk_of hB5 K4'.out)
      obtain ⟨q0, q1, qf⟩ := cells2 K25.out
      obtain ⟨v0, v1, vf⟩ := cells2 K45.out
      have vf0 := vf 0
      have vf1 := vf 1
      have HB5 := hid hB5
      clear qf vf d0 d1 d2 d3 u0 u1 hW5 hB5
      go_wp2_with fail
      refine bodyPost_ret (results_ct rfl _ _ b4 60 #[.slice (some ad) l.length c, .int .i64 now] (0, 0) _ rfl (put2 K45.out) Tryd.underlying60 rfl (by kernel_rfl)) rfl ?_
      have hbb : Below w.heap.size w w2 := HB1.out.trans (HB3.out.mono HB1.out.size)
      have hb5 : Below w.heap.size w W5 := hbb.trans (HB5.out.mono hbb.size)
      have h4 := HB4.out
      exact ⟨_, l, now, _, rfl, Kd.R_mono (put2_R (Kd.R_below HR.out hb5) (fun k hk => by have := HP.out k hk; omega)) (fun k hk => .inl hk), ⟨rfl, fun j2 h2 => by rw [HJ.out] at h2; cases h2; unfold leaveR; rw [if_neg (by omega), if_pos (by rw [← HFX.out.2.2.1]; exact HZ.out)]⟩, put2_below hb5 (by omega)⟩
    · have hd2 : decide (f2 = 0) = false := decide_eq_false hz
      have hd3 : (f2 == 0) = false := by simpa using hz
      have HZ := hid hz
      clear hz
      by_cases hy : wrap64 (f2 - 1) = 0
      · have hd4 : decide (wrap64 (f2 - 1) = 0) = true := decide_eq_true hy
        have hd5 : (wrap64 (f2 - 1) == 0) = true := by simpa using hy
        have hb2l : b2 < w2.heap.size := (Array.getElem?_eq_some_iff.1 K2'.out).1
        have HY := hid hy
        clear hy
        obtain ⟨r, hr, hrl⟩ := with_x l now (i : Int) f0 f1 (wrap64 (f2 - 1)) now hl (by omega) (by omega)
        have HWi := hid (fun W (hC : Kd.C k136 W (some ad) l.length l) => provostref18_with.calls (some ad) c l now (i : Int) _ _ _ _ r now W hC hc hr)
        have HRL := hid hrl
        clear hr hrl
        go_upto_region 10 with fail
        obtain ⟨W5, hW5⟩ : ∃ W5, W5 = w2.alloc (.cells #[.string f0, .int .i64 f1, .int .i64 (wrap64 (f2 - 1)), .int .i64 now] 136) := ⟨_, rfl⟩
        have hB5 : Below w2.heap.size w2 W5 := by rw [hW5]; exact (Below.refl _ w2).alloc (Nat.le_refl _) _
        have k7 : W5.heap[w2.heap.size]? = some (.cells #[.string f0, .int .i64 f1, .int .i64 (wrap64 (f2 - 1)), .int .i64 now] 136 (0, 0)) := by rw [hW5]; exact heap_alloc_new _ _
        rw [← hW5]
        have HB5 := hid hB5
        have K25 := hid (blk_of hB5 K2'.out)
        have K45 := hid (blk_of hB5 K4'.out)
        have HC5 := hid (Kd.C_below HC2.out hB5)
        obtain ⟨p0, p1, p2, p3, pf⟩ := cells4 k7
        obtain ⟨q0, q1, qf⟩ := cells2 K25.out
        clear d0 d1 d2 d3 u0 u1 pf qf k7 hW5 hB5
        have HF := hid (show ∀ V, Below W5.heap.size W5 V → V.cell? ⟨b4, 0, none⟩ = some (.slice none 0 0) ∧ V.cell? ⟨b4, 1, none⟩ = some (.int .i64 0) ∧ ∀ j, V.frozen? ⟨b4, j, none⟩ = false from fun V hV => cells2 (blk_of hV K45.out))
        go_wp2_with (go_at_call 95; go_must (with_reducible refine (HWi.out _ HC5.out).mono ?_); rintro e w6 ⟨v6, rfl, hR6, hb⟩; obtain ⟨A6, c6, hv6⟩ := Kd.R_slice hR6; subst hv6; have HR6 := hid hR6; have HB6 := hid hb; obtain ⟨v0, v1, vf⟩ := HF.out _ hb; have vf0 := vf 0; have vf1 := vf 1; clear hR6 hb vf)
        have K46 := hid (blk_of HB6.out K45.out)
        refine bodyPost_ret (results_ct rfl _ _ b4 60 #[.slice A6 r.length c6, .int .i64 now] (0, 0) _ rfl (put2 K46.out) Tryd.underlying60 rfl (by kernel_rfl)) rfl ?_
        have hbb : Below w.heap.size w w2 := HB1.out.trans (HB3.out.mono HB1.out.size)
        have hb5 : Below w.heap.size w W5 := hbb.trans (HB5.out.mono hbb.size)
        have hb6 : Below w.heap.size w w6 := hb5.trans (HB6.out.mono hb5.size)
        have h4 := HB4.out
        have hS := HS1.out
        have hs5 := HB5.out.size
        have hs3 := HB3.out.size
        have hs45 : b4 < W5.heap.size := by omega
        exact ⟨_, r, now, _, rfl, Kd.R_mono (put2_R (Kd.R_lower (Kd.R_bound HR6.out) (by have := hb5.size; omega)) (fun k hk => by have := hk.2.1; omega)) (fun k hk => .inr (by have := hk.2.1; have := hb5.size; omega)), ⟨rfl, fun j2 h2 => by rw [HJ.out] at h2; cases h2; rw [HRL.out]; unfold leaveR; rw [if_neg (by omega), ← HFX.out.1, ← HFX.out.2.1, ← HFX.out.2.2.1, ← HFX.out.2.2.2, if_neg HZ.out, if_pos HY.out]⟩, put2_below hb6 (by omega)⟩
      · have hd4 : decide (wrap64 (f2 - 1) = 0) = false := decide_eq_false hy
        have hd5 : (wrap64 (f2 - 1) == 0) = false := by simpa using hy
        have HY := hid hy
        clear hy
        obtain ⟨r, hr, hrl⟩ := with_x l now (i : Int) f0 f1 (wrap64 (f2 - 1)) f3 hl (by omega) (by omega)
        have HWi := hid (fun W (hC : Kd.C k136 W (some ad) l.length l) => provostref18_with.calls (some ad) c l now (i : Int) _ _ _ _ r now W hC hc hr)
        have HRL := hid hrl
        clear hr hrl
        go_upto_region 10 with fail
        obtain ⟨W5, hW5⟩ : ∃ W5, W5 = w2.alloc (.cells #[.string f0, .int .i64 f1, .int .i64 (wrap64 (f2 - 1)), .int .i64 f3] 136) := ⟨_, rfl⟩
        have hB5 : Below w2.heap.size w2 W5 := by rw [hW5]; exact (Below.refl _ w2).alloc (Nat.le_refl _) _
        have k7 : W5.heap[w2.heap.size]? = some (.cells #[.string f0, .int .i64 f1, .int .i64 (wrap64 (f2 - 1)), .int .i64 f3] 136 (0, 0)) := by rw [hW5]; exact heap_alloc_new _ _
        rw [← hW5]
        have HB5 := hid hB5
        have K25 := hid (blk_of hB5 K2'.out)
        have K45 := hid (blk_of hB5 K4'.out)
        have HC5 := hid (Kd.C_below HC2.out hB5)
        obtain ⟨p0, p1, p2, p3, pf⟩ := cells4 k7
        obtain ⟨q0, q1, qf⟩ := cells2 K25.out
        clear d0 d1 d2 d3 u0 u1 pf qf k7 hW5 hB5
        have HF := hid (show ∀ V, Below W5.heap.size W5 V → V.cell? ⟨b4, 0, none⟩ = some (.slice none 0 0) ∧ V.cell? ⟨b4, 1, none⟩ = some (.int .i64 0) ∧ ∀ j, V.frozen? ⟨b4, j, none⟩ = false from fun V hV => cells2 (blk_of hV K45.out))
        go_wp2_with (go_at_call 95; go_must (with_reducible refine (HWi.out _ HC5.out).mono ?_); rintro e w6 ⟨v6, rfl, hR6, hb⟩; obtain ⟨A6, c6, hv6⟩ := Kd.R_slice hR6; subst hv6; have HR6 := hid hR6; have HB6 := hid hb; obtain ⟨v0, v1, vf⟩ := HF.out _ hb; have vf0 := vf 0; have vf1 := vf 1; clear hR6 hb vf)
        have K46 := hid (blk_of HB6.out K45.out)
        refine bodyPost_ret (results_ct rfl _ _ b4 60 #[.slice A6 r.length c6, .int .i64 now] (0, 0) _ rfl (put2 K46.out) Tryd.underlying60 rfl (by kernel_rfl)) rfl ?_
        have hbb : Below w.heap.size w w2 := HB1.out.trans (HB3.out.mono HB1.out.size)
        have hb5 : Below w.heap.size w W5 := hbb.trans (HB5.out.mono hbb.size)
        have hb6 : Below w.heap.size w w6 := hb5.trans (HB6.out.mono hb5.size)
        have h4 := HB4.out
        have hS := HS1.out
        have hs5 := HB5.out.size
        have hs3 := HB3.out.size
        have hs45 : b4 < W5.heap.size := by omega
        exact ⟨_, r, now, _, rfl, Kd.R_mono (put2_R (Kd.R_lower (Kd.R_bound HR6.out) (by have := hb5.size; omega)) (fun k hk => by have := hk.2.1; omega)) (fun k hk => .inr (by have := hk.2.1; have := hb5.size; omega)), ⟨rfl, fun j2 h2 => by rw [HJ.out] at h2; cases h2; rw [HRL.out]; unfold leaveR; rw [if_neg (by omega), ← HFX.out.1, ← HFX.out.2.1, ← HFX.out.2.2.1, ← HFX.out.2.2.2, if_neg HZ.out, if_neg HY.out]⟩, put2_below hb6 (by omega)⟩
set_option maxRecDepth 10000 in
set_option maxHeartbeats 4000000 in
theorem rnext_x {w : World} {B c : Nat} {P : Nat → Prop} {A : Option Addr} {l : List S136} {now : Int} (hR : QR w B P (.slice A l.length c) l) (hB : B ≤ w.heap.size) (hP : ∀ k, P k → k < w.heap.size) (hl : l.length ≤ 1000) :
    Calls Tryd.prog 62 #[.agg #[.slice A l.length c, .int .i64 now]] w fun e w' => ∃ v r m A' n' c' L, e = .returned (.tuple #[.agg #[v, .int .i64 m], .slice A' n' c']) ∧ QR w' B (fun k => P k ∨ w.heap.size ≤ k) v r ∧ NextsR l now r m ∧ Below w.heap.size w w' ∧
      n' = L.length ∧ L.length ≤ l.length ∧ SlOf w' 9 1 encS (.slice A' n' c') L := by
  obtain ⟨W1, hW1, k2, k4, hB1, hS1⟩ := two_boxes (w := w) (x := .slice A l.length c) (y := now)
  obtain ⟨b1, hb1⟩ : ∃ b1, b1 = w.heap.size := ⟨_, rfl⟩
  obtain ⟨b2, hb2⟩ : ∃ b2, b2 = w.heap.size + 1 := ⟨_, rfl⟩
  obtain ⟨T, hT⟩ : ∃ T, T = wrap64 (now + 1) := ⟨_, rfl⟩
  obtain ⟨W2, hW2⟩ : ∃ W2, W2 = W1.setCell ⟨b1, 1, none⟩ (.int .i64 T) := ⟨_, rfl⟩
  rw [← hb1] at k2
  rw [← hb2] at k4
  have hk2 : Keeps (fun i => i = b1) W1 W2 := by rw [hW2]; exact (Keeps.refl (fun i => i = b1) W1).setCell ⟨b1, 1, none⟩ _ (.inl rfl)
  have H0 : NX w W2 B b1 b2 P (.slice A l.length c) l T (.slice none 0 0) [] := by
    refine ⟨by rw [hW2]; exact hB1.setCell (p := ⟨b1, 1, none⟩) (by simp only; omega) _, by rw [hW2]; exact heap_setCell_same _ b1 1 _ _ _ k2, (hk2.block b2 (Array.getElem?_eq_some_iff.1 k4).1 (by omega)).trans k4, ?_, SlRow.nil _ _ _, by simp [Value.ownBlock], by omega, by omega, by omega⟩
    rw [hW2]
    exact Kd.R_mono (Kd.R_far (p := ⟨b1, 1, none⟩) (Kd.R_below hR hB1) (fun k hk => by have := hP k hk; simp only; omega) (.int .i64 T)) (fun k hk => by have := hP k hk; exact ⟨.inl hk, by omega, by omega, by simp [Value.ownBlock]⟩)
  have HN0 := hid H0
  have HB := hid hB
  obtain ⟨e20, e21, e2f⟩ := cells2 k2
  have e2f1 := e2f 1
  obtain ⟨n, hn⟩ : ∃ n, n = l.length := ⟨_, rfl⟩
  rw [← hn] at HN0 hl hW1 ⊢
  have hln := hid hn.symm
  have HM0 := hid (show l = mixL T l 0 by simp [mixL])
  have HT0 := hid hT
  clear hn e2f hR hB1 k2 k4 hS1 hP hk2 H0 hB
  go_enter Tryd.func62, Tryd.ntmps62
  go_upto_region 1 with fail
  rw [← hb2, ← hb1, ← hW1]
  clear hW1 hb1 hb2
  go_upto_region 2 with fail
  rw [← hT, ← hW2]
  clear e20 e21 e2f1 hT hW2
  go_wp2_with fail
  go_loopg [4, 5] n (fun q s4 s5 wr => ∃ (k : Nat) (A1 : Option Addr) (n1 c1 : Nat) (A2 : Option Addr) (c2 : Nat) (l2 : List S136) (L : List ByteArray), s4 = .slice A1 n1 c1 ∧ s5 = .int .i64 (k : Int) ∧ q = n - k ∧ k ≤ n ∧ Hid (l2.length = n) ∧ Hid (l2 = mixL T l k) ∧ Hid (n1 = L.length) ∧ Hid (L.length ≤ k) ∧ Hid (NX w wr B b1 b2 P (.slice A2 n c2) l2 T (.slice A1 n1 c1) L))
  case atStart => exact ⟨0, none, 0, 0, A, c, l, [], rfl, rfl, by omega, by omega, hln, HM0, hid rfl, hid (Nat.zero_le _), HN0⟩
  case round =>
    clear HN0
    obtain ⟨k, A1, n1, c1, A2, c2, l2, L, rfl, rfl, rfl, hkn, hl2, HMX, hn1, hLk, HN⟩ := hrel
    have hlz := hid (show k < n → k < l.length from fun h => by have := hln.out; omega)
    have hwk : wrap64 ((k : Int) + 1) = ((k + 1 : Nat) : Int) := wr1 (by omega)
    have hwk2 : IntKind.i64.wrap ((k : Int) + 1) = ((k + 1 : Nat) : Int) := by rw [IntWalk.i64_in _ (by omega)]; omega
    obtain ⟨x0, x1, -⟩ := cells2 HN.out.k1
    by_cases hlt : k < n
    · have hc2 := (Kd.R_reads' HN.out.r).2.1
      have hC := (Kd.R_reads' HN.out.r).2.2
      rw [hl2.out] at hC
      obtain ⟨ad, hA, d0, d1, d2, d3⟩ := at_T136 hC (k : Int) (by omega) (by omega)
      subst hA
      simp only [Int.toNat_natCast] at d0 d1 d2 d3
      obtain ⟨f0, hf0⟩ : ∃ f, f = (rd_T136 l2 (k : Int)).f0 := ⟨_, rfl⟩
      obtain ⟨f1, hf1⟩ : ∃ f, f = (rd_T136 l2 (k : Int)).f1 := ⟨_, rfl⟩
      obtain ⟨f2, hf2⟩ : ∃ f, f = (rd_T136 l2 (k : Int)).f2 := ⟨_, rfl⟩
      obtain ⟨f3, hf3⟩ : ∃ f, f = (rd_T136 l2 (k : Int)).f3 := ⟨_, rfl⟩
      rw [← hf0] at d0
      rw [← hf1] at d1
      rw [← hf2] at d2
      rw [← hf3] at d3
      have hb1l := HN.out.lt.1
      have hcc := hid hc2
      have HFX := hid (And.intro hf0 (And.intro hf1 (And.intro hf2 hf3)))
      have hkl := hlz.out hlt
      have HKL := hid hkl
      clear hf0 hf1 hf2 hf3 hC hc2 hkl
      by_cases hz : f1 = 0
      · have hd2 : decide (f1 = 0) = true := decide_eq_true hz
        have hd3 : (f1 == 0) = true := by simpa using hz
        have HN2 := hid (HN.out.later ((Below.refl _ wr).alloc (Nat.le_refl _) (.cells #[.string f0, .int .i64 f1, .int .i64 f2, .int .i64 f3] 136)))
        have HMZ := hid (show l2 = mixL T l (k + 1) from by
          have h1 := mix_step HMX.out HKL.out
          have h2 : nxE T (rd_T136 l2 (k : Int)) = rd_T136 l2 (k : Int) := by unfold nxE; rw [if_pos (by rw [← HFX.out.2.1]; exact hz)]
          rw [h2, mix_self HMX.out HKL.out] at h1
          exact h1)
        clear hz
        go_wp2_with fail
        go_roundg (n - (k + 1))
        case measure => omega
        case rel => exact ⟨k + 1, A1, n1, c1, some ad, c2, l2, L, rfl, rfl, rfl, by omega, hl2, HMZ, hn1, hid (Nat.le_succ_of_le hLk.out), HN2⟩
      · have HZ := hid hz
        have hd2 : decide (f1 = 0) = false := decide_eq_false hz
        have hd3 : (f1 == 0) = false := by simpa using hz
        clear hz
        by_cases hy : wrap64 (f1 - 1) = 0
        · have hd4 : decide (wrap64 (f1 - 1) = 0) = true := decide_eq_true hy
          have hd5 : (wrap64 (f1 - 1) == 0) = true := by simpa using hy
          have HY := hid hy
          clear hy
          obtain ⟨r, hr, hrx⟩ := with_x l2 T (k : Int) f0 (wrap64 (f1 - 1)) f2 T (by have := hl2.out; omega) (by omega) (by have := hl2.out; omega)
          have hwi := fun W (hC : Kd.C k136 W (some ad) l2.length l2) => provostref18_with.calls (some ad) c2 l2 T (k : Int) _ _ _ _ r T W hC (by have := hl2.out; have := hcc.out; omega) hr
          have hrl : r.length = l2.length := by rw [hrx, List.length_set]
          have HMR := hid (show r = mixL T l (k + 1) from by
            rw [hrx, ← mix_step HMX.out HKL.out]
            unfold nxE
            rw [← HFX.out.1, ← HFX.out.2.1, ← HFX.out.2.2.1, ← HFX.out.2.2.2, if_neg HZ.out, if_pos HY.out]
            rfl)
          clear hrx
          rw [hl2.out] at hwi hrl
          have HWi := hid hwi
          have HRL := hid hrl
          clear hwi hr hrl
          go_upto_region 11 with fail
          obtain ⟨W5, hW5⟩ : ∃ W5, W5 = wr.alloc (.cells #[.string f0, .int .i64 (wrap64 (f1 - 1)), .int .i64 f2, .int .i64 T] 136) := ⟨_, rfl⟩
          have hB5 : Below wr.heap.size wr W5 := by rw [hW5]; exact (Below.refl _ wr).alloc (Nat.le_refl _) _
          have k7 : W5.heap[wr.heap.size]? = some (.cells #[.string f0, .int .i64 (wrap64 (f1 - 1)), .int .i64 f2, .int .i64 T] 136 (0, 0)) := by rw [hW5]; exact heap_alloc_new _ _
          rw [← hW5]
          have HN5 := hid (HN.out.later hB5)
          have K7 := hid k7
          obtain ⟨p0, p1, p2, p3, -⟩ := cells4 k7
          have hLk2 := hLk.out
          obtain ⟨A3, n3, c3, w6, HRA, HN3, HN6, HK6⟩ := HN5.out.app (by omega) hn1.out f0
          have hs7 : ∀ g, (Value.slice A1 n1 c1).ownBlock = some g → wr.heap.size ≠ g := fun g hg e => by
            have := SlRow.lt HN.out.sl hg
            omega
          have K76 := hid ((HK6.out.block wr.heap.size (Array.getElem?_eq_some_iff.1 k7).1 (fun e => hs7 _ e rfl)).trans k7)
          clear d0 d1 d2 d3 x0 x1 p1 p2 p3 hW5 hB5 hs7 hb1l k7
          go_upto_region 12 with (at_builtin; refine wl_append rfl _ _ _ rfl ⟨_, _, HRA.out, ?_⟩)
          obtain ⟨x0, x1, -⟩ := cells2 HN6.out.k1
          obtain ⟨p0, p1, p2, p3, -⟩ := cells4 K76.out
          have hC := (Kd.R_reads' HN6.out.r).2.2
          rw [hl2.out] at hC
          have HC6 := hid hC
          clear hC
          have HF := hid (show ∀ V, Below w6.heap.size w6 V → V.cell? ⟨b1, 0, none⟩ = some (.slice (some ad) n c2) ∧ V.cell? ⟨b1, 1, none⟩ = some (.int .i64 T) ∧ ∀ j, V.frozen? ⟨b1, j, none⟩ = false from fun V hV => cells2 (blk_of hV HN6.out.k1))
          go_wp2_with (go_at_call 95; go_must (with_reducible refine (HWi.out _ HC6.out).mono ?_); rintro e w7 ⟨v7, rfl, hR7, hb⟩; obtain ⟨A7, c7, hv7⟩ := Kd.R_slice hR7; subst hv7; rw [HRL.out] at hR7; have HN8 := hid (HN6.out.with hR7 hb HB.out); obtain ⟨v0, v1, vf⟩ := HF.out _ hb; have vf0 := vf 0; have vf1 := vf 1; rw [HRL.out]; clear hR7 hb vf)
          go_roundg (n - (k + 1))
          case measure => omega
          case rel => exact ⟨k + 1, A3, n3, c3, A7, c7, r, L ++ [f0], rfl, rfl, rfl, by omega, HRL, HMR, HN3, hid (by have := hLk.out; simp; omega), HN8⟩
        · have hd4 : decide (wrap64 (f1 - 1) = 0) = false := decide_eq_false hy
          have hd5 : (wrap64 (f1 - 1) == 0) = false := by simpa using hy
          have HY := hid hy
          clear hy
          obtain ⟨r, hr, hrx⟩ := with_x l2 T (k : Int) f0 (wrap64 (f1 - 1)) f2 f3 (by have := hl2.out; omega) (by omega) (by have := hl2.out; omega)
          have hwi := fun W (hC : Kd.C k136 W (some ad) l2.length l2) => provostref18_with.calls (some ad) c2 l2 T (k : Int) _ _ _ _ r T W hC (by have := hl2.out; have := hcc.out; omega) hr
          have hrl : r.length = l2.length := by rw [hrx, List.length_set]
          have HMR := hid (show r = mixL T l (k + 1) from by
            rw [hrx, ← mix_step HMX.out HKL.out]
            unfold nxE
            rw [← HFX.out.1, ← HFX.out.2.1, ← HFX.out.2.2.1, ← HFX.out.2.2.2, if_neg HZ.out, if_neg HY.out]
            rfl)
          clear hrx
          rw [hl2.out] at hwi hrl
          have HWi := hid hwi
          have HRL := hid hrl
          clear hwi hr hrl
          go_upto_region 12 with fail
          obtain ⟨w6, hw6⟩ : ∃ w6, w6 = wr.alloc (.cells #[.string f0, .int .i64 (wrap64 (f1 - 1)), .int .i64 f2, .int .i64 f3] 136) := ⟨_, rfl⟩
          have hB5 : Below wr.heap.size wr w6 := by rw [hw6]; exact (Below.refl _ wr).alloc (Nat.le_refl _) _
          have K76 := hid (show w6.heap[wr.heap.size]? = some (.cells #[.string f0, .int .i64 (wrap64 (f1 - 1)), .int .i64 f2, .int .i64 f3] 136 (0, 0)) by rw [hw6]; exact heap_alloc_new _ _)
          rw [← hw6]
          have HN6 := hid (HN.out.later hB5)
          clear d0 d1 d2 d3 x0 x1 hw6 hB5 hb1l
          obtain ⟨x0, x1, -⟩ := cells2 HN6.out.k1
          obtain ⟨p0, p1, p2, p3, -⟩ := cells4 K76.out
          have hC := (Kd.R_reads' HN6.out.r).2.2
          rw [hl2.out] at hC
          have HC6 := hid hC
          clear hC
          have HF := hid (show ∀ V, Below w6.heap.size w6 V → V.cell? ⟨b1, 0, none⟩ = some (.slice (some ad) n c2) ∧ V.cell? ⟨b1, 1, none⟩ = some (.int .i64 T) ∧ ∀ j, V.frozen? ⟨b1, j, none⟩ = false from fun V hV => cells2 (blk_of hV HN6.out.k1))
          go_wp2_with (go_at_call 95; go_must (with_reducible refine (HWi.out _ HC6.out).mono ?_); rintro e w7 ⟨v7, rfl, hR7, hb⟩; obtain ⟨A7, c7, hv7⟩ := Kd.R_slice hR7; subst hv7; rw [HRL.out] at hR7; have HN8 := hid (HN6.out.with hR7 hb HB.out); obtain ⟨v0, v1, vf⟩ := HF.out _ hb; have vf0 := vf 0; have vf1 := vf 1; rw [HRL.out]; clear hR7 hb vf)
          go_roundg (n - (k + 1))
          case measure => omega
          case rel => exact ⟨k + 1, A1, n1, c1, A7, c7, r, L, rfl, rfl, rfl, by omega, HRL, HMR, hn1, hid (Nat.le_succ_of_le hLk.out), HN8⟩
    · have hke : k = n := by omega
      subst hke
      obtain ⟨z0, z1, zf⟩ := cells2 HN.out.k2
      have zf0 := zf 0
      have zf1 := zf 1
      clear zf
      go_wp2_with fail
      refine bodyPost_ret (results_ct rfl _ _ b2 60 #[.slice A2 k c2, .int .i64 T] (0, 0) _ rfl (put2 HN.out.k2) Tryd.underlying60 rfl (by kernel_rfl)) rfl ?_
      have hk : Keeps (fun i => i = b2) wr ((wr.setCell ⟨b2, 0, none⟩ (.slice A2 k c2)).setCell ⟨b2, 1, none⟩ (.int .i64 T)) := ((Keeps.refl (fun i => i = b2) wr).setCell ⟨b2, 0, none⟩ _ (.inl rfl)).setCell ⟨b2, 1, none⟩ _ (.inl rfl)
      exact ⟨_, l2, T, A1, n1, c1, L, rfl, Kd.R_mono (put2_R HN.out.r (fun k hk => hk.2.2.1)) (fun k hk => hk.1), ⟨HT0.out, by rw [HMX.out, ← HT0.out]; unfold mixL; rw [← hln.out, List.take_length, List.drop_length, List.append_nil]⟩, put2_below HN.out.low HN.out.b.2.1, hn1.out, hLk.out, SlRow.kept HN.out.sl hk (fun g hg e => (HN.out.new g hg).2.2 e)⟩
end Go.Proofs.YtmgcapccgncmkaaDoor.Im
namespace Go.Proofs.YtmgcapccgncmkaaDoor.Tr
open Go.RowKit Go.Pv Go.Proofs.YtmgcapccgncmkaaDoor.Im Go.Proofs.YtmgcapccgncmkaaDoor.Tx Go.Proofs.YtmgcapccgncmkaaDoorW.PrintWords Go.Proofs.YtmgcapccgncmkaaDoorW.PrintLast Go.Proofs.YtmgcapccgncmkaaDoor.PImgKeeps

section
variable {w W V : World} {p mb g3 g5 n m : Nat} {al al2 : IL} {tick t2 : Int} {v : Value} {now : Int} {l : List S136}
/-- What an act of the program says; of the document. -/
def ProgX (w : World) (p mb g3 g5 n : Nat) (al : IL) (tick : Int) (v : Value) (now : Int) (l : List S136) (e : Ending) (V : World) : Prop := ∃ x, e = .returned x ∧ IM w V p mb g3 g5 n al tick v now l
def RefX (w : World) (p mb g3 g5 n : Nat) (al : IL) (tick : Int) (v : Value) (now m : Int) (r : List S136) (e : Ending) (V : World) : Prop :=
  ∃ A2 n2 c2 t, e = .returned (.tuple #[.agg #[.slice A2 n2 c2, .int .i64 m], t]) ∧ IM w ((V.setCell ⟨g5, 0, none⟩ (.slice A2 n2 c2)).setCell ⟨g5, 1, none⟩ (.int .i64 m)) p mb g3 g5 (n + 1) al tick (.slice A2 n2 c2) m r ∧ V.heap[g5]? = some (.cells #[v, .int .i64 now] 60 (0, 0))
theorem IM.pullX (h : IM w W p mb g3 g5 n al tick v now l) {k : ByteArray} (hk : k.size ≤ 100) (hG : Gm w) : Calls Tryd.prog 58 #[.pointer (some ⟨p, 0, none⟩), .string k] W (ProgX w p mb g3 g5 (n + 1) (pullA k al) tick v now l) := by
  refine (pull_any h.bk k (by omega) (hG.later h.low)).mono ?_
  rintro e V ⟨rfl, h1, h2⟩
  have hne := ne_act h.ne 0 tick k
  have := gi_act h.gi 0 k hk
  exact ⟨_, rfl, h.prog h1 (by simpa [actA, actT] using this) (by simpa [actA] using hne) (h2.mono (fun i hi => .inr hi))⟩
theorem IM.useX (h : IM w W p mb g3 g5 n al tick v now l) {k : ByteArray} (hk : k.size ≤ 100) (hn : n ≤ 400) : Calls Tryd.prog 64 #[.pointer (some ⟨p, 0, none⟩), .string k] W (ProgX w p mb g3 g5 (n + 1) (useA k al) tick v now l) := by
  refine (use_any h.bk k (by have := h.gi.rg k; unfold Rg at this; omega)).mono ?_
  rintro e V ⟨rfl, h1, h2⟩
  have hne := ne_act h.ne 2 tick k
  have := gi_act h.gi 2 k hk
  exact ⟨_, rfl, h.prog h1 (by simpa [actA, actT] using this) (by simpa [actA] using hne) (h2.mono (fun i hi => .inr hi))⟩
theorem IM.leaveX (h : IM w W p mb g3 g5 n al tick v now l) {k : ByteArray} (hk : k.size ≤ 100) (hn : n ≤ 400) : Calls Tryd.prog 66 #[.pointer (some ⟨p, 0, none⟩), .string k] W (ProgX w p mb g3 g5 (n + 1) (leaveA k tick al) tick v now l) := by
  refine (leave_any h.bk k (by have := h.gi.rg k; unfold Rg at this; omega)).mono ?_
  rintro e V ⟨rfl, h1, h2⟩
  have hne := ne_act h.ne 3 tick k
  have := gi_act h.gi 3 k hk
  exact ⟨_, rfl, h.prog h1 (by simpa [actA, actT] using this) (by simpa [actA] using hne) (h2.mono (fun i hi => .inr hi))⟩
theorem IM.ptickX (h : IM w W p mb g3 g5 n al tick v now l) (hn : n ≤ 400) : Calls Tryd.prog 59 #[.pointer (some ⟨p, 0, none⟩)] W (ProgX w p mb g3 g5 (n + 1) (tkA (tick + 1) al (namesA al)) (tick + 1) v now l) := by
  have ht := h.gi.t
  refine (tick_any h.bk h.gi.short (by omega) (fun k => by have := h.gi.rg k; unfold Rg at this; omega)).mono ?_
  rintro e V ⟨A, c, rfl, h1, h2, -⟩
  have hne := ne_act h.ne 1 tick (⟨#[]⟩ : ByteArray)
  have := gi_act h.gi 1 ⟨#[]⟩ (by decide)
  exact ⟨_, rfl, h.prog h1 (by simpa [actA, actT] using this) (by simpa [actA] using hne) h2⟩
theorem pullA_len (k : ByteArray) (al : IL) : (pullA k al).length ≤ al.length + 1 := by
  unfold pullA
  split
  · have h := congrArg List.length (aset_keys k (ticksOf k, 0, 0) al)
    rw [List.length_map] at h
    rw [h]
    split
    · rw [List.length_map]; omega
    · rw [List.length_append, List.length_map]; simp
  · omega
theorem IM.rpull (h : IM w W p mb g3 g5 n al2 t2 v tick (entL al)) (hg : GI m al tick) {k : ByteArray} (hk : k.size ≤ 100) (hn : n ≤ 400) : Calls Tryd.prog 61 #[.agg #[v, .int .i64 tick], .string k] W (RefX w p mb g3 g5 n al2 t2 v tick tick (entL (pullA k al))) := by
  obtain ⟨e0, hr⟩ := pull_ent hg k hk tick
  have hB := h.low.size
  have := provostref18_Pull.calls 2000 (fun k => (w.heap.size ≤ k ∧ k ≠ p ∧ k ≠ mb ∧ k ≠ g3 ∧ k ≠ g5) ∧ k < W.heap.size) v (entL al) tick k (entL (pullA k al)) tick e0 (cutW W w.heap.size) W (cutW_below hB) (by rw [cutW_size hB]; exact Kd.R_mono (Kd.R_bound h.q) (fun k hk => ⟨hk.1, hk.2.2.1⟩)) hr
  refine this.mono ?_
  rintro e V ⟨v2, rfl, h1, h2, h3⟩
  rw [cutW_size hB] at h1
  obtain ⟨h4, h5⟩ := h.put (P := fun k => (w.heap.size ≤ k ∧ k ≠ p ∧ k ≠ mb ∧ k ≠ g3 ∧ k ≠ g5) ∧ k < W.heap.size) ⟨h2.os, h2.tape, h2.output, h3.1, h3.2⟩ (fun k hk => hk.1) h1 (by rw [ent_length, ent_length]; exact pullA_len k al) (m := tick)
  obtain ⟨A2, c2, rfl⟩ := Kd.R_slice h4.q
  exact ⟨A2, _, c2, _, rfl, h4, h5⟩
theorem IM.rows (h : IM w W p mb g3 g5 n al2 t2 v now l) : QR W w.heap.size (fun k => (w.heap.size ≤ k ∧ k ≠ p ∧ k ≠ mb ∧ k ≠ g3 ∧ k ≠ g5) ∧ k < W.heap.size) v l := Kd.R_mono (Kd.R_bound h.q) (fun k hk => ⟨hk.1, hk.2.2.1⟩)
theorem IM.ruse (h : IM w W p mb g3 g5 n al2 t2 v tick (entL al)) (hg : GI m al tick) (hm : m ≤ 1000) {k : ByteArray} (hn : n ≤ 400) : Calls Tryd.prog 65 #[.agg #[v, .int .i64 tick], .string k] W (RefX w p mb g3 g5 n al2 t2 v tick tick (entL (useA k al))) := by
  obtain ⟨A, c, rfl⟩ := Kd.R_slice h.q
  have hll := h.ll
  obtain ⟨j, hj, -⟩ := rthere_t (entL al) tick k (by omega) 1300 (by omega)
  refine (ruse_x h.rows h.low.size (fun k hk => hk.2) (by omega)).mono ?_
  rintro e V ⟨v2, r, m2, t, rfl, h1, ⟨rfl, h2⟩, h3⟩
  have hr : r = entL (useA k al) := (h2 j hj).trans (use_ent hg hm k _ j hj)
  have hrl : r.length ≤ (entL al).length + 1 := by rw [h2 j hj]; unfold useR; split <;> simp
  subst hr
  obtain ⟨h4, h5⟩ := h.put (Keeps.of_below h3) (fun k hk => hk.1) h1 hrl (m := m2)
  obtain ⟨A2, c2, rfl⟩ := Kd.R_slice h4.q
  exact ⟨A2, _, c2, _, rfl, h4, h5⟩
theorem IM.rleave (h : IM w W p mb g3 g5 n al2 t2 v tick (entL al)) (hg : GI m al tick) (hm : m ≤ 1000) {k : ByteArray} (hn : n ≤ 400) : Calls Tryd.prog 67 #[.agg #[v, .int .i64 tick], .string k] W (RefX w p mb g3 g5 n al2 t2 v tick tick (entL (leaveA k tick al))) := by
  obtain ⟨A, c, rfl⟩ := Kd.R_slice h.q
  have hll := h.ll
  obtain ⟨j, hj, -⟩ := rthere_t (entL al) tick k (by omega) 1300 (by omega)
  refine (rleave_x h.rows h.low.size (fun k hk => hk.2) (by omega)).mono ?_
  rintro e V ⟨v2, r, m2, t, rfl, h1, ⟨rfl, h2⟩, h3⟩
  have hr : r = entL (leaveA k m2 al) := (h2 j hj).trans (leave_ent hg hm k j hj)
  have hrl : r.length ≤ (entL al).length + 1 := by rw [h2 j hj]; unfold leaveR; split <;> (try split) <;> simp
  subst hr
  obtain ⟨h4, h5⟩ := h.put (Keeps.of_below h3) (fun k hk => hk.1) h1 hrl (m := m2)
  obtain ⟨A2, c2, rfl⟩ := Kd.R_slice h4.q
  exact ⟨A2, _, c2, _, rfl, h4, h5⟩
theorem IM.rnx (h : IM w W p mb g3 g5 n al2 t2 v tick (entL al)) (hg : GI m al tick) (hm : m ≤ 1000) (hn : n ≤ 400) : Calls Tryd.prog 62 #[.agg #[v, .int .i64 tick]] W (RefX w p mb g3 g5 n al2 t2 v tick (tick + 1) (entL (tkA (tick + 1) al (namesA al)))) := by
  obtain ⟨A, c, rfl⟩ := Kd.R_slice h.q
  have hll := h.ll
  have ht := hg.t
  refine (rnext_x h.rows h.low.size (fun k hk => hk.2) (by omega)).mono ?_
  rintro e V ⟨v2, r, m2, A', n', c', L, rfl, h1, ⟨rfl, rfl⟩, h3, -⟩
  have hw : wrap64 (tick + 1) = tick + 1 := by unfold wrap64; omega
  rw [hw, tick_ent hg] at h1
  rw [hw]
  obtain ⟨h4, h5⟩ := h.put (Keeps.of_below h3) (fun k hk => hk.1) h1 (by rw [← tick_ent hg, List.length_map]; omega) (m := tick + 1)
  obtain ⟨A2, c2, rfl⟩ := Kd.R_slice h4.q
  exact ⟨A2, _, c2, _, rfl, h4, h5⟩
end
def ImX (w : World) (e : Ending) (w' : World) : Prop := ∃ op A3 n3 c3 m, e = .returned (.tuple #[.pointer op, .agg #[.slice A3 n3 c3, .int .i64 m]]) ∧ Below w.heap.size w w' ∧ (op = none ∨
  ∃ p mb n al, op = some ⟨p, 0, none⟩ ∧ n ≤ 400 ∧ IBk w' p mb al m ∧ GI n al m ∧ NE al ∧ w.heap.size ≤ p ∧ w.heap.size ≤ mb ∧ n3 = (entL al).length ∧ n3 ≤ c3 ∧ Kd.C k136 w' A3 (entL al).length (entL al))
theorem ent_nil : entL [] = [] := by simp [entL, namesA]
set_option maxRecDepth 10000 in
set_option maxHeartbeats 8000000 in
theorem images_x {w : World} {A : Option Addr} {c : Nat} {l : List (Int × ByteArray)} (hC : Kd.C kA w A l.length l) (hG : Gm w) :
    Calls Tryd.prog 33 #[.slice A l.length c] w (ImX w) := by
  have HS := hid (fun e w' => show ImX w e w' = (∃ op A3 n3 c3 m, e = .returned (.tuple #[.pointer op, .agg #[.slice A3 n3 c3, .int .i64 m]]) ∧ Below w.heap.size w w' ∧ (op = none ∨
    ∃ p mb n al, op = some ⟨p, 0, none⟩ ∧ n ≤ 400 ∧ IBk w' p mb al m ∧ GI n al m ∧ NE al ∧ w.heap.size ≤ p ∧ w.heap.size ≤ mb ∧ n3 = (entL al).length ∧ n3 ≤ c3 ∧ Kd.C k136 w' A3 (entL al).length (entL al))) from rfl)
  obtain ⟨S, hSd⟩ : ∃ S, S = ImX w := ⟨_, rfl⟩
  rw [← hSd] at HS ⊢
  clear hSd
  obtain ⟨n, hn⟩ : ∃ n, n = l.length := ⟨_, rfl⟩
  have hmx := Kd.C_max hC
  have HLO := hid (fun W (hb : Below w.heap.size w W) (j : Nat) (hj : j < l.length) => kA_at (Kd.C_below hC hb) rfl j hj)
  rw [← hn] at hmx ⊢
  have HN := hid hn
  have HG := hid hG
  obtain ⟨W0, hW0⟩ : ∃ W0, W0 = w.alloc (.cells #[.slice none 0 0, .int .i64 0] 60) := ⟨_, rfl⟩
  obtain ⟨g3, hg3⟩ : ∃ g3, g3 = w.heap.size := ⟨_, rfl⟩
  have hB0 : Below w.heap.size w W0 := by rw [hW0]; exact (Below.refl _ w).alloc (Nat.le_refl _) _
  have hs0 : W0.heap.size = w.heap.size + 1 := by rw [hW0]; simp
  have k3 : W0.heap[g3]? = some (.cells #[.slice none 0 0, .int .i64 0] 60 (0, 0)) := by rw [hW0, hg3]; exact heap_alloc_new _ _
  have HNew := hid (new_any W0)
  have HK := hid (fun w1 (hI : IBk w1 (W0.heap.size + 1) W0.heap.size [] 0) (hb : Below W0.heap.size W0 w1) =>
    show IM w (w1.alloc (.cells #[.slice none 0 0, .int .i64 0] 60)) (W0.heap.size + 1) W0.heap.size g3 w1.heap.size 0 [] 0 (.slice none 0 0) 0 (entL []) from by
      have hb2 : Below w1.heap.size w1 (w1.alloc (.cells #[.slice none 0 0, .int .i64 0] 60)) := (Below.refl _ w1).alloc (Nat.le_refl _) _
      have hlt := hI.lt
      exact ⟨(hB0.trans (hb.mono hB0.size)).alloc (Nat.le_trans hB0.size hb.size) _, hI.below hb2, gi0, by simp [NE], blk_of hb2 (blk_of hb k3), heap_alloc_new _ _, ent_nil ▸ Kd.R_nil _ _ _ _ _, by rw [ent_nil]; simp, by omega, by omega, by omega, Nat.le_trans hB0.size hb.size, by omega, by omega, by omega, by omega, by have := hb.size; omega⟩)
  clear hn hC hG hB0 hs0 k3
  go_enter Tryd.func33, Tryd.ntmps33
  go_upto_region 1 with fail
  rw [← hW0, ← hg3]
  clear hW0 hg3
  go_wp2_with (go_at_call 27; go_must (with_reducible refine HNew.out.mono ?_); rintro e w1 ⟨rfl, hI, hb⟩; have H0 := hid (HK.out w1 hI hb); clear hI hb)
  generalize W0.heap.size + 1 = p at H0 ⊢
  generalize W0.heap.size = mb at H0 ⊢
  generalize w1.heap.size = g5 at H0 ⊢
  go_loopg [6] n (fun q s6 wr => ∃ (j k : Nat) (al : IL) (tick : Int) (v : Value), s6 = .int .i64 (j : Int) ∧ q = n - j ∧ j ≤ n ∧ j ≤ 40 ∧ k ≤ 8 * j ∧ Hid (IM w wr p mb g3 g5 k al tick v tick (entL al)))
  case atStart => exact ⟨0, 0, [], 0, .slice none 0 0, rfl, by omega, by omega, by omega, by omega, H0⟩
  case round =>
    clear H0
    obtain ⟨j, k, al, tick, v, rfl, rfl, hj, hj40, hk8, HI⟩ := hrel
    obtain ⟨A3, c3, rfl⟩ := Kd.R_slice HI.out.q
    have hwj : IntKind.i64.wrap ((j : Int) + 1) = ((j + 1 : Nat) : Int) := by rw [IntWalk.i64_in _ (by omega)]; omega
    by_cases hx : j < n ∧ j < 40
    · obtain ⟨hlt, hlt40⟩ := hx
      have hjl : j < l.length := by rw [← HN.out]; exact hlt
      obtain ⟨ad, hA, d0, d1⟩ := HLO.out wr HI.out.low j hjl
      subst hA
      generalize l[j] = x at d0 d1
      obtain ⟨kind, name⟩ := x
      simp only at d0 d1
      obtain ⟨x0, x1, -⟩ := cells2 HI.out.k5
      clear hjl
      by_cases hsz : name.size ≤ 100
      · have hk40 : k ≤ 320 := by omega
        have qs : decide (100 < (name.size : Int)) = false := decide_eq_false (by omega)
        by_cases q0 : kind = 0
        · subst q0
          go_wp2_with (first
            | (go_at_call 58; go_must (with_reducible refine (HI.out.pullX hsz HG.out).mono ?_); rintro e w2 ⟨x, rfl, hI⟩; obtain ⟨a0, a1, -⟩ := cells2 hI.k5; have HI2 := hid hI; clear hI)
            | (go_at_call 61; go_must (with_reducible refine (HI2.out.rpull HI.out.gi hsz (by omega)).mono ?_); rintro e w3 ⟨A2, n2, c2, t, rfl, hI, k5⟩; obtain ⟨b0, b1, bf⟩ := cells2 k5; have bf0 := bf 0; have bf1 := bf 1; have HI3 := hid hI; clear hI k5 bf))
          clear b0 b1 bf0 bf1 a0 a1 x0 x1 d0 d1
          go_loopg [8] 3 (fun q s8 wr2 => ∃ (i k2 : Nat) (al : IL) (tick : Int) (v : Value), s8 = .int .i64 (i : Int) ∧ q = 3 - i ∧ i ≤ 3 ∧ k2 ≤ k + 2 + 2 * i ∧ Hid (IM w wr2 p mb g3 g5 k2 al tick v tick (entL al)))
          case atStart => exact ⟨0, k + 1 + 1, _, _, _, rfl, rfl, by omega, by omega, HI3⟩
          case round =>
            clear HI3
            obtain ⟨i, k2, al, tick, v, rfl, rfl, hi3, hk2, HI⟩ := hrel
            have hwi : IntKind.i64.wrap ((i : Int) + 1) = ((i + 1 : Nat) : Int) := by rw [IntWalk.i64_in _ (by omega)]; omega
            by_cases hi : i < 3
            · obtain ⟨x0, x1, -⟩ := cells2 HI.out.k5
              go_wp2_with (first
                | (go_at_call 59; go_must (with_reducible refine (HI.out.ptickX (by omega)).mono ?_); rintro e w2 ⟨x, rfl, hI⟩; obtain ⟨a0, a1, -⟩ := cells2 hI.k5; have HI2 := hid hI; clear hI)
                | (go_at_call 62; go_must (with_reducible refine (HI2.out.rnx HI.out.gi (by omega) (by omega)).mono ?_); rintro e w3 ⟨A2, n2, c2, t, rfl, hI, k5⟩; obtain ⟨b0, b1, bf⟩ := cells2 k5; have bf0 := bf 0; have bf1 := bf 1; have HI3 := hid hI; clear hI k5 bf))
              go_roundg (3 - (i + 1))
              case measure => omega
              case rel => exact ⟨i + 1, k2 + 1 + 1, _, _, _, rfl, rfl, by omega, by omega, HI3⟩
            · have hie : i = 3 := by omega
              subst hie
              go_wp2_with fail
              go_roundg (n - (j + 1))
              case measure => omega
              case rel => exact ⟨j + 1, k2, _, _, _, rfl, rfl, by omega, by omega, by omega, HI⟩
        · have e0 : (kind == 0) = false := by simpa using q0
          have e1 : decide (kind = 0) = false := by simpa using q0
          clear q0
          by_cases q2 : kind = 2
          · subst q2
            go_wp2_with (first
              | (go_at_call 64; go_must (with_reducible refine (HI.out.useX hsz (by omega)).mono ?_); rintro e w2 ⟨x, rfl, hI⟩; obtain ⟨a0, a1, -⟩ := cells2 hI.k5; have HI2 := hid hI; clear hI)
              | (go_at_call 65; go_must (with_reducible refine (HI2.out.ruse HI.out.gi (by omega) (by omega)).mono ?_); rintro e w3 ⟨A2, n2, c2, t, rfl, hI, k5⟩; obtain ⟨b0, b1, bf⟩ := cells2 k5; have bf0 := bf 0; have bf1 := bf 1; have HI3 := hid hI; clear hI k5 bf))
            go_roundg (n - (j + 1))
            case measure => omega
            case rel => exact ⟨j + 1, k + 1 + 1, _, _, _, rfl, rfl, by omega, by omega, by omega, HI3⟩
          · have e2 : (kind == 2) = false := by simpa using q2
            have e3 : decide (kind = 2) = false := by simpa using q2
            clear q2
            by_cases q3 : kind = 3
            · subst q3
              go_wp2_with (first
                | (go_at_call 66; go_must (with_reducible refine (HI.out.leaveX hsz (by omega)).mono ?_); rintro e w2 ⟨x, rfl, hI⟩; obtain ⟨a0, a1, -⟩ := cells2 hI.k5; have HI2 := hid hI; clear hI)
                | (go_at_call 67; go_must (with_reducible refine (HI2.out.rleave HI.out.gi (by omega) (by omega)).mono ?_); rintro e w3 ⟨A2, n2, c2, t, rfl, hI, k5⟩; obtain ⟨b0, b1, bf⟩ := cells2 k5; have bf0 := bf 0; have bf1 := bf 1; have HI3 := hid hI; clear hI k5 bf))
              go_roundg (n - (j + 1))
              case measure => omega
              case rel => exact ⟨j + 1, k + 1 + 1, _, _, _, rfl, rfl, by omega, by omega, by omega, HI3⟩
            · have e4 : (kind == 3) = false := by simpa using q3
              have e5 : decide (kind = 3) = false := by simpa using q3
              clear q3
              go_wp2_with (first
                | (go_at_call 59; go_must (with_reducible refine (HI.out.ptickX (by omega)).mono ?_); rintro e w2 ⟨x, rfl, hI⟩; obtain ⟨a0, a1, -⟩ := cells2 hI.k5; have HI2 := hid hI; clear hI)
                | (go_at_call 62; go_must (with_reducible refine (HI2.out.rnx HI.out.gi (by omega) (by omega)).mono ?_); rintro e w3 ⟨A2, n2, c2, t, rfl, hI, k5⟩; obtain ⟨b0, b1, bf⟩ := cells2 k5; have bf0 := bf 0; have bf1 := bf 1; have HI3 := hid hI; clear hI k5 bf))
              go_roundg (n - (j + 1))
              case measure => omega
              case rel => exact ⟨j + 1, k + 1 + 1, _, _, _, rfl, rfl, by omega, by omega, by omega, HI3⟩
      · have qs : decide (100 < (name.size : Int)) = true := decide_eq_true (by omega)
        obtain ⟨z0, z1, zf⟩ := cells2 HI.out.k3
        have zf0 := zf 0
        have zf1 := zf 1
        clear zf
        go_upto_region 8 with fail
        go_still_tail 2, (by kernel_rfl)
        change wpList _ _ _ _ _ _
        go_wp2_with fail
        refine bodyPost_ret (results_tc rfl _ _ g3 60 #[.slice A3 (entL al).length c3, .int .i64 tick] (0, 0) _ rfl (blk_drew (put2 HI.out.k3)) Tryd.underlying60 rfl (by kernel_rfl)) rfl ?_
        rw [HS.out]
        exact ⟨_, _, _, _, _, rfl, below_drew (put2_below HI.out.low HI.out.ge.2.2.1), .inl rfl⟩
    · obtain ⟨z0, z1, zf⟩ := cells2 HI.out.k3
      have zf0 := zf 0
      have zf1 := zf 1
      obtain ⟨x0, x1, -⟩ := cells2 HI.out.k5
      have hk40 : k ≤ 400 := by omega
      clear zf
      by_cases hlt : j < n
      · have hlt40 : ¬ j < 40 := fun h => hx ⟨hlt, h⟩
        clear hx
        go_upto_region 26 with fail
        go_still_tail 3, (by kernel_rfl)
        change wpList _ _ _ _ _ _
        go_wp2_with fail
        refine bodyPost_ret (results_tc rfl _ _ g3 60 #[.slice A3 (entL al).length c3, .int .i64 tick] (0, 0) _ rfl (blk_drew (put2 HI.out.k3)) Tryd.underlying60 rfl (by kernel_rfl)) rfl ?_
        rw [HS.out]
        have hge := HI.out.ge
        have hk2 : Keeps (fun i => i = g3) wr ((wr.setCell ⟨g3, 0, none⟩ (.slice A3 (entL al).length c3)).setCell ⟨g3, 1, none⟩ (.int .i64 tick)).drew := (((Keeps.refl (fun i => i = g3) wr).setCell ⟨g3, 0, none⟩ _ (.inl rfl)).setCell ⟨g3, 1, none⟩ _ (.inl rfl)).drew
        exact ⟨_, _, _, _, _, rfl, below_drew (put2_below HI.out.low HI.out.ge.2.2.1), .inr ⟨p, mb, k, al, rfl, hk40, HI.out.bk.kept hk2 (by omega) (by omega), HI.out.gi, HI.out.ne, hge.1, hge.2.1, rfl, (Kd.R_reads' HI.out.q).2.1, (Kd.R_reads' (Kd.R_drew (put2_R HI.out.q (fun k hk => hk.2.2.2.1)))).2.2⟩⟩
      · clear hx
        go_upto_region 26 with fail
        go_still_tail 3, (by kernel_rfl)
        change wpList _ _ _ _ _ _
        go_wp2_with fail
        refine bodyPost_ret (results_tc rfl _ _ g3 60 #[.slice A3 (entL al).length c3, .int .i64 tick] (0, 0) _ rfl (blk_drew (put2 HI.out.k3)) Tryd.underlying60 rfl (by kernel_rfl)) rfl ?_
        rw [HS.out]
        have hge := HI.out.ge
        have hk2 : Keeps (fun i => i = g3) wr ((wr.setCell ⟨g3, 0, none⟩ (.slice A3 (entL al).length c3)).setCell ⟨g3, 1, none⟩ (.int .i64 tick)).drew := (((Keeps.refl (fun i => i = g3) wr).setCell ⟨g3, 0, none⟩ _ (.inl rfl)).setCell ⟨g3, 1, none⟩ _ (.inl rfl)).drew
        exact ⟨_, _, _, _, _, rfl, below_drew (put2_below HI.out.low HI.out.ge.2.2.1), .inr ⟨p, mb, k, al, rfl, hk40, HI.out.bk.kept hk2 (by omega) (by omega), HI.out.gi, HI.out.ne, hge.1, hge.2.1, rfl, (Kd.R_reads' HI.out.q).2.1, (Kd.R_reads' (Kd.R_drew (put2_R HI.out.q (fun k hk => hk.2.2.2.1)))).2.2⟩⟩
end Go.Proofs.YtmgcapccgncmkaaDoor.Tr
namespace Go.Proofs.YtmgcapccgncmkaaDoor.Tr
open Go.RowKit Go.Pv Go.Proofs.YtmgcapccgncmkaaDoor.Im Go.Proofs.YtmgcapccgncmkaaDoor.Tx Go.Proofs.YtmgcapccgncmkaaDoorW.PrintWords Go.Proofs.YtmgcapccgncmkaaDoorW.PrintLast Go.Proofs.YtmgcapccgncmkaaDoor.PTrashFinds

/-- What reads of a row of the call's own. -/
theorem C_of_row {α : Type} {d : Kd α} {W : World} {e : TypeId} {A : Option Addr} {n c : Nat} {cells : List Value} {xs : List α} (h : SlRow W e d.sz (.slice A n c) n cells) (hr : Reps (d.K W) d.sz xs cells) (hn : n = xs.length) (hl : n ≤ 100000) : d.C W A n xs ∧ n ≤ c := by
  rcases h.2 with ⟨h1, h2⟩ | ⟨g, o, cap, cur, h1, h2, h3, -⟩
  · simp only [Value.slice.injEq] at h1
    exact ⟨⟨hn.symm, by omega, fun h0 => by omega⟩, by omega⟩
  · have h1' := h1
    simp only [Value.slice.injEq, true_and] at h1
    obtain ⟨rfl, rfl⟩ := h1
    refine ⟨⟨hn.symm, by omega, fun h0 => ⟨_, rfl, fun j p hp => ?_⟩⟩, h3⟩
    have hK := hr.2 j p hp
    refine ⟨_, d.K_len hK, hK, fun i u hu => ?_⟩
    rw [List.getElem?_take] at hu
    split at hu
    · rw [List.getElem?_drop] at hu
      have := SlRow.cells h h1' (j * d.sz + i) u hu
      rw [Addr.add_lit]
      exact this
    · cases hu
theorem encI_flat (l : List Int) : l.flatMap encI = l.map (Value.int .i64) := by
  induction l with
  | nil => rfl
  | cons a r ih => simp [encI, ih]
theorem C_of_li {w W : World} {A : Option Addr} {n c : Nat} {D : List Int} (h : LI w W (.slice A n c) D) (hn : n = D.length) (hl : D.length ≤ 1000) : Kd.C (Kd.int .i64) W A D.length D ∧ D.length ≤ c := by
  subst hn
  have hs : SlRow W 3 1 (.slice A D.length c) D.length (D.flatMap encI) := h.sl
  rw [encI_flat] at hs
  refine C_of_row (d := Kd.int .i64) hs ?_ rfl (by omega)
  refine ⟨by rw [List.length_map]; exact (Nat.mul_one _).symm, fun j p hp => ?_⟩
  obtain ⟨hj, rfl⟩ := List.getElem?_eq_some_iff.1 hp
  have e : ((D.map (Value.int .i64)).drop (j * 1)).take 1 = [.int .i64 D[j]] := by
    rw [Nat.mul_one, List.drop_eq_getElem_cons (by simpa using hj)]
    simp
  exact e
theorem count0 (L : List S83) : countL L = 0 ↔ nextB L = none := by
  refine ⟨fun h => ?_, fun h => ?_⟩
  · unfold nextB
    rw [List.findSome?_eq_none_iff]
    intro b hb
    unfold countL at h
    have h1 : (deadL b.f3).length = 0 := by
      induction L with
      | nil => simp at hb
      | cons a r ih =>
        simp only [List.map_cons, List.sum_cons] at h
        rcases List.mem_cons.1 hb with e | hb
        · rw [e]; omega
        · exact ih (by omega) hb
    rw [List.length_eq_zero_iff.1 h1]
    rfl
  · unfold nextB at h
    rw [List.findSome?_eq_none_iff] at h
    unfold countL
    induction L with
    | nil => rfl
    | cons a r ih =>
      have h1 := h a (by simp)
      have h2 := ih (fun x hx => h x (by simp [hx]))
      simp only [List.map_cons, List.sum_cons, h2]
      cases hd : deadL a.f3 with
      | nil => rfl
      | cons d r => rw [hd] at h1; simp at h1
def wantF (L : List S83) : Int × Int := (nextB L).getD (0, 0)
theorem want_keep (L : List S83) (j : Nat) (hj : j < L.length) (h : countL (L.take j) ≠ 0) : wantF (L.take (j + 1)) = wantF (L.take j) := by
  have h1 : nextB (L.take j) ≠ none := fun e => h ((count0 _).2 e)
  obtain ⟨x, hx⟩ := Option.ne_none_iff_exists'.1 h1
  have h2 := nextB_some (L.take (j + 1)) j x (by rw [List.take_take, Nat.min_eq_left (by omega)]; exact hx)
  unfold wantF
  rw [hx, h2]
theorem want_new (L : List S83) (j : Nat) (hj : j < L.length) (h : countL (L.take j) = 0) : wantF (L.take (j + 1)) = match deadL L[j].f3 with | [] => (0, 0) | d :: _ => (L[j].f0, d) := by
  unfold wantF
  rw [nextB_none L j hj ((count0 _).1 h)]
  cases deadL L[j].f3 <;> rfl
/-- What stays through the law. -/
structure TQ (w W : World) (p mb b5 b8 n : Nat) (al : IL) (tick a0 a1 : Int) (A3 : Option Addr) (c3 : Nat) : Prop where
  low : Below w.heap.size w W
  bk : IBk W p mb al tick
  gi : GI n al tick
  ne : NE al
  k5 : W.heap[b5]? = some (.cells #[.int .i64 a0, .int .i64 a1] 74 (0, 0))
  k8 : W.heap[b8]? = some (.cells #[.slice A3 (entL al).length c3, .int .i64 tick] 60 (0, 0))
  q : Kd.C Go.Proofs.YtmgcapccgncmkaaDoor.PImgKeeps.k136 W A3 (entL al).length (entL al)
  qc : (entL al).length ≤ c3
theorem TQ.later {w W V : World} {p mb b5 b8 n : Nat} {al : IL} {tick a0 a1 : Int} {A3 : Option Addr} {c3 : Nat} (h : TQ w W p mb b5 b8 n al tick a0 a1 A3 c3) (hb : Below W.heap.size W V) : TQ w V p mb b5 b8 n al tick a0 a1 A3 c3 :=
  ⟨h.low.trans (hb.mono h.low.size), h.bk.below hb, h.gi, h.ne, blk_of hb h.k5, blk_of hb h.k8, Kd.C_below h.q hb, h.qc⟩
/-- Only the wanted item's box is written. -/
theorem TQ.put {w W V : World} {p mb b5 b8 n g : Nat} {al : IL} {tick a0 a1 : Int} {A3 : Option Addr} {c3 : Nat} (h : TQ w W p mb b5 b8 n al tick a0 a1 A3 c3) (B : Nat) (hB : Below B W V) (hlt : p < B ∧ mb < B ∧ b5 < B ∧ b8 < B ∧ w.heap.size ≤ B) (hq : Kd.C Go.Proofs.YtmgcapccgncmkaaDoor.PImgKeeps.k136 V A3 (entL al).length (entL al)) : TQ w V p mb b5 b8 n al tick a0 a1 A3 c3 :=
  ⟨h.low.trans (hB.mono hlt.2.2.2.2), ⟨(hB.block p hlt.1).trans h.bk.cell, h.bk.map.of_block (hB.block mb hlt.2.1), h.bk.nd⟩, h.gi, h.ne, (hB.block b5 hlt.2.2.1).trans h.k5, (hB.block b8 hlt.2.2.2.1).trans h.k8, hq, h.qc⟩
theorem rdead_x {w : World} {A : Option Addr} {c : Nat} {l : List S95} (id uid st : Int) (hC : Kd.C k95 w A l.length l) (hc : l.length ≤ c) (hl : l.length ≤ 1000) :
    Calls Tryd.prog 36 #[.agg #[.int .i64 id, .int .i64 uid, .int .i64 st, .slice A l.length c]] w fun e w' => ∃ A' c', e = .returned (.slice A' (deadL l).length c') ∧ Kd.C (Kd.int .i64) w' A' (deadL l).length (deadL l) ∧ (deadL l).length ≤ c' ∧ Below w.heap.size w w' ∧
      (∀ d r, deadL l = d :: r → ∃ g, A' = some ⟨g, 0, none⟩ ∧ w'.cell? ⟨g, 0, none⟩ = some (.int .i64 d)) := by
  obtain ⟨k, hk⟩ := rdead_l0 l hl id uid st l.length 0 [] (by omega) (by simp)
  rw [List.nil_append, List.drop_zero, dead_doc] at hk
  refine (provostref33_Dead.calls k id uid st A c l _ w hC hc hk).mono ?_
  rintro e w' ⟨v, rfl, hR, hb⟩
  obtain ⟨A', c', rfl, h1, h2⟩ := Kd.R_reads hR
  refine ⟨A', c', rfl, h2, h1, hb, fun d r hd => ?_⟩
  obtain ⟨g, cap, hv, -⟩ := Kd.R_form hR (by rw [hd]; simp)
  obtain ⟨ad, hA, hc0⟩ := Kd.at_int h2 0 (by omega) (by rw [hd]; simp <;> omega)
  have e : A' = some ⟨g, 0, none⟩ := by injection hv
  rw [e] at hA
  cases hA
  refine ⟨g, e, ?_⟩
  rw [hd] at hc0
  simpa [add_plain, rd] using hc0
def regFinds.T : Bool × List (List Nat × List Nat) := (true, [([], []), ([0], [0]), ([1], [1]), ([], []), ([3], [3]), ([2, 4], [2, 4]), ([5, 1], [5]), ([6], [6]), ([7, 6], [6, 7]), ([8, 6], [6, 8]), ([6, 9], [6, 9])])
def regFinds.B : List Nat := [0, 1, 3, 0, 8, 31, 63, 127, 255, 511, 1023]
theorem regFinds.tab : rtab .any (opsOf Tryd.f7 17) = regFinds.T := by kernel_rfl
theorem regFinds.bits : waitsOk regFinds.T.2 regFinds.B = true := by kernel_rfl
theorem eq79d (d : Nat) (W : World) (a b : Int) (s : ByteArray) : (Op.equalIn (d + 1 + 1) 79 (.agg #[.int .i64 a, .int .i64 b, .string s]) (.agg #[.int .i64 a, .int .i64 b, .string s])).run Tryd.prog W = .ok true W := by
  have h3 : ∀ x : Int, (Op.equalIn (d + 1) 3 (.int .i64 x) (.int .i64 x)).run Tryd.prog W = .ok true W := fun x => by simp [Op.equalIn, run_underlying Tryd.underlying3]
  have h9 : (Op.equalIn (d + 1) 9 (.string s) (.string s)).run Tryd.prog W = .ok true W := by
    simp [Op.equalIn, run_underlying Tryd.underlying9]
    show (s.data == s.data) = true
    simp
  exact eqA_of Tryd.underlying79 (by kernel_rfl) (eqf_end rfl (by kernel_rfl) (by kernel_rfl) (h3 a) (eqf_end rfl (by kernel_rfl) (by kernel_rfl) (h3 b) (eqf_last rfl (by kernel_rfl) (by kernel_rfl) h9)))
theorem eq79 (W : World) (a b : Int) (s : ByteArray) : (Op.equalIn 10000 79 (.agg #[.int .i64 a, .int .i64 b, .string s]) (.agg #[.int .i64 a, .int .i64 b, .string s])).run Tryd.prog W = .ok true W := eq79d 9998 W a b s
theorem adel_length_lt {k : ByteArray} {al : IL} (h : k ∈ al.map (·.1)) : (adel k al).length < al.length := by
  induction al with
  | nil => simp at h
  | cons a r ih =>
    unfold adel
    split
    · simp
    · rename_i hne
      have : k ∈ r.map (·.1) := by
        rcases List.mem_cons.1 h with e | h
        · exact absurd e.symm hne
        · exact h
      have := ih this
      simp only [List.length_cons]
      omega
/-- An image that is trash: it is there, and unused. -/
theorem img_trash {n : Nat} {al : IL} {tick keep ago : Int} {u : ByteArray} (hg : GI n al tick) (hne : NE al) (h : imgF keep ago tick al = some u) : (getI u al).2.1 = 0 ∧ dropC u al = 0 ∧ (dropA u al).length < al.length ∧ u.size ≤ 100 ∧ 0 < u.size := by
  unfold imgF at h
  split at h
  · cases h
  · have hm : u ∈ unX tick ago al := List.mem_of_head? h
    unfold unX at hm
    have h1 := (sortC_perm (cmpS al) (unusedA tick ago al)).mem_iff.1 hm
    unfold unusedA listA at h1
    simp only [List.mem_filter] at h1
    obtain ⟨⟨h2, h3⟩, h4⟩ := h1
    have hz : ¬ (getI u al).2.1 > 0 := fun hc => by simp [usedB, hc] at h4
    have hr := hg.rg u
    have h0 : (getI u al).2.1 = 0 := by unfold Rg at hr; omega
    have hk : u ∈ al.map (·.1) := (namesA_perm al).mem_iff.1 h2
    refine ⟨h0, by unfold dropC; rw [if_pos h3, if_neg hz], ?_, ?_, hne u hk⟩
    · unfold dropA
      rw [if_pos h3, if_neg hz]
      have := adel_length_lt hk
      exact this
    · obtain ⟨r, hr1, hr2⟩ := List.mem_map.1 hk
      rw [← hr2]
      exact hg.short.1 r hr1
set_option maxRecDepth 10000 in
set_option maxHeartbeats 8000000 in
theorem finds_any {w : World} {A : Option Addr} {c : Nat} {L : List S83} (hC : Kd.C k83 w A L.length L) (hcc : L.length ≤ c) {A2 : Option Addr} {c2 : Nat} {l : List (Int × ByteArray)} (hC2 : Kd.C kA w A2 l.length l) (a0 a1 : Int) (hG : Gm w) :
    Calls Tryd.prog 7 #[.slice A L.length c, .slice A2 l.length c2, .agg #[.int .i64 a0, .int .i64 a1]] w fun e w' => e = .returned (.bool true) ∧ Below w.heap.size w w' := by
  obtain ⟨W0, hW0⟩ : ∃ W0, W0 = w.alloc (.cells #[.int .i64 a0, .int .i64 a1] 74) := ⟨_, rfl⟩
  obtain ⟨b5, hb5⟩ : ∃ b5, b5 = w.heap.size := ⟨_, rfl⟩
  have hB0 : Below w.heap.size w W0 := by rw [hW0]; exact (Below.refl _ w).alloc (Nat.le_refl _) _
  have k5 : W0.heap[b5]? = some (.cells #[.int .i64 a0, .int .i64 a1] 74 (0, 0)) := by rw [hW0, hb5]; exact heap_alloc_new _ _
  have HB0 := hid hB0
  have HK5 := hid k5
  have HWk := hid (fun W => works_any W)
  have HIm := hid (fun W (hb : Below w.heap.size w W) => images_x (c := c2) (Kd.C_below hC2 hb) (hG.later hb))
  obtain ⟨bl, hbl, hLi⟩ : ∃ b, (∀ W, Below w.heap.size w W → Calls Tryd.prog 34 #[.slice A L.length c] W (fun e w' => e = .returned (.bool b) ∧ Drawn0 W w')) ∧ (b = true → Light L ∧ ∀ b ∈ L, b.f3.length ≤ 40) := by
    obtain ⟨b, h1, h2⟩ := light_l L (min L.length 20) 100 0 (by omega) (by omega) (fun m hm h => by omega)
    exact ⟨b, fun W hb => provostlaw33_light.calls 100 A c L b W (Kd.C_below hC hb) hcc h1, h2⟩
  have HLt := hid hbl
  have HLi := hid hLi
  have HC := hid hC
  have HLO := hid (fun W (hb : Below w.heap.size w W) (j : Nat) (hj : j < L.length) => at_T83 (Kd.C_below hC hb) (j : Int) (by omega) (by omega))
  obtain ⟨n, hn⟩ : ∃ n, n = L.length := ⟨_, rfl⟩
  rw [← hn] at HLt HC ⊢
  have HN := hid hn
  obtain ⟨n2, hn2⟩ : ∃ n2, n2 = l.length := ⟨_, rfl⟩
  rw [← hn2] at HIm ⊢
  have HCC := hid (show n ≤ c by omega)
  clear hB0 k5 hbl hLi hC hcc hC2 hG hn hn2
  go_enter Tryd.func7, Tryd.ntmps7
  go_upto_region 1 with fail
  rw [← hW0, ← hb5]
  clear hW0 hb5
  go_upto_region 2 with (go_at_call 33; go_must (with_reducible refine (HIm.out _ HB0.out).mono ?_); rintro e w2 ⟨op, A3, n3, c3, m, rfl, hb, hI⟩; have HB2 := hid (HB0.out.trans (hb.mono HB0.out.size)); have HK52 := hid (blk_of hb HK5.out); have HI := hid hI; clear hb hI)
  have HNew := hid (fun W => new_any W)
  cases op with
  | none =>
    go_wp2_with (first
      | (go_at_call 27; go_must (with_reducible refine (HNew.out _).mono ?_); rintro e w3 ⟨rfl, hI, hb⟩; have HB3 := hid ((HB2.out.alloc HB2.out.size (.cells #[.slice A3 n3 c3, .int .i64 m] 60)).trans (hb.mono (Nat.le_trans HB2.out.size (by simp)))); clear hI hb)
      | (go_at_call 35; go_must (with_reducible refine (HWk.out _).mono ?_); rintro e w4 ⟨rfl, hb⟩; have HB4 := hid (HB3.out.trans (hb.mono HB3.out.size)); clear hb))
    go_ret
    exact ⟨rfl, HB4.out⟩
  | some ad =>
    obtain ⟨p, mb, n0, al, hop, hn0, hbk, hgi, hne, hgp, hgm, hn3, hc3, hqC⟩ := HI.out.resolve_left (by simp)
    cases hop
    subst hn3
    cases bl with
    | false =>
      clear HI hbk hgi hne hqC hc3
      go_wp2_with (first
        | (go_at_call 34; go_must (with_reducible refine (HLt.out _ (HB2.out.alloc HB2.out.size _)).mono ?_); rintro e w3 ⟨rfl, hd⟩; have HB3 := hid ((HB2.out.alloc HB2.out.size (.cells #[.slice A3 (entL al).length c3, .int .i64 m] 60)).trans (hd.below.mono (Nat.le_trans HB2.out.size (by simp)))); clear hd)
        | (go_at_call 27; go_must (with_reducible refine (HNew.out _).mono ?_); rintro e w4 ⟨rfl, hI, hb⟩; have HB4 := hid (HB3.out.trans (hb.mono HB3.out.size)); clear hI hb)
        | (go_at_call 35; go_must (with_reducible refine (HWk.out _).mono ?_); rintro e w5 ⟨rfl, hb⟩; have HB5 := hid (HB4.out.trans (hb.mono HB4.out.size)); clear hb))
      go_ret
      exact ⟨rfl, HB5.out⟩
    | true =>
      obtain ⟨hLt, hL40⟩ := HLi.out rfl
      obtain ⟨b8, hb8⟩ : ∃ b8, b8 = w2.heap.size := ⟨_, rfl⟩
      obtain ⟨V2, hV2⟩ : ∃ V2, V2 = w2.alloc (.cells #[.slice A3 (entL al).length c3, .int .i64 m] 60) := ⟨_, rfl⟩
      have hbV : Below w2.heap.size w2 V2 := by rw [hV2]; exact (Below.refl _ w2).alloc (Nat.le_refl _) _
      have HTS := hid (show TQ w V2 p mb b5 b8 n0 al m a0 a1 A3 c3 from ⟨HB2.out.trans (hbV.mono HB2.out.size), hbk.below hbV, hgi, hne, blk_of hbV HK52.out, by rw [hV2, hb8]; exact heap_alloc_new _ _, Kd.C_below hqC hbV, hc3⟩)
      have hn20 : n ≤ 20 := by rw [HN.out]; exact hLt.1
      have HLT := hid hLt
      rw [← hV2, ← hb8]
      clear HI hbk hgi hne hgp hgm hLt hL40 HK52 hqC hc3 hbV hV2 hb8
      go_upto_region 5 with (go_at_call 34; go_must (with_reducible refine (HLt.out _ HTS.out.low).mono ?_); rintro e w3 ⟨rfl, hd⟩; have HTS3 := hid (HTS.out.later hd.below); clear hd)
      obtain ⟨b10, hb10⟩ : ∃ b10, b10 = w3.heap.size := ⟨_, rfl⟩
      obtain ⟨V3, hV3⟩ : ∃ V3, V3 = w3.alloc (.cells #[.int .i64 0, .int .i64 0, .string ⟨#[]⟩] 79) := ⟨_, rfl⟩
      have hb3 : Below w3.heap.size w3 V3 := by rw [hV3]; exact (Below.refl _ w3).alloc (Nat.le_refl _) _
      have HT0 := hid (HTS3.out.later hb3)
      have HK10 := hid (show V3.heap[b10]? = some (.cells #[.int .i64 0, .int .i64 0, .string ⟨#[]⟩] 79 (0, 0)) by rw [hV3, hb10]; exact heap_alloc_new _ _)
      have hlt10 : p < b10 ∧ mb < b10 ∧ b5 < b10 ∧ b8 < b10 ∧ w.heap.size ≤ b10 := by
        have h1 := HTS3.out.bk.lt
        have h2 := (Array.getElem?_eq_some_iff.1 HTS3.out.k5).1
        have h3 := (Array.getElem?_eq_some_iff.1 HTS3.out.k8).1
        have h4 := HTS3.out.low.size
        omega
      have HQ10 := hid (fun V (h : Below w3.heap.size w3 V) => Kd.C_below HTS3.out.q h)
      have HB10 := hid hb3
      have HE10 := hid hb10
      have HL10 := hid hlt10
      go_upto_region 6 with fail
      rw [← hV3, ← hb10]
      clear hV3 hb10 hb3 hlt10
      go_wp2_with fail
      have HZ := hid (show countL (L.take 0) = 0 from rfl)
      have HZ2 := hid (show ((0 : Int), (0 : Int)) = wantF (L.take 0) from rfl)
      go_loopg [9, 11] n (fun q s9 s11 wr => ∃ (i : Nat) (wb wc : Int), s9 = .int .i64 ((countL (L.take i) : Nat) : Int) ∧ s11 = .int .i64 (i : Int) ∧ q = n - i ∧ i ≤ n ∧ Hid ((wb, wc) = wantF (L.take i)) ∧ Hid (Below w3.heap.size w3 wr) ∧ Hid (wr.heap[b10]? = some (.cells #[.int .i64 wb, .int .i64 wc, .string ⟨#[]⟩] 79 (0, 0))))
      case atStart => exact ⟨0, 0, 0, by rw [HZ.out]; rfl, rfl, by omega, by omega, HZ2, HB10, HK10⟩
      case round =>
        clear HB10 HK10 HT0
        obtain ⟨i, wb, wc, rfl, rfl, rfl, hi, HW, HB, HK⟩ := hrel
        have hwi : IntKind.i64.wrap ((i : Int) + 1) = ((i + 1 : Nat) : Int) := by rw [IntWalk.i64_in _ (by omega)]; omega
        have HT := hid (HTS3.out.later HB.out)
        by_cases hlt : i < n
        · have hil : i < L.length := by rw [← HN.out]; exact hlt
          obtain ⟨ad, A5, c5, hA, d0, d1, d2, d3, hc5, hC5⟩ := HLO.out wr HT.out.low i hil
          subst hA
          rw [rd83 L i hil] at d0 d1 d2 d3 hc5 hC5
          simp only [Int.toNat_natCast] at d0 d1 d2 d3
          have hbl : L[i].f3.length ≤ 1000 := HLT.out.2 _ (List.getElem_mem hil)
          have hcn := countL_next L i hil
          have hcl := countL_take L HLT.out i
          have hcl2 := countL_take L HLT.out (i + 1)
          have hdl := deadL_length L[i].f3
          have hwk := want_keep L i hil
          have hwn := want_new L i hil
          have hlo2 := fun W (hb : Below wr.heap.size wr W) => HLO.out W (HT.out.low.trans (hb.mono HT.out.low.size)) i hil
          have hxr := rd83 L i hil
          generalize L[i] = x at d0 d1 d2 d3 hc5 hC5 hbl hcn hdl hwn hxr
          rw [hxr] at hlo2
          simp only [Int.toNat_natCast] at hlo2
          obtain ⟨f0, f1, f2, f3⟩ := x
          simp only at d0 d1 d2 d3 hc5 hC5 hbl hcn hdl hwn hlo2
          have HRD := hid (rdead_x (c := c5) f0 f1 f2 hC5 hc5 hbl)
          have HPD := hid (fun W (hb : Below wr.heap.size wr W) => dead_any (c := c5) (id := f0) (uid := f1) (st := f2) (Kd.C_below hC5 hb) hbl)
          have HD4 := hid (fun W (hb : Below wr.heap.size wr W) => show W.cell? (ad.add (i * 4)) = some (.int .i64 f0) ∧ W.cell? ⟨(ad.add (i * 4)).block, (ad.add (i * 4)).off + 1, none⟩ = some (.int .i64 f1) ∧ W.cell? ⟨(ad.add (i * 4)).block, (ad.add (i * 4)).off + 2, none⟩ = some (.int .i64 f2) ∧ W.cell? ⟨(ad.add (i * 4)).block, (ad.add (i * 4)).off + 3, none⟩ = some (.slice A5 f3.length c5) from
            ⟨pw_cell_below hb d0, pw_cell_below hb d1, pw_cell_below hb d2, pw_cell_below hb d3⟩)
          have hw0 : countL (L.take i) = 0 → wantF (L.take i) = (0, 0) := fun h => by unfold wantF; rw [(count0 _).1 h]; rfl
          have HW2 := hid HW.out
          generalize deadL f3 = D at HRD HPD hcn hdl hwn
          generalize hcx : countL (L.take i) = cn at hcn hcl hwk hwn hw0 ⊢
          generalize hcy : countL (L.take (i + 1)) = cn1 at hcn hcl2
          have HCY := hid hcy
          have hD1 : D.length ≤ 1000 := by omega
          clear hlo2 hxr hc5 hC5 hbl hil hcx hcy HW
          go_upto_region 12 with (first
            | (go_at_call 36; go_must (with_reducible refine HRD.out.mono ?_); rintro e w4 ⟨A6, c6, rfl, hC6, hc6, hb, hfd⟩; have HC6 := hid hC6; have Hc6 := hid hc6; have HFD := hid hfd; have HB4 := hid hb; obtain ⟨e0, e1, e2, e3⟩ := HD4.out _ hb; clear hC6 hc6 hfd hb)
            | (go_at_call 37; go_must (with_reducible refine (HPD.out _ HB4.out).mono ?_); rintro e w5 ⟨A7, n7, c7, rfl, hn7, hLI⟩; have hc7 := C_of_li hLI hn7 hD1; have HC7 := hid hc7; have HB5 := hid hLI.low; have HC65 := hid (Kd.C_below HC6.out hLI.low); subst hn7; clear hLI hc7)
            | (go_at_call 19; go_must (with_reducible refine (same_any hD1 HC7.out.1 HC7.out.2 HC65.out Hc6.out).mono ?_); rintro e w6 ⟨rfl, hd⟩; have HB6 := hid ((HB4.out.trans (HB5.out.mono HB4.out.size)).trans (hd.below.mono (by have := HB4.out.size; have := HB5.out.size; omega))); have HB46 := hid (HB5.out.trans (hd.below.mono HB5.out.size)); clear hd))
          have HB7 := hid (HB.out.trans (HB6.out.mono HB.out.size))
          have HK7 := hid (blk_of HB6.out HK.out)
          clear d0 d1 d2 d3 e0 e1 e2 e3 HC7 HC65
          have hwc : IntKind.i64.wrap ((cn : Int) + (D.length : Int)) = ((cn1 : Nat) : Int) := by rw [IntWalk.i64_in _ (by omega)]; omega
          by_cases hz : cn = 0
          · have hw1 := hw0 hz
            have hw2 := hwn hz
            have HCN := hid hz
            subst hz
            have HC1 := hid (show cn1 = D.length by omega)
            cases D with
            | nil =>
              have HW3 := hid (show (wb, wc) = wantF (L.take (i + 1)) by rw [hw2, ← hw1]; exact HW2.out)
              clear hw1 hw2 hwk hwn hw0 hcn
              go_wp2_with fail
              go_roundg (n - (i + 1))
              case measure => omega
              case rel => exact ⟨i + 1, wb, wc, by rw [HCY.out, HC1.out]; rfl, rfl, rfl, by omega, HW3, HB7, HK7⟩
            | cons d r =>
              have HW3 := hid (show (f0, d) = wantF (L.take (i + 1)) by rw [hw2])
              obtain ⟨g6, hA6, hg6⟩ := HFD.out d r rfl
              subst hA6
              have hg66 := pw_cell_below HB46.out hg6
              obtain ⟨e0, e1, e2, e3⟩ := HD4.out _ HB6.out
              obtain ⟨t0, t1, t2, t3⟩ := cells3b HK7.out
              have hb10 : Below b10 w3 ((((w6.setCell ⟨b10, 0, none⟩ (.int .i64 f0)).setCell ⟨b10, 1, none⟩ (.int .i64 d)).setCell ⟨b10, 2, none⟩ (.string ⟨#[]⟩)).drew) := by
                have h1 := HE10.out
                have h2 := put3_below (b := b10) (x := .int .i64 f0) (y := .int .i64 d) (z := .string ⟨#[]⟩) HB7.out (by omega)
                rw [h1]
                unfold put3 at h2
                rw [h1] at h2
                exact below_drew h2
              have HB8 := hid (show Below w3.heap.size w3 ((((w6.setCell ⟨b10, 0, none⟩ (.int .i64 f0)).setCell ⟨b10, 1, none⟩ (.int .i64 d)).setCell ⟨b10, 2, none⟩ (.string ⟨#[]⟩)).drew) by rw [← HE10.out]; exact hb10)
              have HK8 := hid (show ((((w6.setCell ⟨b10, 0, none⟩ (.int .i64 f0)).setCell ⟨b10, 1, none⟩ (.int .i64 d)).setCell ⟨b10, 2, none⟩ (.string ⟨#[]⟩)).drew).heap[b10]? = some (.cells #[.int .i64 f0, .int .i64 d, .string ⟨#[]⟩] 79 (0, 0)) from put3_boxT HK7.out)
              clear hw1 hw2 hwk hwn hw0 hcn hg6 hb10
              go_upto_region 13 with fail
              go_still_tail 9, (by kernel_rfl)
              change wpList _ _ _ _ _ _
              go_wp2_with fail
              go_roundg (n - (i + 1))
              case measure => omega
              case rel => exact ⟨i + 1, f0, d, by rw [HCY.out, HC1.out]; have h := hD1; simp only [List.length_cons] at h ⊢; simp; unfold wrap64; omega, rfl, rfl, by omega, HW3, HB8, HK8⟩
          · have hw1 := hwk hz
            have HW3 := hid (show (wb, wc) = wantF (L.take (i + 1)) by rw [hw1]; exact HW2.out)
            have z1 : ((cn : Int) == 0) = false := beq_eq_false_iff_ne.2 (by omega)
            have z2 : decide ((cn : Int) = 0) = false := decide_eq_false (by omega)
            clear hw1 hwk hwn hw0 hcn hz
            go_wp2_with fail
            go_roundg (n - (i + 1))
            case measure => omega
            case rel => exact ⟨i + 1, wb, wc, by rw [HCY.out], rfl, rfl, by omega, HW3, HB7, HK7⟩
        · have hie : i = n := by omega
          subst hie
          have hLe : L.take i = L := by rw [HN.out]; exact List.take_length
          rw [hLe] at HW ⊢
          have hk10 : n0 ≤ 1000 := by omega
          obtain ⟨ku, hku⟩ := unused_ent HT.out.gi hk10 a1
          have HUn := hid (fun V (hT : TQ w V p mb b5 b8 n0 al m a0 a1 A3 c3) => Go.Proofs.YtmgcapccgncmkaaDoor.PImgKeeps.provostref18_Unused.calls ku A3 c3 (entL al) m a1 (unX m a1 al) V hT.q hT.qc hku)
          have HLs := hid (fun V (hT : TQ w V p mb b5 b8 n0 al m a0 a1 A3 c3) => Go.Proofs.YtmgcapccgncmkaaDoor.PImgKeeps.provostref18_List.calls 1100 A3 c3 (entL al) m (listA al) V hT.q hT.qc (list_ent hT.gi m))
          obtain ⟨x0, x1, -⟩ := cells2 HT.out.k5
          obtain ⟨y0, y1, -⟩ := cells2 HT.out.k8
          clear hLe hku hk10
          go_upto_region 17 with (go_at_call 38; go_must (with_reducible refine (HUn.out _ HT.out).mono ?_); rintro e w4 ⟨v14, rfl, hR, hb⟩; have HR4 := hid hR; have HB4 := hid hb; have HT4 := hid (HT.out.later hb); clear hR hb)
          have HSd := hid (fun V (hb : Below w4.heap.size w4 V) => show V.cell? ⟨b8, 0, none⟩ = some (.slice A3 (entL al).length c3) ∧ V.cell? ⟨b8, 1, none⟩ = some (.int .i64 m) ∧ V.cell? ⟨b5, 0, none⟩ = some (.int .i64 a0) from by
            have hT := HT4.out.later hb
            obtain ⟨x0, x1, -⟩ := cells2 hT.k5
            obtain ⟨y0, y1, -⟩ := cells2 hT.k8
            exact ⟨y0, y1, x0⟩)
          clear x0 x1 y0 y1
          obtain ⟨A9, c9, rfl⟩ := Kd.R_slice HR4.out
          have HB4w := hid (HT4.out.low)
          by_cases hk : (((listA al).length : Nat) : Int) ≤ a0
          · have z1 : decide (a0 < (((listA al).length : Nat) : Int)) = false := decide_eq_false (by omega)
            generalize hLs : listA al = Ls at HLs z1
            generalize hU : unX m a1 al = U at HR4 ⊢
            have HLsE := hid hLs
            have HKE := hid hk
            clear hLs hU hk
            obtain ⟨Wd, hWd⟩ : ∃ Wd, Wd = w4.drew := ⟨_, rfl⟩
            have HWd := hid hWd
            have HBd := hid (show Below w4.heap.size w4 Wd by rw [hWd]; exact below_drew (Below.refl _ _))
            clear hWd
            refine start_ (n := 11) (S := fun V : World => V.cell? ⟨b8, 0, none⟩ = some (.slice A3 (entL al).length c3) ∧ V.cell? ⟨b8, 1, none⟩ = some (.int .i64 m) ∧ V.cell? ⟨b5, 0, none⟩ = some (.int .i64 a0)) (ds := []) #[false, false, false, false, false, false, false, false, false, false, false] (by kernel_rfl) rfl rfl (by rw [← HWd.out]; exact HSd.out _ HBd.out) (fun hHeld => ?_); refine with_tabW regFinds.tab regFinds.bits (fun HT_ HW_ => ?_)
            rw [← HWd.out] at hHeld ⊢
            refine pure_ (i := 3) (N := some 83) (v := ?_) (a' := ?_) #[false, false, false, true, false, false, false, false, false, false, false] rfl rfl (any_of HT_.out (by kernel_rfl)) (fun _ _ _ h => h) (Or.inl ⟨by rfl, ?_⟩) ?_ ?_
            rotate_left
            · intro w'
              go_simp
              with_reducible rfl
            rotate_left
            · simp only [Act.put, List.setIfInBounds_toArray, List.set_cons_zero, List.set_cons_succ, i64_w, i32_w]
              rfl
            refine take_ (i := 0) (N := some 80) (v := ?_) (a' := ?_) #[true, false, false, true, false, false, false, false, false, false, false] rfl rfl (take_ofW HT_.out HW_.out (by kernel_rfl)) (fun _ _ _ h => h) (Or.inl ⟨by rfl, ?_⟩) hHeld ?_ ?_
            rotate_left
            · rintro w' ⟨s0, s1, s2⟩
              go_simp
              with_reducible rfl
            rotate_left
            · simp only [Act.put, List.setIfInBounds_toArray, List.set_cons_zero, List.set_cons_succ, i64_w, i32_w]
              rfl
            refine take_ (i := 4) (N := some 84) (v := ?_) (a' := ?_) #[true, false, false, true, true, false, false, false, false, false, false] rfl rfl (take_ofW HT_.out HW_.out (by kernel_rfl)) (fun _ _ _ h => h) (Or.inl ⟨by rfl, ?_⟩) hHeld ?_ ?_
            rotate_left
            · rintro w' ⟨s0, s1, s2⟩
              go_simp
              with_reducible rfl
            rotate_left
            · simp only [Act.put, List.setIfInBounds_toArray, List.set_cons_zero, List.set_cons_succ, i64_w, i32_w]
              rfl
            refine one_ (i := 1) (N := some 81) #[true, true, false, true, true, false, false, false, false, false, false] rfl rfl (one_of HT_.out (by kernel_rfl)) (by decide) (fun K hK => ?_)
            refine goes_ Tryd.func39 (by kernel_rfl) rfl #[.agg #[.slice A3 (entL al).length c3, .int .i64 m]] (by rfl) rfl rfl (by (try simp only [List.map_toArray, List.map_cons, List.map_nil]); first | done | rfl) ?_
            with_reducible refine (HLs.out _ (HT4.out.later HBd.out)).mono ?_
            rintro e w5 ⟨v5, rfl, hR5, hb5⟩
            obtain ⟨A5, c5, hv5⟩ := Kd.R_slice hR5
            subst hv5
            have HB5 := hid (HBd.out.trans (hb5.mono HBd.out.size))
            clear hR5 hb5
            refine ⟨_, rfl, ?_⟩
            refine hK.out _ _ (HSd.out _ HB5.out) (fun hHeld => ?_)
            clear hK K
            refine norm_ (a' := ?_) ?_ ?_
            rotate_left
            · show Act.put _ (some 81) _ = _
              simp only [Act.put, List.setIfInBounds_toArray, List.set_cons_zero, List.set_cons_succ, i64_w, i32_w]
              rfl
            refine pure_ (i := 2) (N := some 82) (v := ?_) (a' := ?_) #[true, true, true, true, true, false, false, false, false, false, false] rfl rfl (any_of HT_.out (by kernel_rfl)) (fun _ _ _ h => h) (Or.inl ⟨by rfl, ?_⟩) ?_ ?_
            rotate_left
            · intro w'
              go_simp
              with_reducible rfl
            rotate_left
            · simp only [Act.put, List.setIfInBounds_toArray, List.set_cons_zero, List.set_cons_succ, i64_w, i32_w]
              rfl
            refine pure_ (i := 5) (N := some 85) (v := ?_) (a' := ?_) #[true, true, true, true, true, true, false, false, false, false, false] rfl rfl (any_of HT_.out (by kernel_rfl)) (fun _ _ _ h => h) (Or.inl ⟨by rfl, ?_⟩) ?_ ?_
            rotate_left
            · intro w'
              go_simp
              with_reducible rfl
            rotate_left
            · simp only [Act.put, List.setIfInBounds_toArray, List.set_cons_zero, List.set_cons_succ, i64_w, i32_w]
              rfl
            refine pure_ (i := 6) (N := some 86) (v := ?_) (a' := ?_) #[true, true, true, true, true, true, true, false, false, false, false] rfl rfl (any_of HT_.out (by kernel_rfl)) (fun _ _ _ h => h) (Or.inl ⟨by rfl, ?_⟩) ?_ ?_
            rotate_left
            · intro w'
              go_simp
              with_reducible rfl
            rotate_left
            · simp only [Act.put, List.setIfInBounds_toArray, List.set_cons_zero, List.set_cons_succ, i64_w, i32_w]
              rfl
            refine pure_ (i := 7) (N := some 87) (v := undef) (a' := ?_) #[true, true, true, true, true, true, true, true, false, false, false] rfl rfl (any_of HT_.out (by kernel_rfl)) (fun _ _ _ h => h) (Or.inr ⟨by rfl, rfl⟩) ?_ ?_
            rotate_left
            · simp only [Act.put, List.setIfInBounds_toArray, List.set_cons_zero, List.set_cons_succ, i64_w, i32_w]
              rfl
            refine pure_ (i := 8) (N := some 88) (v := undef) (a' := ?_) #[true, true, true, true, true, true, true, true, true, false, false] rfl rfl (any_of HT_.out (by kernel_rfl)) (fun _ _ _ h => h) (Or.inr ⟨by rfl, rfl⟩) ?_ ?_
            rotate_left
            · simp only [Act.put, List.setIfInBounds_toArray, List.set_cons_zero, List.set_cons_succ, i64_w, i32_w]
              rfl
            refine pure_ (i := 9) (N := some 89) (v := undef) (a' := ?_) #[true, true, true, true, true, true, true, true, true, true, false] rfl rfl (any_of HT_.out (by kernel_rfl)) (fun _ _ _ h => h) (Or.inr ⟨by rfl, rfl⟩) ?_ ?_
            rotate_left
            · simp only [Act.put, List.setIfInBounds_toArray, List.set_cons_zero, List.set_cons_succ, i64_w, i32_w]
              rfl
            refine pure_ (i := 10) (N := some 90) (v := ?_) (a' := ?_) #[true, true, true, true, true, true, true, true, true, true, true] rfl rfl (any_of HT_.out (by kernel_rfl)) (fun _ _ _ h => h) (Or.inl ⟨by rfl, ?_⟩) ?_ ?_
            rotate_left
            · intro w'
              go_simp
              with_reducible rfl
            rotate_left
            · simp only [Act.put, List.setIfInBounds_toArray, List.set_cons_zero, List.set_cons_succ, i64_w, i32_w]
              rfl
            refine done_ (done_of HT_.out (by kernel_rfl)) ?_
            have HX := hid (show imgF a0 a1 m al = none by unfold imgF; rw [if_pos (by have := HKE.out; omega)])
            clear z1
            have HT5 := hid (HT4.out.later HB5.out)
            have HB35 := hid ((HB.out.trans (HB4.out.mono HB.out.size)).trans (HB5.out.mono (by have := HB.out.size; have := HB4.out.size; omega)))
            have HK5 := hid (blk_of HB5.out (blk_of HB4.out HK.out))
            have htk := HT5.out.gi.t
            have HIg := hid (fun V (hT : TQ w V p mb b5 b8 n0 al m a0 a1 A3 c3) => show Calls Tryd.prog 40 #[.pointer (some ⟨p, 0, none⟩), .int .i64 a0, .int .i64 a1] V (fun e w' => e = .returned (.tuple #[.string (⟨#[]⟩ : ByteArray), .bool false]) ∧ Below V.heap.size V w') from by
              have h := image_any hT.bk hT.gi.short (by omega) (fun q => by have := hT.gi.rg q; unfold Rg at this; omega) a0 a1
              unfold ImgSays at h
              rw [HX.out] at h
              exact h)
            have HCt := hid (fun V (hb : Below w.heap.size w V) => show Calls Tryd.prog 42 #[.slice A i c] V (CountSays L V) from by
              have h1 := Kd.C_below HC.out hb
              rw [HN.out] at h1
              have h2 := count_any (c := c) h1 HLT.out
              rw [← HN.out] at h2
              exact h2)
            have HNx := hid (fun V (hT : TQ w V p mb b5 b8 n0 al m a0 a1 A3 c3) => show Calls Tryd.prog 41 #[.slice A i c, .pointer (some ⟨p, 0, none⟩), .int .i64 a0, .int .i64 a1] V (NextSays (nextF L a0 a1 m al) V) from by
              have h1 := Kd.C_below HC.out hT.low
              rw [HN.out] at h1
              have h2 := next_any hT.bk hT.gi.short (by omega) (fun q => by have := hT.gi.rg q; unfold Rg at this; omega) a0 a1 (c := c) h1 HLT.out
              rw [← HN.out] at h2
              exact h2)
            obtain ⟨x0, x1, -⟩ := cells2 HT5.out.k5
            have HS79 := hid (fun (a b : Int) (s : ByteArray) W => eq79 W a b s)
            clear htk
            cases hnb : nextB L with
            | some q =>
              obtain ⟨q1, q2⟩ := q
              have hF : nextF L a0 a1 m al = ((q1, q2, ⟨#[]⟩), true) := by unfold nextF; rw [hnb]
              have hw : (wb, wc) = (q1, q2) := by rw [HW.out]; unfold wantF; rw [hnb]; rfl
              cases hw
              have hcn : countL L ≠ 0 := fun e => by rw [(count0 L).1 e] at hnb; cases hnb
              rw [hF] at HNx
              have hcl := countL_take L HLT.out i
              rw [show L.take i = L by rw [HN.out]; exact List.take_length] at hcl
              generalize hcE : countL L = cn at hcn hcl ⊢
              have HCE := hid hcE
              have z3 : ((cn : Int) == 0) = false := beq_eq_false_iff_ne.2 (by omega)
              have z4 : decide ((cn : Int) = 0) = false := decide_eq_false (by omega)
              have z5 : decide ((cn : Int) > 0) = true := decide_eq_true (by omega)
              have z6 : 0 < cn := by omega
              have E79 := fun W => HS79.out wb wc ⟨#[]⟩ W
              clear hF hnb hcn hcE
              go_wp2_with (first
                | (go_at_call 40; go_must (with_reducible refine (HIg.out _ HT5.out).mono ?_); rintro e w6 ⟨rfl, hb⟩; have HT6 := hid (HT5.out.later hb); have HK6 := hid (blk_of hb HK5.out); obtain ⟨x0, x1, -⟩ := cells2 HT6.out.k5; clear hb)
                | (go_at_call 41; go_must (with_reducible refine (HNx.out _ HT6.out).mono ?_); rintro e w7 ⟨rfl, hb⟩; have HT7 := hid (HT6.out.later hb); have k7 := blk_of hb HK6.out; have hlt7 : b10 < w7.heap.size := (Array.getElem?_eq_some_iff.1 k7).1; obtain ⟨t0, t1, t2, t3⟩ := cells3b k7; clear hb k7)
                | (go_at_call 42; go_must (with_reducible refine (HCt.out _ (HT7.out.low.alloc HT7.out.low.size _)).mono ?_); rintro e w8 ⟨rfl, hb⟩; have HB8 := hid ((HT7.out.low.alloc HT7.out.low.size (.cells #[.int .i64 wb, .int .i64 wc, .string ⟨#[]⟩] 79)).trans (hb.mono (Nat.le_trans HT7.out.low.size (by simp)))); rw [HCE.out]; clear hb)
                | (go_at_call 35; go_must (with_reducible refine (HWk.out _).mono ?_); rintro e w9 ⟨rfl, hb⟩; have HB9 := hid (HB8.out.trans (hb.mono HB8.out.size)); clear hb))
              go_ret
              exact ⟨rfl, HB9.out⟩
            | none =>
              have hF : nextF L a0 a1 m al = ((0, 0, (⟨#[]⟩ : ByteArray)), false) := by unfold nextF; rw [hnb]; simp only [HX.out, Option.getD_some, Option.getD_none, Option.isSome_some, Option.isSome_none]
              have hw : (wb, wc) = (0, 0) := by rw [HW.out]; unfold wantF; rw [hnb]; rfl
              cases hw
              rw [hF] at HNx
              have hcE := (count0 L).2 hnb
              have HCt2 := hid (fun V (hb : Below w.heap.size w V) => show Calls Tryd.prog 42 #[.slice A i c] V (fun e w' => e = .returned (.int .i64 0) ∧ Below V.heap.size V w') from by
                refine (HCt.out V hb).mono ?_
                rintro e w' ⟨rfl, h2⟩
                exact ⟨by rw [hcE]; rfl, h2⟩)
              rw [hcE]
              have E79 := fun W => HS79.out 0 0 (⟨#[]⟩ : ByteArray) W
              have hge10 := HL10.out.2.2.2.2
              clear hF hnb hcE HCt
              go_wp2_with (first
                | (go_at_call 40; go_must (with_reducible refine (HIg.out _ HT5.out).mono ?_); rintro e w6 ⟨rfl, hb⟩; have HT6 := hid (HT5.out.later hb); have HK6 := hid (blk_of hb HK5.out); obtain ⟨x0, x1, -⟩ := cells2 HT6.out.k5; clear hb)
                | (go_at_call 41; go_must (with_reducible refine (HNx.out _ HT6.out).mono ?_); rintro e w7 ⟨rfl, hb⟩; have HT7 := hid (HT6.out.later hb); have k7 := blk_of hb HK6.out; have hlt7 : b10 < w7.heap.size := (Array.getElem?_eq_some_iff.1 k7).1; obtain ⟨t0, t1, t2, t3⟩ := cells3b k7; have t32 := t3 2; clear hb k7)
                | (go_at_call 42; go_must (with_reducible refine (HCt2.out ((w7.setCell ⟨b10, 2, none⟩ (.string (⟨#[]⟩ : ByteArray))).alloc (.cells #[.int .i64 0, .int .i64 0, .string (⟨#[]⟩ : ByteArray)] 79)) ((HT7.out.low.setCell (p := ⟨b10, 2, none⟩) hge10 _).alloc (by simp; exact HT7.out.low.size) _)).mono ?_); rintro e w8 ⟨rfl, hb⟩; have HB8 := hid (((HT7.out.low.setCell (p := ⟨b10, 2, none⟩) hge10 (.string (⟨#[]⟩ : ByteArray))).alloc (by simp; exact HT7.out.low.size) (.cells #[.int .i64 0, .int .i64 0, .string (⟨#[]⟩ : ByteArray)] 79)).trans (hb.mono (Nat.le_trans HT7.out.low.size (by simp)))); clear hb)
                | (go_at_call 35; go_must (with_reducible refine (HWk.out _).mono ?_); rintro e w9 ⟨rfl, hb⟩; have HB9 := hid (HB8.out.trans (hb.mono HB8.out.size)); clear hb))
              go_ret
              exact ⟨rfl, HB9.out⟩
          · have z1 : decide (a0 < (((listA al).length : Nat) : Int)) = true := decide_eq_true (by omega)
            generalize hLs : listA al = Ls at HLs z1
            generalize hU : unX m a1 al = U at HR4
            have HLsE := hid hLs
            have HUE := hid hU
            have HKE := hid hk
            clear hLs hU hk
            cases U with
            | nil =>
              go_region_held3 (fun V => V.cell? ⟨b8, 0, none⟩ = some (.slice A3 (entL al).length c3) ∧ V.cell? ⟨b8, 1, none⟩ = some (.int .i64 m) ∧ V.cell? ⟨b5, 0, none⟩ = some (.int .i64 a0)) (first | exact HSd.out _ (below_drew (Below.refl _ _)) | exact HSd.out _ (below_drew (below_drew (Below.refl _ _))) | exact HSd.out _ HB5.out | exact HSd.out _ (below_drew HB5.out)) ((go_at_call 39; go_must (refine (HLs.out _ (HT4.out.later (by first | exact below_drew (Below.refl _ _) | exact below_drew (below_drew (Below.refl _ _))))).mono ?_; rintro e w5 ⟨v5, rfl, hR5, hb5⟩; obtain ⟨A5, c5, hv5⟩ := Kd.R_slice hR5; subst hv5; have HB5 := hid (Below.trans (show Below w4.heap.size w4 _ from by first | exact below_drew (Below.refl _ _) | exact below_drew (below_drew (Below.refl _ _))) hb5); clear hR5 hb5)))
              have HX := hid (show imgF a0 a1 m al = none by unfold imgF; rw [if_neg (by have := HKE.out; omega), HUE.out]; rfl)
              clear z1
              have HT5 := hid (HT4.out.later HB5.out)
              have HB35 := hid ((HB.out.trans (HB4.out.mono HB.out.size)).trans (HB5.out.mono (by have := HB.out.size; have := HB4.out.size; omega)))
              have HK5 := hid (blk_of HB5.out (blk_of HB4.out HK.out))
              have htk := HT5.out.gi.t
              have HIg := hid (fun V (hT : TQ w V p mb b5 b8 n0 al m a0 a1 A3 c3) => show Calls Tryd.prog 40 #[.pointer (some ⟨p, 0, none⟩), .int .i64 a0, .int .i64 a1] V (fun e w' => e = .returned (.tuple #[.string (⟨#[]⟩ : ByteArray), .bool false]) ∧ Below V.heap.size V w') from by
                have h := image_any hT.bk hT.gi.short (by omega) (fun q => by have := hT.gi.rg q; unfold Rg at this; omega) a0 a1
                unfold ImgSays at h
                rw [HX.out] at h
                exact h)
              have HCt := hid (fun V (hb : Below w.heap.size w V) => show Calls Tryd.prog 42 #[.slice A i c] V (CountSays L V) from by
                have h1 := Kd.C_below HC.out hb
                rw [HN.out] at h1
                have h2 := count_any (c := c) h1 HLT.out
                rw [← HN.out] at h2
                exact h2)
              have HNx := hid (fun V (hT : TQ w V p mb b5 b8 n0 al m a0 a1 A3 c3) => show Calls Tryd.prog 41 #[.slice A i c, .pointer (some ⟨p, 0, none⟩), .int .i64 a0, .int .i64 a1] V (NextSays (nextF L a0 a1 m al) V) from by
                have h1 := Kd.C_below HC.out hT.low
                rw [HN.out] at h1
                have h2 := next_any hT.bk hT.gi.short (by omega) (fun q => by have := hT.gi.rg q; unfold Rg at this; omega) a0 a1 (c := c) h1 HLT.out
                rw [← HN.out] at h2
                exact h2)
              obtain ⟨x0, x1, -⟩ := cells2 HT5.out.k5
              have HS79 := hid (fun (a b : Int) (s : ByteArray) W => eq79 W a b s)
              clear htk
              cases hnb : nextB L with
              | some q =>
                obtain ⟨q1, q2⟩ := q
                have hF : nextF L a0 a1 m al = ((q1, q2, ⟨#[]⟩), true) := by unfold nextF; rw [hnb]
                have hw : (wb, wc) = (q1, q2) := by rw [HW.out]; unfold wantF; rw [hnb]; rfl
                cases hw
                have hcn : countL L ≠ 0 := fun e => by rw [(count0 L).1 e] at hnb; cases hnb
                rw [hF] at HNx
                have hcl := countL_take L HLT.out i
                rw [show L.take i = L by rw [HN.out]; exact List.take_length] at hcl
                generalize hcE : countL L = cn at hcn hcl ⊢
                have HCE := hid hcE
                have z3 : ((cn : Int) == 0) = false := beq_eq_false_iff_ne.2 (by omega)
                have z4 : decide ((cn : Int) = 0) = false := decide_eq_false (by omega)
                have z5 : decide ((cn : Int) > 0) = true := decide_eq_true (by omega)
                have z6 : 0 < cn := by omega
                have E79 := fun W => HS79.out wb wc ⟨#[]⟩ W
                clear hF hnb hcn hcE
                go_wp2_with (first
                  | (go_at_call 40; go_must (with_reducible refine (HIg.out _ HT5.out).mono ?_); rintro e w6 ⟨rfl, hb⟩; have HT6 := hid (HT5.out.later hb); have HK6 := hid (blk_of hb HK5.out); obtain ⟨x0, x1, -⟩ := cells2 HT6.out.k5; clear hb)
                  | (go_at_call 41; go_must (with_reducible refine (HNx.out _ HT6.out).mono ?_); rintro e w7 ⟨rfl, hb⟩; have HT7 := hid (HT6.out.later hb); have k7 := blk_of hb HK6.out; have hlt7 : b10 < w7.heap.size := (Array.getElem?_eq_some_iff.1 k7).1; obtain ⟨t0, t1, t2, t3⟩ := cells3b k7; clear hb k7)
                  | (go_at_call 42; go_must (with_reducible refine (HCt.out _ (HT7.out.low.alloc HT7.out.low.size _)).mono ?_); rintro e w8 ⟨rfl, hb⟩; have HB8 := hid ((HT7.out.low.alloc HT7.out.low.size (.cells #[.int .i64 wb, .int .i64 wc, .string ⟨#[]⟩] 79)).trans (hb.mono (Nat.le_trans HT7.out.low.size (by simp)))); rw [HCE.out]; clear hb)
                  | (go_at_call 35; go_must (with_reducible refine (HWk.out _).mono ?_); rintro e w9 ⟨rfl, hb⟩; have HB9 := hid (HB8.out.trans (hb.mono HB8.out.size)); clear hb))
                go_ret
                exact ⟨rfl, HB9.out⟩
              | none =>
                have hF : nextF L a0 a1 m al = ((0, 0, (⟨#[]⟩ : ByteArray)), false) := by unfold nextF; rw [hnb]; simp only [HX.out, Option.getD_some, Option.getD_none, Option.isSome_some, Option.isSome_none]
                have hw : (wb, wc) = (0, 0) := by rw [HW.out]; unfold wantF; rw [hnb]; rfl
                cases hw
                rw [hF] at HNx
                have hcE := (count0 L).2 hnb
                have HCt2 := hid (fun V (hb : Below w.heap.size w V) => show Calls Tryd.prog 42 #[.slice A i c] V (fun e w' => e = .returned (.int .i64 0) ∧ Below V.heap.size V w') from by
                  refine (HCt.out V hb).mono ?_
                  rintro e w' ⟨rfl, h2⟩
                  exact ⟨by rw [hcE]; rfl, h2⟩)
                rw [hcE]
                have E79 := fun W => HS79.out 0 0 (⟨#[]⟩ : ByteArray) W
                have hge10 := HL10.out.2.2.2.2
                clear hF hnb hcE HCt
                go_wp2_with (first
                  | (go_at_call 40; go_must (with_reducible refine (HIg.out _ HT5.out).mono ?_); rintro e w6 ⟨rfl, hb⟩; have HT6 := hid (HT5.out.later hb); have HK6 := hid (blk_of hb HK5.out); obtain ⟨x0, x1, -⟩ := cells2 HT6.out.k5; clear hb)
                  | (go_at_call 41; go_must (with_reducible refine (HNx.out _ HT6.out).mono ?_); rintro e w7 ⟨rfl, hb⟩; have HT7 := hid (HT6.out.later hb); have k7 := blk_of hb HK6.out; have hlt7 : b10 < w7.heap.size := (Array.getElem?_eq_some_iff.1 k7).1; obtain ⟨t0, t1, t2, t3⟩ := cells3b k7; have t32 := t3 2; clear hb k7)
                  | (go_at_call 42; go_must (with_reducible refine (HCt2.out ((w7.setCell ⟨b10, 2, none⟩ (.string (⟨#[]⟩ : ByteArray))).alloc (.cells #[.int .i64 0, .int .i64 0, .string (⟨#[]⟩ : ByteArray)] 79)) ((HT7.out.low.setCell (p := ⟨b10, 2, none⟩) hge10 _).alloc (by simp; exact HT7.out.low.size) _)).mono ?_); rintro e w8 ⟨rfl, hb⟩; have HB8 := hid (((HT7.out.low.setCell (p := ⟨b10, 2, none⟩) hge10 (.string (⟨#[]⟩ : ByteArray))).alloc (by simp; exact HT7.out.low.size) (.cells #[.int .i64 0, .int .i64 0, .string (⟨#[]⟩ : ByteArray)] 79)).trans (hb.mono (Nat.le_trans HT7.out.low.size (by simp)))); clear hb)
                  | (go_at_call 35; go_must (with_reducible refine (HWk.out _).mono ?_); rintro e w9 ⟨rfl, hb⟩; have HB9 := hid (HB8.out.trans (hb.mono HB8.out.size)); clear hb))
                go_ret
                exact ⟨rfl, HB9.out⟩
            | cons u r =>
              obtain ⟨g9, cap9, hv9, -⟩ := Kd.R_form HR4.out (by simp)
              have hA9 : A9 = some ⟨g9, 0, none⟩ := by injection hv9
              subst hA9
              have hp9 : 0 < (u :: r).length := by simp
              clear hv9
              go_region_held3 (fun V => V.cell? ⟨b8, 0, none⟩ = some (.slice A3 (entL al).length c3) ∧ V.cell? ⟨b8, 1, none⟩ = some (.int .i64 m) ∧ V.cell? ⟨b5, 0, none⟩ = some (.int .i64 a0)) (first | exact HSd.out _ (below_drew (Below.refl _ _)) | exact HSd.out _ (below_drew (below_drew (Below.refl _ _))) | exact HSd.out _ HB5.out | exact HSd.out _ (below_drew HB5.out)) ((go_at_call 39; go_must (refine (HLs.out _ (HT4.out.later (by first | exact below_drew (Below.refl _ _) | exact below_drew (below_drew (Below.refl _ _))))).mono ?_; rintro e w5 ⟨v5, rfl, hR5, hb5⟩; obtain ⟨A5, c5, hv5⟩ := Kd.R_slice hR5; subst hv5; have HB5 := hid (Below.trans (show Below w4.heap.size w4 _ from by first | exact below_drew (Below.refl _ _) | exact below_drew (below_drew (Below.refl _ _))) hb5); clear hR5 hb5)))
              have HX := hid (show imgF a0 a1 m al = some u by unfold imgF; rw [if_neg (by have := HKE.out; omega), HUE.out]; rfl)
              have hun : ¬ u.toList = [] := fun e => by
                have h1 := (img_trash HT4.out.gi HT4.out.ne HX.out).2.2.2.2
                rw [ByteArray.toList_eq] at e
                have h2 : u.data.toList.length = 0 := by rw [e]; rfl
                rw [Array.length_toList] at h2
                have h3 : u.size = 0 := h2
                omega
              have hun2 : (!u.toList.isEmpty) = true := by simpa using hun
              have hg9 : w5.cell? ⟨g9, 0, none⟩ = some (.string u) := by
                obtain ⟨ad, hA, hc0⟩ := Kd.at_string (Kd.R_reads' HR4.out).2.2 0 (by omega) (by simp <;> omega)
                cases hA
                have hc1 : w4.cell? ⟨g9, 0, none⟩ = some (.string u) := by simpa [add_plain, rdOf] using hc0
                exact pw_cell_below HB5.out hc1
              clear z1 hp9
              have HT5 := hid (HT4.out.later HB5.out)
              have HB35 := hid ((HB.out.trans (HB4.out.mono HB.out.size)).trans (HB5.out.mono (by have := HB.out.size; have := HB4.out.size; omega)))
              have HK5 := hid (blk_of HB5.out (blk_of HB4.out HK.out))
              have htk := HT5.out.gi.t
              have HIg := hid (fun V (hT : TQ w V p mb b5 b8 n0 al m a0 a1 A3 c3) => show Calls Tryd.prog 40 #[.pointer (some ⟨p, 0, none⟩), .int .i64 a0, .int .i64 a1] V (fun e w' => e = .returned (.tuple #[.string u, .bool true]) ∧ Below V.heap.size V w') from by
                have h := image_any hT.bk hT.gi.short (by omega) (fun q => by have := hT.gi.rg q; unfold Rg at this; omega) a0 a1
                unfold ImgSays at h
                rw [HX.out] at h
                exact h)
              have HCt := hid (fun V (hb : Below w.heap.size w V) => show Calls Tryd.prog 42 #[.slice A i c] V (CountSays L V) from by
                have h1 := Kd.C_below HC.out hb
                rw [HN.out] at h1
                have h2 := count_any (c := c) h1 HLT.out
                rw [← HN.out] at h2
                exact h2)
              have HNx := hid (fun V (hT : TQ w V p mb b5 b8 n0 al m a0 a1 A3 c3) => show Calls Tryd.prog 41 #[.slice A i c, .pointer (some ⟨p, 0, none⟩), .int .i64 a0, .int .i64 a1] V (NextSays (nextF L a0 a1 m al) V) from by
                have h1 := Kd.C_below HC.out hT.low
                rw [HN.out] at h1
                have h2 := next_any hT.bk hT.gi.short (by omega) (fun q => by have := hT.gi.rg q; unfold Rg at this; omega) a0 a1 (c := c) h1 HLT.out
                rw [← HN.out] at h2
                exact h2)
              obtain ⟨x0, x1, -⟩ := cells2 HT5.out.k5
              have HS79 := hid (fun (a b : Int) (s : ByteArray) W => eq79 W a b s)
              clear htk
              cases hnb : nextB L with
              | some q =>
                obtain ⟨q1, q2⟩ := q
                have hF : nextF L a0 a1 m al = ((q1, q2, ⟨#[]⟩), true) := by unfold nextF; rw [hnb]
                have hw : (wb, wc) = (q1, q2) := by rw [HW.out]; unfold wantF; rw [hnb]; rfl
                cases hw
                have hcn : countL L ≠ 0 := fun e => by rw [(count0 L).1 e] at hnb; cases hnb
                rw [hF] at HNx
                have hcl := countL_take L HLT.out i
                rw [show L.take i = L by rw [HN.out]; exact List.take_length] at hcl
                generalize hcE : countL L = cn at hcn hcl ⊢
                have HCE := hid hcE
                have z3 : ((cn : Int) == 0) = false := beq_eq_false_iff_ne.2 (by omega)
                have z4 : decide ((cn : Int) = 0) = false := decide_eq_false (by omega)
                have z5 : decide ((cn : Int) > 0) = true := decide_eq_true (by omega)
                have z6 : 0 < cn := by omega
                have E79 := fun W => HS79.out wb wc ⟨#[]⟩ W
                clear hF hnb hcn hcE
                go_wp2_with (first
                  | (go_at_call 40; go_must (with_reducible refine (HIg.out _ HT5.out).mono ?_); rintro e w6 ⟨rfl, hb⟩; have HT6 := hid (HT5.out.later hb); have HK6 := hid (blk_of hb HK5.out); obtain ⟨x0, x1, -⟩ := cells2 HT6.out.k5; clear hb)
                  | (go_at_call 41; go_must (with_reducible refine (HNx.out _ HT6.out).mono ?_); rintro e w7 ⟨rfl, hb⟩; have HT7 := hid (HT6.out.later hb); have k7 := blk_of hb HK6.out; have hlt7 : b10 < w7.heap.size := (Array.getElem?_eq_some_iff.1 k7).1; obtain ⟨t0, t1, t2, t3⟩ := cells3b k7; clear hb k7)
                  | (go_at_call 42; go_must (with_reducible refine (HCt.out _ (HT7.out.low.alloc HT7.out.low.size _)).mono ?_); rintro e w8 ⟨rfl, hb⟩; have HB8 := hid ((HT7.out.low.alloc HT7.out.low.size (.cells #[.int .i64 wb, .int .i64 wc, .string ⟨#[]⟩] 79)).trans (hb.mono (Nat.le_trans HT7.out.low.size (by simp)))); rw [HCE.out]; clear hb)
                  | (go_at_call 35; go_must (with_reducible refine (HWk.out _).mono ?_); rintro e w9 ⟨rfl, hb⟩; have HB9 := hid (HB8.out.trans (hb.mono HB8.out.size)); clear hb))
                go_ret
                exact ⟨rfl, HB9.out⟩
              | none =>
                have hF : nextF L a0 a1 m al = ((0, 0, u), true) := by unfold nextF; rw [hnb]; simp only [HX.out, Option.getD_some, Option.getD_none, Option.isSome_some, Option.isSome_none]
                have hw : (wb, wc) = (0, 0) := by rw [HW.out]; unfold wantF; rw [hnb]; rfl
                cases hw
                rw [hF] at HNx
                have hcE := (count0 L).2 hnb
                have HCt2 := hid (fun V (hb : Below w.heap.size w V) => show Calls Tryd.prog 42 #[.slice A i c] V (fun e w' => e = .returned (.int .i64 0) ∧ Below V.heap.size V w') from by
                  refine (HCt.out V hb).mono ?_
                  rintro e w' ⟨rfl, h2⟩
                  exact ⟨by rw [hcE]; rfl, h2⟩)
                rw [hcE]
                have E79 := fun W => HS79.out 0 0 u W
                have hge10 := HL10.out.2.2.2.2
                clear hF hnb hcE HCt
                go_wp2_with (first
                  | (go_at_call 40; go_must (with_reducible refine (HIg.out _ HT5.out).mono ?_); rintro e w6 ⟨rfl, hb⟩; have HT6 := hid (HT5.out.later hb); have HK6 := hid (blk_of hb HK5.out); obtain ⟨x0, x1, -⟩ := cells2 HT6.out.k5; clear hb)
                  | (go_at_call 41; go_must (with_reducible refine (HNx.out _ HT6.out).mono ?_); rintro e w7 ⟨rfl, hb⟩; have HT7 := hid (HT6.out.later hb); have k7 := blk_of hb HK6.out; have hlt7 : b10 < w7.heap.size := (Array.getElem?_eq_some_iff.1 k7).1; obtain ⟨t0, t1, t2, t3⟩ := cells3b k7; have t32 := t3 2; clear hb k7)
                  | (go_at_call 42; go_must (with_reducible refine (HCt2.out ((w7.setCell ⟨b10, 2, none⟩ (.string u)).alloc (.cells #[.int .i64 0, .int .i64 0, .string u] 79)) ((HT7.out.low.setCell (p := ⟨b10, 2, none⟩) hge10 _).alloc (by simp; exact HT7.out.low.size) _)).mono ?_); rintro e w8 ⟨rfl, hb⟩; have HB8 := hid (((HT7.out.low.setCell (p := ⟨b10, 2, none⟩) hge10 (.string u)).alloc (by simp; exact HT7.out.low.size) (.cells #[.int .i64 0, .int .i64 0, .string u] 79)).trans (hb.mono (Nat.le_trans HT7.out.low.size (by simp)))); clear hb)
                  | (go_at_call 35; go_must (with_reducible refine (HWk.out _).mono ?_); rintro e w9 ⟨rfl, hb⟩; have HB9 := hid (HB8.out.trans (hb.mono HB8.out.size)); clear hb))
                go_ret
                exact ⟨rfl, HB9.out⟩
end Go.Proofs.YtmgcapccgncmkaaDoor.Tr
namespace Go.Proofs.YtmgcapccgncmkaaDoor.Tr
open Go.ChangeShapes Go.WideShapes Go.ChangeAt Go.RowKit Go.Pv Go.Proofs.YtmgcapccgncmkaaDoor.Im Go.Proofs.YtmgcapccgncmkaaDoor.Tx Go.Proofs.YtmgcapccgncmkaaDoorW.PrintWords Go.Proofs.YtmgcapccgncmkaaDoor.PTrashFinds
theorem okWide_array {P : Program} {w : World} {r : Reach} {base : Nat} {t e : TypeId} {n : Nat} {v : Value} (ht : P.underlying t = some (.array n e)) (h : Value.okWide P w r base t v) : ∃ cs, v = .agg cs ∧ cs.size = P.cellsOf t := by
  simp only [Value.okWide, ht] at h
  obtain ⟨cs, h1, h2, _⟩ := h
  exact ⟨cs, h1, h2⟩
set_option maxRecDepth 100000 in
theorem open_two {H : Type} {enc : TypeId × Value → H} {W : World} {base b2 fuel : Nat} {r : Reach} {spare : Nat → Bool} {held : Bool} {v : Value} {x : DataW H × List MemPlace} (hv : Value.okWide Tryd.prog W r base 74 v) (h : DataW.trod enc Tryd.prog W b2 spare held fuel 74 v.cells.toList = some x) : ∃ a0 a1, v = .agg #[.int .i64 a0, .int .i64 a1] := by
  obtain ⟨cs, rfl, hs⟩ := okWide_array Tryd.underlying74 hv
  have hs2 : cs.size = 2 := hs.trans (show Tryd.prog.cellsOf 74 = 2 by kernel_rfl)
  obtain ⟨m, hel⟩ : ∃ m : Nat, ∀ i, i < 2 → ∃ y, DataW.trod enc Tryd.prog W b2 spare held m 3 ((cs.toList.drop (i * 1)).take 1) = some y := by
    obtain ⟨xs, m, -, -, -, hx, hel⟩ := DataW.trod_array Tryd.underlying74 h
    refine ⟨m, fun i hi => ?_⟩
    have h1 := hel i hi
    rw [show Tryd.prog.cellsOf 3 = 1 by kernel_rfl, List.getElem?_eq_getElem (by rw [hx]; exact hi)] at h1
    exact ⟨_, h1⟩
  obtain ⟨y0, h0⟩ := hel 0 (by omega)
  obtain ⟨y1, h1⟩ := hel 1 (by omega)
  obtain ⟨a0, e0, _⟩ := DataW.trod_int Tryd.underlying3 h0
  obtain ⟨a1, e1, _⟩ := DataW.trod_int Tryd.underlying3 h1
  refine ⟨a0, a1, ?_⟩
  have h3 : cs.toList = [.int .i64 a0, .int .i64 a1] := by
    obtain ⟨l⟩ := cs
    simp only at e0 e1 hs2 ⊢
    match l, hs2 with
    | [x, y], _ =>
      simp at e0 e1
      rw [e0, e1]
  rw [← h3]
theorem opn93 : Opn Tryd.prog 93 k93 (fun _ => True) :=
  (opn_iso (fun a => (⟨a.1, a.2.1, a.2.2⟩ : S93)) (fun _ => rfl) (opn_struct Tryd.underlying93 (by kernel_rfl) (.cons rfl (by kernel_rfl) (opn_int Tryd.underlying3) (.cons rfl (by kernel_rfl) (opn_int Tryd.underlying3) (.last rfl (by kernel_rfl) (opn_int Tryd.underlying3)))))).mono (fun _ _ => trivial)
theorem opn95 : Opn Tryd.prog 95 k95 (fun _ => True) :=
  (opn_iso (fun a => (⟨a.1, a.2.1, a.2.2.1, a.2.2.2.1, a.2.2.2.2⟩ : S95)) (fun _ => rfl) (opn_struct Tryd.underlying95 (by kernel_rfl) (.cons rfl (by kernel_rfl) (opn_int Tryd.underlying3) (.cons rfl (by kernel_rfl) (opn_string Tryd.underlying9) (.cons rfl (by kernel_rfl) (opn_string Tryd.underlying9) (.cons rfl (by kernel_rfl) opn93 (.last rfl (by kernel_rfl) (opn_bool Tryd.underlying4)))))))).mono (fun _ _ => trivial)
theorem opn83 : Opn Tryd.prog 83 k83 (fun _ => True) :=
  (opn_iso (fun a => (⟨a.1, a.2.1, a.2.2.1, a.2.2.2⟩ : S83)) (fun _ => rfl) (opn_struct Tryd.underlying83 (by kernel_rfl) (.cons rfl (by kernel_rfl) (opn_int Tryd.underlying3) (.cons rfl (by kernel_rfl) (opn_int Tryd.underlying3) (.cons rfl (by kernel_rfl) (opn_int Tryd.underlying3) (.last rfl (by kernel_rfl) (opn_slice Tryd.underlying81 (by kernel_rfl) opn95))))))).mono (fun _ _ => trivial)
theorem opnBoxes : Opn Tryd.prog 72 (Kd.slice 83 k83) (fun _ => True) := (opn_slice Tryd.underlying72 (by kernel_rfl) opn83).mono (fun _ _ => trivial)
theorem opnAct2 : Opn Tryd.prog 132 kA (fun _ => True) :=
  (opn_struct Tryd.underlying132 (by kernel_rfl) (.cons rfl (by kernel_rfl) (opn_int Tryd.underlying3) (.last rfl (by kernel_rfl) (opn_string Tryd.underlying9)))).mono (fun _ _ => trivial)
theorem opnActs2 : Opn Tryd.prog 73 (Kd.slice 132 kA) (fun _ => True) := (opn_slice Tryd.underlying73 (by kernel_rfl) opnAct2).mono (fun _ _ => trivial)
theorem findsLaw' {v v2 : Value} {L : List S83} {l : List (Int × ByteArray)} {a0 a1 : Int} {W : World} (hz : Rz k83 W v L) (hz2 : Rz kA W v2 l) (hG : Gm W) : Calls Tryd.prog 7 #[v, v2, .agg #[.int .i64 a0, .int .i64 a1]] W fun e w' => e = .returned (.bool true) ∧ Below W.heap.size W w' := by
  obtain ⟨A, c, rfl, hc, hC⟩ := hz
  obtain ⟨A2, c2, rfl, hc2, hC2⟩ := hz2
  exact finds_any hC hc hC2 a0 a1 hG
end Go.Proofs.YtmgcapccgncmkaaDoor.Tr
