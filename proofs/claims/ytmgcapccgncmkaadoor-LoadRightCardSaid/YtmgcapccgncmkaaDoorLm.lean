/- Load: the document's line (45.1), as its walk; the words. -/
import Derived.Test.YtmgcapccgncmkaaDoorLl
set_option linter.unusedSimpArgs false
set_option linter.unusedVariables false
namespace Go.Proofs.YtmgcapccgncmkaaDoor.Ld
open Go.RowKit Go.Pv Go.Proofs.YtmgcapccgncmkaaDoor.PLoadScripts Go.Proofs.YtmgcapccgncmkaaDoorW.PrintWords Go.Proofs.YtmgcapccgncmkaaDoorW.PrintLast Go.Proofs.YtmgcapccgncmkaaDoorW.PrintMore

theorem words_any (v : Int) (h1 : 1 ≤ v) (h2 : v < 24) (W : World) : Calls Tryd.prog 47 #[] W fun e w' => ∃ g c, e = .returned (.slice (some ⟨g, 0, none⟩) 24 c) ∧ w'.cell? ⟨g, v.toNat, none⟩ = some (.string (vb v).1) ∧ Below W.heap.size W w' := by
  refine (provostref45_words.calls (vtab.map (·.1)) W rfl).mono ?_
  rintro e w' ⟨x, rfl, hR, hb⟩
  obtain ⟨g, c, rfl, hc, hg, hcell⟩ := strs_of_R hR (by decide)
  refine ⟨g, c, rfl, ?_, hb⟩
  have hx : vtab[v.toNat]? = some (vb v) := by
    unfold vb
    rw [List.getD_eq_getElem?_getD, List.getElem?_eq_getElem (by show v.toNat < 24; omega)]
    rfl
  have := hcell v.toNat (vb v).1 (by rw [List.getElem?_map, hx]; rfl)
  simpa using this

/-- A line's beginning: the word, and j numbers. -/
def preL (v : Int) (l : List Int) : ByteArray := ⟨(Lib.join (((vb v).1 :: l.map ntext).map (·.data.toList)) [32]).toArray⟩
theorem join_snoc (x y : List UInt8) (r : List (List UInt8)) (sep : List UInt8) : Lib.join ((x :: r) ++ [y]) sep = Lib.join (x :: r) sep ++ (sep ++ y) := by
  rw [List.cons_append, Lib.join_cons, Lib.join_cons]
  unfold Lib.joinTail
  rw [List.map_append, List.flatten_append]
  simp
theorem join_snoc_b (x y : ByteArray) (r : List ByteArray) : (⟨(Lib.join ((x :: r).map (·.data.toList)) [32]).toArray⟩ : ByteArray) ++ ⟨#[32]⟩ ++ y = ⟨(Lib.join (((x :: r) ++ [y]).map (·.data.toList)) [32]).toArray⟩ := by
  rw [List.map_append, List.map_cons, List.map_cons, List.map_nil, join_snoc]
  apply ByteArray.ext
  rw [ByteArray.data_append, ByteArray.data_append]
  simp
theorem preL_snoc (v : Int) (l : List Int) (n : Int) : preL v l ++ ⟨#[32]⟩ ++ ntext n = preL v (l ++ [n]) := by
  unfold preL
  rw [List.map_append]
  exact join_snoc_b _ _ _
theorem preL_data (v : Int) (l : List Int) (d : ByteArray) (hk : (vb v).2.2 = 2) : preL v l ++ ⟨#[32]⟩ ++ d = lineL (v, l, d) := by
  unfold preL lineL partsL heads
  rw [hk, if_pos rfl]
  exact join_snoc_b _ _ _
theorem preL_none (v : Int) (l : List Int) (d : ByteArray) (hk : (vb v).2.2 ≠ 2) : preL v l = lineL (v, l, d) := by
  unfold preL lineL partsL heads
  rw [if_neg hk, List.append_nil]
theorem preL_nil (v : Int) : preL v [] = (vb v).1 := by
  unfold preL
  rw [List.map_nil, List.map_cons, List.map_nil, Lib.join_one]
theorem preL_size (v : Int) (l : List Int) (hl : l.length ≤ 5) : (preL v l).size ≤ 1000 := by
  show (Lib.join (((vb v).1 :: l.map ntext).map (·.data.toList)) [32]).length ≤ 1000
  rw [List.map_cons, Lib.join_length]
  have := lens_le ((vb v).1.data.toList :: (l.map ntext).map (·.data.toList)) 20 (fun x hx => by
    rcases List.mem_cons.1 hx with rfl | hx
    · have := (vb_small v).2; omega
    · obtain ⟨y, hy, rfl⟩ := List.mem_map.1 hx
      obtain ⟨n, hn, rfl⟩ := List.mem_map.1 hy
      exact ntext_size n)
  simp only [List.length_cons, List.length_map, List.length_nil] at this ⊢
  omega
theorem add_small {x y : Nat} (hx : x ≤ 1100) (hy : y ≤ 20) : decide (x + y > 9223372036854775807) = false ∧ ¬ (x + y > 9223372036854775807) ∧ ¬ (9223372036854775807 < x + y) := by
  refine ⟨decide_eq_false ?_, ?_, ?_⟩ <;> omega
/-- While the document's line is made. -/
structure RL (w W : World) (E : Ent) (A : Option Addr) (c : Nat) : Prop where
  low : Below w.heap.size w W
  box : W.heap[w.heap.size]? = some (.cells #[.int .i64 E.1, .slice A E.2.1.length c, .string E.2.2] 29 (0, 0))
theorem RL.later {w W V : World} {E : Ent} {A : Option Addr} {c : Nat} (h : RL w W E A c) (hb : Below W.heap.size W V) : RL w V E A c :=
  ⟨h.low.trans (hb.mono h.low.size), (hb.block _ (Array.getElem?_eq_some_iff.1 h.box).1).trans h.box⟩
theorem RL.cells {w W : World} {E : Ent} {A : Option Addr} {c : Nat} (h : RL w W E A c) : W.cell? ⟨w.heap.size, 0, none⟩ = some (.int .i64 E.1) ∧ W.cell? ⟨w.heap.size, 1, none⟩ = some (.slice A E.2.1.length c) ∧ W.cell? ⟨w.heap.size, 2, none⟩ = some (.string E.2.2) := by
  refine ⟨?_, ?_, ?_⟩ <;> (rw [cell_of_row W _ _ _ _ _ h.box]; rfl)
def reg18x1.T : Bool × List (List Nat × List Nat) := (true, [([], []), ([], []), ([1], [1]), ([0, 2], [0, 2]), ([3], [3]), ([4, 0, 0, 1, 2, 3, 4], [4])])
def reg18x1.B : List Nat := [0, 0, 2, 7, 15, 31]
theorem reg18x1.tab : rtab .any (opsOf Tryd.f18 1) = reg18x1.T := by kernel_rfl
theorem reg18x1.bits : waitsOk reg18x1.T.2 reg18x1.B = true := by kernel_rfl

set_option maxRecDepth 10000 in
set_option maxHeartbeats 1000000 in
theorem rline_any (E : Ent) (hr : rightB E = true) (hk : (vb E.1).2.2 ≠ 1) (A : Option Addr) (c : Nat) (w : World) (hC : Kd.C (Kd.int .i64) w A E.2.1.length E.2.1) :
    Calls Tryd.prog 18 #[.agg #[.int .i64 E.1, .slice A E.2.1.length c, .string E.2.2]] w fun e w' => e = .returned (.string (lineL E)) ∧ Below w.heap.size w w' := by
  have hv := rightB_verb hr
  have HWo := hid (fun W => words_any E.1 hv.1 hv.2 W)
  have HTx := hid (fun n h0 h1 (W : World) => rtext_any n h0 h1 W)
  have HNU := hid (fun n hn => rightB_nums hr n hn)
  have HNT := hid (fun n => ntext_size n)
  have hlen5 := rightB_len hr
  have hdat := rightB_data hr
  have hkk : (vb E.1).2.2 = 0 ∨ (vb E.1).2.2 = 2 := by have := vb_kind E.1; omega
  have hd0 : (vb E.1).2.2 = 0 → E.2.2.size = 0 := fun h => by
    unfold rightB at hr
    rw [h] at hr
    simp only [Bool.and_eq_true] at hr
    simpa [dataB] using hr.2
  have hd2 : (vb E.1).2.2 = 2 → E.2.2.size ≠ 0 := fun h => by
    unfold rightB at hr
    rw [h] at hr
    simp only [Bool.and_eq_true] at hr
    have h9 : nameB E.2.2 = true := by simpa [dataB] using hr.2
    unfold nameB at h9
    simp only [Bool.and_eq_true] at h9
    simpa using h9.1.1.1.1
  have hv2 : E.1 ≠ 2 := fun h => by rw [h] at hk; exact hk (by decide)
  have HBX := hid (RL.mk (w := w) (E := E) (A := A) (c := c) ((Below.refl _ w).alloc (Nat.le_refl _) _) (heap_alloc_new w _))
  have HC0 := hid hC
  have HPN := hid (fun l n => preL_snoc E.1 l n)
  have HPD := hid (fun l d h => preL_data E.1 l d h)
  have HP0 := hid (fun l d h => preL_none E.1 l d h)
  have HPS := hid (fun l h => preL_size E.1 l h)
  have hpn := preL_nil E.1
  obtain ⟨v, ns, d⟩ := E
  simp only at HWo HNU hlen5 hkk hd0 hd2 hdat HBX HC0 HPN HPD HP0 HPS hpn hv hv2 ⊢
  have b4 : (0 : Int) ≤ v := by omega
  have b5 : v < 24 := by omega
  have bv : (v == 2) = false := by simpa using hv2
  clear hC hr hk hv hv2
  go_enter Tryd.func18, Tryd.ntmps18
  go_wp2_with fail
  obtain ⟨Wd, hWd⟩ : ∃ Wd, Wd = (w.alloc (.cells #[.int .i64 v, .slice A ns.length c, .string d] 29)).drew := ⟨_, rfl⟩
  have HWd := hid hWd
  have HBd := hid (show RL w Wd (v, ns, d) A c by rw [hWd]; exact HBX.out.later (Below.refl _ _).drew)
  clear hWd HBX
  refine start_ (n := 6) (S := fun V : World => V.cell? ⟨w.heap.size, 0, none⟩ = some (.int .i64 v)) (ds := []) #[false, false, false, false, false, false] (by kernel_rfl) rfl rfl (by rw [← HWd.out]; exact HBd.out.cells.1) (fun hHeld => ?_); refine with_tabW reg18x1.tab reg18x1.bits (fun HT_ HW_ => ?_)
  rw [← HWd.out] at hHeld ⊢
  refine pure_ (i := 1) (N := some 7) (v := ?_) (a' := ?_) #[false, true, false, false, false, false] rfl rfl (any_of HT_.out (by kernel_rfl)) (fun _ _ _ h => h) (Or.inl ⟨by rfl, ?_⟩) ?_ ?_
  rotate_left
  · intro w'
    go_simp
    with_reducible rfl
  rotate_left
  · simp only [Act.put, List.setIfInBounds_toArray, List.set_cons_zero, List.set_cons_succ, i64_w, i32_w]
    rfl
  refine take_ (i := 2) (N := some 8) (v := ?_) (a' := ?_) #[false, true, true, false, false, false] rfl rfl (take_ofW HT_.out HW_.out (by kernel_rfl)) (fun _ _ _ h => h) (Or.inl ⟨by rfl, ?_⟩) hHeld ?_ ?_
  rotate_left
  · rintro w' s0
    go_simp
    with_reducible rfl
  rotate_left
  · simp only [Act.put, List.setIfInBounds_toArray, List.set_cons_zero, List.set_cons_succ, i64_w, i32_w]
    rfl
  refine one_ (i := 0) (N := some 6) #[true, true, true, false, false, false] rfl rfl (one_of HT_.out (by kernel_rfl)) (by decide) (fun K hK => ?_)
  refine goes_ Tryd.func47 (by kernel_rfl) rfl #[] (by rfl) rfl rfl (by (try simp only [List.map_toArray, List.map_cons, List.map_nil]); first | done | rfl) ?_
  with_reducible refine (HWo.out _).mono ?_
  rintro e w1 ⟨g, cg, rfl, hcell, hb⟩
  have HB1 := hid (HBd.out.later hb)
  clear hb
  refine ⟨_, rfl, ?_⟩
  refine hK.out _ _ HB1.out.cells.1 (fun hHeld => ?_)
  clear hK K
  refine norm_ (a' := ?_) ?_ ?_
  rotate_left
  · show Act.put _ (some 6) _ = _
    simp only [Act.put, List.setIfInBounds_toArray, List.set_cons_zero, List.set_cons_succ, i64_w, i32_w]
    rfl
  refine pure_ (i := 3) (N := some 9) (v := ?_) (a' := ?_) #[true, true, true, true, false, false] rfl rfl (any_of HT_.out (by kernel_rfl)) (fun _ _ _ h => h) (Or.inl ⟨by rfl, ?_⟩) ?_ ?_
  rotate_left
  · intro w'
    go_simp
    with_reducible rfl
  rotate_left
  · simp only [Act.put, List.setIfInBounds_toArray, List.set_cons_zero, List.set_cons_succ, i64_w, i32_w]
    rfl
  refine one_ (i := 4) (N := some 10) #[true, true, true, true, true, false] rfl rfl (one_of HT_.out (by kernel_rfl)) (by decide) (fun K hK => ?_)
  refine value_ (v := .string (vb v).1) (w1 := w1) (by rfl) rfl (by go_simp) ?_
  refine hK.out _ _ hHeld (fun hHeld => ?_)
  clear hK K
  refine norm_ (a' := ?_) ?_ ?_
  rotate_left
  · show Act.put _ (some 10) _ = _
    simp only [Act.put, List.setIfInBounds_toArray, List.set_cons_zero, List.set_cons_succ, i64_w, i32_w]
    rfl
  refine pure_ (i := 5) (N := some 3) (v := ?_) (a' := ?_) #[true, true, true, true, true, true] rfl rfl (any_of HT_.out (by kernel_rfl)) (fun _ _ _ h => h) (Or.inl ⟨by rfl, ?_⟩) ?_ ?_
  rotate_left
  · intro w'
    go_simp
    with_reducible rfl
  rotate_left
  · simp only [Act.put, List.setIfInBounds_toArray, List.set_cons_zero, List.set_cons_succ, i64_w, i32_w]
    rfl
  refine done_ (done_of HT_.out (by kernel_rfl)) ?_
  go_wp2_with fail
  have HX0 := hid (show (vb v).1 = preL v (ns.take 0) by rw [List.take_zero, hpn])
  clear hpn
  go_loopg [3, 4] ns.length (fun q s3 s4 wr => ∃ j : Nat, s3 = .string (preL v (ns.take j)) ∧ s4 = .int .i64 j ∧ q = ns.length - j ∧ j ≤ ns.length ∧ Hid (RL w wr (v, ns, d) A c))
  case atStart => exact ⟨0, by rw [HX0.out], rfl, by omega, by omega, HB1⟩
  case round =>
    clear HB1 HX0
    obtain ⟨j, rfl, rfl, rfl, hj, HL⟩ := hrel
    obtain ⟨z0, z1, z2⟩ := HL.out.cells
    simp only at z0 z1 z2
    have hsz := HPS.out (ns.take j) (by rw [List.length_take]; omega)
    by_cases hjn : j < ns.length
    · have b6 : decide ((j : Int) < (ns.length : Int)) = true := decide_eq_true (by omega)
      have HCr := hid (Kd.C_below HC0.out HL.out.low)
      obtain ⟨b, o, hA, hcell⟩ := C_int_at HCr.out j hjn
      subst hA
      have hnu := HNU.out ns[j] (List.getElem_mem hjn)
      have hpj := HPN.out (ns.take j) ns[j]
      have e2 : ns.take (j + 1) = ns.take j ++ [ns[j]] := by rw [List.take_add_one, List.getElem?_eq_getElem hjn]; rfl
      rw [← e2] at hpj
      have HPJ := hid hpj
      have hnt := HNT.out ns[j]
      have hnt2 : (ntext ns[j]).size ≤ 20 := by rw [Array.length_toList] at hnt; exact hnt
      have hs1 : (⟨#[32]⟩ : ByteArray).size = 1 := rfl
      obtain ⟨x1, x2, x3⟩ := add_small (x := (preL v (ns.take j)).size) (y := 1) (by omega) (by omega)
      have hs2 : (preL v (ns.take j) ++ ⟨#[32]⟩ : ByteArray).size = (preL v (ns.take j)).size + 1 := by rw [ByteArray.size_append, hs1]
      obtain ⟨y1, y2, y3⟩ := add_small (x := (preL v (ns.take j)).size + 1) (y := (ntext ns[j]).size) (by omega) (by omega)
      clear hpj hnt e2
      go_wp2_with (go_at_call 48; go_must (with_reducible refine (HTx.out _ hnu.1 (by omega) _).mono ?_); rintro e w2 ⟨rfl, hb⟩; have HL2 := hid (HL.out.later hb); clear hb HL; have HL := HL2; clear HL2)
      rw [HPJ.out]
      go_roundg (ns.length - (j + 1))
      case measure => omega
      case rel => exact ⟨j + 1, rfl, by simp, rfl, by omega, HL⟩
    · have b6 : decide ((j : Int) < (ns.length : Int)) = false := decide_eq_false (by omega)
      have hjj : j = ns.length := by omega
      subst hjj
      rw [List.take_length] at hsz ⊢
      have hE := isEmpty_size d
      rcases hkk with hk | hk
      · have hds := hd0 hk
        rw [decide_eq_true hds] at hE
        have HF := HP0.out ns d (by rw [hk]; decide)
        rw [HF]
        go_wp2_with fail
        go_ret
        exact ⟨rfl, HL.out.low⟩
      · have hds := hd2 hk
        rw [decide_eq_false hds] at hE
        have HF := hid (HPD.out ns d hk)
        have hdl := hdat hk
        have hs1 : (⟨#[32]⟩ : ByteArray).size = 1 := rfl
        obtain ⟨x1, x2, x3⟩ := add_small (x := (preL v ns).size) (y := 1) (by omega) (by omega)
        have hs2 : (preL v ns ++ ⟨#[32]⟩ : ByteArray).size = (preL v ns).size + 1 := by rw [ByteArray.size_append, hs1]
        obtain ⟨y1, y2, y3⟩ := add_small (x := (preL v ns).size + 1) (y := d.size) (by omega) (by omega)
        go_wp2_with fail
        rw [HF.out]
        go_ret
        exact ⟨rfl, HL.out.low⟩
end Go.Proofs.YtmgcapccgncmkaaDoor.Ld
