/- Load: the law LoadScripts, walked. -/
import Derived.Test.YtmgcapccgncmkaaDoorLo
set_option linter.unusedSimpArgs false
set_option linter.unusedVariables false
namespace Go.Proofs.YtmgcapccgncmkaaDoor.Ld
open Go.RowKit Go.Pv Go.Proofs.YtmgcapccgncmkaaDoor.PLoadScripts Go.Proofs.YtmgcapccgncmkaaDoorW.PrintWords Go.Proofs.YtmgcapccgncmkaaDoorW.PrintLast Go.Proofs.YtmgcapccgncmkaaDoorW.PrintMore

/-- While two scripts are held against one another, entry by entry. -/
structure SC (w W : World) (m : Nat) (es : List Ent) (A : Option Addr) (c : Nat) (A' : Option Addr) (c' : Nat) (ms : List Int) : Prop where
  low : Below w.heap.size w W
  one : k34.R 34 W w.heap.size (fun k => k ≠ m) (.slice A es.length c) (es.map sE)
  two : k34.R 29 W w.heap.size (fun k => k ≠ m) (.slice A' es.length c') (es.map sE)
  mix : W.heap[m]? = some (.cells (ints ms) 3 (0, 0))
  ge : w.heap.size ≤ m
section
variable {w W V : World} {m : Nat} {es : List Ent} {A A' : Option Addr} {c c' : Nat} {ms : List Int}
theorem SC.later (h : SC w W m es A c A' c' ms) (hb : Below W.heap.size W V) : SC w V m es A c A' c' ms :=
  ⟨h.low.trans (hb.mono h.low.size), Kd.R_below h.one hb, Kd.R_below h.two hb, (hb.block _ (Array.getElem?_eq_some_iff.1 h.mix).1).trans h.mix, h.ge⟩
theorem SC.c1 (h : SC w W m es A c A' c' ms) : k34.C W A es.length (es.map sE) ∧ es.length ≤ c := by
  have := Kd.R_reads' h.one
  rw [List.length_map] at this
  exact ⟨this.2.2, this.2.1⟩
theorem SC.c2 (h : SC w W m es A c A' c' ms) : k34.C W A' es.length (es.map sE) ∧ es.length ≤ c' := by
  have := Kd.R_reads' h.two
  rw [List.length_map] at this
  exact ⟨this.2.2, this.2.1⟩
theorem SC.start {w1 w2 : World} (hb1 : Below w.heap.size w w1) (hb2 : Below w1.heap.size w1 w2) (h1 : k34.R 34 w1 w.heap.size (fun _ => True) (.slice A es.length c) (es.map sE)) (h2 : k34.R 29 w2 w1.heap.size (fun _ => True) (.slice A' es.length c') (es.map sE)) :
    SC w (w2.alloc (.cells (ints (List.replicate 24 0)) 3)) w2.heap.size es A c A' c' (List.replicate 24 0) := by
  have hA : Below w2.heap.size w2 (w2.alloc (.cells (ints (List.replicate 24 0)) 3)) := (Below.refl _ w2).alloc (Nat.le_refl _) _
  have hB := hb1.trans (hb2.mono hb1.size)
  refine ⟨hB.trans (hA.mono hB.size), Kd.R_below (Kd.R_mono (Kd.R_bound (Kd.R_below h1 hb2)) (fun k hk => ?_)) hA, Kd.R_below (Kd.R_lower (Kd.R_mono (Kd.R_bound h2) (fun k hk => ?_)) hb1.size) hA, heap_alloc_new w2 _, hB.size⟩
  · have := hk.2.2.1; omega
  · have := hk.2.2.1; omega
theorem ints_get {ms : List Int} {i : Int} (h0 : 0 ≤ i) (h1 : i < ms.length) : (ints ms)[i.toNat]? = some (.int .i64 (rd ms i)) := by
  have : i.toNat < ms.length := by omega
  simp [ints, rd, this]
theorem ints_size (ms : List Int) : (ints ms).size = ms.length := by simp [ints]
theorem SC.cell (h : SC w W m es A c A' c' ms) {i : Int} (h0 : 0 ≤ i) (h1 : i < ms.length) : W.cell? ⟨m, i.toNat, none⟩ = some (.int .i64 (rd ms i)) ∧ W.frozen? ⟨m, i.toNat, none⟩ = false := by
  refine ⟨?_, by simp [World.frozen?, h.mix]⟩
  rw [cell_of_row W m _ _ _ _ h.mix]
  exact ints_get h0 h1
theorem SC.put (h : SC w W m es A c A' c' ms) (E : Ent) : SC w (W.setCell ⟨m, E.1.toNat, none⟩ (.int .i64 (rd ms E.1 + 1))) m es A c A' c' (mix1 ms E) := by
  refine ⟨h.low.setCell (p := ⟨m, E.1.toNat, none⟩) h.ge _, Kd.R_far h.one (p := ⟨m, E.1.toNat, none⟩) (fun k hk => hk) _, Kd.R_far h.two (p := ⟨m, E.1.toNat, none⟩) (fun k hk => hk) _, ?_, h.ge⟩
  rw [heap_setCell_same W m _ _ _ _ h.mix]
  congr 2
  apply Array.ext'
  simp [ints, mix1, List.map_set]
end
/-- The text of the first entries, and one more. -/
theorem text_put (es : List Ent) (j : Nat) (h : j < es.length) : (⟨(writeL (es.take j)).toArray⟩ : ByteArray) ++ lineL es[j] ++ ⟨#[10]⟩ = ⟨(writeL (es.take (j + 1))).toArray⟩ := by
  rw [writeL_take es j h]
  apply ByteArray.ext
  rw [ByteArray.data_append, ByteArray.data_append]
  simp [wline]
theorem text_size (es : List Ent) (hes : ∀ e ∈ es, okE e) (j : Nat) (hl : es.length ≤ 1000) : (⟨(writeL (es.take j)).toArray⟩ : ByteArray).size ≤ 1001000 := by
  have h1 := writeL_size (es.take j) (fun e he => (hes e (List.mem_of_mem_take he)).1)
  have h2 : (es.take j).length ≤ 1000 := by rw [List.length_take]; omega
  show (writeL (es.take j)).length ≤ 1001000
  have h3 : (es.take j).length * 1001 ≤ 1000 * 1001 := Nat.mul_le_mul_right _ h2
  omega
theorem line_size {E : Ent} (h : okE E) : (lineL E).size ≤ 1000 := (parts_small h.1).2
theorem add_small2 {x y : Nat} (hx : x ≤ 1003000) (hy : y ≤ 1000) : decide (x + y > 9223372036854775807) = false ∧ ¬ (x + y > 9223372036854775807) ∧ ¬ (9223372036854775807 < x + y) := by
  refine ⟨decide_eq_false ?_, ?_, ?_⟩ <;> omega
theorem same_any (l : List Int) (hl : l.length ≤ 1000) (A : Option Addr) (c : Nat) (A1 : Option Addr) (c1 : Nat) (w : World) (hC : Kd.C (Kd.int .i64) w A l.length l) (hc : l.length ≤ c) (hC1 : Kd.C (Kd.int .i64) w A1 l.length l) (hc1 : l.length ≤ c1) :
    Calls Tryd.prog 19 #[.slice A l.length c, .slice A1 l.length c1] w fun e w' => e = .returned (.bool true) ∧ Below w.heap.size w w' :=
  (provostbook_SameInts.calls _ _ _ _ _ _ _ _ w hC hc hC1 hc1 (same_eq l hl)).mono fun e w' h => ⟨h.1, h.2.below⟩
theorem cell_lat {W V : World} {p : Addr} {u : Value} (hb : Below W.heap.size W V) (h : W.cell? p = some u) : V.cell? p = some u := (hb.cell (World.block_lt_of_cell? _ _ h)).trans h
theorem k34_at2 {es : List Ent} (i : Nat) (hi : i < es.length) {W : World} {b o : Nat} (h : k34.C W (some ⟨b, o, none⟩) es.length (es.map sE)) :
    ∃ A1 c1, W.cell? ⟨b, o + i * 3, none⟩ = some (.int .i64 es[i].1) ∧ W.cell? ⟨b, o + i * 3 + 1, none⟩ = some (.slice A1 es[i].2.1.length c1) ∧ W.cell? ⟨b, o + i * 3 + 2, none⟩ = some (.string es[i].2.2) ∧ es[i].2.1.length ≤ c1 ∧ Kd.C (Kd.int .i64) W A1 es[i].2.1.length es[i].2.1 := by
  obtain ⟨b', o', A1, c1, hA, h2⟩ := k34_at h i hi
  cases hA
  exact ⟨A1, c1, h2⟩
theorem made24 : madeCells #[.int .i64 0] 24 = ints (List.replicate 24 0) := by kernel_rfl
theorem mk24 : ∀ W : World, (Instr.makeSlice 23 (.int .i64 24) (.int .i64 24)).run Tryd.prog W = .ok (.slice (some ⟨W.heap.size, 0, none⟩) 24 24) (W.alloc (.cells (ints (List.replicate 24 0)) 3)) :=
  fun W => (print_make 23 3 .i64 8 Tryd.underlying23 info3 (by omega) 24 (by omega) W).trans (by rw [made24])
def reg4x9.T : Bool × List (List Nat × List Nat) := (true, [([], []), ([], []), ([0, 1], [0, 1]), ([2], [2]), ([], []), ([], []), ([4, 5], [4, 5]), ([6], [6]), ([3, 7], [3, 7]), ([8], [8])])
def reg4x9.B : List Nat := [0, 0, 3, 7, 0, 0, 48, 112, 255, 511]
theorem reg4x9.tab : rtab .any (opsOf Tryd.f4 9) = reg4x9.T := by kernel_rfl
theorem reg4x9.bits : waitsOk reg4x9.T.2 reg4x9.B = true := by kernel_rfl

set_option maxRecDepth 10000 in
set_option maxHeartbeats 2000000 in
theorem scriptsLaw_any (x n : Int) (hn : n ≤ 9223372036854775807) (w : World) (hG : Gl w) :
    Calls Tryd.prog 4 #[.int .u64 x, .int .i64 n] w fun e w' => e = .returned (.bool true) ∧ Below w.heap.size w w' := by
  have HS := hid (fun W => script_any x n W)
  have HRS := hid (fun W => rscript_any x n hn W)
  have HTx := hid (fun W hG => ltext_any x n W hG)
  have hes := scr_ok x n
  have hlen := scr_small x n
  generalize hq : scr x n = es at HS HRS HTx hes hlen
  clear hq
  have HES := hid hes
  have HIs := hid is_any
  have HLn := hid rline_any
  have HMx := hid (mixL_any es hes hlen)
  have hsm := same_any (mixL es) (by rw [mixL_length]; omega)
  rw [mixL_length] at hsm
  have HSm24 := hid hsm
  clear hsm
  have HWk := hid works_any
  have HG0 := hid hG
  have HTS := hid (fun j => text_size es hes j hlen)
  clear hG hes
  have hmk := mk24
  go_enter Tryd.func4, Tryd.ntmps4
  go_wp2_with (first
    | (go_at_call 16; go_must (with_reducible refine (HS.out _).mono ?_); rintro e w1 ⟨v1, rfl, hR, hb⟩; obtain ⟨A, c, hv⟩ := Kd.R_slice hR; rw [List.length_map] at hv; subst hv; have HR1 := hid hR; have HB1 := hid hb; clear hR hb)
    | (go_at_call 17; go_must (with_reducible refine (HRS.out _).mono ?_); rintro e w2 ⟨v2, rfl, hR, hb⟩; obtain ⟨A', c', hv⟩ := Kd.R_slice hR; rw [List.length_map] at hv; subst hv; have HSC := hid (SC.start HB1.out hb HR1.out hR); clear hR hb HB1 HR1))
  generalize hm : w2.heap.size = m at HSC ⊢
  have hX0 : (⟨#[]⟩ : ByteArray) = ⟨(writeL (es.take 0)).toArray⟩ := by rw [List.take_zero]; rfl
  have hM0 : List.replicate 24 (0 : Int) = mixL (es.take 0) := by rw [List.take_zero]; rfl
  rw [hM0] at HSC
  have HX0 := hid hX0
  clear hX0 hM0 hm
  go_loopg [8, 9] es.length (fun q s8 s9 wr => ∃ j : Nat, s8 = .string ⟨(writeL (es.take j)).toArray⟩ ∧ s9 = .int .i64 j ∧ q = es.length - j ∧ j ≤ es.length ∧ Hid (SC w wr m es A c A' c' (mixL (es.take j))))
  case atStart => exact ⟨0, by rw [← HX0.out], rfl, by omega, by omega, HSC⟩
  case round =>
    clear HSC HX0
    obtain ⟨j, rfl, rfl, rfl, hj, HSC⟩ := hrel
    by_cases hjm : j < es.length
    · have b1 : decide ((j : Int) < (es.length : Int)) = true := decide_eq_true (by omega)
      obtain ⟨b1, o1, A1, c1, hA, k0, k1, k2, hc1, hC1⟩ := k34_at HSC.out.c1.1 j hjm
      subst hA
      obtain ⟨b2, o2, A2, c2, hA, l0, l1, l2, hc2, hC2⟩ := k34_at HSC.out.c2.1 j hjm
      subst hA
      have hok := HES.out es[j] (List.getElem_mem hjm)
      have htp := text_put es j hjm
      have hmx : mixL (es.take (j + 1)) = mix1 (mixL (es.take j)) es[j] := by rw [List.take_add_one, List.getElem?_eq_getElem hjm]; exact mixL_snoc _ _
      have hls := line_size hok
      have hns : es[j].2.1.length ≤ 1000 := Nat.le_trans (rightB_len hok.1) (by omega)
      have hvv := okE_verb hok
      have hat := fun (W : World) (h : k34.C W (some ⟨b2, o2, none⟩) es.length (es.map sE)) => k34_at2 (es := es) j hjm h
      generalize hE : es[j] = E at k0 k1 k2 hc1 hC1 l0 l1 l2 hc2 hC2 hok htp hmx hls hns hvv hat
      have hrl := HLn.out E hok.1 hok.2
      clear hE
      obtain ⟨v, ns, d⟩ := E
      simp only at k0 k1 k2 hc1 hC1 l0 l1 l2 hc2 hC2 hns hvv hrl hat
      have HRL := hid hrl
      have HTP := hid htp
      have HMXJ := hid hmx
      have HAT := hid hat
      obtain ⟨L, hL⟩ : ∃ L, L = lineL (v, ns, d) := ⟨_, rfl⟩
      rw [← hL] at HRL HTP hls
      have hts := HTS.out j
      obtain ⟨TT, hTT⟩ : ∃ TT : ByteArray, TT = ⟨(writeL (es.take j)).toArray⟩ := ⟨_, rfl⟩
      rw [← hTT] at HTP hts ⊢
      have hmb := mixL_rd (es.take j) v
      have hml := mixL_length (es.take j)
      have hjl : (es.take j).length ≤ 1000 := by rw [List.length_take]; omega
      generalize mixL (es.take j) = ms at HSC HMXJ hmb hml
      clear hrl htp hmx hat hL hTT
      have hwv : IntKind.i64.wrap (rd ms v + 1) = rd ms v + 1 := IntWalk.i64_in _ (by omega)
      have hv0 : (0 : Int) ≤ v := by omega
      have hv24 : v < 24 := by omega
      have hs1 : (⟨#[10]⟩ : ByteArray).size = 1 := rfl
      obtain ⟨x1, x2, x3⟩ := add_small2 (x := TT.size) (y := L.size) (by omega) (by omega)
      have hs2 : (TT ++ L : ByteArray).size = TT.size + L.size := ByteArray.size_append
      obtain ⟨y1, y2, y3⟩ := add_small2 (x := TT.size + L.size) (y := 1) (by omega) (by omega)
      go_wp2_with fail
      obtain ⟨Wd, hWd⟩ : ∃ Wd, Wd = wr.drew := ⟨_, rfl⟩
      have HWd := hid hWd
      have HSCd := hid (show SC w Wd m es (some ⟨b1, o1, none⟩) c (some ⟨b2, o2, none⟩) c' ms by rw [hWd]; exact HSC.out.later (Below.refl _ _).drew)
      have HSd := hid (show (fun V : World => V.cell? ⟨b1, o1 + j * 3, none⟩ = some (.int .i64 v) ∧ V.cell? ⟨b1, o1 + j * 3 + 1, none⟩ = some (.slice A1 ns.length c1) ∧ V.cell? ⟨b1, o1 + j * 3 + 2, none⟩ = some (.string d) ∧ V.cell? ⟨b2, o2 + j * 3, none⟩ = some (.int .i64 v) ∧ V.cell? ⟨b2, o2 + j * 3 + 1, none⟩ = some (.slice A2 ns.length c2) ∧ V.cell? ⟨b2, o2 + j * 3 + 2, none⟩ = some (.string d)) Wd by rw [hWd]; exact ⟨k0, k1, k2, l0, l1, l2⟩)
      have HC1 := hid (show Kd.C (Kd.int .i64) Wd A1 ns.length ns by rw [hWd]; exact Kd.C_below hC1 (Below.refl _ _).drew)
      have HC2 := hid (show Kd.C (Kd.int .i64) Wd A2 ns.length ns by rw [hWd]; exact Kd.C_below hC2 (Below.refl _ _).drew)
      clear hWd k0 k1 k2 l0 l1 l2 hC1 hC2 HSC
      refine start_ (n := 10) (S := fun V : World => V.cell? ⟨b1, o1 + j * 3, none⟩ = some (.int .i64 v) ∧ V.cell? ⟨b1, o1 + j * 3 + 1, none⟩ = some (.slice A1 ns.length c1) ∧ V.cell? ⟨b1, o1 + j * 3 + 2, none⟩ = some (.string d) ∧ V.cell? ⟨b2, o2 + j * 3, none⟩ = some (.int .i64 v) ∧ V.cell? ⟨b2, o2 + j * 3 + 1, none⟩ = some (.slice A2 ns.length c2) ∧ V.cell? ⟨b2, o2 + j * 3 + 2, none⟩ = some (.string d)) (ds := []) #[false, false, false, false, false, false, false, false, false, false] (by kernel_rfl) rfl rfl (by rw [← HWd.out]; exact HSd.out) (fun hHeld => ?_); refine with_tabW reg4x9.tab reg4x9.bits (fun HT_ HW_ => ?_)
      rw [← HWd.out] at hHeld ⊢
      refine pure_ (i := 0) (N := some 34) (v := ?_) (a' := ?_) #[true, false, false, false, false, false, false, false, false, false] rfl rfl (any_of HT_.out (by kernel_rfl)) (fun _ _ _ h => h) (Or.inl ⟨by rfl, ?_⟩) ?_ ?_
      rotate_left
      · intro w'
        go_simp
        with_reducible rfl
      rotate_left
      · simp only [Act.put, List.setIfInBounds_toArray, List.set_cons_zero, List.set_cons_succ, i64_w, i32_w]
        rfl
      refine pure_ (i := 1) (N := some 35) (v := ?_) (a' := ?_) #[true, true, false, false, false, false, false, false, false, false] rfl rfl (any_of HT_.out (by kernel_rfl)) (fun _ _ _ h => h) (Or.inl ⟨by rfl, ?_⟩) ?_ ?_
      rotate_left
      · intro w'
        go_simp
        with_reducible rfl
      rotate_left
      · simp only [Act.put, List.setIfInBounds_toArray, List.set_cons_zero, List.set_cons_succ, i64_w, i32_w]
        rfl
      refine pure_ (i := 2) (N := some 36) (v := ?_) (a' := ?_) #[true, true, true, false, false, false, false, false, false, false] rfl rfl (any_of HT_.out (by kernel_rfl)) (fun _ _ _ h => h) (Or.inl ⟨by rfl, ?_⟩) ?_ ?_
      rotate_left
      · intro w'
        go_simp
        with_reducible rfl
      rotate_left
      · simp only [Act.put, List.setIfInBounds_toArray, List.set_cons_zero, List.set_cons_succ, i64_w, i32_w]
        rfl
      refine pure_ (i := 4) (N := some 38) (v := ?_) (a' := ?_) #[true, true, true, false, true, false, false, false, false, false] rfl rfl (any_of HT_.out (by kernel_rfl)) (fun _ _ _ h => h) (Or.inl ⟨by rfl, ?_⟩) ?_ ?_
      rotate_left
      · intro w'
        go_simp
        with_reducible rfl
      rotate_left
      · simp only [Act.put, List.setIfInBounds_toArray, List.set_cons_zero, List.set_cons_succ, i64_w, i32_w]
        rfl
      refine pure_ (i := 5) (N := some 39) (v := ?_) (a' := ?_) #[true, true, true, false, true, true, false, false, false, false] rfl rfl (any_of HT_.out (by kernel_rfl)) (fun _ _ _ h => h) (Or.inl ⟨by rfl, ?_⟩) ?_ ?_
      rotate_left
      · intro w'
        go_simp
        with_reducible rfl
      rotate_left
      · simp only [Act.put, List.setIfInBounds_toArray, List.set_cons_zero, List.set_cons_succ, i64_w, i32_w]
        rfl
      refine pure_ (i := 6) (N := some 40) (v := ?_) (a' := ?_) #[true, true, true, false, true, true, true, false, false, false] rfl rfl (any_of HT_.out (by kernel_rfl)) (fun _ _ _ h => h) (Or.inl ⟨by rfl, ?_⟩) ?_ ?_
      rotate_left
      · intro w'
        go_simp
        with_reducible rfl
      rotate_left
      · simp only [Act.put, List.setIfInBounds_toArray, List.set_cons_zero, List.set_cons_succ, i64_w, i32_w]
        rfl
      refine take_ (i := 3) (N := some 37) (v := ?_) (a' := ?_) #[true, true, true, true, true, true, true, false, false, false] rfl rfl (take_ofW HT_.out HW_.out (by kernel_rfl)) (fun _ _ _ h => h) (Or.inl ⟨by rfl, ?_⟩) hHeld ?_ ?_
      rotate_left
      · rintro w' ⟨s0, s1, s2, s3, s4, s5⟩
        go_simp
        with_reducible rfl
      rotate_left
      · simp only [Act.put, List.setIfInBounds_toArray, List.set_cons_zero, List.set_cons_succ, i64_w, i32_w]
        rfl
      refine take_ (i := 7) (N := some 41) (v := ?_) (a' := ?_) #[true, true, true, true, true, true, true, true, false, false] rfl rfl (take_ofW HT_.out HW_.out (by kernel_rfl)) (fun _ _ _ h => h) (Or.inl ⟨by rfl, ?_⟩) hHeld ?_ ?_
      rotate_left
      · rintro w' ⟨s0, s1, s2, s3, s4, s5⟩
        go_simp
        with_reducible rfl
      rotate_left
      · simp only [Act.put, List.setIfInBounds_toArray, List.set_cons_zero, List.set_cons_succ, i64_w, i32_w]
        rfl
      refine one_ (i := 8) (N := some 42) #[true, true, true, true, true, true, true, true, true, false] rfl rfl (one_of HT_.out (by kernel_rfl)) (by decide) (fun K hK => ?_)
      refine goes_ Tryd.func13 (by kernel_rfl) rfl #[.agg #[.int .i64 v, .slice A1 ns.length c1, .string d], .agg #[.int .i64 v, .slice A2 ns.length c2, .string d]] (by rfl) rfl rfl (by (try simp only [List.map_toArray, List.map_cons, List.map_nil]); first | done | rfl) ?_
      with_reducible refine (HIs.out (v, ns, d) hns A1 c1 A2 c2 _ HC1.out hc1 HC2.out hc2).mono ?_
      rintro e w3 ⟨rfl, hb⟩
      have HSC3 := hid (HSCd.out.later hb)
      have HS3 := hid (show (fun V : World => V.cell? ⟨b1, o1 + j * 3, none⟩ = some (.int .i64 v) ∧ V.cell? ⟨b1, o1 + j * 3 + 1, none⟩ = some (.slice A1 ns.length c1) ∧ V.cell? ⟨b1, o1 + j * 3 + 2, none⟩ = some (.string d) ∧ V.cell? ⟨b2, o2 + j * 3, none⟩ = some (.int .i64 v) ∧ V.cell? ⟨b2, o2 + j * 3 + 1, none⟩ = some (.slice A2 ns.length c2) ∧ V.cell? ⟨b2, o2 + j * 3 + 2, none⟩ = some (.string d)) w3 from ⟨cell_lat hb HSd.out.1, cell_lat hb HSd.out.2.1, cell_lat hb HSd.out.2.2.1, cell_lat hb HSd.out.2.2.2.1, cell_lat hb HSd.out.2.2.2.2.1, cell_lat hb HSd.out.2.2.2.2.2⟩)
      clear hb
      refine ⟨_, rfl, ?_⟩
      refine hK.out _ _ HS3.out (fun hHeld => ?_)
      clear hK K
      refine norm_ (a' := ?_) ?_ ?_
      rotate_left
      · show Act.put _ (some 42) _ = _
        simp only [Act.put, List.setIfInBounds_toArray, List.set_cons_zero, List.set_cons_succ, i64_w, i32_w]
        rfl
      refine pure_ (i := 9) (N := some 43) (v := ?_) (a' := ?_) #[true, true, true, true, true, true, true, true, true, true] rfl rfl (any_of HT_.out (by kernel_rfl)) (fun _ _ _ h => h) (Or.inl ⟨by rfl, ?_⟩) ?_ ?_
      rotate_left
      · intro w'
        go_simp
        with_reducible rfl
      rotate_left
      · simp only [Act.put, List.setIfInBounds_toArray, List.set_cons_zero, List.set_cons_succ, i64_w, i32_w]
        rfl
      refine done_ (done_of HT_.out (by kernel_rfl)) ?_
      have HSC4 := hid (HSC3.out.put (v, ns, d))
      obtain ⟨A9, c9, p0, p1, p2, hc9, hC9⟩ := HAT.out _ HSC4.out.c2.1
      have HC9 := hid hC9
      have HA9 := hid hc9
      simp only at p0 p1 p2
      obtain ⟨q0, q1⟩ := HSC3.out.cell hv0 (by omega : v < ms.length)
      obtain ⟨_, _, _, z3, z4, z5⟩ := HS3.out
      clear hC9 hc9 HS3
      go_wp2_with (go_at_call 18; go_must (with_reducible refine (HRL.out A9 c9 _ HC9.out).mono ?_); rintro e w5 ⟨rfl, hb⟩; have HSC5 := hid (HSC4.out.later hb); clear hb)
      rw [HTP.out]
      go_roundg (es.length - (j + 1))
      case measure => omega
      case rel => exact ⟨j + 1, rfl, by simp, rfl, by omega, by rw [HMXJ.out]; exact HSC5⟩
    · have hjj : j = es.length := by omega
      subst hjj
      rw [List.take_length] at HSC ⊢
      have hm24 := mixL_length es
      have HML := hid hm24
      have hb5 : ((⟨(writeL es).toArray⟩ : ByteArray).toList == (⟨(writeL es).toArray⟩ : ByteArray).toList) = true := beq_self_eq_true _
      go_wp2_with (first
        | (go_at_call 20; go_must (with_reducible refine (HMx.out _ _ HSC.out.c1.2 _ HSC.out.c1.1).mono ?_); rintro e w5 ⟨v5, rfl, hR, hb⟩; have HSC5 := hid (HSC.out.later hb); obtain ⟨A5, c5, hv, hc5, hC5⟩ := Kd.R_reads hR; rw [mixL_length] at hv hc5; subst hv; have HC5 := hid hC5; have HMC := hid (show Kd.C (Kd.int .i64) w5 (some ⟨m, 0, none⟩) (mixL es).length (mixL es) from C_ints HSC5.out.mix (by rw [mixL_length]; omega)); rw [mixL_length] at HMC HC5; clear hb hR HSC hC5)
        | (go_at_call 19; go_must (with_reducible refine (HSm24.out A5 c5 (some ⟨m, 0, none⟩) 24 _ HC5.out hc5 HMC.out (by omega)).mono ?_); rintro e w6 ⟨rfl, hb⟩; have HSC6 := hid (HSC5.out.later hb); clear hb)
        | (go_at_call 21; go_must (with_reducible refine (HTx.out _ (HG0.out.later HSC6.out.low)).mono ?_); rintro e w7 ⟨rfl, hb⟩; have HSC7 := hid (HSC6.out.later hb); clear hb)
        | (go_at_call 15; go_must (with_reducible refine (HWk.out _ (HG0.out.later HSC7.out.low)).mono ?_); rintro e w8 ⟨rfl, hb⟩; have HE := hid (HSC7.out.low.trans (hb.mono HSC7.out.low.size)); clear hb))
      go_ret
      exact ⟨rfl, HE.out⟩
end Go.Proofs.YtmgcapccgncmkaaDoor.Ld
