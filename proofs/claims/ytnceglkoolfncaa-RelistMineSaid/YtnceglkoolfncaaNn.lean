/- Relist: the law RelistMine, walked. -/
import Derived.Test.YtnceglkoolfncaaNm
set_option linter.unusedSimpArgs false
set_option linter.unusedVariables false
namespace Go.Proofs.Ytnceglkoolfncaa.Rl
open Go.RowKit Go.Pv Go.Proofs.Ytnceglkoolfncaa.Po Go.Proofs.YtnceglkoolfncaaW.PrintWords Go.Proofs.YtnceglkoolfncaaW.PrintLast
def mine11.T : Bool × List (List Nat × List Nat) := (true, [([], []), ([0], [0]), ([1], [1]), ([2], [2]), ([3], [3]), ([4, 3], [3, 4]), ([5, 3], [3, 5]), ([3], [3]), ([3], [3]), ([7, 8, 3], [3, 7, 8]), ([9, 3], [3, 9]), ([10, 3], [3, 10]), ([6, 11, 3], [3, 6, 11]), ([3, 12], [3, 12]), ([13, 3], [13]), ([14], [14]), ([14], [14]), ([15, 16, 14, 14], [14, 15, 16]), ([17, 17, 14], [14, 17]), ([18, 14], [14, 18]), ([19, 14], [14, 19]), ([14, 20], [14, 20]), ([21, 18, 0, 1, 2, 3, 4, 5, 6, 7, 8, 9, 10, 11, 12, 13, 14, 15, 16, 17, 18, 19, 20, 21], [21])])
def mine11.B : List Nat := [0, 1, 3, 7, 15, 31, 63, 15, 15, 399, 911, 1935, 4095, 8191, 16383, 32767, 32767, 131071, 262143, 524287, 1048575, 2097151, 4194303]
theorem mine11.tab : rtab .any (opsOf Try.f10 11) = mine11.T := by kernel_rfl
theorem mine11.bits : waitsOk mine11.T.2 mine11.B = true := by kernel_rfl

/-- The place that is meant. -/
theorem place (a : Int) (n : Nat) (h : 0 < n) : ∃ k : Nat, k < n ∧ ((decide (a.tmod n < 0) = false ∧ a.tmod n = k) ∨ (decide (a.tmod n < 0) = true ∧ a.tmod n = (k : Int) - n)) := by
  have h1 := Int.tmod_lt_of_pos a (show (0 : Int) < n by omega)
  have h2 : -(n : Int) < a.tmod n := by
    have := Int.lt_tmod_of_pos a (show (0 : Int) < n by omega)
    omega
  by_cases hn : a.tmod n < 0
  · exact ⟨(a.tmod n + n).toNat, by omega, .inr ⟨by simpa using hn, by omega⟩⟩
  · exact ⟨(a.tmod n).toNat, by omega, .inl ⟨by simpa using hn, by omega⟩⟩

theorem uids_eq {w : World} {v : Value} {L : List Ch} {us : List Int} (h : SlOf w 104 4 encCh v L) (hl : L.length ≤ 1000000) (hu : usL L = us) :
    Calls Try.prog 57 #[v] w fun e w' => (∃ A c, e = .returned (.slice A us.length c) ∧ ∀ i (hi : i < us.length), ∃ b o, A = some ⟨b, o, none⟩ ∧ w'.cell? ⟨b, o + i, none⟩ = some (.int .i64 us[i])) ∧ Below w.heap.size w w' := by
  subst hu
  exact uids_any h hl

/-- All that is made ahead of the comparision. -/
theorem made_any {w : World} {va : Value} {l : List BV} {k : Nat} (h : Rz PRelistNone.k108 w va l) (hk : k < l.length) (hf : Few20 l) :
    ∃ g o cap w3, (Builtin.append_ #[99, 99] 99 #[.slice (some ⟨w.heap.size, 0, none⟩) 0 0, va]).run Try.prog (w.alloc (.cells #[] 108)) = .ok (.slice (some ⟨g, o, none⟩) l.length cap) w3 ∧ Below w.heap.size w w3 ∧
    ∃ cA cc u0 g2 o2 cap2 A1 n1 c1 w4 w5, w3.cell? ⟨g, o + k * 4 + 3, none⟩ = some u0 ∧
      (∀ ab ao c, va = .slice (some ⟨ab, ao, none⟩) l.length c → ab < w3.heap.size ∧ w3.cell? ⟨ab, ao + k * 4 + 3, none⟩ = some (.slice cA l[k].f3.length cc)) ∧
      (Builtin.append_ #[106, 106] 106 #[.slice (some ⟨w3.heap.size, 0, none⟩) 0 0, .slice cA l[k].f3.length cc]).run Try.prog (w3.alloc (.cells #[] 112)) = .ok (.slice A1 n1 c1) w4 ∧
      (Builtin.append_ #[106, 106] 106 #[.slice A1 n1 c1, .slice (some ⟨w4.heap.size, 0, none⟩) 1 1]).run Try.prog (w4.alloc (.cells cells9.toArray 112)) = .ok (.slice (some ⟨g2, o2, none⟩) (l[k].f3.length + 1) cap2) w5 ∧
      w5.cell? ⟨g, o + k * 4 + 3, none⟩ = some u0 ∧ w5.frozen? ⟨g, o + k * 4 + 3, none⟩ = false ∧
      Below w.heap.size w (w5.setCell ⟨g, o + k * 4 + 3, none⟩ (.slice (some ⟨g2, o2, none⟩) (l[k].f3.length + 1) cap2)) ∧
      Rz PRelistNone.k108 (w5.setCell ⟨g, o + k * 4 + 3, none⟩ (.slice (some ⟨g2, o2, none⟩) (l[k].f3.length + 1) cap2)) (.slice (some ⟨g, o, none⟩) l.length cap) (more l k) := by
  have hne : l ≠ [] := by intro e; subst e; simp at hk
  have hl20 := hf.1
  obtain ⟨g, o, cap, inner, w3, q1, q2, hr, hg, k3, ad, c0, hva, hcells⟩ := copyB h hne (by omega) rfl
  obtain ⟨cA, cc, e, hcl, hcC⟩ := PRelistNone.k108_open (hr.2 k l[k] (List.getElem?_eq_getElem hk))
  have hrc : Rz PRelistNone.k112 w3 (.slice cA l[k].f3.length cc) l[k].f3 := ⟨cA, cc, rfl, hcl, Kd.C_below hcC k3⟩
  have hf3 := hf.2 l[k] (List.getElem_mem hk)
  obtain ⟨v1, w4, r1, k4, ⟨A1, n1, c1, hv1⟩, g2, o2, cap2, in2, w5, r2, r3, r4, hg2, k5⟩ := copyC hrc (by omega) rfl
  subst hv1
  have hg3 : g < w3.heap.size := SlRow.lt q2 rfl
  have q5 : SlRow w5 108 4 (.slice (some ⟨g, o, none⟩) l.length cap) l.length inner := SlRow.kept q2 (Keeps.of_below (F := fun _ => False) k5) (by simp)
  have hu : inner[k * 4 + 3]? = some (.slice cA l[k].f3.length cc) := by
    have e' : (inner.drop (k * 4)).take 4 = _ := e
    have h1 : ((inner.drop (k * 4)).take 4)[3]? = some (.slice cA l[k].f3.length cc) := by rw [e']; rfl
    rw [List.getElem?_take, if_pos (by omega), List.getElem?_drop] at h1
    exact h1
  have k35 : Below w.heap.size w w5 := k3.trans (k5.mono k3.size)
  have k6 : Below w.heap.size w (w5.setCell ⟨g, o + k * 4 + 3, none⟩ (.slice (some ⟨g2, o2, none⟩) (l[k].f3.length + 1) cap2)) := k35.setCell hg _
  have hneg : g2 ≠ g := by have := hg2; omega
  have row2 : SlRow (w5.setCell ⟨g, o + k * 4 + 3, none⟩ (.slice (some ⟨g2, o2, none⟩) (l[k].f3.length + 1) cap2)) 112 7 (.slice (some ⟨g2, o2, none⟩) (l[k].f3.length + 1) cap2) (l[k].f3 ++ [cv9]).length in2 := by
    rw [List.length_append, List.length_singleton]
    exact SlRow.of_block r3 (fun g' hg' => Below.heap_setCell w5 ⟨g, o + k * 4 + 3, none⟩ _ g' (by simp [Value.ownBlock] at hg'; show g' ≠ g; omega))
  have hkk : ∀ (V : World) (p : CV) (c : List Value), PRelistNone.k112.K w3 p c → PRelistNone.k112.K V p c := by
    intro V p c h
    obtain rfl := PRelistNone.k112_open h
    exact PRelistNone.k112_mk V p
  have hz2 := rz_of_row row2 (r4.imp_ (fun p c h => hkk _ p c h))
  refine ⟨g, o, cap, w3, q1, k3, cA, cc, .slice cA l[k].f3.length cc, g2, o2, cap2, A1, n1, c1, w4, w5, ?_, ?_, r1, r2, ?_, ?_, k6, ?_⟩
  · have := SlRow.cells q2 rfl (k * 4 + 3) _ hu
    rw [← Nat.add_assoc] at this
    exact this
  · intro ab ao c hva2
    rw [hva] at hva2
    simp only [Value.slice.injEq, Option.some.injEq] at hva2
    obtain ⟨rfl, _⟩ := hva2
    have h1 := hcells (k * 4 + 3) _ hu
    rw [Addr.add_lit, ← Nat.add_assoc] at h1
    have hab := World.block_lt_of_cell? w _ h1
    have := k3.size
    exact ⟨by simp only at hab; omega, (k3.cell (p := ⟨ab, ao + k * 4 + 3, none⟩) hab).trans h1⟩
  · have := SlRow.cells q5 rfl (k * 4 + 3) _ hu
    rw [← Nat.add_assoc] at this
    exact this
  · obtain ⟨cur, hb⟩ := SlRow.elem q5 (g := g) rfl
    simp [World.frozen?, hb]
  · refine rz_more hk q5 hr (by rw [Nat.add_assoc]) k6 hz2

set_option maxRecDepth 10000 in
set_option maxHeartbeats 4000000 in
theorem mine_any {w : World} {va : Value} {l : List BV} (h : Rz PRelistNone.k108 w va l) (a uid : Int) :
    Calls Try.prog 10 #[va, .int .i64 a, .int .i64 uid] w fun e w' => e = .returned (.bool true) ∧ Below w.heap.size w w' := by
  have HA := hid h
  obtain ⟨Aa, ca, rfl⟩ := h.form
  by_cases hpos : 0 < l.length
  case neg =>
    have h0 : l = [] := List.eq_nil_of_length_eq_zero (by omega)
    subst h0
    have HA0 := hid (show Rz PRelistNone.k108 w (.slice Aa 0 ca) [] from h)
    simp only [List.length_nil]
    clear h hpos HA
    go_enter Try.func10, Try.ntmps10
    go_wp2_with (first
      | (go_at_call 54
         go_must (with_reducible refine (works_any _).mono ?_)
         rintro e w1 ⟨rfl, hb1⟩
         have HB1 := hid hb1
         clear hb1)
      | (go_at_call 55
         go_must (with_reducible refine (sorted_any (HA0.out.below HB1.out)).mono ?_)
         rintro e w2 ⟨⟨r1, rfl, hr1⟩, hb2⟩
         have HB2 := hid (HB1.out.trans (hb2.mono HB1.out.size))
         clear hb2 hr1
         cases r1))
    · go_ret
      exact ⟨rfl, HB2.out⟩
    · go_ret
      exact ⟨rfl, HB2.out⟩
  case pos =>
    obtain ⟨ab, ao, c', hv, hab, -⟩ := h.at_ (by decide) 0 hpos
    simp only [Value.slice.injEq] at hv
    obtain ⟨rfl, -, -⟩ := hv
    clear h c'
    obtain ⟨k, hk, hplace⟩ := place a l.length hpos
    have hz : ((l.length : Int) == 0) = false := beq_eq_false_iff_ne.2 (by omega)
    have hnz : ¬ ((l.length : Int) = 0) := by omega
    have hmx0 : l.length ≤ 9223372036854775807 := by
      obtain ⟨A, c, _, _, hc⟩ := HA.out
      exact hc.2.1
    have hmx : (l.length : Int) ≤ 9223372036854775807 := Int.ofNat_le.2 hmx0
    have hk0 : (0 : Int) ≤ (k : Int) := by omega
    have hk1 : (k : Int) < (l.length : Int) := by omega
    go_enter Try.func10, Try.ntmps10
    go_upto_region 5 with (first
      | (go_at_call 54
         go_must (with_reducible refine (works_any _).mono ?_)
         rintro e w1 ⟨rfl, hb1⟩
         have HB1 := hid hb1
         clear hb1)
      | (go_at_call 55
         go_must (with_reducible refine (sorted_any (HA.out.below HB1.out)).mono ?_)
         rintro e w2 ⟨⟨r1, rfl, hr1⟩, hb2⟩
         have HR1 := hid hr1
         have HB2 := hid (HB1.out.trans (hb2.mono HB1.out.size))
         clear hb2 hr1
         cases r1))
    · go_wp2
      go_ret
      exact ⟨rfl, HB2.out⟩
    · have hf : Few20 l := HR1.out (by simp)
      obtain ⟨g, o, cap, w3, q1, k3, cA, cc, u0, g2, o2, cap2, A1, n1, c1, w4, w5, p1, p2, r1, r2, p3, p4, k6, hz6⟩ := made_any (HA.out.below HB2.out) hk hf
      obtain ⟨hab3, e3⟩ := p2 ab ao ca rfl
      have hg3 := World.block_lt_of_cell? _ _ p1
      have hb6 : Below w.heap.size w (w5.setCell ⟨g, o + k * 4 + 3, none⟩ (.slice (some ⟨g2, o2, none⟩) (l[k].f3.length + 1) cap2)) := HB2.out.trans (k6.mono HB2.out.size)
      have hml : (more l k).length = l.length := by unfold more; rw [List.getElem?_eq_getElem hk]; simp
      have hdf := diff_any (HA.out.below hb6) hz6 hf.few (more_few hf)
      rw [diff_more hk] at hdf
      have H9 := hid (fun V (hV : Below w.heap.size w V) => diff_any (HA.out.below hV) (HA.out.below hV) hf.few hf.few)
      rw [diffL_same] at H9
      have HUID := hid (show ∀ V, Below w.heap.size w V → V.cell? ⟨ab, ao + k * 4 + 1, none⟩ = some (.int .i64 l[k].f1) from fun V hV => by
        obtain ⟨b, o', c', h1, h2, cs, h3, h4⟩ := HA.out.at_ (by decide) k hk
        simp only [Value.slice.injEq, Option.some.injEq, Addr.mk.injEq, and_true] at h1
        obtain ⟨⟨rfl, rfl⟩, _⟩ := h1
        obtain ⟨A, c, rfl, _, _⟩ := PRelistNone.k108_open h3
        exact (hV.cell (p := ⟨ab, ao + k * 4 + 1, none⟩) h2).trans (h4 1 _ rfl))
      obtain ⟨uu, huu⟩ : ∃ uu, uu = l[k].f1 := ⟨_, rfl⟩
      obtain ⟨ii, hii⟩ : ∃ ii, ii = l[k].f0 := ⟨_, rfl⟩
      rw [← huu] at HUID
      rw [← huu, ← hii] at hdf
      obtain ⟨nn, hnn⟩ : ∃ nn, nn = l[k].f3.length := ⟨_, rfl⟩
      rw [← hnn] at e3 r1 r2 hb6 hdf
      have R0 := hid q1
      have R1 := hid r1
      have R2 := hid r2
      have HD := hid hdf
      have HB6 := hid hb6
      clear q1 r1 r2 hdf hb6 hz6 k6 k3 huu hii hnn hml p2 p1 HR1 hf
      rcases hplace with ⟨hd, htk⟩ | ⟨hd, htk⟩
      · go_upto_region 10 with (first
          | (at_builtin; refine wl_append rfl _ _ _ rfl ⟨_, _, R0.out, ?_⟩)
          | (at_builtin; refine wl_append rfl _ _ _ rfl ⟨_, _, R1.out, ?_⟩)
          | (at_builtin; refine wl_append rfl _ _ _ rfl ⟨_, _, R2.out, ?_⟩))
        clear e3 hab3 hg3 p3 p4
        go_wp2_with (first
          | (go_at_call 56
             go_must (with_reducible refine HD.out.mono ?_)
             rintro e w7 ⟨v7, rfl, hs7, hb7⟩
             obtain ⟨a7, c7, rfl, hc7⟩ := chform hs7
             simp only [List.length_cons, List.length_nil, Nat.zero_add, Nat.reduceAdd] at hs7 ⊢
             have HS7 := hid hs7
             have HB7 := hid (HB6.out.trans (hb7.mono HB6.out.size))
             clear hb7 hs7 hc7)
          | (go_at_call 57
             go_must (with_reducible refine (uids_eq HS7.out (by simp) (usL_two _ _ rfl)).mono ?_)
             rintro e w8 ⟨⟨A8, c8, rfl, hc8⟩, hb8⟩
             obtain ⟨ub, uo, rfl, hu8⟩ := hc8 0 (by simp)
             simp only [List.length_cons, List.length_nil, Nat.zero_add, Nat.reduceAdd, Nat.add_zero, List.getElem_cons_zero] at hu8 ⊢
             have HU8 := hid hu8
             have HB8 := hid (HB7.out.trans (hb8.mono HB7.out.size))
             clear hb8 hc8 hu8))
        obtain ⟨Wd, hWd⟩ : ∃ Wd, Wd = w8.drew := ⟨_, rfl⟩
        have HWD := hid hWd
        have KD := hid (show Below w.heap.size w Wd by rw [hWd]; exact HB8.out.trans ((Below.refl _ w8).drew.mono HB8.out.size))
        have HUL := hid (World.block_lt_of_cell? _ _ HU8.out)
        have HS := hid (show ∀ V, Below w8.heap.size w8 V → (fun V : World => V.cell? ⟨ub, uo, none⟩ = some (.int .i64 uu) ∧ V.cell? ⟨ab, ao + k * 4 + 1, none⟩ = some (.int .i64 uu)) V from fun V hV => ⟨(hV.cell (p := ⟨ub, uo, none⟩) HUL.out).trans HU8.out, HUID.out V (HB8.out.trans (hV.mono HB8.out.size))⟩)
        have KD8 := hid (show Below w8.heap.size w8 Wd by rw [hWd]; exact (Below.refl _ w8).drew)
        clear hWd hd htk
        refine start_ (n := 23) (S := fun V : World => V.cell? ⟨ub, uo, none⟩ = some (.int .i64 uu) ∧ V.cell? ⟨ab, ao + k * 4 + 1, none⟩ = some (.int .i64 uu)) (ds := []) #[false, false, false, false, false, false, false, false, false, false, false, false, false, false, false, false, false, false, false, false, false, false, false] (by kernel_rfl) rfl rfl (by have h := HS.out _ KD8.out; rw [HWD.out] at h; exact h) (fun hHeld => ?_); refine with_tabW mine11.tab mine11.bits (fun HT_ HW_ => ?_)
        rw [← HWD.out] at hHeld ⊢
        refine pure_ (i := 0) (N := some 52) (v := ?_) (a' := ?_) #[true, false, false, false, false, false, false, false, false, false, false, false, false, false, false, false, false, false, false, false, false, false, false] rfl rfl (any_of HT_.out (by kernel_rfl)) (fun _ _ _ h => h) (Or.inl ⟨by rfl, ?_⟩) ?_ ?_
        rotate_left
        · intro w'
          go_simp
          with_reducible rfl
        rotate_left
        · simp only [Act.put, List.setIfInBounds_toArray, List.set_cons_zero, List.set_cons_succ, i64_w, i32_w]
          rfl
        refine pure_ (i := 1) (N := some 53) (v := ?_) (a' := ?_) #[true, true, false, false, false, false, false, false, false, false, false, false, false, false, false, false, false, false, false, false, false, false, false] rfl rfl (any_of HT_.out (by kernel_rfl)) (fun _ _ _ h => h) (Or.inl ⟨by rfl, ?_⟩) ?_ ?_
        rotate_left
        · intro w'
          go_simp
          with_reducible rfl
        rotate_left
        · simp only [Act.put, List.setIfInBounds_toArray, List.set_cons_zero, List.set_cons_succ, i64_w, i32_w]
          rfl
        refine pure_ (i := 2) (N := some 54) (v := ?_) (a' := ?_) #[true, true, true, false, false, false, false, false, false, false, false, false, false, false, false, false, false, false, false, false, false, false, false] rfl rfl (any_of HT_.out (by kernel_rfl)) (fun _ _ _ h => h) (Or.inl ⟨by rfl, ?_⟩) ?_ ?_
        rotate_left
        · intro w'
          go_simp
          with_reducible rfl
        rotate_left
        · simp only [Act.put, List.setIfInBounds_toArray, List.set_cons_zero, List.set_cons_succ, i64_w, i32_w]
          rfl
        refine pure_ (i := 3) (N := some 55) (v := ?_) (a' := ?_) #[true, true, true, true, false, false, false, false, false, false, false, false, false, false, false, false, false, false, false, false, false, false, false] rfl rfl (any_of HT_.out (by kernel_rfl)) (fun _ _ _ h => h) (Or.inl ⟨by rfl, ?_⟩) ?_ ?_
        rotate_left
        · intro w'
          go_simp
          with_reducible rfl
        rotate_left
        · simp only [Act.put, List.setIfInBounds_toArray, List.set_cons_zero, List.set_cons_succ, i64_w, i32_w]
          rfl
        refine pure_ (i := 4) (N := some 56) (v := ?_) (a' := ?_) #[true, true, true, true, true, false, false, false, false, false, false, false, false, false, false, false, false, false, false, false, false, false, false] rfl rfl (any_of HT_.out (by kernel_rfl)) (fun _ _ _ h => h) (Or.inl ⟨by rfl, ?_⟩) ?_ ?_
        rotate_left
        · intro w'
          go_simp
          with_reducible rfl
        rotate_left
        · simp only [Act.put, List.setIfInBounds_toArray, List.set_cons_zero, List.set_cons_succ, i64_w, i32_w]
          rfl
        refine pure_ (i := 5) (N := some 57) (v := ?_) (a' := ?_) #[true, true, true, true, true, true, false, false, false, false, false, false, false, false, false, false, false, false, false, false, false, false, false] rfl rfl (any_of HT_.out (by kernel_rfl)) (fun _ _ _ h => h) (Or.inl ⟨by rfl, ?_⟩) ?_ ?_
        rotate_left
        · intro w'
          go_simp
          with_reducible rfl
        rotate_left
        · simp only [Act.put, List.setIfInBounds_toArray, List.set_cons_zero, List.set_cons_succ, i64_w, i32_w]
          rfl
        refine pure_ (i := 7) (N := some 59) (v := ?_) (a' := ?_) #[true, true, true, true, true, true, false, true, false, false, false, false, false, false, false, false, false, false, false, false, false, false, false] rfl rfl (any_of HT_.out (by kernel_rfl)) (fun _ _ _ h => h) (Or.inl ⟨by rfl, ?_⟩) ?_ ?_
        rotate_left
        · intro w'
          go_simp
          with_reducible rfl
        rotate_left
        · simp only [Act.put, List.setIfInBounds_toArray, List.set_cons_zero, List.set_cons_succ, i64_w, i32_w]
          rfl
        refine pure_ (i := 8) (N := some 60) (v := ?_) (a' := ?_) #[true, true, true, true, true, true, false, true, true, false, false, false, false, false, false, false, false, false, false, false, false, false, false] rfl rfl (any_of HT_.out (by kernel_rfl)) (fun _ _ _ h => h) (Or.inl ⟨by rfl, ?_⟩) ?_ ?_
        rotate_left
        · intro w'
          go_simp
          with_reducible rfl
        rotate_left
        · simp only [Act.put, List.setIfInBounds_toArray, List.set_cons_zero, List.set_cons_succ, i64_w, i32_w]
          rfl
        refine pure_ (i := 9) (N := some 61) (v := ?_) (a' := ?_) #[true, true, true, true, true, true, false, true, true, true, false, false, false, false, false, false, false, false, false, false, false, false, false] rfl rfl (any_of HT_.out (by kernel_rfl)) (fun _ _ _ h => h) (Or.inl ⟨by rfl, ?_⟩) ?_ ?_
        rotate_left
        · intro w'
          go_simp
          with_reducible rfl
        rotate_left
        · simp only [Act.put, List.setIfInBounds_toArray, List.set_cons_zero, List.set_cons_succ, i64_w, i32_w]
          rfl
        refine pure_ (i := 10) (N := some 62) (v := ?_) (a' := ?_) #[true, true, true, true, true, true, false, true, true, true, true, false, false, false, false, false, false, false, false, false, false, false, false] rfl rfl (any_of HT_.out (by kernel_rfl)) (fun _ _ _ h => h) (Or.inl ⟨by rfl, ?_⟩) ?_ ?_
        rotate_left
        · intro w'
          go_simp
          with_reducible rfl
        rotate_left
        · simp only [Act.put, List.setIfInBounds_toArray, List.set_cons_zero, List.set_cons_succ, i64_w, i32_w]
          rfl
        refine take_ (i := 6) (N := some 58) (v := ?_) (a' := ?_) #[true, true, true, true, true, true, true, true, true, true, true, false, false, false, false, false, false, false, false, false, false, false, false] rfl rfl (take_ofW HT_.out HW_.out (by kernel_rfl)) (fun _ _ _ h => h) (Or.inl ⟨by rfl, ?_⟩) hHeld ?_ ?_
        rotate_left
        · rintro w' ⟨s0, s1⟩
          go_simp
          with_reducible rfl
        rotate_left
        · simp only [Act.put, List.setIfInBounds_toArray, List.set_cons_zero, List.set_cons_succ, i64_w, i32_w]
          rfl
        refine take_ (i := 11) (N := some 63) (v := ?_) (a' := ?_) #[true, true, true, true, true, true, true, true, true, true, true, true, false, false, false, false, false, false, false, false, false, false, false] rfl rfl (take_ofW HT_.out HW_.out (by kernel_rfl)) (fun _ _ _ h => h) (Or.inl ⟨by rfl, ?_⟩) hHeld ?_ ?_
        rotate_left
        · rintro w' ⟨s0, s1⟩
          go_simp
          with_reducible rfl
        rotate_left
        · simp only [Act.put, List.setIfInBounds_toArray, List.set_cons_zero, List.set_cons_succ, i64_w, i32_w]
          rfl
        refine pure_ (i := 12) (N := some 64) (v := ?_) (a' := ?_) #[true, true, true, true, true, true, true, true, true, true, true, true, true, false, false, false, false, false, false, false, false, false, false] rfl rfl (any_of HT_.out (by kernel_rfl)) (fun _ _ _ h => h) (Or.inl ⟨by rfl, ?_⟩) ?_ ?_
        rotate_left
        · intro w'
          go_simp
          with_reducible rfl
        rotate_left
        · simp only [Act.put, List.setIfInBounds_toArray, List.set_cons_zero, List.set_cons_succ, i64_w, i32_w]
          rfl
        refine pure_ (i := 13) (N := some 65) (v := ?_) (a' := ?_) #[true, true, true, true, true, true, true, true, true, true, true, true, true, true, false, false, false, false, false, false, false, false, false] rfl rfl (any_of HT_.out (by kernel_rfl)) (fun _ _ _ h => h) (Or.inl ⟨by rfl, ?_⟩) ?_ ?_
        rotate_left
        · intro w'
          go_simp
          with_reducible rfl
        rotate_left
        · simp only [Act.put, List.setIfInBounds_toArray, List.set_cons_zero, List.set_cons_succ, i64_w, i32_w]
          rfl
        refine pure_ (i := 14) (N := some 66) (v := ?_) (a' := ?_) #[true, true, true, true, true, true, true, true, true, true, true, true, true, true, true, false, false, false, false, false, false, false, false] rfl rfl (any_of HT_.out (by kernel_rfl)) (fun _ _ _ h => h) (Or.inl ⟨by rfl, ?_⟩) ?_ ?_
        rotate_left
        · intro w'
          go_simp
          with_reducible rfl
        rotate_left
        · simp only [Act.put, List.setIfInBounds_toArray, List.set_cons_zero, List.set_cons_succ, i64_w, i32_w]
          rfl
        refine pure_ (i := 15) (N := some 67) (v := ?_) (a' := ?_) #[true, true, true, true, true, true, true, true, true, true, true, true, true, true, true, true, false, false, false, false, false, false, false] rfl rfl (any_of HT_.out (by kernel_rfl)) (fun _ _ _ h => h) (Or.inl ⟨by rfl, ?_⟩) ?_ ?_
        rotate_left
        · intro w'
          go_simp
          with_reducible rfl
        rotate_left
        · simp only [Act.put, List.setIfInBounds_toArray, List.set_cons_zero, List.set_cons_succ, i64_w, i32_w]
          rfl
        refine pure_ (i := 16) (N := some 68) (v := ?_) (a' := ?_) #[true, true, true, true, true, true, true, true, true, true, true, true, true, true, true, true, true, false, false, false, false, false, false] rfl rfl (any_of HT_.out (by kernel_rfl)) (fun _ _ _ h => h) (Or.inl ⟨by rfl, ?_⟩) ?_ ?_
        rotate_left
        · intro w'
          go_simp
          with_reducible rfl
        rotate_left
        · simp only [Act.put, List.setIfInBounds_toArray, List.set_cons_zero, List.set_cons_succ, i64_w, i32_w]
          rfl
        refine one_ (i := 17) (N := some 69) #[true, true, true, true, true, true, true, true, true, true, true, true, true, true, true, true, true, true, false, false, false, false, false] rfl rfl (one_of HT_.out (by kernel_rfl)) (by decide) (fun K hK => ?_)
        refine goes_ Try.func56 (by kernel_rfl) rfl #[.slice (some ⟨ab, ao, none⟩) l.length ca, .slice (some ⟨ab, ao, none⟩) l.length ca] (by rfl) rfl rfl (by (try simp only [List.map_toArray, List.map_cons, List.map_nil]); first | done | rfl) ?_
        with_reducible refine (H9.out _ KD.out).mono ?_
        rintro e V17 ⟨v17, rfl, hs17, hb17⟩
        obtain ⟨a17, c17, rfl, -⟩ := chform hs17
        simp only [List.length_nil] at hs17 ⊢
        refine ⟨_, rfl, ?_⟩
        have K17 := hid (KD.out.trans (hb17.mono KD.out.size))
        have K178 := hid (KD8.out.trans (hb17.mono KD8.out.size))
        have H17 := hid hs17
        clear hb17 hs17
        refine hK.out _ _ (HS.out _ K178.out) (fun hHeld => ?_)
        clear hK K
        refine norm_ (a' := ?_) ?_ ?_
        rotate_left
        · show Act.put _ (some 69) _ = _
          simp only [Act.put, List.setIfInBounds_toArray, List.set_cons_zero, List.set_cons_succ, i64_w, i32_w]
          rfl
        refine one_ (i := 18) (N := some 70) #[true, true, true, true, true, true, true, true, true, true, true, true, true, true, true, true, true, true, true, false, false, false, false] rfl rfl (one_of HT_.out (by kernel_rfl)) (by decide) (fun K hK => ?_)
        refine goes_ Try.func57 (by kernel_rfl) rfl #[.slice a17 0 c17] (by rfl) rfl rfl (by (try simp only [List.map_toArray, List.map_cons, List.map_nil]); first | done | rfl) ?_
        have h57 := uids_eq H17.out (by simp) usL_nil
        with_reducible refine h57.mono ?_
        rintro e V18 ⟨⟨a18, c18, rfl, -⟩, hb18⟩
        simp only [List.length_nil]
        refine ⟨_, rfl, ?_⟩
        have K18 := hid (K17.out.trans (hb18.mono K17.out.size))
        have K188 := hid (K178.out.trans (hb18.mono K178.out.size))
        clear hb18 h57
        refine hK.out _ _ (HS.out _ K188.out) (fun hHeld => ?_)
        clear hK K
        refine norm_ (a' := ?_) ?_ ?_
        rotate_left
        · show Act.put _ (some 70) _ = _
          simp only [Act.put, List.setIfInBounds_toArray, List.set_cons_zero, List.set_cons_succ, i64_w, i32_w]
          rfl
        refine pure_ (i := 19) (N := some 71) (v := ?_) (a' := ?_) #[true, true, true, true, true, true, true, true, true, true, true, true, true, true, true, true, true, true, true, true, false, false, false] rfl rfl (any_of HT_.out (by kernel_rfl)) (fun _ _ _ h => h) (Or.inl ⟨by rfl, ?_⟩) ?_ ?_
        rotate_left
        · intro w'
          go_simp
          with_reducible rfl
        rotate_left
        · simp only [Act.put, List.setIfInBounds_toArray, List.set_cons_zero, List.set_cons_succ, i64_w, i32_w]
          rfl
        refine pure_ (i := 20) (N := some 72) (v := ?_) (a' := ?_) #[true, true, true, true, true, true, true, true, true, true, true, true, true, true, true, true, true, true, true, true, true, false, false] rfl rfl (any_of HT_.out (by kernel_rfl)) (fun _ _ _ h => h) (Or.inl ⟨by rfl, ?_⟩) ?_ ?_
        rotate_left
        · intro w'
          go_simp
          with_reducible rfl
        rotate_left
        · simp only [Act.put, List.setIfInBounds_toArray, List.set_cons_zero, List.set_cons_succ, i64_w, i32_w]
          rfl
        refine pure_ (i := 21) (N := some 73) (v := ?_) (a' := ?_) #[true, true, true, true, true, true, true, true, true, true, true, true, true, true, true, true, true, true, true, true, true, true, false] rfl rfl (any_of HT_.out (by kernel_rfl)) (fun _ _ _ h => h) (Or.inl ⟨by rfl, ?_⟩) ?_ ?_
        rotate_left
        · intro w'
          go_simp
          with_reducible rfl
        rotate_left
        · simp only [Act.put, List.setIfInBounds_toArray, List.set_cons_zero, List.set_cons_succ, i64_w, i32_w]
          rfl
        refine pure_ (i := 22) (N := some 6) (v := ?_) (a' := ?_) #[true, true, true, true, true, true, true, true, true, true, true, true, true, true, true, true, true, true, true, true, true, true, true] rfl rfl (any_of HT_.out (by kernel_rfl)) (fun _ _ _ h => h) (Or.inl ⟨by rfl, ?_⟩) ?_ ?_
        rotate_left
        · intro w'
          go_simp
          with_reducible rfl
        rotate_left
        · simp only [Act.put, List.setIfInBounds_toArray, List.set_cons_zero, List.set_cons_succ, i64_w, i32_w]
          rfl
        refine done_ (done_of HT_.out (by kernel_rfl)) ?_
        go_wp2
        go_ret
        exact ⟨rfl, K18.out⟩
      · go_upto_region 10 with (first
          | (at_builtin; refine wl_append rfl _ _ _ rfl ⟨_, _, R0.out, ?_⟩)
          | (at_builtin; refine wl_append rfl _ _ _ rfl ⟨_, _, R1.out, ?_⟩)
          | (at_builtin; refine wl_append rfl _ _ _ rfl ⟨_, _, R2.out, ?_⟩))
        clear e3 hab3 hg3 p3 p4
        go_wp2_with (first
          | (go_at_call 56
             go_must (with_reducible refine HD.out.mono ?_)
             rintro e w7 ⟨v7, rfl, hs7, hb7⟩
             obtain ⟨a7, c7, rfl, hc7⟩ := chform hs7
             simp only [List.length_cons, List.length_nil, Nat.zero_add, Nat.reduceAdd] at hs7 ⊢
             have HS7 := hid hs7
             have HB7 := hid (HB6.out.trans (hb7.mono HB6.out.size))
             clear hb7 hs7 hc7)
          | (go_at_call 57
             go_must (with_reducible refine (uids_eq HS7.out (by simp) (usL_two _ _ rfl)).mono ?_)
             rintro e w8 ⟨⟨A8, c8, rfl, hc8⟩, hb8⟩
             obtain ⟨ub, uo, rfl, hu8⟩ := hc8 0 (by simp)
             simp only [List.length_cons, List.length_nil, Nat.zero_add, Nat.reduceAdd, Nat.add_zero, List.getElem_cons_zero] at hu8 ⊢
             have HU8 := hid hu8
             have HB8 := hid (HB7.out.trans (hb8.mono HB7.out.size))
             clear hb8 hc8 hu8))
        obtain ⟨Wd, hWd⟩ : ∃ Wd, Wd = w8.drew := ⟨_, rfl⟩
        have HWD := hid hWd
        have KD := hid (show Below w.heap.size w Wd by rw [hWd]; exact HB8.out.trans ((Below.refl _ w8).drew.mono HB8.out.size))
        have HUL := hid (World.block_lt_of_cell? _ _ HU8.out)
        have HS := hid (show ∀ V, Below w8.heap.size w8 V → (fun V : World => V.cell? ⟨ub, uo, none⟩ = some (.int .i64 uu) ∧ V.cell? ⟨ab, ao + k * 4 + 1, none⟩ = some (.int .i64 uu)) V from fun V hV => ⟨(hV.cell (p := ⟨ub, uo, none⟩) HUL.out).trans HU8.out, HUID.out V (HB8.out.trans (hV.mono HB8.out.size))⟩)
        have KD8 := hid (show Below w8.heap.size w8 Wd by rw [hWd]; exact (Below.refl _ w8).drew)
        clear hWd hd htk
        refine start_ (n := 23) (S := fun V : World => V.cell? ⟨ub, uo, none⟩ = some (.int .i64 uu) ∧ V.cell? ⟨ab, ao + k * 4 + 1, none⟩ = some (.int .i64 uu)) (ds := []) #[false, false, false, false, false, false, false, false, false, false, false, false, false, false, false, false, false, false, false, false, false, false, false] (by kernel_rfl) rfl rfl (by have h := HS.out _ KD8.out; rw [HWD.out] at h; exact h) (fun hHeld => ?_); refine with_tabW mine11.tab mine11.bits (fun HT_ HW_ => ?_)
        rw [← HWD.out] at hHeld ⊢
        refine pure_ (i := 0) (N := some 52) (v := ?_) (a' := ?_) #[true, false, false, false, false, false, false, false, false, false, false, false, false, false, false, false, false, false, false, false, false, false, false] rfl rfl (any_of HT_.out (by kernel_rfl)) (fun _ _ _ h => h) (Or.inl ⟨by rfl, ?_⟩) ?_ ?_
        rotate_left
        · intro w'
          go_simp
          with_reducible rfl
        rotate_left
        · simp only [Act.put, List.setIfInBounds_toArray, List.set_cons_zero, List.set_cons_succ, i64_w, i32_w]
          rfl
        refine pure_ (i := 1) (N := some 53) (v := ?_) (a' := ?_) #[true, true, false, false, false, false, false, false, false, false, false, false, false, false, false, false, false, false, false, false, false, false, false] rfl rfl (any_of HT_.out (by kernel_rfl)) (fun _ _ _ h => h) (Or.inl ⟨by rfl, ?_⟩) ?_ ?_
        rotate_left
        · intro w'
          go_simp
          with_reducible rfl
        rotate_left
        · simp only [Act.put, List.setIfInBounds_toArray, List.set_cons_zero, List.set_cons_succ, i64_w, i32_w]
          rfl
        refine pure_ (i := 2) (N := some 54) (v := ?_) (a' := ?_) #[true, true, true, false, false, false, false, false, false, false, false, false, false, false, false, false, false, false, false, false, false, false, false] rfl rfl (any_of HT_.out (by kernel_rfl)) (fun _ _ _ h => h) (Or.inl ⟨by rfl, ?_⟩) ?_ ?_
        rotate_left
        · intro w'
          go_simp
          with_reducible rfl
        rotate_left
        · simp only [Act.put, List.setIfInBounds_toArray, List.set_cons_zero, List.set_cons_succ, i64_w, i32_w]
          rfl
        refine pure_ (i := 3) (N := some 55) (v := ?_) (a' := ?_) #[true, true, true, true, false, false, false, false, false, false, false, false, false, false, false, false, false, false, false, false, false, false, false] rfl rfl (any_of HT_.out (by kernel_rfl)) (fun _ _ _ h => h) (Or.inl ⟨by rfl, ?_⟩) ?_ ?_
        rotate_left
        · intro w'
          go_simp
          with_reducible rfl
        rotate_left
        · simp only [Act.put, List.setIfInBounds_toArray, List.set_cons_zero, List.set_cons_succ, i64_w, i32_w]
          rfl
        refine pure_ (i := 4) (N := some 56) (v := ?_) (a' := ?_) #[true, true, true, true, true, false, false, false, false, false, false, false, false, false, false, false, false, false, false, false, false, false, false] rfl rfl (any_of HT_.out (by kernel_rfl)) (fun _ _ _ h => h) (Or.inl ⟨by rfl, ?_⟩) ?_ ?_
        rotate_left
        · intro w'
          go_simp
          with_reducible rfl
        rotate_left
        · simp only [Act.put, List.setIfInBounds_toArray, List.set_cons_zero, List.set_cons_succ, i64_w, i32_w]
          rfl
        refine pure_ (i := 5) (N := some 57) (v := ?_) (a' := ?_) #[true, true, true, true, true, true, false, false, false, false, false, false, false, false, false, false, false, false, false, false, false, false, false] rfl rfl (any_of HT_.out (by kernel_rfl)) (fun _ _ _ h => h) (Or.inl ⟨by rfl, ?_⟩) ?_ ?_
        rotate_left
        · intro w'
          go_simp
          with_reducible rfl
        rotate_left
        · simp only [Act.put, List.setIfInBounds_toArray, List.set_cons_zero, List.set_cons_succ, i64_w, i32_w]
          rfl
        refine pure_ (i := 7) (N := some 59) (v := ?_) (a' := ?_) #[true, true, true, true, true, true, false, true, false, false, false, false, false, false, false, false, false, false, false, false, false, false, false] rfl rfl (any_of HT_.out (by kernel_rfl)) (fun _ _ _ h => h) (Or.inl ⟨by rfl, ?_⟩) ?_ ?_
        rotate_left
        · intro w'
          go_simp
          with_reducible rfl
        rotate_left
        · simp only [Act.put, List.setIfInBounds_toArray, List.set_cons_zero, List.set_cons_succ, i64_w, i32_w]
          rfl
        refine pure_ (i := 8) (N := some 60) (v := ?_) (a' := ?_) #[true, true, true, true, true, true, false, true, true, false, false, false, false, false, false, false, false, false, false, false, false, false, false] rfl rfl (any_of HT_.out (by kernel_rfl)) (fun _ _ _ h => h) (Or.inl ⟨by rfl, ?_⟩) ?_ ?_
        rotate_left
        · intro w'
          go_simp
          with_reducible rfl
        rotate_left
        · simp only [Act.put, List.setIfInBounds_toArray, List.set_cons_zero, List.set_cons_succ, i64_w, i32_w]
          rfl
        refine pure_ (i := 9) (N := some 61) (v := ?_) (a' := ?_) #[true, true, true, true, true, true, false, true, true, true, false, false, false, false, false, false, false, false, false, false, false, false, false] rfl rfl (any_of HT_.out (by kernel_rfl)) (fun _ _ _ h => h) (Or.inl ⟨by rfl, ?_⟩) ?_ ?_
        rotate_left
        · intro w'
          go_simp
          with_reducible rfl
        rotate_left
        · simp only [Act.put, List.setIfInBounds_toArray, List.set_cons_zero, List.set_cons_succ, i64_w, i32_w]
          rfl
        refine pure_ (i := 10) (N := some 62) (v := ?_) (a' := ?_) #[true, true, true, true, true, true, false, true, true, true, true, false, false, false, false, false, false, false, false, false, false, false, false] rfl rfl (any_of HT_.out (by kernel_rfl)) (fun _ _ _ h => h) (Or.inl ⟨by rfl, ?_⟩) ?_ ?_
        rotate_left
        · intro w'
          go_simp
          with_reducible rfl
        rotate_left
        · simp only [Act.put, List.setIfInBounds_toArray, List.set_cons_zero, List.set_cons_succ, i64_w, i32_w]
          rfl
        refine take_ (i := 6) (N := some 58) (v := ?_) (a' := ?_) #[true, true, true, true, true, true, true, true, true, true, true, false, false, false, false, false, false, false, false, false, false, false, false] rfl rfl (take_ofW HT_.out HW_.out (by kernel_rfl)) (fun _ _ _ h => h) (Or.inl ⟨by rfl, ?_⟩) hHeld ?_ ?_
        rotate_left
        · rintro w' ⟨s0, s1⟩
          go_simp
          with_reducible rfl
        rotate_left
        · simp only [Act.put, List.setIfInBounds_toArray, List.set_cons_zero, List.set_cons_succ, i64_w, i32_w]
          rfl
        refine take_ (i := 11) (N := some 63) (v := ?_) (a' := ?_) #[true, true, true, true, true, true, true, true, true, true, true, true, false, false, false, false, false, false, false, false, false, false, false] rfl rfl (take_ofW HT_.out HW_.out (by kernel_rfl)) (fun _ _ _ h => h) (Or.inl ⟨by rfl, ?_⟩) hHeld ?_ ?_
        rotate_left
        · rintro w' ⟨s0, s1⟩
          go_simp
          with_reducible rfl
        rotate_left
        · simp only [Act.put, List.setIfInBounds_toArray, List.set_cons_zero, List.set_cons_succ, i64_w, i32_w]
          rfl
        refine pure_ (i := 12) (N := some 64) (v := ?_) (a' := ?_) #[true, true, true, true, true, true, true, true, true, true, true, true, true, false, false, false, false, false, false, false, false, false, false] rfl rfl (any_of HT_.out (by kernel_rfl)) (fun _ _ _ h => h) (Or.inl ⟨by rfl, ?_⟩) ?_ ?_
        rotate_left
        · intro w'
          go_simp
          with_reducible rfl
        rotate_left
        · simp only [Act.put, List.setIfInBounds_toArray, List.set_cons_zero, List.set_cons_succ, i64_w, i32_w]
          rfl
        refine pure_ (i := 13) (N := some 65) (v := ?_) (a' := ?_) #[true, true, true, true, true, true, true, true, true, true, true, true, true, true, false, false, false, false, false, false, false, false, false] rfl rfl (any_of HT_.out (by kernel_rfl)) (fun _ _ _ h => h) (Or.inl ⟨by rfl, ?_⟩) ?_ ?_
        rotate_left
        · intro w'
          go_simp
          with_reducible rfl
        rotate_left
        · simp only [Act.put, List.setIfInBounds_toArray, List.set_cons_zero, List.set_cons_succ, i64_w, i32_w]
          rfl
        refine pure_ (i := 14) (N := some 66) (v := ?_) (a' := ?_) #[true, true, true, true, true, true, true, true, true, true, true, true, true, true, true, false, false, false, false, false, false, false, false] rfl rfl (any_of HT_.out (by kernel_rfl)) (fun _ _ _ h => h) (Or.inl ⟨by rfl, ?_⟩) ?_ ?_
        rotate_left
        · intro w'
          go_simp
          with_reducible rfl
        rotate_left
        · simp only [Act.put, List.setIfInBounds_toArray, List.set_cons_zero, List.set_cons_succ, i64_w, i32_w]
          rfl
        refine pure_ (i := 15) (N := some 67) (v := ?_) (a' := ?_) #[true, true, true, true, true, true, true, true, true, true, true, true, true, true, true, true, false, false, false, false, false, false, false] rfl rfl (any_of HT_.out (by kernel_rfl)) (fun _ _ _ h => h) (Or.inl ⟨by rfl, ?_⟩) ?_ ?_
        rotate_left
        · intro w'
          go_simp
          with_reducible rfl
        rotate_left
        · simp only [Act.put, List.setIfInBounds_toArray, List.set_cons_zero, List.set_cons_succ, i64_w, i32_w]
          rfl
        refine pure_ (i := 16) (N := some 68) (v := ?_) (a' := ?_) #[true, true, true, true, true, true, true, true, true, true, true, true, true, true, true, true, true, false, false, false, false, false, false] rfl rfl (any_of HT_.out (by kernel_rfl)) (fun _ _ _ h => h) (Or.inl ⟨by rfl, ?_⟩) ?_ ?_
        rotate_left
        · intro w'
          go_simp
          with_reducible rfl
        rotate_left
        · simp only [Act.put, List.setIfInBounds_toArray, List.set_cons_zero, List.set_cons_succ, i64_w, i32_w]
          rfl
        refine one_ (i := 17) (N := some 69) #[true, true, true, true, true, true, true, true, true, true, true, true, true, true, true, true, true, true, false, false, false, false, false] rfl rfl (one_of HT_.out (by kernel_rfl)) (by decide) (fun K hK => ?_)
        refine goes_ Try.func56 (by kernel_rfl) rfl #[.slice (some ⟨ab, ao, none⟩) l.length ca, .slice (some ⟨ab, ao, none⟩) l.length ca] (by rfl) rfl rfl (by (try simp only [List.map_toArray, List.map_cons, List.map_nil]); first | done | rfl) ?_
        with_reducible refine (H9.out _ KD.out).mono ?_
        rintro e V17 ⟨v17, rfl, hs17, hb17⟩
        obtain ⟨a17, c17, rfl, -⟩ := chform hs17
        simp only [List.length_nil] at hs17 ⊢
        refine ⟨_, rfl, ?_⟩
        have K17 := hid (KD.out.trans (hb17.mono KD.out.size))
        have K178 := hid (KD8.out.trans (hb17.mono KD8.out.size))
        have H17 := hid hs17
        clear hb17 hs17
        refine hK.out _ _ (HS.out _ K178.out) (fun hHeld => ?_)
        clear hK K
        refine norm_ (a' := ?_) ?_ ?_
        rotate_left
        · show Act.put _ (some 69) _ = _
          simp only [Act.put, List.setIfInBounds_toArray, List.set_cons_zero, List.set_cons_succ, i64_w, i32_w]
          rfl
        refine one_ (i := 18) (N := some 70) #[true, true, true, true, true, true, true, true, true, true, true, true, true, true, true, true, true, true, true, false, false, false, false] rfl rfl (one_of HT_.out (by kernel_rfl)) (by decide) (fun K hK => ?_)
        refine goes_ Try.func57 (by kernel_rfl) rfl #[.slice a17 0 c17] (by rfl) rfl rfl (by (try simp only [List.map_toArray, List.map_cons, List.map_nil]); first | done | rfl) ?_
        have h57 := uids_eq H17.out (by simp) usL_nil
        with_reducible refine h57.mono ?_
        rintro e V18 ⟨⟨a18, c18, rfl, -⟩, hb18⟩
        simp only [List.length_nil]
        refine ⟨_, rfl, ?_⟩
        have K18 := hid (K17.out.trans (hb18.mono K17.out.size))
        have K188 := hid (K178.out.trans (hb18.mono K178.out.size))
        clear hb18 h57
        refine hK.out _ _ (HS.out _ K188.out) (fun hHeld => ?_)
        clear hK K
        refine norm_ (a' := ?_) ?_ ?_
        rotate_left
        · show Act.put _ (some 70) _ = _
          simp only [Act.put, List.setIfInBounds_toArray, List.set_cons_zero, List.set_cons_succ, i64_w, i32_w]
          rfl
        refine pure_ (i := 19) (N := some 71) (v := ?_) (a' := ?_) #[true, true, true, true, true, true, true, true, true, true, true, true, true, true, true, true, true, true, true, true, false, false, false] rfl rfl (any_of HT_.out (by kernel_rfl)) (fun _ _ _ h => h) (Or.inl ⟨by rfl, ?_⟩) ?_ ?_
        rotate_left
        · intro w'
          go_simp
          with_reducible rfl
        rotate_left
        · simp only [Act.put, List.setIfInBounds_toArray, List.set_cons_zero, List.set_cons_succ, i64_w, i32_w]
          rfl
        refine pure_ (i := 20) (N := some 72) (v := ?_) (a' := ?_) #[true, true, true, true, true, true, true, true, true, true, true, true, true, true, true, true, true, true, true, true, true, false, false] rfl rfl (any_of HT_.out (by kernel_rfl)) (fun _ _ _ h => h) (Or.inl ⟨by rfl, ?_⟩) ?_ ?_
        rotate_left
        · intro w'
          go_simp
          with_reducible rfl
        rotate_left
        · simp only [Act.put, List.setIfInBounds_toArray, List.set_cons_zero, List.set_cons_succ, i64_w, i32_w]
          rfl
        refine pure_ (i := 21) (N := some 73) (v := ?_) (a' := ?_) #[true, true, true, true, true, true, true, true, true, true, true, true, true, true, true, true, true, true, true, true, true, true, false] rfl rfl (any_of HT_.out (by kernel_rfl)) (fun _ _ _ h => h) (Or.inl ⟨by rfl, ?_⟩) ?_ ?_
        rotate_left
        · intro w'
          go_simp
          with_reducible rfl
        rotate_left
        · simp only [Act.put, List.setIfInBounds_toArray, List.set_cons_zero, List.set_cons_succ, i64_w, i32_w]
          rfl
        refine pure_ (i := 22) (N := some 6) (v := ?_) (a' := ?_) #[true, true, true, true, true, true, true, true, true, true, true, true, true, true, true, true, true, true, true, true, true, true, true] rfl rfl (any_of HT_.out (by kernel_rfl)) (fun _ _ _ h => h) (Or.inl ⟨by rfl, ?_⟩) ?_ ?_
        rotate_left
        · intro w'
          go_simp
          with_reducible rfl
        rotate_left
        · simp only [Act.put, List.setIfInBounds_toArray, List.set_cons_zero, List.set_cons_succ, i64_w, i32_w]
          rfl
        refine done_ (done_of HT_.out (by kernel_rfl)) ?_
        go_wp2
        go_ret
        exact ⟨rfl, K18.out⟩
end Go.Proofs.Ytnceglkoolfncaa.Rl
