/- Probes: the law ProbePlays. -/
import Derived.Test.YtnceglkoolfncaaBp
import Derived.Deep.CutBlock
import Derived.Deep.DeepCutAuto
set_option linter.unusedSimpArgs false
set_option linter.unusedVariables false
namespace Go.Proofs.Ytnceglkoolfncaa.Pr
open Go.RowKit Go.Pv Go.Proofs.Ytnceglkoolfncaa.Po Go.Proofs.Ytnceglkoolfncaa.PProbePlays
open Go.Proofs.YtnceglkoolfncaaW.PrintWords Go.Proofs.YtnceglkoolfncaaW.PrintLast Go.Proofs.YtnceglkoolfncaaW.PrintMore
def plays17.T : Bool × List (List Nat × List Nat) := (true, [([], []), ([], []), ([1], [1]), ([], []), ([3], [3]), ([], []), ([5], [5]), ([6], [6]), ([], []), ([0, 2, 4, 7, 8, 7], [0, 2, 4, 7, 8]), ([9, 9, 0, 1, 2, 3, 4, 5, 6, 7, 8, 9], [0, 9])])
def plays17.B : List Nat := [0, 0, 2, 0, 8, 0, 32, 96, 0, 511, 1023]
theorem plays17.tab : rtab .any (opsOf Try.f11 17) = plays17.T := by kernel_rfl
theorem plays17.bits : waitsOk plays17.T.2 plays17.B = true := by kernel_rfl
def plays18.T : Bool × List (List Nat × List Nat) := (true, [([], []), ([], []), ([1], [1]), ([], []), ([3], [3]), ([], []), ([5], [5]), ([6], [6]), ([], []), ([0, 2, 4, 7, 8, 7], [0, 2, 4, 7, 8])])
def plays18.B : List Nat := [0, 0, 2, 0, 8, 0, 32, 96, 0, 511]
theorem plays18.tab : rtab .any (opsOf Try.f11 18) = plays18.T := by kernel_rfl
theorem plays18.bits : waitsOk plays18.T.2 plays18.B = true := by kernel_rfl
theorem Bx.c4 {w : World} {g : Nat} {a : S122} (h : Bx w g a) : w.cell? ⟨g, 1, none⟩ = some (.int .i64 a.f1) ∧ w.cell? ⟨g, 2, none⟩ = some (.int .i64 a.f2) ∧ w.cell? ⟨g, 4, none⟩ = some (.int .i64 a.f4.f0) ∧ w.cell? ⟨g, 5, none⟩ = some (.int .i64 a.f4.f1) := by
  obtain ⟨_, h1, h2, _, h4, h5, _⟩ := h.cells
  exact ⟨h1, h2, h4, h5⟩
/-- The numbers of a round. -/
structure Nm (i : Nat) (now : Int) (al : AL) (q : List S207) : Prop where
  hg : Goods i al
  hl : q.length ≤ i
  n0 : 0 ≤ now
  n1 : now ≤ 1000 * i
theorem watch_len (b c e f now : Int) (q : List S207) : (watchS b c e f now q).length ≤ q.length + 1 := by
  have h := List.length_filter_le (keepW b c false) q
  unfold watchS
  split
  · omega
  · rw [(ins_perm b c _ _).length_eq, List.length_cons]
    omega
theorem ask_len (b c : Int) (bad : Bool) (now : Int) (al : AL) : (askA (b, c) bad now al).length = al.length := by
  unfold askA
  cases h : aget (b, c) al with
  | none => rfl
  | some s =>
    simp only
    split
    · rfl
    · have : ∀ l : AL, aget (b, c) l ≠ none → (aset (b, c) (askedS s bad now) l).length = l.length := by
        intro l
        induction l with
        | nil => intro h; exact absurd rfl h
        | cons x xs ih =>
          intro h
          simp only [aget] at h
          simp only [aset]
          by_cases hx : x.1 = (b, c)
          · simp [hx]
          · rw [if_neg hx] at h ⊢
            simp [ih h]
      exact this al (by rw [h]; simp)
theorem aset_mem_any {k : Int × Int} {v : PS} {l : AL} {x : (Int × Int) × PS} (h : x ∈ aset k v l) : x ∈ l ∨ x = (k, v) := by
  induction l with
  | nil => exact .inr (List.mem_singleton.1 h)
  | cons y ys ih =>
    simp only [aset] at h
    split at h
    · rcases List.mem_cons.1 h with h | h
      · exact .inr h
      · exact .inl (List.mem_cons_of_mem _ h)
    · rcases List.mem_cons.1 h with h | h
      · exact .inl (h ▸ List.mem_cons_self ..)
      · exact (ih h).imp (List.mem_cons_of_mem _) id
theorem ask_goods (b c : Int) (bad : Bool) (now : Int) {n : Nat} {al : AL} (hg : Goods n al) (hn : n ≤ 1000000) (hw : 0 ≤ now ∧ now ≤ 1000000) : Goods (n + 1) (askA (b, c) bad now al) := by
  have hg1 : Goods (n + 1) al := fun r hr => by have := hg r hr; omega
  unfold askA
  cases h : aget (b, c) al with
  | none => exact hg1
  | some s =>
    simp only
    split
    · exact hg1
    · intro x hx
      rcases aset_mem_any hx with h1 | h1
      · exact hg1 x h1
      · have := hg _ (aget_mem h)
        rw [h1]
        simp only [askedS] at this ⊢
        refine ⟨this.1, this.2.1, ?_, ?_⟩ <;> cases bad <;> simp <;> omega
theorem adel_goods (k : Int × Int) {n : Nat} {al : AL} (nd : (al.map (·.1)).Nodup) (hg : Goods n al) : Goods (n + 1) (adel k al) := by
  rw [adel_filter _ _ nd]
  exact filter_goods _ hg

set_option maxRecDepth 100000 in
set_option maxHeartbeats 8000000 in
theorem plays_any {w : World} {v0 : Value} {L : List S122} (h : Rz k122 w v0 L) (bx cx : Int) : Calls Try.prog 11 #[v0, .int .i64 bx, .int .i64 cx] w fun e w' => e = .returned (.bool true) ∧ Below w.heap.size w w' := by
  have HL := hid h
  obtain ⟨A, c, rfl, hlc, hC⟩ := h
  have hlen : (L.length : Int) ≤ 9223372036854775807 := by have := Kd.C_max hC; omega
  clear hC hlc
  have HN := hid (new_any w)
  obtain ⟨mb, hmb⟩ : ∃ mb, mb = w.heap.size := ⟨_, rfl⟩
  obtain ⟨p, hp⟩ : ∃ p, p = mb + 1 := ⟨_, rfl⟩
  have HMB := hid hmb
  rw [← hmb, ← hp] at HN
  have HP := hid hp
  clear hmb hp
  go_enter Try.func11, Try.ntmps11
  go_wp2_with (go_at_call 58; go_must (with_reducible refine HN.out.mono ?_); rintro e w2 ⟨rfl, hB, hb2⟩; have HB := hid hB; have HB2 := hid hb2; clear hB hb2 HN)
  have H0 : Hid (PV w w2 p mb [] [] (.slice none 0 0)) := hid ⟨by have := HB2.out; rwa [HMB.out] at this, by rw [HP.out, HMB.out]; omega, by rw [HMB.out]; exact Nat.le_refl _, HB.out, Kd.R_nil k207 207 w2 w.heap.size _, List.Perm.refl _, List.Pairwise.nil⟩
  have N0 : Hid (Nm 0 0 [] []) := hid ⟨(fun r hr => by cases hr), by simp, by omega, by omega⟩
  clear HB HB2
  go_loopg [8, 9, 10] 100 (fun g s8 s9 s10 wr => ∃ (i : Nat) (now : Int) (al : AL) (q : List S207), g = 100 - i ∧ i ≤ 100 ∧ i ≤ L.length ∧ s9 = .int .i64 now ∧ s10 = .int .i64 i ∧ Hid (PV w wr p mb al q s8) ∧ Hid (Nm i now al q))
  case atStart => exact ⟨0, 0, [], [], rfl, by omega, by omega, rfl, rfl, H0, N0⟩
  case round =>
    clear H0 N0
    obtain ⟨i, now, al, q, rfl, hi1, hi2, rfl, rfl, HV, HM⟩ := hrel
    by_cases hlen2 : i < L.length
    · by_cases hk100 : i < 100
      · obtain ⟨b, o, c', hva, hb, cs, hK, hc⟩ := HL.out.at_ (by decide) i hlen2
        obtain ⟨⟨kd, ab, ac, an, ⟨ae, af⟩, abad⟩, ha⟩ : ∃ a, a = L[i] := ⟨_, rfl⟩
        rw [← ha] at hK
        obtain rfl := k122_open hK
        simp only [Value.slice.injEq] at hva
        obtain ⟨rfl, -, rfl⟩ := hva
        have hbw := HV.out.low
        have e7 : k122.sz = 7 := rfl
        rw [e7] at hc
        have d0 : wr.cell? ⟨b, o + i * 7, none⟩ = some (.int .i64 kd) := (hbw.cell (p := ⟨b, o + i * 7, none⟩) hb).trans (hc 0 _ rfl)
        have d1 : wr.cell? ⟨b, o + i * 7 + 1, none⟩ = some (.int .i64 ab) := (hbw.cell (p := ⟨b, o + i * 7 + 1, none⟩) hb).trans (hc 1 _ rfl)
        have d2 : wr.cell? ⟨b, o + i * 7 + 2, none⟩ = some (.int .i64 ac) := (hbw.cell (p := ⟨b, o + i * 7 + 2, none⟩) hb).trans (hc 2 _ rfl)
        have d3 : wr.cell? ⟨b, o + i * 7 + 3, none⟩ = some (.int .i64 an) := (hbw.cell (p := ⟨b, o + i * 7 + 3, none⟩) hb).trans (hc 3 _ rfl)
        have d4 : wr.cell? ⟨b, o + i * 7 + 4, none⟩ = some (.int .i64 ae) := (hbw.cell (p := ⟨b, o + i * 7 + 4, none⟩) hb).trans (hc 4 _ rfl)
        have d5 : wr.cell? ⟨b, o + i * 7 + 5, none⟩ = some (.int .i64 af) := (hbw.cell (p := ⟨b, o + i * 7 + 5, none⟩) hb).trans (hc 5 _ rfl)
        have d6 : wr.cell? ⟨b, o + i * 7 + 6, none⟩ = some (.bool abad) := (hbw.cell (p := ⟨b, o + i * 7 + 6, none⟩) hb).trans (hc 6 _ rfl)
        have zw := hbw.size
        obtain ⟨qA, qc, hqv, -, -⟩ := HV.out.slice
        subst hqv
        have ht := tickF_in an
        have n0 := HM.out.n0
        have n1 := HM.out.n1
        have hql := HM.out.hl
        have wt : IntKind.i64.wrap (now + tickF an) = now + tickF an := IntWalk.i64_in _ (by omega)
        have HV1 := hid (HV.out.later ((Below.refl _ _).alloc (Nat.le_refl _) (.cells #[.int .i64 kd, .int .i64 ab, .int .i64 ac, .int .i64 an, .int .i64 ae, .int .i64 af, .bool abad] 122)))
        have HBX1 := hid (show Bx (wr.alloc (.cells #[.int .i64 kd, .int .i64 ab, .int .i64 ac, .int .i64 an, .int .i64 ae, .int .i64 af, .bool abad] 122)) wr.heap.size ⟨kd, ab, ac, an, ⟨ae, af⟩, abad⟩ from heap_at _ _ _ rfl)
        clear ha hK hc hbw
        go_upto_block 2 with (go_at_call 59; go_must (with_reducible refine (ticks_any _ _ _ _ _ _ _ _).mono ?_); rintro e w2 ⟨rfl, b2⟩; have HV2 := hid (HV1.out.later b2); have HBX2 := hid (Bx.below HBX1.out b2); obtain ⟨x0, x1, x2, x3, x4, x5, x6⟩ := HBX2.out.cells; clear b2)
        clear d0 d1 d2 d3 d4 d5 d6
        go_cut [8, 12] (fun s8 s12 wx => ∃ (al' : AL) (q' : List S207), s12 = .bool true ∧ Hid (PV w wx p mb al' q' s8) ∧ Hid (Nm (i + 1) (now + tickF an) al' q'))
        case first =>
          by_cases hkd0 : kd = 0
          · subst hkd0
            have HT := hid (And.intro n0 (And.intro n1 ht))
            clear x0 x1 x2 x3 x4 x5 x6
            go_upto_region 17 with fail
            refine start_ (n := 11) (S := fun V : World => V.cell? ⟨wr.heap.size, 1, none⟩ = some (.int .i64 ab) ∧ V.cell? ⟨wr.heap.size, 2, none⟩ = some (.int .i64 ac) ∧ V.cell? ⟨wr.heap.size, 4, none⟩ = some (.int .i64 ae) ∧ V.cell? ⟨wr.heap.size, 5, none⟩ = some (.int .i64 af)) (ds := []) #[false, false, false, false, false, false, false, false, false, false, false] (by kernel_rfl) rfl rfl (Bx.c4 (Bx.below HBX2.out (below_drew_ (Below.refl _ _)))) (fun hHeld => ?_); refine with_tabW plays17.tab plays17.bits (fun HT_ HW_ => ?_)
            refine pure_ (i := 0) (N := some 57) (v := ?_) (a' := ?_) #[true, false, false, false, false, false, false, false, false, false, false] rfl rfl (any_of HT_.out (by kernel_rfl)) (fun _ _ _ h => h) (Or.inl ⟨by rfl, ?_⟩) ?_ ?_
            rotate_left
            · intro w'
              go_simp
              with_reducible rfl
            rotate_left
            · simp only [Act.put, List.setIfInBounds_toArray, List.set_cons_zero, List.set_cons_succ, i64_w, i32_w]
              rfl
            refine pure_ (i := 1) (N := some 58) (v := ?_) (a' := ?_) #[true, true, false, false, false, false, false, false, false, false, false] rfl rfl (any_of HT_.out (by kernel_rfl)) (fun _ _ _ h => h) (Or.inl ⟨by rfl, ?_⟩) ?_ ?_
            rotate_left
            · intro w'
              go_simp
              with_reducible rfl
            rotate_left
            · simp only [Act.put, List.setIfInBounds_toArray, List.set_cons_zero, List.set_cons_succ, i64_w, i32_w]
              rfl
            refine pure_ (i := 3) (N := some 60) (v := ?_) (a' := ?_) #[true, true, false, true, false, false, false, false, false, false, false] rfl rfl (any_of HT_.out (by kernel_rfl)) (fun _ _ _ h => h) (Or.inl ⟨by rfl, ?_⟩) ?_ ?_
            rotate_left
            · intro w'
              go_simp
              with_reducible rfl
            rotate_left
            · simp only [Act.put, List.setIfInBounds_toArray, List.set_cons_zero, List.set_cons_succ, i64_w, i32_w]
              rfl
            refine pure_ (i := 5) (N := some 62) (v := ?_) (a' := ?_) #[true, true, false, true, false, true, false, false, false, false, false] rfl rfl (any_of HT_.out (by kernel_rfl)) (fun _ _ _ h => h) (Or.inl ⟨by rfl, ?_⟩) ?_ ?_
            rotate_left
            · intro w'
              go_simp
              with_reducible rfl
            rotate_left
            · simp only [Act.put, List.setIfInBounds_toArray, List.set_cons_zero, List.set_cons_succ, i64_w, i32_w]
              rfl
            refine pure_ (i := 8) (N := some 65) (v := ?_) (a' := ?_) #[true, true, false, true, false, true, false, false, true, false, false] rfl rfl (any_of HT_.out (by kernel_rfl)) (fun _ _ _ h => h) (Or.inl ⟨by rfl, ?_⟩) ?_ ?_
            rotate_left
            · intro w'
              go_simp
              with_reducible rfl
            rotate_left
            · simp only [Act.put, List.setIfInBounds_toArray, List.set_cons_zero, List.set_cons_succ, i64_w, i32_w]
              rfl
            refine take_ (i := 2) (N := some 59) (v := ?_) (a' := ?_) #[true, true, true, true, false, true, false, false, true, false, false] rfl rfl (take_ofW HT_.out HW_.out (by kernel_rfl)) (fun _ _ _ h => h) (Or.inl ⟨by rfl, ?_⟩) hHeld ?_ ?_
            rotate_left
            · rintro w' ⟨s1, s2, s4, s5⟩
              go_simp
              with_reducible rfl
            rotate_left
            · simp only [Act.put, List.setIfInBounds_toArray, List.set_cons_zero, List.set_cons_succ, i64_w, i32_w]
              rfl
            refine take_ (i := 4) (N := some 61) (v := ?_) (a' := ?_) #[true, true, true, true, true, true, false, false, true, false, false] rfl rfl (take_ofW HT_.out HW_.out (by kernel_rfl)) (fun _ _ _ h => h) (Or.inl ⟨by rfl, ?_⟩) hHeld ?_ ?_
            rotate_left
            · rintro w' ⟨s1, s2, s4, s5⟩
              go_simp
              with_reducible rfl
            rotate_left
            · simp only [Act.put, List.setIfInBounds_toArray, List.set_cons_zero, List.set_cons_succ, i64_w, i32_w]
              rfl
            refine take_ (i := 6) (N := some 63) (v := ?_) (a' := ?_) #[true, true, true, true, true, true, true, false, true, false, false] rfl rfl (take_ofW HT_.out HW_.out (by kernel_rfl)) (fun _ _ _ h => h) (Or.inl ⟨by rfl, ?_⟩) hHeld ?_ ?_
            rotate_left
            · rintro w' ⟨s1, s2, s4, s5⟩
              go_simp
              with_reducible rfl
            rotate_left
            · simp only [Act.put, List.setIfInBounds_toArray, List.set_cons_zero, List.set_cons_succ, i64_w, i32_w]
              rfl
            refine one_ (i := 7) (N := some 64) #[true, true, true, true, true, true, true, true, true, false, false] rfl rfl (one_of HT_.out (by kernel_rfl)) (by decide) (fun K hK => ?_)
            refine goes_ Try.func61 (by kernel_rfl) rfl #[.agg #[.int .i64 ae, .int .i64 af]] (by rfl) rfl rfl (by (try simp only [List.map_toArray, List.map_cons, List.map_nil]); first | done | rfl) ?_
            with_reducible refine (small_any ae af _).mono ?_
            rintro r w3 ⟨rfl, bb⟩
            refine ⟨_, rfl, ?_⟩
            have HV3 := hid ((HV2.out.later (below_drew_ (Below.refl _ _))).later bb)
            have HBX3 := hid (Bx.below (Bx.below HBX2.out (below_drew_ (Below.refl _ _))) bb)
            clear bb
            refine hK.out _ _ (Bx.c4 HBX3.out) (fun hHeld => ?_)
            clear hK K
            refine norm_ (a' := ?_) ?_ ?_
            rotate_left
            · show Act.put _ (some 64) _ = _
              simp only [Act.put, List.setIfInBounds_toArray, List.set_cons_zero, List.set_cons_succ, i64_w, i32_w]
              rfl
            refine one_ (i := 9) (N := some 66) #[true, true, true, true, true, true, true, true, true, true, false] rfl rfl (one_of HT_.out (by kernel_rfl)) (by decide) (fun K hK => ?_)
            refine goes_ Try.func60 (by kernel_rfl) rfl #[.slice qA q.length qc, .int .i64 ab, .int .i64 ac, .agg #[.int .i64 (smallE ae), .int .i64 af], .int .i64 (now + tickF an)] (by rfl) rfl rfl (by (try simp only [List.map_toArray, List.map_cons, List.map_nil]); first | done | rfl) ?_
            have hc60 := HV3.out.rWatch (by omega) ab ac (smallE ae) af (now + tickF an)
            with_reducible refine hc60.mono ?_
            rintro r w4 ⟨v4, rfl, q4, bb⟩
            refine ⟨_, rfl, ?_⟩
            have HV4 := hid (HV3.out.later bb)
            have HBX4 := hid (Bx.below HBX3.out bb)
            have HQ4 := hid q4
            clear bb q4 hc60
            refine hK.out _ _ (Bx.c4 HBX4.out) (fun hHeld => ?_)
            clear hK K
            refine norm_ (a' := ?_) ?_ ?_
            rotate_left
            · show Act.put _ (some 66) _ = _
              simp only [Act.put, List.setIfInBounds_toArray, List.set_cons_zero, List.set_cons_succ, i64_w, i32_w]
              rfl
            refine pure_ (i := 10) (N := some 8) (v := ?_) (a' := ?_) #[true, true, true, true, true, true, true, true, true, true, true] rfl rfl (any_of HT_.out (by kernel_rfl)) (fun _ _ _ h => h) (Or.inl ⟨by rfl, ?_⟩) ?_ ?_
            rotate_left
            · intro w'
              go_simp
              with_reducible rfl
            rotate_left
            · simp only [Act.put, List.setIfInBounds_toArray, List.set_cons_zero, List.set_cons_succ, i64_w, i32_w]
              rfl
            refine done_ (done_of HT_.out (by kernel_rfl)) ?_
            obtain ⟨A4, c4, hv4, -, -⟩ := Rz.of_R HQ4.out
            subst hv4
            go_upto_region 18 with fail
            refine start_ (n := 10) (S := fun V : World => V.cell? ⟨wr.heap.size, 1, none⟩ = some (.int .i64 ab) ∧ V.cell? ⟨wr.heap.size, 2, none⟩ = some (.int .i64 ac) ∧ V.cell? ⟨wr.heap.size, 4, none⟩ = some (.int .i64 ae) ∧ V.cell? ⟨wr.heap.size, 5, none⟩ = some (.int .i64 af)) (ds := [9]) #[false, false, false, false, false, false, false, false, false, false] (by kernel_rfl) rfl rfl (Bx.c4 (Bx.below HBX4.out (below_drew_ (Below.refl _ _)))) (fun hHeld => ?_); refine with_tabW plays18.tab plays18.bits (fun HT_ HW_ => ?_)
            refine pure_ (i := 0) (N := some 67) (v := ?_) (a' := ?_) #[true, false, false, false, false, false, false, false, false, false] rfl rfl (any_of HT_.out (by kernel_rfl)) (fun _ _ _ h => h) (Or.inl ⟨by rfl, ?_⟩) ?_ ?_
            rotate_left
            · intro w'
              go_simp
              with_reducible rfl
            rotate_left
            · simp only [Act.put, List.setIfInBounds_toArray, List.set_cons_zero, List.set_cons_succ, i64_w, i32_w]
              rfl
            refine pure_ (i := 1) (N := some 68) (v := ?_) (a' := ?_) #[true, true, false, false, false, false, false, false, false, false] rfl rfl (any_of HT_.out (by kernel_rfl)) (fun _ _ _ h => h) (Or.inl ⟨by rfl, ?_⟩) ?_ ?_
            rotate_left
            · intro w'
              go_simp
              with_reducible rfl
            rotate_left
            · simp only [Act.put, List.setIfInBounds_toArray, List.set_cons_zero, List.set_cons_succ, i64_w, i32_w]
              rfl
            refine pure_ (i := 3) (N := some 70) (v := ?_) (a' := ?_) #[true, true, false, true, false, false, false, false, false, false] rfl rfl (any_of HT_.out (by kernel_rfl)) (fun _ _ _ h => h) (Or.inl ⟨by rfl, ?_⟩) ?_ ?_
            rotate_left
            · intro w'
              go_simp
              with_reducible rfl
            rotate_left
            · simp only [Act.put, List.setIfInBounds_toArray, List.set_cons_zero, List.set_cons_succ, i64_w, i32_w]
              rfl
            refine pure_ (i := 5) (N := some 72) (v := ?_) (a' := ?_) #[true, true, false, true, false, true, false, false, false, false] rfl rfl (any_of HT_.out (by kernel_rfl)) (fun _ _ _ h => h) (Or.inl ⟨by rfl, ?_⟩) ?_ ?_
            rotate_left
            · intro w'
              go_simp
              with_reducible rfl
            rotate_left
            · simp only [Act.put, List.setIfInBounds_toArray, List.set_cons_zero, List.set_cons_succ, i64_w, i32_w]
              rfl
            refine pure_ (i := 8) (N := some 75) (v := ?_) (a' := ?_) #[true, true, false, true, false, true, false, false, true, false] rfl rfl (any_of HT_.out (by kernel_rfl)) (fun _ _ _ h => h) (Or.inl ⟨by rfl, ?_⟩) ?_ ?_
            rotate_left
            · intro w'
              go_simp
              with_reducible rfl
            rotate_left
            · simp only [Act.put, List.setIfInBounds_toArray, List.set_cons_zero, List.set_cons_succ, i64_w, i32_w]
              rfl
            refine take_ (i := 2) (N := some 69) (v := ?_) (a' := ?_) #[true, true, true, true, false, true, false, false, true, false] rfl rfl (take_ofW HT_.out HW_.out (by kernel_rfl)) (fun _ _ _ h => h) (Or.inl ⟨by rfl, ?_⟩) hHeld ?_ ?_
            rotate_left
            · rintro w' ⟨s1, s2, s4, s5⟩
              go_simp
              with_reducible rfl
            rotate_left
            · simp only [Act.put, List.setIfInBounds_toArray, List.set_cons_zero, List.set_cons_succ, i64_w, i32_w]
              rfl
            refine take_ (i := 4) (N := some 71) (v := ?_) (a' := ?_) #[true, true, true, true, true, true, false, false, true, false] rfl rfl (take_ofW HT_.out HW_.out (by kernel_rfl)) (fun _ _ _ h => h) (Or.inl ⟨by rfl, ?_⟩) hHeld ?_ ?_
            rotate_left
            · rintro w' ⟨s1, s2, s4, s5⟩
              go_simp
              with_reducible rfl
            rotate_left
            · simp only [Act.put, List.setIfInBounds_toArray, List.set_cons_zero, List.set_cons_succ, i64_w, i32_w]
              rfl
            refine take_ (i := 6) (N := some 73) (v := ?_) (a' := ?_) #[true, true, true, true, true, true, true, false, true, false] rfl rfl (take_ofW HT_.out HW_.out (by kernel_rfl)) (fun _ _ _ h => h) (Or.inl ⟨by rfl, ?_⟩) hHeld ?_ ?_
            rotate_left
            · rintro w' ⟨s1, s2, s4, s5⟩
              go_simp
              with_reducible rfl
            rotate_left
            · simp only [Act.put, List.setIfInBounds_toArray, List.set_cons_zero, List.set_cons_succ, i64_w, i32_w]
              rfl
            refine one_ (i := 7) (N := some 74) #[true, true, true, true, true, true, true, true, true, false] rfl rfl (one_of HT_.out (by kernel_rfl)) (by decide) (fun K hK => ?_)
            refine goes_ Try.func61 (by kernel_rfl) rfl #[.agg #[.int .i64 ae, .int .i64 af]] (by rfl) rfl rfl (by (try simp only [List.map_toArray, List.map_cons, List.map_nil]); first | done | rfl) ?_
            with_reducible refine (small_any ae af _).mono ?_
            rintro r w5 ⟨rfl, bb⟩
            refine ⟨_, rfl, ?_⟩
            have HV5 := hid ((HV4.out.later (below_drew_ (Below.refl _ _))).later bb)
            have HQ5 := hid (Kd.R_below (Kd.R_below HQ4.out (below_drew_ (Below.refl _ _))) bb)
            have HBX5 := hid (Bx.below (Bx.below HBX4.out (below_drew_ (Below.refl _ _))) bb)
            clear bb
            refine hK.out _ _ (Bx.c4 HBX5.out) (fun hHeld => ?_)
            clear hK K
            refine norm_ (a' := ?_) ?_ ?_
            rotate_left
            · show Act.put _ (some 74) _ = _
              simp only [Act.put, List.setIfInBounds_toArray, List.set_cons_zero, List.set_cons_succ, i64_w, i32_w]
              rfl
            refine last_ (i := 9) (N := some 76) #[true, true, true, true, true, true, true, true, true, true] rfl rfl (one_of HT_.out (by kernel_rfl)) (by decide) (fun K hK => ?_)
            refine goes_ Try.func62 (by kernel_rfl) rfl #[.pointer (some ⟨p, 0, none⟩), .int .i64 ab, .int .i64 ac, .agg #[.int .i64 (smallE ae), .int .i64 af], .int .i64 (now + tickF an)] (by rfl) rfl rfl (by (try simp only [List.map_toArray, List.map_cons, List.map_nil]); first | done | rfl) ?_
            have hc62 := watch_any HV5.out.bk ab ac (smallE ae) af (now + tickF an) (by omega) (smallE_in ae)
            with_reducible refine hc62.mono ?_
            rintro r w6 ⟨rfl, b6, k6⟩
            refine ⟨_, rfl, ?_⟩
            have HV6 := hid (HV5.out.step HQ5.out k6 b6 (watch_same ab ac (smallE ae) af (now + tickF an) (by have := smallE_in ae; unfold wrap64; omega) HV5.out.pm HV5.out.bk.nd HV5.out.st).1 (watch_same ab ac (smallE ae) af (now + tickF an) (by have := smallE_in ae; unfold wrap64; omega) HV5.out.pm HV5.out.bk.nd HV5.out.st).2)
            clear b6 k6 hc62
            refine hK.out _ _ ?_
            clear hK K
            refine norm_ (a' := ?_) ?_ ?_
            rotate_left
            · show Act.put _ (some 76) _ = _
              simp only [Act.put, List.setIfInBounds_toArray, List.set_cons_zero, List.set_cons_succ, i64_w, i32_w]
              rfl
            refine done_ (done_of HT_.out (by kernel_rfl)) ?_
            go_wp2
            go_meet
            exact ⟨_, _, rfl, HV6, hid ⟨watch_goods _ _ _ _ _ (smallE_in ae) HV5.out.bk.nd HM.out.hg, by have := watch_len ab ac (smallE ae) af (now + tickF an) q; omega, by omega, by omega⟩⟩
          · by_cases hkd1 : kd = 1
            · subst hkd1
              obtain ⟨sb, hsb⟩ : ∃ sb, sb = askB (ab, ac) abad (now + tickF an) al := ⟨_, rfl⟩
              have hc63 := HV2.out.rAsk (by omega) ab ac abad (now + tickF an) HM.out.hg (by omega) (by omega)
              rw [← hsb] at hc63
              have H63 := hid hc63
              have HSB := hid hsb
              have HG := hid (ask_goods ab ac abad (now + tickF an) HM.out.hg (by omega) (by omega))
              clear hc63 hsb
              cases sb
              all_goals go_wp2_with (first
                | (go_at_call 63
                   go_must (with_reducible refine H63.out.mono ?_)
                   rintro e w3 ⟨v3, q3, rfl, ql3, bk3, lo3, bx3, pm3, st3⟩
                   have HBX3 := hid (bx3 _ _ HBX2.out)
                   obtain ⟨y0, y1, y2, y3, y4, y5, y6⟩ := HBX3.out.cells
                   have hc64 := ask_any bk3 ab ac abad (now + tickF an) (by omega) (fun r hr => by have := HM.out.hg r hr; unfold SmallS; omega)
                   rw [← HSB.out] at hc64
                   have H64 := hid hc64
                   have HQ3 := hid ql3
                   have HB3 := hid bk3
                   have HL3 := hid lo3
                   have HP3 := hid pm3
                   have HS3 := hid st3
                   clear ql3 bk3 lo3 bx3 pm3 st3 hc64)
                | (go_at_call 64
                   go_must (with_reducible refine H64.out.mono ?_)
                   rintro e w4 ⟨rfl, b4, k4⟩
                   have HV4 : Hid (PV w w4 p mb _ q3 v3) := hid ⟨HL3.out.trans (k4.below HL3.out.size (fun i hi => by rw [hi]; exact HV2.out.hm)), HV2.out.hp, HV2.out.hm, b4, ql_keeps HQ3.out HB3.out k4, HP3.out, HS3.out⟩
                   clear b4 k4))
              all_goals go_meet
              all_goals exact ⟨_, _, rfl, HV4, hid ⟨HG.out, by have := HV4.out.len; have h2 := ask_len (ab) ac abad (now + tickF an) al; have h3 := HV2.out.len; omega, by omega, by omega⟩⟩
            · by_cases hkd2 : kd = 2
              · subst hkd2
                have hc65 := HV2.out.rWithout (by omega) ab ac false
                have hds := HV2.out.dropSame ab ac
                have hfl := List.length_filter_le (keepW ab ac false) q
                obtain ⟨q3, hq3⟩ : ∃ q3, q3 = q.filter (keepW ab ac false) := ⟨_, rfl⟩
                rw [← hq3] at hc65 hds hfl
                have H65 := hid hc65
                have HQ3e := hid hq3
                have HDS := hid hds
                clear hc65 hq3 hds
                go_wp2_with (first
                  | (go_at_call 65
                     go_must (with_reducible refine H65.out.mono ?_)
                     rintro e w3 ⟨v3, rfl, ql3, b3⟩
                     have HV3 := hid (HV2.out.later b3)
                     have HBX3 := hid (Bx.below HBX2.out b3)
                     obtain ⟨y0, y1, y2, y3, y4, y5, y6⟩ := HBX3.out.cells
                     have hc66 := drop_any HV3.out.bk ab ac
                     rw [HDS.out] at hc66
                     have H66 := hid hc66
                     have HQ3 := hid ql3
                     obtain ⟨A3, c3, hv3, -, -⟩ := Rz.of_R ql3
                     subst hv3
                     clear b3 ql3 hc66)
                  | (go_at_call 66
                     go_must (with_reducible refine H66.out.mono ?_)
                     rintro e w4 ⟨rfl, b4, k4⟩
                     have HV4 := hid (HV3.out.step HQ3.out k4 b4 (by rw [HQ3e.out]; exact without_same ab ac HV3.out.pm HV3.out.bk.nd) (by rw [HQ3e.out]; exact HV3.out.st.filter _))
                     clear b4 k4))
                go_meet
                exact ⟨_, _, rfl, HV4, hid ⟨adel_goods _ HV2.out.bk.nd HM.out.hg, by omega, by omega, by omega⟩⟩
              · have hc65 := HV2.out.rWithout (by omega) ab 0 true
                have hds := HV2.out.goneSame ab
                have hfl := List.length_filter_le (keepW ab 0 true) q
                obtain ⟨q3, hq3⟩ : ∃ q3, q3 = q.filter (keepW ab 0 true) := ⟨_, rfl⟩
                rw [← hq3] at hc65 hds hfl
                have H65 := hid hc65
                have HQ3e := hid hq3
                have HDS := hid hds
                have wsub : IntKind.i64.wrap ((q.length : Int) - (q3.length : Int)) = (q.length : Int) - (q3.length : Int) := IntWalk.i64_in _ (by omega)
                clear hc65 hq3 hds
                go_wp2_with (first
                  | (go_at_call 65
                     go_must (with_reducible refine H65.out.mono ?_)
                     rintro e w3 ⟨v3, rfl, ql3, b3⟩
                     have HV3 := hid (HV2.out.later b3)
                     have HBX3 := hid (Bx.below HBX2.out b3)
                     obtain ⟨y0, y1, y2, y3, y4, y5, y6⟩ := HBX3.out.cells
                     have hc66 := gone_any HV3.out.bk ab (by have := HV3.out.len; omega)
                     rw [HDS.out] at hc66
                     have H66 := hid hc66
                     have HQ3 := hid ql3
                     obtain ⟨A3, c3, hv3, -, -⟩ := Rz.of_R ql3
                     subst hv3
                     clear b3 ql3 hc66)
                  | (go_at_call 67
                     go_must (with_reducible refine H66.out.mono ?_)
                     rintro e w4 ⟨rfl, b4, k4⟩
                     have HV4 := hid (HV3.out.step HQ3.out k4 b4 (by rw [HQ3e.out]; exact gone_same ab 0 HV3.out.pm) (by rw [HQ3e.out]; exact HV3.out.st.filter _))
                     clear b4 k4))
                go_meet
                exact ⟨_, _, rfl, HV4, hid ⟨filter_goods _ HM.out.hg, by omega, by omega, by omega⟩⟩
        case rest =>
          clear HV HV1 HV2 HBX1 HBX2 x0 x1 x2 x3 x4 x5 x6
          obtain ⟨al', q', rfl, HV3, HM3⟩ := hcut
          obtain ⟨A3, c3, hv3, -, -⟩ := HV3.out.slice
          subst hv3
          have hl3 := HM3.out.hl
          have n3 := HM3.out.n0
          obtain ⟨now', hnow⟩ : ∃ n, n = now + tickF an := ⟨_, rfl⟩
          rw [← hnow] at HM3 n3 ⊢
          obtain ⟨ix, hix⟩ : ∃ ix, ix = idxF bx cx q' 0 := ⟨_, rfl⟩
          obtain ⟨sb, hsb⟩ : ∃ sb, sb = sickB ((aget (bx, cx) al').getD (0, 0, 0, 0)) := ⟨_, rfl⟩
          obtain ⟨nx, hnx⟩ : ∃ nx, nx = nextS now' 0 q' := ⟨_, rfl⟩
          obtain ⟨du, hdu⟩ : ∃ du, du = dueS now' q' := ⟨_, rfl⟩
          obtain ⟨hb, hhb⟩ : ∃ hb, hb = decide (0 ≤ ix) := ⟨_, rfl⟩
          have hdl : du.length ≤ 1000000 := by rw [hdu]; have := dueS_le now' q'; omega
          have HIX := hid hix
          have HSB := hid hsb
          have HNX := hid hnx
          have HDU := hid hdu
          have HHB := hid hhb
          clear hnow hix hsb hnx hdu hhb wt
          have hge : decide (ix ≥ 0) = hb := HHB.out.symm
          go_wp2_with (first
            | (go_at_call 68
               go_must (with_reducible refine HV3.out.pLen.mono ?_)
               rintro e w4 ⟨rfl, rfl⟩
               have H69 := hid (HV3.out.pHas bx cx)
               rw [← HIX.out, ← HHB.out] at H69)
            | (go_at_call 69
               go_must (with_reducible refine H69.out.mono ?_)
               rintro e w5 ⟨rfl, b5⟩
               have HV5 := hid (HV3.out.later b5)
               have H70 := hid (HV5.out.rIndex (by omega) bx cx)
               rw [← HIX.out] at H70
               clear b5)
            | (go_at_call 70
               go_must (with_reducible refine H70.out.mono ?_)
               rintro e w6 ⟨rfl, b6⟩
               have HV6 := hid (HV5.out.later b6)
               have H71 := hid (isSick_any HV6.out.bk bx cx)
               rw [← HSB.out] at H71
               clear b6)
            | (go_at_call 71
               go_must (with_reducible refine H71.out.mono ?_)
               rintro e w7 ⟨rfl, b7⟩
               have HV7 := hid (HV6.out.later b7)
               have H72 := hid (HV7.out.rSick (by omega) HM3.out.hg bx cx)
               rw [← HSB.out] at H72
               clear b7)
            | (go_at_call 72
               go_must (with_reducible refine H72.out.mono ?_)
               rintro e w8 ⟨rfl, b8⟩
               have HV8 := hid (HV7.out.later b8)
               have H73 := hid (HV8.out.pNext now' n3)
               rw [← HNX.out] at H73
               clear b8)
            | (go_at_call 73
               go_must (with_reducible refine H73.out.mono ?_)
               rintro e w9 ⟨rfl, b9⟩
               have HV9 := hid (HV8.out.later b9)
               have H74 := hid (HV9.out.rNext (by omega) now')
               rw [← HNX.out] at H74
               clear b9)
            | (go_at_call 74
               go_must (with_reducible refine H74.out.mono ?_)
               rintro e w10 ⟨rfl, b10⟩
               have HV10 := hid (HV9.out.later b10)
               have H76 := hid (HV10.out.pDue (by omega) now')
               rw [← HDU.out] at H76
               clear b10)
            | (go_at_call 76
               go_must (with_reducible refine H76.out.mono ?_)
               rintro e w11 ⟨⟨A11, c11, rfl, D11⟩, b11⟩
               have HV11 := hid (HV10.out.later b11)
               have HD11 := hid D11
               have H77 := hid (HV11.out.rDue (by omega) now')
               rw [← HDU.out] at H77
               clear b11 D11)
            | (go_at_call 77
               go_must (with_reducible refine H77.out.mono ?_)
               rintro e w12 ⟨⟨A12, c12, rfl, D12⟩, b12⟩
               have HV12 := hid (HV11.out.later b12)
               have H75 := hid (dueEq_any (c := c11) (d := c12) (HD11.out.below b12) D12 hdl hdl)
               rw [show decide (du = du) = true from decide_eq_true rfl] at H75
               clear b12 D12)
            | (go_at_call 75
               go_must (with_reducible refine H75.out.mono ?_)
               rintro e w13 ⟨rfl, b13⟩
               have HV13 := hid (HV12.out.later b13)
               clear b13))
          go_roundg (100 - (i + 1))
          case measure => omega
          case rel => exact ⟨i + 1, now', al', q', rfl, by omega, by omega, rfl, by go_num, HV13, HM3⟩
      · obtain ⟨qA, qc, hqv, -, -⟩ := HV.out.slice
        subst hqv
        have HVE := HV
        go_wp2_with (first
          | (go_at_call 68
             go_must (with_reducible refine HVE.out.pLen.mono ?_)
             rintro e w5 ⟨rfl, rfl⟩
             skip)
          | (go_at_call 78
             go_must (with_reducible refine (works_any _).mono ?_)
             rintro e w6 ⟨rfl, b6⟩
             have HVF := hid (HVE.out.later b6)
             clear b6))
        go_ret
        exact ⟨rfl, HVF.out.low⟩
    · obtain ⟨qA, qc, hqv, -, -⟩ := HV.out.slice
      subst hqv
      have HVE := HV
      go_wp2_with (first
        | (go_at_call 68
           go_must (with_reducible refine HVE.out.pLen.mono ?_)
           rintro e w5 ⟨rfl, rfl⟩
           skip)
        | (go_at_call 78
           go_must (with_reducible refine (works_any _).mono ?_)
           rintro e w6 ⟨rfl, b6⟩
           have HVF := hid (HVE.out.later b6)
           clear b6))
      go_ret
      exact ⟨rfl, HVF.out.low⟩
end Go.Proofs.Ytnceglkoolfncaa.Pr
