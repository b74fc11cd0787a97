/- The law of chapter 18: ImgKeeps, walked. -/
import Derived.Test.YtmgcapccgncmkaaDoorIv
set_option linter.unusedSimpArgs false
set_option linter.unusedVariables false
namespace Go.Proofs.YtmgcapccgncmkaaDoor.Im
open Go.RowKit Go.Pv Go.Proofs.YtmgcapccgncmkaaDoor.Tx Go.Proofs.YtmgcapccgncmkaaDoorW.PrintWords Go.Proofs.YtmgcapccgncmkaaDoorW.PrintLast Go.Proofs.YtmgcapccgncmkaaDoorW.PrintMore Go.Proofs.YtmgcapccgncmkaaDoor.PImgKeeps
def img13.T : Bool × List (List Nat × List Nat) := (true, [([], []), ([], []), ([], []), ([], []), ([2, 3], [2, 3]), ([4], [4]), ([0, 1, 5], [0, 1, 5]), ([6], [6]), ([7], [7]), ([7], [7]), ([], []), ([10, 8, 6, 0, 1, 2, 3, 4, 5, 6, 7, 8, 10], [8, 10]), ([9, 11, 0, 1, 2, 3, 4, 5, 6, 7, 8, 9, 10, 11], [9])])
def img13.B : List Nat := [0, 0, 0, 0, 12, 28, 63, 127, 255, 255, 0, 1535, 4095]
theorem img13.tab : rtab .any (opsOf Tryd.f6 13) = img13.T := by kernel_rfl
theorem img13.bits : waitsOk img13.T.2 img13.B = true := by kernel_rfl

theorem allocA_ {P : Program} {ops : Array Oper} {Q : Exit → Act → World → Prop} {oi : Oper} {N : Option Tmp} {a : Act} {w : World} {K : Act → World → Prop} {ob : Obj} (hw : Region.wanted oi (yielded ops a.tmps) = true) (hN : oi.dst = N) (hrun : (execOp a.eval oi).run P w = .ok (.value (.pointer (some ⟨w.heap.size, 0, none⟩))) (w.alloc ob))
    (h : ∀ (g : Nat) (w' : World), g = w.heap.size → w' = w.alloc ob → K (a.put N (.pointer (some ⟨g, 0, none⟩))) w') : if Region.wanted oi (yielded ops a.tmps) = true then Oper.wp P oi a w K Q else K (a.put N undef) w :=
  value_ hw hN hrun (h _ _ rfl rfl)
/-- Behind the act, ahead of its store. -/
structure DJ (w W : World) (p mb g6 n : Nat) (al : IL) (tick : Int) (v0 : Value) (now0 : Int) (v : Value) (g9 : Nat) : Prop where
  j : ∃ r, LJ w W p mb g6 n al tick v0 now0 v r (fun i => i = g9)
  k9 : W.heap[g9]? = some (.cells #[.slice none 0 0, .int .i64 0] 60 (0, 0))
theorem LJ.put9 {w W : World} {p mb g6 n : Nat} {al : IL} {tick now0 : Int} {v0 v : Value} {lq : List S136} {g9 : Nat} (h : LJ w W p mb g6 n al tick v0 now0 v lq (fun i => i = g9)) (x y : Value) : LJ w ((W.setCell ⟨g9, 0, none⟩ x).setCell ⟨g9, 1, none⟩ y) p mb g6 n al tick v0 now0 v lq (fun i => i = g9) := by
  have hk : Keeps (fun i => i = g9) W ((W.setCell ⟨g9, 0, none⟩ x).setCell ⟨g9, 1, none⟩ y) := ((Keeps.refl (fun i => i = g9) W).setCell ⟨g9, 0, none⟩ _ (.inl rfl)).setCell ⟨g9, 1, none⟩ _ (.inl rfl)
  have he := h.e g9 rfl
  have hg6 : g6 < W.heap.size := (Array.getElem?_eq_some_iff.1 h.k6).1
  exact ⟨put2_below h.low he.2.2.2.1, h.bk.kept hk (fun e => he.2.1 e.symm) (fun e => he.2.2.1 e.symm), h.gi, (hk.block g6 hg6 (fun e => he.2.2.2.2 e.symm)).trans h.k6, put2_R h.q (fun k hk => hk.2.2.2.2), h.ll, h.ge, fun k hk2 => by have := h.e k hk2; have hs := hk.size; exact ⟨by omega, this.2⟩⟩
theorem users_b {w : World} {p mb : Nat} {al : IL} {tick : Int} (h : IBk w p mb al tick) (k : ByteArray) :
    Calls Tryd.prog 28 #[.pointer (some ⟨p, 0, none⟩), .string k] w fun e w' => e = .returned (.int .i64 (getI k al).2.1) ∧ Below w.heap.size w w' :=
  (users_any h k).mono (fun e w' ⟨h1, h2⟩ => ⟨h1, by rw [h2]; exact Below.refl _ w⟩)
set_option maxRecDepth 10000 in
set_option maxHeartbeats 4000000 in
theorem imgLaw {w : World} {A : Option Addr} {c : Nat} {l : List (Int × ByteArray)} {name : ByteArray} (hC : Kd.C kA w A l.length l) (hG : Gm w) :
    Calls Tryd.prog 6 #[.slice A l.length c, .string name] w fun e w' => e = .returned (.bool true) ∧ Below w.heap.size w w' := by
  have HW := hid (works_any hG)
  have HG := hid hG
  have HN := hid new_any
  have HC := hid hC
  clear hC hG
  by_cases hs : name.size ≤ 100
  · have b0 : decide ((name.size : Int) > 100) = false := decide_eq_false (by omega)
    have b0' : ¬ (name.size : Int) > 100 := by omega
    have HS := hid hs
    clear hs
    go_enter Tryd.func6, Tryd.ntmps6
    go_upto_region 7 with (first
      | (go_at_call 26; go_must (with_reducible refine HW.out.mono ?_); rintro e w1 ⟨rfl, hb⟩; have HB1 := hid hb; clear hb)
      | (go_at_call 27; go_must (with_reducible refine (HN.out _).mono ?_); rintro e w2 ⟨rfl, hI, hb⟩; have HI2 := hid hI; have HB2 := hid hb; clear hI hb))
    obtain ⟨W3, hW3⟩ : ∃ W3, W3 = w2.alloc (.cells #[.slice none 0 0, .int .i64 0] 60) := ⟨_, rfl⟩
    obtain ⟨p, hp⟩ : ∃ p, p = w1.heap.size + 1 := ⟨_, rfl⟩
    obtain ⟨mb, hmb⟩ : ∃ mb, mb = w1.heap.size := ⟨_, rfl⟩
    obtain ⟨g6, hg6⟩ : ∃ g6, g6 = w2.heap.size := ⟨_, rfl⟩
    rw [← hp, ← hmb] at HI2
    have hb3 : Below w2.heap.size w2 W3 := by rw [hW3]; exact (Below.refl _ w2).alloc (Nat.le_refl _) _
    have hlt := HI2.out.lt
    have hs1 := HB1.out.size
    have HL0 := hid (show LJ w W3 p mb g6 0 [] 0 (.slice none 0 0) 0 (.slice none 0 0) [] (fun _ => False) from
      ⟨(HB1.out.trans (HB2.out.mono HB1.out.size)).trans (hb3.mono (Nat.le_trans HB1.out.size HB2.out.size)), HI2.out.below hb3, ⟨⟨by simp, by simp⟩, by omega, by simp, fun k => by unfold Rg getI aget; simp⟩, by rw [hW3, hg6]; exact heap_alloc_new _ _, Kd.R_nil _ _ _ _ _, by simp, by omega, fun k hk => hk.elim⟩)
    rw [← hp, ← hg6, ← hW3]
    clear hW3 hp hmb hg6 hb3 hlt hs1 HI2 HB2 HB1
    go_wp2_with fail
    go_loopg [7] 60 (fun q s7 wr => ∃ (i : Nat) (al : IL) (tick now : Int) (v : Value) (lq : List S136), s7 = .int .i64 (i : Int) ∧ q = 60 - i ∧ i ≤ 60 ∧ i ≤ l.length ∧ Hid (LJ w wr p mb g6 i al tick v now v lq (fun _ => False)))
    case atStart => exact ⟨0, [], 0, 0, _, [], rfl, by omega, by omega, by omega, HL0⟩
    case round =>
      clear HL0
      obtain ⟨i, al, tick, now, v, lq, rfl, rfl, hi6, hil, HL⟩ := hrel
      have hwi : IntKind.i64.wrap ((i : Int) + 1) = ((i + 1 : Nat) : Int) := by rw [IntWalk.i64_in _ (by omega)]; omega
      by_cases hlt : i < l.length
      · by_cases h60 : i < 60
        · obtain ⟨ad, hA, d0, d1⟩ := kA_at HC.out rfl i hlt
          subst hA
          have hadb := World.block_lt_of_cell? _ _ d1
          have HA0 := hid (fun V (hV : Below w.heap.size w V) => And.intro ((hV.cell (p := ad.add (i * 2)) hadb).trans d0) ((hV.cell (p := ⟨(ad.add (i * 2)).block, (ad.add (i * 2)).off + 1, none⟩) hadb).trans d1))
          clear d0 d1 hadb
          generalize l[i] = act at HA0
          obtain ⟨kd, s⟩ := act
          simp only at HA0
          obtain ⟨e0, e1⟩ := HA0.out wr HL.out.low
          by_cases hsz : s.size ≤ 100
          · have b1 : decide ((s.size : Int) > 100) = false := decide_eq_false (by omega)
            have b1' : ¬ (s.size : Int) > 100 := by omega
            have HSZ := hid hsz
            clear hsz
            have HU := hid (users_b HL.out.bk name)
            obtain ⟨u, hu⟩ : ∃ u, u = (getI name al).2.1 := ⟨_, rfl⟩
            rw [← hu] at HU
            have HUE := hid hu
            clear hu
            go_upto_region 13 with (go_at_call 28; go_must (with_reducible refine HU.out.mono ?_); rintro e w3 ⟨rfl, hb⟩; have HL3 := hid (HL.out.later hb); clear hb)
            have HD := hid (HL3.out.later (Below.refl _ w3).drew)
            obtain ⟨Wd, hWd⟩ : ∃ Wd, Wd = w3.drew := ⟨_, rfl⟩
            have HWd := hid hWd
            rw [← hWd] at HD
            clear hWd e0 e1
            have HS0 := hid (fun V (hV : Below w.heap.size w V) (h6 : V.heap[g6]? = some (.cells #[v, .int .i64 now] 60 (0, 0))) => show (fun V : World => V.cell? ⟨g6, 0, none⟩ = some v ∧ V.cell? ⟨g6, 1, none⟩ = some (.int .i64 now) ∧ V.cell? (ad.add (i * 2)) = some (.int .i64 kd) ∧ V.cell? ⟨(ad.add (i * 2)).block, (ad.add (i * 2)).off + 1, none⟩ = some (.string s)) V from ⟨(cells2 h6).1, (cells2 h6).2.1, (HA0.out V hV).1, (HA0.out V hV).2⟩)
            have HAL := hid (fun (h : i ≤ 60) => h)
            generalize hal2 : actA kd s tick al = al2
            generalize hT2 : actT kd tick = T2
            have HAL2 := hid hal2
            have HT2 := hid hT2
            have HDO := hid (fun (W : World) (E : Nat → Prop) (h : LJ w W p mb g6 i al tick v now v lq E) => by have := h.does (now := now) (kind := kd) HSZ.out hi6 HG.out; rwa [hal2, hT2] at this)
            clear hal2 hT2
            refine start_ (n := 13) (S := fun V : World => V.cell? ⟨g6, 0, none⟩ = some v ∧ V.cell? ⟨g6, 1, none⟩ = some (.int .i64 now) ∧ V.cell? (ad.add (i * 2)) = some (.int .i64 kd) ∧ V.cell? ⟨(ad.add (i * 2)).block, (ad.add (i * 2)).off + 1, none⟩ = some (.string s)) (ds := [11]) #[false, false, false, false, false, false, false, false, false, false, false, false, false] (by kernel_rfl) rfl rfl (by rw [← HWd.out]; exact HS0.out Wd HD.out.low HD.out.k6) (fun hHeld => ?_); refine with_tabW img13.tab img13.bits (fun HT_ HW_ => ?_)
            rw [← HWd.out] at hHeld ⊢
            refine pure_ (i := 0) (N := some 47) (v := ?_) (a' := ?_) #[true, false, false, false, false, false, false, false, false, false, false, false, false] rfl rfl (any_of HT_.out (by kernel_rfl)) (fun _ _ _ h => h) (Or.inl ⟨by rfl, ?_⟩) ?_ ?_
            rotate_left
            · intro w'
              go_simp
              with_reducible rfl
            rotate_left
            · simp only [Act.put, List.setIfInBounds_toArray, List.set_cons_zero, List.set_cons_succ, i64_w, i32_w]
              rfl
            refine pure_ (i := 2) (N := some 49) (v := ?_) (a' := ?_) #[true, false, true, false, false, false, false, false, false, false, false, false, false] rfl rfl (any_of HT_.out (by kernel_rfl)) (fun _ _ _ h => h) (Or.inl ⟨by rfl, ?_⟩) ?_ ?_
            rotate_left
            · intro w'
              go_simp
              with_reducible rfl
            rotate_left
            · simp only [Act.put, List.setIfInBounds_toArray, List.set_cons_zero, List.set_cons_succ, i64_w, i32_w]
              rfl
            refine pure_ (i := 3) (N := some 50) (v := ?_) (a' := ?_) #[true, false, true, true, false, false, false, false, false, false, false, false, false] rfl rfl (any_of HT_.out (by kernel_rfl)) (fun _ _ _ h => h) (Or.inl ⟨by rfl, ?_⟩) ?_ ?_
            rotate_left
            · intro w'
              go_simp
              with_reducible rfl
            rotate_left
            · simp only [Act.put, List.setIfInBounds_toArray, List.set_cons_zero, List.set_cons_succ, i64_w, i32_w]
              rfl
            refine pure_ (i := 4) (N := some 51) (v := ?_) (a' := ?_) #[true, false, true, true, true, false, false, false, false, false, false, false, false] rfl rfl (any_of HT_.out (by kernel_rfl)) (fun _ _ _ h => h) (Or.inl ⟨by rfl, ?_⟩) ?_ ?_
            rotate_left
            · intro w'
              go_simp
              with_reducible rfl
            rotate_left
            · simp only [Act.put, List.setIfInBounds_toArray, List.set_cons_zero, List.set_cons_succ, i64_w, i32_w]
              rfl
            refine take_ (i := 1) (N := some 48) (v := ?_) (a' := ?_) #[true, true, true, true, true, false, false, false, false, false, false, false, false] rfl rfl (take_ofW HT_.out HW_.out (by kernel_rfl)) (fun _ _ _ h => h) (Or.inl ⟨by rfl, ?_⟩) hHeld ?_ ?_
            rotate_left
            · rintro w' ⟨s0, s1, s2, s3⟩
              go_simp
              with_reducible rfl
            rotate_left
            · simp only [Act.put, List.setIfInBounds_toArray, List.set_cons_zero, List.set_cons_succ, i64_w, i32_w]
              rfl
            refine take_ (i := 5) (N := some 52) (v := ?_) (a' := ?_) #[true, true, true, true, true, true, false, false, false, false, false, false, false] rfl rfl (take_ofW HT_.out HW_.out (by kernel_rfl)) (fun _ _ _ h => h) (Or.inl ⟨by rfl, ?_⟩) hHeld ?_ ?_
            rotate_left
            · rintro w' ⟨s0, s1, s2, s3⟩
              go_simp
              with_reducible rfl
            rotate_left
            · simp only [Act.put, List.setIfInBounds_toArray, List.set_cons_zero, List.set_cons_succ, i64_w, i32_w]
              rfl
            refine join_ (σ := Value × Int × Value × Nat) 2 #[true, true, true, true, true, true, true, true, true, true, true, false, false] (fun s_ => [(53, .tuple #[.agg #[s_.1, .int .i64 s_.2.1], s_.2.2.1]), (46, .tuple #[.agg #[s_.1, .int .i64 s_.2.1], s_.2.2.1]), (54, .agg #[s_.1, .int .i64 s_.2.1]), (55, s_.2.2.1), (9, .pointer (some ⟨s_.2.2.2, 0, none⟩))]) (fun s_ w' => (fun V : World => V.cell? ⟨g6, 0, none⟩ = some v ∧ V.cell? ⟨g6, 1, none⟩ = some (.int .i64 now) ∧ V.cell? (ad.add (i * 2)) = some (.int .i64 kd) ∧ V.cell? ⟨(ad.add (i * 2)).block, (ad.add (i * 2)).off + 1, none⟩ = some (.string s)) w' ∧ DJ w w' p mb g6 (i + 1) al2 T2 v now s_.1 s_.2.2.2) ?_ ?_
            rotate_left
            · intro hCont
              refine two_ (i := 6) (j := 10) (Ni := some 53) (Nj := some 9) #[true, true, true, true, true, true, true, false, false, false, false, false, false] #[true, true, true, true, true, true, false, false, false, false, true, false, false] rfl rfl rfl rfl (two_of HT_.out (by kernel_rfl)) (by decide) (by decide) (fun K hK => ?_) (fun K hK => ?_)
              · skip
                refine goes_ Tryd.func29 (by kernel_rfl) rfl #[.pointer (some ⟨p, 0, none⟩), .agg #[v, .int .i64 now], .agg #[.int .i64 kd, .string s]] (by rfl) rfl rfl (by (try simp only [List.map_toArray, List.map_cons, List.map_nil]); first | done | rfl) ?_
                with_reducible refine (HDO.out Wd _ HD.out).mono ?_
                rintro e V6 ⟨v', r6, m, x, rfl, hJ6, hk6⟩
                refine ⟨_, rfl, ?_⟩
                have HJ6 := hid hJ6
                have HK6 := hid hk6
                clear hJ6 hk6
                refine hK.out _ _ (HS0.out V6 HJ6.out.low HJ6.out.k6) (fun hHeld => ?_)
                clear hK K
                refine norm_ (a' := ?_) ?_ ?_
                rotate_left
                · show Act.put _ (some 53) _ = _
                  simp only [Act.put, List.setIfInBounds_toArray, List.set_cons_zero, List.set_cons_succ, i64_w, i32_w]
                  rfl
                refine pure_ (i := 7) (N := some 46) (v := ?_) (a' := ?_) #[true, true, true, true, true, true, true, true, false, false, false, false, false] rfl rfl (any_of HT_.out (by kernel_rfl)) (fun _ _ _ h => h) (Or.inl ⟨by rfl, ?_⟩) ?_ ?_
                rotate_left
                · intro w'
                  go_simp
                  with_reducible rfl
                rotate_left
                · simp only [Act.put, List.setIfInBounds_toArray, List.set_cons_zero, List.set_cons_succ, i64_w, i32_w]
                  rfl
                refine pure_ (i := 8) (N := some 54) (v := ?_) (a' := ?_) #[true, true, true, true, true, true, true, true, true, false, false, false, false] rfl rfl (any_of HT_.out (by kernel_rfl)) (fun _ _ _ h => h) (Or.inl ⟨by rfl, ?_⟩) ?_ ?_
                rotate_left
                · intro w'
                  go_simp
                  with_reducible rfl
                rotate_left
                · simp only [Act.put, List.setIfInBounds_toArray, List.set_cons_zero, List.set_cons_succ, i64_w, i32_w]
                  rfl
                refine pure_ (i := 9) (N := some 55) (v := ?_) (a' := ?_) #[true, true, true, true, true, true, true, true, true, true, false, false, false] rfl rfl (any_of HT_.out (by kernel_rfl)) (fun _ _ _ h => h) (Or.inl ⟨by rfl, ?_⟩) ?_ ?_
                rotate_left
                · intro w'
                  go_simp
                  with_reducible rfl
                rotate_left
                · simp only [Act.put, List.setIfInBounds_toArray, List.set_cons_zero, List.set_cons_succ, i64_w, i32_w]
                  rfl
                refine one_ (i := 10) (N := some 9) #[true, true, true, true, true, true, true, true, true, true, true, false, false] rfl rfl (one_of HT_.out (by kernel_rfl)) (by decide) (fun K hK => ?_)
                refine allocA_ (ob := .cells #[.slice none 0 0, .int .i64 0] 60) (by rfl) rfl (by go_simp) ?_
                rintro g9 V9 hg9 hV9
                have hJJ : DJ w V9 p mb g6 (i + 1) al2 T2 v now v' g9 := ⟨⟨r6, by rw [hV9, hg9]; exact HJ6.out.box _⟩, by rw [hV9, hg9]; exact heap_alloc_new _ _⟩
                refine hK.out _ _ (by obtain ⟨r_, hj_⟩ := hJJ.j; exact HS0.out V9 hj_.low hj_.k6) (fun hHeld => ?_)
                clear hg9 hV9
                clear hK K
                refine norm_ (a' := ?_) ?_ ?_
                rotate_left
                · show Act.put _ (some 9) _ = _
                  simp only [Act.put, List.setIfInBounds_toArray, List.set_cons_zero, List.set_cons_succ, i64_w, i32_w]
                  rfl
                exact norm_ (by simp only [putAll, Act.put, List.setIfInBounds_toArray, List.set_cons_zero, List.set_cons_succ]) (hCont (v', m, x, g9) _ ⟨hHeld, hJJ⟩)
              · skip
                refine allocA_ (ob := .cells #[.slice none 0 0, .int .i64 0] 60) (by rfl) rfl (by go_simp) ?_
                rintro g9 V9 hg9 hV9
                have HD9 := hid (show LJ w V9 p mb g6 i al tick v now v lq (fun i => i = g9) by rw [hV9, hg9]; exact HD.out.box _)
                have HK9 := hid (show V9.heap[g9]? = some (.cells #[.slice none 0 0, .int .i64 0] 60 (0, 0)) by rw [hV9, hg9]; exact heap_alloc_new _ _)
                refine hK.out _ _ (HS0.out V9 HD9.out.low HD9.out.k6) (fun hHeld => ?_)
                clear hg9 hV9
                clear hK K
                refine norm_ (a' := ?_) ?_ ?_
                rotate_left
                · show Act.put _ (some 9) _ = _
                  simp only [Act.put, List.setIfInBounds_toArray, List.set_cons_zero, List.set_cons_succ, i64_w, i32_w]
                  rfl
                refine one_ (i := 6) (N := some 53) #[true, true, true, true, true, true, true, false, false, false, true, false, false] rfl rfl (one_of HT_.out (by kernel_rfl)) (by decide) (fun K hK => ?_)
                refine goes_ Tryd.func29 (by kernel_rfl) rfl #[.pointer (some ⟨p, 0, none⟩), .agg #[v, .int .i64 now], .agg #[.int .i64 kd, .string s]] (by rfl) rfl rfl (by (try simp only [List.map_toArray, List.map_cons, List.map_nil]); first | done | rfl) ?_
                with_reducible refine (HDO.out V9 _ HD9.out).mono ?_
                rintro e V6 ⟨v', r6, m, x, rfl, hJ6, hk6⟩
                refine ⟨_, rfl, ?_⟩
                have HJ6 := hid hJ6
                have HK6 := hid hk6
                clear hJ6 hk6
                refine hK.out _ _ (HS0.out V6 HJ6.out.low HJ6.out.k6) (fun hHeld => ?_)
                clear hK K
                refine norm_ (a' := ?_) ?_ ?_
                rotate_left
                · show Act.put _ (some 53) _ = _
                  simp only [Act.put, List.setIfInBounds_toArray, List.set_cons_zero, List.set_cons_succ, i64_w, i32_w]
                  rfl
                have hJJ : DJ w V6 p mb g6 (i + 1) al2 T2 v now v' g9 := ⟨⟨r6, HJ6.out⟩, blk_keeps HK6.out (fun hc => hc.2 rfl) HK9.out⟩
                refine pure_ (i := 7) (N := some 46) (v := ?_) (a' := ?_) #[true, true, true, true, true, true, true, true, false, false, true, false, false] rfl rfl (any_of HT_.out (by kernel_rfl)) (fun _ _ _ h => h) (Or.inl ⟨by rfl, ?_⟩) ?_ ?_
                rotate_left
                · intro w'
                  go_simp
                  with_reducible rfl
                rotate_left
                · simp only [Act.put, List.setIfInBounds_toArray, List.set_cons_zero, List.set_cons_succ, i64_w, i32_w]
                  rfl
                refine pure_ (i := 8) (N := some 54) (v := ?_) (a' := ?_) #[true, true, true, true, true, true, true, true, true, false, true, false, false] rfl rfl (any_of HT_.out (by kernel_rfl)) (fun _ _ _ h => h) (Or.inl ⟨by rfl, ?_⟩) ?_ ?_
                rotate_left
                · intro w'
                  go_simp
                  with_reducible rfl
                rotate_left
                · simp only [Act.put, List.setIfInBounds_toArray, List.set_cons_zero, List.set_cons_succ, i64_w, i32_w]
                  rfl
                refine pure_ (i := 9) (N := some 55) (v := ?_) (a' := ?_) #[true, true, true, true, true, true, true, true, true, true, true, false, false] rfl rfl (any_of HT_.out (by kernel_rfl)) (fun _ _ _ h => h) (Or.inl ⟨by rfl, ?_⟩) ?_ ?_
                rotate_left
                · intro w'
                  go_simp
                  with_reducible rfl
                rotate_left
                · simp only [Act.put, List.setIfInBounds_toArray, List.set_cons_zero, List.set_cons_succ, i64_w, i32_w]
                  rfl
                exact norm_ (by simp only [putAll, Act.put, List.setIfInBounds_toArray, List.set_cons_zero, List.set_cons_succ]) (hCont (v', m, x, g9) _ ⟨hHeld, hJJ⟩)
            rintro ⟨v', m, x, g9⟩ wj ⟨hHeld, hJ⟩
            obtain ⟨z0, z1, zf⟩ := cells2 hJ.k9
            have zf0 := zf 0
            have zf1 := zf 1
            obtain ⟨A9, n9, c9, hv9⟩ : ∃ A n c, v' = .slice A n c := by obtain ⟨r_, hj_⟩ := hJ.j; obtain ⟨A_, c_, h_⟩ := Kd.R_slice hj_.q; exact ⟨_, _, _, h_⟩
            subst hv9
            obtain ⟨W7, hW7⟩ : ∃ W7, W7 = (wj.setCell ⟨g9, 0, none⟩ (.slice A9 n9 c9)).setCell ⟨g9, 1, none⟩ (.int .i64 m) := ⟨_, rfl⟩
            have HW7 := hid hW7
            clear hW7 zf
            refine norm_ (a' := ?_) ?_ ?_
            rotate_left
            · simp only [putAll, Act.put, List.setIfInBounds_toArray, List.set_cons_zero, List.set_cons_succ]
              rfl
            refine last_ (i := 11) (N := none) #[true, true, true, true, true, true, true, true, true, true, true, true, false] rfl rfl (one_of HT_.out (by kernel_rfl)) (by decide) (fun K hK => ?_)
            refine skip_ (w1 := W7) (by rfl) rfl (by rw [HW7.out]; go_simp) ?_
            refine hK.out _ _ ?_
            clear hK K
            refine pure_ (i := 12) (N := some 10) (v := ?_) (a' := ?_) #[true, true, true, true, true, true, true, true, true, true, true, true, true] rfl rfl (any_of HT_.out (by kernel_rfl)) (fun _ _ _ h => h) (Or.inl ⟨by rfl, ?_⟩) ?_ ?_
            rotate_left
            · intro w'
              go_simp
              with_reducible rfl
            rotate_left
            · simp only [Act.put, List.setIfInBounds_toArray, List.set_cons_zero, List.set_cons_succ, i64_w, i32_w]
              rfl
            refine done_ (done_of HT_.out (by kernel_rfl)) ?_
            have HJ := hid hJ
            clear hJ
            obtain ⟨r, hjr⟩ := HJ.out.j
            have HK9 := hid HJ.out.k9
            have HJ7 := hid (hjr.put9 (.slice A9 n9 c9) (.int .i64 m))
            have k97 := put2 (x := .slice A9 n9 c9) (y := .int .i64 m) HK9.out
            rw [← HW7.out] at HJ7 k97
            have HL8 := hid (HJ7.out.fill m)
            obtain ⟨x0, x1, -⟩ := cells2 k97
            obtain ⟨y0, y1, yf⟩ := cells2 HJ7.out.k6
            have yf0 := yf 0
            have yf1 := yf 1
            obtain ⟨W8, hW8⟩ : ∃ W8, W8 = (W7.setCell ⟨g6, 0, none⟩ (.slice A9 n9 c9)).setCell ⟨g6, 1, none⟩ (.int .i64 m) := ⟨_, rfl⟩
            rw [← hW8] at HL8
            clear yf hjr k97 HW7
            go_upto_region 15 with fail
            rw [← hW8]
            clear hW8 x0 x1 y0 y1 yf0 yf1 HJ7 HK9 HJ
            have hd4 := HA0.out W8 HL8.out.low
            obtain ⟨e0, e1⟩ := hd4
            by_cases hu : u > 0
            · have q0 : decide (u > 0) = true := decide_eq_true hu
              have hth := kept_there HL.out.gi name (by rw [← HUE.out]; exact hu) kd s
              rw [HAL2.out] at hth
              have hhas := has_any HL8.out.bk name
              rw [hth] at hhas
              have HHA := hid hhas
              clear hhas hth
              by_cases hk4 : kd = 4
              · have q1 : decide (kd = 4) = true := decide_eq_true hk4
                have q2 : (kd == 4) = true := by simpa using hk4
                by_cases hsn : s = name
                · have hnd := not_dropped HL.out.gi name (by rw [← HUE.out]; exact hu)
                  have hal : al2 = al := by rw [← HAL2.out, hk4, hsn]; exact hnd.1
                  have hdr := fun W (hI : IBk W p mb al2 T2) => drop_any hI name
                  rw [hal, hnd.2.1, hnd.2.2, ← hal] at hdr
                  have HDR := hid hdr
                  have q3 : (s.toList == name.toList) = true := by rw [hsn]; exact beq_self_eq_true _
                  have q4 : (s == name) = true := by rw [hsn, beq_bytes]; exact decide_eq_true rfl
                  have q5 : decide (s = name) = true := decide_eq_true hsn
                  clear hdr hal hnd hk4 hsn hu
                  go_upto_region 17 with (first
                    | (have z := HL9.out; clear z; go_at_call 31; go_must (with_reducible refine (HDR.out _ HL9.out.bk).mono ?_); rintro e w10 ⟨rfl, hI, hk⟩; have HLA := hid (HL9.out.keeps hI HL9.out.gi hk); clear hI hk)
                    | (go_at_call 30; go_must (with_reducible refine HHA.out.mono ?_); rintro e w9 ⟨rfl, hb⟩; have HL9 := hid (HL8.out.later hb); obtain ⟨e0, e1⟩ := HA0.out w9 HL9.out.low; clear hb))
                  have HU2 := hid (users_b HLA.out.bk name)
                  have HUN := hid (fun W (hI : IBk W p mb al2 T2) => unused_any hI HLA.out.gi.short (by have := HLA.out.gi.t; omega) (fun k => by have := HLA.out.gi.rg k; unfold Rg at this; omega) 0)
                  obtain ⟨u2, hu2⟩ : ∃ u2, u2 = (getI name al2).2.1 := ⟨_, rfl⟩
                  rw [← hu2] at HU2
                  have HU2E := hid hu2
                  clear hu2
                  by_cases hu2 : u2 > 0
                  · have q8 : decide (u2 > 0) = true := decide_eq_true hu2
                    have HNU := hid (fun U hU => not_unused (al := al2) (tick := T2) (ago := 0) (q := name) (by rw [← HU2E.out]; exact hu2) (U := U) hU)
                    clear hu2
                    go_wp2_with (first
                      | (go_at_call 28; go_must (with_reducible refine HU2.out.mono ?_); rintro e wa ⟨rfl, hb⟩; have HLB := hid (HLA.out.later hb); clear hb)
                      | (go_at_call 32; go_must (with_reducible refine (HUN.out _ HLB.out.bk).mono ?_); rintro e wb ⟨A', n', c', U, rfl, hRS, hU⟩; have HRS := hid hRS; have HNN := hid (HNU.out U hU); have HLC := hid (HLB.out.later hRS.low); have HUL := hid (show U.length ≤ 16 from Nat.le_trans (by rw [hU.length_eq]; exact unusedA_length _ _ _) HLB.out.gi.short.2); clear hRS hU))
                    go_loopg [12] n' (fun q s12 wr => ∃ j : Nat, s12 = .int .i64 (j : Int) ∧ q = n' - j ∧ j ≤ n' ∧ wb = wr)
                    case atStart => exact ⟨0, rfl, by omega, by omega, rfl⟩
                    case round =>
                      obtain ⟨j, rfl, rfl, hj, rfl⟩ := hrel
                      have hn' := HRS.out.len
                      have hul := HUL.out
                      have hn16 : n' ≤ 16 := by omega
                      have hwj : IntKind.i64.wrap ((j : Int) + 1) = ((j + 1 : Nat) : Int) := by rw [IntWalk.i64_in _ (by omega)]; omega
                      by_cases hjn : j < n'
                      · have hju : j < U.length := by omega
                        obtain ⟨ad2, hA2, cj⟩ : ∃ ad2, A' = some ad2 ∧ wb.cell? (ad2.add j) = some (.string U[j]) := by
                          rcases HRS.out.alt with ⟨h1, h2, h3⟩ | ⟨g, o, h1, h2, h3, h4⟩
                          · rw [h3] at hju; simp at hju
                          · exact ⟨⟨g, o, none⟩, h1, by rw [Addr.add_lit]; exact (h2.cells j _ (List.getElem?_eq_getElem hju)).1⟩
                        subst hA2
                        have hne := HNN.out U[j] (List.getElem_mem hju)
                        generalize U[j] = x9 at cj hne
                        have r3 : (x9.toList == name.toList) = false := by
                          rw [beq_eq_false_iff_ne]
                          intro e
                          exact hne (ByteArray.ext (Array.toList_inj.1 (by rwa [ByteArray.toList_eq, ByteArray.toList_eq] at e)))
                        have r4 : (x9 == name) = false := by rw [beq_bytes]; exact decide_eq_false hne
                        have r5 : decide (x9 = name) = false := decide_eq_false hne
                        clear hne hn' hul
                        go_wp2_with fail
                        go_roundg (n' - (j + 1))
                        case measure => omega
                        case rel => exact ⟨j + 1, rfl, rfl, by omega, rfl⟩
                      · clear hn' hul
                        go_wp2_with fail
                        go_roundg (60 - (i + 1))
                        case measure => omega
                        case rel => exact ⟨i + 1, al2, T2, m, _, r, rfl, rfl, by omega, by omega, HLC⟩
                  · have q8 : decide (u2 > 0) = false := decide_eq_false hu2
                    clear hu2
                    go_wp2_with (go_at_call 28; go_must (with_reducible refine HU2.out.mono ?_); rintro e wa ⟨rfl, hb⟩; have HLB := hid (HLA.out.later hb); clear hb)
                    go_roundg (60 - (i + 1))
                    case measure => omega
                    case rel => exact ⟨i + 1, al2, T2, m, _, r, rfl, rfl, by omega, by omega, HLB⟩
                · have q3 : (s.toList == name.toList) = false := by
                    rw [beq_eq_false_iff_ne]
                    intro e
                    exact hsn (ByteArray.ext (Array.toList_inj.1 (by rwa [ByteArray.toList_eq, ByteArray.toList_eq] at e)))
                  have q4 : (s == name) = false := by rw [beq_bytes]; exact decide_eq_false hsn
                  have q5 : decide (s = name) = false := decide_eq_false hsn
                  clear hk4 hsn hu
                  go_upto_region 17 with (go_at_call 30; go_must (with_reducible refine HHA.out.mono ?_); rintro e w9 ⟨rfl, hb⟩; have HLA := hid (HL8.out.later hb); obtain ⟨e0, e1⟩ := HA0.out w9 HLA.out.low; clear hb)
                  have HU2 := hid (users_b HLA.out.bk name)
                  have HUN := hid (fun W (hI : IBk W p mb al2 T2) => unused_any hI HLA.out.gi.short (by have := HLA.out.gi.t; omega) (fun k => by have := HLA.out.gi.rg k; unfold Rg at this; omega) 0)
                  obtain ⟨u2, hu2⟩ : ∃ u2, u2 = (getI name al2).2.1 := ⟨_, rfl⟩
                  rw [← hu2] at HU2
                  have HU2E := hid hu2
                  clear hu2
                  by_cases hu2 : u2 > 0
                  · have q8 : decide (u2 > 0) = true := decide_eq_true hu2
                    have HNU := hid (fun U hU => not_unused (al := al2) (tick := T2) (ago := 0) (q := name) (by rw [← HU2E.out]; exact hu2) (U := U) hU)
                    clear hu2
                    go_wp2_with (first
                      | (go_at_call 28; go_must (with_reducible refine HU2.out.mono ?_); rintro e wa ⟨rfl, hb⟩; have HLB := hid (HLA.out.later hb); clear hb)
                      | (go_at_call 32; go_must (with_reducible refine (HUN.out _ HLB.out.bk).mono ?_); rintro e wb ⟨A', n', c', U, rfl, hRS, hU⟩; have HRS := hid hRS; have HNN := hid (HNU.out U hU); have HLC := hid (HLB.out.later hRS.low); have HUL := hid (show U.length ≤ 16 from Nat.le_trans (by rw [hU.length_eq]; exact unusedA_length _ _ _) HLB.out.gi.short.2); clear hRS hU))
                    go_loopg [12] n' (fun q s12 wr => ∃ j : Nat, s12 = .int .i64 (j : Int) ∧ q = n' - j ∧ j ≤ n' ∧ wb = wr)
                    case atStart => exact ⟨0, rfl, by omega, by omega, rfl⟩
                    case round =>
                      obtain ⟨j, rfl, rfl, hj, rfl⟩ := hrel
                      have hn' := HRS.out.len
                      have hul := HUL.out
                      have hn16 : n' ≤ 16 := by omega
                      have hwj : IntKind.i64.wrap ((j : Int) + 1) = ((j + 1 : Nat) : Int) := by rw [IntWalk.i64_in _ (by omega)]; omega
                      by_cases hjn : j < n'
                      · have hju : j < U.length := by omega
                        obtain ⟨ad2, hA2, cj⟩ : ∃ ad2, A' = some ad2 ∧ wb.cell? (ad2.add j) = some (.string U[j]) := by
                          rcases HRS.out.alt with ⟨h1, h2, h3⟩ | ⟨g, o, h1, h2, h3, h4⟩
                          · rw [h3] at hju; simp at hju
                          · exact ⟨⟨g, o, none⟩, h1, by rw [Addr.add_lit]; exact (h2.cells j _ (List.getElem?_eq_getElem hju)).1⟩
                        subst hA2
                        have hne := HNN.out U[j] (List.getElem_mem hju)
                        generalize U[j] = x9 at cj hne
                        have r3 : (x9.toList == name.toList) = false := by
                          rw [beq_eq_false_iff_ne]
                          intro e
                          exact hne (ByteArray.ext (Array.toList_inj.1 (by rwa [ByteArray.toList_eq, ByteArray.toList_eq] at e)))
                        have r4 : (x9 == name) = false := by rw [beq_bytes]; exact decide_eq_false hne
                        have r5 : decide (x9 = name) = false := decide_eq_false hne
                        clear hne hn' hul
                        go_wp2_with fail
                        go_roundg (n' - (j + 1))
                        case measure => omega
                        case rel => exact ⟨j + 1, rfl, rfl, by omega, rfl⟩
                      · clear hn' hul
                        go_wp2_with fail
                        go_roundg (60 - (i + 1))
                        case measure => omega
                        case rel => exact ⟨i + 1, al2, T2, m, _, r, rfl, rfl, by omega, by omega, HLC⟩
                  · have q8 : decide (u2 > 0) = false := decide_eq_false hu2
                    clear hu2
                    go_wp2_with (go_at_call 28; go_must (with_reducible refine HU2.out.mono ?_); rintro e wa ⟨rfl, hb⟩; have HLB := hid (HLA.out.later hb); clear hb)
                    go_roundg (60 - (i + 1))
                    case measure => omega
                    case rel => exact ⟨i + 1, al2, T2, m, _, r, rfl, rfl, by omega, by omega, HLB⟩
              · have q1 : decide (kd = 4) = false := decide_eq_false hk4
                have q2 : (kd == 4) = false := by simpa using hk4
                clear hk4 hu
                go_upto_region 17 with (go_at_call 30; go_must (with_reducible refine HHA.out.mono ?_); rintro e w9 ⟨rfl, hb⟩; have HLA := hid (HL8.out.later hb); obtain ⟨e0, e1⟩ := HA0.out w9 HLA.out.low; clear hb)
                have HU2 := hid (users_b HLA.out.bk name)
                have HUN := hid (fun W (hI : IBk W p mb al2 T2) => unused_any hI HLA.out.gi.short (by have := HLA.out.gi.t; omega) (fun k => by have := HLA.out.gi.rg k; unfold Rg at this; omega) 0)
                obtain ⟨u2, hu2⟩ : ∃ u2, u2 = (getI name al2).2.1 := ⟨_, rfl⟩
                rw [← hu2] at HU2
                have HU2E := hid hu2
                clear hu2
                by_cases hu2 : u2 > 0
                · have q8 : decide (u2 > 0) = true := decide_eq_true hu2
                  have HNU := hid (fun U hU => not_unused (al := al2) (tick := T2) (ago := 0) (q := name) (by rw [← HU2E.out]; exact hu2) (U := U) hU)
                  clear hu2
                  go_wp2_with (first
                    | (go_at_call 28; go_must (with_reducible refine HU2.out.mono ?_); rintro e wa ⟨rfl, hb⟩; have HLB := hid (HLA.out.later hb); clear hb)
                    | (go_at_call 32; go_must (with_reducible refine (HUN.out _ HLB.out.bk).mono ?_); rintro e wb ⟨A', n', c', U, rfl, hRS, hU⟩; have HRS := hid hRS; have HNN := hid (HNU.out U hU); have HLC := hid (HLB.out.later hRS.low); have HUL := hid (show U.length ≤ 16 from Nat.le_trans (by rw [hU.length_eq]; exact unusedA_length _ _ _) HLB.out.gi.short.2); clear hRS hU))
                  go_loopg [12] n' (fun q s12 wr => ∃ j : Nat, s12 = .int .i64 (j : Int) ∧ q = n' - j ∧ j ≤ n' ∧ wb = wr)
                  case atStart => exact ⟨0, rfl, by omega, by omega, rfl⟩
                  case round =>
                    obtain ⟨j, rfl, rfl, hj, rfl⟩ := hrel
                    have hn' := HRS.out.len
                    have hul := HUL.out
                    have hn16 : n' ≤ 16 := by omega
                    have hwj : IntKind.i64.wrap ((j : Int) + 1) = ((j + 1 : Nat) : Int) := by rw [IntWalk.i64_in _ (by omega)]; omega
                    by_cases hjn : j < n'
                    · have hju : j < U.length := by omega
                      obtain ⟨ad2, hA2, cj⟩ : ∃ ad2, A' = some ad2 ∧ wb.cell? (ad2.add j) = some (.string U[j]) := by
                        rcases HRS.out.alt with ⟨h1, h2, h3⟩ | ⟨g, o, h1, h2, h3, h4⟩
                        · rw [h3] at hju; simp at hju
                        · exact ⟨⟨g, o, none⟩, h1, by rw [Addr.add_lit]; exact (h2.cells j _ (List.getElem?_eq_getElem hju)).1⟩
                      subst hA2
                      have hne := HNN.out U[j] (List.getElem_mem hju)
                      generalize U[j] = x9 at cj hne
                      have r3 : (x9.toList == name.toList) = false := by
                        rw [beq_eq_false_iff_ne]
                        intro e
                        exact hne (ByteArray.ext (Array.toList_inj.1 (by rwa [ByteArray.toList_eq, ByteArray.toList_eq] at e)))
                      have r4 : (x9 == name) = false := by rw [beq_bytes]; exact decide_eq_false hne
                      have r5 : decide (x9 = name) = false := decide_eq_false hne
                      clear hne hn' hul
                      go_wp2_with fail
                      go_roundg (n' - (j + 1))
                      case measure => omega
                      case rel => exact ⟨j + 1, rfl, rfl, by omega, rfl⟩
                    · clear hn' hul
                      go_wp2_with fail
                      go_roundg (60 - (i + 1))
                      case measure => omega
                      case rel => exact ⟨i + 1, al2, T2, m, _, r, rfl, rfl, by omega, by omega, HLC⟩
                · have q8 : decide (u2 > 0) = false := decide_eq_false hu2
                  clear hu2
                  go_wp2_with (go_at_call 28; go_must (with_reducible refine HU2.out.mono ?_); rintro e wa ⟨rfl, hb⟩; have HLB := hid (HLA.out.later hb); clear hb)
                  go_roundg (60 - (i + 1))
                  case measure => omega
                  case rel => exact ⟨i + 1, al2, T2, m, _, r, rfl, rfl, by omega, by omega, HLB⟩
            · have q0 : decide (u > 0) = false := decide_eq_false hu
              clear hu
              go_upto_region 17 with fail
              have HLA := HL8
              have HU2 := hid (users_b HLA.out.bk name)
              have HUN := hid (fun W (hI : IBk W p mb al2 T2) => unused_any hI HLA.out.gi.short (by have := HLA.out.gi.t; omega) (fun k => by have := HLA.out.gi.rg k; unfold Rg at this; omega) 0)
              obtain ⟨u2, hu2⟩ : ∃ u2, u2 = (getI name al2).2.1 := ⟨_, rfl⟩
              rw [← hu2] at HU2
              have HU2E := hid hu2
              clear hu2
              by_cases hu2 : u2 > 0
              · have q8 : decide (u2 > 0) = true := decide_eq_true hu2
                have HNU := hid (fun U hU => not_unused (al := al2) (tick := T2) (ago := 0) (q := name) (by rw [← HU2E.out]; exact hu2) (U := U) hU)
                clear hu2
                go_wp2_with (first
                  | (go_at_call 28; go_must (with_reducible refine HU2.out.mono ?_); rintro e wa ⟨rfl, hb⟩; have HLB := hid (HLA.out.later hb); clear hb)
                  | (go_at_call 32; go_must (with_reducible refine (HUN.out _ HLB.out.bk).mono ?_); rintro e wb ⟨A', n', c', U, rfl, hRS, hU⟩; have HRS := hid hRS; have HNN := hid (HNU.out U hU); have HLC := hid (HLB.out.later hRS.low); have HUL := hid (show U.length ≤ 16 from Nat.le_trans (by rw [hU.length_eq]; exact unusedA_length _ _ _) HLB.out.gi.short.2); clear hRS hU))
                go_loopg [12] n' (fun q s12 wr => ∃ j : Nat, s12 = .int .i64 (j : Int) ∧ q = n' - j ∧ j ≤ n' ∧ wb = wr)
                case atStart => exact ⟨0, rfl, by omega, by omega, rfl⟩
                case round =>
                  obtain ⟨j, rfl, rfl, hj, rfl⟩ := hrel
                  have hn' := HRS.out.len
                  have hul := HUL.out
                  have hn16 : n' ≤ 16 := by omega
                  have hwj : IntKind.i64.wrap ((j : Int) + 1) = ((j + 1 : Nat) : Int) := by rw [IntWalk.i64_in _ (by omega)]; omega
                  by_cases hjn : j < n'
                  · have hju : j < U.length := by omega
                    obtain ⟨ad2, hA2, cj⟩ : ∃ ad2, A' = some ad2 ∧ wb.cell? (ad2.add j) = some (.string U[j]) := by
                      rcases HRS.out.alt with ⟨h1, h2, h3⟩ | ⟨g, o, h1, h2, h3, h4⟩
                      · rw [h3] at hju; simp at hju
                      · exact ⟨⟨g, o, none⟩, h1, by rw [Addr.add_lit]; exact (h2.cells j _ (List.getElem?_eq_getElem hju)).1⟩
                    subst hA2
                    have hne := HNN.out U[j] (List.getElem_mem hju)
                    generalize U[j] = x9 at cj hne
                    have r3 : (x9.toList == name.toList) = false := by
                      rw [beq_eq_false_iff_ne]
                      intro e
                      exact hne (ByteArray.ext (Array.toList_inj.1 (by rwa [ByteArray.toList_eq, ByteArray.toList_eq] at e)))
                    have r4 : (x9 == name) = false := by rw [beq_bytes]; exact decide_eq_false hne
                    have r5 : decide (x9 = name) = false := decide_eq_false hne
                    clear hne hn' hul
                    go_wp2_with fail
                    go_roundg (n' - (j + 1))
                    case measure => omega
                    case rel => exact ⟨j + 1, rfl, rfl, by omega, rfl⟩
                  · clear hn' hul
                    go_wp2_with fail
                    go_roundg (60 - (i + 1))
                    case measure => omega
                    case rel => exact ⟨i + 1, al2, T2, m, _, r, rfl, rfl, by omega, by omega, HLC⟩
              · have q8 : decide (u2 > 0) = false := decide_eq_false hu2
                clear hu2
                go_wp2_with (go_at_call 28; go_must (with_reducible refine HU2.out.mono ?_); rintro e wa ⟨rfl, hb⟩; have HLB := hid (HLA.out.later hb); clear hb)
                go_roundg (60 - (i + 1))
                case measure => omega
                case rel => exact ⟨i + 1, al2, T2, m, _, r, rfl, rfl, by omega, by omega, HLB⟩
          · have b1 : decide ((s.size : Int) > 100) = true := decide_eq_true (by omega)
            have b1' : (s.size : Int) > 100 := by omega
            clear hsz
            go_wp2_with fail
            go_ret
            exact ⟨rfl, HL.out.low⟩
        · go_wp2_with fail
          go_ret
          exact ⟨rfl, HL.out.low⟩
      · go_wp2_with fail
        go_ret
        exact ⟨rfl, HL.out.low⟩
  · have b0 : decide ((name.size : Int) > 100) = true := decide_eq_true (by omega)
    have b0' : (name.size : Int) > 100 := by omega
    clear hs
    go_enter Tryd.func6, Tryd.ntmps6
    go_wp2_with (first
      | (go_at_call 26; go_must (with_reducible refine HW.out.mono ?_); rintro e w1 ⟨rfl, hb⟩; have HB1 := hid hb; clear hb)
      | (go_at_call 27; go_must (with_reducible refine (HN.out _).mono ?_); rintro e w2 ⟨rfl, hI, hb⟩; have HB2 := hid hb; clear hI hb))
    go_ret
    exact ⟨rfl, HB1.out.trans (HB2.out.mono HB1.out.size)⟩
end Go.Proofs.YtmgcapccgncmkaaDoor.Im
