/- Relist: the law RelistNone, walked. -/
import Derived.Test.YtnceglkoolfncaaNj
set_option linter.unusedSimpArgs false
set_option linter.unusedVariables false
namespace Go.Proofs.Ytnceglkoolfncaa.Rl
open Go.RowKit Go.Pv Go.Proofs.Ytnceglkoolfncaa.Po Go.Proofs.YtnceglkoolfncaaW.PrintWords Go.Proofs.YtnceglkoolfncaaW.PrintLast

theorem Few20.few {l : List BV} (h : Few20 l) : Few l := ⟨by have := h.1; omega, fun b hb => by have := h.2 b hb; omega⟩

theorem diffL_len {l m : List BV} (hl : Few20 l) (hm : Few20 m) : (diffL l m).length ≤ 28000 := by
  have := mergeL_len (id := fun b : BV => b.f0) (one := oneB) 700 (fun b => b.f3.length ≤ 100) (fun b => b.f3.length ≤ 100) (fun oa ob h1 h2 => oneB_len oa ob h1 h2) (l.length + m.length) l m (fun b hb => by have := hl.2 b hb; omega) (fun b hb => by have := hm.2 b hb; omega)
  have h1 := hl.1
  have h2 := hm.1
  unfold diffL
  omega

theorem isK_take (k : Int) (L : List Ch) (i : Nat) (hi : i < L.length) : ((L.take (i + 1)).map (isK k)).sum = ((L.take i).map (isK k)).sum + isK k L[i] := by
  rw [List.take_add_one, List.getElem?_eq_getElem hi, List.map_append, List.sum_append]
  simp
theorem isK_le (k : Int) (L : List Ch) : (L.map (isK k)).sum ≤ L.length := by
  induction L with
  | nil => simp
  | cons a r ih => simp only [List.map_cons, List.sum_cons, List.length_cons]; unfold isK at *; split <;> omega

set_option maxRecDepth 10000 in
set_option maxHeartbeats 4000000 in
theorem none_any {w : World} {va vb : Value} {l m : List BV} (ha : Rz PRelistNone.k108 w va l) (hb : Rz PRelistNone.k108 w vb m) :
    Calls Try.prog 9 #[va, vb] w fun e w' => e = .returned (.bool true) ∧ Below w.heap.size w w' := by
  have HA := hid ha
  have HB := hid hb
  obtain ⟨Aa, ca, rfl⟩ := ha.form
  obtain ⟨Ab, cb, rfl⟩ := hb.form
  clear ha hb
  go_enter Try.func9, Try.ntmps9
  go_wp2_with (first
    | (go_at_call 54
       go_must (with_reducible refine (works_any _).mono ?_)
       rintro e w1 ⟨rfl, hb1⟩
       have HB1 := hid hb1
       clear hb1)
    | (go_at_call 55
       have h2 := HB2.out
       clear h2
       go_must (with_reducible refine (sorted_any (HB.out.below HB2.out)).mono ?_)
       rintro e w3 ⟨⟨r2, rfl, hr2⟩, hb3⟩
       have HR2 := hid hr2
       have HB3 := hid (HB2.out.trans (hb3.mono HB2.out.size))
       clear hb3 hr2
       cases r2)
    | (go_at_call 55
       go_must (with_reducible refine (sorted_any (HA.out.below HB1.out)).mono ?_)
       rintro e w2 ⟨⟨r1, rfl, hr1⟩, hb2⟩
       have HR1 := hid hr1
       have HB2 := hid (HB1.out.trans (hb2.mono HB1.out.size))
       clear hb2 hr1
       cases r1)
    | (go_at_call 56
       go_must (with_reducible refine (diff_any (HA.out.below HB3.out) (HB.out.below HB3.out) (HR1.out (by simp)).few (HR2.out (by simp)).few).mono ?_)
       rintro e w4 ⟨v, rfl, hs, hb4⟩
       obtain ⟨aa, ac, rfl, hc⟩ := chform hs
       have HC := hid hc
       have HS := hid hs
       have HB4 := hid (HB3.out.trans (hb4.mono HB3.out.size))
       clear hb4 hs hc))
  · go_ret
    exact ⟨rfl, HB2.out⟩
  · go_ret
    exact ⟨rfl, HB3.out⟩
  · have f1 : Few20 l := HR1.out (by simp)
    have f2 : Few20 m := HR2.out (by simp)
    have hmade := made_eq l m
    have hm1 := made_le l m
    have hm2 := gone_le l m
    have hdl := diffL_len f1 f2
    have hdn := diff_any (HB.out.below HB4.out) (HB.out.below HB4.out) f2.few f2.few
    rw [diffL_same] at hdn
    obtain ⟨D, hD⟩ : ∃ D, D = diffL l m := ⟨_, rfl⟩
    rw [← hD] at hmade hm1 hm2 hdl HC ⊢
    have HM := hid (And.intro hmade (And.intro hm1 hm2))
    have HDN := hid hdn
    have hl20 := f1.1
    have hm20 := f2.1
    clear f1 f2 hmade hm1 hm2 hdn hD HS HR1 HR2
    go_loopg [6, 7, 8] D.length (fun g s6 s7 s8 wr => w4 = wr ∧ ∃ (i : Nat) (M G : Int), g = D.length - i ∧ i ≤ D.length ∧ s8 = .int .i64 i ∧ s6 = .int .i64 M ∧ s7 = .int .i64 G ∧ 0 ≤ M ∧ M ≤ i ∧ 0 ≤ G ∧ G ≤ i ∧ Hid (M = ((D.take i).map (isK 1)).sum ∧ G = ((D.take i).map (isK 2)).sum))
    case atStart => exact ⟨rfl, 0, 0, 0, rfl, by omega, rfl, rfl, rfl, by omega, by omega, by omega, by omega, hid (by simp)⟩
    case round =>
      obtain ⟨rfl, i, M, G, rfl, hi, rfl, rfl, rfl, m0, m1, g0, g1, HMG⟩ := hrel
      by_cases hlt : i < D.length
      · obtain ⟨ab, ao, haa, hab, c0, c1, c2, c3⟩ := HC.out i hlt
        subst haa
        have hs1 := isK_take 1 D i hlt
        have hs2 := isK_take 2 D i hlt
        obtain ⟨⟨k, u, b, z⟩, hx⟩ : ∃ x, x = D[i] := ⟨_, rfl⟩
        rw [← hx] at c0 c1 c2 c3 hs1 hs2
        have HS := hid (And.intro hs1 hs2)
        clear hs1 hs2 hx
        by_cases k1 : k = 1
        · subst k1
          go_wp2
          go_roundg (D.length - (i + 1))
          case measure => omega
          case rel =>
            refine ⟨rfl, i + 1, M + 1, G, rfl, by omega, by go_num, by go_num, rfl, by omega, by omega, by omega, by omega, hid ⟨?_, ?_⟩⟩
            · rw [HS.out.1, ← HMG.out.1]; simp [isK]
            · rw [HS.out.2, ← HMG.out.2]; simp [isK]
        · have hk1 : (k == 1) = false := by simp [k1]
          by_cases k2 : k = 2
          · subst k2
            clear k1
            go_wp2
            go_roundg (D.length - (i + 1))
            case measure => omega
            case rel =>
              refine ⟨rfl, i + 1, M, G + 1, rfl, by omega, by go_num, rfl, by go_num, by omega, by omega, by omega, by omega, hid ⟨?_, ?_⟩⟩
              · rw [HS.out.1, ← HMG.out.1]; simp [isK]
              · rw [HS.out.2, ← HMG.out.2]; simp [isK]
          · have hk2 : (k == 2) = false := by simp [k2]
            have HK := hid (And.intro k1 k2)
            clear k1 k2
            go_wp2
            go_roundg (D.length - (i + 1))
            case measure => omega
            case rel =>
              refine ⟨rfl, i + 1, M, G, rfl, by omega, by go_num, rfl, rfl, by omega, by omega, by omega, by omega, hid ⟨?_, ?_⟩⟩
              · rw [HS.out.1, ← HMG.out.1]; simp [isK, HK.out.1]
              · rw [HS.out.2, ← HMG.out.2]; simp [isK, HK.out.2]
      · have hie : i = D.length := by omega
        obtain ⟨e1, e2⟩ := HMG.out
        rw [hie, List.take_length] at e1 e2
        obtain ⟨q1, q2, q3⟩ := HM.out
        rw [← e1] at q1 q2
        rw [← e2] at q1 q3
        have b1 : ((m.length : Int) - (l.length : Int) == M - G) = true := by simp; omega
        have b2 : decide (M ≤ (m.length : Int)) = true := by simpa using q2
        have b3 : decide (G ≤ (l.length : Int)) = true := by simpa using q3
        have hnl : ¬ ((i : Int) < (D.length : Int)) := by omega
        clear hie e1 e2 q1 q2 q3 hlt HMG
        go_wp2_with (go_at_call 56
                     go_must (with_reducible refine HDN.out.mono ?_)
                     rintro e w5 ⟨v5, rfl, hs5, hb5⟩
                     obtain ⟨a5, c5, rfl, -⟩ := chform hs5
                     simp only [List.length_nil]
                     have HB5 := hid hb5
                     clear hb5 hs5)
        go_ret
        exact ⟨rfl, HB4.out.trans (HB5.out.mono HB4.out.size)⟩
end Go.Proofs.Ytnceglkoolfncaa.Rl
