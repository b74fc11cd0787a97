/- Images: merged (Iv Iw Ix). -/
import Derived.Test.YtmgcapccgncmkaaDoorIu
set_option linter.unusedSimpArgs false
set_option linter.unusedVariables false
namespace Go.Proofs.YtmgcapccgncmkaaDoor.Im
open Go.RowKit Go.Pv Go.Proofs.YtmgcapccgncmkaaDoor.Tx Go.Proofs.YtmgcapccgncmkaaDoorW.PrintWords Go.Proofs.YtmgcapccgncmkaaDoorW.PrintLast

structure WK (w W : World) (p mb : Nat) (al : IL) (tick : Int) : Prop where
  low : Below w.heap.size w W
  bk : IBk W p mb al tick
  ge : w.heap.size ≤ p ∧ w.heap.size ≤ mb
section
variable {w W V : World} {p mb : Nat} {al al2 : IL} {tick t2 : Int}
theorem WK.keeps (h : WK w W p mb al tick) (hI : IBk V p mb al2 t2) {F : Nat → Prop} (hk : Keeps F W V) (hF : ∀ i, F i → i = p ∨ i = mb) : WK w V p mb al2 t2 :=
  ⟨h.low.trans (hk.below h.low.size (fun i hi => (hF i hi).elim (fun e => e ▸ h.ge.1) (fun e => e ▸ h.ge.2))), hI, h.ge⟩
theorem WK.later (h : WK w W p mb al tick) (hb : Below W.heap.size W V) : WK w V p mb al tick := h.keeps (h.bk.below hb) (Keeps.of_below (F := fun i => i = mb) hb) (fun i hi => .inr hi)
end
abbrev al1 : IL := [((⟨#[119, 101, 98, 58, 49]⟩ : ByteArray), (2, 0, 0))]
abbrev al2 : IL := [((⟨#[119, 101, 98, 58, 49]⟩ : ByteArray), (1, 0, 0))]
abbrev al3 : IL := [((⟨#[119, 101, 98, 58, 49]⟩ : ByteArray), (0, 0, 2))]
theorem p1 : partsB (⟨#[119, 101, 98, 58, 49]⟩ : ByteArray) = true := by kernel_rfl
theorem p2 : partsB (⟨#[119, 101, 98]⟩ : ByteArray) = false := by kernel_rfl
theorem t1 : ticksOf (⟨#[119, 101, 98, 58, 49]⟩ : ByteArray) = 2 := by kernel_rfl
theorem n1 (s : Im) : namesA [((⟨#[119, 101, 98, 58, 49]⟩ : ByteArray), s)] = [(⟨#[119, 101, 98, 58, 49]⟩ : ByteArray)] := by simp [namesA]
theorem pc1 : pullC (⟨#[119, 101, 98, 58, 49]⟩ : ByteArray) [] = 0 := by simp [pullC, p1, aget]
theorem pa1 : pullA (⟨#[119, 101, 98, 58, 49]⟩ : ByteArray) [] = al1 := by simp [pullA, p1, aget, aset, t1]
theorem pc2 (al : IL) : pullC (⟨#[119, 101, 98]⟩ : ByteArray) al = 33 := by simp [pullC, p2]
theorem pa2 (al : IL) : pullA (⟨#[119, 101, 98]⟩ : ByteArray) al = al := by simp [pullA, p2]
theorem pc3 : pullC (⟨#[119, 101, 98, 58, 49]⟩ : ByteArray) al3 = 7 := by simp [pullC, p1, aget, getI]
theorem tk1 : tkA (0 + 1) al1 (namesA al1) = al2 ∧ cameL (0 + 1) al1 (namesA al1) = [] := by
  rw [n1]
  simp [tkA, tkS, cameL, getI, aget, aset, tickI]
theorem tk2 : tkA (1 + 1) al2 (namesA al2) = al3 ∧ cameL (1 + 1) al2 (namesA al2) = [(⟨#[119, 101, 98, 58, 49]⟩ : ByteArray)] := by
  rw [n1]
  simp [tkA, tkS, cameL, getI, aget, aset, tickI]
theorem th3 : thereB (⟨#[119, 101, 98, 58, 49]⟩ : ByteArray) al3 = true := by simp [thereB, aget, getI]
theorem short1 (s : Im) : Short [((⟨#[119, 101, 98, 58, 49]⟩ : ByteArray), s)] := ⟨fun r hr => by simp only [List.mem_cons, List.not_mem_nil, or_false] at hr; subst hr; exact (by decide : (⟨#[119, 101, 98, 58, 49]⟩ : ByteArray).size ≤ 100), by simp⟩
theorem lft (s : Im) (hs : 0 ≤ s.1 ∧ s.1 ≤ 1000) (k : ByteArray) : 0 ≤ (getI k [((⟨#[119, 101, 98, 58, 49]⟩ : ByteArray), s)]).1 ∧ (getI k [((⟨#[119, 101, 98, 58, 49]⟩ : ByteArray), s)]).1 ≤ 1000 := by
  unfold getI aget
  split
  · exact hs
  · simp [aget]
section
variable {w W : World} {p mb : Nat}
theorem step1 (h : WK w W p mb [] 0) (hG : Gm W) : Calls Tryd.prog 58 #[.pointer (some ⟨p, 0, none⟩), .string (⟨#[119, 101, 98, 58, 49]⟩ : ByteArray)] W fun e w' => e = .returned (.int .i64 0) ∧ WK w w' p mb al1 0 := by
  have := pull_any h.bk (⟨#[119, 101, 98, 58, 49]⟩ : ByteArray) (by decide) hG
  rw [pc1, pa1] at this
  exact this.mono (fun e w' ⟨h1, h2, h3⟩ => ⟨h1, h.keeps h2 h3 (fun i hi => .inr hi)⟩)
theorem step2 (h : WK w W p mb al1 0) (hG : Gm W) : Calls Tryd.prog 58 #[.pointer (some ⟨p, 0, none⟩), .string (⟨#[119, 101, 98]⟩ : ByteArray)] W fun e w' => e = .returned (.int .i64 33) ∧ WK w w' p mb al1 0 := by
  have := pull_any h.bk (⟨#[119, 101, 98]⟩ : ByteArray) (by decide) hG
  rw [pc2, pa2] at this
  exact this.mono (fun e w' ⟨h1, h2, h3⟩ => ⟨h1, h.keeps h2 h3 (fun i hi => .inr hi)⟩)
theorem step3 (h : WK w W p mb al1 0) : Calls Tryd.prog 59 #[.pointer (some ⟨p, 0, none⟩)] W fun e w' => ∃ A c, e = .returned (.slice A 0 c) ∧ WK w w' p mb al2 1 := by
  have := tick_any h.bk (short1 _) (by omega) (lft _ (by decide))
  rw [tk1.1, tk1.2] at this
  exact this.mono (fun e w' ⟨A, c, h1, h2, h3, _⟩ => ⟨A, c, h1, h.keeps h2 h3 (fun i hi => hi)⟩)
theorem step4 (h : WK w W p mb al2 1) : Calls Tryd.prog 59 #[.pointer (some ⟨p, 0, none⟩)] W fun e w' => ∃ A c, e = .returned (.slice A 1 c) ∧ WK w w' p mb al3 2 := by
  have := tick_any h.bk (short1 _) (by omega) (lft _ (by decide))
  rw [tk2.1, tk2.2] at this
  exact this.mono (fun e w' ⟨A, c, h1, h2, h3, _⟩ => ⟨A, c, h1, h.keeps h2 h3 (fun i hi => hi)⟩)
theorem step5 (h : WK w W p mb al3 2) (hG : Gm W) : Calls Tryd.prog 60 #[.string (⟨#[119, 101, 98, 58, 49]⟩ : ByteArray)] W fun e w' => e = .returned (.int .i64 2) ∧ WK w w' p mb al3 2 := by
  have := ticks_any (⟨#[119, 101, 98, 58, 49]⟩ : ByteArray) (by decide) W hG
  rw [t1] at this
  exact this.mono (fun e w' ⟨h1, h2⟩ => ⟨h1, h.later h2⟩)
theorem step6 (h : WK w W p mb al3 2) : Calls Tryd.prog 30 #[.pointer (some ⟨p, 0, none⟩), .string (⟨#[119, 101, 98, 58, 49]⟩ : ByteArray)] W fun e w' => e = .returned (.bool true) ∧ WK w w' p mb al3 2 := by
  have := has_any h.bk (⟨#[119, 101, 98, 58, 49]⟩ : ByteArray)
  rw [th3] at this
  exact this.mono (fun e w' ⟨h1, h2⟩ => ⟨h1, h.later h2⟩)
theorem step7 (h : WK w W p mb al3 2) (hG : Gm W) : Calls Tryd.prog 58 #[.pointer (some ⟨p, 0, none⟩), .string (⟨#[119, 101, 98, 58, 49]⟩ : ByteArray)] W fun e w' => e = .returned (.int .i64 7) ∧ Below w.heap.size w w' := by
  have := pull_any h.bk (⟨#[119, 101, 98, 58, 49]⟩ : ByteArray) (by decide) hG
  rw [pc3] at this
  exact this.mono (fun e w' ⟨h1, h2, h3⟩ => ⟨h1, (h.keeps h2 h3 (fun i hi => .inr hi)).low⟩)
end
set_option maxRecDepth 10000 in
set_option maxHeartbeats 2000000 in
theorem works_any {w : World} (hG : Gm w) : Calls Tryd.prog 26 #[] w fun e w' => e = .returned (.bool true) ∧ Below w.heap.size w w' := by
  have HG := hid hG
  have HN := hid (new_any w)
  clear hG
  go_enter Tryd.func26, Tryd.ntmps26
  go_wp2_with (first
    | (go_at_call 27; go_must (with_reducible refine HN.out.mono ?_); rintro e w0 ⟨rfl, hI, hb⟩; have K0 := hid (WK.mk (w := w) hb hI ⟨by omega, by omega⟩); clear hI hb)
    | (have z := K5.out; clear z; go_at_call 58; go_must (with_reducible refine (step7 K6.out (HG.out.later K6.out.low)).mono ?_); rintro e w7 ⟨rfl, hK⟩; have K7 := hid hK; clear hK)
    | (have z := K1.out; clear z; go_at_call 58; go_must (with_reducible refine (step2 K1.out (HG.out.later K1.out.low)).mono ?_); rintro e w2 ⟨rfl, hK⟩; have K2 := hid hK; clear hK)
    | (go_at_call 58; go_must (with_reducible refine (step1 K0.out (HG.out.later K0.out.low)).mono ?_); rintro e w1 ⟨rfl, hK⟩; have K1 := hid hK; clear hK)
    | (have z := K3.out; clear z; go_at_call 59; go_must (with_reducible refine (step4 K3.out).mono ?_); rintro e w4 ⟨A4, c4, rfl, hK⟩; have K4 := hid hK; clear hK)
    | (go_at_call 59; go_must (with_reducible refine (step3 K2.out).mono ?_); rintro e w3 ⟨A3, c3, rfl, hK⟩; have K3 := hid hK; clear hK)
    | (go_at_call 60; go_must (with_reducible refine (step5 K4.out (HG.out.later K4.out.low)).mono ?_); rintro e w5 ⟨rfl, hK⟩; have K5 := hid hK; clear hK)
    | (go_at_call 30; go_must (with_reducible refine (step6 K5.out).mono ?_); rintro e w6 ⟨rfl, hK⟩; have K6 := hid hK; clear hK))
  go_ret
  exact ⟨rfl, K7.out⟩
end Go.Proofs.YtmgcapccgncmkaaDoor.Im
namespace Go.Proofs.YtmgcapccgncmkaaDoor.Im
open Go.RowKit Go.Pv Go.Proofs.YtmgcapccgncmkaaDoor.Tx

/-- An image behind n acts. -/
def Rg (n : Nat) (s : Im) : Prop := 0 ≤ s.1 ∧ s.1 ≤ 3 ∧ 0 ≤ s.2.1 ∧ s.2.1 ≤ n ∧ 0 ≤ s.2.2 ∧ s.2.2 ≤ n ∧ (0 < s.2.1 → s.1 = 0)
/-- A store behind n acts. -/
structure GI (n : Nat) (al : IL) (tick : Int) : Prop where
  short : Short al
  t : 0 ≤ tick ∧ tick ≤ n
  nd : (al.map (·.1)).Nodup
  rg : ∀ k, Rg n (getI k al)
theorem Rg.next {n : Nat} {s : Im} (h : Rg n s) : Rg (n + 1) s := by unfold Rg at *; omega
theorem short_keys {al al2 : IL} (h : al2.map (·.1) = al.map (·.1)) (hs : Short al) : Short al2 := by
  refine ⟨fun r hr => ?_, ?_⟩
  · have : r.1 ∈ al.map (·.1) := by rw [← h]; exact List.mem_map.2 ⟨r, hr, rfl⟩
    obtain ⟨r2, h2, e⟩ := List.mem_map.1 this
    rw [← e]
    exact hs.1 r2 h2
  · have := congrArg List.length h
    simp only [List.length_map] at this
    rw [this]
    exact hs.2
theorem some_of_users {k : ByteArray} {al : IL} (h : 0 < (getI k al).2.1) : ∃ s, aget k al = some s := by
  unfold getI at h
  cases hg : aget k al with
  | none => rw [hg] at h; exact absurd h (by decide)
  | some s => exact ⟨s, rfl⟩
theorem there_some {k : ByteArray} {al : IL} (h : thereB k al = true) : (aget k al).isSome = true ∧ (getI k al).1 = 0 := by
  unfold thereB at h
  simpa using h
theorem there_mk {k : ByteArray} {al : IL} (h1 : (aget k al).isSome = true) (h2 : (getI k al).1 = 0) : thereB k al = true := by
  unfold thereB
  simp [h1, h2]
theorem tickI_rg {n : Nat} {T : Int} (hT : 0 ≤ T ∧ T ≤ n + 1) (s : Im) (h : Rg (n + 1) s) : Rg (n + 1) (tickI T s) := by
  unfold tickI
  unfold Rg at *
  split
  · exact h
  · split <;> (simp only; omega)
theorem gi_set {n : Nat} {al : IL} {tick t2 : Int} (h : GI n al tick) (k : ByteArray) (s : Im) (hk : k.size ≤ 100) (hs : Rg (n + 1) s) (hl : (aget k al).isSome = true ∨ al.length < 16) (ht : 0 ≤ t2 ∧ t2 ≤ (n + 1 : Nat)) : GI (n + 1) (aset k s al) t2 := by
  refine ⟨?_, ht, aset_nodup k s h.nd, fun q => ?_⟩
  · by_cases hi : (aget k al).isSome = true
    · exact short_keys (names_aset k s al hi) h.short
    · refine ⟨fun r hr => ?_, ?_⟩
      · rcases mem_aset h.nd hr with rfl | h2
        · exact hk
        · exact h.short.1 r h2.1
      · have h3 := congrArg List.length (aset_keys k s al)
        have h4 := hl.resolve_left hi
        rw [List.length_map] at h3
        rw [h3]
        split
        · rw [List.length_map]; omega
        · rw [List.length_append, List.length_map]; simp; omega
  · by_cases hq : q = k
    · subst hq
      rw [getI_aset_same]
      exact hs
    · rw [getI_aset_other hq]
      exact (h.rg q).next
theorem GI.next {n : Nat} {al : IL} {tick : Int} (h : GI n al tick) : GI (n + 1) al tick := ⟨h.short, by have := h.t; omega, h.nd, fun k => (h.rg k).next⟩
theorem gi_del {n : Nat} {al : IL} {tick : Int} (h : GI n al tick) (k : ByteArray) : GI (n + 1) (adel k al) tick := by
  have hsub := adel_sublist k al
  refine ⟨⟨fun r hr => h.short.1 r (hsub.subset hr), Nat.le_trans hsub.length_le h.short.2⟩, by have := h.t; omega, adel_nodup k h.nd, fun q => ?_⟩
  by_cases hq : q = k
  · subst hq
    unfold getI
    rw [aget_adel_same q h.nd]
    unfold Rg
    simp
    omega
  · unfold getI
    rw [aget_adel_other hq]
    exact (h.rg q).next
theorem gi_tick {n : Nat} {al : IL} {tick : Int} (h : GI n al tick) (ks : List ByteArray) : GI (n + 1) (tkA (tick + 1) al ks) (tick + 1) := by
  refine ⟨short_keys (names_tkA _ _ _) h.short, by have := h.t; omega, by rw [names_tkA]; exact h.nd, tkA_keeps (tick + 1) (Rg (n + 1)) (tickI_rg (by have := h.t; omega)) al (fun k => (h.rg k).next) ks⟩
theorem gi_act {n : Nat} {al : IL} {tick : Int} (h : GI n al tick) (kind : Int) (k : ByteArray) (hk : k.size ≤ 100) : GI (n + 1) (actA kind k tick al) (actT kind tick) := by
  unfold actA actT
  by_cases h0 : kind = 0
  · rw [if_pos h0, if_neg (by omega)]
    unfold pullA
    split
    · rename_i hc
      have := ticks_in k
      exact gi_set h k _ hk (by unfold Rg; simp only; omega) (.inr hc.2.2) (by have := h.t; omega)
    · exact h.next
  · rw [if_neg h0]
    by_cases h1 : kind = 1
    · rw [if_pos h1, if_pos h1]
      exact gi_tick h _
    · rw [if_neg h1, if_neg h1]
      have hr := h.rg k
      have ht := h.t
      by_cases h2 : kind = 2
      · rw [if_pos h2]
        unfold useA
        split
        · rename_i hc
          obtain ⟨a1, a2⟩ := there_some hc
          exact gi_set h k _ hk (by unfold Rg at *; simp only; omega) (.inl a1) (by omega)
        · exact h.next
      · rw [if_neg h2]
        by_cases h3 : kind = 3
        · rw [if_pos h3]
          unfold leaveA
          split
          · rename_i hc
            obtain ⟨a1, a2⟩ := there_some hc
            split
            · exact h.next
            · refine gi_set h k _ hk ?_ (.inl a1) (by omega)
              unfold Rg at *
              simp only
              split <;> omega
          · exact h.next
        · rw [if_neg h3]
          unfold dropA
          split
          · split
            · exact h.next
            · exact gi_del h k
          · exact h.next
theorem there_set {q k : ByteArray} {al : IL} {s : Im} (h : thereB q al = true) (hs : q = k → s.1 = 0) : thereB q (aset k s al) = true := by
  by_cases hq : q = k
  · subst hq
    exact there_mk (by rw [aget_aset_same]; rfl) (by rw [getI_aset_same]; exact hs rfl)
  · obtain ⟨a1, a2⟩ := there_some h
    exact there_mk (by rw [aget_aset_other hq]; exact a1) (by rw [getI_aset_other hq]; exact a2)
theorem there_tk (T : Int) (q : ByteArray) (al : IL) (h : thereB q al = true) (ks : List ByteArray) : thereB q (tkA T al ks) = true := by
  induction ks generalizing al with
  | nil => exact h
  | cons a r ih =>
    refine ih (tkS T al a) ?_
    unfold tkS
    split
    · exact h
    · rename_i h0
      exact there_set h (fun e => absurd (e ▸ (there_some h).2) h0)
/-- What is used is there, whatever is done. -/
theorem kept_there {n : Nat} {al : IL} {tick : Int} (h : GI n al tick) (q : ByteArray) (hu : 0 < (getI q al).2.1) (kind : Int) (k : ByteArray) : thereB q (actA kind k tick al) = true := by
  obtain ⟨s, hs⟩ := some_of_users hu
  have hz := (h.rg q).2.2.2.2.2.2 hu
  have hth := there_mk (by rw [hs]; rfl) hz
  unfold actA
  split
  · unfold pullA
    split
    · rename_i hc
      exact there_set hth (fun e => by subst e; rw [hs] at hc; simp at hc)
    · exact hth
  · split
    · exact there_tk _ q al hth _
    · split
      · unfold useA
        split
        · rename_i hc
          exact there_set hth (fun e => (there_some hc).2)
        · exact hth
      · split
        · unfold leaveA
          split
          · rename_i hc
            split
            · exact hth
            · exact there_set hth (fun e => (there_some hc).2)
          · exact hth
        · unfold dropA
          split
          · split
            · exact hth
            · rename_i hn
              by_cases hq : q = k
              · subst hq; exact absurd hu hn
              · obtain ⟨a1, a2⟩ := there_some hth
                exact there_mk (by rw [aget_adel_other hq]; exact a1) (by unfold getI at *; rw [aget_adel_other hq]; exact a2)
          · exact hth
/-- And is not dropped. -/
theorem not_dropped {n : Nat} {al : IL} {tick : Int} (h : GI n al tick) (q : ByteArray) (hu : 0 < (getI q al).2.1) : actA 4 q tick al = al ∧ dropC q al = 5 ∧ dropA q al = al := by
  obtain ⟨s, hs⟩ := some_of_users hu
  have hth := there_mk (by rw [hs]; rfl) ((h.rg q).2.2.2.2.2.2 hu)
  have h1 : dropA q al = al := by unfold dropA; rw [if_pos hth, if_pos hu]
  refine ⟨?_, by unfold dropC; rw [if_pos hth, if_pos hu], h1⟩
  unfold actA
  rw [if_neg (by decide), if_neg (by decide), if_neg (by decide), if_neg (by decide), h1]
/-- And is not among the unused. -/
theorem not_unused {al : IL} {tick ago : Int} {q : ByteArray} (hu : 0 < (getI q al).2.1) {U : List ByteArray} (hU : U.Perm (unusedA tick ago al)) : ∀ x ∈ U, x ≠ q := by
  intro x hx e
  subst e
  have := (hU.mem_iff).1 hx
  unfold unusedA usedB at this
  rw [List.mem_filter] at this
  simp [hu] at this
end Go.Proofs.YtmgcapccgncmkaaDoor.Im
namespace Go.Proofs.YtmgcapccgncmkaaDoor.Im
open Go.RowKit Go.Pv Go.Proofs.YtmgcapccgncmkaaDoor.Tx Go.Proofs.YtmgcapccgncmkaaDoorW.PrintWords Go.Proofs.YtmgcapccgncmkaaDoorW.PrintLast Go.Proofs.YtmgcapccgncmkaaDoorW.PrintMore Go.Proofs.YtmgcapccgncmkaaDoor.PImgKeeps

theorem does_any {w : World} {n p mb B c : Nat} {al : IL} {tick now kind : Int} {P : Nat → Prop} {A : Option Addr} {l : List S136} {k : ByteArray} (h : IBk w p mb al tick) (hq : QR w B P (.slice A l.length c) l) (hB : B ≤ w.heap.size) (hP : ∀ k, P k → k < w.heap.size ∧ k ≠ p ∧ k ≠ mb) (hl : l.length ≤ 900) (ha : k.size ≤ 100)
    (hg : GI n al tick) (hn : n ≤ 60) (hG : Gm w) :
    Calls Tryd.prog 29 #[.pointer (some ⟨p, 0, none⟩), .agg #[.slice A l.length c, .int .i64 now], .agg #[.int .i64 kind, .string k]] w fun e w' => DoesSays w p mb B P l (actA kind k tick al) (actT kind tick) e w' := by
  have hr := hg.rg k
  have ht := hg.t
  have hu : 0 ≤ (getI k al).2.1 ∧ (getI k al).2.1 ≤ 1000000 := by unfold Rg at hr; omega
  unfold actA actT
  by_cases h0 : kind = 0
  · subst h0
    refine (does_pull h hq hB hP hl ha (fun W hb => hG.later hb)).mono ?_
    rintro e w' ⟨v, r, m, b, h1, h2, h3, h4, h5⟩
    exact ⟨v, r, m, _, h1, h2, h3, h4, h5⟩
  · rw [if_neg h0]
    by_cases h1 : kind = 1
    · subst h1
      exact does_tick h hq hB hP hl hg.short (by omega) (fun k => by have := hg.rg k; unfold Rg at this; omega)
    · rw [if_neg h1, if_neg h1]
      by_cases h2 : kind = 2
      · subst h2
        refine (does_use h hq hB hP hl ha hu).mono ?_
        rintro e w' ⟨v, r, m, b, h1, h2, h3, h4, h5⟩
        exact ⟨v, r, m, _, h1, h2, h3, h4, h5⟩
      · rw [if_neg h2]
        by_cases h3 : kind = 3
        · subst h3
          refine (does_leave h hq hB hP hl ha hu).mono ?_
          rintro e w' ⟨v, r, m, b, h1, h2, h3, h4, h5⟩
          exact ⟨v, r, m, _, h1, h2, h3, h4, h5⟩
        · rw [if_neg h3]
          refine (does_drop h hq hB hP hl ha ⟨h0, h1, h2, h3⟩).mono ?_
          rintro e w' ⟨v, r, m, b, h1, h2, h3, h4, h5⟩
          exact ⟨v, r, m, _, h1, h2, h3, h4, h5⟩

/-- The law's state. -/
structure LJ (w W : World) (p mb g6 n : Nat) (al : IL) (tick : Int) (v0 : Value) (now0 : Int) (v : Value) (lq : List S136) (E : Nat → Prop) : Prop where
  low : Below w.heap.size w W
  bk : IBk W p mb al tick
  gi : GI n al tick
  k6 : W.heap[g6]? = some (.cells #[v0, .int .i64 now0] 60 (0, 0))
  q : QR W w.heap.size (fun k => w.heap.size ≤ k ∧ k ≠ p ∧ k ≠ mb ∧ k ≠ g6 ∧ ¬ E k) v lq
  ll : lq.length ≤ n
  ge : w.heap.size ≤ p ∧ w.heap.size ≤ mb ∧ w.heap.size ≤ g6 ∧ p ≠ g6 ∧ mb ≠ g6
  e : ∀ k, E k → k < W.heap.size ∧ k ≠ p ∧ k ≠ mb ∧ w.heap.size ≤ k ∧ k ≠ g6
section
variable {w W V : World} {p mb g6 n : Nat} {al : IL} {tick now0 : Int} {v0 v : Value} {lq : List S136} {E : Nat → Prop}
theorem LJ.later (h : LJ w W p mb g6 n al tick v0 now0 v lq E) (hb : Below W.heap.size W V) : LJ w V p mb g6 n al tick v0 now0 v lq E :=
  ⟨h.low.trans (hb.mono h.low.size), h.bk.below hb, h.gi, blk_of hb h.k6, Kd.R_below h.q hb, h.ll, h.ge, fun k hk => by have he := h.e k hk; have := hb.size; exact ⟨by omega, he.2⟩⟩
theorem LJ.does (h : LJ w W p mb g6 n al tick v0 now0 v lq E) {now : Int} {kind : Int} {k : ByteArray} (ha : k.size ≤ 100) (hn : n ≤ 60) (hG : Gm w) :
    Calls Tryd.prog 29 #[.pointer (some ⟨p, 0, none⟩), .agg #[v, .int .i64 now], .agg #[.int .i64 kind, .string k]] W fun e V => ∃ v' r m x, e = .returned (.tuple #[.agg #[v', .int .i64 m], x]) ∧ LJ w V p mb g6 (n + 1) (actA kind k tick al) (actT kind tick) v0 now0 v' r E ∧ Keeps (fun i => w.heap.size ≤ i ∧ ¬ E i) W V := by
  obtain ⟨A, c, rfl⟩ := Kd.R_slice h.q
  have hg6 : g6 < W.heap.size := (Array.getElem?_eq_some_iff.1 h.k6).1
  have hlt := h.bk.lt
  have hge := h.ge
  have hll := h.ll
  refine (does_any (P := fun k => (w.heap.size ≤ k ∧ k ≠ p ∧ k ≠ mb ∧ k ≠ g6 ∧ ¬ E k) ∧ k < W.heap.size) h.bk (Kd.R_mono (Kd.R_bound h.q) (fun k hk => ⟨hk.1, hk.2.2.1⟩)) h.low.size (fun k hk => ⟨hk.2, hk.1.2.1, hk.1.2.2.1⟩) (by omega) ha h.gi hn (hG.later h.low)).mono ?_
  rintro e V ⟨v', r, m, x, h1, h2, h3, h4, h5⟩
  have hE : ∀ k, E k → ¬ ((w.heap.size ≤ k ∧ k ≠ p ∧ k ≠ mb ∧ k ≠ g6 ∧ ¬ E k) ∧ k < W.heap.size) := fun k hk hc => hc.1.2.2.2.2 hk
  have hs := h5.size
  have hk5 : Keeps (fun i => w.heap.size ≤ i ∧ ¬ E i) W V := h5.mono (fun i hi => by
    rcases hi with h6 | rfl | rfl
    · exact ⟨h6.1.1, h6.1.2.2.2.2⟩
    · exact ⟨hge.1, fun hc => (h.e _ hc).2.1 rfl⟩
    · exact ⟨hge.2.1, fun hc => (h.e _ hc).2.2.1 rfl⟩)
  refine ⟨v', r, m, x, h1, ⟨h.low.trans (hk5.below h.low.size (fun i hi => hi.1)), h4, gi_act h.gi kind k ha, (h5.block g6 hg6 (fun hc => by
      rcases hc with h6 | h6 | h6
      · exact h6.1.2.2.2.1 rfl
      · omega
      · omega)).trans h.k6, Kd.R_mono h2 (fun k hk => ?_), by omega, hge, fun k hk => by have := h.e k hk; exact ⟨by omega, this.2⟩⟩, hk5⟩
  rcases hk with h6 | h6
  · exact h6.1
  · exact ⟨by omega, by omega, by omega, by omega, fun hc => by have := (h.e k hc).1; omega⟩
/-- A new box. -/
theorem LJ.box (h : LJ w W p mb g6 n al tick v0 now0 v lq (fun _ => False)) (o : Obj) : LJ w (W.alloc o) p mb g6 n al tick v0 now0 v lq (fun i => i = W.heap.size) := by
  have hb : Below W.heap.size W (W.alloc o) := (Below.refl _ W).alloc (Nat.le_refl _) _
  have h2 := h.later hb
  have hg6 : g6 < W.heap.size := (Array.getElem?_eq_some_iff.1 h.k6).1
  have hlt := h.bk.lt
  refine ⟨h2.low, h2.bk, h2.gi, h2.k6, Kd.R_mono (Kd.R_below (Kd.R_bound h.q) hb) (fun k hk => ⟨hk.1.1, hk.1.2.1, hk.1.2.2.1, hk.1.2.2.2.1, fun e => by have := hk.2.2.1; omega⟩), h2.ll, h2.ge, fun k hk => ?_⟩
  subst hk
  exact ⟨by simp, by omega, by omega, h.low.size, by omega⟩
/-- The law's box is filled out of another one. -/
theorem LJ.fill (h : LJ w W p mb g6 n al tick v0 now0 v lq E) (now : Int) : LJ w ((W.setCell ⟨g6, 0, none⟩ v).setCell ⟨g6, 1, none⟩ (.int .i64 now)) p mb g6 n al tick v now v lq (fun _ => False) := by
  have hk : Keeps (fun i => i = g6) W ((W.setCell ⟨g6, 0, none⟩ v).setCell ⟨g6, 1, none⟩ (.int .i64 now)) := ((Keeps.refl (fun i => i = g6) W).setCell ⟨g6, 0, none⟩ _ (.inl rfl)).setCell ⟨g6, 1, none⟩ _ (.inl rfl)
  have hge := h.ge
  exact ⟨put2_below h.low hge.2.2.1, h.bk.kept hk (by omega) (by omega), h.gi, put2 h.k6, Kd.R_mono (put2_R h.q (fun k hk => hk.2.2.2.1)) (fun k hk => ⟨hk.1, hk.2.1, hk.2.2.1, hk.2.2.2.1, fun hc => hc⟩), h.ll, hge, fun k hk => hk.elim⟩
theorem LJ.keeps {al2 : IL} {t2 : Int} (h : LJ w W p mb g6 n al tick v0 now0 v lq E) (hI : IBk V p mb al2 t2) (hg : GI n al2 t2) (hk : Keeps (fun i => i = mb) W V) : LJ w V p mb g6 n al2 t2 v0 now0 v lq E := by
  have hge := h.ge
  have hg6 : g6 < W.heap.size := (Array.getElem?_eq_some_iff.1 h.k6).1
  exact ⟨h.low.trans (hk.below h.low.size (fun i hi => by rw [hi]; exact hge.2.1)), hI, hg, (hk.block g6 hg6 (by omega)).trans h.k6, Kd.R_kept (S := fun i => i = mb) h.q ⟨hk.size, hk.block⟩ (fun k hk => hk.2.2.1), h.ll, hge, fun k hk2 => by have he := h.e k hk2; have := hk.size; exact ⟨by omega, he.2⟩⟩
end
/-- The acts. -/
def kA : Kd (Int × ByteArray) := Kd.pair (Kd.int .i64) Kd.string
theorem kA_at {w : World} {A : Option Addr} {n : Nat} {l : List (Int × ByteArray)} (h : Kd.C kA w A n l) (hn : n = l.length) (i : Nat) (hi : i < l.length) : ∃ ad, A = some ad ∧ w.cell? (ad.add (i * 2)) = some (.int .i64 l[i].1) ∧ w.cell? ⟨(ad.add (i * 2)).block, (ad.add (i * 2)).off + 1, none⟩ = some (.string l[i].2) := by
  obtain ⟨ad, c, e, _, hK, hc0⟩ := Kd.C_get h (0, ⟨#[]⟩) (i : Int) (by omega) (by omega)
  have hc : ∀ j u, c[j]? = some u → w.cell? (ad.add ((i : Int).toNat * 2 + j)) = some u := hc0
  simp only [Int.toNat_natCast] at hc
  have hg : l.getD (i : Int).toNat (0, ⟨#[]⟩) = l[i] := by simp [List.getD_eq_getElem?_getD, hi]
  rw [hg] at hK
  obtain ⟨_, _, rfl, rfl, rfl⟩ := hK
  exact ⟨ad, e, hc 0 _ rfl, by rw [← add_field _ _ 1 (by omega)]; exact hc 1 _ rfl⟩
end Go.Proofs.YtmgcapccgncmkaaDoor.Im
