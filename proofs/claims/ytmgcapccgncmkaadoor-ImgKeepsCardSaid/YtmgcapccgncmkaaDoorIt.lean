/- The law of chapter 18: does. -/
import Derived.Test.YtmgcapccgncmkaaDoorIq
set_option linter.unusedSimpArgs false
set_option linter.unusedVariables false
namespace Go.Proofs.YtmgcapccgncmkaaDoor.Im
open Go.RowKit Go.Pv Go.Proofs.YtmgcapccgncmkaaDoor.Tx Go.Proofs.YtmgcapccgncmkaaDoorW.PrintWords Go.Proofs.YtmgcapccgncmkaaDoorW.PrintLast Go.Proofs.YtmgcapccgncmkaaDoorW.PrintMore Go.Proofs.YtmgcapccgncmkaaDoor.PImgKeeps

/-- A world's first blocks. -/
def cutW (w : World) (B : Nat) : World := { w with heap := w.heap.extract 0 B }
theorem cutW_size {w : World} {B : Nat} (h : B ≤ w.heap.size) : (cutW w B).heap.size = B := by simp [cutW]; omega
theorem cutW_below {w : World} {B : Nat} (h : B ≤ w.heap.size) : Below (cutW w B).heap.size (cutW w B) w := by
  refine ⟨rfl, rfl, rfl, by rw [cutW_size h]; exact h, fun k hk => ?_⟩
  rw [cutW_size h] at hk
  simp [cutW, Array.getElem?_extract, hk]
  omega
/-- What a reference's act does. -/
def RefSays (f : Nat) (B : Nat) (P : Nat → Prop) (l : List S136) (now : Int) (a : ByteArray) : Prop := ∀ (W : World) (A : Option Addr) (c : Nat), QR W B P (.slice A l.length c) l → B ≤ W.heap.size → (∀ k, P k → k < W.heap.size) →
    Calls Tryd.prog f #[.agg #[.slice A l.length c, .int .i64 now], .string a] W fun e w' => ∃ v r m t, e = .returned (.tuple #[.agg #[v, .int .i64 m], .int .i64 t]) ∧ QR w' B (fun k => P k ∨ W.heap.size ≤ k) v r ∧ r.length ≤ l.length + 1 ∧ Keeps P W w'
theorem says_use {B : Nat} {P : Nat → Prop} {l : List S136} {now : Int} {a : ByteArray} (hl : l.length ≤ 900) : RefSays 65 B P l now a := fun W A c hR hB hP => by
  refine (ruse_any hR hB hP (by omega)).mono ?_
  rintro e w' ⟨v, r, m, t, rfl, h1, h2, h3⟩
  exact ⟨v, r, m, t, rfl, h1, by omega, Keeps.of_below h3⟩
theorem says_leave {B : Nat} {P : Nat → Prop} {l : List S136} {now : Int} {a : ByteArray} (hl : l.length ≤ 900) : RefSays 67 B P l now a := fun W A c hR hB hP => by
  refine (rleave_any hR hB hP (by omega)).mono ?_
  rintro e w' ⟨v, r, m, t, rfl, h1, h2, h3⟩
  exact ⟨v, r, m, t, rfl, h1, by omega, Keeps.of_below h3⟩
theorem says_drop {B : Nat} {P : Nat → Prop} {l : List S136} {now : Int} {a : ByteArray} (hl : l.length ≤ 900) : RefSays 68 B P l now a := fun W A c hR hB hP => by
  obtain ⟨r, m, t, hr, hrl⟩ := rdrop_t l now a (by omega) 2000 (by omega)
  have := provostref18_Drop.calls 2000 P (.slice A l.length c) l now a r m t (cutW W B) W (cutW_below hB) (by rw [cutW_size hB]; exact hR) hr
  refine this.mono ?_
  rintro e w' ⟨v, rfl, h1, h2, h3⟩
  rw [cutW_size hB] at h1
  exact ⟨v, r, m, t, rfl, h1, by omega, ⟨h2.os, h2.tape, h2.output, h3.1, h3.2⟩⟩
theorem says_pull {B : Nat} {P : Nat → Prop} {l : List S136} {now : Int} {a : ByteArray} (hl : l.length ≤ 900) (ha : a.size ≤ 100) : RefSays 61 B P l now a := fun W A c hR hB hP => by
  obtain ⟨r, t, hr, hrl⟩ := rpull_t l now a ha (by omega) 2000 (by omega)
  have := provostref18_Pull.calls 2000 P (.slice A l.length c) l now a r now t (cutW W B) W (cutW_below hB) (by rw [cutW_size hB]; exact hR) hr
  refine this.mono ?_
  rintro e w' ⟨v, rfl, h1, h2, h3⟩
  rw [cutW_size hB] at h1
  exact ⟨v, r, now, t, rfl, h1, hrl, ⟨h2.os, h2.tape, h2.output, h3.1, h3.2⟩⟩
theorem C_of_sl {w : World} {A : Option Addr} {n c : Nat} {L : List ByteArray} (h : SlOf w 9 1 encS (.slice A n c) L) (hn : n = L.length) (hl : L.length ≤ 100000) : Kd.string.C w A L.length L ∧ L.length ≤ c := by
  subst hn
  refine ⟨⟨rfl, by omega, fun h0 => ?_⟩, ?_⟩
  · rcases SlRow.form h with ⟨h1, h2⟩ | ⟨g, o, c', h1⟩
    · omega
    · simp only [Value.slice.injEq, true_and] at h1
      obtain ⟨rfl, rfl⟩ := h1
      refine ⟨_, rfl, fun j x hx => ⟨[.string x], rfl, rfl, fun i u hu => ?_⟩⟩
      obtain ⟨hi, hu⟩ := List.getElem?_eq_some_iff.1 hu
      have hi0 : i = 0 := by simpa using hi
      subst hi0
      simp only [List.getElem_cons_zero] at hu
      subst hu
      have := SlOf.cellS h rfl j x hx
      rw [Addr.add_lit]
      simpa [Kd.string, Kd.scalar] using this
  · rcases h.2 with ⟨h1, h2⟩ | ⟨g, o, cap, cur, h1, h2, h3, -⟩
    · simp only [Value.slice.injEq] at h1
      omega
    · simp only [Value.slice.injEq, true_and] at h1
      omega
/-- The three boxes of does. -/
theorem three_boxes {w : World} {x : Value} {y k : Int} {a : ByteArray} : ∃ W1, W1 = ((w.alloc (.cells #[x, .int .i64 y] 60)).alloc (.cells #[.int .i64 k, .string a] 62)).alloc (.cells #[.slice none 0 0, .int .i64 0] 60) ∧ W1.heap[w.heap.size]? = some (.cells #[x, .int .i64 y] 60 (0, 0)) ∧
    W1.heap[w.heap.size + 1]? = some (.cells #[.int .i64 k, .string a] 62 (0, 0)) ∧ W1.heap[w.heap.size + 2]? = some (.cells #[.slice none 0 0, .int .i64 0] 60 (0, 0)) ∧ Below w.heap.size w W1 ∧ W1.heap.size = w.heap.size + 3 := by
  refine ⟨_, rfl, ?_, ?_, heap_at _ _ _ (by simp), (((Below.refl _ w).alloc (Nat.le_refl _) _).alloc (by simp) _).alloc (by simp; omega) _, by simp⟩
  · exact (Below.heap_alloc _ _ _ (by simp; omega)).trans ((Below.heap_alloc _ _ _ (by simp)).trans (heap_alloc_new w _))
  · exact (Below.heap_alloc _ _ _ (by simp)).trans (heap_at _ _ _ (by simp))
theorem blk_keeps {F : Nat → Prop} {W V : World} {b : Nat} {o : Obj} (hk : Keeps F W V) (hF : ¬ F b) (h : W.heap[b]? = some o) : V.heap[b]? = some o := (hk.block b (Array.getElem?_eq_some_iff.1 h).1 hF).trans h

/-- An image's act; what it makes of the store. -/
def actA (kind : Int) (k : ByteArray) (tick : Int) (al : IL) : IL := if kind = 0 then pullA k al else if kind = 1 then tkA (tick + 1) al (namesA al) else if kind = 2 then useA k al else if kind = 3 then leaveA k tick al else dropA k al
def actT (kind tick : Int) : Int := if kind = 1 then tick + 1 else tick

set_option maxRecDepth 10000 in
set_option maxHeartbeats 2000000 in
theorem does_use {w : World} {p mb B c : Nat} {al : IL} {tick now : Int} {P : Nat → Prop} {A : Option Addr} {l : List S136} {k : ByteArray} (h : IBk w p mb al tick) (hq : QR w B P (.slice A l.length c) l) (hB : B ≤ w.heap.size) (hP : ∀ k, P k → k < w.heap.size ∧ k ≠ p ∧ k ≠ mb) (hl : l.length ≤ 900) (ha : k.size ≤ 100) (hu : 0 ≤ (getI k al).2.1 ∧ (getI k al).2.1 ≤ 1000000) :
    Calls Tryd.prog 29 #[.pointer (some ⟨p, 0, none⟩), .agg #[.slice A l.length c, .int .i64 now], .agg #[.int .i64 2, .string k]] w fun e w' => ∃ v r m b, e = .returned (.tuple #[.agg #[v, .int .i64 m], .bool b]) ∧ QR w' B (fun k => P k ∨ w.heap.size ≤ k) v r ∧ r.length ≤ l.length + 1 ∧
      IBk w' p mb (useA k al) tick ∧ Keeps (fun i => P i ∨ i = p ∨ i = mb) w w' := by
  obtain ⟨W1, hW1, k4, k5, k6, hB1, hS1⟩ := three_boxes (w := w) (x := .slice A l.length c) (y := now) (k := 2) (a := k)
  obtain ⟨b4, hb4⟩ : ∃ b4, b4 = w.heap.size := ⟨_, rfl⟩
  obtain ⟨b5, hb5⟩ : ∃ b5, b5 = w.heap.size + 1 := ⟨_, rfl⟩
  obtain ⟨b6, hb6⟩ : ∃ b6, b6 = w.heap.size + 2 := ⟨_, rfl⟩
  rw [← hb4] at k4
  rw [← hb5] at k5
  rw [← hb6] at k6
  have hlt := h.lt
  have HI1 := hid (h.below hB1)
  have HQ1 := hid (Kd.R_below hq hB1)
  have HIM := hid (fun W (hI : IBk W p mb al tick) => use_any hI k hu)
  have hrf := (show RefSays 65 B P l now k from says_use hl)
  unfold RefSays at hrf
  have HRF := hid hrf
  clear hrf
  have HP := hid hP
  have HB := hid hB
  have HB1 := hid hB1
  have hbb : b4 < W1.heap.size ∧ b5 < W1.heap.size ∧ b6 < W1.heap.size := by omega
  have hn4 : w.heap.size ≤ b4 ∧ w.heap.size ≤ b5 ∧ w.heap.size ≤ b6 ∧ b4 ≠ b6 ∧ b4 ≠ b5 ∧ b5 ≠ b6 := by omega
  have hS1' := hid hS1
  have HHH := hid hn4
  have HBB := hid hbb
  have HLT := hid hlt
  generalize useA k al = al2 at *
  generalize useC k al = ca at *
  obtain ⟨x0, x1, -⟩ := cells2 k5
  have K4 := hid k4
  have K5 := hid k5
  have K6 := hid k6
  clear h hq hB hP hl ha hB1 hS1 hn4 hbb hlt k4 k5 k6
  go_enter Tryd.func29, Tryd.ntmps29
  go_upto_region 1 with fail
  rw [← hb6, ← hb5, ← hb4, ← hW1]
  clear hb4 hb5 hb6 hW1
  go_upto_region 18 with (first
    | (go_at_call 65; go_must (with_reducible refine (HRF.out w2 A c HQ2.out HS2.out.1 HS2.out.2).mono ?_); rintro e w3 ⟨v3, r, m, t, rfl, hR3, hl3, hk3⟩; obtain ⟨A3, c3, hv3⟩ := Kd.R_slice hR3; subst hv3; have HR3 := hid hR3; have HL3 := hid hl3; have HK3 := hid hk3; have K43 := hid (blk_keeps hk3 (fun e => by have := (HP.out _ e).1; have := HHH.out; omega) K42.out); obtain ⟨v0, v1, vf⟩ := cells2 K43.out; have vf0 := vf 0; have vf1 := vf 1; clear hR3 hl3 hk3 vf)
    | (go_at_call 64; go_must (with_reducible refine (HIM.out W1 HI1.out).mono ?_); rintro e w2 ⟨rfl, hI2, hk2⟩; have K42 := hid (blk_keeps hk2 (by have := HHH.out; have := HLT.out; omega) K4.out); have K52 := hid (blk_keeps hk2 (by have := HHH.out; have := HLT.out; omega) K5.out); obtain ⟨y0, y1, -⟩ := cells2 K42.out; obtain ⟨z0, z1, -⟩ := cells2 K52.out; have HQ2 := hid (Kd.R_kept (S := fun i => i = mb) HQ1.out ⟨hk2.size, hk2.block⟩ (fun k hk => (HP.out k hk).2.2)); have HI2 := hid hI2; have HK2 := hid hk2; have HS2 := hid (show B ≤ w2.heap.size ∧ ∀ k, P k → k < w2.heap.size from ⟨Nat.le_trans HB.out (Nat.le_trans HB1.out.size hk2.size), fun k hk => Nat.lt_of_lt_of_le (HP.out k hk).1 (Nat.le_trans HB1.out.size hk2.size)⟩); clear hI2 hk2))
  obtain ⟨W4, hW4⟩ : ∃ W4, W4 = (w3.setCell ⟨b4, 0, none⟩ (.slice A3 r.length c3)).setCell ⟨b4, 1, none⟩ (.int .i64 m) := ⟨_, rfl⟩
  have k44 : W4.heap[b4]? = some (.cells #[.slice A3 r.length c3, .int .i64 m] 60 (0, 0)) := by rw [hW4]; exact put2 K43.out
  have hk4 : Keeps (fun i => i = b4) w3 W4 := by rw [hW4]; exact ((Keeps.refl (fun i => i = b4) w3).setCell ⟨b4, 0, none⟩ _ (.inl rfl)).setCell ⟨b4, 1, none⟩ _ (.inl rfl)
  have k64 : W4.heap[b6]? = some (.cells #[.slice none 0 0, .int .i64 0] 60 (0, 0)) := blk_keeps hk4 (by have := HHH.out; omega) (blk_keeps HK3.out (fun e => by have := (HP.out _ e).1; have := HHH.out; omega) (blk_keeps HK2.out (by have := HHH.out; have := HLT.out; omega) K6.out))
  have hs2 := HK2.out.size
  have hbl := HBB.out
  have HR4 := hid (show QR W4 B (fun k => P k ∨ w2.heap.size ≤ k) (.slice A3 r.length c3) r by rw [hW4]; exact put2_R HR3.out (fun k hk e => by
    rcases hk with h1 | h1
    · have := (HP.out k h1).1; have := HHH.out; omega
    · omega))
  rw [← hW4]
  clear hW4 v0 v1 vf0 vf1
  obtain ⟨v0, v1, -⟩ := cells2 k44
  obtain ⟨u0, u1, uf⟩ := cells2 k64
  have uf0 := uf 0
  have uf1 := uf 1
  have K44 := hid k44
  have K64 := hid k64
  have HK4 := hid hk4
  clear uf k44 k64 hk4 hs2 hbl
  go_wp2_with fail
  refine bodyPost_ret (results_ct rfl _ _ b6 60 #[.slice A3 r.length c3, .int .i64 m] (0, 0) _ rfl (put2 K64.out) Tryd.underlying60 rfl (by kernel_rfl)) rfl ?_
  have hk6 : Keeps (fun i => i = b6) W4 ((W4.setCell ⟨b6, 0, none⟩ (.slice A3 r.length c3)).setCell ⟨b6, 1, none⟩ (.int .i64 m)) := ((Keeps.refl (fun i => i = b6) W4).setCell ⟨b6, 0, none⟩ _ (.inl rfl)).setCell ⟨b6, 1, none⟩ _ (.inl rfl)
  have hh := HHH.out
  have hl2 := HLT.out
  have hs1 := HB1.out.size
  have hs2 := HK2.out.size
  have hbl := HBB.out
  have kk : Keeps (fun i => P i ∨ i = p ∨ i = mb) w ((W4.setCell ⟨b6, 0, none⟩ (.slice A3 r.length c3)).setCell ⟨b6, 1, none⟩ (.int .i64 m)) :=
    (((((Keeps.of_below (F := fun i => P i ∨ i = p ∨ i = mb) HB1.out).trans HK2.out (fun i hi => .inl (.inr (.inr hi)))).trans HK3.out (fun i hi => .inl (.inl hi))).trans HK4.out (fun i hi => .inr (by omega))).trans hk6 (fun i hi => .inr (by omega)))
  exact ⟨_, r, m, _, rfl, Kd.R_mono (put2_R HR4.out (fun k hk e => by
    rcases hk with h1 | h1
    · have := (HP.out k h1).1; omega
    · omega)) (fun k hk => hk.imp id (fun h1 => by omega)), HL3.out,
    ((HI2.out.kept HK3.out (fun e => (HP.out p e).2.1 rfl) (fun e => (HP.out mb e).2.2 rfl)).kept HK4.out (by omega) (by omega)).kept hk6 (by omega) (by omega), kk⟩

set_option maxRecDepth 10000 in
set_option maxHeartbeats 2000000 in
theorem does_leave {w : World} {p mb B c : Nat} {al : IL} {tick now : Int} {P : Nat → Prop} {A : Option Addr} {l : List S136} {k : ByteArray} (h : IBk w p mb al tick) (hq : QR w B P (.slice A l.length c) l) (hB : B ≤ w.heap.size) (hP : ∀ k, P k → k < w.heap.size ∧ k ≠ p ∧ k ≠ mb) (hl : l.length ≤ 900) (ha : k.size ≤ 100) (hu : 0 ≤ (getI k al).2.1 ∧ (getI k al).2.1 ≤ 1000000) :
    Calls Tryd.prog 29 #[.pointer (some ⟨p, 0, none⟩), .agg #[.slice A l.length c, .int .i64 now], .agg #[.int .i64 3, .string k]] w fun e w' => ∃ v r m b, e = .returned (.tuple #[.agg #[v, .int .i64 m], .bool b]) ∧ QR w' B (fun k => P k ∨ w.heap.size ≤ k) v r ∧ r.length ≤ l.length + 1 ∧
      IBk w' p mb (leaveA k tick al) tick ∧ Keeps (fun i => P i ∨ i = p ∨ i = mb) w w' := by
  obtain ⟨W1, hW1, k4, k5, k6, hB1, hS1⟩ := three_boxes (w := w) (x := .slice A l.length c) (y := now) (k := 3) (a := k)
  obtain ⟨b4, hb4⟩ : ∃ b4, b4 = w.heap.size := ⟨_, rfl⟩
  obtain ⟨b5, hb5⟩ : ∃ b5, b5 = w.heap.size + 1 := ⟨_, rfl⟩
  obtain ⟨b6, hb6⟩ : ∃ b6, b6 = w.heap.size + 2 := ⟨_, rfl⟩
  rw [← hb4] at k4
  rw [← hb5] at k5
  rw [← hb6] at k6
  have hlt := h.lt
  have HI1 := hid (h.below hB1)
  have HQ1 := hid (Kd.R_below hq hB1)
  have HIM := hid (fun W (hI : IBk W p mb al tick) => leave_any hI k hu)
  have hrf := (show RefSays 67 B P l now k from says_leave hl)
  unfold RefSays at hrf
  have HRF := hid hrf
  clear hrf
  have HP := hid hP
  have HB := hid hB
  have HB1 := hid hB1
  have hbb : b4 < W1.heap.size ∧ b5 < W1.heap.size ∧ b6 < W1.heap.size := by omega
  have hn4 : w.heap.size ≤ b4 ∧ w.heap.size ≤ b5 ∧ w.heap.size ≤ b6 ∧ b4 ≠ b6 ∧ b4 ≠ b5 ∧ b5 ≠ b6 := by omega
  have hS1' := hid hS1
  have HHH := hid hn4
  have HBB := hid hbb
  have HLT := hid hlt
  generalize leaveA k tick al = al2 at *
  generalize leaveC k al = ca at *
  obtain ⟨x0, x1, -⟩ := cells2 k5
  have K4 := hid k4
  have K5 := hid k5
  have K6 := hid k6
  clear h hq hB hP hl ha hB1 hS1 hn4 hbb hlt k4 k5 k6
  go_enter Tryd.func29, Tryd.ntmps29
  go_upto_region 1 with fail
  rw [← hb6, ← hb5, ← hb4, ← hW1]
  clear hb4 hb5 hb6 hW1
  go_upto_region 18 with (first
    | (go_at_call 67; go_must (with_reducible refine (HRF.out w2 A c HQ2.out HS2.out.1 HS2.out.2).mono ?_); rintro e w3 ⟨v3, r, m, t, rfl, hR3, hl3, hk3⟩; obtain ⟨A3, c3, hv3⟩ := Kd.R_slice hR3; subst hv3; have HR3 := hid hR3; have HL3 := hid hl3; have HK3 := hid hk3; have K43 := hid (blk_keeps hk3 (fun e => by have := (HP.out _ e).1; have := HHH.out; omega) K42.out); obtain ⟨v0, v1, vf⟩ := cells2 K43.out; have vf0 := vf 0; have vf1 := vf 1; clear hR3 hl3 hk3 vf)
    | (go_at_call 66; go_must (with_reducible refine (HIM.out W1 HI1.out).mono ?_); rintro e w2 ⟨rfl, hI2, hk2⟩; have K42 := hid (blk_keeps hk2 (by have := HHH.out; have := HLT.out; omega) K4.out); have K52 := hid (blk_keeps hk2 (by have := HHH.out; have := HLT.out; omega) K5.out); obtain ⟨y0, y1, -⟩ := cells2 K42.out; obtain ⟨z0, z1, -⟩ := cells2 K52.out; have HQ2 := hid (Kd.R_kept (S := fun i => i = mb) HQ1.out ⟨hk2.size, hk2.block⟩ (fun k hk => (HP.out k hk).2.2)); have HI2 := hid hI2; have HK2 := hid hk2; have HS2 := hid (show B ≤ w2.heap.size ∧ ∀ k, P k → k < w2.heap.size from ⟨Nat.le_trans HB.out (Nat.le_trans HB1.out.size hk2.size), fun k hk => Nat.lt_of_lt_of_le (HP.out k hk).1 (Nat.le_trans HB1.out.size hk2.size)⟩); clear hI2 hk2))
  obtain ⟨W4, hW4⟩ : ∃ W4, W4 = (w3.setCell ⟨b4, 0, none⟩ (.slice A3 r.length c3)).setCell ⟨b4, 1, none⟩ (.int .i64 m) := ⟨_, rfl⟩
  have k44 : W4.heap[b4]? = some (.cells #[.slice A3 r.length c3, .int .i64 m] 60 (0, 0)) := by rw [hW4]; exact put2 K43.out
  have hk4 : Keeps (fun i => i = b4) w3 W4 := by rw [hW4]; exact ((Keeps.refl (fun i => i = b4) w3).setCell ⟨b4, 0, none⟩ _ (.inl rfl)).setCell ⟨b4, 1, none⟩ _ (.inl rfl)
  have k64 : W4.heap[b6]? = some (.cells #[.slice none 0 0, .int .i64 0] 60 (0, 0)) := blk_keeps hk4 (by have := HHH.out; omega) (blk_keeps HK3.out (fun e => by have := (HP.out _ e).1; have := HHH.out; omega) (blk_keeps HK2.out (by have := HHH.out; have := HLT.out; omega) K6.out))
  have hs2 := HK2.out.size
  have hbl := HBB.out
  have HR4 := hid (show QR W4 B (fun k => P k ∨ w2.heap.size ≤ k) (.slice A3 r.length c3) r by rw [hW4]; exact put2_R HR3.out (fun k hk e => by
    rcases hk with h1 | h1
    · have := (HP.out k h1).1; have := HHH.out; omega
    · omega))
  rw [← hW4]
  clear hW4 v0 v1 vf0 vf1
  obtain ⟨v0, v1, -⟩ := cells2 k44
  obtain ⟨u0, u1, uf⟩ := cells2 k64
  have uf0 := uf 0
  have uf1 := uf 1
  have K44 := hid k44
  have K64 := hid k64
  have HK4 := hid hk4
  clear uf k44 k64 hk4 hs2 hbl
  go_wp2_with fail
  refine bodyPost_ret (results_ct rfl _ _ b6 60 #[.slice A3 r.length c3, .int .i64 m] (0, 0) _ rfl (put2 K64.out) Tryd.underlying60 rfl (by kernel_rfl)) rfl ?_
  have hk6 : Keeps (fun i => i = b6) W4 ((W4.setCell ⟨b6, 0, none⟩ (.slice A3 r.length c3)).setCell ⟨b6, 1, none⟩ (.int .i64 m)) := ((Keeps.refl (fun i => i = b6) W4).setCell ⟨b6, 0, none⟩ _ (.inl rfl)).setCell ⟨b6, 1, none⟩ _ (.inl rfl)
  have hh := HHH.out
  have hl2 := HLT.out
  have hs1 := HB1.out.size
  have hs2 := HK2.out.size
  have hbl := HBB.out
  have kk : Keeps (fun i => P i ∨ i = p ∨ i = mb) w ((W4.setCell ⟨b6, 0, none⟩ (.slice A3 r.length c3)).setCell ⟨b6, 1, none⟩ (.int .i64 m)) :=
    (((((Keeps.of_below (F := fun i => P i ∨ i = p ∨ i = mb) HB1.out).trans HK2.out (fun i hi => .inl (.inr (.inr hi)))).trans HK3.out (fun i hi => .inl (.inl hi))).trans HK4.out (fun i hi => .inr (by omega))).trans hk6 (fun i hi => .inr (by omega)))
  exact ⟨_, r, m, _, rfl, Kd.R_mono (put2_R HR4.out (fun k hk e => by
    rcases hk with h1 | h1
    · have := (HP.out k h1).1; omega
    · omega)) (fun k hk => hk.imp id (fun h1 => by omega)), HL3.out,
    ((HI2.out.kept HK3.out (fun e => (HP.out p e).2.1 rfl) (fun e => (HP.out mb e).2.2 rfl)).kept HK4.out (by omega) (by omega)).kept hk6 (by omega) (by omega), kk⟩

set_option maxRecDepth 10000 in
set_option maxHeartbeats 2000000 in
theorem does_pull {w : World} {p mb B c : Nat} {al : IL} {tick now : Int} {P : Nat → Prop} {A : Option Addr} {l : List S136} {k : ByteArray} (h : IBk w p mb al tick) (hq : QR w B P (.slice A l.length c) l) (hB : B ≤ w.heap.size) (hP : ∀ k, P k → k < w.heap.size ∧ k ≠ p ∧ k ≠ mb) (hl : l.length ≤ 900) (ha : k.size ≤ 100) (hG : ∀ W, Below w.heap.size w W → Gm W) :
    Calls Tryd.prog 29 #[.pointer (some ⟨p, 0, none⟩), .agg #[.slice A l.length c, .int .i64 now], .agg #[.int .i64 0, .string k]] w fun e w' => ∃ v r m b, e = .returned (.tuple #[.agg #[v, .int .i64 m], .bool b]) ∧ QR w' B (fun k => P k ∨ w.heap.size ≤ k) v r ∧ r.length ≤ l.length + 1 ∧
      IBk w' p mb (pullA k al) tick ∧ Keeps (fun i => P i ∨ i = p ∨ i = mb) w w' := by
  obtain ⟨W1, hW1, k4, k5, k6, hB1, hS1⟩ := three_boxes (w := w) (x := .slice A l.length c) (y := now) (k := 0) (a := k)
  obtain ⟨b4, hb4⟩ : ∃ b4, b4 = w.heap.size := ⟨_, rfl⟩
  obtain ⟨b5, hb5⟩ : ∃ b5, b5 = w.heap.size + 1 := ⟨_, rfl⟩
  obtain ⟨b6, hb6⟩ : ∃ b6, b6 = w.heap.size + 2 := ⟨_, rfl⟩
  rw [← hb4] at k4
  rw [← hb5] at k5
  rw [← hb6] at k6
  have hlt := h.lt
  have HI1 := hid (h.below hB1)
  have HQ1 := hid (Kd.R_below hq hB1)
  have hG1 := hG W1 hB1
  have HIM := hid (fun (W : World) (hI : IBk W1 p mb al tick) => pull_any hI k (by omega) hG1)
  have hrf := (show RefSays 61 B P l now k from says_pull hl ha)
  unfold RefSays at hrf
  have HRF := hid hrf
  clear hrf
  have HP := hid hP
  have HB := hid hB
  have HB1 := hid hB1
  have hbb : b4 < W1.heap.size ∧ b5 < W1.heap.size ∧ b6 < W1.heap.size := by omega
  have hn4 : w.heap.size ≤ b4 ∧ w.heap.size ≤ b5 ∧ w.heap.size ≤ b6 ∧ b4 ≠ b6 ∧ b4 ≠ b5 ∧ b5 ≠ b6 := by omega
  have hS1' := hid hS1
  have HHH := hid hn4
  have HBB := hid hbb
  have HLT := hid hlt
  generalize pullA k al = al2 at *
  generalize pullC k al = ca at *
  obtain ⟨x0, x1, -⟩ := cells2 k5
  have K4 := hid k4
  have K5 := hid k5
  have K6 := hid k6
  clear h hq hB hP hl ha hB1 hS1 hn4 hbb hlt k4 k5 k6
  go_enter Tryd.func29, Tryd.ntmps29
  go_upto_region 1 with fail
  rw [← hb6, ← hb5, ← hb4, ← hW1]
  clear hb4 hb5 hb6 hW1
  go_upto_region 18 with (first
    | (go_at_call 61; go_must (with_reducible refine (HRF.out w2 A c HQ2.out HS2.out.1 HS2.out.2).mono ?_); rintro e w3 ⟨v3, r, m, t, rfl, hR3, hl3, hk3⟩; obtain ⟨A3, c3, hv3⟩ := Kd.R_slice hR3; subst hv3; have HR3 := hid hR3; have HL3 := hid hl3; have HK3 := hid hk3; have K43 := hid (blk_keeps hk3 (fun e => by have := (HP.out _ e).1; have := HHH.out; omega) K42.out); obtain ⟨v0, v1, vf⟩ := cells2 K43.out; have vf0 := vf 0; have vf1 := vf 1; clear hR3 hl3 hk3 vf)
    | (go_at_call 58; go_must (with_reducible refine (HIM.out W1 HI1.out).mono ?_); rintro e w2 ⟨rfl, hI2, hk2⟩; have K42 := hid (blk_keeps hk2 (by have := HHH.out; have := HLT.out; omega) K4.out); have K52 := hid (blk_keeps hk2 (by have := HHH.out; have := HLT.out; omega) K5.out); obtain ⟨y0, y1, -⟩ := cells2 K42.out; obtain ⟨z0, z1, -⟩ := cells2 K52.out; have HQ2 := hid (Kd.R_kept (S := fun i => i = mb) HQ1.out ⟨hk2.size, hk2.block⟩ (fun k hk => (HP.out k hk).2.2)); have HI2 := hid hI2; have HK2 := hid hk2; have HS2 := hid (show B ≤ w2.heap.size ∧ ∀ k, P k → k < w2.heap.size from ⟨Nat.le_trans HB.out (Nat.le_trans HB1.out.size hk2.size), fun k hk => Nat.lt_of_lt_of_le (HP.out k hk).1 (Nat.le_trans HB1.out.size hk2.size)⟩); clear hI2 hk2))
  obtain ⟨W4, hW4⟩ : ∃ W4, W4 = (w3.setCell ⟨b4, 0, none⟩ (.slice A3 r.length c3)).setCell ⟨b4, 1, none⟩ (.int .i64 m) := ⟨_, rfl⟩
  have k44 : W4.heap[b4]? = some (.cells #[.slice A3 r.length c3, .int .i64 m] 60 (0, 0)) := by rw [hW4]; exact put2 K43.out
  have hk4 : Keeps (fun i => i = b4) w3 W4 := by rw [hW4]; exact ((Keeps.refl (fun i => i = b4) w3).setCell ⟨b4, 0, none⟩ _ (.inl rfl)).setCell ⟨b4, 1, none⟩ _ (.inl rfl)
  have k64 : W4.heap[b6]? = some (.cells #[.slice none 0 0, .int .i64 0] 60 (0, 0)) := blk_keeps hk4 (by have := HHH.out; omega) (blk_keeps HK3.out (fun e => by have := (HP.out _ e).1; have := HHH.out; omega) (blk_keeps HK2.out (by have := HHH.out; have := HLT.out; omega) K6.out))
  have hs2 := HK2.out.size
  have hbl := HBB.out
  have HR4 := hid (show QR W4 B (fun k => P k ∨ w2.heap.size ≤ k) (.slice A3 r.length c3) r by rw [hW4]; exact put2_R HR3.out (fun k hk e => by
    rcases hk with h1 | h1
    · have := (HP.out k h1).1; have := HHH.out; omega
    · omega))
  rw [← hW4]
  clear hW4 v0 v1 vf0 vf1
  obtain ⟨v0, v1, -⟩ := cells2 k44
  obtain ⟨u0, u1, uf⟩ := cells2 k64
  have uf0 := uf 0
  have uf1 := uf 1
  have K44 := hid k44
  have K64 := hid k64
  have HK4 := hid hk4
  clear uf k44 k64 hk4 hs2 hbl
  go_wp2_with fail
  refine bodyPost_ret (results_ct rfl _ _ b6 60 #[.slice A3 r.length c3, .int .i64 m] (0, 0) _ rfl (put2 K64.out) Tryd.underlying60 rfl (by kernel_rfl)) rfl ?_
  have hk6 : Keeps (fun i => i = b6) W4 ((W4.setCell ⟨b6, 0, none⟩ (.slice A3 r.length c3)).setCell ⟨b6, 1, none⟩ (.int .i64 m)) := ((Keeps.refl (fun i => i = b6) W4).setCell ⟨b6, 0, none⟩ _ (.inl rfl)).setCell ⟨b6, 1, none⟩ _ (.inl rfl)
  have hh := HHH.out
  have hl2 := HLT.out
  have hs1 := HB1.out.size
  have hs2 := HK2.out.size
  have hbl := HBB.out
  have kk : Keeps (fun i => P i ∨ i = p ∨ i = mb) w ((W4.setCell ⟨b6, 0, none⟩ (.slice A3 r.length c3)).setCell ⟨b6, 1, none⟩ (.int .i64 m)) :=
    (((((Keeps.of_below (F := fun i => P i ∨ i = p ∨ i = mb) HB1.out).trans HK2.out (fun i hi => .inl (.inr (.inr hi)))).trans HK3.out (fun i hi => .inl (.inl hi))).trans HK4.out (fun i hi => .inr (by omega))).trans hk6 (fun i hi => .inr (by omega)))
  exact ⟨_, r, m, _, rfl, Kd.R_mono (put2_R HR4.out (fun k hk e => by
    rcases hk with h1 | h1
    · have := (HP.out k h1).1; omega
    · omega)) (fun k hk => hk.imp id (fun h1 => by omega)), HL3.out,
    ((HI2.out.kept HK3.out (fun e => (HP.out p e).2.1 rfl) (fun e => (HP.out mb e).2.2 rfl)).kept HK4.out (by omega) (by omega)).kept hk6 (by omega) (by omega), kk⟩

set_option maxRecDepth 10000 in
set_option maxHeartbeats 2000000 in
theorem does_drop {w : World} {p mb B c : Nat} {al : IL} {tick now : Int} {P : Nat → Prop} {A : Option Addr} {l : List S136} {k : ByteArray} {kind : Int} (h : IBk w p mb al tick) (hq : QR w B P (.slice A l.length c) l) (hB : B ≤ w.heap.size) (hP : ∀ k, P k → k < w.heap.size ∧ k ≠ p ∧ k ≠ mb) (hl : l.length ≤ 900) (ha : k.size ≤ 100) (hkd : kind ≠ 0 ∧ kind ≠ 1 ∧ kind ≠ 2 ∧ kind ≠ 3) :
    Calls Tryd.prog 29 #[.pointer (some ⟨p, 0, none⟩), .agg #[.slice A l.length c, .int .i64 now], .agg #[.int .i64 kind, .string k]] w fun e w' => ∃ v r m b, e = .returned (.tuple #[.agg #[v, .int .i64 m], .bool b]) ∧ QR w' B (fun k => P k ∨ w.heap.size ≤ k) v r ∧ r.length ≤ l.length + 1 ∧
      IBk w' p mb (dropA k al) tick ∧ Keeps (fun i => P i ∨ i = p ∨ i = mb) w w' := by
  obtain ⟨W1, hW1, k4, k5, k6, hB1, hS1⟩ := three_boxes (w := w) (x := .slice A l.length c) (y := now) (k := kind) (a := k)
  obtain ⟨b4, hb4⟩ : ∃ b4, b4 = w.heap.size := ⟨_, rfl⟩
  obtain ⟨b5, hb5⟩ : ∃ b5, b5 = w.heap.size + 1 := ⟨_, rfl⟩
  obtain ⟨b6, hb6⟩ : ∃ b6, b6 = w.heap.size + 2 := ⟨_, rfl⟩
  rw [← hb4] at k4
  rw [← hb5] at k5
  rw [← hb6] at k6
  have hlt := h.lt
  have HI1 := hid (h.below hB1)
  have HQ1 := hid (Kd.R_below hq hB1)
  have HIM := hid (fun W (hI : IBk W p mb al tick) => drop_any hI k)
  have hrf := (show RefSays 68 B P l now k from says_drop hl)
  unfold RefSays at hrf
  have HRF := hid hrf
  clear hrf
  have HP := hid hP
  have HB := hid hB
  have HB1 := hid hB1
  have hbb : b4 < W1.heap.size ∧ b5 < W1.heap.size ∧ b6 < W1.heap.size := by omega
  have hn4 : w.heap.size ≤ b4 ∧ w.heap.size ≤ b5 ∧ w.heap.size ≤ b6 ∧ b4 ≠ b6 ∧ b4 ≠ b5 ∧ b5 ≠ b6 := by omega
  have hS1' := hid hS1
  have HHH := hid hn4
  have HBB := hid hbb
  have HLT := hid hlt
  generalize dropA k al = al2 at *
  generalize dropC k al = ca at *
  obtain ⟨x0, x1, -⟩ := cells2 k5
  have K4 := hid k4
  have K5 := hid k5
  have K6 := hid k6
  have q0 : (kind == 0) = false := by simp; omega
  have q1 : (kind == 1) = false := by simp; omega
  have q2 : (kind == 2) = false := by simp; omega
  have q3 : (kind == 3) = false := by simp; omega
  have e0 : decide (kind = 0) = false := by simp; omega
  have e1 : decide (kind = 1) = false := by simp; omega
  have e2 : decide (kind = 2) = false := by simp; omega
  have e3 : decide (kind = 3) = false := by simp; omega
  clear hkd
  clear h hq hB hP hl ha hB1 hS1 hn4 hbb hlt k4 k5 k6
  go_enter Tryd.func29, Tryd.ntmps29
  go_upto_region 1 with fail
  rw [← hb6, ← hb5, ← hb4, ← hW1]
  clear hb4 hb5 hb6 hW1
  go_upto_region 18 with (first
    | (go_at_call 68; go_must (with_reducible refine (HRF.out w2 A c HQ2.out HS2.out.1 HS2.out.2).mono ?_); rintro e w3 ⟨v3, r, m, t, rfl, hR3, hl3, hk3⟩; obtain ⟨A3, c3, hv3⟩ := Kd.R_slice hR3; subst hv3; have HR3 := hid hR3; have HL3 := hid hl3; have HK3 := hid hk3; have K43 := hid (blk_keeps hk3 (fun e => by have := (HP.out _ e).1; have := HHH.out; omega) K42.out); obtain ⟨v0, v1, vf⟩ := cells2 K43.out; have vf0 := vf 0; have vf1 := vf 1; clear hR3 hl3 hk3 vf)
    | (go_at_call 31; go_must (with_reducible refine (HIM.out W1 HI1.out).mono ?_); rintro e w2 ⟨rfl, hI2, hk2⟩; have K42 := hid (blk_keeps hk2 (by have := HHH.out; have := HLT.out; omega) K4.out); have K52 := hid (blk_keeps hk2 (by have := HHH.out; have := HLT.out; omega) K5.out); obtain ⟨y0, y1, -⟩ := cells2 K42.out; obtain ⟨z0, z1, -⟩ := cells2 K52.out; have HQ2 := hid (Kd.R_kept (S := fun i => i = mb) HQ1.out ⟨hk2.size, hk2.block⟩ (fun k hk => (HP.out k hk).2.2)); have HI2 := hid hI2; have HK2 := hid hk2; have HS2 := hid (show B ≤ w2.heap.size ∧ ∀ k, P k → k < w2.heap.size from ⟨Nat.le_trans HB.out (Nat.le_trans HB1.out.size hk2.size), fun k hk => Nat.lt_of_lt_of_le (HP.out k hk).1 (Nat.le_trans HB1.out.size hk2.size)⟩); clear hI2 hk2))
  obtain ⟨W4, hW4⟩ : ∃ W4, W4 = (w3.setCell ⟨b4, 0, none⟩ (.slice A3 r.length c3)).setCell ⟨b4, 1, none⟩ (.int .i64 m) := ⟨_, rfl⟩
  have k44 : W4.heap[b4]? = some (.cells #[.slice A3 r.length c3, .int .i64 m] 60 (0, 0)) := by rw [hW4]; exact put2 K43.out
  have hk4 : Keeps (fun i => i = b4) w3 W4 := by rw [hW4]; exact ((Keeps.refl (fun i => i = b4) w3).setCell ⟨b4, 0, none⟩ _ (.inl rfl)).setCell ⟨b4, 1, none⟩ _ (.inl rfl)
  have k64 : W4.heap[b6]? = some (.cells #[.slice none 0 0, .int .i64 0] 60 (0, 0)) := blk_keeps hk4 (by have := HHH.out; omega) (blk_keeps HK3.out (fun e => by have := (HP.out _ e).1; have := HHH.out; omega) (blk_keeps HK2.out (by have := HHH.out; have := HLT.out; omega) K6.out))
  have hs2 := HK2.out.size
  have hbl := HBB.out
  have HR4 := hid (show QR W4 B (fun k => P k ∨ w2.heap.size ≤ k) (.slice A3 r.length c3) r by rw [hW4]; exact put2_R HR3.out (fun k hk e => by
    rcases hk with h1 | h1
    · have := (HP.out k h1).1; have := HHH.out; omega
    · omega))
  rw [← hW4]
  clear hW4 v0 v1 vf0 vf1
  obtain ⟨v0, v1, -⟩ := cells2 k44
  obtain ⟨u0, u1, uf⟩ := cells2 k64
  have uf0 := uf 0
  have uf1 := uf 1
  have K44 := hid k44
  have K64 := hid k64
  have HK4 := hid hk4
  clear uf k44 k64 hk4 hs2 hbl
  go_wp2_with fail
  refine bodyPost_ret (results_ct rfl _ _ b6 60 #[.slice A3 r.length c3, .int .i64 m] (0, 0) _ rfl (put2 K64.out) Tryd.underlying60 rfl (by kernel_rfl)) rfl ?_
  have hk6 : Keeps (fun i => i = b6) W4 ((W4.setCell ⟨b6, 0, none⟩ (.slice A3 r.length c3)).setCell ⟨b6, 1, none⟩ (.int .i64 m)) := ((Keeps.refl (fun i => i = b6) W4).setCell ⟨b6, 0, none⟩ _ (.inl rfl)).setCell ⟨b6, 1, none⟩ _ (.inl rfl)
  have hh := HHH.out
  have hl2 := HLT.out
  have hs1 := HB1.out.size
  have hs2 := HK2.out.size
  have hbl := HBB.out
  have kk : Keeps (fun i => P i ∨ i = p ∨ i = mb) w ((W4.setCell ⟨b6, 0, none⟩ (.slice A3 r.length c3)).setCell ⟨b6, 1, none⟩ (.int .i64 m)) :=
    (((((Keeps.of_below (F := fun i => P i ∨ i = p ∨ i = mb) HB1.out).trans HK2.out (fun i hi => .inl (.inr (.inr hi)))).trans HK3.out (fun i hi => .inl (.inl hi))).trans HK4.out (fun i hi => .inr (by omega))).trans hk6 (fun i hi => .inr (by omega)))
  exact ⟨_, r, m, _, rfl, Kd.R_mono (put2_R HR4.out (fun k hk e => by
    rcases hk with h1 | h1
    · have := (HP.out k h1).1; omega
    · omega)) (fun k hk => hk.imp id (fun h1 => by omega)), HL3.out,
    ((HI2.out.kept HK3.out (fun e => (HP.out p e).2.1 rfl) (fun e => (HP.out mb e).2.2 rfl)).kept HK4.out (by omega) (by omega)).kept hk6 (by omega) (by omega), kk⟩

end Go.Proofs.YtmgcapccgncmkaaDoor.Im
