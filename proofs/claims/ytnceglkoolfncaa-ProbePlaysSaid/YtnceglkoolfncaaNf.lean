/- Relist: what changed of a sandbox. -/
import Derived.Test.YtnceglkoolfncaaNe
import Derived.Test.YtnceglkoolfncaaNc
set_option linter.unusedSimpArgs false
set_option linter.unusedVariables false
namespace Go.Proofs.Ytnceglkoolfncaa.Rl
open Go.RowKit Go.Pv Go.Proofs.Ytnceglkoolfncaa.Po Go.Proofs.YtnceglkoolfncaaW.PrintWords Go.Proofs.YtnceglkoolfncaaW.PrintLast

/-- A sandbox that is read. -/
def CellsS (V : World) (b o : Nat) (x : BV) (v : Value) : Prop := V.cell? ⟨b, o, none⟩ = some (.int .i64 x.f0) ∧ V.cell? ⟨b, o + 1, none⟩ = some (.int .i64 x.f1) ∧ V.cell? ⟨b, o + 2, none⟩ = some (.int .i64 x.f2) ∧ V.cell? ⟨b, o + 3, none⟩ = some v
theorem pt_s {u : World} {p : Value} {x : BV} (h : Pt PRelistNone.k108 u p (some x)) : ∃ b o v, p = .pointer (some ⟨b, o, none⟩) ∧ Rz PRelistNone.k112 u v x.f3 ∧ ∀ V, Below u.heap.size u V → CellsS V b o x v := by
  obtain ⟨b, o, cs, h1, h2, h3, h4⟩ := h
  obtain ⟨A, c, rfl, l3, g3⟩ := PRelistNone.k108_open h3
  exact ⟨b, o, _, h1, ⟨A, c, rfl, l3, g3⟩, fun V hV => ⟨(hV.cell (p := ⟨b, o, none⟩) h2).trans (h4 0 _ rfl), (hV.cell (p := ⟨b, o + 1, none⟩) h2).trans (h4 1 _ rfl), (hV.cell (p := ⟨b, o + 2, none⟩) h2).trans (h4 2 _ rfl), (hV.cell (p := ⟨b, o + 3, none⟩) h2).trans (h4 3 _ rfl)⟩⟩

/-- What is told of a container, whichever it is. -/
theorem ctr_any {u w : World} {X : Nat → Prop} {pf : Nat} {L : List Ch} (h : FI u X pf L w) (hl : L.length ≤ 999990) {pa pb : Value} {oa ob : Option CV} (ha : Pt PRelistNone.k112 u pa oa) (hb : Pt PRelistNone.k112 u pb ob) (hn : oa = none → ob = none → False) (id uid st : Int) (sv : Value) :
    Calls Try.prog 155 #[.pointer (some ⟨pf, 0, none⟩), .agg #[.int .i64 id, .int .i64 uid, .int .i64 st, sv], pa, pb] w fun e w' =>
      e = .returned (.tuple #[]) ∧ FI u X pf (L ++ oneC uid id oa ob) w' ∧ KX X w w' := by
  cases ob with
  | none =>
    have hb : pb = .pointer none := hb
    subst hb
    cases oa with
    | none => exact (hn rfl rfl).elim
    | some a => exact ctr_gone h hl ha id uid st sv
  | some c =>
    cases oa with
    | none =>
      have ha : pa = .pointer none := ha
      subst ha
      exact ctr_new h hl hb id uid st sv
    | some a => exact ctr_both h hl ha hb id uid st sv

/-- The boxes of the captured: the finder, the sandbox. -/
structure Bx (V : World) (bf bn pf nb no : Nat) : Prop where
  f : V.heap[bf]? = some (.cells #[.pointer (some ⟨pf, 0, none⟩)] 195 (0, 0))
  n : V.heap[bn]? = some (.cells #[.pointer (some ⟨nb, no, none⟩)] 200 (0, 0))
theorem Bx.kx {V V' : World} {X : Nat → Prop} {bf bn pf nb no : Nat} (h : Bx V bf bn pf nb no) (k : KX X V V') (h1 : X bf) (h2 : X bn) : Bx V' bf bn pf nb no := ⟨(k bf h1).trans h.f, (k bn h2).trans h.n⟩

set_option maxRecDepth 10000 in
set_option maxHeartbeats 1000000 in
theorem inner_any {u w w1 : World} {X : Nat → Prop} {pf bf bn nb no : Nat} {L : List Ch} {x : BV} {xv : Value} (h : St u X pf w1 L w) (hl : L.length + 3 ≤ 900000) (hbx : Bx w1 bf bn pf nb no) (h1 : X bf) (h2 : X bn) (hx : ∀ V, Below u.heap.size u V → CellsS V nb no x xv)
    {pa pb : Value} {oa ob : Option CV} (ha : Pt PRelistNone.k112 u pa oa) (hb : Pt PRelistNone.k112 u pb ob) (hn : oa = none → ob = none → False) :
    Calls Try.prog 154 #[pa, pb, .pointer (some ⟨bf, 0, none⟩), .pointer (some ⟨bn, 0, none⟩)] w fun e w' => e = .returned (.tuple #[]) ∧ St u X pf w1 (L ++ oneC x.f1 x.f0 oa ob) w' := by
  have hb1 := hbx.kx h.kx h1 h2
  have c1 : w.cell? ⟨bf, 0, none⟩ = some (.pointer (some ⟨pf, 0, none⟩)) := by rw [cell_of_row w _ 0 _ _ _ hb1.f]; rfl
  have c2 : w.cell? ⟨bn, 0, none⟩ = some (.pointer (some ⟨nb, no, none⟩)) := by rw [cell_of_row w _ 0 _ _ _ hb1.n]; rfl
  obtain ⟨y0, y1, y2, y3⟩ := hx _ h.fi.low
  have h2 := h.below (Below.refl _ w).drew
  have HC := hid (ctr_any h2.fi (by omega) ha hb hn x.f0 x.f1 x.f2 xv)
  have H2 := hid h2
  clear hb1 hbx hx h h2 ha hb hn h1
  go_enter Try.func154, Try.ntmps154
  go_still_tail 6, (by kernel_rfl)
  change wpList _ _ _ _ _ _
  go_wp2_with (go_at_call 155
               go_must (with_reducible refine HC.out.mono ?_)
               rintro e w2 ⟨rfl, h3, h4⟩
               have H3 := hid h3
               have H4 := hid h4
               clear h3 h4)
  go_end0
  exact ⟨rfl, H3.out, H2.out.kx.trans H4.out⟩

/-- A store into a block that is none of the finder's. -/
theorem FI.setX {u w w' : World} {X : Nat → Prop} {pf k : Nat} {L : List Ch} (h : FI u X pf L w) (hk : X k) (hu : u.heap.size ≤ k) (hw : Keeps (fun i => i = k) w w') : FI u X pf L w' := by
  obtain ⟨⟨v, h1, h2, h3⟩, h4, h5, h6, h7⟩ := h
  refine ⟨⟨v, (hw.block pf (Array.getElem?_eq_some_iff.1 h1).1 (fun e => h5 (e ▸ hk))).trans h1, SlRow.kept h2 hw (fun g hg e => (h3 g hg).2.2 (e ▸ hk)), h3⟩, h4, h5, h6.trans (hw.below h6.size (fun i hi => hi ▸ hu)), fun i hi => Nat.lt_of_lt_of_le (h7 i hi) hw.size⟩


set_option maxRecDepth 10000 in
set_option maxHeartbeats 1000000 in
theorem box_gone {u w : World} {X : Nat → Prop} {pf : Nat} {L : List Ch} (h : FI u X pf L w) (hl : L.length ≤ 900000) {pa : Value} {a : BV} (ha : Pt PRelistNone.k108 u pa (some a)) :
    Calls Try.prog 115 #[.pointer (some ⟨pf, 0, none⟩), pa, .pointer none] w fun e w' => e = .returned (.tuple #[]) ∧ FI u X pf (L ++ oneB (some a) none) w' ∧ KX X w w' := by
  obtain ⟨ab, ao, av, rfl, -, hac⟩ := pt_s ha
  obtain ⟨W1, hW1⟩ : ∃ W1, W1 = (w.alloc (.cells #[.pointer (some ⟨pf, 0, none⟩)] 195)).alloc (.cells #[.pointer none] 200) := ⟨_, rfl⟩
  have k1 : Below w.heap.size w W1 := by rw [hW1]; exact ((Below.refl _ w).alloc (Nat.le_refl _) _).alloc (by simp) _
  have n1 : W1.heap[w.heap.size]? = some (.cells #[.pointer (some ⟨pf, 0, none⟩)] 195 (0, 0)) := by rw [hW1, Below.heap_alloc _ _ _ (by simp)]; exact heap_at w _ _ rfl
  have c1 : W1.cell? ⟨w.heap.size, 0, none⟩ = some (.pointer (some ⟨pf, 0, none⟩)) := by rw [cell_of_row W1 _ 0 _ _ _ n1]; rfl
  have k2 : Below w.heap.size w W1.drew := k1.drew
  have h2 := h.below k2
  obtain ⟨y0, y1, y2, y3⟩ := hac _ (h.below k1).low
  have HK := hid (h.kx k2)
  have H2 := hid (says_any h2 (by omega) 2 a.f0 a.f1 a.f2 0 av)
  have HW := hid hW1
  clear h ha hac k1 k2 n1 h2 hW1
  go_enter Try.func115, Try.ntmps115
  go_upto_if 8 with fail
  rw [← HW.out]
  go_wp2
  go_still_tail 4, (by kernel_rfl)
  change wpList _ _ _ _ _ _
  go_wp2_with (go_at_call 151
               go_must (with_reducible refine H2.out.mono ?_)
               rintro e w2 ⟨rfl, h3, h4⟩
               have H3 := hid h3
               have H4 := hid h4
               clear h3 h4)
  exact bodyPost_ret (v := .tuple #[]) (by simp [results, Try.results115, go_sem]) rfl ⟨rfl, H3.out, HK.out.trans H4.out⟩

theorem FI.push3 {u w : World} {X : Nat → Prop} {pf : Nat} {L : List Ch} (h : FI u X pf L w) (o1 o2 o3 : Obj) : ∃ Y : Nat → Prop, FI u Y pf L (((w.alloc o1).alloc o2).alloc o3) ∧ Y w.heap.size ∧ Y (w.heap.size + 1) ∧ Y (w.heap.size + 1 + 1) ∧
    (∀ k, X k → Y k) ∧ KX X w (((w.alloc o1).alloc o2).alloc o3) := by
  refine ⟨_, ((h.push o1).push o2).push o3, .inl (.inl (.inr rfl)), .inl (.inr (by simp)), .inr (by simp), fun k hk => .inl (.inl (.inl hk)), h.kx ?_⟩
  exact (((Below.refl _ w).alloc (Nat.le_refl _) _).alloc (by simp) _).alloc (by simp; omega) _

/-- What holds from the test of the states on. -/
structure Sb (u w : World) (X Y : Nat → Prop) (pf bf bn bl bb bo : Nat) (ost : Int) (ov : Value) (L : List Ch) (V : World) : Prop where
  fi : FI u Y pf L V
  bx : Bx V bf bn pf bb bo
  old : ∃ p q, V.heap[bl]? = some (.cells #[p, q, .int .i64 ost, ov] 108 (0, 0))
  y0 : Y bf
  y1 : Y bn
  y2 : Y bl
  xy : ∀ k, X k → Y k
  kx : KX X w V
section
variable {u w V V' : World} {X Y : Nat → Prop} {pf bf bn bl bb bo : Nat} {ost : Int} {ov : Value} {L L' : List Ch}
theorem Sb.step (h : Sb u w X Y pf bf bn bl bb bo ost ov L V) (hf : FI u Y pf L' V') (hk : KX Y V V') : Sb u w X Y pf bf bn bl bb bo ost ov L' V' := by
  obtain ⟨p, q, ho⟩ := h.old
  exact ⟨hf, h.bx.kx hk h.y0 h.y1, ⟨p, q, (hk bl h.y2).trans ho⟩, h.y0, h.y1, h.y2, h.xy, h.kx.trans (hk.mono h.xy)⟩
theorem Sb.below (h : Sb u w X Y pf bf bn bl bb bo ost ov L V) (hb : Below V.heap.size V V') : Sb u w X Y pf bf bn bl bb bo ost ov L V' := h.step (h.fi.below hb) (h.fi.kx hb)
theorem Sb.cells (h : Sb u w X Y pf bf bn bl bb bo ost ov L V) : V.cell? ⟨bf, 0, none⟩ = some (.pointer (some ⟨pf, 0, none⟩)) ∧ V.cell? ⟨bn, 0, none⟩ = some (.pointer (some ⟨bb, bo, none⟩)) ∧ V.cell? ⟨bl, 2, none⟩ = some (.int .i64 ost) ∧ V.cell? ⟨bl, 3, none⟩ = some ov := by
  obtain ⟨p, q, ho⟩ := h.old
  exact ⟨by rw [cell_of_row V _ 0 _ _ _ h.bx.f]; rfl, by rw [cell_of_row V _ 0 _ _ _ h.bx.n]; rfl, by rw [cell_of_row V _ 2 _ _ _ ho]; rfl, by rw [cell_of_row V _ 3 _ _ _ ho]; rfl⟩
theorem Sb.says (h : Sb u w X Y pf bf bn bl bb bo ost ov L V) (hl : L.length ≤ 1000000) (kind id uid st n : Int) (sv : Value) :
    Calls Try.prog 151 #[.pointer (some ⟨pf, 0, none⟩), .int .i64 kind, .agg #[.int .i64 id, .int .i64 uid, .int .i64 st, sv], .int .i64 n] V fun e w' =>
      e = .returned (.tuple #[]) ∧ Sb u w X Y pf bf bn bl bb bo ost ov (L ++ [(kind, uid, id, n)]) w' :=
  (says_any h.fi hl kind id uid st n sv).mono fun e w' ⟨h1, h2, h3⟩ => ⟨h1, h.step h2 h3⟩
theorem Sb.merge (h : Sb u w X Y pf bf bn bl bb bo ost ov L V) {la : List CV} {b : BV} {bv : Value} (ha : Rz PRelistNone.k112 u ov la) (hb : Rz PRelistNone.k112 u bv b.f3) (hx : ∀ V, Below u.heap.size u V → CellsS V bb bo b bv) (hL : L.length + 3 * (la.length + b.f3.length) ≤ 900000) :
    Calls Try.prog 152 #[ov, bv, .func (.func 153) #[] #[], .func (.func 154) #[] #[.pointer (some ⟨bf, 0, none⟩), .pointer (some ⟨bn, 0, none⟩)]] V fun e w' =>
      e = .returned (.tuple #[]) ∧ Sb u w X Y pf bf bn bl bb bo ost ov (L ++ ctrsL b.f1 b.f0 la b.f3) w' :=
  (mergeC ha hb (.pointer (some ⟨bf, 0, none⟩)) (.pointer (some ⟨bn, 0, none⟩)) (oneC b.f1 b.f0) (fun L W => St u Y pf V L W) 3 L (fun _ _ _ h hb => h.below hb) (fun _ _ h => h.fi.low) (fun oa ob _ _ => oneC_len _ _ oa ob)
    (fun L W pa pb oa ob hi hl ha hb _ _ hn => inner_any hi hl h.bx h.y0 h.y1 hx ha hb hn) hL ⟨h.fi, KX.refl _ _⟩).mono fun e w' ⟨h1, h2⟩ => ⟨h1, h.step h2.fi h2.kx⟩
end

set_option maxRecDepth 10000 in
set_option maxHeartbeats 4000000 in
theorem box_new {u w : World} {X : Nat → Prop} {pf : Nat} {L : List Ch} (h : FI u X pf L w) (hl : L.length + 700 ≤ 900000) {pb : Value} {b : BV} (hb : Pt PRelistNone.k108 u pb (some b)) (hbl : b.f3.length ≤ 100) :
    Calls Try.prog 115 #[.pointer (some ⟨pf, 0, none⟩), .pointer none, pb] w fun e w' => e = .returned (.tuple #[]) ∧ FI u X pf (L ++ oneB none (some b)) w' ∧ KX X w w' := by
  obtain ⟨bb, bo, bv, rfl, hbr, hbc⟩ := pt_s hb
  obtain ⟨Y, f3, y0, y1, y2, hXY, k3⟩ := h.push3 (.cells #[.pointer (some ⟨pf, 0, none⟩)] 195) (.cells #[.pointer (some ⟨bb, bo, none⟩)] 200) (.cells #[.int .i64 0, .int .i64 0, .int .i64 1, .slice none 0 0] 108)
  have hlow := h.low.size
  have hxl := h.xlt
  obtain ⟨W3, hW3⟩ : ∃ W3, W3 = ((w.alloc (.cells #[.pointer (some ⟨pf, 0, none⟩)] 195)).alloc (.cells #[.pointer (some ⟨bb, bo, none⟩)] 200)).alloc (.cells #[.int .i64 0, .int .i64 0, .int .i64 1, .slice none 0 0] 108) := ⟨_, rfl⟩
  rw [← hW3] at f3 k3
  have n0 : W3.heap[w.heap.size]? = some (.cells #[.pointer (some ⟨pf, 0, none⟩)] 195 (0, 0)) := by rw [hW3, Below.heap_alloc _ _ _ (by simp; omega), Below.heap_alloc _ _ _ (by simp)]; exact heap_at w _ _ rfl
  have n1 : W3.heap[w.heap.size + 1]? = some (.cells #[.pointer (some ⟨bb, bo, none⟩)] 200 (0, 0)) := by rw [hW3, Below.heap_alloc _ _ _ (by simp)]; exact heap_at _ _ _ (by simp)
  have n2 : W3.heap[w.heap.size + 1 + 1]? = some (.cells #[.int .i64 0, .int .i64 0, .int .i64 1, .slice none 0 0] 108 (0, 0)) := by rw [hW3]; exact heap_at _ _ _ (by simp)
  obtain ⟨bf, hbf⟩ : ∃ bf, bf = w.heap.size := ⟨_, rfl⟩
  obtain ⟨bn, hbn⟩ : ∃ bn, bn = w.heap.size + 1 := ⟨_, rfl⟩
  obtain ⟨bl, hbl'⟩ : ∃ bl, bl = w.heap.size + 1 + 1 := ⟨_, rfl⟩
  have hub : u.heap.size ≤ bl := by omega
  have hd1 : bf ≠ bl := by omega
  have hd2 : bn ≠ bl := by omega
  have HBF := hid (And.intro hbf (And.intro hbn hbl'))
  rw [← hbl'] at n2 y2
  rw [← hbn] at n1 y1
  rw [← hbf] at n0 y0
  have HD := hid (And.intro hub (And.intro hd1 hd2))
  clear hbf hbn hbl' hlow hub hd1 hd2 h
  have HW3 := hid hW3
  clear hW3
  have HXL := hid hxl
  clear hxl
  have s3 : Sb u w X Y pf bf bn bl bb bo 1 (.slice none 0 0) L W3 := ⟨f3, ⟨n0, n1⟩, ⟨_, _, n2⟩, y0, y1, y2, hXY, k3⟩
  have S3 := hid s3
  have HBC := hid hbc
  have HBR := hid hbr
  clear s3 hbc hbr hb
  go_enter Try.func115, Try.ntmps115
  go_upto_if 16 with fail
  rw [← HW3.out, ← HBF.out.2.2, ← HBF.out.2.1, ← HBF.out.1]
  have H1 := hid ((S3.out.below (Below.refl _ W3).drew).says (by omega) 1 b.f0 b.f1 b.f2 0 bv)
  obtain ⟨c0, c1, c2, c3⟩ := S3.out.cells
  obtain ⟨x0, x1, x2, x3⟩ := HBC.out _ S3.out.fi.low
  obtain ⟨s, hs⟩ : ∃ s, s = (b.f2 != 1) := ⟨_, rfl⟩
  have hs' := hs.symm
  have HS := hid hs
  clear hs n0 n1 n2 f3 k3 y0 y1 y2 hXY
  go_wp2
  go_still_tail 4, (by kernel_rfl)
  change wpList _ _ _ _ _ _
  clear c0 c1 c2 c3 x0 x1 x2 x3
  cases s
  · go_wp2_with (go_at_call 151
                 go_must (with_reducible refine H1.out.mono ?_)
                 rintro e w4 ⟨rfl, h4⟩
                 obtain ⟨c0, c1, c2, c3⟩ := h4.cells
                 obtain ⟨x0, x1, x2, x3⟩ := HBC.out _ h4.fi.low
                 have S4 := hid h4
                 clear h4)
    have H6 := hid ((S4.out.below (Below.refl _ w4).drew).merge (la := []) (Rz.nil _ _) HBR.out HBC.out (by simp; omega))
    go_still_tail 7, (by kernel_rfl)
    change wpList _ _ _ _ _ _
    clear c0 c1 c2 c3 x0 x1 x2 x3
    go_wp2_with (go_at_call 152
                 go_must (with_reducible refine H6.out.mono ?_)
                 rintro e w6 ⟨rfl, h6⟩
                 have S6 := hid h6
                 clear h6)
    go_end0
    refine ⟨rfl, ?_, S6.out.kx⟩
    have h9 := S6.out.fi.fewer S6.out.xy
    have hs := HS.out
    simpa [oneB, ← hs] using h9
  · go_wp2_with (go_at_call 151
                 go_must (with_reducible refine H1.out.mono ?_)
                 rintro e w4 ⟨rfl, h4⟩
                 obtain ⟨c0, c1, c2, c3⟩ := h4.cells
                 obtain ⟨x0, x1, x2, x3⟩ := HBC.out _ h4.fi.low
                 have S4 := hid h4
                 clear h4)
    have H5 := hid ((S4.out.below (Below.refl _ w4).drew).says (by simp; omega) 3 b.f0 b.f1 b.f2 0 bv)
    go_still_tail 4, (by kernel_rfl)
    change wpList _ _ _ _ _ _
    clear c0 c1 c2 c3 x0 x1 x2 x3
    go_wp2_with (go_at_call 151
                 go_must (with_reducible refine H5.out.mono ?_)
                 rintro e w5 ⟨rfl, h5⟩
                 obtain ⟨c0, c1, c2, c3⟩ := h5.cells
                 obtain ⟨x0, x1, x2, x3⟩ := HBC.out _ h5.fi.low
                 have S5 := hid h5
                 clear h5)
    have H6 := hid ((S5.out.below (Below.refl _ w5).drew).merge (la := []) (Rz.nil _ _) HBR.out HBC.out (by simp; omega))
    go_still_tail 7, (by kernel_rfl)
    change wpList _ _ _ _ _ _
    clear c0 c1 c2 c3 x0 x1 x2 x3
    go_wp2_with (go_at_call 152
                 go_must (with_reducible refine H6.out.mono ?_)
                 rintro e w6 ⟨rfl, h6⟩
                 have S6 := hid h6
                 clear h6)
    go_end0
    refine ⟨rfl, ?_, S6.out.kx⟩
    have h9 := S6.out.fi.fewer S6.out.xy
    have hs := HS.out
    simpa [oneB, ← hs] using h9

set_option maxRecDepth 10000 in
set_option maxHeartbeats 4000000 in
theorem box_both {u w : World} {X : Nat → Prop} {pf : Nat} {L : List Ch} (h : FI u X pf L w) (hl : L.length + 700 ≤ 900000) {pa : Value} {a : BV} (ha : Pt PRelistNone.k108 u pa (some a)) (hal : a.f3.length ≤ 100) {pb : Value} {b : BV} (hb : Pt PRelistNone.k108 u pb (some b)) (hbl : b.f3.length ≤ 100) :
    Calls Try.prog 115 #[.pointer (some ⟨pf, 0, none⟩), pa, pb] w fun e w' => e = .returned (.tuple #[]) ∧ FI u X pf (L ++ oneB (some a) (some b)) w' ∧ KX X w w' := by
  obtain ⟨bb, bo, bv, rfl, hbr, hbc⟩ := pt_s hb
  obtain ⟨ab, ao, av, rfl, har, hac⟩ := pt_s ha
  obtain ⟨Y, f3, y0, y1, y2, hXY, k3⟩ := h.push3 (.cells #[.pointer (some ⟨pf, 0, none⟩)] 195) (.cells #[.pointer (some ⟨bb, bo, none⟩)] 200) (.cells #[.int .i64 0, .int .i64 0, .int .i64 1, .slice none 0 0] 108)
  have hlow := h.low.size
  have hxl := h.xlt
  obtain ⟨W3, hW3⟩ : ∃ W3, W3 = ((w.alloc (.cells #[.pointer (some ⟨pf, 0, none⟩)] 195)).alloc (.cells #[.pointer (some ⟨bb, bo, none⟩)] 200)).alloc (.cells #[.int .i64 0, .int .i64 0, .int .i64 1, .slice none 0 0] 108) := ⟨_, rfl⟩
  rw [← hW3] at f3 k3
  have n0 : W3.heap[w.heap.size]? = some (.cells #[.pointer (some ⟨pf, 0, none⟩)] 195 (0, 0)) := by rw [hW3, Below.heap_alloc _ _ _ (by simp; omega), Below.heap_alloc _ _ _ (by simp)]; exact heap_at w _ _ rfl
  have n1 : W3.heap[w.heap.size + 1]? = some (.cells #[.pointer (some ⟨bb, bo, none⟩)] 200 (0, 0)) := by rw [hW3, Below.heap_alloc _ _ _ (by simp)]; exact heap_at _ _ _ (by simp)
  have n2 : W3.heap[w.heap.size + 1 + 1]? = some (.cells #[.int .i64 0, .int .i64 0, .int .i64 1, .slice none 0 0] 108 (0, 0)) := by rw [hW3]; exact heap_at _ _ _ (by simp)
  obtain ⟨bf, hbf⟩ : ∃ bf, bf = w.heap.size := ⟨_, rfl⟩
  obtain ⟨bn, hbn⟩ : ∃ bn, bn = w.heap.size + 1 := ⟨_, rfl⟩
  obtain ⟨bl, hbl'⟩ : ∃ bl, bl = w.heap.size + 1 + 1 := ⟨_, rfl⟩
  have hub : u.heap.size ≤ bl := by omega
  have hd1 : bf ≠ bl := by omega
  have hd2 : bn ≠ bl := by omega
  have HBF := hid (And.intro hbf (And.intro hbn hbl'))
  rw [← hbl'] at n2 y2
  rw [← hbn] at n1 y1
  rw [← hbf] at n0 y0
  have HD := hid (And.intro hub (And.intro hd1 hd2))
  clear hbf hbn hbl' hlow hub hd1 hd2 h
  have HW3 := hid hW3
  clear hW3
  have HXL := hid hxl
  clear hxl
  have s3 : Sb u w X Y pf bf bn bl bb bo 1 (.slice none 0 0) L W3 := ⟨f3, ⟨n0, n1⟩, ⟨_, _, n2⟩, y0, y1, y2, hXY, k3⟩
  have S3 := hid s3
  have HBC := hid hbc
  have HBR := hid hbr
  have HAC := hid hac
  have HAR := hid har
  clear s3 hbc hbr hb hac har ha
  go_enter Try.func115, Try.ntmps115
  go_upto_if 16 with fail
  rw [← HW3.out, ← HBF.out.2.2, ← HBF.out.2.1, ← HBF.out.1]
  obtain ⟨W4, hW4⟩ : ∃ W4, W4 = (((W3.setCell ⟨bl, 0, none⟩ (.int .i64 a.f0)).setCell ⟨bl, 1, none⟩ (.int .i64 a.f1)).setCell ⟨bl, 2, none⟩ (.int .i64 a.f2)).setCell ⟨bl, 3, none⟩ av := ⟨_, rfl⟩
  have hk4 : Keeps (fun i => i = bl) W3 W4 := by rw [hW4]; exact ((((Keeps.refl (fun i => i = bl) W3).setCell ⟨bl, 0, none⟩ _ (.inl rfl)).setCell ⟨bl, 1, none⟩ _ (.inl rfl)).setCell ⟨bl, 2, none⟩ _ (.inl rfl)).setCell ⟨bl, 3, none⟩ _ (.inl rfl)
  have n4 : W4.heap[bl]? = some (.cells #[.int .i64 a.f0, .int .i64 a.f1, .int .i64 a.f2, av] 108 (0, 0)) := by
    rw [hW4]
    have e1 := heap_setCell_same W3 bl 0 _ 108 (.int .i64 a.f0) n2
    have e2 := heap_setCell_same _ bl 1 _ 108 (.int .i64 a.f1) e1
    have e3 := heap_setCell_same _ bl 2 _ 108 (.int .i64 a.f2) e2
    exact heap_setCell_same _ bl 3 _ 108 av e3
  have s4 : Sb u w X Y pf bf bn bl bb bo a.f2 av L W4 := ⟨f3.setX y2 HD.out.1 hk4, ⟨(hk4.block bf (Array.getElem?_eq_some_iff.1 n0).1 HD.out.2.1).trans n0, (hk4.block bn (Array.getElem?_eq_some_iff.1 n1).1 HD.out.2.2).trans n1⟩, ⟨_, _, n4⟩, y0, y1, y2, hXY,
    k3.trans fun k hk => hk4.block k (by have := f3.xlt k (hXY k hk); exact this) (fun e => ?xbl)⟩
  case xbl => have := HXL.out k hk; have := HBF.out.2.2; omega
  have S4 := hid s4
  have HW4 := hid hW4
  have hfz : ∀ j, W3.frozen? ⟨bl, j, none⟩ = false := fun j => by simp [World.frozen?, n2]
  have z0 := hfz 0
  have z1 := hfz 1
  have z2 := hfz 2
  have z3 := hfz 3
  have v0 : W3.cell? ⟨bl, 0, none⟩ = some (.int .i64 0) := by rw [cell_of_row W3 _ 0 _ _ _ n2]; rfl
  have v1 : W3.cell? ⟨bl, 1, none⟩ = some (.int .i64 0) := by rw [cell_of_row W3 _ 1 _ _ _ n2]; rfl
  have v2 : W3.cell? ⟨bl, 2, none⟩ = some (.int .i64 1) := by rw [cell_of_row W3 _ 2 _ _ _ n2]; rfl
  have v3 : W3.cell? ⟨bl, 3, none⟩ = some (.slice none 0 0) := by rw [cell_of_row W3 _ 3 _ _ _ n2]; rfl
  obtain ⟨x0, x1, x2, x3⟩ := HAC.out _ S3.out.fi.low
  obtain ⟨avA, avn, avc, hav⟩ : ∃ A n c, av = .slice A n c := by
    obtain ⟨A, c, h, _⟩ := HAR.out
    exact ⟨_, _, _, h⟩
  subst hav
  clear hfz s4 hW4 n0 n1 n2 n4 f3 k3 y0 y1 y2 hXY hk4
  go_upto_region 7 with fail
  rw [← HW4.out]
  clear z0 z1 z2 z3 v0 v1 v2 v3 x0 x1 x2 x3
  clear HXL
  obtain ⟨s, hs⟩ : ∃ s, s = (b.f2 != 1) := ⟨_, rfl⟩
  obtain ⟨t, ht⟩ : ∃ t, t = (a.f2 == 1) := ⟨_, rfl⟩
  have hs' := hs.symm
  have ht' := ht.symm
  have HS := hid (And.intro hs ht)
  clear hs ht
  cases s
  · skip
    obtain ⟨c0, c1, c2, c3⟩ := S4.out.cells
    obtain ⟨x0, x1, x2, x3⟩ := HBC.out _ S4.out.fi.low
    go_wp2
    have H6 := hid ((S4.out.below (Below.refl _ W4).drew).merge HAR.out HBR.out HBC.out (by omega))
    go_still_tail 7, (by kernel_rfl)
    change wpList _ _ _ _ _ _
    clear c0 c1 c2 c3 x0 x1 x2 x3
    go_wp2_with (go_at_call 152
                 go_must (with_reducible refine H6.out.mono ?_)
                 rintro e w6 ⟨rfl, h6⟩
                 have S6 := hid h6
                 clear h6)
    go_end0
    refine ⟨rfl, ?_, S6.out.kx⟩
    have h9 := S6.out.fi.fewer S6.out.xy
    obtain ⟨hs, ht⟩ := HS.out
    simpa [oneB, ← hs, ← ht] using h9
  · cases t
    · skip
      obtain ⟨c0, c1, c2, c3⟩ := S4.out.cells
      obtain ⟨x0, x1, x2, x3⟩ := HBC.out _ S4.out.fi.low
      go_wp2
      have H6 := hid ((S4.out.below (Below.refl _ W4).drew).merge HAR.out HBR.out HBC.out (by omega))
      go_still_tail 7, (by kernel_rfl)
      change wpList _ _ _ _ _ _
      clear c0 c1 c2 c3 x0 x1 x2 x3
      go_wp2_with (go_at_call 152
                   go_must (with_reducible refine H6.out.mono ?_)
                   rintro e w6 ⟨rfl, h6⟩
                   have S6 := hid h6
                   clear h6)
      go_end0
      refine ⟨rfl, ?_, S6.out.kx⟩
      have h9 := S6.out.fi.fewer S6.out.xy
      obtain ⟨hs, ht⟩ := HS.out
      simpa [oneB, ← hs, ← ht] using h9
    · skip
      obtain ⟨c0, c1, c2, c3⟩ := S4.out.cells
      obtain ⟨x0, x1, x2, x3⟩ := HBC.out _ S4.out.fi.low
      go_wp2
      have H5 := hid ((S4.out.below (Below.refl _ W4).drew).says (by omega) 3 b.f0 b.f1 b.f2 0 bv)
      go_still_tail 4, (by kernel_rfl)
      change wpList _ _ _ _ _ _
      clear c0 c1 c2 c3 x0 x1 x2 x3
      go_wp2_with (go_at_call 151
                   go_must (with_reducible refine H5.out.mono ?_)
                   rintro e w5 ⟨rfl, h5⟩
                   obtain ⟨c0, c1, c2, c3⟩ := h5.cells
                   obtain ⟨x0, x1, x2, x3⟩ := HBC.out _ h5.fi.low
                   have S5 := hid h5
                   clear h5)
      have H6 := hid ((S5.out.below (Below.refl _ w5).drew).merge HAR.out HBR.out HBC.out (by simp; omega))
      go_still_tail 7, (by kernel_rfl)
      change wpList _ _ _ _ _ _
      clear c0 c1 c2 c3 x0 x1 x2 x3
      go_wp2_with (go_at_call 152
                   go_must (with_reducible refine H6.out.mono ?_)
                   rintro e w6 ⟨rfl, h6⟩
                   have S6 := hid h6
                   clear h6)
      go_end0
      refine ⟨rfl, ?_, S6.out.kx⟩
      have h9 := S6.out.fi.fewer S6.out.xy
      obtain ⟨hs, ht⟩ := HS.out
      simpa [oneB, ← hs, ← ht] using h9
end Go.Proofs.Ytnceglkoolfncaa.Rl
