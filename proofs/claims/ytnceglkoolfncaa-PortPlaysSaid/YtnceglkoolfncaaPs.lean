/- The table of ports: the law's own 'all' (PortPlays). -/
import Derived.Test.YtnceglkoolfncaaPk
namespace Go.Proofs.Ytnceglkoolfncaa.Po
open Go.RowKit Go.Shelf Go.Pv
attribute [local go_sem] Oper.semAt_some

/-- What has been told so far. -/
def Head (hs pre : List Hd) : Prop := pre = hs.take pre.length ∧ pre.length ≤ hs.length
theorem Head.snoc {hs pre : List Hd} (h : Head hs pre) (hk : pre.length < hs.length) : Head hs (pre ++ [hs[pre.length]]) := by
  obtain ⟨h1, h2⟩ := h
  refine ⟨?_, by simp; omega⟩
  rw [List.length_append, List.length_singleton, List.take_add_one, List.getElem?_eq_getElem hk, ← h1]
  rfl
theorem Head.not {hs pre : List Hd} (h : Head hs pre) (x : Hd) (hx : ∀ hk : pre.length < hs.length, hs[pre.length] ≠ x) : ¬ (pre ++ [x]) <+: hs := by
  rintro ⟨r, hr⟩
  have hk : pre.length < hs.length := by rw [← hr]; simp
  refine hx hk ?_
  have : hs[pre.length]? = some x := by rw [← hr]; simp
  rw [List.getElem?_eq_getElem hk] at this
  exact Option.some.inj this

def AllIx (w : World) (B : Nat) (hs : List Hd) (pre : List Hd) (W : World) : Prop := (∃ r : Bool, Boxed W B 4 (.bool r) ∧ (pre <+: hs → r = true)) ∧ Below w.heap.size w W

set_option maxRecDepth 100000 in
set_option maxHeartbeats 2000000 in
theorem allLaw_in (F : Fence) (n : Nat) (h3 : F.fn 42) (h4 : F.fn 107) (h5 : F.fn 148) (hro : F.round = none) (hn : 3 ≤ n) (p : Nat) (v : Value) (hs : List Hd) (hlen : hs.length ≤ 100000) (w : World) (ht : TabAt w p v hs)
    (qa : Option Addr) (qc : Nat) (hq : ∀ k (hk : k < hs.length), ∃ b o, qa = some ⟨b, o, none⟩ ∧ b < w.heap.size ∧ w.cell? ⟨b, o + k * 2, none⟩ = some (.int .i64 hs[k].1) ∧ w.cell? ⟨b, o + k * 2 + 1, none⟩ = some (.int .i64 hs[k].2)) (most : Int) :
    CallsIn F n Try.prog 42 #[.pointer (some ⟨p, 0, none⟩), .slice qa hs.length qc, .int .i64 most] w fun e W' => e = .returned (.bool true) ∧ Below w.heap.size w W' := by
  have h1 : 1 ≤ n := by omega
  have hplt := ht.plt
  have hvlt : ∀ g, v.ownBlock = some g → g < w.heap.size := fun g hg => SlRow.lt ht.sl hg
  refine callsIn_of_wp_marks Try.func42 rfl h3 ?_ hro
  simp only [Try.ntmps42, List.size_toArray, List.length_cons, List.length_nil, Nat.reduceAdd, Nat.reduceSub, Array.replicate_succ, Array.replicate_zero, List.push_toArray, List.append_toArray, List.nil_append, List.cons_append]
  have hnf : ∀ (b : Nat) (W : World), (binOp BinOp.eql 188 (Value.func (Fn.func 148) #[] #[Value.pointer (some ⟨b, 0, none⟩)]) Value.nilFunc).run Try.prog W = .ok (.bool false) W := fun b W => by first | rfl | kernel_rfl
  gi_wp2_with (gi_at_call 107; refine (all_in F (n - 1) h4 hro p _).mono ?_; rintro e w' ⟨rfl, rfl⟩)
  have b0 := Boxed.new w 66 (.slice qa hs.length qc)
  have b1 := Boxed.new (w.alloc (.cells #[.slice qa hs.length qc] 66)) 3 (.int .i64 most)
  have b2 := Boxed.new ((w.alloc (.cells #[.slice qa hs.length qc] 66)).alloc (.cells #[.int .i64 most] 3)) 4 (.bool false)
  have b3 := Boxed.new (((w.alloc (.cells #[.slice qa hs.length qc] 66)).alloc (.cells #[.int .i64 most] 3)).alloc (.cells #[.bool false] 4)) 64 (.pointer (some ⟨p, 0, none⟩))
  have b4 := Boxed.new ((((w.alloc (.cells #[.slice qa hs.length qc] 66)).alloc (.cells #[.int .i64 most] 3)).alloc (.cells #[.bool false] 4)).alloc (.cells #[.pointer (some ⟨p, 0, none⟩)] 64)) 3 (.int .i64 0)
  rw [World.size_alloc] at b1
  rw [World.size_alloc, World.size_alloc] at b2
  rw [World.size_alloc, World.size_alloc, World.size_alloc] at b3
  rw [World.size_alloc, World.size_alloc, World.size_alloc, World.size_alloc] at b4
  obtain ⟨W0, hW0⟩ : ∃ W0, W0 = ((((w.alloc (.cells #[.slice qa hs.length qc] 66)).alloc (.cells #[.int .i64 most] 3)).alloc (.cells #[.bool false] 4)).alloc (.cells #[.pointer (some ⟨p, 0, none⟩)] 64)).alloc (.cells #[.int .i64 0] 3) := ⟨_, rfl⟩
  have hB0 : Below w.heap.size w W0 := by rw [hW0]; exact (((((Below.refl _ w).alloc (Nat.le_refl _) _).alloc (by simp) _).alloc (by simp; omega) _).alloc (by simp; omega) _).alloc (by simp; omega) _
  have hsz : W0.heap.size = w.heap.size + 5 := by rw [hW0]; simp
  have c0 : Boxed W0 w.heap.size 66 (.slice qa hs.length qc) := by rw [hW0]; exact (((b0.alloc _).alloc _).alloc _).alloc _
  have c1 : Boxed W0 (w.heap.size + 1) 3 (.int .i64 most) := by rw [hW0]; exact ((b1.alloc _).alloc _).alloc _
  have c2 : Boxed W0 (w.heap.size + 1 + 1) 4 (.bool false) := by rw [hW0]; exact (b2.alloc _).alloc _
  have c3 : Boxed W0 (w.heap.size + 1 + 1 + 1) 64 (.pointer (some ⟨p, 0, none⟩)) := by rw [hW0]; exact b3.alloc _
  have c4 : Boxed W0 (w.heap.size + 1 + 1 + 1 + 1) 3 (.int .i64 0) := by rw [hW0]; exact b4
  have hT0 : TabAt W0 p v hs := by rw [hW0]; exact ((((ht.alloc _).alloc _).alloc _).alloc _).alloc _
  rw [← hW0]
  have HW0 := hid hW0
  clear hW0 b0 b1 b2 b3 b4
  refine wpIn_rangeFunc_ownG hro h1 (gf := 148) (lb := #[.pointer (some ⟨w.heap.size + 1 + 1 + 1, 0, none⟩)]) rfl h5 (enters_of Try.func148 (by kernel_rfl) rfl)
    (all_stops F (n - 1) h5 hro (by omega) (w.heap.size + 1 + 1 + 1) (w.heap.size + 2) p v hs hlen W0 (by omega) (by omega) (by omega) (fun g hg => by have := hvlt g hg; omega) c3.cell hT0) belowK_t (belowK_b (by omega)) (Below.refl _ _) (fun _ => rfl)
    (fun pre W => (Head hs pre ∧ Boxed W w.heap.size 66 (.slice qa hs.length qc) ∧ Boxed W (w.heap.size + 1) 3 (.int .i64 most) ∧ Boxed W (w.heap.size + 1 + 1) 4 (.bool false) ∧ Boxed W (w.heap.size + 1 + 1 + 1 + 1) 3 (.int .i64 pre.length)) ∧ Below w.heap.size w W)
    (fun c pre W => c = .ret ∧ AllIx w (w.heap.size + 1 + 1) hs pre W)
    (OwnFrom.and (OwnFrom.and (ownFrom_pure _ _) (OwnFrom.and (Own.from (boxed_own _ _ _) _) (OwnFrom.and (Own.from (boxed_own _ _ _) _) (OwnFrom.and (Own.from (boxed_own _ _ _) _) (Own.from (boxed_own _ _ _) _))))) (ownFrom_below (Nat.le_refl _) (by omega)))
    (fun c s X Y row ⟨hc, ⟨r, g1, g2⟩, hb⟩ hg hr => ⟨hc, ⟨r, boxed_own (w.heap.size + 1 + 1) 4 (fun _ : List Hd => Value.bool r) s X Y row g1 hg (fun r e => (hr r e).2), g2⟩, ownFrom_below (β := List Hd) (Nat.le_refl _) (by omega) s X Y row hb hg hr⟩)
    ⟨⟨⟨by simp, by simp⟩, c0, c1, c2, c4⟩, hB0⟩
    (fun x => { tmps := #[.pointer (some ⟨p, 0, none⟩), .slice qa hs.length qc, .int .i64 most, undef, .pointer (some ⟨w.heap.size, 0, none⟩), .pointer (some ⟨w.heap.size + 1, 0, none⟩), .pointer (some ⟨w.heap.size + 1 + 1, 0, none⟩), .func (.func 148) #[] #[.pointer (some ⟨w.heap.size + 1 + 1 + 1, 0, none⟩)], .pointer (some ⟨w.heap.size + 1 + 1 + 1 + 1, 0, none⟩), .int .i64 x.1, .int .i64 x.2, .pointer (some ⟨p, 0, none⟩), .func (.func 148) #[] #[.pointer (some ⟨w.heap.size + 1 + 1 + 1, 0, none⟩)], .func (.func 148) #[] #[.pointer (some ⟨w.heap.size + 1 + 1 + 1, 0, none⟩)], .bool false, .func (.func 148) #[] #[.pointer (some ⟨w.heap.size + 1 + 1 + 1, 0, none⟩)], .int .i64 x.1, .int .i64 x.2, undef, undef, undef, undef, undef, undef, undef, undef, undef, undef, undef, undef, undef, undef, undef, undef, undef, undef, undef, undef, undef, undef, undef, undef, undef, undef, undef, undef, undef, undef, undef], defers := [] }) ?assign ?body ?done ?stop
  case assign =>
    intro l x W K hK
    gi_wp2
    exact hK
  case body =>
    rintro l pre ⟨x1, x2⟩ W ⟨⟨hh, d0, d1, d2, d4⟩, hB⟩ hlt
    have q0 := d0.cell
    have q1 := d1.cell
    have q2 := d2.cell
    have q4 := d4.cell
    have f2 := d2.frozen
    have f4 := d4.frozen
    obtain ⟨qb, qo, rfl, hqb, r1, r2⟩ := hq pre.length hlt
    have s1 : W.cell? ⟨qb, qo + pre.length * 2, none⟩ = some (.int .i64 hs[pre.length].1) := (hB.cell (p := ⟨qb, qo + pre.length * 2, none⟩) hqb).trans r1
    have s2 : W.cell? ⟨qb, qo + pre.length * 2 + 1, none⟩ = some (.int .i64 hs[pre.length].2) := (hB.cell (p := ⟨qb, qo + pre.length * 2 + 1, none⟩) hqb).trans r2
    have hsn := hh.snoc hlt
    have hnot := hh.not
    obtain ⟨⟨y1, y2⟩, hy⟩ : ∃ y, y = hs[pre.length] := ⟨_, rfl⟩
    rw [← hy] at s1 s2 hsn
    have HS := hid hsn
    have HN := hid hnot
    have HY := hid hy
    clear hsn hnot hy r1 r2 hh
    have zB := hB.size
    by_cases hxy : y1 = x1 ∧ y2 = x2
    · obtain ⟨rfl, rfl⟩ := hxy
      by_cases hm : (pre.length : Int) + 1 = most
      · subst hm
        gi_wp2
        refine ⟨((KeepsOthers.setCell _ _ _).trans (KeepsOthers.setCell _ _ _)).from _, rfl, ⟨true, ?_, fun _ => rfl⟩, ?_⟩
        · exact Boxed.set _ (Boxed.kept d2 (grownBy_setCell' W _ _) (by simp))
        · exact (hB.setCell (p := ⟨w.heap.size + 1 + 1 + 1 + 1, 0, none⟩) (by simp; omega) _).setCell (p := ⟨w.heap.size + 1 + 1, 0, none⟩) (by simp; omega) _
      · have hmb : (((pre.length : Int) + 1) == most) = false := by simpa using hm
        clear hm
        gi_wp2
        refine ⟨(KeepsOthers.setCell _ _ _).from _, (Below.refl (w.heap.size + 2) W).setCell (p := ⟨w.heap.size + 1 + 1 + 1 + 1, 0, none⟩) (by simp) _, ⟨HS.out, ?_, ?_, ?_, ?_⟩, hB.setCell (p := ⟨w.heap.size + 1 + 1 + 1 + 1, 0, none⟩) (by simp; omega) _⟩
        · exact Boxed.kept d0 (grownBy_setCell' W _ _) (by simp; omega)
        · exact Boxed.kept d1 (grownBy_setCell' W _ _) (by simp)
        · exact Boxed.kept d2 (grownBy_setCell' W _ _) (by simp)
        · have := Boxed.set (Value.int .i64 ((pre.length : Int) + 1)) d4
          simpa using this
    · have hno : ¬ (pre ++ [(x1, x2)]) <+: hs := HN.out (x1, x2) (fun hk => by rw [← HY.out]; simpa using hxy)
      have HNO := hid hno
      clear hno HN HY HS
      by_cases h1 : y1 = x1
      · have h2 : (y2 != x2) = true := by simp; exact fun h => hxy ⟨h1, h⟩
        subst h1
        clear hxy
        gi_wp2
        exact ⟨(KeepsOthers.setCell _ _ _).from _, rfl, ⟨false, Boxed.set _ d2, fun h => absurd h HNO.out⟩, hB.setCell (p := ⟨w.heap.size + 1 + 1, 0, none⟩) (by simp; omega) _⟩
      · have h2 : (y1 != x1) = true := by simpa using h1
        clear hxy h1
        gi_wp2
        exact ⟨(KeepsOthers.setCell _ _ _).from _, rfl, ⟨false, Boxed.set _ d2, fun h => absurd h HNO.out⟩, hB.setCell (p := ⟨w.heap.size + 1 + 1, 0, none⟩) (by simp; omega) _⟩
  case done =>
    rintro D ys W hD rfl ⟨⟨hh, d0, d1, d2, d4⟩, hB⟩ hK
    have q0 := d0.cell
    have q2 := d2.cell
    have q4 := d4.cell
    have f2 := d2.frozen
    have zB := hB.size
    have hKK : (W.setCell ⟨w.heap.size + 1 + 1, 0, none⟩ (.bool true)).heap[D]? = some (.deferred (some [])) := (KeepsOthers.setCell W ⟨w.heap.size + 1 + 1, 0, none⟩ (.bool true)).same D _ hK rfl
    have hr := Boxed.set (.bool true) d2
    gi_wp2
    refine ⟨by simp, .inl ⟨_, _, rfl, run_takeDeferred hKK, ?_⟩⟩
    have qD := cell_kept hr.cell (grownBy_putObj' _ D (.deferred none)) (fun r e => by cases e; exact ⟨_, hKK, rfl⟩)
    exact ⟨.bool true, by simp [results, Try.results42, go_sem, qD], rfl, (hB.setCell (p := ⟨w.heap.size + 1 + 1, 0, none⟩) (by simp; omega) _).trans (belowK_b (w := w) (Nat.le_refl _) _ D _ _ (by omega) hKK rfl rfl)⟩
  case stop =>
    rintro D c pre W hD hpre ⟨rfl, ⟨r, hr, hr2⟩, hB⟩ hK
    obtain rfl := hr2 hpre
    have qr := hr.cell
    gi_wp2
    refine ⟨by simp, .inl ⟨_, _, rfl, run_takeDeferred hK, ?_⟩⟩
    have qD := cell_kept qr (grownBy_putObj' _ D (.deferred none)) (fun r e => by cases e; exact ⟨_, hK, rfl⟩)
    exact ⟨.bool true, by simp [results, Try.results42, go_sem, qD], rfl, hB.trans (belowK_b (w := w) (Nat.le_refl _) _ D _ _ (by omega) hK rfl rfl)⟩
end Go.Proofs.Ytnceglkoolfncaa.Po
