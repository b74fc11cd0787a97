/- The table of ports: Held. -/
import Derived.Test.YtnceglkoolfncaaPi
import Derived.Maps.AppendAt
import Derived.RangeFuncBox
import Derived.RangeFuncWrites
namespace Go.Proofs.Ytnceglkoolfncaa.Po
open Go.RowKit Go.Shelf Go.Pv
attribute [local go_sem] Oper.semAt_some

/-- An owner's ports. -/
def mine (o : Int) (hs : List Hd) : List Int := (hs.filter (fun h => h.2 == o)).map (·.1)
theorem mine_hit (o : Int) (pre : List Hd) (x : Hd) (h : (x.2 == o) = true) : mine o (pre ++ [x]) = mine o pre ++ [x.1] := by simp only [mine, List.filter_append, List.filter_cons, h]; simp
theorem mine_miss (o : Int) (pre : List Hd) (x : Hd) (h : (x.2 == o) = false) : mine o (pre ++ [x]) = mine o pre := by simp only [mine, List.filter_append, List.filter_cons, h]; simp

theorem all_in (F : Fence) (n : Nat) (h6 : F.fn 107) (hro : F.round = none) (p : Nat) (w : World) :
    CallsIn F n Try.prog 107 #[.pointer (some ⟨p, 0, none⟩)] w fun e w' => e = .returned (.func (.func 148) #[] #[.pointer (some ⟨w.heap.size, 0, none⟩)]) ∧ w' = w.alloc (.cells #[.pointer (some ⟨p, 0, none⟩)] 64) := by
  refine callsIn_of_wp Try.func107 rfl h6 ?_ hro
  simp only [Try.ntmps107, List.size_toArray, List.length_cons, List.length_nil, Nat.reduceAdd, Nat.reduceSub, Array.replicate_succ, Array.replicate_zero, List.push_toArray, List.append_toArray, List.nil_append, List.cons_append]
  gi_wp2
  go_ret
  exact ⟨rfl, rfl⟩

theorem info3 : (Try.prog.info? 3).map (fun i => (i.zero, i.size, i.bytes)) = some (some (.int .i64 0), 1, 8) := by kernel_rfl

set_option maxRecDepth 100000 in
set_option maxHeartbeats 2000000 in
theorem held_in (F : Fence) (n : Nat) (h3 : F.fn 39) (h4 : F.fn 107) (h5 : F.fn 148) (hro : F.round = none) (hn : 3 ≤ n) (p : Nat) (v : Value) (hs : List Hd) (hlen : hs.length ≤ 100000) (o : Int) (w : World) (ht : TabAt w p v hs) :
    CallsIn F n Try.prog 39 #[.pointer (some ⟨p, 0, none⟩), .int .i64 o] w fun e W' => ∃ v, e = .returned v ∧ W'.ownsRow (w.heap.size + 1) 3 1 v (mine o hs).length ((mine o hs).map (Value.int .i64)) ∧ (v = .slice none 0 0 ↔ mine o hs = []) ∧ Below w.heap.size w W' := by
  have h1 : 1 ≤ n := by omega
  have hplt := ht.plt
  have hvlt : ∀ g, v.ownBlock = some g → g < w.heap.size := fun g hg => SlRow.lt ht.sl hg
  obtain ⟨i0, hi, hz0, hz1, hz2⟩ := info_parts info3
  refine callsIn_of_wp_marks Try.func39 rfl h3 ?_ hro
  simp only [Try.ntmps39, List.size_toArray, List.length_cons, List.length_nil, Nat.reduceAdd, Nat.reduceSub, Array.replicate_succ, Array.replicate_zero, List.push_toArray, List.append_toArray, List.nil_append, List.cons_append]
  gi_wp2_with (gi_at_call 107; refine (all_in F (n - 1) h4 hro p _).mono ?_; rintro e w' ⟨rfl, rfl⟩)
  have bP := Boxed.new w 3 (.int .i64 o)
  have bO := Boxed.new (w.alloc (.cells #[.int .i64 o] 3)) 50 (.slice none 0 0)
  have bN := Boxed.new ((w.alloc (.cells #[.int .i64 o] 3)).alloc (.cells #[.slice none 0 0] 50)) 64 (.pointer (some ⟨p, 0, none⟩))
  rw [World.size_alloc] at bO
  rw [World.size_alloc, World.size_alloc] at bN
  have hB0 : Below w.heap.size w (((w.alloc (.cells #[.int .i64 o] 3)).alloc (.cells #[.slice none 0 0] 50)).alloc (.cells #[.pointer (some ⟨p, 0, none⟩)] 64)) := (((Below.refl _ w).alloc (Nat.le_refl _) _).alloc (by simp) _).alloc (by simp; omega) _
  refine wpIn_rangeFunc_ownG hro h1 (gf := 148) (lb := #[.pointer (some ⟨w.heap.size + 1 + 1, 0, none⟩)]) rfl h5 (enters_of Try.func148 (by kernel_rfl) rfl)
    (all_stops F (n - 1) h5 hro (by omega) (w.heap.size + 1 + 1) (w.heap.size + 1) p v hs hlen _ (by simp) (by simp) (by omega) (fun g hg => by have := hvlt g hg; omega) bN.cell (((ht.alloc _).alloc _).alloc _)) belowK_t (belowK_b (by simp)) (Below.refl _ _) (fun _ => rfl)
    (fun pre W => ((∃ v, Boxed W (w.heap.size + 1) 50 v ∧ W.ownsRow (w.heap.size + 1) 3 1 v (mine o pre).length ((mine o pre).map (Value.int .i64)) ∧ (v = .slice none 0 0 ↔ mine o pre = [])) ∧ Boxed W w.heap.size 3 (.int .i64 o)) ∧ Below w.heap.size w W)
    (fun _ _ _ => False)
    (OwnFrom.and (OwnFrom.and (Own.from (holdsRow_own (w.heap.size + 1) (w.heap.size + 1) 50 3 1 (fun pre => (mine o pre).length) (fun pre => (mine o pre).map (Value.int .i64)) (fun pre v => v = .slice none 0 0 ↔ mine o pre = [])) _) (Own.from (boxed_own w.heap.size 3 (fun _ => Value.int .i64 o)) _)) (ownFrom_below (Nat.le_refl _) (by simp; omega)))
    (fun _ _ _ _ _ hs _ _ => hs)
    ⟨⟨⟨_, bO.alloc _, World.ownsRow_nil _ _ _ _, by simp [mine]⟩, (bP.alloc _).alloc _⟩, hB0⟩
    (fun x => { tmps := #[.pointer (some ⟨p, 0, none⟩), .int .i64 o, undef, .pointer (some ⟨w.heap.size, 0, none⟩), .slice none 0 0, .pointer (some ⟨w.heap.size + 1, 0, none⟩), .int .i64 x.1, .int .i64 x.2, .pointer (some ⟨p, 0, none⟩), .func (.func 148) #[] #[.pointer (some ⟨w.heap.size + 1 + 1, 0, none⟩)], .int .i64 x.1, .int .i64 x.2, undef, undef, undef, undef, undef, undef, undef, undef], defers := [] }) ?assign ?body ?done ?stop
  case assign =>
    intro l x W K hK
    gi_wp2
    exact hK
  case body =>
    rintro l pre x W ⟨⟨⟨v, hv, hrow, hnil⟩, hbo⟩, hB⟩ hlt
    have hc := hv.cell
    have hoc := hbo.cell
    have hpl : (mine o pre).length ≤ pre.length := by unfold mine; rw [List.length_map]; exact List.length_filter_le _ _
    cases hxo : (x.2 == o) with
    | true =>
      have hxo2 : x.2 = o := by simpa using hxo
      gi_wp2_with (gi_at_builtin; refine wpListIn_append_own _ rfl _ _ 50 rfl (w.heap.size + 1) 3 i0 (.int .i64 0) 1 8 Try.underlying50 hi hz0 hz1 hz2 rfl (by decide) _ _ _ rfl (hrow.alloc _) ⟨W.heap.size, 0, none⟩ 1 1 [.int .i64 x.1] rfl rfl (cell_one_new _ _ _) (by simp [Value.oneCell']) (by unfold maxLen; omega) (by omega) (by have := hv.lt; simp; omega) ?_; intro v' w1 hown' hgrow _; obtain ⟨g', cap', rfl⟩ := ownsRow_succ hown'; obtain ⟨hv1, hv2, hr2, hk2, hb2⟩ := hv.appended (by decide) hrow (by have := hv.lt; omega) (Nat.le_refl _) hown' hgrow; have hc1 := hv1.cell; have hf1 := hv1.frozen)
      refine ⟨hk2.from _, hb2, ⟨⟨_, hv2, by rw [mine_hit o pre x hxo]; simpa using hr2, by rw [mine_hit o pre x hxo]; simp⟩, ?_⟩, hB.trans (hb2.mono (by omega))⟩
      exact (hb2.block w.heap.size (by omega)).trans hbo
    | false =>
      gi_wp2
      exact ⟨KeepsFrom.refl _ _, Below.refl _ _, ⟨⟨v, hv, by rw [mine_miss o pre x hxo]; exact hrow, by rw [mine_miss o pre x hxo]; exact hnil⟩, hbo⟩, hB⟩
  case done =>
    rintro D ys W hD rfl ⟨⟨⟨v, hv, hrow, hnil⟩, hbo⟩, hB⟩ hK
    have hc := hv.cell
    gi_wp2
    refine ⟨by simp, .inl ⟨_, _, rfl, run_takeDeferred hK, ?_⟩⟩
    exact ⟨_, results_tmp rfl _ _ _, v, rfl, ownsRow_putObj hrow _ hK rfl, hnil, hB.trans (belowK_b (w := w) (Nat.le_refl _) W D _ _ (by simp at hD; omega) hK rfl rfl)⟩
  case stop =>
    rintro D c pre W _ _ h _
    exact h.elim
end Go.Proofs.Ytnceglkoolfncaa.Po
