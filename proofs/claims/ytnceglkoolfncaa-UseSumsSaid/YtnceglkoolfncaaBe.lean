/- Probes: slices.Compare of two pairs. -/
import Derived.Test.YtnceglkoolfncaaBd
import Derived.Shelf.SlicesG.Cmp
import Derived.Sort.Grow
set_option linter.unusedSimpArgs false
set_option linter.unusedVariables false
namespace Go.Proofs
open Go.Shelf
def Try.cmpInt2_ren : Go.Shelf.Ren := ⟨fun | 5 => 144 | 7 => 164 | n => n, fun | 22 => 3 | 3 => 3 | 4 => 4 | n => n, fun | n => n⟩
theorem Try.cmpInt2 : Go.Proofs.SlLaysC2.n5 Try.prog Try.cmpInt2_ren := {
  mixed := by kernel_rfl,
  f5 := ⟨Try.f144.name, by decide, Try.func144.trans (congrArg some (by kernel_rfl))⟩,
  f7 := ⟨Try.f164.name, by decide, Try.func164.trans (congrArg some (by kernel_rfl))⟩,
  t3 := Try.underlying3,
  a3 := Try.isAgg3,
  z3 := Try.sizeOf3,
  v3 := Try.zeroValue3,
  t4 := Try.underlying4,
  a4 := Try.isAgg4,
  z4 := Try.sizeOf4,
  v4 := Try.zeroValue4,
  t22 := Try.underlying3,
  a22 := Try.isAgg3,
  z22 := Try.sizeOf3,
  v22 := Try.zeroValue3 }

end Go.Proofs
namespace Go.Proofs.Ytnceglkoolfncaa.Pr
open Go.RowKit Go.Pv Go.Proofs.Ytnceglkoolfncaa.Po Go.Sort

/-- slices.Compare of two pairs. -/
def cP (x y : Int × Int) : Int := if Lib.compareInt x.1 y.1 = 0 then Lib.compareInt x.2 y.2 else Lib.compareInt x.1 y.1
theorem cmp_zero {x y : Int} : Lib.compareInt x y = 0 ↔ x = y := by
  unfold Lib.compareInt
  constructor
  · intro h
    split at h
    · cases h
    · split at h
      · cases h
      · omega
  · intro h
    subst h
    simp
theorem cmp144_any (x y : Int) (w : World) : Calls Try.prog 144 #[.int .i64 x, .int .i64 y] w fun e w' => e = .returned (.int .i64 (Lib.compareInt x y)) ∧ w' = w := by
  have hcon := AnyG.cmp_Compare_int Try.cmpInt2 x y w
  exact hcon

set_option maxRecDepth 10000 in
set_option maxHeartbeats 4000000 in
theorem cmp123_any {w : World} {p q : Nat} {a b c d : Int} (hp0 : w.cell? ⟨p, 0, none⟩ = some (.int .i64 a)) (hp1 : w.cell? ⟨p, 1, none⟩ = some (.int .i64 b)) (hq0 : w.cell? ⟨q, 0, none⟩ = some (.int .i64 c)) (hq1 : w.cell? ⟨q, 1, none⟩ = some (.int .i64 d)) :
    Calls Try.prog 123 #[.slice (some ⟨p, 0, none⟩) 2 2, .slice (some ⟨q, 0, none⟩) 2 2] w fun e w' => e = .returned (.int .i64 (cP (a, b) (c, d))) ∧ w' = w := by
  have HA := hid (cmp144_any a c w)
  have HB := hid (cmp144_any b d w)
  go_enter Try.func123, Try.ntmps123
  go_wp2_with fail
  go_loopg [11] 2 (fun g s11 wr => wr = w ∧ ((g = 2 ∧ s11 = .int .i64 0) ∨ (g = 1 ∧ s11 = .int .i64 1 ∧ Hid (Lib.compareInt a c = 0)) ∨ (g = 0 ∧ s11 = .int .i64 2 ∧ Hid (Lib.compareInt a c = 0) ∧ Hid (Lib.compareInt b d = 0))))
  case atStart => exact ⟨rfl, .inl ⟨rfl, rfl⟩⟩
  case round =>
    obtain ⟨rfl, ⟨rfl, rfl⟩ | ⟨rfl, rfl, H1⟩ | ⟨rfl, rfl, H1, H2⟩⟩ := hrel
    · go_wp2_with (go_at_call 144; go_must (with_reducible refine HA.out.mono ?_); rintro e w2 ⟨rfl, rfl⟩; cases h0 : (Lib.compareInt a c == 0))
      · go_ret
        refine ⟨?_, rfl⟩
        simp only [beq_eq_false_iff_ne, ne_eq] at h0
        rw [show cP (a, b) (c, d) = Lib.compareInt a c from if_neg h0]; rfl
      · go_roundg 1
        case measure => omega
        case rel => exact ⟨rfl, .inr (.inl ⟨rfl, rfl, hid (by simpa using h0)⟩)⟩
    · go_wp2_with (go_at_call 144; go_must (with_reducible refine HB.out.mono ?_); rintro e w2 ⟨rfl, rfl⟩; cases h0 : (Lib.compareInt b d == 0))
      · go_ret
        refine ⟨?_, rfl⟩
        rw [show cP (a, b) (c, d) = Lib.compareInt b d from if_pos H1.out]; rfl
      · go_roundg 0
        case measure => omega
        case rel => exact ⟨rfl, .inr (.inr ⟨rfl, rfl, H1, hid (by simpa using h0)⟩)⟩
    · go_wp2_with fail
      go_ret
      refine ⟨?_, rfl⟩
      rw [show cP (a, b) (c, d) = 0 from (if_pos H1.out).trans H2.out]; rfl

set_option maxRecDepth 10000 in
theorem due1_any (x y : Int × Int) (W : World) : Calls Try.prog 122 #[kp x, kp y] W fun e w' => e = .returned (.int .i64 (cP x y)) ∧ ∃ q os', w' = grow (W.drewN q) os' := by
  obtain ⟨a, b⟩ := x
  obtain ⟨c, d⟩ := y
  unfold kp
  have HC : Hid (∀ V : World, V.heap = ((W.alloc (.cells #[.int .i64 a, .int .i64 b] 208)).alloc (.cells #[.int .i64 c, .int .i64 d] 208)).heap → Calls Try.prog 123 #[.slice (some ⟨W.heap.size, 0, none⟩) 2 2, .slice (some ⟨W.heap.size + 1, 0, none⟩) 2 2] V fun e w' => e = .returned (.int .i64 (cP (a, b) (c, d))) ∧ w' = V) := hid fun V hV => by
    have h1 : V.heap[W.heap.size]? = some (.cells #[.int .i64 a, .int .i64 b] 208) := by
      rw [hV, Below.heap_alloc _ _ _ (by simp)]; exact heap_alloc_new W _
    have h2 : V.heap[W.heap.size + 1]? = some (.cells #[.int .i64 c, .int .i64 d] 208) := by
      rw [hV]; simpa using heap_alloc_new (W.alloc (.cells #[.int .i64 a, .int .i64 b] 208)) (.cells #[.int .i64 c, .int .i64 d] 208)
    exact cmp123_any (by rw [cell_of_row V _ 0 _ _ _ h1]; rfl) (by rw [cell_of_row V _ 1 _ _ _ h1]; rfl) (by rw [cell_of_row V _ 0 _ _ _ h2]; rfl) (by rw [cell_of_row V _ 1 _ _ _ h2]; rfl)
  go_enter Try.func122, Try.ntmps122
  go_wp2_with fail
  go_region_with (go_at_call 123; refine (HC.out _ (by rfl)).mono ?_; rintro e w1 ⟨rfl, rfl⟩)
  all_goals go_wp2
  go_ret
  exact ⟨rfl, 1, _, by rw [alloc_eq_grow, alloc_eq_grow, grow_grow, drew_grow]; rfl⟩
end Go.Proofs.Ytnceglkoolfncaa.Pr
