/- The table of ports: what All tells. -/
import Derived.Test.YtnceglkoolfncaaPh
import Derived.RangeFuncNested
import Derived.RangeFuncBound
import Derived.RangeFuncCalls
import Derived.RangeFuncLeaves
import Derived.Shelf.Abstract
import Derived.Shelf.RegionOpen
import Derived.WalkKit
import Derived.OwnWalkIn
import Derived.TacticsInMore
import Derived.LoopNIn
import Derived.LoopIn
namespace Go.Proofs.Ytnceglkoolfncaa.Po
open Go.RowKit Go.Shelf Go.Pv
attribute [local go_sem] Oper.semAt_some

set_option maxRecDepth 100000 in
set_option maxHeartbeats 2000000 in
theorem all1_in (F : Fence) (n : Nat) (h8 : F.fn 148) (hro : F.round = none) (hn : 1 ≤ n) (l Bs n₀ p : Nat) (v : Value) (hs : List Hd) (hlen : hs.length ≤ 100000) (hp : p < n₀) (hv : ∀ g, v.ownBlock = some g → g < n₀) (J Jx : List Hd → World → Prop)
    (hY : ∀ pre (x : Hd) W, J pre W → pre.length < hs.length → YieldAt F (n - 1) Try.prog l #[.int .i64 x.1, .int .i64 x.2] W fun e W' =>
      (e = .returned (.bool true) ∧ J (pre ++ [x]) W' ∧ Below n₀ W W') ∨ (e = .returned (.bool false) ∧ Jx (pre ++ [x]) W'))
    (W : World) (hBs : W.cell? ⟨Bs, 0, none⟩ = some (.pointer (some ⟨p, 0, none⟩))) (ht : TabAt W p v hs) (hn0 : n₀ ≤ W.heap.size) (hJ : AbidesFrom W.heap.size J) (h0 : J [] W) :
    CallsIn F n Try.prog 148 #[.func (.yield l) #[] #[], .pointer (some ⟨Bs, 0, none⟩)] W fun e W' => (∃ v, e = .returned v) ∧
      ((∃ ys, ys = hs ∧ J ys W') ∨ (∃ pre, pre <+: hs ∧ Jx pre W')) := by
  obtain ⟨aa, ac, rfl, hcell⟩ := hform ht.sl
  have c0 := ht.cells.1
  refine callsIn_of_wp Try.func148 rfl h8 ?_ hro
  simp only [Try.ntmps148, List.size_toArray, List.length_cons, List.length_nil, Nat.reduceAdd, Nat.reduceSub, Array.replicate_succ, Array.replicate_zero, List.push_toArray, List.append_toArray, List.nil_append, List.cons_append]
  gi_wp2
  gi_loopw [10] (fun i wr => ∃ k : Nat, k ≤ hs.length ∧ i = .int .i64 k ∧ J (hs.take k) wr ∧ Below n₀ W wr)
    (fun i _ => hs.length - (intOf i).toNat)
  case atStart => exact ⟨0, Nat.zero_le _, rfl, h0, Below.refl _ _⟩
  case round =>
    obtain ⟨k, hk, rfl, hJs, hnx⟩ := hrel
    by_cases hlt : k < hs.length
    · obtain ⟨ab, ao, haa, -, d1, d2⟩ := hcell k hlt
      subst haa
      obtain ⟨x, hx⟩ : ∃ x, x = hs[k] := ⟨_, rfl⟩
      rw [← hx] at d1 d2
      obtain ⟨x1, x2⟩ := x
      have hab := hv ab rfl
      have e1 : wr.cell? ⟨ab, ao + k * 2, none⟩ = some (.int .i64 x1) := (hnx.cell (p := ⟨ab, ao + k * 2, none⟩) hab).trans d1
      have e2 : wr.cell? ⟨ab, ao + k * 2 + 1, none⟩ = some (.int .i64 x2) := (hnx.cell (p := ⟨ab, ao + k * 2 + 1, none⟩) hab).trans d2
      have hJ2 : J (hs.take k) (wr.alloc (.cells #[.int .i64 x1, .int .i64 x2] 181)) := hJ _ _ _ none hJs (World.grownBy_alloc wr _ none) (fun r e => by cases e)
      obtain ⟨fn, tmps, assign, body, hy, hR⟩ := hY (hs.take k) (x1, x2) _ hJ2 (by rw [List.length_take]; omega)
      dsimp only at hy
      have hsnoc : hs.take k ++ [(x1, x2)] = hs.take (k + 1) := by rw [List.take_add_one, List.getElem?_eq_getElem hlt, ← hx]; rfl
      gi_wp2
      refine hR.mono ?_
      rintro e W3 (⟨rfl, hJ3, hk3⟩ | ⟨rfl, hJx3⟩)
      · rw [hsnoc] at hJ3
        gi_wp2
        go_roundw
        case rel => exact ⟨k + 1, by omega, by simp, hJ3, (hnx.trans (((Below.refl n₀ wr).alloc (by have := hnx.size; omega) _))).trans hk3⟩
        case measure => simp [intOf]; omega
      · rw [hsnoc] at hJx3
        gi_wp2
        refine bodyPost_ret (results_none rfl _ _ _) rfl ?_
        exact ⟨⟨_, rfl⟩, .inr ⟨_, List.take_prefix _ _, hJx3⟩⟩
    · obtain rfl : k = hs.length := by omega
      gi_wp2
      go_end0
      exact ⟨⟨_, rfl⟩, .inl ⟨_, List.take_length, hJs⟩⟩

/-- 'SeqStopsK' of what All hands back: all of them in order, or a head of them. -/
theorem all_stops (F : Fence) (n : Nat) (h8 : F.fn 148) (hro : F.round = none) (hn : 1 ≤ n) (Bs n₀ p : Nat) (v : Value) (hs : List Hd) (hlen : hs.length ≤ 100000) (w : World) (hBl : Bs < w.heap.size) (hn0 : n₀ ≤ w.heap.size)
    (hp : p < n₀) (hv : ∀ g, v.ownBlock = some g → g < n₀) (hBs : w.cell? ⟨Bs, 0, none⟩ = some (.pointer (some ⟨p, 0, none⟩))) (ht : TabAt w p v hs) :
    SeqStopsK F n Try.prog 148 #[.pointer (some ⟨Bs, 0, none⟩)] (fun x : Hd => #[Value.int .i64 x.1, Value.int .i64 x.2]) (Below n₀) (fun ys => ys = hs) (fun pre => pre <+: hs) hs.length w := fun l J Jx W hW hJ _ hY h0 =>
  all1_in F n h8 hro hn l Bs n₀ p v hs hlen hp hv J Jx hY W ((hW.cell (p := ⟨Bs, 0, none⟩) hBl).trans hBs)
    (ht.kept (F := fun i => w.heap.size ≤ i) ⟨hW.os, hW.tape, hW.output, hW.size, fun i hi _ => hW.block i hi⟩ (by omega) (fun g hg => by have := hv g hg; omega)) (by have := hW.size; omega) hJ h0
end Go.Proofs.Ytnceglkoolfncaa.Po
