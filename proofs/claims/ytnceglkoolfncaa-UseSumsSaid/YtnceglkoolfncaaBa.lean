/- Probes: the book of containers that are asked: New, Len, Has, sick, Sick, Drop, Watch. -/
import Derived.Test.YtnceglkoolfncaaKp
import Derived.Test.YtnceglkoolfncaaPa
import Derived.StillTailTactics
import Derived.Deep.QuietTactic
import Derived.BigQuiet
import Derived.Deep.CutBlock
import Derived.Deep.DeepCutAuto
set_option linter.unusedSimpArgs false
set_option linter.unusedVariables false
namespace Go.Proofs.Ytnceglkoolfncaa.Pr
open Go.RowKit Go.Pv Go.Proofs.Ytnceglkoolfncaa.Po

/-- A container's state: every, fails, next, bad. -/
abbrev PS := Int × Int × Int × Int
def psv (s : PS) : Value := .agg #[.int .i64 s.1, .int .i64 s.2.1, .int .i64 s.2.2.1, .int .i64 s.2.2.2]
abbrev AL := List ((Int × Int) × PS)

theorem keyP : KeyT Try.prog 208 kp := pairKey (e := 3) Try.underlying208 Try.underlying3 (by kernel_rfl) (by kernel_rfl) (fun w a b => ⟨by kernel_rfl, by kernel_rfl⟩) (fun em w a => by obtain ⟨a1, a2⟩ := a; kernel_rfl)
theorem zero210 (w : World) : (zeroValue 210).run Try.prog w = .ok (psv (0, 0, 0, 0)) w := by kernel_rfl

/-- How the book lies. -/
structure PBk (w : World) (p mb : Nat) (al : AL) : Prop where
  cell : w.heap[p]? = some (.cells #[.map (some mb)] 205 (0, 0))
  map : IsMap w mb kp (al.map fun r => (r.1, psv r.2))
  nd : (al.map (·.1)).Nodup

section
variable {w w' : World} {p mb : Nat} {al : AL}
theorem PBk.lt (h : PBk w p mb al) : p < w.heap.size ∧ mb < w.heap.size := ⟨(Array.getElem?_eq_some_iff.1 h.cell).1, h.map.lt⟩
theorem PBk.ne (h : PBk w p mb al) : p ≠ mb := by
  intro e
  obtain ⟨es, clock, hb, _⟩ := h.map
  rw [← e, h.cell] at hb
  cases hb
theorem PBk.kept {F : Nat → Prop} (h : PBk w p mb al) (k : Keeps F w w') (hp : ¬ F p) (hm : ¬ F mb) : PBk w' p mb al := ⟨(k.block p h.lt.1 hp).trans h.cell, h.map.kept k hm, h.nd⟩
theorem PBk.below (h : PBk w p mb al) (k : Below w.heap.size w w') : PBk w' p mb al := h.kept (Keeps.of_below (F := fun _ => False) k) (by simp) (by simp)
theorem PBk.c0 (h : PBk w p mb al) : w.cell? ⟨p, 0, none⟩ = some (.map (some mb)) := by rw [cell_of_row w p 0 _ _ _ h.cell]; rfl
theorem PBk.len (h : PBk w p mb al) (ty : TypeId) : (Builtin.len_ #[203] ty #[.map (some mb)]).run Try.prog w = .ok (.int .i64 al.length) w := by
  have := h.map.len (P := Try.prog) (ty := ty) Try.underlying203
  rw [this, List.length_map]
theorem PBk.look (h : PBk w p mb al) (k : Int × Int) : (Instr.lookup 203 (.map (some mb)) (kp k) false).run Try.prog w = .ok (psv ((aget k al).getD (0, 0, 0, 0))) w := by
  have := h.map.lookup keyP Try.underlying203 zero210 k
  rw [this, aget_map]
  cases aget k al <;> rfl
theorem PBk.look_ok (h : PBk w p mb al) (k : Int × Int) : (Instr.lookup 203 (.map (some mb)) (kp k) true).run Try.prog w = .ok (.tuple #[psv ((aget k al).getD (0, 0, 0, 0)), .bool (aget k al).isSome]) w := by
  have := h.map.lookup_ok keyP Try.underlying203 zero210 k
  rw [this, aget_map]
  cases aget k al <;> rfl
theorem PBk.del (h : PBk w p mb al) (k : Int × Int) (ty : TypeId) : ∃ w', (Builtin.delete_ #[203, 208] ty #[.map (some mb), kp k]).run Try.prog w = .ok (.tuple #[]) w' ∧ PBk w' p mb (adel k al) ∧ Keeps (fun i => i = mb) w w' ∧ w'.heap.size = w.heap.size := by
  obtain ⟨w1, h1, h2, h3, h4⟩ := h.map.delete (ty := ty) keyP Try.underlying203 k 208
  rw [adel_map] at h2
  exact ⟨w1, h1, ⟨(h3.block p h.lt.1 h.ne).trans h.cell, h2, adel_nodup k h.nd⟩, h3, h4⟩
theorem PBk.set (h : PBk w p mb al) (k : Int × Int) (s : PS) : ∃ w', (Instr.mapUpdate 203 (.map (some mb)) (kp k) (psv s)).run Try.prog w = .ok () w' ∧ PBk w' p mb (aset k s al) ∧ Keeps (fun i => i = mb) w w' ∧ w'.heap.size = w.heap.size := by
  obtain ⟨w1, h1, h2, h3, h4⟩ := h.map.update keyP Try.underlying203 k (psv s)
  rw [aset_map] at h2
  exact ⟨w1, h1, ⟨(h3.block p h.lt.1 h.ne).trans h.cell, h2, aset_nodup k s h.nd⟩, h3, h4⟩
end

set_option maxRecDepth 10000 in
theorem new_any (w : World) : Calls Try.prog 58 #[] w fun e w' => e = .returned (.pointer (some ⟨w.heap.size + 1, 0, none⟩)) ∧ PBk w' (w.heap.size + 1) w.heap.size [] ∧ Below w.heap.size w w' := by
  have hmm := @run_makeMap Try.prog
  go_enter Try.func58, Try.ntmps58
  go_wp2
  go_ret
  exact ⟨rfl, ⟨heap_at _ _ _ (by simp), (IsMap.made w kp).kept ((Keeps.refl (fun _ => False) _).alloc _) (by simp), by simp⟩, ((Below.refl _ w).alloc (Nat.le_refl _) _).alloc (by simp) _⟩

set_option maxRecDepth 10000 in
theorem len_any {w : World} {p mb : Nat} {al : AL} (h : PBk w p mb al) : Calls Try.prog 68 #[.pointer (some ⟨p, 0, none⟩)] w fun e w' => e = .returned (.int .i64 al.length) ∧ w' = w := by
  have c0 := h.c0
  have HN := hid (h.len 3)
  clear h
  go_enter Try.func68, Try.ntmps68
  go_wp2_with (at_len; refine wl_len rfl _ _ rfl ⟨_, _, HN.out, ?_⟩)
  go_ret
  exact ⟨rfl, rfl⟩

set_option maxRecDepth 10000 in
theorem has_any {w : World} {p mb : Nat} {al : AL} (h : PBk w p mb al) (b c : Int) : Calls Try.prog 69 #[.pointer (some ⟨p, 0, none⟩), .int .i64 b, .int .i64 c] w fun e w' => e = .returned (.bool (aget (b, c) al).isSome) ∧ Below w.heap.size w w' := by
  have c0 := h.c0
  have HL := hid (h.look_ok (b, c))
  unfold kp psv at HL
  clear h
  go_enter Try.func69, Try.ntmps69
  go_wp2_with (at_lookup; refine wl_lookup rfl _ _ _ _ rfl ⟨_, _, HL.out, ?_⟩)
  go_ret
  exact ⟨rfl, (Below.refl _ w).alloc (Nat.le_refl _) _⟩

/-- Is it sick? -/
def sickB (s : PS) : Bool := decide (0 < s.1) && decide (s.2.1 ≤ s.2.2.2)

set_option maxRecDepth 10000 in
theorem sick_any (s : PS) (w : World) : Calls Try.prog 118 #[psv s] w fun e w' => e = .returned (.bool (sickB s)) ∧ Below w.heap.size w w' := by
  obtain ⟨e, f, n, b⟩ := s
  unfold psv sickB
  cases h : decide (0 < e)
  all_goals
    simp only [h]
    go_enter Try.func118, Try.ntmps118
    go_wp2
    go_ret
    exact ⟨by simp, (Below.refl _ w).alloc (Nat.le_refl _) _⟩

set_option maxRecDepth 10000 in
theorem isSick_any {w : World} {p mb : Nat} {al : AL} (h : PBk w p mb al) (b c : Int) : Calls Try.prog 71 #[.pointer (some ⟨p, 0, none⟩), .int .i64 b, .int .i64 c] w fun e w' => e = .returned (.bool (sickB ((aget (b, c) al).getD (0, 0, 0, 0)))) ∧ Below w.heap.size w w' := by
  have c0 := h.c0
  have HL := hid (h.look (b, c))
  have HS := hid (sick_any ((aget (b, c) al).getD (0, 0, 0, 0)) w)
  unfold kp at HL
  unfold psv at HL HS
  clear h
  go_enter Try.func71, Try.ntmps71
  go_wp2_with (first
    | (at_lookup; refine wl_lookup rfl _ _ _ _ rfl ⟨_, _, HL.out, ?_⟩)
    | (go_at_call 118; go_must (with_reducible refine HS.out.mono ?_); rintro e w2 ⟨rfl, hb⟩; have HB := hid hb; clear hb))
  go_ret
  exact ⟨rfl, HB.out⟩

set_option maxRecDepth 10000 in
theorem drop_any {w : World} {p mb : Nat} {al : AL} (h : PBk w p mb al) (b c : Int) : Calls Try.prog 66 #[.pointer (some ⟨p, 0, none⟩), .int .i64 b, .int .i64 c] w fun e w' => e = .returned (.bool (aget (b, c) al).isSome) ∧ PBk w' p mb (adel (b, c) al) ∧ Keeps (fun i => i = mb) w w' := by
  have HH := hid (has_any h b c)
  have HP := hid h
  clear h
  go_enter Try.func66, Try.ntmps66
  go_wp2_with (first
    | (go_at_call 69
       go_must (with_reducible refine HH.out.mono ?_)
       rintro e w2 ⟨rfl, hb⟩
       have h2 := HP.out.below hb
       have c0 := h2.c0
       obtain ⟨w3, hr, h3, k3, -⟩ := h2.del (b, c) 0
       unfold kp at hr
       have HR := hid hr
       have H3 := hid h3
       have K3 := hid ((Keeps.of_below (F := fun i => i = mb) hb).trans k3 (fun i hi => .inl hi))
       clear hb h2 hr h3 k3)
    | (at_delete; refine wl_delete rfl _ _ _ _ rfl ⟨_, _, HR.out, ?_⟩))
  go_ret
  exact ⟨rfl, H3.out, K3.out⟩

/-- What is watched. -/
def watchA (b c e f now : Int) (al : AL) : AL := if 0 < e then aset (b, c) (e, f, now + e, 0) (adel (b, c) al) else adel (b, c) al

set_option maxRecDepth 10000 in
set_option maxHeartbeats 1000000 in
theorem watch_any {w : World} {p mb : Nat} {al : AL} (h : PBk w p mb al) (b c e f now : Int) (hn : 0 ≤ now ∧ now ≤ 1000000) (he : -1000 ≤ e ∧ e ≤ 1000) :
    Calls Try.prog 62 #[.pointer (some ⟨p, 0, none⟩), .int .i64 b, .int .i64 c, .agg #[.int .i64 e, .int .i64 f], .int .i64 now] w fun r w' => r = .returned (.tuple #[]) ∧ PBk w' p mb (watchA b c e f now al) ∧ Keeps (fun i => i = mb) w w' := by
  obtain ⟨W1, hW1⟩ : ∃ W1, W1 = w.alloc (.cells #[.int .i64 e, .int .i64 f] 120) := ⟨_, rfl⟩
  have k1 : Below w.heap.size w W1 := by rw [hW1]; exact (Below.refl _ w).alloc (Nat.le_refl _) _
  have h1 := h.below k1
  have n1 : W1.heap[w.heap.size]? = some (.cells #[.int .i64 e, .int .i64 f] 120 (0, 0)) := by rw [hW1]; exact heap_at w _ _ rfl
  obtain ⟨W2, hr2, h2, k2, hs2⟩ := h1.del (b, c) 0
  have hne : ¬ (w.heap.size = mb) := by have := h.lt.2; omega
  have n2 : W2.heap[w.heap.size]? = some (.cells #[.int .i64 e, .int .i64 f] 120 (0, 0)) := (k2.block _ (Array.getElem?_eq_some_iff.1 n1).1 hne).trans n1
  have kk : Keeps (fun i => i = mb) w W2 := (Keeps.of_below (F := fun i => i = mb) k1).trans k2 (fun i hi => .inl hi)
  have c0 := h1.c0
  have d0 : W2.cell? ⟨w.heap.size, 0, none⟩ = some (.int .i64 e) := by rw [cell_of_row W2 _ 0 _ _ _ n2]; rfl
  have d1 : W2.cell? ⟨w.heap.size, 1, none⟩ = some (.int .i64 f) := by rw [cell_of_row W2 _ 1 _ _ _ n2]; rfl
  have c2 := h2.c0
  unfold kp at hr2
  have HR := hid hr2
  have HW := hid hW1
  have HK := hid kk
  have hw : IntKind.i64.wrap (now + e) = now + e := IntWalk.i64_in _ (by omega)
  by_cases hpos : 0 < e
  · obtain ⟨W3, hr3, h3, k3, -⟩ := PBk.set (w := W2.drew) (h2.below (Below.refl _ W2).drew) (b, c) (e, f, now + e, 0)
    have hd : decide (0 < e) = true := by simpa using hpos
    have HP := hid (show PBk W3 p mb (watchA b c e f now al) ∧ Keeps (fun i => i = mb) w W3 by
      unfold watchA
      rw [if_pos hpos]
      exact ⟨h3, kk.drew.trans k3 (fun i hi => .inl hi)⟩)
    unfold kp psv at hr3
    have HR3 := hid hr3
    clear hr2 hr3 h3 k3 h2 h1 h n1 n2 k1 k2 hs2 kk hW1 hpos hne
    go_enter Try.func62, Try.ntmps62
    go_upto_region 1 with fail
    rw [← HW.out]
    go_wp2_with (at_delete; refine wl_delete rfl _ _ _ _ rfl ⟨_, _, HR.out, ?_⟩)
    go_still_tail 13, (by kernel_rfl)
    change wpList _ _ _ _ _ _
    go_wp2_with (at_mapUpdate; refine wl_mapUpdate rfl _ _ _ _ rfl ⟨_, HR3.out, ?_⟩)
    go_end0
    exact ⟨rfl, HP.out⟩
  · have hd : decide (0 < e) = false := by simpa using hpos
    have HP := hid (show PBk W2 p mb (watchA b c e f now al) ∧ Keeps (fun i => i = mb) w W2 by
      unfold watchA
      rw [if_neg hpos]
      exact ⟨h2, kk⟩)
    clear hr2 h2 h1 h n1 n2 k1 k2 hs2 kk hW1 hpos hne
    go_enter Try.func62, Try.ntmps62
    go_upto_region 1 with fail
    rw [← HW.out]
    go_wp2_with (at_delete; refine wl_delete rfl _ _ _ _ rfl ⟨_, _, HR.out, ?_⟩)
    go_end0
    exact ⟨rfl, HP.out⟩
end Go.Proofs.Ytnceglkoolfncaa.Pr
