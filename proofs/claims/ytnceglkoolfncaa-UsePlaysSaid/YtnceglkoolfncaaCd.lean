/- Use: the book: New, Len, Get, Peak, Drop, Add. -/
import Derived.Test.YtnceglkoolfncaaCb
import Derived.Test.YtnceglkoolfncaaCc
set_option linter.unusedSimpArgs false
set_option linter.unusedVariables false
namespace Go.Proofs.Ytnceglkoolfncaa.Us
open Go.RowKit Go.Pv Go.Proofs.Ytnceglkoolfncaa.Po Go.Proofs.YtnceglkoolfncaaW.PrintWords Go.Proofs.YtnceglkoolfncaaW.PrintLast

/-- What a container uses, and the most. -/
abbrev US := R3 × R3
def z6 : US := ((0, 0, 0), (0, 0, 0))
def usv (s : US) : Value := .agg #[.int .i64 s.1.1, .int .i64 s.1.2.1, .int .i64 s.1.2.2, .int .i64 s.2.1, .int .i64 s.2.2.1, .int .i64 s.2.2.2]
abbrev UL := List ((Int × Int) × US)
theorem keyU : KeyT Try.prog 223 kp := pairKey (e := 3) Try.underlying223 Try.underlying3 (by kernel_rfl) (by kernel_rfl) (fun w a b => ⟨by kernel_rfl, by kernel_rfl⟩) (fun em w a => by obtain ⟨a1, a2⟩ := a; kernel_rfl)
theorem zero225 (w : World) : (zeroValue 225).run Try.prog w = .ok (usv z6) w := by kernel_rfl

/-- How the book lies. -/
structure UBk (w : World) (p mb : Nat) (al : UL) : Prop where
  cell : w.heap[p]? = some (.cells #[.map (some mb)] 219 (0, 0))
  map : IsMap w mb kp (al.map fun r => (r.1, usv r.2))
  nd : (al.map (·.1)).Nodup

section
variable {w w' : World} {p mb : Nat} {al : UL}
theorem UBk.lt (h : UBk w p mb al) : p < w.heap.size ∧ mb < w.heap.size := ⟨(Array.getElem?_eq_some_iff.1 h.cell).1, h.map.lt⟩
theorem UBk.ne (h : UBk w p mb al) : p ≠ mb := by
  intro e
  obtain ⟨es, clock, hb, _⟩ := h.map
  rw [← e, h.cell] at hb
  cases hb
theorem UBk.kept {F : Nat → Prop} (h : UBk w p mb al) (k : Keeps F w w') (hp : ¬ F p) (hm : ¬ F mb) : UBk w' p mb al := ⟨(k.block p h.lt.1 hp).trans h.cell, h.map.kept k hm, h.nd⟩
theorem UBk.below (h : UBk w p mb al) (k : Below w.heap.size w w') : UBk w' p mb al := h.kept (Keeps.of_below (F := fun _ => False) k) (by simp) (by simp)
theorem UBk.c0 (h : UBk w p mb al) : w.cell? ⟨p, 0, none⟩ = some (.map (some mb)) := by rw [cell_of_row w p 0 _ _ _ h.cell]; rfl
theorem UBk.len (h : UBk w p mb al) (ty : TypeId) : (Builtin.len_ #[217] ty #[.map (some mb)]).run Try.prog w = .ok (.int .i64 al.length) w := by
  have := h.map.len (P := Try.prog) (ty := ty) Try.underlying217
  rw [this, List.length_map]
theorem UBk.look (h : UBk w p mb al) (k : Int × Int) : (Instr.lookup 217 (.map (some mb)) (kp k) false).run Try.prog w = .ok (usv ((aget k al).getD z6)) w := by
  have := h.map.lookup keyU Try.underlying217 zero225 k
  rw [this, aget_map]
  cases aget k al <;> rfl
theorem UBk.look_ok (h : UBk w p mb al) (k : Int × Int) : (Instr.lookup 217 (.map (some mb)) (kp k) true).run Try.prog w = .ok (.tuple #[usv ((aget k al).getD z6), .bool (aget k al).isSome]) w := by
  have := h.map.lookup_ok keyU Try.underlying217 zero225 k
  rw [this, aget_map]
  cases aget k al <;> rfl
theorem UBk.del (h : UBk w p mb al) (k : Int × Int) (ty : TypeId) : ∃ w', (Builtin.delete_ #[217, 223] ty #[.map (some mb), kp k]).run Try.prog w = .ok (.tuple #[]) w' ∧ UBk w' p mb (adel k al) ∧ Keeps (fun i => i = mb) w w' ∧ w'.heap.size = w.heap.size := by
  obtain ⟨w1, h1, h2, h3, h4⟩ := h.map.delete (ty := ty) keyU Try.underlying217 k 223
  rw [adel_map] at h2
  exact ⟨w1, h1, ⟨(h3.block p h.lt.1 h.ne).trans h.cell, h2, adel_nodup k h.nd⟩, h3, h4⟩
theorem UBk.set (h : UBk w p mb al) (k : Int × Int) (s : US) : ∃ w', (Instr.mapUpdate 217 (.map (some mb)) (kp k) (usv s)).run Try.prog w = .ok () w' ∧ UBk w' p mb (aset k s al) ∧ Keeps (fun i => i = mb) w w' ∧ w'.heap.size = w.heap.size := by
  obtain ⟨w1, h1, h2, h3, h4⟩ := h.map.update keyU Try.underlying217 k (usv s)
  rw [aset_map] at h2
  exact ⟨w1, h1, ⟨(h3.block p h.lt.1 h.ne).trans h.cell, h2, aset_nodup k s h.nd⟩, h3, h4⟩
end

set_option maxRecDepth 10000 in
theorem new_any (w : World) : Calls Try.prog 79 #[] w fun e w' => e = .returned (.pointer (some ⟨w.heap.size + 1, 0, none⟩)) ∧ UBk w' (w.heap.size + 1) w.heap.size [] ∧ Below w.heap.size w w' := by
  have hmm := @run_makeMap Try.prog
  go_enter Try.func79, Try.ntmps79
  go_wp2
  go_ret
  exact ⟨rfl, ⟨heap_at _ _ _ (by simp), (IsMap.made w kp).kept ((Keeps.refl (fun _ => False) _).alloc _) (by simp), by simp⟩, ((Below.refl _ w).alloc (Nat.le_refl _) _).alloc (by simp) _⟩

set_option maxRecDepth 10000 in
theorem len_any {w : World} {p mb : Nat} {al : UL} (h : UBk w p mb al) : Calls Try.prog 86 #[.pointer (some ⟨p, 0, none⟩)] w fun e w' => e = .returned (.int .i64 al.length) ∧ w' = w := by
  have c0 := h.c0
  have HN := hid (h.len 3)
  clear h
  go_enter Try.func86, Try.ntmps86
  go_wp2_with (at_len; refine wl_len rfl _ _ rfl ⟨_, _, HN.out, ?_⟩)
  go_ret
  exact ⟨rfl, rfl⟩

theorem field225 (x y z u v t : Int) (W : World) : (Instr.field 225 (.agg #[.int .i64 x, .int .i64 y, .int .i64 z, .int .i64 u, .int .i64 v, .int .i64 t]) 0).run Try.prog W = .ok (.agg #[.int .i64 x, .int .i64 y, .int .i64 z]) W ∧ (Instr.field 225 (.agg #[.int .i64 x, .int .i64 y, .int .i64 z, .int .i64 u, .int .i64 v, .int .i64 t]) 1).run Try.prog W = .ok (.agg #[.int .i64 u, .int .i64 v, .int .i64 t]) W := ⟨by kernel_rfl, by kernel_rfl⟩
set_option maxRecDepth 10000 in
theorem get_any {w : World} {p mb : Nat} {al : UL} (h : UBk w p mb al) (b c : Int) : Calls Try.prog 87 #[.pointer (some ⟨p, 0, none⟩), .int .i64 b, .int .i64 c] w fun e w' => e = .returned (rv ((aget (b, c) al).getD z6).1) ∧ Below w.heap.size w w' := by
  have hw := h.below ((Below.refl _ w).alloc (Nat.le_refl _) (.cells #[.int .i64 0, .int .i64 0, .int .i64 0] 145))
  have c0 := h.c0
  have hlt := h.lt.1
  have hne : ¬ (p = w.heap.size) := by omega
  have HL := hid (hw.look (b, c))
  obtain ⟨⟨⟨x, y, z⟩, ⟨u, v, t⟩⟩, hs⟩ : ∃ s, s = (aget (b, c) al).getD z6 := ⟨_, rfl⟩
  rw [← hs] at HL ⊢
  unfold kp usv at HL
  have hf := fun W => (field225 x y z u v t W).1
  clear h hw hs
  go_enter Try.func87, Try.ntmps87
  go_wp2_with (at_lookup; refine wl_lookup rfl _ _ _ _ rfl ⟨_, _, HL.out, ?_⟩)
  refine bodyPost_ret (v := .agg #[.int .i64 x, .int .i64 y, .int .i64 z]) (by simp [results, Try.results87, go_sem]) rfl ⟨rfl, ?_⟩
  exact (Below.refl _ w).alloc (Nat.le_refl _) _
set_option maxRecDepth 10000 in
theorem peak_any {w : World} {p mb : Nat} {al : UL} (h : UBk w p mb al) (b c : Int) : Calls Try.prog 88 #[.pointer (some ⟨p, 0, none⟩), .int .i64 b, .int .i64 c] w fun e w' => e = .returned (rv ((aget (b, c) al).getD z6).2) ∧ Below w.heap.size w w' := by
  have hw := h.below ((Below.refl _ w).alloc (Nat.le_refl _) (.cells #[.int .i64 0, .int .i64 0, .int .i64 0] 145))
  have c0 := h.c0
  have hlt := h.lt.1
  have hne : ¬ (p = w.heap.size) := by omega
  have HL := hid (hw.look (b, c))
  obtain ⟨⟨⟨x, y, z⟩, ⟨u, v, t⟩⟩, hs⟩ : ∃ s, s = (aget (b, c) al).getD z6 := ⟨_, rfl⟩
  rw [← hs] at HL ⊢
  unfold kp usv at HL
  have hf := fun W => (field225 x y z u v t W).2
  clear h hw hs
  go_enter Try.func88, Try.ntmps88
  go_wp2_with (at_lookup; refine wl_lookup rfl _ _ _ _ rfl ⟨_, _, HL.out, ?_⟩)
  refine bodyPost_ret (v := .agg #[.int .i64 u, .int .i64 v, .int .i64 t]) (by simp [results, Try.results88, go_sem]) rfl ⟨rfl, ?_⟩
  exact (Below.refl _ w).alloc (Nat.le_refl _) _
set_option maxRecDepth 10000 in
theorem drop_any {w : World} {p mb : Nat} {al : UL} (h : UBk w p mb al) (b c : Int) : Calls Try.prog 83 #[.pointer (some ⟨p, 0, none⟩), .int .i64 b, .int .i64 c] w fun e w' => e = .returned (.bool (decide ((adel (b, c) al).length < al.length))) ∧ UBk w' p mb (adel (b, c) al) ∧ Keeps (fun i => i = mb) w w' := by
  have c0 := h.c0
  have HN := hid (h.len 3)
  obtain ⟨w3, hr, h3, k3, -⟩ := h.del (b, c) 0
  unfold kp at hr
  have HR := hid hr
  have c3 := h3.c0
  have HN3 := hid (h3.len 3)
  have H3 := hid h3
  have K3 := hid k3
  clear hr h3 k3 h
  go_enter Try.func83, Try.ntmps83
  go_wp2_with (first
    | (at_len; refine wl_len rfl _ _ rfl ⟨_, _, HN.out, ?_⟩)
    | (at_delete; refine wl_delete rfl _ _ _ _ rfl ⟨_, _, HR.out, ?_⟩)
    | (at_len; refine wl_len rfl _ _ rfl ⟨_, _, HN3.out, ?_⟩))
  go_ret
  exact ⟨by simp, H3.out, K3.out⟩
end Go.Proofs.Ytnceglkoolfncaa.Us
