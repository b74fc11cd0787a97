/- Scripts: entries as a text (45.2); a script's text (48.3). -/
import Derived.Test.YtmgcapccgncmkaaDoorLj
set_option linter.unusedSimpArgs false
set_option linter.unusedVariables false
namespace Go.Proofs.YtmgcapccgncmkaaDoor.Ld
open Go.RowKit Go.Pv Go.Proofs.YtmgcapccgncmkaaDoor.PLoadScripts Go.Proofs.YtmgcapccgncmkaaDoorW.PrintWords Go.Proofs.YtmgcapccgncmkaaDoorW.PrintLast Go.Proofs.YtmgcapccgncmkaaDoorW.PrintMore

theorem k34_at {W : World} {A : Option Addr} {es : List Ent} (h : k34.C W A es.length (es.map sE)) (i : Nat) (hi : i < es.length) :
    ∃ b o A1 c1, A = some ⟨b, o, none⟩ ∧ W.cell? ⟨b, o + i * 3, none⟩ = some (.int .i64 es[i].1) ∧ W.cell? ⟨b, o + i * 3 + 1, none⟩ = some (.slice A1 es[i].2.1.length c1) ∧ W.cell? ⟨b, o + i * 3 + 2, none⟩ = some (.string es[i].2.2) ∧ es[i].2.1.length ≤ c1 ∧ Kd.C (Kd.int .i64) W A1 es[i].2.1.length es[i].2.1 := by
  have hl : (es.map sE).length = es.length := by simp
  obtain ⟨b, o, c, h1, _, cs, h2, h3⟩ := Rz.at_ (d := k34) (w := W) (v := .slice A es.length es.length) (xs := es.map sE) ⟨A, es.length, by rw [hl], by rw [hl]; exact Nat.le_refl _, by rw [hl]; exact h⟩ (by decide) i (by rw [hl]; exact hi)
  simp only [Value.slice.injEq] at h1
  have hx : (es.map sE)[i]'(by rw [hl]; exact hi) = sE es[i] := by simp
  rw [hx] at h2
  obtain ⟨A1, c1, rfl, h4, h5⟩ := k34_open h2
  refine ⟨b, o, A1, c1, h1.1, ?_, ?_, ?_, h4, h5⟩
  · have := h3 0 _ rfl; simpa [k34, Kd.iso, Kd.pair, Kd.int, Kd.slice, Kd.string, Kd.scalar, sE] using this
  · have := h3 1 _ rfl; simpa [k34, Kd.iso, Kd.pair, Kd.int, Kd.slice, Kd.string, Kd.scalar, sE] using this
  · have := h3 2 _ rfl; simpa [k34, Kd.iso, Kd.pair, Kd.int, Kd.slice, Kd.string, Kd.scalar, sE] using this

def wline (E : Ent) : List UInt8 := (lineL E).data.toList ++ [10]
def writeL (es : List Ent) : List UInt8 := (es.map wline).flatten
theorem isBuilder_later {B b : Nat} {bs : List Value} {W V : World} (h : Lib.IsBuilder 140 5 B b bs W) (hb : Below W.heap.size W V) : Lib.IsBuilder 140 5 B b bs V := by
  have h2 : ∀ p, Lib.BuilderAt 140 5 B b p bs W → Lib.BuilderAt 140 5 B b p bs V := by
    rintro p ⟨h1, v, h2, h3, h4⟩
    exact ⟨h1, v, (hb.block _ (Array.getElem?_eq_some_iff.1 h2).1).trans h2, own_move h3 (fun k hk => hb.block k (own_lt h3 k hk)), h4⟩
  exact h.imp (h2 _) (h2 _)
theorem wline_size {E : Ent} (h : rightB E = true) : (wline E).length ≤ 1001 := by
  unfold wline lineL
  have := (parts_small h).2
  simp only [List.length_append, List.length_singleton]
  omega
theorem writeL_size : ∀ (es : List Ent), (∀ e ∈ es, rightB e = true) → (writeL es).length ≤ es.length * 1001
  | [], _ => by simp [writeL]
  | e :: es, h => by
    have h1 := writeL_size es (fun x hx => h x (List.mem_cons_of_mem _ hx))
    have h2 := wline_size (h e List.mem_cons_self)
    unfold writeL at h1 ⊢
    simp only [List.map_cons, List.flatten_cons, List.length_append, List.length_cons, Nat.add_mul]
    omega
theorem cells_put (l : List UInt8) (E : Ent) : Lib.byteCells l ++ Lib.strCells (lineL E ++ ⟨#[10]⟩) = Lib.byteCells (l ++ wline E) := by
  have h : (lineL E ++ ⟨#[10]⟩ : ByteArray).data.toList = wline E := by
    rw [ByteArray.data_append]
    simp [wline]
  simp only [Lib.byteCells, Lib.strCells, List.map_append, h]
theorem wl_size (E : Ent) : (lineL E ++ ⟨#[10]⟩ : ByteArray).size = (wline E).length := by
  rw [ByteArray.size_append, wline, List.length_append]
  rfl
theorem writeL_take (es : List Ent) (j : Nat) (h : j < es.length) : writeL (es.take (j + 1)) = writeL (es.take j) ++ wline es[j] := by
  unfold writeL
  rw [List.take_add_one, List.getElem?_eq_getElem h, List.map_append, List.flatten_append]
  simp
/-- While a text is written. -/
structure WW (w W : World) (bs : List UInt8) : Prop where
  low : Below w.heap.size w W
  bd : Lib.IsBuilder 140 5 w.heap.size w.heap.size (Lib.byteCells bs) W
  size : w.heap.size < W.heap.size
set_option maxRecDepth 10000 in
set_option maxHeartbeats 1000000 in
theorem write_any (es : List Ent) (hes : ∀ e ∈ es, rightB e = true ∧ (vb e.1).2.2 ≠ 1) (hl : es.length ≤ 1000) (A : Option Addr) (c : Nat) (w : World) (hC : k34.C w A es.length (es.map sE)) (hG : Gl w) :
    Calls Tryd.prog 50 #[.slice A es.length c] w fun e w' => e = .returned (.string ⟨(writeL es).toArray⟩) ∧ Below w.heap.size w w' := by
  have HC0 := hid hC
  have HG0 := hid hG
  have HES := hid hes
  have HW := hid (WW.mk (w := w) (bs := []) ((Below.refl _ w).alloc (Nat.le_refl _) _) (Lib.fresh_isBuilder 140 5 w) (by simp))
  clear hC hG hes
  go_enter Tryd.func50, Tryd.ntmps50
  go_wp2_with fail
  go_loopg [5, 8] es.length (fun q s5 s8 wr => ∃ j : Nat, s8 = .int .i64 j ∧ q = es.length - j ∧ j ≤ es.length ∧ Hid (WW w wr (writeL (es.take j))))
  case atStart => exact ⟨0, rfl, by omega, by omega, HW⟩
  case round =>
    clear HW
    obtain ⟨j, rfl, rfl, hj, HW⟩ := hrel
    by_cases hjn : j < es.length
    · have b6 : decide ((j : Int) < (es.length : Int)) = true := decide_eq_true (by omega)
      obtain ⟨b, o, A1, c1, hA, k0, k1, k2, hc1, hC1⟩ := k34_at (Kd.C_below HC0.out HW.out.low) j hjn
      subst hA
      obtain ⟨E, hE⟩ : ∃ E, E = es[j] := ⟨_, rfl⟩
      have hsz := writeL_size (es.take j) (fun e he => (HES.out e (List.mem_of_mem_take he)).1)
      have hlt : (es.take j).length = j := by rw [List.length_take]; omega
      rw [hlt] at hsz
      obtain ⟨hr, hk⟩ := HES.out es[j] (List.getElem_mem hjn)
      rw [← hE] at hr hk k0 k1 k2 hc1 hC1
      have hsz2 := wline_size hr
      obtain ⟨v, ns, d⟩ := E
      simp only at k0 k1 k2 hc1 hC1
      have hb0 : Below wr.heap.size wr (wr.alloc (.cells #[.int .i64 v, .slice A1 ns.length c1, .string d] 34)) := (Below.refl _ wr).alloc (Nat.le_refl _) _
      have HB0 := hid hb0
      have HC1 := hid (Kd.C_below hC1 hb0)
      have HG1 := hid (HG0.out.later (HW.out.low.trans (hb0.mono HW.out.low.size)))
      have HX := hid (heap_alloc_new wr (.cells #[.int .i64 v, .slice A1 ns.length c1, .string d] 34))
      have HR := hid (fun (W : World) hC hG => right_any (v, ns, d) A1 c1 W hC hc1 hG)
      have HLn := hid (fun (W : World) hC hG => line_any (v, ns, d) hr hk A1 c1 W hC hc1 hG)
      rw [hr] at HR
      have HEE := hid hE
      have hcs : decide ((lineL (v, ns, d)).size + 1 > 9223372036854775807) = false := decide_eq_false (by have := wl_size (v, ns, d); rw [ByteArray.size_append] at this; have h1 : (⟨#[10]⟩ : ByteArray).size = 1 := rfl; omega)
      have hcs2 : ¬ ((lineL (v, ns, d)).size + 1 > 9223372036854775807) := of_decide_eq_false hcs
      have hcs3 : ¬ (9223372036854775807 < (lineL (v, ns, d)).size + 1) := hcs2
      clear hb0 hC1 hE
      go_wp2_with (first
        | (go_at_call 24; go_must (with_reducible refine (HR.out _ HC1.out HG1.out).mono ?_); go_must (rintro e w2 ⟨rfl, hb⟩; have HB2 := hid (HB0.out.trans (hb.mono HB0.out.size)); have hx2 := (hb.block _ (Array.getElem?_eq_some_iff.1 HX.out).1).trans HX.out; have HC2 := hid (Kd.C_below HC1.out hb); have HG2 := hid (HG1.out.later hb); have y0 : w2.cell? ⟨wr.heap.size, 0, none⟩ = some (.int .i64 v) := (cell_of_row _ _ _ _ _ _ hx2).trans rfl; have y1 : w2.cell? ⟨wr.heap.size, 1, none⟩ = some (.slice A1 ns.length c1) := (cell_of_row _ _ _ _ _ _ hx2).trans rfl; have y2 : w2.cell? ⟨wr.heap.size, 2, none⟩ = some (.string d) := (cell_of_row _ _ _ _ _ _ hx2).trans rfl; clear hb hx2 HB0 HX HC1 HG1))
        | (go_at_call 25; go_must (with_reducible refine (HLn.out _ HC2.out HG2.out).mono ?_); go_must (rintro e w3 ⟨rfl, hb⟩; have HB3 := hid (HB2.out.trans (hb.mono HB2.out.size)); have HBd := hid (isBuilder_later HW.out.bd HB3.out); have HL3 := hid (Nat.lt_of_lt_of_le HW.out.size HB3.out.size); clear hb HB2 HC2 HG2))
        | (go_at_call 77; go_must (with_reducible refine (Tryd.ws_any w.heap.size w.heap.size _ _ _ HBd.out ?hq (Nat.le_of_lt HL3.out)).mono ?_); go_must (case hq => rw [Lib.byteCells_length, wl_size]; omega); go_must (rintro e w4 ⟨rfl, hbd, hb⟩; rw [cells_put, HEE.out, ← writeL_take es j hjn] at hbd; have HW4 := hid (WW.mk (HW.out.low.trans ((HB3.out.mono HW.out.low.size).trans hb)) (.inr hbd) (Array.getElem?_eq_some_iff.1 hbd.2.choose_spec.1).1); clear hb hbd HB3 HBd HL3)))
      go_roundg (es.length - (j + 1))
      case measure => omega
      case rel => exact ⟨j + 1, by simp, rfl, by omega, HW4⟩
    · have b6 : decide ((j : Int) < (es.length : Int)) = false := decide_eq_false (by omega)
      have hjj : j = es.length := by omega
      subst hjj
      rw [List.take_length] at HW
      have hB := HW.out.size
      go_wp2_with (go_at_call 78; go_must (with_reducible refine (Tryd.str_any _ _ _ _ HW.out.bd (Nat.le_of_lt HW.out.size)).mono ?_); rintro e w4 ⟨rfl, hb⟩; have HE := hid (HW.out.low.trans hb); clear hb)
      go_ret
      exact ⟨rfl, HE.out⟩
end Go.Proofs.YtmgcapccgncmkaaDoor.Ld
