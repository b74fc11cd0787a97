/- The table of ports: New, find, Owner, Len, Clone. -/
import Derived.Test.YtnceglkoolfncaaPa
namespace Go.Proofs.Ytnceglkoolfncaa.Po
open Go.RowKit Go.Pv

/-- How a table lies: its struct in block p, its row. -/
structure TabAt (w : World) (p : Nat) (v : Value) (l : List Hd) : Prop where
  cell : w.heap[p]? = some (.cells #[v] 178 (0, 0))
  sl : SlOf w 181 2 encH v l
  ris : Rising l

theorem TabAt.plt {w : World} {p : Nat} {v : Value} {l : List Hd} (h : TabAt w p v l) : p < w.heap.size := (Array.getElem?_eq_some_iff.1 h.cell).1
theorem TabAt.cells {w : World} {p : Nat} {v : Value} {l : List Hd} (h : TabAt w p v l) : w.cell? ⟨p, 0, none⟩ = some v ∧ w.frozen? ⟨p, 0, none⟩ = false :=
  ⟨by rw [cell_of_row w p 0 _ _ _ h.cell]; rfl, by simp [World.frozen?, h.cell]⟩
theorem TabAt.own {w : World} {p : Nat} {v : Value} {l : List Hd} (h : TabAt w p v l) : v.ownBlock ≠ some p := fun e => by
  obtain ⟨cur, hc⟩ := SlRow.elem h.sl e
  rw [h.cell] at hc; cases hc
theorem TabAt.kept {w w' : World} {p : Nat} {v : Value} {l : List Hd} {F : Nat → Prop} (h : TabAt w p v l) (k : Keeps F w w') (hp : ¬ F p) (hv : ∀ g, v.ownBlock = some g → ¬ F g) : TabAt w' p v l :=
  ⟨(k.block p h.plt hp).trans h.cell, SlRow.kept h.sl k hv, h.ris⟩

set_option maxRecDepth 10000 in
theorem new_any (w : World) : Calls Try.prog 30 #[] w fun e w' => e = .returned (.pointer (some ⟨w.heap.size, 0, none⟩)) ∧ TabAt w' w.heap.size (.slice none 0 0) [] ∧ Keeps (fun _ => False) w w' ∧ w'.heap.size = w.heap.size + 1 := by
  go_enter Try.func30, Try.ntmps30
  go_wp2
  go_ret
  exact ⟨rfl, ⟨heap_at _ _ _ rfl, SlRow.nil _ _ _, List.Pairwise.nil⟩, (Keeps.refl _ w).alloc _, by simp⟩

set_option maxRecDepth 10000 in
theorem len_any {w : World} {p : Nat} {v : Value} {l : List Hd} (h : TabAt w p v l) : Calls Try.prog 36 #[.pointer (some ⟨p, 0, none⟩)] w fun e w' => e = .returned (.int .i64 l.length) ∧ w' = w := by
  obtain ⟨aa, ac, rfl, -⟩ := hform h.sl
  obtain ⟨c0, -⟩ := h.cells
  clear h
  go_enter Try.func36, Try.ntmps36
  go_wp2
  go_ret
  exact ⟨rfl, rfl⟩

/-- Where a port stands, or belongs. -/
def atOf (q : Int) : List Hd → Nat
  | [] => 0
  | h :: r => if h.1 < q then atOf q r + 1 else 0

theorem isAt_atOf (q : Int) : ∀ {l : List Hd}, Rising l → IsAt q l (atOf q l)
  | [], _ => ⟨Nat.le_refl _, fun i h => by simp at h, fun i h => by simp at h⟩
  | h :: r, hr => by
    obtain ⟨h1, h2⟩ := List.pairwise_cons.1 hr
    obtain ⟨k1, k2, k3⟩ := isAt_atOf q h2
    unfold atOf
    split
    · rename_i hlt
      refine ⟨by simp; exact k1, fun i hi hik => ?_, fun i hi hik => ?_⟩
      · cases i with
        | zero => exact hlt
        | succ i => exact k2 i (by simpa using hi) (by omega)
      · cases i with
        | zero => omega
        | succ i => exact k3 i (by simpa using hi) (by omega)
    · rename_i hge
      refine ⟨by omega, fun i hi hik => by omega, fun i hi _ => ?_⟩
      cases i with
      | zero => simp; omega
      | succ i =>
        have := h1 _ (List.getElem_mem (by simpa using hi : i < r.length))
        simp; omega

theorem isAt_unique {q : Int} {l : List Hd} {a b : Nat} (ha : IsAt q l a) (hb : IsAt q l b) : a = b := by
  rcases Nat.lt_trichotomy a b with h | h | h
  · have hl : a < l.length := by have := hb.1; omega
    have h1 := ha.2.2 a hl (Nat.le_refl _)
    have h2 := hb.2.1 a hl h
    omega
  · exact h
  · have hl : b < l.length := by have := ha.1; omega
    have h1 := hb.2.2 b hl (Nat.le_refl _)
    have h2 := ha.2.1 b hl h
    omega

set_option maxRecDepth 10000 in
theorem find_any {w : World} {p : Nat} {v : Value} {l : List Hd} (h : TabAt w p v l) (hl : l.length ≤ 100000) (q : Int) :
    Calls Try.prog 103 #[.pointer (some ⟨p, 0, none⟩), .int .i64 q] w fun e w' => e = .returned (.tuple #[.int .i64 (atOf q l), .bool (foundAt q l (atOf q l))]) ∧ Keeps (fun _ => False) w w' := by
  obtain ⟨c0, -⟩ := h.cells
  have HS := hid (search_any h.sl hl h.ris q)
  have HA := hid (isAt_atOf q h.ris)
  clear h
  go_enter Try.func103, Try.ntmps103
  go_wp2_with (go_at_call 142; go_must (refine HS.out.mono ?_; rintro e w' ⟨⟨k, rfl, hk⟩, hk2⟩; have HK := hid hk; have HK2 := hid hk2; clear hk hk2))
  refine bodyPost_ret (results_tmp2 rfl _ _ _) rfl ?_
  have e := isAt_unique HK.out HA.out
  subst e
  exact ⟨rfl, HK2.out⟩

/-- Whose a port is. -/
def ownerOf (l : List Hd) (q : Int) : Int := match l.find? (fun h => h.1 = q) with | some h => h.2 | none => 0

theorem owner_none {l : List Hd} {q : Int} {k : Nat} (hk : IsAt q l k) (hr : Rising l) (hf : foundAt q l k = false) : ownerOf l q = 0 := by
  unfold ownerOf
  have : l.find? (fun h => h.1 = q) = none := by
    rw [List.find?_eq_none]
    intro x hx
    obtain ⟨i, hi, rfl⟩ := List.getElem_of_mem hx
    simp only [decide_eq_true_eq]
    intro e
    have h1 : ¬ i < k := fun h => by have := hk.2.1 i hi h; omega
    have hkl : k < l.length := by omega
    unfold foundAt at hf
    rw [List.getElem?_eq_getElem hkl] at hf
    simp at hf
    have h2 := hk.2.2 k hkl (Nat.le_refl _)
    rcases Nat.lt_or_ge k i with h3 | h3
    · have := List.pairwise_iff_getElem.1 hr k i hkl hi h3
      omega
    · have : i = k := by omega
      subst this; exact hf e
  rw [this]

theorem owner_some {l : List Hd} {q : Int} {k : Nat} (hr : Rising l) (hf : foundAt q l k = true) : ∃ h : k < l.length, l[k].1 = q ∧ ownerOf l q = l[k].2 := by
  unfold foundAt at hf
  rcases Nat.lt_or_ge k l.length with hkl | hkl
  · rw [List.getElem?_eq_getElem hkl] at hf
    simp at hf
    refine ⟨hkl, hf, ?_⟩
    unfold ownerOf
    have : l.find? (fun h => h.1 = q) = some l[k] := by
      rw [List.find?_eq_some_iff_getElem]
      refine ⟨by simp [hf], k, hkl, rfl, fun j hj => ?_⟩
      have := List.pairwise_iff_getElem.1 hr j k (by omega) hkl hj
      simp; omega
    rw [this]
  · rw [List.getElem?_eq_none hkl] at hf; cases hf

set_option maxRecDepth 10000 in
theorem owner_any {w : World} {p : Nat} {v : Value} {l : List Hd} (h : TabAt w p v l) (hl : l.length ≤ 100000) (q : Int) :
    Calls Try.prog 37 #[.pointer (some ⟨p, 0, none⟩), .int .i64 q] w fun e w' => e = .returned (.int .i64 (ownerOf l q)) ∧ Keeps (fun _ => False) w w' := by
  have HF := hid (find_any h hl q)
  have hA := isAt_atOf q h.ris
  have hris := h.ris
  obtain ⟨aa, ac, hv, hcell⟩ := hform h.sl
  obtain ⟨k, hk⟩ : ∃ k, k = atOf q l := ⟨_, rfl⟩
  rw [← hk] at HF hA
  cases hfb : foundAt q l k with
  | false =>
    rw [hfb] at HF
    rw [owner_none hA hris hfb]
    clear h hA hris hcell hk hfb
    go_enter Try.func37, Try.ntmps37
    go_wp2_with (go_at_call 103; go_must (refine HF.out.mono ?_; rintro e w' ⟨rfl, hk2⟩; have HK2 := hid hk2; clear hk2))
    go_ret
    exact ⟨rfl, HK2.out⟩
  | true =>
    rw [hfb] at HF
    obtain ⟨hkl, e1, e2⟩ := owner_some hris hfb
    rw [e2]
    obtain ⟨ab, ao, haa, hab, g1, g2⟩ := hcell k hkl
    subst haa
    subst hv
    obtain ⟨x, hx⟩ : ∃ x, x = l[k].2 := ⟨_, rfl⟩
    rw [← hx] at g2 ⊢
    have HV := hid (fun w' (k : Keeps (fun _ => False) w w') => (⟨(k.cell (p := ⟨p, 0, none⟩) h.plt (by simp)).trans h.cells.1, (k.cell (p := ⟨ab, ao + _ * 2 + 1, none⟩) hab (by simp)).trans g2⟩ : w'.cell? ⟨p, 0, none⟩ = _ ∧ w'.cell? _ = _))
    clear h hA hris hcell hk hfb e1 e2 g1 g2 hx hab
    go_enter Try.func37, Try.ntmps37
    go_wp2_with (go_at_call 103; go_must (refine HF.out.mono ?_; rintro e w' ⟨rfl, hk2⟩; obtain ⟨z0, z1⟩ := HV.out w' hk2; have HK2 := hid hk2; clear hk2))
    go_ret
    exact ⟨rfl, HK2.out⟩

set_option maxRecDepth 10000 in
theorem info181 : ∃ i, Try.prog.info? 181 = some i ∧ i.zero = some (.agg #[.int .i64 0, .int .i64 0]) ∧ i.size = 2 ∧ i.bytes = 16 := by
  have h : (Try.prog.info? 181).map (fun i => (i.zero, i.size, i.bytes)) = some (some (.agg #[.int .i64 0, .int .i64 0]), 2, 16) := by kernel_rfl
  cases h0 : Try.prog.info? 181 with
  | none => rw [h0] at h; cases h
  | some i => rw [h0] at h; simp at h; exact ⟨i, rfl, h.1, h.2.1, h.2.2⟩

end Go.Proofs.Ytnceglkoolfncaa.Po
