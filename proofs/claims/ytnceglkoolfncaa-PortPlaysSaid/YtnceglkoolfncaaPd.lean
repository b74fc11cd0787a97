/- The table of ports: Free. -/
import Derived.Test.YtnceglkoolfncaaPc
namespace Go.Proofs.Ytnceglkoolfncaa.Po
open Go.RowKit Go.Pv

theorem TabAt.alloc {w : World} {p : Nat} {v : Value} {l : List Hd} (h : TabAt w p v l) (o : Obj) : TabAt (w.alloc o) p v l :=
  h.kept (F := fun _ => False) ((Keeps.refl _ w).alloc o) (by simp) (by simp)

/-- The table's row is another. -/
theorem TabAt.set {w w' : World} {p : Nat} {v v' : Value} {l l' : List Hd} (h : TabAt w p v l) (k : Keeps (fun _ => False) w w') (hs : SlOf w' 181 2 encH v' l') (hr : Rising l') (hv : v'.ownBlock ≠ some p) :
    TabAt (w'.setCell ⟨p, 0, none⟩ v') p v' l' where
  cell := by rw [row_set ((k.block p h.plt (by simp)).trans h.cell)]; rfl
  sl := SlRow.kept hs ((Keeps.refl (fun i => i = p) w').setCell ⟨p, 0, none⟩ v' (.inl rfl)) (fun g hg e => hv (by rw [hg, e]))
  ris := hr

set_option maxRecDepth 10000 in
set_option maxHeartbeats 1000000 in
theorem free_any {w : World} {p : Nat} {v : Value} {l : List Hd} (h : TabAt w p v l) (hl : l.length ≤ 100000) (o : Int) :
    Calls Try.prog 35 #[.pointer (some ⟨p, 0, none⟩), .int .i64 o] w fun e w' => ∃ v', e = .returned (.int .i64 ((l.length : Int) - (without o l).length)) ∧ TabAt w' p v' (without o l) ∧ Keeps (fun i => i = p) w w' ∧ ∀ g, v'.ownBlock = some g → w.heap.size ≤ g := by
  have hplt := h.plt
  have h1 := h.alloc (.cells #[.int .i64 o] 3)
  obtain ⟨aa, ac, hav, -⟩ := hform h.sl
  obtain ⟨c0, cf⟩ := h1.cells
  have b0 : (w.alloc (.cells #[.int .i64 o] 3)).heap[w.heap.size]? = some (.cells #[.int .i64 o] 3 (0, 0)) := heap_at _ _ _ rfl
  have Hcl := hid (clone_any h1.sl hl)
  have hfl : (without o l).length ≤ l.length := List.length_filter_le _ _
  have e5 : IntKind.i64.wrap ((l.length : Int) - ((without o l).length : Int)) = (l.length : Int) - ((without o l).length : Int) := IntWalk.i64_in _ (by omega)
  have HD : Hid (∀ w2 v1, SlOf w2 181 2 encH v1 l → Keeps (fun _ => False) (w.alloc (.cells #[.int .i64 o] 3)) w2 → (∀ g, v1.ownBlock = some g → (w.alloc (.cells #[.int .i64 o] 3)).heap.size ≤ g) →
      Calls Try.prog 105 #[v1, .func (.func 106) #[] #[.pointer (some ⟨w.heap.size, 0, none⟩)]] w2 fun e w' => ∃ v', e = .returned v' ∧ SlOf w' 181 2 encH v' (without o l) ∧ Keeps (fun k => v1.ownBlock = some k) w2 w' ∧ (∀ k, v'.ownBlock = some k → v1.ownBlock = some k)) := hid fun w2 v1 hs k2 hf => by
    have hb2 := (k2.block w.heap.size (by simp) (by simp)).trans b0
    exact delete_any hs hl o w.heap.size (by rw [cell_of_row _ _ _ _ _ _ hb2]; rfl) (fun e => by have := hf _ e; simp at this; omega)
  have hmf : ∀ fn first cap (w : World), (Instr.makeFunc fn first cap).run Try.prog w = .ok (.func fn first cap) w := fun _ _ _ _ => rfl
  have H := hid h
  have H1 := hid h1
  subst hav
  obtain ⟨m, hm⟩ : ∃ m, m = (without o l).length := ⟨_, rfl⟩
  rw [← hm] at e5 hfl
  have HM := hid hm
  clear h h1 b0 hm
  obtain ⟨L, hL⟩ : ∃ L, L = without o l := ⟨_, rfl⟩
  have HL := hid hL
  clear hL
  go_enter Try.func35, Try.ntmps35
  go_wp2_with (first
    | (go_at_call 102; go_must (refine Hcl.out.mono ?_; rintro e w2 ⟨v1, rfl, a1, a2, a3⟩; have HD2 := hid (HD.out w2 v1 a1 a2 a3); have A2 := hid a2; have A3 := hid a3; clear a1 a2 a3))
    | (go_at_call 105
       go_must (
        refine HD2.out.mono ?_
        rintro e w3 ⟨v2, rfl, b1, b2, b3⟩
        have k3 : Keeps (fun _ => False) (w.alloc (.cells #[.int .i64 o] 3)) w3 := A2.out.trans b2 (fun i hi => by have := A3.out i hi; exact .inr this)
        have hb : ∀ g, v2.ownBlock = some g → w.heap.size + 1 ≤ g := fun g hg => by have := A3.out g (b3 g hg); simpa using this
        have t3 := H1.out.set k3 b1 (H.out.ris.filter _) (fun e => by have := hb _ e; omega)
        obtain ⟨z0, -⟩ := (H1.out.kept k3 (by simp) (by simp)).cells
        have zf : w3.frozen? ⟨p, 0, none⟩ = false := (H1.out.kept k3 (by simp) (by simp)).cells.2
        obtain ⟨ab, ac2, hav2, -⟩ := hform b1
        subst hav2
        rw [← HM.out] at t3 hb ⊢
        have T3 := hid t3
        have K3 := hid k3
        have HB := hid hb
        clear b1 b2 b3 t3 k3 hb)))
  go_ret
  refine ⟨.slice ab m ac2, by rw [← HM.out]; rfl, T3.out, ?_, fun g hg => by have := HB.out g hg; omega⟩
  exact (((Keeps.refl (fun i => i = p) w).alloc _).trans (Keeps.mono (F' := fun i => i = p) K3.out (by simp)) (fun i hi => .inl hi)).setCell _ _ (.inl rfl)
end Go.Proofs.Ytnceglkoolfncaa.Po
