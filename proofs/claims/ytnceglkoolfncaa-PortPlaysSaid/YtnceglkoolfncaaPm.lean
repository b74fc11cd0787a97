/- The table of ports: the law PortOne. -/
import Derived.Test.YtnceglkoolfncaaPl
namespace Go.Proofs.Ytnceglkoolfncaa.Po
open Go.RowKit Go.Pv

/-- An act: what to do, for whom, the slice, the ports in it. -/
structure PAct where
  kd : Int
  ow : Int
  v : Value
  ps : List Int
def encPA (a : PAct) : List Value := [.int .i64 a.kd, .int .i64 a.ow, a.v]

theorem box_kept {wr w2 : World} {F : Nat → Prop} {cs : Array Value} {T : TypeId} (hF : ∀ i, F i → i < wr.heap.size) (hk : Keeps F (wr.alloc (.cells cs T)) w2) : w2.heap[wr.heap.size]? = some (.cells cs T (0, 0)) ∧ wr.heap.size < w2.heap.size := by
  have h1 := hk.size
  refine ⟨(hk.block wr.heap.size (by simp) (fun h => by have := hF _ h; omega)).trans (heap_at _ _ _ rfl), by simp at h1; omega⟩
theorem cells3 {w : World} {b : Nat} {x y z : Value} {T : TypeId} (h : w.heap[b]? = some (.cells #[x, y, z] T (0, 0))) : w.cell? ⟨b, 0, none⟩ = some x ∧ w.cell? ⟨b, 1, none⟩ = some y ∧ w.cell? ⟨b, 2, none⟩ = some z :=
  ⟨by rw [cell_of_row w b 0 _ _ _ h]; rfl, by rw [cell_of_row w b 1 _ _ _ h]; rfl, by rw [cell_of_row w b 2 _ _ _ h]; rfl⟩

theorem info3' : ∃ i, Try.prog.info? 3 = some i ∧ i.zero = some (.int .i64 0) ∧ i.size = 1 ∧ i.bytes = 8 := info_parts info3

theorem flatI (l : List Int) : l.flatMap encI = l.map (Value.int .i64) := by
  induction l with
  | nil => rfl
  | cons a r ih => simp [encI, ih]

theorem one_i (l : List Int) : ∀ u ∈ l.map (Value.int .i64), u.oneCell' = true := by simp [Value.oneCell']

theorem run_append_none {P : Program} {w : World} {t ty e : TypeId} {i : TypeInfo} (ht : P.underlying t = some (.slice e)) (hi : P.info? e = some i) {v : Value} {n : Nat} {xs : List Value} (h : SlRow w e i.size v n xs) (c : Nat) :
    (Builtin.append_ #[t, t] ty #[v, .slice none 0 c]).run P w = .ok v w := by
  rcases h.2 with ⟨rfl, rfl⟩ | ⟨g, o, cap, cur, rfl, hg, hnc, hcm, hcs, htake⟩
  · simp [Builtin.append_, run_underlying ht, sizeOf, typeInfo, hi, Builtin.lenOf, Builtin.firstCells]
  · simp [Builtin.append_, run_underlying ht, sizeOf, typeInfo, hi, Builtin.lenOf, Builtin.firstCells, hnc, storeCells]

theorem sl_form {w : World} {v : Value} {l : List Int} (h : SlOf w 3 1 encI v l) : ∃ a c, v = .slice a l.length c := by
  rcases SlRow.form h with ⟨h1, h2⟩ | ⟨g, o', c', h1⟩
  · exact ⟨none, 0, by rw [h2]; exact h1⟩
  · exact ⟨_, _, h1⟩

theorem mine_cell {w : World} {a : Option Addr} {n c : Nat} {l : List Int} (h : SlOf w 3 1 encI (.slice a n c) l) {j : Nat} (hj : j < l.length) : ∃ b o, a = some ⟨b, o, none⟩ ∧ w.cell? ⟨b, o + j, none⟩ = some (.int .i64 l[j]) := by
  have hn : n = l.length := by obtain ⟨a', c', he⟩ := sl_form h; simp at he; exact he.2.1
  subst hn
  rcases SlRow.form h with ⟨h1, h2⟩ | ⟨g, o', c', h1⟩
  · omega
  · have ha : a = some ⟨g, o', none⟩ := by simp at h1; exact h1.1
    refine ⟨g, o', ha, ?_⟩
    refine SlRow.cells h h1 j _ ?_
    rw [flatI, List.getElem?_map, List.getElem?_eq_getElem hj]; rfl

/-- append(mine, ports...) -/
theorem append_mine {B : Nat} {W : World} {p : Nat} {hs : List Hd} {mv pv : Value} {ml ps : List Int} {wr : World} (h : PInv B W p hs mv ml wr) (hB : B ≤ wr.heap.size) (hr : Rd wr 1 encI pv ps) (h1 : ml.length ≤ 10000) (h2 : ps.length ≤ 10000) (ty : TypeId) :
    ∃ a c w', (Builtin.append_ #[50, 50] ty #[mv, pv]).run Try.prog wr = .ok (.slice a (ml ++ ps).length c) w' ∧ PInv B W p hs (.slice a (ml ++ ps).length c) (ml ++ ps) w' ∧ Keeps (fun i => mv.ownBlock = some i) wr w' := by
  obtain ⟨i, hi, hz, hs', hb⟩ := info3'
  have hcase : (∃ c, pv = .slice none 0 c ∧ ps = []) ∨ ∃ a c, pv = .slice (some a) ps.length c ∧ ∀ j u, (ps.flatMap encI)[j]? = some u → wr.cell? (a.add j) = some u := by
    rcases hr with ⟨rfl, a, c, rfl⟩ | ⟨b, o, c, rfl, hb, hc⟩
    · cases a with
      | none => exact .inl ⟨c, rfl, rfl⟩
      | some a => exact .inr ⟨a, c, rfl, by simp⟩
    · refine .inr ⟨_, _, rfl, fun j u hu => ?_⟩
      rw [flatI, List.getElem?_map] at hu
      cases hx : ps[j]? with
      | none => rw [hx] at hu; cases hu
      | some x =>
        rw [hx] at hu; simp at hu; subst hu
        have := hc j x hx 0 _ rfl
        rw [Addr.add_lit]; simpa using this
  rcases hcase with ⟨c, rfl, rfl⟩ | hcase
  · have hs := h.sl
    unfold SlOf at hs
    rw [← hs'] at hs
    obtain ⟨a, c', rfl⟩ := sl_form h.sl
    exact ⟨a, c', wr, by simpa using run_append_none Try.underlying50 hi hs c, by simpa using h, Keeps.refl _ _⟩
  obtain ⟨v', w', r1, r2, r3, r4, _⟩ := run_append_sl (P := Try.prog) wr 50 ty 3 i _ 1 8 Try.underlying50 hi hz hs' hb rfl mv _ _ h.sl pv ps.length (ps.flatMap encI)
    (.inr hcase)
    (by rw [flatI]; simp) (by rw [flatI]; exact one_i ps) (by unfold maxLen; omega) (by omega)
  have hsl : SlOf w' 3 1 encI v' (ml ++ ps) := by unfold SlOf; rw [List.length_append, List.flatMap_append]; exact r2
  obtain ⟨a, c', rfl⟩ := sl_form hsl
  refine ⟨a, c', w', r1, h.mine hB r3 hsl (fun g hg => ?_), r3⟩
  rcases r4 with h4 | h4
  · rw [h4] at hg; exact .inl hg
  · rw [h4] at hg; simp at hg; exact .inr (by omega)
end Go.Proofs.Ytnceglkoolfncaa.Po
