/- Words of our own, over any program: slices of the call's own, told as lists. -/
import Derived.Test.YtmgcapccgncmkaaDoorLib
import Derived.Laws.CopyRow
namespace Go.Pv
open Go

/-- v is a slice of the call's own, of elements of type e, sz cells each, whose cells are xs. -/
def SlRow (w : World) (e : TypeId) (sz : Nat) (v : Value) (n : Nat) (xs : List Value) : Prop :=
  xs.length = n * sz ∧ ((v = .slice none 0 0 ∧ n = 0) ∨
   ∃ g o cap cur, v = .slice (some ⟨g, o, none⟩) n cap ∧ w.heap[g]? = some (.cells cur e (0, 0)) ∧ n ≤ cap ∧ cap ≤ maxLen ∧ o + cap * sz ≤ cur.size ∧ (cur.toList.drop o).take (n * sz) = xs)

/-- The same of elements that are told by τ. -/
def SlOf {τ : Type} (w : World) (e : TypeId) (sz : Nat) (enc : τ → List Value) (v : Value) (l : List τ) : Prop := SlRow w e sz v l.length (l.flatMap enc)

section
variable {w w' : World} {e : TypeId} {sz : Nat} {v : Value} {n : Nat} {xs : List Value}

theorem SlRow.nil (w : World) (e : TypeId) (sz : Nat) : SlRow w e sz (.slice none 0 0) 0 [] := ⟨by simp, .inl ⟨rfl, rfl⟩⟩

theorem SlRow.lt (h : SlRow w e sz v n xs) {g : Nat} (hg : v.ownBlock = some g) : g < w.heap.size := by
  rcases h.2 with ⟨rfl, _⟩ | ⟨g', o, cap, cur, rfl, hb, _⟩
  · simp [Value.ownBlock] at hg
  · simp [Value.ownBlock] at hg; subst hg; exact (Array.getElem?_eq_some_iff.1 hb).1

theorem SlRow.elem (h : SlRow w e sz v n xs) {g : Nat} (hg : v.ownBlock = some g) : ∃ cur, w.heap[g]? = some (.cells cur e (0, 0)) := by
  rcases h.2 with ⟨rfl, _⟩ | ⟨g', o, cap, cur, rfl, hb, _⟩
  · simp [Value.ownBlock] at hg
  · simp [Value.ownBlock] at hg; subst hg; exact ⟨cur, hb⟩

theorem SlRow.of_block (h : SlRow w e sz v n xs) (hb : ∀ g, v.ownBlock = some g → w'.heap[g]? = w.heap[g]?) : SlRow w' e sz v n xs := by
  refine ⟨h.1, ?_⟩
  rcases h.2 with hn | ⟨g, o, cap, cur, rfl, hg, r⟩
  · exact .inl hn
  · exact .inr ⟨g, o, cap, cur, rfl, (hb g rfl).trans hg, r⟩

theorem SlRow.kept {F : Nat → Prop} (h : SlRow w e sz v n xs) (k : Keeps F w w') (hn : ∀ g, v.ownBlock = some g → ¬ F g) : SlRow w' e sz v n xs :=
  h.of_block fun g hg => k.block g (h.lt hg) (hn g hg)

theorem SlRow.alloc (h : SlRow w e sz v n xs) (o : Obj) : SlRow (w.alloc o) e sz v n xs :=
  h.of_block fun g hg => RowKit.Below.heap_alloc w o g (h.lt hg)

theorem SlRow.drew (h : SlRow w e sz v n xs) : SlRow w.drew e sz v n xs := h

theorem SlRow.form (h : SlRow w e sz v n xs) : (v = .slice none 0 0 ∧ n = 0) ∨ ∃ g o cap, v = .slice (some ⟨g, o, none⟩) n cap := by
  rcases h.2 with hn | ⟨g, o, cap, cur, rfl, hg, r⟩
  · exact .inl hn
  · exact .inr ⟨g, o, cap, rfl⟩

theorem SlRow.cells (h : SlRow w e sz v n xs) {g o cap : Nat} (hv : v = .slice (some ⟨g, o, none⟩) n cap) (j : Nat) (u : Value) (hu : xs[j]? = some u) : w.cell? ⟨g, o + j, none⟩ = some u := by
  rcases h.2 with ⟨rfl, _⟩ | ⟨g', o', cap', cur, rfl, hb, _, _, _, ht⟩
  · cases hv
  · simp only [Value.slice.injEq, Option.some.injEq, Addr.mk.injEq, true_and, and_true] at hv
    obtain ⟨⟨rfl, rfl⟩, _⟩ := hv
    rw [cell_of_row w g' (o' + j) cur e (0, 0) hb]
    rw [← ht, List.getElem?_take] at hu
    split at hu
    · rw [List.getElem?_drop] at hu; simpa using hu
    · cases hu

theorem SlRow.addcells (h : SlRow w e sz v n xs) {g o cap : Nat} (hv : v = .slice (some ⟨g, o, none⟩) n cap) (j : Nat) (u : Value) (hu : xs[j]? = some u) : w.cell? ((⟨g, o, none⟩ : Addr).add j) = some u := by
  have := h.cells hv j u hu
  rw [Addr.add_lit]; exact this

/-- A new row. -/
theorem SlRow.made (w : World) (e : TypeId) (sz n : Nat) (cs : Array Value) (hs : cs.size = n * sz) (hm : n ≤ maxLen) :
    SlRow (w.alloc (.cells cs e)) e sz (.slice (some ⟨w.heap.size, 0, none⟩) n n) n cs.toList :=
  ⟨by simpa using hs, .inr ⟨w.heap.size, 0, n, cs, rfl, heap_alloc_new w _, Nat.le_refl _, hm, by omega, by rw [← hs, ← Array.length_toList, List.drop_zero, List.take_length]⟩⟩

/-- v[a:b]. -/
theorem SlRow.cut (h : SlRow w e sz v n xs) {g o cap : Nat} (hv : v = .slice (some ⟨g, o, none⟩) n cap) (a b : Nat) (hab : a ≤ b) (hb : b ≤ n) (c : Nat) (hc : c = cap - a) (o' : Nat) (ho : (o' = o + a * sz) ∨ (o' = o ∧ cap = a)) :
    SlRow w e sz (.slice (some ⟨g, o', none⟩) (b - a) c) (b - a) ((xs.drop (a * sz)).take ((b - a) * sz)) := by
  rcases h.2 with ⟨rfl, _⟩ | ⟨g', o1, cap', cur, rfl, hg, h1, h2, h3, h4⟩
  · cases hv
  · simp only [Value.slice.injEq, Option.some.injEq, Addr.mk.injEq, true_and, and_true] at hv
    obtain ⟨⟨rfl, rfl⟩, rfl⟩ := hv
    subst hc
    have hmul : a * sz + (b - a) * sz = b * sz := by rw [← Nat.add_mul]; congr 1; omega
    have hbn : b * sz ≤ n * sz := Nat.mul_le_mul_right _ hb
    have hac : a * sz + (cap' - a) * sz = cap' * sz := by rw [← Nat.add_mul]; congr 1; omega
    refine ⟨by simp [h.1]; omega, .inr ⟨g', o', cap' - a, cur, rfl, hg, by omega, by omega, ?_, ?_⟩⟩
    · rcases ho with rfl | ⟨rfl, rfl⟩
      · omega
      · simp; omega
    · rcases ho with rfl | ⟨rfl, rfl⟩
      · rw [← h4, List.drop_take, List.take_take, List.drop_drop]
        congr 1
        omega
      · have : b - cap' = 0 := by omega
        simp [this]
end

section
variable {P : Program} (w : World)

theorem run_append_room' (t ty e : TypeId) (i : TypeInfo) (ht : P.underlying t = some (.slice e)) (hi : P.info? e = some i)
    (g o sLen sCap : Nat) (cur : Array Value) (hg : w.heap[g]? = some (.cells cur e (0, 0)))
    (a : Addr) (m c : Nat) (news : List Value) (hl : news.length = m * i.size) (hnews : ∀ j u, news[j]? = some u → w.cell? (a.add j) = some u) (h1 : ∀ u ∈ news, u.oneCell' = true)
    (hroom : sLen + m ≤ sCap) (hfit : o + sLen * i.size + news.length ≤ cur.size) :
    (Builtin.append_ #[t, t] ty #[.slice (some ⟨g, o, none⟩) sLen sCap, .slice (some a) m c]).run P w =
      .ok (.slice (some ⟨g, o, none⟩) (sLen + m) sCap) (w.setRow g (cur.toList.take (o + sLen * i.size) ++ news ++ cur.toList.drop (o + sLen * i.size + news.length)).toArray) := by
  have hf := run_firstCells_some (P := P) w i.size m a m c news hl hnews
  have hst := run_storeCells_at P g (o + sLen * i.size) e news 0 cur w hg (by simpa using hfit) h1
  simp only [Nat.add_zero] at hst
  simp [Builtin.append_, run_underlying ht, sizeOf, typeInfo, hi, Builtin.lenOf, hroom, hf, Addr.add_lit, hst]

/-- append onto a slice of the call's own, from whatever slice: what comes of it, and where it lies. -/
theorem run_append_sl (t ty e : TypeId) (i : TypeInfo) (z : Value) (sz bytes : Nat) (ht : P.underlying t = some (.slice e)) (hi : P.info? e = some i) (hz : i.zero = some z)
    (hsize : i.size = sz) (hby : i.bytes = bytes) (hzs : z.cells.size = sz)
    (v : Value) (n : Nat) (xs : List Value) (hown : SlRow w e sz v n xs)
    (x : Value) (m : Nat) (news : List Value) (hx : (x = .slice none 0 0 ∧ m = 0) ∨ ∃ a c, x = .slice (some a) m c ∧ ∀ j u, news[j]? = some u → w.cell? (a.add j) = some u)
    (hl : news.length = m * sz) (h1 : ∀ u ∈ news, u.oneCell' = true)
    (h63 : n + m ≤ maxLen) (hbytes : (n + m) * bytes ≤ 140737488355328) :
    ∃ v' w', (Builtin.append_ #[t, t] ty #[v, x]).run P w = .ok v' w' ∧ SlRow w' e sz v' (n + m) (xs ++ news) ∧ Keeps (fun k => v.ownBlock = some k) w w' ∧
      (v'.ownBlock = v.ownBlock ∨ v'.ownBlock = some w.heap.size) ∧ (m = 0 → v' = v) ∧ (0 < m → w.heap.size < w'.heap.size ∨ (v'.ownBlock = v.ownBlock ∧ w'.heap.size = w.heap.size)) := by
  subst hsize
  subst hby
  have hsmall : n + m ≤ 9223372036854775807 := by simp only [maxLen] at h63; omega
  have hlen : (xs ++ news).length = (n + m) * i.size := by rw [List.length_append, hown.1, hl, Nat.add_mul]
  by_cases hm : m = 0
  · -- nothing is appended
    subst hm
    have hn : news = [] := List.eq_nil_of_length_eq_zero (by simpa using hl)
    subst hn
    have hr : (Builtin.append_ #[t, t] ty #[v, x]).run P w = .ok v w := by
      rcases hown.2 with ⟨rfl, rfl⟩ | ⟨g, o, cap, cur, rfl, hg, hnc, hcm, hcs, htake⟩ <;> rcases hx with ⟨rfl, _⟩ | ⟨a, c, rfl, _⟩
      · simp [Builtin.append_, run_underlying ht, sizeOf, typeInfo, hi, Builtin.lenOf, Builtin.firstCells]
      · simp [Builtin.append_, run_underlying ht, sizeOf, typeInfo, hi, Builtin.lenOf, Builtin.firstCells, loadCells, loadCellsFrom]
      · simp [Builtin.append_, run_underlying ht, sizeOf, typeInfo, hi, Builtin.lenOf, Builtin.firstCells, hnc, storeCells]
      · simp [Builtin.append_, run_underlying ht, sizeOf, typeInfo, hi, Builtin.lenOf, Builtin.firstCells, loadCells, loadCellsFrom, hnc, storeCells]
    exact ⟨v, w, hr, by simpa using hown, Keeps.refl _ _, .inl rfl, fun _ => rfl, fun h => absurd h (by omega)⟩
  · obtain ⟨a, c, rfl, hnews⟩ : ∃ a c, x = .slice (some a) m c ∧ ∀ j u, news[j]? = some u → w.cell? (a.add j) = some u := by
      rcases hx with ⟨_, h⟩ | h
      · exact absurd h hm
      · exact h
    have grown : ∀ (old : Nat), old < n + m → ∀ (F : Nat → Prop),
        SlRow (w.drew.alloc (.cells (xs.toArray ++ news.toArray ++ Builtin.zeroCells z.cells (grownCap w (n + m) old e - (n + m))) e)) e i.size
          (.slice (some ⟨w.heap.size, 0, none⟩) (n + m) (grownCap w (n + m) old e)) (n + m) (xs ++ news) ∧
        Keeps F w (w.drew.alloc (.cells (xs.toArray ++ news.toArray ++ Builtin.zeroCells z.cells (grownCap w (n + m) old e - (n + m))) e)) := by
      intro old ho F
      have hge := grownCap_ge w (n + m) old e
      have hcm : grownCap w (n + m) old e ≤ maxLen := grownCap_le_maxLen w (n + m) old e h63
      refine ⟨⟨hlen, .inr ⟨w.heap.size, 0, _, _, rfl, heap_alloc_new w.drew _, hge, hcm, ?_, ?_⟩⟩, (Keeps.refl F w).drew.alloc _⟩
      · simp only [Array.size_append, List.size_toArray, size_zeroCells, hzs, hown.1, hl, ← Nat.add_mul]
        rw [Nat.zero_add]
        exact Nat.mul_le_mul_right _ (by omega)
      · simp only [Array.toList_append, List.append_assoc, List.drop_zero]
        rw [← List.append_assoc, ← hlen]
        exact List.take_left
    rcases hown.2 with ⟨rfl, rfl⟩ | ⟨g, o, cap, cur, rfl, hg, hnc, hcm, hcs, htake⟩
    · have hx0 : xs = [] := List.eq_nil_of_length_eq_zero (by simpa using hown.1)
      subst hx0
      have hr := run_append_nil (P := P) w t ty e i z ht hi hz a m c news hl hnews (by omega) (by omega) (by have hb := hbytes; simp only [Nat.zero_add] at hb; omega)
      have hgr := grown 0 (by omega) (fun k => Value.ownBlock (.slice none 0 0) = some k)
      simp only [Nat.zero_add, List.nil_append, Array.empty_append] at hgr ⊢
      exact ⟨_, _, hr, hgr.1, hgr.2, .inr rfl, fun h => absurd h hm, fun _ => .inl (by simp)⟩
    · by_cases hroom : n + m ≤ cap
      · have hle : (n + m) * i.size ≤ cap * i.size := Nat.mul_le_mul_right _ hroom
        rw [Nat.add_mul] at hle
        have hfit : o + n * i.size + news.length ≤ cur.size := by rw [hl]; omega
        have hr := run_append_room' (P := P) w t ty e i ht hi g o n cap cur hg a m c news hl hnews h1 hroom hfit
        refine ⟨_, _, hr, ⟨hlen, .inr ⟨g, o, cap, _, rfl, setRow_heap w g cur _ e _ hg, hroom, hcm, ?_, ?_⟩⟩, ⟨rfl, rfl, rfl, by simp [World.setRow], fun k _ hk => setRow_other w g k _ (fun e => hk (by simp [Value.ownBlock, e]))⟩, .inl rfl, fun h => absurd h hm, fun _ => .inr ⟨rfl, by simp [World.setRow]⟩⟩
        · simp only [List.size_toArray, List.length_append, List.length_take, List.length_drop, Array.length_toList]
          omega
        · rw [← hlen, ← htake]
          have e1 : List.take (o + n * i.size) cur.toList = List.take o cur.toList ++ (List.drop o cur.toList).take (n * i.size) := by
            rw [List.take_add]
          have ho : o ≤ cur.toList.length := by simp; omega
          simp only [e1, List.append_assoc]
          rw [List.drop_append]
          simp only [List.length_take, Nat.min_eq_left ho, Nat.sub_self, List.drop_zero]
          have : List.drop o (List.take o cur.toList) = [] := by simp
          rw [this, List.nil_append, ← List.append_assoc]
          exact List.take_left
      · have hr := run_append_grow (P := P) w t ty e i z ht hi hz ⟨g, o, none⟩ n cap xs hown.1 (fun j u hu => hown.addcells rfl j u hu) a m c news hl hnews (by omega) (by omega) (growslice_fits (by omega) hbytes)
        have hgr := grown cap (by omega) (fun k => Value.ownBlock (.slice (some ⟨g, o, none⟩) n cap) = some k)
        exact ⟨_, _, hr, hgr.1, hgr.2, .inr rfl, fun h => absurd h hm, fun _ => .inl (by simp)⟩
end

section
variable {P : Program}

end
end Go.Pv
