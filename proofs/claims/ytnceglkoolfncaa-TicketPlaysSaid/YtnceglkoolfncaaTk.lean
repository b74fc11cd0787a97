/- The book of tickets: what its functions do. -/
import Derived.Test.YtnceglkoolfncaaMs
import Derived.Test.YtnceglkoolfncaaProg
import Derived.WalkSpells
import Derived.Outline
import Derived.KernelRfl
import Derived.Deep.RegionHeld3
import Derived.Deep.DeepMust
import Derived.Maps.OwnSet
import Derived.Maps.RangeWalk

namespace Go.Proofs.Ytnceglkoolfncaa
open Go.RowKit Go.Pv

abbrev Tk := Int × Int × Int
def encT (t : Tk) : List Value := [.int .i64 t.1, .int .i64 t.2.1, .int .i64 t.2.2]
abbrev ki (a : Int) : Value := .int .i64 a

theorem hid {p : Prop} (h : p) : Hid p := h

theorem keyI : KeyT Try.prog 3 ki := intKey Try.underlying3
theorem zero26 (w : World) : (zeroValue 26).run Try.prog w = .ok (.slice none 0 0) w := by kernel_rfl
theorem info30 : (Try.prog.info? 30).map (fun i => (i.zero, i.size, i.bytes)) = some (some (.agg #[.int .i64 0, .int .i64 0, .int .i64 0]), 3, 24) := by kernel_rfl

abbrev TRows := List (Int × (Value × List Tk))
/-- The slice at a key, and the tickets there. -/
def rv (rows : TRows) (k : Int) : Value := ((aget k rows).getD (.slice none 0 0, [])).1
def rl (rows : TRows) (k : Int) : List Tk := ((aget k rows).getD (.slice none 0 0, [])).2

theorem look_rows {w : World} {mb : Nat} {rows : TRows} (h : MapSl w mb ki 30 3 encT rows) (k : Int) : (Instr.lookup 164 (.map (some mb)) (.int .i64 k) false).run Try.prog w = .ok (rv rows k) w := by
  have := h.map.lookup keyI Try.underlying164 zero26 k
  rw [this, aget_map (fun r : Value × List Tk => r.1)]
  unfold rv
  cases aget k rows <;> rfl

theorem run_len_sl {P : Program} {t e ty : TypeId} {w : World} {sz n : Nat} {v : Value} {xs : List Value} (ht : P.underlying t = some (.slice e)) (h : SlRow w e sz v n xs) : (Builtin.len_ #[t] ty #[v]).run P w = .ok (.int .i64 n) w := by
  rcases h.form with ⟨rfl, rfl⟩ | ⟨g, o, cap, rfl⟩ <;> simp [Builtin.len_, run_underlying ht, goInt]

set_option maxRecDepth 10000 in
theorem room_any {w : World} {p mb : Nat} {rows : TRows} (hc : w.cell? ⟨p, 0, none⟩ = some (.map (some mb))) (hm : MapSl w mb ki 30 3 encT rows) (k : Int) :
    Calls Try.prog 51 #[.pointer (some ⟨p, 0, none⟩), .int .i64 k] w fun e w' => e = .returned (.bool (decide (((rl rows k).length : Int) < 4))) ∧ w' = w := by
  have hl := look_rows hm k
  have hn := run_len_sl (P := Try.prog) (ty := 3) Try.underlying26 (hm.getD k)
  have Hl := hid hl
  have Hn := hid hn
  clear hl hn hm
  go_enter Try.func51, Try.ntmps51
  go_wp2_with (first
    | (at_lookup; refine wl_lookup rfl _ _ _ _ rfl ⟨_, _, Hl.out, ?_⟩)
    | (at_len; refine wl_len rfl _ _ rfl ⟨_, _, Hn.out, ?_⟩))
  go_ret
  exact ⟨rfl, rfl⟩

set_option maxRecDepth 10000 in
theorem new_any (w : World) : Calls Try.prog 16 #[] w fun e w' => e = .returned (.pointer (some ⟨w.heap.size + 1, 0, none⟩)) ∧ w' = (w.alloc (.map #[] 0)).alloc (.cells #[.map (some w.heap.size), .int .i64 0] 166) := by
  have hmm := @run_makeMap Try.prog
  go_enter Try.func16, Try.ntmps16
  go_wp2
  go_ret
  exact ⟨rfl, rfl⟩

def nameB (k : Int) : ByteArray := if k = 1 then ⟨#[114, 117, 110]⟩ else if k = 2 then ⟨#[117, 112, 100, 97, 116, 101]⟩ else if k = 3 then ⟨#[107, 105, 108, 108]⟩ else ⟨#[]⟩

set_option maxRecDepth 10000 in
theorem name_any (k : Int) (w : World) : Calls Try.prog 96 #[.int .i64 k] w fun e w' => e = .returned (.string (nameB k)) ∧ w' = w := by
  by_cases h1 : k = 1
  · subst h1
    go_enter Try.func96, Try.ntmps96
    go_wp2
    go_ret
    exact ⟨rfl, rfl⟩
  by_cases h2 : k = 2
  · subst h2
    go_enter Try.func96, Try.ntmps96
    go_wp2
    go_ret
    exact ⟨rfl, rfl⟩
  by_cases h3 : k = 3
  · subst h3
    go_enter Try.func96, Try.ntmps96
    go_wp2
    go_ret
    exact ⟨rfl, rfl⟩
  · have e : nameB k = ⟨#[]⟩ := by simp [nameB, h1, h2, h3]
    rw [e]
    have e1 : (k == 1) = false := by simp [h1]
    have e2 : (k == 2) = false := by simp [h2]
    have e3 : (k == 3) = false := by simp [h3]
    clear e h1 h2 h3
    go_enter Try.func96, Try.ntmps96
    go_wp2
    go_ret
    exact ⟨rfl, rfl⟩

/-- A ticket as a result. -/
def tkV (t : Tk) : Value := .agg #[.int .i64 t.1, .int .i64 t.2.1, .int .i64 t.2.2]

theorem SlOf.consForm {w : World} {v : Value} {t : Tk} {ts : List Tk} (h : SlOf w 30 3 encT v (t :: ts)) : ∃ g o cap, v = .slice (some ⟨g, o, none⟩) (ts.length + 1) cap ∧ g < w.heap.size ∧
    w.cell? ⟨g, o, none⟩ = some (.int .i64 t.1) ∧ w.cell? ⟨g, o + 1, none⟩ = some (.int .i64 t.2.1) ∧ w.cell? ⟨g, o + 2, none⟩ = some (.int .i64 t.2.2) := by
  rcases SlRow.form h with ⟨_, hn⟩ | ⟨g, o, cap, hv⟩
  · simp at hn
  · refine ⟨g, o, cap, hv, SlRow.lt h (by rw [hv]; rfl), ?_, ?_, ?_⟩
    · exact SlRow.cells h hv 0 _ rfl
    · exact SlRow.cells h hv 1 _ rfl
    · exact SlRow.cells h hv 2 _ rfl

theorem info26 : (Try.prog.info? 26).map (fun i => (i.zero, i.size, i.bytes)) = some (some (.slice none 0 0), 1, 24) := by kernel_rfl

set_option maxRecDepth 10000 in
theorem head_any {w : World} {p mb : Nat} {rows : TRows} (hc : w.cell? ⟨p, 0, none⟩ = some (.map (some mb))) (hm : MapSl w mb ki 30 3 encT rows) (k : Int) :
    Calls Try.prog 48 #[.pointer (some ⟨p, 0, none⟩), .int .i64 k] w fun e w' => e = .returned (.tuple #[tkV ((rl rows k).headD (0, 0, 0)), .bool (!(rl rows k).isEmpty)]) ∧ Below w.heap.size w w' := by
  have hpl := World.block_lt_of_cell? _ _ hc
  have hsl := hm.getD k
  have hl := look_rows (MapSl.kept hm ((Keeps.refl (fun _ => False) w).alloc (.cells #[.int .i64 0, .int .i64 0, .int .i64 0] 30)) (by simp) (by simp)) k
  have Hl := hid hl
  have hn := run_len_sl (P := Try.prog) (ty := 3) Try.underlying26 (hsl.alloc (.cells #[.int .i64 0, .int .i64 0, .int .i64 0] 30))
  have Hn := hid hn
  clear hl hn hm
  change SlOf w 30 3 encT (rv rows k) (rl rows k) at hsl
  change Hid (Sem.run Try.prog (Builtin.len_ #[26] 3 #[rv rows k]) _ = Result.ok (Value.int .i64 (rl rows k).length) _) at Hn
  cases hr : rl rows k with
  | nil =>
    rw [hr] at Hn
    clear hsl hr
    go_enter Try.func48, Try.ntmps48
    go_wp2_with (first
      | (at_lookup; refine wl_lookup rfl _ _ _ _ rfl ⟨_, _, Hl.out, ?_⟩)
      | (at_len; refine wl_len rfl _ _ rfl ⟨_, _, Hn.out, ?_⟩))
    refine bodyPost_ret (v := .tuple #[.agg #[.int .i64 0, .int .i64 0, .int .i64 0], .bool false]) (by simp [results, Try.results48, go_sem]) rfl ⟨rfl, ?_⟩
    exact (Below.refl _ _).alloc (Nat.le_refl _) _
  | cons t ts =>
    rw [hr] at Hn hsl
    obtain ⟨g, o, cap, hv, hg, c0, c1, c2⟩ := SlOf.consForm hsl
    rw [hv] at Hl Hn
    clear hsl hr hv
    go_enter Try.func48, Try.ntmps48
    go_wp2_with (first
      | (at_lookup; refine wl_lookup rfl _ _ _ _ rfl ⟨_, _, Hl.out, ?_⟩)
      | (at_len; refine wl_len rfl _ _ rfl ⟨_, _, Hn.out, ?_⟩))
    refine bodyPost_ret (v := .tuple #[.agg #[.int .i64 t.1, .int .i64 t.2.1, .int .i64 t.2.2], .bool true]) (by simp [results, Try.results48, go_sem]) rfl ⟨rfl, ?_⟩
    exact (Below.refl _ _).alloc (Nat.le_refl _) _

set_option maxRecDepth 10000 in
theorem clone_any {w : World} {v : Value} {l : List Tk} (h : SlOf w 30 3 encT v l) (hb : l.length ≤ 100000) :
    Calls Try.prog 97 #[v] w fun e w' => ∃ v', e = .returned v' ∧ SlOf w' 30 3 encT v' l ∧ Keeps (fun _ => False) w w' ∧ ∀ g, v'.ownBlock = some g → w.heap.size ≤ g := by
  obtain ⟨i0, hi, hz0, hz1, hz2⟩ := info_parts info30
  have he := fun (w : World) (a : Option Addr) (n c : Nat) => Lib.run_eql_slice_nil (P := Try.prog) w 26 30 a n c 0 0 Try.underlying26
  rcases SlRow.form h with ⟨rfl, hn⟩ | ⟨g, o, cap, hv⟩
  · have : l = [] := List.eq_nil_of_length_eq_zero hn
    subst this
    go_enter Try.func97, Try.ntmps97
    go_wp2
    go_ret
    exact ⟨_, rfl, SlRow.nil _ _ _, Keeps.refl _ _, by simp [Value.ownBlock]⟩
  · obtain ⟨v', w1, hr, hs, hk, hloc, -⟩ := run_append_sl (P := Try.prog) (w.alloc (.cells #[] 30)) 26 26 30 i0 _ 3 24 Try.underlying26 hi hz0 hz1 hz2 rfl
      _ 0 [] (SlRow.made w 30 3 0 #[] rfl (by unfold maxLen; omega)) v l.length (l.flatMap encT) (.inr ⟨⟨g, o, none⟩, cap, hv, fun j u hu => (SlRow.alloc h _).addcells hv j u hu⟩)
      h.1 (by intro u hu; obtain ⟨t, _, ht⟩ := List.mem_flatMap.1 hu; simp only [encT, List.mem_cons, List.not_mem_nil, or_false] at ht; rcases ht with rfl | rfl | rfl <;> rfl) (by unfold maxLen; omega) (by omega)
    have Hr := hid hr
    clear hr
    rw [hv] at Hr ⊢
    have Hs := hid hs
    have Hloc := hid hloc
    have Hk := hid hk
    clear hs hloc hk h hv hz0 hz1 hz2 hi
    go_enter Try.func97, Try.ntmps97
    go_wp2_with (at_builtin; refine wl_append rfl _ _ _ rfl ⟨_, _, Hr.out, ?_⟩)
    go_ret
    refine ⟨v', rfl, by have h9 := Hs.out; simp at h9; exact h9, ?_, ?_⟩
    · exact ((Keeps.refl _ w).alloc _).trans Hk.out (by intro i hi; right; simp [Value.ownBlock] at hi; omega)
    · intro g' hg'
      rcases Hloc.out with h1 | h1
      · rw [h1] at hg'; simp [Value.ownBlock] at hg'; omega
      · rw [h1] at hg'; simp at hg'; omega

set_option maxRecDepth 10000 in
theorem of_any {w : World} {p mb : Nat} {rows : TRows} (hc : w.cell? ⟨p, 0, none⟩ = some (.map (some mb))) (hm : MapSl w mb ki 30 3 encT rows) (k : Int) (hb : (rl rows k).length ≤ 100000) :
    Calls Try.prog 20 #[.pointer (some ⟨p, 0, none⟩), .int .i64 k] w fun e w' => ∃ v', e = .returned v' ∧ SlOf w' 30 3 encT v' (rl rows k) ∧ Keeps (fun _ => False) w w' ∧ ∀ g, v'.ownBlock = some g → w.heap.size ≤ g := by
  have hcl := clone_any (hm.getD k) hb
  have Hcl := hid hcl
  have hl := look_rows hm k
  have Hl := hid hl
  clear hl hcl hm
  go_enter Try.func20, Try.ntmps20
  go_wp2_with (first
    | (at_lookup; refine wl_lookup rfl _ _ _ _ rfl ⟨_, _, Hl.out, ?_⟩)
    | (go_at_call 97; refine Hcl.out.mono ?_; rintro e w1 ⟨v', rfl, h1, h2, h3⟩; have H1 := hid h1; have H2 := hid h2; have H3 := hid h3; clear h1 h2 h3))
  go_ret
  exact ⟨v', rfl, H1.out, H2.out, H3.out⟩

/-- What lies in the book, and in which blocks. -/
structure Book (w : World) (p : Nat) (F : Nat → Prop) (rows : TRows) (mb : Nat) (last : Int) : Prop where
  cell : w.heap[p]? = some (.cells #[.map (some mb), .int .i64 last] 166 (0, 0))
  map : MapSl w mb ki 30 3 encT rows
  inP : F p
  inM : F mb
  inR : ∀ r ∈ rows, ∀ g, r.2.1.ownBlock = some g → F g
  lt : ∀ i, F i → i < w.heap.size

theorem Book.kept {w w' : World} {p : Nat} {F G : Nat → Prop} {rows : TRows} {mb : Nat} {last : Int} (h : Book w p F rows mb last) (k : Keeps G w w') (hG : ∀ i, F i → ¬ G i) : Book w' p F rows mb last where
  cell := (k.block p (Array.getElem?_eq_some_iff.1 h.cell).1 (hG p h.inP)).trans h.cell
  map := h.map.kept k (hG mb h.inM) (fun r hr g hg => hG g (h.inR r hr g hg))
  inP := h.inP
  inM := h.inM
  inR := h.inR
  lt := fun i hi => Nat.lt_of_lt_of_le (h.lt i hi) k.size

set_option maxRecDepth 10000 in
theorem all_any {w : World} {p mb : Nat} {F : Nat → Prop} {rows : TRows} {last : Int} (hB : Book w p F rows mb last) (k : Int) :
    Calls Try.prog 19 #[.pointer (some ⟨p, 0, none⟩), .int .i64 k] w fun e w' => e = .returned (.int .i64 (rl rows k).length) ∧ Book w' p F (adel k rows) mb last ∧ Keeps F w w' ∧ w'.heap.size = w.heap.size := by
  have hc : w.cell? ⟨p, 0, none⟩ = some (.map (some mb)) := by rw [cell_of_row w p 0 _ _ _ hB.cell]; rfl
  have hl := look_rows hB.map k
  have Hl := hid hl
  have hn := run_len_sl (P := Try.prog) (ty := 3) Try.underlying26 (hB.map.getD k)
  have Hn := hid hn
  obtain ⟨w1, hr, hm1, hk1, hs1⟩ := hB.map.map.delete (ty := 0) keyI Try.underlying164 k 3
  have HB := hid hB
  have Hr := hid hr
  have Hm1 := hid hm1
  have Hk1 := hid hk1
  have Hs1 := hid hs1
  clear hl hn hr hm1 hk1 hB hs1
  change Hid (Sem.run Try.prog (Builtin.len_ #[26] 3 #[rv rows k]) _ = Result.ok (Value.int .i64 (rl rows k).length) _) at Hn
  go_enter Try.func19, Try.ntmps19
  go_wp2_with (first
    | (at_lookup; refine wl_lookup rfl _ _ _ _ rfl ⟨_, _, Hl.out, ?_⟩)
    | (at_len; refine wl_len rfl _ _ rfl ⟨_, _, Hn.out, ?_⟩)
    | (at_delete; refine wl_delete rfl _ _ _ _ rfl ⟨_, _, Hr.out, ?_⟩))
  go_ret
  have hB := HB.out
  have hk := Hk1.out
  refine ⟨rfl, ⟨?_, hB.map.del Hm1.out hk, hB.inP, hB.inM, fun r hr => hB.inR r ((adel_sublist k rows).mem hr), fun i hi => by rw [Hs1.out]; exact hB.lt i hi⟩, hk.mono (fun i hi => hi ▸ hB.inM), Hs1.out⟩
  rw [hk.block p (Array.getElem?_eq_some_iff.1 hB.cell).1 (fun e => ?_)]
  · exact hB.cell
  · obtain ⟨es, clock, hb, _⟩ := hB.map.map
    have := hB.cell
    rw [e, hb] at this; cases this

end Go.Proofs.Ytnceglkoolfncaa
