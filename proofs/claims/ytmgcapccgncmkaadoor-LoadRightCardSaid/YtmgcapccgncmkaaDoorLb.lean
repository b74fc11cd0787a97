/- Load: the document's entry (48.2). -/
import Derived.Test.YtmgcapccgncmkaaDoorLa
import Derived.Test.YtmgcapccgncmkaaDoorWTab
import Derived.Test.YtmgcapccgncmkaaDoorRz
import Derived.StillTailTactics
import Derived.WalkSpells
import Derived.Outline
import Derived.KernelRfl
import Derived.Deep.RegionHeld3
import Derived.Deep.DeepMust
import Derived.Deep.QuietTactic
import Derived.Deep.LoopGhost
import Derived.Handy
import Derived.BigQuiet
import Derived.Deep.CutBlock
import Derived.Deep.DeepCutAuto
set_option linter.unusedSimpArgs false
set_option linter.unusedVariables false
namespace Go.Proofs.YtmgcapccgncmkaaDoor.Ld
open Go.RowKit Go.Pv Go.Proofs.YtmgcapccgncmkaaDoor.PLoadScripts Go.Proofs.YtmgcapccgncmkaaDoorW.PrintWords Go.Proofs.YtmgcapccgncmkaaDoorW.PrintLast

theorem hid {p : Prop} (h : p) : Hid p := h
theorem heap_at (w : World) (o : Obj) (n : Nat) (h : n = w.heap.size) : (w.alloc o).heap[n]? = some o := by subst h; exact heap_alloc_new w o

/-- Numbers in a block of their own. -/
def ints (xs : List Int) : Array Value := (xs.map (Value.int .i64)).toArray
theorem R_ints {W : World} {g B : Nat} {xs : List Int} (hB : B ≤ g) (h : W.heap[g]? = some (.cells (ints xs) 3 (0, 0))) (hl : xs.length ≤ 1000) : Kd.R (Kd.int .i64) 3 W B (fun _ => True) (.slice (some ⟨g, 0, none⟩) xs.length xs.length) xs := by
  refine Kd.R_of_own ⟨by simp [encs], .inr ⟨g, xs.length, ints xs, rfl, hB, h, Nat.le_refl _, by simp only [maxLen]; omega, by simp [ints], ?_⟩⟩ (fun _ _ => trivial)
  simp only [ints, encs, Nat.mul_one]
  exact List.take_of_length_le (by simp)
theorem C_ints {W : World} {g : Nat} {xs : List Int} (h : W.heap[g]? = some (.cells (ints xs) 3 (0, 0))) (hl : xs.length ≤ 1000) : Kd.C (Kd.int .i64) W (some ⟨g, 0, none⟩) xs.length xs := by
  obtain ⟨A, c, h1, h2, h3⟩ := Kd.R_reads (R_ints (Nat.zero_le _) h hl)
  simp only [Value.slice.injEq] at h1
  rw [h1.1]
  exact h3
theorem R_nil3 (W : World) (B : Nat) : Kd.R (Kd.int .i64) 3 W B (fun _ => True) (.slice none 0 0) [] := Kd.R_nil _ _ _ _ _
/-- What is made reads as a row: where its cells lie. -/
theorem cells_of_R {W : World} {B : Nat} {ok : Nat → Prop} {v : Value} {xs : List Int} (h : Kd.R (Kd.int .i64) 3 W B ok v xs) (h0 : 0 < xs.length) :
    ∃ g c, v = .slice (some ⟨g, 0, none⟩) xs.length c ∧ B ≤ g ∧ ∀ j x, xs[j]? = some x → W.cell? ⟨g, j, none⟩ = some (.int .i64 x) := by
  have ho := Kd.own_of_R h
  rcases ho.2 with ⟨_, h1⟩ | ⟨g, c, cur, rfl, hg, hh, hc, _, hs, ht⟩
  · omega
  · refine ⟨g, c, rfl, hg, fun j x hx => ?_⟩
    rw [cell_of_row W g _ _ _ _ hh]
    have hj : j < xs.length := (List.getElem?_eq_some_iff.1 hx).1
    have := congrArg (fun l : List Value => l[j]?) ht
    simp only [encs, List.getElem?_map, hx, Option.map_some, List.getElem?_take] at this
    rw [if_pos (by omega)] at this
    simpa using this

theorem rnext_any (x n : Int) (hn : n ≤ 9223372036854775807) (W : World) : Calls Tryd.prog 10 #[.int .u64 x, .int .i64 n] W fun e w' => e = .returned (.tuple #[.int .u64 (nx x), .int .i64 (dr x n)]) ∧ Below W.heap.size W w' :=
  (provostref48_Next.calls x n _ _ W (rnext_eq x n hn)).mono fun e w' ⟨h1, h2⟩ => ⟨h1, h2.below⟩

/-- Several draws. -/
def drs : Int → List Int → List Int
  | _, [] => []
  | x, n :: l => dr x n :: drs (nx x) l
def nxs : Int → List Int → Int
  | x, [] => x
  | x, _ :: l => nxs (nx x) l
theorem drs_length : ∀ (l : List Int) (x : Int), (drs x l).length = l.length
  | [], _ => rfl
  | n :: l, x => by simp [drs, drs_length l]
theorem draws_l (l1 : List Int) (hl : l1.length ≤ 1000) (hb : ∀ n ∈ l1, n ≤ 9223372036854775807) : ∀ (d k : Nat) (x : Int) (pre rest acc : List Int), l1 = pre ++ rest → rest.length = d → d < k → acc.length = pre.length →
    provostref48_draws.l0 k x l1 acc (pre.length : Int) = some (nxs x rest, acc ++ drs x rest)
  | d, 0, x, pre, rest, acc, h, hd, hk, ha => by omega
  | 0, k + 1, x, pre, rest, acc, h, hd, hk, ha => by
    have : rest = [] := List.eq_nil_of_length_eq_zero hd
    subst this
    rw [List.append_nil] at h
    subst h
    simp only [provostref48_draws.l0]
    rw [if_neg (by omega)]
    simp [nxs, drs]
  | d + 1, k + 1, x, pre, rest, acc, h, hd, hk, ha => by
    obtain ⟨n, r, rfl⟩ : ∃ n r, rest = n :: r := by cases rest with
      | nil => simp at hd
      | cons n r => exact ⟨n, r, rfl⟩
    have hlen : l1.length = pre.length + (r.length + 1) := by rw [h]; simp
    have hrd : rd l1 (pre.length : Int) = n := by rw [h]; simp [rd, List.getD_eq_getElem?_getD]
    simp only [provostref48_draws.l0]
    rw [if_pos (by omega), if_pos (by omega), hrd, rnext_eq x n (hb n (by rw [h]; simp))]
    simp only [Option.bind_some]
    rw [if_pos (by omega)]
    have hw : wrap64 ((pre.length : Int) + 1) = ((pre ++ [n]).length : Int) := by simp [wrap64]; omega
    rw [hw, draws_l l1 hl hb d k (nx x) (pre ++ [n]) r (acc ++ [dr x n]) (by rw [h]; simp) (by simpa using hd) (by omega) (by simp [ha])]
    simp [nxs, drs]
theorem draws_eq (l : List Int) (hl : l.length ≤ 1000) (hb : ∀ n ∈ l, n ≤ 9223372036854775807) (x : Int) : provostref48_draws.f (l.length + 1) x l = some (nxs x l, drs x l) := by
  have := draws_l l hl hb l.length (l.length + 1) x [] l [] rfl rfl (by omega) rfl
  simpa [provostref48_draws.f] using this
theorem draws_any (l : List Int) (h0 : 0 < l.length) (hl : l.length ≤ 1000) (hb : ∀ n ∈ l, n ≤ 9223372036854775807) (x : Int) (W : World) (b : Nat) (h : W.heap[b]? = some (.cells (ints l) 3 (0, 0))) :
    Calls Tryd.prog 44 #[.int .u64 x, .slice (some ⟨b, 0, none⟩) l.length l.length] W fun e w' => ∃ g c, e = .returned (.tuple #[.int .u64 (nxs x l), .slice (some ⟨g, 0, none⟩) l.length c]) ∧ W.heap.size ≤ g ∧ (∀ j y, (drs x l)[j]? = some y → w'.cell? ⟨g, j, none⟩ = some (.int .i64 y)) ∧ Kd.R (Kd.int .i64) 3 w' W.heap.size (fun _ => True) (.slice (some ⟨g, 0, none⟩) l.length c) (drs x l) ∧ Below W.heap.size W w' := by
  refine (provostref48_draws.calls (l.length + 1) x (some ⟨b, 0, none⟩) l.length l _ _ W (C_ints h hl) (Nat.le_refl _) (draws_eq l hl hb x)).mono ?_
  rintro e w' ⟨v, rfl, hR, hB⟩
  obtain ⟨g, c, rfl, hg, hc⟩ := cells_of_R hR (by rw [drs_length]; exact h0)
  rw [drs_length] at hR ⊢
  exact ⟨g, c, rfl, hg, hc, hR, hB⟩

/-- The entry's box. -/
abbrev zb : Obj := .cells #[.int .i64 0, .slice none 0 0, .string ⟨#[]⟩] 29 (0, 0)
/-- While an entry is made: its box lies at b. -/
structure BW (w W : World) (b : Nat) : Prop where
  low : Below w.heap.size w W
  ge : w.heap.size ≤ b
  box : W.heap[b]? = some zb
theorem BW.later {w W V : World} {b : Nat} (h : BW w W b) (hb : Below W.heap.size W V) : BW w V b :=
  ⟨h.low.trans (hb.mono h.low.size), h.ge, (hb.block _ (Array.getElem?_eq_some_iff.1 h.box).1).trans h.box⟩
theorem BW.cells {w W : World} {b : Nat} (h : BW w W b) : W.cell? ⟨b, 0, none⟩ = some (.int .i64 0) ∧ W.cell? ⟨b, 1, none⟩ = some (.slice none 0 0) ∧ W.cell? ⟨b, 2, none⟩ = some (.string ⟨#[]⟩) ∧ ∀ j, W.frozen? ⟨b, j, none⟩ = false := by
  have hb := h.box
  unfold zb at hb
  refine ⟨?_, ?_, ?_, fun j => by simp [World.frozen?, hb]⟩ <;> (rw [cell_of_row W b _ _ _ _ hb]; rfl)
theorem BW.start (w : World) : BW w (w.alloc zb) w.heap.size := ⟨(Below.refl _ w).alloc (Nat.le_refl _) _, Nat.le_refl _, heap_alloc_new w _⟩
/-- The entry is laid into its box. -/
def put3 (W : World) (b : Nat) (x y z : Value) : World := ((W.setCell ⟨b, 0, none⟩ x).setCell ⟨b, 1, none⟩ y).setCell ⟨b, 2, none⟩ z
theorem put3_box {W : World} {b : Nat} {x y z p q r : Value} (h : W.heap[b]? = some (.cells #[p, q, r] 29 (0, 0))) : (put3 W b x y z).heap[b]? = some (.cells #[x, y, z] 29 (0, 0)) := by
  have e1 := heap_setCell_same W b 0 _ 29 x h
  have e2 := heap_setCell_same _ b 1 _ 29 y e1
  exact heap_setCell_same _ b 2 _ 29 z e2
theorem put3_other {W : World} {b k : Nat} {x y z : Value} (h : k ≠ b) : (put3 W b x y z).heap[k]? = W.heap[k]? := by
  unfold put3
  rw [Below.heap_setCell _ _ _ _ h, Below.heap_setCell _ _ _ _ h, Below.heap_setCell _ _ _ _ h]
theorem put3_below {w W : World} {b : Nat} {x y z : Value} (h : Below w.heap.size w W) (hb : w.heap.size ≤ b) : Below w.heap.size w (put3 W b x y z) := ((h.setCell (p := ⟨b, 0, none⟩) hb x).setCell (p := ⟨b, 1, none⟩) hb y).setCell (p := ⟨b, 2, none⟩) hb z

/-- What the document's entry gives. -/
def ReSays (w : World) (E : Ent) (x' : Int) (e : Ending) (w' : World) : Prop :=
  ∃ v, e = .returned (.tuple #[.int .u64 x', .agg #[.int .i64 E.1, v, .string E.2.2]]) ∧ Kd.R (Kd.int .i64) 3 w' w.heap.size (fun _ => True) v E.2.1 ∧ Below w.heap.size w w'
theorem re_ends {w W : World} {b : Nat} {E : Ent} {x' : Int} {v : Value} (h : BW w W b) (hv : Kd.R (Kd.int .i64) 3 W w.heap.size (fun k => k ≠ b) v E.2.1) :
    ReSays w E x' (.returned (.tuple #[.int .u64 x', .agg #[.int .i64 E.1, v, .string E.2.2]])) (put3 W b (.int .i64 E.1) v (.string E.2.2)) :=
  ⟨v, rfl, Kd.R_mono (Kd.R_move hv (fun k hk => put3_other hk)) (fun _ _ => trivial), put3_below h.low h.ge⟩
theorem put3_cells {W : World} {b : Nat} {x y z : Value} (h : W.heap[b]? = some zb) : (put3 W b x y z).cell? ⟨b, 0, none⟩ = some x ∧ (put3 W b x y z).cell? ⟨b, 1, none⟩ = some y ∧ (put3 W b x y z).cell? ⟨b, 2, none⟩ = some z := by
  have hb := put3_box (x := x) (y := y) (z := z) h
  refine ⟨?_, ?_, ?_⟩ <;> (rw [cell_of_row _ b _ _ _ _ hb]; rfl)
/-- A row that is new behind the box. -/
theorem R_made {w W : World} {g b : Nat} {xs : List Int} {cs : Array Value} {n : Nat} (h : W.heap[g]? = some (.cells cs 3 (0, 0))) (hc : cs = ints xs) (hl : xs.length ≤ 1000) (hb : b < g ∧ w.heap.size ≤ g) (hn : n = xs.length := by rfl) : Kd.R (Kd.int .i64) 3 W w.heap.size (fun k => k ≠ b) (.slice (some ⟨g, 0, none⟩) n n) xs := by
  subst hc
  subst hn
  exact Kd.R_mono (Kd.R_bound (R_ints (B := g) (Nat.le_refl _) h hl)) (fun k hk => by have := hk.2.1; omega) |> fun r => Kd.R_lower r hb.2
theorem dw_a (x : Int) (W : World) (b : Nat) (h : W.heap[b]? = some (.cells #[.int .i64 3, .int .i64 40, .int .i64 40, .int .i64 6] 3 (0, 0))) : Calls Tryd.prog 44 #[.int .u64 x, .slice (some ⟨b, 0, none⟩) 4 4] W fun e w' => ∃ g c, e = .returned (.tuple #[.int .u64 (nx (nx (nx (nx x)))), .slice (some ⟨g, 0, none⟩) 4 c]) ∧ W.heap.size ≤ g ∧ (∀ j y, ([dr x 3, dr (nx x) 40, dr (nx (nx x)) 40, dr (nx (nx (nx x))) 6] : List Int)[j]? = some y → w'.cell? ⟨g, j, none⟩ = some (.int .i64 y)) ∧ Kd.R (Kd.int .i64) 3 w' W.heap.size (fun _ => True) (.slice (some ⟨g, 0, none⟩) 4 c) [dr x 3, dr (nx x) 40, dr (nx (nx x)) 40, dr (nx (nx (nx x))) 6] ∧ Below W.heap.size W w' :=
  draws_any [3, 40, 40, 6] (by decide) (by decide) (by decide) x W b h
theorem dw_b (x : Int) (W : World) (b : Nat) (h : W.heap[b]? = some (.cells #[.int .i64 4] 3 (0, 0))) : Calls Tryd.prog 44 #[.int .u64 x, .slice (some ⟨b, 0, none⟩) 1 1] W fun e w' => ∃ g c, e = .returned (.tuple #[.int .u64 (nx x), .slice (some ⟨g, 0, none⟩) 1 c]) ∧ W.heap.size ≤ g ∧ (∀ j y, ([dr x 4] : List Int)[j]? = some y → w'.cell? ⟨g, j, none⟩ = some (.int .i64 y)) ∧ Kd.R (Kd.int .i64) 3 w' W.heap.size (fun _ => True) (.slice (some ⟨g, 0, none⟩) 1 c) [dr x 4] ∧ Below W.heap.size W w' :=
  draws_any [4] (by decide) (by decide) (by decide) x W b h
theorem dw_c (x : Int) (W : World) (b : Nat) (h : W.heap[b]? = some (.cells #[.int .i64 4, .int .i64 3] 3 (0, 0))) : Calls Tryd.prog 44 #[.int .u64 x, .slice (some ⟨b, 0, none⟩) 2 2] W fun e w' => ∃ g c, e = .returned (.tuple #[.int .u64 (nx (nx x)), .slice (some ⟨g, 0, none⟩) 2 c]) ∧ W.heap.size ≤ g ∧ (∀ j y, ([dr x 4, dr (nx x) 3] : List Int)[j]? = some y → w'.cell? ⟨g, j, none⟩ = some (.int .i64 y)) ∧ Kd.R (Kd.int .i64) 3 w' W.heap.size (fun _ => True) (.slice (some ⟨g, 0, none⟩) 2 c) [dr x 4, dr (nx x) 3] ∧ Below W.heap.size W w' :=
  draws_any [4, 3] (by decide) (by decide) (by decide) x W b h
theorem dw_d (x : Int) (W : World) (b : Nat) (h : W.heap[b]? = some (.cells #[.int .i64 4, .int .i64 3, .int .i64 2] 3 (0, 0))) : Calls Tryd.prog 44 #[.int .u64 x, .slice (some ⟨b, 0, none⟩) 3 3] W fun e w' => ∃ g c, e = .returned (.tuple #[.int .u64 (nx (nx (nx x))), .slice (some ⟨g, 0, none⟩) 3 c]) ∧ W.heap.size ≤ g ∧ (∀ j y, ([dr x 4, dr (nx x) 3, dr (nx (nx x)) 2] : List Int)[j]? = some y → w'.cell? ⟨g, j, none⟩ = some (.int .i64 y)) ∧ Kd.R (Kd.int .i64) 3 w' W.heap.size (fun _ => True) (.slice (some ⟨g, 0, none⟩) 3 c) [dr x 4, dr (nx x) 3, dr (nx (nx x)) 2] ∧ Below W.heap.size W w' :=
  draws_any [4, 3, 2] (by decide) (by decide) (by decide) x W b h
theorem dw_e (x : Int) (W : World) (b : Nat) (h : W.heap[b]? = some (.cells #[.int .i64 8] 3 (0, 0))) : Calls Tryd.prog 44 #[.int .u64 x, .slice (some ⟨b, 0, none⟩) 1 1] W fun e w' => ∃ g c, e = .returned (.tuple #[.int .u64 (nx x), .slice (some ⟨g, 0, none⟩) 1 c]) ∧ W.heap.size ≤ g ∧ (∀ j y, ([dr x 8] : List Int)[j]? = some y → w'.cell? ⟨g, j, none⟩ = some (.int .i64 y)) ∧ Kd.R (Kd.int .i64) 3 w' W.heap.size (fun _ => True) (.slice (some ⟨g, 0, none⟩) 1 c) [dr x 8] ∧ Below W.heap.size W w' :=
  draws_any [8] (by decide) (by decide) (by decide) x W b h
theorem cell_alloc {V : World} {p : Addr} {v : Value} (h : V.cell? p = some v) (o : Obj) : (V.alloc o).cell? p = some v :=
  ((Below.refl V.heap.size V).alloc (Nat.le_refl _) o).cell (World.block_lt_of_cell? V p h) |>.trans h
theorem R_above {w W : World} {B b : Nat} {ok : Nat → Prop} {v : Value} {xs : List Int} (h : Kd.R (Kd.int .i64) 3 W B ok v xs) (hb : b < B ∧ w.heap.size ≤ B) : Kd.R (Kd.int .i64) 3 W w.heap.size (fun k => k ≠ b) v xs :=
  Kd.R_lower (Kd.R_mono (Kd.R_bound h) (fun k hk => by have := hk.2.1; omega)) hb.2
/-- While the entry that runs a pod is made: its numbers lie at og, its letter at oh. -/
structure XW (w V : World) (b g0 : Nat) (ds ns : List Int) (q : Int) (og oh : Option Nat) : Prop where
  bw : BW w V b
  g : ∀ k, og = some k → (b < k ∧ w.heap.size ≤ k) ∧ V.heap[k]? = some (.cells (ints ns) 3 (0, 0))
  h : ∀ k, oh = some k → V.heap[k]? = some (.cells #[.int .u8 q] 5 (0, 0))
  s : ∀ j y, ds[j]? = some y → V.cell? ⟨g0, j, none⟩ = some (.int .i64 y)
section
variable {w V V1 : World} {b g0 : Nat} {ds ns : List Int} {q : Int} {og oh : Option Nat}
theorem XW.later (h : XW w V b g0 ds ns q og oh) (hb : Below V.heap.size V V1) : XW w V1 b g0 ds ns q og oh :=
  ⟨h.bw.later hb, fun k e => ⟨(h.g k e).1, (hb.block _ (Array.getElem?_eq_some_iff.1 (h.g k e).2).1).trans (h.g k e).2⟩, fun k e => (hb.block _ (Array.getElem?_eq_some_iff.1 (h.h k e)).1).trans (h.h k e),
    fun j y e => (hb.cell (World.block_lt_of_cell? V _ (h.s j y e))).trans (h.s j y e)⟩
theorem XW.a11 (h : XW w V b g0 ds ns q none oh) {k : Nat} {cs : Array Value} (hk : k = V.heap.size) (hV : V1 = V.alloc (.cells cs 3)) (hc : cs = ints ns) : XW w V1 b g0 ds ns q (some k) oh := by
  subst hk
  subst hV
  subst hc
  have h1 := h.later ((Below.refl _ V).alloc (Nat.le_refl _) (.cells (ints ns) 3))
  refine ⟨h1.bw, fun k e => ?_, h1.h, h1.s⟩
  cases e
  exact ⟨⟨(Array.getElem?_eq_some_iff.1 h.bw.box).1, h.bw.low.size⟩, heap_alloc_new V _⟩
theorem XW.a17 (h : XW w V b g0 ds ns q og none) {k : Nat} (hk : k = V.heap.size) (hV : V1 = V.alloc (.cells #[.int .u8 q] 5)) : XW w V1 b g0 ds ns q og (some k) := by
  subst hk
  subst hV
  have h1 := h.later ((Below.refl _ V).alloc (Nat.le_refl _) (.cells #[.int .u8 q] 5))
  refine ⟨h1.bw, h1.g, fun k e => ?_, h1.s⟩
  cases e
  exact heap_alloc_new V _
theorem XW.conv {k : Nat} (h : XW w V b g0 ds ns q og (some k)) : (convert 101 9 (.slice (some ⟨k, 0, none⟩) 1 1)).run Tryd.prog V = .ok (.string (strOfNums [q])) V :=
  own_string (P := Tryd.prog) (base := 0) (n := 1) (xs := [q]) Tryd.underlying101 Tryd.underlying5 Tryd.underlying9 ⟨rfl, .inr ⟨k, 1, _, rfl, Nat.zero_le _, h.h k rfl, Nat.le_refl _, by decide, rfl, rfl⟩⟩
end
/-- A new row in a region that draws. -/
theorem allocS_ {P : Program} {ops : Array Oper} {Q : Exit → Act → World → Prop} {oi : Oper} {N : Option Tmp} {a : Act} {w : World} {K : Act → World → Prop} {n : Nat} {ob : Obj} (hw : Region.wanted oi (yielded ops a.tmps) = true) (hN : oi.dst = N) (hrun : (execOp a.eval oi).run P w = .ok (.value (.slice (some ⟨w.heap.size, 0, none⟩) n n)) (w.alloc ob))
    (h : ∀ g V, g = w.heap.size → V = w.alloc ob → K (a.put N (.slice (some ⟨g, 0, none⟩) n n)) V) : if Region.wanted oi (yielded ops a.tmps) = true then Oper.wp P oi a w K Q else K (a.put N undef) w := value_ hw hN hrun (h _ _ rfl rfl)
set_option maxRecDepth 10000 in
set_option maxHeartbeats 1000000 in
theorem re4 (x : Int) (w : World) (hk : dr x 12 = 4) : Calls Tryd.prog 11 #[.int .u64 x] w (ReSays w (en x).1 (en x).2) := by
  have he : en x = ((6, [], ⟨#[]⟩), nx x) := by unfold en enk; rw [hk]; rfl
  have HN := hid (fun W => rnext_any x 12 (by omega) W)
  rw [he]
  rw [hk] at HN
  clear he hk
  generalize nx x = y at *
  have HS := hid (BW.start w)
  go_enter Tryd.func11, Tryd.ntmps11
  go_wp2_with (go_at_call 10; go_must (with_reducible refine (HN.out _).mono ?_); rintro e w1 ⟨rfl, hb⟩; have HB := hid (HS.out.later hb); clear hb; obtain ⟨c0, c1, c2, cf⟩ := HB.out.cells; have cf0 := cf 0; have cf1 := cf 1; have cf2 := cf 2; clear cf)
  obtain ⟨p0, p1, p2⟩ := put3_cells (x := .int .i64 6) (y := .slice none 0 0) (z := .string ⟨#[]⟩) HB.out.box
  unfold put3 at p0 p1 p2
  refine bodyPost_ret (v := .tuple #[.int .u64 (y), .agg #[.int .i64 6, .slice none 0 0, .string ⟨#[]⟩]]) (by simp [results, Tryd.results11, go_sem, p0, p1, p2]) rfl ?_
  exact re_ends (E := (6, _, ⟨#[]⟩)) HB.out (Kd.R_nil _ _ _ _ _)

set_option maxRecDepth 10000 in
set_option maxHeartbeats 1000000 in
theorem re5 (x : Int) (w : World) (hk : dr x 12 = 5) : Calls Tryd.prog 11 #[.int .u64 x] w (ReSays w (en x).1 (en x).2) := by
  have he : en x = ((6, [], ⟨#[]⟩), nx x) := by unfold en enk; rw [hk]; rfl
  have HN := hid (fun W => rnext_any x 12 (by omega) W)
  rw [he]
  rw [hk] at HN
  clear he hk
  generalize nx x = y at *
  have HS := hid (BW.start w)
  go_enter Tryd.func11, Tryd.ntmps11
  go_wp2_with (go_at_call 10; go_must (with_reducible refine (HN.out _).mono ?_); rintro e w1 ⟨rfl, hb⟩; have HB := hid (HS.out.later hb); clear hb; obtain ⟨c0, c1, c2, cf⟩ := HB.out.cells; have cf0 := cf 0; have cf1 := cf 1; have cf2 := cf 2; clear cf)
  obtain ⟨p0, p1, p2⟩ := put3_cells (x := .int .i64 6) (y := .slice none 0 0) (z := .string ⟨#[]⟩) HB.out.box
  unfold put3 at p0 p1 p2
  refine bodyPost_ret (v := .tuple #[.int .u64 (y), .agg #[.int .i64 6, .slice none 0 0, .string ⟨#[]⟩]]) (by simp [results, Tryd.results11, go_sem, p0, p1, p2]) rfl ?_
  exact re_ends (E := (6, _, ⟨#[]⟩)) HB.out (Kd.R_nil _ _ _ _ _)

set_option maxRecDepth 10000 in
set_option maxHeartbeats 1000000 in
theorem re6 (x : Int) (w : World) (hk : dr x 12 = 6) : Calls Tryd.prog 11 #[.int .u64 x] w (ReSays w (en x).1 (en x).2) := by
  have he : en x = ((5, [], ⟨#[]⟩), nx x) := by unfold en enk; rw [hk]; rfl
  have HN := hid (fun W => rnext_any x 12 (by omega) W)
  rw [he]
  rw [hk] at HN
  clear he hk
  generalize nx x = y at *
  have HS := hid (BW.start w)
  go_enter Tryd.func11, Tryd.ntmps11
  go_wp2_with (go_at_call 10; go_must (with_reducible refine (HN.out _).mono ?_); rintro e w1 ⟨rfl, hb⟩; have HB := hid (HS.out.later hb); clear hb; obtain ⟨c0, c1, c2, cf⟩ := HB.out.cells; have cf0 := cf 0; have cf1 := cf 1; have cf2 := cf 2; clear cf)
  obtain ⟨p0, p1, p2⟩ := put3_cells (x := .int .i64 5) (y := .slice none 0 0) (z := .string ⟨#[]⟩) HB.out.box
  unfold put3 at p0 p1 p2
  refine bodyPost_ret (v := .tuple #[.int .u64 (y), .agg #[.int .i64 5, .slice none 0 0, .string ⟨#[]⟩]]) (by simp [results, Tryd.results11, go_sem, p0, p1, p2]) rfl ?_
  exact re_ends (E := (5, _, ⟨#[]⟩)) HB.out (Kd.R_nil _ _ _ _ _)

set_option maxRecDepth 10000 in
set_option maxHeartbeats 1000000 in
theorem re8 (x : Int) (w : World) (hk : dr x 12 = 8) : Calls Tryd.prog 11 #[.int .u64 x] w (ReSays w (en x).1 (en x).2) := by
  have he : en x = ((21, [1, 0], ⟨#[]⟩), nx x) := by unfold en enk; rw [hk]; rfl
  have HN := hid (fun W => rnext_any x 12 (by omega) W)
  rw [he]
  rw [hk] at HN
  clear he hk
  generalize nx x = y at *
  have HS := hid (BW.start w)
  go_enter Tryd.func11, Tryd.ntmps11
  go_wp2_with (go_at_call 10; go_must (with_reducible refine (HN.out _).mono ?_); rintro e w1 ⟨rfl, hb⟩; have HB := hid (HS.out.later hb); clear hb; have HB0 := HB; clear HB; have HB := hid (HB0.out.later ((Below.refl _ w1).alloc (Nat.le_refl _) (.cells #[.int .i64 1, .int .i64 0] 3))); have HG := hid (heap_alloc_new w1 (.cells #[.int .i64 1, .int .i64 0] 3)); have HL := hid (show w.heap.size < w1.heap.size ∧ w.heap.size ≤ w1.heap.size from ⟨(Array.getElem?_eq_some_iff.1 HB0.out.box).1, HB0.out.low.size⟩); clear HB0; obtain ⟨c0, c1, c2, cf⟩ := HB.out.cells; have cf0 := cf 0; have cf1 := cf 1; have cf2 := cf 2; clear cf)
  obtain ⟨p0, p1, p2⟩ := put3_cells (x := .int .i64 21) (y := .slice (some ⟨w1.heap.size, 0, none⟩) 2 2) (z := .string ⟨#[]⟩) HB.out.box
  unfold put3 at p0 p1 p2
  refine bodyPost_ret (v := .tuple #[.int .u64 (y), .agg #[.int .i64 21, .slice (some ⟨w1.heap.size, 0, none⟩) 2 2, .string ⟨#[]⟩]]) (by simp [results, Tryd.results11, go_sem, p0, p1, p2]) rfl ?_
  exact re_ends (E := (21, _, ⟨#[]⟩)) HB.out (R_made (xs := [1, 0]) HG.out rfl (by decide) HL.out)

set_option maxRecDepth 10000 in
set_option maxHeartbeats 1000000 in
theorem re9 (x : Int) (w : World) (hk : dr x 12 = 9) : Calls Tryd.prog 11 #[.int .u64 x] w (ReSays w (en x).1 (en x).2) := by
  have he : en x = ((3, [1], ⟨#[]⟩), nx x) := by unfold en enk; rw [hk]; rfl
  have HN := hid (fun W => rnext_any x 12 (by omega) W)
  rw [he]
  rw [hk] at HN
  clear he hk
  generalize nx x = y at *
  have HS := hid (BW.start w)
  go_enter Tryd.func11, Tryd.ntmps11
  go_wp2_with (go_at_call 10; go_must (with_reducible refine (HN.out _).mono ?_); rintro e w1 ⟨rfl, hb⟩; have HB := hid (HS.out.later hb); clear hb; have HB0 := HB; clear HB; have HB := hid (HB0.out.later ((Below.refl _ w1).alloc (Nat.le_refl _) (.cells #[.int .i64 1] 3))); have HG := hid (heap_alloc_new w1 (.cells #[.int .i64 1] 3)); have HL := hid (show w.heap.size < w1.heap.size ∧ w.heap.size ≤ w1.heap.size from ⟨(Array.getElem?_eq_some_iff.1 HB0.out.box).1, HB0.out.low.size⟩); clear HB0; obtain ⟨c0, c1, c2, cf⟩ := HB.out.cells; have cf0 := cf 0; have cf1 := cf 1; have cf2 := cf 2; clear cf)
  obtain ⟨p0, p1, p2⟩ := put3_cells (x := .int .i64 3) (y := .slice (some ⟨w1.heap.size, 0, none⟩) 1 1) (z := .string ⟨#[]⟩) HB.out.box
  unfold put3 at p0 p1 p2
  refine bodyPost_ret (v := .tuple #[.int .u64 (y), .agg #[.int .i64 3, .slice (some ⟨w1.heap.size, 0, none⟩) 1 1, .string ⟨#[]⟩]]) (by simp [results, Tryd.results11, go_sem, p0, p1, p2]) rfl ?_
  exact re_ends (E := (3, _, ⟨#[]⟩)) HB.out (R_made (xs := [1]) HG.out rfl (by decide) HL.out)

set_option maxRecDepth 10000 in
set_option maxHeartbeats 1000000 in
theorem re10 (x : Int) (w : World) (hk : dr x 12 = 10) : Calls Tryd.prog 11 #[.int .u64 x] w (ReSays w (en x).1 (en x).2) := by
  have he : en x = ((7, [dr (nx x) 8], ⟨#[]⟩), nx (nx x)) := by unfold en enk; rw [hk]; rfl
  have HN := hid (fun W => rnext_any x 12 (by omega) W)
  rw [he]
  rw [hk] at HN
  clear he hk
  have HD := hid (fun W b h => dw_e (nx x) W b h)
  generalize nx x = y at *
  have HS := hid (BW.start w)
  go_enter Tryd.func11, Tryd.ntmps11
  go_wp2_with (first
    | (go_at_call 10; go_must (with_reducible refine (HN.out _).mono ?_); rintro e w1 ⟨rfl, hb⟩; have HB := hid (HS.out.later hb); clear hb)
    | (go_at_call 44; go_must (with_reducible refine (HD.out _ _ (heap_alloc_new w1 (.cells #[.int .i64 8] 3))).mono ?_); rintro e w2 ⟨g, c, rfl, hg, hc, hR, hb⟩; have HA := hid (HB.out.later ((Below.refl _ w1).alloc (Nat.le_refl _) (.cells #[.int .i64 8] 3))); have HC := hid (HA.out.later hb); have HL := hid (show w.heap.size < (w1.alloc (.cells #[.int .i64 8] 3)).heap.size ∧ w.heap.size ≤ (w1.alloc (.cells #[.int .i64 8] 3)).heap.size from ⟨(Array.getElem?_eq_some_iff.1 HA.out.box).1, HA.out.low.size⟩); clear HB; have HB := HC; clear HA HC; have HR := hid (R_above hR HL.out); have HCC := hid hc; clear hc hb hR hg; obtain ⟨c0, c1, c2, cf⟩ := HB.out.cells; have cf0 := cf 0; have cf1 := cf 1; have cf2 := cf 2; clear cf))
  obtain ⟨p0, p1, p2⟩ := put3_cells (x := .int .i64 7) (y := .slice (some ⟨g, 0, none⟩) 1 c) (z := .string ⟨#[]⟩) HB.out.box
  unfold put3 at p0 p1 p2
  refine bodyPost_ret (v := .tuple #[.int .u64 (nx y), .agg #[.int .i64 7, .slice (some ⟨g, 0, none⟩) 1 c, .string ⟨#[]⟩]]) (by simp [results, Tryd.results11, go_sem, p0, p1, p2]) rfl ?_
  exact re_ends (E := (7, _, ⟨#[]⟩)) HB.out HR.out

def reg15.T : Bool × List (List Nat × List Nat) := (true, [([], []), ([], []), ([], []), ([2], [2]), ([3], [3]), ([4], [4]), ([5], [5]), ([1, 6], [1, 6]), ([0, 0], [0]), ([7, 8, 0, 1, 2, 3, 4, 5, 6, 7, 8], [7])])
def reg15.B : List Nat := [0, 0, 0, 4, 12, 28, 60, 126, 1, 511]
theorem reg15.tab : rtab .any (opsOf Tryd.f11 15) = reg15.T := by kernel_rfl
theorem reg15.bits : waitsOk reg15.T.2 reg15.B = true := by kernel_rfl

set_option maxRecDepth 10000 in
set_option maxHeartbeats 1000000 in
theorem re2 (x : Int) (w : World) (hk : dr x 12 = 2) : Calls Tryd.prog 11 #[.int .u64 x] w (ReSays w (en x).1 (en x).2) := by
  have he : en x = ((14, [1, 1 + dr (nx x) 4], ⟨#[]⟩), nx (nx x)) := by unfold en enk; rw [hk]; rfl
  have HN := hid (fun W => rnext_any x 12 (by omega) W)
  rw [he]
  rw [hk] at HN
  clear he hk
  have HD := hid (fun W b h => dw_b (nx x) W b h)
  generalize nx x = y at *
  have HS := hid (BW.start w)
  go_enter Tryd.func11, Tryd.ntmps11
  go_wp2_with (first
    | (go_at_call 10; go_must (with_reducible refine (HN.out _).mono ?_); rintro e w1 ⟨rfl, hb⟩; have HB := hid (HS.out.later hb); clear hb)
    | (go_at_call 44; go_must (with_reducible refine (HD.out _ _ (heap_alloc_new w1 (.cells #[.int .i64 4] 3))).mono ?_); rintro e w2 ⟨g, c, rfl, hg, hc, hR, hb⟩; have HA := hid (HB.out.later ((Below.refl _ w1).alloc (Nat.le_refl _) (.cells #[.int .i64 4] 3))); have HC := hid (HA.out.later hb); have HL := hid (show w.heap.size < (w1.alloc (.cells #[.int .i64 4] 3)).heap.size ∧ w.heap.size ≤ (w1.alloc (.cells #[.int .i64 4] 3)).heap.size from ⟨(Array.getElem?_eq_some_iff.1 HA.out.box).1, HA.out.low.size⟩); clear HB; have HB := HC; clear HA HC; have HR := hid (R_above hR HL.out); have e0 := hc 0 _ rfl; have HCC := hid hc; clear hc hb hR hg))
  obtain ⟨Wd, hWd⟩ : ∃ Wd, Wd = w2.drew := ⟨_, rfl⟩
  have HWd := hid hWd
  obtain ⟨W2, hW2⟩ : ∃ W2, W2 = Wd.alloc (.cells #[.int .i64 (1), .int .i64 (1 + dr y 4)] 3) := ⟨_, rfl⟩
  have HW2 := hid hW2
  have HBd := hid (show BW w Wd w.heap.size by rw [hWd]; exact HB.out.later (Below.refl _ w2).drew)
  have HB2 := hid (show BW w W2 w.heap.size by rw [hW2]; exact HBd.out.later ((Below.refl _ Wd).alloc (Nat.le_refl _) _))
  have HG := hid (show W2.heap[Wd.heap.size]? = some (.cells #[.int .i64 (1), .int .i64 (1 + dr y 4)] 3 (0, 0)) by rw [hW2]; exact heap_alloc_new _ _)
  have HL2 := hid (show w.heap.size < Wd.heap.size ∧ w.heap.size ≤ Wd.heap.size from ⟨(Array.getElem?_eq_some_iff.1 HBd.out.box).1, HBd.out.low.size⟩)
  have HS1 := hid (show (fun V : World => V.cell? ⟨g, 0, none⟩ = some (.int .i64 (dr y 4))) Wd by rw [hWd]; exact e0)
  have HS2 := hid (show (fun V : World => V.cell? ⟨g, 0, none⟩ = some (.int .i64 (dr y 4))) W2 by rw [hW2]; exact cell_alloc HS1.out _)
  have hw0 : IntKind.i64.wrap (1 + dr y 4) = 1 + dr y 4 := by have := dr_in y 4 (by omega); exact IntWalk.i64_in _ (by omega)
  clear hWd hW2 HR HCC e0
  obtain ⟨c0, c1, c2, cf⟩ := HB2.out.cells
  have cf0 := cf 0
  have cf1 := cf 1
  have cf2 := cf 2
  clear cf
  clear HB
  have HB := HB2
  clear HB2
  refine start_ (n := 10) (S := fun V : World => V.cell? ⟨g, 0, none⟩ = some (.int .i64 (dr y 4))) (ds := [9]) #[false, false, false, false, false, false, false, false, false, false] (by kernel_rfl) rfl rfl (by rw [← HWd.out]; exact HS1.out) (fun hHeld => ?_); refine with_tabW reg15.tab reg15.bits (fun HT_ HW_ => ?_)
  rw [← HWd.out] at hHeld ⊢
  refine pure_ (i := 0) (N := some 71) (v := ?_) (a' := ?_) #[true, false, false, false, false, false, false, false, false, false] rfl rfl (any_of HT_.out (by kernel_rfl)) (fun _ _ _ h => h) (Or.inl ⟨by rfl, ?_⟩) ?_ ?_
  rotate_left
  · intro w'
    go_simp
    with_reducible rfl
  rotate_left
  · simp only [Act.put, List.setIfInBounds_toArray, List.set_cons_zero, List.set_cons_succ, i64_w, i32_w]
    rfl
  refine pure_ (i := 1) (N := some 72) (v := ?_) (a' := ?_) #[true, true, false, false, false, false, false, false, false, false] rfl rfl (any_of HT_.out (by kernel_rfl)) (fun _ _ _ h => h) (Or.inl ⟨by rfl, ?_⟩) ?_ ?_
  rotate_left
  · intro w'
    go_simp
    with_reducible rfl
  rotate_left
  · simp only [Act.put, List.setIfInBounds_toArray, List.set_cons_zero, List.set_cons_succ, i64_w, i32_w]
    rfl
  refine pure_ (i := 2) (N := some 73) (v := ?_) (a' := ?_) #[true, true, true, false, false, false, false, false, false, false] rfl rfl (any_of HT_.out (by kernel_rfl)) (fun _ _ _ h => h) (Or.inl ⟨by rfl, ?_⟩) ?_ ?_
  rotate_left
  · intro w'
    go_simp
    with_reducible rfl
  rotate_left
  · simp only [Act.put, List.setIfInBounds_toArray, List.set_cons_zero, List.set_cons_succ, i64_w, i32_w]
    rfl
  refine pure_ (i := 3) (N := some 74) (v := ?_) (a' := ?_) #[true, true, true, true, false, false, false, false, false, false] rfl rfl (any_of HT_.out (by kernel_rfl)) (fun _ _ _ h => h) (Or.inl ⟨by rfl, ?_⟩) ?_ ?_
  rotate_left
  · intro w'
    go_simp
    with_reducible rfl
  rotate_left
  · simp only [Act.put, List.setIfInBounds_toArray, List.set_cons_zero, List.set_cons_succ, i64_w, i32_w]
    rfl
  refine pure_ (i := 8) (N := some 2) (v := ?_) (a' := ?_) #[true, true, true, true, false, false, false, false, true, false] rfl rfl (any_of HT_.out (by kernel_rfl)) (fun _ _ _ h => h) (Or.inl ⟨by rfl, ?_⟩) ?_ ?_
  rotate_left
  · intro w'
    go_simp
    with_reducible rfl
  rotate_left
  · simp only [Act.put, List.setIfInBounds_toArray, List.set_cons_zero, List.set_cons_succ, i64_w, i32_w]
    rfl
  refine take_ (i := 4) (N := some 75) (v := ?_) (a' := ?_) #[true, true, true, true, true, false, false, false, true, false] rfl rfl (take_ofW HT_.out HW_.out (by kernel_rfl)) (fun _ _ _ h => h) (Or.inl ⟨by rfl, ?_⟩) hHeld ?_ ?_
  rotate_left
  · rintro w' s0
    go_simp
    with_reducible rfl
  rotate_left
  · simp only [Act.put, List.setIfInBounds_toArray, List.set_cons_zero, List.set_cons_succ, i64_w, i32_w]
    rfl
  refine pure_ (i := 5) (N := some 76) (v := ?_) (a' := ?_) #[true, true, true, true, true, true, false, false, true, false] rfl rfl (any_of HT_.out (by kernel_rfl)) (fun _ _ _ h => h) (Or.inl ⟨by rfl, ?_⟩) ?_ ?_
  rotate_left
  · intro w'
    go_simp
    with_reducible rfl
  rotate_left
  · simp only [Act.put, List.setIfInBounds_toArray, List.set_cons_zero, List.set_cons_succ, i64_w, i32_w]
    rfl
  refine one_ (i := 6) (N := some 77) #[true, true, true, true, true, true, true, false, true, false] rfl rfl (one_of HT_.out (by kernel_rfl)) (by decide) (fun K hK => ?_)
  refine value_ (v := .slice (some ⟨Wd.heap.size, 0, none⟩) 2 2) (w1 := W2) (by rfl) rfl (by rw [HW2.out]; go_simp) ?_
  refine hK.out _ _ HS2.out (fun hHeld => ?_)
  clear hK K
  refine norm_ (a' := ?_) ?_ ?_
  rotate_left
  · show Act.put _ (some 77) _ = _
    simp only [Act.put, List.setIfInBounds_toArray, List.set_cons_zero, List.set_cons_succ, i64_w, i32_w]
    rfl
  refine pure_ (i := 7) (N := some 78) (v := ?_) (a' := ?_) #[true, true, true, true, true, true, true, true, true, false] rfl rfl (any_of HT_.out (by kernel_rfl)) (fun _ _ _ h => h) (Or.inl ⟨by rfl, ?_⟩) ?_ ?_
  rotate_left
  · intro w'
    go_simp
    with_reducible rfl
  rotate_left
  · simp only [Act.put, List.setIfInBounds_toArray, List.set_cons_zero, List.set_cons_succ, i64_w, i32_w]
    rfl
  refine last_ (i := 9) (N := none) #[true, true, true, true, true, true, true, true, true, true] rfl rfl (one_of HT_.out (by kernel_rfl)) (by decide) (fun K hK => ?_)
  refine skip_ (w1 := ((W2.setCell ⟨w.heap.size, 0, none⟩ (.int .i64 14)).setCell ⟨w.heap.size, 1, none⟩ (.slice (some ⟨Wd.heap.size, 0, none⟩) 2 2)).setCell ⟨w.heap.size, 2, none⟩ (.string ⟨#[]⟩)) (by rfl) rfl (by go_simp) ?_
  refine hK.out _ _ ?_
  clear hK K
  refine done_ (done_of HT_.out (by kernel_rfl)) ?_
  go_wp2_with fail
  obtain ⟨p0, p1, p2⟩ := put3_cells (x := .int .i64 14) (y := .slice (some ⟨Wd.heap.size, 0, none⟩) 2 2) (z := .string ⟨#[]⟩) HB.out.box
  unfold put3 at p0 p1 p2
  refine bodyPost_ret (v := .tuple #[.int .u64 (nx y), .agg #[.int .i64 14, .slice (some ⟨Wd.heap.size, 0, none⟩) 2 2, .string ⟨#[]⟩]]) (by simp [results, Tryd.results11, go_sem, p0, p1, p2]) rfl ?_
  exact re_ends (E := (14, _, ⟨#[]⟩)) HB.out (R_made (xs := [1, 1 + dr y 4]) HG.out rfl (by simp) HL2.out)

set_option maxRecDepth 10000 in
set_option maxHeartbeats 1000000 in
theorem re11 (x : Int) (w : World) (hk : dr x 12 = 11) : Calls Tryd.prog 11 #[.int .u64 x] w (ReSays w (en x).1 (en x).2) := by
  have he : en x = ((15, [1, 1 + dr (nx x) 4], ⟨#[]⟩), nx (nx x)) := by unfold en enk; rw [hk]; rfl
  have HN := hid (fun W => rnext_any x 12 (by omega) W)
  rw [he]
  rw [hk] at HN
  clear he hk
  have HD := hid (fun W b h => dw_b (nx x) W b h)
  generalize nx x = y at *
  have HS := hid (BW.start w)
  go_enter Tryd.func11, Tryd.ntmps11
  go_wp2_with (first
    | (go_at_call 10; go_must (with_reducible refine (HN.out _).mono ?_); rintro e w1 ⟨rfl, hb⟩; have HB := hid (HS.out.later hb); clear hb)
    | (go_at_call 44; go_must (with_reducible refine (HD.out _ _ (heap_alloc_new w1 (.cells #[.int .i64 4] 3))).mono ?_); rintro e w2 ⟨g, c, rfl, hg, hc, hR, hb⟩; have HA := hid (HB.out.later ((Below.refl _ w1).alloc (Nat.le_refl _) (.cells #[.int .i64 4] 3))); have HC := hid (HA.out.later hb); have HL := hid (show w.heap.size < (w1.alloc (.cells #[.int .i64 4] 3)).heap.size ∧ w.heap.size ≤ (w1.alloc (.cells #[.int .i64 4] 3)).heap.size from ⟨(Array.getElem?_eq_some_iff.1 HA.out.box).1, HA.out.low.size⟩); clear HB; have HB := HC; clear HA HC; have HR := hid (R_above hR HL.out); have e0 := hc 0 _ rfl; have HCC := hid hc; clear hc hb hR hg))
  obtain ⟨Wd, hWd⟩ : ∃ Wd, Wd = w2.drew := ⟨_, rfl⟩
  have HWd := hid hWd
  obtain ⟨W2, hW2⟩ : ∃ W2, W2 = Wd.alloc (.cells #[.int .i64 (1), .int .i64 (1 + dr y 4)] 3) := ⟨_, rfl⟩
  have HW2 := hid hW2
  have HBd := hid (show BW w Wd w.heap.size by rw [hWd]; exact HB.out.later (Below.refl _ w2).drew)
  have HB2 := hid (show BW w W2 w.heap.size by rw [hW2]; exact HBd.out.later ((Below.refl _ Wd).alloc (Nat.le_refl _) _))
  have HG := hid (show W2.heap[Wd.heap.size]? = some (.cells #[.int .i64 (1), .int .i64 (1 + dr y 4)] 3 (0, 0)) by rw [hW2]; exact heap_alloc_new _ _)
  have HL2 := hid (show w.heap.size < Wd.heap.size ∧ w.heap.size ≤ Wd.heap.size from ⟨(Array.getElem?_eq_some_iff.1 HBd.out.box).1, HBd.out.low.size⟩)
  have HS1 := hid (show (fun V : World => V.cell? ⟨g, 0, none⟩ = some (.int .i64 (dr y 4))) Wd by rw [hWd]; exact e0)
  have HS2 := hid (show (fun V : World => V.cell? ⟨g, 0, none⟩ = some (.int .i64 (dr y 4))) W2 by rw [hW2]; exact cell_alloc HS1.out _)
  have hw0 : IntKind.i64.wrap (1 + dr y 4) = 1 + dr y 4 := by have := dr_in y 4 (by omega); exact IntWalk.i64_in _ (by omega)
  clear hWd hW2 HR HCC e0
  obtain ⟨c0, c1, c2, cf⟩ := HB2.out.cells
  have cf0 := cf 0
  have cf1 := cf 1
  have cf2 := cf 2
  clear cf
  clear HB
  have HB := HB2
  clear HB2
  refine start_ (n := 10) (S := fun V : World => V.cell? ⟨g, 0, none⟩ = some (.int .i64 (dr y 4))) (ds := [9]) #[false, false, false, false, false, false, false, false, false, false] (by kernel_rfl) rfl rfl (by rw [← HWd.out]; exact HS1.out) (fun hHeld => ?_); refine with_tabW reg15.tab reg15.bits (fun HT_ HW_ => ?_)
  rw [← HWd.out] at hHeld ⊢
  refine pure_ (i := 0) (N := some 71) (v := ?_) (a' := ?_) #[true, false, false, false, false, false, false, false, false, false] rfl rfl (any_of HT_.out (by kernel_rfl)) (fun _ _ _ h => h) (Or.inl ⟨by rfl, ?_⟩) ?_ ?_
  rotate_left
  · intro w'
    go_simp
    with_reducible rfl
  rotate_left
  · simp only [Act.put, List.setIfInBounds_toArray, List.set_cons_zero, List.set_cons_succ, i64_w, i32_w]
    rfl
  refine pure_ (i := 1) (N := some 72) (v := ?_) (a' := ?_) #[true, true, false, false, false, false, false, false, false, false] rfl rfl (any_of HT_.out (by kernel_rfl)) (fun _ _ _ h => h) (Or.inl ⟨by rfl, ?_⟩) ?_ ?_
  rotate_left
  · intro w'
    go_simp
    with_reducible rfl
  rotate_left
  · simp only [Act.put, List.setIfInBounds_toArray, List.set_cons_zero, List.set_cons_succ, i64_w, i32_w]
    rfl
  refine pure_ (i := 2) (N := some 73) (v := ?_) (a' := ?_) #[true, true, true, false, false, false, false, false, false, false] rfl rfl (any_of HT_.out (by kernel_rfl)) (fun _ _ _ h => h) (Or.inl ⟨by rfl, ?_⟩) ?_ ?_
  rotate_left
  · intro w'
    go_simp
    with_reducible rfl
  rotate_left
  · simp only [Act.put, List.setIfInBounds_toArray, List.set_cons_zero, List.set_cons_succ, i64_w, i32_w]
    rfl
  refine pure_ (i := 3) (N := some 74) (v := ?_) (a' := ?_) #[true, true, true, true, false, false, false, false, false, false] rfl rfl (any_of HT_.out (by kernel_rfl)) (fun _ _ _ h => h) (Or.inl ⟨by rfl, ?_⟩) ?_ ?_
  rotate_left
  · intro w'
    go_simp
    with_reducible rfl
  rotate_left
  · simp only [Act.put, List.setIfInBounds_toArray, List.set_cons_zero, List.set_cons_succ, i64_w, i32_w]
    rfl
  refine pure_ (i := 8) (N := some 2) (v := ?_) (a' := ?_) #[true, true, true, true, false, false, false, false, true, false] rfl rfl (any_of HT_.out (by kernel_rfl)) (fun _ _ _ h => h) (Or.inl ⟨by rfl, ?_⟩) ?_ ?_
  rotate_left
  · intro w'
    go_simp
    with_reducible rfl
  rotate_left
  · simp only [Act.put, List.setIfInBounds_toArray, List.set_cons_zero, List.set_cons_succ, i64_w, i32_w]
    rfl
  refine take_ (i := 4) (N := some 75) (v := ?_) (a' := ?_) #[true, true, true, true, true, false, false, false, true, false] rfl rfl (take_ofW HT_.out HW_.out (by kernel_rfl)) (fun _ _ _ h => h) (Or.inl ⟨by rfl, ?_⟩) hHeld ?_ ?_
  rotate_left
  · rintro w' s0
    go_simp
    with_reducible rfl
  rotate_left
  · simp only [Act.put, List.setIfInBounds_toArray, List.set_cons_zero, List.set_cons_succ, i64_w, i32_w]
    rfl
  refine pure_ (i := 5) (N := some 76) (v := ?_) (a' := ?_) #[true, true, true, true, true, true, false, false, true, false] rfl rfl (any_of HT_.out (by kernel_rfl)) (fun _ _ _ h => h) (Or.inl ⟨by rfl, ?_⟩) ?_ ?_
  rotate_left
  · intro w'
    go_simp
    with_reducible rfl
  rotate_left
  · simp only [Act.put, List.setIfInBounds_toArray, List.set_cons_zero, List.set_cons_succ, i64_w, i32_w]
    rfl
  refine one_ (i := 6) (N := some 77) #[true, true, true, true, true, true, true, false, true, false] rfl rfl (one_of HT_.out (by kernel_rfl)) (by decide) (fun K hK => ?_)
  refine value_ (v := .slice (some ⟨Wd.heap.size, 0, none⟩) 2 2) (w1 := W2) (by rfl) rfl (by rw [HW2.out]; go_simp) ?_
  refine hK.out _ _ HS2.out (fun hHeld => ?_)
  clear hK K
  refine norm_ (a' := ?_) ?_ ?_
  rotate_left
  · show Act.put _ (some 77) _ = _
    simp only [Act.put, List.setIfInBounds_toArray, List.set_cons_zero, List.set_cons_succ, i64_w, i32_w]
    rfl
  refine pure_ (i := 7) (N := some 78) (v := ?_) (a' := ?_) #[true, true, true, true, true, true, true, true, true, false] rfl rfl (any_of HT_.out (by kernel_rfl)) (fun _ _ _ h => h) (Or.inl ⟨by rfl, ?_⟩) ?_ ?_
  rotate_left
  · intro w'
    go_simp
    with_reducible rfl
  rotate_left
  · simp only [Act.put, List.setIfInBounds_toArray, List.set_cons_zero, List.set_cons_succ, i64_w, i32_w]
    rfl
  refine last_ (i := 9) (N := none) #[true, true, true, true, true, true, true, true, true, true] rfl rfl (one_of HT_.out (by kernel_rfl)) (by decide) (fun K hK => ?_)
  refine skip_ (w1 := ((W2.setCell ⟨w.heap.size, 0, none⟩ (.int .i64 15)).setCell ⟨w.heap.size, 1, none⟩ (.slice (some ⟨Wd.heap.size, 0, none⟩) 2 2)).setCell ⟨w.heap.size, 2, none⟩ (.string ⟨#[]⟩)) (by rfl) rfl (by go_simp) ?_
  refine hK.out _ _ ?_
  clear hK K
  refine done_ (done_of HT_.out (by kernel_rfl)) ?_
  go_wp2_with fail
  obtain ⟨p0, p1, p2⟩ := put3_cells (x := .int .i64 15) (y := .slice (some ⟨Wd.heap.size, 0, none⟩) 2 2) (z := .string ⟨#[]⟩) HB.out.box
  unfold put3 at p0 p1 p2
  refine bodyPost_ret (v := .tuple #[.int .u64 (nx y), .agg #[.int .i64 15, .slice (some ⟨Wd.heap.size, 0, none⟩) 2 2, .string ⟨#[]⟩]]) (by simp [results, Tryd.results11, go_sem, p0, p1, p2]) rfl ?_
  exact re_ends (E := (15, _, ⟨#[]⟩)) HB.out (R_made (xs := [1, 1 + dr y 4]) HG.out rfl (by simp) HL2.out)

def reg18.T : Bool × List (List Nat × List Nat) := (true, [([], []), ([], []), ([1], [1]), ([2], [2]), ([3], [3]), ([], []), ([5], [5]), ([6], [6]), ([4, 7], [4, 7]), ([8], [8]), ([0, 0], [0]), ([9, 10, 0, 1, 2, 3, 4, 5, 6, 7, 8, 9, 10], [9])])
def reg18.B : List Nat := [0, 0, 2, 6, 14, 0, 32, 96, 254, 510, 1, 2047]
theorem reg18.tab : rtab .any (opsOf Tryd.f11 18) = reg18.T := by kernel_rfl
theorem reg18.bits : waitsOk reg18.T.2 reg18.B = true := by kernel_rfl

set_option maxRecDepth 10000 in
set_option maxHeartbeats 1000000 in
theorem re3 (x : Int) (w : World) (hk : dr x 12 = 3) : Calls Tryd.prog 11 #[.int .u64 x] w (ReSays w (en x).1 (en x).2) := by
  have he : en x = ((16, [1, 1 + dr (nx x) 4, dr (nx (nx x)) 3], ⟨#[]⟩), nx (nx (nx x))) := by unfold en enk; rw [hk]; rfl
  have HN := hid (fun W => rnext_any x 12 (by omega) W)
  rw [he]
  rw [hk] at HN
  clear he hk
  have HD := hid (fun W b h => dw_c (nx x) W b h)
  generalize nx x = y at *
  have HS := hid (BW.start w)
  go_enter Tryd.func11, Tryd.ntmps11
  go_wp2_with (first
    | (go_at_call 10; go_must (with_reducible refine (HN.out _).mono ?_); rintro e w1 ⟨rfl, hb⟩; have HB := hid (HS.out.later hb); clear hb)
    | (go_at_call 44; go_must (with_reducible refine (HD.out _ _ (heap_alloc_new w1 (.cells #[.int .i64 4, .int .i64 3] 3))).mono ?_); rintro e w2 ⟨g, c, rfl, hg, hc, hR, hb⟩; have HA := hid (HB.out.later ((Below.refl _ w1).alloc (Nat.le_refl _) (.cells #[.int .i64 4, .int .i64 3] 3))); have HC := hid (HA.out.later hb); have HL := hid (show w.heap.size < (w1.alloc (.cells #[.int .i64 4, .int .i64 3] 3)).heap.size ∧ w.heap.size ≤ (w1.alloc (.cells #[.int .i64 4, .int .i64 3] 3)).heap.size from ⟨(Array.getElem?_eq_some_iff.1 HA.out.box).1, HA.out.low.size⟩); clear HB; have HB := HC; clear HA HC; have HR := hid (R_above hR HL.out); have e0 := hc 0 _ rfl; have e1 := hc 1 _ rfl; have HCC := hid hc; clear hc hb hR hg))
  obtain ⟨Wd, hWd⟩ : ∃ Wd, Wd = w2.drew := ⟨_, rfl⟩
  have HWd := hid hWd
  obtain ⟨W2, hW2⟩ : ∃ W2, W2 = Wd.alloc (.cells #[.int .i64 (1), .int .i64 (1 + dr y 4), .int .i64 (dr (nx y) 3)] 3) := ⟨_, rfl⟩
  have HW2 := hid hW2
  have HBd := hid (show BW w Wd w.heap.size by rw [hWd]; exact HB.out.later (Below.refl _ w2).drew)
  have HB2 := hid (show BW w W2 w.heap.size by rw [hW2]; exact HBd.out.later ((Below.refl _ Wd).alloc (Nat.le_refl _) _))
  have HG := hid (show W2.heap[Wd.heap.size]? = some (.cells #[.int .i64 (1), .int .i64 (1 + dr y 4), .int .i64 (dr (nx y) 3)] 3 (0, 0)) by rw [hW2]; exact heap_alloc_new _ _)
  have HL2 := hid (show w.heap.size < Wd.heap.size ∧ w.heap.size ≤ Wd.heap.size from ⟨(Array.getElem?_eq_some_iff.1 HBd.out.box).1, HBd.out.low.size⟩)
  have HS1 := hid (show (fun V : World => V.cell? ⟨g, 0, none⟩ = some (.int .i64 (dr y 4)) ∧ V.cell? ⟨g, 1, none⟩ = some (.int .i64 (dr (nx y) 3))) Wd by rw [hWd]; exact ⟨e0, e1⟩)
  have HS2 := hid (show (fun V : World => V.cell? ⟨g, 0, none⟩ = some (.int .i64 (dr y 4)) ∧ V.cell? ⟨g, 1, none⟩ = some (.int .i64 (dr (nx y) 3))) W2 by rw [hW2]; exact ⟨cell_alloc HS1.out.1 _, cell_alloc HS1.out.2 _⟩)
  have hw0 : IntKind.i64.wrap (1 + dr y 4) = 1 + dr y 4 := by have := dr_in y 4 (by omega); exact IntWalk.i64_in _ (by omega)
  clear hWd hW2 HR HCC e0 e1
  obtain ⟨c0, c1, c2, cf⟩ := HB2.out.cells
  have cf0 := cf 0
  have cf1 := cf 1
  have cf2 := cf 2
  clear cf
  clear HB
  have HB := HB2
  clear HB2
  refine start_ (n := 12) (S := fun V : World => V.cell? ⟨g, 0, none⟩ = some (.int .i64 (dr y 4)) ∧ V.cell? ⟨g, 1, none⟩ = some (.int .i64 (dr (nx y) 3))) (ds := [11]) #[false, false, false, false, false, false, false, false, false, false, false, false] (by kernel_rfl) rfl rfl (by rw [← HWd.out]; exact HS1.out) (fun hHeld => ?_); refine with_tabW reg18.tab reg18.bits (fun HT_ HW_ => ?_)
  rw [← HWd.out] at hHeld ⊢
  refine pure_ (i := 0) (N := some 87) (v := ?_) (a' := ?_) #[true, false, false, false, false, false, false, false, false, false, false, false] rfl rfl (any_of HT_.out (by kernel_rfl)) (fun _ _ _ h => h) (Or.inl ⟨by rfl, ?_⟩) ?_ ?_
  rotate_left
  · intro w'
    go_simp
    with_reducible rfl
  rotate_left
  · simp only [Act.put, List.setIfInBounds_toArray, List.set_cons_zero, List.set_cons_succ, i64_w, i32_w]
    rfl
  refine pure_ (i := 1) (N := some 88) (v := ?_) (a' := ?_) #[true, true, false, false, false, false, false, false, false, false, false, false] rfl rfl (any_of HT_.out (by kernel_rfl)) (fun _ _ _ h => h) (Or.inl ⟨by rfl, ?_⟩) ?_ ?_
  rotate_left
  · intro w'
    go_simp
    with_reducible rfl
  rotate_left
  · simp only [Act.put, List.setIfInBounds_toArray, List.set_cons_zero, List.set_cons_succ, i64_w, i32_w]
    rfl
  refine pure_ (i := 2) (N := some 89) (v := ?_) (a' := ?_) #[true, true, true, false, false, false, false, false, false, false, false, false] rfl rfl (any_of HT_.out (by kernel_rfl)) (fun _ _ _ h => h) (Or.inl ⟨by rfl, ?_⟩) ?_ ?_
  rotate_left
  · intro w'
    go_simp
    with_reducible rfl
  rotate_left
  · simp only [Act.put, List.setIfInBounds_toArray, List.set_cons_zero, List.set_cons_succ, i64_w, i32_w]
    rfl
  refine pure_ (i := 5) (N := some 92) (v := ?_) (a' := ?_) #[true, true, true, false, false, true, false, false, false, false, false, false] rfl rfl (any_of HT_.out (by kernel_rfl)) (fun _ _ _ h => h) (Or.inl ⟨by rfl, ?_⟩) ?_ ?_
  rotate_left
  · intro w'
    go_simp
    with_reducible rfl
  rotate_left
  · simp only [Act.put, List.setIfInBounds_toArray, List.set_cons_zero, List.set_cons_succ, i64_w, i32_w]
    rfl
  refine pure_ (i := 6) (N := some 93) (v := ?_) (a' := ?_) #[true, true, true, false, false, true, true, false, false, false, false, false] rfl rfl (any_of HT_.out (by kernel_rfl)) (fun _ _ _ h => h) (Or.inl ⟨by rfl, ?_⟩) ?_ ?_
  rotate_left
  · intro w'
    go_simp
    with_reducible rfl
  rotate_left
  · simp only [Act.put, List.setIfInBounds_toArray, List.set_cons_zero, List.set_cons_succ, i64_w, i32_w]
    rfl
  refine pure_ (i := 10) (N := some 2) (v := ?_) (a' := ?_) #[true, true, true, false, false, true, true, false, false, false, true, false] rfl rfl (any_of HT_.out (by kernel_rfl)) (fun _ _ _ h => h) (Or.inl ⟨by rfl, ?_⟩) ?_ ?_
  rotate_left
  · intro w'
    go_simp
    with_reducible rfl
  rotate_left
  · simp only [Act.put, List.setIfInBounds_toArray, List.set_cons_zero, List.set_cons_succ, i64_w, i32_w]
    rfl
  refine take_ (i := 3) (N := some 90) (v := ?_) (a' := ?_) #[true, true, true, true, false, true, true, false, false, false, true, false] rfl rfl (take_ofW HT_.out HW_.out (by kernel_rfl)) (fun _ _ _ h => h) (Or.inl ⟨by rfl, ?_⟩) hHeld ?_ ?_
  rotate_left
  · rintro w' ⟨s0, s1⟩
    go_simp
    with_reducible rfl
  rotate_left
  · simp only [Act.put, List.setIfInBounds_toArray, List.set_cons_zero, List.set_cons_succ, i64_w, i32_w]
    rfl
  refine pure_ (i := 4) (N := some 91) (v := ?_) (a' := ?_) #[true, true, true, true, true, true, true, false, false, false, true, false] rfl rfl (any_of HT_.out (by kernel_rfl)) (fun _ _ _ h => h) (Or.inl ⟨by rfl, ?_⟩) ?_ ?_
  rotate_left
  · intro w'
    go_simp
    with_reducible rfl
  rotate_left
  · simp only [Act.put, List.setIfInBounds_toArray, List.set_cons_zero, List.set_cons_succ, i64_w, i32_w]
    rfl
  refine take_ (i := 7) (N := some 94) (v := ?_) (a' := ?_) #[true, true, true, true, true, true, true, true, false, false, true, false] rfl rfl (take_ofW HT_.out HW_.out (by kernel_rfl)) (fun _ _ _ h => h) (Or.inl ⟨by rfl, ?_⟩) hHeld ?_ ?_
  rotate_left
  · rintro w' ⟨s0, s1⟩
    go_simp
    with_reducible rfl
  rotate_left
  · simp only [Act.put, List.setIfInBounds_toArray, List.set_cons_zero, List.set_cons_succ, i64_w, i32_w]
    rfl
  refine one_ (i := 8) (N := some 95) #[true, true, true, true, true, true, true, true, true, false, true, false] rfl rfl (one_of HT_.out (by kernel_rfl)) (by decide) (fun K hK => ?_)
  refine value_ (v := .slice (some ⟨Wd.heap.size, 0, none⟩) 3 3) (w1 := W2) (by rfl) rfl (by rw [HW2.out]; go_simp) ?_
  refine hK.out _ _ HS2.out (fun hHeld => ?_)
  clear hK K
  refine norm_ (a' := ?_) ?_ ?_
  rotate_left
  · show Act.put _ (some 95) _ = _
    simp only [Act.put, List.setIfInBounds_toArray, List.set_cons_zero, List.set_cons_succ, i64_w, i32_w]
    rfl
  refine pure_ (i := 9) (N := some 96) (v := ?_) (a' := ?_) #[true, true, true, true, true, true, true, true, true, true, true, false] rfl rfl (any_of HT_.out (by kernel_rfl)) (fun _ _ _ h => h) (Or.inl ⟨by rfl, ?_⟩) ?_ ?_
  rotate_left
  · intro w'
    go_simp
    with_reducible rfl
  rotate_left
  · simp only [Act.put, List.setIfInBounds_toArray, List.set_cons_zero, List.set_cons_succ, i64_w, i32_w]
    rfl
  refine last_ (i := 11) (N := none) #[true, true, true, true, true, true, true, true, true, true, true, true] rfl rfl (one_of HT_.out (by kernel_rfl)) (by decide) (fun K hK => ?_)
  refine skip_ (w1 := ((W2.setCell ⟨w.heap.size, 0, none⟩ (.int .i64 16)).setCell ⟨w.heap.size, 1, none⟩ (.slice (some ⟨Wd.heap.size, 0, none⟩) 3 3)).setCell ⟨w.heap.size, 2, none⟩ (.string ⟨#[]⟩)) (by rfl) rfl (by go_simp) ?_
  refine hK.out _ _ ?_
  clear hK K
  refine done_ (done_of HT_.out (by kernel_rfl)) ?_
  go_wp2_with fail
  obtain ⟨p0, p1, p2⟩ := put3_cells (x := .int .i64 16) (y := .slice (some ⟨Wd.heap.size, 0, none⟩) 3 3) (z := .string ⟨#[]⟩) HB.out.box
  unfold put3 at p0 p1 p2
  refine bodyPost_ret (v := .tuple #[.int .u64 (nx (nx y)), .agg #[.int .i64 16, .slice (some ⟨Wd.heap.size, 0, none⟩) 3 3, .string ⟨#[]⟩]]) (by simp [results, Tryd.results11, go_sem, p0, p1, p2]) rfl ?_
  exact re_ends (E := (16, _, ⟨#[]⟩)) HB.out (R_made (xs := [1, 1 + dr y 4, dr (nx y) 3]) HG.out rfl (by simp) HL2.out)

def reg26.T : Bool × List (List Nat × List Nat) := (true, [([], []), ([], []), ([1], [1]), ([2], [2]), ([3], [3]), ([], []), ([5], [5]), ([6], [6]), ([], []), ([8], [8]), ([9], [9]), ([4, 7, 10], [4, 7, 10]), ([11], [11]), ([0, 0], [0]), ([12, 13, 0, 1, 2, 3, 4, 5, 6, 7, 8, 9, 10, 11, 12, 13], [12])])
def reg26.B : List Nat := [0, 0, 2, 6, 14, 0, 32, 96, 0, 256, 768, 2046, 4094, 1, 16383]
theorem reg26.tab : rtab .any (opsOf Tryd.f11 26) = reg26.T := by kernel_rfl
theorem reg26.bits : waitsOk reg26.T.2 reg26.B = true := by kernel_rfl

set_option maxRecDepth 10000 in
set_option maxHeartbeats 1000000 in
theorem re7 (x : Int) (w : World) (hk : dr x 12 = 7) : Calls Tryd.prog 11 #[.int .u64 x] w (ReSays w (en x).1 (en x).2) := by
  have he : en x = ((9, [1 + dr (nx x) 4, dr (nx (nx x)) 3, dr (nx (nx (nx x))) 2], ⟨#[]⟩), nx (nx (nx (nx x)))) := by unfold en enk; rw [hk]; rfl
  have HN := hid (fun W => rnext_any x 12 (by omega) W)
  rw [he]
  rw [hk] at HN
  clear he hk
  have HD := hid (fun W b h => dw_d (nx x) W b h)
  generalize nx x = y at *
  have HS := hid (BW.start w)
  go_enter Tryd.func11, Tryd.ntmps11
  go_wp2_with (first
    | (go_at_call 10; go_must (with_reducible refine (HN.out _).mono ?_); rintro e w1 ⟨rfl, hb⟩; have HB := hid (HS.out.later hb); clear hb)
    | (go_at_call 44; go_must (with_reducible refine (HD.out _ _ (heap_alloc_new w1 (.cells #[.int .i64 4, .int .i64 3, .int .i64 2] 3))).mono ?_); rintro e w2 ⟨g, c, rfl, hg, hc, hR, hb⟩; have HA := hid (HB.out.later ((Below.refl _ w1).alloc (Nat.le_refl _) (.cells #[.int .i64 4, .int .i64 3, .int .i64 2] 3))); have HC := hid (HA.out.later hb); have HL := hid (show w.heap.size < (w1.alloc (.cells #[.int .i64 4, .int .i64 3, .int .i64 2] 3)).heap.size ∧ w.heap.size ≤ (w1.alloc (.cells #[.int .i64 4, .int .i64 3, .int .i64 2] 3)).heap.size from ⟨(Array.getElem?_eq_some_iff.1 HA.out.box).1, HA.out.low.size⟩); clear HB; have HB := HC; clear HA HC; have HR := hid (R_above hR HL.out); have e0 := hc 0 _ rfl; have e1 := hc 1 _ rfl; have e2 := hc 2 _ rfl; have HCC := hid hc; clear hc hb hR hg))
  obtain ⟨Wd, hWd⟩ : ∃ Wd, Wd = w2.drew := ⟨_, rfl⟩
  have HWd := hid hWd
  obtain ⟨W2, hW2⟩ : ∃ W2, W2 = Wd.alloc (.cells #[.int .i64 (1 + dr y 4), .int .i64 (dr (nx y) 3), .int .i64 (dr (nx (nx y)) 2)] 3) := ⟨_, rfl⟩
  have HW2 := hid hW2
  have HBd := hid (show BW w Wd w.heap.size by rw [hWd]; exact HB.out.later (Below.refl _ w2).drew)
  have HB2 := hid (show BW w W2 w.heap.size by rw [hW2]; exact HBd.out.later ((Below.refl _ Wd).alloc (Nat.le_refl _) _))
  have HG := hid (show W2.heap[Wd.heap.size]? = some (.cells #[.int .i64 (1 + dr y 4), .int .i64 (dr (nx y) 3), .int .i64 (dr (nx (nx y)) 2)] 3 (0, 0)) by rw [hW2]; exact heap_alloc_new _ _)
  have HL2 := hid (show w.heap.size < Wd.heap.size ∧ w.heap.size ≤ Wd.heap.size from ⟨(Array.getElem?_eq_some_iff.1 HBd.out.box).1, HBd.out.low.size⟩)
  have HS1 := hid (show (fun V : World => V.cell? ⟨g, 0, none⟩ = some (.int .i64 (dr y 4)) ∧ V.cell? ⟨g, 1, none⟩ = some (.int .i64 (dr (nx y) 3)) ∧ V.cell? ⟨g, 2, none⟩ = some (.int .i64 (dr (nx (nx y)) 2))) Wd by rw [hWd]; exact ⟨e0, e1, e2⟩)
  have HS2 := hid (show (fun V : World => V.cell? ⟨g, 0, none⟩ = some (.int .i64 (dr y 4)) ∧ V.cell? ⟨g, 1, none⟩ = some (.int .i64 (dr (nx y) 3)) ∧ V.cell? ⟨g, 2, none⟩ = some (.int .i64 (dr (nx (nx y)) 2))) W2 by rw [hW2]; exact ⟨cell_alloc HS1.out.1 _, cell_alloc HS1.out.2.1 _, cell_alloc HS1.out.2.2 _⟩)
  have hw0 : IntKind.i64.wrap (1 + dr y 4) = 1 + dr y 4 := by have := dr_in y 4 (by omega); exact IntWalk.i64_in _ (by omega)
  clear hWd hW2 HR HCC e0 e1 e2
  obtain ⟨c0, c1, c2, cf⟩ := HB2.out.cells
  have cf0 := cf 0
  have cf1 := cf 1
  have cf2 := cf 2
  clear cf
  clear HB
  have HB := HB2
  clear HB2
  refine start_ (n := 15) (S := fun V : World => V.cell? ⟨g, 0, none⟩ = some (.int .i64 (dr y 4)) ∧ V.cell? ⟨g, 1, none⟩ = some (.int .i64 (dr (nx y) 3)) ∧ V.cell? ⟨g, 2, none⟩ = some (.int .i64 (dr (nx (nx y)) 2))) (ds := [14]) #[false, false, false, false, false, false, false, false, false, false, false, false, false, false, false] (by kernel_rfl) rfl rfl (by rw [← HWd.out]; exact HS1.out) (fun hHeld => ?_); refine with_tabW reg26.tab reg26.bits (fun HT_ HW_ => ?_)
  rw [← HWd.out] at hHeld ⊢
  refine pure_ (i := 0) (N := some 114) (v := ?_) (a' := ?_) #[true, false, false, false, false, false, false, false, false, false, false, false, false, false, false] rfl rfl (any_of HT_.out (by kernel_rfl)) (fun _ _ _ h => h) (Or.inl ⟨by rfl, ?_⟩) ?_ ?_
  rotate_left
  · intro w'
    go_simp
    with_reducible rfl
  rotate_left
  · simp only [Act.put, List.setIfInBounds_toArray, List.set_cons_zero, List.set_cons_succ, i64_w, i32_w]
    rfl
  refine pure_ (i := 1) (N := some 115) (v := ?_) (a' := ?_) #[true, true, false, false, false, false, false, false, false, false, false, false, false, false, false] rfl rfl (any_of HT_.out (by kernel_rfl)) (fun _ _ _ h => h) (Or.inl ⟨by rfl, ?_⟩) ?_ ?_
  rotate_left
  · intro w'
    go_simp
    with_reducible rfl
  rotate_left
  · simp only [Act.put, List.setIfInBounds_toArray, List.set_cons_zero, List.set_cons_succ, i64_w, i32_w]
    rfl
  refine pure_ (i := 2) (N := some 116) (v := ?_) (a' := ?_) #[true, true, true, false, false, false, false, false, false, false, false, false, false, false, false] rfl rfl (any_of HT_.out (by kernel_rfl)) (fun _ _ _ h => h) (Or.inl ⟨by rfl, ?_⟩) ?_ ?_
  rotate_left
  · intro w'
    go_simp
    with_reducible rfl
  rotate_left
  · simp only [Act.put, List.setIfInBounds_toArray, List.set_cons_zero, List.set_cons_succ, i64_w, i32_w]
    rfl
  refine pure_ (i := 5) (N := some 119) (v := ?_) (a' := ?_) #[true, true, true, false, false, true, false, false, false, false, false, false, false, false, false] rfl rfl (any_of HT_.out (by kernel_rfl)) (fun _ _ _ h => h) (Or.inl ⟨by rfl, ?_⟩) ?_ ?_
  rotate_left
  · intro w'
    go_simp
    with_reducible rfl
  rotate_left
  · simp only [Act.put, List.setIfInBounds_toArray, List.set_cons_zero, List.set_cons_succ, i64_w, i32_w]
    rfl
  refine pure_ (i := 6) (N := some 120) (v := ?_) (a' := ?_) #[true, true, true, false, false, true, true, false, false, false, false, false, false, false, false] rfl rfl (any_of HT_.out (by kernel_rfl)) (fun _ _ _ h => h) (Or.inl ⟨by rfl, ?_⟩) ?_ ?_
  rotate_left
  · intro w'
    go_simp
    with_reducible rfl
  rotate_left
  · simp only [Act.put, List.setIfInBounds_toArray, List.set_cons_zero, List.set_cons_succ, i64_w, i32_w]
    rfl
  refine pure_ (i := 8) (N := some 122) (v := ?_) (a' := ?_) #[true, true, true, false, false, true, true, false, true, false, false, false, false, false, false] rfl rfl (any_of HT_.out (by kernel_rfl)) (fun _ _ _ h => h) (Or.inl ⟨by rfl, ?_⟩) ?_ ?_
  rotate_left
  · intro w'
    go_simp
    with_reducible rfl
  rotate_left
  · simp only [Act.put, List.setIfInBounds_toArray, List.set_cons_zero, List.set_cons_succ, i64_w, i32_w]
    rfl
  refine pure_ (i := 9) (N := some 123) (v := ?_) (a' := ?_) #[true, true, true, false, false, true, true, false, true, true, false, false, false, false, false] rfl rfl (any_of HT_.out (by kernel_rfl)) (fun _ _ _ h => h) (Or.inl ⟨by rfl, ?_⟩) ?_ ?_
  rotate_left
  · intro w'
    go_simp
    with_reducible rfl
  rotate_left
  · simp only [Act.put, List.setIfInBounds_toArray, List.set_cons_zero, List.set_cons_succ, i64_w, i32_w]
    rfl
  refine pure_ (i := 13) (N := some 2) (v := ?_) (a' := ?_) #[true, true, true, false, false, true, true, false, true, true, false, false, false, true, false] rfl rfl (any_of HT_.out (by kernel_rfl)) (fun _ _ _ h => h) (Or.inl ⟨by rfl, ?_⟩) ?_ ?_
  rotate_left
  · intro w'
    go_simp
    with_reducible rfl
  rotate_left
  · simp only [Act.put, List.setIfInBounds_toArray, List.set_cons_zero, List.set_cons_succ, i64_w, i32_w]
    rfl
  refine take_ (i := 3) (N := some 117) (v := ?_) (a' := ?_) #[true, true, true, true, false, true, true, false, true, true, false, false, false, true, false] rfl rfl (take_ofW HT_.out HW_.out (by kernel_rfl)) (fun _ _ _ h => h) (Or.inl ⟨by rfl, ?_⟩) hHeld ?_ ?_
  rotate_left
  · rintro w' ⟨s0, s1, s2⟩
    go_simp
    with_reducible rfl
  rotate_left
  · simp only [Act.put, List.setIfInBounds_toArray, List.set_cons_zero, List.set_cons_succ, i64_w, i32_w]
    rfl
  refine pure_ (i := 4) (N := some 118) (v := ?_) (a' := ?_) #[true, true, true, true, true, true, true, false, true, true, false, false, false, true, false] rfl rfl (any_of HT_.out (by kernel_rfl)) (fun _ _ _ h => h) (Or.inl ⟨by rfl, ?_⟩) ?_ ?_
  rotate_left
  · intro w'
    go_simp
    with_reducible rfl
  rotate_left
  · simp only [Act.put, List.setIfInBounds_toArray, List.set_cons_zero, List.set_cons_succ, i64_w, i32_w]
    rfl
  refine take_ (i := 7) (N := some 121) (v := ?_) (a' := ?_) #[true, true, true, true, true, true, true, true, true, true, false, false, false, true, false] rfl rfl (take_ofW HT_.out HW_.out (by kernel_rfl)) (fun _ _ _ h => h) (Or.inl ⟨by rfl, ?_⟩) hHeld ?_ ?_
  rotate_left
  · rintro w' ⟨s0, s1, s2⟩
    go_simp
    with_reducible rfl
  rotate_left
  · simp only [Act.put, List.setIfInBounds_toArray, List.set_cons_zero, List.set_cons_succ, i64_w, i32_w]
    rfl
  refine take_ (i := 10) (N := some 124) (v := ?_) (a' := ?_) #[true, true, true, true, true, true, true, true, true, true, true, false, false, true, false] rfl rfl (take_ofW HT_.out HW_.out (by kernel_rfl)) (fun _ _ _ h => h) (Or.inl ⟨by rfl, ?_⟩) hHeld ?_ ?_
  rotate_left
  · rintro w' ⟨s0, s1, s2⟩
    go_simp
    with_reducible rfl
  rotate_left
  · simp only [Act.put, List.setIfInBounds_toArray, List.set_cons_zero, List.set_cons_succ, i64_w, i32_w]
    rfl
  refine one_ (i := 11) (N := some 125) #[true, true, true, true, true, true, true, true, true, true, true, true, false, true, false] rfl rfl (one_of HT_.out (by kernel_rfl)) (by decide) (fun K hK => ?_)
  refine value_ (v := .slice (some ⟨Wd.heap.size, 0, none⟩) 3 3) (w1 := W2) (by rfl) rfl (by rw [HW2.out]; go_simp) ?_
  refine hK.out _ _ HS2.out (fun hHeld => ?_)
  clear hK K
  refine norm_ (a' := ?_) ?_ ?_
  rotate_left
  · show Act.put _ (some 125) _ = _
    simp only [Act.put, List.setIfInBounds_toArray, List.set_cons_zero, List.set_cons_succ, i64_w, i32_w]
    rfl
  refine pure_ (i := 12) (N := some 126) (v := ?_) (a' := ?_) #[true, true, true, true, true, true, true, true, true, true, true, true, true, true, false] rfl rfl (any_of HT_.out (by kernel_rfl)) (fun _ _ _ h => h) (Or.inl ⟨by rfl, ?_⟩) ?_ ?_
  rotate_left
  · intro w'
    go_simp
    with_reducible rfl
  rotate_left
  · simp only [Act.put, List.setIfInBounds_toArray, List.set_cons_zero, List.set_cons_succ, i64_w, i32_w]
    rfl
  refine last_ (i := 14) (N := none) #[true, true, true, true, true, true, true, true, true, true, true, true, true, true, true] rfl rfl (one_of HT_.out (by kernel_rfl)) (by decide) (fun K hK => ?_)
  refine skip_ (w1 := ((W2.setCell ⟨w.heap.size, 0, none⟩ (.int .i64 9)).setCell ⟨w.heap.size, 1, none⟩ (.slice (some ⟨Wd.heap.size, 0, none⟩) 3 3)).setCell ⟨w.heap.size, 2, none⟩ (.string ⟨#[]⟩)) (by rfl) rfl (by go_simp) ?_
  refine hK.out _ _ ?_
  clear hK K
  refine done_ (done_of HT_.out (by kernel_rfl)) ?_
  go_wp2_with fail
  obtain ⟨p0, p1, p2⟩ := put3_cells (x := .int .i64 9) (y := .slice (some ⟨Wd.heap.size, 0, none⟩) 3 3) (z := .string ⟨#[]⟩) HB.out.box
  unfold put3 at p0 p1 p2
  refine bodyPost_ret (v := .tuple #[.int .u64 (nx (nx (nx y))), .agg #[.int .i64 9, .slice (some ⟨Wd.heap.size, 0, none⟩) 3 3, .string ⟨#[]⟩]]) (by simp [results, Tryd.results11, go_sem, p0, p1, p2]) rfl ?_
  exact re_ends (E := (9, _, ⟨#[]⟩)) HB.out (R_made (xs := [1 + dr y 4, dr (nx y) 3, dr (nx (nx y)) 2]) HG.out rfl (by simp) HL2.out)

def reg8.T : Bool × List (List Nat × List Nat) := (true, [([], []), ([], []), ([1], [1]), ([2], [2]), ([3], [3]), ([], []), ([5], [5]), ([6], [6]), ([], []), ([8], [8]), ([9], [9]), ([4, 7, 10], [4, 7, 10]), ([], []), ([12], [12]), ([13], [13]), ([14], [14]), ([15], [15]), ([16], [16]), ([17], [17]), ([11, 18], [11, 18]), ([0, 0], [0]), ([19, 20, 0, 1, 2, 3, 4, 5, 6, 7, 8, 9, 10, 11, 12, 13, 14, 15, 16, 17, 18, 19, 20], [19])])
def reg8.B : List Nat := [0, 0, 2, 6, 14, 0, 32, 96, 0, 256, 768, 2046, 0, 4096, 12288, 28672, 61440, 126976, 258048, 524286, 1, 2097151]
theorem reg8.tab : rtab .any (opsOf Tryd.f11 8) = reg8.T := by kernel_rfl
theorem reg8.bits : waitsOk reg8.T.2 reg8.B = true := by kernel_rfl

set_option maxRecDepth 10000 in
set_option maxHeartbeats 1000000 in
theorem re0 (x : Int) (w : World) (hk : dr x 12 = 0) : Calls Tryd.prog 11 #[.int .u64 x] w (ReSays w (en x).1 (en x).2) := by
  have he : en x = ((23, [1, 1 + dr (nx x) 3, dr (nx (nx x)) 40, dr (nx (nx (nx x))) 40], strOfNums [97 + dr (nx (nx (nx (nx x)))) 6]), nx (nx (nx (nx (nx x))))) := by unfold en enk; rw [hk]; rfl
  have HN := hid (fun W => rnext_any x 12 (by omega) W)
  rw [he]
  rw [hk] at HN
  clear he hk
  have HD := hid (fun W b h => dw_a (nx x) W b h)
  generalize nx x = y at *
  have HS := hid (BW.start w)
  go_enter Tryd.func11, Tryd.ntmps11
  go_wp2_with (first
    | (go_at_call 10; go_must (with_reducible refine (HN.out _).mono ?_); rintro e w1 ⟨rfl, hb⟩; have HB := hid (HS.out.later hb); clear hb)
    | (go_at_call 44; go_must (with_reducible refine (HD.out _ _ (heap_alloc_new w1 (.cells #[.int .i64 3, .int .i64 40, .int .i64 40, .int .i64 6] 3))).mono ?_); rintro e w2 ⟨g, c, rfl, hg, hc, hR, hb⟩; have HA := hid (HB.out.later ((Below.refl _ w1).alloc (Nat.le_refl _) (.cells #[.int .i64 3, .int .i64 40, .int .i64 40, .int .i64 6] 3))); have HC := hid (HA.out.later hb); have HL := hid (show w.heap.size < (w1.alloc (.cells #[.int .i64 3, .int .i64 40, .int .i64 40, .int .i64 6] 3)).heap.size ∧ w.heap.size ≤ (w1.alloc (.cells #[.int .i64 3, .int .i64 40, .int .i64 40, .int .i64 6] 3)).heap.size from ⟨(Array.getElem?_eq_some_iff.1 HA.out.box).1, HA.out.low.size⟩); clear HB; have HB := HC; clear HA HC; have HR := hid (R_above hR HL.out); have e0 := hc 0 _ rfl; have e1 := hc 1 _ rfl; have e2 := hc 2 _ rfl; have e3 := hc 3 _ rfl; have HCC := hid hc; clear hc hb hR hg))
  obtain ⟨Wd, hWd⟩ : ∃ Wd, Wd = w2.drew := ⟨_, rfl⟩
  have HWd := hid hWd
  have HX := hid (show XW w Wd w.heap.size g [dr y 3, dr (nx y) 40, dr (nx (nx y)) 40, dr (nx (nx (nx y))) 6] [1, 1 + dr y 3, dr (nx y) 40, dr (nx (nx y)) 40] (97 + dr (nx (nx (nx y))) 6) none none by rw [hWd]; exact (XW.mk HB.out (by simp) (by simp) HCC.out).later (Below.refl _ w2).drew)
  have HS1 := hid (show (fun V : World => V.cell? ⟨g, 0, none⟩ = some (.int .i64 (dr y 3)) ∧ V.cell? ⟨g, 1, none⟩ = some (.int .i64 (dr (nx y) 40)) ∧ V.cell? ⟨g, 2, none⟩ = some (.int .i64 (dr (nx (nx y)) 40)) ∧ V.cell? ⟨g, 3, none⟩ = some (.int .i64 (dr (nx (nx (nx y))) 6))) Wd by exact ⟨HX.out.s 0 _ rfl, HX.out.s 1 _ rfl, HX.out.s 2 _ rfl, HX.out.s 3 _ rfl⟩)
  have hw0 : IntKind.i64.wrap (1 + dr y 3) = 1 + dr y 3 := by have := dr_in y 3 (by omega); exact IntWalk.i64_in _ (by omega)
  have hw1 : IntKind.i64.wrap (97 + dr (nx (nx (nx y))) 6) = 97 + dr (nx (nx (nx y))) 6 := by have := dr_in (nx (nx (nx y))) 6 (by omega); exact IntWalk.i64_in _ (by omega)
  have hw2 : wrap64 (1 + dr y 3) = 1 + dr y 3 := by have := dr_in y 3 (by omega); unfold wrap64; omega
  have hw3 : wrap64 (97 + dr (nx (nx (nx y))) 6) = 97 + dr (nx (nx (nx y))) 6 := by have := dr_in (nx (nx (nx y))) 6 (by omega); unfold wrap64; omega
  have hw4 : IntKind.u8.wrap (97 + dr (nx (nx (nx y))) 6) = 97 + dr (nx (nx (nx y))) 6 := by have := dr_in (nx (nx (nx y))) 6 (by omega); rw [IntKind.wrap_u8]; omega
  have hw5 : (97 + dr (nx (nx (nx y))) 6) % 256 = 97 + dr (nx (nx (nx y))) 6 := by have := dr_in (nx (nx (nx y))) 6 (by omega); omega
  clear hWd HR e0 e1 e2 e3 HCC HB
  refine start_ (n := 22) (S := fun V : World => V.cell? ⟨g, 0, none⟩ = some (.int .i64 (dr y 3)) ∧ V.cell? ⟨g, 1, none⟩ = some (.int .i64 (dr (nx y) 40)) ∧ V.cell? ⟨g, 2, none⟩ = some (.int .i64 (dr (nx (nx y)) 40)) ∧ V.cell? ⟨g, 3, none⟩ = some (.int .i64 (dr (nx (nx (nx y))) 6))) (ds := [21]) #[false, false, false, false, false, false, false, false, false, false, false, false, false, false, false, false, false, false, false, false, false, false] (by kernel_rfl) rfl rfl (by rw [← HWd.out]; exact HS1.out) (fun hHeld => ?_); refine with_tabW reg8.tab reg8.bits (fun HT_ HW_ => ?_)
  rw [← HWd.out] at hHeld ⊢
  refine pure_ (i := 0) (N := some 40) (v := ?_) (a' := ?_) #[true, false, false, false, false, false, false, false, false, false, false, false, false, false, false, false, false, false, false, false, false, false] rfl rfl (any_of HT_.out (by kernel_rfl)) (fun _ _ _ h => h) (Or.inl ⟨by rfl, ?_⟩) ?_ ?_
  rotate_left
  · intro w'
    go_simp
    with_reducible rfl
  rotate_left
  · simp only [Act.put, List.setIfInBounds_toArray, List.set_cons_zero, List.set_cons_succ, i64_w, i32_w]
    rfl
  refine pure_ (i := 1) (N := some 41) (v := ?_) (a' := ?_) #[true, true, false, false, false, false, false, false, false, false, false, false, false, false, false, false, false, false, false, false, false, false] rfl rfl (any_of HT_.out (by kernel_rfl)) (fun _ _ _ h => h) (Or.inl ⟨by rfl, ?_⟩) ?_ ?_
  rotate_left
  · intro w'
    go_simp
    with_reducible rfl
  rotate_left
  · simp only [Act.put, List.setIfInBounds_toArray, List.set_cons_zero, List.set_cons_succ, i64_w, i32_w]
    rfl
  refine pure_ (i := 2) (N := some 42) (v := ?_) (a' := ?_) #[true, true, true, false, false, false, false, false, false, false, false, false, false, false, false, false, false, false, false, false, false, false] rfl rfl (any_of HT_.out (by kernel_rfl)) (fun _ _ _ h => h) (Or.inl ⟨by rfl, ?_⟩) ?_ ?_
  rotate_left
  · intro w'
    go_simp
    with_reducible rfl
  rotate_left
  · simp only [Act.put, List.setIfInBounds_toArray, List.set_cons_zero, List.set_cons_succ, i64_w, i32_w]
    rfl
  refine pure_ (i := 5) (N := some 45) (v := ?_) (a' := ?_) #[true, true, true, false, false, true, false, false, false, false, false, false, false, false, false, false, false, false, false, false, false, false] rfl rfl (any_of HT_.out (by kernel_rfl)) (fun _ _ _ h => h) (Or.inl ⟨by rfl, ?_⟩) ?_ ?_
  rotate_left
  · intro w'
    go_simp
    with_reducible rfl
  rotate_left
  · simp only [Act.put, List.setIfInBounds_toArray, List.set_cons_zero, List.set_cons_succ, i64_w, i32_w]
    rfl
  refine pure_ (i := 6) (N := some 46) (v := ?_) (a' := ?_) #[true, true, true, false, false, true, true, false, false, false, false, false, false, false, false, false, false, false, false, false, false, false] rfl rfl (any_of HT_.out (by kernel_rfl)) (fun _ _ _ h => h) (Or.inl ⟨by rfl, ?_⟩) ?_ ?_
  rotate_left
  · intro w'
    go_simp
    with_reducible rfl
  rotate_left
  · simp only [Act.put, List.setIfInBounds_toArray, List.set_cons_zero, List.set_cons_succ, i64_w, i32_w]
    rfl
  refine pure_ (i := 8) (N := some 48) (v := ?_) (a' := ?_) #[true, true, true, false, false, true, true, false, true, false, false, false, false, false, false, false, false, false, false, false, false, false] rfl rfl (any_of HT_.out (by kernel_rfl)) (fun _ _ _ h => h) (Or.inl ⟨by rfl, ?_⟩) ?_ ?_
  rotate_left
  · intro w'
    go_simp
    with_reducible rfl
  rotate_left
  · simp only [Act.put, List.setIfInBounds_toArray, List.set_cons_zero, List.set_cons_succ, i64_w, i32_w]
    rfl
  refine pure_ (i := 9) (N := some 49) (v := ?_) (a' := ?_) #[true, true, true, false, false, true, true, false, true, true, false, false, false, false, false, false, false, false, false, false, false, false] rfl rfl (any_of HT_.out (by kernel_rfl)) (fun _ _ _ h => h) (Or.inl ⟨by rfl, ?_⟩) ?_ ?_
  rotate_left
  · intro w'
    go_simp
    with_reducible rfl
  rotate_left
  · simp only [Act.put, List.setIfInBounds_toArray, List.set_cons_zero, List.set_cons_succ, i64_w, i32_w]
    rfl
  refine pure_ (i := 12) (N := some 52) (v := ?_) (a' := ?_) #[true, true, true, false, false, true, true, false, true, true, false, false, true, false, false, false, false, false, false, false, false, false] rfl rfl (any_of HT_.out (by kernel_rfl)) (fun _ _ _ h => h) (Or.inl ⟨by rfl, ?_⟩) ?_ ?_
  rotate_left
  · intro w'
    go_simp
    with_reducible rfl
  rotate_left
  · simp only [Act.put, List.setIfInBounds_toArray, List.set_cons_zero, List.set_cons_succ, i64_w, i32_w]
    rfl
  refine pure_ (i := 13) (N := some 53) (v := ?_) (a' := ?_) #[true, true, true, false, false, true, true, false, true, true, false, false, true, true, false, false, false, false, false, false, false, false] rfl rfl (any_of HT_.out (by kernel_rfl)) (fun _ _ _ h => h) (Or.inl ⟨by rfl, ?_⟩) ?_ ?_
  rotate_left
  · intro w'
    go_simp
    with_reducible rfl
  rotate_left
  · simp only [Act.put, List.setIfInBounds_toArray, List.set_cons_zero, List.set_cons_succ, i64_w, i32_w]
    rfl
  refine pure_ (i := 20) (N := some 2) (v := ?_) (a' := ?_) #[true, true, true, false, false, true, true, false, true, true, false, false, true, true, false, false, false, false, false, false, true, false] rfl rfl (any_of HT_.out (by kernel_rfl)) (fun _ _ _ h => h) (Or.inl ⟨by rfl, ?_⟩) ?_ ?_
  rotate_left
  · intro w'
    go_simp
    with_reducible rfl
  rotate_left
  · simp only [Act.put, List.setIfInBounds_toArray, List.set_cons_zero, List.set_cons_succ, i64_w, i32_w]
    rfl
  refine take_ (i := 3) (N := some 43) (v := ?_) (a' := ?_) #[true, true, true, true, false, true, true, false, true, true, false, false, true, true, false, false, false, false, false, false, true, false] rfl rfl (take_ofW HT_.out HW_.out (by kernel_rfl)) (fun _ _ _ h => h) (Or.inl ⟨by rfl, ?_⟩) hHeld ?_ ?_
  rotate_left
  · rintro w' ⟨s0, s1, s2, s3⟩
    go_simp
    with_reducible rfl
  rotate_left
  · simp only [Act.put, List.setIfInBounds_toArray, List.set_cons_zero, List.set_cons_succ, i64_w, i32_w]
    rfl
  refine pure_ (i := 4) (N := some 44) (v := ?_) (a' := ?_) #[true, true, true, true, true, true, true, false, true, true, false, false, true, true, false, false, false, false, false, false, true, false] rfl rfl (any_of HT_.out (by kernel_rfl)) (fun _ _ _ h => h) (Or.inl ⟨by rfl, ?_⟩) ?_ ?_
  rotate_left
  · intro w'
    go_simp
    with_reducible rfl
  rotate_left
  · simp only [Act.put, List.setIfInBounds_toArray, List.set_cons_zero, List.set_cons_succ, i64_w, i32_w]
    rfl
  refine take_ (i := 7) (N := some 47) (v := ?_) (a' := ?_) #[true, true, true, true, true, true, true, true, true, true, false, false, true, true, false, false, false, false, false, false, true, false] rfl rfl (take_ofW HT_.out HW_.out (by kernel_rfl)) (fun _ _ _ h => h) (Or.inl ⟨by rfl, ?_⟩) hHeld ?_ ?_
  rotate_left
  · rintro w' ⟨s0, s1, s2, s3⟩
    go_simp
    with_reducible rfl
  rotate_left
  · simp only [Act.put, List.setIfInBounds_toArray, List.set_cons_zero, List.set_cons_succ, i64_w, i32_w]
    rfl
  refine take_ (i := 10) (N := some 50) (v := ?_) (a' := ?_) #[true, true, true, true, true, true, true, true, true, true, true, false, true, true, false, false, false, false, false, false, true, false] rfl rfl (take_ofW HT_.out HW_.out (by kernel_rfl)) (fun _ _ _ h => h) (Or.inl ⟨by rfl, ?_⟩) hHeld ?_ ?_
  rotate_left
  · rintro w' ⟨s0, s1, s2, s3⟩
    go_simp
    with_reducible rfl
  rotate_left
  · simp only [Act.put, List.setIfInBounds_toArray, List.set_cons_zero, List.set_cons_succ, i64_w, i32_w]
    rfl
  refine take_ (i := 14) (N := some 54) (v := ?_) (a' := ?_) #[true, true, true, true, true, true, true, true, true, true, true, false, true, true, true, false, false, false, false, false, true, false] rfl rfl (take_ofW HT_.out HW_.out (by kernel_rfl)) (fun _ _ _ h => h) (Or.inl ⟨by rfl, ?_⟩) hHeld ?_ ?_
  rotate_left
  · rintro w' ⟨s0, s1, s2, s3⟩
    go_simp
    with_reducible rfl
  rotate_left
  · simp only [Act.put, List.setIfInBounds_toArray, List.set_cons_zero, List.set_cons_succ, i64_w, i32_w]
    rfl
  refine pure_ (i := 15) (N := some 55) (v := ?_) (a' := ?_) #[true, true, true, true, true, true, true, true, true, true, true, false, true, true, true, true, false, false, false, false, true, false] rfl rfl (any_of HT_.out (by kernel_rfl)) (fun _ _ _ h => h) (Or.inl ⟨by rfl, ?_⟩) ?_ ?_
  rotate_left
  · intro w'
    go_simp
    with_reducible rfl
  rotate_left
  · simp only [Act.put, List.setIfInBounds_toArray, List.set_cons_zero, List.set_cons_succ, i64_w, i32_w]
    rfl
  refine pure_ (i := 16) (N := some 56) (v := ?_) (a' := ?_) #[true, true, true, true, true, true, true, true, true, true, true, false, true, true, true, true, true, false, false, false, true, false] rfl rfl (any_of HT_.out (by kernel_rfl)) (fun _ _ _ h => h) (Or.inl ⟨by rfl, ?_⟩) ?_ ?_
  rotate_left
  · intro w'
    go_simp
    with_reducible rfl
  rotate_left
  · simp only [Act.put, List.setIfInBounds_toArray, List.set_cons_zero, List.set_cons_succ, i64_w, i32_w]
    rfl
  refine join_ (σ := Nat × Nat) 2 #[true, true, true, true, true, true, true, true, true, true, true, true, true, true, true, true, true, true, true, false, true, false] (fun s_ => [(51, .slice (some ⟨s_.1, 0, none⟩) 4 4), (57, .slice (some ⟨s_.2, 0, none⟩) 1 1), (58, .string (strOfNums [97 + dr (nx (nx (nx y))) 6]))]) (fun s_ w' => (fun V : World => V.cell? ⟨g, 0, none⟩ = some (.int .i64 (dr y 3)) ∧ V.cell? ⟨g, 1, none⟩ = some (.int .i64 (dr (nx y) 40)) ∧ V.cell? ⟨g, 2, none⟩ = some (.int .i64 (dr (nx (nx y)) 40)) ∧ V.cell? ⟨g, 3, none⟩ = some (.int .i64 (dr (nx (nx (nx y))) 6))) w' ∧ XW w w' w.heap.size g [dr y 3, dr (nx y) 40, dr (nx (nx y)) 40, dr (nx (nx (nx y))) 6] [1, 1 + dr y 3, dr (nx y) 40, dr (nx (nx y)) 40] (97 + dr (nx (nx (nx y))) 6) (some s_.1) (some s_.2)) ?_ ?_
  rotate_left
  · intro hCont
    refine two_ (i := 11) (j := 17) (Ni := some 51) (Nj := some 57) #[true, true, true, true, true, true, true, true, true, true, true, true, true, true, true, true, true, false, false, false, true, false] #[true, true, true, true, true, true, true, true, true, true, true, false, true, true, true, true, true, true, false, false, true, false] rfl rfl rfl rfl (two_of HT_.out (by kernel_rfl)) (by decide) (by decide) (fun K hK => ?_) (fun K hK => ?_)
    · skip
      refine allocS_ (n := 4) (ob := .cells #[.int .i64 (1), .int .i64 (1 + dr y 3), .int .i64 (dr (nx y) 40), .int .i64 (dr (nx (nx y)) 40)] 3) (by rfl) rfl (by go_simp) ?_
      rintro g1 V1 hg_ hV_
      have HXN := hid (HX.out.a11 hg_ hV_ rfl)
      clear HX hg_ hV_
      have HX := HXN
      clear HXN
      refine hK.out _ _ ⟨HX.out.s 0 _ rfl, HX.out.s 1 _ rfl, HX.out.s 2 _ rfl, HX.out.s 3 _ rfl⟩ (fun hHeld => ?_)
      clear hK K
      refine norm_ (a' := ?_) ?_ ?_
      rotate_left
      · show Act.put _ (some 51) _ = _
        simp only [Act.put, List.setIfInBounds_toArray, List.set_cons_zero, List.set_cons_succ, i64_w, i32_w]
        rfl
      refine one_ (i := 17) (N := some 57) #[true, true, true, true, true, true, true, true, true, true, true, true, true, true, true, true, true, true, false, false, true, false] rfl rfl (one_of HT_.out (by kernel_rfl)) (by decide) (fun K hK => ?_)
      refine allocS_ (n := 1) (ob := .cells #[.int .u8 (97 + dr (nx (nx (nx y))) 6)] 5) (by rfl) rfl (by go_simp) ?_
      rintro g2 V2 hg_ hV_
      have HXN := hid (HX.out.a17 hg_ hV_)
      clear HX hg_ hV_
      have HX := HXN
      clear HXN
      refine hK.out _ _ ⟨HX.out.s 0 _ rfl, HX.out.s 1 _ rfl, HX.out.s 2 _ rfl, HX.out.s 3 _ rfl⟩ (fun hHeld => ?_)
      clear hK K
      refine norm_ (a' := ?_) ?_ ?_
      rotate_left
      · show Act.put _ (some 57) _ = _
        simp only [Act.put, List.setIfInBounds_toArray, List.set_cons_zero, List.set_cons_succ, i64_w, i32_w]
        rfl
      refine one_ (i := 18) (N := some 58) #[true, true, true, true, true, true, true, true, true, true, true, true, true, true, true, true, true, true, true, false, true, false] rfl rfl (one_of HT_.out (by kernel_rfl)) (by decide) (fun K hK => ?_)
      have hcv := HX.out.conv
      refine value_ (v := .string (strOfNums [97 + dr (nx (nx (nx y))) 6])) (w1 := V2) (by rfl) rfl (by go_simp) ?_
      clear hcv
      refine hK.out _ _ ⟨HX.out.s 0 _ rfl, HX.out.s 1 _ rfl, HX.out.s 2 _ rfl, HX.out.s 3 _ rfl⟩ (fun hHeld => ?_)
      clear hK K
      refine norm_ (a' := ?_) ?_ ?_
      rotate_left
      · show Act.put _ (some 58) _ = _
        simp only [Act.put, List.setIfInBounds_toArray, List.set_cons_zero, List.set_cons_succ, i64_w, i32_w]
        rfl
      exact norm_ (by simp only [putAll, Act.put, List.setIfInBounds_toArray, List.set_cons_zero, List.set_cons_succ]) (hCont (g1, g2) _ ⟨hHeld, HX.out⟩)
    · skip
      refine allocS_ (n := 1) (ob := .cells #[.int .u8 (97 + dr (nx (nx (nx y))) 6)] 5) (by rfl) rfl (by go_simp) ?_
      rintro g4 V4 hg_ hV_
      have HXN := hid (HX.out.a17 hg_ hV_)
      clear HX hg_ hV_
      have HX := HXN
      clear HXN
      refine hK.out _ _ ⟨HX.out.s 0 _ rfl, HX.out.s 1 _ rfl, HX.out.s 2 _ rfl, HX.out.s 3 _ rfl⟩ (fun hHeld => ?_)
      clear hK K
      refine norm_ (a' := ?_) ?_ ?_
      rotate_left
      · show Act.put _ (some 57) _ = _
        simp only [Act.put, List.setIfInBounds_toArray, List.set_cons_zero, List.set_cons_succ, i64_w, i32_w]
        rfl
      refine two_ (i := 11) (j := 18) (Ni := some 51) (Nj := some 58) #[true, true, true, true, true, true, true, true, true, true, true, true, true, true, true, true, true, true, false, false, true, false] #[true, true, true, true, true, true, true, true, true, true, true, false, true, true, true, true, true, true, true, false, true, false] rfl rfl rfl rfl (two_of HT_.out (by kernel_rfl)) (by decide) (by decide) (fun K hK => ?_) (fun K hK => ?_)
      · skip
        refine allocS_ (n := 4) (ob := .cells #[.int .i64 (1), .int .i64 (1 + dr y 3), .int .i64 (dr (nx y) 40), .int .i64 (dr (nx (nx y)) 40)] 3) (by rfl) rfl (by go_simp) ?_
        rintro g5 V5 hg_ hV_
        have HXN := hid (HX.out.a11 hg_ hV_ rfl)
        clear HX hg_ hV_
        have HX := HXN
        clear HXN
        refine hK.out _ _ ⟨HX.out.s 0 _ rfl, HX.out.s 1 _ rfl, HX.out.s 2 _ rfl, HX.out.s 3 _ rfl⟩ (fun hHeld => ?_)
        clear hK K
        refine norm_ (a' := ?_) ?_ ?_
        rotate_left
        · show Act.put _ (some 51) _ = _
          simp only [Act.put, List.setIfInBounds_toArray, List.set_cons_zero, List.set_cons_succ, i64_w, i32_w]
          rfl
        refine one_ (i := 18) (N := some 58) #[true, true, true, true, true, true, true, true, true, true, true, true, true, true, true, true, true, true, true, false, true, false] rfl rfl (one_of HT_.out (by kernel_rfl)) (by decide) (fun K hK => ?_)
        have hcv := HX.out.conv
        refine value_ (v := .string (strOfNums [97 + dr (nx (nx (nx y))) 6])) (w1 := V5) (by rfl) rfl (by go_simp) ?_
        clear hcv
        refine hK.out _ _ ⟨HX.out.s 0 _ rfl, HX.out.s 1 _ rfl, HX.out.s 2 _ rfl, HX.out.s 3 _ rfl⟩ (fun hHeld => ?_)
        clear hK K
        refine norm_ (a' := ?_) ?_ ?_
        rotate_left
        · show Act.put _ (some 58) _ = _
          simp only [Act.put, List.setIfInBounds_toArray, List.set_cons_zero, List.set_cons_succ, i64_w, i32_w]
          rfl
        exact norm_ (by simp only [putAll, Act.put, List.setIfInBounds_toArray, List.set_cons_zero, List.set_cons_succ]) (hCont (g5, g4) _ ⟨hHeld, HX.out⟩)
      · skip
        have hcv := HX.out.conv
        refine value_ (v := .string (strOfNums [97 + dr (nx (nx (nx y))) 6])) (w1 := V4) (by rfl) rfl (by go_simp) ?_
        clear hcv
        refine hK.out _ _ ⟨HX.out.s 0 _ rfl, HX.out.s 1 _ rfl, HX.out.s 2 _ rfl, HX.out.s 3 _ rfl⟩ (fun hHeld => ?_)
        clear hK K
        refine norm_ (a' := ?_) ?_ ?_
        rotate_left
        · show Act.put _ (some 58) _ = _
          simp only [Act.put, List.setIfInBounds_toArray, List.set_cons_zero, List.set_cons_succ, i64_w, i32_w]
          rfl
        refine one_ (i := 11) (N := some 51) #[true, true, true, true, true, true, true, true, true, true, true, true, true, true, true, true, true, true, true, false, true, false] rfl rfl (one_of HT_.out (by kernel_rfl)) (by decide) (fun K hK => ?_)
        refine allocS_ (n := 4) (ob := .cells #[.int .i64 (1), .int .i64 (1 + dr y 3), .int .i64 (dr (nx y) 40), .int .i64 (dr (nx (nx y)) 40)] 3) (by rfl) rfl (by go_simp) ?_
        rintro g8 V8 hg_ hV_
        have HXN := hid (HX.out.a11 hg_ hV_ rfl)
        clear HX hg_ hV_
        have HX := HXN
        clear HXN
        refine hK.out _ _ ⟨HX.out.s 0 _ rfl, HX.out.s 1 _ rfl, HX.out.s 2 _ rfl, HX.out.s 3 _ rfl⟩ (fun hHeld => ?_)
        clear hK K
        refine norm_ (a' := ?_) ?_ ?_
        rotate_left
        · show Act.put _ (some 51) _ = _
          simp only [Act.put, List.setIfInBounds_toArray, List.set_cons_zero, List.set_cons_succ, i64_w, i32_w]
          rfl
        exact norm_ (by simp only [putAll, Act.put, List.setIfInBounds_toArray, List.set_cons_zero, List.set_cons_succ]) (hCont (g8, g4) _ ⟨hHeld, HX.out⟩)
  clear HX
  rintro ⟨g6, g7⟩ wj ⟨hHeld, hXX⟩
  have HX := hid hXX
  clear hXX
  refine norm_ (a' := ?_) ?_ ?_
  rotate_left
  · simp only [putAll, Act.put, List.setIfInBounds_toArray, List.set_cons_zero, List.set_cons_succ]
    rfl
  have HB2 := hid HX.out.bw
  obtain ⟨c0, c1, c2, cf⟩ := HB2.out.cells
  have cf0 := cf 0
  have cf1 := cf 1
  have cf2 := cf 2
  clear cf
  refine pure_ (i := 19) (N := some 59) (v := ?_) (a' := ?_) #[true, true, true, true, true, true, true, true, true, true, true, true, true, true, true, true, true, true, true, true, true, false] rfl rfl (any_of HT_.out (by kernel_rfl)) (fun _ _ _ h => h) (Or.inl ⟨by rfl, ?_⟩) ?_ ?_
  rotate_left
  · intro w'
    go_simp
    with_reducible rfl
  rotate_left
  · simp only [Act.put, List.setIfInBounds_toArray, List.set_cons_zero, List.set_cons_succ, i64_w, i32_w]
    rfl
  refine last_ (i := 21) (N := none) #[true, true, true, true, true, true, true, true, true, true, true, true, true, true, true, true, true, true, true, true, true, true] rfl rfl (one_of HT_.out (by kernel_rfl)) (by decide) (fun K hK => ?_)
  refine skip_ (w1 := ((wj.setCell ⟨w.heap.size, 0, none⟩ (.int .i64 23)).setCell ⟨w.heap.size, 1, none⟩ (.slice (some ⟨g6, 0, none⟩) 4 4)).setCell ⟨w.heap.size, 2, none⟩ (.string (strOfNums [97 + dr (nx (nx (nx y))) 6]))) (by rfl) rfl (by go_simp) ?_
  refine hK.out _ _ ?_
  clear hK K
  refine done_ (done_of HT_.out (by kernel_rfl)) ?_
  go_wp2_with fail
  have HB := HB2
  obtain ⟨p0, p1, p2⟩ := put3_cells (x := .int .i64 23) (y := .slice (some ⟨g6, 0, none⟩) 4 4) (z := .string (strOfNums [97 + dr (nx (nx (nx y))) 6])) HB.out.box
  unfold put3 at p0 p1 p2
  refine bodyPost_ret (v := .tuple #[.int .u64 (nx (nx (nx (nx y)))), .agg #[.int .i64 23, .slice (some ⟨g6, 0, none⟩) 4 4, .string (strOfNums [97 + dr (nx (nx (nx y))) 6])]]) (by simp [results, Tryd.results11, go_sem, p0, p1, p2]) rfl ?_
  exact re_ends (E := (23, _, (strOfNums [97 + dr (nx (nx (nx y))) 6]))) HB.out (R_made (xs := [1, 1 + dr y 3, dr (nx y) 40, dr (nx (nx y)) 40]) (HX.out.g g6 rfl).2 rfl (by simp) (HX.out.g g6 rfl).1)

set_option maxRecDepth 10000 in
set_option maxHeartbeats 1000000 in
theorem re1 (x : Int) (w : World) (hk : dr x 12 = 1) : Calls Tryd.prog 11 #[.int .u64 x] w (ReSays w (en x).1 (en x).2) := by
  have he : en x = ((23, [1, 1 + dr (nx x) 3, dr (nx (nx x)) 40, dr (nx (nx (nx x))) 40], strOfNums [97 + dr (nx (nx (nx (nx x)))) 6]), nx (nx (nx (nx (nx x))))) := by unfold en enk; rw [hk]; rfl
  have HN := hid (fun W => rnext_any x 12 (by omega) W)
  rw [he]
  rw [hk] at HN
  clear he hk
  have HD := hid (fun W b h => dw_a (nx x) W b h)
  generalize nx x = y at *
  have HS := hid (BW.start w)
  go_enter Tryd.func11, Tryd.ntmps11
  go_wp2_with (first
    | (go_at_call 10; go_must (with_reducible refine (HN.out _).mono ?_); rintro e w1 ⟨rfl, hb⟩; have HB := hid (HS.out.later hb); clear hb)
    | (go_at_call 44; go_must (with_reducible refine (HD.out _ _ (heap_alloc_new w1 (.cells #[.int .i64 3, .int .i64 40, .int .i64 40, .int .i64 6] 3))).mono ?_); rintro e w2 ⟨g, c, rfl, hg, hc, hR, hb⟩; have HA := hid (HB.out.later ((Below.refl _ w1).alloc (Nat.le_refl _) (.cells #[.int .i64 3, .int .i64 40, .int .i64 40, .int .i64 6] 3))); have HC := hid (HA.out.later hb); have HL := hid (show w.heap.size < (w1.alloc (.cells #[.int .i64 3, .int .i64 40, .int .i64 40, .int .i64 6] 3)).heap.size ∧ w.heap.size ≤ (w1.alloc (.cells #[.int .i64 3, .int .i64 40, .int .i64 40, .int .i64 6] 3)).heap.size from ⟨(Array.getElem?_eq_some_iff.1 HA.out.box).1, HA.out.low.size⟩); clear HB; have HB := HC; clear HA HC; have HR := hid (R_above hR HL.out); have e0 := hc 0 _ rfl; have e1 := hc 1 _ rfl; have e2 := hc 2 _ rfl; have e3 := hc 3 _ rfl; have HCC := hid hc; clear hc hb hR hg))
  obtain ⟨Wd, hWd⟩ : ∃ Wd, Wd = w2.drew := ⟨_, rfl⟩
  have HWd := hid hWd
  have HX := hid (show XW w Wd w.heap.size g [dr y 3, dr (nx y) 40, dr (nx (nx y)) 40, dr (nx (nx (nx y))) 6] [1, 1 + dr y 3, dr (nx y) 40, dr (nx (nx y)) 40] (97 + dr (nx (nx (nx y))) 6) none none by rw [hWd]; exact (XW.mk HB.out (by simp) (by simp) HCC.out).later (Below.refl _ w2).drew)
  have HS1 := hid (show (fun V : World => V.cell? ⟨g, 0, none⟩ = some (.int .i64 (dr y 3)) ∧ V.cell? ⟨g, 1, none⟩ = some (.int .i64 (dr (nx y) 40)) ∧ V.cell? ⟨g, 2, none⟩ = some (.int .i64 (dr (nx (nx y)) 40)) ∧ V.cell? ⟨g, 3, none⟩ = some (.int .i64 (dr (nx (nx (nx y))) 6))) Wd by exact ⟨HX.out.s 0 _ rfl, HX.out.s 1 _ rfl, HX.out.s 2 _ rfl, HX.out.s 3 _ rfl⟩)
  have hw0 : IntKind.i64.wrap (1 + dr y 3) = 1 + dr y 3 := by have := dr_in y 3 (by omega); exact IntWalk.i64_in _ (by omega)
  have hw1 : IntKind.i64.wrap (97 + dr (nx (nx (nx y))) 6) = 97 + dr (nx (nx (nx y))) 6 := by have := dr_in (nx (nx (nx y))) 6 (by omega); exact IntWalk.i64_in _ (by omega)
  have hw2 : wrap64 (1 + dr y 3) = 1 + dr y 3 := by have := dr_in y 3 (by omega); unfold wrap64; omega
  have hw3 : wrap64 (97 + dr (nx (nx (nx y))) 6) = 97 + dr (nx (nx (nx y))) 6 := by have := dr_in (nx (nx (nx y))) 6 (by omega); unfold wrap64; omega
  have hw4 : IntKind.u8.wrap (97 + dr (nx (nx (nx y))) 6) = 97 + dr (nx (nx (nx y))) 6 := by have := dr_in (nx (nx (nx y))) 6 (by omega); rw [IntKind.wrap_u8]; omega
  have hw5 : (97 + dr (nx (nx (nx y))) 6) % 256 = 97 + dr (nx (nx (nx y))) 6 := by have := dr_in (nx (nx (nx y))) 6 (by omega); omega
  clear hWd HR e0 e1 e2 e3 HCC HB
  refine start_ (n := 22) (S := fun V : World => V.cell? ⟨g, 0, none⟩ = some (.int .i64 (dr y 3)) ∧ V.cell? ⟨g, 1, none⟩ = some (.int .i64 (dr (nx y) 40)) ∧ V.cell? ⟨g, 2, none⟩ = some (.int .i64 (dr (nx (nx y)) 40)) ∧ V.cell? ⟨g, 3, none⟩ = some (.int .i64 (dr (nx (nx (nx y))) 6))) (ds := [21]) #[false, false, false, false, false, false, false, false, false, false, false, false, false, false, false, false, false, false, false, false, false, false] (by kernel_rfl) rfl rfl (by rw [← HWd.out]; exact HS1.out) (fun hHeld => ?_); refine with_tabW reg8.tab reg8.bits (fun HT_ HW_ => ?_)
  rw [← HWd.out] at hHeld ⊢
  refine pure_ (i := 0) (N := some 40) (v := ?_) (a' := ?_) #[true, false, false, false, false, false, false, false, false, false, false, false, false, false, false, false, false, false, false, false, false, false] rfl rfl (any_of HT_.out (by kernel_rfl)) (fun _ _ _ h => h) (Or.inl ⟨by rfl, ?_⟩) ?_ ?_
  rotate_left
  · intro w'
    go_simp
    with_reducible rfl
  rotate_left
  · simp only [Act.put, List.setIfInBounds_toArray, List.set_cons_zero, List.set_cons_succ, i64_w, i32_w]
    rfl
  refine pure_ (i := 1) (N := some 41) (v := ?_) (a' := ?_) #[true, true, false, false, false, false, false, false, false, false, false, false, false, false, false, false, false, false, false, false, false, false] rfl rfl (any_of HT_.out (by kernel_rfl)) (fun _ _ _ h => h) (Or.inl ⟨by rfl, ?_⟩) ?_ ?_
  rotate_left
  · intro w'
    go_simp
    with_reducible rfl
  rotate_left
  · simp only [Act.put, List.setIfInBounds_toArray, List.set_cons_zero, List.set_cons_succ, i64_w, i32_w]
    rfl
  refine pure_ (i := 2) (N := some 42) (v := ?_) (a' := ?_) #[true, true, true, false, false, false, false, false, false, false, false, false, false, false, false, false, false, false, false, false, false, false] rfl rfl (any_of HT_.out (by kernel_rfl)) (fun _ _ _ h => h) (Or.inl ⟨by rfl, ?_⟩) ?_ ?_
  rotate_left
  · intro w'
    go_simp
    with_reducible rfl
  rotate_left
  · simp only [Act.put, List.setIfInBounds_toArray, List.set_cons_zero, List.set_cons_succ, i64_w, i32_w]
    rfl
  refine pure_ (i := 5) (N := some 45) (v := ?_) (a' := ?_) #[true, true, true, false, false, true, false, false, false, false, false, false, false, false, false, false, false, false, false, false, false, false] rfl rfl (any_of HT_.out (by kernel_rfl)) (fun _ _ _ h => h) (Or.inl ⟨by rfl, ?_⟩) ?_ ?_
  rotate_left
  · intro w'
    go_simp
    with_reducible rfl
  rotate_left
  · simp only [Act.put, List.setIfInBounds_toArray, List.set_cons_zero, List.set_cons_succ, i64_w, i32_w]
    rfl
  refine pure_ (i := 6) (N := some 46) (v := ?_) (a' := ?_) #[true, true, true, false, false, true, true, false, false, false, false, false, false, false, false, false, false, false, false, false, false, false] rfl rfl (any_of HT_.out (by kernel_rfl)) (fun _ _ _ h => h) (Or.inl ⟨by rfl, ?_⟩) ?_ ?_
  rotate_left
  · intro w'
    go_simp
    with_reducible rfl
  rotate_left
  · simp only [Act.put, List.setIfInBounds_toArray, List.set_cons_zero, List.set_cons_succ, i64_w, i32_w]
    rfl
  refine pure_ (i := 8) (N := some 48) (v := ?_) (a' := ?_) #[true, true, true, false, false, true, true, false, true, false, false, false, false, false, false, false, false, false, false, false, false, false] rfl rfl (any_of HT_.out (by kernel_rfl)) (fun _ _ _ h => h) (Or.inl ⟨by rfl, ?_⟩) ?_ ?_
  rotate_left
  · intro w'
    go_simp
    with_reducible rfl
  rotate_left
  · simp only [Act.put, List.setIfInBounds_toArray, List.set_cons_zero, List.set_cons_succ, i64_w, i32_w]
    rfl
  refine pure_ (i := 9) (N := some 49) (v := ?_) (a' := ?_) #[true, true, true, false, false, true, true, false, true, true, false, false, false, false, false, false, false, false, false, false, false, false] rfl rfl (any_of HT_.out (by kernel_rfl)) (fun _ _ _ h => h) (Or.inl ⟨by rfl, ?_⟩) ?_ ?_
  rotate_left
  · intro w'
    go_simp
    with_reducible rfl
  rotate_left
  · simp only [Act.put, List.setIfInBounds_toArray, List.set_cons_zero, List.set_cons_succ, i64_w, i32_w]
    rfl
  refine pure_ (i := 12) (N := some 52) (v := ?_) (a' := ?_) #[true, true, true, false, false, true, true, false, true, true, false, false, true, false, false, false, false, false, false, false, false, false] rfl rfl (any_of HT_.out (by kernel_rfl)) (fun _ _ _ h => h) (Or.inl ⟨by rfl, ?_⟩) ?_ ?_
  rotate_left
  · intro w'
    go_simp
    with_reducible rfl
  rotate_left
  · simp only [Act.put, List.setIfInBounds_toArray, List.set_cons_zero, List.set_cons_succ, i64_w, i32_w]
    rfl
  refine pure_ (i := 13) (N := some 53) (v := ?_) (a' := ?_) #[true, true, true, false, false, true, true, false, true, true, false, false, true, true, false, false, false, false, false, false, false, false] rfl rfl (any_of HT_.out (by kernel_rfl)) (fun _ _ _ h => h) (Or.inl ⟨by rfl, ?_⟩) ?_ ?_
  rotate_left
  · intro w'
    go_simp
    with_reducible rfl
  rotate_left
  · simp only [Act.put, List.setIfInBounds_toArray, List.set_cons_zero, List.set_cons_succ, i64_w, i32_w]
    rfl
  refine pure_ (i := 20) (N := some 2) (v := ?_) (a' := ?_) #[true, true, true, false, false, true, true, false, true, true, false, false, true, true, false, false, false, false, false, false, true, false] rfl rfl (any_of HT_.out (by kernel_rfl)) (fun _ _ _ h => h) (Or.inl ⟨by rfl, ?_⟩) ?_ ?_
  rotate_left
  · intro w'
    go_simp
    with_reducible rfl
  rotate_left
  · simp only [Act.put, List.setIfInBounds_toArray, List.set_cons_zero, List.set_cons_succ, i64_w, i32_w]
    rfl
  refine take_ (i := 3) (N := some 43) (v := ?_) (a' := ?_) #[true, true, true, true, false, true, true, false, true, true, false, false, true, true, false, false, false, false, false, false, true, false] rfl rfl (take_ofW HT_.out HW_.out (by kernel_rfl)) (fun _ _ _ h => h) (Or.inl ⟨by rfl, ?_⟩) hHeld ?_ ?_
  rotate_left
  · rintro w' ⟨s0, s1, s2, s3⟩
    go_simp
    with_reducible rfl
  rotate_left
  · simp only [Act.put, List.setIfInBounds_toArray, List.set_cons_zero, List.set_cons_succ, i64_w, i32_w]
    rfl
  refine pure_ (i := 4) (N := some 44) (v := ?_) (a' := ?_) #[true, true, true, true, true, true, true, false, true, true, false, false, true, true, false, false, false, false, false, false, true, false] rfl rfl (any_of HT_.out (by kernel_rfl)) (fun _ _ _ h => h) (Or.inl ⟨by rfl, ?_⟩) ?_ ?_
  rotate_left
  · intro w'
    go_simp
    with_reducible rfl
  rotate_left
  · simp only [Act.put, List.setIfInBounds_toArray, List.set_cons_zero, List.set_cons_succ, i64_w, i32_w]
    rfl
  refine take_ (i := 7) (N := some 47) (v := ?_) (a' := ?_) #[true, true, true, true, true, true, true, true, true, true, false, false, true, true, false, false, false, false, false, false, true, false] rfl rfl (take_ofW HT_.out HW_.out (by kernel_rfl)) (fun _ _ _ h => h) (Or.inl ⟨by rfl, ?_⟩) hHeld ?_ ?_
  rotate_left
  · rintro w' ⟨s0, s1, s2, s3⟩
    go_simp
    with_reducible rfl
  rotate_left
  · simp only [Act.put, List.setIfInBounds_toArray, List.set_cons_zero, List.set_cons_succ, i64_w, i32_w]
    rfl
  refine take_ (i := 10) (N := some 50) (v := ?_) (a' := ?_) #[true, true, true, true, true, true, true, true, true, true, true, false, true, true, false, false, false, false, false, false, true, false] rfl rfl (take_ofW HT_.out HW_.out (by kernel_rfl)) (fun _ _ _ h => h) (Or.inl ⟨by rfl, ?_⟩) hHeld ?_ ?_
  rotate_left
  · rintro w' ⟨s0, s1, s2, s3⟩
    go_simp
    with_reducible rfl
  rotate_left
  · simp only [Act.put, List.setIfInBounds_toArray, List.set_cons_zero, List.set_cons_succ, i64_w, i32_w]
    rfl
  refine take_ (i := 14) (N := some 54) (v := ?_) (a' := ?_) #[true, true, true, true, true, true, true, true, true, true, true, false, true, true, true, false, false, false, false, false, true, false] rfl rfl (take_ofW HT_.out HW_.out (by kernel_rfl)) (fun _ _ _ h => h) (Or.inl ⟨by rfl, ?_⟩) hHeld ?_ ?_
  rotate_left
  · rintro w' ⟨s0, s1, s2, s3⟩
    go_simp
    with_reducible rfl
  rotate_left
  · simp only [Act.put, List.setIfInBounds_toArray, List.set_cons_zero, List.set_cons_succ, i64_w, i32_w]
    rfl
  refine pure_ (i := 15) (N := some 55) (v := ?_) (a' := ?_) #[true, true, true, true, true, true, true, true, true, true, true, false, true, true, true, true, false, false, false, false, true, false] rfl rfl (any_of HT_.out (by kernel_rfl)) (fun _ _ _ h => h) (Or.inl ⟨by rfl, ?_⟩) ?_ ?_
  rotate_left
  · intro w'
    go_simp
    with_reducible rfl
  rotate_left
  · simp only [Act.put, List.setIfInBounds_toArray, List.set_cons_zero, List.set_cons_succ, i64_w, i32_w]
    rfl
  refine pure_ (i := 16) (N := some 56) (v := ?_) (a' := ?_) #[true, true, true, true, true, true, true, true, true, true, true, false, true, true, true, true, true, false, false, false, true, false] rfl rfl (any_of HT_.out (by kernel_rfl)) (fun _ _ _ h => h) (Or.inl ⟨by rfl, ?_⟩) ?_ ?_
  rotate_left
  · intro w'
    go_simp
    with_reducible rfl
  rotate_left
  · simp only [Act.put, List.setIfInBounds_toArray, List.set_cons_zero, List.set_cons_succ, i64_w, i32_w]
    rfl
  refine join_ (σ := Nat × Nat) 2 #[true, true, true, true, true, true, true, true, true, true, true, true, true, true, true, true, true, true, true, false, true, false] (fun s_ => [(51, .slice (some ⟨s_.1, 0, none⟩) 4 4), (57, .slice (some ⟨s_.2, 0, none⟩) 1 1), (58, .string (strOfNums [97 + dr (nx (nx (nx y))) 6]))]) (fun s_ w' => (fun V : World => V.cell? ⟨g, 0, none⟩ = some (.int .i64 (dr y 3)) ∧ V.cell? ⟨g, 1, none⟩ = some (.int .i64 (dr (nx y) 40)) ∧ V.cell? ⟨g, 2, none⟩ = some (.int .i64 (dr (nx (nx y)) 40)) ∧ V.cell? ⟨g, 3, none⟩ = some (.int .i64 (dr (nx (nx (nx y))) 6))) w' ∧ XW w w' w.heap.size g [dr y 3, dr (nx y) 40, dr (nx (nx y)) 40, dr (nx (nx (nx y))) 6] [1, 1 + dr y 3, dr (nx y) 40, dr (nx (nx y)) 40] (97 + dr (nx (nx (nx y))) 6) (some s_.1) (some s_.2)) ?_ ?_
  rotate_left
  · intro hCont
    refine two_ (i := 11) (j := 17) (Ni := some 51) (Nj := some 57) #[true, true, true, true, true, true, true, true, true, true, true, true, true, true, true, true, true, false, false, false, true, false] #[true, true, true, true, true, true, true, true, true, true, true, false, true, true, true, true, true, true, false, false, true, false] rfl rfl rfl rfl (two_of HT_.out (by kernel_rfl)) (by decide) (by decide) (fun K hK => ?_) (fun K hK => ?_)
    · skip
      refine allocS_ (n := 4) (ob := .cells #[.int .i64 (1), .int .i64 (1 + dr y 3), .int .i64 (dr (nx y) 40), .int .i64 (dr (nx (nx y)) 40)] 3) (by rfl) rfl (by go_simp) ?_
      rintro g1 V1 hg_ hV_
      have HXN := hid (HX.out.a11 hg_ hV_ rfl)
      clear HX hg_ hV_
      have HX := HXN
      clear HXN
      refine hK.out _ _ ⟨HX.out.s 0 _ rfl, HX.out.s 1 _ rfl, HX.out.s 2 _ rfl, HX.out.s 3 _ rfl⟩ (fun hHeld => ?_)
      clear hK K
      refine norm_ (a' := ?_) ?_ ?_
      rotate_left
      · show Act.put _ (some 51) _ = _
        simp only [Act.put, List.setIfInBounds_toArray, List.set_cons_zero, List.set_cons_succ, i64_w, i32_w]
        rfl
      refine one_ (i := 17) (N := some 57) #[true, true, true, true, true, true, true, true, true, true, true, true, true, true, true, true, true, true, false, false, true, false] rfl rfl (one_of HT_.out (by kernel_rfl)) (by decide) (fun K hK => ?_)
      refine allocS_ (n := 1) (ob := .cells #[.int .u8 (97 + dr (nx (nx (nx y))) 6)] 5) (by rfl) rfl (by go_simp) ?_
      rintro g2 V2 hg_ hV_
      have HXN := hid (HX.out.a17 hg_ hV_)
      clear HX hg_ hV_
      have HX := HXN
      clear HXN
      refine hK.out _ _ ⟨HX.out.s 0 _ rfl, HX.out.s 1 _ rfl, HX.out.s 2 _ rfl, HX.out.s 3 _ rfl⟩ (fun hHeld => ?_)
      clear hK K
      refine norm_ (a' := ?_) ?_ ?_
      rotate_left
      · show Act.put _ (some 57) _ = _
        simp only [Act.put, List.setIfInBounds_toArray, List.set_cons_zero, List.set_cons_succ, i64_w, i32_w]
        rfl
      refine one_ (i := 18) (N := some 58) #[true, true, true, true, true, true, true, true, true, true, true, true, true, true, true, true, true, true, true, false, true, false] rfl rfl (one_of HT_.out (by kernel_rfl)) (by decide) (fun K hK => ?_)
      have hcv := HX.out.conv
      refine value_ (v := .string (strOfNums [97 + dr (nx (nx (nx y))) 6])) (w1 := V2) (by rfl) rfl (by go_simp) ?_
      clear hcv
      refine hK.out _ _ ⟨HX.out.s 0 _ rfl, HX.out.s 1 _ rfl, HX.out.s 2 _ rfl, HX.out.s 3 _ rfl⟩ (fun hHeld => ?_)
      clear hK K
      refine norm_ (a' := ?_) ?_ ?_
      rotate_left
      · show Act.put _ (some 58) _ = _
        simp only [Act.put, List.setIfInBounds_toArray, List.set_cons_zero, List.set_cons_succ, i64_w, i32_w]
        rfl
      exact norm_ (by simp only [putAll, Act.put, List.setIfInBounds_toArray, List.set_cons_zero, List.set_cons_succ]) (hCont (g1, g2) _ ⟨hHeld, HX.out⟩)
    · skip
      refine allocS_ (n := 1) (ob := .cells #[.int .u8 (97 + dr (nx (nx (nx y))) 6)] 5) (by rfl) rfl (by go_simp) ?_
      rintro g4 V4 hg_ hV_
      have HXN := hid (HX.out.a17 hg_ hV_)
      clear HX hg_ hV_
      have HX := HXN
      clear HXN
      refine hK.out _ _ ⟨HX.out.s 0 _ rfl, HX.out.s 1 _ rfl, HX.out.s 2 _ rfl, HX.out.s 3 _ rfl⟩ (fun hHeld => ?_)
      clear hK K
      refine norm_ (a' := ?_) ?_ ?_
      rotate_left
      · show Act.put _ (some 57) _ = _
        simp only [Act.put, List.setIfInBounds_toArray, List.set_cons_zero, List.set_cons_succ, i64_w, i32_w]
        rfl
      refine two_ (i := 11) (j := 18) (Ni := some 51) (Nj := some 58) #[true, true, true, true, true, true, true, true, true, true, true, true, true, true, true, true, true, true, false, false, true, false] #[true, true, true, true, true, true, true, true, true, true, true, false, true, true, true, true, true, true, true, false, true, false] rfl rfl rfl rfl (two_of HT_.out (by kernel_rfl)) (by decide) (by decide) (fun K hK => ?_) (fun K hK => ?_)
      · skip
        refine allocS_ (n := 4) (ob := .cells #[.int .i64 (1), .int .i64 (1 + dr y 3), .int .i64 (dr (nx y) 40), .int .i64 (dr (nx (nx y)) 40)] 3) (by rfl) rfl (by go_simp) ?_
        rintro g5 V5 hg_ hV_
        have HXN := hid (HX.out.a11 hg_ hV_ rfl)
        clear HX hg_ hV_
        have HX := HXN
        clear HXN
        refine hK.out _ _ ⟨HX.out.s 0 _ rfl, HX.out.s 1 _ rfl, HX.out.s 2 _ rfl, HX.out.s 3 _ rfl⟩ (fun hHeld => ?_)
        clear hK K
        refine norm_ (a' := ?_) ?_ ?_
        rotate_left
        · show Act.put _ (some 51) _ = _
          simp only [Act.put, List.setIfInBounds_toArray, List.set_cons_zero, List.set_cons_succ, i64_w, i32_w]
          rfl
        refine one_ (i := 18) (N := some 58) #[true, true, true, true, true, true, true, true, true, true, true, true, true, true, true, true, true, true, true, false, true, false] rfl rfl (one_of HT_.out (by kernel_rfl)) (by decide) (fun K hK => ?_)
        have hcv := HX.out.conv
        refine value_ (v := .string (strOfNums [97 + dr (nx (nx (nx y))) 6])) (w1 := V5) (by rfl) rfl (by go_simp) ?_
        clear hcv
        refine hK.out _ _ ⟨HX.out.s 0 _ rfl, HX.out.s 1 _ rfl, HX.out.s 2 _ rfl, HX.out.s 3 _ rfl⟩ (fun hHeld => ?_)
        clear hK K
        refine norm_ (a' := ?_) ?_ ?_
        rotate_left
        · show Act.put _ (some 58) _ = _
          simp only [Act.put, List.setIfInBounds_toArray, List.set_cons_zero, List.set_cons_succ, i64_w, i32_w]
          rfl
        exact norm_ (by simp only [putAll, Act.put, List.setIfInBounds_toArray, List.set_cons_zero, List.set_cons_succ]) (hCont (g5, g4) _ ⟨hHeld, HX.out⟩)
      · skip
        have hcv := HX.out.conv
        refine value_ (v := .string (strOfNums [97 + dr (nx (nx (nx y))) 6])) (w1 := V4) (by rfl) rfl (by go_simp) ?_
        clear hcv
        refine hK.out _ _ ⟨HX.out.s 0 _ rfl, HX.out.s 1 _ rfl, HX.out.s 2 _ rfl, HX.out.s 3 _ rfl⟩ (fun hHeld => ?_)
        clear hK K
        refine norm_ (a' := ?_) ?_ ?_
        rotate_left
        · show Act.put _ (some 58) _ = _
          simp only [Act.put, List.setIfInBounds_toArray, List.set_cons_zero, List.set_cons_succ, i64_w, i32_w]
          rfl
        refine one_ (i := 11) (N := some 51) #[true, true, true, true, true, true, true, true, true, true, true, true, true, true, true, true, true, true, true, false, true, false] rfl rfl (one_of HT_.out (by kernel_rfl)) (by decide) (fun K hK => ?_)
        refine allocS_ (n := 4) (ob := .cells #[.int .i64 (1), .int .i64 (1 + dr y 3), .int .i64 (dr (nx y) 40), .int .i64 (dr (nx (nx y)) 40)] 3) (by rfl) rfl (by go_simp) ?_
        rintro g8 V8 hg_ hV_
        have HXN := hid (HX.out.a11 hg_ hV_ rfl)
        clear HX hg_ hV_
        have HX := HXN
        clear HXN
        refine hK.out _ _ ⟨HX.out.s 0 _ rfl, HX.out.s 1 _ rfl, HX.out.s 2 _ rfl, HX.out.s 3 _ rfl⟩ (fun hHeld => ?_)
        clear hK K
        refine norm_ (a' := ?_) ?_ ?_
        rotate_left
        · show Act.put _ (some 51) _ = _
          simp only [Act.put, List.setIfInBounds_toArray, List.set_cons_zero, List.set_cons_succ, i64_w, i32_w]
          rfl
        exact norm_ (by simp only [putAll, Act.put, List.setIfInBounds_toArray, List.set_cons_zero, List.set_cons_succ]) (hCont (g8, g4) _ ⟨hHeld, HX.out⟩)
  clear HX
  rintro ⟨g6, g7⟩ wj ⟨hHeld, hXX⟩
  have HX := hid hXX
  clear hXX
  refine norm_ (a' := ?_) ?_ ?_
  rotate_left
  · simp only [putAll, Act.put, List.setIfInBounds_toArray, List.set_cons_zero, List.set_cons_succ]
    rfl
  have HB2 := hid HX.out.bw
  obtain ⟨c0, c1, c2, cf⟩ := HB2.out.cells
  have cf0 := cf 0
  have cf1 := cf 1
  have cf2 := cf 2
  clear cf
  refine pure_ (i := 19) (N := some 59) (v := ?_) (a' := ?_) #[true, true, true, true, true, true, true, true, true, true, true, true, true, true, true, true, true, true, true, true, true, false] rfl rfl (any_of HT_.out (by kernel_rfl)) (fun _ _ _ h => h) (Or.inl ⟨by rfl, ?_⟩) ?_ ?_
  rotate_left
  · intro w'
    go_simp
    with_reducible rfl
  rotate_left
  · simp only [Act.put, List.setIfInBounds_toArray, List.set_cons_zero, List.set_cons_succ, i64_w, i32_w]
    rfl
  refine last_ (i := 21) (N := none) #[true, true, true, true, true, true, true, true, true, true, true, true, true, true, true, true, true, true, true, true, true, true] rfl rfl (one_of HT_.out (by kernel_rfl)) (by decide) (fun K hK => ?_)
  refine skip_ (w1 := ((wj.setCell ⟨w.heap.size, 0, none⟩ (.int .i64 23)).setCell ⟨w.heap.size, 1, none⟩ (.slice (some ⟨g6, 0, none⟩) 4 4)).setCell ⟨w.heap.size, 2, none⟩ (.string (strOfNums [97 + dr (nx (nx (nx y))) 6]))) (by rfl) rfl (by go_simp) ?_
  refine hK.out _ _ ?_
  clear hK K
  refine done_ (done_of HT_.out (by kernel_rfl)) ?_
  go_wp2_with fail
  have HB := HB2
  obtain ⟨p0, p1, p2⟩ := put3_cells (x := .int .i64 23) (y := .slice (some ⟨g6, 0, none⟩) 4 4) (z := .string (strOfNums [97 + dr (nx (nx (nx y))) 6])) HB.out.box
  unfold put3 at p0 p1 p2
  refine bodyPost_ret (v := .tuple #[.int .u64 (nx (nx (nx (nx y)))), .agg #[.int .i64 23, .slice (some ⟨g6, 0, none⟩) 4 4, .string (strOfNums [97 + dr (nx (nx (nx y))) 6])]]) (by simp [results, Tryd.results11, go_sem, p0, p1, p2]) rfl ?_
  exact re_ends (E := (23, _, (strOfNums [97 + dr (nx (nx (nx y))) 6]))) HB.out (R_made (xs := [1, 1 + dr y 3, dr (nx y) 40, dr (nx (nx y)) 40]) (HX.out.g g6 rfl).2 rfl (by simp) (HX.out.g g6 rfl).1)
/-- The document's entry (48.2). -/
theorem rentry_any (x : Int) (w : World) : Calls Tryd.prog 11 #[.int .u64 x] w (ReSays w (en x).1 (en x).2) := by
  have h := dr_in x 12 (by omega)
  have hc : dr x 12 = 0 ∨ dr x 12 = 1 ∨ dr x 12 = 2 ∨ dr x 12 = 3 ∨ dr x 12 = 4 ∨ dr x 12 = 5 ∨ dr x 12 = 6 ∨ dr x 12 = 7 ∨ dr x 12 = 8 ∨ dr x 12 = 9 ∨ dr x 12 = 10 ∨ dr x 12 = 11 := by omega
  rcases hc with h | h | h | h | h | h | h | h | h | h | h | h
  · exact re0 x w h
  · exact re1 x w h
  · exact re2 x w h
  · exact re3 x w h
  · exact re4 x w h
  · exact re5 x w h
  · exact re6 x w h
  · exact re7 x w h
  · exact re8 x w h
  · exact re9 x w h
  · exact re10 x w h
  · exact re11 x w h
end Go.Proofs.YtmgcapccgncmkaaDoor.Ld
