/- Relist: UIDs. -/
import Derived.Test.YtnceglkoolfncaaNg
import Derived.Shelf.SortM.Plain
import Derived.Shelf.SortM.SortNone
import Derived.Shelf.Slices.CompactI
set_option linter.unusedSimpArgs false
set_option linter.unusedVariables false
namespace Go.Proofs.Ytnceglkoolfncaa.Rl
open Go.RowKit Go.Pv Go.Shelf Go.Sort Go.Lib Go.Proofs.Ytnceglkoolfncaa.Po

def compactT_ren : Go.Shelf.Ren := ⟨fun | 20 => 117 | n => n, fun | 22 => 50 | 3 => 3 | 4 => 4 | 0 => 0 | n => n, fun | n => n⟩
theorem compactT : Go.Proofs.Lays2.n20 Try.prog compactT_ren := {
  mixed := by kernel_rfl,
  f20 := Try.func117.trans (congrArg some (by kernel_rfl)),
  t0 := Try.underlying0,
  a0 := Try.isAgg0,
  z0 := Try.sizeOf0,
  v0 := Try.zeroValue0,
  t3 := Try.underlying3,
  a3 := Try.isAgg3,
  z3 := Try.sizeOf3,
  v3 := Try.zeroValue3,
  t4 := Try.underlying4,
  a4 := Try.isAgg4,
  z4 := Try.sizeOf4,
  v4 := Try.zeroValue4,
  t22 := Try.underlying50,
  a22 := Try.isAgg50,
  z22 := Try.sizeOf50,
  v22 := Try.zeroValue50,
  i3 := by kernel_rfl }

def sortT_ren : Go.Shelf.Ren := ⟨fun | 5 => 116 | 8 => 157 | 7 => 156 | 19 => 177 | 20 => 178 | 10 => 168 | 11 => 169 | 12 => 170 | 13 => 171 | 14 => 172 | 15 => 173 | 16 => 174 | 17 => 175 | 18 => 176 | 30 => 191 | 31 => 192 | 32 => 193 | 33 => 194 | 34 => 195 | 35 => 164 | 40 => 201 | n => n, fun | 23 => 50 | 25 => 3 | 3 => 3 | 32 => 250 | 22 => 50 | 0 => 0 | 44 => 266 | 46 => 41 | 4 => 4 | 36 => 260 | 35 => 259 | 41 => 182 | 5 => 5 | 9 => 9 | 53 => 275 | 57 => 278 | 63 => 284 | 64 => 285 | n => n, fun | n => n⟩
theorem sortT : Go.Proofs.SlLaysM.n5 Try.prog sortT_ren := {
  mixed := by kernel_rfl,
  f5 := ⟨Try.f116.name, by decide, Try.func116.trans (congrArg some (by kernel_rfl))⟩,
  f7 := ⟨Try.f156.name, by decide, Try.func156.trans (congrArg some (by kernel_rfl))⟩,
  f8 := Try.func157.trans (congrArg some (by kernel_rfl)),
  f10 := ⟨Try.f168.name, by decide, Try.func168.trans (congrArg some (by kernel_rfl))⟩,
  f11 := ⟨Try.f169.name, by decide, Try.func169.trans (congrArg some (by kernel_rfl))⟩,
  f12 := ⟨Try.f170.name, by decide, Try.func170.trans (congrArg some (by kernel_rfl))⟩,
  f13 := ⟨Try.f171.name, by decide, Try.func171.trans (congrArg some (by kernel_rfl))⟩,
  f14 := ⟨Try.f172.name, by decide, Try.func172.trans (congrArg some (by kernel_rfl))⟩,
  f15 := ⟨Try.f173.name, by decide, Try.func173.trans (congrArg some (by kernel_rfl))⟩,
  f16 := ⟨Try.f174.name, by decide, Try.func174.trans (congrArg some (by kernel_rfl))⟩,
  f17 := ⟨Try.f175.name, by decide, Try.func175.trans (congrArg some (by kernel_rfl))⟩,
  f18 := ⟨Try.f176.name, by decide, Try.func176.trans (congrArg some (by kernel_rfl))⟩,
  f19 := Try.func177.trans (congrArg some (by kernel_rfl)),
  f20 := Try.func178.trans (congrArg some (by kernel_rfl)),
  f30 := ⟨Try.f191.name, by decide, Try.func191.trans (congrArg some (by kernel_rfl))⟩,
  f31 := Try.func192.trans (congrArg some (by kernel_rfl)),
  f32 := Try.func193.trans (congrArg some (by kernel_rfl)),
  f33 := ⟨Try.f194.name, by decide, Try.func194.trans (congrArg some (by kernel_rfl))⟩,
  f34 := ⟨Try.f195.name, by decide, Try.func195.trans (congrArg some (by kernel_rfl))⟩,
  f35 := ⟨Try.f164.name, by decide, Try.func164.trans (congrArg some (by kernel_rfl))⟩,
  f40 := ⟨Try.f201.name, by decide, Try.func201.trans (congrArg some (by kernel_rfl))⟩,
  t0 := Try.underlying0,
  a0 := Try.isAgg0,
  z0 := Try.sizeOf0,
  v0 := Try.zeroValue0,
  t3 := Try.underlying3,
  a3 := Try.isAgg3,
  z3 := Try.sizeOf3,
  v3 := Try.zeroValue3,
  t4 := Try.underlying4,
  a4 := Try.isAgg4,
  z4 := Try.sizeOf4,
  v4 := Try.zeroValue4,
  t5 := Try.underlying5,
  a5 := Try.isAgg5,
  z5 := Try.sizeOf5,
  v5 := Try.zeroValue5,
  t9 := Try.underlying9,
  a9 := Try.isAgg9,
  z9 := Try.sizeOf9,
  v9 := Try.zeroValue9,
  t22 := Try.underlying50,
  a22 := Try.isAgg50,
  z22 := Try.sizeOf50,
  v22 := Try.zeroValue50,
  t23 := Try.underlying50,
  a23 := Try.isAgg50,
  z23 := Try.sizeOf50,
  v23 := Try.zeroValue50,
  t25 := Try.underlying3,
  a25 := Try.isAgg3,
  z25 := Try.sizeOf3,
  v25 := Try.zeroValue3,
  t32 := Try.underlying250,
  a32 := Try.isAgg250,
  z32 := Try.sizeOf250,
  v32 := Try.zeroValue250,
  t35 := Try.underlying259,
  a35 := Try.isAgg259,
  z35 := Try.sizeOf259,
  v35 := Try.zeroValue259,
  t36 := Try.underlying260,
  a36 := Try.isAgg260,
  z36 := Try.sizeOf260,
  v36 := Try.zeroValue260,
  t41 := Try.underlying182,
  a41 := Try.isAgg182,
  z41 := Try.sizeOf182,
  v41 := Try.zeroValue182,
  t44 := Try.underlying266,
  a44 := Try.isAgg266,
  z44 := Try.sizeOf266,
  v44 := Try.zeroValue266,
  t46 := Try.underlying41,
  a46 := Try.isAgg41,
  z46 := Try.sizeOf41,
  v46 := Try.zeroValue41,
  t53 := Try.underlying275,
  a53 := Try.isAgg275,
  z53 := Try.sizeOf275,
  v53 := Try.zeroValue275,
  t57 := Try.underlying278,
  a57 := Try.isAgg278,
  z57 := Try.sizeOf278,
  v57 := Try.zeroValue278,
  t63 := Try.underlying284,
  a63 := Try.isAgg284,
  z63 := Try.sizeOf284,
  v63 := Try.zeroValue284,
  t64 := Try.underlying285,
  a64 := Try.isAgg285,
  z64 := Try.sizeOf285,
  v64 := Try.zeroValue285 }


theorem keeps_put {α : Type} [Inhabited α] (enc : α → Value) (w : World) (blk off : Nat) (d : Array α) : Keeps (fun k => k = blk) w (putRow enc w blk off d) := by
  refine ⟨rfl, rfl, rfl, ?_, fun k _ hk => ?_⟩
  · simp [putRow, mapBlock]
  · simp only [putRow, mapBlock, Array.getElem?_modify]
    rw [if_neg (fun e => hk e.symm)]
theorem keeps_grow (F : Nat → Prop) {a w : World} (h : Keeps F a w) (os : Array Obj) : Keeps F a (grow w os) :=
  ⟨h.os, h.tape, h.output, by have := h.size; simp [grow]; omega, fun k hk hn => by rw [heap_grow_old w os (Nat.lt_of_lt_of_le hk h.size)]; exact h.block k hk hn⟩
theorem keeps_ahead (F : Nat → Prop) {a w : World} (h : Keeps F a w) (n : Nat) : Keeps F a (Sort.ahead w n) := ⟨h.os, h.tape, h.output, h.size, h.block⟩
theorem keeps_ahead_left (F : Nat → Prop) {a w : World} {n : Nat} (h : Keeps F (Sort.ahead a n) w) : Keeps F a w := ⟨h.os, h.tape, h.output, h.size, h.block⟩

theorem sortI {w : World} {zs : List Int} (blk off cap : Nat) (hH : Holds (Value.int .i64) w blk off zs.toArray) (hblk : blk < w.heap.size) (hsz : zs.length ≤ 1000000) :
    Calls Try.prog 116 #[.slice (some ⟨blk, off, none⟩) zs.length cap] w fun e w' => e = .returned (.tuple #[]) ∧ Holds (Value.int .i64) w' blk off (zs.mergeSort fun x y => decide (x ≤ y)).toArray ∧ Keeps (fun k => k = blk) w w' := by
  refine (AnyM.slices_Sort_int sortT blk off cap zs w hH hblk (by omega)).mono ?_
  rintro e w' ⟨rfl, n, os, rfl⟩
  refine ⟨rfl, holds_grow _ _ _ _ _ _ (by simpa [putRow, mapBlock, Sort.ahead] using hblk) (holds_putRow _ _ _ _ _ _ (holds_ahead _ _ _ _ _ _ hH) (by simp)), keeps_grow _ (keeps_ahead_left _ (keeps_put _ (Sort.ahead w n) _ _ _)) _⟩
theorem sortI_none {w : World} (p : Option Addr) (cap : Nat) : Calls Try.prog 116 #[.slice p 0 cap] w fun e w' => e = .returned (.tuple #[]) ∧ w' = w := AnyM.slices_Sort_int_none sortT p cap w

theorem compact_le (zs : List Int) : (Lib.compact zs).length ≤ zs.length := by
  unfold Lib.compact compactUpTo
  rw [List.length_map]
  exact Nat.le_trans (List.length_filter_le _ _) (by simp)

theorem compactI {w : World} {zs : List Int} (blk off cap : Nat) (hH : Holds (Value.int .i64) w blk off zs.toArray) (hsz : zs.length ≤ 1000000) (hcap : zs.length ≤ cap) :
    Calls Try.prog 117 #[.slice (some ⟨blk, off, none⟩) zs.length cap] w fun e w' => e = .returned (.slice (some ⟨blk, off, none⟩) (Lib.compact zs).length cap) ∧ Holds (Value.int .i64) w' blk off (Lib.compact zs).toArray ∧ Keeps (fun k => k = blk) w w' := by
  refine (Any.slices_Compact_int compactT blk off cap zs w hH (by omega) hcap).mono ?_
  rintro e w' ⟨rfl, q, rfl⟩
  have hle := compact_le zs
  have h1 := holds_putRow (Value.int .i64) (Sort.ahead w q) blk off zs.toArray (Lib.compact zs ++ List.replicate (zs.length - (Lib.compact zs).length) 0).toArray (holds_ahead _ _ _ _ _ _ hH) (by simp; omega)
  refine ⟨rfl, fun j hj => ?_, keeps_ahead_left _ (keeps_put _ (Sort.ahead w q) _ _ _)⟩
  obtain ⟨h2, h3⟩ := h1 j (by simp at hj ⊢; omega)
  refine ⟨?_, h3⟩
  rw [h2]
  simp at hj
  congr 2
  have h5 : (Lib.compact zs ++ List.replicate (zs.length - (Lib.compact zs).length) 0)[j]? = some (Lib.compact zs)[j] := by rw [List.getElem?_append_left hj, List.getElem?_eq_getElem hj]
  simp [hj, h5]
theorem compactI_none {w : World} (p : Option Addr) (cap : Nat) : Calls Try.prog 117 #[.slice p 0 cap] w fun e w' => e = .returned (.slice p 0 cap) ∧ w' = w := Any.slices_Compact_int_empty compactT p cap w

/-- Whose the changes are. -/
def usL (L : List Ch) : List Int := Lib.compact ((L.map (·.2.1)).mergeSort fun x y => decide (x ≤ y))
theorem usL_nil : usL [] = [] := by simp [usL, Lib.compact, compactUpTo]
theorem usL_one (c : Ch) : usL [c] = [c.2.1] := by simp [usL, Lib.compact, compactUpTo, keeps]
theorem usL_two (c d : Ch) (h : d.2.1 = c.2.1) : usL [c, d] = [c.2.1] := by
  have : ([c, d].map (·.2.1)).mergeSort (fun x y => decide (x ≤ y)) = [c.2.1, c.2.1] := by
    simp only [List.map_cons, List.map_nil, h]
    exact List.mergeSort_of_pairwise (by simp)
  unfold usL
  rw [this]
  simp [Lib.compact, compactUpTo, keeps, List.range_succ]

def enc1 (n : Int) : List Value := [.int .i64 n]
theorem info3 : ∃ i, Try.prog.info? 3 = some i ∧ i.zero = some (.int .i64 0) ∧ i.size = 1 ∧ i.bytes = 8 :=
  info_parts (show (Try.prog.info? 3).map (fun i => (i.zero, i.size, i.bytes)) = some (some (.int .i64 0), 1, 8) by kernel_rfl)

theorem flat_ch (L : List Ch) (m j : Nat) (h : m < L.length) (hj : j < 4) : (L.flatMap encCh)[m * 4 + j]? = (encCh L[m])[j]? := by
  induction L generalizing m with
  | nil => simp at h
  | cons a r ih =>
    rw [List.flatMap_cons]
    have ha : (encCh a).length = 4 := rfl
    cases m with
    | zero =>
      rw [List.getElem?_append_left (by omega)]
      simp
    | succ m =>
      rw [List.getElem?_append_right (by omega), ha, show (m + 1) * 4 + j - 4 = m * 4 + j by omega]
      simpa using ih m (by simpa using h)
theorem chform {w : World} {v : Value} {L : List Ch} (h : SlOf w 104 4 encCh v L) : ∃ aa c, v = .slice aa L.length c ∧ ∀ m (hm : m < L.length), ∃ ab ao, aa = some ⟨ab, ao, none⟩ ∧ ab < w.heap.size ∧ w.cell? ⟨ab, ao + m * 4, none⟩ = some (.int .i64 L[m].1) ∧ w.cell? ⟨ab, ao + m * 4 + 1, none⟩ = some (.int .i64 L[m].2.1) ∧ w.cell? ⟨ab, ao + m * 4 + 2, none⟩ = some (.int .i64 L[m].2.2.1) ∧ w.cell? ⟨ab, ao + m * 4 + 3, none⟩ = some (.int .i64 L[m].2.2.2) := by
  rcases SlRow.form h with ⟨h1, h2⟩ | ⟨b, o, c, h1⟩
  · exact ⟨none, 0, by rw [h1, h2], fun m hm => by omega⟩
  · refine ⟨_, c, h1, fun m hm => ⟨b, o, rfl, SlRow.lt h (by rw [h1]; rfl), ?_⟩⟩
    have key : ∀ j, j < 4 → ∀ u, (encCh L[m])[j]? = some u → w.cell? ⟨b, o + m * 4 + j, none⟩ = some u := fun j hj u hu => by
      have := SlRow.cells h h1 (m * 4 + j) u ((flat_ch L m j hm hj).trans hu)
      rw [← Nat.add_assoc] at this
      exact this
    exact ⟨key 0 (by omega) _ rfl, key 1 (by omega) _ rfl, key 2 (by omega) _ rfl, key 3 (by omega) _ rfl⟩

/-- What is behind the loop's rounds. -/
structure Us (w : World) (L : List Ch) (i : Nat) (v : Value) (wr : World) : Prop where
  low : Below w.heap.size w wr
  sl : SlOf wr 3 1 enc1 v ((L.take i).map (·.2.1))
  new : ∀ g, v.ownBlock = some g → w.heap.size ≤ g

theorem enc1_one (l : List Int) : ∀ u ∈ l.flatMap enc1, u.oneCell' = true := by
  intro u hu
  obtain ⟨t, _, ht⟩ := List.mem_flatMap.1 hu
  simp [enc1] at ht
  subst ht; rfl
theorem flat_enc1 (l : List Int) : l.flatMap enc1 = l.map (Value.int .i64) := by
  induction l with
  | nil => rfl
  | cons a r ih => rw [List.flatMap_cons, ih]; rfl
theorem holds_of {w : World} {v : Value} {l : List Int} (h : SlOf w 3 1 enc1 v l) {b o c : Nat} (hv : v = .slice (some ⟨b, o, none⟩) l.length c) : Holds (Value.int .i64) w b o l.toArray ∧ l.length ≤ c := by
  rcases h.2 with ⟨h1, _⟩ | ⟨g, o1, c1, cur, h1, hb, hc, _, _, _⟩
  · rw [h1] at hv; cases hv
  · refine ⟨fun j hj => ?_, ?_⟩
    · refine ⟨?_, ?_⟩
      · have hj' : j < l.length := by simpa using hj
        have := SlRow.cells h hv j (.int .i64 l[j]) (by rw [flat_enc1]; simp [hj'])
        rw [this]
        simp [hj']
      · rw [h1] at hv
        simp only [Value.slice.injEq, Option.some.injEq, Addr.mk.injEq, and_true] at hv
        obtain ⟨⟨rfl, rfl⟩, _⟩ := hv
        simp [World.frozen?, hb]
    · rw [h1] at hv
      simp only [Value.slice.injEq] at hv
      omega

set_option maxRecDepth 10000 in
set_option maxHeartbeats 2000000 in
theorem uids_any {w : World} {v : Value} {L : List Ch} (h : SlOf w 104 4 encCh v L) (hl : L.length ≤ 1000000) :
    Calls Try.prog 57 #[v] w fun e w' => (∃ A c, e = .returned (.slice A (usL L).length c) ∧ ∀ i (hi : i < (usL L).length), ∃ b o, A = some ⟨b, o, none⟩ ∧ w'.cell? ⟨b, o + i, none⟩ = some (.int .i64 (usL L)[i])) ∧ Below w.heap.size w w' := by
  obtain ⟨aa, ac, rfl, hcell⟩ := chform h
  have HC := hid hcell
  have H0 := hid (show Us w L 0 (.slice none 0 0) w from ⟨Below.refl _ _, SlRow.nil _ _ _, by simp [Value.ownBlock]⟩)
  obtain ⟨i0, hi, hz0, hz1, hz2⟩ := info3
  have HI := hid (And.intro hi (And.intro hz0 (And.intro hz1 hz2)))
  clear h hcell hi hz0 hz1 hz2
  go_enter Try.func57, Try.ntmps57
  go_wp2
  go_loopg [3, 8] L.length (fun g s3 s8 wr => ∃ i : Nat, g = L.length - i ∧ i ≤ L.length ∧ s8 = .int .i64 i ∧ ∃ A n c, s3 = .slice A n c ∧ Hid (Us w L i (.slice A n c) wr))
  case atStart => exact ⟨0, by omega, by omega, rfl, _, _, _, rfl, H0⟩
  case round =>
    clear H0
    obtain ⟨i, rfl, hil, rfl, A, n, c, rfl, HU⟩ := hrel
    by_cases hlt : i < L.length
    · obtain ⟨ab, ao, haa, hab, hc0, hc1, hc2, hc3⟩ := HC.out i hlt
      subst haa
      have hlow := HU.out.low
      have d0 := (hlow.cell (p := ⟨ab, ao + i * 4, none⟩) hab).trans hc0
      have d1 := (hlow.cell (p := ⟨ab, ao + i * 4 + 1, none⟩) hab).trans hc1
      have d2 := (hlow.cell (p := ⟨ab, ao + i * 4 + 2, none⟩) hab).trans hc2
      have d3 := (hlow.cell (p := ⟨ab, ao + i * 4 + 3, none⟩) hab).trans hc3
      obtain ⟨⟨k, u, b, z⟩, hx⟩ : ∃ x, x = L[i] := ⟨_, rfl⟩
      rw [← hx] at d0 d1 d2 d3
      have HX := hid hx
      obtain ⟨W1, hW1⟩ : ∃ W1, W1 = wr.alloc (.cells #[.int .i64 k, .int .i64 u, .int .i64 b, .int .i64 z] 104) := ⟨_, rfl⟩
      obtain ⟨W2, hW2⟩ : ∃ W2, W2 = W1.alloc (.cells #[.int .i64 u] 3) := ⟨_, rfl⟩
      have k2 : Below wr.heap.size wr W2 := by rw [hW2, hW1]; exact ((Below.refl _ wr).alloc (Nat.le_refl _) _).alloc (by simp) _
      have bx : W2.heap[W1.heap.size]? = some (.cells #[.int .i64 u] 3 (0, 0)) := by rw [hW2]; exact heap_at _ _ _ rfl
      have z1 : W1.heap.size = wr.heap.size + 1 := by rw [hW1]; simp
      have s2 : SlOf W2 3 1 enc1 (.slice A n c) ((L.take i).map (·.2.1)) := SlRow.kept HU.out.sl (Keeps.of_below (F := fun _ => False) k2) (by simp)
      have hlen : ((L.take i).map (·.2.1)).length ≤ 1000000 := by simp; omega
      obtain ⟨v', w3, hr, hs3, hk3, hloc, -, -⟩ := run_append_sl (P := Try.prog) W2 50 50 3 i0 _ 1 8 Try.underlying50 HI.out.1 HI.out.2.1 HI.out.2.2.1 HI.out.2.2.2 rfl _ _ _ s2
        (.slice (some ⟨W1.heap.size, 0, none⟩) 1 1) 1 [.int .i64 u]
        (.inr ⟨_, _, rfl, World.news_of_block (cs := #[.int .i64 u]) (t := 3) (fr := (0, 0)) bx⟩) rfl (by simp [Value.oneCell']) (by unfold maxLen; omega) (by omega)
      have hpost : Us w L (i + 1) v' w3 := by
        have hz3 := hk3.size
        refine ⟨?_, ?_, ?_⟩
        · have h1 : Below w.heap.size w W2 := hlow.trans (k2.mono hlow.size)
          exact h1.trans (hk3.below (B := w.heap.size) (by have := h1.size; omega) (fun j hj => HU.out.new j hj))
        · have e : (L.take (i + 1)).map (·.2.1) = (L.take i).map (·.2.1) ++ [u] := by
            rw [List.take_add_one, List.getElem?_eq_getElem hlt, ← hx]; simp
          unfold SlOf
          rw [e]
          simpa [List.flatMap_append, enc1] using hs3
        · intro g hg
          rcases hloc with h1 | h1
          · exact HU.out.new g (h1 ▸ hg)
          · rw [h1] at hg
            simp only [Option.some.injEq] at hg
            have := hlow.size
            have := k2.size
            omega
      obtain ⟨va', vn', vc', hv'⟩ : ∃ a n c, v' = .slice a n c := by
        rcases SlRow.form hs3 with ⟨h1, _⟩ | ⟨g, o, c, h1⟩
        · exact ⟨_, _, _, h1⟩
        · exact ⟨_, _, _, h1⟩
      subst hv'
      have HP := hid hpost
      rw [z1, hW2, hW1] at hr
      have HR := hid hr
      clear hpost hr hs3 hk3 hloc s2 bx k2 hW1 hW2 hx hc0 hc1 hc2 hc3 hlow hlen z1
      go_wp2_with (at_builtin
                   refine wl_append rfl _ _ _ rfl ⟨_, _, HR.out, ?_⟩)
      go_roundg (L.length - (i + 1))
      case measure => omega
      case rel => exact ⟨i + 1, rfl, by omega, by go_num, _, _, _, rfl, HP⟩
    · have hie : i = L.length := by omega
      have hnl : ¬ ((i : Int) < (L.length : Int)) := by omega
      have hs := HU.out.sl
      rw [hie, List.take_length] at hs
      have hlow := HU.out.low
      have hnew := HU.out.new
      obtain ⟨us, hus⟩ : ∃ us, us = L.map (·.2.1) := ⟨_, rfl⟩
      have husl : us.length = L.length := by rw [hus]; simp
      rw [← hus] at hs
      have hfin : usL L = Lib.compact (us.mergeSort fun x y => decide (x ≤ y)) := by rw [hus]; rfl
      cases hue : us with
      | nil =>
        rw [hue] at hs hfin
        obtain ⟨rfl, hn⟩ : n = 0 ∧ True := by
          rcases SlRow.form hs with ⟨h1, _⟩ | ⟨g, o, c, h1⟩
          · simp only [Value.slice.injEq] at h1; exact ⟨h1.2.1, trivial⟩
          · simp only [Value.slice.injEq, List.length_nil] at h1; exact ⟨h1.2.1, trivial⟩
        have hf0 : usL L = [] := by rw [hfin]; simp [Lib.compact, compactUpTo]
        have H1 := hid (sortI_none (w := wr) A c)
        have H2 := hid (compactI_none (w := wr) A c)
        have HF := hid hf0
        have HL := hid hlow
        clear hs hnew hfin hf0 husl hus hie hlow hue
        go_wp2_with (first
          | (go_at_call 116; go_must (with_reducible refine H1.out.mono ?_); rintro e w4 ⟨rfl, rfl⟩)
          | (go_at_call 117; go_must (with_reducible refine H2.out.mono ?_); rintro e w4 ⟨rfl, rfl⟩))
        go_ret
        refine ⟨⟨A, c, by rw [HF.out]; rfl, fun i hi => ?_⟩, HL.out⟩
        rw [HF.out] at hi
        simp at hi
      | cons u0 ur =>
        obtain ⟨b, o, c', hv⟩ : ∃ b o c', (Value.slice A n c) = .slice (some ⟨b, o, none⟩) us.length c' := by
          rcases SlRow.form hs with ⟨_, h1⟩ | ⟨g, o, c, h1⟩
          · rw [hue] at h1; simp at h1
          · exact ⟨_, _, _, h1⟩
        simp only [Value.slice.injEq] at hv
        obtain ⟨rfl, rfl, rfl⟩ := hv
        obtain ⟨hH, hcap⟩ := holds_of hs rfl
        have hblk : b < wr.heap.size := SlRow.lt hs rfl
        have hbw : w.heap.size ≤ b := hnew b rfl
        have h1 := sortI b o c hH hblk (by omega)
        have hss : (us.mergeSort fun x y => decide (x ≤ y)).length = us.length := by simp
        obtain ⟨ss, hsse⟩ : ∃ ss, ss = us.mergeSort fun x y => decide (x ≤ y) := ⟨_, rfl⟩
        rw [← hsse] at h1 hss hfin
        have H1 := hid h1
        have H2 := hid (fun w' (h : Holds (Value.int .i64) w' b o ss.toArray) => compactI (w := w') b o c h (by omega) (by omega))
        rw [hss] at H2
        have HF := hid hfin
        have HL := hid (And.intro hlow hbw)
        clear hs hnew hfin husl hus hie hlow hue h1 hss hsse hcap hblk hbw hH
        go_wp2_with (first
          | (go_at_call 116; go_must (with_reducible refine H1.out.mono ?_); rintro e w4 ⟨rfl, h4, k4⟩; have H4 := hid h4; have K4 := hid k4; clear h4 k4)
          | (go_at_call 117; go_must (with_reducible refine (H2.out _ H4.out).mono ?_); rintro e w5 ⟨rfl, h5, k5⟩; have H5 := hid h5; have K5 := hid k5; clear h5 k5))
        go_ret
        refine ⟨⟨_, c, by rw [HF.out]; rfl, fun i hi => ⟨b, o, rfl, ?_⟩⟩, ?_⟩
        · rw [HF.out] at hi
          rw [(H5.out i (by simpa using hi)).1]
          simp [HF.out, hi]
        · have k := K4.out.trans K5.out (fun j hj => .inl hj)
          exact HL.out.1.trans (k.below HL.out.1.size (fun j hj => hj ▸ HL.out.2))
end Go.Proofs.Ytnceglkoolfncaa.Rl
