/- Use: the keys of the book, sorted. -/
import Derived.Test.YtnceglkoolfncaaCa
set_option linter.unusedSimpArgs false
set_option linter.unusedVariables false
namespace Go.Proofs
open Go.Shelf
def Try.keySort_ren : Go.Shelf.Ren := ⟨fun | 6 => 188 | 15 => 157 | 14 => 200 | 28 => 177 | 29 => 178 | 20 => 203 | 21 => 204 | 22 => 205 | 23 => 206 | 24 => 207 | 25 => 208 | 26 => 209 | 27 => 210 | 46 => 211 | 47 => 192 | 48 => 193 | 49 => 212 | 50 => 213 | 57 => 214 | n => n, fun | 22 => 226 | 24 => 223 | 25 => 256 | 3 => 3 | 39 => 250 | 0 => 0 | 53 => 266 | 55 => 41 | 4 => 4 | 46 => 260 | 45 => 259 | 50 => 182 | 5 => 5 | 9 => 9 | 66 => 275 | 70 => 278 | 76 => 284 | 77 => 285 | n => n, fun | n => n⟩
theorem Try.keySort : Go.Proofs.SlLaysF0.n6 Try.prog Try.keySort_ren := {
  mixed := by kernel_rfl,
  f6 := ⟨Try.f188.name, by decide, Try.func188.trans (congrArg some (by kernel_rfl))⟩,
  f14 := ⟨Try.f200.name, by decide, Try.func200.trans (congrArg some (by kernel_rfl))⟩,
  f15 := Try.func157.trans (congrArg some (by kernel_rfl)),
  f20 := ⟨Try.f203.name, by decide, Try.func203.trans (congrArg some (by kernel_rfl))⟩,
  f21 := ⟨Try.f204.name, by decide, Try.func204.trans (congrArg some (by kernel_rfl))⟩,
  f22 := ⟨Try.f205.name, by decide, Try.func205.trans (congrArg some (by kernel_rfl))⟩,
  f23 := ⟨Try.f206.name, by decide, Try.func206.trans (congrArg some (by kernel_rfl))⟩,
  f24 := ⟨Try.f207.name, by decide, Try.func207.trans (congrArg some (by kernel_rfl))⟩,
  f25 := ⟨Try.f208.name, by decide, Try.func208.trans (congrArg some (by kernel_rfl))⟩,
  f26 := ⟨Try.f209.name, by decide, Try.func209.trans (congrArg some (by kernel_rfl))⟩,
  f27 := ⟨Try.f210.name, by decide, Try.func210.trans (congrArg some (by kernel_rfl))⟩,
  f28 := Try.func177.trans (congrArg some (by kernel_rfl)),
  f29 := Try.func178.trans (congrArg some (by kernel_rfl)),
  f46 := ⟨Try.f211.name, by decide, Try.func211.trans (congrArg some (by kernel_rfl))⟩,
  f47 := Try.func192.trans (congrArg some (by kernel_rfl)),
  f48 := Try.func193.trans (congrArg some (by kernel_rfl)),
  f49 := ⟨Try.f212.name, by decide, Try.func212.trans (congrArg some (by kernel_rfl))⟩,
  f50 := ⟨Try.f213.name, by decide, Try.func213.trans (congrArg some (by kernel_rfl))⟩,
  f57 := ⟨Try.f214.name, by decide, Try.func214.trans (congrArg some (by kernel_rfl))⟩,
  t0 := Try.underlying0,
  a0 := Try.isAgg0,
  z0 := Try.sizeOf0,
  v0 := Try.zeroValue0,
  t3 := Try.underlying3,
  a3 := Try.isAgg3,
  z3 := Try.sizeOf3,
  v3 := Try.zeroValue3,
  t4 := Try.underlying4,
  a4 := Try.isAgg4,
  z4 := Try.sizeOf4,
  v4 := Try.zeroValue4,
  t5 := Try.underlying5,
  a5 := Try.isAgg5,
  z5 := Try.sizeOf5,
  v5 := Try.zeroValue5,
  t9 := Try.underlying9,
  a9 := Try.isAgg9,
  z9 := Try.sizeOf9,
  v9 := Try.zeroValue9,
  t22 := Try.underlying226,
  a22 := Try.isAgg226,
  z22 := Try.sizeOf226,
  v22 := Try.zeroValue226,
  t25 := Try.underlying256,
  a25 := Try.isAgg256,
  z25 := Try.sizeOf256,
  v25 := Try.zeroValue256,
  t39 := Try.underlying250,
  a39 := Try.isAgg250,
  z39 := Try.sizeOf250,
  v39 := Try.zeroValue250,
  t45 := Try.underlying259,
  a45 := Try.isAgg259,
  z45 := Try.sizeOf259,
  v45 := Try.zeroValue259,
  t46 := Try.underlying260,
  a46 := Try.isAgg260,
  z46 := Try.sizeOf260,
  v46 := Try.zeroValue260,
  t50 := Try.underlying182,
  a50 := Try.isAgg182,
  z50 := Try.sizeOf182,
  v50 := Try.zeroValue182,
  t53 := Try.underlying266,
  a53 := Try.isAgg266,
  z53 := Try.sizeOf266,
  v53 := Try.zeroValue266,
  t55 := Try.underlying41,
  a55 := Try.isAgg41,
  z55 := Try.sizeOf41,
  v55 := Try.zeroValue41,
  t66 := Try.underlying275,
  a66 := Try.isAgg275,
  z66 := Try.sizeOf275,
  v66 := Try.zeroValue275,
  t70 := Try.underlying278,
  a70 := Try.isAgg278,
  z70 := Try.sizeOf278,
  v70 := Try.zeroValue278,
  t76 := Try.underlying284,
  a76 := Try.isAgg284,
  z76 := Try.sizeOf284,
  v76 := Try.zeroValue284,
  t77 := Try.underlying285,
  a77 := Try.isAgg285,
  z77 := Try.sizeOf285,
  v77 := Try.zeroValue285 }

end Go.Proofs
namespace Go.Proofs.Ytnceglkoolfncaa.Us
open Go Go.RowKit Go.Pv Go.Shelf Go.Sort Go.Lib Go.Proofs.Ytnceglkoolfncaa.Po Go.Proofs.Ytnceglkoolfncaa.Pr
attribute [local go_sem] Oper.semAt_some

set_option maxRecDepth 10000 in
theorem key1_any (x y : Int × Int) (W : World) : Calls Try.prog 162 #[kp x, kp y] W fun e w' => e = .returned (.int .i64 (cP x y)) ∧ ∃ q os', w' = grow (W.drewN q) os' := by
  obtain ⟨a, b⟩ := x
  obtain ⟨c, d⟩ := y
  unfold kp
  have HC : Hid (∀ V : World, V.heap = ((W.alloc (.cells #[.int .i64 a, .int .i64 b] 223)).alloc (.cells #[.int .i64 c, .int .i64 d] 223)).heap → Calls Try.prog 123 #[.slice (some ⟨W.heap.size, 0, none⟩) 2 2, .slice (some ⟨W.heap.size + 1, 0, none⟩) 2 2] V fun e w' => e = .returned (.int .i64 (cP (a, b) (c, d))) ∧ w' = V) := hid fun V hV => by
    have h1 : V.heap[W.heap.size]? = some (.cells #[.int .i64 a, .int .i64 b] 223) := by
      rw [hV, Below.heap_alloc _ _ _ (by simp)]; exact heap_alloc_new W _
    have h2 : V.heap[W.heap.size + 1]? = some (.cells #[.int .i64 c, .int .i64 d] 223) := by
      rw [hV]; simpa using heap_alloc_new (W.alloc (.cells #[.int .i64 a, .int .i64 b] 223)) (.cells #[.int .i64 c, .int .i64 d] 223)
    exact cmp123_any (by rw [cell_of_row V _ 0 _ _ _ h1]; rfl) (by rw [cell_of_row V _ 1 _ _ _ h1]; rfl) (by rw [cell_of_row V _ 0 _ _ _ h2]; rfl) (by rw [cell_of_row V _ 1 _ _ _ h2]; rfl)
  go_enter Try.func162, Try.ntmps162
  go_wp2_with fail
  go_region_with (go_at_call 123; refine (HC.out _ (by rfl)).mono ?_; rintro e w1 ⟨rfl, rfl⟩)
  all_goals go_wp2
  go_ret
  exact ⟨rfl, 1, _, by rw [alloc_eq_grow, alloc_eq_grow, grow_grow, drew_grow]; rfl⟩
theorem sortK {w : World} {zs : List (Int × Int)} (blk off cap : Nat) (hH : HoldsK encP 2 w blk off zs.toArray) (hblk : blk < w.heap.size) (hsz : zs.length ≤ 1000000) :
    Calls Try.prog 188 #[.slice (some ⟨blk, off, none⟩) zs.length cap, .func (.func 162) #[] #[]] w fun e w' => e = .returned (.tuple #[]) ∧ HoldsK encP 2 w' blk off (zs.mergeSort leP).toArray ∧ Keeps (fun k => k = blk) w w' := by
  have eg : ∀ args w, (callFunc 162 args).run Try.prog w = .ok (.enter 162 args) w := enters_of Try.func162 (by kernel_rfl) rfl
  have h := AnyQ.slices_SortFunc_total Try.keySort 2 Try.isAgg223 Try.sizeOf223 encP (fun _ => rfl) (fun x v hv => by simp [encP] at hv; rcases hv with rfl | rfl <;> rfl) cP swoP 162 #[] blk off cap zs.toArray w eg (fun m os dk hs x y => key1_any x y _) hH hblk (by simp; omega) totP
  refine (show Calls Try.prog 188 _ _ _ from h).mono ?_
  rintro e w' ⟨rfl, n, os, rfl⟩
  have hm : (zs.toArray.toList.mergeSort fun x y => !(ltOf cP) y x) = zs.mergeSort leP := congrArg (fun f => zs.mergeSort f) (funext fun x => funext fun y => nltP x y)
  rw [hm]
  refine ⟨rfl, holdsK_grow _ _ _ _ _ _ _ (by simpa [putRowK, putRow, mapBlock, Sort.ahead] using hblk) (holdsK_putRowK _ _ _ _ _ _ _ (holdsK_ahead _ _ _ _ _ _ _ hH) (by simp)), keepsGrow _ (keepsAheadLeft _ (keepsPut _ (Sort.ahead w n) _ _ _)) _⟩
theorem sortK_none {w : World} (p : Option Addr) (cap : Nat) (fv : Value) : Calls Try.prog 188 #[.slice p 0 cap, fv] w fun e w' => e = .returned (.tuple #[]) ∧ w' = w := AnyF.slices_SortFunc_none Try.keySort p cap fv w
/-- What ownsRow says, as SlOf does. -/
theorem slOf_own {w : World} {base : Nat} {v : Value} {l : List (Int × Int)} (h : w.ownsRow base 223 2 v l.length (l.flatMap encP)) : SlOf w 223 2 encP v l := by
  obtain ⟨h1, h2 | ⟨g, cap, cur, h2, h3, h4, h5, h6, h7, h8⟩⟩ := h
  · exact ⟨h1, .inl h2⟩
  · exact ⟨h1, .inr ⟨g, 0, cap, cur, h2, h4, h5, h6, by omega, by simpa using h8⟩⟩
theorem holdsK_of {w : World} {e : TypeId} {v : Value} {l : List (Int × Int)} (h : SlOf w e 2 encP v l) {b o c : Nat} (hv : v = .slice (some ⟨b, o, none⟩) l.length c) : HoldsK encP 2 w b o l.toArray := by
  intro j hj
  have hj' : j < l.length * 2 := by simpa using hj
  refine ⟨?_, ?_⟩
  · have := SlRow.cells h hv j _ (flatP l j hj')
    rw [this, get_flatK _ _ _ _ (by simpa using hj')]
    simp
  · rcases h.2 with ⟨h1, _⟩ | ⟨g, o1, c1, cur, h1, hb, hc, _, _, _⟩
    · rw [h1] at hv; cases hv
    · rw [h1] at hv
      simp only [Value.slice.injEq, Option.some.injEq, Addr.mk.injEq, and_true] at hv
      obtain ⟨⟨rfl, rfl⟩, _, rfl⟩ := hv
      simp [World.frozen?, hb]

set_option maxRecDepth 10000 in
set_option maxHeartbeats 1000000 in
theorem sortedF {n : Nat} (hn : 4 ≤ n) (g : Nat) (lb : Array Value) (eg : ∀ args w, (callFunc g args).run Try.prog w = .ok (.enter g args) w)
    (S : List (Int × Int) → Prop) (N : Nat) (hN : N ≤ 1000000) (hS : ∀ ss, S ss → ss.length ≤ 1000000) (w : World) (hseq : SeqGives Fence.wide (n - 1 - 1 - 1) Try.prog g lb kp S N w) :
    CallsIn Fence.wide n Try.prog 160 #[.func (.func g) #[] lb, .func (.func 162) #[] #[]] w fun e w' => ∃ (A : Option Addr) (c : Nat) (ss : List (Int × Int)), e = .returned (.slice A ss.length c) ∧ S ss ∧ DueAt w' A (ss.mergeSort leP) ∧ (∀ a, A = some a → w.heap.size ≤ a.block) ∧ Below w.heap.size w w' := by
  have h1 : 1 ≤ n := by omega
  have hfC : Fence.wide.fn 187 := trivial
  have hfS : Fence.wide.fn 188 := trivial
  refine callsIn_of_wp Try.func160 rfl trivial ?_ rfl
  simp only [Try.ntmps160, List.size_toArray, List.length_cons, List.length_nil, Nat.reduceAdd, Nat.reduceSub, Array.replicate_succ, Array.replicate_zero, List.push_toArray, List.append_toArray, List.nil_append, List.cons_append]
  gi_wp2_with (gi_at_call 187; refine (collect (n := n - 1) (by omega) g lb eg S N hN _ hseq).mono ?_; rintro e W ⟨v, ss, rfl, hSs, hrow, hb⟩)
  have hlen := hS ss hSs
  have hsl := slOf_own hrow
  rcases hrow.2 with ⟨rfl, hz⟩ | ⟨gb, cap, cur, rfl, hbase, hgb, r1, r2, r3, r4⟩
  · have hss : ss = [] := List.eq_nil_of_length_eq_zero hz
    subst hss
    have cS : CallsIn Fence.wide (n - 1) Try.prog 188 #[.slice none 0 0, .func (.func 162) #[] #[]] W fun e w' => e = .returned (.tuple #[]) ∧ w' = W := callsIn_wide.2 (sortK_none none 0 _)
    gi_wp2_with (gi_at_call 188; refine cS.mono ?_; rintro e w' ⟨rfl, rfl⟩)
    go_ret
    exact ⟨none, 0, [], rfl, hSs, (fun i hi => by simp at hi), (fun a e => by cases e), hb⟩
  · have hgl : gb < W.heap.size := (Array.getElem?_eq_some_iff.1 hgb).1
    have cS : CallsIn Fence.wide (n - 1) Try.prog 188 _ W _ := callsIn_wide.2 (sortK gb 0 cap (holdsK_of hsl rfl) hgl hlen)
    gi_wp2_with (gi_at_call 188; refine cS.mono ?_; rintro e w' ⟨rfl, h4, k4⟩)
    go_ret
    refine ⟨some ⟨gb, 0, none⟩, cap, ss, rfl, hSs, ?_, (fun a e => by cases e; exact hbase), hb.trans (k4.below hb.size (fun i hi => by rw [hi]; exact hbase))⟩
    intro i hi
    have q0 := (h4.cell (i := i) (c := 0) (by simpa using hi) (by omega)).1
    have q1 := (h4.cell (i := i) (c := 1) (by simpa using hi) (by omega)).1
    have e : (ss.mergeSort leP).toArray[i]! = (ss.mergeSort leP)[i] := by rw [getElem!_pos _ i (by simpa using hi)]; simp
    rw [e] at q0 q1
    exact ⟨gb, 0, rfl, Nat.lt_of_lt_of_le hgl k4.size, q0, q1⟩

set_option maxRecDepth 10000 in
set_option maxHeartbeats 1000000 in
/-- The keys, sorted. -/
theorem keys_any {w : World} {p mb : Nat} {al : List ((Int × Int) × Value)} (hc : w.cell? ⟨p, 0, none⟩ = some (.map (some mb))) (hm : IsMap w mb kp al) (hl : al.length ≤ 1000000) :
    Calls Try.prog 129 #[.pointer (some ⟨p, 0, none⟩)] w fun e w' => ∃ (A : Option Addr) (c : Nat) (ks : List (Int × Int)), e = .returned (.slice A ks.length c) ∧ ks.Perm (al.map (·.1)) ∧ DueAt w' A ks ∧ (∀ a, A = some a → w.heap.size ≤ a.block) ∧ Below w.heap.size w w' := by
  refine (callsIn_wide (n := 6)).1 ?_
  have eg : ∀ args w, (callFunc 189 args).run Try.prog w = .ok (.enter 189 args) w := enters_of Try.func189 (by kernel_rfl) rfl
  have hseq : SeqGives Fence.wide 2 Try.prog 189 #[.pointer (some ⟨w.heap.size, 0, none⟩)] kp (fun ss => ss.Perm (al.map (·.1))) al.length (w.alloc (.cells #[.map (some mb)] 217)) :=
    keysGives (by omega) w.heap.size mb al _ (by simp) (by simp) (hm.kept ((Keeps.refl (fun _ => False) w).alloc _) (by simp))
  have cS := sortedF (n := 5) (by omega) 189 #[.pointer (some ⟨w.heap.size, 0, none⟩)] eg (fun ss => ss.Perm (al.map (·.1))) al.length hl (fun ss h => by have := h.length_eq; rw [List.length_map] at this; omega) _ hseq
  have cK : CallsIn Fence.wide 5 Try.prog 161 #[.map (some mb)] w fun e w' => e = .returned (.func (.func 189) #[] #[.pointer (some ⟨w.heap.size, 0, none⟩)]) ∧ w' = w.alloc (.cells #[.map (some mb)] 217) := by
    refine callsIn_wide.2 ?_
    go_enter Try.func161, Try.ntmps161
    go_wp2
    go_ret
    exact ⟨rfl, rfl⟩
  have hfK : Fence.wide.fn 161 := trivial
  have hfS : Fence.wide.fn 160 := trivial
  refine callsIn_of_wp Try.func129 rfl trivial ?_ rfl
  simp only [Try.ntmps129, List.size_toArray, List.length_cons, List.length_nil, Nat.reduceAdd, Nat.reduceSub, Array.replicate_succ, Array.replicate_zero, List.push_toArray, List.append_toArray, List.nil_append, List.cons_append]
  gi_wp2_with (first
    | (gi_at_call 161; refine cK.mono ?_; rintro e w' ⟨rfl, rfl⟩)
    | (gi_at_call 160; refine cS.mono ?_; rintro e w' ⟨A, c, ss, rfl, hS, hd, hA, hb⟩))
  go_ret
  refine ⟨A, c, ss.mergeSort leP, by rw [List.length_mergeSort]; rfl, (List.mergeSort_perm _ _).trans hS, hd, (fun a e => by have := hA a e; simp at this; omega), ((Below.refl _ w).alloc (Nat.le_refl _) _).trans (hb.mono (by simp))⟩
end Go.Proofs.Ytnceglkoolfncaa.Us
