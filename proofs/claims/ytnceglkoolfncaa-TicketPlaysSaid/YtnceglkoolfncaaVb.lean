/- Tickets: the pods that have some, sorted; how many tickets there are. -/
import Derived.Test.YtnceglkoolfncaaVa
import Derived.Shelf.SlIterI.Nil
import Derived.Shelf.SortM.Plain
import Derived.Shelf.SortM.SortNone
import Derived.OwnWalkIn
import Derived.TacticsInMore
import Derived.RangeFuncBound
import Derived.Deep.LoopGhost
set_option linter.unusedSimpArgs false
set_option linter.unusedVariables false
namespace Go.Proofs.Ytnceglkoolfncaa.Tp
open Go.RowKit Go.Shelf Go.Pv Go.Maps Go.Sort
attribute [local go_sem] Oper.semAt_some

def keysT_ren : Go.Shelf.Ren := ⟨fun | 7 => 109 | 10 => 150 | n => n, fun | 23 => 164 | 26 => 3 | 3 => 26 | 28 => 192 | 0 => 0 | 27 => 191 | 33 => 96 | 4 => 4 | n => n, fun | n => n⟩
theorem keysT : Go.Proofs.SlLaysZI.n7 Try.prog keysT_ren := {
  mixed := by kernel_rfl,
  f7 := ⟨Try.f109.name, by decide, Try.func109.trans (congrArg some (by kernel_rfl))⟩,
  f10 := ⟨Try.f150.name, by decide, Try.func150.trans (congrArg some (by kernel_rfl))⟩,
  t0 := Try.underlying0,
  a0 := Try.isAgg0,
  z0 := Try.sizeOf0,
  v0 := Try.zeroValue0,
  t4 := Try.underlying4,
  a4 := Try.isAgg4,
  z4 := Try.sizeOf4,
  v4 := Try.zeroValue4,
  t23 := Try.underlying164,
  a23 := Try.isAgg164,
  z23 := Try.sizeOf164,
  v23 := Try.zeroValue164,
  t26 := Try.underlying3,
  a26 := Try.isAgg3,
  z26 := Try.sizeOf3,
  v26 := Try.zeroValue3,
  t27 := Try.underlying191,
  a27 := Try.isAgg191,
  z27 := Try.sizeOf191,
  v27 := Try.zeroValue191,
  t28 := Try.underlying192,
  a28 := Try.isAgg192,
  z28 := Try.sizeOf192,
  v28 := Try.zeroValue192,
  t33 := Try.underlying96,
  a33 := Try.isAgg96,
  z33 := Try.sizeOf96,
  v33 := Try.zeroValue96 }

def sortedT_ren : Go.Shelf.Ren := ⟨fun | 6 => 108 | 8 => 149 | 9 => 116 | 11 => 166 | 13 => 157 | 12 => 156 | 23 => 177 | 24 => 178 | 14 => 168 | 15 => 169 | 16 => 170 | 17 => 171 | 18 => 172 | 19 => 173 | 20 => 174 | 21 => 175 | 22 => 176 | 25 => 191 | 26 => 192 | 27 => 193 | 28 => 194 | 29 => 195 | 30 => 164 | 31 => 201 | n => n, fun | 26 => 3 | 28 => 192 | 24 => 50 | 0 => 0 | 3 => 3 | 37 => 250 | 48 => 266 | 50 => 41 | 4 => 4 | 40 => 260 | 39 => 259 | 45 => 182 | 5 => 5 | 9 => 9 | 51 => 275 | 55 => 278 | 57 => 284 | 58 => 285 | 33 => 96 | n => n, fun | n => n⟩
theorem sortedT : Go.Proofs.SlLaysZI.n6 Try.prog sortedT_ren := {
  mixed := by kernel_rfl,
  f6 := ⟨Try.f108.name, by decide, Try.func108.trans (congrArg some (by kernel_rfl))⟩,
  f8 := ⟨Try.f149.name, by decide, Try.func149.trans (congrArg some (by kernel_rfl))⟩,
  f11 := ⟨Try.f166.name, by decide, Try.func166.trans (congrArg some (by kernel_rfl))⟩,
  t0 := Try.underlying0,
  a0 := Try.isAgg0,
  z0 := Try.sizeOf0,
  v0 := Try.zeroValue0,
  t24 := Try.underlying50,
  a24 := Try.isAgg50,
  z24 := Try.sizeOf50,
  v24 := Try.zeroValue50,
  t26 := Try.underlying3,
  a26 := Try.isAgg3,
  z26 := Try.sizeOf3,
  v26 := Try.zeroValue3,
  t28 := Try.underlying192,
  a28 := Try.isAgg192,
  z28 := Try.sizeOf192,
  v28 := Try.zeroValue192,
  i26 := by kernel_rfl }

def sortT_ren : Go.Shelf.Ren := ⟨fun | 5 => 116 | 8 => 157 | 7 => 156 | 19 => 177 | 20 => 178 | 10 => 168 | 11 => 169 | 12 => 170 | 13 => 171 | 14 => 172 | 15 => 173 | 16 => 174 | 17 => 175 | 18 => 176 | 30 => 191 | 31 => 192 | 32 => 193 | 33 => 194 | 34 => 195 | 35 => 164 | 40 => 201 | n => n, fun | 23 => 50 | 25 => 3 | 3 => 3 | 32 => 250 | 22 => 50 | 0 => 0 | 44 => 266 | 46 => 41 | 4 => 4 | 36 => 260 | 35 => 259 | 41 => 182 | 5 => 5 | 9 => 9 | 53 => 275 | 57 => 278 | 63 => 284 | 64 => 285 | n => n, fun | n => n⟩
theorem sortT : Go.Proofs.SlLaysM.n5 Try.prog sortT_ren := {
  mixed := by kernel_rfl,
  f5 := ⟨Try.f116.name, by decide, Try.func116.trans (congrArg some (by kernel_rfl))⟩,
  f7 := ⟨Try.f156.name, by decide, Try.func156.trans (congrArg some (by kernel_rfl))⟩,
  f8 := Try.func157.trans (congrArg some (by kernel_rfl)),
  f10 := ⟨Try.f168.name, by decide, Try.func168.trans (congrArg some (by kernel_rfl))⟩,
  f11 := ⟨Try.f169.name, by decide, Try.func169.trans (congrArg some (by kernel_rfl))⟩,
  f12 := ⟨Try.f170.name, by decide, Try.func170.trans (congrArg some (by kernel_rfl))⟩,
  f13 := ⟨Try.f171.name, by decide, Try.func171.trans (congrArg some (by kernel_rfl))⟩,
  f14 := ⟨Try.f172.name, by decide, Try.func172.trans (congrArg some (by kernel_rfl))⟩,
  f15 := ⟨Try.f173.name, by decide, Try.func173.trans (congrArg some (by kernel_rfl))⟩,
  f16 := ⟨Try.f174.name, by decide, Try.func174.trans (congrArg some (by kernel_rfl))⟩,
  f17 := ⟨Try.f175.name, by decide, Try.func175.trans (congrArg some (by kernel_rfl))⟩,
  f18 := ⟨Try.f176.name, by decide, Try.func176.trans (congrArg some (by kernel_rfl))⟩,
  f19 := Try.func177.trans (congrArg some (by kernel_rfl)),
  f20 := Try.func178.trans (congrArg some (by kernel_rfl)),
  f30 := ⟨Try.f191.name, by decide, Try.func191.trans (congrArg some (by kernel_rfl))⟩,
  f31 := Try.func192.trans (congrArg some (by kernel_rfl)),
  f32 := Try.func193.trans (congrArg some (by kernel_rfl)),
  f33 := ⟨Try.f194.name, by decide, Try.func194.trans (congrArg some (by kernel_rfl))⟩,
  f34 := ⟨Try.f195.name, by decide, Try.func195.trans (congrArg some (by kernel_rfl))⟩,
  f35 := ⟨Try.f164.name, by decide, Try.func164.trans (congrArg some (by kernel_rfl))⟩,
  f40 := ⟨Try.f201.name, by decide, Try.func201.trans (congrArg some (by kernel_rfl))⟩,
  t0 := Try.underlying0,
  a0 := Try.isAgg0,
  z0 := Try.sizeOf0,
  v0 := Try.zeroValue0,
  t3 := Try.underlying3,
  a3 := Try.isAgg3,
  z3 := Try.sizeOf3,
  v3 := Try.zeroValue3,
  t4 := Try.underlying4,
  a4 := Try.isAgg4,
  z4 := Try.sizeOf4,
  v4 := Try.zeroValue4,
  t5 := Try.underlying5,
  a5 := Try.isAgg5,
  z5 := Try.sizeOf5,
  v5 := Try.zeroValue5,
  t9 := Try.underlying9,
  a9 := Try.isAgg9,
  z9 := Try.sizeOf9,
  v9 := Try.zeroValue9,
  t22 := Try.underlying50,
  a22 := Try.isAgg50,
  z22 := Try.sizeOf50,
  v22 := Try.zeroValue50,
  t23 := Try.underlying50,
  a23 := Try.isAgg50,
  z23 := Try.sizeOf50,
  v23 := Try.zeroValue50,
  t25 := Try.underlying3,
  a25 := Try.isAgg3,
  z25 := Try.sizeOf3,
  v25 := Try.zeroValue3,
  t32 := Try.underlying250,
  a32 := Try.isAgg250,
  z32 := Try.sizeOf250,
  v32 := Try.zeroValue250,
  t35 := Try.underlying259,
  a35 := Try.isAgg259,
  z35 := Try.sizeOf259,
  v35 := Try.zeroValue259,
  t36 := Try.underlying260,
  a36 := Try.isAgg260,
  z36 := Try.sizeOf260,
  v36 := Try.zeroValue260,
  t41 := Try.underlying182,
  a41 := Try.isAgg182,
  z41 := Try.sizeOf182,
  v41 := Try.zeroValue182,
  t44 := Try.underlying266,
  a44 := Try.isAgg266,
  z44 := Try.sizeOf266,
  v44 := Try.zeroValue266,
  t46 := Try.underlying41,
  a46 := Try.isAgg41,
  z46 := Try.sizeOf41,
  v46 := Try.zeroValue41,
  t53 := Try.underlying275,
  a53 := Try.isAgg275,
  z53 := Try.sizeOf275,
  v53 := Try.zeroValue275,
  t57 := Try.underlying278,
  a57 := Try.isAgg278,
  z57 := Try.sizeOf278,
  v57 := Try.zeroValue278,
  t63 := Try.underlying284,
  a63 := Try.isAgg284,
  z63 := Try.sizeOf284,
  v63 := Try.zeroValue284,
  t64 := Try.underlying285,
  a64 := Try.isAgg285,
  z64 := Try.sizeOf285,
  v64 := Try.zeroValue285 }


/-- slices.Sort's two contracts at this dump, at the fence that asks nothing. -/
theorem sortsT (m : Nat) : AnyZI.SortsIn Try.prog sortedT_ren Fence.wide m :=
  ⟨fun blk off cap ss W hH hblk hsz => callsIn_wide.2 (AnyM.slices_Sort_int sortT blk off cap ss W hH hblk hsz),
   fun p cap W => callsIn_wide.2 (AnyM.slices_Sort_int_none sortT p cap W)⟩

/-- A number that fits an int. -/
def Wf (x : Int) : Prop := (Lit.int .i64 x).wf = true

/-- Every element reads as nothing. -/
def RN (_ : Value) : Option (DataW Unit × List MemPlace) := some (.nil, [])

theorem rd_RN {x : Int} (v : Value) (born : Nat) (h : Wf x) : WideElems.rd Try.prog 3 RN ⟨.int .i64 x, v, born⟩ = some (.int .i64 x, .nil) := by
  have hk := Maps.keyOf_int_mk (P := Try.prog) Try.underlying3 h
  simp [WideElems.rd, hk, RN]

theorem tkeysPerm {es : List MapEntry} {al : List (Int × Value)} (h : es.map (fun e => (e.key, e.val)) = al.map (fun p => (ki p.1, p.2))) (hw : ∀ p ∈ al, Wf p.1) :
    (es.map (WideElems.rg Try.prog 3 RN)).map (fun p => Go.intOf p.1) = al.map (·.1) ∧ (∀ x ∈ es, ∃ y, WideElems.rd Try.prog 3 RN x = some y) := by
  induction es generalizing al with
  | nil => cases al with
    | nil => simp
    | cons p r => simp at h
  | cons e r ih =>
    cases al with
    | nil => simp at h
    | cons p q =>
      simp only [List.map_cons, List.cons.injEq, Prod.mk.injEq] at h
      obtain ⟨⟨hk, hv⟩, hr⟩ := h
      obtain ⟨i1, i2⟩ := ih hr (fun x hx => hw x (by simp [hx]))
      obtain ⟨ek, ev, eb⟩ := e
      simp only at hk hv
      subst hk
      have h1 := rd_RN (x := p.1) ev eb (hw p (by simp))
      refine ⟨?_, fun x hx => ?_⟩
      · simp only [List.map_cons]
        rw [i1, WideElems.rg_of (y := (.int .i64 p.1, .nil)) h1]
        rfl
      · rcases List.mem_cons.1 hx with rfl | hx
        · exact ⟨_, h1⟩
        · exact i2 x hx

/-- A map of ours, as the shelf has it. -/
theorem owns_of {w : World} {mb : Nat} {al : List (Int × Value)} (h : IsMap w mb ki al) (hn : (al.map (·.1)).Nodup) (hw : ∀ p ∈ al, Wf p.1) (hl : al.length ≤ 100000) :
    ∃ D0 : DataW Unit, w.ownsMap Try.prog 3 RN mb al.length D0 ∧ (intKeys D0).Perm (al.map (·.1)) ∧ Maps.size D0 = al.length := by
  obtain ⟨es, clock, hb, hes, hborn, hcl⟩ := h
  obtain ⟨k1, k2⟩ := tkeysPerm hes hw
  have hsz : es.size = al.length := by simpa using congrArg List.length hes
  have hkeys : es.toList.map (·.key) = al.map (fun p => ki p.1) := by
    have := congrArg (List.map (·.1)) hes
    simpa [List.map_map, Function.comp_def] using this
  refine ⟨.map ((es.toList.map (WideElems.rg Try.prog 3 RN)).foldr DataW.insert []), ⟨es, clock, hb, ⟨by rw [hsz]; unfold maxLen; omega, ⟨hcl, hborn, ?_⟩, k2⟩, by omega, rfl⟩, ?_, ?_⟩
  · rw [hkeys]
    have : al.map (fun p => ki p.1) = (al.map (·.1)).map ki := by simp [List.map_map, Function.comp_def]
    rw [this]
    exact List.Pairwise.map ki (fun a b hab e => hab (by simpa [ki] using e)) hn
  · have := (WideShapes.sorted_perm (es.toList.map (WideElems.rg Try.prog 3 RN))).map (fun p => Go.intOf p.1)
    rw [k1] at this
    exact this
  · show ((es.toList.map (WideElems.rg Try.prog 3 RN)).foldr DataW.insert []).length = _
    rw [(WideShapes.sorted_perm _).length_eq]
    simpa using hsz

set_option maxRecDepth 10000 in
set_option maxHeartbeats 1000000 in
theorem uids_any {w : World} {p mb : Nat} {rows : TRows} (hc : w.cell? ⟨p, 0, none⟩ = some (.map (some mb))) (hm : MapSl w mb ki 30 3 encT rows) (hw : ∀ r ∈ rows, Wf r.1) (hl : rows.length ≤ 100000) :
    Calls Try.prog 52 #[.pointer (some ⟨p, 0, none⟩)] w fun e w' => ∃ (v : Value) (ss : List Int), e = .returned v ∧ ss.Perm (rows.map (·.1)) ∧
      w'.ownsRow w.heap.size 3 1 v ss.length ((ss.mergeSort (fun x y => decide (x ≤ y))).map encZ) ∧ (v = .slice none 0 0 ↔ ss = []) ∧ Below w.heap.size w w' := by
  obtain ⟨D0, hown, hperm, hsize⟩ := owns_of hm.map (by rw [List.map_map]; exact hm.nodup) (fun p hp => by obtain ⟨r, hr, rfl⟩ := List.mem_map.1 hp; exact hw r hr) (by simpa using hl)
  have hks : (rows.map fun r => (r.1, r.2.1)).map (·.1) = rows.map (·.1) := by simp [List.map_map, Function.comp_def]
  rw [hks] at hperm
  rw [List.length_map] at hsize
  refine (callsIn_wide (n := 6)).1 ?_
  have hbl := hown.lt
  have hseq : SeqGives Fence.wide 2 Try.prog 150 #[.pointer (some ⟨w.heap.size, 0, none⟩)] encZ (fun ss => ss.Perm (intKeys D0)) (Maps.size D0) (w.alloc (.cells #[.map (some mb)] 164)) :=
    AnyZI.keys_gives (ρ := keysT_ren) { keysT with } Fence.wide _ trivial rfl (by omega) w.heap.size mb _ D0 _ (by simp) (by simp) (by
      obtain ⟨es, clock, hb, Ft, hs, hD⟩ := hown
      exact ⟨es, clock, (Below.heap_alloc _ _ mb hbl).trans hb, Ft, hs, hD⟩)
  have cK : ∀ mb W, CallsIn Fence.wide 5 Try.prog 109 #[.map mb] W fun e w' => e = .returned (.func (.func 150) #[] #[.pointer (some ⟨W.heap.size, 0, none⟩)]) ∧ w' = W.alloc (.cells #[.map mb] 164) := fun mb W => AnyZI.keys_in keysT Fence.wide 5 trivial rfl mb W
  have cS := AnyZI.sorted_in sortedT Fence.wide 5 trivial trivial trivial trivial rfl (by omega) (sortsT _) (enters_of Try.func116 (by kernel_rfl) rfl) 150 #[.pointer (some ⟨w.heap.size, 0, none⟩)] trivial (enters_of Try.func150 (by kernel_rfl) rfl) _ _ (by rw [hsize]; unfold maxLen; omega) (by rw [hsize]; omega) _ hseq
  change CallsIn _ _ Try.prog 108 _ _ _ at cS
  have hfK : Fence.wide.fn 109 := trivial
  have hfS : Fence.wide.fn 108 := trivial
  refine callsIn_of_wp Try.func52 rfl trivial ?_ rfl
  simp only [Try.ntmps52, List.size_toArray, List.length_cons, List.length_nil, Nat.reduceAdd, Nat.reduceSub, Array.replicate_succ, Array.replicate_zero, List.push_toArray, List.append_toArray, List.nil_append, List.cons_append]
  gi_wp2_with (first
    | (gi_at_call 109; refine (cK _ _).mono ?_; rintro e w' ⟨rfl, rfl⟩)
    | (gi_at_call 108; refine cS.mono ?_; rintro e w' ⟨v, ss, rfl, hS, hrow, hnil, hb⟩))
  go_ret
  exact ⟨v, ss, rfl, hS.trans hperm, ownsRow_base_a hrow (by simp), hnil, ((Below.refl _ w).alloc (Nat.le_refl _) _).trans (hb.mono (by simp))⟩
end Go.Proofs.Ytnceglkoolfncaa.Tp
