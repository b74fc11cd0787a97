/- Images: the names of all, sorted: maps.Keys, slices.Sorted of the kit's shelf. -/
import Derived.Test.YtmgcapccgncmkaaDoorIc
import Derived.Shelf.SlIter.Nil
import Derived.Shelf.SlIter.Sorted
import Derived.Shelf.SortM.Plain
import Derived.Shelf.SortM.SortNone
import Derived.Sort.KeysCollected
import Derived.Shelf.SlicesE.DeleteFunc
import Derived.StringKeys
set_option linter.unusedSimpArgs false
set_option linter.unusedVariables false
namespace Go.Proofs
open Go.Shelf
def Tryd.keysS_ren : Go.Shelf.Ren := ⟨fun | 7 => 91 | 10 => 112 | n => n, fun | 23 => 117 | 26 => 9 | 3 => 121 | 28 => 154 | 0 => 0 | 27 => 153 | 33 => 66 | 4 => 4 | n => n, fun | n => n⟩
theorem Tryd.keysS : Go.Proofs.SlLaysZ.n7 Tryd.prog Tryd.keysS_ren := {
  mixed := by kernel_rfl,
  f7 := ⟨Tryd.f91.name, by decide, Tryd.func91.trans (congrArg some (by kernel_rfl))⟩,
  f10 := ⟨Tryd.f112.name, by decide, Tryd.func112.trans (congrArg some (by kernel_rfl))⟩,
  t0 := Tryd.underlying0,
  a0 := Tryd.isAgg0,
  z0 := Tryd.sizeOf0,
  v0 := Tryd.zeroValue0,
  t4 := Tryd.underlying4,
  a4 := Tryd.isAgg4,
  z4 := Tryd.sizeOf4,
  v4 := Tryd.zeroValue4,
  t23 := Tryd.underlying117,
  a23 := Tryd.isAgg117,
  z23 := Tryd.sizeOf117,
  v23 := Tryd.zeroValue117,
  t26 := Tryd.underlying9,
  a26 := Tryd.isAgg9,
  z26 := Tryd.sizeOf9,
  v26 := Tryd.zeroValue9,
  t27 := Tryd.underlying153,
  a27 := Tryd.isAgg153,
  z27 := Tryd.sizeOf153,
  v27 := Tryd.zeroValue153,
  t28 := Tryd.underlying154,
  a28 := Tryd.isAgg154,
  z28 := Tryd.sizeOf154,
  v28 := Tryd.zeroValue154,
  t33 := Tryd.underlying66,
  a33 := Tryd.isAgg66,
  z33 := Tryd.sizeOf66,
  v33 := Tryd.zeroValue66 }

def Tryd.sortedS_ren : Go.Shelf.Ren := ⟨fun | 6 => 90 | 8 => 110 | 9 => 111 | 11 => 127 | 13 => 129 | 12 => 128 | 23 => 150 | 24 => 151 | 14 => 141 | 15 => 142 | 16 => 143 | 17 => 144 | 18 => 145 | 19 => 146 | 20 => 147 | 21 => 148 | 22 => 149 | 25 => 156 | 26 => 157 | 27 => 158 | 28 => 159 | 29 => 160 | 30 => 161 | 31 => 162 | n => n, fun | 26 => 9 | 28 => 154 | 24 => 69 | 0 => 0 | 3 => 3 | 37 => 102 | 48 => 201 | 50 => 22 | 4 => 4 | 40 => 194 | 39 => 193 | 45 => 134 | 5 => 5 | 9 => 9 | 51 => 209 | 55 => 213 | 57 => 215 | 58 => 216 | 33 => 66 | n => n, fun | n => n⟩
theorem Tryd.sortedS : Go.Proofs.SlLaysZ.n6 Tryd.prog Tryd.sortedS_ren := {
  mixed := by kernel_rfl,
  f6 := ⟨Tryd.f90.name, by decide, Tryd.func90.trans (congrArg some (by kernel_rfl))⟩,
  f8 := ⟨Tryd.f110.name, by decide, Tryd.func110.trans (congrArg some (by kernel_rfl))⟩,
  f11 := ⟨Tryd.f127.name, by decide, Tryd.func127.trans (congrArg some (by kernel_rfl))⟩,
  t0 := Tryd.underlying0,
  a0 := Tryd.isAgg0,
  z0 := Tryd.sizeOf0,
  v0 := Tryd.zeroValue0,
  t24 := Tryd.underlying69,
  a24 := Tryd.isAgg69,
  z24 := Tryd.sizeOf69,
  v24 := Tryd.zeroValue69,
  t26 := Tryd.underlying9,
  a26 := Tryd.isAgg9,
  z26 := Tryd.sizeOf9,
  v26 := Tryd.zeroValue9,
  t28 := Tryd.underlying154,
  a28 := Tryd.isAgg154,
  z28 := Tryd.sizeOf154,
  v28 := Tryd.zeroValue154,
  i26 := by kernel_rfl }

def Tryd.sortS_ren : Go.Shelf.Ren := ⟨fun | 6 => 111 | 8 => 129 | 9 => 128 | 19 => 150 | 20 => 151 | 21 => 141 | 22 => 142 | 23 => 143 | 24 => 144 | 25 => 145 | 26 => 146 | 27 => 147 | 28 => 148 | 29 => 149 | 36 => 156 | 31 => 157 | 32 => 158 | 37 => 159 | 38 => 160 | 39 => 161 | 41 => 162 | n => n, fun | 27 => 69 | 29 => 9 | 3 => 3 | 32 => 102 | 26 => 69 | 0 => 0 | 44 => 201 | 46 => 22 | 4 => 4 | 36 => 194 | 35 => 193 | 41 => 134 | 5 => 5 | 9 => 9 | 53 => 209 | 57 => 213 | 63 => 215 | 64 => 216 | n => n, fun | n => n⟩
theorem Tryd.sortS : Go.Proofs.SlLaysM.n6 Tryd.prog Tryd.sortS_ren := {
  mixed := by kernel_rfl,
  f6 := ⟨Tryd.f111.name, by decide, Tryd.func111.trans (congrArg some (by kernel_rfl))⟩,
  f8 := Tryd.func129.trans (congrArg some (by kernel_rfl)),
  f9 := ⟨Tryd.f128.name, by decide, Tryd.func128.trans (congrArg some (by kernel_rfl))⟩,
  f19 := Tryd.func150.trans (congrArg some (by kernel_rfl)),
  f20 := Tryd.func151.trans (congrArg some (by kernel_rfl)),
  f21 := ⟨Tryd.f141.name, by decide, Tryd.func141.trans (congrArg some (by kernel_rfl))⟩,
  f22 := ⟨Tryd.f142.name, by decide, Tryd.func142.trans (congrArg some (by kernel_rfl))⟩,
  f23 := ⟨Tryd.f143.name, by decide, Tryd.func143.trans (congrArg some (by kernel_rfl))⟩,
  f24 := ⟨Tryd.f144.name, by decide, Tryd.func144.trans (congrArg some (by kernel_rfl))⟩,
  f25 := ⟨Tryd.f145.name, by decide, Tryd.func145.trans (congrArg some (by kernel_rfl))⟩,
  f26 := ⟨Tryd.f146.name, by decide, Tryd.func146.trans (congrArg some (by kernel_rfl))⟩,
  f27 := ⟨Tryd.f147.name, by decide, Tryd.func147.trans (congrArg some (by kernel_rfl))⟩,
  f28 := ⟨Tryd.f148.name, by decide, Tryd.func148.trans (congrArg some (by kernel_rfl))⟩,
  f29 := ⟨Tryd.f149.name, by decide, Tryd.func149.trans (congrArg some (by kernel_rfl))⟩,
  f31 := Tryd.func157.trans (congrArg some (by kernel_rfl)),
  f32 := Tryd.func158.trans (congrArg some (by kernel_rfl)),
  f36 := ⟨Tryd.f156.name, by decide, Tryd.func156.trans (congrArg some (by kernel_rfl))⟩,
  f37 := ⟨Tryd.f159.name, by decide, Tryd.func159.trans (congrArg some (by kernel_rfl))⟩,
  f38 := ⟨Tryd.f160.name, by decide, Tryd.func160.trans (congrArg some (by kernel_rfl))⟩,
  f39 := ⟨Tryd.f161.name, by decide, Tryd.func161.trans (congrArg some (by kernel_rfl))⟩,
  f41 := ⟨Tryd.f162.name, by decide, Tryd.func162.trans (congrArg some (by kernel_rfl))⟩,
  t0 := Tryd.underlying0,
  a0 := Tryd.isAgg0,
  z0 := Tryd.sizeOf0,
  v0 := Tryd.zeroValue0,
  t3 := Tryd.underlying3,
  a3 := Tryd.isAgg3,
  z3 := Tryd.sizeOf3,
  v3 := Tryd.zeroValue3,
  t4 := Tryd.underlying4,
  a4 := Tryd.isAgg4,
  z4 := Tryd.sizeOf4,
  v4 := Tryd.zeroValue4,
  t5 := Tryd.underlying5,
  a5 := Tryd.isAgg5,
  z5 := Tryd.sizeOf5,
  v5 := Tryd.zeroValue5,
  t9 := Tryd.underlying9,
  a9 := Tryd.isAgg9,
  z9 := Tryd.sizeOf9,
  v9 := Tryd.zeroValue9,
  t26 := Tryd.underlying69,
  a26 := Tryd.isAgg69,
  z26 := Tryd.sizeOf69,
  v26 := Tryd.zeroValue69,
  t27 := Tryd.underlying69,
  a27 := Tryd.isAgg69,
  z27 := Tryd.sizeOf69,
  v27 := Tryd.zeroValue69,
  t29 := Tryd.underlying9,
  a29 := Tryd.isAgg9,
  z29 := Tryd.sizeOf9,
  v29 := Tryd.zeroValue9,
  t32 := Tryd.underlying102,
  a32 := Tryd.isAgg102,
  z32 := Tryd.sizeOf102,
  v32 := Tryd.zeroValue102,
  t35 := Tryd.underlying193,
  a35 := Tryd.isAgg193,
  z35 := Tryd.sizeOf193,
  v35 := Tryd.zeroValue193,
  t36 := Tryd.underlying194,
  a36 := Tryd.isAgg194,
  z36 := Tryd.sizeOf194,
  v36 := Tryd.zeroValue194,
  t41 := Tryd.underlying134,
  a41 := Tryd.isAgg134,
  z41 := Tryd.sizeOf134,
  v41 := Tryd.zeroValue134,
  t44 := Tryd.underlying201,
  a44 := Tryd.isAgg201,
  z44 := Tryd.sizeOf201,
  v44 := Tryd.zeroValue201,
  t46 := Tryd.underlying22,
  a46 := Tryd.isAgg22,
  z46 := Tryd.sizeOf22,
  v46 := Tryd.zeroValue22,
  t53 := Tryd.underlying209,
  a53 := Tryd.isAgg209,
  z53 := Tryd.sizeOf209,
  v53 := Tryd.zeroValue209,
  t57 := Tryd.underlying213,
  a57 := Tryd.isAgg213,
  z57 := Tryd.sizeOf213,
  v57 := Tryd.zeroValue213,
  t63 := Tryd.underlying215,
  a63 := Tryd.isAgg215,
  z63 := Tryd.sizeOf215,
  v63 := Tryd.zeroValue215,
  t64 := Tryd.underlying216,
  a64 := Tryd.isAgg216,
  z64 := Tryd.sizeOf216,
  v64 := Tryd.zeroValue216 }

def Tryd.delS_ren : Go.Shelf.Ren := ⟨fun | 10 => 70 | 6 => 97 | n => n, fun | 22 => 69 | 23 => 9 | 25 => 66 | 3 => 3 | 4 => 4 | 0 => 0 | n => n, fun | n => n⟩
theorem Tryd.delS : Go.Proofs.SlLaysH.n10 Tryd.prog Tryd.delS_ren := {
  mixed := by kernel_rfl,
  f6 := ⟨Tryd.f97.name, by decide, Tryd.func97.trans (congrArg some (by kernel_rfl))⟩,
  f10 := ⟨Tryd.f70.name, by decide, Tryd.func70.trans (congrArg some (by kernel_rfl))⟩,
  t0 := Tryd.underlying0,
  a0 := Tryd.isAgg0,
  z0 := Tryd.sizeOf0,
  v0 := Tryd.zeroValue0,
  t3 := Tryd.underlying3,
  a3 := Tryd.isAgg3,
  z3 := Tryd.sizeOf3,
  v3 := Tryd.zeroValue3,
  t4 := Tryd.underlying4,
  a4 := Tryd.isAgg4,
  z4 := Tryd.sizeOf4,
  v4 := Tryd.zeroValue4,
  t22 := Tryd.underlying69,
  a22 := Tryd.isAgg69,
  z22 := Tryd.sizeOf69,
  v22 := Tryd.zeroValue69,
  a23 := Tryd.isAgg9,
  z23 := Tryd.sizeOf9,
  t25 := Tryd.underlying66,
  a25 := Tryd.isAgg66,
  z25 := Tryd.sizeOf66,
  v25 := Tryd.zeroValue66 }


end Go.Proofs
namespace Go.Proofs.YtmgcapccgncmkaaDoor.Im
open Go.RowKit Go.Pv Go.Proofs.YtmgcapccgncmkaaDoor.Tx Go.Proofs.YtmgcapccgncmkaaDoorW.PrintWords Go.Proofs.YtmgcapccgncmkaaDoorW.PrintLast Go.Maps Go.Sort Go.Proofs

theorem sortsS (m : Nat) : AnyZ.SortsIn Tryd.prog Tryd.sortedS_ren Fence.wide m :=
  ⟨fun blk off cap ss W hH hblk hsz => callsIn_wide.2 (AnyM.slices_Sort_string Tryd.sortS blk off cap ss W hH hblk hsz),
   fun p cap W => callsIn_wide.2 (AnyM.slices_Sort_string_none Tryd.sortS p cap W)⟩
/-- Every element reads as nothing. -/
def RN (_ : Value) : Option (DataW Unit × List MemPlace) := some (.nil, [])
theorem rd_RN {x : ByteArray} (v : Value) (born : Nat) (h : x.size ≤ maxLen) : WideElems.rd Tryd.prog 9 RN ⟨.string x, v, born⟩ = some (.string x.data.toList, .nil) := by
  have hk := Go.WideMaps.keyOf_string_mk (P := Tryd.prog) Tryd.underlying9 h
  simp [WideElems.rd, hk, RN]
theorem tkeysPerm {es : List MapEntry} {al : List (ByteArray × Value)} (h : es.map (fun e => (e.key, e.val)) = al.map (fun p => (sv p.1, p.2))) (hw : ∀ p ∈ al, p.1.size ≤ maxLen) :
    (es.map (WideElems.rg Tryd.prog 9 RN)).map (fun p => Go.strOf p.1) = al.map (fun p => p.1.data.toList) ∧ (∀ x ∈ es, ∃ y, WideElems.rd Tryd.prog 9 RN x = some y) := by
  induction es generalizing al with
  | nil => cases al with
    | nil => simp
    | cons p r => simp at h
  | cons e r ih =>
    cases al with
    | nil => simp at h
    | cons p q =>
      simp only [List.map_cons, List.cons.injEq, Prod.mk.injEq, sv] at h
      obtain ⟨⟨hk, hv⟩, hr⟩ := h
      obtain ⟨i1, i2⟩ := ih hr (fun x hx => hw x (by simp [hx]))
      obtain ⟨ek, ev, eb⟩ := e
      simp only at hk hv
      subst hk
      have h1 := rd_RN (x := p.1) ev eb (hw p (by simp))
      refine ⟨?_, fun x hx => ?_⟩
      · simp only [List.map_cons]
        rw [i1, WideElems.rg_of (y := (.string p.1.data.toList, .nil)) h1]
        rfl
      · rcases List.mem_cons.1 hx with rfl | hx
        · exact ⟨_, h1⟩
        · exact i2 x hx
theorem owns_of {w : World} {mb : Nat} {al : List (ByteArray × Value)} (h : IsMap w mb sv al) (hn : (al.map (·.1)).Nodup) (hw : ∀ p ∈ al, p.1.size ≤ maxLen) (hl : al.length ≤ 100000) :
    ∃ D0 : DataW Unit, w.ownsMap Tryd.prog 9 RN mb al.length D0 ∧ (Go.strKeys D0).Perm (al.map (fun p => p.1.data.toList)) ∧ Maps.size D0 = al.length := by
  obtain ⟨es, clock, hb, hes, hborn, hcl⟩ := h
  obtain ⟨k1, k2⟩ := tkeysPerm hes hw
  have hsz : es.size = al.length := by simpa using congrArg List.length hes
  have hkeys : es.toList.map (·.key) = al.map (fun p => sv p.1) := by
    have := congrArg (List.map (·.1)) hes
    simpa [List.map_map, Function.comp_def] using this
  refine ⟨.map ((es.toList.map (WideElems.rg Tryd.prog 9 RN)).foldr DataW.insert []), ⟨es, clock, hb, ⟨by rw [hsz]; unfold maxLen; omega, ⟨hcl, hborn, ?_⟩, k2⟩, by omega, rfl⟩, ?_, ?_⟩
  · rw [hkeys]
    have : al.map (fun p => sv p.1) = (al.map (·.1)).map sv := by simp [List.map_map, Function.comp_def]
    rw [this]
    exact List.Pairwise.map sv (fun a b hab e => hab (by simpa [sv] using e)) hn
  · have := (WideShapes.sorted_perm (es.toList.map (WideElems.rg Tryd.prog 9 RN))).map (fun p => Go.strOf p.1)
    rw [k1] at this
    exact this
  · show ((es.toList.map (WideElems.rg Tryd.prog 9 RN)).foldr DataW.insert []).length = _
    rw [(WideShapes.sorted_perm _).length_eq]
    simpa using hsz
/-- The names, rising. -/
def namesA (al : IL) : List ByteArray := ((al.map fun r => r.1.data.toList).mergeSort Go.leB).map fun l => ⟨l.toArray⟩
theorem namesA_perm (al : IL) : (namesA al).Perm (al.map (·.1)) := by
  unfold namesA
  have h := (List.mergeSort_perm (al.map fun r => r.1.data.toList) Go.leB).map (fun l => (⟨l.toArray⟩ : ByteArray))
  refine h.trans ?_
  rw [List.map_map]
  refine List.Perm.of_eq (List.map_congr_left (fun r _ => ?_))
  simp
theorem namesA_length (al : IL) : (namesA al).length = al.length := by have := (namesA_perm al).length_eq; simpa using this
/-- All names are short. -/
def Short (al : IL) : Prop := (∀ r ∈ al, r.1.size ≤ 100) ∧ al.length ≤ 16
theorem keys_any (mb : Nat) (W : World) : Calls Tryd.prog 91 #[.map (some mb)] W fun e w' => e = .returned (.func (.func 112) #[] #[.pointer (some ⟨W.heap.size, 0, none⟩)]) ∧ w' = W.alloc (.cells #[.map (some mb)] 117) :=
  (callsIn_wide (n := 5)).1 (AnyZ.keys_in Tryd.keysS Fence.wide 5 trivial rfl (some mb) W)
theorem sorted_any {W : World} {p mb : Nat} {al : IL} {tick : Int} (h : IBk W p mb al tick) (hs : Short al) :
    Calls Tryd.prog 90 #[.func (.func 112) #[] #[.pointer (some ⟨W.heap.size, 0, none⟩)]] (W.alloc (.cells #[.map (some mb)] 117)) fun e w' => ∃ A c, e = .returned (.slice A al.length c) ∧ Kd.string.R 9 w' W.heap.size (fun _ => True) (.slice A al.length c) (namesA al) ∧ Below W.heap.size W w' := by
  obtain ⟨D0, hown, hperm, hsize⟩ := owns_of h.map (by rw [List.map_map]; exact h.nd) (fun p hp => by obtain ⟨r, hr, rfl⟩ := List.mem_map.1 hp; have := hs.1 r hr; unfold maxLen; simp only; omega) (by have := hs.2; simp; omega)
  have hks : (al.map fun r => (r.1, imv r.2)).map (fun p => p.1.data.toList) = al.map (fun r => r.1.data.toList) := by simp [List.map_map, Function.comp_def]
  rw [hks] at hperm
  rw [List.length_map] at hsize
  have hbl := hown.lt
  have hseq : SeqGives Fence.wide 2 Tryd.prog 112 #[.pointer (some ⟨W.heap.size, 0, none⟩)] encStr (fun ss => ss.Perm (Go.strKeys D0)) (Maps.size D0) (W.alloc (.cells #[.map (some mb)] 117)) :=
    AnyZ.keys_gives (ρ := Tryd.keysS_ren) { Tryd.keysS with } Fence.wide _ trivial rfl (by omega) W.heap.size mb _ D0 _ (by simp) (by simp) (by
      obtain ⟨es, clock, hb, Ft, hs, hD⟩ := hown
      exact ⟨es, clock, (Below.heap_alloc _ _ mb hbl).trans hb, Ft, hs, hD⟩)
  have hl16 := hs.2
  have cS := AnyZ.sorted_in Tryd.sortedS Fence.wide 5 trivial trivial trivial trivial rfl (by omega) (sortsS _) (enters_of Tryd.func111 (by kernel_rfl) rfl) 112 #[.pointer (some ⟨W.heap.size, 0, none⟩)] trivial (enters_of Tryd.func112 (by kernel_rfl) rfl) _ _ (by rw [hsize]; unfold maxLen; omega) (by rw [hsize]; omega) _ hseq
  refine ((callsIn_wide (n := 5)).1 cS).mono ?_
  rintro e w' ⟨v, ss, rfl, hS, hrow, hnil, hb⟩
  have hp2 : ss.Perm (al.map fun r => r.1.data.toList) := hS.trans hperm
  have hms : ss.mergeSort (fun x y => decide (x ≤ y)) = (al.map fun r => r.1.data.toList).mergeSort Go.leB := Go.mergeSort_of_perm hp2
  have hlen : ss.length = al.length := by have := hp2.length_eq; simpa using this
  rw [hms, hlen] at hrow
  have henc : ((al.map fun r => r.1.data.toList).mergeSort Go.leB).map encStr = encs Value.string (namesA al) := by
    unfold namesA encs
    rw [List.map_map]
    rfl
  rw [henc] at hrow
  have hb2 : Below W.heap.size W w' := ((Below.refl _ W).alloc (Nat.le_refl _) _).trans (hb.mono (by simp))
  have hR : Kd.string.R 9 w' W.heap.size (fun _ => True) v (namesA al) := Kd.R_of_own (by rw [namesA_length]; exact ownsRow_base_a hrow (by simp)) (fun _ _ => trivial)
  obtain ⟨A, c, hv⟩ := Kd.R_slice hR
  rw [namesA_length] at hv
  subst hv
  exact ⟨A, c, rfl, hR, hb2⟩
end Go.Proofs.YtmgcapccgncmkaaDoor.Im
