/- strings.Split, of the kit's shelf, laid over this program; what was joined is split again. -/
import Derived.Test.YtmgcapccgncmkaaDoorProg
import Derived.Shelf.Strings.Split
import Derived.Lib.SplitLaws
import Derived.Lib.Join
import Derived.KernelRfl
set_option linter.unusedSimpArgs false
set_option linter.unusedVariables false
namespace Go.Proofs
open Go.Shelf
def Tryd.laysSplit_ren : Go.Shelf.Ren := ⟨fun | 146 => 51 | 221 => 79 | 268 => 101 | 138 => 102 | 143 => 103 | 195 => 117 | 197 => 118 | 218 => 119 | 219 => 120 | 260 => 134 | 217 => 135 | 225 => 136 | 224 => 137 | 267 => 138 | 266 => 154 | 314 => 155 | n => n, fun | 9 => 9 | 31 => 69 | 3 => 3 | 4 => 4 | 0 => 0 | 105 => 179 | 21 => 21 | 5 => 5 | 46 => 102 | 119 => 203 | 139 => 206 | 138 => 205 | 146 => 207 | 51 => 201 | n => n, fun | 1 => 1 | 3 => 3 | 4 => 4 | n => n⟩
theorem Tryd.laysSplit : Go.Proofs.Lays.n146 Tryd.prog Tryd.laysSplit_ren := {
  mixed := by kernel_rfl,
  f138 := Tryd.func102.trans (congrArg some (by kernel_rfl)),
  f143 := Tryd.func103.trans (congrArg some (by kernel_rfl)),
  f146 := Tryd.func51.trans (congrArg some (by kernel_rfl)),
  f195 := Tryd.func117.trans (congrArg some (by kernel_rfl)),
  f197 := Tryd.func118.trans (congrArg some (by kernel_rfl)),
  f217 := Tryd.func135.trans (congrArg some (by kernel_rfl)),
  f218 := Tryd.func119.trans (congrArg some (by kernel_rfl)),
  f219 := Tryd.func120.trans (congrArg some (by kernel_rfl)),
  f221 := Tryd.func79.trans (congrArg some (by kernel_rfl)),
  f224 := Tryd.func137.trans (congrArg some (by kernel_rfl)),
  f225 := Tryd.func136.trans (congrArg some (by kernel_rfl)),
  f260 := Tryd.func134.trans (congrArg some (by kernel_rfl)),
  f266 := Tryd.func154.trans (congrArg some (by kernel_rfl)),
  f267 := Tryd.func138.trans (congrArg some (by kernel_rfl)),
  f268 := Tryd.func101.trans (congrArg some (by kernel_rfl)),
  f314 := Tryd.func155.trans (congrArg some (by kernel_rfl)),
  t0 := Tryd.underlying0,
  a0 := Tryd.isAgg0,
  z0 := Tryd.sizeOf0,
  v0 := Tryd.zeroValue0,
  t3 := Tryd.underlying3,
  a3 := Tryd.isAgg3,
  z3 := Tryd.sizeOf3,
  v3 := Tryd.zeroValue3,
  t4 := Tryd.underlying4,
  a4 := Tryd.isAgg4,
  z4 := Tryd.sizeOf4,
  v4 := Tryd.zeroValue4,
  t5 := Tryd.underlying5,
  a5 := Tryd.isAgg5,
  z5 := Tryd.sizeOf5,
  v5 := Tryd.zeroValue5,
  t9 := Tryd.underlying9,
  a9 := Tryd.isAgg9,
  z9 := Tryd.sizeOf9,
  v9 := Tryd.zeroValue9,
  t21 := Tryd.underlying21,
  a21 := Tryd.isAgg21,
  z21 := Tryd.sizeOf21,
  v21 := Tryd.zeroValue21,
  t31 := Tryd.underlying69,
  a31 := Tryd.isAgg69,
  z31 := Tryd.sizeOf69,
  v31 := Tryd.zeroValue69,
  t46 := Tryd.underlying102,
  a46 := Tryd.isAgg102,
  z46 := Tryd.sizeOf102,
  v46 := Tryd.zeroValue102,
  t51 := Tryd.underlying201,
  a51 := Tryd.isAgg201,
  z51 := Tryd.sizeOf201,
  v51 := Tryd.zeroValue201,
  t105 := Tryd.underlying179,
  a105 := Tryd.isAgg179,
  z105 := Tryd.sizeOf179,
  v105 := Tryd.zeroValue179,
  t119 := Tryd.underlying203,
  a119 := Tryd.isAgg203,
  z119 := Tryd.sizeOf203,
  t138 := Tryd.underlying205,
  a138 := Tryd.isAgg205,
  z138 := Tryd.sizeOf205,
  v138 := Tryd.zeroValue205,
  t139 := Tryd.underlying206,
  a139 := Tryd.isAgg206,
  z139 := Tryd.sizeOf206,
  v139 := Tryd.zeroValue206,
  t146 := Tryd.underlying207,
  a146 := Tryd.isAgg207,
  z146 := Tryd.sizeOf207,
  v146 := Tryd.zeroValue207,
  g1 := by kernel_rfl,
  g3 := by kernel_rfl,
  g4 := by kernel_rfl }

open Go.RowKit in
theorem Tryd.split_any (s sep : ByteArray) (m : Int) (w : World) (hs : s.size < 4294967281) (hm : w.cell? ⟨1, 0, none⟩ = some (.int .i64 m)) (h1 : 1 ≤ sep.size) :
    Calls Tryd.prog 51 #[.string s, .string sep] w fun e w' => e = .returned (.slice (some ⟨w.heap.size, 0, none⟩) (Lib.countB s sep + 1) (Lib.countB s sep + 1)) ∧ w' = w.alloc (.cells ((Lib.splitB sep 0 (Lib.countB s sep) s).map Value.string).toArray 9) :=
  Any.strings_Split Tryd.laysSplit (by kernel_rfl) s sep m w hs hm h1

namespace YtmgcapccgncmkaaDoor.Ld
open Go.Lib
/-! ### a text that was joined, split again (one byte between) -/
theorem index_one_hit (c : UInt8) : ∀ (x rest : List UInt8), c ∉ x → index (x ++ c :: rest) [c] = (x.length : Nat) := by
  intro x rest hx
  refine index_first (by simp) ?_ ?_
  · unfold occAt
    rw [List.drop_left]
    simp
  · intro j hj
    unfold occAt
    rw [List.drop_append_of_le_length (by omega)]
    have hd : x.drop j = x[j] :: x.drop (j + 1) := List.drop_eq_getElem_cons hj
    rw [hd]
    simp only [List.cons_append, List.isPrefixOf_cons_cons, Bool.and_eq_false_iff]
    left
    simp only [beq_eq_false_iff_ne]
    intro e
    exact hx (e ▸ List.getElem_mem hj)
theorem index_one_miss (c : UInt8) (x : List UInt8) (hx : c ∉ x) : index x [c] = -1 := by
  refine index_none (fun j hj => ?_)
  unfold occAt
  rcases Nat.lt_or_ge j x.length with h | h
  · rw [List.drop_eq_getElem_cons h]
    simp only [List.isPrefixOf_cons_cons, Bool.and_eq_false_iff]
    left
    simp only [beq_eq_false_iff_ne]
    intro e
    exact hx (e ▸ List.getElem_mem h)
  · rw [List.drop_eq_nil_of_le h]
    rfl
theorem splitK_join (c : UInt8) : ∀ (xs : List (List UInt8)) (x : List UInt8), (∀ y ∈ x :: xs, c ∉ y) → splitK [c] 0 xs.length (join (x :: xs) [c]) = x :: xs
  | [], x, h => by rw [join_one]; rfl
  | y :: ys, x, h => by
    have hx : c ∉ x := h x (by simp)
    have e : join (x :: y :: ys) [c] = x ++ c :: join (y :: ys) [c] := by
      rw [join_cons, join_cons]
      simp [joinTail]
    rw [e]
    have hi := index_one_hit c x (join (y :: ys) [c]) hx
    rw [List.length_cons, splitK, hi]
    have hb : ¬ (((x.length : Nat) : Int) == -1) = true := fun e => by have := beq_iff_eq.1 e; omega
    rw [if_neg hb]
    simp only [Int.toNat_natCast, Nat.add_zero, List.length_cons, List.length_nil, Nat.zero_add]
    rw [List.take_left, List.drop_append, List.drop_eq_nil_of_le (by omega : x.length ≤ x.length + 1)]
    simp only [List.nil_append, Nat.add_sub_cancel_left, List.drop_succ_cons, List.drop_zero]
    rw [splitK_join c ys y (fun z hz => h z (List.mem_cons_of_mem _ hz))]
theorem count_join (c : UInt8) : ∀ (xs : List (List UInt8)) (x : List UInt8), (∀ y ∈ x :: xs, c ∉ y) → (join (x :: xs) [c]).count c = xs.length
  | [], x, h => by rw [join_one]; exact List.count_eq_zero.2 (h x (by simp))
  | y :: ys, x, h => by
    have e : join (x :: y :: ys) [c] = x ++ c :: join (y :: ys) [c] := by
      rw [join_cons, join_cons]
      simp [joinTail]
    rw [e, List.count_append, List.count_cons_self, List.count_eq_zero.2 (h x (by simp)), count_join c ys y (fun z hz => h z (List.mem_cons_of_mem _ hz))]
    simp
/-- What was joined is split again. -/
theorem split_join (c : UInt8) (xs : List ByteArray) (x : ByteArray) (h : ∀ y ∈ x :: xs, c ∉ y.data.toList) :
    countB ⟨(join ((x :: xs).map (·.data.toList)) [c]).toArray⟩ ⟨#[c]⟩ = xs.length ∧
    splitB ⟨#[c]⟩ 0 xs.length ⟨(join ((x :: xs).map (·.data.toList)) [c]).toArray⟩ = x :: xs := by
  have h2 : ∀ y ∈ x.data.toList :: xs.map (·.data.toList), c ∉ y := by
    intro y hy
    rw [← List.map_cons (f := fun z : ByteArray => z.data.toList)] at hy
    obtain ⟨z, hz, rfl⟩ := List.mem_map.1 hy
    exact h z hz
  have hc := count_join c (xs.map (·.data.toList)) x.data.toList h2
  have hs := splitK_join c (xs.map (·.data.toList)) x.data.toList h2
  rw [List.length_map] at hc hs
  constructor
  · show count _ [c] = _
    rw [count_one]
    exact hc
  · have hd := splitB_data ⟨#[c]⟩ 0 xs.length ⟨(join ((x :: xs).map (·.data.toList)) [c]).toArray⟩
    have e : splitK [c] 0 xs.length (join ((x :: xs).map (·.data.toList)) [c]) = (x :: xs).map (·.data.toList) := hs
    rw [show (⟨#[c]⟩ : ByteArray).data.toList = [c] from rfl, show (⟨(join ((x :: xs).map (·.data.toList)) [c]).toArray⟩ : ByteArray).data.toList = join ((x :: xs).map (·.data.toList)) [c] from rfl, e] at hd
    exact (List.map_inj_right (fun a b hab => by apply ByteArray.ext; exact Array.toList_inj.1 hab)).1 hd
end YtmgcapccgncmkaaDoor.Ld
end Go.Proofs
