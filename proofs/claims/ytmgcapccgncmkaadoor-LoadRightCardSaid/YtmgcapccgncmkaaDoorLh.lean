/- strings.Join and strings.Builder: the contracts of the kit's shelf, laid over this program. -/
import Derived.Test.YtmgcapccgncmkaaDoorProg
import Derived.Shelf.Strings.OnBuilder
import Derived.KernelRfl
set_option linter.unusedSimpArgs false
set_option linter.unusedVariables false
namespace Go.Proofs
open Go.Shelf
def Tryd.laysJoin_ren : Go.Shelf.Ren := ⟨fun | 156 => 57 | 165 => 88 | 166 => 77 | 169 => 78 | 240 => 100 | 241 => 108 | 276 => 116 | 277 => 123 | n => n, fun | 31 => 69 | 9 => 9 | 3 => 3 | 4 => 4 | 0 => 0 | 20 => 20 | 72 => 140 | 76 => 141 | 70 => 138 | 37 => 101 | 75 => 49 | 127 => 163 | 164 => 177 | 5 => 5 | 80 => 143 | n => n, fun | n => n⟩
theorem Tryd.laysJoin : Go.Proofs.Lays.n156 Tryd.prog Tryd.laysJoin_ren := {
  mixed := by kernel_rfl,
  f156 := Tryd.func57.trans (congrArg some (by kernel_rfl)),
  f165 := Tryd.func88.trans (congrArg some (by kernel_rfl)),
  f166 := Tryd.func77.trans (congrArg some (by kernel_rfl)),
  f169 := Tryd.func78.trans (congrArg some (by kernel_rfl)),
  f240 := Tryd.func100.trans (congrArg some (by kernel_rfl)),
  f241 := Tryd.func108.trans (congrArg some (by kernel_rfl)),
  f276 := Tryd.func116.trans (congrArg some (by kernel_rfl)),
  f277 := Tryd.func123.trans (congrArg some (by kernel_rfl)),
  t0 := Tryd.underlying0,
  a0 := Tryd.isAgg0,
  z0 := Tryd.sizeOf0,
  v0 := Tryd.zeroValue0,
  t3 := Tryd.underlying3,
  a3 := Tryd.isAgg3,
  z3 := Tryd.sizeOf3,
  v3 := Tryd.zeroValue3,
  t4 := Tryd.underlying4,
  a4 := Tryd.isAgg4,
  z4 := Tryd.sizeOf4,
  v4 := Tryd.zeroValue4,
  t9 := Tryd.underlying9,
  a9 := Tryd.isAgg9,
  z9 := Tryd.sizeOf9,
  v9 := Tryd.zeroValue9,
  t20 := Tryd.underlying20,
  a20 := Tryd.isAgg20,
  z20 := Tryd.sizeOf20,
  v20 := Tryd.zeroValue20,
  t31 := Tryd.underlying69,
  a31 := Tryd.isAgg69,
  z31 := Tryd.sizeOf69,
  v31 := Tryd.zeroValue69,
  t37 := Tryd.underlying101,
  a37 := Tryd.isAgg101,
  z37 := Tryd.sizeOf101,
  v37 := Tryd.zeroValue101,
  t70 := Tryd.underlying138,
  a70 := Tryd.isAgg138,
  z70 := Tryd.sizeOf138,
  v70 := Tryd.zeroValue138,
  t72 := Tryd.underlying140,
  a72 := Tryd.isAgg140,
  z72 := Tryd.sizeOf140,
  v72 := Tryd.zeroValue140,
  t75 := Tryd.underlying49,
  a75 := Tryd.isAgg49,
  z75 := Tryd.sizeOf49,
  v75 := Tryd.zeroValue49,
  t76 := Tryd.underlying141,
  a76 := Tryd.isAgg141,
  z76 := Tryd.sizeOf141,
  v76 := Tryd.zeroValue141,
  t127 := Tryd.underlying163,
  a127 := Tryd.isAgg163,
  z127 := Tryd.sizeOf163,
  v127 := Tryd.zeroValue163,
  t164 := Tryd.underlying177,
  a164 := Tryd.isAgg177,
  z164 := Tryd.sizeOf177,
  v164 := Tryd.zeroValue177 }

def Tryd.laysStr_ren : Go.Shelf.Ren := ⟨fun | 169 => 78 | n => n, fun | 70 => 138 | 9 => 9 | 0 => 0 | 72 => 140 | 37 => 101 | 127 => 163 | 3 => 3 | 5 => 5 | n => n, fun | n => n⟩
theorem Tryd.laysStr : Go.Proofs.Lays.n169 Tryd.prog Tryd.laysStr_ren := {
  mixed := by kernel_rfl,
  f169 := Tryd.func78.trans (congrArg some (by kernel_rfl)),
  t0 := Tryd.underlying0,
  a0 := Tryd.isAgg0,
  z0 := Tryd.sizeOf0,
  v0 := Tryd.zeroValue0,
  t3 := Tryd.underlying3,
  a3 := Tryd.isAgg3,
  z3 := Tryd.sizeOf3,
  v3 := Tryd.zeroValue3,
  t9 := Tryd.underlying9,
  a9 := Tryd.isAgg9,
  z9 := Tryd.sizeOf9,
  v9 := Tryd.zeroValue9,
  t37 := Tryd.underlying101,
  a37 := Tryd.isAgg101,
  z37 := Tryd.sizeOf101,
  v37 := Tryd.zeroValue101,
  t70 := Tryd.underlying138,
  a70 := Tryd.isAgg138,
  z70 := Tryd.sizeOf138,
  v70 := Tryd.zeroValue138,
  t72 := Tryd.underlying140,
  a72 := Tryd.isAgg140,
  z72 := Tryd.sizeOf140,
  v72 := Tryd.zeroValue140,
  t127 := Tryd.underlying163,
  a127 := Tryd.isAgg163,
  z127 := Tryd.sizeOf163,
  v127 := Tryd.zeroValue163 }

theorem Tryd.extraJoin : Builder.Extra Tryd.prog Tryd.laysJoin_ren := {
  sizeBuilder := by kernel_rfl,
  liesBuilder := by kernel_rfl,
  t5 := Tryd.underlying5,
  a5 := Tryd.isAgg5,
  z5 := Tryd.sizeOf5,
  v5 := Tryd.zeroValue5,
  infoByte := by kernel_rfl,
  cellsByte := by kernel_rfl,
  sizeByte := by kernel_rfl,
  neB5 := by decide }
open Go.RowKit in
theorem Tryd.join_any (bk o c : Nat) (xs : List ByteArray) (sep : ByteArray) (w : World)
    (hcells : ∀ (j : Nat) x, xs[j]? = some x → w.cell? ⟨bk, o + j, none⟩ = some (.string x))
    (hbk : bk < w.heap.size) (hN : xs.length ≤ 140737488355328) (hcap : xs.length ≤ c)
    (hlen : (Lib.join (xs.map (·.data.toList)) sep.data.toList).length ≤ 140737488355328) :
    Calls Tryd.prog 57 #[.slice (some ⟨bk, o, none⟩) xs.length c, .string sep] w fun e w' => e = .returned (.string ⟨(Lib.join (xs.map (·.data.toList)) sep.data.toList).toArray⟩) ∧ Below w.heap.size w w' :=
  Any.strings_Join Tryd.laysJoin Tryd.extraJoin bk o c xs sep w hcells hbk hN hcap hlen
open Go.RowKit in
theorem Tryd.ws_any (B b : Nat) (bs : List Value) (s : ByteArray) (w : World) (h : Lib.IsBuilder 140 5 B b bs w) (hlen : bs.length + s.size ≤ 140737488355328) (hBw : B ≤ w.heap.size) :
    Calls Tryd.prog 77 #[.pointer (some ⟨b, 0, none⟩), .string s] w fun e w' => e = .returned (.tuple #[.int .i64 s.size, .nilIface]) ∧ (Lib.BuilderAt 140 5 B b (.pointer (some ⟨b, 0, none⟩)) (bs ++ Lib.strCells s) w' ∧ Below B w w') :=
  Any.Builder_WriteString { Tryd.laysJoin with } Tryd.extraJoin B b bs s w h hlen hBw
open Go.RowKit in
theorem Tryd.str_any (B b : Nat) (l : List UInt8) (w : World) (h : Lib.IsBuilder 140 5 B b (Lib.byteCells l) w) (hBw : B ≤ w.heap.size) :
    Calls Tryd.prog 78 #[.pointer (some ⟨b, 0, none⟩)] w fun e w' => e = .returned (.string ⟨l.toArray⟩) ∧ Below B w w' :=
  Any.Builder_String_any { Tryd.laysJoin with } Tryd.extraJoin B b l w h hBw
end Go.Proofs
