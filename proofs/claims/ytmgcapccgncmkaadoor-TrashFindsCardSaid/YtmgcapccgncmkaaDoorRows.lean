/-
  NARROWER THAN 'FOR EVERY INPUT', by the rows' own cells (each row's printed sentence says how): LoadDraws: laid · LoadScripts: laid · LoadRight: laid · ImgKeeps: laid · TrashFinds: laid · TrashEmpties: laid.
  DERIVED. THE GIVEN ROWS OF THIS SEAT. 6 by the template 'for every input the law returns true; each argument reads behind the call as it read before'; 0 by the template 'total and deterministic' (their statements: YtmgcapccgncmkaaDoorTotals.lean).
  GIVEN WITH THE SEED: the statements are not yours to turn. If you find one false, say at which input.
  Laid BY PROGRAM, IN A SANDBOX (cutbox-rows.mjs): the forced cells as the released guide's own fill.sh prints them over the translation 102932ed1b5b2436… (all of the seat's roots in one cut). By AI agents, Wed Nov 11 2026. No macro, syntax, notation, axiom, sorry.
-/
import Derived.Test.YtmgcapccgncmkaaDoorChecked
import GoSem.PinnedTables
import GoSem.Claim
import GoSem.ClaimJoined
import GoSem.ClaimMapViews
import Derived.JoinedTies
import Derived.KernelRfl
namespace Go.Proofs.YtmgcapccgncmkaaDoor
/- THE CELL 'sum', in the pinned program and in every row, IS THE sha256 OF THE DUMP (.gsa) THAT YtmgcapccgncmkaaDoorProg.lean LOADS. Nothing in Lean hashes anything: it is a label: what it is worth is what the hold of that sum in a sandbox is worth. -/
noncomputable def Tryd.pinned : Pinned := { name := "ytmgcapccgncmkaadoor", sum := "102932ed1b5b24368f78a792ed87c68834228ddd6091893afc0d9ae2db69c7eb", checked := Tryd.checked }
namespace Rows
def none {H : Type} : Left H := { results := [], args := [] }

/- WHAT THE LISTED PACKAGE-LEVEL VARIABLES READ AS WHEN THE CALL BEGINS. Each datum BY PROGRAM (the guide's laid-datum.mjs) off the statement by which the dump's own 'gosem.cut.vars' lays the variable. In a bare row this is a premise. The card (YtmgcapccgncmkaaDoorCards.lean) ties it to the program's text. -/
def laid_provost_text_marks {H : Type} : DataW H := .agg [.lit (.int .i64 0), .lit (.int .i64 0), .lit (.int .i64 0), .lit (.int .i64 0), .lit (.int .i64 0), .lit (.int .i64 0), .lit (.int .i64 0), .lit (.int .i64 0), .lit (.int .i64 0), .lit (.int .i64 0), .lit (.int .i64 0), .lit (.int .i64 0), .lit (.int .i64 0), .lit (.int .i64 7), .lit (.int .i64 6), .lit (.int .i64 0), .lit (.int .i64 0), .lit (.int .i64 0), .lit (.int .i64 0), .lit (.int .i64 0), .lit (.int .i64 0), .lit (.int .i64 0), .lit (.int .i64 0), .lit (.int .i64 0), .lit (.int .i64 0), .lit (.int .i64 0), .lit (.int .i64 0), .lit (.int .i64 0), .lit (.int .i64 0), .lit (.int .i64 0), .lit (.int .i64 0), .lit (.int .i64 0), .lit (.int .i64 0), .lit (.int .i64 0), .lit (.int .i64 0), .lit (.int .i64 0), .lit (.int .i64 0), .lit (.int .i64 0), .lit (.int .i64 0), .lit (.int .i64 0), .lit (.int .i64 0), .lit (.int .i64 0), .lit (.int .i64 0), .lit (.int .i64 0), .lit (.int .i64 0), .lit (.int .i64 0), .lit (.int .i64 0), .lit (.int .i64 0), .lit (.int .i64 0), .lit (.int .i64 0), .lit (.int .i64 0), .lit (.int .i64 0), .lit (.int .i64 0), .lit (.int .i64 0), .lit (.int .i64 0), .lit (.int .i64 0), .lit (.int .i64 0), .lit (.int .i64 0), .lit (.int .i64 0), .lit (.int .i64 0), .lit (.int .i64 0), .lit (.int .i64 0), .lit (.int .i64 0), .lit (.int .i64 4)]
def laid_provost_script_verbs {H : Type} : DataW H := .agg [.agg [.lit (.string []), .lit (.int .i64 0), .lit (.int .i64 0)], .agg [.lit (.string [99, 111, 110, 110, 101, 99, 116]), .lit (.int .i64 0), .lit (.int .i64 0)], .agg [.lit (.string [98, 121, 116, 101, 115]), .lit (.int .i64 1), .lit (.int .i64 1)], .agg [.lit (.string [114, 101, 97, 100]), .lit (.int .i64 1), .lit (.int .i64 0)], .agg [.lit (.string [104, 97, 110, 103]), .lit (.int .i64 1), .lit (.int .i64 0)], .agg [.lit (.string [116, 105, 99, 107]), .lit (.int .i64 0), .lit (.int .i64 0)], .agg [.lit (.string [114, 111, 117, 110, 100]), .lit (.int .i64 0), .lit (.int .i64 0)], .agg [.lit (.string [112, 105, 99, 107]), .lit (.int .i64 1), .lit (.int .i64 0)], .agg [.lit (.string [102, 97, 105, 108]), .lit (.int .i64 1), .lit (.int .i64 0)], .agg [.lit (.string [101, 120, 105, 116]), .lit (.int .i64 3), .lit (.int .i64 0)], .agg [.lit (.string [112, 114, 111, 98, 101]), .lit (.int .i64 3), .lit (.int .i64 0)], .agg [.lit (.string [103, 114, 111, 119]), .lit (.int .i64 5), .lit (.int .i64 0)], .agg [.lit (.string [115, 116, 114, 97, 121]), .lit (.int .i64 1), .lit (.int .i64 0)], .agg [.lit (.string [108, 105, 115, 116]), .lit (.int .i64 1), .lit (.int .i64 0)], .agg [.lit (.string [103, 101, 116]), .lit (.int .i64 2), .lit (.int .i64 0)], .agg [.lit (.string [115, 116, 97, 116, 115]), .lit (.int .i64 2), .lit (.int .i64 0)], .agg [.lit (.string [107, 105, 108, 108]), .lit (.int .i64 3), .lit (.int .i64 0)], .agg [.lit (.string [111, 112, 101, 110]), .lit (.int .i64 3), .lit (.int .i64 0)], .agg [.lit (.string [119, 114, 105, 116, 101]), .lit (.int .i64 2), .lit (.int .i64 2)], .agg [.lit (.string [116, 97, 107, 101]), .lit (.int .i64 3), .lit (.int .i64 0)], .agg [.lit (.string [99, 108, 111, 115, 101]), .lit (.int .i64 2), .lit (.int .i64 0)], .agg [.lit (.string [119, 97, 116, 99, 104]), .lit (.int .i64 2), .lit (.int .i64 0)], .agg [.lit (.string [99, 97, 110, 99, 101, 108]), .lit (.int .i64 2), .lit (.int .i64 0)], .agg [.lit (.string [114, 117, 110]), .lit (.int .i64 4), .lit (.int .i64 2)]]
def laid_unicode_utf8_acceptRanges {H : Type} : DataW H := .agg [.agg [.lit (.int .u8 128), .lit (.int .u8 191)], .agg [.lit (.int .u8 160), .lit (.int .u8 191)], .agg [.lit (.int .u8 128), .lit (.int .u8 159)], .agg [.lit (.int .u8 144), .lit (.int .u8 191)], .agg [.lit (.int .u8 128), .lit (.int .u8 143)], .agg [.lit (.int .u8 0), .lit (.int .u8 0)], .agg [.lit (.int .u8 0), .lit (.int .u8 0)], .agg [.lit (.int .u8 0), .lit (.int .u8 0)], .agg [.lit (.int .u8 0), .lit (.int .u8 0)], .agg [.lit (.int .u8 0), .lit (.int .u8 0)], .agg [.lit (.int .u8 0), .lit (.int .u8 0)], .agg [.lit (.int .u8 0), .lit (.int .u8 0)], .agg [.lit (.int .u8 0), .lit (.int .u8 0)], .agg [.lit (.int .u8 0), .lit (.int .u8 0)], .agg [.lit (.int .u8 0), .lit (.int .u8 0)], .agg [.lit (.int .u8 0), .lit (.int .u8 0)]]
/-- One of Go's own tables, pinned by name: the form's constant. -/
def laid_unicode_utf8_first : DataW Unit := Go.Pinned.utf8First

/-- 'provostlaw48.LoadDraws': WHATEVER THE INPUT: true; the input reads as it did. -/
def loadDrawsSpec : ChangeSpec := { name := "loadDraws", fn := fun _ => fun
  | [d1, d2] => { results := [.lit (.bool true)], args := [d1, d2] }
  | _ => none }
def loadDrawsRow : OpenClaim := { program := "ytmgcapccgncmkaadoor", sum := "102932ed1b5b24368f78a792ed87c68834228ddd6091893afc0d9ae2db69c7eb", func := "provost/provostlaw48.LoadDraws", spec := "loadDraws", inPlace := ["internal/abi.NoEscape", "internal/bytealg.MakeNoZero"], named := ["provost/script.verbs", "provost/text.marks"], apart := false, laid := [("provost/text.marks", laid_provost_text_marks), ("provost/script.verbs", laid_provost_script_verbs)] }
def LoadDrawsSaid : Prop := loadDrawsRow.holds Tryd.pinned (OpenSpec.ofChange loadDrawsSpec)

/-- ITS FALSE NEIGHBOUR: 'it returns false'. Refute it at one input. -/
def loadDrawsWrong : ChangeSpec := { name := "loadDraws", fn := fun _ => fun
  | [d1, d2] => { results := [.lit (.bool false)], args := [d1, d2] }
  | _ => none }
def LoadDrawsWrongFalsely : Prop := loadDrawsRow.holds Tryd.pinned (OpenSpec.ofChange loadDrawsWrong)

/-- 'provostlaw48.LoadScripts': WHATEVER THE INPUT: true; the input reads as it did. -/
def loadScriptsSpec : ChangeSpec := { name := "loadScripts", fn := fun _ => fun
  | [d1, d2] => { results := [.lit (.bool true)], args := [d1, d2] }
  | _ => none }
def loadScriptsRow : OpenClaim := { program := "ytmgcapccgncmkaadoor", sum := "102932ed1b5b24368f78a792ed87c68834228ddd6091893afc0d9ae2db69c7eb", func := "provost/provostlaw48.LoadScripts", spec := "loadScripts", inPlace := ["internal/abi.NoEscape", "internal/bytealg.MakeNoZero"], named := ["provost/script.verbs", "provost/text.marks"], apart := false, laid := [("provost/text.marks", laid_provost_text_marks), ("provost/script.verbs", laid_provost_script_verbs)] }
def LoadScriptsSaid : Prop := loadScriptsRow.holds Tryd.pinned (OpenSpec.ofChange loadScriptsSpec)

/-- ITS FALSE NEIGHBOUR: 'it returns false'. Refute it at one input. -/
def loadScriptsWrong : ChangeSpec := { name := "loadScripts", fn := fun _ => fun
  | [d1, d2] => { results := [.lit (.bool false)], args := [d1, d2] }
  | _ => none }
def LoadScriptsWrongFalsely : Prop := loadScriptsRow.holds Tryd.pinned (OpenSpec.ofChange loadScriptsWrong)

/-- 'provostlaw48.LoadRight': WHATEVER THE INPUT: true; the input reads as it did. -/
def loadRightSpec : ChangeSpec := { name := "loadRight", fn := fun _ => fun
  | [d1, d2, d3] => { results := [.lit (.bool true)], args := [d1, d2, d3] }
  | _ => none }
def loadRightRow : OpenClaim := { program := "ytmgcapccgncmkaadoor", sum := "102932ed1b5b24368f78a792ed87c68834228ddd6091893afc0d9ae2db69c7eb", func := "provost/provostlaw48.LoadRight", spec := "loadRight", inPlace := ["internal/abi.NoEscape", "internal/bytealg.MakeNoZero", "internal/bytealg.CountString", "internal/bytealg.IndexByteString", "internal/bytealg.IndexString"], named := ["provost/script.verbs", "provost/text.marks", "unicode/utf8.first", "unicode/utf8.acceptRanges", "internal/bytealg.MaxLen"], apart := false, laid := [("unicode/utf8.acceptRanges", laid_unicode_utf8_acceptRanges), ("provost/text.marks", laid_provost_text_marks), ("provost/script.verbs", laid_provost_script_verbs), ("unicode/utf8.first", laid_unicode_utf8_first)] }
def LoadRightSaid : Prop := loadRightRow.holds Tryd.pinned (OpenSpec.ofChange loadRightSpec)

/-- ITS FALSE NEIGHBOUR: 'it returns false'. Refute it at one input. -/
def loadRightWrong : ChangeSpec := { name := "loadRight", fn := fun _ => fun
  | [d1, d2, d3] => { results := [.lit (.bool false)], args := [d1, d2, d3] }
  | _ => none }
def LoadRightWrongFalsely : Prop := loadRightRow.holds Tryd.pinned (OpenSpec.ofChange loadRightWrong)

/-- 'provostlaw18.ImgKeeps': WHATEVER THE INPUT: true; the input reads as it did. -/
def imgKeepsSpec : ChangeSpec := { name := "imgKeeps", fn := fun _ => fun
  | [d1, d2] => { results := [.lit (.bool true)], args := [d1, d2] }
  | _ => none }
def imgKeepsRow : OpenClaim := { program := "ytmgcapccgncmkaadoor", sum := "102932ed1b5b24368f78a792ed87c68834228ddd6091893afc0d9ae2db69c7eb", func := "provost/provostlaw18.ImgKeeps", spec := "imgKeeps", inPlace := ["internal/bytealg.IndexByteString", "internal/bytealg.IndexString"], unfollowed := true, recurses := true, named := ["internal/bytealg.MaxLen", "provost/text.marks"], apart := false, laid := [("provost/text.marks", laid_provost_text_marks)] }
def ImgKeepsSaid : Prop := imgKeepsRow.holds Tryd.pinned (OpenSpec.ofChange imgKeepsSpec)

/-- ITS FALSE NEIGHBOUR: 'it returns false'. Refute it at one input. -/
def imgKeepsWrong : ChangeSpec := { name := "imgKeeps", fn := fun _ => fun
  | [d1, d2] => { results := [.lit (.bool false)], args := [d1, d2] }
  | _ => none }
def ImgKeepsWrongFalsely : Prop := imgKeepsRow.holds Tryd.pinned (OpenSpec.ofChange imgKeepsWrong)

/-- 'provostlaw33.TrashFinds': WHATEVER THE INPUT: true; the input reads as it did. -/
def trashFindsSpec : ChangeSpec := { name := "trashFinds", fn := fun _ => fun
  | [d1, d2, d3] => { results := [.lit (.bool true)], args := [d1, d2, d3] }
  | _ => none }
def trashFindsRow : OpenClaim := { program := "ytmgcapccgncmkaadoor", sum := "102932ed1b5b24368f78a792ed87c68834228ddd6091893afc0d9ae2db69c7eb", func := "provost/provostlaw33.TrashFinds", spec := "trashFinds", inPlace := ["internal/bytealg.IndexByteString", "internal/bytealg.IndexString"], unfollowed := true, recurses := true, named := ["internal/bytealg.MaxLen", "provost/text.marks"], apart := false, laid := [("provost/text.marks", laid_provost_text_marks)] }
def TrashFindsSaid : Prop := trashFindsRow.holds Tryd.pinned (OpenSpec.ofChange trashFindsSpec)

/-- ITS FALSE NEIGHBOUR: 'it returns false'. Refute it at one input. -/
def trashFindsWrong : ChangeSpec := { name := "trashFinds", fn := fun _ => fun
  | [d1, d2, d3] => { results := [.lit (.bool false)], args := [d1, d2, d3] }
  | _ => none }
def TrashFindsWrongFalsely : Prop := trashFindsRow.holds Tryd.pinned (OpenSpec.ofChange trashFindsWrong)

/-- 'provostlaw33.TrashEmpties': WHATEVER THE INPUT: true; the input reads as it did. -/
def trashEmptiesSpec : ChangeSpec := { name := "trashEmpties", fn := fun _ => fun
  | [d1, d2, d3] => { results := [.lit (.bool true)], args := [d1, d2, d3] }
  | _ => none }
def trashEmptiesRow : OpenClaim := { program := "ytmgcapccgncmkaadoor", sum := "102932ed1b5b24368f78a792ed87c68834228ddd6091893afc0d9ae2db69c7eb", func := "provost/provostlaw33.TrashEmpties", spec := "trashEmpties", inPlace := ["internal/bytealg.IndexByteString", "internal/bytealg.IndexString"], unfollowed := true, recurses := true, named := ["internal/bytealg.MaxLen", "provost/text.marks"], apart := false, laid := [("provost/text.marks", laid_provost_text_marks)] }
def TrashEmptiesSaid : Prop := trashEmptiesRow.holds Tryd.pinned (OpenSpec.ofChange trashEmptiesSpec)

/-- ITS FALSE NEIGHBOUR: 'it returns false'. Refute it at one input. -/
def trashEmptiesWrong : ChangeSpec := { name := "trashEmpties", fn := fun _ => fun
  | [d1, d2, d3] => { results := [.lit (.bool false)], args := [d1, d2, d3] }
  | _ => none }
def TrashEmptiesWrongFalsely : Prop := trashEmptiesRow.holds Tryd.pinned (OpenSpec.ofChange trashEmptiesWrong)

/- THE SECOND FORM. 'bulk': how many values and letters a reading holds, each counted each time it is reached (what is shared counts as often as it is met; a slice's spare places count too). A statement '..UptoSaid' is the law's where the arguments, and the package variables that the reading takes, are together of bulk at most 1048576: NARROWER than '..Said'. Prove '..Said' where nothing that the law and all that it calls make is longer than what came in: it says more and counts as full. Else prove '..UptoSaid'. A law counts once. -/
mutual
def uptoBulk {H : Type} : DataW H → Nat
  | .lit (.string bytes) => bytes.length + 1
  | .lit _ => 1
  | .nil => 1
  | .ptr d => uptoBulk d + 1
  | .slice elems spare => uptoBulkAll elems + uptoBulkAll spare + 1
  | .agg parts => uptoBulkAll parts + 1
  | .iface _ d => uptoBulk d + 1
  | .map entries => uptoBulkEntries entries + 1
  | .held _ => 1
def uptoBulkAll {H : Type} : List (DataW H) → Nat
  | [] => 0
  | d :: r => uptoBulk d + uptoBulkAll r
def uptoBulkEntries {H : Type} : List (Lit × DataW H) → Nat
  | [] => 0
  | x :: r => uptoBulkEntry x + uptoBulkEntries r
def uptoBulkEntry {H : Type} : Lit × DataW H → Nat
  | (.string bytes, d) => bytes.length + uptoBulk d + 1
  | (_, d) => uptoBulk d + 1
 end
def uptoSmall : (H : Type) → List (DataW H) → Bool := fun _ ds => decide (uptoBulkAll ds ≤ 1048576)
def OpenSpec.upto (s : _root_.Go.ChangeSpec) : _root_.Go.OpenSpec := { _root_.Go.OpenSpec.ofChange s with cond := some uptoSmall }

/-- 'provostlaw48.LoadDraws', WHERE WHAT IT READS IS OF BULK AT MOST 1048576: true; the input reads as it did. -/
def loadDrawsUptoRow : OpenClaim := { program := "ytmgcapccgncmkaadoor", sum := "102932ed1b5b24368f78a792ed87c68834228ddd6091893afc0d9ae2db69c7eb", func := "provost/provostlaw48.LoadDraws", spec := "loadDraws", inPlace := ["internal/abi.NoEscape", "internal/bytealg.MakeNoZero"], named := ["provost/script.verbs", "provost/text.marks"], apart := false, laid := [("provost/text.marks", laid_provost_text_marks), ("provost/script.verbs", laid_provost_script_verbs)], narrowed := true }
def LoadDrawsUptoSaid : Prop := loadDrawsUptoRow.holds Tryd.pinned (OpenSpec.upto loadDrawsSpec)

/-- 'provostlaw48.LoadScripts', WHERE WHAT IT READS IS OF BULK AT MOST 1048576: true; the input reads as it did. -/
def loadScriptsUptoRow : OpenClaim := { program := "ytmgcapccgncmkaadoor", sum := "102932ed1b5b24368f78a792ed87c68834228ddd6091893afc0d9ae2db69c7eb", func := "provost/provostlaw48.LoadScripts", spec := "loadScripts", inPlace := ["internal/abi.NoEscape", "internal/bytealg.MakeNoZero"], named := ["provost/script.verbs", "provost/text.marks"], apart := false, laid := [("provost/text.marks", laid_provost_text_marks), ("provost/script.verbs", laid_provost_script_verbs)], narrowed := true }
def LoadScriptsUptoSaid : Prop := loadScriptsUptoRow.holds Tryd.pinned (OpenSpec.upto loadScriptsSpec)

/-- 'provostlaw48.LoadRight', WHERE WHAT IT READS IS OF BULK AT MOST 1048576: true; the input reads as it did. -/
def loadRightUptoRow : OpenClaim := { program := "ytmgcapccgncmkaadoor", sum := "102932ed1b5b24368f78a792ed87c68834228ddd6091893afc0d9ae2db69c7eb", func := "provost/provostlaw48.LoadRight", spec := "loadRight", inPlace := ["internal/abi.NoEscape", "internal/bytealg.MakeNoZero", "internal/bytealg.CountString", "internal/bytealg.IndexByteString", "internal/bytealg.IndexString"], named := ["provost/script.verbs", "provost/text.marks", "unicode/utf8.first", "unicode/utf8.acceptRanges", "internal/bytealg.MaxLen"], apart := false, laid := [("unicode/utf8.acceptRanges", laid_unicode_utf8_acceptRanges), ("provost/text.marks", laid_provost_text_marks), ("provost/script.verbs", laid_provost_script_verbs), ("unicode/utf8.first", laid_unicode_utf8_first)], narrowed := true }
def LoadRightUptoSaid : Prop := loadRightUptoRow.holds Tryd.pinned (OpenSpec.upto loadRightSpec)

/-- 'provostlaw18.ImgKeeps', WHERE WHAT IT READS IS OF BULK AT MOST 1048576: true; the input reads as it did. -/
def imgKeepsUptoRow : OpenClaim := { program := "ytmgcapccgncmkaadoor", sum := "102932ed1b5b24368f78a792ed87c68834228ddd6091893afc0d9ae2db69c7eb", func := "provost/provostlaw18.ImgKeeps", spec := "imgKeeps", inPlace := ["internal/bytealg.IndexByteString", "internal/bytealg.IndexString"], unfollowed := true, recurses := true, named := ["internal/bytealg.MaxLen", "provost/text.marks"], apart := false, laid := [("provost/text.marks", laid_provost_text_marks)], narrowed := true }
def ImgKeepsUptoSaid : Prop := imgKeepsUptoRow.holds Tryd.pinned (OpenSpec.upto imgKeepsSpec)

/-- 'provostlaw33.TrashFinds', WHERE WHAT IT READS IS OF BULK AT MOST 1048576: true; the input reads as it did. -/
def trashFindsUptoRow : OpenClaim := { program := "ytmgcapccgncmkaadoor", sum := "102932ed1b5b24368f78a792ed87c68834228ddd6091893afc0d9ae2db69c7eb", func := "provost/provostlaw33.TrashFinds", spec := "trashFinds", inPlace := ["internal/bytealg.IndexByteString", "internal/bytealg.IndexString"], unfollowed := true, recurses := true, named := ["internal/bytealg.MaxLen", "provost/text.marks"], apart := false, laid := [("provost/text.marks", laid_provost_text_marks)], narrowed := true }
def TrashFindsUptoSaid : Prop := trashFindsUptoRow.holds Tryd.pinned (OpenSpec.upto trashFindsSpec)

/-- 'provostlaw33.TrashEmpties', WHERE WHAT IT READS IS OF BULK AT MOST 1048576: true; the input reads as it did. -/
def trashEmptiesUptoRow : OpenClaim := { program := "ytmgcapccgncmkaadoor", sum := "102932ed1b5b24368f78a792ed87c68834228ddd6091893afc0d9ae2db69c7eb", func := "provost/provostlaw33.TrashEmpties", spec := "trashEmpties", inPlace := ["internal/bytealg.IndexByteString", "internal/bytealg.IndexString"], unfollowed := true, recurses := true, named := ["internal/bytealg.MaxLen", "provost/text.marks"], apart := false, laid := [("provost/text.marks", laid_provost_text_marks)], narrowed := true }
def TrashEmptiesUptoSaid : Prop := trashEmptiesUptoRow.holds Tryd.pinned (OpenSpec.upto trashEmptiesSpec)

end Rows
end Go.Proofs.YtmgcapccgncmkaaDoor
