/-
  No cell of these rows narrows 'for every input' (looked for: loops, veiled, ifaces, maps, wideKeys, modest, calm, conditions, laid).
  DERIVED. THE GIVEN ROWS OF THIS SEAT. 12 by the template 'for every input the law returns true; each argument reads behind the call as it read before'; 0 by the template 'total and deterministic' (their statements: YtnceglkoolfncaaTotals.lean).
  GIVEN WITH THE SEED: the statements are not yours to turn. If you find one false, say at which input.
  Laid BY PROGRAM, IN A SANDBOX (cutbox-rows.mjs): the forced cells as the released guide's own fill.sh prints them over the translation 13b34c895afa88fc… (all of the seat's roots in one cut). By AI agents, Wed Nov 11 2026. No macro, syntax, notation, axiom, sorry.
-/
import Derived.Test.YtnceglkoolfncaaChecked
import GoSem.Claim
import GoSem.ClaimJoined
import GoSem.ClaimMapViews
import Derived.JoinedTies
import Derived.KernelRfl
namespace Go.Proofs.Ytnceglkoolfncaa
/- THE CELL 'sum', in the pinned program and in every row, IS THE sha256 OF THE DUMP (.gsa) THAT YtnceglkoolfncaaProg.lean LOADS. Nothing in Lean hashes anything: it is a label: what it is worth is what the hold of that sum in a sandbox is worth. -/
noncomputable def Try.pinned : Pinned := { name := "ytnceglkoolfncaa", sum := "13b34c895afa88fcb4f22528da95896ee5c29ca6a6e014bb4c2f753c3797ed57", checked := Try.checked }
namespace Rows
def none {H : Type} : Left H := { results := [], args := [] }

/-- 'provostlaw28.TicketOrder': WHATEVER THE INPUT: true; the input reads as it did. -/
def ticketOrderSpec : ChangeSpec := { name := "ticketOrder", fn := fun _ => fun
  | [d1, d2] => { results := [.lit (.bool true)], args := [d1, d2] }
  | _ => none }
def ticketOrderRow : OpenClaim := { program := "ytnceglkoolfncaa", sum := "13b34c895afa88fcb4f22528da95896ee5c29ca6a6e014bb4c2f753c3797ed57", func := "provost/provostlaw28.TicketOrder", spec := "ticketOrder", plainKeys := false, apart := false }
def TicketOrderSaid : Prop := ticketOrderRow.holds Try.pinned (OpenSpec.ofChange ticketOrderSpec)

/-- ITS FALSE NEIGHBOUR: 'it returns false'. Refute it at one input. -/
def ticketOrderWrong : ChangeSpec := { name := "ticketOrder", fn := fun _ => fun
  | [d1, d2] => { results := [.lit (.bool false)], args := [d1, d2] }
  | _ => none }
def TicketOrderWrongFalsely : Prop := ticketOrderRow.holds Try.pinned (OpenSpec.ofChange ticketOrderWrong)

/-- 'provostlaw12.EvlogFollows': WHATEVER THE INPUT: true; the input reads as it did. -/
def evlogFollowsSpec : ChangeSpec := { name := "evlogFollows", fn := fun _ => fun
  | [d1, d2] => { results := [.lit (.bool true)], args := [d1, d2] }
  | _ => none }
def evlogFollowsRow : OpenClaim := { program := "ytnceglkoolfncaa", sum := "13b34c895afa88fcb4f22528da95896ee5c29ca6a6e014bb4c2f753c3797ed57", func := "provost/provostlaw12.EvlogFollows", spec := "evlogFollows", unfollowed := true, recurses := true, plainKeys := false, apart := false }
def EvlogFollowsSaid : Prop := evlogFollowsRow.holds Try.pinned (OpenSpec.ofChange evlogFollowsSpec)

/-- ITS FALSE NEIGHBOUR: 'it returns false'. Refute it at one input. -/
def evlogFollowsWrong : ChangeSpec := { name := "evlogFollows", fn := fun _ => fun
  | [d1, d2] => { results := [.lit (.bool false)], args := [d1, d2] }
  | _ => none }
def EvlogFollowsWrongFalsely : Prop := evlogFollowsRow.holds Try.pinned (OpenSpec.ofChange evlogFollowsWrong)

/-- 'provostlaw12.EvlogOnly': WHATEVER THE INPUT: true; the input reads as it did. -/
def evlogOnlySpec : ChangeSpec := { name := "evlogOnly", fn := fun _ => fun
  | [d1, d2] => { results := [.lit (.bool true)], args := [d1, d2] }
  | _ => none }
def evlogOnlyRow : OpenClaim := { program := "ytnceglkoolfncaa", sum := "13b34c895afa88fcb4f22528da95896ee5c29ca6a6e014bb4c2f753c3797ed57", func := "provost/provostlaw12.EvlogOnly", spec := "evlogOnly", unfollowed := true, recurses := true, plainKeys := false, apart := false }
def EvlogOnlySaid : Prop := evlogOnlyRow.holds Try.pinned (OpenSpec.ofChange evlogOnlySpec)

/-- ITS FALSE NEIGHBOUR: 'it returns false'. Refute it at one input. -/
def evlogOnlyWrong : ChangeSpec := { name := "evlogOnly", fn := fun _ => fun
  | [d1, d2] => { results := [.lit (.bool false)], args := [d1, d2] }
  | _ => none }
def EvlogOnlyWrongFalsely : Prop := evlogOnlyRow.holds Try.pinned (OpenSpec.ofChange evlogOnlyWrong)

/-- 'provostlaw15.PortPlays': WHATEVER THE INPUT: true; the input reads as it did. -/
def portPlaysSpec : ChangeSpec := { name := "portPlays", fn := fun _ => fun
  | [d1, d2, d3] => { results := [.lit (.bool true)], args := [d1, d2, d3] }
  | _ => none }
def portPlaysRow : OpenClaim := { program := "ytnceglkoolfncaa", sum := "13b34c895afa88fcb4f22528da95896ee5c29ca6a6e014bb4c2f753c3797ed57", func := "provost/provostlaw15.PortPlays", spec := "portPlays", inPlace := ["slices.overlaps[provost/port.held]"], unfollowed := true, recurses := true, plainKeys := false, apart := false }
def PortPlaysSaid : Prop := portPlaysRow.holds Try.pinned (OpenSpec.ofChange portPlaysSpec)

/-- ITS FALSE NEIGHBOUR: 'it returns false'. Refute it at one input. -/
def portPlaysWrong : ChangeSpec := { name := "portPlays", fn := fun _ => fun
  | [d1, d2, d3] => { results := [.lit (.bool false)], args := [d1, d2, d3] }
  | _ => none }
def PortPlaysWrongFalsely : Prop := portPlaysRow.holds Try.pinned (OpenSpec.ofChange portPlaysWrong)

/-- 'provostlaw15.PortOne': WHATEVER THE INPUT: true; the input reads as it did. -/
def portOneSpec : ChangeSpec := { name := "portOne", fn := fun _ => fun
  | [d1, d2] => { results := [.lit (.bool true)], args := [d1, d2] }
  | _ => none }
def portOneRow : OpenClaim := { program := "ytnceglkoolfncaa", sum := "13b34c895afa88fcb4f22528da95896ee5c29ca6a6e014bb4c2f753c3797ed57", func := "provost/provostlaw15.PortOne", spec := "portOne", inPlace := ["slices.overlaps[provost/port.held]"], unfollowed := true, recurses := true, plainKeys := false, apart := false }
def PortOneSaid : Prop := portOneRow.holds Try.pinned (OpenSpec.ofChange portOneSpec)

/-- ITS FALSE NEIGHBOUR: 'it returns false'. Refute it at one input. -/
def portOneWrong : ChangeSpec := { name := "portOne", fn := fun _ => fun
  | [d1, d2] => { results := [.lit (.bool false)], args := [d1, d2] }
  | _ => none }
def PortOneWrongFalsely : Prop := portOneRow.holds Try.pinned (OpenSpec.ofChange portOneWrong)

/-- 'provostlaw28.TicketPlays': WHATEVER THE INPUT: true; the input reads as it did. -/
def ticketPlaysSpec : ChangeSpec := { name := "ticketPlays", fn := fun _ => fun
  | [d1, d2] => { results := [.lit (.bool true)], args := [d1, d2] }
  | _ => none }
def ticketPlaysRow : OpenClaim := { program := "ytnceglkoolfncaa", sum := "13b34c895afa88fcb4f22528da95896ee5c29ca6a6e014bb4c2f753c3797ed57", func := "provost/provostlaw28.TicketPlays", spec := "ticketPlays", unfollowed := true, recurses := true, plainKeys := false, apart := false }
def TicketPlaysSaid : Prop := ticketPlaysRow.holds Try.pinned (OpenSpec.ofChange ticketPlaysSpec)

/-- ITS FALSE NEIGHBOUR: 'it returns false'. Refute it at one input. -/
def ticketPlaysWrong : ChangeSpec := { name := "ticketPlays", fn := fun _ => fun
  | [d1, d2] => { results := [.lit (.bool false)], args := [d1, d2] }
  | _ => none }
def TicketPlaysWrongFalsely : Prop := ticketPlaysRow.holds Try.pinned (OpenSpec.ofChange ticketPlaysWrong)

/-- 'provostlaw31.RelistNone': WHATEVER THE INPUT: true; the input reads as it did. -/
def relistNoneSpec : ChangeSpec := { name := "relistNone", fn := fun _ => fun
  | [d1, d2] => { results := [.lit (.bool true)], args := [d1, d2] }
  | _ => none }
def relistNoneRow : OpenClaim := { program := "ytnceglkoolfncaa", sum := "13b34c895afa88fcb4f22528da95896ee5c29ca6a6e014bb4c2f753c3797ed57", func := "provost/provostlaw31.RelistNone", spec := "relistNone", unfollowed := true, recurses := true, plainKeys := false, apart := false }
def RelistNoneSaid : Prop := relistNoneRow.holds Try.pinned (OpenSpec.ofChange relistNoneSpec)

/-- ITS FALSE NEIGHBOUR: 'it returns false'. Refute it at one input. -/
def relistNoneWrong : ChangeSpec := { name := "relistNone", fn := fun _ => fun
  | [d1, d2] => { results := [.lit (.bool false)], args := [d1, d2] }
  | _ => none }
def RelistNoneWrongFalsely : Prop := relistNoneRow.holds Try.pinned (OpenSpec.ofChange relistNoneWrong)

/-- 'provostlaw31.RelistMine': WHATEVER THE INPUT: true; the input reads as it did. -/
def relistMineSpec : ChangeSpec := { name := "relistMine", fn := fun _ => fun
  | [d1, d2, d3] => { results := [.lit (.bool true)], args := [d1, d2, d3] }
  | _ => none }
def relistMineRow : OpenClaim := { program := "ytnceglkoolfncaa", sum := "13b34c895afa88fcb4f22528da95896ee5c29ca6a6e014bb4c2f753c3797ed57", func := "provost/provostlaw31.RelistMine", spec := "relistMine", unfollowed := true, recurses := true, plainKeys := false, apart := false }
def RelistMineSaid : Prop := relistMineRow.holds Try.pinned (OpenSpec.ofChange relistMineSpec)

/-- ITS FALSE NEIGHBOUR: 'it returns false'. Refute it at one input. -/
def relistMineWrong : ChangeSpec := { name := "relistMine", fn := fun _ => fun
  | [d1, d2, d3] => { results := [.lit (.bool false)], args := [d1, d2, d3] }
  | _ => none }
def RelistMineWrongFalsely : Prop := relistMineRow.holds Try.pinned (OpenSpec.ofChange relistMineWrong)

/-- 'provostlaw26.ProbePlays': WHATEVER THE INPUT: true; the input reads as it did. -/
def probePlaysSpec : ChangeSpec := { name := "probePlays", fn := fun _ => fun
  | [d1, d2, d3] => { results := [.lit (.bool true)], args := [d1, d2, d3] }
  | _ => none }
def probePlaysRow : OpenClaim := { program := "ytnceglkoolfncaa", sum := "13b34c895afa88fcb4f22528da95896ee5c29ca6a6e014bb4c2f753c3797ed57", func := "provost/provostlaw26.ProbePlays", spec := "probePlays", unfollowed := true, recurses := true, plainKeys := false, apart := false }
def ProbePlaysSaid : Prop := probePlaysRow.holds Try.pinned (OpenSpec.ofChange probePlaysSpec)

/-- ITS FALSE NEIGHBOUR: 'it returns false'. Refute it at one input. -/
def probePlaysWrong : ChangeSpec := { name := "probePlays", fn := fun _ => fun
  | [d1, d2, d3] => { results := [.lit (.bool false)], args := [d1, d2, d3] }
  | _ => none }
def ProbePlaysWrongFalsely : Prop := probePlaysRow.holds Try.pinned (OpenSpec.ofChange probePlaysWrong)

/-- 'provostlaw22.UsePlays': WHATEVER THE INPUT: true; the input reads as it did. -/
def usePlaysSpec : ChangeSpec := { name := "usePlays", fn := fun _ => fun
  | [d1, d2, d3] => { results := [.lit (.bool true)], args := [d1, d2, d3] }
  | _ => none }
def usePlaysRow : OpenClaim := { program := "ytnceglkoolfncaa", sum := "13b34c895afa88fcb4f22528da95896ee5c29ca6a6e014bb4c2f753c3797ed57", func := "provost/provostlaw22.UsePlays", spec := "usePlays", unfollowed := true, recurses := true, plainKeys := false, apart := false }
def UsePlaysSaid : Prop := usePlaysRow.holds Try.pinned (OpenSpec.ofChange usePlaysSpec)

/-- ITS FALSE NEIGHBOUR: 'it returns false'. Refute it at one input. -/
def usePlaysWrong : ChangeSpec := { name := "usePlays", fn := fun _ => fun
  | [d1, d2, d3] => { results := [.lit (.bool false)], args := [d1, d2, d3] }
  | _ => none }
def UsePlaysWrongFalsely : Prop := usePlaysRow.holds Try.pinned (OpenSpec.ofChange usePlaysWrong)

/-- 'provostlaw22.UseBounds': WHATEVER THE INPUT: true; the input reads as it did. -/
def useBoundsSpec : ChangeSpec := { name := "useBounds", fn := fun _ => fun
  | [d1, d2, d3] => { results := [.lit (.bool true)], args := [d1, d2, d3] }
  | _ => none }
def useBoundsRow : OpenClaim := { program := "ytnceglkoolfncaa", sum := "13b34c895afa88fcb4f22528da95896ee5c29ca6a6e014bb4c2f753c3797ed57", func := "provost/provostlaw22.UseBounds", spec := "useBounds", unfollowed := true, recurses := true, plainKeys := false, apart := false }
def UseBoundsSaid : Prop := useBoundsRow.holds Try.pinned (OpenSpec.ofChange useBoundsSpec)

/-- ITS FALSE NEIGHBOUR: 'it returns false'. Refute it at one input. -/
def useBoundsWrong : ChangeSpec := { name := "useBounds", fn := fun _ => fun
  | [d1, d2, d3] => { results := [.lit (.bool false)], args := [d1, d2, d3] }
  | _ => none }
def UseBoundsWrongFalsely : Prop := useBoundsRow.holds Try.pinned (OpenSpec.ofChange useBoundsWrong)

/-- 'provostlaw22.UseSums': WHATEVER THE INPUT: true; the input reads as it did. -/
def useSumsSpec : ChangeSpec := { name := "useSums", fn := fun _ => fun
  | [d1, d2, d3] => { results := [.lit (.bool true)], args := [d1, d2, d3] }
  | _ => none }
def useSumsRow : OpenClaim := { program := "ytnceglkoolfncaa", sum := "13b34c895afa88fcb4f22528da95896ee5c29ca6a6e014bb4c2f753c3797ed57", func := "provost/provostlaw22.UseSums", spec := "useSums", unfollowed := true, recurses := true, plainKeys := false, apart := false }
def UseSumsSaid : Prop := useSumsRow.holds Try.pinned (OpenSpec.ofChange useSumsSpec)

/-- ITS FALSE NEIGHBOUR: 'it returns false'. Refute it at one input. -/
def useSumsWrong : ChangeSpec := { name := "useSums", fn := fun _ => fun
  | [d1, d2, d3] => { results := [.lit (.bool false)], args := [d1, d2, d3] }
  | _ => none }
def UseSumsWrongFalsely : Prop := useSumsRow.holds Try.pinned (OpenSpec.ofChange useSumsWrong)

/- THE SECOND FORM. 'bulk': how many values and letters a reading holds, each counted each time it is reached (what is shared counts as often as it is met; a slice's spare places count too). A statement '..UptoSaid' is the law's where the arguments, and the package variables that the reading takes, are together of bulk at most 1048576: NARROWER than '..Said'. Prove '..Said' where nothing that the law and all that it calls make is longer than what came in: it says more and counts as full. Else prove '..UptoSaid'. A law counts once. -/
mutual
def uptoBulk {H : Type} : DataW H → Nat
  | .lit (.string bytes) => bytes.length + 1
  | .lit _ => 1
  | .nil => 1
  | .ptr d => uptoBulk d + 1
  | .slice elems spare => uptoBulkAll elems + uptoBulkAll spare + 1
  | .agg parts => uptoBulkAll parts + 1
  | .iface _ d => uptoBulk d + 1
  | .map entries => uptoBulkEntries entries + 1
  | .held _ => 1
def uptoBulkAll {H : Type} : List (DataW H) → Nat
  | [] => 0
  | d :: r => uptoBulk d + uptoBulkAll r
def uptoBulkEntries {H : Type} : List (Lit × DataW H) → Nat
  | [] => 0
  | x :: r => uptoBulkEntry x + uptoBulkEntries r
def uptoBulkEntry {H : Type} : Lit × DataW H → Nat
  | (.string bytes, d) => bytes.length + uptoBulk d + 1
  | (_, d) => uptoBulk d + 1
 end
def uptoSmall : (H : Type) → List (DataW H) → Bool := fun _ ds => decide (uptoBulkAll ds ≤ 1048576)
def OpenSpec.upto (s : _root_.Go.ChangeSpec) : _root_.Go.OpenSpec := { _root_.Go.OpenSpec.ofChange s with cond := some uptoSmall }

/-- 'provostlaw28.TicketOrder', WHERE WHAT IT READS IS OF BULK AT MOST 1048576: true; the input reads as it did. -/
def ticketOrderUptoRow : OpenClaim := { program := "ytnceglkoolfncaa", sum := "13b34c895afa88fcb4f22528da95896ee5c29ca6a6e014bb4c2f753c3797ed57", func := "provost/provostlaw28.TicketOrder", spec := "ticketOrder", plainKeys := false, apart := false, narrowed := true }
def TicketOrderUptoSaid : Prop := ticketOrderUptoRow.holds Try.pinned (OpenSpec.upto ticketOrderSpec)

/-- 'provostlaw12.EvlogFollows', WHERE WHAT IT READS IS OF BULK AT MOST 1048576: true; the input reads as it did. -/
def evlogFollowsUptoRow : OpenClaim := { program := "ytnceglkoolfncaa", sum := "13b34c895afa88fcb4f22528da95896ee5c29ca6a6e014bb4c2f753c3797ed57", func := "provost/provostlaw12.EvlogFollows", spec := "evlogFollows", unfollowed := true, recurses := true, plainKeys := false, apart := false, narrowed := true }
def EvlogFollowsUptoSaid : Prop := evlogFollowsUptoRow.holds Try.pinned (OpenSpec.upto evlogFollowsSpec)

/-- 'provostlaw12.EvlogOnly', WHERE WHAT IT READS IS OF BULK AT MOST 1048576: true; the input reads as it did. -/
def evlogOnlyUptoRow : OpenClaim := { program := "ytnceglkoolfncaa", sum := "13b34c895afa88fcb4f22528da95896ee5c29ca6a6e014bb4c2f753c3797ed57", func := "provost/provostlaw12.EvlogOnly", spec := "evlogOnly", unfollowed := true, recurses := true, plainKeys := false, apart := false, narrowed := true }
def EvlogOnlyUptoSaid : Prop := evlogOnlyUptoRow.holds Try.pinned (OpenSpec.upto evlogOnlySpec)

/-- 'provostlaw15.PortPlays', WHERE WHAT IT READS IS OF BULK AT MOST 1048576: true; the input reads as it did. -/
def portPlaysUptoRow : OpenClaim := { program := "ytnceglkoolfncaa", sum := "13b34c895afa88fcb4f22528da95896ee5c29ca6a6e014bb4c2f753c3797ed57", func := "provost/provostlaw15.PortPlays", spec := "portPlays", inPlace := ["slices.overlaps[provost/port.held]"], unfollowed := true, recurses := true, plainKeys := false, apart := false, narrowed := true }
def PortPlaysUptoSaid : Prop := portPlaysUptoRow.holds Try.pinned (OpenSpec.upto portPlaysSpec)

/-- 'provostlaw15.PortOne', WHERE WHAT IT READS IS OF BULK AT MOST 1048576: true; the input reads as it did. -/
def portOneUptoRow : OpenClaim := { program := "ytnceglkoolfncaa", sum := "13b34c895afa88fcb4f22528da95896ee5c29ca6a6e014bb4c2f753c3797ed57", func := "provost/provostlaw15.PortOne", spec := "portOne", inPlace := ["slices.overlaps[provost/port.held]"], unfollowed := true, recurses := true, plainKeys := false, apart := false, narrowed := true }
def PortOneUptoSaid : Prop := portOneUptoRow.holds Try.pinned (OpenSpec.upto portOneSpec)

/-- 'provostlaw28.TicketPlays', WHERE WHAT IT READS IS OF BULK AT MOST 1048576: true; the input reads as it did. -/
def ticketPlaysUptoRow : OpenClaim := { program := "ytnceglkoolfncaa", sum := "13b34c895afa88fcb4f22528da95896ee5c29ca6a6e014bb4c2f753c3797ed57", func := "provost/provostlaw28.TicketPlays", spec := "ticketPlays", unfollowed := true, recurses := true, plainKeys := false, apart := false, narrowed := true }
def TicketPlaysUptoSaid : Prop := ticketPlaysUptoRow.holds Try.pinned (OpenSpec.upto ticketPlaysSpec)

/-- 'provostlaw31.RelistNone', WHERE WHAT IT READS IS OF BULK AT MOST 1048576: true; the input reads as it did. -/
def relistNoneUptoRow : OpenClaim := { program := "ytnceglkoolfncaa", sum := "13b34c895afa88fcb4f22528da95896ee5c29ca6a6e014bb4c2f753c3797ed57", func := "provost/provostlaw31.RelistNone", spec := "relistNone", unfollowed := true, recurses := true, plainKeys := false, apart := false, narrowed := true }
def RelistNoneUptoSaid : Prop := relistNoneUptoRow.holds Try.pinned (OpenSpec.upto relistNoneSpec)

/-- 'provostlaw31.RelistMine', WHERE WHAT IT READS IS OF BULK AT MOST 1048576: true; the input reads as it did. -/
def relistMineUptoRow : OpenClaim := { program := "ytnceglkoolfncaa", sum := "13b34c895afa88fcb4f22528da95896ee5c29ca6a6e014bb4c2f753c3797ed57", func := "provost/provostlaw31.RelistMine", spec := "relistMine", unfollowed := true, recurses := true, plainKeys := false, apart := false, narrowed := true }
def RelistMineUptoSaid : Prop := relistMineUptoRow.holds Try.pinned (OpenSpec.upto relistMineSpec)

/-- 'provostlaw26.ProbePlays', WHERE WHAT IT READS IS OF BULK AT MOST 1048576: true; the input reads as it did. -/
def probePlaysUptoRow : OpenClaim := { program := "ytnceglkoolfncaa", sum := "13b34c895afa88fcb4f22528da95896ee5c29ca6a6e014bb4c2f753c3797ed57", func := "provost/provostlaw26.ProbePlays", spec := "probePlays", unfollowed := true, recurses := true, plainKeys := false, apart := false, narrowed := true }
def ProbePlaysUptoSaid : Prop := probePlaysUptoRow.holds Try.pinned (OpenSpec.upto probePlaysSpec)

/-- 'provostlaw22.UsePlays', WHERE WHAT IT READS IS OF BULK AT MOST 1048576: true; the input reads as it did. -/
def usePlaysUptoRow : OpenClaim := { program := "ytnceglkoolfncaa", sum := "13b34c895afa88fcb4f22528da95896ee5c29ca6a6e014bb4c2f753c3797ed57", func := "provost/provostlaw22.UsePlays", spec := "usePlays", unfollowed := true, recurses := true, plainKeys := false, apart := false, narrowed := true }
def UsePlaysUptoSaid : Prop := usePlaysUptoRow.holds Try.pinned (OpenSpec.upto usePlaysSpec)

/-- 'provostlaw22.UseBounds', WHERE WHAT IT READS IS OF BULK AT MOST 1048576: true; the input reads as it did. -/
def useBoundsUptoRow : OpenClaim := { program := "ytnceglkoolfncaa", sum := "13b34c895afa88fcb4f22528da95896ee5c29ca6a6e014bb4c2f753c3797ed57", func := "provost/provostlaw22.UseBounds", spec := "useBounds", unfollowed := true, recurses := true, plainKeys := false, apart := false, narrowed := true }
def UseBoundsUptoSaid : Prop := useBoundsUptoRow.holds Try.pinned (OpenSpec.upto useBoundsSpec)

/-- 'provostlaw22.UseSums', WHERE WHAT IT READS IS OF BULK AT MOST 1048576: true; the input reads as it did. -/
def useSumsUptoRow : OpenClaim := { program := "ytnceglkoolfncaa", sum := "13b34c895afa88fcb4f22528da95896ee5c29ca6a6e014bb4c2f753c3797ed57", func := "provost/provostlaw22.UseSums", spec := "useSums", unfollowed := true, recurses := true, plainKeys := false, apart := false, narrowed := true }
def UseSumsUptoSaid : Prop := useSumsUptoRow.holds Try.pinned (OpenSpec.upto useSumsSpec)

end Rows
end Go.Proofs.Ytnceglkoolfncaa
