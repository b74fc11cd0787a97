/-
  DERIVED. GIVEN WITH THE SEED: THE CARDS: each row of YtmgcapccgncmkaaDoorRows.lean that lists a variable, with what it lists TIED to the program's text (the seventh form; the later family's looks); each row that meets fmt, with fmt's text TOLD by the authors' own Lean function (tested against real Go, not proved from fmt's source: count such statements apart). THE CARD IS WHAT COUNTS. Prove the row's statement (the work); the ties are given (YtmgcapccgncmkaaDoorTie.lean); close each card by the builder's one call (the guide's Derived/Test/ToyasCard.lean, 'card_holds'). Laid BY PROGRAM, IN A SANDBOX (cutbox-door.mjs). By AI agents, Wed Nov 11 2026. No macro, syntax, notation, axiom, sorry.
-/
import Derived.Test.YtmgcapccgncmkaaDoorRows
import GoSem.ClaimSeven
namespace Go.Proofs.YtmgcapccgncmkaaDoor
namespace Rows

/-- THE TIED CARD OF 'provostlaw48.LoadDraws'. -/
def loadDrawsCard : Claim7 := { stood := { row := loadDrawsRow, standIns := [], harness := (true, "dab19d4f924c41c20e92ed8b867b90eccafe7c8f2852a26f510741a3bbeffadb"), looks := false }, kinds := [], alts := [], laidByText := true, laidKinds := [.data, .data], laidTests := true, laidLooks := .later }
def LoadDrawsCardSaid : Prop := Claim7.holds Tryd.pinned (.plain (OpenSpec.ofChange loadDrawsSpec)) loadDrawsCard

/-- THE TIED CARD OF 'provostlaw48.LoadScripts'. -/
def loadScriptsCard : Claim7 := { stood := { row := loadScriptsRow, standIns := [], harness := (true, "dab19d4f924c41c20e92ed8b867b90eccafe7c8f2852a26f510741a3bbeffadb"), looks := false }, kinds := [], alts := [], laidByText := true, laidKinds := [.data, .data], laidTests := true, laidLooks := .later }
def LoadScriptsCardSaid : Prop := Claim7.holds Tryd.pinned (.plain (OpenSpec.ofChange loadScriptsSpec)) loadScriptsCard

/-- THE TIED CARD OF 'provostlaw48.LoadRight'. -/
def loadRightCard : Claim7 := { stood := { row := loadRightRow, standIns := [], harness := (true, "dab19d4f924c41c20e92ed8b867b90eccafe7c8f2852a26f510741a3bbeffadb"), looks := false }, kinds := [], alts := [], laidByText := true, laidKinds := [.data, .data, .data, .pinned], laidTests := true, laidLooks := .later }
def LoadRightCardSaid : Prop := Claim7.holds Tryd.pinned (.plain (OpenSpec.ofChange loadRightSpec)) loadRightCard

/-- THE TIED CARD OF 'provostlaw18.ImgKeeps'. -/
def imgKeepsCard : Claim7 := { stood := { row := imgKeepsRow, standIns := [], harness := (true, "dab19d4f924c41c20e92ed8b867b90eccafe7c8f2852a26f510741a3bbeffadb"), looks := false }, kinds := [], alts := [], laidByText := true, laidKinds := [.data], laidTests := true, laidLooks := .later }
def ImgKeepsCardSaid : Prop := Claim7.holds Tryd.pinned (.plain (OpenSpec.ofChange imgKeepsSpec)) imgKeepsCard

/-- THE TIED CARD OF 'provostlaw33.TrashFinds'. -/
def trashFindsCard : Claim7 := { stood := { row := trashFindsRow, standIns := [], harness := (true, "dab19d4f924c41c20e92ed8b867b90eccafe7c8f2852a26f510741a3bbeffadb"), looks := false }, kinds := [], alts := [], laidByText := true, laidKinds := [.data], laidTests := true, laidLooks := .later }
def TrashFindsCardSaid : Prop := Claim7.holds Tryd.pinned (.plain (OpenSpec.ofChange trashFindsSpec)) trashFindsCard

/-- THE TIED CARD OF 'provostlaw33.TrashEmpties'. -/
def trashEmptiesCard : Claim7 := { stood := { row := trashEmptiesRow, standIns := [], harness := (true, "dab19d4f924c41c20e92ed8b867b90eccafe7c8f2852a26f510741a3bbeffadb"), looks := false }, kinds := [], alts := [], laidByText := true, laidKinds := [.data], laidTests := true, laidLooks := .later }
def TrashEmptiesCardSaid : Prop := Claim7.holds Tryd.pinned (.plain (OpenSpec.ofChange trashEmptiesSpec)) trashEmptiesCard

/-- THE SECOND FORM's CARD OF 'provostlaw48.LoadDraws'. -/
def loadDrawsUptoCard : Claim7 := { stood := { row := loadDrawsUptoRow, standIns := [], harness := (true, "dab19d4f924c41c20e92ed8b867b90eccafe7c8f2852a26f510741a3bbeffadb"), looks := false }, kinds := [], alts := [], laidByText := true, laidKinds := [.data, .data], laidTests := true, laidLooks := .later }
def LoadDrawsUptoCardSaid : Prop := Claim7.holds Tryd.pinned (.plain (OpenSpec.upto loadDrawsSpec)) loadDrawsUptoCard

/-- THE SECOND FORM's CARD OF 'provostlaw48.LoadScripts'. -/
def loadScriptsUptoCard : Claim7 := { stood := { row := loadScriptsUptoRow, standIns := [], harness := (true, "dab19d4f924c41c20e92ed8b867b90eccafe7c8f2852a26f510741a3bbeffadb"), looks := false }, kinds := [], alts := [], laidByText := true, laidKinds := [.data, .data], laidTests := true, laidLooks := .later }
def LoadScriptsUptoCardSaid : Prop := Claim7.holds Tryd.pinned (.plain (OpenSpec.upto loadScriptsSpec)) loadScriptsUptoCard

/-- THE SECOND FORM's CARD OF 'provostlaw48.LoadRight'. -/
def loadRightUptoCard : Claim7 := { stood := { row := loadRightUptoRow, standIns := [], harness := (true, "dab19d4f924c41c20e92ed8b867b90eccafe7c8f2852a26f510741a3bbeffadb"), looks := false }, kinds := [], alts := [], laidByText := true, laidKinds := [.data, .data, .data, .pinned], laidTests := true, laidLooks := .later }
def LoadRightUptoCardSaid : Prop := Claim7.holds Tryd.pinned (.plain (OpenSpec.upto loadRightSpec)) loadRightUptoCard

/-- THE SECOND FORM's CARD OF 'provostlaw18.ImgKeeps'. -/
def imgKeepsUptoCard : Claim7 := { stood := { row := imgKeepsUptoRow, standIns := [], harness := (true, "dab19d4f924c41c20e92ed8b867b90eccafe7c8f2852a26f510741a3bbeffadb"), looks := false }, kinds := [], alts := [], laidByText := true, laidKinds := [.data], laidTests := true, laidLooks := .later }
def ImgKeepsUptoCardSaid : Prop := Claim7.holds Tryd.pinned (.plain (OpenSpec.upto imgKeepsSpec)) imgKeepsUptoCard

/-- THE SECOND FORM's CARD OF 'provostlaw33.TrashFinds'. -/
def trashFindsUptoCard : Claim7 := { stood := { row := trashFindsUptoRow, standIns := [], harness := (true, "dab19d4f924c41c20e92ed8b867b90eccafe7c8f2852a26f510741a3bbeffadb"), looks := false }, kinds := [], alts := [], laidByText := true, laidKinds := [.data], laidTests := true, laidLooks := .later }
def TrashFindsUptoCardSaid : Prop := Claim7.holds Tryd.pinned (.plain (OpenSpec.upto trashFindsSpec)) trashFindsUptoCard

/-- THE SECOND FORM's CARD OF 'provostlaw33.TrashEmpties'. -/
def trashEmptiesUptoCard : Claim7 := { stood := { row := trashEmptiesUptoRow, standIns := [], harness := (true, "dab19d4f924c41c20e92ed8b867b90eccafe7c8f2852a26f510741a3bbeffadb"), looks := false }, kinds := [], alts := [], laidByText := true, laidKinds := [.data], laidTests := true, laidLooks := .later }
def TrashEmptiesUptoCardSaid : Prop := Claim7.holds Tryd.pinned (.plain (OpenSpec.upto trashEmptiesSpec)) trashEmptiesUptoCard
end Rows
end Go.Proofs.YtmgcapccgncmkaaDoor
