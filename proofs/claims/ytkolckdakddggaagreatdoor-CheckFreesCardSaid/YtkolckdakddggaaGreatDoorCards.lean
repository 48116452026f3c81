/-
  DERIVED. GIVEN WITH THE SEED: THE CARDS: each row of YtkolckdakddggaaGreatDoorRows.lean that lists a variable, with what it lists TIED to the program's text (the seventh form; the later family's looks); each row that meets fmt, with fmt's text TOLD by the authors' own Lean function (tested against real Go, not proved from fmt's source: count such statements apart). THE CARD IS WHAT COUNTS. Prove the row's statement (the work); the ties are given (YtkolckdakddggaaGreatDoorTie.lean); close each card by the builder's one call (the guide's Derived/Test/ToyasCard.lean, 'card_holds'). Laid BY PROGRAM, IN A SANDBOX (cutbox-door.mjs). By AI agents, Wed Nov 11 2026. No macro, syntax, notation, axiom, sorry.
-/
import Derived.Test.YtkolckdakddggaaGreatDoorRows
import GoSem.ClaimSeven
namespace Go.Proofs.YtkolckdakddggaaGreatDoor
namespace Rows

/-- THE TIED CARD OF 'casematelaw24.CheckTables'. -/
def checkTablesCard : Claim7 := { stood := { row := checkTablesRow, standIns := [], harness := (true, "493e6d6e15975045fda606c0f97e4a2d6764d2f8af5a2cc7a324f75a93bec46d"), looks := true }, kinds := [], alts := [], laidByText := true, laidKinds := [.data, .pinned], laidTests := true, laidLooks := .later }
def CheckTablesCardSaid : Prop := Claim7.holds Tryz.pinned (.plain (OpenSpec.ofChange checkTablesSpec)) checkTablesCard

/-- THE TIED CARD OF 'casematelaw24.CheckReads'. -/
def checkReadsCard : Claim7 := { stood := { row := checkReadsRow, standIns := [], harness := (true, "493e6d6e15975045fda606c0f97e4a2d6764d2f8af5a2cc7a324f75a93bec46d"), looks := true }, kinds := [], alts := [], laidByText := true, laidKinds := [.data, .pinned], laidTests := true, laidLooks := .later }
def CheckReadsCardSaid : Prop := Claim7.holds Tryz.pinned (.plain (OpenSpec.ofChange checkReadsSpec)) checkReadsCard

/-- THE TIED CARD OF 'casematelaw24.CheckFrees'. -/
def checkFreesCard : Claim7 := { stood := { row := checkFreesRow, standIns := [], harness := (true, "493e6d6e15975045fda606c0f97e4a2d6764d2f8af5a2cc7a324f75a93bec46d"), looks := true }, kinds := [], alts := [], laidByText := true, laidKinds := [.data, .pinned], laidTests := true, laidLooks := .later }
def CheckFreesCardSaid : Prop := Claim7.holds Tryz.pinned (.plain (OpenSpec.ofChange checkFreesSpec)) checkFreesCard

/-- THE TIED CARD OF 'casematelaw24.CheckFails'. -/
def checkFailsCard : Claim7 := { stood := { row := checkFailsRow, standIns := [], harness := (true, "493e6d6e15975045fda606c0f97e4a2d6764d2f8af5a2cc7a324f75a93bec46d"), looks := true }, kinds := [], alts := [], laidByText := true, laidKinds := [.data, .pinned], laidTests := true, laidLooks := .later }
def CheckFailsCardSaid : Prop := Claim7.holds Tryz.pinned (.plain (OpenSpec.ofChange checkFailsSpec)) checkFailsCard

/-- THE TIED CARD OF 'casematelaw24.CheckCut'. -/
def checkCutCard : Claim7 := { stood := { row := checkCutRow, standIns := [], harness := (true, "493e6d6e15975045fda606c0f97e4a2d6764d2f8af5a2cc7a324f75a93bec46d"), looks := true }, kinds := [], alts := [], laidByText := true, laidKinds := [.data, .pinned], laidTests := true, laidLooks := .later }
def CheckCutCardSaid : Prop := Claim7.holds Tryz.pinned (.plain (OpenSpec.ofChange checkCutSpec)) checkCutCard

/-- THE TIED CARD OF 'casematelaw24.CheckMoves'. -/
def checkMovesCard : Claim7 := { stood := { row := checkMovesRow, standIns := [], harness := (true, "493e6d6e15975045fda606c0f97e4a2d6764d2f8af5a2cc7a324f75a93bec46d"), looks := true }, kinds := [], alts := [], laidByText := true, laidKinds := [.data, .pinned], laidTests := true, laidLooks := .later }
def CheckMovesCardSaid : Prop := Claim7.holds Tryz.pinned (.plain (OpenSpec.ofChange checkMovesSpec)) checkMovesCard

/-- THE SECOND FORM's CARD OF 'casematelaw24.CheckTables'. -/
def checkTablesUptoCard : Claim7 := { stood := { row := checkTablesUptoRow, standIns := [], harness := (true, "493e6d6e15975045fda606c0f97e4a2d6764d2f8af5a2cc7a324f75a93bec46d"), looks := true }, kinds := [], alts := [], laidByText := true, laidKinds := [.data, .pinned], laidTests := true, laidLooks := .later }
def CheckTablesUptoCardSaid : Prop := Claim7.holds Tryz.pinned (.plain (OpenSpec.upto checkTablesSpec)) checkTablesUptoCard

/-- THE SECOND FORM's CARD OF 'casematelaw24.CheckReads'. -/
def checkReadsUptoCard : Claim7 := { stood := { row := checkReadsUptoRow, standIns := [], harness := (true, "493e6d6e15975045fda606c0f97e4a2d6764d2f8af5a2cc7a324f75a93bec46d"), looks := true }, kinds := [], alts := [], laidByText := true, laidKinds := [.data, .pinned], laidTests := true, laidLooks := .later }
def CheckReadsUptoCardSaid : Prop := Claim7.holds Tryz.pinned (.plain (OpenSpec.upto checkReadsSpec)) checkReadsUptoCard

/-- THE SECOND FORM's CARD OF 'casematelaw24.CheckFrees'. -/
def checkFreesUptoCard : Claim7 := { stood := { row := checkFreesUptoRow, standIns := [], harness := (true, "493e6d6e15975045fda606c0f97e4a2d6764d2f8af5a2cc7a324f75a93bec46d"), looks := true }, kinds := [], alts := [], laidByText := true, laidKinds := [.data, .pinned], laidTests := true, laidLooks := .later }
def CheckFreesUptoCardSaid : Prop := Claim7.holds Tryz.pinned (.plain (OpenSpec.upto checkFreesSpec)) checkFreesUptoCard

/-- THE SECOND FORM's CARD OF 'casematelaw24.CheckFails'. -/
def checkFailsUptoCard : Claim7 := { stood := { row := checkFailsUptoRow, standIns := [], harness := (true, "493e6d6e15975045fda606c0f97e4a2d6764d2f8af5a2cc7a324f75a93bec46d"), looks := true }, kinds := [], alts := [], laidByText := true, laidKinds := [.data, .pinned], laidTests := true, laidLooks := .later }
def CheckFailsUptoCardSaid : Prop := Claim7.holds Tryz.pinned (.plain (OpenSpec.upto checkFailsSpec)) checkFailsUptoCard

/-- THE SECOND FORM's CARD OF 'casematelaw24.CheckCut'. -/
def checkCutUptoCard : Claim7 := { stood := { row := checkCutUptoRow, standIns := [], harness := (true, "493e6d6e15975045fda606c0f97e4a2d6764d2f8af5a2cc7a324f75a93bec46d"), looks := true }, kinds := [], alts := [], laidByText := true, laidKinds := [.data, .pinned], laidTests := true, laidLooks := .later }
def CheckCutUptoCardSaid : Prop := Claim7.holds Tryz.pinned (.plain (OpenSpec.upto checkCutSpec)) checkCutUptoCard

/-- THE SECOND FORM's CARD OF 'casematelaw24.CheckMoves'. -/
def checkMovesUptoCard : Claim7 := { stood := { row := checkMovesUptoRow, standIns := [], harness := (true, "493e6d6e15975045fda606c0f97e4a2d6764d2f8af5a2cc7a324f75a93bec46d"), looks := true }, kinds := [], alts := [], laidByText := true, laidKinds := [.data, .pinned], laidTests := true, laidLooks := .later }
def CheckMovesUptoCardSaid : Prop := Claim7.holds Tryz.pinned (.plain (OpenSpec.upto checkMovesSpec)) checkMovesUptoCard
end Rows
end Go.Proofs.YtkolckdakddggaaGreatDoor
