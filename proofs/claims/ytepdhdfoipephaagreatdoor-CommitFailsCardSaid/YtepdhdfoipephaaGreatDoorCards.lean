/-
  DERIVED. GIVEN WITH THE SEED: THE CARDS: each row of YtepdhdfoipephaaGreatDoorRows.lean that lists a variable, with what it lists TIED to the program's text (the seventh form; the later family's looks); each row that meets fmt, with fmt's text TOLD by the authors' own Lean function (tested against real Go, not proved from fmt's source: count such statements apart). THE CARD IS WHAT COUNTS. Prove the row's statement (the work); the ties are given (YtepdhdfoipephaaGreatDoorTie.lean); close each card by the builder's one call (the guide's Derived/Test/ToyasCard.lean, 'card_holds'). Laid BY PROGRAM, IN A SANDBOX (cutbox-door.mjs). By AI agents, Wed Nov 11 2026. No macro, syntax, notation, axiom, sorry.
-/
import Derived.Test.YtepdhdfoipephaaGreatDoorRows
import GoSem.ClaimSeven
namespace Go.Proofs.YtepdhdfoipephaaGreatDoor
namespace Rows

/-- THE TIED CARD OF 'casematelaw23.CommitReads'. -/
def commitReadsCard : Claim7 := { stood := { row := commitReadsRow, standIns := [], harness := (true, "b49440227ae96ef30e6cb25abc95775e5671281748070785d4d572a7869c8a23"), looks := true }, kinds := [], alts := [], laidByText := true, laidKinds := [.data, .pinned], laidTests := true, laidLooks := .later }
def CommitReadsCardSaid : Prop := Claim7.holds Tryz.pinned (.plain (OpenSpec.ofChange commitReadsSpec)) commitReadsCard

/-- THE TIED CARD OF 'casematelaw23.CommitKeeps'. -/
def commitKeepsCard : Claim7 := { stood := { row := commitKeepsRow, standIns := [], harness := (true, "b49440227ae96ef30e6cb25abc95775e5671281748070785d4d572a7869c8a23"), looks := true }, kinds := [], alts := [], laidByText := true, laidKinds := [.data, .pinned], laidTests := true, laidLooks := .later }
def CommitKeepsCardSaid : Prop := Claim7.holds Tryz.pinned (.plain (OpenSpec.ofChange commitKeepsSpec)) commitKeepsCard

/-- THE TIED CARD OF 'casematelaw23.CommitFills'. -/
def commitFillsCard : Claim7 := { stood := { row := commitFillsRow, standIns := [], harness := (true, "b49440227ae96ef30e6cb25abc95775e5671281748070785d4d572a7869c8a23"), looks := true }, kinds := [], alts := [], laidByText := true, laidKinds := [.data, .pinned], laidTests := true, laidLooks := .later }
def CommitFillsCardSaid : Prop := Claim7.holds Tryz.pinned (.plain (OpenSpec.ofChange commitFillsSpec)) commitFillsCard

/-- THE TIED CARD OF 'casematelaw23.CommitExact'. -/
def commitExactCard : Claim7 := { stood := { row := commitExactRow, standIns := [], harness := (true, "b49440227ae96ef30e6cb25abc95775e5671281748070785d4d572a7869c8a23"), looks := true }, kinds := [], alts := [], laidByText := true, laidKinds := [.data, .pinned], laidTests := true, laidLooks := .later }
def CommitExactCardSaid : Prop := Claim7.holds Tryz.pinned (.plain (OpenSpec.ofChange commitExactSpec)) commitExactCard

/-- THE TIED CARD OF 'casematelaw23.CommitFails'. -/
def commitFailsCard : Claim7 := { stood := { row := commitFailsRow, standIns := [], harness := (true, "b49440227ae96ef30e6cb25abc95775e5671281748070785d4d572a7869c8a23"), looks := true }, kinds := [], alts := [], laidByText := true, laidKinds := [.data, .pinned], laidTests := true, laidLooks := .later }
def CommitFailsCardSaid : Prop := Claim7.holds Tryz.pinned (.plain (OpenSpec.ofChange commitFailsSpec)) commitFailsCard

/-- THE TIED CARD OF 'casematelaw23.CommitLost'. -/
def commitLostCard : Claim7 := { stood := { row := commitLostRow, standIns := [], harness := (true, "b49440227ae96ef30e6cb25abc95775e5671281748070785d4d572a7869c8a23"), looks := true }, kinds := [], alts := [], laidByText := true, laidKinds := [.data, .pinned], laidTests := true, laidLooks := .later }
def CommitLostCardSaid : Prop := Claim7.holds Tryz.pinned (.plain (OpenSpec.ofChange commitLostSpec)) commitLostCard

/-- THE SECOND FORM's CARD OF 'casematelaw23.CommitReads'. -/
def commitReadsUptoCard : Claim7 := { stood := { row := commitReadsUptoRow, standIns := [], harness := (true, "b49440227ae96ef30e6cb25abc95775e5671281748070785d4d572a7869c8a23"), looks := true }, kinds := [], alts := [], laidByText := true, laidKinds := [.data, .pinned], laidTests := true, laidLooks := .later }
def CommitReadsUptoCardSaid : Prop := Claim7.holds Tryz.pinned (.plain (OpenSpec.upto commitReadsSpec)) commitReadsUptoCard

/-- THE SECOND FORM's CARD OF 'casematelaw23.CommitKeeps'. -/
def commitKeepsUptoCard : Claim7 := { stood := { row := commitKeepsUptoRow, standIns := [], harness := (true, "b49440227ae96ef30e6cb25abc95775e5671281748070785d4d572a7869c8a23"), looks := true }, kinds := [], alts := [], laidByText := true, laidKinds := [.data, .pinned], laidTests := true, laidLooks := .later }
def CommitKeepsUptoCardSaid : Prop := Claim7.holds Tryz.pinned (.plain (OpenSpec.upto commitKeepsSpec)) commitKeepsUptoCard

/-- THE SECOND FORM's CARD OF 'casematelaw23.CommitFills'. -/
def commitFillsUptoCard : Claim7 := { stood := { row := commitFillsUptoRow, standIns := [], harness := (true, "b49440227ae96ef30e6cb25abc95775e5671281748070785d4d572a7869c8a23"), looks := true }, kinds := [], alts := [], laidByText := true, laidKinds := [.data, .pinned], laidTests := true, laidLooks := .later }
def CommitFillsUptoCardSaid : Prop := Claim7.holds Tryz.pinned (.plain (OpenSpec.upto commitFillsSpec)) commitFillsUptoCard

/-- THE SECOND FORM's CARD OF 'casematelaw23.CommitExact'. -/
def commitExactUptoCard : Claim7 := { stood := { row := commitExactUptoRow, standIns := [], harness := (true, "b49440227ae96ef30e6cb25abc95775e5671281748070785d4d572a7869c8a23"), looks := true }, kinds := [], alts := [], laidByText := true, laidKinds := [.data, .pinned], laidTests := true, laidLooks := .later }
def CommitExactUptoCardSaid : Prop := Claim7.holds Tryz.pinned (.plain (OpenSpec.upto commitExactSpec)) commitExactUptoCard

/-- THE SECOND FORM's CARD OF 'casematelaw23.CommitFails'. -/
def commitFailsUptoCard : Claim7 := { stood := { row := commitFailsUptoRow, standIns := [], harness := (true, "b49440227ae96ef30e6cb25abc95775e5671281748070785d4d572a7869c8a23"), looks := true }, kinds := [], alts := [], laidByText := true, laidKinds := [.data, .pinned], laidTests := true, laidLooks := .later }
def CommitFailsUptoCardSaid : Prop := Claim7.holds Tryz.pinned (.plain (OpenSpec.upto commitFailsSpec)) commitFailsUptoCard

/-- THE SECOND FORM's CARD OF 'casematelaw23.CommitLost'. -/
def commitLostUptoCard : Claim7 := { stood := { row := commitLostUptoRow, standIns := [], harness := (true, "b49440227ae96ef30e6cb25abc95775e5671281748070785d4d572a7869c8a23"), looks := true }, kinds := [], alts := [], laidByText := true, laidKinds := [.data, .pinned], laidTests := true, laidLooks := .later }
def CommitLostUptoCardSaid : Prop := Claim7.holds Tryz.pinned (.plain (OpenSpec.upto commitLostSpec)) commitLostUptoCard
end Rows
end Go.Proofs.YtepdhdfoipephaaGreatDoor
