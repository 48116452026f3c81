/-
  DERIVED. GIVEN WITH THE SEED: THE CARDS: each row of YteecmgonbdbhdaaGreatDoorRows.lean that lists a variable, with what it lists TIED to the program's text (the seventh form; the later family's looks); each row that meets fmt, with fmt's text TOLD by the authors' own Lean function (tested against real Go, not proved from fmt's source: count such statements apart). THE CARD IS WHAT COUNTS. Prove the row's statement (the work); the ties are given (YteecmgonbdbhdaaGreatDoorTie.lean); close each card by the builder's one call (the guide's Derived/Test/ToyasCard.lean, 'card_holds'). Laid BY PROGRAM, IN A SANDBOX (cutbox-door.mjs). By AI agents, Wed Nov 11 2026. No macro, syntax, notation, axiom, sorry.
-/
import Derived.Test.YteecmgonbdbhdaaGreatDoorRows
import GoSem.ClaimSeven
namespace Go.Proofs.YteecmgonbdbhdaaGreatDoor
namespace Rows

/-- THE TIED CARD OF 'casematelaw18.ScanExact'. -/
def scanExactCard : Claim7 := { stood := { row := scanExactRow, standIns := [], harness := (true, "09bfafd084e6450bedc0f0a68678bc61c414bedd40d69bec1f5b41e0da3fc40a"), looks := true }, kinds := [], alts := [], laidByText := true, laidKinds := [.data, .pinned], laidTests := true, laidLooks := .later }
def ScanExactCardSaid : Prop := Claim7.holds Tryz.pinned (.plain (OpenSpec.ofChange scanExactSpec)) scanExactCard

/-- THE TIED CARD OF 'casematelaw18.ScanHoles'. -/
def scanHolesCard : Claim7 := { stood := { row := scanHolesRow, standIns := [], harness := (true, "09bfafd084e6450bedc0f0a68678bc61c414bedd40d69bec1f5b41e0da3fc40a"), looks := true }, kinds := [], alts := [], laidByText := true, laidKinds := [.data, .pinned], laidTests := true, laidLooks := .later }
def ScanHolesCardSaid : Prop := Claim7.holds Tryz.pinned (.plain (OpenSpec.ofChange scanHolesSpec)) scanHolesCard

/-- THE SECOND FORM's CARD OF 'casematelaw18.ScanExact'. -/
def scanExactUptoCard : Claim7 := { stood := { row := scanExactUptoRow, standIns := [], harness := (true, "09bfafd084e6450bedc0f0a68678bc61c414bedd40d69bec1f5b41e0da3fc40a"), looks := true }, kinds := [], alts := [], laidByText := true, laidKinds := [.data, .pinned], laidTests := true, laidLooks := .later }
def ScanExactUptoCardSaid : Prop := Claim7.holds Tryz.pinned (.plain (OpenSpec.upto scanExactSpec)) scanExactUptoCard

/-- THE SECOND FORM's CARD OF 'casematelaw18.ScanHoles'. -/
def scanHolesUptoCard : Claim7 := { stood := { row := scanHolesUptoRow, standIns := [], harness := (true, "09bfafd084e6450bedc0f0a68678bc61c414bedd40d69bec1f5b41e0da3fc40a"), looks := true }, kinds := [], alts := [], laidByText := true, laidKinds := [.data, .pinned], laidTests := true, laidLooks := .later }
def ScanHolesUptoCardSaid : Prop := Claim7.holds Tryz.pinned (.plain (OpenSpec.upto scanHolesSpec)) scanHolesUptoCard
end Rows
end Go.Proofs.YteecmgonbdbhdaaGreatDoor
