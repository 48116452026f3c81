/-
  DERIVED. GIVEN WITH THE SEED: THE CARDS: each row of YtpjkcgacjjbikaaGreatDoorRows.lean that lists a variable, with what it lists TIED to the program's text (the seventh form; the later family's looks); each row that meets fmt, with fmt's text TOLD by the authors' own Lean function (tested against real Go, not proved from fmt's source: count such statements apart). THE CARD IS WHAT COUNTS. Prove the row's statement (the work); the ties are given (YtpjkcgacjjbikaaGreatDoorTie.lean); close each card by the builder's one call (the guide's Derived/Test/ToyasCard.lean, 'card_holds'). Laid BY PROGRAM, IN A SANDBOX (cutbox-door.mjs). By AI agents, Wed Nov 11 2026. No macro, syntax, notation, axiom, sorry.
-/
import Derived.Test.YtpjkcgacjjbikaaGreatDoorRows
import GoSem.ClaimSeven
namespace Go.Proofs.YtpjkcgacjjbikaaGreatDoor
namespace Rows

/-- THE TIED CARD OF 'casematelaw24.CheckFails'. -/
def checkFailsCard : Claim7 := { stood := { row := checkFailsRow, standIns := [], harness := (true, "6db604321c5ea5e0522bc7594e199205d3f76e1bb5eb1dacd5dbc2e27712a50d"), looks := true }, kinds := [], alts := [], laidByText := true, laidKinds := [.data, .pinned], laidTests := true, laidLooks := .later }
def CheckFailsCardSaid : Prop := Claim7.holds Tryz.pinned (.plain (OpenSpec.ofChange checkFailsSpec)) checkFailsCard

/-- THE TIED CARD OF 'casematelaw26.VolLocks'. -/
def volLocksCard : Claim7 := { stood := { row := volLocksRow, standIns := [], harness := (true, "6db604321c5ea5e0522bc7594e199205d3f76e1bb5eb1dacd5dbc2e27712a50d"), looks := true }, kinds := [], alts := [], laidByText := true, laidKinds := [.data, .pinned], laidTests := true, laidLooks := .later }
def VolLocksCardSaid : Prop := Claim7.holds Tryz.pinned (.plain (OpenSpec.ofChange volLocksSpec)) volLocksCard

/-- THE TIED CARD OF 'casematelaw26.VolCuts'. -/
def volCutsCard : Claim7 := { stood := { row := volCutsRow, standIns := [], harness := (true, "6db604321c5ea5e0522bc7594e199205d3f76e1bb5eb1dacd5dbc2e27712a50d"), looks := true }, kinds := [], alts := [], laidByText := true, laidKinds := [.data, .pinned], laidTests := true, laidLooks := .later }
def VolCutsCardSaid : Prop := Claim7.holds Tryz.pinned (.plain (OpenSpec.ofChange volCutsSpec)) volCutsCard

/-- THE TIED CARD OF 'casematelaw26.VolRefuses'. -/
def volRefusesCard : Claim7 := { stood := { row := volRefusesRow, standIns := [], harness := (true, "6db604321c5ea5e0522bc7594e199205d3f76e1bb5eb1dacd5dbc2e27712a50d"), looks := true }, kinds := [], alts := [], laidByText := true, laidKinds := [.data, .pinned], laidTests := true, laidLooks := .later }
def VolRefusesCardSaid : Prop := Claim7.holds Tryz.pinned (.plain (OpenSpec.ofChange volRefusesSpec)) volRefusesCard

/-- THE TIED CARD OF 'casematelaw26.VolSpoils'. -/
def volSpoilsCard : Claim7 := { stood := { row := volSpoilsRow, standIns := [], harness := (true, "6db604321c5ea5e0522bc7594e199205d3f76e1bb5eb1dacd5dbc2e27712a50d"), looks := true }, kinds := [], alts := [], laidByText := true, laidKinds := [.data, .pinned], laidTests := true, laidLooks := .later }
def VolSpoilsCardSaid : Prop := Claim7.holds Tryz.pinned (.plain (OpenSpec.ofChange volSpoilsSpec)) volSpoilsCard

/-- THE TIED CARD OF 'casematelaw26.VolBegins'. -/
def volBeginsCard : Claim7 := { stood := { row := volBeginsRow, standIns := [], harness := (true, "6db604321c5ea5e0522bc7594e199205d3f76e1bb5eb1dacd5dbc2e27712a50d"), looks := true }, kinds := [], alts := [], laidByText := true, laidKinds := [.data, .pinned], laidTests := true, laidLooks := .later }
def VolBeginsCardSaid : Prop := Claim7.holds Tryz.pinned (.plain (OpenSpec.ofChange volBeginsSpec)) volBeginsCard

/-- THE TIED CARD OF 'casematelaw26.VolNone'. -/
def volNoneCard : Claim7 := { stood := { row := volNoneRow, standIns := [], harness := (true, "6db604321c5ea5e0522bc7594e199205d3f76e1bb5eb1dacd5dbc2e27712a50d"), looks := true }, kinds := [], alts := [], laidByText := true, laidKinds := [.data, .pinned], laidTests := true, laidLooks := .later }
def VolNoneCardSaid : Prop := Claim7.holds Tryz.pinned (.plain (OpenSpec.ofChange volNoneSpec)) volNoneCard

/-- THE SECOND FORM's CARD OF 'casematelaw24.CheckFails'. -/
def checkFailsUptoCard : Claim7 := { stood := { row := checkFailsUptoRow, standIns := [], harness := (true, "6db604321c5ea5e0522bc7594e199205d3f76e1bb5eb1dacd5dbc2e27712a50d"), looks := true }, kinds := [], alts := [], laidByText := true, laidKinds := [.data, .pinned], laidTests := true, laidLooks := .later }
def CheckFailsUptoCardSaid : Prop := Claim7.holds Tryz.pinned (.plain (OpenSpec.upto checkFailsSpec)) checkFailsUptoCard

/-- THE SECOND FORM's CARD OF 'casematelaw26.VolLocks'. -/
def volLocksUptoCard : Claim7 := { stood := { row := volLocksUptoRow, standIns := [], harness := (true, "6db604321c5ea5e0522bc7594e199205d3f76e1bb5eb1dacd5dbc2e27712a50d"), looks := true }, kinds := [], alts := [], laidByText := true, laidKinds := [.data, .pinned], laidTests := true, laidLooks := .later }
def VolLocksUptoCardSaid : Prop := Claim7.holds Tryz.pinned (.plain (OpenSpec.upto volLocksSpec)) volLocksUptoCard

/-- THE SECOND FORM's CARD OF 'casematelaw26.VolCuts'. -/
def volCutsUptoCard : Claim7 := { stood := { row := volCutsUptoRow, standIns := [], harness := (true, "6db604321c5ea5e0522bc7594e199205d3f76e1bb5eb1dacd5dbc2e27712a50d"), looks := true }, kinds := [], alts := [], laidByText := true, laidKinds := [.data, .pinned], laidTests := true, laidLooks := .later }
def VolCutsUptoCardSaid : Prop := Claim7.holds Tryz.pinned (.plain (OpenSpec.upto volCutsSpec)) volCutsUptoCard

/-- THE SECOND FORM's CARD OF 'casematelaw26.VolRefuses'. -/
def volRefusesUptoCard : Claim7 := { stood := { row := volRefusesUptoRow, standIns := [], harness := (true, "6db604321c5ea5e0522bc7594e199205d3f76e1bb5eb1dacd5dbc2e27712a50d"), looks := true }, kinds := [], alts := [], laidByText := true, laidKinds := [.data, .pinned], laidTests := true, laidLooks := .later }
def VolRefusesUptoCardSaid : Prop := Claim7.holds Tryz.pinned (.plain (OpenSpec.upto volRefusesSpec)) volRefusesUptoCard

/-- THE SECOND FORM's CARD OF 'casematelaw26.VolSpoils'. -/
def volSpoilsUptoCard : Claim7 := { stood := { row := volSpoilsUptoRow, standIns := [], harness := (true, "6db604321c5ea5e0522bc7594e199205d3f76e1bb5eb1dacd5dbc2e27712a50d"), looks := true }, kinds := [], alts := [], laidByText := true, laidKinds := [.data, .pinned], laidTests := true, laidLooks := .later }
def VolSpoilsUptoCardSaid : Prop := Claim7.holds Tryz.pinned (.plain (OpenSpec.upto volSpoilsSpec)) volSpoilsUptoCard

/-- THE SECOND FORM's CARD OF 'casematelaw26.VolBegins'. -/
def volBeginsUptoCard : Claim7 := { stood := { row := volBeginsUptoRow, standIns := [], harness := (true, "6db604321c5ea5e0522bc7594e199205d3f76e1bb5eb1dacd5dbc2e27712a50d"), looks := true }, kinds := [], alts := [], laidByText := true, laidKinds := [.data, .pinned], laidTests := true, laidLooks := .later }
def VolBeginsUptoCardSaid : Prop := Claim7.holds Tryz.pinned (.plain (OpenSpec.upto volBeginsSpec)) volBeginsUptoCard

/-- THE SECOND FORM's CARD OF 'casematelaw26.VolNone'. -/
def volNoneUptoCard : Claim7 := { stood := { row := volNoneUptoRow, standIns := [], harness := (true, "6db604321c5ea5e0522bc7594e199205d3f76e1bb5eb1dacd5dbc2e27712a50d"), looks := true }, kinds := [], alts := [], laidByText := true, laidKinds := [.data, .pinned], laidTests := true, laidLooks := .later }
def VolNoneUptoCardSaid : Prop := Claim7.holds Tryz.pinned (.plain (OpenSpec.upto volNoneSpec)) volNoneUptoCard
end Rows
end Go.Proofs.YtpjkcgacjjbikaaGreatDoor
