/-
  DERIVED. GIVEN WITH THE SEED: THE CARDS: each row of YtldngmdpiifamaaGreatDoorRows.lean that lists a variable, with what it lists TIED to the program's text (the seventh form; the later family's looks); each row that meets fmt, with fmt's text TOLD by the authors' own Lean function (tested against real Go, not proved from fmt's source: count such statements apart). THE CARD IS WHAT COUNTS. Prove the row's statement (the work); the ties are given (YtldngmdpiifamaaGreatDoorTie.lean); close each card by the builder's one call (the guide's Derived/Test/ToyasCard.lean, 'card_holds'). Laid BY PROGRAM, IN A SANDBOX (cutbox-door.mjs). By AI agents, Wed Nov 11 2026. No macro, syntax, notation, axiom, sorry.
-/
import Derived.Test.YtldngmdpiifamaaGreatDoorRows
import GoSem.ClaimSeven
namespace Go.Proofs.YtldngmdpiifamaaGreatDoor
namespace Rows

/-- THE TIED CARD OF 'casematelaw22.BootMounts'. -/
def bootMountsCard : Claim7 := { stood := { row := bootMountsRow, standIns := [], harness := (true, "7f4c30e94d4de0a781f96bbc8e18d6b45336d4f6603d87d86d8c1f11b4cafc8e"), looks := true }, kinds := [], alts := [], laidByText := true, laidKinds := [.data, .pinned], laidTests := true, laidLooks := .later }
def BootMountsCardSaid : Prop := Claim7.holds Tryz.pinned (.plain (OpenSpec.ofChange bootMountsSpec)) bootMountsCard

/-- THE TIED CARD OF 'casematelaw22.BootFinds'. -/
def bootFindsCard : Claim7 := { stood := { row := bootFindsRow, standIns := [], harness := (true, "7f4c30e94d4de0a781f96bbc8e18d6b45336d4f6603d87d86d8c1f11b4cafc8e"), looks := true }, kinds := [], alts := [], laidByText := true, laidKinds := [.data, .pinned], laidTests := true, laidLooks := .later }
def BootFindsCardSaid : Prop := Claim7.holds Tryz.pinned (.plain (OpenSpec.ofChange bootFindsSpec)) bootFindsCard

/-- THE TIED CARD OF 'casematelaw22.BootExact'. -/
def bootExactCard : Claim7 := { stood := { row := bootExactRow, standIns := [], harness := (true, "7f4c30e94d4de0a781f96bbc8e18d6b45336d4f6603d87d86d8c1f11b4cafc8e"), looks := true }, kinds := [], alts := [], laidByText := true, laidKinds := [.data, .pinned], laidTests := true, laidLooks := .later }
def BootExactCardSaid : Prop := Claim7.holds Tryz.pinned (.plain (OpenSpec.ofChange bootExactSpec)) bootExactCard

/-- THE TIED CARD OF 'casematelaw22.BootAgain'. -/
def bootAgainCard : Claim7 := { stood := { row := bootAgainRow, standIns := [], harness := (true, "7f4c30e94d4de0a781f96bbc8e18d6b45336d4f6603d87d86d8c1f11b4cafc8e"), looks := true }, kinds := [], alts := [], laidByText := true, laidKinds := [.data, .pinned], laidTests := true, laidLooks := .later }
def BootAgainCardSaid : Prop := Claim7.holds Tryz.pinned (.plain (OpenSpec.ofChange bootAgainSpec)) bootAgainCard

/-- THE TIED CARD OF 'casematelaw22.BootAnchors'. -/
def bootAnchorsCard : Claim7 := { stood := { row := bootAnchorsRow, standIns := [], harness := (true, "7f4c30e94d4de0a781f96bbc8e18d6b45336d4f6603d87d86d8c1f11b4cafc8e"), looks := true }, kinds := [], alts := [], laidByText := true, laidKinds := [.data, .pinned], laidTests := true, laidLooks := .later }
def BootAnchorsCardSaid : Prop := Claim7.holds Tryz.pinned (.plain (OpenSpec.ofChange bootAnchorsSpec)) bootAnchorsCard

/-- THE TIED CARD OF 'casematelaw22.BootCopies'. -/
def bootCopiesCard : Claim7 := { stood := { row := bootCopiesRow, standIns := [], harness := (true, "7f4c30e94d4de0a781f96bbc8e18d6b45336d4f6603d87d86d8c1f11b4cafc8e"), looks := true }, kinds := [], alts := [], laidByText := true, laidKinds := [.data, .pinned], laidTests := true, laidLooks := .later }
def BootCopiesCardSaid : Prop := Claim7.holds Tryz.pinned (.plain (OpenSpec.ofChange bootCopiesSpec)) bootCopiesCard

/-- THE SECOND FORM's CARD OF 'casematelaw22.BootMounts'. -/
def bootMountsUptoCard : Claim7 := { stood := { row := bootMountsUptoRow, standIns := [], harness := (true, "7f4c30e94d4de0a781f96bbc8e18d6b45336d4f6603d87d86d8c1f11b4cafc8e"), looks := true }, kinds := [], alts := [], laidByText := true, laidKinds := [.data, .pinned], laidTests := true, laidLooks := .later }
def BootMountsUptoCardSaid : Prop := Claim7.holds Tryz.pinned (.plain (OpenSpec.upto bootMountsSpec)) bootMountsUptoCard

/-- THE SECOND FORM's CARD OF 'casematelaw22.BootFinds'. -/
def bootFindsUptoCard : Claim7 := { stood := { row := bootFindsUptoRow, standIns := [], harness := (true, "7f4c30e94d4de0a781f96bbc8e18d6b45336d4f6603d87d86d8c1f11b4cafc8e"), looks := true }, kinds := [], alts := [], laidByText := true, laidKinds := [.data, .pinned], laidTests := true, laidLooks := .later }
def BootFindsUptoCardSaid : Prop := Claim7.holds Tryz.pinned (.plain (OpenSpec.upto bootFindsSpec)) bootFindsUptoCard

/-- THE SECOND FORM's CARD OF 'casematelaw22.BootExact'. -/
def bootExactUptoCard : Claim7 := { stood := { row := bootExactUptoRow, standIns := [], harness := (true, "7f4c30e94d4de0a781f96bbc8e18d6b45336d4f6603d87d86d8c1f11b4cafc8e"), looks := true }, kinds := [], alts := [], laidByText := true, laidKinds := [.data, .pinned], laidTests := true, laidLooks := .later }
def BootExactUptoCardSaid : Prop := Claim7.holds Tryz.pinned (.plain (OpenSpec.upto bootExactSpec)) bootExactUptoCard

/-- THE SECOND FORM's CARD OF 'casematelaw22.BootAgain'. -/
def bootAgainUptoCard : Claim7 := { stood := { row := bootAgainUptoRow, standIns := [], harness := (true, "7f4c30e94d4de0a781f96bbc8e18d6b45336d4f6603d87d86d8c1f11b4cafc8e"), looks := true }, kinds := [], alts := [], laidByText := true, laidKinds := [.data, .pinned], laidTests := true, laidLooks := .later }
def BootAgainUptoCardSaid : Prop := Claim7.holds Tryz.pinned (.plain (OpenSpec.upto bootAgainSpec)) bootAgainUptoCard

/-- THE SECOND FORM's CARD OF 'casematelaw22.BootAnchors'. -/
def bootAnchorsUptoCard : Claim7 := { stood := { row := bootAnchorsUptoRow, standIns := [], harness := (true, "7f4c30e94d4de0a781f96bbc8e18d6b45336d4f6603d87d86d8c1f11b4cafc8e"), looks := true }, kinds := [], alts := [], laidByText := true, laidKinds := [.data, .pinned], laidTests := true, laidLooks := .later }
def BootAnchorsUptoCardSaid : Prop := Claim7.holds Tryz.pinned (.plain (OpenSpec.upto bootAnchorsSpec)) bootAnchorsUptoCard

/-- THE SECOND FORM's CARD OF 'casematelaw22.BootCopies'. -/
def bootCopiesUptoCard : Claim7 := { stood := { row := bootCopiesUptoRow, standIns := [], harness := (true, "7f4c30e94d4de0a781f96bbc8e18d6b45336d4f6603d87d86d8c1f11b4cafc8e"), looks := true }, kinds := [], alts := [], laidByText := true, laidKinds := [.data, .pinned], laidTests := true, laidLooks := .later }
def BootCopiesUptoCardSaid : Prop := Claim7.holds Tryz.pinned (.plain (OpenSpec.upto bootCopiesSpec)) bootCopiesUptoCard
end Rows
end Go.Proofs.YtldngmdpiifamaaGreatDoor
