/-
  DERIVED. GIVEN WITH THE SEED: THE CARDS: each row of YteecmgonbdbhdaaDoorRows.lean that lists a variable, with what it lists TIED to the program's text (the seventh form; the later family's looks); each row that meets fmt, with fmt's text TOLD by the authors' own Lean function (tested against real Go, not proved from fmt's source: count such statements apart). THE CARD IS WHAT COUNTS. Prove the row's statement (the work); the ties are given (YteecmgonbdbhdaaDoorTie.lean); close each card by the builder's one call (the guide's Derived/Test/ToyasCard.lean, 'card_holds'). Laid BY PROGRAM, IN A SANDBOX (cutbox-door.mjs). By AI agents, Wed Nov 11 2026. No macro, syntax, notation, axiom, sorry.
-/
import Derived.Test.YteecmgonbdbhdaaDoorRows
import GoSem.ClaimSeven
namespace Go.Proofs.YteecmgonbdbhdaaDoor
namespace Rows

/-- THE TIED CARD OF 'casematelaw17.PairExact'. -/
def pairExactCard : Claim7 := { stood := { row := pairExactRow, standIns := [], harness := (true, "be1f50f82f5ffda840df5f976159d74c0e7867bf5404ffe30d945e4b5edd7f24"), looks := true }, kinds := [], alts := [], laidByText := true, laidKinds := [.data, .pinned], laidTests := true, laidLooks := .later }
def PairExactCardSaid : Prop := Claim7.holds Tryd.pinned (.plain (OpenSpec.ofChange pairExactSpec)) pairExactCard

/-- THE TIED CARD OF 'casematelaw17.PairLeft'. -/
def pairLeftCard : Claim7 := { stood := { row := pairLeftRow, standIns := [], harness := (true, "be1f50f82f5ffda840df5f976159d74c0e7867bf5404ffe30d945e4b5edd7f24"), looks := true }, kinds := [], alts := [], laidByText := true, laidKinds := [.data, .pinned], laidTests := true, laidLooks := .later }
def PairLeftCardSaid : Prop := Claim7.holds Tryd.pinned (.plain (OpenSpec.ofChange pairLeftSpec)) pairLeftCard

/-- THE TIED CARD OF 'casematelaw17.PairElder'. -/
def pairElderCard : Claim7 := { stood := { row := pairElderRow, standIns := [], harness := (true, "be1f50f82f5ffda840df5f976159d74c0e7867bf5404ffe30d945e4b5edd7f24"), looks := true }, kinds := [], alts := [], laidByText := true, laidKinds := [.data, .pinned], laidTests := true, laidLooks := .later }
def PairElderCardSaid : Prop := Claim7.holds Tryd.pinned (.plain (OpenSpec.ofChange pairElderSpec)) pairElderCard

/-- THE TIED CARD OF 'casematelaw17.PairOthers'. -/
def pairOthersCard : Claim7 := { stood := { row := pairOthersRow, standIns := [], harness := (true, "be1f50f82f5ffda840df5f976159d74c0e7867bf5404ffe30d945e4b5edd7f24"), looks := true }, kinds := [], alts := [], laidByText := true, laidKinds := [.data, .pinned], laidTests := true, laidLooks := .later }
def PairOthersCardSaid : Prop := Claim7.holds Tryd.pinned (.plain (OpenSpec.ofChange pairOthersSpec)) pairOthersCard

/-- THE TIED CARD OF 'casematelaw18.ScanFinds'. -/
def scanFindsCard : Claim7 := { stood := { row := scanFindsRow, standIns := [], harness := (true, "be1f50f82f5ffda840df5f976159d74c0e7867bf5404ffe30d945e4b5edd7f24"), looks := true }, kinds := [], alts := [], laidByText := true, laidKinds := [.data, .pinned], laidTests := true, laidLooks := .later }
def ScanFindsCardSaid : Prop := Claim7.holds Tryd.pinned (.plain (OpenSpec.ofChange scanFindsSpec)) scanFindsCard

/-- THE TIED CARD OF 'casematelaw18.ScanCut'. -/
def scanCutCard : Claim7 := { stood := { row := scanCutRow, standIns := [], harness := (true, "be1f50f82f5ffda840df5f976159d74c0e7867bf5404ffe30d945e4b5edd7f24"), looks := true }, kinds := [], alts := [], laidByText := true, laidKinds := [.data, .pinned], laidTests := true, laidLooks := .later }
def ScanCutCardSaid : Prop := Claim7.holds Tryd.pinned (.plain (OpenSpec.ofChange scanCutSpec)) scanCutCard

/-- THE TIED CARD OF 'casematelaw18.ScanMended'. -/
def scanMendedCard : Claim7 := { stood := { row := scanMendedRow, standIns := [], harness := (true, "be1f50f82f5ffda840df5f976159d74c0e7867bf5404ffe30d945e4b5edd7f24"), looks := true }, kinds := [], alts := [], laidByText := true, laidKinds := [.data, .pinned], laidTests := true, laidLooks := .later }
def ScanMendedCardSaid : Prop := Claim7.holds Tryd.pinned (.plain (OpenSpec.ofChange scanMendedSpec)) scanMendedCard

/-- THE TIED CARD OF 'casematelaw18.ScanRight'. -/
def scanRightCard : Claim7 := { stood := { row := scanRightRow, standIns := [], harness := (true, "be1f50f82f5ffda840df5f976159d74c0e7867bf5404ffe30d945e4b5edd7f24"), looks := true }, kinds := [], alts := [], laidByText := true, laidKinds := [.data, .pinned], laidTests := true, laidLooks := .later }
def ScanRightCardSaid : Prop := Claim7.holds Tryd.pinned (.plain (OpenSpec.ofChange scanRightSpec)) scanRightCard

/-- THE TIED CARD OF 'casematelaw18.ScanElder'. -/
def scanElderCard : Claim7 := { stood := { row := scanElderRow, standIns := [], harness := (true, "be1f50f82f5ffda840df5f976159d74c0e7867bf5404ffe30d945e4b5edd7f24"), looks := true }, kinds := [], alts := [], laidByText := true, laidKinds := [.data, .pinned], laidTests := true, laidLooks := .later }
def ScanElderCardSaid : Prop := Claim7.holds Tryd.pinned (.plain (OpenSpec.ofChange scanElderSpec)) scanElderCard

/-- THE SECOND FORM's CARD OF 'casematelaw17.PairExact'. -/
def pairExactUptoCard : Claim7 := { stood := { row := pairExactUptoRow, standIns := [], harness := (true, "be1f50f82f5ffda840df5f976159d74c0e7867bf5404ffe30d945e4b5edd7f24"), looks := true }, kinds := [], alts := [], laidByText := true, laidKinds := [.data, .pinned], laidTests := true, laidLooks := .later }
def PairExactUptoCardSaid : Prop := Claim7.holds Tryd.pinned (.plain (OpenSpec.upto pairExactSpec)) pairExactUptoCard

/-- THE SECOND FORM's CARD OF 'casematelaw17.PairLeft'. -/
def pairLeftUptoCard : Claim7 := { stood := { row := pairLeftUptoRow, standIns := [], harness := (true, "be1f50f82f5ffda840df5f976159d74c0e7867bf5404ffe30d945e4b5edd7f24"), looks := true }, kinds := [], alts := [], laidByText := true, laidKinds := [.data, .pinned], laidTests := true, laidLooks := .later }
def PairLeftUptoCardSaid : Prop := Claim7.holds Tryd.pinned (.plain (OpenSpec.upto pairLeftSpec)) pairLeftUptoCard

/-- THE SECOND FORM's CARD OF 'casematelaw17.PairElder'. -/
def pairElderUptoCard : Claim7 := { stood := { row := pairElderUptoRow, standIns := [], harness := (true, "be1f50f82f5ffda840df5f976159d74c0e7867bf5404ffe30d945e4b5edd7f24"), looks := true }, kinds := [], alts := [], laidByText := true, laidKinds := [.data, .pinned], laidTests := true, laidLooks := .later }
def PairElderUptoCardSaid : Prop := Claim7.holds Tryd.pinned (.plain (OpenSpec.upto pairElderSpec)) pairElderUptoCard

/-- THE SECOND FORM's CARD OF 'casematelaw17.PairOthers'. -/
def pairOthersUptoCard : Claim7 := { stood := { row := pairOthersUptoRow, standIns := [], harness := (true, "be1f50f82f5ffda840df5f976159d74c0e7867bf5404ffe30d945e4b5edd7f24"), looks := true }, kinds := [], alts := [], laidByText := true, laidKinds := [.data, .pinned], laidTests := true, laidLooks := .later }
def PairOthersUptoCardSaid : Prop := Claim7.holds Tryd.pinned (.plain (OpenSpec.upto pairOthersSpec)) pairOthersUptoCard

/-- THE SECOND FORM's CARD OF 'casematelaw18.ScanFinds'. -/
def scanFindsUptoCard : Claim7 := { stood := { row := scanFindsUptoRow, standIns := [], harness := (true, "be1f50f82f5ffda840df5f976159d74c0e7867bf5404ffe30d945e4b5edd7f24"), looks := true }, kinds := [], alts := [], laidByText := true, laidKinds := [.data, .pinned], laidTests := true, laidLooks := .later }
def ScanFindsUptoCardSaid : Prop := Claim7.holds Tryd.pinned (.plain (OpenSpec.upto scanFindsSpec)) scanFindsUptoCard

/-- THE SECOND FORM's CARD OF 'casematelaw18.ScanCut'. -/
def scanCutUptoCard : Claim7 := { stood := { row := scanCutUptoRow, standIns := [], harness := (true, "be1f50f82f5ffda840df5f976159d74c0e7867bf5404ffe30d945e4b5edd7f24"), looks := true }, kinds := [], alts := [], laidByText := true, laidKinds := [.data, .pinned], laidTests := true, laidLooks := .later }
def ScanCutUptoCardSaid : Prop := Claim7.holds Tryd.pinned (.plain (OpenSpec.upto scanCutSpec)) scanCutUptoCard

/-- THE SECOND FORM's CARD OF 'casematelaw18.ScanMended'. -/
def scanMendedUptoCard : Claim7 := { stood := { row := scanMendedUptoRow, standIns := [], harness := (true, "be1f50f82f5ffda840df5f976159d74c0e7867bf5404ffe30d945e4b5edd7f24"), looks := true }, kinds := [], alts := [], laidByText := true, laidKinds := [.data, .pinned], laidTests := true, laidLooks := .later }
def ScanMendedUptoCardSaid : Prop := Claim7.holds Tryd.pinned (.plain (OpenSpec.upto scanMendedSpec)) scanMendedUptoCard

/-- THE SECOND FORM's CARD OF 'casematelaw18.ScanRight'. -/
def scanRightUptoCard : Claim7 := { stood := { row := scanRightUptoRow, standIns := [], harness := (true, "be1f50f82f5ffda840df5f976159d74c0e7867bf5404ffe30d945e4b5edd7f24"), looks := true }, kinds := [], alts := [], laidByText := true, laidKinds := [.data, .pinned], laidTests := true, laidLooks := .later }
def ScanRightUptoCardSaid : Prop := Claim7.holds Tryd.pinned (.plain (OpenSpec.upto scanRightSpec)) scanRightUptoCard

/-- THE SECOND FORM's CARD OF 'casematelaw18.ScanElder'. -/
def scanElderUptoCard : Claim7 := { stood := { row := scanElderUptoRow, standIns := [], harness := (true, "be1f50f82f5ffda840df5f976159d74c0e7867bf5404ffe30d945e4b5edd7f24"), looks := true }, kinds := [], alts := [], laidByText := true, laidKinds := [.data, .pinned], laidTests := true, laidLooks := .later }
def ScanElderUptoCardSaid : Prop := Claim7.holds Tryd.pinned (.plain (OpenSpec.upto scanElderSpec)) scanElderUptoCard
end Rows
end Go.Proofs.YteecmgonbdbhdaaDoor
