/-
  NARROWER THAN 'FOR EVERY INPUT', by the rows' own cells (each row's printed sentence says how): PairExact: laid · PairLeft: laid · PairElder: laid · PairOthers: laid · ScanFinds: laid · ScanCut: laid · ScanMended: laid · ScanRight: laid · ScanElder: laid.
  DERIVED. THE GIVEN ROWS OF THIS SEAT. 9 by the template 'for every input the law returns true; each argument reads behind the call as it read before'; 0 by the template 'total and deterministic' (their statements: YteecmgonbdbhdaaDoorTotals.lean).
  GIVEN WITH THE SEED: the statements are not yours to turn. If you find one false, say at which input.
  Laid BY PROGRAM, IN A SANDBOX (cutbox-rows.mjs): the forced cells as the released guide's own fill.sh prints them over the translation af1ec886fb55bda6… (all of the seat's roots in one cut). By AI agents, Wed Nov 11 2026. No macro, syntax, notation, axiom, sorry.
-/
import Derived.Test.YteecmgonbdbhdaaDoorChecked
import GoSem.PinnedTables
import GoSem.Claim
import GoSem.ClaimJoined
import GoSem.ClaimMapViews
import Derived.JoinedTies
import Derived.KernelRfl
namespace Go.Proofs.YteecmgonbdbhdaaDoor
/- THE CELL 'sum', in the pinned program and in every row, IS THE sha256 OF THE DUMP (.gsa) THAT YteecmgonbdbhdaaDoorProg.lean LOADS. Nothing in Lean hashes anything: it is a label: what it is worth is what the hold of that sum in a sandbox is worth. -/
noncomputable def Tryd.pinned : Pinned := { name := "yteecmgonbdbhdaadoor", sum := "af1ec886fb55bda6f132cb46632cb06db4a57590830281a4fa652cc7071cae0d", checked := Tryd.checked }
namespace Rows
def none {H : Type} : Left H := { results := [], args := [] }

/- WHAT THE LISTED PACKAGE-LEVEL VARIABLES READ AS WHEN THE CALL BEGINS. Each datum BY PROGRAM (the guide's laid-datum.mjs) off the statement by which the dump's own 'gosem.cut.vars' lays the variable. In a bare row this is a premise. The card (YteecmgonbdbhdaaDoorCards.lean) ties it to the program's text. -/
def laid_unicode_utf8_acceptRanges {H : Type} : DataW H := .agg [.agg [.lit (.int .u8 128), .lit (.int .u8 191)], .agg [.lit (.int .u8 160), .lit (.int .u8 191)], .agg [.lit (.int .u8 128), .lit (.int .u8 159)], .agg [.lit (.int .u8 144), .lit (.int .u8 191)], .agg [.lit (.int .u8 128), .lit (.int .u8 143)], .agg [.lit (.int .u8 0), .lit (.int .u8 0)], .agg [.lit (.int .u8 0), .lit (.int .u8 0)], .agg [.lit (.int .u8 0), .lit (.int .u8 0)], .agg [.lit (.int .u8 0), .lit (.int .u8 0)], .agg [.lit (.int .u8 0), .lit (.int .u8 0)], .agg [.lit (.int .u8 0), .lit (.int .u8 0)], .agg [.lit (.int .u8 0), .lit (.int .u8 0)], .agg [.lit (.int .u8 0), .lit (.int .u8 0)], .agg [.lit (.int .u8 0), .lit (.int .u8 0)], .agg [.lit (.int .u8 0), .lit (.int .u8 0)], .agg [.lit (.int .u8 0), .lit (.int .u8 0)]]
/-- One of Go's own tables, pinned by name: the form's constant. -/
def laid_unicode_utf8_first : DataW Unit := Go.Pinned.utf8First

/-- 'casematelaw17.PairExact': WHATEVER THE INPUT: true; the input reads as it did. -/
def pairExactSpec : ChangeSpec := { name := "pairExact", fn := fun _ => fun
  | [d1, d2, d3, d4, d5, d6] => { results := [.lit (.bool true)], args := [d1, d2, d3, d4, d5, d6] }
  | _ => none }
def pairExactRow : OpenClaim := { program := "yteecmgonbdbhdaadoor", sum := "af1ec886fb55bda6f132cb46632cb06db4a57590830281a4fa652cc7071cae0d", func := "casemate/casematelaw17.PairExact", spec := "pairExact", unfollowed := true, recurses := true, named := ["unicode/utf8.first", "unicode/utf8.acceptRanges"], apart := false, laid := [("unicode/utf8.acceptRanges", laid_unicode_utf8_acceptRanges), ("unicode/utf8.first", laid_unicode_utf8_first)] }
def PairExactSaid : Prop := pairExactRow.holds Tryd.pinned (OpenSpec.ofChange pairExactSpec)

/-- ITS FALSE NEIGHBOUR: 'it returns false'. Refute it at one input. -/
def pairExactWrong : ChangeSpec := { name := "pairExact", fn := fun _ => fun
  | [d1, d2, d3, d4, d5, d6] => { results := [.lit (.bool false)], args := [d1, d2, d3, d4, d5, d6] }
  | _ => none }
def PairExactWrongFalsely : Prop := pairExactRow.holds Tryd.pinned (OpenSpec.ofChange pairExactWrong)

/-- 'casematelaw17.PairLeft': WHATEVER THE INPUT: true; the input reads as it did. -/
def pairLeftSpec : ChangeSpec := { name := "pairLeft", fn := fun _ => fun
  | [d1, d2, d3, d4, d5, d6, d7] => { results := [.lit (.bool true)], args := [d1, d2, d3, d4, d5, d6, d7] }
  | _ => none }
def pairLeftRow : OpenClaim := { program := "yteecmgonbdbhdaadoor", sum := "af1ec886fb55bda6f132cb46632cb06db4a57590830281a4fa652cc7071cae0d", func := "casemate/casematelaw17.PairLeft", spec := "pairLeft", unfollowed := true, recurses := true, named := ["unicode/utf8.first", "unicode/utf8.acceptRanges"], apart := false, laid := [("unicode/utf8.acceptRanges", laid_unicode_utf8_acceptRanges), ("unicode/utf8.first", laid_unicode_utf8_first)] }
def PairLeftSaid : Prop := pairLeftRow.holds Tryd.pinned (OpenSpec.ofChange pairLeftSpec)

/-- ITS FALSE NEIGHBOUR: 'it returns false'. Refute it at one input. -/
def pairLeftWrong : ChangeSpec := { name := "pairLeft", fn := fun _ => fun
  | [d1, d2, d3, d4, d5, d6, d7] => { results := [.lit (.bool false)], args := [d1, d2, d3, d4, d5, d6, d7] }
  | _ => none }
def PairLeftWrongFalsely : Prop := pairLeftRow.holds Tryd.pinned (OpenSpec.ofChange pairLeftWrong)

/-- 'casematelaw17.PairElder': WHATEVER THE INPUT: true; the input reads as it did. -/
def pairElderSpec : ChangeSpec := { name := "pairElder", fn := fun _ => fun
  | [d1, d2, d3, d4] => { results := [.lit (.bool true)], args := [d1, d2, d3, d4] }
  | _ => none }
def pairElderRow : OpenClaim := { program := "yteecmgonbdbhdaadoor", sum := "af1ec886fb55bda6f132cb46632cb06db4a57590830281a4fa652cc7071cae0d", func := "casemate/casematelaw17.PairElder", spec := "pairElder", unfollowed := true, recurses := true, named := ["unicode/utf8.first", "unicode/utf8.acceptRanges"], apart := false, laid := [("unicode/utf8.acceptRanges", laid_unicode_utf8_acceptRanges), ("unicode/utf8.first", laid_unicode_utf8_first)] }
def PairElderSaid : Prop := pairElderRow.holds Tryd.pinned (OpenSpec.ofChange pairElderSpec)

/-- ITS FALSE NEIGHBOUR: 'it returns false'. Refute it at one input. -/
def pairElderWrong : ChangeSpec := { name := "pairElder", fn := fun _ => fun
  | [d1, d2, d3, d4] => { results := [.lit (.bool false)], args := [d1, d2, d3, d4] }
  | _ => none }
def PairElderWrongFalsely : Prop := pairElderRow.holds Tryd.pinned (OpenSpec.ofChange pairElderWrong)

/-- 'casematelaw17.PairOthers': WHATEVER THE INPUT: true; the input reads as it did. -/
def pairOthersSpec : ChangeSpec := { name := "pairOthers", fn := fun _ => fun
  | [d1, d2, d3, d4, d5, d6] => { results := [.lit (.bool true)], args := [d1, d2, d3, d4, d5, d6] }
  | _ => none }
def pairOthersRow : OpenClaim := { program := "yteecmgonbdbhdaadoor", sum := "af1ec886fb55bda6f132cb46632cb06db4a57590830281a4fa652cc7071cae0d", func := "casemate/casematelaw17.PairOthers", spec := "pairOthers", unfollowed := true, recurses := true, named := ["unicode/utf8.first", "unicode/utf8.acceptRanges"], apart := false, laid := [("unicode/utf8.acceptRanges", laid_unicode_utf8_acceptRanges), ("unicode/utf8.first", laid_unicode_utf8_first)] }
def PairOthersSaid : Prop := pairOthersRow.holds Tryd.pinned (OpenSpec.ofChange pairOthersSpec)

/-- ITS FALSE NEIGHBOUR: 'it returns false'. Refute it at one input. -/
def pairOthersWrong : ChangeSpec := { name := "pairOthers", fn := fun _ => fun
  | [d1, d2, d3, d4, d5, d6] => { results := [.lit (.bool false)], args := [d1, d2, d3, d4, d5, d6] }
  | _ => none }
def PairOthersWrongFalsely : Prop := pairOthersRow.holds Tryd.pinned (OpenSpec.ofChange pairOthersWrong)

/-- 'casematelaw18.ScanFinds': WHATEVER THE INPUT: true; the input reads as it did. -/
def scanFindsSpec : ChangeSpec := { name := "scanFinds", fn := fun _ => fun
  | [d1, d2, d3, d4, d5, d6] => { results := [.lit (.bool true)], args := [d1, d2, d3, d4, d5, d6] }
  | _ => none }
def scanFindsRow : OpenClaim := { program := "yteecmgonbdbhdaadoor", sum := "af1ec886fb55bda6f132cb46632cb06db4a57590830281a4fa652cc7071cae0d", func := "casemate/casematelaw18.ScanFinds", spec := "scanFinds", unfollowed := true, recurses := true, named := ["unicode/utf8.first", "unicode/utf8.acceptRanges"], apart := false, laid := [("unicode/utf8.acceptRanges", laid_unicode_utf8_acceptRanges), ("unicode/utf8.first", laid_unicode_utf8_first)] }
def ScanFindsSaid : Prop := scanFindsRow.holds Tryd.pinned (OpenSpec.ofChange scanFindsSpec)

/-- ITS FALSE NEIGHBOUR: 'it returns false'. Refute it at one input. -/
def scanFindsWrong : ChangeSpec := { name := "scanFinds", fn := fun _ => fun
  | [d1, d2, d3, d4, d5, d6] => { results := [.lit (.bool false)], args := [d1, d2, d3, d4, d5, d6] }
  | _ => none }
def ScanFindsWrongFalsely : Prop := scanFindsRow.holds Tryd.pinned (OpenSpec.ofChange scanFindsWrong)

/-- 'casematelaw18.ScanCut': WHATEVER THE INPUT: true; the input reads as it did. -/
def scanCutSpec : ChangeSpec := { name := "scanCut", fn := fun _ => fun
  | [d1, d2, d3, d4, d5] => { results := [.lit (.bool true)], args := [d1, d2, d3, d4, d5] }
  | _ => none }
def scanCutRow : OpenClaim := { program := "yteecmgonbdbhdaadoor", sum := "af1ec886fb55bda6f132cb46632cb06db4a57590830281a4fa652cc7071cae0d", func := "casemate/casematelaw18.ScanCut", spec := "scanCut", unfollowed := true, recurses := true, named := ["unicode/utf8.first", "unicode/utf8.acceptRanges"], apart := false, laid := [("unicode/utf8.acceptRanges", laid_unicode_utf8_acceptRanges), ("unicode/utf8.first", laid_unicode_utf8_first)] }
def ScanCutSaid : Prop := scanCutRow.holds Tryd.pinned (OpenSpec.ofChange scanCutSpec)

/-- ITS FALSE NEIGHBOUR: 'it returns false'. Refute it at one input. -/
def scanCutWrong : ChangeSpec := { name := "scanCut", fn := fun _ => fun
  | [d1, d2, d3, d4, d5] => { results := [.lit (.bool false)], args := [d1, d2, d3, d4, d5] }
  | _ => none }
def ScanCutWrongFalsely : Prop := scanCutRow.holds Tryd.pinned (OpenSpec.ofChange scanCutWrong)

/-- 'casematelaw18.ScanMended': WHATEVER THE INPUT: true; the input reads as it did. -/
def scanMendedSpec : ChangeSpec := { name := "scanMended", fn := fun _ => fun
  | [d1, d2, d3, d4] => { results := [.lit (.bool true)], args := [d1, d2, d3, d4] }
  | _ => none }
def scanMendedRow : OpenClaim := { program := "yteecmgonbdbhdaadoor", sum := "af1ec886fb55bda6f132cb46632cb06db4a57590830281a4fa652cc7071cae0d", func := "casemate/casematelaw18.ScanMended", spec := "scanMended", unfollowed := true, recurses := true, named := ["unicode/utf8.first", "unicode/utf8.acceptRanges"], apart := false, laid := [("unicode/utf8.acceptRanges", laid_unicode_utf8_acceptRanges), ("unicode/utf8.first", laid_unicode_utf8_first)] }
def ScanMendedSaid : Prop := scanMendedRow.holds Tryd.pinned (OpenSpec.ofChange scanMendedSpec)

/-- ITS FALSE NEIGHBOUR: 'it returns false'. Refute it at one input. -/
def scanMendedWrong : ChangeSpec := { name := "scanMended", fn := fun _ => fun
  | [d1, d2, d3, d4] => { results := [.lit (.bool false)], args := [d1, d2, d3, d4] }
  | _ => none }
def ScanMendedWrongFalsely : Prop := scanMendedRow.holds Tryd.pinned (OpenSpec.ofChange scanMendedWrong)

/-- 'casematelaw18.ScanRight': WHATEVER THE INPUT: true; the input reads as it did. -/
def scanRightSpec : ChangeSpec := { name := "scanRight", fn := fun _ => fun
  | [d1, d2, d3, d4] => { results := [.lit (.bool true)], args := [d1, d2, d3, d4] }
  | _ => none }
def scanRightRow : OpenClaim := { program := "yteecmgonbdbhdaadoor", sum := "af1ec886fb55bda6f132cb46632cb06db4a57590830281a4fa652cc7071cae0d", func := "casemate/casematelaw18.ScanRight", spec := "scanRight", unfollowed := true, recurses := true, named := ["unicode/utf8.first", "unicode/utf8.acceptRanges"], apart := false, laid := [("unicode/utf8.acceptRanges", laid_unicode_utf8_acceptRanges), ("unicode/utf8.first", laid_unicode_utf8_first)] }
def ScanRightSaid : Prop := scanRightRow.holds Tryd.pinned (OpenSpec.ofChange scanRightSpec)

/-- ITS FALSE NEIGHBOUR: 'it returns false'. Refute it at one input. -/
def scanRightWrong : ChangeSpec := { name := "scanRight", fn := fun _ => fun
  | [d1, d2, d3, d4] => { results := [.lit (.bool false)], args := [d1, d2, d3, d4] }
  | _ => none }
def ScanRightWrongFalsely : Prop := scanRightRow.holds Tryd.pinned (OpenSpec.ofChange scanRightWrong)

/-- 'casematelaw18.ScanElder': WHATEVER THE INPUT: true; the input reads as it did. -/
def scanElderSpec : ChangeSpec := { name := "scanElder", fn := fun _ => fun
  | [d1, d2, d3, d4, d5] => { results := [.lit (.bool true)], args := [d1, d2, d3, d4, d5] }
  | _ => none }
def scanElderRow : OpenClaim := { program := "yteecmgonbdbhdaadoor", sum := "af1ec886fb55bda6f132cb46632cb06db4a57590830281a4fa652cc7071cae0d", func := "casemate/casematelaw18.ScanElder", spec := "scanElder", unfollowed := true, recurses := true, named := ["unicode/utf8.first", "unicode/utf8.acceptRanges"], apart := false, laid := [("unicode/utf8.acceptRanges", laid_unicode_utf8_acceptRanges), ("unicode/utf8.first", laid_unicode_utf8_first)] }
def ScanElderSaid : Prop := scanElderRow.holds Tryd.pinned (OpenSpec.ofChange scanElderSpec)

/-- ITS FALSE NEIGHBOUR: 'it returns false'. Refute it at one input. -/
def scanElderWrong : ChangeSpec := { name := "scanElder", fn := fun _ => fun
  | [d1, d2, d3, d4, d5] => { results := [.lit (.bool false)], args := [d1, d2, d3, d4, d5] }
  | _ => none }
def ScanElderWrongFalsely : Prop := scanElderRow.holds Tryd.pinned (OpenSpec.ofChange scanElderWrong)

/- THE SECOND FORM. 'bulk': how many values and letters a reading holds, each counted each time it is reached (what is shared counts as often as it is met; a slice's spare places count too). A statement '..UptoSaid' is the law's where the arguments, and the package variables that the reading takes, are together of bulk at most 1048576: NARROWER than '..Said'. Prove '..Said' where nothing that the law and all that it calls make is longer than what came in: it says more and counts as full. Else prove '..UptoSaid'. A law counts once. -/
mutual
def uptoBulk {H : Type} : DataW H → Nat
  | .lit (.string bytes) => bytes.length + 1
  | .lit _ => 1
  | .nil => 1
  | .ptr d => uptoBulk d + 1
  | .slice elems spare => uptoBulkAll elems + uptoBulkAll spare + 1
  | .agg parts => uptoBulkAll parts + 1
  | .iface _ d => uptoBulk d + 1
  | .map entries => uptoBulkEntries entries + 1
  | .held _ => 1
def uptoBulkAll {H : Type} : List (DataW H) → Nat
  | [] => 0
  | d :: r => uptoBulk d + uptoBulkAll r
def uptoBulkEntries {H : Type} : List (Lit × DataW H) → Nat
  | [] => 0
  | x :: r => uptoBulkEntry x + uptoBulkEntries r
def uptoBulkEntry {H : Type} : Lit × DataW H → Nat
  | (.string bytes, d) => bytes.length + uptoBulk d + 1
  | (_, d) => uptoBulk d + 1
 end
def uptoSmall : (H : Type) → List (DataW H) → Bool := fun _ ds => decide (uptoBulkAll ds ≤ 1048576)
def OpenSpec.upto (s : _root_.Go.ChangeSpec) : _root_.Go.OpenSpec := { _root_.Go.OpenSpec.ofChange s with cond := some uptoSmall }

/-- 'casematelaw17.PairExact', WHERE WHAT IT READS IS OF BULK AT MOST 1048576: true; the input reads as it did. -/
def pairExactUptoRow : OpenClaim := { program := "yteecmgonbdbhdaadoor", sum := "af1ec886fb55bda6f132cb46632cb06db4a57590830281a4fa652cc7071cae0d", func := "casemate/casematelaw17.PairExact", spec := "pairExact", unfollowed := true, recurses := true, named := ["unicode/utf8.first", "unicode/utf8.acceptRanges"], apart := false, laid := [("unicode/utf8.acceptRanges", laid_unicode_utf8_acceptRanges), ("unicode/utf8.first", laid_unicode_utf8_first)], narrowed := true }
def PairExactUptoSaid : Prop := pairExactUptoRow.holds Tryd.pinned (OpenSpec.upto pairExactSpec)

/-- 'casematelaw17.PairLeft', WHERE WHAT IT READS IS OF BULK AT MOST 1048576: true; the input reads as it did. -/
def pairLeftUptoRow : OpenClaim := { program := "yteecmgonbdbhdaadoor", sum := "af1ec886fb55bda6f132cb46632cb06db4a57590830281a4fa652cc7071cae0d", func := "casemate/casematelaw17.PairLeft", spec := "pairLeft", unfollowed := true, recurses := true, named := ["unicode/utf8.first", "unicode/utf8.acceptRanges"], apart := false, laid := [("unicode/utf8.acceptRanges", laid_unicode_utf8_acceptRanges), ("unicode/utf8.first", laid_unicode_utf8_first)], narrowed := true }
def PairLeftUptoSaid : Prop := pairLeftUptoRow.holds Tryd.pinned (OpenSpec.upto pairLeftSpec)

/-- 'casematelaw17.PairElder', WHERE WHAT IT READS IS OF BULK AT MOST 1048576: true; the input reads as it did. -/
def pairElderUptoRow : OpenClaim := { program := "yteecmgonbdbhdaadoor", sum := "af1ec886fb55bda6f132cb46632cb06db4a57590830281a4fa652cc7071cae0d", func := "casemate/casematelaw17.PairElder", spec := "pairElder", unfollowed := true, recurses := true, named := ["unicode/utf8.first", "unicode/utf8.acceptRanges"], apart := false, laid := [("unicode/utf8.acceptRanges", laid_unicode_utf8_acceptRanges), ("unicode/utf8.first", laid_unicode_utf8_first)], narrowed := true }
def PairElderUptoSaid : Prop := pairElderUptoRow.holds Tryd.pinned (OpenSpec.upto pairElderSpec)

/-- 'casematelaw17.PairOthers', WHERE WHAT IT READS IS OF BULK AT MOST 1048576: true; the input reads as it did. -/
def pairOthersUptoRow : OpenClaim := { program := "yteecmgonbdbhdaadoor", sum := "af1ec886fb55bda6f132cb46632cb06db4a57590830281a4fa652cc7071cae0d", func := "casemate/casematelaw17.PairOthers", spec := "pairOthers", unfollowed := true, recurses := true, named := ["unicode/utf8.first", "unicode/utf8.acceptRanges"], apart := false, laid := [("unicode/utf8.acceptRanges", laid_unicode_utf8_acceptRanges), ("unicode/utf8.first", laid_unicode_utf8_first)], narrowed := true }
def PairOthersUptoSaid : Prop := pairOthersUptoRow.holds Tryd.pinned (OpenSpec.upto pairOthersSpec)

/-- 'casematelaw18.ScanFinds', WHERE WHAT IT READS IS OF BULK AT MOST 1048576: true; the input reads as it did. -/
def scanFindsUptoRow : OpenClaim := { program := "yteecmgonbdbhdaadoor", sum := "af1ec886fb55bda6f132cb46632cb06db4a57590830281a4fa652cc7071cae0d", func := "casemate/casematelaw18.ScanFinds", spec := "scanFinds", unfollowed := true, recurses := true, named := ["unicode/utf8.first", "unicode/utf8.acceptRanges"], apart := false, laid := [("unicode/utf8.acceptRanges", laid_unicode_utf8_acceptRanges), ("unicode/utf8.first", laid_unicode_utf8_first)], narrowed := true }
def ScanFindsUptoSaid : Prop := scanFindsUptoRow.holds Tryd.pinned (OpenSpec.upto scanFindsSpec)

/-- 'casematelaw18.ScanCut', WHERE WHAT IT READS IS OF BULK AT MOST 1048576: true; the input reads as it did. -/
def scanCutUptoRow : OpenClaim := { program := "yteecmgonbdbhdaadoor", sum := "af1ec886fb55bda6f132cb46632cb06db4a57590830281a4fa652cc7071cae0d", func := "casemate/casematelaw18.ScanCut", spec := "scanCut", unfollowed := true, recurses := true, named := ["unicode/utf8.first", "unicode/utf8.acceptRanges"], apart := false, laid := [("unicode/utf8.acceptRanges", laid_unicode_utf8_acceptRanges), ("unicode/utf8.first", laid_unicode_utf8_first)], narrowed := true }
def ScanCutUptoSaid : Prop := scanCutUptoRow.holds Tryd.pinned (OpenSpec.upto scanCutSpec)

/-- 'casematelaw18.ScanMended', WHERE WHAT IT READS IS OF BULK AT MOST 1048576: true; the input reads as it did. -/
def scanMendedUptoRow : OpenClaim := { program := "yteecmgonbdbhdaadoor", sum := "af1ec886fb55bda6f132cb46632cb06db4a57590830281a4fa652cc7071cae0d", func := "casemate/casematelaw18.ScanMended", spec := "scanMended", unfollowed := true, recurses := true, named := ["unicode/utf8.first", "unicode/utf8.acceptRanges"], apart := false, laid := [("unicode/utf8.acceptRanges", laid_unicode_utf8_acceptRanges), ("unicode/utf8.first", laid_unicode_utf8_first)], narrowed := true }
def ScanMendedUptoSaid : Prop := scanMendedUptoRow.holds Tryd.pinned (OpenSpec.upto scanMendedSpec)

/-- 'casematelaw18.ScanRight', WHERE WHAT IT READS IS OF BULK AT MOST 1048576: true; the input reads as it did. -/
def scanRightUptoRow : OpenClaim := { program := "yteecmgonbdbhdaadoor", sum := "af1ec886fb55bda6f132cb46632cb06db4a57590830281a4fa652cc7071cae0d", func := "casemate/casematelaw18.ScanRight", spec := "scanRight", unfollowed := true, recurses := true, named := ["unicode/utf8.first", "unicode/utf8.acceptRanges"], apart := false, laid := [("unicode/utf8.acceptRanges", laid_unicode_utf8_acceptRanges), ("unicode/utf8.first", laid_unicode_utf8_first)], narrowed := true }
def ScanRightUptoSaid : Prop := scanRightUptoRow.holds Tryd.pinned (OpenSpec.upto scanRightSpec)

/-- 'casematelaw18.ScanElder', WHERE WHAT IT READS IS OF BULK AT MOST 1048576: true; the input reads as it did. -/
def scanElderUptoRow : OpenClaim := { program := "yteecmgonbdbhdaadoor", sum := "af1ec886fb55bda6f132cb46632cb06db4a57590830281a4fa652cc7071cae0d", func := "casemate/casematelaw18.ScanElder", spec := "scanElder", unfollowed := true, recurses := true, named := ["unicode/utf8.first", "unicode/utf8.acceptRanges"], apart := false, laid := [("unicode/utf8.acceptRanges", laid_unicode_utf8_acceptRanges), ("unicode/utf8.first", laid_unicode_utf8_first)], narrowed := true }
def ScanElderUptoSaid : Prop := scanElderUptoRow.holds Tryd.pinned (OpenSpec.upto scanElderSpec)

end Rows
end Go.Proofs.YteecmgonbdbhdaaDoor
