/-
  NARROWER THAN 'FOR EVERY INPUT', by the rows' own cells (each row's printed sentence says how): CheckTables: laid · CheckReads: laid · CheckFrees: laid · CheckFails: laid · CheckCut: laid · CheckMoves: laid.
  DERIVED. THE GIVEN ROWS OF THIS SEAT. 6 by the template 'for every input the law returns true; each argument reads behind the call as it read before'; 0 by the template 'total and deterministic' (their statements: YtkolckdakddggaaGreatDoorTotals.lean).
  GIVEN WITH THE SEED: the statements are not yours to turn. If you find one false, say at which input.
  Laid BY PROGRAM, IN A SANDBOX (cutbox-rows.mjs): the forced cells as the released guide's own fill.sh prints them over the translation a06dc6e190bb4414… (all of the seat's roots in one cut). By AI agents, Wed Nov 11 2026. No macro, syntax, notation, axiom, sorry.
-/
import Derived.Test.YtkolckdakddggaaGreatDoorChecked
import GoSem.PinnedTables
import GoSem.Claim
import GoSem.ClaimJoined
import GoSem.ClaimMapViews
import Derived.JoinedTies
import Derived.KernelRfl
namespace Go.Proofs.YtkolckdakddggaaGreatDoor
/- THE CELL 'sum', in the pinned program and in every row, IS THE sha256 OF THE DUMP (.gsa) THAT YtkolckdakddggaaGreatDoorProg.lean LOADS. Nothing in Lean hashes anything: it is a label: what it is worth is what the hold of that sum in a sandbox is worth. -/
noncomputable def Tryz.pinned : Pinned := { name := "ytkolckdakddggaagreatdoor", sum := "a06dc6e190bb44148aa68dcb7a6b00f61aa38e22f19977b2035a86b64337b04d", checked := Tryz.checked }
namespace Rows
def none {H : Type} : Left H := { results := [], args := [] }

/- WHAT THE LISTED PACKAGE-LEVEL VARIABLES READ AS WHEN THE CALL BEGINS. Each datum BY PROGRAM (the guide's laid-datum.mjs) off the statement by which the dump's own 'gosem.cut.vars' lays the variable. In a bare row this is a premise. The card (YtkolckdakddggaaGreatDoorCards.lean) ties it to the program's text. -/
def laid_unicode_utf8_acceptRanges {H : Type} : DataW H := .agg [.agg [.lit (.int .u8 128), .lit (.int .u8 191)], .agg [.lit (.int .u8 160), .lit (.int .u8 191)], .agg [.lit (.int .u8 128), .lit (.int .u8 159)], .agg [.lit (.int .u8 144), .lit (.int .u8 191)], .agg [.lit (.int .u8 128), .lit (.int .u8 143)], .agg [.lit (.int .u8 0), .lit (.int .u8 0)], .agg [.lit (.int .u8 0), .lit (.int .u8 0)], .agg [.lit (.int .u8 0), .lit (.int .u8 0)], .agg [.lit (.int .u8 0), .lit (.int .u8 0)], .agg [.lit (.int .u8 0), .lit (.int .u8 0)], .agg [.lit (.int .u8 0), .lit (.int .u8 0)], .agg [.lit (.int .u8 0), .lit (.int .u8 0)], .agg [.lit (.int .u8 0), .lit (.int .u8 0)], .agg [.lit (.int .u8 0), .lit (.int .u8 0)], .agg [.lit (.int .u8 0), .lit (.int .u8 0)], .agg [.lit (.int .u8 0), .lit (.int .u8 0)]]
/-- One of Go's own tables, pinned by name: the form's constant. -/
def laid_unicode_utf8_first : DataW Unit := Go.Pinned.utf8First

/-- 'casematelaw24.CheckTables': WHATEVER THE INPUT: true; the input reads as it did. -/
def checkTablesSpec : ChangeSpec := { name := "checkTables", fn := fun _ => fun
  | [d1, d2] => { results := [.lit (.bool true)], args := [d1, d2] }
  | _ => none }
def checkTablesRow : OpenClaim := { program := "ytkolckdakddggaagreatdoor", sum := "a06dc6e190bb44148aa68dcb7a6b00f61aa38e22f19977b2035a86b64337b04d", func := "casemate/casematelaw24.CheckTables", spec := "checkTables", unfollowed := true, recurses := true, named := ["unicode/utf8.first", "unicode/utf8.acceptRanges"], apart := false, laid := [("unicode/utf8.acceptRanges", laid_unicode_utf8_acceptRanges), ("unicode/utf8.first", laid_unicode_utf8_first)] }
def CheckTablesSaid : Prop := checkTablesRow.holds Tryz.pinned (OpenSpec.ofChange checkTablesSpec)

/-- ITS FALSE NEIGHBOUR: 'it returns false'. Refute it at one input. -/
def checkTablesWrong : ChangeSpec := { name := "checkTables", fn := fun _ => fun
  | [d1, d2] => { results := [.lit (.bool false)], args := [d1, d2] }
  | _ => none }
def CheckTablesWrongFalsely : Prop := checkTablesRow.holds Tryz.pinned (OpenSpec.ofChange checkTablesWrong)

/-- 'casematelaw24.CheckReads': WHATEVER THE INPUT: true; the input reads as it did. -/
def checkReadsSpec : ChangeSpec := { name := "checkReads", fn := fun _ => fun
  | [d1, d2] => { results := [.lit (.bool true)], args := [d1, d2] }
  | _ => none }
def checkReadsRow : OpenClaim := { program := "ytkolckdakddggaagreatdoor", sum := "a06dc6e190bb44148aa68dcb7a6b00f61aa38e22f19977b2035a86b64337b04d", func := "casemate/casematelaw24.CheckReads", spec := "checkReads", unfollowed := true, recurses := true, named := ["unicode/utf8.first", "unicode/utf8.acceptRanges"], apart := false, laid := [("unicode/utf8.acceptRanges", laid_unicode_utf8_acceptRanges), ("unicode/utf8.first", laid_unicode_utf8_first)] }
def CheckReadsSaid : Prop := checkReadsRow.holds Tryz.pinned (OpenSpec.ofChange checkReadsSpec)

/-- ITS FALSE NEIGHBOUR: 'it returns false'. Refute it at one input. -/
def checkReadsWrong : ChangeSpec := { name := "checkReads", fn := fun _ => fun
  | [d1, d2] => { results := [.lit (.bool false)], args := [d1, d2] }
  | _ => none }
def CheckReadsWrongFalsely : Prop := checkReadsRow.holds Tryz.pinned (OpenSpec.ofChange checkReadsWrong)

/-- 'casematelaw24.CheckFrees': WHATEVER THE INPUT: true; the input reads as it did. -/
def checkFreesSpec : ChangeSpec := { name := "checkFrees", fn := fun _ => fun
  | [d1, d2, d3, d4] => { results := [.lit (.bool true)], args := [d1, d2, d3, d4] }
  | _ => none }
def checkFreesRow : OpenClaim := { program := "ytkolckdakddggaagreatdoor", sum := "a06dc6e190bb44148aa68dcb7a6b00f61aa38e22f19977b2035a86b64337b04d", func := "casemate/casematelaw24.CheckFrees", spec := "checkFrees", unfollowed := true, recurses := true, named := ["unicode/utf8.first", "unicode/utf8.acceptRanges"], apart := false, laid := [("unicode/utf8.acceptRanges", laid_unicode_utf8_acceptRanges), ("unicode/utf8.first", laid_unicode_utf8_first)] }
def CheckFreesSaid : Prop := checkFreesRow.holds Tryz.pinned (OpenSpec.ofChange checkFreesSpec)

/-- ITS FALSE NEIGHBOUR: 'it returns false'. Refute it at one input. -/
def checkFreesWrong : ChangeSpec := { name := "checkFrees", fn := fun _ => fun
  | [d1, d2, d3, d4] => { results := [.lit (.bool false)], args := [d1, d2, d3, d4] }
  | _ => none }
def CheckFreesWrongFalsely : Prop := checkFreesRow.holds Tryz.pinned (OpenSpec.ofChange checkFreesWrong)

/-- 'casematelaw24.CheckFails': WHATEVER THE INPUT: true; the input reads as it did. -/
def checkFailsSpec : ChangeSpec := { name := "checkFails", fn := fun _ => fun
  | [d1, d2, d3] => { results := [.lit (.bool true)], args := [d1, d2, d3] }
  | _ => none }
def checkFailsRow : OpenClaim := { program := "ytkolckdakddggaagreatdoor", sum := "a06dc6e190bb44148aa68dcb7a6b00f61aa38e22f19977b2035a86b64337b04d", func := "casemate/casematelaw24.CheckFails", spec := "checkFails", unfollowed := true, recurses := true, named := ["unicode/utf8.first", "unicode/utf8.acceptRanges"], apart := false, laid := [("unicode/utf8.acceptRanges", laid_unicode_utf8_acceptRanges), ("unicode/utf8.first", laid_unicode_utf8_first)] }
def CheckFailsSaid : Prop := checkFailsRow.holds Tryz.pinned (OpenSpec.ofChange checkFailsSpec)

/-- ITS FALSE NEIGHBOUR: 'it returns false'. Refute it at one input. -/
def checkFailsWrong : ChangeSpec := { name := "checkFails", fn := fun _ => fun
  | [d1, d2, d3] => { results := [.lit (.bool false)], args := [d1, d2, d3] }
  | _ => none }
def CheckFailsWrongFalsely : Prop := checkFailsRow.holds Tryz.pinned (OpenSpec.ofChange checkFailsWrong)

/-- 'casematelaw24.CheckCut': WHATEVER THE INPUT: true; the input reads as it did. -/
def checkCutSpec : ChangeSpec := { name := "checkCut", fn := fun _ => fun
  | [d1, d2, d3, d4] => { results := [.lit (.bool true)], args := [d1, d2, d3, d4] }
  | _ => none }
def checkCutRow : OpenClaim := { program := "ytkolckdakddggaagreatdoor", sum := "a06dc6e190bb44148aa68dcb7a6b00f61aa38e22f19977b2035a86b64337b04d", func := "casemate/casematelaw24.CheckCut", spec := "checkCut", unfollowed := true, recurses := true, named := ["unicode/utf8.first", "unicode/utf8.acceptRanges"], apart := false, laid := [("unicode/utf8.acceptRanges", laid_unicode_utf8_acceptRanges), ("unicode/utf8.first", laid_unicode_utf8_first)] }
def CheckCutSaid : Prop := checkCutRow.holds Tryz.pinned (OpenSpec.ofChange checkCutSpec)

/-- ITS FALSE NEIGHBOUR: 'it returns false'. Refute it at one input. -/
def checkCutWrong : ChangeSpec := { name := "checkCut", fn := fun _ => fun
  | [d1, d2, d3, d4] => { results := [.lit (.bool false)], args := [d1, d2, d3, d4] }
  | _ => none }
def CheckCutWrongFalsely : Prop := checkCutRow.holds Tryz.pinned (OpenSpec.ofChange checkCutWrong)

/-- 'casematelaw24.CheckMoves': WHATEVER THE INPUT: true; the input reads as it did. -/
def checkMovesSpec : ChangeSpec := { name := "checkMoves", fn := fun _ => fun
  | [d1, d2, d3, d4, d5, d6, d7] => { results := [.lit (.bool true)], args := [d1, d2, d3, d4, d5, d6, d7] }
  | _ => none }
def checkMovesRow : OpenClaim := { program := "ytkolckdakddggaagreatdoor", sum := "a06dc6e190bb44148aa68dcb7a6b00f61aa38e22f19977b2035a86b64337b04d", func := "casemate/casematelaw24.CheckMoves", spec := "checkMoves", unfollowed := true, recurses := true, named := ["unicode/utf8.first", "unicode/utf8.acceptRanges"], apart := false, laid := [("unicode/utf8.acceptRanges", laid_unicode_utf8_acceptRanges), ("unicode/utf8.first", laid_unicode_utf8_first)] }
def CheckMovesSaid : Prop := checkMovesRow.holds Tryz.pinned (OpenSpec.ofChange checkMovesSpec)

/-- ITS FALSE NEIGHBOUR: 'it returns false'. Refute it at one input. -/
def checkMovesWrong : ChangeSpec := { name := "checkMoves", fn := fun _ => fun
  | [d1, d2, d3, d4, d5, d6, d7] => { results := [.lit (.bool false)], args := [d1, d2, d3, d4, d5, d6, d7] }
  | _ => none }
def CheckMovesWrongFalsely : Prop := checkMovesRow.holds Tryz.pinned (OpenSpec.ofChange checkMovesWrong)

/- THE SECOND FORM. 'bulk': how many values and letters a reading holds, each counted each time it is reached (what is shared counts as often as it is met; a slice's spare places count too). A statement '..UptoSaid' is the law's where the arguments, and the package variables that the reading takes, are together of bulk at most 1048576: NARROWER than '..Said'. Prove '..Said' where nothing that the law and all that it calls make is longer than what came in: it says more and counts as full. Else prove '..UptoSaid'. A law counts once. -/
mutual
def uptoBulk {H : Type} : DataW H → Nat
  | .lit (.string bytes) => bytes.length + 1
  | .lit _ => 1
  | .nil => 1
  | .ptr d => uptoBulk d + 1
  | .slice elems spare => uptoBulkAll elems + uptoBulkAll spare + 1
  | .agg parts => uptoBulkAll parts + 1
  | .iface _ d => uptoBulk d + 1
  | .map entries => uptoBulkEntries entries + 1
  | .held _ => 1
def uptoBulkAll {H : Type} : List (DataW H) → Nat
  | [] => 0
  | d :: r => uptoBulk d + uptoBulkAll r
def uptoBulkEntries {H : Type} : List (Lit × DataW H) → Nat
  | [] => 0
  | x :: r => uptoBulkEntry x + uptoBulkEntries r
def uptoBulkEntry {H : Type} : Lit × DataW H → Nat
  | (.string bytes, d) => bytes.length + uptoBulk d + 1
  | (_, d) => uptoBulk d + 1
 end
def uptoSmall : (H : Type) → List (DataW H) → Bool := fun _ ds => decide (uptoBulkAll ds ≤ 1048576)
def OpenSpec.upto (s : _root_.Go.ChangeSpec) : _root_.Go.OpenSpec := { _root_.Go.OpenSpec.ofChange s with cond := some uptoSmall }

/-- 'casematelaw24.CheckTables', WHERE WHAT IT READS IS OF BULK AT MOST 1048576: true; the input reads as it did. -/
def checkTablesUptoRow : OpenClaim := { program := "ytkolckdakddggaagreatdoor", sum := "a06dc6e190bb44148aa68dcb7a6b00f61aa38e22f19977b2035a86b64337b04d", func := "casemate/casematelaw24.CheckTables", spec := "checkTables", unfollowed := true, recurses := true, named := ["unicode/utf8.first", "unicode/utf8.acceptRanges"], apart := false, laid := [("unicode/utf8.acceptRanges", laid_unicode_utf8_acceptRanges), ("unicode/utf8.first", laid_unicode_utf8_first)], narrowed := true }
def CheckTablesUptoSaid : Prop := checkTablesUptoRow.holds Tryz.pinned (OpenSpec.upto checkTablesSpec)

/-- 'casematelaw24.CheckReads', WHERE WHAT IT READS IS OF BULK AT MOST 1048576: true; the input reads as it did. -/
def checkReadsUptoRow : OpenClaim := { program := "ytkolckdakddggaagreatdoor", sum := "a06dc6e190bb44148aa68dcb7a6b00f61aa38e22f19977b2035a86b64337b04d", func := "casemate/casematelaw24.CheckReads", spec := "checkReads", unfollowed := true, recurses := true, named := ["unicode/utf8.first", "unicode/utf8.acceptRanges"], apart := false, laid := [("unicode/utf8.acceptRanges", laid_unicode_utf8_acceptRanges), ("unicode/utf8.first", laid_unicode_utf8_first)], narrowed := true }
def CheckReadsUptoSaid : Prop := checkReadsUptoRow.holds Tryz.pinned (OpenSpec.upto checkReadsSpec)

/-- 'casematelaw24.CheckFrees', WHERE WHAT IT READS IS OF BULK AT MOST 1048576: true; the input reads as it did. -/
def checkFreesUptoRow : OpenClaim := { program := "ytkolckdakddggaagreatdoor", sum := "a06dc6e190bb44148aa68dcb7a6b00f61aa38e22f19977b2035a86b64337b04d", func := "casemate/casematelaw24.CheckFrees", spec := "checkFrees", unfollowed := true, recurses := true, named := ["unicode/utf8.first", "unicode/utf8.acceptRanges"], apart := false, laid := [("unicode/utf8.acceptRanges", laid_unicode_utf8_acceptRanges), ("unicode/utf8.first", laid_unicode_utf8_first)], narrowed := true }
def CheckFreesUptoSaid : Prop := checkFreesUptoRow.holds Tryz.pinned (OpenSpec.upto checkFreesSpec)

/-- 'casematelaw24.CheckFails', WHERE WHAT IT READS IS OF BULK AT MOST 1048576: true; the input reads as it did. -/
def checkFailsUptoRow : OpenClaim := { program := "ytkolckdakddggaagreatdoor", sum := "a06dc6e190bb44148aa68dcb7a6b00f61aa38e22f19977b2035a86b64337b04d", func := "casemate/casematelaw24.CheckFails", spec := "checkFails", unfollowed := true, recurses := true, named := ["unicode/utf8.first", "unicode/utf8.acceptRanges"], apart := false, laid := [("unicode/utf8.acceptRanges", laid_unicode_utf8_acceptRanges), ("unicode/utf8.first", laid_unicode_utf8_first)], narrowed := true }
def CheckFailsUptoSaid : Prop := checkFailsUptoRow.holds Tryz.pinned (OpenSpec.upto checkFailsSpec)

/-- 'casematelaw24.CheckCut', WHERE WHAT IT READS IS OF BULK AT MOST 1048576: true; the input reads as it did. -/
def checkCutUptoRow : OpenClaim := { program := "ytkolckdakddggaagreatdoor", sum := "a06dc6e190bb44148aa68dcb7a6b00f61aa38e22f19977b2035a86b64337b04d", func := "casemate/casematelaw24.CheckCut", spec := "checkCut", unfollowed := true, recurses := true, named := ["unicode/utf8.first", "unicode/utf8.acceptRanges"], apart := false, laid := [("unicode/utf8.acceptRanges", laid_unicode_utf8_acceptRanges), ("unicode/utf8.first", laid_unicode_utf8_first)], narrowed := true }
def CheckCutUptoSaid : Prop := checkCutUptoRow.holds Tryz.pinned (OpenSpec.upto checkCutSpec)

/-- 'casematelaw24.CheckMoves', WHERE WHAT IT READS IS OF BULK AT MOST 1048576: true; the input reads as it did. -/
def checkMovesUptoRow : OpenClaim := { program := "ytkolckdakddggaagreatdoor", sum := "a06dc6e190bb44148aa68dcb7a6b00f61aa38e22f19977b2035a86b64337b04d", func := "casemate/casematelaw24.CheckMoves", spec := "checkMoves", unfollowed := true, recurses := true, named := ["unicode/utf8.first", "unicode/utf8.acceptRanges"], apart := false, laid := [("unicode/utf8.acceptRanges", laid_unicode_utf8_acceptRanges), ("unicode/utf8.first", laid_unicode_utf8_first)], narrowed := true }
def CheckMovesUptoSaid : Prop := checkMovesUptoRow.holds Tryz.pinned (OpenSpec.upto checkMovesSpec)

end Rows
end Go.Proofs.YtkolckdakddggaaGreatDoor
