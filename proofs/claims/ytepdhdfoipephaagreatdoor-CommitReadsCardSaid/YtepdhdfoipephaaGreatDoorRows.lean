/-
  NARROWER THAN 'FOR EVERY INPUT', by the rows' own cells (each row's printed sentence says how): CommitReads: laid · CommitKeeps: laid · CommitFills: laid · CommitExact: laid · CommitFails: laid · CommitLost: laid.
  DERIVED. THE GIVEN ROWS OF THIS SEAT. 6 by the template 'for every input the law returns true; each argument reads behind the call as it read before'; 0 by the template 'total and deterministic' (their statements: YtepdhdfoipephaaGreatDoorTotals.lean).
  GIVEN WITH THE SEED: the statements are not yours to turn. If you find one false, say at which input.
  Laid BY PROGRAM, IN A SANDBOX (cutbox-rows.mjs): the forced cells as the released guide's own fill.sh prints them over the translation 85f5e167de8fe1b1… (all of the seat's roots in one cut). By AI agents, Wed Nov 11 2026. No macro, syntax, notation, axiom, sorry.
-/
import Derived.Test.YtepdhdfoipephaaGreatDoorChecked
import GoSem.PinnedTables
import GoSem.Claim
import GoSem.ClaimJoined
import GoSem.ClaimMapViews
import Derived.JoinedTies
import Derived.KernelRfl
namespace Go.Proofs.YtepdhdfoipephaaGreatDoor
/- THE CELL 'sum', in the pinned program and in every row, IS THE sha256 OF THE DUMP (.gsa) THAT YtepdhdfoipephaaGreatDoorProg.lean LOADS. Nothing in Lean hashes anything: it is a label: what it is worth is what the hold of that sum in a sandbox is worth. -/
noncomputable def Tryz.pinned : Pinned := { name := "ytepdhdfoipephaagreatdoor", sum := "85f5e167de8fe1b11c4c2e3d68526cf5e4b82e3c5d1d8809a41ae454e8bb53bb", checked := Tryz.checked }
namespace Rows
def none {H : Type} : Left H := { results := [], args := [] }

/- WHAT THE LISTED PACKAGE-LEVEL VARIABLES READ AS WHEN THE CALL BEGINS. Each datum BY PROGRAM (the guide's laid-datum.mjs) off the statement by which the dump's own 'gosem.cut.vars' lays the variable. In a bare row this is a premise. The card (YtepdhdfoipephaaGreatDoorCards.lean) ties it to the program's text. -/
def laid_unicode_utf8_acceptRanges {H : Type} : DataW H := .agg [.agg [.lit (.int .u8 128), .lit (.int .u8 191)], .agg [.lit (.int .u8 160), .lit (.int .u8 191)], .agg [.lit (.int .u8 128), .lit (.int .u8 159)], .agg [.lit (.int .u8 144), .lit (.int .u8 191)], .agg [.lit (.int .u8 128), .lit (.int .u8 143)], .agg [.lit (.int .u8 0), .lit (.int .u8 0)], .agg [.lit (.int .u8 0), .lit (.int .u8 0)], .agg [.lit (.int .u8 0), .lit (.int .u8 0)], .agg [.lit (.int .u8 0), .lit (.int .u8 0)], .agg [.lit (.int .u8 0), .lit (.int .u8 0)], .agg [.lit (.int .u8 0), .lit (.int .u8 0)], .agg [.lit (.int .u8 0), .lit (.int .u8 0)], .agg [.lit (.int .u8 0), .lit (.int .u8 0)], .agg [.lit (.int .u8 0), .lit (.int .u8 0)], .agg [.lit (.int .u8 0), .lit (.int .u8 0)], .agg [.lit (.int .u8 0), .lit (.int .u8 0)]]
/-- One of Go's own tables, pinned by name: the form's constant. -/
def laid_unicode_utf8_first : DataW Unit := Go.Pinned.utf8First

/-- 'casematelaw23.CommitReads': WHATEVER THE INPUT: true; the input reads as it did. -/
def commitReadsSpec : ChangeSpec := { name := "commitReads", fn := fun _ => fun
  | [d1, d2, d3, d4] => { results := [.lit (.bool true)], args := [d1, d2, d3, d4] }
  | _ => none }
def commitReadsRow : OpenClaim := { program := "ytepdhdfoipephaagreatdoor", sum := "85f5e167de8fe1b11c4c2e3d68526cf5e4b82e3c5d1d8809a41ae454e8bb53bb", func := "casemate/casematelaw23.CommitReads", spec := "commitReads", unfollowed := true, recurses := true, named := ["unicode/utf8.first", "unicode/utf8.acceptRanges"], apart := false, laid := [("unicode/utf8.acceptRanges", laid_unicode_utf8_acceptRanges), ("unicode/utf8.first", laid_unicode_utf8_first)] }
def CommitReadsSaid : Prop := commitReadsRow.holds Tryz.pinned (OpenSpec.ofChange commitReadsSpec)

/-- ITS FALSE NEIGHBOUR: 'it returns false'. Refute it at one input. -/
def commitReadsWrong : ChangeSpec := { name := "commitReads", fn := fun _ => fun
  | [d1, d2, d3, d4] => { results := [.lit (.bool false)], args := [d1, d2, d3, d4] }
  | _ => none }
def CommitReadsWrongFalsely : Prop := commitReadsRow.holds Tryz.pinned (OpenSpec.ofChange commitReadsWrong)

/-- 'casematelaw23.CommitKeeps': WHATEVER THE INPUT: true; the input reads as it did. -/
def commitKeepsSpec : ChangeSpec := { name := "commitKeeps", fn := fun _ => fun
  | [d1, d2, d3, d4] => { results := [.lit (.bool true)], args := [d1, d2, d3, d4] }
  | _ => none }
def commitKeepsRow : OpenClaim := { program := "ytepdhdfoipephaagreatdoor", sum := "85f5e167de8fe1b11c4c2e3d68526cf5e4b82e3c5d1d8809a41ae454e8bb53bb", func := "casemate/casematelaw23.CommitKeeps", spec := "commitKeeps", unfollowed := true, recurses := true, named := ["unicode/utf8.first", "unicode/utf8.acceptRanges"], apart := false, laid := [("unicode/utf8.acceptRanges", laid_unicode_utf8_acceptRanges), ("unicode/utf8.first", laid_unicode_utf8_first)] }
def CommitKeepsSaid : Prop := commitKeepsRow.holds Tryz.pinned (OpenSpec.ofChange commitKeepsSpec)

/-- ITS FALSE NEIGHBOUR: 'it returns false'. Refute it at one input. -/
def commitKeepsWrong : ChangeSpec := { name := "commitKeeps", fn := fun _ => fun
  | [d1, d2, d3, d4] => { results := [.lit (.bool false)], args := [d1, d2, d3, d4] }
  | _ => none }
def CommitKeepsWrongFalsely : Prop := commitKeepsRow.holds Tryz.pinned (OpenSpec.ofChange commitKeepsWrong)

/-- 'casematelaw23.CommitFills': WHATEVER THE INPUT: true; the input reads as it did. -/
def commitFillsSpec : ChangeSpec := { name := "commitFills", fn := fun _ => fun
  | [d1, d2, d3, d4] => { results := [.lit (.bool true)], args := [d1, d2, d3, d4] }
  | _ => none }
def commitFillsRow : OpenClaim := { program := "ytepdhdfoipephaagreatdoor", sum := "85f5e167de8fe1b11c4c2e3d68526cf5e4b82e3c5d1d8809a41ae454e8bb53bb", func := "casemate/casematelaw23.CommitFills", spec := "commitFills", unfollowed := true, recurses := true, named := ["unicode/utf8.first", "unicode/utf8.acceptRanges"], apart := false, laid := [("unicode/utf8.acceptRanges", laid_unicode_utf8_acceptRanges), ("unicode/utf8.first", laid_unicode_utf8_first)] }
def CommitFillsSaid : Prop := commitFillsRow.holds Tryz.pinned (OpenSpec.ofChange commitFillsSpec)

/-- ITS FALSE NEIGHBOUR: 'it returns false'. Refute it at one input. -/
def commitFillsWrong : ChangeSpec := { name := "commitFills", fn := fun _ => fun
  | [d1, d2, d3, d4] => { results := [.lit (.bool false)], args := [d1, d2, d3, d4] }
  | _ => none }
def CommitFillsWrongFalsely : Prop := commitFillsRow.holds Tryz.pinned (OpenSpec.ofChange commitFillsWrong)

/-- 'casematelaw23.CommitExact': WHATEVER THE INPUT: true; the input reads as it did. -/
def commitExactSpec : ChangeSpec := { name := "commitExact", fn := fun _ => fun
  | [d1, d2, d3, d4, d5, d6, d7] => { results := [.lit (.bool true)], args := [d1, d2, d3, d4, d5, d6, d7] }
  | _ => none }
def commitExactRow : OpenClaim := { program := "ytepdhdfoipephaagreatdoor", sum := "85f5e167de8fe1b11c4c2e3d68526cf5e4b82e3c5d1d8809a41ae454e8bb53bb", func := "casemate/casematelaw23.CommitExact", spec := "commitExact", unfollowed := true, recurses := true, named := ["unicode/utf8.first", "unicode/utf8.acceptRanges"], apart := false, laid := [("unicode/utf8.acceptRanges", laid_unicode_utf8_acceptRanges), ("unicode/utf8.first", laid_unicode_utf8_first)] }
def CommitExactSaid : Prop := commitExactRow.holds Tryz.pinned (OpenSpec.ofChange commitExactSpec)

/-- ITS FALSE NEIGHBOUR: 'it returns false'. Refute it at one input. -/
def commitExactWrong : ChangeSpec := { name := "commitExact", fn := fun _ => fun
  | [d1, d2, d3, d4, d5, d6, d7] => { results := [.lit (.bool false)], args := [d1, d2, d3, d4, d5, d6, d7] }
  | _ => none }
def CommitExactWrongFalsely : Prop := commitExactRow.holds Tryz.pinned (OpenSpec.ofChange commitExactWrong)

/-- 'casematelaw23.CommitFails': WHATEVER THE INPUT: true; the input reads as it did. -/
def commitFailsSpec : ChangeSpec := { name := "commitFails", fn := fun _ => fun
  | [d1, d2, d3, d4, d5, d6] => { results := [.lit (.bool true)], args := [d1, d2, d3, d4, d5, d6] }
  | _ => none }
def commitFailsRow : OpenClaim := { program := "ytepdhdfoipephaagreatdoor", sum := "85f5e167de8fe1b11c4c2e3d68526cf5e4b82e3c5d1d8809a41ae454e8bb53bb", func := "casemate/casematelaw23.CommitFails", spec := "commitFails", unfollowed := true, recurses := true, named := ["unicode/utf8.first", "unicode/utf8.acceptRanges"], apart := false, laid := [("unicode/utf8.acceptRanges", laid_unicode_utf8_acceptRanges), ("unicode/utf8.first", laid_unicode_utf8_first)] }
def CommitFailsSaid : Prop := commitFailsRow.holds Tryz.pinned (OpenSpec.ofChange commitFailsSpec)

/-- ITS FALSE NEIGHBOUR: 'it returns false'. Refute it at one input. -/
def commitFailsWrong : ChangeSpec := { name := "commitFails", fn := fun _ => fun
  | [d1, d2, d3, d4, d5, d6] => { results := [.lit (.bool false)], args := [d1, d2, d3, d4, d5, d6] }
  | _ => none }
def CommitFailsWrongFalsely : Prop := commitFailsRow.holds Tryz.pinned (OpenSpec.ofChange commitFailsWrong)

/-- 'casematelaw23.CommitLost': WHATEVER THE INPUT: true; the input reads as it did. -/
def commitLostSpec : ChangeSpec := { name := "commitLost", fn := fun _ => fun
  | [d1, d2] => { results := [.lit (.bool true)], args := [d1, d2] }
  | _ => none }
def commitLostRow : OpenClaim := { program := "ytepdhdfoipephaagreatdoor", sum := "85f5e167de8fe1b11c4c2e3d68526cf5e4b82e3c5d1d8809a41ae454e8bb53bb", func := "casemate/casematelaw23.CommitLost", spec := "commitLost", unfollowed := true, recurses := true, named := ["unicode/utf8.first", "unicode/utf8.acceptRanges"], apart := false, laid := [("unicode/utf8.acceptRanges", laid_unicode_utf8_acceptRanges), ("unicode/utf8.first", laid_unicode_utf8_first)] }
def CommitLostSaid : Prop := commitLostRow.holds Tryz.pinned (OpenSpec.ofChange commitLostSpec)

/-- ITS FALSE NEIGHBOUR: 'it returns false'. Refute it at one input. -/
def commitLostWrong : ChangeSpec := { name := "commitLost", fn := fun _ => fun
  | [d1, d2] => { results := [.lit (.bool false)], args := [d1, d2] }
  | _ => none }
def CommitLostWrongFalsely : Prop := commitLostRow.holds Tryz.pinned (OpenSpec.ofChange commitLostWrong)

/- THE SECOND FORM. 'bulk': how many values and letters a reading holds, each counted each time it is reached (what is shared counts as often as it is met; a slice's spare places count too). A statement '..UptoSaid' is the law's where the arguments, and the package variables that the reading takes, are together of bulk at most 1048576: NARROWER than '..Said'. Prove '..Said' where nothing that the law and all that it calls make is longer than what came in: it says more and counts as full. Else prove '..UptoSaid'. A law counts once. -/
mutual
def uptoBulk {H : Type} : DataW H → Nat
  | .lit (.string bytes) => bytes.length + 1
  | .lit _ => 1
  | .nil => 1
  | .ptr d => uptoBulk d + 1
  | .slice elems spare => uptoBulkAll elems + uptoBulkAll spare + 1
  | .agg parts => uptoBulkAll parts + 1
  | .iface _ d => uptoBulk d + 1
  | .map entries => uptoBulkEntries entries + 1
  | .held _ => 1
def uptoBulkAll {H : Type} : List (DataW H) → Nat
  | [] => 0
  | d :: r => uptoBulk d + uptoBulkAll r
def uptoBulkEntries {H : Type} : List (Lit × DataW H) → Nat
  | [] => 0
  | x :: r => uptoBulkEntry x + uptoBulkEntries r
def uptoBulkEntry {H : Type} : Lit × DataW H → Nat
  | (.string bytes, d) => bytes.length + uptoBulk d + 1
  | (_, d) => uptoBulk d + 1
 end
def uptoSmall : (H : Type) → List (DataW H) → Bool := fun _ ds => decide (uptoBulkAll ds ≤ 1048576)
def OpenSpec.upto (s : _root_.Go.ChangeSpec) : _root_.Go.OpenSpec := { _root_.Go.OpenSpec.ofChange s with cond := some uptoSmall }

/-- 'casematelaw23.CommitReads', WHERE WHAT IT READS IS OF BULK AT MOST 1048576: true; the input reads as it did. -/
def commitReadsUptoRow : OpenClaim := { program := "ytepdhdfoipephaagreatdoor", sum := "85f5e167de8fe1b11c4c2e3d68526cf5e4b82e3c5d1d8809a41ae454e8bb53bb", func := "casemate/casematelaw23.CommitReads", spec := "commitReads", unfollowed := true, recurses := true, named := ["unicode/utf8.first", "unicode/utf8.acceptRanges"], apart := false, laid := [("unicode/utf8.acceptRanges", laid_unicode_utf8_acceptRanges), ("unicode/utf8.first", laid_unicode_utf8_first)], narrowed := true }
def CommitReadsUptoSaid : Prop := commitReadsUptoRow.holds Tryz.pinned (OpenSpec.upto commitReadsSpec)

/-- 'casematelaw23.CommitKeeps', WHERE WHAT IT READS IS OF BULK AT MOST 1048576: true; the input reads as it did. -/
def commitKeepsUptoRow : OpenClaim := { program := "ytepdhdfoipephaagreatdoor", sum := "85f5e167de8fe1b11c4c2e3d68526cf5e4b82e3c5d1d8809a41ae454e8bb53bb", func := "casemate/casematelaw23.CommitKeeps", spec := "commitKeeps", unfollowed := true, recurses := true, named := ["unicode/utf8.first", "unicode/utf8.acceptRanges"], apart := false, laid := [("unicode/utf8.acceptRanges", laid_unicode_utf8_acceptRanges), ("unicode/utf8.first", laid_unicode_utf8_first)], narrowed := true }
def CommitKeepsUptoSaid : Prop := commitKeepsUptoRow.holds Tryz.pinned (OpenSpec.upto commitKeepsSpec)

/-- 'casematelaw23.CommitFills', WHERE WHAT IT READS IS OF BULK AT MOST 1048576: true; the input reads as it did. -/
def commitFillsUptoRow : OpenClaim := { program := "ytepdhdfoipephaagreatdoor", sum := "85f5e167de8fe1b11c4c2e3d68526cf5e4b82e3c5d1d8809a41ae454e8bb53bb", func := "casemate/casematelaw23.CommitFills", spec := "commitFills", unfollowed := true, recurses := true, named := ["unicode/utf8.first", "unicode/utf8.acceptRanges"], apart := false, laid := [("unicode/utf8.acceptRanges", laid_unicode_utf8_acceptRanges), ("unicode/utf8.first", laid_unicode_utf8_first)], narrowed := true }
def CommitFillsUptoSaid : Prop := commitFillsUptoRow.holds Tryz.pinned (OpenSpec.upto commitFillsSpec)

/-- 'casematelaw23.CommitExact', WHERE WHAT IT READS IS OF BULK AT MOST 1048576: true; the input reads as it did. -/
def commitExactUptoRow : OpenClaim := { program := "ytepdhdfoipephaagreatdoor", sum := "85f5e167de8fe1b11c4c2e3d68526cf5e4b82e3c5d1d8809a41ae454e8bb53bb", func := "casemate/casematelaw23.CommitExact", spec := "commitExact", unfollowed := true, recurses := true, named := ["unicode/utf8.first", "unicode/utf8.acceptRanges"], apart := false, laid := [("unicode/utf8.acceptRanges", laid_unicode_utf8_acceptRanges), ("unicode/utf8.first", laid_unicode_utf8_first)], narrowed := true }
def CommitExactUptoSaid : Prop := commitExactUptoRow.holds Tryz.pinned (OpenSpec.upto commitExactSpec)

/-- 'casematelaw23.CommitFails', WHERE WHAT IT READS IS OF BULK AT MOST 1048576: true; the input reads as it did. -/
def commitFailsUptoRow : OpenClaim := { program := "ytepdhdfoipephaagreatdoor", sum := "85f5e167de8fe1b11c4c2e3d68526cf5e4b82e3c5d1d8809a41ae454e8bb53bb", func := "casemate/casematelaw23.CommitFails", spec := "commitFails", unfollowed := true, recurses := true, named := ["unicode/utf8.first", "unicode/utf8.acceptRanges"], apart := false, laid := [("unicode/utf8.acceptRanges", laid_unicode_utf8_acceptRanges), ("unicode/utf8.first", laid_unicode_utf8_first)], narrowed := true }
def CommitFailsUptoSaid : Prop := commitFailsUptoRow.holds Tryz.pinned (OpenSpec.upto commitFailsSpec)

/-- 'casematelaw23.CommitLost', WHERE WHAT IT READS IS OF BULK AT MOST 1048576: true; the input reads as it did. -/
def commitLostUptoRow : OpenClaim := { program := "ytepdhdfoipephaagreatdoor", sum := "85f5e167de8fe1b11c4c2e3d68526cf5e4b82e3c5d1d8809a41ae454e8bb53bb", func := "casemate/casematelaw23.CommitLost", spec := "commitLost", unfollowed := true, recurses := true, named := ["unicode/utf8.first", "unicode/utf8.acceptRanges"], apart := false, laid := [("unicode/utf8.acceptRanges", laid_unicode_utf8_acceptRanges), ("unicode/utf8.first", laid_unicode_utf8_first)], narrowed := true }
def CommitLostUptoSaid : Prop := commitLostUptoRow.holds Tryz.pinned (OpenSpec.upto commitLostSpec)

end Rows
end Go.Proofs.YtepdhdfoipephaaGreatDoor
