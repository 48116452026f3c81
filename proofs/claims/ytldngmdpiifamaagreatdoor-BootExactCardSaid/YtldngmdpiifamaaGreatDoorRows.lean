/-
  NARROWER THAN 'FOR EVERY INPUT', by the rows' own cells (each row's printed sentence says how): BootMounts: laid · BootFinds: laid · BootExact: laid · BootAgain: laid · BootAnchors: laid · BootCopies: laid.
  DERIVED. THE GIVEN ROWS OF THIS SEAT. 6 by the template 'for every input the law returns true; each argument reads behind the call as it read before'; 0 by the template 'total and deterministic' (their statements: YtldngmdpiifamaaGreatDoorTotals.lean).
  GIVEN WITH THE SEED: the statements are not yours to turn. If you find one false, say at which input.
  Laid BY PROGRAM, IN A SANDBOX (cutbox-rows.mjs): the forced cells as the released guide's own fill.sh prints them over the translation 58de78249d961314… (all of the seat's roots in one cut). By AI agents, Wed Nov 11 2026. No macro, syntax, notation, axiom, sorry.
-/
import Derived.Test.YtldngmdpiifamaaGreatDoorChecked
import GoSem.PinnedTables
import GoSem.Claim
import GoSem.ClaimJoined
import GoSem.ClaimMapViews
import Derived.JoinedTies
import Derived.KernelRfl
namespace Go.Proofs.YtldngmdpiifamaaGreatDoor
/- THE CELL 'sum', in the pinned program and in every row, IS THE sha256 OF THE DUMP (.gsa) THAT YtldngmdpiifamaaGreatDoorProg.lean LOADS. Nothing in Lean hashes anything: it is a label: what it is worth is what the hold of that sum in a sandbox is worth. -/
noncomputable def Tryz.pinned : Pinned := { name := "ytldngmdpiifamaagreatdoor", sum := "58de78249d9613140cc3d6376fa9aa1028ff30b703f877c6fa863f2155396a57", checked := Tryz.checked }
namespace Rows
def none {H : Type} : Left H := { results := [], args := [] }

/- WHAT THE LISTED PACKAGE-LEVEL VARIABLES READ AS WHEN THE CALL BEGINS. Each datum BY PROGRAM (the guide's laid-datum.mjs) off the statement by which the dump's own 'gosem.cut.vars' lays the variable. In a bare row this is a premise. The card (YtldngmdpiifamaaGreatDoorCards.lean) ties it to the program's text. -/
def laid_unicode_utf8_acceptRanges {H : Type} : DataW H := .agg [.agg [.lit (.int .u8 128), .lit (.int .u8 191)], .agg [.lit (.int .u8 160), .lit (.int .u8 191)], .agg [.lit (.int .u8 128), .lit (.int .u8 159)], .agg [.lit (.int .u8 144), .lit (.int .u8 191)], .agg [.lit (.int .u8 128), .lit (.int .u8 143)], .agg [.lit (.int .u8 0), .lit (.int .u8 0)], .agg [.lit (.int .u8 0), .lit (.int .u8 0)], .agg [.lit (.int .u8 0), .lit (.int .u8 0)], .agg [.lit (.int .u8 0), .lit (.int .u8 0)], .agg [.lit (.int .u8 0), .lit (.int .u8 0)], .agg [.lit (.int .u8 0), .lit (.int .u8 0)], .agg [.lit (.int .u8 0), .lit (.int .u8 0)], .agg [.lit (.int .u8 0), .lit (.int .u8 0)], .agg [.lit (.int .u8 0), .lit (.int .u8 0)], .agg [.lit (.int .u8 0), .lit (.int .u8 0)], .agg [.lit (.int .u8 0), .lit (.int .u8 0)]]
/-- One of Go's own tables, pinned by name: the form's constant. -/
def laid_unicode_utf8_first : DataW Unit := Go.Pinned.utf8First

/-- 'casematelaw22.BootMounts': WHATEVER THE INPUT: true; the input reads as it did. -/
def bootMountsSpec : ChangeSpec := { name := "bootMounts", fn := fun _ => fun
  | [d1, d2, d3, d4, d5, d6] => { results := [.lit (.bool true)], args := [d1, d2, d3, d4, d5, d6] }
  | _ => none }
def bootMountsRow : OpenClaim := { program := "ytldngmdpiifamaagreatdoor", sum := "58de78249d9613140cc3d6376fa9aa1028ff30b703f877c6fa863f2155396a57", func := "casemate/casematelaw22.BootMounts", spec := "bootMounts", unfollowed := true, recurses := true, named := ["unicode/utf8.first", "unicode/utf8.acceptRanges"], apart := false, laid := [("unicode/utf8.acceptRanges", laid_unicode_utf8_acceptRanges), ("unicode/utf8.first", laid_unicode_utf8_first)] }
def BootMountsSaid : Prop := bootMountsRow.holds Tryz.pinned (OpenSpec.ofChange bootMountsSpec)

/-- ITS FALSE NEIGHBOUR: 'it returns false'. Refute it at one input. -/
def bootMountsWrong : ChangeSpec := { name := "bootMounts", fn := fun _ => fun
  | [d1, d2, d3, d4, d5, d6] => { results := [.lit (.bool false)], args := [d1, d2, d3, d4, d5, d6] }
  | _ => none }
def BootMountsWrongFalsely : Prop := bootMountsRow.holds Tryz.pinned (OpenSpec.ofChange bootMountsWrong)

/-- 'casematelaw22.BootFinds': WHATEVER THE INPUT: true; the input reads as it did. -/
def bootFindsSpec : ChangeSpec := { name := "bootFinds", fn := fun _ => fun
  | [d1, d2, d3, d4] => { results := [.lit (.bool true)], args := [d1, d2, d3, d4] }
  | _ => none }
def bootFindsRow : OpenClaim := { program := "ytldngmdpiifamaagreatdoor", sum := "58de78249d9613140cc3d6376fa9aa1028ff30b703f877c6fa863f2155396a57", func := "casemate/casematelaw22.BootFinds", spec := "bootFinds", unfollowed := true, recurses := true, named := ["unicode/utf8.first", "unicode/utf8.acceptRanges"], apart := false, laid := [("unicode/utf8.acceptRanges", laid_unicode_utf8_acceptRanges), ("unicode/utf8.first", laid_unicode_utf8_first)] }
def BootFindsSaid : Prop := bootFindsRow.holds Tryz.pinned (OpenSpec.ofChange bootFindsSpec)

/-- ITS FALSE NEIGHBOUR: 'it returns false'. Refute it at one input. -/
def bootFindsWrong : ChangeSpec := { name := "bootFinds", fn := fun _ => fun
  | [d1, d2, d3, d4] => { results := [.lit (.bool false)], args := [d1, d2, d3, d4] }
  | _ => none }
def BootFindsWrongFalsely : Prop := bootFindsRow.holds Tryz.pinned (OpenSpec.ofChange bootFindsWrong)

/-- 'casematelaw22.BootExact': WHATEVER THE INPUT: true; the input reads as it did. -/
def bootExactSpec : ChangeSpec := { name := "bootExact", fn := fun _ => fun
  | [d1, d2, d3, d4, d5] => { results := [.lit (.bool true)], args := [d1, d2, d3, d4, d5] }
  | _ => none }
def bootExactRow : OpenClaim := { program := "ytldngmdpiifamaagreatdoor", sum := "58de78249d9613140cc3d6376fa9aa1028ff30b703f877c6fa863f2155396a57", func := "casemate/casematelaw22.BootExact", spec := "bootExact", unfollowed := true, recurses := true, named := ["unicode/utf8.first", "unicode/utf8.acceptRanges"], apart := false, laid := [("unicode/utf8.acceptRanges", laid_unicode_utf8_acceptRanges), ("unicode/utf8.first", laid_unicode_utf8_first)] }
def BootExactSaid : Prop := bootExactRow.holds Tryz.pinned (OpenSpec.ofChange bootExactSpec)

/-- ITS FALSE NEIGHBOUR: 'it returns false'. Refute it at one input. -/
def bootExactWrong : ChangeSpec := { name := "bootExact", fn := fun _ => fun
  | [d1, d2, d3, d4, d5] => { results := [.lit (.bool false)], args := [d1, d2, d3, d4, d5] }
  | _ => none }
def BootExactWrongFalsely : Prop := bootExactRow.holds Tryz.pinned (OpenSpec.ofChange bootExactWrong)

/-- 'casematelaw22.BootAgain': WHATEVER THE INPUT: true; the input reads as it did. -/
def bootAgainSpec : ChangeSpec := { name := "bootAgain", fn := fun _ => fun
  | [d1, d2, d3, d4, d5, d6] => { results := [.lit (.bool true)], args := [d1, d2, d3, d4, d5, d6] }
  | _ => none }
def bootAgainRow : OpenClaim := { program := "ytldngmdpiifamaagreatdoor", sum := "58de78249d9613140cc3d6376fa9aa1028ff30b703f877c6fa863f2155396a57", func := "casemate/casematelaw22.BootAgain", spec := "bootAgain", unfollowed := true, recurses := true, named := ["unicode/utf8.first", "unicode/utf8.acceptRanges"], apart := false, laid := [("unicode/utf8.acceptRanges", laid_unicode_utf8_acceptRanges), ("unicode/utf8.first", laid_unicode_utf8_first)] }
def BootAgainSaid : Prop := bootAgainRow.holds Tryz.pinned (OpenSpec.ofChange bootAgainSpec)

/-- ITS FALSE NEIGHBOUR: 'it returns false'. Refute it at one input. -/
def bootAgainWrong : ChangeSpec := { name := "bootAgain", fn := fun _ => fun
  | [d1, d2, d3, d4, d5, d6] => { results := [.lit (.bool false)], args := [d1, d2, d3, d4, d5, d6] }
  | _ => none }
def BootAgainWrongFalsely : Prop := bootAgainRow.holds Tryz.pinned (OpenSpec.ofChange bootAgainWrong)

/-- 'casematelaw22.BootAnchors': WHATEVER THE INPUT: true; the input reads as it did. -/
def bootAnchorsSpec : ChangeSpec := { name := "bootAnchors", fn := fun _ => fun
  | [d1, d2, d3, d4] => { results := [.lit (.bool true)], args := [d1, d2, d3, d4] }
  | _ => none }
def bootAnchorsRow : OpenClaim := { program := "ytldngmdpiifamaagreatdoor", sum := "58de78249d9613140cc3d6376fa9aa1028ff30b703f877c6fa863f2155396a57", func := "casemate/casematelaw22.BootAnchors", spec := "bootAnchors", unfollowed := true, recurses := true, named := ["unicode/utf8.first", "unicode/utf8.acceptRanges"], apart := false, laid := [("unicode/utf8.acceptRanges", laid_unicode_utf8_acceptRanges), ("unicode/utf8.first", laid_unicode_utf8_first)] }
def BootAnchorsSaid : Prop := bootAnchorsRow.holds Tryz.pinned (OpenSpec.ofChange bootAnchorsSpec)

/-- ITS FALSE NEIGHBOUR: 'it returns false'. Refute it at one input. -/
def bootAnchorsWrong : ChangeSpec := { name := "bootAnchors", fn := fun _ => fun
  | [d1, d2, d3, d4] => { results := [.lit (.bool false)], args := [d1, d2, d3, d4] }
  | _ => none }
def BootAnchorsWrongFalsely : Prop := bootAnchorsRow.holds Tryz.pinned (OpenSpec.ofChange bootAnchorsWrong)

/-- 'casematelaw22.BootCopies': WHATEVER THE INPUT: true; the input reads as it did. -/
def bootCopiesSpec : ChangeSpec := { name := "bootCopies", fn := fun _ => fun
  | [d1, d2, d3, d4] => { results := [.lit (.bool true)], args := [d1, d2, d3, d4] }
  | _ => none }
def bootCopiesRow : OpenClaim := { program := "ytldngmdpiifamaagreatdoor", sum := "58de78249d9613140cc3d6376fa9aa1028ff30b703f877c6fa863f2155396a57", func := "casemate/casematelaw22.BootCopies", spec := "bootCopies", unfollowed := true, recurses := true, named := ["unicode/utf8.first", "unicode/utf8.acceptRanges"], apart := false, laid := [("unicode/utf8.acceptRanges", laid_unicode_utf8_acceptRanges), ("unicode/utf8.first", laid_unicode_utf8_first)] }
def BootCopiesSaid : Prop := bootCopiesRow.holds Tryz.pinned (OpenSpec.ofChange bootCopiesSpec)

/-- ITS FALSE NEIGHBOUR: 'it returns false'. Refute it at one input. -/
def bootCopiesWrong : ChangeSpec := { name := "bootCopies", fn := fun _ => fun
  | [d1, d2, d3, d4] => { results := [.lit (.bool false)], args := [d1, d2, d3, d4] }
  | _ => none }
def BootCopiesWrongFalsely : Prop := bootCopiesRow.holds Tryz.pinned (OpenSpec.ofChange bootCopiesWrong)

/- THE SECOND FORM. 'bulk': how many values and letters a reading holds, each counted each time it is reached (what is shared counts as often as it is met; a slice's spare places count too). A statement '..UptoSaid' is the law's where the arguments, and the package variables that the reading takes, are together of bulk at most 1048576: NARROWER than '..Said'. Prove '..Said' where nothing that the law and all that it calls make is longer than what came in: it says more and counts as full. Else prove '..UptoSaid'. A law counts once. -/
mutual
def uptoBulk {H : Type} : DataW H → Nat
  | .lit (.string bytes) => bytes.length + 1
  | .lit _ => 1
  | .nil => 1
  | .ptr d => uptoBulk d + 1
  | .slice elems spare => uptoBulkAll elems + uptoBulkAll spare + 1
  | .agg parts => uptoBulkAll parts + 1
  | .iface _ d => uptoBulk d + 1
  | .map entries => uptoBulkEntries entries + 1
  | .held _ => 1
def uptoBulkAll {H : Type} : List (DataW H) → Nat
  | [] => 0
  | d :: r => uptoBulk d + uptoBulkAll r
def uptoBulkEntries {H : Type} : List (Lit × DataW H) → Nat
  | [] => 0
  | x :: r => uptoBulkEntry x + uptoBulkEntries r
def uptoBulkEntry {H : Type} : Lit × DataW H → Nat
  | (.string bytes, d) => bytes.length + uptoBulk d + 1
  | (_, d) => uptoBulk d + 1
 end
def uptoSmall : (H : Type) → List (DataW H) → Bool := fun _ ds => decide (uptoBulkAll ds ≤ 1048576)
def OpenSpec.upto (s : _root_.Go.ChangeSpec) : _root_.Go.OpenSpec := { _root_.Go.OpenSpec.ofChange s with cond := some uptoSmall }

/-- 'casematelaw22.BootMounts', WHERE WHAT IT READS IS OF BULK AT MOST 1048576: true; the input reads as it did. -/
def bootMountsUptoRow : OpenClaim := { program := "ytldngmdpiifamaagreatdoor", sum := "58de78249d9613140cc3d6376fa9aa1028ff30b703f877c6fa863f2155396a57", func := "casemate/casematelaw22.BootMounts", spec := "bootMounts", unfollowed := true, recurses := true, named := ["unicode/utf8.first", "unicode/utf8.acceptRanges"], apart := false, laid := [("unicode/utf8.acceptRanges", laid_unicode_utf8_acceptRanges), ("unicode/utf8.first", laid_unicode_utf8_first)], narrowed := true }
def BootMountsUptoSaid : Prop := bootMountsUptoRow.holds Tryz.pinned (OpenSpec.upto bootMountsSpec)

/-- 'casematelaw22.BootFinds', WHERE WHAT IT READS IS OF BULK AT MOST 1048576: true; the input reads as it did. -/
def bootFindsUptoRow : OpenClaim := { program := "ytldngmdpiifamaagreatdoor", sum := "58de78249d9613140cc3d6376fa9aa1028ff30b703f877c6fa863f2155396a57", func := "casemate/casematelaw22.BootFinds", spec := "bootFinds", unfollowed := true, recurses := true, named := ["unicode/utf8.first", "unicode/utf8.acceptRanges"], apart := false, laid := [("unicode/utf8.acceptRanges", laid_unicode_utf8_acceptRanges), ("unicode/utf8.first", laid_unicode_utf8_first)], narrowed := true }
def BootFindsUptoSaid : Prop := bootFindsUptoRow.holds Tryz.pinned (OpenSpec.upto bootFindsSpec)

/-- 'casematelaw22.BootExact', WHERE WHAT IT READS IS OF BULK AT MOST 1048576: true; the input reads as it did. -/
def bootExactUptoRow : OpenClaim := { program := "ytldngmdpiifamaagreatdoor", sum := "58de78249d9613140cc3d6376fa9aa1028ff30b703f877c6fa863f2155396a57", func := "casemate/casematelaw22.BootExact", spec := "bootExact", unfollowed := true, recurses := true, named := ["unicode/utf8.first", "unicode/utf8.acceptRanges"], apart := false, laid := [("unicode/utf8.acceptRanges", laid_unicode_utf8_acceptRanges), ("unicode/utf8.first", laid_unicode_utf8_first)], narrowed := true }
def BootExactUptoSaid : Prop := bootExactUptoRow.holds Tryz.pinned (OpenSpec.upto bootExactSpec)

/-- 'casematelaw22.BootAgain', WHERE WHAT IT READS IS OF BULK AT MOST 1048576: true; the input reads as it did. -/
def bootAgainUptoRow : OpenClaim := { program := "ytldngmdpiifamaagreatdoor", sum := "58de78249d9613140cc3d6376fa9aa1028ff30b703f877c6fa863f2155396a57", func := "casemate/casematelaw22.BootAgain", spec := "bootAgain", unfollowed := true, recurses := true, named := ["unicode/utf8.first", "unicode/utf8.acceptRanges"], apart := false, laid := [("unicode/utf8.acceptRanges", laid_unicode_utf8_acceptRanges), ("unicode/utf8.first", laid_unicode_utf8_first)], narrowed := true }
def BootAgainUptoSaid : Prop := bootAgainUptoRow.holds Tryz.pinned (OpenSpec.upto bootAgainSpec)

/-- 'casematelaw22.BootAnchors', WHERE WHAT IT READS IS OF BULK AT MOST 1048576: true; the input reads as it did. -/
def bootAnchorsUptoRow : OpenClaim := { program := "ytldngmdpiifamaagreatdoor", sum := "58de78249d9613140cc3d6376fa9aa1028ff30b703f877c6fa863f2155396a57", func := "casemate/casematelaw22.BootAnchors", spec := "bootAnchors", unfollowed := true, recurses := true, named := ["unicode/utf8.first", "unicode/utf8.acceptRanges"], apart := false, laid := [("unicode/utf8.acceptRanges", laid_unicode_utf8_acceptRanges), ("unicode/utf8.first", laid_unicode_utf8_first)], narrowed := true }
def BootAnchorsUptoSaid : Prop := bootAnchorsUptoRow.holds Tryz.pinned (OpenSpec.upto bootAnchorsSpec)

/-- 'casematelaw22.BootCopies', WHERE WHAT IT READS IS OF BULK AT MOST 1048576: true; the input reads as it did. -/
def bootCopiesUptoRow : OpenClaim := { program := "ytldngmdpiifamaagreatdoor", sum := "58de78249d9613140cc3d6376fa9aa1028ff30b703f877c6fa863f2155396a57", func := "casemate/casematelaw22.BootCopies", spec := "bootCopies", unfollowed := true, recurses := true, named := ["unicode/utf8.first", "unicode/utf8.acceptRanges"], apart := false, laid := [("unicode/utf8.acceptRanges", laid_unicode_utf8_acceptRanges), ("unicode/utf8.first", laid_unicode_utf8_first)], narrowed := true }
def BootCopiesUptoSaid : Prop := bootCopiesUptoRow.holds Tryz.pinned (OpenSpec.upto bootCopiesSpec)

end Rows
end Go.Proofs.YtldngmdpiifamaaGreatDoor
