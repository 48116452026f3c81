/-
  NARROWER THAN 'FOR EVERY INPUT', by the rows' own cells (each row's printed sentence says how): CheckFails: laid · VolLocks: laid · VolCuts: laid · VolRefuses: laid · VolSpoils: laid · VolBegins: laid · VolNone: laid.
  DERIVED. THE GIVEN ROWS OF THIS SEAT. 7 by the template 'for every input the law returns true; each argument reads behind the call as it read before'; 0 by the template 'total and deterministic' (their statements: YtpjkcgacjjbikaaGreatDoorTotals.lean).
  GIVEN WITH THE SEED: the statements are not yours to turn. If you find one false, say at which input.
  Laid BY PROGRAM, IN A SANDBOX (cutbox-rows.mjs): the forced cells as the released guide's own fill.sh prints them over the translation 8e9c2acecae92915… (all of the seat's roots in one cut). By AI agents, Wed Nov 11 2026. No macro, syntax, notation, axiom, sorry.
-/
import Derived.Test.YtpjkcgacjjbikaaGreatDoorChecked
import GoSem.PinnedTables
import GoSem.Claim
import GoSem.ClaimJoined
import GoSem.ClaimMapViews
import Derived.JoinedTies
import Derived.KernelRfl
namespace Go.Proofs.YtpjkcgacjjbikaaGreatDoor
/- THE CELL 'sum', in the pinned program and in every row, IS THE sha256 OF THE DUMP (.gsa) THAT YtpjkcgacjjbikaaGreatDoorProg.lean LOADS. Nothing in Lean hashes anything: it is a label: what it is worth is what the hold of that sum in a sandbox is worth. -/
noncomputable def Tryz.pinned : Pinned := { name := "ytpjkcgacjjbikaagreatdoor", sum := "8e9c2acecae929158ccb914eb6a99718b2cf7b95a2b751f8c7a2236f0144a7df", checked := Tryz.checked }
namespace Rows
def none {H : Type} : Left H := { results := [], args := [] }

/- WHAT THE LISTED PACKAGE-LEVEL VARIABLES READ AS WHEN THE CALL BEGINS. Each datum BY PROGRAM (the guide's laid-datum.mjs) off the statement by which the dump's own 'gosem.cut.vars' lays the variable. In a bare row this is a premise. The card (YtpjkcgacjjbikaaGreatDoorCards.lean) ties it to the program's text. -/
def laid_unicode_utf8_acceptRanges {H : Type} : DataW H := .agg [.agg [.lit (.int .u8 128), .lit (.int .u8 191)], .agg [.lit (.int .u8 160), .lit (.int .u8 191)], .agg [.lit (.int .u8 128), .lit (.int .u8 159)], .agg [.lit (.int .u8 144), .lit (.int .u8 191)], .agg [.lit (.int .u8 128), .lit (.int .u8 143)], .agg [.lit (.int .u8 0), .lit (.int .u8 0)], .agg [.lit (.int .u8 0), .lit (.int .u8 0)], .agg [.lit (.int .u8 0), .lit (.int .u8 0)], .agg [.lit (.int .u8 0), .lit (.int .u8 0)], .agg [.lit (.int .u8 0), .lit (.int .u8 0)], .agg [.lit (.int .u8 0), .lit (.int .u8 0)], .agg [.lit (.int .u8 0), .lit (.int .u8 0)], .agg [.lit (.int .u8 0), .lit (.int .u8 0)], .agg [.lit (.int .u8 0), .lit (.int .u8 0)], .agg [.lit (.int .u8 0), .lit (.int .u8 0)], .agg [.lit (.int .u8 0), .lit (.int .u8 0)]]
/-- One of Go's own tables, pinned by name: the form's constant. -/
def laid_unicode_utf8_first : DataW Unit := Go.Pinned.utf8First

/-- 'casematelaw24.CheckFails': WHATEVER THE INPUT: true; the input reads as it did. -/
def checkFailsSpec : ChangeSpec := { name := "checkFails", fn := fun _ => fun
  | [d1, d2, d3] => { results := [.lit (.bool true)], args := [d1, d2, d3] }
  | _ => none }
def checkFailsRow : OpenClaim := { program := "ytpjkcgacjjbikaagreatdoor", sum := "8e9c2acecae929158ccb914eb6a99718b2cf7b95a2b751f8c7a2236f0144a7df", func := "casemate/casematelaw24.CheckFails", spec := "checkFails", unfollowed := true, recurses := true, named := ["unicode/utf8.first", "unicode/utf8.acceptRanges"], apart := false, laid := [("unicode/utf8.acceptRanges", laid_unicode_utf8_acceptRanges), ("unicode/utf8.first", laid_unicode_utf8_first)] }
def CheckFailsSaid : Prop := checkFailsRow.holds Tryz.pinned (OpenSpec.ofChange checkFailsSpec)

/-- ITS FALSE NEIGHBOUR: 'it returns false'. Refute it at one input. -/
def checkFailsWrong : ChangeSpec := { name := "checkFails", fn := fun _ => fun
  | [d1, d2, d3] => { results := [.lit (.bool false)], args := [d1, d2, d3] }
  | _ => none }
def CheckFailsWrongFalsely : Prop := checkFailsRow.holds Tryz.pinned (OpenSpec.ofChange checkFailsWrong)

/-- 'casematelaw26.VolLocks': WHATEVER THE INPUT: true; the input reads as it did. -/
def volLocksSpec : ChangeSpec := { name := "volLocks", fn := fun _ => fun
  | [d1, d2, d3, d4] => { results := [.lit (.bool true)], args := [d1, d2, d3, d4] }
  | _ => none }
def volLocksRow : OpenClaim := { program := "ytpjkcgacjjbikaagreatdoor", sum := "8e9c2acecae929158ccb914eb6a99718b2cf7b95a2b751f8c7a2236f0144a7df", func := "casemate/casematelaw26.VolLocks", spec := "volLocks", inPlace := ["slices.overlaps[casemate/api.Handle]", "slices.overlaps[casemate/api.Lock]", "slices.overlaps[int]", "slices.overlaps[[]byte]"], unfollowed := true, recurses := true, named := ["unicode/utf8.first", "unicode/utf8.acceptRanges"], apart := false, laid := [("unicode/utf8.acceptRanges", laid_unicode_utf8_acceptRanges), ("unicode/utf8.first", laid_unicode_utf8_first)] }
def VolLocksSaid : Prop := volLocksRow.holds Tryz.pinned (OpenSpec.ofChange volLocksSpec)

/-- ITS FALSE NEIGHBOUR: 'it returns false'. Refute it at one input. -/
def volLocksWrong : ChangeSpec := { name := "volLocks", fn := fun _ => fun
  | [d1, d2, d3, d4] => { results := [.lit (.bool false)], args := [d1, d2, d3, d4] }
  | _ => none }
def VolLocksWrongFalsely : Prop := volLocksRow.holds Tryz.pinned (OpenSpec.ofChange volLocksWrong)

/-- 'casematelaw26.VolCuts': WHATEVER THE INPUT: true; the input reads as it did. -/
def volCutsSpec : ChangeSpec := { name := "volCuts", fn := fun _ => fun
  | [d1, d2, d3, d4, d5, d6, d7] => { results := [.lit (.bool true)], args := [d1, d2, d3, d4, d5, d6, d7] }
  | _ => none }
def volCutsRow : OpenClaim := { program := "ytpjkcgacjjbikaagreatdoor", sum := "8e9c2acecae929158ccb914eb6a99718b2cf7b95a2b751f8c7a2236f0144a7df", func := "casemate/casematelaw26.VolCuts", spec := "volCuts", inPlace := ["slices.overlaps[casemate/api.Handle]", "slices.overlaps[casemate/api.Lock]", "slices.overlaps[int]", "slices.overlaps[[]byte]"], unfollowed := true, recurses := true, named := ["unicode/utf8.first", "unicode/utf8.acceptRanges"], apart := false, laid := [("unicode/utf8.acceptRanges", laid_unicode_utf8_acceptRanges), ("unicode/utf8.first", laid_unicode_utf8_first)] }
def VolCutsSaid : Prop := volCutsRow.holds Tryz.pinned (OpenSpec.ofChange volCutsSpec)

/-- ITS FALSE NEIGHBOUR: 'it returns false'. Refute it at one input. -/
def volCutsWrong : ChangeSpec := { name := "volCuts", fn := fun _ => fun
  | [d1, d2, d3, d4, d5, d6, d7] => { results := [.lit (.bool false)], args := [d1, d2, d3, d4, d5, d6, d7] }
  | _ => none }
def VolCutsWrongFalsely : Prop := volCutsRow.holds Tryz.pinned (OpenSpec.ofChange volCutsWrong)

/-- 'casematelaw26.VolRefuses': WHATEVER THE INPUT: true; the input reads as it did. -/
def volRefusesSpec : ChangeSpec := { name := "volRefuses", fn := fun _ => fun
  | [d1, d2, d3, d4, d5, d6, d7, d8] => { results := [.lit (.bool true)], args := [d1, d2, d3, d4, d5, d6, d7, d8] }
  | _ => none }
def volRefusesRow : OpenClaim := { program := "ytpjkcgacjjbikaagreatdoor", sum := "8e9c2acecae929158ccb914eb6a99718b2cf7b95a2b751f8c7a2236f0144a7df", func := "casemate/casematelaw26.VolRefuses", spec := "volRefuses", inPlace := ["slices.overlaps[casemate/api.Handle]", "slices.overlaps[casemate/api.Lock]", "slices.overlaps[int]", "slices.overlaps[[]byte]"], unfollowed := true, recurses := true, named := ["unicode/utf8.first", "unicode/utf8.acceptRanges"], apart := false, laid := [("unicode/utf8.acceptRanges", laid_unicode_utf8_acceptRanges), ("unicode/utf8.first", laid_unicode_utf8_first)] }
def VolRefusesSaid : Prop := volRefusesRow.holds Tryz.pinned (OpenSpec.ofChange volRefusesSpec)

/-- ITS FALSE NEIGHBOUR: 'it returns false'. Refute it at one input. -/
def volRefusesWrong : ChangeSpec := { name := "volRefuses", fn := fun _ => fun
  | [d1, d2, d3, d4, d5, d6, d7, d8] => { results := [.lit (.bool false)], args := [d1, d2, d3, d4, d5, d6, d7, d8] }
  | _ => none }
def VolRefusesWrongFalsely : Prop := volRefusesRow.holds Tryz.pinned (OpenSpec.ofChange volRefusesWrong)

/-- 'casematelaw26.VolSpoils': WHATEVER THE INPUT: true; the input reads as it did. -/
def volSpoilsSpec : ChangeSpec := { name := "volSpoils", fn := fun _ => fun
  | [d1, d2, d3, d4, d5, d6, d7, d8] => { results := [.lit (.bool true)], args := [d1, d2, d3, d4, d5, d6, d7, d8] }
  | _ => none }
def volSpoilsRow : OpenClaim := { program := "ytpjkcgacjjbikaagreatdoor", sum := "8e9c2acecae929158ccb914eb6a99718b2cf7b95a2b751f8c7a2236f0144a7df", func := "casemate/casematelaw26.VolSpoils", spec := "volSpoils", inPlace := ["slices.overlaps[casemate/api.Handle]", "slices.overlaps[casemate/api.Lock]", "slices.overlaps[int]", "slices.overlaps[[]byte]"], unfollowed := true, recurses := true, named := ["unicode/utf8.first", "unicode/utf8.acceptRanges"], apart := false, laid := [("unicode/utf8.acceptRanges", laid_unicode_utf8_acceptRanges), ("unicode/utf8.first", laid_unicode_utf8_first)] }
def VolSpoilsSaid : Prop := volSpoilsRow.holds Tryz.pinned (OpenSpec.ofChange volSpoilsSpec)

/-- ITS FALSE NEIGHBOUR: 'it returns false'. Refute it at one input. -/
def volSpoilsWrong : ChangeSpec := { name := "volSpoils", fn := fun _ => fun
  | [d1, d2, d3, d4, d5, d6, d7, d8] => { results := [.lit (.bool false)], args := [d1, d2, d3, d4, d5, d6, d7, d8] }
  | _ => none }
def VolSpoilsWrongFalsely : Prop := volSpoilsRow.holds Tryz.pinned (OpenSpec.ofChange volSpoilsWrong)

/-- 'casematelaw26.VolBegins': WHATEVER THE INPUT: true; the input reads as it did. -/
def volBeginsSpec : ChangeSpec := { name := "volBegins", fn := fun _ => fun
  | [d1, d2, d3, d4] => { results := [.lit (.bool true)], args := [d1, d2, d3, d4] }
  | _ => none }
def volBeginsRow : OpenClaim := { program := "ytpjkcgacjjbikaagreatdoor", sum := "8e9c2acecae929158ccb914eb6a99718b2cf7b95a2b751f8c7a2236f0144a7df", func := "casemate/casematelaw26.VolBegins", spec := "volBegins", inPlace := ["slices.overlaps[casemate/api.Handle]", "slices.overlaps[casemate/api.Lock]", "slices.overlaps[int]", "slices.overlaps[[]byte]"], unfollowed := true, recurses := true, named := ["unicode/utf8.first", "unicode/utf8.acceptRanges"], apart := false, laid := [("unicode/utf8.acceptRanges", laid_unicode_utf8_acceptRanges), ("unicode/utf8.first", laid_unicode_utf8_first)] }
def VolBeginsSaid : Prop := volBeginsRow.holds Tryz.pinned (OpenSpec.ofChange volBeginsSpec)

/-- ITS FALSE NEIGHBOUR: 'it returns false'. Refute it at one input. -/
def volBeginsWrong : ChangeSpec := { name := "volBegins", fn := fun _ => fun
  | [d1, d2, d3, d4] => { results := [.lit (.bool false)], args := [d1, d2, d3, d4] }
  | _ => none }
def VolBeginsWrongFalsely : Prop := volBeginsRow.holds Tryz.pinned (OpenSpec.ofChange volBeginsWrong)

/-- 'casematelaw26.VolNone': WHATEVER THE INPUT: true; the input reads as it did. -/
def volNoneSpec : ChangeSpec := { name := "volNone", fn := fun _ => fun
  | [d] => { results := [.lit (.bool true)], args := [d] }
  | _ => none }
def volNoneRow : OpenClaim := { program := "ytpjkcgacjjbikaagreatdoor", sum := "8e9c2acecae929158ccb914eb6a99718b2cf7b95a2b751f8c7a2236f0144a7df", func := "casemate/casematelaw26.VolNone", spec := "volNone", inPlace := ["slices.overlaps[casemate/api.Handle]", "slices.overlaps[casemate/api.Lock]", "slices.overlaps[int]", "slices.overlaps[[]byte]"], unfollowed := true, recurses := true, named := ["unicode/utf8.first", "unicode/utf8.acceptRanges"], apart := false, laid := [("unicode/utf8.acceptRanges", laid_unicode_utf8_acceptRanges), ("unicode/utf8.first", laid_unicode_utf8_first)] }
def VolNoneSaid : Prop := volNoneRow.holds Tryz.pinned (OpenSpec.ofChange volNoneSpec)

/-- ITS FALSE NEIGHBOUR: 'it returns false'. Refute it at one input. -/
def volNoneWrong : ChangeSpec := { name := "volNone", fn := fun _ => fun
  | [d] => { results := [.lit (.bool false)], args := [d] }
  | _ => none }
def VolNoneWrongFalsely : Prop := volNoneRow.holds Tryz.pinned (OpenSpec.ofChange volNoneWrong)

/- THE SECOND FORM. 'bulk': how many values and letters a reading holds, each counted each time it is reached (what is shared counts as often as it is met; a slice's spare places count too). A statement '..UptoSaid' is the law's where the arguments, and the package variables that the reading takes, are together of bulk at most 1048576: NARROWER than '..Said'. Prove '..Said' where nothing that the law and all that it calls make is longer than what came in: it says more and counts as full. Else prove '..UptoSaid'. A law counts once. -/
mutual
def uptoBulk {H : Type} : DataW H → Nat
  | .lit (.string bytes) => bytes.length + 1
  | .lit _ => 1
  | .nil => 1
  | .ptr d => uptoBulk d + 1
  | .slice elems spare => uptoBulkAll elems + uptoBulkAll spare + 1
  | .agg parts => uptoBulkAll parts + 1
  | .iface _ d => uptoBulk d + 1
  | .map entries => uptoBulkEntries entries + 1
  | .held _ => 1
def uptoBulkAll {H : Type} : List (DataW H) → Nat
  | [] => 0
  | d :: r => uptoBulk d + uptoBulkAll r
def uptoBulkEntries {H : Type} : List (Lit × DataW H) → Nat
  | [] => 0
  | x :: r => uptoBulkEntry x + uptoBulkEntries r
def uptoBulkEntry {H : Type} : Lit × DataW H → Nat
  | (.string bytes, d) => bytes.length + uptoBulk d + 1
  | (_, d) => uptoBulk d + 1
 end
def uptoSmall : (H : Type) → List (DataW H) → Bool := fun _ ds => decide (uptoBulkAll ds ≤ 1048576)
def OpenSpec.upto (s : _root_.Go.ChangeSpec) : _root_.Go.OpenSpec := { _root_.Go.OpenSpec.ofChange s with cond := some uptoSmall }

/-- 'casematelaw24.CheckFails', WHERE WHAT IT READS IS OF BULK AT MOST 1048576: true; the input reads as it did. -/
def checkFailsUptoRow : OpenClaim := { program := "ytpjkcgacjjbikaagreatdoor", sum := "8e9c2acecae929158ccb914eb6a99718b2cf7b95a2b751f8c7a2236f0144a7df", func := "casemate/casematelaw24.CheckFails", spec := "checkFails", unfollowed := true, recurses := true, named := ["unicode/utf8.first", "unicode/utf8.acceptRanges"], apart := false, laid := [("unicode/utf8.acceptRanges", laid_unicode_utf8_acceptRanges), ("unicode/utf8.first", laid_unicode_utf8_first)], narrowed := true }
def CheckFailsUptoSaid : Prop := checkFailsUptoRow.holds Tryz.pinned (OpenSpec.upto checkFailsSpec)

/-- 'casematelaw26.VolLocks', WHERE WHAT IT READS IS OF BULK AT MOST 1048576: true; the input reads as it did. -/
def volLocksUptoRow : OpenClaim := { program := "ytpjkcgacjjbikaagreatdoor", sum := "8e9c2acecae929158ccb914eb6a99718b2cf7b95a2b751f8c7a2236f0144a7df", func := "casemate/casematelaw26.VolLocks", spec := "volLocks", inPlace := ["slices.overlaps[casemate/api.Handle]", "slices.overlaps[casemate/api.Lock]", "slices.overlaps[int]", "slices.overlaps[[]byte]"], unfollowed := true, recurses := true, named := ["unicode/utf8.first", "unicode/utf8.acceptRanges"], apart := false, laid := [("unicode/utf8.acceptRanges", laid_unicode_utf8_acceptRanges), ("unicode/utf8.first", laid_unicode_utf8_first)], narrowed := true }
def VolLocksUptoSaid : Prop := volLocksUptoRow.holds Tryz.pinned (OpenSpec.upto volLocksSpec)

/-- 'casematelaw26.VolCuts', WHERE WHAT IT READS IS OF BULK AT MOST 1048576: true; the input reads as it did. -/
def volCutsUptoRow : OpenClaim := { program := "ytpjkcgacjjbikaagreatdoor", sum := "8e9c2acecae929158ccb914eb6a99718b2cf7b95a2b751f8c7a2236f0144a7df", func := "casemate/casematelaw26.VolCuts", spec := "volCuts", inPlace := ["slices.overlaps[casemate/api.Handle]", "slices.overlaps[casemate/api.Lock]", "slices.overlaps[int]", "slices.overlaps[[]byte]"], unfollowed := true, recurses := true, named := ["unicode/utf8.first", "unicode/utf8.acceptRanges"], apart := false, laid := [("unicode/utf8.acceptRanges", laid_unicode_utf8_acceptRanges), ("unicode/utf8.first", laid_unicode_utf8_first)], narrowed := true }
def VolCutsUptoSaid : Prop := volCutsUptoRow.holds Tryz.pinned (OpenSpec.upto volCutsSpec)

/-- 'casematelaw26.VolRefuses', WHERE WHAT IT READS IS OF BULK AT MOST 1048576: true; the input reads as it did. -/
def volRefusesUptoRow : OpenClaim := { program := "ytpjkcgacjjbikaagreatdoor", sum := "8e9c2acecae929158ccb914eb6a99718b2cf7b95a2b751f8c7a2236f0144a7df", func := "casemate/casematelaw26.VolRefuses", spec := "volRefuses", inPlace := ["slices.overlaps[casemate/api.Handle]", "slices.overlaps[casemate/api.Lock]", "slices.overlaps[int]", "slices.overlaps[[]byte]"], unfollowed := true, recurses := true, named := ["unicode/utf8.first", "unicode/utf8.acceptRanges"], apart := false, laid := [("unicode/utf8.acceptRanges", laid_unicode_utf8_acceptRanges), ("unicode/utf8.first", laid_unicode_utf8_first)], narrowed := true }
def VolRefusesUptoSaid : Prop := volRefusesUptoRow.holds Tryz.pinned (OpenSpec.upto volRefusesSpec)

/-- 'casematelaw26.VolSpoils', WHERE WHAT IT READS IS OF BULK AT MOST 1048576: true; the input reads as it did. -/
def volSpoilsUptoRow : OpenClaim := { program := "ytpjkcgacjjbikaagreatdoor", sum := "8e9c2acecae929158ccb914eb6a99718b2cf7b95a2b751f8c7a2236f0144a7df", func := "casemate/casematelaw26.VolSpoils", spec := "volSpoils", inPlace := ["slices.overlaps[casemate/api.Handle]", "slices.overlaps[casemate/api.Lock]", "slices.overlaps[int]", "slices.overlaps[[]byte]"], unfollowed := true, recurses := true, named := ["unicode/utf8.first", "unicode/utf8.acceptRanges"], apart := false, laid := [("unicode/utf8.acceptRanges", laid_unicode_utf8_acceptRanges), ("unicode/utf8.first", laid_unicode_utf8_first)], narrowed := true }
def VolSpoilsUptoSaid : Prop := volSpoilsUptoRow.holds Tryz.pinned (OpenSpec.upto volSpoilsSpec)

/-- 'casematelaw26.VolBegins', WHERE WHAT IT READS IS OF BULK AT MOST 1048576: true; the input reads as it did. -/
def volBeginsUptoRow : OpenClaim := { program := "ytpjkcgacjjbikaagreatdoor", sum := "8e9c2acecae929158ccb914eb6a99718b2cf7b95a2b751f8c7a2236f0144a7df", func := "casemate/casematelaw26.VolBegins", spec := "volBegins", inPlace := ["slices.overlaps[casemate/api.Handle]", "slices.overlaps[casemate/api.Lock]", "slices.overlaps[int]", "slices.overlaps[[]byte]"], unfollowed := true, recurses := true, named := ["unicode/utf8.first", "unicode/utf8.acceptRanges"], apart := false, laid := [("unicode/utf8.acceptRanges", laid_unicode_utf8_acceptRanges), ("unicode/utf8.first", laid_unicode_utf8_first)], narrowed := true }
def VolBeginsUptoSaid : Prop := volBeginsUptoRow.holds Tryz.pinned (OpenSpec.upto volBeginsSpec)

/-- 'casematelaw26.VolNone', WHERE WHAT IT READS IS OF BULK AT MOST 1048576: true; the input reads as it did. -/
def volNoneUptoRow : OpenClaim := { program := "ytpjkcgacjjbikaagreatdoor", sum := "8e9c2acecae929158ccb914eb6a99718b2cf7b95a2b751f8c7a2236f0144a7df", func := "casemate/casematelaw26.VolNone", spec := "volNone", inPlace := ["slices.overlaps[casemate/api.Handle]", "slices.overlaps[casemate/api.Lock]", "slices.overlaps[int]", "slices.overlaps[[]byte]"], unfollowed := true, recurses := true, named := ["unicode/utf8.first", "unicode/utf8.acceptRanges"], apart := false, laid := [("unicode/utf8.acceptRanges", laid_unicode_utf8_acceptRanges), ("unicode/utf8.first", laid_unicode_utf8_first)], narrowed := true }
def VolNoneUptoSaid : Prop := volNoneUptoRow.holds Tryz.pinned (OpenSpec.upto volNoneSpec)

end Rows
end Go.Proofs.YtpjkcgacjjbikaaGreatDoor
