/-
  No cell of these rows narrows 'for every input' (looked for: loops, veiled, ifaces, maps, wideKeys, modest, calm, conditions, laid).
  DERIVED. THE GIVEN ROWS OF THIS SEAT. 3 by the template 'for every input the law returns true; each argument reads behind the call as it read before'; 0 by the template 'total and deterministic' (their statements: YtjcboeldmgmfcaaTotals.lean).
  GIVEN WITH THE SEED: the statements are not yours to turn. If you find one false, say at which input.
  Laid BY PROGRAM, IN A SANDBOX (cutbox-rows.mjs): the forced cells as the released guide's own fill.sh prints them over the translation 542498c4aa3371b3… (all of the seat's roots in one cut). By AI agents, Wed Nov 11 2026. No macro, syntax, notation, axiom, sorry.
-/
import Derived.Test.YtjcboeldmgmfcaaChecked
import GoSem.Claim
import GoSem.ClaimJoined
import GoSem.ClaimMapViews
import Derived.JoinedTies
import Derived.KernelRfl
namespace Go.Proofs.Ytjcboeldmgmfcaa
/- THE CELL 'sum', in the pinned program and in every row, IS THE sha256 OF THE DUMP (.gsa) THAT YtjcboeldmgmfcaaProg.lean LOADS. Nothing in Lean hashes anything: it is a label: what it is worth is what the hold of that sum in a sandbox is worth. -/
noncomputable def Try.pinned : Pinned := { name := "ytjcboeldmgmfcaa", sum := "542498c4aa3371b3b968f12d12b1c0d50080c49bde8aba0c2fc4b276cb5bb845", checked := Try.checked }
namespace Rows
def none {H : Type} : Left H := { results := [], args := [] }

/-- 'casematelaw21.HandExact': WHATEVER THE INPUT: true; the input reads as it did. -/
def handExactSpec : ChangeSpec := { name := "handExact", fn := fun _ => fun
  | [d1, d2, d3, d4] => { results := [.lit (.bool true)], args := [d1, d2, d3, d4] }
  | _ => none }
def handExactRow : OpenClaim := { program := "ytjcboeldmgmfcaa", sum := "542498c4aa3371b3b968f12d12b1c0d50080c49bde8aba0c2fc4b276cb5bb845", func := "casemate/casematelaw21.HandExact", spec := "handExact", inPlace := ["slices.overlaps[casemate/api.Handle]", "slices.overlaps[int]", "slices.overlaps[[]byte]"], unfollowed := true, recurses := true, apart := false }
def HandExactSaid : Prop := handExactRow.holds Try.pinned (OpenSpec.ofChange handExactSpec)

/-- ITS FALSE NEIGHBOUR: 'it returns false'. Refute it at one input. -/
def handExactWrong : ChangeSpec := { name := "handExact", fn := fun _ => fun
  | [d1, d2, d3, d4] => { results := [.lit (.bool false)], args := [d1, d2, d3, d4] }
  | _ => none }
def HandExactWrongFalsely : Prop := handExactRow.holds Try.pinned (OpenSpec.ofChange handExactWrong)

/-- 'casematelaw21.HandLast': WHATEVER THE INPUT: true; the input reads as it did. -/
def handLastSpec : ChangeSpec := { name := "handLast", fn := fun _ => fun
  | [d] => { results := [.lit (.bool true)], args := [d] }
  | _ => none }
def handLastRow : OpenClaim := { program := "ytjcboeldmgmfcaa", sum := "542498c4aa3371b3b968f12d12b1c0d50080c49bde8aba0c2fc4b276cb5bb845", func := "casemate/casematelaw21.HandLast", spec := "handLast", inPlace := ["slices.overlaps[casemate/api.Handle]", "slices.overlaps[int]", "slices.overlaps[[]byte]"], unfollowed := true, recurses := true, apart := false }
def HandLastSaid : Prop := handLastRow.holds Try.pinned (OpenSpec.ofChange handLastSpec)

/-- ITS FALSE NEIGHBOUR: 'it returns false'. Refute it at one input. -/
def handLastWrong : ChangeSpec := { name := "handLast", fn := fun _ => fun
  | [d] => { results := [.lit (.bool false)], args := [d] }
  | _ => none }
def HandLastWrongFalsely : Prop := handLastRow.holds Try.pinned (OpenSpec.ofChange handLastWrong)

/-- 'casematelaw21.HandIds': WHATEVER THE INPUT: true; the input reads as it did. -/
def handIdsSpec : ChangeSpec := { name := "handIds", fn := fun _ => fun
  | [d] => { results := [.lit (.bool true)], args := [d] }
  | _ => none }
def handIdsRow : OpenClaim := { program := "ytjcboeldmgmfcaa", sum := "542498c4aa3371b3b968f12d12b1c0d50080c49bde8aba0c2fc4b276cb5bb845", func := "casemate/casematelaw21.HandIds", spec := "handIds", inPlace := ["slices.overlaps[casemate/api.Handle]", "slices.overlaps[int]", "slices.overlaps[[]byte]"], unfollowed := true, recurses := true, apart := false }
def HandIdsSaid : Prop := handIdsRow.holds Try.pinned (OpenSpec.ofChange handIdsSpec)

/-- ITS FALSE NEIGHBOUR: 'it returns false'. Refute it at one input. -/
def handIdsWrong : ChangeSpec := { name := "handIds", fn := fun _ => fun
  | [d] => { results := [.lit (.bool false)], args := [d] }
  | _ => none }
def HandIdsWrongFalsely : Prop := handIdsRow.holds Try.pinned (OpenSpec.ofChange handIdsWrong)

/- THE SECOND FORM. 'bulk': how many values and letters a reading holds, each counted each time it is reached (what is shared counts as often as it is met; a slice's spare places count too). A statement '..UptoSaid' is the law's where the arguments, and the package variables that the reading takes, are together of bulk at most 1048576: NARROWER than '..Said'. Prove '..Said' where nothing that the law and all that it calls make is longer than what came in: it says more and counts as full. Else prove '..UptoSaid'. A law counts once. -/
mutual
def uptoBulk {H : Type} : DataW H → Nat
  | .lit (.string bytes) => bytes.length + 1
  | .lit _ => 1
  | .nil => 1
  | .ptr d => uptoBulk d + 1
  | .slice elems spare => uptoBulkAll elems + uptoBulkAll spare + 1
  | .agg parts => uptoBulkAll parts + 1
  | .iface _ d => uptoBulk d + 1
  | .map entries => uptoBulkEntries entries + 1
  | .held _ => 1
def uptoBulkAll {H : Type} : List (DataW H) → Nat
  | [] => 0
  | d :: r => uptoBulk d + uptoBulkAll r
def uptoBulkEntries {H : Type} : List (Lit × DataW H) → Nat
  | [] => 0
  | x :: r => uptoBulkEntry x + uptoBulkEntries r
def uptoBulkEntry {H : Type} : Lit × DataW H → Nat
  | (.string bytes, d) => bytes.length + uptoBulk d + 1
  | (_, d) => uptoBulk d + 1
 end
def uptoSmall : (H : Type) → List (DataW H) → Bool := fun _ ds => decide (uptoBulkAll ds ≤ 1048576)
def OpenSpec.upto (s : _root_.Go.ChangeSpec) : _root_.Go.OpenSpec := { _root_.Go.OpenSpec.ofChange s with cond := some uptoSmall }

/-- 'casematelaw21.HandExact', WHERE WHAT IT READS IS OF BULK AT MOST 1048576: true; the input reads as it did. -/
def handExactUptoRow : OpenClaim := { program := "ytjcboeldmgmfcaa", sum := "542498c4aa3371b3b968f12d12b1c0d50080c49bde8aba0c2fc4b276cb5bb845", func := "casemate/casematelaw21.HandExact", spec := "handExact", inPlace := ["slices.overlaps[casemate/api.Handle]", "slices.overlaps[int]", "slices.overlaps[[]byte]"], unfollowed := true, recurses := true, apart := false, narrowed := true }
def HandExactUptoSaid : Prop := handExactUptoRow.holds Try.pinned (OpenSpec.upto handExactSpec)

/-- 'casematelaw21.HandLast', WHERE WHAT IT READS IS OF BULK AT MOST 1048576: true; the input reads as it did. -/
def handLastUptoRow : OpenClaim := { program := "ytjcboeldmgmfcaa", sum := "542498c4aa3371b3b968f12d12b1c0d50080c49bde8aba0c2fc4b276cb5bb845", func := "casemate/casematelaw21.HandLast", spec := "handLast", inPlace := ["slices.overlaps[casemate/api.Handle]", "slices.overlaps[int]", "slices.overlaps[[]byte]"], unfollowed := true, recurses := true, apart := false, narrowed := true }
def HandLastUptoSaid : Prop := handLastUptoRow.holds Try.pinned (OpenSpec.upto handLastSpec)

/-- 'casematelaw21.HandIds', WHERE WHAT IT READS IS OF BULK AT MOST 1048576: true; the input reads as it did. -/
def handIdsUptoRow : OpenClaim := { program := "ytjcboeldmgmfcaa", sum := "542498c4aa3371b3b968f12d12b1c0d50080c49bde8aba0c2fc4b276cb5bb845", func := "casemate/casematelaw21.HandIds", spec := "handIds", inPlace := ["slices.overlaps[casemate/api.Handle]", "slices.overlaps[int]", "slices.overlaps[[]byte]"], unfollowed := true, recurses := true, apart := false, narrowed := true }
def HandIdsUptoSaid : Prop := handIdsUptoRow.holds Try.pinned (OpenSpec.upto handIdsSpec)

end Rows
end Go.Proofs.Ytjcboeldmgmfcaa
