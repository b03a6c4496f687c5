/-
  No cell of these rows narrows 'for every input' (looked for: loops, veiled, ifaces, maps, wideKeys, modest, calm, conditions, laid).
  DERIVED. THE GIVEN ROWS OF THIS SEAT. 8 by the template 'for every input the law returns true; each argument reads behind the call as it read before'; 0 by the template 'total and deterministic' (their statements: YtbhkoeaecngdhaaTotals.lean).
  GIVEN WITH THE SEED: the statements are not yours to turn. If you find one false, say at which input.
  Laid BY PROGRAM, IN A SANDBOX (cutbox-rows.mjs): the forced cells as the released guide's own fill.sh prints them over the translation d06e0a7918a7ea33… (all of the seat's roots in one cut). By AI agents, Wed Nov 11 2026. No macro, syntax, notation, axiom, sorry.
-/
import Derived.Test.YtbhkoeaecngdhaaChecked
import GoSem.Claim
import GoSem.ClaimJoined
import GoSem.ClaimMapViews
import Derived.JoinedTies
import Derived.KernelRfl
namespace Go.Proofs.Ytbhkoeaecngdhaa
/- THE CELL 'sum', in the pinned program and in every row, IS THE sha256 OF THE DUMP (.gsa) THAT YtbhkoeaecngdhaaProg.lean LOADS. Nothing in Lean hashes anything: it is a label: what it is worth is what the hold of that sum in a sandbox is worth. -/
noncomputable def Try.pinned : Pinned := { name := "ytbhkoeaecngdhaa", sum := "d06e0a7918a7ea33fe277266fd102304abec270bfcb5713a56d9202d2e5a85b1", checked := Try.checked }
namespace Rows
def none {H : Type} : Left H := { results := [], args := [] }

/-- 'purflelaw01.BoxOnes': WHATEVER THE INPUT: true; the input reads as it did. -/
def boxOnesSpec : ChangeSpec := { name := "boxOnes", fn := fun _ => fun
  | [d1, d2, d3] => { results := [.lit (.bool true)], args := [d1, d2, d3] }
  | _ => none }
def boxOnesRow : OpenClaim := { program := "ytbhkoeaecngdhaa", sum := "d06e0a7918a7ea33fe277266fd102304abec270bfcb5713a56d9202d2e5a85b1", func := "purfle/purflelaw01.BoxOnes", spec := "boxOnes", unfollowed := true, recurses := true, apart := false }
def BoxOnesSaid : Prop := boxOnesRow.holds Try.pinned (OpenSpec.ofChange boxOnesSpec)

/-- ITS FALSE NEIGHBOUR: 'it returns false'. Refute it at one input. -/
def boxOnesWrong : ChangeSpec := { name := "boxOnes", fn := fun _ => fun
  | [d1, d2, d3] => { results := [.lit (.bool false)], args := [d1, d2, d3] }
  | _ => none }
def BoxOnesWrongFalsely : Prop := boxOnesRow.holds Try.pinned (OpenSpec.ofChange boxOnesWrong)

/-- 'purflelaw01.BoxPlaces': WHATEVER THE INPUT: true; the input reads as it did. -/
def boxPlacesSpec : ChangeSpec := { name := "boxPlaces", fn := fun _ => fun
  | [d1, d2, d3] => { results := [.lit (.bool true)], args := [d1, d2, d3] }
  | _ => none }
def boxPlacesRow : OpenClaim := { program := "ytbhkoeaecngdhaa", sum := "d06e0a7918a7ea33fe277266fd102304abec270bfcb5713a56d9202d2e5a85b1", func := "purfle/purflelaw01.BoxPlaces", spec := "boxPlaces", unfollowed := true, recurses := true, apart := false }
def BoxPlacesSaid : Prop := boxPlacesRow.holds Try.pinned (OpenSpec.ofChange boxPlacesSpec)

/-- ITS FALSE NEIGHBOUR: 'it returns false'. Refute it at one input. -/
def boxPlacesWrong : ChangeSpec := { name := "boxPlaces", fn := fun _ => fun
  | [d1, d2, d3] => { results := [.lit (.bool false)], args := [d1, d2, d3] }
  | _ => none }
def BoxPlacesWrongFalsely : Prop := boxPlacesRow.holds Try.pinned (OpenSpec.ofChange boxPlacesWrong)

/-- 'purflelaw01.BoxOne': WHATEVER THE INPUT: true; the input reads as it did. -/
def boxOneSpec : ChangeSpec := { name := "boxOne", fn := fun _ => fun
  | [d1, d2] => { results := [.lit (.bool true)], args := [d1, d2] }
  | _ => none }
def boxOneRow : OpenClaim := { program := "ytbhkoeaecngdhaa", sum := "d06e0a7918a7ea33fe277266fd102304abec270bfcb5713a56d9202d2e5a85b1", func := "purfle/purflelaw01.BoxOne", spec := "boxOne", unfollowed := true, recurses := true, apart := false }
def BoxOneSaid : Prop := boxOneRow.holds Try.pinned (OpenSpec.ofChange boxOneSpec)

/-- ITS FALSE NEIGHBOUR: 'it returns false'. Refute it at one input. -/
def boxOneWrong : ChangeSpec := { name := "boxOne", fn := fun _ => fun
  | [d1, d2] => { results := [.lit (.bool false)], args := [d1, d2] }
  | _ => none }
def BoxOneWrongFalsely : Prop := boxOneRow.holds Try.pinned (OpenSpec.ofChange boxOneWrong)

/-- 'purflelaw01.BoxCells': WHATEVER THE INPUT: true; the input reads as it did. -/
def boxCellsSpec : ChangeSpec := { name := "boxCells", fn := fun _ => fun
  | [d1, d2, d3, d4] => { results := [.lit (.bool true)], args := [d1, d2, d3, d4] }
  | _ => none }
def boxCellsRow : OpenClaim := { program := "ytbhkoeaecngdhaa", sum := "d06e0a7918a7ea33fe277266fd102304abec270bfcb5713a56d9202d2e5a85b1", func := "purfle/purflelaw01.BoxCells", spec := "boxCells", unfollowed := true, recurses := true, apart := false }
def BoxCellsSaid : Prop := boxCellsRow.holds Try.pinned (OpenSpec.ofChange boxCellsSpec)

/-- ITS FALSE NEIGHBOUR: 'it returns false'. Refute it at one input. -/
def boxCellsWrong : ChangeSpec := { name := "boxCells", fn := fun _ => fun
  | [d1, d2, d3, d4] => { results := [.lit (.bool false)], args := [d1, d2, d3, d4] }
  | _ => none }
def BoxCellsWrongFalsely : Prop := boxCellsRow.holds Try.pinned (OpenSpec.ofChange boxCellsWrong)

/-- 'purflelaw01.BoxRing': WHATEVER THE INPUT: true; the input reads as it did. -/
def boxRingSpec : ChangeSpec := { name := "boxRing", fn := fun _ => fun
  | [d1, d2, d3] => { results := [.lit (.bool true)], args := [d1, d2, d3] }
  | _ => none }
def boxRingRow : OpenClaim := { program := "ytbhkoeaecngdhaa", sum := "d06e0a7918a7ea33fe277266fd102304abec270bfcb5713a56d9202d2e5a85b1", func := "purfle/purflelaw01.BoxRing", spec := "boxRing", unfollowed := true, recurses := true, apart := false }
def BoxRingSaid : Prop := boxRingRow.holds Try.pinned (OpenSpec.ofChange boxRingSpec)

/-- ITS FALSE NEIGHBOUR: 'it returns false'. Refute it at one input. -/
def boxRingWrong : ChangeSpec := { name := "boxRing", fn := fun _ => fun
  | [d1, d2, d3] => { results := [.lit (.bool false)], args := [d1, d2, d3] }
  | _ => none }
def BoxRingWrongFalsely : Prop := boxRingRow.holds Try.pinned (OpenSpec.ofChange boxRingWrong)

/-- 'purflelaw01.BoxTotal': WHATEVER THE INPUT: true; the input reads as it did. -/
def boxTotalSpec : ChangeSpec := { name := "boxTotal", fn := fun _ => fun
  | [d1, d2] => { results := [.lit (.bool true)], args := [d1, d2] }
  | _ => none }
def boxTotalRow : OpenClaim := { program := "ytbhkoeaecngdhaa", sum := "d06e0a7918a7ea33fe277266fd102304abec270bfcb5713a56d9202d2e5a85b1", func := "purfle/purflelaw01.BoxTotal", spec := "boxTotal", unfollowed := true, recurses := true, apart := false }
def BoxTotalSaid : Prop := boxTotalRow.holds Try.pinned (OpenSpec.ofChange boxTotalSpec)

/-- ITS FALSE NEIGHBOUR: 'it returns false'. Refute it at one input. -/
def boxTotalWrong : ChangeSpec := { name := "boxTotal", fn := fun _ => fun
  | [d1, d2] => { results := [.lit (.bool false)], args := [d1, d2] }
  | _ => none }
def BoxTotalWrongFalsely : Prop := boxTotalRow.holds Try.pinned (OpenSpec.ofChange boxTotalWrong)

/-- 'purflelaw01.BoxReckons': WHATEVER THE INPUT: true; the input reads as it did. -/
def boxReckonsSpec : ChangeSpec := { name := "boxReckons", fn := fun _ => fun
  | [d1, d2, d3, d4] => { results := [.lit (.bool true)], args := [d1, d2, d3, d4] }
  | _ => none }
def boxReckonsRow : OpenClaim := { program := "ytbhkoeaecngdhaa", sum := "d06e0a7918a7ea33fe277266fd102304abec270bfcb5713a56d9202d2e5a85b1", func := "purfle/purflelaw01.BoxReckons", spec := "boxReckons", unfollowed := true, recurses := true, apart := false }
def BoxReckonsSaid : Prop := boxReckonsRow.holds Try.pinned (OpenSpec.ofChange boxReckonsSpec)

/-- ITS FALSE NEIGHBOUR: 'it returns false'. Refute it at one input. -/
def boxReckonsWrong : ChangeSpec := { name := "boxReckons", fn := fun _ => fun
  | [d1, d2, d3, d4] => { results := [.lit (.bool false)], args := [d1, d2, d3, d4] }
  | _ => none }
def BoxReckonsWrongFalsely : Prop := boxReckonsRow.holds Try.pinned (OpenSpec.ofChange boxReckonsWrong)

/-- 'purflelaw01.BoxSums': WHATEVER THE INPUT: true; the input reads as it did. -/
def boxSumsSpec : ChangeSpec := { name := "boxSums", fn := fun _ => fun
  | [d1, d2, d3, d4, d5] => { results := [.lit (.bool true)], args := [d1, d2, d3, d4, d5] }
  | _ => none }
def boxSumsRow : OpenClaim := { program := "ytbhkoeaecngdhaa", sum := "d06e0a7918a7ea33fe277266fd102304abec270bfcb5713a56d9202d2e5a85b1", func := "purfle/purflelaw01.BoxSums", spec := "boxSums", unfollowed := true, recurses := true, apart := false }
def BoxSumsSaid : Prop := boxSumsRow.holds Try.pinned (OpenSpec.ofChange boxSumsSpec)

/-- ITS FALSE NEIGHBOUR: 'it returns false'. Refute it at one input. -/
def boxSumsWrong : ChangeSpec := { name := "boxSums", fn := fun _ => fun
  | [d1, d2, d3, d4, d5] => { results := [.lit (.bool false)], args := [d1, d2, d3, d4, d5] }
  | _ => none }
def BoxSumsWrongFalsely : Prop := boxSumsRow.holds Try.pinned (OpenSpec.ofChange boxSumsWrong)

/- THE SECOND FORM. 'bulk': how many values and letters a reading holds, each counted each time it is reached (what is shared counts as often as it is met; a slice's spare places count too). A statement '..UptoSaid' is the law's where the arguments, and the package variables that the reading takes, are together of bulk at most 1048576: NARROWER than '..Said'. Prove '..Said' where nothing that the law and all that it calls make is longer than what came in: it says more and counts as full. Else prove '..UptoSaid'. A law counts once. -/
mutual
def uptoBulk {H : Type} : DataW H → Nat
  | .lit (.string bytes) => bytes.length + 1
  | .lit _ => 1
  | .nil => 1
  | .ptr d => uptoBulk d + 1
  | .slice elems spare => uptoBulkAll elems + uptoBulkAll spare + 1
  | .agg parts => uptoBulkAll parts + 1
  | .iface _ d => uptoBulk d + 1
  | .map entries => uptoBulkEntries entries + 1
  | .held _ => 1
def uptoBulkAll {H : Type} : List (DataW H) → Nat
  | [] => 0
  | d :: r => uptoBulk d + uptoBulkAll r
def uptoBulkEntries {H : Type} : List (Lit × DataW H) → Nat
  | [] => 0
  | x :: r => uptoBulkEntry x + uptoBulkEntries r
def uptoBulkEntry {H : Type} : Lit × DataW H → Nat
  | (.string bytes, d) => bytes.length + uptoBulk d + 1
  | (_, d) => uptoBulk d + 1
 end
def uptoSmall : (H : Type) → List (DataW H) → Bool := fun _ ds => decide (uptoBulkAll ds ≤ 1048576)
def OpenSpec.upto (s : _root_.Go.ChangeSpec) : _root_.Go.OpenSpec := { _root_.Go.OpenSpec.ofChange s with cond := some uptoSmall }

/-- 'purflelaw01.BoxOnes', WHERE WHAT IT READS IS OF BULK AT MOST 1048576: true; the input reads as it did. -/
def boxOnesUptoRow : OpenClaim := { program := "ytbhkoeaecngdhaa", sum := "d06e0a7918a7ea33fe277266fd102304abec270bfcb5713a56d9202d2e5a85b1", func := "purfle/purflelaw01.BoxOnes", spec := "boxOnes", unfollowed := true, recurses := true, apart := false, narrowed := true }
def BoxOnesUptoSaid : Prop := boxOnesUptoRow.holds Try.pinned (OpenSpec.upto boxOnesSpec)

/-- 'purflelaw01.BoxPlaces', WHERE WHAT IT READS IS OF BULK AT MOST 1048576: true; the input reads as it did. -/
def boxPlacesUptoRow : OpenClaim := { program := "ytbhkoeaecngdhaa", sum := "d06e0a7918a7ea33fe277266fd102304abec270bfcb5713a56d9202d2e5a85b1", func := "purfle/purflelaw01.BoxPlaces", spec := "boxPlaces", unfollowed := true, recurses := true, apart := false, narrowed := true }
def BoxPlacesUptoSaid : Prop := boxPlacesUptoRow.holds Try.pinned (OpenSpec.upto boxPlacesSpec)

/-- 'purflelaw01.BoxOne', WHERE WHAT IT READS IS OF BULK AT MOST 1048576: true; the input reads as it did. -/
def boxOneUptoRow : OpenClaim := { program := "ytbhkoeaecngdhaa", sum := "d06e0a7918a7ea33fe277266fd102304abec270bfcb5713a56d9202d2e5a85b1", func := "purfle/purflelaw01.BoxOne", spec := "boxOne", unfollowed := true, recurses := true, apart := false, narrowed := true }
def BoxOneUptoSaid : Prop := boxOneUptoRow.holds Try.pinned (OpenSpec.upto boxOneSpec)

/-- 'purflelaw01.BoxCells', WHERE WHAT IT READS IS OF BULK AT MOST 1048576: true; the input reads as it did. -/
def boxCellsUptoRow : OpenClaim := { program := "ytbhkoeaecngdhaa", sum := "d06e0a7918a7ea33fe277266fd102304abec270bfcb5713a56d9202d2e5a85b1", func := "purfle/purflelaw01.BoxCells", spec := "boxCells", unfollowed := true, recurses := true, apart := false, narrowed := true }
def BoxCellsUptoSaid : Prop := boxCellsUptoRow.holds Try.pinned (OpenSpec.upto boxCellsSpec)

/-- 'purflelaw01.BoxRing', WHERE WHAT IT READS IS OF BULK AT MOST 1048576: true; the input reads as it did. -/
def boxRingUptoRow : OpenClaim := { program := "ytbhkoeaecngdhaa", sum := "d06e0a7918a7ea33fe277266fd102304abec270bfcb5713a56d9202d2e5a85b1", func := "purfle/purflelaw01.BoxRing", spec := "boxRing", unfollowed := true, recurses := true, apart := false, narrowed := true }
def BoxRingUptoSaid : Prop := boxRingUptoRow.holds Try.pinned (OpenSpec.upto boxRingSpec)

/-- 'purflelaw01.BoxTotal', WHERE WHAT IT READS IS OF BULK AT MOST 1048576: true; the input reads as it did. -/
def boxTotalUptoRow : OpenClaim := { program := "ytbhkoeaecngdhaa", sum := "d06e0a7918a7ea33fe277266fd102304abec270bfcb5713a56d9202d2e5a85b1", func := "purfle/purflelaw01.BoxTotal", spec := "boxTotal", unfollowed := true, recurses := true, apart := false, narrowed := true }
def BoxTotalUptoSaid : Prop := boxTotalUptoRow.holds Try.pinned (OpenSpec.upto boxTotalSpec)

/-- 'purflelaw01.BoxReckons', WHERE WHAT IT READS IS OF BULK AT MOST 1048576: true; the input reads as it did. -/
def boxReckonsUptoRow : OpenClaim := { program := "ytbhkoeaecngdhaa", sum := "d06e0a7918a7ea33fe277266fd102304abec270bfcb5713a56d9202d2e5a85b1", func := "purfle/purflelaw01.BoxReckons", spec := "boxReckons", unfollowed := true, recurses := true, apart := false, narrowed := true }
def BoxReckonsUptoSaid : Prop := boxReckonsUptoRow.holds Try.pinned (OpenSpec.upto boxReckonsSpec)

/-- 'purflelaw01.BoxSums', WHERE WHAT IT READS IS OF BULK AT MOST 1048576: true; the input reads as it did. -/
def boxSumsUptoRow : OpenClaim := { program := "ytbhkoeaecngdhaa", sum := "d06e0a7918a7ea33fe277266fd102304abec270bfcb5713a56d9202d2e5a85b1", func := "purfle/purflelaw01.BoxSums", spec := "boxSums", unfollowed := true, recurses := true, apart := false, narrowed := true }
def BoxSumsUptoSaid : Prop := boxSumsUptoRow.holds Try.pinned (OpenSpec.upto boxSumsSpec)

end Rows
end Go.Proofs.Ytbhkoeaecngdhaa
