/-
  No cell of these rows narrows 'for every input' (looked for: loops, veiled, ifaces, maps, wideKeys, modest, calm, conditions, laid).
  DERIVED. THE GIVEN ROWS OF THIS SEAT. 8 by the template 'for every input the law returns true; each argument reads behind the call as it read before'; 0 by the template 'total and deterministic' (their statements: YtkfooghdpfhiaaaTotals.lean).
  GIVEN WITH THE SEED: the statements are not yours to turn. If you find one false, say at which input.
  Laid BY PROGRAM, IN A SANDBOX (cutbox-rows.mjs): the forced cells as the released guide's own fill.sh prints them over the translation fe30b1b184e2f578… (all of the seat's roots in one cut). By AI agents, Wed Nov 11 2026. No macro, syntax, notation, axiom, sorry.
-/
import Derived.Test.YtkfooghdpfhiaaaChecked
import GoSem.Claim
import GoSem.ClaimJoined
import GoSem.ClaimMapViews
import Derived.JoinedTies
import Derived.KernelRfl
namespace Go.Proofs.Ytkfooghdpfhiaaa
/- THE CELL 'sum', in the pinned program and in every row, IS THE sha256 OF THE DUMP (.gsa) THAT YtkfooghdpfhiaaaProg.lean LOADS. Nothing in Lean hashes anything: it is a label: what it is worth is what the hold of that sum in a sandbox is worth. -/
noncomputable def Try.pinned : Pinned := { name := "ytkfooghdpfhiaaa", sum := "fe30b1b184e2f578ee078608f237d0a53e8398f2376b0d6c0da62da18e92caab", checked := Try.checked }
namespace Rows
def none {H : Type} : Left H := { results := [], args := [] }

/-- 'purflelaw20.SizeDense': WHATEVER THE INPUT: true; the input reads as it did. -/
def sizeDenseSpec : ChangeSpec := { name := "sizeDense", fn := fun _ => fun
  | [d1, d2] => { results := [.lit (.bool true)], args := [d1, d2] }
  | _ => none }
def sizeDenseRow : OpenClaim := { program := "ytkfooghdpfhiaaa", sum := "fe30b1b184e2f578ee078608f237d0a53e8398f2376b0d6c0da62da18e92caab", func := "purfle/purflelaw20.SizeDense", spec := "sizeDense", unfollowed := true, recurses := true, apart := false }
def SizeDenseSaid : Prop := sizeDenseRow.holds Try.pinned (OpenSpec.ofChange sizeDenseSpec)

/-- ITS FALSE NEIGHBOUR: 'it returns false'. Refute it at one input. -/
def sizeDenseWrong : ChangeSpec := { name := "sizeDense", fn := fun _ => fun
  | [d1, d2] => { results := [.lit (.bool false)], args := [d1, d2] }
  | _ => none }
def SizeDenseWrongFalsely : Prop := sizeDenseRow.holds Try.pinned (OpenSpec.ofChange sizeDenseWrong)

/-- 'purflelaw07.MergeWhole': WHATEVER THE INPUT: true; the input reads as it did. -/
def mergeWholeSpec : ChangeSpec := { name := "mergeWhole", fn := fun _ => fun
  | [d] => { results := [.lit (.bool true)], args := [d] }
  | _ => none }
def mergeWholeRow : OpenClaim := { program := "ytkfooghdpfhiaaa", sum := "fe30b1b184e2f578ee078608f237d0a53e8398f2376b0d6c0da62da18e92caab", func := "purfle/purflelaw07.MergeWhole", spec := "mergeWhole", unfollowed := true, recurses := true, apart := false }
def MergeWholeSaid : Prop := mergeWholeRow.holds Try.pinned (OpenSpec.ofChange mergeWholeSpec)

/-- ITS FALSE NEIGHBOUR: 'it returns false'. Refute it at one input. -/
def mergeWholeWrong : ChangeSpec := { name := "mergeWhole", fn := fun _ => fun
  | [d] => { results := [.lit (.bool false)], args := [d] }
  | _ => none }
def MergeWholeWrongFalsely : Prop := mergeWholeRow.holds Try.pinned (OpenSpec.ofChange mergeWholeWrong)

/-- 'purflelaw07.MergeOrder': WHATEVER THE INPUT: true; the input reads as it did. -/
def mergeOrderSpec : ChangeSpec := { name := "mergeOrder", fn := fun _ => fun
  | [d] => { results := [.lit (.bool true)], args := [d] }
  | _ => none }
def mergeOrderRow : OpenClaim := { program := "ytkfooghdpfhiaaa", sum := "fe30b1b184e2f578ee078608f237d0a53e8398f2376b0d6c0da62da18e92caab", func := "purfle/purflelaw07.MergeOrder", spec := "mergeOrder", unfollowed := true, recurses := true, apart := false }
def MergeOrderSaid : Prop := mergeOrderRow.holds Try.pinned (OpenSpec.ofChange mergeOrderSpec)

/-- ITS FALSE NEIGHBOUR: 'it returns false'. Refute it at one input. -/
def mergeOrderWrong : ChangeSpec := { name := "mergeOrder", fn := fun _ => fun
  | [d] => { results := [.lit (.bool false)], args := [d] }
  | _ => none }
def MergeOrderWrongFalsely : Prop := mergeOrderRow.holds Try.pinned (OpenSpec.ofChange mergeOrderWrong)

/-- 'purflelaw07.MergeLeast': WHATEVER THE INPUT: true; the input reads as it did. -/
def mergeLeastSpec : ChangeSpec := { name := "mergeLeast", fn := fun _ => fun
  | [d] => { results := [.lit (.bool true)], args := [d] }
  | _ => none }
def mergeLeastRow : OpenClaim := { program := "ytkfooghdpfhiaaa", sum := "fe30b1b184e2f578ee078608f237d0a53e8398f2376b0d6c0da62da18e92caab", func := "purfle/purflelaw07.MergeLeast", spec := "mergeLeast", unfollowed := true, recurses := true, apart := false }
def MergeLeastSaid : Prop := mergeLeastRow.holds Try.pinned (OpenSpec.ofChange mergeLeastSpec)

/-- ITS FALSE NEIGHBOUR: 'it returns false'. Refute it at one input. -/
def mergeLeastWrong : ChangeSpec := { name := "mergeLeast", fn := fun _ => fun
  | [d] => { results := [.lit (.bool false)], args := [d] }
  | _ => none }
def MergeLeastWrongFalsely : Prop := mergeLeastRow.holds Try.pinned (OpenSpec.ofChange mergeLeastWrong)

/-- 'purflelaw07.MergeLists': WHATEVER THE INPUT: true; the input reads as it did. -/
def mergeListsSpec : ChangeSpec := { name := "mergeLists", fn := fun _ => fun
  | [d] => { results := [.lit (.bool true)], args := [d] }
  | _ => none }
def mergeListsRow : OpenClaim := { program := "ytkfooghdpfhiaaa", sum := "fe30b1b184e2f578ee078608f237d0a53e8398f2376b0d6c0da62da18e92caab", func := "purfle/purflelaw07.MergeLists", spec := "mergeLists", unfollowed := true, recurses := true, apart := false }
def MergeListsSaid : Prop := mergeListsRow.holds Try.pinned (OpenSpec.ofChange mergeListsSpec)

/-- ITS FALSE NEIGHBOUR: 'it returns false'. Refute it at one input. -/
def mergeListsWrong : ChangeSpec := { name := "mergeLists", fn := fun _ => fun
  | [d] => { results := [.lit (.bool false)], args := [d] }
  | _ => none }
def MergeListsWrongFalsely : Prop := mergeListsRow.holds Try.pinned (OpenSpec.ofChange mergeListsWrong)

/-- 'purflelaw07.MergeJoins': WHATEVER THE INPUT: true; the input reads as it did. -/
def mergeJoinsSpec : ChangeSpec := { name := "mergeJoins", fn := fun _ => fun
  | [d1, d2] => { results := [.lit (.bool true)], args := [d1, d2] }
  | _ => none }
def mergeJoinsRow : OpenClaim := { program := "ytkfooghdpfhiaaa", sum := "fe30b1b184e2f578ee078608f237d0a53e8398f2376b0d6c0da62da18e92caab", func := "purfle/purflelaw07.MergeJoins", spec := "mergeJoins", unfollowed := true, recurses := true, apart := false }
def MergeJoinsSaid : Prop := mergeJoinsRow.holds Try.pinned (OpenSpec.ofChange mergeJoinsSpec)

/-- ITS FALSE NEIGHBOUR: 'it returns false'. Refute it at one input. -/
def mergeJoinsWrong : ChangeSpec := { name := "mergeJoins", fn := fun _ => fun
  | [d1, d2] => { results := [.lit (.bool false)], args := [d1, d2] }
  | _ => none }
def MergeJoinsWrongFalsely : Prop := mergeJoinsRow.holds Try.pinned (OpenSpec.ofChange mergeJoinsWrong)

/-- 'purflelaw07.MergeSets': WHATEVER THE INPUT: true; the input reads as it did. -/
def mergeSetsSpec : ChangeSpec := { name := "mergeSets", fn := fun _ => fun
  | [d1, d2] => { results := [.lit (.bool true)], args := [d1, d2] }
  | _ => none }
def mergeSetsRow : OpenClaim := { program := "ytkfooghdpfhiaaa", sum := "fe30b1b184e2f578ee078608f237d0a53e8398f2376b0d6c0da62da18e92caab", func := "purfle/purflelaw07.MergeSets", spec := "mergeSets", unfollowed := true, recurses := true, apart := false }
def MergeSetsSaid : Prop := mergeSetsRow.holds Try.pinned (OpenSpec.ofChange mergeSetsSpec)

/-- ITS FALSE NEIGHBOUR: 'it returns false'. Refute it at one input. -/
def mergeSetsWrong : ChangeSpec := { name := "mergeSets", fn := fun _ => fun
  | [d1, d2] => { results := [.lit (.bool false)], args := [d1, d2] }
  | _ => none }
def MergeSetsWrongFalsely : Prop := mergeSetsRow.holds Try.pinned (OpenSpec.ofChange mergeSetsWrong)

/-- 'purflelaw20.SizeTells': WHATEVER THE INPUT: true; the input reads as it did. -/
def sizeTellsSpec : ChangeSpec := { name := "sizeTells", fn := fun _ => fun
  | [d1, d2, d3, d4, d5, d6] => { results := [.lit (.bool true)], args := [d1, d2, d3, d4, d5, d6] }
  | _ => none }
def sizeTellsRow : OpenClaim := { program := "ytkfooghdpfhiaaa", sum := "fe30b1b184e2f578ee078608f237d0a53e8398f2376b0d6c0da62da18e92caab", func := "purfle/purflelaw20.SizeTells", spec := "sizeTells", unfollowed := true, recurses := true, apart := false }
def SizeTellsSaid : Prop := sizeTellsRow.holds Try.pinned (OpenSpec.ofChange sizeTellsSpec)

/-- ITS FALSE NEIGHBOUR: 'it returns false'. Refute it at one input. -/
def sizeTellsWrong : ChangeSpec := { name := "sizeTells", fn := fun _ => fun
  | [d1, d2, d3, d4, d5, d6] => { results := [.lit (.bool false)], args := [d1, d2, d3, d4, d5, d6] }
  | _ => none }
def SizeTellsWrongFalsely : Prop := sizeTellsRow.holds Try.pinned (OpenSpec.ofChange sizeTellsWrong)

/- THE SECOND FORM. 'bulk': how many values and letters a reading holds, each counted each time it is reached (what is shared counts as often as it is met; a slice's spare places count too). A statement '..UptoSaid' is the law's where the arguments, and the package variables that the reading takes, are together of bulk at most 1048576: NARROWER than '..Said'. Prove '..Said' where nothing that the law and all that it calls make is longer than what came in: it says more and counts as full. Else prove '..UptoSaid'. A law counts once. -/
mutual
def uptoBulk {H : Type} : DataW H → Nat
  | .lit (.string bytes) => bytes.length + 1
  | .lit _ => 1
  | .nil => 1
  | .ptr d => uptoBulk d + 1
  | .slice elems spare => uptoBulkAll elems + uptoBulkAll spare + 1
  | .agg parts => uptoBulkAll parts + 1
  | .iface _ d => uptoBulk d + 1
  | .map entries => uptoBulkEntries entries + 1
  | .held _ => 1
def uptoBulkAll {H : Type} : List (DataW H) → Nat
  | [] => 0
  | d :: r => uptoBulk d + uptoBulkAll r
def uptoBulkEntries {H : Type} : List (Lit × DataW H) → Nat
  | [] => 0
  | x :: r => uptoBulkEntry x + uptoBulkEntries r
def uptoBulkEntry {H : Type} : Lit × DataW H → Nat
  | (.string bytes, d) => bytes.length + uptoBulk d + 1
  | (_, d) => uptoBulk d + 1
 end
def uptoSmall : (H : Type) → List (DataW H) → Bool := fun _ ds => decide (uptoBulkAll ds ≤ 1048576)
def OpenSpec.upto (s : _root_.Go.ChangeSpec) : _root_.Go.OpenSpec := { _root_.Go.OpenSpec.ofChange s with cond := some uptoSmall }

/-- 'purflelaw20.SizeDense', WHERE WHAT IT READS IS OF BULK AT MOST 1048576: true; the input reads as it did. -/
def sizeDenseUptoRow : OpenClaim := { program := "ytkfooghdpfhiaaa", sum := "fe30b1b184e2f578ee078608f237d0a53e8398f2376b0d6c0da62da18e92caab", func := "purfle/purflelaw20.SizeDense", spec := "sizeDense", unfollowed := true, recurses := true, apart := false, narrowed := true }
def SizeDenseUptoSaid : Prop := sizeDenseUptoRow.holds Try.pinned (OpenSpec.upto sizeDenseSpec)

/-- 'purflelaw07.MergeWhole', WHERE WHAT IT READS IS OF BULK AT MOST 1048576: true; the input reads as it did. -/
def mergeWholeUptoRow : OpenClaim := { program := "ytkfooghdpfhiaaa", sum := "fe30b1b184e2f578ee078608f237d0a53e8398f2376b0d6c0da62da18e92caab", func := "purfle/purflelaw07.MergeWhole", spec := "mergeWhole", unfollowed := true, recurses := true, apart := false, narrowed := true }
def MergeWholeUptoSaid : Prop := mergeWholeUptoRow.holds Try.pinned (OpenSpec.upto mergeWholeSpec)

/-- 'purflelaw07.MergeOrder', WHERE WHAT IT READS IS OF BULK AT MOST 1048576: true; the input reads as it did. -/
def mergeOrderUptoRow : OpenClaim := { program := "ytkfooghdpfhiaaa", sum := "fe30b1b184e2f578ee078608f237d0a53e8398f2376b0d6c0da62da18e92caab", func := "purfle/purflelaw07.MergeOrder", spec := "mergeOrder", unfollowed := true, recurses := true, apart := false, narrowed := true }
def MergeOrderUptoSaid : Prop := mergeOrderUptoRow.holds Try.pinned (OpenSpec.upto mergeOrderSpec)

/-- 'purflelaw07.MergeLeast', WHERE WHAT IT READS IS OF BULK AT MOST 1048576: true; the input reads as it did. -/
def mergeLeastUptoRow : OpenClaim := { program := "ytkfooghdpfhiaaa", sum := "fe30b1b184e2f578ee078608f237d0a53e8398f2376b0d6c0da62da18e92caab", func := "purfle/purflelaw07.MergeLeast", spec := "mergeLeast", unfollowed := true, recurses := true, apart := false, narrowed := true }
def MergeLeastUptoSaid : Prop := mergeLeastUptoRow.holds Try.pinned (OpenSpec.upto mergeLeastSpec)

/-- 'purflelaw07.MergeLists', WHERE WHAT IT READS IS OF BULK AT MOST 1048576: true; the input reads as it did. -/
def mergeListsUptoRow : OpenClaim := { program := "ytkfooghdpfhiaaa", sum := "fe30b1b184e2f578ee078608f237d0a53e8398f2376b0d6c0da62da18e92caab", func := "purfle/purflelaw07.MergeLists", spec := "mergeLists", unfollowed := true, recurses := true, apart := false, narrowed := true }
def MergeListsUptoSaid : Prop := mergeListsUptoRow.holds Try.pinned (OpenSpec.upto mergeListsSpec)

/-- 'purflelaw07.MergeJoins', WHERE WHAT IT READS IS OF BULK AT MOST 1048576: true; the input reads as it did. -/
def mergeJoinsUptoRow : OpenClaim := { program := "ytkfooghdpfhiaaa", sum := "fe30b1b184e2f578ee078608f237d0a53e8398f2376b0d6c0da62da18e92caab", func := "purfle/purflelaw07.MergeJoins", spec := "mergeJoins", unfollowed := true, recurses := true, apart := false, narrowed := true }
def MergeJoinsUptoSaid : Prop := mergeJoinsUptoRow.holds Try.pinned (OpenSpec.upto mergeJoinsSpec)

/-- 'purflelaw07.MergeSets', WHERE WHAT IT READS IS OF BULK AT MOST 1048576: true; the input reads as it did. -/
def mergeSetsUptoRow : OpenClaim := { program := "ytkfooghdpfhiaaa", sum := "fe30b1b184e2f578ee078608f237d0a53e8398f2376b0d6c0da62da18e92caab", func := "purfle/purflelaw07.MergeSets", spec := "mergeSets", unfollowed := true, recurses := true, apart := false, narrowed := true }
def MergeSetsUptoSaid : Prop := mergeSetsUptoRow.holds Try.pinned (OpenSpec.upto mergeSetsSpec)

/-- 'purflelaw20.SizeTells', WHERE WHAT IT READS IS OF BULK AT MOST 1048576: true; the input reads as it did. -/
def sizeTellsUptoRow : OpenClaim := { program := "ytkfooghdpfhiaaa", sum := "fe30b1b184e2f578ee078608f237d0a53e8398f2376b0d6c0da62da18e92caab", func := "purfle/purflelaw20.SizeTells", spec := "sizeTells", unfollowed := true, recurses := true, apart := false, narrowed := true }
def SizeTellsUptoSaid : Prop := sizeTellsUptoRow.holds Try.pinned (OpenSpec.upto sizeTellsSpec)

end Rows
end Go.Proofs.Ytkfooghdpfhiaaa
