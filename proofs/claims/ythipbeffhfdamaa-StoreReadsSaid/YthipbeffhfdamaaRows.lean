/-
  No cell of these rows narrows 'for every input' (looked for: loops, veiled, ifaces, maps, wideKeys, modest, calm, conditions, laid).
  DERIVED. THE GIVEN ROWS OF THIS SEAT. 6 by the template 'for every input the law returns true; each argument reads behind the call as it read before'; 0 by the template 'total and deterministic' (their statements: YthipbeffhfdamaaTotals.lean).
  GIVEN WITH THE SEED: the statements are not yours to turn. If you find one false, say at which input.
  Laid BY PROGRAM, IN A SANDBOX (cutbox-rows.mjs): the forced cells as the released guide's own fill.sh prints them over the translation 3041fc656453ab1d… (all of the seat's roots in one cut). By AI agents, Wed Nov 11 2026. No macro, syntax, notation, axiom, sorry.
-/
import Derived.Test.YthipbeffhfdamaaChecked
import GoSem.Claim
import GoSem.ClaimJoined
import GoSem.ClaimMapViews
import Derived.JoinedTies
import Derived.KernelRfl
namespace Go.Proofs.Ythipbeffhfdamaa
/- THE CELL 'sum', in the pinned program and in every row, IS THE sha256 OF THE DUMP (.gsa) THAT YthipbeffhfdamaaProg.lean LOADS. Nothing in Lean hashes anything: it is a label: what it is worth is what the hold of that sum in a sandbox is worth. -/
noncomputable def Try.pinned : Pinned := { name := "ythipbeffhfdamaa", sum := "3041fc656453ab1d51e8e682741c3e7e1d85122b5603f927075371749fc2e9ba", checked := Try.checked }
namespace Rows
def none {H : Type} : Left H := { results := [], args := [] }

/-- 'purflelaw05.StoreBends': WHATEVER THE INPUT: true; the input reads as it did. -/
def storeBendsSpec : ChangeSpec := { name := "storeBends", fn := fun _ => fun
  | [d1, d2, d3] => { results := [.lit (.bool true)], args := [d1, d2, d3] }
  | _ => none }
def storeBendsRow : OpenClaim := { program := "ythipbeffhfdamaa", sum := "3041fc656453ab1d51e8e682741c3e7e1d85122b5603f927075371749fc2e9ba", func := "purfle/purflelaw05.StoreBends", spec := "storeBends", unfollowed := true, recurses := true, apart := false }
def StoreBendsSaid : Prop := storeBendsRow.holds Try.pinned (OpenSpec.ofChange storeBendsSpec)

/-- ITS FALSE NEIGHBOUR: 'it returns false'. Refute it at one input. -/
def storeBendsWrong : ChangeSpec := { name := "storeBends", fn := fun _ => fun
  | [d1, d2, d3] => { results := [.lit (.bool false)], args := [d1, d2, d3] }
  | _ => none }
def StoreBendsWrongFalsely : Prop := storeBendsRow.holds Try.pinned (OpenSpec.ofChange storeBendsWrong)

/-- 'purflelaw05.StoreForms': WHATEVER THE INPUT: true; the input reads as it did. -/
def storeFormsSpec : ChangeSpec := { name := "storeForms", fn := fun _ => fun
  | [d1, d2] => { results := [.lit (.bool true)], args := [d1, d2] }
  | _ => none }
def storeFormsRow : OpenClaim := { program := "ythipbeffhfdamaa", sum := "3041fc656453ab1d51e8e682741c3e7e1d85122b5603f927075371749fc2e9ba", func := "purfle/purflelaw05.StoreForms", spec := "storeForms", unfollowed := true, recurses := true, apart := false }
def StoreFormsSaid : Prop := storeFormsRow.holds Try.pinned (OpenSpec.ofChange storeFormsSpec)

/-- ITS FALSE NEIGHBOUR: 'it returns false'. Refute it at one input. -/
def storeFormsWrong : ChangeSpec := { name := "storeForms", fn := fun _ => fun
  | [d1, d2] => { results := [.lit (.bool false)], args := [d1, d2] }
  | _ => none }
def StoreFormsWrongFalsely : Prop := storeFormsRow.holds Try.pinned (OpenSpec.ofChange storeFormsWrong)

/-- 'purflelaw05.StoreCounts': WHATEVER THE INPUT: true; the input reads as it did. -/
def storeCountsSpec : ChangeSpec := { name := "storeCounts", fn := fun _ => fun
  | [d] => { results := [.lit (.bool true)], args := [d] }
  | _ => none }
def storeCountsRow : OpenClaim := { program := "ythipbeffhfdamaa", sum := "3041fc656453ab1d51e8e682741c3e7e1d85122b5603f927075371749fc2e9ba", func := "purfle/purflelaw05.StoreCounts", spec := "storeCounts", unfollowed := true, recurses := true, apart := false }
def StoreCountsSaid : Prop := storeCountsRow.holds Try.pinned (OpenSpec.ofChange storeCountsSpec)

/-- ITS FALSE NEIGHBOUR: 'it returns false'. Refute it at one input. -/
def storeCountsWrong : ChangeSpec := { name := "storeCounts", fn := fun _ => fun
  | [d] => { results := [.lit (.bool false)], args := [d] }
  | _ => none }
def StoreCountsWrongFalsely : Prop := storeCountsRow.holds Try.pinned (OpenSpec.ofChange storeCountsWrong)

/-- 'purflelaw05.StoreOnce': WHATEVER THE INPUT: true; the input reads as it did. -/
def storeOnceSpec : ChangeSpec := { name := "storeOnce", fn := fun _ => fun
  | [d] => { results := [.lit (.bool true)], args := [d] }
  | _ => none }
def storeOnceRow : OpenClaim := { program := "ythipbeffhfdamaa", sum := "3041fc656453ab1d51e8e682741c3e7e1d85122b5603f927075371749fc2e9ba", func := "purfle/purflelaw05.StoreOnce", spec := "storeOnce", unfollowed := true, recurses := true, apart := false }
def StoreOnceSaid : Prop := storeOnceRow.holds Try.pinned (OpenSpec.ofChange storeOnceSpec)

/-- ITS FALSE NEIGHBOUR: 'it returns false'. Refute it at one input. -/
def storeOnceWrong : ChangeSpec := { name := "storeOnce", fn := fun _ => fun
  | [d] => { results := [.lit (.bool false)], args := [d] }
  | _ => none }
def StoreOnceWrongFalsely : Prop := storeOnceRow.holds Try.pinned (OpenSpec.ofChange storeOnceWrong)

/-- 'purflelaw05.StoreDense': WHATEVER THE INPUT: true; the input reads as it did. -/
def storeDenseSpec : ChangeSpec := { name := "storeDense", fn := fun _ => fun
  | [d1, d2] => { results := [.lit (.bool true)], args := [d1, d2] }
  | _ => none }
def storeDenseRow : OpenClaim := { program := "ythipbeffhfdamaa", sum := "3041fc656453ab1d51e8e682741c3e7e1d85122b5603f927075371749fc2e9ba", func := "purfle/purflelaw05.StoreDense", spec := "storeDense", unfollowed := true, recurses := true, apart := false }
def StoreDenseSaid : Prop := storeDenseRow.holds Try.pinned (OpenSpec.ofChange storeDenseSpec)

/-- ITS FALSE NEIGHBOUR: 'it returns false'. Refute it at one input. -/
def storeDenseWrong : ChangeSpec := { name := "storeDense", fn := fun _ => fun
  | [d1, d2] => { results := [.lit (.bool false)], args := [d1, d2] }
  | _ => none }
def StoreDenseWrongFalsely : Prop := storeDenseRow.holds Try.pinned (OpenSpec.ofChange storeDenseWrong)

/-- 'purflelaw05.StoreReads': WHATEVER THE INPUT: true; the input reads as it did. -/
def storeReadsSpec : ChangeSpec := { name := "storeReads", fn := fun _ => fun
  | [d1, d2, d3] => { results := [.lit (.bool true)], args := [d1, d2, d3] }
  | _ => none }
def storeReadsRow : OpenClaim := { program := "ythipbeffhfdamaa", sum := "3041fc656453ab1d51e8e682741c3e7e1d85122b5603f927075371749fc2e9ba", func := "purfle/purflelaw05.StoreReads", spec := "storeReads", unfollowed := true, recurses := true, apart := false }
def StoreReadsSaid : Prop := storeReadsRow.holds Try.pinned (OpenSpec.ofChange storeReadsSpec)

/-- ITS FALSE NEIGHBOUR: 'it returns false'. Refute it at one input. -/
def storeReadsWrong : ChangeSpec := { name := "storeReads", fn := fun _ => fun
  | [d1, d2, d3] => { results := [.lit (.bool false)], args := [d1, d2, d3] }
  | _ => none }
def StoreReadsWrongFalsely : Prop := storeReadsRow.holds Try.pinned (OpenSpec.ofChange storeReadsWrong)

/- THE SECOND FORM. 'bulk': how many values and letters a reading holds, each counted each time it is reached (what is shared counts as often as it is met; a slice's spare places count too). A statement '..UptoSaid' is the law's where the arguments, and the package variables that the reading takes, are together of bulk at most 1048576: NARROWER than '..Said'. Prove '..Said' where nothing that the law and all that it calls make is longer than what came in: it says more and counts as full. Else prove '..UptoSaid'. A law counts once. -/
mutual
def uptoBulk {H : Type} : DataW H → Nat
  | .lit (.string bytes) => bytes.length + 1
  | .lit _ => 1
  | .nil => 1
  | .ptr d => uptoBulk d + 1
  | .slice elems spare => uptoBulkAll elems + uptoBulkAll spare + 1
  | .agg parts => uptoBulkAll parts + 1
  | .iface _ d => uptoBulk d + 1
  | .map entries => uptoBulkEntries entries + 1
  | .held _ => 1
def uptoBulkAll {H : Type} : List (DataW H) → Nat
  | [] => 0
  | d :: r => uptoBulk d + uptoBulkAll r
def uptoBulkEntries {H : Type} : List (Lit × DataW H) → Nat
  | [] => 0
  | x :: r => uptoBulkEntry x + uptoBulkEntries r
def uptoBulkEntry {H : Type} : Lit × DataW H → Nat
  | (.string bytes, d) => bytes.length + uptoBulk d + 1
  | (_, d) => uptoBulk d + 1
 end
def uptoSmall : (H : Type) → List (DataW H) → Bool := fun _ ds => decide (uptoBulkAll ds ≤ 1048576)
def OpenSpec.upto (s : _root_.Go.ChangeSpec) : _root_.Go.OpenSpec := { _root_.Go.OpenSpec.ofChange s with cond := some uptoSmall }

/-- 'purflelaw05.StoreBends', WHERE WHAT IT READS IS OF BULK AT MOST 1048576: true; the input reads as it did. -/
def storeBendsUptoRow : OpenClaim := { program := "ythipbeffhfdamaa", sum := "3041fc656453ab1d51e8e682741c3e7e1d85122b5603f927075371749fc2e9ba", func := "purfle/purflelaw05.StoreBends", spec := "storeBends", unfollowed := true, recurses := true, apart := false, narrowed := true }
def StoreBendsUptoSaid : Prop := storeBendsUptoRow.holds Try.pinned (OpenSpec.upto storeBendsSpec)

/-- 'purflelaw05.StoreForms', WHERE WHAT IT READS IS OF BULK AT MOST 1048576: true; the input reads as it did. -/
def storeFormsUptoRow : OpenClaim := { program := "ythipbeffhfdamaa", sum := "3041fc656453ab1d51e8e682741c3e7e1d85122b5603f927075371749fc2e9ba", func := "purfle/purflelaw05.StoreForms", spec := "storeForms", unfollowed := true, recurses := true, apart := false, narrowed := true }
def StoreFormsUptoSaid : Prop := storeFormsUptoRow.holds Try.pinned (OpenSpec.upto storeFormsSpec)

/-- 'purflelaw05.StoreCounts', WHERE WHAT IT READS IS OF BULK AT MOST 1048576: true; the input reads as it did. -/
def storeCountsUptoRow : OpenClaim := { program := "ythipbeffhfdamaa", sum := "3041fc656453ab1d51e8e682741c3e7e1d85122b5603f927075371749fc2e9ba", func := "purfle/purflelaw05.StoreCounts", spec := "storeCounts", unfollowed := true, recurses := true, apart := false, narrowed := true }
def StoreCountsUptoSaid : Prop := storeCountsUptoRow.holds Try.pinned (OpenSpec.upto storeCountsSpec)

/-- 'purflelaw05.StoreOnce', WHERE WHAT IT READS IS OF BULK AT MOST 1048576: true; the input reads as it did. -/
def storeOnceUptoRow : OpenClaim := { program := "ythipbeffhfdamaa", sum := "3041fc656453ab1d51e8e682741c3e7e1d85122b5603f927075371749fc2e9ba", func := "purfle/purflelaw05.StoreOnce", spec := "storeOnce", unfollowed := true, recurses := true, apart := false, narrowed := true }
def StoreOnceUptoSaid : Prop := storeOnceUptoRow.holds Try.pinned (OpenSpec.upto storeOnceSpec)

/-- 'purflelaw05.StoreDense', WHERE WHAT IT READS IS OF BULK AT MOST 1048576: true; the input reads as it did. -/
def storeDenseUptoRow : OpenClaim := { program := "ythipbeffhfdamaa", sum := "3041fc656453ab1d51e8e682741c3e7e1d85122b5603f927075371749fc2e9ba", func := "purfle/purflelaw05.StoreDense", spec := "storeDense", unfollowed := true, recurses := true, apart := false, narrowed := true }
def StoreDenseUptoSaid : Prop := storeDenseUptoRow.holds Try.pinned (OpenSpec.upto storeDenseSpec)

/-- 'purflelaw05.StoreReads', WHERE WHAT IT READS IS OF BULK AT MOST 1048576: true; the input reads as it did. -/
def storeReadsUptoRow : OpenClaim := { program := "ythipbeffhfdamaa", sum := "3041fc656453ab1d51e8e682741c3e7e1d85122b5603f927075371749fc2e9ba", func := "purfle/purflelaw05.StoreReads", spec := "storeReads", unfollowed := true, recurses := true, apart := false, narrowed := true }
def StoreReadsUptoSaid : Prop := storeReadsUptoRow.holds Try.pinned (OpenSpec.upto storeReadsSpec)

end Rows
end Go.Proofs.Ythipbeffhfdamaa
