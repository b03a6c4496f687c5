/-
  No cell of these rows narrows 'for every input' (looked for: loops, veiled, ifaces, maps, wideKeys, modest, calm, conditions, laid).
  DERIVED. THE GIVEN ROWS OF THIS SEAT. 8 by the template 'for every input the law returns true; each argument reads behind the call as it read before'; 0 by the template 'total and deterministic' (their statements: YtgdkdojjfijipaaTotals.lean).
  GIVEN WITH THE SEED: the statements are not yours to turn. If you find one false, say at which input.
  Laid BY PROGRAM, IN A SANDBOX (cutbox-rows.mjs): the forced cells as the released guide's own fill.sh prints them over the translation 88314772866344c0… (all of the seat's roots in one cut). By AI agents, Wed Nov 11 2026. No macro, syntax, notation, axiom, sorry.
-/
import Derived.Test.YtgdkdojjfijipaaChecked
import GoSem.Claim
import GoSem.ClaimJoined
import GoSem.ClaimMapViews
import Derived.JoinedTies
import Derived.KernelRfl
namespace Go.Proofs.Ytgdkdojjfijipaa
/- THE CELL 'sum', in the pinned program and in every row, IS THE sha256 OF THE DUMP (.gsa) THAT YtgdkdojjfijipaaProg.lean LOADS. Nothing in Lean hashes anything: it is a label: what it is worth is what the hold of that sum in a sandbox is worth. -/
noncomputable def Try.pinned : Pinned := { name := "ytgdkdojjfijipaa", sum := "88314772866344c0c36d3378eb90044acb3edbdcb3adfb2d3c121012064b93df", checked := Try.checked }
namespace Rows
def none {H : Type} : Left H := { results := [], args := [] }

/-- 'purflelaw02.CooCounts': WHATEVER THE INPUT: true; the input reads as it did. -/
def cooCountsSpec : ChangeSpec := { name := "cooCounts", fn := fun _ => fun
  | [d1, d2, d3] => { results := [.lit (.bool true)], args := [d1, d2, d3] }
  | _ => none }
def cooCountsRow : OpenClaim := { program := "ytgdkdojjfijipaa", sum := "88314772866344c0c36d3378eb90044acb3edbdcb3adfb2d3c121012064b93df", func := "purfle/purflelaw02.CooCounts", spec := "cooCounts", unfollowed := true, recurses := true, apart := false }
def CooCountsSaid : Prop := cooCountsRow.holds Try.pinned (OpenSpec.ofChange cooCountsSpec)

/-- ITS FALSE NEIGHBOUR: 'it returns false'. Refute it at one input. -/
def cooCountsWrong : ChangeSpec := { name := "cooCounts", fn := fun _ => fun
  | [d1, d2, d3] => { results := [.lit (.bool false)], args := [d1, d2, d3] }
  | _ => none }
def CooCountsWrongFalsely : Prop := cooCountsRow.holds Try.pinned (OpenSpec.ofChange cooCountsWrong)

/-- 'purflelaw02.CooRises': WHATEVER THE INPUT: true; the input reads as it did. -/
def cooRisesSpec : ChangeSpec := { name := "cooRises", fn := fun _ => fun
  | [d1, d2] => { results := [.lit (.bool true)], args := [d1, d2] }
  | _ => none }
def cooRisesRow : OpenClaim := { program := "ytgdkdojjfijipaa", sum := "88314772866344c0c36d3378eb90044acb3edbdcb3adfb2d3c121012064b93df", func := "purfle/purflelaw02.CooRises", spec := "cooRises", unfollowed := true, recurses := true, apart := false }
def CooRisesSaid : Prop := cooRisesRow.holds Try.pinned (OpenSpec.ofChange cooRisesSpec)

/-- ITS FALSE NEIGHBOUR: 'it returns false'. Refute it at one input. -/
def cooRisesWrong : ChangeSpec := { name := "cooRises", fn := fun _ => fun
  | [d1, d2] => { results := [.lit (.bool false)], args := [d1, d2] }
  | _ => none }
def CooRisesWrongFalsely : Prop := cooRisesRow.holds Try.pinned (OpenSpec.ofChange cooRisesWrong)

/-- 'purflelaw02.CooOrders': WHATEVER THE INPUT: true; the input reads as it did. -/
def cooOrdersSpec : ChangeSpec := { name := "cooOrders", fn := fun _ => fun
  | [d1, d2, d3] => { results := [.lit (.bool true)], args := [d1, d2, d3] }
  | _ => none }
def cooOrdersRow : OpenClaim := { program := "ytgdkdojjfijipaa", sum := "88314772866344c0c36d3378eb90044acb3edbdcb3adfb2d3c121012064b93df", func := "purfle/purflelaw02.CooOrders", spec := "cooOrders", unfollowed := true, recurses := true, apart := false }
def CooOrdersSaid : Prop := cooOrdersRow.holds Try.pinned (OpenSpec.ofChange cooOrdersSpec)

/-- ITS FALSE NEIGHBOUR: 'it returns false'. Refute it at one input. -/
def cooOrdersWrong : ChangeSpec := { name := "cooOrders", fn := fun _ => fun
  | [d1, d2, d3] => { results := [.lit (.bool false)], args := [d1, d2, d3] }
  | _ => none }
def CooOrdersWrongFalsely : Prop := cooOrdersRow.holds Try.pinned (OpenSpec.ofChange cooOrdersWrong)

/-- 'purflelaw02.CooSorts': WHATEVER THE INPUT: true; the input reads as it did. -/
def cooSortsSpec : ChangeSpec := { name := "cooSorts", fn := fun _ => fun
  | [d1, d2, d3] => { results := [.lit (.bool true)], args := [d1, d2, d3] }
  | _ => none }
def cooSortsRow : OpenClaim := { program := "ytgdkdojjfijipaa", sum := "88314772866344c0c36d3378eb90044acb3edbdcb3adfb2d3c121012064b93df", func := "purfle/purflelaw02.CooSorts", spec := "cooSorts", unfollowed := true, recurses := true, apart := false }
def CooSortsSaid : Prop := cooSortsRow.holds Try.pinned (OpenSpec.ofChange cooSortsSpec)

/-- ITS FALSE NEIGHBOUR: 'it returns false'. Refute it at one input. -/
def cooSortsWrong : ChangeSpec := { name := "cooSorts", fn := fun _ => fun
  | [d1, d2, d3] => { results := [.lit (.bool false)], args := [d1, d2, d3] }
  | _ => none }
def CooSortsWrongFalsely : Prop := cooSortsRow.holds Try.pinned (OpenSpec.ofChange cooSortsWrong)

/-- 'purflelaw02.CooBack': WHATEVER THE INPUT: true; the input reads as it did. -/
def cooBackSpec : ChangeSpec := { name := "cooBack", fn := fun _ => fun
  | [d1, d2] => { results := [.lit (.bool true)], args := [d1, d2] }
  | _ => none }
def cooBackRow : OpenClaim := { program := "ytgdkdojjfijipaa", sum := "88314772866344c0c36d3378eb90044acb3edbdcb3adfb2d3c121012064b93df", func := "purfle/purflelaw02.CooBack", spec := "cooBack", unfollowed := true, recurses := true, apart := false }
def CooBackSaid : Prop := cooBackRow.holds Try.pinned (OpenSpec.ofChange cooBackSpec)

/-- ITS FALSE NEIGHBOUR: 'it returns false'. Refute it at one input. -/
def cooBackWrong : ChangeSpec := { name := "cooBack", fn := fun _ => fun
  | [d1, d2] => { results := [.lit (.bool false)], args := [d1, d2] }
  | _ => none }
def CooBackWrongFalsely : Prop := cooBackRow.holds Try.pinned (OpenSpec.ofChange cooBackWrong)

/-- 'purflelaw02.CooBoth': WHATEVER THE INPUT: true; the input reads as it did. -/
def cooBothSpec : ChangeSpec := { name := "cooBoth", fn := fun _ => fun
  | [d1, d2] => { results := [.lit (.bool true)], args := [d1, d2] }
  | _ => none }
def cooBothRow : OpenClaim := { program := "ytgdkdojjfijipaa", sum := "88314772866344c0c36d3378eb90044acb3edbdcb3adfb2d3c121012064b93df", func := "purfle/purflelaw02.CooBoth", spec := "cooBoth", unfollowed := true, recurses := true, apart := false }
def CooBothSaid : Prop := cooBothRow.holds Try.pinned (OpenSpec.ofChange cooBothSpec)

/-- ITS FALSE NEIGHBOUR: 'it returns false'. Refute it at one input. -/
def cooBothWrong : ChangeSpec := { name := "cooBoth", fn := fun _ => fun
  | [d1, d2] => { results := [.lit (.bool false)], args := [d1, d2] }
  | _ => none }
def CooBothWrongFalsely : Prop := cooBothRow.holds Try.pinned (OpenSpec.ofChange cooBothWrong)

/-- 'purflelaw02.CooTurns': WHATEVER THE INPUT: true; the input reads as it did. -/
def cooTurnsSpec : ChangeSpec := { name := "cooTurns", fn := fun _ => fun
  | [d1, d2, d3, d4] => { results := [.lit (.bool true)], args := [d1, d2, d3, d4] }
  | _ => none }
def cooTurnsRow : OpenClaim := { program := "ytgdkdojjfijipaa", sum := "88314772866344c0c36d3378eb90044acb3edbdcb3adfb2d3c121012064b93df", func := "purfle/purflelaw02.CooTurns", spec := "cooTurns", unfollowed := true, recurses := true, apart := false }
def CooTurnsSaid : Prop := cooTurnsRow.holds Try.pinned (OpenSpec.ofChange cooTurnsSpec)

/-- ITS FALSE NEIGHBOUR: 'it returns false'. Refute it at one input. -/
def cooTurnsWrong : ChangeSpec := { name := "cooTurns", fn := fun _ => fun
  | [d1, d2, d3, d4] => { results := [.lit (.bool false)], args := [d1, d2, d3, d4] }
  | _ => none }
def CooTurnsWrongFalsely : Prop := cooTurnsRow.holds Try.pinned (OpenSpec.ofChange cooTurnsWrong)

/-- 'purflelaw02.CooKeeps': WHATEVER THE INPUT: true; the input reads as it did. -/
def cooKeepsSpec : ChangeSpec := { name := "cooKeeps", fn := fun _ => fun
  | [d1, d2] => { results := [.lit (.bool true)], args := [d1, d2] }
  | _ => none }
def cooKeepsRow : OpenClaim := { program := "ytgdkdojjfijipaa", sum := "88314772866344c0c36d3378eb90044acb3edbdcb3adfb2d3c121012064b93df", func := "purfle/purflelaw02.CooKeeps", spec := "cooKeeps", unfollowed := true, recurses := true, apart := false }
def CooKeepsSaid : Prop := cooKeepsRow.holds Try.pinned (OpenSpec.ofChange cooKeepsSpec)

/-- ITS FALSE NEIGHBOUR: 'it returns false'. Refute it at one input. -/
def cooKeepsWrong : ChangeSpec := { name := "cooKeeps", fn := fun _ => fun
  | [d1, d2] => { results := [.lit (.bool false)], args := [d1, d2] }
  | _ => none }
def CooKeepsWrongFalsely : Prop := cooKeepsRow.holds Try.pinned (OpenSpec.ofChange cooKeepsWrong)

/- THE SECOND FORM. 'bulk': how many values and letters a reading holds, each counted each time it is reached (what is shared counts as often as it is met; a slice's spare places count too). A statement '..UptoSaid' is the law's where the arguments, and the package variables that the reading takes, are together of bulk at most 1048576: NARROWER than '..Said'. Prove '..Said' where nothing that the law and all that it calls make is longer than what came in: it says more and counts as full. Else prove '..UptoSaid'. A law counts once. -/
mutual
def uptoBulk {H : Type} : DataW H → Nat
  | .lit (.string bytes) => bytes.length + 1
  | .lit _ => 1
  | .nil => 1
  | .ptr d => uptoBulk d + 1
  | .slice elems spare => uptoBulkAll elems + uptoBulkAll spare + 1
  | .agg parts => uptoBulkAll parts + 1
  | .iface _ d => uptoBulk d + 1
  | .map entries => uptoBulkEntries entries + 1
  | .held _ => 1
def uptoBulkAll {H : Type} : List (DataW H) → Nat
  | [] => 0
  | d :: r => uptoBulk d + uptoBulkAll r
def uptoBulkEntries {H : Type} : List (Lit × DataW H) → Nat
  | [] => 0
  | x :: r => uptoBulkEntry x + uptoBulkEntries r
def uptoBulkEntry {H : Type} : Lit × DataW H → Nat
  | (.string bytes, d) => bytes.length + uptoBulk d + 1
  | (_, d) => uptoBulk d + 1
 end
def uptoSmall : (H : Type) → List (DataW H) → Bool := fun _ ds => decide (uptoBulkAll ds ≤ 1048576)
def OpenSpec.upto (s : _root_.Go.ChangeSpec) : _root_.Go.OpenSpec := { _root_.Go.OpenSpec.ofChange s with cond := some uptoSmall }

/-- 'purflelaw02.CooCounts', WHERE WHAT IT READS IS OF BULK AT MOST 1048576: true; the input reads as it did. -/
def cooCountsUptoRow : OpenClaim := { program := "ytgdkdojjfijipaa", sum := "88314772866344c0c36d3378eb90044acb3edbdcb3adfb2d3c121012064b93df", func := "purfle/purflelaw02.CooCounts", spec := "cooCounts", unfollowed := true, recurses := true, apart := false, narrowed := true }
def CooCountsUptoSaid : Prop := cooCountsUptoRow.holds Try.pinned (OpenSpec.upto cooCountsSpec)

/-- 'purflelaw02.CooRises', WHERE WHAT IT READS IS OF BULK AT MOST 1048576: true; the input reads as it did. -/
def cooRisesUptoRow : OpenClaim := { program := "ytgdkdojjfijipaa", sum := "88314772866344c0c36d3378eb90044acb3edbdcb3adfb2d3c121012064b93df", func := "purfle/purflelaw02.CooRises", spec := "cooRises", unfollowed := true, recurses := true, apart := false, narrowed := true }
def CooRisesUptoSaid : Prop := cooRisesUptoRow.holds Try.pinned (OpenSpec.upto cooRisesSpec)

/-- 'purflelaw02.CooOrders', WHERE WHAT IT READS IS OF BULK AT MOST 1048576: true; the input reads as it did. -/
def cooOrdersUptoRow : OpenClaim := { program := "ytgdkdojjfijipaa", sum := "88314772866344c0c36d3378eb90044acb3edbdcb3adfb2d3c121012064b93df", func := "purfle/purflelaw02.CooOrders", spec := "cooOrders", unfollowed := true, recurses := true, apart := false, narrowed := true }
def CooOrdersUptoSaid : Prop := cooOrdersUptoRow.holds Try.pinned (OpenSpec.upto cooOrdersSpec)

/-- 'purflelaw02.CooSorts', WHERE WHAT IT READS IS OF BULK AT MOST 1048576: true; the input reads as it did. -/
def cooSortsUptoRow : OpenClaim := { program := "ytgdkdojjfijipaa", sum := "88314772866344c0c36d3378eb90044acb3edbdcb3adfb2d3c121012064b93df", func := "purfle/purflelaw02.CooSorts", spec := "cooSorts", unfollowed := true, recurses := true, apart := false, narrowed := true }
def CooSortsUptoSaid : Prop := cooSortsUptoRow.holds Try.pinned (OpenSpec.upto cooSortsSpec)

/-- 'purflelaw02.CooBack', WHERE WHAT IT READS IS OF BULK AT MOST 1048576: true; the input reads as it did. -/
def cooBackUptoRow : OpenClaim := { program := "ytgdkdojjfijipaa", sum := "88314772866344c0c36d3378eb90044acb3edbdcb3adfb2d3c121012064b93df", func := "purfle/purflelaw02.CooBack", spec := "cooBack", unfollowed := true, recurses := true, apart := false, narrowed := true }
def CooBackUptoSaid : Prop := cooBackUptoRow.holds Try.pinned (OpenSpec.upto cooBackSpec)

/-- 'purflelaw02.CooBoth', WHERE WHAT IT READS IS OF BULK AT MOST 1048576: true; the input reads as it did. -/
def cooBothUptoRow : OpenClaim := { program := "ytgdkdojjfijipaa", sum := "88314772866344c0c36d3378eb90044acb3edbdcb3adfb2d3c121012064b93df", func := "purfle/purflelaw02.CooBoth", spec := "cooBoth", unfollowed := true, recurses := true, apart := false, narrowed := true }
def CooBothUptoSaid : Prop := cooBothUptoRow.holds Try.pinned (OpenSpec.upto cooBothSpec)

/-- 'purflelaw02.CooTurns', WHERE WHAT IT READS IS OF BULK AT MOST 1048576: true; the input reads as it did. -/
def cooTurnsUptoRow : OpenClaim := { program := "ytgdkdojjfijipaa", sum := "88314772866344c0c36d3378eb90044acb3edbdcb3adfb2d3c121012064b93df", func := "purfle/purflelaw02.CooTurns", spec := "cooTurns", unfollowed := true, recurses := true, apart := false, narrowed := true }
def CooTurnsUptoSaid : Prop := cooTurnsUptoRow.holds Try.pinned (OpenSpec.upto cooTurnsSpec)

/-- 'purflelaw02.CooKeeps', WHERE WHAT IT READS IS OF BULK AT MOST 1048576: true; the input reads as it did. -/
def cooKeepsUptoRow : OpenClaim := { program := "ytgdkdojjfijipaa", sum := "88314772866344c0c36d3378eb90044acb3edbdcb3adfb2d3c121012064b93df", func := "purfle/purflelaw02.CooKeeps", spec := "cooKeeps", unfollowed := true, recurses := true, apart := false, narrowed := true }
def CooKeepsUptoSaid : Prop := cooKeepsUptoRow.holds Try.pinned (OpenSpec.upto cooKeepsSpec)

end Rows
end Go.Proofs.Ytgdkdojjfijipaa
