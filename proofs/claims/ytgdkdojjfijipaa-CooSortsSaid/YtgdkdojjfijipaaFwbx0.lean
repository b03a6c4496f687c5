import Derived.Test.YtgdkdojjfijipaaFwbox2
import Derived.Test.YtgdkdojjfijipaaFwX
namespace Go.Fw
open Go Go.RowKit Go.Proofs
set_option maxRecDepth 100000
set_option linter.unusedSimpArgs false
set_option linter.unusedVariables false

def inGo : List Int → List Int → Bool
  | s :: r, c :: q => !(decide (c < 0) || decide (s ≤ c)) && inGo r q
  | _, _ => true
def numGo : List Int → List Int → Int → Int
  | s :: r, c :: q, n => numGo r q (IntKind.i64.wrap (IntKind.i64.wrap (n * s) + c))
  | _, _, n => n
theorem atGo_in : ∀ (xs cs : List Int) (n : Int), atGo xs cs n = if inGo xs cs = true then (numGo xs cs n, 0) else (0, 3)
  | [], cs, n => by simp [atGo, inGo, numGo]
  | s :: r, [], n => by simp [atGo, inGo, numGo]
  | s :: r, c :: q, n => by
    by_cases h : c < 0 ∨ s ≤ c
    · have e : inGo (s :: r) (c :: q) = false := by
        rcases h with h | h <;> simp [inGo, h]
      rw [e]
      simp [atGo, h]
    · have h1 : ¬ c < 0 := by omega
      have h2 : ¬ s ≤ c := by omega
      simp [atGo, inGo, numGo, h1, h2, atGo_in r q]
end Go.Fw
namespace Go.Fw
open Go Go.RowKit

/-- What comes back leads nowhere: what the call made is let go. -/
theorem ACalls.res {P : Program} {f : FuncId} {args : List AV} {v : AV} (n : Nat) (h : ACalls P f args [] fun r _ => r = v) (hv : ∀ G, frz G 0 n false v = v) : ACalls P f args [] fun r H' => H' = [] ∧ r = v := by
  refine (h.frozen n).mono ?_
  rintro q H' ⟨rfl, r, G, rfl, rfl⟩
  exact ⟨rfl, hv G⟩
end Go.Fw
