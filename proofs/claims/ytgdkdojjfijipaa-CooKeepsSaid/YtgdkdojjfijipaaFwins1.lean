import Derived.Test.YtgdkdojjfijipaaFwbox2
namespace Go.Fw
open Go Go.RowKit Go.Proofs
set_option maxRecDepth 100000
set_option linter.unusedSimpArgs false
set_option linter.unusedVariables false

/-- Places of the shape, and a number's. -/
def InS (S : List Int) (c : List Int) : Prop := c.length = S.length ∧ ∀ i < S.length, 0 ≤ c.getD i 0 ∧ c.getD i 0 < S.getD i 0
theorem atGo_ins : ∀ (xs cs : List Int) (n : Int), cs.length = xs.length → (atGo xs cs n).2 = 0 → ∀ i < xs.length, 0 ≤ cs.getD i 0 ∧ cs.getD i 0 < xs.getD i 0
  | [], cs, n, _, _, i, hi => by simp at hi
  | s :: r, [], n, h, _, _, _ => by simp at h
  | s :: r, c :: q, n, h, ha, i, hi => by
    simp only [atGo] at ha
    split at ha
    · simp at ha
    · rename_i hb
      cases i with
      | zero => simp only [List.getD_cons_zero]; omega
      | succ i => simpa using atGo_ins r q _ (by simpa using h) ha i (by simpa using hi)
theorem atF_ins {S c : List Int} (h : (atF S c).2 = 0) : InS S c := by
  unfold atF at h
  split at h
  · rename_i h1
    exact absurd h h1
  split at h
  · simp at h
  rename_i h2
  have hl : c.length = S.length := by
    by_cases e : c.length = S.length
    · exact e
    · exact absurd e h2
  exact ⟨hl, atGo_ins S c 0 hl h⟩

end Go.Fw
