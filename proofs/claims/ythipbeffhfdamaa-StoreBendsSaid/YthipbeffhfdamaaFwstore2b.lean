import Derived.Test.YthipbeffhfdamaaFwstore2
namespace Go.Fw
open Go Go.RowKit Go.Proofs
set_option maxRecDepth 100000
set_option linter.unusedSimpArgs false
set_option linter.unusedVariables false

theorem sizesF_ok {xs : List Int} {fs : List (Int × Int × Int)} (h : (sizesF xs fs).2 = 0) (hz : ∀ s ∈ fs, s.2.2 ≤ 9223372036854775807) :
    (cells xs).2 = 0 ∧ (sizesF xs fs).1.length = fs.length ∧ (∀ v ∈ (sizesF xs fs).1, 0 ≤ v ∧ v ≤ 2147483648) ∧ ∀ s ∈ fs, (s.1 = 0 ∨ s.1 = 1 ∨ s.1 = 2 ∨ s.1 = 3 ∨ s.1 = 4) := by
  by_cases hc : (cells xs).2 = 0
  case neg =>
    simp only [sizesF, ne_eq, hc, not_false_eq_true, if_true] at h
  obtain ⟨hxn, hx4⟩ := cells_nonneg' hc
  cases hr : readF xs fs with
  | none => simp [sizesF, hc, hr] at h
  | some M =>
    obtain ⟨hm, hb⟩ := readF_ok hr
    have hb := hb hz
    by_cases ha : (fs.map (lvlOf xs M)).any (fun v => decide (2147483648 < v)) = true
    · have : sizesF xs fs = ([], 2) := by simp only [sizesF, hc, ne_eq, not_true_eq_false, if_false, hr]; rw [if_pos ha]
      rw [this] at h; simp at h
    · have e : sizesF xs fs = (fs.map (lvlOf xs M), 0) := by simp only [sizesF, hc, ne_eq, not_true_eq_false, if_false, hr]; rw [if_neg ha]
      rw [e]
      refine ⟨hc, by simp, fun v hv => ?_, fun s hs => (hm s hs).2⟩
      have ha' : (fs.map (lvlOf xs M)).any (fun v => decide (2147483648 < v)) = false := by simpa only [Bool.not_eq_true] using ha
      have h1 := (List.any_eq_false.1 ha') v hv
      refine ⟨?_, by simpa using h1⟩
      obtain ⟨s, hs, rfl⟩ := List.mem_map.1 hv
      have hg : 0 ≤ (M.getD s.2.1.toNat (false, 0)).2 := by
        rw [List.getD]
        cases hg : M[s.2.1.toNat]? with
        | none => simp
        | some p => exact (hb p (List.mem_of_getElem? hg)).1
      have hx : 0 ≤ xs.getD s.2.1.toNat 0 := by
        rw [List.getD]
        cases hg : xs[s.2.1.toNat]? with
        | none => simp
        | some p => exact hxn p (List.mem_of_getElem? hg)
      unfold lvlOf
      split
      · exact hg
      · split
        · exact Int.tdiv_nonneg hx hg
        · exact hx

end Go.Fw
