import Derived.Test.YthipbeffhfdamaaFwstore13
import Derived.Test.YthipbeffhfdamaaFwonce2
namespace Go.Fw
open Go Go.RowKit Go.Proofs
set_option maxRecDepth 100000
set_option linter.unusedSimpArgs false
set_option linter.unusedVariables false

/-- **Entries**: each number's, in order, each at a place of its own, at which it is got. -/
theorem once_law {S : List Int} {F : List (Int × Int × Int)} {xs : List LvA} {Vs : List Int} (hS : ∀ x ∈ S, -9223372036854775808 ≤ x ∧ x ≤ 9223372036854775807) (h : tnCheck S F xs Vs = 0) {E : List (List Int × Int)} (hE : E = entF F xs S Vs) :
    E.length = Vs.length ∧ ∀ i (hi : i < E.length), E[i].2 = Vs.getD i 0 ∧ InS S E[i].1 ∧ (atF S E[i].1).2 = 0 ∧ getF S F xs Vs E[i].1 = ((Vs.getD i 0, true), 0) ∧ ∀ j (hj : j < i), E[j].1 ≠ E[i].1 := by
  have hc : (cells S).2 = 0 := by
    have h1 := (tnCheck_ok h).1
    by_cases hc : (cells S).2 = 0
    · exact hc
    · unfold sizesF at h1; rw [if_pos hc] at h1; exact absurd h1 hc
  obtain ⟨hS0, M, hM, hmet, hway⟩ := tn_way hS h
  obtain ⟨w1, w2, w3⟩ := tn_walk hS h
  rw [entF] at hE
  obtain ⟨W, hW⟩ : ∃ W, W = walkL xs F (List.replicate S.length 0) 0 := ⟨_, rfl⟩
  have hgo := fun c (hcl : c.length = S.length) => getGo_eq (Vs := Vs) (c := c) hS0 hmet hcl (0, false) hway (fun m _ hm => by rw [rep_getD] at hm; cases hm)
  rw [← hW] at hE w1 w2 w3 hgo
  have hWl : W.length = Vs.length := by
    have := congrArg List.length w1
    simpa using this
  have hEl : E.length = W.length := by rw [hE]; simp
  refine ⟨by omega, fun i hi => ?_⟩
  have hiW : i < W.length := by omega
  have hEi : E[i] = (W[i].1, Vs.getD W[i].2 0) := by simp only [hE, List.getElem_map]
  have hW2 : W[i].2 = i := by
    have := List.getElem_of_eq w1 (i := i) (by simpa using hiW)
    simpa using this
  obtain ⟨hin, -⟩ := w3 _ (List.getElem_mem hiW)
  have hat := at_in hc hin
  rw [hEi, hW2]
  refine ⟨rfl, hin, hat.1, ?_, fun j hj => ?_⟩
  · simp only
    have h1 := hgo W[i].1 hin.1
    rw [filter_one w2 (List.getElem_mem hiW)] at h1
    simp only [List.foldl_cons, List.foldl_nil, hW2] at h1
    rw [getF, if_neg (by omega), if_neg (by omega), hM]
    simp only [Option.getD_some]
    rw [h1]
  · have hEj : E[j] = (W[j].1, Vs.getD W[j].2 0) := by simp only [hE, List.getElem_map]
    rw [hEj]
    exact List.pairwise_iff_getElem.1 w2 j i (by omega) hiW hj
end Go.Fw
