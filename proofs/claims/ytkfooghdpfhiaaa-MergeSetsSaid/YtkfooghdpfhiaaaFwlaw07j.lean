/- What a law's walk needs of the sets: unions of unions. -/
import Derived.Test.YtkfooghdpfhiaaaFwmrg4
namespace Go.Fw
open Go Go.RowKit Go.Proofs
set_option maxRecDepth 100000
set_option linter.unusedSimpArgs false
set_option linter.unusedVariables false

theorem uni_rise {l : List Int} (h : Rise l) : uni l = l := uni_eq h fun x => Iff.rfl
theorem uni_two (A B : List (List Int)) : uni [uni A.flatten, uni B.flatten].flatten = uni (A ++ B).flatten :=
  uni_congr fun x => by simp [mem_uni]
def interF (A : List (List Int)) : List Int := (uni A.flatten).filter fun n => A.all fun l => decide (n ∈ l)
theorem inter_rise (A : List (List Int)) : Rise (interF A) := (rise_uni _).filter _
theorem mem_inter {A : List (List Int)} (hA : A ≠ []) {x : Int} : x ∈ interF A ↔ ∀ l ∈ A, x ∈ l := by
  simp only [interF, List.mem_filter, mem_uni, List.mem_flatten, List.all_eq_true, decide_eq_true_eq]
  constructor
  · exact fun h => h.2
  · intro h
    obtain ⟨l, hl⟩ := List.exists_mem_of_ne_nil A hA
    exact ⟨⟨l, hl, h l hl⟩, h⟩
theorem inter_two {A B : List (List Int)} (hA : A ≠ []) (hB : B ≠ []) : interF [interF A, interF B] = interF (A ++ B) :=
  (inter_rise _).ext (inter_rise _) fun x => by
    rw [mem_inter (by simp), mem_inter (by simp [hA])]
    simp only [List.mem_cons, List.not_mem_nil, or_false, forall_eq_or_imp, forall_eq, mem_inter hA, mem_inter hB, List.mem_append]
    constructor
    · rintro ⟨h1, h2⟩ l (h | h)
      · exact h1 l h
      · exact h2 l h
    · exact fun h => ⟨fun l hl => h l (.inl hl), fun l hl => h l (.inr hl)⟩
theorem inter_same {l : List Int} (h : Rise l) : interF [l, l] = l := (inter_rise _).ext h fun x => by rw [mem_inter (by simp)]; simp
theorem uni_same {l : List Int} (h : Rise l) : uni [l, l].flatten = l := uni_eq h fun x => by simp
theorem bothF_eq (A : List (List Int)) : bothF A = if ∀ l ∈ A, Rise l then (interF A, 0) else ([], 1) := rfl
end Go.Fw
