import Derived.Test.YtgdkdojjfijipaaFwlaw02a
import Derived.Test.YtgdkdojjfijipaaFwref02a
namespace Go.Fw
open Go Go.RowKit Go.Proofs
set_option maxRecDepth 100000
set_option linter.unusedSimpArgs false
set_option linter.unusedVariables false

theorem perm_of_sub : ∀ {P O : List Int}, P.Nodup → (∀ x ∈ P, x ∈ O) → P.length = O.length → O.Perm P
  | [], O, _, _, h => by
    have : O = [] := List.length_eq_zero_iff.1 (by simpa using h.symm)
    subst this; exact List.Perm.refl _
  | p :: P, O, hn, hs, hl => by
    have hp : p ∈ O := hs p (by simp)
    have hn' := List.nodup_cons.1 hn
    have h1 := List.perm_cons_erase hp
    refine h1.trans (List.Perm.cons p (perm_of_sub hn'.2 (fun x hx => ?_) ?_))
    · exact (List.mem_erase_of_ne (fun e => hn'.1 (by rw [← e]; exact hx))).2 (hs x (by simp [hx]))
    · rw [List.length_erase_of_mem hp]; simp at hl; omega
theorem plainL_nodup (n : Nat) : (plainL n).Nodup := by
  rw [List.nodup_iff_pairwise_ne, plainL, List.pairwise_map]
  exact List.nodup_range.imp fun h e => h (by omega)
theorem many_mem {O : List Int} {i : Int} (h : many O i ≠ 0) : i ∈ O := by
  simp only [many] at h
  have : O.filter (fun m => decide (m = i)) ≠ [] := fun e => h (by rw [e]; rfl)
  obtain ⟨x, hx⟩ := List.exists_mem_of_ne_nil _ this
  have := List.mem_filter.1 hx
  simp at this
  rw [← this.2]; exact this.1
theorem many_plain {n i : Nat} (h : i < n) : many (plainL n) (i : Int) = 1 := by
  have hn := plainL_nodup n
  have hm : (i : Int) ∈ plainL n := List.mem_map.2 ⟨i, List.mem_range.2 h, rfl⟩
  obtain ⟨a, b, hab⟩ := List.append_of_mem hm
  rw [hab] at hn ⊢
  have hn' := List.nodup_append.1 hn
  have h1 := List.nodup_cons.1 hn'.2.1
  simp only [many, List.filter_append, List.filter_cons, decide_true, if_true]
  have e1 : a.filter (fun m => decide (m = (i : Int))) = [] := List.filter_eq_nil_iff.2 fun x hx => by
    have := hn'.2.2 x hx (i : Int) (by simp)
    simpa using this
  have e2 : b.filter (fun m => decide (m = (i : Int))) = [] := List.filter_eq_nil_iff.2 fun x hx => by
    have : x ≠ (i : Int) := fun e => h1.1 (by rw [← e]; exact hx)
    simpa using this
  rw [e1, e2]; rfl
theorem many_perm {O P : List Int} (h : O.Perm P) (i : Int) : many O i = many P i := (h.filter _).length_eq
theorem sortI_plain {O : List Int} {n : Nat} : sortI O = plainL n ↔ O.length = n ∧ (List.range n).all (fun i => decide (many O (i : Int) = 1)) = true := by
  constructor
  · intro h
    have hp : O.Perm (plainL n) := by rw [← h]; exact (List.mergeSort_perm O _).symm
    refine ⟨by simpa using hp.length_eq, List.all_eq_true.2 fun i hi => ?_⟩
    rw [many_perm hp, many_plain (List.mem_range.1 hi)]; rfl
  · rintro ⟨h1, h2⟩
    have hp : O.Perm (plainL n) := perm_of_sub (plainL_nodup n) (fun x hx => by
      obtain ⟨i, hi, rfl⟩ := List.mem_map.1 hx
      have := List.all_eq_true.1 h2 i hi
      exact many_mem (by rw [of_decide_eq_true this]; omega)) (by simp [h1])
    have s1 : (sortI O).Pairwise (fun a b => decide (a ≤ b) = true) := List.pairwise_mergeSort (fun a b c h1 h2 => by simp at *; omega) (fun a b => by simp; omega) O
    have s2 : (plainL n).Pairwise (fun a b => decide (a ≤ b) = true) := by
      rw [plainL, List.pairwise_map]
      exact (List.pairwise_lt_range).imp fun h => by simp; omega
    exact List.Perm.eq_of_pairwise (fun a b _ _ h1 h2 => by simp at h1 h2; omega) s1 s2 ((List.mergeSort_perm O _).trans hp)
/-- Both read an order alike. -/
theorem rOrd_eq {X : List Int × List (List Int × Int)} {O : List Int} (h : cooCheck X.1 X.2 = 0) : (rOrd X.1.length O).2 = decide ((orderF X O).2 = 0) ∧ ((orderF X O).2 = 0 → (rOrd X.1.length O).1 = (orderF X O).1) ∧ ((orderF X O).2 ≠ 0 → (orderF X O).2 = 1 ∧ (orderF X O).1 = [] ∧ (rOrd X.1.length O).1 = []) := by
  have hc : ¬ cooCheck X.1 X.2 ≠ 0 := by simpa using h
  simp only [rOrd, orderF, if_neg hc]
  by_cases h0 : O = []
  · simp [h0]
  simp only [if_neg h0]
  by_cases hs : sortI O = plainL X.1.length
  · obtain ⟨h1, h2⟩ := sortI_plain.1 hs
    rw [if_neg (by simpa using h1), if_pos h2, if_neg (by simpa using hs)]
    simp
  · rw [if_pos hs]
    by_cases h1 : O.length = X.1.length
    · have h2 : ¬ (List.range X.1.length).all (fun i => decide (many O (i : Int) = 1)) = true := fun h2 => hs (sortI_plain.2 ⟨h1, h2⟩)
      rw [if_neg (by simpa using h1), if_neg h2]
      simp
    · rw [if_pos h1]
      simp
theorem sortF_again {X : List Int × List (List Int × Int)} {O : List Int} (h : (orderF X O).2 = 0) : sortF (sortF X O).1 O = ((sortF X O).1, 0) ∧ cooCheck (sortF X O).1.1 (sortF X O).1.2 = 0 := by
  have hc := (orderF_ok h).1
  rw [sortF_ok h]
  simp only
  have hc2 : cooCheck X.1 (X.2.mergeSort (leO (orderF X O).1)) = 0 := cooCheck_sub hc (by simp) fun x hx => ⟨x, List.mem_mergeSort.1 hx, rfl⟩
  have ho : orderF (X.1, X.2.mergeSort (leO (orderF X O).1)) O = orderF X O := orderF_sub hc hc2
  refine ⟨?_, hc2⟩
  rw [sortF_ok (by rw [ho]; exact h), ho]
  simp only
  rw [sort_sorted (List.pairwise_mergeSort (leO_trans _) (leO_total _) _)]
theorem joinF_again {X : List Int × List (List Int × Int)} {O : List Int} (h : (orderF X O).2 = 0) : joinF (joinF X O).1 O = ((joinF X O).1, 0) ∧ (joinF X O).2 = 0 := by
  have hj : (joinF X O).2 = 0 := by rw [joinF, sortF_ok h]
  refine ⟨?_, hj⟩
  obtain ⟨a1, a2, a3, a4⟩ := joinF_ok hj
  obtain ⟨b1, -⟩ := joined_sort (tells_of h)
  have hs := sortF_joinF hj hj
  rw [joinF, hs]
  rw [a2]
  simp only
  rw [join_strict _ rfl b1]
theorem cells_places {X : List Int × List (List Int × Int)} (h : cooCheck X.1 X.2 = 0) : ∀ t ∈ X.2, t.1.length = X.1.length := fun t ht => atF_len ((cooCheck_len h).2.2.2 t ht)
end Go.Fw
