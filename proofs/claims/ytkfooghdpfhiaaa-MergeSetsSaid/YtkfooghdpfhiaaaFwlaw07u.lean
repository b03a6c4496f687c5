/- MergeSets. -/
import Derived.Test.YtkfooghdpfhiaaaFwlaw07t
import Derived.Test.YtkfooghdpfhiaaaFwargsM
namespace Go.Fw
open Go Go.RowKit Go.Proofs
set_option maxRecDepth 100000
set_option linter.unusedSimpArgs false
set_option linter.unusedVariables false

set_option maxHeartbeats 4000000 in
theorem lSets_p (A : List (List Int)) (k : Int) (hA : A.length ≤ 140737488351232) (hAl : ∀ l ∈ A, OkI l) (hk : In64 k) : Pu Try.prog 9 [Ls A, I k] (Bo true) := by
  refine Pu.of 4 (lSets_w ?_)
  simp (disch := omega) [ar, -List.take_append_getElem, lSets_ac]
  refine Pu.c live7_p ?_
  simp (disch := omega) [ar, -List.take_append_getElem]
  refine Pu.c (few7_p A hA fun l h => (hAl l h).1) ?_
  cases h0 : fewF A
  · simp (disch := omega) [ar, -List.take_append_getElem]
  simp (disch := omega) [ar, -List.take_append_getElem]
  obtain ⟨hn, hF⟩ := few_of h0
  by_cases hA0 : A = []
  · simp (disch := omega) [ar, -List.take_append_getElem, hA0]
  simp (disch := omega) [ar, -List.take_append_getElem, hA0]
  have hN0 : 0 < A.length := List.length_pos_iff.2 hA0
  refine Pu.c (mwalk_p A (by omega) (by omega)) ?_
  clear hAl hA h0
  by_cases hr : ∀ l ∈ A, Rise l
  rotate_left
  · have e : walkF A = ([], 1) := if_neg hr
    simp (disch := omega) [ar, -List.take_append_getElem, e]
  have e : walkF A = (stops A, 0) := if_pos hr
  have hSl := walkF_len (A := A)
  have hSi := walkF_in (A := A) (by omega)
  rw [e] at hSl hSi ⊢
  simp only at hSl hSi ⊢
  simp (disch := omega) [ar, -List.take_append_getElem]
  refine Lp.to 1 [(8, 3, 1)] A.length (fun i => True) (fun i => fm 225 [(0, Ls A), (1, I k), (5, Bo true), (6, Ss (stops A)), (8, .slc 0 i 0 i none), (45, I A.length), (46, I i)]) (fun i => [ow 3 1 ((everyF i).map I)]) ⟨trivial, by simp [ow, everyF]⟩ fun i hi _ => ?_
  simp (disch := omega) [ar, -List.take_append_getElem, lSets_1]
  (first | refine Cnd.sp (fun h1 => ?_) fun h1 => ?_ | refine Gd.sp (fun h1 => ?_) fun h1 => ?_) <;> (try simp at h1) <;> (try simp (disch := omega) [ar, -List.take_append_getElem, h1])
  · have hone : allOneCell 1 ((everyF i).map I) = true := by simp [allOneCell, okEl, cellsOf, oneC]
    have hel : (everyF i).length = i := by simp [everyF]
    have hes : (everyF (i + 1)).map I = (everyF i).map I ++ [I i] := by simp [everyF, List.range_succ]
    rw [hes]
    generalize everyF i = E at hone hel ⊢
    simp (disch := omega) [ar, -List.take_append_getElem, hone, hel]
  · have hiN : i = A.length := by omega
    subst hiN
    obtain ⟨q, hq, hqe, hm1, hm2⟩ := modN k A.length hN0
    have hel : (everyF A.length).length = A.length := by simp [everyF]
    refine Hr.next 0 (fr' := fm 225 [(0, Ls A), (1, I k), (5, Bo true), (6, Ss (stops A)), (8, Is (everyF A.length))]) (H' := []) (by simp [hel]) ?_
    generalize hgE : everyF A.length = E at hel ⊢
    generalize hkm : k.tmod A.length = km at hqe hm1 hm2
    have hN : ∀ st ∈ stops A, st.2 ≠ [] ∧ st.2.length ≤ 1000000 := fun st h => by
      have hl := stops_len h
      exact ⟨fun e => by rw [e] at hl; simp at hl; omega, by omega⟩
    have hEi : ∀ x ∈ E, 0 ≤ x ∧ x < (A.length : Int) := fun x hx => by
      rw [← hgE] at hx
      obtain ⟨j, hj, rfl⟩ := List.mem_map.1 hx
      simp at hj; omega
    have p1 := mPick_p (stops A) [E] (by omega) (by simp) (by simp; omega) hN (fun st h s hs i hi => by
      simp only [List.mem_singleton] at hs
      subst hs
      have := hEi i hi
      rw [stops_len h]; exact this)
    have p2 := mPick_p (stops A) [[(q : Int)]] (by omega) (by simp) (by simp) hN (fun st h s hs i hi => by
      simp only [List.mem_singleton] at hs
      subst hs
      simp only [List.mem_singleton] at hi
      subst hi
      rw [stops_len h]; omega)
    have p3 := mPick_p (stops A) [] (by omega) (by simp) (by simp) hN (fun st h s hs => by simp at hs)
    have ha := pick_all A
    rw [hgE] at ha
    have hbl := bothF_len (A := A)
    have hb : bothF A = (interF A, 0) := if_pos hr
    have p4 := mBoth_p A (by omega) (by omega)
    rw [hb] at p4 hbl
    rw [pick_one hr hq] at p2
    rw [pick_none] at p3
    obtain ⟨l, hl⟩ : ∃ l, A[q] = l := ⟨_, rfl⟩
    have hlr : Rise l := by rw [← hl]; exact hr _ (List.getElem_mem hq)
    have hll : A[q].length ≤ 500 := by have := (List.sublist_flatten_of_mem (List.getElem_mem hq)).length_le; omega
    rw [hl] at p2 hll
    have hr2 : ∀ x ∈ [l, l], Rise x := by simp [hlr]
    have p5 := mUnion_p [l, l] (by simp) (by simp; omega)
    have p6 := mBoth_p [l, l] (by simp) (by simp; omega)
    rw [show unionF [l, l] = (l, 0) by rw [unionF, if_pos hr2, uni_same hlr]] at p5
    rw [show bothF [l, l] = (l, 0) by rw [bothF_eq, if_pos hr2, inter_same hlr]] at p6
    have hself : ∀ i (h : i < l.length), whr l[i] l = i := fun i h => whr_self hlr h
    generalize pickF (stops A) [E] = a at p1 ha
    generalize interF A = b at p4 ha hbl
    obtain ⟨c, hc⟩ : ∃ c, (l.map fun n => (n, A.map (whr n))) = c := ⟨_, rfl⟩
    rw [hc] at p2
    have hal : a.length = b.length := by rw [← ha]; simp
    have hcl : c.length = l.length := by rw [← hc]; simp
    have hai : ∀ i (h : i < a.length), a[i].1 = b[i]'(by omega) := fun i h => by subst ha; simp
    have hci : ∀ i (h : i < c.length), c[i].1 = l[i]'(by omega) ∧ c[i].2.length = A.length ∧ ∀ (h2 : q < c[i].2.length), c[i].2[q] = i := fun i h => by
      subst hc
      refine ⟨by simp, by simp, fun h2 => ?_⟩
      simp only [List.getElem_map, hl]
      exact hself i (by simpa using h)
    clear hc ha hEi hgE hN hr hr2 hb e hself hlr
    simp only at p4 p5 p6 hbl
    refine lSets_m hq (by omega) hl hkm hqe hm1 hm2 p1 p2 p3 p4 p5 p6 (lSets_t hq hl (by omega) (by omega) (by omega) hal hcl hai hci fun fr h => ?_)
    clear p1 p2 p3 p4 p5 p6
    have h' : fr[4]?.getD .und = Bo true := h
    simp (disch := omega) [ar, -List.take_append_getElem, h']
end Go.Fw
