import Derived.Test.YtgdkdojjfijipaaFwX
namespace Go.Fw
set_option maxRecDepth 100000
set_option linter.unusedSimpArgs false
set_option linter.unusedVariables false

/-! ### Stable sorting, by whatever halves -/
section
variable {α : Type} {le : α → α → Bool}
/-- What is neither ahead nor behind. -/
def eqv (le : α → α → Bool) (x y : α) : Bool := le x y && le y x
theorem stab_unique (ht : ∀ a b c, le a b = true → le b c = true → le a c = true) (_htot : ∀ a b, (le a b || le b a) = true) : ∀ {s t : List α}, s.Pairwise (fun a b => le a b = true) → t.Pairwise (fun a b => le a b = true) →
    (∀ x, s.filter (eqv le x) = t.filter (eqv le x)) → s = t
  | [], [], _, _, _ => rfl
  | [], y :: t, _, _, h => by
    have hy : le y y = true := by have := _htot y y; simpa using this
    have := h y
    simp [eqv, hy] at this
  | x :: s, [], _, _, h => by
    have hx : le x x = true := by have := _htot x x; simpa using this
    have := h x
    simp [eqv, hx] at this
  | x :: s, y :: t, hs, htt, h => by
    have hx : le x x = true := by have := _htot x x; simpa using this
    have hy : le y y = true := by have := _htot y y; simpa using this
    have s1 := List.pairwise_cons.1 hs
    have t1 := List.pairwise_cons.1 htt
    have hxt : x ∈ y :: t := by
      have : x ∈ (x :: s).filter (eqv le x) := by simp [eqv, hx]
      rw [h x] at this
      exact (List.mem_filter.1 this).1
    have hys : y ∈ x :: s := by
      have : y ∈ (y :: t).filter (eqv le y) := by simp [eqv, hy]
      rw [← h y] at this
      exact (List.mem_filter.1 this).1
    have hyx : le y x = true := by
      rcases List.mem_cons.1 hxt with rfl | h
      · exact hx
      · exact t1.1 x h
    have hxy : le x y = true := by
      rcases List.mem_cons.1 hys with rfl | h
      · exact hy
      · exact s1.1 y h
    have hh := h x
    simp only [List.filter_cons, eqv, hx, hxy, hyx, Bool.and_self, if_true] at hh
    have e : x = y := (List.cons.inj hh).1
    subst e
    congr 1
    refine stab_unique ht _htot s1.2 t1.2 fun z => ?_
    have hz := h z
    simp only [List.filter_cons] at hz
    split at hz
    · exact (List.cons.inj hz).2
    · exact hz
theorem stab_mergeSort (ht : ∀ a b c, le a b = true → le b c = true → le a c = true) (htot : ∀ a b, (le a b || le b a) = true) (l : List α) (x : α) : (l.mergeSort le).filter (eqv le x) = l.filter (eqv le x) := by
  have hp : (l.filter (eqv le x)).Pairwise (fun a b => le a b = true) := by
    rw [List.pairwise_iff_getElem]
    intro i j hi hj hij
    have h1 := (List.mem_filter.1 (List.getElem_mem hi)).2
    have h2 := (List.mem_filter.1 (List.getElem_mem hj)).2
    simp only [eqv, Bool.and_eq_true] at h1 h2
    exact ht _ _ _ h1.2 h2.1
  have hsub := List.sublist_mergeSort ht htot hp List.filter_sublist
  have h2 := hsub.filter (eqv le x)
  rw [List.filter_filter] at h2
  simp only [Bool.and_self] at h2
  refine (h2.eq_of_length ?_).symm
  exact ((List.mergeSort_perm l le).filter (eqv le x)).length_eq.symm
theorem filter_merge (ht : ∀ a b c, le a b = true → le b c = true → le a c = true) (z : α) : ∀ (xs ys : List α), xs.Pairwise (fun a b => le a b = true) → ys.Pairwise (fun a b => le a b = true) →
    (List.merge xs ys le).filter (eqv le z) = xs.filter (eqv le z) ++ ys.filter (eqv le z)
  | [], ys, _, _ => by simp [List.nil_merge]
  | x :: xs, [], _, _ => by simp [List.merge_right]
  | x :: xs, y :: ys, hx, hy => by
    have x1 := List.pairwise_cons.1 hx
    have y1 := List.pairwise_cons.1 hy
    rw [List.cons_merge_cons]
    split
    · rename_i hle
      rw [List.filter_cons, filter_merge ht z xs (y :: ys) x1.2 hy, List.filter_cons (x := x)]
      split <;> simp
    · rename_i hle
      rw [List.filter_cons, filter_merge ht z (x :: xs) ys hx y1.2]
      split
      · rename_i hz
        simp only [eqv, Bool.and_eq_true] at hz
        have : (x :: xs).filter (eqv le z) = [] := by
          rw [List.filter_eq_nil_iff]
          intro w hw hwz
          simp only [eqv, Bool.and_eq_true] at hwz
          have : le x w = true ∨ x = w := by
            rcases List.mem_cons.1 hw with rfl | h
            · exact .inr rfl
            · exact .inl (x1.1 w h)
          apply hle
          rcases this with h | rfl
          · exact ht _ _ _ h (ht _ _ _ hwz.2 hz.1)
          · exact ht _ _ _ hwz.2 hz.1
        rw [this, List.filter_cons_of_pos (by simp [eqv, hz])]
        simp
      · rename_i hz
        rw [List.filter_cons_of_neg (a := y) (by simpa using hz)]
/-- Two sorted parts, merged, are the whole, sorted. -/
theorem merge_sorts (ht : ∀ a b c, le a b = true → le b c = true → le a c = true) (htot : ∀ a b, (le a b || le b a) = true) (l1 l2 : List α) :
    List.merge (l1.mergeSort le) (l2.mergeSort le) le = (l1 ++ l2).mergeSort le := by
  have s1 := List.pairwise_mergeSort ht htot l1
  have s2 := List.pairwise_mergeSort ht htot l2
  refine stab_unique ht htot (List.pairwise_merge ht htot _ _ s1 s2) (List.pairwise_mergeSort ht htot _) fun x => ?_
  rw [filter_merge ht x _ _ s1 s2, stab_mergeSort ht htot, stab_mergeSort ht htot, stab_mergeSort ht htot, List.filter_append]
theorem mergeSort_short {l : List α} (h : l.length ≤ 1) : l.mergeSort le = l := by
  match l, h with
  | [], _ => simp
  | [x], _ => simp

/-- So many at a time, sorted. -/
def sortRuns (le : α → α → Bool) (r : Nat) (l : List α) : List α :=
  if h : r = 0 ∨ l = [] then [] else (l.take r).mergeSort le ++ sortRuns le r (l.drop r)
termination_by l.length
decreasing_by
  have : l ≠ [] := fun e => h (.inr e)
  have := List.length_pos_iff.2 this
  have : r ≠ 0 := fun e => h (.inl e)
  simp; omega
theorem sortRuns_nil (r : Nat) : sortRuns le r [] = [] := by unfold sortRuns; simp
theorem sortRuns_le {r : Nat} {l : List α} (h : l.length ≤ r) : sortRuns le r l = l.mergeSort le := by
  by_cases hl : l = []
  · subst hl; rw [sortRuns_nil]; simp
  · have hp := List.length_pos_iff.2 hl
    unfold sortRuns
    rw [dif_neg (by rintro (h1 | h1); omega; exact hl h1), List.take_of_length_le h, List.drop_eq_nil_of_le h, sortRuns_nil, List.append_nil]
theorem sortRuns_app {r : Nat} (hr : 0 < r) : ∀ (k : Nat) {l m : List α}, l.length = k * r → sortRuns le r (l ++ m) = sortRuns le r l ++ sortRuns le r m
  | 0, l, m, h => by
    have : l = [] := List.length_eq_zero_iff.1 (by simpa using h)
    subst this; rw [sortRuns_nil]; rfl
  | k + 1, l, m, h => by
    have hrl : r ≤ l.length := by rw [h, Nat.succ_mul]; omega
    have hl : l ≠ [] := by rintro rfl; simp at hrl; omega
    conv => lhs; unfold sortRuns
    conv => rhs; rw [sortRuns]
    rw [dif_neg (by rintro (h1 | h1); omega; exact hl (List.append_eq_nil_iff.1 h1).1), dif_neg (by rintro (h1 | h1); omega; exact hl h1), List.take_append_of_le_length hrl, List.drop_append_of_le_length hrl,
      sortRuns_app hr k (by simp [h, Nat.succ_mul]), List.append_assoc]
theorem sortRuns_len {r : Nat} (hr : 0 < r) : ∀ (n : Nat) {l : List α}, l.length ≤ n → (sortRuns le r l).length = l.length
  | 0, l, h => by
    have : l = [] := List.length_eq_zero_iff.1 (by omega)
    subst this; rw [sortRuns_nil]
  | n + 1, l, h => by
    by_cases hl : l = []
    · subst hl; rw [sortRuns_nil]
    · have hp := List.length_pos_iff.2 hl
      unfold sortRuns
      rw [dif_neg (by rintro (h1 | h1); omega; exact hl h1), List.length_append, sortRuns_len hr n (by simp; omega), (List.mergeSort_perm _ _).length_eq]
      simp; omega
theorem sortRuns_mem {r : Nat} : ∀ (n : Nat) {l : List α}, l.length ≤ n → ∀ x ∈ sortRuns le r l, x ∈ l
  | 0, l, h, x, hx => by
    have : l = [] := List.length_eq_zero_iff.1 (by omega)
    subst this; rw [sortRuns_nil] at hx; exact hx
  | n + 1, l, h, x, hx => by
    by_cases hl : r = 0 ∨ l = []
    · unfold sortRuns at hx
      rw [dif_pos hl] at hx; cases hx
    · have hp := List.length_pos_iff.2 (fun e => hl (.inr e))
      unfold sortRuns at hx
      rw [dif_neg hl] at hx
      rcases List.mem_append.1 hx with hx | hx
      · exact List.mem_of_mem_take (List.mem_mergeSort.1 hx)
      · exact List.mem_of_mem_drop (sortRuns_mem n (by simp; omega) x hx)
/-- One of them. -/
theorem sortRuns_chunk {r : Nat} (hr : 0 < r) (k : Nat) (l : List α) : ((sortRuns le r l).drop (k * r)).take r = ((l.drop (k * r)).take r).mergeSort le := by
  by_cases h : k * r ≤ l.length
  · have e : sortRuns le r l = sortRuns le r (l.take (k * r)) ++ sortRuns le r (l.drop (k * r)) := by
      rw [← sortRuns_app hr k (by simp; omega), List.take_append_drop]
    have h1 : (sortRuns le r (l.take (k * r))).length = k * r := by rw [sortRuns_len hr _ (Nat.le_refl _)]; simp; omega
    rw [e, List.drop_append_of_le_length (by omega), List.drop_eq_nil_of_le (by omega), List.nil_append]
    generalize l.drop (k * r) = m
    by_cases hm : m = []
    · subst hm; rw [sortRuns_nil]; simp
    · unfold sortRuns
      rw [dif_neg (by rintro (h1 | h1); omega; exact hm h1)]
      have hl : ((m.take r).mergeSort le).length = min r m.length := by rw [(List.mergeSort_perm _ _).length_eq]; simp
      by_cases hrm : r ≤ m.length
      · rw [List.take_append_of_le_length (by omega), List.take_of_length_le (by omega)]
      · rw [List.drop_eq_nil_of_le (by omega), sortRuns_nil, List.append_nil, List.take_of_length_le (by omega)]
  · rw [List.drop_eq_nil_of_le (by rw [sortRuns_len hr _ (Nat.le_refl _)]; omega), List.drop_eq_nil_of_le (by omega)]
    simp
theorem sortRuns_one (l : List α) : sortRuns le 1 l = l := by
  induction l with
  | nil => exact sortRuns_nil 1
  | cons x l ih =>
    unfold sortRuns
    rw [dif_neg (by rintro (h1 | h1) <;> cases h1)]
    simp [ih]
/-- Twice as many at a time. -/
theorem sortRuns_twice (ht : ∀ a b c, le a b = true → le b c = true → le a c = true) (htot : ∀ a b, (le a b || le b a) = true) {r : Nat} (hr : 0 < r) (k : Nat) (l : List α) :
    List.merge (((sortRuns le r l).drop (k * (2 * r))).take r) (((sortRuns le r l).drop (k * (2 * r) + r)).take r) le = ((l.drop (k * (2 * r))).take (2 * r)).mergeSort le := by
  have e1 : k * (2 * r) = (2 * k) * r := by rw [← Nat.mul_assoc, Nat.mul_comm k 2]
  have e2 : k * (2 * r) + r = (2 * k + 1) * r := by rw [e1, Nat.add_mul, Nat.one_mul]
  rw [e2, e1, sortRuns_chunk hr, sortRuns_chunk hr, merge_sorts ht htot]
  congr 1
  rw [Nat.add_mul, Nat.one_mul, ← List.drop_drop]
  generalize l.drop (2 * k * r) = m
  rw [show 2 * r = r + r by omega, List.take_add]
theorem sortRuns_snoc {r : Nat} (hr : 0 < r) (k : Nat) (l : List α) (h : k * r < l.length) : sortRuns le r (l.take (k * r + r)) = sortRuns le r (l.take (k * r)) ++ ((l.drop (k * r)).take r).mergeSort le := by
  rw [List.take_add, sortRuns_app hr k (by simp; omega), sortRuns_le (l := (l.drop (k * r)).take r) (by simp; omega)]
end
end Go.Fw
