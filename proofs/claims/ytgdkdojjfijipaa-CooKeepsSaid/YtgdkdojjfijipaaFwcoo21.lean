import Derived.Test.YtgdkdojjfijipaaFwcoo11
import Derived.Test.YtgdkdojjfijipaaFwcoo17
import Derived.Test.YtgdkdojjfijipaaFwcoo19
namespace Go.Fw
open Go Go.RowKit Go.Proofs
set_option maxRecDepth 100000
set_option linter.unusedSimpArgs false
set_option linter.unusedVariables false

theorem dense_eq {S : List Int} {E D : List (List Int × Int)} (hE : (cdF (S, E)).2 = 0) (hc : cooCheck S D = 0) (h : ∀ p, IntKind.i64.wrap (sumV (posL S p D)) = IntKind.i64.wrap (sumV (posL S p E))) : (cdF (S, D)).2 = 0 ∧ (cdF (S, D)).1 = (cdF (S, E)).1 := by
  obtain ⟨c1, z1, s1, k1, n, hn, hn2, l1, v1⟩ := cdF_ok hE
  have hD := cdF_of (X := (S, D)) hc z1
  obtain ⟨c2, z2, s2, k2, n', hn', hn2', l2, v2⟩ := cdF_ok hD
  simp only at s1 s2 hn hn' v1 v2
  refine ⟨hD, Prod.ext (by rw [s1, s2]) ?_⟩
  apply List.ext_getElem (by omega)
  intro p h1 h2
  have e1 := v1 p (by omega)
  have e2 := v2 p (by omega)
  rw [h p, ← e1] at e2
  simpa [h1, h2] using e2
theorem sumV_perm {E D : List (List Int × Int)} (h : E.Perm D) : sumV E = sumV D := by
  induction h with
  | nil => rfl
  | cons x _ ih => simp [ih]
  | swap x y l => simp only [sumV_cons]; omega
  | trans _ _ h1 h2 => rw [h1, h2]
theorem posL_perm {S : List Int} {p : Nat} {E D : List (List Int × Int)} (h : E.Perm D) : (posL S p E).Perm (posL S p D) := h.filter _
theorem posL_cons (S : List Int) (p : Nat) (t : List Int × Int) (E : List (List Int × Int)) : sumV (posL S p (t :: E)) = (if (atF S t.1).1.toNat = p then t.2 else 0) + sumV (posL S p E) := by
  by_cases e : (atF S t.1).1.toNat = p <;> simp [posL, e]
theorem sum_joinS (S : List Int) (p : Nat) (acc : List (List Int × Int)) (t : List Int × Int) : IntKind.i64.wrap (sumV (posL S p (joinS acc t))) = IntKind.i64.wrap (sumV (posL S p acc) + sumV (posL S p [t])) := by
  rcases List.eq_nil_or_concat acc with rfl | ⟨A, x, rfl⟩
  · rw [joinS_nil]; simp [posL]
  · rw [List.concat_eq_append]
    have hx : (A ++ [x])[(A ++ [x]).length - 1]'(by simp) = x := by simp
    by_cases e : x.1 = t.1
    · rw [joinS_eq (by simp) (by rw [hx]; exact e), hx]
      have : (A ++ [x]).set ((A ++ [x]).length - 1) (x.1, IntKind.i64.wrap (x.2 + t.2)) = A ++ [(x.1, IntKind.i64.wrap (x.2 + t.2))] := by simp
      rw [this, posL_app, posL_app, sumV_app, sumV_app]
      have h1 := posL_cons S p (x.1, IntKind.i64.wrap (x.2 + t.2)) []
      have h2 := posL_cons S p x []
      have h3 := posL_cons S p t []
      have h0 : sumV (posL S p []) = 0 := rfl
      rw [h1, h2, h3, h0]
      simp only
      rw [← e]
      split
      · simp only [wrapB, Int.add_zero, Int.add_bmod_bmod, Int.add_assoc]
      · simp
    · rw [joinS_ne (by simp) (by rw [hx]; exact e), posL_app, sumV_app]
theorem sum_joinL (S : List Int) (p : Nat) (W : List (List Int × Int)) : IntKind.i64.wrap (sumV (posL S p (joinL W))) = IntKind.i64.wrap (sumV (posL S p W)) := by
  have : ∀ (W acc : List (List Int × Int)), IntKind.i64.wrap (sumV (posL S p (W.foldl joinS acc))) = IntKind.i64.wrap (sumV (posL S p acc) + sumV (posL S p W)) := by
    intro W
    induction W with
    | nil => intro acc; simp [posL]
    | cons t W ih =>
      intro acc
      have h3 := posL_cons S p t []
      have h0 : sumV (posL S p []) = 0 := rfl
      rw [List.foldl_cons, ih, posL_cons, ← Int.add_assoc]
      have hj := sum_joinS S p acc t
      rw [h3, h0, Int.add_zero] at hj
      rw [wrapB] at hj ⊢
      rw [wrapB] at hj ⊢
      rw [← Int.bmod_add_bmod, hj, Int.bmod_add_bmod]
  have h := this W []
  simpa [joinL, posL] using h
theorem sum_trim (S : List Int) (p : Nat) : ∀ (E : List (List Int × Int)), sumV (posL S p (E.filter fun t => !decide (t.2 = 0))) = sumV (posL S p E)
  | [] => rfl
  | t :: E => by
    by_cases e : t.2 = 0
    · rw [List.filter_cons_of_neg (by simp [e]), sum_trim S p E, posL_cons, e]; simp
    · rw [List.filter_cons_of_pos (by simp [e]), posL_cons, posL_cons, sum_trim S p E]
/-- What is made out of a list that can be laid out. -/
theorem keeps {S : List Int} {E : List (List Int × Int)} {O : List Int} (hd : (cdF (S, E)).2 = 0) (ho : (orderF (S, E) O).2 = 0) :
    (∃ L, sortF (S, E) O = ((S, L), 0) ∧ L.length = E.length ∧ cdF (S, L) = cdF (S, E)) ∧ (∃ L, joinF (S, E) O = ((S, L), 0) ∧ L.length ≤ E.length ∧ cdF (S, L) = cdF (S, E)) ∧
      (∃ L, trimF (S, E) = ((S, L), 0) ∧ L.length ≤ E.length ∧ cdF (S, L) = cdF (S, E)) := by
  have hc := (cdF_ok hd).1
  simp only at hc
  have fin : ∀ L, cooCheck S L = 0 → (∀ p, IntKind.i64.wrap (sumV (posL S p L)) = IntKind.i64.wrap (sumV (posL S p E))) → cdF (S, L) = cdF (S, E) := fun L h1 h2 => by
    obtain ⟨a, b⟩ := dense_eq hd h1 h2
    exact Prod.ext b (by rw [a, hd])
  have hp := List.mergeSort_perm E (leO (orderF (S, E) O).1)
  have hj : (joinF (S, E) O).2 = 0 := by rw [joinF, sortF_ok ho]
  obtain ⟨_, hj2, _, hj3⟩ := joinF_ok hj
  simp only at hj2 hj3
  refine ⟨⟨_, sortF_ok ho, by simp, fin _ ?_ fun p => ?_⟩, ⟨_, hj2, ?_, fin _ hj3 fun p => ?_⟩, ⟨E.filter fun t => !decide (t.2 = 0), by unfold trimF; simp only; rw [if_neg (by omega)], List.length_filter_le _ _, fin _ ?_ fun p => ?_⟩⟩
  · exact cooCheck_part hc (by simp) fun x hx => List.mem_mergeSort.1 hx
  · rw [sumV_perm (posL_perm hp)]
  · have := joinL_le (E.mergeSort (leO (orderF (S, E) O).1))
    rw [List.length_mergeSort] at this
    exact this
  · rw [sum_joinL, sumV_perm (posL_perm hp)]
  · exact cooCheck_part hc (List.length_filter_le _ _) fun x hx => (List.mem_filter.1 hx).1
  · rw [sum_trim]
theorem keeps_plain {S : List Int} {E : List (List Int × Int)} (hd : (cdF (S, E)).2 = 0) : ∃ L, plainF (S, E) = ((S, L), 0) ∧ L.length ≤ E.length ∧ cdF (S, L) = cdF (S, E) ∧ cooCheck S L = 0 := by
  have hc := (cdF_ok hd).1
  simp only at hc
  have ho : (orderF (S, E) []).2 = 0 := by
    unfold orderF
    simp only
    rw [if_neg (by omega)]
    simp
  obtain ⟨_, ⟨L, h1, h2, h3⟩, _⟩ := keeps hd ho
  have hd2 : (cdF (S, L)).2 = 0 := by rw [h3]; exact hd
  have hc2 := (cdF_ok hd2).1
  simp only at hc2
  have ho2 : (orderF (S, L) []).2 = 0 := by
    unfold orderF
    simp only
    rw [if_neg (by omega)]
    simp
  obtain ⟨_, _, M, h4, h5, h6⟩ := keeps hd2 ho2
  refine ⟨M, by rw [plainF, h1]; simpa using h4, by omega, by rw [h6, h3], ?_⟩
  have hd3 : (cdF (S, M)).2 = 0 := by rw [h6]; exact hd2
  exact (cdF_ok hd3).1
end Go.Fw
namespace Go.Fw
open Go Go.RowKit Go.Proofs
set_option maxRecDepth 100000
set_option linter.unusedSimpArgs false
set_option linter.unusedVariables false

theorem plainL_succ (n : Nat) : plainL (n + 1) = 0 :: (plainL n).map (· + 1) := by
  apply List.ext_getElem (by simp)
  intro i h1 h2
  cases i with
  | zero => simp [plainL]
  | succ i => simp [plainL]
theorem cmpO_shift (x : Int) (a c : List Int) (y : Int) : ∀ (O : List Int), (∀ m ∈ O, 0 ≤ m) → cmpO (O.map (· + 1)) (x :: a) (y :: c) = cmpO O a c
  | [], _ => rfl
  | m :: O, h => by
    have hm := h m (by simp)
    have e : (m + 1).toNat = m.toNat + 1 := by omega
    simp only [List.map_cons, cmpO, e, List.getD_cons_succ, cmpO_shift x a c y O fun m hm => h m (by simp [hm])]
theorem place_lt : ∀ (S : List Int) (n m : Int), (∀ x ∈ S, 1 ≤ x) → n < m → n / prd S = m / prd S → cmpO (plainL S.length) (placeF S n) (placeF S m) < 0
  | [], n, m, _, h, hq => by
    simp only [prd, Int.ediv_one] at hq
    omega
  | s :: r, n, m, hx, h, hq => by
    have hs := hx s (by simp)
    have hp := prd_pos (xs := r) fun y hy => hx y (by simp [hy])
    simp only [prd] at hq
    rw [Int.mul_comm s, ← Int.ediv_ediv_of_nonneg (by omega), ← Int.ediv_ediv_of_nonneg (by omega)] at hq
    have hle : n / prd r ≤ m / prd r := Int.ediv_le_ediv (by omega) (by omega)
    have d1 := Int.mul_ediv_add_emod (n / prd r) s
    have d2 := Int.mul_ediv_add_emod (m / prd r) s
    rw [hq] at d1
    simp only [List.length_cons, plainL_succ, cmpO, placeF, Int.toNat_zero, List.getD_cons_zero]
    by_cases e : (n / prd r) % s < (m / prd r) % s
    · rw [if_pos e]; omega
    · rw [if_neg e, if_neg (by omega), cmpO_shift _ _ _ _ _ fun m hm => (plainL_mem hm).1]
      exact place_lt r n m (fun y hy => hx y (by simp [hy])) h (by omega)
theorem at_place_iff {S c : List Int} {k : Nat} (h : (cells S).2 = 0) (hk : (k : Int) < (cells S).1) (hc : (atF S c).2 = 0) : (atF S c).1.toNat = k ↔ c = placeF S k := by
  have h0 := atF_lt h hc
  have hpl := place_at h (by omega) (atF_ins hc)
  constructor
  · intro e
    rw [← hpl]
    congr 1
    omega
  · intro e
    obtain ⟨hx, hp⟩ := cells_nz h (by omega)
    have hm := cells_lt h (by omega)
    have e2 : (atF S c).1 = numGo S c 0 := by
      have hi := atF_ins hc
      unfold atF
      rw [if_neg (by omega), if_neg (by rw [hi.1]; simp), atGo_in, if_pos (inS_inGo S c hi.1 hi.2)]
    rw [e2, e, numGo_place S 0 k hx (by omega) (by omega) (by omega), Int.emod_eq_of_lt (by omega) (by omega)]
    omega
theorem ofE_mem {S V : List Int} {n : Nat} {x : List Int × Int} : x ∈ ofE S V n ↔ ∃ k < n, V.getD k 0 ≠ 0 ∧ x = (placeF S k, V.getD k 0) := by
  simp only [ofE, List.mem_map, List.mem_filter, List.mem_range, decide_eq_true_eq]
  constructor
  · rintro ⟨k, ⟨h1, h2⟩, rfl⟩; exact ⟨k, h1, h2, rfl⟩
  · rintro ⟨k, h1, h2, rfl⟩; exact ⟨k, ⟨h1, h2⟩, rfl⟩
theorem of_plain {S : List Int} {E : List (List Int × Int)} (hd : (cdF (S, E)).2 = 0) (hv : ∀ t ∈ E, -9223372036854775808 ≤ t.2 ∧ t.2 ≤ 9223372036854775807) : ofF (cdF (S, E)).1 = plainF (S, E) := by
  obtain ⟨hc, z1, s1, k1, n, hn, hn2, l1, v1⟩ := cdF_ok hd
  simp only at hc s1 hn v1
  have hat := (cooCheck_len hc).2.2.2
  have hcs := (cooCheck_len hc).2.2.1
  have ho1 : orderF (S, E) [] = (plainL S.length, 0) := by
    unfold orderF
    simp only
    rw [if_neg (by omega)]
    simp
  have ho : (orderF (S, E) []).2 = 0 := by rw [ho1]
  have hj : (joinF (S, E) []).2 = 0 := by rw [joinF, sortF_ok ho]
  obtain ⟨_, hj2, _, hj3⟩ := joinF_ok hj
  have hjs := joined_sort (tells_of ho)
  rw [ho1] at hj2 hj3 hjs
  simp only at hj2 hj3 hjs
  have hpl : plainF (S, E) = ((S, (joinL (E.mergeSort (leO (plainL S.length)))).filter fun t => !decide (t.2 = 0)), 0) := by
    rw [plainF, hj2]
    simp only [ne_eq, not_true_eq_false, if_false]
    unfold trimF
    simp only
    rw [if_neg (by omega)]
  rw [hpl, ofF, if_neg (by omega), s1, l1]
  refine Prod.ext (Prod.ext rfl ?_) rfl
  simp only
  have hval : ∀ k < n, (cdF (S, E)).1.2.getD k 0 = IntKind.i64.wrap (sumV (atP E (placeF S k))) := fun k hk => by
    rw [v1 k hk]
    congr 2
    apply List.filter_congr
    intro t ht
    rw [decide_eq_decide]
    exact at_place_iff hcs (by omega) (hat t ht)
  have hjv : ∀ c, atP E c ≠ [] → jv (atP E c) = IntKind.i64.wrap (sumV (atP E c)) := fun c h => jv_sum h fun t ht => hv t (List.mem_filter.1 ht).1
  refine same_sorted (O := plainL S.length) ?_ (hjs.1.filter _) fun x => ?_
  · rw [ofE, List.pairwise_map]
    refine List.Pairwise.imp_of_mem ?_ ((List.pairwise_lt_range (n := n)).filter _)
    intro a b ha hb hab
    have hb2 := List.mem_range.1 (List.mem_filter.1 hb).1
    obtain ⟨hx, hp⟩ := cells_nz hcs (by omega)
    refine place_lt S a b hx (by omega) ?_
    rw [Int.ediv_eq_zero_of_lt (by omega) (by omega), Int.ediv_eq_zero_of_lt (by omega) (by omega)]
  · rw [ofE_mem, List.mem_filter, hjs.2]
    constructor
    · rintro ⟨k, hk, hne, rfl⟩
      rw [hval k hk] at hne ⊢
      have hat0 : atP E (placeF S k) ≠ [] := fun e => hne (by rw [e]; rfl)
      refine ⟨⟨atP_ne.1 hat0, (hjv _ hat0).symm⟩, by simpa using hne⟩
    · rintro ⟨⟨⟨t, ht, e⟩, h2⟩, h3⟩
      have hta := hat t ht
      have hlt := atF_lt hcs hta
      have hk : (atF S t.1).1.toNat < n := by omega
      have hpt := (at_place_iff (k := (atF S t.1).1.toNat) hcs (by omega) hta).1 rfl
      have hat0 : atP E x.1 ≠ [] := atP_ne.2 ⟨t, ht, e⟩
      have hxv : (cdF (S, E)).1.2.getD (atF S t.1).1.toNat 0 = x.2 := by rw [hval _ hk, ← hpt, e, h2, hjv _ hat0]
      refine ⟨_, hk, ?_, ?_⟩
      · rw [hxv]; simpa using h3
      · rw [hxv, ← hpt, e]
end Go.Fw
