import Derived.Test.YtgdkdojjfijipaaFwcoo11
import Derived.Test.YtgdkdojjfijipaaFwcoo16
import Derived.Test.YtgdkdojjfijipaaFwcoo17
namespace Go.Fw
open Go Go.RowKit Go.Proofs
set_option maxRecDepth 100000
set_option linter.unusedSimpArgs false
set_option linter.unusedVariables false

theorem prd_perm {S T : List Int} (h : S.Perm T) : prd S = prd T := by
  induction h with
  | nil => rfl
  | cons x _ ih => simp [prd, ih]
  | swap x y l => simp only [prd]; rw [← Int.mul_assoc, ← Int.mul_assoc, Int.mul_comm y x]
  | trans _ _ ih1 ih2 => rw [ih1, ih2]
theorem cells_perm {S T : List Int} (p : T.Perm S) (h : (cells S).2 = 0) : cells T = cells S := by
  have e0 : ¬ (S.length > 4 ∨ S.any (fun x => decide (x < 0)) = true) := by
    intro e
    rw [cells, if_pos e] at h
    cases h
  have e1 : ¬ (T.length > 4 ∨ T.any (fun x => decide (x < 0)) = true) := by
    rw [p.length_eq]
    intro e
    apply e0
    rcases e with e | e
    · exact .inl e
    · rw [List.any_eq_true] at e ⊢
      obtain ⟨x, hx, h2⟩ := e
      exact .inr ⟨x, p.mem_iff.1 hx, h2⟩
  by_cases hz : (0 : Int) ∈ S
  · rw [cells, if_neg e1, if_pos (p.mem_iff.2 hz), cells, if_neg e0, if_pos hz]
  · have hzT : ¬ (0 : Int) ∈ T := fun e => hz (p.mem_iff.1 e)
    have hx : ∀ x ∈ S, 1 ≤ x := fun x hx => by
      have h1 : x ≠ 0 := fun e => hz (by rw [← e]; exact hx)
      have h2 : ¬ x < 0 := fun e => e0 (.inr (List.any_eq_true.2 ⟨x, hx, by simpa using e⟩))
      omega
    have hcS : cells S = mulAll S 1 := by rw [cells, if_neg e0, if_neg hz]
    rw [hcS] at h
    have hp := mulAll_prd S 1 hx (by omega) h
    have hpos := prd_pos hx
    have hc1 : (cells S).1 = prd S := by rw [hcS, hp]; omega
    have hlt := cells_lt (by rw [hcS]; exact h) (by rw [hc1]; omega)
    rw [cells_pos (xs := T) (fun x hx2 => hx x (p.mem_iff.1 hx2)) (by omega) (by rw [prd_perm p]; omega), prd_perm p]
    exact Prod.ext hc1.symm (by rw [hcS]; exact h.symm)
theorem nd_inj {O : List Int} (h : O.Nodup) {i j : Nat} (hi : i < O.length) (hj : j < O.length) (e : O[i] = O[j]) : i = j := by
  rw [List.nodup_iff_pairwise_ne, List.pairwise_iff_getElem] at h
  rcases Nat.lt_trichotomy i j with h1 | h1 | h1
  · exact absurd e (h i j hi hj h1)
  · exact h1
  · exact absurd e.symm (h j i hj hi h1)
/-- The order that turns back. -/
def backL (O : List Int) : List Int := (List.range O.length).map fun (m : Nat) => (O.idxOf (m : Int) : Int)
structure Ordr (O : List Int) : Prop where
  nd : O.Nodup
  rg : ∀ m ∈ O, 0 ≤ m ∧ m < O.length
  al : ∀ m : Nat, m < O.length → (m : Int) ∈ O
theorem Ordr.of {O : List Int} {n : Nat} (h : O.Perm (plainL n)) : Ordr O ∧ O.length = n := by
  have hl : O.length = n := by simpa using h.length_eq
  refine ⟨⟨h.nodup_iff.2 (plainL_nodup n), fun m hm => ?_, fun m hm => ?_⟩, hl⟩
  · have := plainL_mem (h.mem_iff.1 hm); omega
  · exact h.mem_iff.2 (List.mem_map.2 ⟨m, List.mem_range.2 (by omega), rfl⟩)
theorem Ordr.perm {O : List Int} (h : Ordr O) : O.Perm (plainL O.length) := perm_of_sub (plainL_nodup _) (fun x hx => by
  obtain ⟨i, hi, rfl⟩ := List.mem_map.1 hx
  exact h.al i (List.mem_range.1 hi)) (by simp)
theorem back_get {O : List Int} (h : Ordr O) {m : Nat} (hm : m < O.length) : ∃ k, ∃ hk : k < O.length, (backL O)[m]'(by simpa [backL] using hm) = k ∧ O[k] = m := by
  refine ⟨O.idxOf (m : Int), List.idxOf_lt_length_iff.2 (h.al m hm), by simp [backL], ?_⟩
  exact List.getElem_idxOf _
theorem back_of {O : List Int} (h : Ordr O) {k : Nat} (hk : k < O.length) : (backL O)[O[k].toNat]? = some (k : Int) := by
  obtain ⟨h1, h2⟩ := h.rg O[k] (List.getElem_mem hk)
  have hm : O[k].toNat < O.length := by omega
  obtain ⟨k', hk', e1, e2⟩ := back_get h hm
  rw [List.getElem?_eq_getElem (by simpa [backL] using hm), e1]
  have : O[k'] = O[k] := by omega
  rw [nd_inj h.nd hk' hk this]
theorem back_ordr {O : List Int} (h : Ordr O) : Ordr (backL O) := by
  have hl : (backL O).length = O.length := by simp [backL]
  refine ⟨?_, fun m hm => ?_, fun m hm => ?_⟩
  · rw [List.nodup_iff_pairwise_ne, List.pairwise_iff_getElem]
    intro i j hi hj hij e
    obtain ⟨a, ha, e1, e2⟩ := back_get h (m := i) (by omega)
    obtain ⟨b, hb, e3, e4⟩ := back_get h (m := j) (by omega)
    rw [e1, e3] at e
    have : a = b := by omega
    subst this
    omega
  · obtain ⟨i, hi, rfl⟩ := List.getElem_of_mem hm
    obtain ⟨k, hk, e1, _⟩ := back_get h (m := i) (by omega)
    rw [e1, hl]; omega
  · have := back_of h (k := m) (by omega)
    exact List.mem_of_getElem? this
theorem turn_perm {O L : List Int} (h : Ordr O) (hl : L.length = O.length) : (turnL O L).Perm L := by
  have e : turnL (plainL O.length) L = L := by
    apply List.ext_getElem (by simp [turnL, hl])
    intro i h1 h2
    simp [turnL, plainL, h2]
  have : (turnL O L).Perm (turnL (plainL O.length) L) := h.perm.map _
  rw [e] at this; exact this
theorem turn_len (O L : List Int) : (turnL O L).length = O.length := by simp [turnL]
theorem turn_getD {O L : List Int} {k : Nat} (hk : k < O.length) : (turnL O L).getD k 0 = L.getD O[k].toNat 0 := by simp [turnL, hk]
theorem turn_back {O L : List Int} (h : Ordr O) (hl : L.length = O.length) : turnL (backL O) (turnL O L) = L := by
  apply List.ext_getElem (by simp [turnL, backL, hl])
  intro i h1 h2
  have hi : i < O.length := by omega
  obtain ⟨k, hk, e1, e2⟩ := back_get h hi
  have : (turnL (backL O) (turnL O L)).getD i 0 = L[i] := by
    rw [turn_getD (by simpa [backL] using hi), e1, Int.toNat_natCast, turn_getD hk, e2, Int.toNat_natCast]
    simp [h2]
  rw [← this]; simp [h1]
theorem turn_ins {O S c : List Int} (h : Ordr O) (hl : S.length = O.length) (hc : InS S c) : InS (turnL O S) (turnL O c) := by
  refine ⟨by simp [turn_len], fun i hi => ?_⟩
  rw [turn_len] at hi
  rw [turn_getD hi, turn_getD hi]
  have := h.rg O[i] (List.getElem_mem hi)
  exact hc.2 _ (by omega)
theorem turn_check {O S : List Int} {E : List (List Int × Int)} (h : Ordr O) (hl : S.length = O.length) (hc : cooCheck S E = 0) : cooCheck (turnL O S) (E.map fun t => (turnL O t.1, t.2)) = 0 := by
  obtain ⟨_, h2, h3, h4⟩ := cooCheck_len hc
  have ec := cells_perm (turn_perm h hl) h3
  unfold cooCheck
  rw [if_neg (by rw [ec]; omega), if_neg (by simp; omega), if_neg]
  simp only [List.any_eq_true, decide_eq_true_eq, not_exists, not_and]
  intro t ht
  obtain ⟨u, hu, rfl⟩ := List.mem_map.1 ht
  have := atF_of (by rw [ec]; exact h3) (turn_ins h hl (atF_ins (h4 u hu)))
  simp only
  omega
theorem order_of {X : List Int × List (List Int × Int)} {O : List Int} (hO : O ≠ []) (h : (turnF X O).2 = 0) : cooCheck X.1 X.2 = 0 ∧ Ordr O ∧ X.1.length = O.length ∧ (turnF X O).1 = (turnL O X.1, X.2.map fun t => (turnL O t.1, t.2)) := by
  have h1 : (orderF X O).2 = 0 := by
    unfold turnF at h
    split at h
    · exact h
    · rename_i h1; omega
  obtain ⟨hc, hp⟩ := orderF_ok h1
  have e : (orderF X O).1 = O := by
    unfold orderF at h1 ⊢
    rw [if_neg (by omega), if_neg hO] at h1 ⊢
    split at h1
    · simp at h1
    · rename_i h2; rw [if_neg h2]
  rw [e] at hp
  obtain ⟨ho, hl⟩ := Ordr.of hp
  refine ⟨hc, ho, hl.symm, ?_⟩
  unfold turnF
  rw [if_neg (by omega), e]
theorem turn_there {X : List Int × List (List Int × Int)} {O : List Int} (hO : O ≠ []) (h : (turnF X O).2 = 0) : turnF (turnF X O).1 (backL O) = (X, 0) := by
  obtain ⟨hc, ho, hl, e⟩ := order_of hO h
  have hb := back_ordr ho
  have hbl : (backL O).length = O.length := by simp [backL]
  have hb0 : backL O ≠ [] := fun e => by rw [e] at hbl; exact hO (List.length_eq_zero_iff.1 hbl.symm)
  rw [e]
  have hc2 := turn_check ho hl hc
  have hs : sortI (backL O) = plainL (turnL O X.1).length := by
    rw [sortI_plain]
    refine ⟨by rw [hbl, turn_len], List.all_eq_true.2 fun i hi => ?_⟩
    rw [turn_len] at hi
    rw [many_perm hb.perm, many_plain (by rw [hbl]; exact List.mem_range.1 hi)]; rfl
  have ho2 : orderF (turnL O X.1, X.2.map fun t => (turnL O t.1, t.2)) (backL O) = (backL O, 0) := by
    unfold orderF
    simp only
    rw [if_neg (by omega), if_neg hb0, if_neg (by rw [hs]; simp)]
  unfold turnF
  rw [ho2]
  simp only [ne_eq, not_true_eq_false, if_false, turn_back ho hl, List.map_map]
  refine Prod.ext (Prod.ext rfl ?_) rfl
  simp only
  conv => rhs; rw [← List.map_id X.2]
  apply List.map_congr_left
  intro t ht
  have := atF_len ((cooCheck_len hc).2.2.2 t ht)
  simp [turn_back ho (by omega : t.1.length = O.length)]
theorem cdF_err {S : List Int} {E : List (List Int × Int)} (h : cooCheck S E = 0) : (cdF (S, E)).2 = (zeroF S).2 := by
  unfold cdF
  simp only
  rw [if_neg (by omega)]
  by_cases hz : (zeroF S).2 = 0
  · rw [if_neg (by omega), hz]
  · rw [if_pos hz]
theorem turn_err {X : List Int × List (List Int × Int)} {O : List Int} (hO : O ≠ []) (h : (turnF X O).2 = 0) : (cdF (turnF X O).1).2 = (cdF X).2 := by
  obtain ⟨hc, ho, hl, e⟩ := order_of hO h
  have hc2 := turn_check ho hl hc
  have ec := cells_perm (turn_perm ho hl) (cooCheck_len hc).2.2.1
  rw [e]
  have ez : (zeroF (turnL O X.1)).2 = (zeroF X.1).2 := by
    unfold zeroF laidF
    rw [ec]
    split <;> first | rfl | (split <;> rfl)
  rw [cdF_err hc2, cdF_err hc, ez]
theorem turn_cell {X : List Int × List (List Int × Int)} {O : List Int} (hO : O ≠ []) (h : (turnF X O).2 = 0) (hd : (cdF X).2 = 0) {s : List Int × Int} (hs : s ∈ X.2) : getF (cdF (turnF X O).1).1 (turnL O s.1) = ((getF (cdF X).1 s.1).1, 0) ∧ (getF (cdF X).1 s.1).2 = 0 := by
  have hd2 := turn_err hO h
  rw [hd] at hd2
  obtain ⟨hc, ho, hl, e⟩ := order_of hO h
  rw [e] at hd2 ⊢
  obtain ⟨c1, z1, s1, k1, n, hn, hn2, l1, v1⟩ := cdF_ok hd
  obtain ⟨c2, z2, s2, k2, n', hn', hn2', l2, v2⟩ := cdF_ok hd2
  simp only at c2 s2 hn' v2
  have hat := (cooCheck_len hc).2.2.2
  have hcs := (cooCheck_len hc).2.2.1
  have ec := cells_perm (turn_perm ho hl) hcs
  have hat2 : ∀ t ∈ X.2, (atF (turnL O X.1) (turnL O t.1)).2 = 0 := fun t ht => atF_of (by rw [ec]; exact hcs) (turn_ins ho hl (atF_ins (hat t ht)))
  have a1 := hat s hs
  have a2 := hat2 s hs
  have lt1 := atF_lt hcs a1
  have lt2 := atF_lt (by rw [ec]; exact hcs) a2
  have g1 : getF (cdF X).1 s.1 = (IntKind.i64.wrap (sumV (posL X.1 (atF X.1 s.1).1.toNat X.2)), 0) := by
    unfold getF
    rw [if_neg (by omega), s1, if_neg (by omega), v1 _ (by omega)]
  rw [g1]
  refine ⟨?_, rfl⟩
  unfold getF
  rw [if_neg (by omega), s2, if_neg (by omega), v2 _ (by omega)]
  congr 2
  have ef : posL (turnL O X.1) (atF (turnL O X.1) (turnL O s.1)).1.toNat (X.2.map fun t => (turnL O t.1, t.2)) = (posL X.1 (atF X.1 s.1).1.toNat X.2).map fun t => (turnL O t.1, t.2) := by
    unfold posL
    rw [List.filter_map]
    congr 1
    apply List.filter_congr
    intro t ht
    have b1 := hat t ht
    have b2 := hat2 t ht
    have m1 := atF_lt hcs b1
    have m2 := atF_lt (by rw [ec]; exact hcs) b2
    simp only [Function.comp, decide_eq_decide]
    constructor
    · intro e
      have := atF_inj (by rw [ec]; exact hcs) b2 a2 (by omega)
      have h3 : t.1 = s.1 := by
        have q1 := turn_back ho (L := t.1) (by rw [atF_len b1]; exact hl)
        have q2 := turn_back ho (L := s.1) (by rw [atF_len a1]; exact hl)
        rw [← q1, ← q2, this]
      rw [h3]
    · intro e
      have := atF_inj hcs b1 a1 (by omega)
      rw [this]
  rw [ef]
  simp [sumV, Function.comp_def]
end Go.Fw
