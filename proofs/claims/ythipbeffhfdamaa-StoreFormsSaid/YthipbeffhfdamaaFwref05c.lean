import Derived.Test.YthipbeffhfdamaaFwref05b
namespace Go.Fw
open Go Go.RowKit Go.Proofs
set_option maxRecDepth 100000
set_option linter.unusedSimpArgs false
set_option linter.unusedVariables false

/-- The two readings of a form, as far as it is read. -/
def Both (L : Nat) (M : List (Bool × Int)) (P B : List Int) : Prop :=
  P.length = L ∧ B.length = L ∧ L ≤ M.length ∧ ∀ j (h1 : j < M.length) (h2 : j < P.length) (h3 : j < B.length), P[j] = (if M[j].1 = true then 1 else 0) ∧ B[j] = (if M[j].2 = 0 then 0 else 1) ∧ 0 ≤ M[j].2
def Over (P B : List Int) : Prop := (∃ j, ∃ h : j < P.length, 2 ≤ P[j]) ∨ ∃ j, ∃ h : j < B.length, 2 ≤ B[j]

theorem isStep_over {xs : List Int} {s : Int × Int × Int} {P B P' B' : List Int} {b : Int} (h : isStep xs s P B b = some (P', B')) (ho : Over P B) : Over P' B' := by
  have inc : ∀ (Q : List Int) (i : Nat), (∃ j, ∃ h : j < Q.length, 2 ≤ Q[j]) → ∃ j, ∃ h : j < (Q.set i (Q.getD i 0 + 1)).length, 2 ≤ (Q.set i (Q.getD i 0 + 1))[j] := by
    rintro Q i ⟨j, hj, hq⟩
    refine ⟨j, by simpa using hj, ?_⟩
    rw [List.getElem_set]
    split
    · rename_i e
      subst e
      have : Q.getD i 0 = Q[i] := by simp [hj]
      omega
    · exact hq
  unfold isStep at h
  split at h
  · cases h
  · split at h
    · cases h
    · split at h
      · split at h
        · cases h
        · cases h
          rcases ho with ho | ho
          · exact .inl ho
          · exact .inr (inc _ _ ho)
      · split at h
        · cases h
        · cases h
          rcases ho with ho | ho
          · exact .inl (inc _ _ ho)
          · exact .inr ho
theorem isEnd_over : ∀ {P B : List Int}, P.length = B.length → Over P B → isEnd P B = false
  | [], [], _, h => by
    rcases h with ⟨j, h, _⟩ | ⟨j, h, _⟩ <;> simp at h
  | p :: P, b :: B, hl, h => by
    simp only [isEnd]
    by_cases hp : p = 1
    · by_cases hb : 1 < b
      · simp [hb]
      · have : Over P B := by
          rcases h with ⟨j, h, h2⟩ | ⟨j, h, h2⟩
          · cases j with
            | zero => simp at h2; omega
            | succ j => exact .inl ⟨j, by simpa using h, by simpa using h2⟩
          · cases j with
            | zero => simp at h2; omega
            | succ j => exact .inr ⟨j, by simpa using h, by simpa using h2⟩
        rw [isEnd_over (by simpa using hl) this]
        simp
    · simp [hp]
  | [], _ :: _, hl, _ => by simp at hl
  | _ :: _, [], hl, _ => by simp at hl
theorem isStep_len {xs : List Int} {s : Int × Int × Int} {P B P' B' : List Int} {b : Int} (h : isStep xs s P B b = some (P', B')) : P'.length = P.length ∧ B'.length = B.length := by
  unfold isStep at h
  split at h
  · cases h
  · split at h
    · cases h
    · split at h
      · split at h
        · cases h
        · cases h; simp
      · split at h
        · cases h
        · cases h; simp
theorem isGo_over {xs : List Int} : ∀ (fs : List (Int × Int × Int)) {P B : List Int} {b : Int}, P.length = B.length → Over P B → ∀ q, isGo xs fs P B b = some q → isEnd q.1 q.2 = false
  | [], P, B, b, hl, ho, q, h => by
    simp only [isGo, Option.some.injEq] at h
    subst h
    exact isEnd_over hl ho
  | s :: r, P, B, b, hl, ho, q, h => by
    simp only [isGo, Option.bind_eq_some_iff] at h
    obtain ⟨⟨P1, B1⟩, h1, h2⟩ := h
    obtain ⟨l1, l2⟩ := isStep_len h1
    exact isGo_over r (by omega) (isStep_over h1 ho) q h2

theorem step_both {xs : List Int} {s : Int × Int × Int} {M : List (Bool × Int)} {P B : List Int} {b : Int} (hb : Both xs.length M P B) :
    (∀ M', readStep xs s M b = some M' → ∃ P' B', isStep xs s P B b = some (P', B') ∧ Both xs.length M' P' B') ∧
    (readStep xs s M b = none → isStep xs s P B b = none ∨ ∃ P' B', isStep xs s P B b = some (P', B') ∧ Over P' B') := by
  obtain ⟨hP, hB, hM, hv⟩ := hb
  obtain ⟨k, mo, z⟩ := s
  by_cases c1 : mo < 0 ∨ (xs.length : Int) ≤ mo
  · have e1 : readStep xs (k, mo, z) M b = none := by simp only [readStep]; rw [if_pos c1]
    have e2 : isStep xs (k, mo, z) P B b = none := by simp only [isStep]; rw [if_pos (by omega)]
    exact ⟨fun M' h => (by rw [e1] at h; cases h), fun _ => .inl e2⟩
  obtain ⟨j, rfl⟩ : ∃ j : Nat, mo = j := ⟨mo.toNat, by omega⟩
  have hj : j < xs.length := by omega
  obtain ⟨v1, v2, v3⟩ := hv j (by omega) (by omega) (by omega)
  have gM : M.getD j (false, 0) = M[j]'(by omega) := by simp [List.getD, (by omega : j < M.length)]
  have gP : P.getD j 0 = P[j]'(by omega) := by simp [(by omega : j < P.length)]
  have gB : B.getD j 0 = B[j]'(by omega) := by simp [(by omega : j < B.length)]
  generalize hm : M[j]'(by omega) = mj at gM v1 v2 v3
  obtain ⟨met, blk⟩ := mj
  generalize hp : P[j]'(by omega) = pj at gP v1
  generalize hbj : B[j]'(by omega) = bj at gB v2
  simp only at v1 v2 v3
  have both' : ∀ (met' : Bool) (blk' p' b' : Int), p' = (if met' = true then 1 else 0) → b' = (if blk' = 0 then 0 else 1) → 0 ≤ blk' → Both xs.length (M.set j (met', blk')) (P.set j p') (B.set j b') := by
    intro met' blk' p' b' h1 h2 h3
    refine ⟨by simpa using hP, by simpa using hB, by simpa using hM, fun i g1 g2 g3 => ?_⟩
    simp only [List.getElem_set]
    by_cases e : j = i
    · simp only [e, if_true]; exact ⟨h1, h2, h3⟩
    · simp only [e, if_false]
      exact hv i (by simpa using g1) (by simpa using g2) (by simpa using g3)
  have setP : P.set j pj = P := by rw [← hp]; exact List.set_getElem_self (by omega)
  have setB : B.set j bj = B := by rw [← hbj]; exact List.set_getElem_self (by omega)
  by_cases c2 : k < 0 ∨ 4 < k
  · have e1 : readStep xs (k, (j : Int), z) M b = none := by simp only [readStep]; rw [if_neg c1, if_neg (by omega), if_neg (by omega)]
    have e2 : isStep xs (k, (j : Int), z) P B b = none := by simp only [isStep]; rw [if_pos (by omega)]
    exact ⟨fun M' h => (by rw [e1] at h; cases h), fun _ => .inl e2⟩
  have q1 : (b == 2) = decide (b = 2) := by by_cases h : b = 2 <;> simp [h]
  have q2 : (b == 3) = decide (b = 3) := by by_cases h : b = 3 <;> simp [h]
  have q3 : (k == 3) = decide (k = 3) := by by_cases h : k = 3 <;> simp [h]
  have hlo : ((b == 2 || b == 3) ≠ (k == 3)) ↔ ¬ ((b = 2 ∨ b = 3) ↔ k = 3) := by
    rw [q1, q2, q3]
    by_cases a1 : b = 2 <;> by_cases a2 : b = 3 <;> by_cases a3 : k = 3 <;> simp [a1, a2, a3]
  by_cases k4 : k = 4
  · subst k4
    have hlo4 : ((b == 2 || b == 3) ≠ ((4 : Int) == 3)) ↔ (b = 2 ∨ b = 3) := by rw [hlo]; omega
    have e1 : readStep xs (4, (j : Int), z) M b = if met = true ∧ blk = 0 ∧ ¬ (b = 2 ∨ b = 3) ∧ 0 < z ∧ (xs.getD j 0).tmod z = 0 then some (M.set j (met, z)) else none := by
      simp only [readStep]; rw [if_neg c1, if_neg (by omega), if_pos trivial, Int.toNat_natCast, gM]
    have e2 : isStep xs (4, (j : Int), z) P B b = if (b = 2 ∨ b = 3) then none else if pj = 0 ∨ z < 1 ∨ (xs.getD j 0).tmod z ≠ 0 then none else some (P, B.set j (bj + 1)) := by
      simp only [isStep]; rw [if_neg (by omega), Int.toNat_natCast, gP, gB]
      by_cases hl : b = 2 ∨ b = 3
      · rw [if_pos (hlo4.2 hl), if_pos hl]
      · rw [if_neg (fun h => hl (hlo4.1 h)), if_neg hl]; simp
    rw [e1, e2]
    by_cases hl : b = 2 ∨ b = 3
    · rw [if_neg (show ¬ (met = true ∧ blk = 0 ∧ ¬ (b = 2 ∨ b = 3) ∧ 0 < z ∧ (xs.getD j 0).tmod z = 0) from fun h => h.2.2.1 hl), if_pos hl]
      exact ⟨(by intro M' h; cases h), fun _ => .inl rfl⟩
    rw [if_neg (show ¬ (b = 2 ∨ b = 3) from hl)]
    by_cases hbad : pj = 0 ∨ z < 1 ∨ (xs.getD j 0).tmod z ≠ 0
    · rw [if_pos hbad, if_neg]
      · exact ⟨(by intro M' h; cases h), fun _ => .inl rfl⟩
      · rintro ⟨g1, g2, g3, g4, g5⟩
        rw [if_pos g1] at v1
        rcases hbad with h | h | h
        · omega
        · omega
        · exact h g5
    rw [if_neg hbad]
    have g1 : met = true := by
      by_cases hmt : met = true
      · exact hmt
      · rw [if_neg hmt] at v1
        exact absurd (.inl v1) hbad
    have g4 : 0 < z := by omega
    have g5 : (xs.getD j 0).tmod z = 0 := by
      by_cases h : (xs.getD j 0).tmod z = 0
      · exact h
      · exact absurd (.inr (.inr h)) hbad
    by_cases g2 : blk = 0
    · rw [if_pos ⟨g1, g2, hl, g4, g5⟩]
      refine ⟨fun M' h => ?_, (by intro h; cases h)⟩
      cases h
      refine ⟨P, _, rfl, ?_⟩
      have := both' met z pj (bj + 1) v1 (by rw [v2, if_pos g2, if_neg (by omega)]; rfl) (by omega)
      rw [setP] at this
      exact this
    · rw [if_neg (by intro h; exact g2 h.2.1)]
      refine ⟨(by intro M' h; cases h), fun _ => .inr ⟨P, _, rfl, .inr ⟨j, by simp; omega, ?_⟩⟩⟩
      rw [List.getElem_set_self, v2, if_neg g2]
      omega
  · have kk : k = 0 ∨ k = 1 ∨ k = 2 ∨ k = 3 := by omega
    have e1 : readStep xs (k, (j : Int), z) M b = if met = false ∧ z = 0 ∧ ((b = 2 ∨ b = 3) ↔ k = 3) then some (M.set j (true, blk)) else none := by
      simp only [readStep]; rw [if_neg c1, if_pos kk, Int.toNat_natCast, gM]
    have e2 : isStep xs (k, (j : Int), z) P B b = if ¬ ((b = 2 ∨ b = 3) ↔ k = 3) then none else if z ≠ 0 then none else some (P.set j (pj + 1), B) := by
      simp only [isStep]; rw [if_neg (by omega), Int.toNat_natCast, gP, if_neg k4]
      by_cases hl : ((b = 2 ∨ b = 3) ↔ k = 3)
      · rw [if_neg (show ¬ ((b == 2 || b == 3) ≠ (k == 3)) from fun h => (hlo.1 h) hl), if_neg (show ¬ ¬ ((b = 2 ∨ b = 3) ↔ k = 3) from fun h => h hl)]
      · rw [if_pos (hlo.2 hl), if_pos (show ¬ ((b = 2 ∨ b = 3) ↔ k = 3) from hl)]
    rw [e1, e2]
    by_cases hl : ((b = 2 ∨ b = 3) ↔ k = 3)
    case neg =>
      rw [if_neg (show ¬ (met = false ∧ z = 0 ∧ ((b = 2 ∨ b = 3) ↔ k = 3)) from fun h => hl h.2.2), if_pos (show ¬ ((b = 2 ∨ b = 3) ↔ k = 3) from hl)]
      exact ⟨(by intro M' h; cases h), fun _ => .inl rfl⟩
    rw [if_neg (show ¬ ¬ ((b = 2 ∨ b = 3) ↔ k = 3) from fun h => h hl)]
    by_cases hz : z = 0
    case neg =>
      rw [if_neg (show ¬ (met = false ∧ z = 0 ∧ ((b = 2 ∨ b = 3) ↔ k = 3)) from fun h => hz h.2.1), if_pos (show z ≠ 0 from hz)]
      exact ⟨(by intro M' h; cases h), fun _ => .inl rfl⟩
    rw [if_neg (show ¬ (z ≠ 0) from fun h => h hz)]
    cases met with
    | false =>
      rw [if_pos ⟨rfl, hz, hl⟩]
      refine ⟨fun M' h => ?_, (by intro h; cases h)⟩
      cases h
      refine ⟨_, B, rfl, ?_⟩
      have := both' true blk (pj + 1) bj (by rw [v1]; simp) v2 v3
      rw [setB] at this
      exact this
    | true =>
      rw [if_neg (by intro h; cases h.1)]
      refine ⟨(by intro M' h; cases h), fun _ => .inr ⟨_, B, rfl, .inl ⟨j, by simp; omega, ?_⟩⟩⟩
      rw [List.getElem_set_self, v1]
      simp
end Go.Fw
