import Derived.Test.YthipbeffhfdamaaFwref05c
namespace Go.Fw
open Go Go.RowKit Go.Proofs
set_option maxRecDepth 100000
set_option linter.unusedSimpArgs false
set_option linter.unusedVariables false

theorem isEnd_iff : ∀ {P B : List Int}, P.length = B.length → (isEnd P B = true ↔ ∀ j (h1 : j < P.length) (h2 : j < B.length), P[j] = 1 ∧ ¬ 1 < B[j])
  | [], [], _ => ⟨fun _ j h => by simp at h, fun _ => rfl⟩
  | p :: P, b :: B, hl => by
    have ih := isEnd_iff (P := P) (B := B) (by simpa using hl)
    simp only [isEnd, Bool.and_eq_true, decide_eq_true_eq, Bool.not_eq_true', decide_eq_false_iff_not]
    constructor
    · rintro ⟨⟨h1, h2⟩, h3⟩ j g1 g2
      cases j with
      | zero => exact ⟨h1, h2⟩
      | succ j => exact ih.1 h3 j (by simpa using g1) (by simpa using g2)
    · intro h
      have h0 := h 0 (by simp) (by simp)
      exact ⟨⟨h0.1, h0.2⟩, ih.2 fun j g1 g2 => h (j + 1) (by simpa using g1) (by simpa using g2)⟩
  | [], _ :: _, hl => by simp at hl
  | _ :: _, [], hl => by simp at hl

theorem go_both {xs : List Int} : ∀ (fs : List (Int × Int × Int)) {M : List (Bool × Int)} {P B : List Int} {b : Int}, Both xs.length M P B →
    (∀ M', readGo xs fs M b = some M' → ∃ P' B', isGo xs fs P B b = some (P', B') ∧ Both xs.length M' P' B') ∧
    (readGo xs fs M b = none → isGo xs fs P B b = none ∨ ∃ q, isGo xs fs P B b = some q ∧ isEnd q.1 q.2 = false)
  | [], M, P, B, b, hb => ⟨fun M' h => by simp only [readGo, Option.some.injEq] at h; subst h; exact ⟨P, B, rfl, hb⟩, fun h => by simp [readGo] at h⟩
  | s :: r, M, P, B, b, hb => by
    obtain ⟨s1, s2⟩ := step_both (s := s) (b := b) hb
    have hPB : P.length = B.length := by rw [hb.1, hb.2.1]
    cases hr : readStep xs s M b with
    | none =>
      refine ⟨fun M' h => by simp [readGo, hr] at h, fun _ => ?_⟩
      rcases s2 hr with h | ⟨P1, B1, h, ho⟩
      · exact .inl (by simp [isGo, h])
      · obtain ⟨l1, l2⟩ := isStep_len h
        cases hg : isGo xs r P1 B1 s.1 with
        | none => exact .inl (by simp [isGo, h, hg])
        | some q => exact .inr ⟨q, by simp [isGo, h, hg], isGo_over r (by omega) ho q hg⟩
    | some M1 =>
      obtain ⟨P1, B1, h, hb1⟩ := s1 M1 hr
      obtain ⟨g1, g2⟩ := go_both r (b := s.1) hb1
      have e1 : readGo xs (s :: r) M b = readGo xs r M1 s.1 := by simp [readGo, hr]
      have e2 : isGo xs (s :: r) P B b = isGo xs r P1 B1 s.1 := by simp [isGo, h]
      rw [e1, e2]
      exact ⟨g1, g2⟩

def tot : List Int → Int
  | [] => 0
  | x :: r => x + tot r
theorem tot_set : ∀ (l : List Int) (j : Nat) (v : Int), j < l.length → tot (l.set j v) = tot l - l.getD j 0 + v
  | x :: r, 0, v, _ => by simp [tot]; omega
  | x :: r, j + 1, v, h => by
    have := tot_set r j v (by simpa using h)
    simp only [List.set_cons_succ, tot, this, List.getD_cons_succ]
    omega
theorem tot_le : ∀ (l : List Int), (∀ x ∈ l, x ≤ 1) → tot l ≤ l.length
  | [], _ => by simp [tot]
  | x :: r, h => by
    have h1 := h x (by simp)
    have h2 := tot_le r fun y hy => h y (by simp [hy])
    simp only [tot, List.length_cons]
    omega
theorem tot_zero : ∀ n : Nat, tot (List.replicate n 0) = 0
  | 0 => rfl
  | n + 1 => by rw [List.replicate_succ, tot, tot_zero n]; rfl
theorem isStep_tot {xs : List Int} {s : Int × Int × Int} {P B P' B' : List Int} {b : Int} (hP : P.length = xs.length) (hB : B.length = xs.length) (h : isStep xs s P B b = some (P', B')) : tot P' + tot B' = tot P + tot B + 1 := by
  unfold isStep at h
  split at h
  · cases h
  · rename_i h1
    split at h
    · cases h
    · split at h
      · split at h
        · cases h
        · cases h
          rw [tot_set _ _ _ (by omega)]; omega
      · split at h
        · cases h
        · cases h
          rw [tot_set _ _ _ (by omega)]; omega
theorem isGo_tot {xs : List Int} : ∀ (fs : List (Int × Int × Int)) {P B P' B' : List Int} {b : Int}, P.length = xs.length → B.length = xs.length → isGo xs fs P B b = some (P', B') → tot P' + tot B' = tot P + tot B + fs.length
  | [], P, B, P', B', b, _, _, h => by
    simp only [isGo, Option.some.injEq, Prod.mk.injEq] at h
    obtain ⟨rfl, rfl⟩ := h
    simp
  | s :: r, P, B, P', B', b, hP, hB, h => by
    simp only [isGo, Option.bind_eq_some_iff] at h
    obtain ⟨⟨P1, B1⟩, h1, h2⟩ := h
    obtain ⟨l1, l2⟩ := isStep_len h1
    have a1 := isStep_tot hP hB h1
    have a2 := isGo_tot r (by simp only; omega) (by simp only; omega) h2
    simp only [List.length_cons]
    simp only at a2
    omega

/-- Both readings of a form say the same. -/
theorem isF_read {xs : List Int} {fs : List (Int × Int × Int)} (hx : xs.length ≤ 4) : isF xs fs = (readF xs fs).isSome := by
  have h0 : Both xs.length (List.replicate 4 (false, 0)) (List.replicate xs.length 0) (List.replicate xs.length 0) := ⟨by simp, by simp, by simpa using hx, fun j h1 h2 h3 => by simp only [List.getElem_replicate]; simp⟩
  obtain ⟨g1, g2⟩ := go_both fs (b := 0) h0
  cases hr : readGo xs fs (List.replicate 4 (false, 0)) 0 with
  | none =>
    have e : readF xs fs = none := by rw [readF, hr]; rfl
    rw [e]
    show isF xs fs = false
    unfold isF
    split
    · rfl
    · rcases g2 hr with h | ⟨q, h, hq⟩
      · rw [h]
      · rw [h]; exact hq
  | some M =>
    obtain ⟨P, B, hi, hP, hB, hM, hv⟩ := g1 M hr
    have hv1 : ∀ x ∈ P, x ≤ 1 := by
      intro x hx'
      obtain ⟨j, hj, rfl⟩ := List.getElem_of_mem hx'
      rw [(hv j (by omega) hj (by omega)).1]
      split <;> omega
    have hv2 : ∀ x ∈ B, x ≤ 1 := by
      intro x hx'
      obtain ⟨j, hj, rfl⟩ := List.getElem_of_mem hx'
      rw [(hv j (by omega) (by omega) hj).2.1]
      split <;> omega
    have t1 := isGo_tot fs (by simp) (by simp) hi
    rw [tot_zero] at t1
    have t2 := tot_le P hv1
    have t3 := tot_le B hv2
    have e1 : isF xs fs = isEnd P B := by
      unfold isF
      rw [if_neg (by omega), hi]
    have e2 : (isEnd P B = true ↔ (M.take xs.length).all (·.1) = true) := by
      rw [isEnd_iff (by omega), List.all_eq_true]
      constructor
      · intro h p hp
        obtain ⟨j, hj, rfl⟩ := List.mem_take_iff_getElem.1 hp
        have h1 := (h j (by omega) (by omega)).1
        rw [(hv j (by omega) (by omega) (by omega)).1] at h1
        split at h1
        · assumption
        · omega
      · intro h j h1 h2
        have hj : M[j]'(by omega) ∈ M.take xs.length := List.mem_take_iff_getElem.2 ⟨j, by omega, rfl⟩
        have h3 := h _ hj
        obtain ⟨a1, a2, _⟩ := hv j (by omega) h1 h2
        rw [a1, a2, if_pos h3]
        refine ⟨rfl, ?_⟩
        split <;> omega
    rw [e1, readF, hr]
    show isEnd P B = (if (M.take xs.length).all (·.1) = true then some M else none).isSome
    by_cases h : (M.take xs.length).all (·.1) = true
    · rw [if_pos h, e2.2 h]; rfl
    · rw [if_neg h]
      have : ¬ isEnd P B = true := fun hh => h (e2.1 hh)
      simpa using this
end Go.Fw
