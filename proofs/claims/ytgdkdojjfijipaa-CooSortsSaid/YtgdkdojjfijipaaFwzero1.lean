import Derived.Test.YtgdkdojjfijipaaFwbox3
namespace Go.Fw
open Go Go.RowKit Go.Proofs
set_option maxRecDepth 100000
set_option linter.unusedSimpArgs false
set_option linter.unusedVariables false

theorem ISl.of {xs : List Int} (c : Option Nat) (h1 : xs.length ≤ 9223372036854775807) (h2 : ∀ x ∈ xs, -9223372036854775808 ≤ x ∧ x ≤ 9223372036854775807) : ISl (.imm false c 1 (xs.map I)) xs :=
  ⟨⟨false, c, 1, rfl, by simp, by simp⟩, h1, h2⟩

theorem ISl.nil : ISl (.imm true none 0 []) [] := ⟨⟨true, none, 0, rfl, by simp, by simp⟩, by simp, by simp⟩

/-- A tensor: its shape, its numbers. -/
def Dn (d : AV) (D : List Int × List Int) : Prop := ∃ s v, d = .agg [s, v] ∧ ISl s D.1 ∧ ISl v D.2

def zeroF (xs : List Int) : (List Int × List Int) × Int :=
  if (laidF xs).2 ≠ 0 then (([], []), (laidF xs).2) else ((xs, List.replicate (laidF xs).1.toNat 0), 0)

theorem map_replicate_I (n : Nat) : List.replicate n (I 0) = (List.replicate n (0 : Int)).map I := by simp

theorem Zero_pure {a : AV} {xs : List Int} (ha : ISl a xs) : ACalls Try.prog 59 [a] [] fun r H' => H' = [] ∧ ∃ d, r = .tup [d, I (zeroF xs).2] ∧ Dn d (zeroF xs).1 := by
  refine ((Zero_spec ha).frozen 8).mono ?_
  rintro q H' ⟨rfl, r, G, ⟨e, ⟨h1, h2, rfl⟩ | ⟨rfl, h2, s, j, n, hn, rfl, hj, hs⟩⟩, rfl⟩
  · refine ⟨rfl, _, by simp [zeroF, h2, h1]; rfl, ?_⟩
    simp only [zeroF, h2]
    rw [if_pos h1]
    exact ⟨_, _, rfl, ISl.nil, ISl.nil⟩
  · obtain ⟨hl, n', hn', hb⟩ := laid_ok h2
    have hnn : n' = n := by omega
    subst hnn
    refine ⟨rfl, _, by simp [zeroF, h2]; rfl, ?_⟩
    have ez : (zeroF xs).1 = (xs, List.replicate n' 0) := by simp [zeroF, h2, hn]
    rw [ez]
    refine ⟨_, _, rfl, ?_, ?_⟩
    · rcases hs with ⟨h0, nl, c, sz, rfl, hs⟩ | ⟨k, hk, rfl, hG⟩
      · exact ⟨⟨nl, c, sz, by simp [h0], ⟨fun _ => h0, hs⟩⟩, ha.2⟩
      · refine ⟨⟨false, none, 1, ?_, by simp, by simp⟩, ha.2⟩
        simp [hG]
    · refine ⟨⟨false, none, 1, ?_, by simp, by simp⟩, by simp; omega, ?_⟩
      · simp [hj]
      · intro x hx
        simp at hx
        omega

theorem mulAll_ge : ∀ (xs : List Int) (m : Int), (∀ x ∈ xs, 1 ≤ x) → 1 ≤ m → m < 4611686018427387904 → (mulAll xs m).2 = 0 → m ≤ (mulAll xs m).1 ∧ (mulAll xs m).1 < 4611686018427387904
  | [], m, _, _, h2, _ => by simp [mulAll, h2]
  | s :: r, m, hx, h1, h2, h => by
    simp only [mulAll] at h ⊢
    by_cases hc : m * s ≥ 4611686018427387904
    · rw [if_pos hc] at h; simp at h
    · rw [if_neg hc] at h ⊢
      have hs := hx s (by simp)
      have hm : m * 1 ≤ m * s := Int.mul_le_mul_of_nonneg_left hs (by omega)
      have := mulAll_ge r (m * s) (fun x h => hx x (by simp [h])) (by omega) (by omega) h
      omega

theorem atGo_lt : ∀ (xs cs : List Int) (n m : Int), (∀ x ∈ xs, 1 ≤ x) → 1 ≤ m → m < 4611686018427387904 → (mulAll xs m).2 = 0 → 0 ≤ n → n < m → cs.length = xs.length → (atGo xs cs n).2 = 0 →
    0 ≤ (atGo xs cs n).1 ∧ (atGo xs cs n).1 < (mulAll xs m).1
  | [], [], n, m, _, _, _, _, h0, h1, _, _ => by simp [atGo, mulAll, h0, h1]
  | [], c :: q, n, m, _, _, _, _, _, _, hl, _ => by simp at hl
  | s :: r, [], n, m, _, _, _, _, _, _, hl, _ => by simp at hl
  | s :: r, c :: q, n, m, hx, hm1, hm2, h, h0, h1, hl, ha => by
    simp only [mulAll] at h ⊢
    simp only [atGo] at ha ⊢
    by_cases hc : m * s ≥ 4611686018427387904
    · rw [if_pos hc] at h; simp at h
    · rw [if_neg hc] at h ⊢
      by_cases hb : c < 0 ∨ s ≤ c
      · rw [if_pos hb] at ha; simp at ha
      · rw [if_neg hb] at ha ⊢
        have hs := hx s (by simp)
        have hm : m * 1 ≤ m * s := Int.mul_le_mul_of_nonneg_left hs (by omega)
        have e1 : n * s ≤ (m - 1) * s := Int.mul_le_mul_of_nonneg_right (by omega) (by omega)
        have e2 : 0 ≤ n * s := Int.mul_nonneg h0 (by omega)
        rw [Int.sub_mul] at e1
        have w1 := wrap_i64 (n := n * s) (by omega) (by omega)
        have w2 := wrap_i64 (n := n * s + c) (by omega) (by omega)
        rw [w1, w2] at ha ⊢
        exact atGo_lt r q _ _ (fun x h => hx x (by simp [h])) (by omega) (by omega) h (by omega) (by omega) (by simpa using hl) ha
theorem atGo_zero : ∀ (xs cs : List Int) (n : Int), cs.length = xs.length → 0 ∈ xs → (atGo xs cs n).2 ≠ 0
  | [], cs, n, _, h => by simp at h
  | s :: r, [], n, hl, _ => by simp at hl
  | s :: r, c :: q, n, hl, h => by
    simp only [atGo]
    by_cases hb : c < 0 ∨ s ≤ c
    · rw [if_pos hb]; simp
    · rw [if_neg hb]
      have hs : s ≠ 0 := by omega
      rcases List.mem_cons.1 h with h | h
      · exact absurd h.symm hs
      · exact atGo_zero r q _ (by simpa using hl) h
theorem atF_lt {xs cs : List Int} (h : (cells xs).2 = 0) (ha : (atF xs cs).2 = 0) : 0 ≤ (atF xs cs).1 ∧ (atF xs cs).1 < (cells xs).1 := by
  unfold atF at *
  rw [if_neg (by simpa using h)] at *
  by_cases hl : cs.length = xs.length
  · rw [if_neg (by simpa using hl)] at *
    by_cases h0 : 0 ∈ xs
    · exact absurd ha (atGo_zero xs cs 0 hl h0)
    · unfold cells at *
      split at h
      · simp at h
      · rename_i h1
        rw [if_neg h1, if_neg h0] at *
        have hx : ∀ x ∈ xs, 1 ≤ x := by
          intro x hx
          have : ¬ (xs.any fun x => decide (x < 0)) = true := fun h => h1 (.inr h)
          simp at this
          have := this x hx
          have : x ≠ 0 := by rintro rfl; exact h0 hx
          omega
        exact atGo_lt xs cs 0 1 hx (by omega) (by omega) h (by omega) (by omega) hl ha
  · rw [if_pos hl] at ha; simp at ha

end Go.Fw
