import Derived.Test.YtgdkdojjfijipaaFwzero1
import Derived.Test.YtgdkdojjfijipaaFwref02b
namespace Go.Fw
open Go Go.RowKit Go.Proofs
set_option maxRecDepth 100000
set_option linter.unusedSimpArgs false
set_option linter.unusedVariables false

def prd : List Int → Int
  | [] => 1
  | x :: r => x * prd r
theorem prd_pos : ∀ {xs : List Int}, (∀ x ∈ xs, 1 ≤ x) → 1 ≤ prd xs
  | [], _ => by simp [prd]
  | x :: r, h => by
    have h1 := h x (by simp)
    have h2 := prd_pos (xs := r) fun y hy => h y (by simp [hy])
    simp only [prd]
    have := Int.mul_le_mul h1 h2 (by omega) (by omega)
    omega
theorem prd_append : ∀ (xs ys : List Int), prd (xs ++ ys) = prd xs * prd ys
  | [], ys => by simp [prd]
  | x :: r, ys => by simp only [List.cons_append, prd, prd_append r ys, Int.mul_assoc]
theorem mulAll_prd : ∀ (xs : List Int) (n : Int), (∀ x ∈ xs, 1 ≤ x) → 1 ≤ n → (mulAll xs n).2 = 0 → (mulAll xs n).1 = n * prd xs
  | [], n, _, _, _ => by simp [mulAll, prd]
  | s :: r, n, hx, h1, h => by
    simp only [mulAll] at h ⊢
    by_cases hc : n * s ≥ 4611686018427387904
    · rw [if_pos hc] at h; simp at h
    · rw [if_neg hc] at h ⊢
      have hs := hx s (by simp)
      have hm : n * 1 ≤ n * s := Int.mul_le_mul_of_nonneg_left hs (by omega)
      rw [mulAll_prd r (n * s) (fun x h => hx x (by simp [h])) (by omega) h]
      simp only [prd, Int.mul_assoc]
theorem mulAll_ok : ∀ (xs : List Int) (n : Int), (∀ x ∈ xs, 1 ≤ x) → 1 ≤ n → n * prd xs < 4611686018427387904 → mulAll xs n = (n * prd xs, 0)
  | [], n, _, _, _ => by simp [mulAll, prd]
  | s :: r, n, hx, h1, h => by
    have hs := hx s (by simp)
    have hr := prd_pos (xs := r) fun y hy => hx y (by simp [hy])
    have hm : n * 1 ≤ n * s := Int.mul_le_mul_of_nonneg_left hs (by omega)
    simp only [prd] at h ⊢
    rw [← Int.mul_assoc] at h ⊢
    have h2 : n * s * 1 ≤ n * s * prd r := Int.mul_le_mul_of_nonneg_left hr (by omega)
    simp only [mulAll]
    rw [if_neg (by omega), mulAll_ok r (n * s) (fun x h => hx x (by simp [h])) (by omega) h]
theorem cells_pos {xs : List Int} (hx : ∀ x ∈ xs, 1 ≤ x) (hl : xs.length ≤ 4) (h : prd xs < 4611686018427387904) : cells xs = (prd xs, 0) := by
  unfold cells
  rw [if_neg, if_neg, mulAll_ok xs 1 hx (by omega) (by omega), Int.one_mul]
  · intro h0
    have := hx 0 h0
    omega
  · rintro (h1 | h1)
    · omega
    · rw [List.any_eq_true] at h1
      obtain ⟨x, h2, h3⟩ := h1
      have := hx x h2
      simp at h3
      omega
theorem cells_nz {xs : List Int} (h : (cells xs).2 = 0) (h0 : 0 < (cells xs).1) : (∀ x ∈ xs, 1 ≤ x) ∧ (cells xs).1 = prd xs := by
  unfold cells at h h0 ⊢
  split at h
  · simp at h
  · rename_i h1
    rw [if_neg h1] at h0 ⊢
    split at h
    · rename_i h2
      rw [if_pos h2] at h0
      simp at h0
    · rename_i h2
      rw [if_neg h2] at h0 ⊢
      have hx : ∀ x ∈ xs, 1 ≤ x := by
        intro x hx
        have : ¬ (xs.any fun x => decide (x < 0)) = true := fun h => h1 (.inr h)
        simp at this
        have := this x hx
        have : x ≠ 0 := by rintro rfl; exact h2 hx
        omega
      exact ⟨hx, by rw [mulAll_prd xs 1 hx (by omega) h, Int.one_mul]⟩
theorem split_at {xs : List Int} {m : Nat} (hm : m < xs.length) : xs = xs.take m ++ xs[m] :: xs.drop (m + 1) := by
  rw [← List.drop_eq_getElem_cons hm, List.take_append_drop]
theorem prd_split {xs : List Int} {m : Nat} (hm : m < xs.length) : prd xs = prd (xs.take m) * (xs[m] * prd (xs.drop (m + 1))) ∧ prd (xs.eraseIdx m) = prd (xs.take m) * prd (xs.drop (m + 1)) := by
  refine ⟨?_, by rw [List.eraseIdx_eq_take_drop_succ, prd_append]⟩
  have := prd_append (xs.take m) (xs[m] :: xs.drop (m + 1))
  rw [← split_at hm] at this
  rw [this]; rfl
end Go.Fw
namespace Go.Fw
open Go Go.RowKit Go.Proofs
set_option maxRecDepth 100000
set_option linter.unusedSimpArgs false
set_option linter.unusedVariables false

/-- A number's place. -/
def placeF : List Int → Int → List Int
  | [], _ => []
  | s :: r, n => ((n / prd r) % s) :: placeF r n
theorem placeF_len : ∀ (xs : List Int) (n : Int), (placeF xs n).length = xs.length
  | [], _ => rfl
  | s :: r, n => by simp only [placeF, List.length_cons, placeF_len r n]
theorem placeF_get : ∀ (xs : List Int) (n : Int) (k : Nat) (h : k < (placeF xs n).length) (h' : k < xs.length), (placeF xs n)[k] = (n / prd (xs.drop (k + 1))) % xs[k]
  | [], _, k, h, _ => by simp [placeF] at h
  | s :: r, n, 0, _, _ => by simp [placeF]
  | s :: r, n, k + 1, h, h' => by
    simp only [placeF, List.getElem_cons_succ, List.drop_succ_cons]
    exact placeF_get r n k _ _

theorem numGo_place : ∀ (r : List Int) (a n : Int), (∀ x ∈ r, 1 ≤ x) → 0 ≤ a → 0 ≤ n → (a + 1) * prd r ≤ 4611686018427387904 → numGo r (placeF r n) a = a * prd r + n % prd r
  | [], a, n, _, _, _, _ => by simp [numGo, placeF, prd, Int.emod_one]
  | s :: r, a, n, hx, ha, hn, hb => by
    have hs := hx s (by simp)
    have hp := prd_pos (xs := r) fun y hy => hx y (by simp [hy])
    simp only [placeF, numGo, prd] at hb ⊢
    obtain ⟨c, hc⟩ : ∃ c, c = (n / prd r) % s := ⟨_, rfl⟩
    have c0 : 0 ≤ c := by rw [hc]; exact Int.emod_nonneg _ (by omega)
    have c1 : c < s := by rw [hc]; exact Int.emod_lt_of_pos _ (by omega)
    rw [← hc]
    have e1 : (a + 1) * (s * prd r) = (a * s + s) * prd r := by rw [← Int.mul_assoc, Int.add_mul, Int.one_mul]
    have e2 : (a * s + c + 1) * prd r ≤ (a * s + s) * prd r := Int.mul_le_mul_of_nonneg_right (by omega) (by omega)
    have e3 : 0 ≤ a * s := Int.mul_nonneg ha (by omega)
    have e4 : (a * s + s) * 1 ≤ (a * s + s) * prd r := Int.mul_le_mul_of_nonneg_left hp (by omega)
    rw [wrap_i64 (n := a * s) (by omega) (by omega), wrap_i64 (n := a * s + c) (by omega) (by omega)]
    rw [numGo_place r (a * s + c) n (fun y hy => hx y (by simp [hy])) (by omega) hn (by omega)]
    have q1 : n = prd r * (n / prd r) + n % prd r := (Int.mul_ediv_add_emod n (prd r)).symm
    have q2 : n / prd r = s * (n / prd r / s) + c := by rw [hc]; exact (Int.mul_ediv_add_emod _ _).symm
    have t0 : 0 ≤ n % prd r := Int.emod_nonneg _ (by omega)
    have t1 : n % prd r < prd r := Int.emod_lt_of_pos _ (by omega)
    have e5 : (c + 1) * prd r ≤ s * prd r := Int.mul_le_mul_of_nonneg_right (by omega) (by omega)
    have e6 : 0 ≤ c * prd r := Int.mul_nonneg c0 (by omega)
    rw [Int.add_mul, Int.one_mul] at e5
    have key : n % (s * prd r) = c * prd r + n % prd r := by
      have : n = (c * prd r + n % prd r) + (s * prd r) * (n / prd r / s) := by
        have h1 : prd r * (n / prd r) = prd r * (s * (n / prd r / s) + c) := by rw [← q2]
        rw [Int.mul_add] at h1
        have h2 : prd r * (s * (n / prd r / s)) = (s * prd r) * (n / prd r / s) := by ac_rfl
        have h3 : prd r * c = c * prd r := Int.mul_comm _ _
        omega
      have h4 : n % (s * prd r) = ((c * prd r + n % prd r) + (s * prd r) * (n / prd r / s)) % (s * prd r) := by rw [← this]
      rw [h4, Int.add_mul_emod_self_left, Int.emod_eq_of_lt (by omega) (by omega)]
    rw [key, Int.add_mul, Int.mul_assoc]
    omega
end Go.Fw
