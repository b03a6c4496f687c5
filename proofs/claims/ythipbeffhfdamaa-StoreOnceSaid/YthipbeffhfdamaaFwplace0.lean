import Derived.Test.YthipbeffhfdamaaFwprd1
import Derived.Test.YthipbeffhfdamaaFwnum1
namespace Go.Fw
open Go Go.RowKit Go.Proofs
set_option maxRecDepth 100000
set_option linter.unusedSimpArgs false
set_option linter.unusedVariables false

/-- A number's place. -/
def placeF : List Int → Int → List Int
  | [], _ => []
  | s :: r, n => ((n / prd r) % s) :: placeF r n
theorem placeF_len : ∀ (xs : List Int) (n : Int), (placeF xs n).length = xs.length
  | [], _ => rfl
  | s :: r, n => by simp only [placeF, List.length_cons, placeF_len r n]
theorem placeF_get : ∀ (xs : List Int) (n : Int) (k : Nat) (h : k < (placeF xs n).length) (h' : k < xs.length), (placeF xs n)[k] = (n / prd (xs.drop (k + 1))) % xs[k]
  | [], _, k, h, _ => by simp [placeF] at h
  | s :: r, n, 0, _, _ => by simp [placeF]
  | s :: r, n, k + 1, h, h' => by
    simp only [placeF, List.getElem_cons_succ, List.drop_succ_cons]
    exact placeF_get r n k _ _

theorem numGo_place : ∀ (r : List Int) (a n : Int), (∀ x ∈ r, 1 ≤ x) → 0 ≤ a → 0 ≤ n → (a + 1) * prd r ≤ 4611686018427387904 → numGo r (placeF r n) a = a * prd r + n % prd r
  | [], a, n, _, _, _, _ => by simp [numGo, placeF, prd, Int.emod_one]
  | s :: r, a, n, hx, ha, hn, hb => by
    have hs := hx s (by simp)
    have hp := prd_pos (xs := r) fun y hy => hx y (by simp [hy])
    simp only [placeF, numGo, prd] at hb ⊢
    obtain ⟨c, hc⟩ : ∃ c, c = (n / prd r) % s := ⟨_, rfl⟩
    have c0 : 0 ≤ c := by rw [hc]; exact Int.emod_nonneg _ (by omega)
    have c1 : c < s := by rw [hc]; exact Int.emod_lt_of_pos _ (by omega)
    rw [← hc]
    have e1 : (a + 1) * (s * prd r) = (a * s + s) * prd r := by rw [← Int.mul_assoc, Int.add_mul, Int.one_mul]
    have e2 : (a * s + c + 1) * prd r ≤ (a * s + s) * prd r := Int.mul_le_mul_of_nonneg_right (by omega) (by omega)
    have e3 : 0 ≤ a * s := Int.mul_nonneg ha (by omega)
    have e4 : (a * s + s) * 1 ≤ (a * s + s) * prd r := Int.mul_le_mul_of_nonneg_left hp (by omega)
    rw [wrap_i64 (n := a * s) (by omega) (by omega), wrap_i64 (n := a * s + c) (by omega) (by omega)]
    rw [numGo_place r (a * s + c) n (fun y hy => hx y (by simp [hy])) (by omega) hn (by omega)]
    have q1 : n = prd r * (n / prd r) + n % prd r := (Int.mul_ediv_add_emod n (prd r)).symm
    have q2 : n / prd r = s * (n / prd r / s) + c := by rw [hc]; exact (Int.mul_ediv_add_emod _ _).symm
    have t0 : 0 ≤ n % prd r := Int.emod_nonneg _ (by omega)
    have t1 : n % prd r < prd r := Int.emod_lt_of_pos _ (by omega)
    have e5 : (c + 1) * prd r ≤ s * prd r := Int.mul_le_mul_of_nonneg_right (by omega) (by omega)
    have e6 : 0 ≤ c * prd r := Int.mul_nonneg c0 (by omega)
    rw [Int.add_mul, Int.one_mul] at e5
    have key : n % (s * prd r) = c * prd r + n % prd r := by
      have : n = (c * prd r + n % prd r) + (s * prd r) * (n / prd r / s) := by
        have h1 : prd r * (n / prd r) = prd r * (s * (n / prd r / s) + c) := by rw [← q2]
        rw [Int.mul_add] at h1
        have h2 : prd r * (s * (n / prd r / s)) = (s * prd r) * (n / prd r / s) := by ac_rfl
        have h3 : prd r * c = c * prd r := Int.mul_comm _ _
        omega
      have h4 : n % (s * prd r) = ((c * prd r + n % prd r) + (s * prd r) * (n / prd r / s)) % (s * prd r) := by rw [← this]
      rw [h4, Int.add_mul_emod_self_left, Int.emod_eq_of_lt (by omega) (by omega)]
    rw [key, Int.add_mul, Int.mul_assoc]
    omega
end Go.Fw
