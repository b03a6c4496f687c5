import Derived.Test.YthipbeffhfdamaaFwown0
import Derived.Test.YthipbeffhfdamaaFwbox2
namespace Go.Fw
open Go Go.RowKit Go.Proofs
set_option maxRecDepth 100000
set_option linter.unusedSimpArgs false
set_option linter.unusedVariables false
def prd : List Int → Int
  | [] => 1
  | x :: r => x * prd r
theorem prd_pos : ∀ {xs : List Int}, (∀ x ∈ xs, 1 ≤ x) → 1 ≤ prd xs
  | [], _ => by simp [prd]
  | x :: r, h => by
    have h1 := h x (by simp)
    have h2 := prd_pos (xs := r) fun y hy => h y (by simp [hy])
    simp only [prd]
    have := Int.mul_le_mul h1 h2 (by omega) (by omega)
    omega
theorem prd_append : ∀ (xs ys : List Int), prd (xs ++ ys) = prd xs * prd ys
  | [], ys => by simp [prd]
  | x :: r, ys => by simp only [List.cons_append, prd, prd_append r ys, Int.mul_assoc]
theorem mulAll_prd : ∀ (xs : List Int) (n : Int), (∀ x ∈ xs, 1 ≤ x) → 1 ≤ n → (mulAll xs n).2 = 0 → (mulAll xs n).1 = n * prd xs
  | [], n, _, _, _ => by simp [mulAll, prd]
  | s :: r, n, hx, h1, h => by
    simp only [mulAll] at h ⊢
    by_cases hc : n * s ≥ 4611686018427387904
    · rw [if_pos hc] at h; simp at h
    · rw [if_neg hc] at h ⊢
      have hs := hx s (by simp)
      have hm : n * 1 ≤ n * s := Int.mul_le_mul_of_nonneg_left hs (by omega)
      rw [mulAll_prd r (n * s) (fun x h => hx x (by simp [h])) (by omega) h]
      simp only [prd, Int.mul_assoc]
theorem mulAll_ok : ∀ (xs : List Int) (n : Int), (∀ x ∈ xs, 1 ≤ x) → 1 ≤ n → n * prd xs < 4611686018427387904 → mulAll xs n = (n * prd xs, 0)
  | [], n, _, _, _ => by simp [mulAll, prd]
  | s :: r, n, hx, h1, h => by
    have hs := hx s (by simp)
    have hr := prd_pos (xs := r) fun y hy => hx y (by simp [hy])
    have hm : n * 1 ≤ n * s := Int.mul_le_mul_of_nonneg_left hs (by omega)
    simp only [prd] at h ⊢
    rw [← Int.mul_assoc] at h ⊢
    have h2 : n * s * 1 ≤ n * s * prd r := Int.mul_le_mul_of_nonneg_left hr (by omega)
    simp only [mulAll]
    rw [if_neg (by omega), mulAll_ok r (n * s) (fun x h => hx x (by simp [h])) (by omega) h]
theorem cells_pos {xs : List Int} (hx : ∀ x ∈ xs, 1 ≤ x) (hl : xs.length ≤ 4) (h : prd xs < 4611686018427387904) : cells xs = (prd xs, 0) := by
  unfold cells
  rw [if_neg, if_neg, mulAll_ok xs 1 hx (by omega) (by omega), Int.one_mul]
  · intro h0
    have := hx 0 h0
    omega
  · rintro (h1 | h1)
    · omega
    · rw [List.any_eq_true] at h1
      obtain ⟨x, h2, h3⟩ := h1
      have := hx x h2
      simp at h3
      omega
theorem cells_nz {xs : List Int} (h : (cells xs).2 = 0) (h0 : 0 < (cells xs).1) : (∀ x ∈ xs, 1 ≤ x) ∧ (cells xs).1 = prd xs := by
  unfold cells at h h0 ⊢
  split at h
  · simp at h
  · rename_i h1
    rw [if_neg h1] at h0 ⊢
    split at h
    · rename_i h2
      rw [if_pos h2] at h0
      simp at h0
    · rename_i h2
      rw [if_neg h2] at h0 ⊢
      have hx : ∀ x ∈ xs, 1 ≤ x := by
        intro x hx
        have : ¬ (xs.any fun x => decide (x < 0)) = true := fun h => h1 (.inr h)
        simp at this
        have := this x hx
        have : x ≠ 0 := by rintro rfl; exact h2 hx
        omega
      exact ⟨hx, by rw [mulAll_prd xs 1 hx (by omega) h, Int.one_mul]⟩
theorem split_at {xs : List Int} {m : Nat} (hm : m < xs.length) : xs = xs.take m ++ xs[m] :: xs.drop (m + 1) := by
  rw [← List.drop_eq_getElem_cons hm, List.take_append_drop]
theorem prd_split {xs : List Int} {m : Nat} (hm : m < xs.length) : prd xs = prd (xs.take m) * (xs[m] * prd (xs.drop (m + 1))) ∧ prd (xs.eraseIdx m) = prd (xs.take m) * prd (xs.drop (m + 1)) := by
  refine ⟨?_, by rw [List.eraseIdx_eq_take_drop_succ, prd_append]⟩
  have := prd_append (xs.take m) (xs[m] :: xs.drop (m + 1))
  rw [← split_at hm] at this
  rw [this]; rfl
end Go.Fw
namespace Go.Fw
open Go Go.RowKit Go.Proofs
set_option maxRecDepth 100000
set_option linter.unusedSimpArgs false
set_option linter.unusedVariables false
def inGo : List Int → List Int → Bool
  | s :: r, c :: q => !(decide (c < 0) || decide (s ≤ c)) && inGo r q
  | _, _ => true
def numGo : List Int → List Int → Int → Int
  | s :: r, c :: q, n => numGo r q (IntKind.i64.wrap (IntKind.i64.wrap (n * s) + c))
  | _, _, n => n
theorem atGo_in : ∀ (xs cs : List Int) (n : Int), atGo xs cs n = if inGo xs cs = true then (numGo xs cs n, 0) else (0, 3)
  | [], cs, n => by simp [atGo, inGo, numGo]
  | s :: r, [], n => by simp [atGo, inGo, numGo]
  | s :: r, c :: q, n => by
    by_cases h : c < 0 ∨ s ≤ c
    · have e : inGo (s :: r) (c :: q) = false := by
        rcases h with h | h <;> simp [inGo, h]
      rw [e]
      simp [atGo, h]
    · have h1 : ¬ c < 0 := by omega
      have h2 : ¬ s ≤ c := by omega
      simp [atGo, inGo, numGo, h1, h2, atGo_in r q]
end Go.Fw
namespace Go.Fw
open Go Go.RowKit Go.Proofs
set_option maxRecDepth 100000
set_option linter.unusedSimpArgs false
set_option linter.unusedVariables false
def placeF : List Int → Int → List Int
  | [], _ => []
  | s :: r, n => ((n / prd r) % s) :: placeF r n
theorem placeF_len : ∀ (xs : List Int) (n : Int), (placeF xs n).length = xs.length
  | [], _ => rfl
  | s :: r, n => by simp only [placeF, List.length_cons, placeF_len r n]
theorem placeF_get : ∀ (xs : List Int) (n : Int) (k : Nat) (h : k < (placeF xs n).length) (h' : k < xs.length), (placeF xs n)[k] = (n / prd (xs.drop (k + 1))) % xs[k]
  | [], _, k, h, _ => by simp [placeF] at h
  | s :: r, n, 0, _, _ => by simp [placeF]
  | s :: r, n, k + 1, h, h' => by
    simp only [placeF, List.getElem_cons_succ, List.drop_succ_cons]
    exact placeF_get r n k _ _
theorem numGo_place : ∀ (r : List Int) (a n : Int), (∀ x ∈ r, 1 ≤ x) → 0 ≤ a → 0 ≤ n → (a + 1) * prd r ≤ 4611686018427387904 → numGo r (placeF r n) a = a * prd r + n % prd r
  | [], a, n, _, _, _, _ => by simp [numGo, placeF, prd, Int.emod_one]
  | s :: r, a, n, hx, ha, hn, hb => by
    have hs := hx s (by simp)
    have hp := prd_pos (xs := r) fun y hy => hx y (by simp [hy])
    simp only [placeF, numGo, prd] at hb ⊢
    obtain ⟨c, hc⟩ : ∃ c, c = (n / prd r) % s := ⟨_, rfl⟩
    have c0 : 0 ≤ c := by rw [hc]; exact Int.emod_nonneg _ (by omega)
    have c1 : c < s := by rw [hc]; exact Int.emod_lt_of_pos _ (by omega)
    rw [← hc]
    have e1 : (a + 1) * (s * prd r) = (a * s + s) * prd r := by rw [← Int.mul_assoc, Int.add_mul, Int.one_mul]
    have e2 : (a * s + c + 1) * prd r ≤ (a * s + s) * prd r := Int.mul_le_mul_of_nonneg_right (by omega) (by omega)
    have e3 : 0 ≤ a * s := Int.mul_nonneg ha (by omega)
    have e4 : (a * s + s) * 1 ≤ (a * s + s) * prd r := Int.mul_le_mul_of_nonneg_left hp (by omega)
    rw [wrap_i64 (n := a * s) (by omega) (by omega), wrap_i64 (n := a * s + c) (by omega) (by omega)]
    rw [numGo_place r (a * s + c) n (fun y hy => hx y (by simp [hy])) (by omega) hn (by omega)]
    have q1 : n = prd r * (n / prd r) + n % prd r := (Int.mul_ediv_add_emod n (prd r)).symm
    have q2 : n / prd r = s * (n / prd r / s) + c := by rw [hc]; exact (Int.mul_ediv_add_emod _ _).symm
    have t0 : 0 ≤ n % prd r := Int.emod_nonneg _ (by omega)
    have t1 : n % prd r < prd r := Int.emod_lt_of_pos _ (by omega)
    have e5 : (c + 1) * prd r ≤ s * prd r := Int.mul_le_mul_of_nonneg_right (by omega) (by omega)
    have e6 : 0 ≤ c * prd r := Int.mul_nonneg c0 (by omega)
    rw [Int.add_mul, Int.one_mul] at e5
    have key : n % (s * prd r) = c * prd r + n % prd r := by
      have : n = (c * prd r + n % prd r) + (s * prd r) * (n / prd r / s) := by
        have h1 : prd r * (n / prd r) = prd r * (s * (n / prd r / s) + c) := by rw [← q2]
        rw [Int.mul_add] at h1
        have h2 : prd r * (s * (n / prd r / s)) = (s * prd r) * (n / prd r / s) := by ac_rfl
        have h3 : prd r * c = c * prd r := Int.mul_comm _ _
        omega
      have h4 : n % (s * prd r) = ((c * prd r + n % prd r) + (s * prd r) * (n / prd r / s)) % (s * prd r) := by rw [← this]
      rw [h4, Int.add_mul_emod_self_left, Int.emod_eq_of_lt (by omega) (by omega)]
    rw [key, Int.add_mul, Int.mul_assoc]
    omega
end Go.Fw
namespace Go.Fw
open Go Go.RowKit Go.Proofs
set_option maxRecDepth 100000
set_option linter.unusedSimpArgs false
set_option linter.unusedVariables false
theorem placeF_drop : ∀ (xs : List Int) (n : Int) (j : Nat), placeF xs n = (placeF xs n).take j ++ placeF (xs.drop j) n
  | [], n, j => by simp [placeF]
  | s :: r, n, 0 => by simp
  | s :: r, n, j + 1 => by
    simp only [placeF, List.take_succ_cons, List.drop_succ_cons, List.cons_append]
    rw [← placeF_drop r n j]
theorem inGo_place : ∀ (xs : List Int) (n : Int), (∀ x ∈ xs, 1 ≤ x) → inGo xs (placeF xs n) = true
  | [], n, _ => by simp [inGo]
  | s :: r, n, h => by
    have hs := h s (by simp)
    have h1 := Int.emod_nonneg (n / prd r) (b := s) (by omega)
    have h2 := Int.emod_lt_of_pos (n / prd r) (b := s) (by omega)
    simp only [placeF, inGo, inGo_place r n fun x hx => h x (by simp [hx])]
    simp
    omega
theorem cells_lt {xs : List Int} (h : (cells xs).2 = 0) (h1 : 0 < (cells xs).1) : (cells xs).1 < 4611686018427387904 := by
  obtain ⟨hx, hc⟩ := cells_nz h h1
  have hb : (mulAll xs 1).2 = 0 ∧ (cells xs).1 = (mulAll xs 1).1 := by
    unfold cells at h h1 ⊢
    split at h
    · simp at h
    rename_i g1
    rw [if_neg g1] at h1 ⊢
    split at h
    · rename_i g2
      rw [if_pos g2] at h1
      simp at h1
    rename_i g2
    rw [if_neg g2]
    exact ⟨h, rfl⟩
  have := (mulAll_ge xs 1 hx (by omega) (by omega) hb.1).2
  omega
theorem at_place {xs : List Int} {k : Int} (h : (cells xs).2 = 0) (h0 : 0 ≤ k) (h1 : k < (cells xs).1) : atF xs (placeF xs k) = (k, 0) := by
  obtain ⟨hx, hc⟩ := cells_nz h (by omega)
  have hm := cells_lt h (by omega)
  have hl := placeF_len xs k
  unfold atF
  rw [if_neg (by simpa using h)]
  rw [if_neg (by simp [hl]), atGo_in, if_pos (inGo_place xs k hx), numGo_place xs 0 k hx (by omega) h0 (by omega)]
  rw [← hc, Int.emod_eq_of_lt h0 h1]
  simp
theorem div_next {k p : Int} (hp : 1 ≤ p) (h : (k + 1) % p = 0) : (k + 1) / p = k / p + 1 := by
  obtain ⟨q, hq⟩ : ∃ q, k + 1 = p * q := ⟨(k + 1) / p, by have := Int.mul_ediv_add_emod (k + 1) p; omega⟩
  rw [hq, Int.mul_ediv_cancel_left _ (by omega)]
  have : k = (p - 1) + p * (q - 1) := by rw [Int.mul_sub]; omega
  rw [this, Int.add_mul_ediv_left _ _ (by omega), Int.ediv_eq_zero_of_lt (by omega) (by omega)]
  omega
theorem div_same {a s : Int} (hs : 1 ≤ s) (h : a % s + 1 < s) : (a + 1) / s = a / s ∧ (a + 1) % s = a % s + 1 := by
  have h0 := Int.emod_nonneg a (b := s) (by omega)
  have e : a + 1 = (a % s + 1) + s * (a / s) := by have := Int.mul_ediv_add_emod a s; omega
  constructor
  · have e1 := congrArg (· / s) e
    rw [e1, Int.add_mul_ediv_left _ _ (by omega), Int.ediv_eq_zero_of_lt (by omega) (by omega)]
    omega
  · have e1 := congrArg (· % s) e
    rw [e1, Int.add_mul_emod_self_left, Int.emod_eq_of_lt (by omega) (by omega)]
theorem take_next : ∀ (xs : List Int) (k : Int) (i : Nat) (hi : i < xs.length), (∀ x ∈ xs, 1 ≤ x) → (k + 1) / prd (xs.drop i) = k / prd (xs.drop i) → (placeF xs (k + 1)).take i = (placeF xs k).take i
  | [], k, i, hi, _, _ => by simp at hi
  | s :: r, k, 0, _, _, _ => by simp
  | s :: r, k, i + 1, hi, hx, h => by
    have hi' : i < r.length := by simpa using hi
    have hxr : ∀ x ∈ r, 1 ≤ x := fun y hy => hx y (by simp [hy])
    simp only [List.drop_succ_cons] at h
    simp only [placeF, List.take_succ_cons]
    rw [take_next r k i hi' hxr h]
    have e : prd r = prd (r.drop i) * prd (r.take i) := by
      have := prd_append (r.take i) (r.drop i)
      rw [List.take_append_drop] at this
      rw [this, Int.mul_comm]
    have hp := prd_pos (xs := r.drop i) fun y hy => hxr y (List.mem_of_mem_drop hy)
    rw [e, ← Int.ediv_ediv_of_nonneg (by omega), ← Int.ediv_ediv_of_nonneg (by omega), h]
def NextI (xs : List Int) (k : Int) (j : Nat) (ws : List Int) : Prop := ws = (placeF xs k).take j ++ placeF (xs.drop j) (k + 1) ∧ (k + 1) % prd (xs.drop j) = 0
theorem NextI.init (xs : List Int) (k : Int) : NextI xs k xs.length (placeF xs k) := by
  refine ⟨?_, by simp [prd]⟩
  rw [List.take_of_length_le (by rw [placeF_len]; omega)]
  simp [placeF]
theorem NextI.len {xs : List Int} {k : Int} {j : Nat} {ws : List Int} (h : NextI xs k j ws) (hj : j ≤ xs.length) : ws.length = xs.length := by
  rw [h.1, List.length_append, List.length_take, placeF_len, placeF_len, List.length_drop]
  omega
theorem NextI.get {xs : List Int} {k : Int} {i : Nat} {ws : List Int} (h : NextI xs k (i + 1) ws) (hi : i < xs.length) (h1 : i < ws.length) : ws[i] = k / prd (xs.drop (i + 1)) % xs[i] := by
  have hp : i < (placeF xs k).length := by rw [placeF_len]; exact hi
  have : ws[i]? = (placeF xs k)[i]? := by
    rw [h.1, List.getElem?_append_left (by rw [List.length_take]; omega), List.getElem?_take, if_pos (by omega)]
  rw [List.getElem?_eq_getElem h1, List.getElem?_eq_getElem hp, placeF_get xs k i hp hi] at this
  exact Option.some.inj this
theorem NextI.set {xs : List Int} {k : Int} {i : Nat} {ws : List Int} (h : NextI xs k (i + 1) ws) (hi : i < xs.length) : ws.set i ((k + 1) / prd (xs.drop (i + 1)) % xs[i]) = (placeF xs k).take i ++ placeF (xs.drop i) (k + 1) := by
  have hp : i < (placeF xs k).length := by rw [placeF_len]; exact hi
  rw [h.1, List.set_append_left _ _ (by rw [List.length_take]; omega), List.drop_eq_getElem_cons hi, placeF]
  rw [List.take_succ_eq_append_getElem hp, List.set_append_right _ _ (by rw [List.length_take]; omega)]
  simp [List.length_take, Nat.min_eq_left (Nat.le_of_lt hp)]
theorem NextI.more {xs : List Int} {k : Int} {i : Nat} {ws : List Int} (h : NextI xs k (i + 1) ws) (hi : i < xs.length) (hx : ∀ x ∈ xs, 1 ≤ x) (hc : ¬ k / prd (xs.drop (i + 1)) % xs[i] + 1 < xs[i]) : NextI xs k i (ws.set i 0) := by
  have hs := hx _ (List.getElem_mem hi)
  have hp := prd_pos (xs := xs.drop (i + 1)) fun y hy => hx y (List.mem_of_mem_drop hy)
  have hn := div_next hp h.2
  have hlt := Int.emod_lt_of_pos (k / prd (xs.drop (i + 1))) (b := xs[i]) (by omega)
  have hz : (k / prd (xs.drop (i + 1)) + 1) % xs[i] = 0 := by
    have e := Int.mul_ediv_add_emod (k / prd (xs.drop (i + 1))) xs[i]
    generalize k / prd (xs.drop (i + 1)) = a at *
    have e2 : a + 1 = 0 + xs[i] * (a / xs[i] + 1) := by rw [Int.mul_add]; omega
    rw [e2, Int.add_mul_emod_self_left]
    simp
  have h2 := h.set hi
  rw [hn, hz] at h2
  refine ⟨h2, ?_⟩
  rw [List.drop_eq_getElem_cons hi, prd]
  have e1 := Int.mul_ediv_add_emod (k + 1) (prd (xs.drop (i + 1)))
  rw [h.2, hn] at e1
  have e3 := Int.mul_ediv_add_emod (k / prd (xs.drop (i + 1)) + 1) xs[i]
  rw [hz] at e3
  generalize k / prd (xs.drop (i + 1)) + 1 = a at *
  generalize prd (xs.drop (i + 1)) = p at *
  have : k + 1 = (xs[i] * p) * (a / xs[i]) := by
    have : p * a = p * (xs[i] * (a / xs[i])) := by rw [show xs[i] * (a / xs[i]) = a by omega]
    rw [← Int.mul_assoc, Int.mul_comm p xs[i]] at this
    omega
  rw [this]
  simp
theorem NextI.done {xs : List Int} {k : Int} {i : Nat} {ws : List Int} (h : NextI xs k (i + 1) ws) (hi : i < xs.length) (hx : ∀ x ∈ xs, 1 ≤ x) (hc : k / prd (xs.drop (i + 1)) % xs[i] + 1 < xs[i]) :
    ws.set i (k / prd (xs.drop (i + 1)) % xs[i] + 1) = placeF xs (k + 1) := by
  have hs := hx _ (List.getElem_mem hi)
  have hp := prd_pos (xs := xs.drop (i + 1)) fun y hy => hx y (List.mem_of_mem_drop hy)
  have hn := div_next hp h.2
  obtain ⟨d1, d2⟩ := div_same hs hc
  have h2 := h.set hi
  rw [hn, d2] at h2
  rw [h2, placeF_drop xs (k + 1) i, take_next xs k i hi hx]
  rw [List.drop_eq_getElem_cons hi, prd, Int.mul_comm, ← Int.ediv_ediv_of_nonneg (by omega), ← Int.ediv_ediv_of_nonneg (by omega), hn, d1]
theorem NextI.never {xs : List Int} {k : Int} {ws : List Int} (h : NextI xs k 0 ws) (h0 : 0 ≤ k) (h1 : k + 1 < prd xs) : False := by
  have h2 := h.2
  simp only [List.drop_zero] at h2
  rw [Int.emod_eq_of_lt (by omega) h1] at h2
  omega
end Go.Fw
