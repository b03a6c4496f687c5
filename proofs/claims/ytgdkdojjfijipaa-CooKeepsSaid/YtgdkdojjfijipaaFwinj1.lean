import Derived.Test.YtgdkdojjfijipaaFwplace0
import Derived.Test.YtgdkdojjfijipaaFwzero1
import Derived.Test.YtgdkdojjfijipaaFwins1
namespace Go.Fw
open Go Go.RowKit Go.Proofs
set_option maxRecDepth 100000
set_option linter.unusedSimpArgs false
set_option linter.unusedVariables false

theorem placeF_drop : ∀ (xs : List Int) (n : Int) (j : Nat), placeF xs n = (placeF xs n).take j ++ placeF (xs.drop j) n
  | [], n, j => by simp [placeF]
  | s :: r, n, 0 => by simp
  | s :: r, n, j + 1 => by
    simp only [placeF, List.take_succ_cons, List.drop_succ_cons, List.cons_append]
    rw [← placeF_drop r n j]
theorem inGo_place : ∀ (xs : List Int) (n : Int), (∀ x ∈ xs, 1 ≤ x) → inGo xs (placeF xs n) = true
  | [], n, _ => by simp [inGo]
  | s :: r, n, h => by
    have hs := h s (by simp)
    have h1 := Int.emod_nonneg (n / prd r) (b := s) (by omega)
    have h2 := Int.emod_lt_of_pos (n / prd r) (b := s) (by omega)
    simp only [placeF, inGo, inGo_place r n fun x hx => h x (by simp [hx])]
    simp
    omega
theorem cells_lt {xs : List Int} (h : (cells xs).2 = 0) (h1 : 0 < (cells xs).1) : (cells xs).1 < 4611686018427387904 := by
  obtain ⟨hx, hc⟩ := cells_nz h h1
  have hb : (mulAll xs 1).2 = 0 ∧ (cells xs).1 = (mulAll xs 1).1 := by
    unfold cells at h h1 ⊢
    split at h
    · simp at h
    rename_i g1
    rw [if_neg g1] at h1 ⊢
    split at h
    · rename_i g2
      rw [if_pos g2] at h1
      simp at h1
    rename_i g2
    rw [if_neg g2]
    exact ⟨h, rfl⟩
  have := (mulAll_ge xs 1 hx (by omega) (by omega) hb.1).2
  omega
theorem at_place {xs : List Int} {k : Int} (h : (cells xs).2 = 0) (h0 : 0 ≤ k) (h1 : k < (cells xs).1) : atF xs (placeF xs k) = (k, 0) := by
  obtain ⟨hx, hc⟩ := cells_nz h (by omega)
  have hm := cells_lt h (by omega)
  have hl := placeF_len xs k
  unfold atF
  rw [if_neg (by simpa using h)]
  rw [if_neg (by simp [hl]), atGo_in, if_pos (inGo_place xs k hx), numGo_place xs 0 k hx (by omega) h0 (by omega)]
  rw [← hc, Int.emod_eq_of_lt h0 h1]
  simp

/-- The next number, where what stands behind runs over. -/
theorem div_next {k p : Int} (hp : 1 ≤ p) (h : (k + 1) % p = 0) : (k + 1) / p = k / p + 1 := by
  obtain ⟨q, hq⟩ : ∃ q, k + 1 = p * q := ⟨(k + 1) / p, by have := Int.mul_ediv_add_emod (k + 1) p; omega⟩
  rw [hq, Int.mul_ediv_cancel_left _ (by omega)]
  have : k = (p - 1) + p * (q - 1) := by rw [Int.mul_sub]; omega
  rw [this, Int.add_mul_ediv_left _ _ (by omega), Int.ediv_eq_zero_of_lt (by omega) (by omega)]
  omega
theorem div_same {a s : Int} (hs : 1 ≤ s) (h : a % s + 1 < s) : (a + 1) / s = a / s ∧ (a + 1) % s = a % s + 1 := by
  have h0 := Int.emod_nonneg a (b := s) (by omega)
  have e : a + 1 = (a % s + 1) + s * (a / s) := by have := Int.mul_ediv_add_emod a s; omega
  constructor
  · have e1 := congrArg (· / s) e
    rw [e1, Int.add_mul_ediv_left _ _ (by omega), Int.ediv_eq_zero_of_lt (by omega) (by omega)]
    omega
  · have e1 := congrArg (· % s) e
    rw [e1, Int.add_mul_emod_self_left, Int.emod_eq_of_lt (by omega) (by omega)]
theorem take_next : ∀ (xs : List Int) (k : Int) (i : Nat) (hi : i < xs.length), (∀ x ∈ xs, 1 ≤ x) → (k + 1) / prd (xs.drop i) = k / prd (xs.drop i) → (placeF xs (k + 1)).take i = (placeF xs k).take i
  | [], k, i, hi, _, _ => by simp at hi
  | s :: r, k, 0, _, _, _ => by simp
  | s :: r, k, i + 1, hi, hx, h => by
    have hi' : i < r.length := by simpa using hi
    have hxr : ∀ x ∈ r, 1 ≤ x := fun y hy => hx y (by simp [hy])
    simp only [List.drop_succ_cons] at h
    simp only [placeF, List.take_succ_cons]
    rw [take_next r k i hi' hxr h]
    have e : prd r = prd (r.drop i) * prd (r.take i) := by
      have := prd_append (r.take i) (r.drop i)
      rw [List.take_append_drop] at this
      rw [this, Int.mul_comm]
    have hp := prd_pos (xs := r.drop i) fun y hy => hxr y (List.mem_of_mem_drop hy)
    rw [e, ← Int.ediv_ediv_of_nonneg (by omega), ← Int.ediv_ediv_of_nonneg (by omega), h]

/-- The number behind, from behind: what is there of it already. -/
def NextI (xs : List Int) (k : Int) (j : Nat) (ws : List Int) : Prop := ws = (placeF xs k).take j ++ placeF (xs.drop j) (k + 1) ∧ (k + 1) % prd (xs.drop j) = 0
theorem NextI.init (xs : List Int) (k : Int) : NextI xs k xs.length (placeF xs k) := by
  refine ⟨?_, by simp [prd]⟩
  rw [List.take_of_length_le (by rw [placeF_len]; omega)]
  simp [placeF]
theorem NextI.len {xs : List Int} {k : Int} {j : Nat} {ws : List Int} (h : NextI xs k j ws) (hj : j ≤ xs.length) : ws.length = xs.length := by
  rw [h.1, List.length_append, List.length_take, placeF_len, placeF_len, List.length_drop]
  omega
theorem NextI.get {xs : List Int} {k : Int} {i : Nat} {ws : List Int} (h : NextI xs k (i + 1) ws) (hi : i < xs.length) (h1 : i < ws.length) : ws[i] = k / prd (xs.drop (i + 1)) % xs[i] := by
  have hp : i < (placeF xs k).length := by rw [placeF_len]; exact hi
  have : ws[i]? = (placeF xs k)[i]? := by
    rw [h.1, List.getElem?_append_left (by rw [List.length_take]; omega), List.getElem?_take, if_pos (by omega)]
  rw [List.getElem?_eq_getElem h1, List.getElem?_eq_getElem hp, placeF_get xs k i hp hi] at this
  exact Option.some.inj this
theorem NextI.set {xs : List Int} {k : Int} {i : Nat} {ws : List Int} (h : NextI xs k (i + 1) ws) (hi : i < xs.length) : ws.set i ((k + 1) / prd (xs.drop (i + 1)) % xs[i]) = (placeF xs k).take i ++ placeF (xs.drop i) (k + 1) := by
  have hp : i < (placeF xs k).length := by rw [placeF_len]; exact hi
  rw [h.1, List.set_append_left _ _ (by rw [List.length_take]; omega), List.drop_eq_getElem_cons hi, placeF]
  rw [List.take_succ_eq_append_getElem hp, List.set_append_right _ _ (by rw [List.length_take]; omega)]
  simp [List.length_take, Nat.min_eq_left (Nat.le_of_lt hp)]
theorem NextI.more {xs : List Int} {k : Int} {i : Nat} {ws : List Int} (h : NextI xs k (i + 1) ws) (hi : i < xs.length) (hx : ∀ x ∈ xs, 1 ≤ x) (hc : ¬ k / prd (xs.drop (i + 1)) % xs[i] + 1 < xs[i]) : NextI xs k i (ws.set i 0) := by
  have hs := hx _ (List.getElem_mem hi)
  have hp := prd_pos (xs := xs.drop (i + 1)) fun y hy => hx y (List.mem_of_mem_drop hy)
  have hn := div_next hp h.2
  have hlt := Int.emod_lt_of_pos (k / prd (xs.drop (i + 1))) (b := xs[i]) (by omega)
  have hz : (k / prd (xs.drop (i + 1)) + 1) % xs[i] = 0 := by
    have e := Int.mul_ediv_add_emod (k / prd (xs.drop (i + 1))) xs[i]
    generalize k / prd (xs.drop (i + 1)) = a at *
    have e2 : a + 1 = 0 + xs[i] * (a / xs[i] + 1) := by rw [Int.mul_add]; omega
    rw [e2, Int.add_mul_emod_self_left]
    simp
  have h2 := h.set hi
  rw [hn, hz] at h2
  refine ⟨h2, ?_⟩
  rw [List.drop_eq_getElem_cons hi, prd]
  have e1 := Int.mul_ediv_add_emod (k + 1) (prd (xs.drop (i + 1)))
  rw [h.2, hn] at e1
  have e3 := Int.mul_ediv_add_emod (k / prd (xs.drop (i + 1)) + 1) xs[i]
  rw [hz] at e3
  generalize k / prd (xs.drop (i + 1)) + 1 = a at *
  generalize prd (xs.drop (i + 1)) = p at *
  have : k + 1 = (xs[i] * p) * (a / xs[i]) := by
    have : p * a = p * (xs[i] * (a / xs[i])) := by rw [show xs[i] * (a / xs[i]) = a by omega]
    rw [← Int.mul_assoc, Int.mul_comm p xs[i]] at this
    omega
  rw [this]
  simp
theorem NextI.done {xs : List Int} {k : Int} {i : Nat} {ws : List Int} (h : NextI xs k (i + 1) ws) (hi : i < xs.length) (hx : ∀ x ∈ xs, 1 ≤ x) (hc : k / prd (xs.drop (i + 1)) % xs[i] + 1 < xs[i]) :
    ws.set i (k / prd (xs.drop (i + 1)) % xs[i] + 1) = placeF xs (k + 1) := by
  have hs := hx _ (List.getElem_mem hi)
  have hp := prd_pos (xs := xs.drop (i + 1)) fun y hy => hx y (List.mem_of_mem_drop hy)
  have hn := div_next hp h.2
  obtain ⟨d1, d2⟩ := div_same hs hc
  have h2 := h.set hi
  rw [hn, d2] at h2
  rw [h2, placeF_drop xs (k + 1) i, take_next xs k i hi hx]
  rw [List.drop_eq_getElem_cons hi, prd, Int.mul_comm, ← Int.ediv_ediv_of_nonneg (by omega), ← Int.ediv_ediv_of_nonneg (by omega), hn, d1]
theorem NextI.never {xs : List Int} {k : Int} {ws : List Int} (h : NextI xs k 0 ws) (h0 : 0 ≤ k) (h1 : k + 1 < prd xs) : False := by
  have h2 := h.2
  simp only [List.drop_zero] at h2
  rw [Int.emod_eq_of_lt (by omega) h1] at h2
  omega
end Go.Fw
namespace Go.Fw
open Go Go.RowKit Go.Proofs
set_option maxRecDepth 100000
set_option linter.unusedSimpArgs false
set_option linter.unusedVariables false

theorem inS_inGo : ∀ (xs cs : List Int), cs.length = xs.length → (∀ i < xs.length, 0 ≤ cs.getD i 0 ∧ cs.getD i 0 < xs.getD i 0) → inGo xs cs = true
  | [], cs, _, _ => by simp [inGo]
  | s :: r, [], h, _ => by simp at h
  | s :: r, c :: q, h, hi => by
    have h0 := hi 0 (by simp)
    simp only [List.getD_cons_zero] at h0
    simp only [inGo]
    rw [inS_inGo r q (by simpa using h) fun i hlt => by simpa using hi (i + 1) (by simpa using hlt)]
    simp
    omega
theorem num_split : ∀ (xs cs : List Int) (a : Int), (∀ x ∈ xs, 1 ≤ x) → cs.length = xs.length → (∀ i < xs.length, 0 ≤ cs.getD i 0 ∧ cs.getD i 0 < xs.getD i 0) → 0 ≤ a → (a + 1) * prd xs ≤ 4611686018427387904 →
    ∃ v, 0 ≤ v ∧ v < prd xs ∧ numGo xs cs a = a * prd xs + v ∧ ∀ t : Int, placeF xs (t * prd xs + v) = cs
  | [], cs, a, _, h, _, _, _ => by
    have : cs = [] := by simpa using h
    subst this
    exact ⟨0, by simp, by simp [prd], by simp [numGo, prd], fun t => rfl⟩
  | s :: r, [], _, _, h, _, _, _ => by simp at h
  | s :: r, c :: q, a, hx, h, hi, ha, hb => by
    have hs := hx s (by simp)
    have hp := prd_pos (xs := r) fun y hy => hx y (by simp [hy])
    have h0 := hi 0 (by simp)
    simp only [List.getD_cons_zero] at h0
    simp only [prd, numGo] at hb ⊢
    have e1 : (a + 1) * (s * prd r) = (a * s + s) * prd r := by rw [← Int.mul_assoc, Int.add_mul, Int.one_mul]
    have e2 : (a * s + c + 1) * prd r ≤ (a * s + s) * prd r := Int.mul_le_mul_of_nonneg_right (by omega) (by omega)
    have e3 : 0 ≤ a * s := Int.mul_nonneg ha (by omega)
    have e4 : (a * s + s) * 1 ≤ (a * s + s) * prd r := Int.mul_le_mul_of_nonneg_left hp (by omega)
    rw [wrap_i64 (n := a * s) (by omega) (by omega), wrap_i64 (n := a * s + c) (by omega) (by omega)]
    obtain ⟨v, v0, v1, v2, v3⟩ := num_split r q (a * s + c) (fun y hy => hx y (by simp [hy])) (by simpa using h) (fun i hlt => by simpa using hi (i + 1) (by simpa using hlt)) (by omega) (by omega)
    have e5 : (c + 1) * prd r ≤ s * prd r := Int.mul_le_mul_of_nonneg_right (by omega) (by omega)
    have e6 : 0 ≤ c * prd r := Int.mul_nonneg h0.1 (by omega)
    rw [Int.add_mul, Int.one_mul] at e5
    refine ⟨c * prd r + v, by omega, by omega, ?_, fun t => ?_⟩
    · rw [v2, Int.add_mul, Int.mul_assoc]; omega
    · have e7 : t * (s * prd r) + (c * prd r + v) = (t * s + c) * prd r + v := by rw [Int.add_mul, Int.mul_assoc]; omega
      rw [e7, placeF, v3]
      congr 1
      rw [Int.add_comm, Int.add_mul_ediv_right _ _ (by omega), Int.ediv_eq_zero_of_lt v0 v1, Int.zero_add, Int.add_comm, Int.add_mul_emod_self_right]
      exact Int.emod_eq_of_lt h0.1 h0.2
theorem place_at {S c : List Int} (h : (cells S).2 = 0) (h0 : 0 < (cells S).1) (hc : InS S c) : placeF S (atF S c).1 = c := by
  obtain ⟨hx, hp⟩ := cells_nz h h0
  have hm := cells_lt h h0
  obtain ⟨v, v0, v1, v2, v3⟩ := num_split S c 0 hx hc.1 hc.2 (by omega) (by omega)
  have e : atF S c = (numGo S c 0, 0) := by
    unfold atF
    rw [if_neg (by omega), if_neg (by rw [hc.1]; simp), atGo_in, if_pos (inS_inGo S c hc.1 hc.2)]
  rw [e]
  simp only
  rw [v2]
  have := v3 0
  simpa using this
theorem atF_of {S c : List Int} (h : (cells S).2 = 0) (hc : InS S c) : (atF S c).2 = 0 := by
  unfold atF
  rw [if_neg (by omega), if_neg (by rw [hc.1]; simp), atGo_in, if_pos (inS_inGo S c hc.1 hc.2)]
theorem atF_inj {S a c : List Int} (h : (cells S).2 = 0) (ha : (atF S a).2 = 0) (hc : (atF S c).2 = 0) (e : (atF S a).1 = (atF S c).1) : a = c := by
  have h0 := atF_lt h ha
  rw [← place_at h (by omega) (atF_ins ha), ← place_at h (by omega) (atF_ins hc), e]
end Go.Fw
