import Derived.Test.YtbhkoeaecngdhaaFwsum1
namespace Go.Fw
open Go Go.RowKit Go.Proofs
set_option maxRecDepth 100000
set_option linter.unusedSimpArgs false
set_option linter.unusedVariables false

def prd : List Int → Int
  | [] => 1
  | x :: r => x * prd r
theorem prd_pos : ∀ {xs : List Int}, (∀ x ∈ xs, 1 ≤ x) → 1 ≤ prd xs
  | [], _ => by simp [prd]
  | x :: r, h => by
    have h1 := h x (by simp)
    have h2 := prd_pos (xs := r) fun y hy => h y (by simp [hy])
    simp only [prd]
    have := Int.mul_le_mul h1 h2 (by omega) (by omega)
    omega
theorem prd_append : ∀ (xs ys : List Int), prd (xs ++ ys) = prd xs * prd ys
  | [], ys => by simp [prd]
  | x :: r, ys => by simp only [List.cons_append, prd, prd_append r ys, Int.mul_assoc]
theorem mulAll_prd : ∀ (xs : List Int) (n : Int), (∀ x ∈ xs, 1 ≤ x) → 1 ≤ n → (mulAll xs n).2 = 0 → (mulAll xs n).1 = n * prd xs
  | [], n, _, _, _ => by simp [mulAll, prd]
  | s :: r, n, hx, h1, h => by
    simp only [mulAll] at h ⊢
    by_cases hc : n * s ≥ 4611686018427387904
    · rw [if_pos hc] at h; simp at h
    · rw [if_neg hc] at h ⊢
      have hs := hx s (by simp)
      have hm : n * 1 ≤ n * s := Int.mul_le_mul_of_nonneg_left hs (by omega)
      rw [mulAll_prd r (n * s) (fun x h => hx x (by simp [h])) (by omega) h]
      simp only [prd, Int.mul_assoc]
theorem mulAll_ok : ∀ (xs : List Int) (n : Int), (∀ x ∈ xs, 1 ≤ x) → 1 ≤ n → n * prd xs < 4611686018427387904 → mulAll xs n = (n * prd xs, 0)
  | [], n, _, _, _ => by simp [mulAll, prd]
  | s :: r, n, hx, h1, h => by
    have hs := hx s (by simp)
    have hr := prd_pos (xs := r) fun y hy => hx y (by simp [hy])
    have hm : n * 1 ≤ n * s := Int.mul_le_mul_of_nonneg_left hs (by omega)
    simp only [prd] at h ⊢
    rw [← Int.mul_assoc] at h ⊢
    have h2 : n * s * 1 ≤ n * s * prd r := Int.mul_le_mul_of_nonneg_left hr (by omega)
    simp only [mulAll]
    rw [if_neg (by omega), mulAll_ok r (n * s) (fun x h => hx x (by simp [h])) (by omega) h]
theorem cells_pos {xs : List Int} (hx : ∀ x ∈ xs, 1 ≤ x) (hl : xs.length ≤ 4) (h : prd xs < 4611686018427387904) : cells xs = (prd xs, 0) := by
  unfold cells
  rw [if_neg, if_neg, mulAll_ok xs 1 hx (by omega) (by omega), Int.one_mul]
  · intro h0
    have := hx 0 h0
    omega
  · rintro (h1 | h1)
    · omega
    · rw [List.any_eq_true] at h1
      obtain ⟨x, h2, h3⟩ := h1
      have := hx x h2
      simp at h3
      omega
theorem cells_nz {xs : List Int} (h : (cells xs).2 = 0) (h0 : 0 < (cells xs).1) : (∀ x ∈ xs, 1 ≤ x) ∧ (cells xs).1 = prd xs := by
  unfold cells at h h0 ⊢
  split at h
  · simp at h
  · rename_i h1
    rw [if_neg h1] at h0 ⊢
    split at h
    · rename_i h2
      rw [if_pos h2] at h0
      simp at h0
    · rename_i h2
      rw [if_neg h2] at h0 ⊢
      have hx : ∀ x ∈ xs, 1 ≤ x := by
        intro x hx
        have : ¬ (xs.any fun x => decide (x < 0)) = true := fun h => h1 (.inr h)
        simp at this
        have := this x hx
        have : x ≠ 0 := by rintro rfl; exact h2 hx
        omega
      exact ⟨hx, by rw [mulAll_prd xs 1 hx (by omega) h, Int.one_mul]⟩
theorem split_at {xs : List Int} {m : Nat} (hm : m < xs.length) : xs = xs.take m ++ xs[m] :: xs.drop (m + 1) := by
  rw [← List.drop_eq_getElem_cons hm, List.take_append_drop]
theorem prd_split {xs : List Int} {m : Nat} (hm : m < xs.length) : prd xs = prd (xs.take m) * (xs[m] * prd (xs.drop (m + 1))) ∧ prd (xs.eraseIdx m) = prd (xs.take m) * prd (xs.drop (m + 1)) := by
  refine ⟨?_, by rw [List.eraseIdx_eq_take_drop_succ, prd_append]⟩
  have := prd_append (xs.take m) (xs[m] :: xs.drop (m + 1))
  rw [← split_at hm] at this
  rw [this]; rfl

/-- Where a cell goes to, if a mode is summed over. -/
def idxF (far s n : Nat) : Nat := n / (far * s) * far + n % far
theorem idx_lt' {pre far s n : Nat} (h : n < pre * (s * far)) (hf : 0 < far) (hs : 0 < s) : idxF far s n < pre * far := by
  unfold idxF
  have h1 : n / (far * s) < pre := (Nat.div_lt_iff_lt_mul (Nat.mul_pos hf hs)).2 (by rw [Nat.mul_comm far s]; exact h)
  have h2 : n % far < far := Nat.mod_lt _ hf
  have h3 : (n / (far * s) + 1) * far ≤ pre * far := Nat.mul_le_mul_right _ h1
  rw [Nat.add_mul] at h3
  omega

def bins (f : Nat → Nat) : List Int → Nat → Nat → Int
  | [], _, _ => 0
  | v :: r, n, k => (if f n = k then v else 0) + bins f r (n + 1) k
theorem bins_append (f : Nat → Nat) : ∀ (l : List Int) (v : Int) (n k : Nat), bins f (l ++ [v]) n k = bins f l n k + (if f (n + l.length) = k then v else 0)
  | [], v, n, k => by simp [bins]
  | x :: r, v, n, k => by
    simp only [List.cons_append, bins, bins_append f r v (n + 1) k, List.length_cons]
    rw [show n + 1 + r.length = n + (r.length + 1) by omega, Int.add_assoc]
def binV (f : Nat → Nat) (vs : List Int) (m : Nat) : List Int := (List.range m).map fun k => IntKind.i64.wrap (bins f vs 0 k)
theorem binV_len (f : Nat → Nat) (vs : List Int) (m : Nat) : (binV f vs m).length = m := by simp [binV]
theorem binV_get (f : Nat → Nat) (vs : List Int) (m k : Nat) (h : k < (binV f vs m).length) : (binV f vs m)[k] = IntKind.i64.wrap (bins f vs 0 k) := by simp [binV]
theorem wrap_bmod' (n : Int) : IntKind.i64.wrap n = n.bmod 18446744073709551616 := by
  have e : IntKind.i64.wrap n = if (n % 18446744073709551616) ≥ 9223372036854775808 then n % 18446744073709551616 - 18446744073709551616 else n % 18446744073709551616 := by
    unfold IntKind.wrap
    simp [IntKind.bits, IntKind.signed]
  rw [e, Int.bmod_def]
  simp only [show (((18446744073709551616 : Nat) : Int) + 1) / 2 = 9223372036854775808 by decide, show ((18446744073709551616 : Nat) : Int) = 18446744073709551616 from rfl]
  split <;> split <;> omega
theorem binV_step (f : Nat → Nat) (vs : List Int) (m i : Nat) (hi : i < vs.length) (hf : f i < m) :
    (binV f (vs.take i) m).set (f i) (IntKind.i64.wrap (IntKind.i64.wrap (bins f (vs.take i) 0 (f i)) + vs[i])) = binV f (vs.take (i + 1)) m := by
  apply List.ext_getElem (by simp [binV_len])
  intro k h1 h2
  rw [binV_get f (vs.take (i + 1)) m k h2, List.getElem_set, List.take_succ_eq_append_getElem hi, bins_append, List.length_take, Nat.min_eq_left (by omega), Nat.zero_add]
  by_cases e : f i = k
  · rw [if_pos e, if_pos e, e]
    simp only [wrap_bmod', Int.bmod_add_bmod]
  · rw [if_neg e, if_neg e, binV_get, Int.add_zero]
theorem binV_nil (f : Nat → Nat) (m : Nat) : binV f [] m = List.replicate m 0 := by
  apply List.ext_getElem (by simp [binV_len])
  intro k h1 h2
  rw [binV_get, List.getElem_replicate]
  simp only [bins]
  decide
theorem binV_inR {f : Nat → Nat} {vs : List Int} {m : Nat} (hm : m ≤ 9223372036854775807) : InR (binV f vs m) := by
  refine ⟨by rw [binV_len]; exact hm, fun x hx => ?_⟩
  obtain ⟨k, hk, rfl⟩ := List.getElem_of_mem hx
  rw [binV_get]
  exact wrapR _

/-- A tensor summed over a mode. -/
def sumF (D : List Int × List Int) (mode : Int) : (List Int × List Int) × Int :=
  if checkF D ≠ 0 then (([], []), checkF D) else if mode < 0 ∨ (D.1.length : Int) ≤ mode then (([], []), 3) else
  if (zeroF (D.1.eraseIdx mode.toNat)).2 ≠ 0 then (([], []), (zeroF (D.1.eraseIdx mode.toNat)).2) else
  ((D.1.eraseIdx mode.toNat, binV (idxF (prd (D.1.drop (mode.toNat + 1))).toNat (D.1.getD mode.toNat 0).toNat) D.2 (laidF (D.1.eraseIdx mode.toNat)).1.toNat), 0)

theorem zeroF_ok {xs : List Int} (h : (zeroF xs).2 = 0) : (laidF xs).2 = 0 ∧ zeroF xs = ((xs, List.replicate (laidF xs).1.toNat 0), 0) := by
  unfold zeroF at h ⊢
  by_cases h1 : (laidF xs).2 = 0
  · exact ⟨h1, by rw [if_neg (by simpa using h1)]⟩
  · rw [if_pos h1] at h; exact absurd h h1
theorem check_laid {D : List Int × List Int} (h : checkF D = 0) : (laidF D.1).2 = 0 ∧ (D.2.length : Int) = (laidF D.1).1 ∧ laidF D.1 = cells D.1 := by
  have h3 : (laidF D.1).2 = 0 := by
    unfold checkF at h
    by_cases h3 : (laidF D.1).2 = 0
    · exact h3
    · rw [if_pos h3] at h; exact absurd h h3
  have h4 : (D.2.length : Int) = (laidF D.1).1 := by
    unfold checkF at h
    rw [if_neg (by simpa using h3)] at h
    by_cases h4 : (D.2.length : Int) = (laidF D.1).1
    · exact h4
    · rw [if_pos h4] at h; simp at h
  refine ⟨h3, h4, ?_⟩
  unfold laidF at h3 ⊢
  by_cases h5 : (cells D.1).2 = 0 ∧ (cells D.1).1 > 65536
  · rw [if_pos h5] at h3; simp at h3
  · rw [if_neg h5]
/-- Where there are cells at all: all modes have places, and what is left has cells as well. -/
theorem sum_dims {S vs : List Int} {m : Nat} (h : checkF (S, vs) = 0) (hv : vs ≠ []) (hm : m < S.length) :
    ∃ pre s far : Nat, 0 < pre ∧ 0 < s ∧ 0 < far ∧ S[m] = (s : Int) ∧ prd (S.take m) = (pre : Int) ∧ prd (S.drop (m + 1)) = (far : Int) ∧ vs.length = pre * (s * far) ∧ pre * (s * far) ≤ 65536 ∧ (∀ x ∈ S, 1 ≤ x) ∧
      laidF (S.eraseIdx m) = (((pre * far : Nat) : Int), 0) ∧ zeroF (S.eraseIdx m) = ((S.eraseIdx m, List.replicate (pre * far) 0), 0) ∧ S.length ≤ 4 := by
  obtain ⟨h1, h2, h3⟩ := check_laid h
  simp only at h1 h2 h3
  obtain ⟨hl4, n, hn, hn'⟩ := laid_ok h1
  rw [h3] at h1 h2 hn
  have hpos : 0 < vs.length := List.length_pos_iff.2 hv
  obtain ⟨hx, hc⟩ := cells_nz h1 (by omega)
  obtain ⟨p1, p2⟩ := prd_split hm
  have a1 := prd_pos (xs := S.take m) fun x h => hx x (List.mem_of_mem_take h)
  have a2 := prd_pos (xs := S.drop (m + 1)) fun x h => hx x (List.mem_of_mem_drop h)
  have a3 := hx S[m] (List.getElem_mem hm)
  obtain ⟨pre, hpre⟩ : ∃ p : Nat, prd (S.take m) = p := ⟨(prd (S.take m)).toNat, by omega⟩
  obtain ⟨far, hfar⟩ : ∃ p : Nat, prd (S.drop (m + 1)) = p := ⟨(prd (S.drop (m + 1))).toNat, by omega⟩
  obtain ⟨s, hs⟩ : ∃ p : Nat, S[m] = (p : Int) := ⟨S[m].toNat, by omega⟩
  rw [hpre, hfar] at p2
  rw [hpre, hfar, hs] at p1
  have e1 : prd S = ((pre * (s * far) : Nat) : Int) := by rw [p1]; simp
  have e2 : prd (S.eraseIdx m) = ((pre * far : Nat) : Int) := by rw [p2]; simp
  have hle : pre * far ≤ pre * (s * far) := Nat.mul_le_mul_left _ (by
    have : 1 * far ≤ s * far := Nat.mul_le_mul_right _ (by omega)
    omega)
  have hN : vs.length = pre * (s * far) := by rw [hc, e1] at h2; exact Int.ofNat.inj h2
  have hcE : cells (S.eraseIdx m) = (((pre * far : Nat) : Int), 0) := by
    rw [cells_pos (fun x h => hx x (List.mem_of_mem_eraseIdx h)) (by rw [List.length_eraseIdx]; split <;> omega) (by rw [e2]; omega), e2]
  have hlE : laidF (S.eraseIdx m) = (((pre * far : Nat) : Int), 0) := by
    unfold laidF
    rw [hcE, if_neg]
    simp only
    omega
  refine ⟨pre, s, far, by omega, by omega, by omega, hs, hpre, hfar, hN, by omega, hx, hlE, ?_, hl4⟩
  unfold zeroF
  rw [hlE]
  simp only [ne_eq, not_true_eq_false, if_false, Int.toNat_natCast]
end Go.Fw
