import Derived.Test.YtbhkoeaecngdhaaFwlaw01c
import Derived.Test.YtbhkoeaecngdhaaFwsum3
namespace Go.Fw
open Go Go.RowKit Go.Proofs
set_option maxRecDepth 100000
set_option linter.unusedSimpArgs false
set_option linter.unusedVariables false

/-- Another view between two pieces, with what is known of it. -/
theorem AWp.cutE {P : Program} {own : List Nat} {nb : Nat} {x y : AC} {Q : Exit → List AV → List AObj → Prop} {fr : List AV} {H : List AObj} {σ : Type} (p : σ → Prop) (F : σ → List AV) (HF : σ → List AObj)
    (h : AWp P own nb x (qSeq (fun fr H => ∃ s, p s ∧ Weak nb fr H (F s) (HF s)) Q) fr H) (k : ∀ s, p s → AWp P own nb y Q (F s) (HF s)) : AWp P own nb (.seq x y) Q fr H := by
  refine AWp.seq (h.mono ?_)
  intro e fr H hq
  cases e with
  | normal => exact let ⟨s, hs, hw⟩ := hq; AWp.weak hw (k s hs)
  | _ => exact hq

def sumI : List Int → Int
  | [] => 0
  | x :: r => x + sumI r
theorem sumI_append : ∀ (l r : List Int), sumI (l ++ r) = sumI l + sumI r
  | [], r => by simp [sumI]
  | x :: l, r => by simp only [List.cons_append, sumI, sumI_append l r, Int.add_assoc]
theorem sumI_wrap : ∀ (l : List Nat) (g : Nat → Int), IntKind.i64.wrap (sumI (l.map fun k => IntKind.i64.wrap (g k))) = IntKind.i64.wrap (sumI (l.map g))
  | [], g => rfl
  | x :: l, g => by
    have ih := sumI_wrap l g
    simp only [List.map_cons, sumI]
    simp only [wrap_bmod', Int.bmod_add_bmod] at ih ⊢
    rw [← Int.add_bmod_bmod, ih, Int.add_bmod_bmod]
theorem sumI_zero : ∀ (l : List Nat), sumI (l.map fun _ => (0 : Int)) = 0
  | [] => rfl
  | x :: l => by simp only [List.map_cons, sumI, sumI_zero l, Int.add_zero]
theorem sumI_add : ∀ (l : List Nat) (g h : Nat → Int), sumI (l.map fun k => g k + h k) = sumI (l.map g) + sumI (l.map h)
  | [], g, h => rfl
  | x :: l, g, h => by simp only [List.map_cons, sumI, sumI_add l g h]; omega
theorem sumI_one (M a : Nat) (v : Int) (h : a < M) : sumI ((List.range M).map fun k => if a = k then v else 0) = v := by
  induction M with
  | zero => omega
  | succ M ih =>
    rw [List.range_succ, List.map_append, sumI_append]
    simp only [List.map_cons, List.map_nil, sumI, Int.add_zero]
    by_cases e : a = M
    · subst e
      have : ((List.range a).map fun k => if a = k then v else 0) = (List.range a).map fun _ => (0 : Int) := List.map_congr_left fun k hk => if_neg (by have := List.mem_range.1 hk; omega)
      rw [this, sumI_zero]
      simp
    · rw [ih (by omega), if_neg e, Int.add_zero]
theorem sumI_bins (f : Nat → Nat) (M : Nat) : ∀ (vs : List Int) (n : Nat), (∀ i, n ≤ i → i < n + vs.length → f i < M) → sumI ((List.range M).map fun k => bins f vs n k) = sumI vs
  | [], n, _ => by simp only [bins, sumI]; exact sumI_zero _
  | v :: r, n, h => by
    simp only [bins, sumI]
    rw [sumI_add, sumI_one _ _ _ (h n (by omega) (by simp)), sumI_bins f M r (n + 1) fun i h1 h2 => h i (by omega) (by simp at h2 ⊢; omega)]

theorem cells_err2 {S : List Int} (hl : S.length ≤ 4) (hx : ∀ x ∈ S, 0 ≤ x) : (cells S).2 = 0 ∨ (cells S).2 = 2 := by
  have hm : ∀ (xs : List Int) (n : Int), (mulAll xs n).2 = 0 ∨ (mulAll xs n).2 = 2 := by
    intro xs
    induction xs with
    | nil => intro n; exact .inl rfl
    | cons x xs ih =>
      intro n
      simp only [mulAll]
      split
      · exact .inr rfl
      · exact ih _
  unfold cells
  rw [if_neg]
  · split
    · exact .inl rfl
    · exact hm _ _
  · rintro (h | h)
    · omega
    · rw [List.any_eq_true] at h
      obtain ⟨x, h2, h3⟩ := h
      have := hx x h2
      simp at h3
      omega
theorem cells_nn {S : List Int} (h : (cells S).2 = 0) : ∀ x ∈ S, 0 ≤ x := by
  unfold cells at h
  split at h
  · simp at h
  · rename_i h1
    intro x hx
    have : ¬ (S.any fun x => decide (x < 0)) = true := fun h => h1 (.inr h)
    simp at this
    exact this x hx
/-- What a tensor comes to, summed over a mode. -/
theorem sum_total {D : List Int × List Int} {m : Nat} (h : checkF D = 0) (hm : m < D.1.length) :
    (sumF D m).2 = 2 ∨ ((sumF D m).2 = 0 ∧ checkF (sumF D m).1 = 0 ∧ (sumF D m).1.1.length + 1 = D.1.length ∧ IntKind.i64.wrap (sumI (sumF D m).1.2) = IntKind.i64.wrap (sumI D.2)) := by
  obtain ⟨S, vs⟩ := D
  simp only at hm
  obtain ⟨h1, h2, h3⟩ := check_laid h
  simp only at h1 h2 h3
  have hl4 := (laid_ok h1).1
  have hm1 : ¬ (S.length : Int) ≤ m := by omega
  have hm0 : ¬ (m : Int) < 0 := by omega
  have hEl : (S.eraseIdx m).length = S.length - 1 := by rw [List.length_eraseIdx, if_pos hm]
  by_cases hz : (zeroF (S.eraseIdx m)).2 = 0
  · right
    obtain ⟨l1, l2⟩ := zeroF_ok hz
    obtain ⟨_, n, hn, hn'⟩ := laid_ok l1
    have e : sumF (S, vs) m = ((S.eraseIdx m, binV (idxF (prd (S.drop (m + 1))).toNat (S.getD m 0).toNat) vs n), 0) := by
      simp only [sumF, h, ne_eq, not_true_eq_false, if_false, hm0, hm1, or_self, Int.toNat_natCast, hz, hn]
    rw [e]
    refine ⟨rfl, ?_, by simp only [hEl]; omega, ?_⟩
    · unfold checkF
      simp only [l1, ne_eq, not_true_eq_false, if_false, binV_len, hn]
    · simp only [binV]
      rw [sumI_wrap]
      by_cases hv : vs = []
      · subst hv
        simp only [bins, sumI, sumI_zero]
      · obtain ⟨pre, s0, far, hpre, hs0, hfar, hSm, hP, hT, hN, hN2, hSx, hlE, hzE, -⟩ := sum_dims h hv hm
        have hn2 : n = pre * far := by rw [hlE] at hn; simp only at hn; omega
        have hg : (S.getD m 0).toNat = s0 := by
          have : S.getD m 0 = S[m] := by simp [hm]
          rw [this, hSm]; simp
        rw [hT, hg, Int.toNat_natCast, sumI_bins _ _ _ _ fun i _ hi => ?_]
        rw [hn2]
        exact idx_lt' (by omega) hfar hs0
  · left
    have e : (sumF (S, vs) m).2 = (zeroF (S.eraseIdx m)).2 := by
      simp only [sumF, h, ne_eq, not_true_eq_false, if_false, hm0, hm1, or_self, Int.toNat_natCast]
      rw [if_pos hz]
    rw [e]
    have hnn := cells_nn (by rw [← h3]; exact h1)
    have := cells_err2 (S := S.eraseIdx m) (by omega) fun x hx => hnn x (List.mem_of_mem_eraseIdx hx)
    unfold zeroF at hz ⊢
    by_cases hlz : (laidF (S.eraseIdx m)).2 = 0
    · rw [if_neg (by simpa using hlz)] at hz; simp at hz
    · rw [if_pos hlz]
      simp only
      unfold laidF at hlz ⊢
      split
      · rfl
      · rename_i hh
        rw [if_neg hh] at hlz
        rcases this with h0 | h0
        · exact absurd h0 hlz
        · exact h0
end Go.Fw
