import Derived.Test.YtbhkoeaecngdhaaFwlaw01g
namespace Go.Fw
open Go Go.RowKit Go.Proofs
set_option maxRecDepth 100000
set_option linter.unusedSimpArgs false
set_option linter.unusedVariables false

def fS (S : List Int) (m : Nat) : Nat → Nat := idxF (prd (S.drop (m + 1))).toNat (S.getD m 0).toNat
def mS (S : List Int) (m : Nat) : Nat := (laidF (S.eraseIdx m)).1.toNat
theorem sum_ok {S vs : List Int} {m : Nat} (h : checkF (S, vs) = 0) (hm : m < S.length) (hz : (zeroF (S.eraseIdx m)).2 = 0) : sumF (S, vs) m = ((S.eraseIdx m, binV (fS S m) vs (mS S m)), 0) := by
  have hm1 : ¬ (S.length : Int) ≤ m := by omega
  have hm0 : ¬ (m : Int) < 0 := by omega
  simp only [sumF, h, ne_eq, not_true_eq_false, if_false, hm0, hm1, or_self, Int.toNat_natCast, hz, fS, mS]
theorem sum_bad {S vs : List Int} {m : Nat} (h : checkF (S, vs) = 0) (hm : m < S.length) (hz : (zeroF (S.eraseIdx m)).2 ≠ 0) : sumF (S, vs) m = (([], []), (zeroF (S.eraseIdx m)).2) := by
  have hm1 : ¬ (S.length : Int) ≤ m := by omega
  have hm0 : ¬ (m : Int) < 0 := by omega
  simp only [sumF, h, ne_eq, not_true_eq_false, if_false, hm0, hm1, or_self, Int.toNat_natCast]
  rw [if_pos hz]
theorem sum_err {S vs : List Int} {m : Nat} (h : checkF (S, vs) = 0) (hm : m < S.length) : (sumF (S, vs) m).2 = (zeroF (S.eraseIdx m)).2 := by
  by_cases hz : (zeroF (S.eraseIdx m)).2 = 0
  · rw [sum_ok h hm hz, hz]
  · rw [sum_bad h hm hz]
theorem fS_lt {S vs : List Int} {m i : Nat} (h : checkF (S, vs) = 0) (hm : m < S.length) (hi : i < vs.length) : fS S m i < mS S m := by
  have hv : vs ≠ [] := by rintro rfl; simp at hi
  obtain ⟨pre, s0, far, hpre, hs0, hfar, hSm, hP, hT, hN, hN2, hSx, hlE, hzE, -⟩ := sum_dims h hv hm
  have hg : (S.getD m 0).toNat = s0 := by
    have : S.getD m 0 = S[m] := by simp [hm]
    rw [this, hSm]; simp
  unfold fS mS
  rw [hT, hg, hlE, Int.toNat_natCast, Int.toNat_natCast]
  exact idx_lt' (by omega) hfar hs0
theorem sum_check {S vs : List Int} {m : Nat} (hz : (zeroF (S.eraseIdx m)).2 = 0) : checkF (S.eraseIdx m, binV (fS S m) vs (mS S m)) = 0 := by
  obtain ⟨l1, _⟩ := zeroF_ok hz
  obtain ⟨_, n, hn, hn'⟩ := laid_ok l1
  unfold checkF
  simp only [l1, ne_eq, not_true_eq_false, if_false, binV_len, mS, hn, Int.toNat_natCast]

theorem bins_range (f : Nat → Nat) (h : Nat → Int) (k : Nat) : ∀ (M n : Nat), bins f ((List.range' n M).map h) n k = sumI ((List.range' n M).map fun j => if f j = k then h j else 0)
  | 0, n => rfl
  | M + 1, n => by
    simp only [List.range'_succ, List.map_cons, bins, sumI, bins_range f h k M (n + 1)]
theorem sumI_pick (M a : Nat) (f : Nat → Nat) (k : Nat) (v : Int) (h : a < M) : sumI ((List.range M).map fun j => if f j = k then (if a = j then v else 0) else 0) = if f a = k then v else 0 := by
  have e : (fun j => if f j = k then (if a = j then v else 0) else 0) = fun j => if a = j then (if f a = k then v else 0) else 0 := by
    funext j
    by_cases h1 : a = j
    · subst h1; simp
    · simp [h1]
  rw [e, sumI_one _ _ _ h]
theorem bins_comp (f g : Nat → Nat) (M k : Nat) : ∀ (vs : List Int) (n : Nat), (∀ i, n ≤ i → i < n + vs.length → g i < M) → sumI ((List.range M).map fun j => if f j = k then bins g vs n j else 0) = bins (f ∘ g) vs n k
  | [], n, _ => by
    have : (fun j => if f j = k then bins g [] n j else 0) = fun _ => (0 : Int) := by funext j; simp [bins]
    rw [this, sumI_zero]; rfl
  | v :: r, n, h => by
    have e : (fun j => if f j = k then bins g (v :: r) n j else 0) = fun j => (if f j = k then (if g n = j then v else 0) else 0) + (if f j = k then bins g r (n + 1) j else 0) := by
      funext j
      by_cases h1 : f j = k <;> simp [h1, bins]
    rw [e, sumI_add, sumI_pick _ _ _ _ _ (h n (by omega) (by simp)), bins_comp f g M k r (n + 1) fun i h1 h2 => h i (by omega) (by simp at h2 ⊢; omega)]
    rfl
theorem binV_comp {f g : Nat → Nat} {vs : List Int} {M M' : Nat} (h : ∀ i, i < vs.length → g i < M) : binV f (binV g vs M) M' = binV (f ∘ g) vs M' := by
  apply List.ext_getElem (by simp [binV_len])
  intro k h1 h2
  rw [binV_get, binV_get]
  have e : binV g vs M = (List.range' 0 M).map fun j => IntKind.i64.wrap (bins g vs 0 j) := by rw [← List.range_eq_range']; rfl
  rw [e, bins_range, ← List.range_eq_range', ← bins_comp f g M k vs 0 fun i _ hi => h i (by omega), ← sumI_wrap (List.range M) fun j => if f j = k then bins g vs 0 j else 0, ← sumI_wrap (List.range M) fun j => if f j = k then IntKind.i64.wrap (bins g vs 0 j) else 0]
  congr 2
  apply List.map_congr_left
  intro j _
  by_cases hj : f j = k
  · simp only [hj, if_true, wrap_bmod', Int.bmod_bmod]
  · simp only [hj, if_false]
theorem binV_congr {f g : Nat → Nat} {vs : List Int} {M : Nat} (h : ∀ i, i < vs.length → f i = g i) : binV f vs M = binV g vs M := by
  have key : ∀ (l : List Int) (n k : Nat), (∀ i, n ≤ i → i < n + l.length → f i = g i) → bins f l n k = bins g l n k := by
    intro l
    induction l with
    | nil => intro n k _; rfl
    | cons x r ih =>
      intro n k hh
      simp only [bins]
      rw [hh n (by omega) (by simp), ih (n + 1) k fun i h1 h2 => hh i (by omega) (by simp at h2 ⊢; omega)]
  apply List.ext_getElem (by simp [binV_len])
  intro k h1 h2
  rw [binV_get, binV_get, key vs 0 k fun i _ hi => h i (by omega)]

theorem idx_form {a b e s far : Nat} (hb : b < s) (he : e < far) : idxF far s ((a * s + b) * far + e) = a * far + e := by
  unfold idxF
  have h1 : (b + 1) * far ≤ s * far := Nat.mul_le_mul_right _ hb
  rw [Nat.add_mul, Nat.one_mul] at h1
  have e1 : (a * s + b) * far + e = (b * far + e) + far * s * a := by
    rw [Nat.add_mul]
    have : a * s * far = far * s * a := by ac_rfl
    omega
  have e2 : ((a * s + b) * far + e) / (far * s) = a := by
    rw [e1, Nat.add_mul_div_left _ _ (Nat.mul_pos (by omega) (by omega)), Nat.div_eq_of_lt (by rw [Nat.mul_comm far s]; omega), Nat.zero_add]
  have e3 : ((a * s + b) * far + e) % far = e := by
    rw [Nat.add_comm, Nat.add_mul_mod_self_right, Nat.mod_eq_of_lt he]
  rw [e2, e3]
theorem idx_swap {sl q sh r n : Nat} (hsl : 0 < sl) (hq : 0 < q) (hsh : 0 < sh) (hr : 0 < r) : idxF (q * r) sl (idxF r sh n) = idxF r sh (idxF (q * (sh * r)) sl n) := by
  obtain ⟨e, he⟩ : ∃ e, e = n % r := ⟨_, rfl⟩
  obtain ⟨n1, h1⟩ : ∃ x, x = n / r := ⟨_, rfl⟩
  obtain ⟨d, hd⟩ : ∃ e, e = n1 % sh := ⟨_, rfl⟩
  obtain ⟨n2, h2⟩ : ∃ x, x = n1 / sh := ⟨_, rfl⟩
  obtain ⟨c, hc⟩ : ∃ e, e = n2 % q := ⟨_, rfl⟩
  obtain ⟨n3, h3⟩ : ∃ x, x = n2 / q := ⟨_, rfl⟩
  obtain ⟨b, hb⟩ : ∃ e, e = n3 % sl := ⟨_, rfl⟩
  obtain ⟨a, ha⟩ : ∃ x, x = n3 / sl := ⟨_, rfl⟩
  have le : e < r := he ▸ Nat.mod_lt _ hr
  have ld : d < sh := hd ▸ Nat.mod_lt _ hsh
  have lc : c < q := hc ▸ Nat.mod_lt _ hq
  have lb : b < sl := hb ▸ Nat.mod_lt _ hsl
  have q1 : n = n1 * r + e := by rw [h1, he, Nat.mul_comm]; exact (Nat.div_add_mod _ _).symm
  have q2 : n1 = n2 * sh + d := by rw [h2, hd, Nat.mul_comm]; exact (Nat.div_add_mod _ _).symm
  have q3 : n2 = n3 * q + c := by rw [h3, hc, Nat.mul_comm]; exact (Nat.div_add_mod _ _).symm
  have q4 : n3 = a * sl + b := by rw [ha, hb, Nat.mul_comm]; exact (Nat.div_add_mod _ _).symm
  have l1 : c * r + e < q * r := by
    have : (c + 1) * r ≤ q * r := Nat.mul_le_mul_right _ lc
    rw [Nat.add_mul, Nat.one_mul] at this; omega
  have l2 : d * r + e < sh * r := by
    have : (d + 1) * r ≤ sh * r := Nat.mul_le_mul_right _ ld
    rw [Nat.add_mul, Nat.one_mul] at this; omega
  have l3 : c * (sh * r) + (d * r + e) < q * (sh * r) := by
    have : (c + 1) * (sh * r) ≤ q * (sh * r) := Nat.mul_le_mul_right _ lc
    rw [Nat.add_mul, Nat.one_mul] at this; omega
  have x1 : idxF r sh n = n2 * r + e := by rw [q1, q2]; exact idx_form ld le
  have x2 : n2 * r + e = (a * sl + b) * (q * r) + (c * r + e) := by
    rw [q3, q4, Nat.add_mul, Nat.mul_assoc]; omega
  have x3 : n = (a * sl + b) * (q * (sh * r)) + (c * (sh * r) + (d * r + e)) := by
    have y1 : n = (n2 * sh + d) * r + e := by rw [q1, q2]
    have y2 : n2 * sh * r = (a * sl + b) * (q * (sh * r)) + c * (sh * r) := by
      rw [q3, q4, Nat.mul_assoc, Nat.add_mul, Nat.mul_assoc]
    rw [Nat.add_mul] at y1
    omega
  have x4 : idxF (q * (sh * r)) sl n = a * (q * (sh * r)) + (c * (sh * r) + (d * r + e)) := by
    have := idx_form (a := a) lb l3
    rw [← x3] at this
    exact this
  have x5 : a * (q * (sh * r)) + (c * (sh * r) + (d * r + e)) = ((a * q + c) * sh + d) * r + e := by
    have z1 : ((a * q + c) * sh + d) * r = a * q * sh * r + c * sh * r + d * r := by rw [Nat.add_mul, Nat.add_mul, Nat.add_mul]
    have z2 : a * (q * (sh * r)) = a * q * sh * r := by ac_rfl
    have z3 : c * (sh * r) = c * sh * r := by ac_rfl
    omega
  rw [x1, x2, idx_form lb l1, x4, x5, idx_form ld le, Nat.add_mul, Nat.mul_assoc]
  omega

theorem erase_mid {A B : List Int} {x : Int} : (A ++ x :: B).eraseIdx A.length = A ++ B := by
  rw [List.eraseIdx_append_of_length_le (by omega)]
  simp
theorem fS_mid {A B : List Int} {x : Int} : fS (A ++ x :: B) A.length = idxF (prd B).toNat x.toNat := by
  unfold fS
  have e : List.drop (A.length + 1) (A ++ x :: B) = B := by rw [← List.drop_drop]; simp
  rw [e]
  simp [List.getD]
/-- Summed over two modes, in either order. -/
theorem sum_swap {S vs : List Int} {lo hi : Nat} (hlh : lo < hi) (hhi : hi < S.length) (hc : checkF (S, vs) = 0) :
    (S.eraseIdx hi).eraseIdx lo = (S.eraseIdx lo).eraseIdx (hi - 1) ∧
    ((zeroF (S.eraseIdx hi)).2 = 0 → (zeroF (S.eraseIdx lo)).2 = 0 → binV (fS (S.eraseIdx hi) lo) (binV (fS S hi) vs (mS S hi)) (mS (S.eraseIdx hi) lo) = binV (fS (S.eraseIdx lo) (hi - 1)) (binV (fS S lo) vs (mS S lo)) (mS (S.eraseIdx lo) (hi - 1))) := by
  obtain ⟨P, Q, R, sl, sh, rfl, rfl, hQ⟩ : ∃ P Q R sl sh, S = P ++ sl :: (Q ++ sh :: R) ∧ lo = P.length ∧ Q.length = hi - lo - 1 := by
    have h1 := split_at (xs := S) (m := lo) (by omega)
    have h2 := split_at (xs := S.drop (lo + 1)) (m := hi - lo - 1) (by simp; omega)
    refine ⟨S.take lo, (S.drop (lo + 1)).take (hi - lo - 1), (S.drop (lo + 1)).drop (hi - lo - 1 + 1), S[lo], (S.drop (lo + 1))[hi - lo - 1]'(by simp; omega), ?_, by simp; omega, by simp; omega⟩
    rw [← h2]; exact h1
  have hhi' : hi = (P ++ sl :: Q).length := by simp; omega
  have hh1 : hi - 1 = (P ++ Q).length := by simp; omega
  have eS : P ++ sl :: (Q ++ sh :: R) = (P ++ sl :: Q) ++ sh :: R := by simp
  have e1 : (P ++ sl :: (Q ++ sh :: R)).eraseIdx hi = P ++ sl :: (Q ++ R) := by rw [eS, hhi', erase_mid]; simp
  have e2 : (P ++ sl :: (Q ++ sh :: R)).eraseIdx P.length = (P ++ Q) ++ sh :: R := by rw [erase_mid]; simp
  have e3 : (P ++ sl :: (Q ++ R)).eraseIdx P.length = (P ++ Q) ++ R := by rw [erase_mid]; simp
  have e4 : ((P ++ Q) ++ sh :: R).eraseIdx (hi - 1) = (P ++ Q) ++ R := by rw [hh1, erase_mid]
  refine ⟨by rw [e1, e2, e3, e4], fun z1 z2 => ?_⟩
  rw [binV_comp fun i h => fS_lt hc hhi h, binV_comp fun i h => fS_lt hc (by omega) h]
  have eM : mS ((P ++ sl :: (Q ++ sh :: R)).eraseIdx hi) P.length = mS ((P ++ sl :: (Q ++ sh :: R)).eraseIdx P.length) (hi - 1) := by
    unfold mS
    rw [e1, e2, e3, e4]
  rw [eM]
  apply binV_congr
  intro i hi'
  have hv : vs ≠ [] := by rintro rfl; simp at hi'
  obtain ⟨_, _, _, _, _, _, _, _, _, _, _, hSx, _⟩ := sum_dims hc hv hhi
  have hR := prd_pos (xs := R) fun x h => hSx x (by simp [h])
  have hQp := prd_pos (xs := Q) fun x h => hSx x (by simp [h])
  have hsl := hSx sl (by simp)
  have hsh := hSx sh (by simp)
  have f1 : fS (P ++ sl :: (Q ++ sh :: R)) hi = idxF (prd R).toNat sh.toNat := by rw [eS, hhi', fS_mid]
  have f2 : fS (P ++ sl :: (Q ++ R)) P.length = idxF (prd (Q ++ R)).toNat sl.toNat := fS_mid
  have f3 : fS (P ++ sl :: (Q ++ sh :: R)) P.length = idxF (prd (Q ++ sh :: R)).toNat sl.toNat := fS_mid
  have f4 : fS ((P ++ Q) ++ sh :: R) (hi - 1) = idxF (prd R).toNat sh.toNat := by rw [hh1, fS_mid]
  rw [e1, e2]
  simp only [Function.comp]
  rw [f1, f2, f3, f4]
  have t1 : (prd (Q ++ R)).toNat = (prd Q).toNat * (prd R).toNat := by rw [prd_append, Int.toNat_mul (by omega) (by omega)]
  have t2 : (prd (Q ++ sh :: R)).toNat = (prd Q).toNat * (sh.toNat * (prd R).toNat) := by
    rw [prd_append, Int.toNat_mul (by omega) (by simp only [prd]; exact Int.mul_nonneg (by omega) (by omega)), prd, Int.toNat_mul (by omega) (by omega)]
  rw [t1, t2]
  exact idx_swap (by omega) (by omega) (by omega) (by omega)

theorem bins_add (f : Nat → Nat) (k : Nat) : ∀ (vs ws : List Int) (n : Nat), vs.length = ws.length → IntKind.i64.wrap (bins f (List.zipWith addW vs ws) n k) = IntKind.i64.wrap (bins f vs n k + bins f ws n k)
  | [], [], n, _ => rfl
  | v :: r, w :: q, n, h => by
    have ih := bins_add f k r q (n + 1) (by simpa using h)
    simp only [List.zipWith_cons_cons, bins]
    by_cases e : f n = k
    · simp only [e, if_true]
      simp only [addW, wrap_bmod', Int.bmod_add_bmod] at ih ⊢
      rw [← Int.add_bmod_bmod, ih, Int.add_bmod_bmod]
      congr 1; omega
    · simp only [e, if_false]
      simp only [Int.zero_add]
      exact ih
  | [], _ :: _, _, h => by simp at h
  | _ :: _, [], _, h => by simp at h
theorem binV_add {f : Nat → Nat} {vs ws : List Int} {M : Nat} (h : vs.length = ws.length) : binV f (List.zipWith addW vs ws) M = List.zipWith addW (binV f vs M) (binV f ws M) := by
  apply List.ext_getElem (by simp [binV_len])
  intro k h1 h2
  rw [binV_get, List.getElem_zipWith, binV_get, binV_get, bins_add f k vs ws 0 h]
  simp only [addW, wrap_bmod', Int.bmod_add_bmod, Int.add_bmod_bmod]
theorem bins_mul (f : Nat → Nat) (k : Nat) (by_ : Int) : ∀ (vs : List Int) (n : Nat), IntKind.i64.wrap (bins f (List.zipWith (fun x _ => mulW x by_) vs vs) n k) = IntKind.i64.wrap (bins f vs n k * by_)
  | [], n => by simp [bins]
  | v :: r, n => by
    have ih := bins_mul f k by_ r (n + 1)
    simp only [List.zipWith_cons_cons, bins]
    by_cases e : f n = k
    · simp only [e, if_true]
      simp only [mulW, wrap_bmod', Int.bmod_add_bmod] at ih ⊢
      rw [← Int.add_bmod_bmod, ih, Int.add_bmod_bmod, Int.add_mul]
    · simp only [e, if_false]
      simp only [Int.zero_add]
      exact ih
theorem binV_mul {f : Nat → Nat} {vs : List Int} {M : Nat} {by_ : Int} : binV f (List.zipWith (fun x _ => mulW x by_) vs vs) M = List.zipWith (fun x _ => mulW x by_) (binV f vs M) (binV f vs M) := by
  apply List.ext_getElem (by simp [binV_len])
  intro k h1 h2
  rw [binV_get, List.getElem_zipWith, binV_get, bins_mul f k by_ vs 0]
  simp only [mulW, wrap_bmod', Int.bmod_mul_bmod]
end Go.Fw
