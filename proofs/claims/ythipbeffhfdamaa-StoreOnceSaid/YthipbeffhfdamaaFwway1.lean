import Derived.Test.YthipbeffhfdamaaFwgood1
namespace Go.Fw
open Go Go.RowKit Go.Proofs
set_option maxRecDepth 100000
set_option linter.unusedSimpArgs false
set_option linter.unusedVariables false

/-- Where one is on the way down through a tensor that may be. -/
structure Way (S : List Int) (M : List (Bool × Int)) (N : Nat) (fs : List (Int × Int × Int)) (xs : List LvA) (M0 : List (Bool × Int)) (b : Int) (c : List Int) (n p : Nat) : Prop where
  hM0 : S.length ≤ M0.length
  hun : ∀ m, (M0.getD m (false, 0)).1 = false → (M0.getD m (false, 0)).2 = 0
  hr : readGo S fs M0 b = some M
  hP : Part S M M0 c
  hl : xs.length = fs.length
  hfit : fitF xs fs (fs.map (lvlOf S M)) = true
  hc : ∃ ws, cntGo xs n = .ok ws ∧ lastG ws n = N
  hn : n ≤ 1048576
  hp : p < n
theorem Way.nil {S : List Int} {M : List (Bool × Int)} {N : Nat} {M0 : List (Bool × Int)} {b : Int} {c : List Int} {n p : Nat} (h : Way S M N [] [] M0 b c n p) : M0 = M ∧ p < N := by
  obtain ⟨-, -, hr, -, -, -, ⟨ws, hc, hN⟩, -, hp⟩ := h
  cases hr
  cases hc
  exact ⟨rfl, by rw [← hN]; exact hp⟩
/-- What a step down sets a mode to. -/
def newF (f : Int × Int × Int) (c : List Int) (a : Int) : Int := if f.1 = 4 then c.getD f.2.1.toNat 0 * f.2.2 + a else a
set_option maxHeartbeats 2000000 in
theorem Way.step {S : List Int} {M : List (Bool × Int)} {N : Nat} {f : Int × Int × Int} {fs : List (Int × Int × Int)} {x : LvA} {xs : List LvA} {M0 : List (Bool × Int)} {b : Int} {c : List Int} {n p : Nat}
    (hS : ∀ x ∈ S, 0 ≤ x ∧ x ≤ 9223372036854775807) (h : Way S M N (f :: fs) (x :: xs) M0 b c n p) :
    (0 ≤ f.2.1 ∧ f.2.1.toNat < S.length) ∧ lvCheck x.lv n = 0 ∧ (f.1 = 4 → (M0.getD f.2.1.toNat (false, 0)) = (true, 0) ∧ 0 < f.2.2 ∧ (M.getD f.2.1.toNat (false, 0)).2 = f.2.2 ∧ x.lv.sz = f.2.2) ∧
    (f.1 ≠ 4 → (M0.getD f.2.1.toNat (false, 0)) = (false, 0)) ∧
    ∃ M1, (∀ m', M1.getD m' (false, 0) = if f.2.1.toNat = m' then (true, if f.1 = 4 then f.2.2 else 0) else M0.getD m' (false, 0)) ∧
      ∀ y ∈ kidsF x.lv p, 0 ≤ y.2 ∧ (0 ≤ y.1 ∧ y.1 < x.lv.sz) ∧ stepC f c y.1 = c.set f.2.1.toNat (newF f c y.1) ∧ Way S M N fs xs M1 f.1 (stepC f c y.1) (lvBelow x.lv n).toNat y.2.toNat := by
  obtain ⟨hM0, hun, hr, hP, hl, hfit, ⟨ws, hc, hN⟩, hn, hp⟩ := h
  simp only [readGo, Option.bind_eq_some_iff] at hr
  obtain ⟨M1, hr1, hr2⟩ := hr
  obtain ⟨hmo, hk, -⟩ := readStep_ok hr1
  have hM1 := readStep_len hr1
  simp only [List.map_cons, fitF, Bool.and_eq_true, decide_eq_true_eq] at hfit
  obtain ⟨⟨hfk, hfz⟩, hfit⟩ := hfit
  simp only [cntGo] at hc
  split at hc
  case isFalse => cases hc
  rename_i hchk
  have hcs : ∃ ws', cntGo xs (lvBelow x.lv n).toNat = .ok ws' ∧ ws = lvBelow x.lv n :: ws' := by
    cases h : cntGo xs (lvBelow x.lv n).toNat with
    | error e => rw [h] at hc; simp [Except.map] at hc
    | ok l => rw [h] at hc; simp [Except.map] at hc; exact ⟨l, rfl, hc.symm⟩
  obtain ⟨ws', hc', rfl⟩ := hcs
  obtain ⟨-, -, -, -, b5, b6, -, -⟩ := lvBelow_ok hchk
  obtain ⟨k, mo, z⟩ := f
  simp only at hmo hk hfk hfz
  obtain ⟨m, rfl⟩ : ∃ m : Nat, mo = m := ⟨mo.toNat, by omega⟩
  have hm : m < S.length := by omega
  have hmM : m < M0.length := by omega
  have hmc : m < c.length := by rw [hP.1]; exact hm
  have hkeep := fun m' => readGo_keep (S := S) (fs := fs) (M := M1) (M' := M) (b := k) (by omega) hr2 m'
  have hlen : ∀ a, (stepC (k, (m : Int), z) c a).length = S.length := fun a => by rw [stepC]; simpa using hP.1
  have hSm := hS (S.getD m 0) (by
    have : S.getD m 0 = S[m] := by simp [hm]
    rw [this]; exact List.getElem_mem hm)
  simp only [Int.toNat_natCast]
  unfold readStep at hr1
  simp only [Int.toNat_natCast] at hr1
  split at hr1
  · cases hr1
  split at hr1
  · rename_i hk03
    split at hr1
    case isFalse => cases hr1
    rename_i hcond
    obtain ⟨hc1, hz0, -⟩ := hcond
    cases hr1
    have h00 := hun m hc1
    have k4 : ¬ k = 4 := by omega
    refine ⟨⟨by omega, hm⟩, hchk, fun h => absurd h k4, fun _ => Prod.ext hc1 h00, M0.set m (true, (M0.getD m (false, 0)).2), fun m' => ?_, fun y hy => ?_⟩
    · rw [getD_set _ _ _ _ _ hmM]
      split
      · rw [h00]
      · rfl
    obtain ⟨hy1, hy2⟩ := kids_in hchk hp y hy
    simp only [lvlOf, Int.toNat_natCast] at hfz
    rw [if_neg k4] at hfz
    have hfr : fromF (k, (m : Int), z) c = 0 := by simp only [fromF]; rw [if_neg k4]
    have hy3 : 0 < (M.getD m (false, 0)).2 → (y.1 + 1) * (M.getD m (false, 0)).2 ≤ S.getD m 0 ∧ y.1 + 1 ≤ (y.1 + 1) * (M.getD m (false, 0)).2 := by
      intro hb
      rw [if_pos hb] at hfz
      have hdiv : x.lv.sz * (M.getD m (false, 0)).2 ≤ S.getD m 0 := by
        rw [hfz, Int.tdiv_eq_ediv_of_nonneg hSm.1]
        exact Int.ediv_mul_le _ (by omega)
      have hb1 : y.1 + 1 ≤ (y.1 + 1) * (M.getD m (false, 0)).2 := by
        have := Int.mul_le_mul_of_nonneg_left (show (1 : Int) ≤ (M.getD m (false, 0)).2 by omega) (show 0 ≤ y.1 + 1 by omega)
        omega
      have hb2 : (y.1 + 1) * (M.getD m (false, 0)).2 ≤ x.lv.sz * (M.getD m (false, 0)).2 := Int.mul_le_mul_of_nonneg_right (by omega) (by omega)
      omega
    have hy4 : ¬ 0 < (M.getD m (false, 0)).2 → y.1 < S.getD m 0 := by
      intro hb
      rw [if_neg hb] at hfz
      omega
    have w : w64 y.1 = y.1 := wrap_i64 (by omega) (by
      by_cases hb : 0 < (M.getD m (false, 0)).2
      · have := hy3 hb; omega
      · have := hy4 hb; omega)
    refine ⟨hy2.1, hy1, by simp only [stepC, newF, Int.toNat_natCast, hfr, Int.zero_add, w]; rw [if_neg k4], ⟨by rw [hM1]; exact hM0, ?_, hr2, ⟨hlen _, fun m' hm' hmet' => ?_⟩, by simpa using hl, hfit, ⟨ws', hc', by simpa [lastG] using hN⟩, by omega, by omega⟩⟩
    · intro m' h'
      rw [getD_set _ _ _ _ _ hmM] at h' ⊢
      split at h'
      · simp at h'
      · rename_i e; rw [if_neg e]; exact hun m' h'
    · rw [getD_set _ _ _ _ _ hmM] at hmet' ⊢
      simp only [stepC, Int.toNat_natCast, hfr, Int.zero_add]
      rw [getD_set _ _ _ _ _ hmc]
      by_cases e : m = m'
      · subst e
        simp only [if_true]
        rw [w, h00]
        by_cases hb : 0 < (M.getD m (false, 0)).2
        · refine ⟨by omega, ?_⟩
          rw [if_pos ⟨rfl, hb⟩]
          exact (hy3 hb).1
        · refine ⟨by omega, ?_⟩
          rw [if_neg (by rintro ⟨_, h⟩; exact hb h)]
          exact hy4 hb
      · simp only [if_neg e] at hmet' ⊢
        exact hP.2 m' hm' hmet'
  · rename_i hk03
    split at hr1
    case isFalse => cases hr1
    rename_i k4
    split at hr1
    case isFalse => cases hr1
    rename_i hcond
    obtain ⟨hc1, hc2, -, hz0, -⟩ := hcond
    cases hr1
    have hMm : (M.getD m (false, 0)).2 = z := by
      have := hkeep m
      rw [getD_set _ _ _ _ _ hmM, if_pos rfl] at this
      exact this (by simp only; omega)
    simp only [lvlOf, Int.toNat_natCast] at hfz
    rw [if_pos k4, hMm] at hfz
    refine ⟨⟨by omega, hm⟩, hchk, fun _ => ⟨Prod.ext hc1 hc2, hz0, hMm, hfz⟩, fun h => absurd k4 h, M0.set m ((M0.getD m (false, 0)).1, z), fun m' => ?_, fun y hy => ?_⟩
    · rw [getD_set _ _ _ _ _ hmM]
      split
      · rw [hc1]
      · rfl
    obtain ⟨hy1, hy2⟩ := kids_in hchk hp y hy
    have hPm := hP.2 m hm hc1
    rw [if_pos ⟨hc2, by rw [hMm]; exact hz0⟩, hMm] at hPm
    obtain ⟨q0, q1⟩ := hPm
    rw [Int.add_mul] at q1
    have q2 : 0 ≤ c.getD m 0 * z := Int.mul_nonneg q0 (by omega)
    have w1 := wrap_i64 (n := c.getD m 0 * z) (by omega) (by omega)
    have w2 : w64 (c.getD m 0 * z + y.1) = c.getD m 0 * z + y.1 := wrap_i64 (by omega) (by omega)
    have hfr : fromF (k, (m : Int), z) c = c.getD m 0 * z := by simp only [fromF, Int.toNat_natCast]; rw [if_pos k4]; exact w1
    refine ⟨hy2.1, hy1, by simp only [stepC, newF, Int.toNat_natCast, hfr, w2]; rw [if_pos k4], ⟨by rw [hM1]; exact hM0, ?_, hr2, ⟨hlen _, fun m' hm' hmet' => ?_⟩, by simpa using hl, hfit, ⟨ws', hc', by simpa [lastG] using hN⟩, by omega, by omega⟩⟩
    · intro m' h'
      rw [getD_set _ _ _ _ _ hmM] at h' ⊢
      split at h'
      · rw [hc1] at h'; simp at h'
      · rename_i e; rw [if_neg e]; exact hun m' h'
    · rw [getD_set _ _ _ _ _ hmM] at hmet' ⊢
      simp only [stepC, Int.toNat_natCast, hfr]
      rw [getD_set _ _ _ _ _ hmc]
      by_cases e : m = m'
      · subst e
        simp only [if_true]
        rw [w2]
        refine ⟨by omega, ?_⟩
        rw [if_neg (by rintro ⟨h, _⟩; omega)]
        omega
      · simp only [if_neg e] at hmet' ⊢
        exact hP.2 m' hm' hmet'
theorem tn_way {S : List Int} {F : List (Int × Int × Int)} {xs : List LvA} {Vs : List Int} (hS : ∀ x ∈ S, -9223372036854775808 ≤ x ∧ x ≤ 9223372036854775807) (h : tnCheck S F xs Vs = 0) :
    (∀ x ∈ S, 0 ≤ x ∧ x ≤ 9223372036854775807) ∧ ∃ M, readF S F = some M ∧ (∀ m < S.length, (M.getD m (false, 0)).1 = true) ∧ Way S M Vs.length F xs (List.replicate 4 (false, 0)) 0 (List.replicate S.length 0) 1 0 := by
  obtain ⟨h1, h2, h3, h4, h5, -⟩ := tnCheck_ok h
  have hc : (cells S).2 = 0 := by
    by_cases hc : (cells S).2 = 0
    · exact hc
    · unfold sizesF at h1; rw [if_pos hc] at h1; exact absurd h1 hc
  obtain ⟨hn, hl4⟩ := cells_nonneg' hc
  obtain ⟨M, hM⟩ := sizesF_read h1
  have hZ : (sizesF S F).1 = F.map (lvlOf S M) := by
    unfold sizesF at h1 ⊢
    rw [if_neg (by omega)] at h1 ⊢
    simp only [hM] at h1 ⊢
    split
    · rename_i hb; rw [if_pos hb] at h1; cases h1
    · rfl
  rw [hZ] at h3
  have hMF := hM
  unfold readF at hM
  rw [Option.bind_eq_some_iff] at hM
  obtain ⟨M1, hM1, hM2⟩ := hM
  split at hM2
  case isFalse => cases hM2
  rename_i hall
  cases hM2
  have hlenM : M.length = 4 := by
    have : ∀ {fs : List (Int × Int × Int)} {A B : List (Bool × Int)} {b : Int}, readGo S fs A b = some B → B.length = A.length := by
      intro fs
      induction fs with
      | nil => intro A B b h; cases h; rfl
      | cons f fs ih =>
        intro A B b h
        simp only [readGo, Option.bind_eq_some_iff] at h
        obtain ⟨C, e1, e2⟩ := h
        rw [ih e2, readStep_len e1]
    rw [this hM1]; simp
  have hmet : ∀ m < S.length, (M.getD m (false, 0)).1 = true := by
    intro m hm
    have hb : m < M.length := by omega
    have e : M.getD m (false, 0) = M[m] := by simp [hb]
    rw [e]
    have := List.all_eq_true.1 hall M[m] (by
      rw [List.mem_take_iff_getElem]
      exact ⟨m, by omega, rfl⟩)
    exact this
  have hco := cntF_ok h4
  have hnn := cntGo_nonneg hco
  have hlast : lastG (cntF xs).1 1 = Vs.length := by
    have e1 := lastG_eq (cntF xs).1 1 fun w hw => (hnn w hw).1
    have e2 : lastF (cntF xs).1 = (((1 : Nat) : Int) :: (cntF xs).1).getD (cntF xs).1.length 0 := rfl
    rw [e2] at h5
    omega
  refine ⟨fun x hx => ⟨hn x hx, (hS x hx).2⟩, M, hMF, hmet, by simpa using hl4, ?_, hM1, ⟨by simp, fun m _ hm => ?_⟩, h2, h3, ⟨_, hco, hlast⟩, by omega, by omega⟩
  · intro m _
    rw [rep_getD]
  · rw [rep_getD] at hm; cases hm
end Go.Fw
