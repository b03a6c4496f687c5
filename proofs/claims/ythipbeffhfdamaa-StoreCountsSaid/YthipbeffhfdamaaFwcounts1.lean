import Derived.Test.YthipbeffhfdamaaFwgood1
namespace Go.Fw
open Go Go.RowKit Go.Proofs
set_option maxRecDepth 100000
set_option linter.unusedSimpArgs false
set_option linter.unusedVariables false

def prodI : List Int → Int
  | [] => 1
  | x :: r => x * prodI r
theorem prodI_set : ∀ (l : List Int) (m : Nat) (s : Int), m < l.length → prodI (l.set m (l.getD m 0 * s)) = prodI l * s
  | x :: r, 0, s, _ => by simp only [List.set_cons_zero, prodI, List.getD_cons_zero]; rw [Int.mul_assoc, Int.mul_comm s, Int.mul_assoc]
  | x :: r, m + 1, s, h => by
    simp only [List.set_cons_succ, prodI, List.getD_cons_succ]
    rw [prodI_set r m s (by simpa using h), Int.mul_assoc]
theorem mulAll_prod : ∀ (xs : List Int) (n : Int), (mulAll xs n).2 = 0 → (mulAll xs n).1 = n * prodI xs
  | [], n, _ => by simp [mulAll, prodI]
  | s :: r, n, h => by
    simp only [mulAll] at h ⊢
    split
    · rename_i hc; rw [if_pos hc] at h; simp at h
    · rename_i hc
      rw [if_neg hc] at h
      rw [mulAll_prod r _ h, prodI, Int.mul_assoc]
theorem prodI_zero : ∀ {xs : List Int}, 0 ∈ xs → prodI xs = 0
  | x :: r, h => by
    rcases List.mem_cons.1 h with h | h
    · simp [prodI, ← h]
    · simp [prodI, prodI_zero h]
theorem cells_prod {S : List Int} (h : (cells S).2 = 0) : (cells S).1 = prodI S := by
  unfold cells at *
  split at h
  · simp at h
  · rename_i h1
    rw [if_neg h1]
    split
    · rename_i h0; rw [prodI_zero h0]
    · rename_i h0
      rw [if_neg h0] at h
      rw [mulAll_prod _ _ h]; simp

theorem readGo_mod {S : List Int} : ∀ {fs : List (Int × Int × Int)} {M M' : List (Bool × Int)} {b : Int}, S.length ≤ M.length → readGo S fs M b = some M' →
    (∀ m, (M.getD m (false, 0)).2 ≠ 0 → (S.getD m 0).tmod (M.getD m (false, 0)).2 = 0) → ∀ m, (M'.getD m (false, 0)).2 ≠ 0 → (S.getD m 0).tmod (M'.getD m (false, 0)).2 = 0
  | [], M, M', b, _, h, h0, m, hm => by cases h; exact h0 m hm
  | f :: r, M, M', b, hM, h, h0, m, hm => by
    simp only [readGo, Option.bind_eq_some_iff] at h
    obtain ⟨M1, h1, h2⟩ := h
    refine readGo_mod (by rw [readStep_len h1]; exact hM) h2 (fun j hj => ?_) m hm
    unfold readStep at h1
    split at h1
    · cases h1
    rename_i hr
    have hi : f.2.1.toNat < M.length := by omega
    split at h1
    · split at h1
      · cases h1
        rw [getD_set _ _ _ _ _ hi] at hj ⊢
        by_cases e : f.2.1.toNat = j
        · rw [if_pos e] at hj ⊢
          subst e
          exact h0 _ hj
        · rw [if_neg e] at hj ⊢
          exact h0 j hj
      · cases h1
    · split at h1
      · split at h1
        · rename_i hc
          cases h1
          rw [getD_set _ _ _ _ _ hi] at hj ⊢
          by_cases e : f.2.1.toNat = j
          · rw [if_pos e]
            subst e
            exact hc.2.2.2.2
          · rw [if_neg e] at hj ⊢
            exact h0 j hj
        · cases h1
      · cases h1

def prodStep (P : List Int) (f : Int × Int × Int) (z : Int) : List Int :=
  if f.1 = 4 then P.set f.2.1.toNat (w64 (P.getD f.2.1.toNat 0 * z)) else P.set f.2.1.toNat z
def prodGo : List (Int × Int × Int) → List Int → List Int → List Int
  | f :: fs, z :: zs, P => prodGo fs zs (prodStep P f z)
  | _, _, P => P
/-- What the sizes of the levels so far come to. -/
def PInv (S : List Int) (M M0 : List (Bool × Int)) (P : List Int) : Prop :=
  P.length = S.length ∧ ∀ m < S.length, (M0.getD m (false, 0)).1 = true →
    if (M0.getD m (false, 0)).2 = 0 ∧ 0 < (M.getD m (false, 0)).2 then P.getD m 0 * (M.getD m (false, 0)).2 = S.getD m 0 else P.getD m 0 = S.getD m 0
theorem PInv.all {S : List Int} {M : List (Bool × Int)} {P : List Int} (hmet : ∀ m < S.length, (M.getD m (false, 0)).1 = true) (h : PInv S M M P) : P = S := by
  apply List.ext_getElem h.1
  intro i h1 h2
  have := h.2 i h2 (hmet i h2)
  rw [if_neg (by omega)] at this
  simpa [h1, h2] using this
/-- A step: what is put at the level's mode. -/
theorem pinv_step {S : List Int} {M M0 M1 : List (Bool × Int)} {fs : List (Int × Int × Int)} {f : Int × Int × Int} {b : Int} {P : List Int} (hS : ∀ x ∈ S, 0 ≤ x ∧ x ≤ 9223372036854775807) (hM0 : S.length ≤ M0.length)
    (hun : ∀ m, (M0.getD m (false, 0)).1 = false → (M0.getD m (false, 0)).2 = 0) (h0 : ∀ m, (M0.getD m (false, 0)).2 ≠ 0 → (S.getD m 0).tmod (M0.getD m (false, 0)).2 = 0)
    (h1 : readStep S f M0 b = some M1) (h2 : readGo S fs M1 f.1 = some M) (hP : PInv S M M0 P) :
    (f.2.1.toNat < S.length ∧ 0 ≤ f.2.1) ∧ (f.1 = 4 → P.getD f.2.1.toNat 0 * lvlOf S M f = S.getD f.2.1.toNat 0) ∧ (f.1 ≠ 4 → (M0.getD f.2.1.toNat (false, 0)).1 = false) ∧ PInv S M M1 (prodStep P f (lvlOf S M f)) ∧
      (∀ m, (M1.getD m (false, 0)).1 = false → (M1.getD m (false, 0)).2 = 0) ∧ (∀ m, (M1.getD m (false, 0)).2 ≠ 0 → (S.getD m 0).tmod (M1.getD m (false, 0)).2 = 0) ∧ S.length ≤ M1.length ∧
      (∀ m, m ≠ f.2.1.toNat → M1.getD m (false, 0) = M0.getD m (false, 0)) ∧ (M1.getD f.2.1.toNat (false, 0)).1 = true := by
  have hM1 := readStep_len h1
  have hkeep := fun m' => readGo_keep (S := S) (fs := fs) (M := M1) (M' := M) (b := f.1) (by omega) h2 m'
  have hmod1 : ∀ m, (M1.getD m (false, 0)).2 ≠ 0 → (S.getD m 0).tmod (M1.getD m (false, 0)).2 = 0 :=
    readGo_mod (fs := [f]) (b := b) hM0 (by simp only [readGo, h1]; rfl) h0
  have hmod := readGo_mod (by omega) h2 hmod1
  obtain ⟨k, mo, z⟩ := f
  obtain ⟨hmo, hk, -⟩ := readStep_ok h1
  simp only at hmo hk hkeep
  obtain ⟨m, rfl⟩ : ∃ m : Nat, mo = m := ⟨mo.toNat, by omega⟩
  have hm : m < S.length := by omega
  have hmM : m < M0.length := by omega
  have hmP : m < P.length := by rw [hP.1]; exact hm
  have hSm := hS (S.getD m 0) (by
    have : S.getD m 0 = S[m] := by simp [hm]
    rw [this]; exact List.getElem_mem hm)
  simp only [Int.toNat_natCast]
  unfold readStep at h1
  simp only [Int.toNat_natCast] at h1
  split at h1
  · cases h1
  split at h1
  · rename_i hk03
    split at h1
    case isFalse => cases h1
    rename_i hcond
    obtain ⟨hc1, hz0, -⟩ := hcond
    cases h1
    have k4 : ¬ k = 4 := by omega
    have h00 := hun m hc1
    have hl : lvlOf S M (k, (m : Int), z) = if 0 < (M.getD m (false, 0)).2 then (S.getD m 0).tdiv (M.getD m (false, 0)).2 else S.getD m 0 := by
      simp only [lvlOf, Int.toNat_natCast]; rw [if_neg k4]
    refine ⟨⟨hm, by omega⟩, fun h => absurd h k4, fun _ => hc1, ⟨by simp only [prodStep]; rw [if_neg k4]; simpa using hP.1, fun m' hm' hmet' => ?_⟩, ?_, hmod1, by simpa using hM0, ?_, ?_⟩
    · rw [getD_set _ _ _ _ _ hmM] at hmet' ⊢
      simp only [prodStep, Int.toNat_natCast]
      rw [if_neg k4, getD_set _ _ _ _ _ hmP]
      by_cases e : m = m'
      · subst e
        simp only [if_true]
        rw [h00, hl]
        by_cases hb : 0 < (M.getD m (false, 0)).2
        · rw [if_pos ⟨rfl, hb⟩, if_pos hb]
          have hd := hmod m (by omega)
          have := Int.mul_tdiv_add_tmod (S.getD m 0) (M.getD m (false, 0)).2
          rw [hd] at this
          rw [Int.mul_comm]; omega
        · rw [if_neg (by rintro ⟨_, h⟩; exact hb h), if_neg hb]
      · simp only [if_neg e] at hmet' ⊢
        exact hP.2 m' hm' hmet'
    · intro m' h'
      rw [getD_set _ _ _ _ _ hmM] at h' ⊢
      split at h'
      · simp at h'
      · rename_i e; rw [if_neg e]; exact hun m' h'
    · intro m' hne
      rw [getD_set _ _ _ _ _ hmM, if_neg (fun e => hne e.symm)]
    · rw [getD_set _ _ _ _ _ hmM, if_pos rfl]
  · rename_i hk03
    split at h1
    case isFalse => cases h1
    rename_i k4
    split at h1
    case isFalse => cases h1
    rename_i hcond
    obtain ⟨hc1, hc2, -, hz0, -⟩ := hcond
    cases h1
    have hMm : (M.getD m (false, 0)).2 = z := by
      have := hkeep m
      rw [getD_set _ _ _ _ _ hmM, if_pos rfl] at this
      exact this (by simp only; omega)
    have hl : lvlOf S M (k, (m : Int), z) = z := by
      simp only [lvlOf, Int.toNat_natCast]; rw [if_pos k4, hMm]
    have hPm := hP.2 m hm hc1
    rw [if_pos ⟨hc2, by rw [hMm]; exact hz0⟩, hMm] at hPm
    have w1 := wrap_i64 (n := P.getD m 0 * z) (by omega) (by omega)
    refine ⟨⟨hm, by omega⟩, fun _ => by rw [hl]; exact hPm, fun h => absurd k4 h, ⟨by simp only [prodStep]; rw [if_pos k4]; simpa using hP.1, fun m' hm' hmet' => ?_⟩, ?_, hmod1, by simpa using hM0, ?_, ?_⟩
    · rw [getD_set _ _ _ _ _ hmM] at hmet' ⊢
      simp only [prodStep, Int.toNat_natCast]
      rw [if_pos k4, getD_set _ _ _ _ _ hmP, hl]
      by_cases e : m = m'
      · subst e
        simp only [if_true]
        rw [if_neg (by rintro ⟨h, _⟩; omega)]
        rw [show w64 (P.getD m 0 * z) = P.getD m 0 * z from w1]
        exact hPm
      · simp only [if_neg e] at hmet' ⊢
        exact hP.2 m' hm' hmet'
    · intro m' h'
      rw [getD_set _ _ _ _ _ hmM] at h' ⊢
      split at h'
      · rw [hc1] at h'; simp at h'
      · rename_i e; rw [if_neg e]; exact hun m' h'
    · intro m' hne
      rw [getD_set _ _ _ _ _ hmM, if_neg (fun e => hne e.symm)]
    · rw [getD_set _ _ _ _ _ hmM, if_pos rfl]; exact hc1

theorem prod_of {S : List Int} {M : List (Bool × Int)} (hS : ∀ x ∈ S, 0 ≤ x ∧ x ≤ 9223372036854775807) (hmet : ∀ m < S.length, (M.getD m (false, 0)).1 = true) :
    ∀ (fs : List (Int × Int × Int)) (M0 : List (Bool × Int)) (b : Int) (P R : List Int), S.length ≤ M0.length → (∀ m, (M0.getD m (false, 0)).1 = false → (M0.getD m (false, 0)).2 = 0) →
      (∀ m, (M0.getD m (false, 0)).2 ≠ 0 → (S.getD m 0).tmod (M0.getD m (false, 0)).2 = 0) → readGo S fs M0 b = some M → PInv S M M0 P → PInv S M M0 R → (∀ m < S.length, (M0.getD m (false, 0)).1 = false → R.getD m 0 = 1) →
      prodGo fs (fs.map (lvlOf S M)) P = S ∧ prodI R * prodI (fs.map (lvlOf S M)) = prodI S
  | [], M0, b, P, R, _, _, _, hr, hP, hR, _ => by
    cases hr
    exact ⟨hP.all hmet, by simp only [List.map_nil, prodI]; rw [hR.all hmet]; simp⟩
  | f :: fs, M0, b, P, R, hM0, hun, h0, hr, hP, hR, hR1 => by
    simp only [readGo, Option.bind_eq_some_iff] at hr
    obtain ⟨M1, hr1, hr2⟩ := hr
    obtain ⟨⟨hm, hm0⟩, -, -, p4, p5, p6, p7, p8, p9⟩ := pinv_step hS hM0 hun h0 hr1 hr2 hP
    obtain ⟨-, q1, q2, q4, -, -, -, -, -⟩ := pinv_step hS hM0 hun h0 hr1 hr2 hR
    have hmR : f.2.1.toNat < R.length := by rw [hR.1]; exact hm
    have hSm := hS (S.getD f.2.1.toNat 0) (by
      have : S.getD f.2.1.toNat 0 = S[f.2.1.toNat] := by simp [hm]
      rw [this]; exact List.getElem_mem hm)
    have hstep : prodStep R f (lvlOf S M f) = R.set f.2.1.toNat (R.getD f.2.1.toNat 0 * lvlOf S M f) := by
      unfold prodStep
      by_cases k4 : f.1 = 4
      · rw [if_pos k4]
        have := q1 k4
        have w1 := wrap_i64 (n := R.getD f.2.1.toNat 0 * lvlOf S M f) (by omega) (by omega)
        rw [show w64 (R.getD f.2.1.toNat 0 * lvlOf S M f) = R.getD f.2.1.toNat 0 * lvlOf S M f from w1]
      · rw [if_neg k4, hR1 _ hm (q2 k4), Int.one_mul]
    have hlen := hstep ▸ q4
    obtain ⟨r1, r2⟩ := prod_of hS hmet fs M1 f.1 _ _ p7 p5 p6 hr2 p4 q4 (by
      intro m hm' hf'
      have hne : m ≠ f.2.1.toNat := by
        intro e
        rw [e, p9] at hf'
        cases hf'
      rw [hstep, getD_set _ _ _ _ _ hmR, if_neg (fun e => hne e.symm)]
      exact hR1 m hm' (by rw [← p8 m hne]; exact hf'))
    refine ⟨by simpa only [List.map_cons, prodGo] using r1, ?_⟩
    rw [hstep, prodI_set _ _ _ hmR] at r2
    simp only [List.map_cons, prodI]
    rw [← Int.mul_assoc]
    exact r2
theorem count_prod : ∀ (xs : List LvA) (fs : List (Int × Int × Int)) (zs : List Int) (n : Nat) (ws : List Int), xs.length = fs.length → zs.length = fs.length → fitF xs fs zs = true → (∀ f ∈ fs, f.1 = 0 ∨ f.1 = 4) → cntGo xs n = .ok ws →
    (lastG ws n : Int) = n * prodI zs
  | [], [], [], n, ws, _, _, _, _, hc => by cases hc; simp [lastG, prodI]
  | x :: xs, f :: fs, z :: zs, n, ws, h1, h2, hf, hk, hc => by
    simp only [fitF, Bool.and_eq_true, decide_eq_true_eq] at hf
    obtain ⟨⟨hfk, hfz⟩, hf⟩ := hf
    simp only [cntGo] at hc
    split at hc
    case isFalse => cases hc
    rename_i hchk
    obtain ⟨-, -, -, -, b5, -⟩ := lvBelow_ok hchk
    cases h : cntGo xs (lvBelow x.lv n).toNat with
    | error e => rw [h] at hc; simp [Except.map] at hc
    | ok l =>
      rw [h] at hc
      simp [Except.map] at hc
      subst hc
      have := count_prod xs fs zs _ l (by simpa using h1) (by simpa using h2) hf (fun g hg => hk g (by simp [hg])) h
      simp only [lastG, prodI]
      rw [this, Int.toNat_of_nonneg b5]
      have hw := hk f (by simp)
      rw [lvBelow, if_pos (by omega), hfz, Int.mul_assoc]
  | [], f :: fs, _, _, _, h, _, _, _, _ => by simp at h
  | x :: xs, [], _, _, _, h, _, _, _, _ => by simp at h
  | [], [], z :: zs, _, _, _, h, _, _, _ => by simp at h
  | x :: xs, f :: fs, [], _, _, _, h, _, _, _ => by simp at h
theorem counts_law {S : List Int} {F : List (Int × Int × Int)} {xs : List LvA} {Vs : List Int} (hS : ∀ x ∈ S, -9223372036854775808 ≤ x ∧ x ≤ 9223372036854775807) (h : tnCheck S F xs Vs = 0) :
    (cells S).2 = 0 ∧ prodGo F (sizesF S F).1 (List.replicate S.length 0) = S ∧ ((∀ f ∈ F, f.1 = 0 ∨ f.1 = 4) → lastF (cntF xs).1 = (cells S).1) ∧ (sizesF S F).1.length = F.length ∧ S.length ≤ 4 ∧ ∀ f ∈ F, 0 ≤ f.2.1 ∧ f.2.1 < S.length := by
  obtain ⟨h1, h2, h3, h4, h5, -⟩ := tnCheck_ok h
  have hc : (cells S).2 = 0 := by
    by_cases hc : (cells S).2 = 0
    · exact hc
    · unfold sizesF at h1; rw [if_pos hc] at h1; exact absurd h1 hc
  obtain ⟨hn, hl4⟩ := cells_nonneg' hc
  obtain ⟨M, hM⟩ := sizesF_read h1
  have hmo := (readF_ok hM).1
  have hZ : (sizesF S F).1 = F.map (lvlOf S M) := by
    unfold sizesF at h1 ⊢
    rw [if_neg (by omega)] at h1 ⊢
    simp only [hM] at h1 ⊢
    split
    · rename_i hb; rw [if_pos hb] at h1; cases h1
    · rfl
  rw [hZ] at h3 ⊢
  unfold readF at hM
  rw [Option.bind_eq_some_iff] at hM
  obtain ⟨M1, hM1, hM2⟩ := hM
  split at hM2
  case isFalse => cases hM2
  rename_i hall
  cases hM2
  have hlenM : M.length = 4 := by
    have : ∀ {fs : List (Int × Int × Int)} {A B : List (Bool × Int)} {b : Int}, readGo S fs A b = some B → B.length = A.length := by
      intro fs
      induction fs with
      | nil => intro A B b h; cases h; rfl
      | cons f fs ih =>
        intro A B b h
        simp only [readGo, Option.bind_eq_some_iff] at h
        obtain ⟨C, e1, e2⟩ := h
        rw [ih e2, readStep_len e1]
    rw [this hM1]; simp
  have hmet : ∀ m < S.length, (M.getD m (false, 0)).1 = true := by
    intro m hm
    have hb : m < M.length := by omega
    have e : M.getD m (false, 0) = M[m] := by simp [hb]
    rw [e]
    exact List.all_eq_true.1 hall M[m] (by
      rw [List.mem_take_iff_getElem]
      exact ⟨m, by omega, rfl⟩)
  have hco := cntF_ok h4
  have hnn := cntGo_nonneg hco
  have hno : ∀ m, ((List.replicate 4 (false, (0 : Int))).getD m (false, 0)) = (false, 0) := fun m => rep_getD _ _ _
  obtain ⟨r1, r2⟩ := prod_of (fun x hx => ⟨hn x hx, (hS x hx).2⟩) hmet F (List.replicate 4 (false, 0)) 0 (List.replicate S.length 0) (List.replicate S.length 1) (by simpa using hl4)
    (fun m _ => by rw [hno]) (fun m h => by rw [hno] at h; exact absurd rfl h) hM1 ⟨by simp, fun m _ h => by rw [hno] at h; cases h⟩ ⟨by simp, fun m _ h => by rw [hno] at h; cases h⟩
    (fun m hm _ => by simp [List.getD, List.getElem?_replicate, hm])
  refine ⟨hc, r1, fun hk => ?_, by simp, hl4, fun f hf => (hmo f hf).1⟩
  have hone : prodI (List.replicate S.length 1) = 1 := by
    generalize S.length = n
    induction n with
    | zero => rfl
    | succ n ih => simp [List.replicate_succ, prodI, ih]
  rw [hone, Int.one_mul] at r2
  have e1 := lastG_eq (cntF xs).1 1 fun w hw => (hnn w hw).1
  have e2 : lastF (cntF xs).1 = (((1 : Nat) : Int) :: (cntF xs).1).getD (cntF xs).1.length 0 := rfl
  have e3 := count_prod xs F (F.map (lvlOf S M)) 1 (cntF xs).1 h2 (by simp) h3 hk hco
  rw [e2, ← e1, e3, r2, cells_prod hc]
  simp
end Go.Fw
