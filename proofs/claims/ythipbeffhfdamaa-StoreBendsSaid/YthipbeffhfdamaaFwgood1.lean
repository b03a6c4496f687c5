import Derived.Test.YthipbeffhfdamaaFwdense1
namespace Go.Fw
open Go Go.RowKit Go.Proofs
set_option maxRecDepth 100000
set_option linter.unusedSimpArgs false
set_option linter.unusedVariables false

theorem Good.mono {V V' : List Int → Nat → Prop} (hV : ∀ c p, V c p → V' c p) : ∀ {xs : List LvA} {fs : List (Int × Int × Int)} {c : List Int} {p : Nat}, Good V xs fs c p → Good V' xs fs c p
  | [], fs, c, p, h => hV c p h
  | x :: xs, [], c, p, h => h
  | x :: xs, f :: fs, c, p, h => ⟨h.1, fun y hy => ⟨(h.2 y hy).1, Good.mono hV (h.2 y hy).2⟩⟩
/-- Places of the shape, and a number's. -/
def InS (S : List Int) (c : List Int) : Prop := c.length = S.length ∧ ∀ i < S.length, 0 ≤ c.getD i 0 ∧ c.getD i 0 < S.getD i 0
theorem kids_in {l : Lv} {n p : Nat} (hc : lvCheck l n = 0) (hp : p < n) : ∀ y ∈ kidsF l p, (0 ≤ y.1 ∧ y.1 < l.sz) ∧ 0 ≤ y.2 ∧ y.2 < lvBelow l n := by
  obtain ⟨z0, z1, hf, hcl, b0, b1, hcr, -⟩ := lvBelow_ok hc
  obtain ⟨k, z, ps, cs⟩ := l
  simp only at z0 z1 hf hcl b0 b1 hcr
  intro y hy
  simp only [kidsF] at hy
  by_cases hw : k = 0 ∨ k = 4
  · rw [if_pos hw] at hy
    obtain ⟨a, ha, rfl⟩ := List.mem_map.1 hy
    rw [List.mem_range] at ha
    simp only [lvBelow]
    rw [if_pos hw]
    have h1 : ((p + 1 : Nat) : Int) * z ≤ (n : Int) * z := Int.mul_le_mul_of_nonneg_right (by omega) z0
    rw [Int.natCast_add, Int.add_mul] at h1
    have h2 : 0 ≤ (p : Int) * z := Int.mul_nonneg (by omega) z0
    omega
  rw [if_neg hw] at hy
  simp only [lvBelow]
  rw [if_neg hw]
  by_cases k3 : k = 3
  · rw [if_pos k3] at hy
    have hcn : cs.length = n := by
      simp only [lvFormed] at hf
      rw [if_neg (by omega), if_neg (by omega), if_pos k3] at hf
      exact (of_decide_eq_true hf).2
    have hy : y = (cs.getD p 0, (p : Int)) := by simpa using hy
    have hb : p < cs.length := by omega
    have e : cs.getD p 0 = cs[p] := by simp [hb]
    have := hcr cs[p] (List.getElem_mem hb)
    rw [hy, e]
    exact ⟨this, by simp only; omega, by simp only; omega⟩
  · rw [if_neg k3] at hy
    have k12 : k = 1 ∨ k = 2 := by
      by_cases h : k = 1 ∨ k = 2
      · exact h
      · simp only [lvFormed] at hf
        rw [if_neg (by omega), if_neg (by omega), if_neg k3, if_neg h] at hf
        cases hf
    have hP := lvFormed_pos hf k12
    simp only at hP
    obtain ⟨f, t, hf', ht', hft, htc⟩ := hP.at hp
    obtain ⟨a, ha, rfl⟩ := List.mem_map.1 hy
    rw [List.mem_range'] at ha
    obtain ⟨j, hj, rfl⟩ := ha
    simp only [hf', ht', Int.toNat_natCast] at hj ⊢
    have hb : f + 1 * j < cs.length := by omega
    have e : cs.getD (f + 1 * j) 0 = cs[f + 1 * j] := by simp only [List.getD, List.getElem?_eq_getElem hb]; rfl
    have := hcr _ (List.getElem_mem hb)
    rw [e]
    exact ⟨this, by omega, by omega⟩

/-- Where, mode by mode, one is on the way down. -/
def Part (S : List Int) (M M0 : List (Bool × Int)) (c : List Int) : Prop :=
  c.length = S.length ∧ ∀ m < S.length, (M0.getD m (false, 0)).1 = true →
    0 ≤ c.getD m 0 ∧ if (M0.getD m (false, 0)).2 = 0 ∧ 0 < (M.getD m (false, 0)).2 then (c.getD m 0 + 1) * (M.getD m (false, 0)).2 ≤ S.getD m 0 else c.getD m 0 < S.getD m 0
theorem getD_set {α : Type} (l : List α) (i j : Nat) (x d : α) (hi : i < l.length) : (l.set i x).getD j d = if i = j then x else l.getD j d := by
  simp only [List.getD, List.getElem?_set]
  split
  · simp [hi]
  · rfl
theorem readStep_keep {S : List Int} {s : Int × Int × Int} {M M' : List (Bool × Int)} {b : Int} (hM : S.length ≤ M.length) (h : readStep S s M b = some M') (m : Nat) (h0 : (M.getD m (false, 0)).2 ≠ 0) : (M'.getD m (false, 0)).2 = (M.getD m (false, 0)).2 := by
  unfold readStep at h
  split at h
  · cases h
  rename_i hr
  have hi : s.2.1.toNat < M.length := by omega
  split at h
  · split at h
    · cases h
      rw [getD_set _ _ _ _ _ hi]
      split
      · rename_i e; rw [e]
      · rfl
    · cases h
  · split at h
    · split at h
      · rename_i hc
        cases h
        rw [getD_set _ _ _ _ _ hi]
        split
        · rename_i e; rw [e] at hc; exact absurd hc.2.1 h0
        · rfl
      · cases h
    · cases h
theorem readGo_keep {S : List Int} : ∀ {fs : List (Int × Int × Int)} {M M' : List (Bool × Int)} {b : Int}, S.length ≤ M.length → readGo S fs M b = some M' → ∀ m, (M.getD m (false, 0)).2 ≠ 0 → (M'.getD m (false, 0)).2 = (M.getD m (false, 0)).2
  | [], M, M', b, _, h, m, _ => by cases h; rfl
  | s :: r, M, M', b, hM, h, m, h0 => by
    simp only [readGo, Option.bind_eq_some_iff] at h
    obtain ⟨M1, h1, h2⟩ := h
    have e := readStep_keep hM h1 m h0
    have := readGo_keep (by rw [readStep_len h1]; exact hM) h2 m (by rw [e]; exact h0)
    rw [this, e]

def lastG : List Int → Nat → Nat
  | [], n => n
  | w :: r, _ => lastG r w.toNat
theorem lastG_eq : ∀ (ws : List Int) (n : Nat), (∀ w ∈ ws, 0 ≤ w) → (lastG ws n : Int) = ((n : Int) :: ws).getD ws.length 0
  | [], n, _ => rfl
  | w :: r, n, h => by
    have hw := h w (by simp)
    have := lastG_eq r w.toNat fun x hx => h x (by simp [hx])
    simp only [lastG]
    rw [this]
    simp only [List.length_cons, List.getD_cons_succ]
    rw [Int.toNat_of_nonneg hw]

set_option maxHeartbeats 1000000 in
theorem good_of {S : List Int} {M : List (Bool × Int)} {N : Nat} (hS : ∀ x ∈ S, 0 ≤ x ∧ x ≤ 9223372036854775807) (hmet : ∀ m < S.length, (M.getD m (false, 0)).1 = true) :
    ∀ (fs : List (Int × Int × Int)) (xs : List LvA) (M0 : List (Bool × Int)) (b : Int) (c : List Int) (n p : Nat) (ws : List Int), S.length ≤ M0.length → (∀ m, (M0.getD m (false, 0)).1 = false → (M0.getD m (false, 0)).2 = 0) →
      readGo S fs M0 b = some M → Part S M M0 c → xs.length = fs.length → fitF xs fs (fs.map (lvlOf S M)) = true → cntGo xs n = .ok ws → n ≤ 1048576 → p < n → lastG ws n = N →
      Good (fun c p => InS S c ∧ p < N) xs fs c p
  | [], [], M0, b, c, n, p, ws, _, _, hr, hP, _, _, hc, _, hp, hN => by
    cases hr
    cases hc
    refine ⟨⟨hP.1, fun i hi => ?_⟩, by simpa [lastG] using (by rw [← hN]; exact hp : p < N)⟩
    have h1 := hP.2 i hi (hmet i hi)
    by_cases h : (M.getD i (false, 0)).2 = 0 ∧ 0 < (M.getD i (false, 0)).2
    · omega
    · rw [if_neg h] at h1; exact h1
  | f :: fs, x :: xs, M0, b, c, n, p, ws, hM0, hun, hr, hP, hl, hfit, hc, hn, hp, hN => by
    simp only [readGo, Option.bind_eq_some_iff] at hr
    obtain ⟨M1, hr1, hr2⟩ := hr
    obtain ⟨hmo, hk, -⟩ := readStep_ok hr1
    have hM1 := readStep_len hr1
    simp only [List.map_cons, fitF, Bool.and_eq_true, decide_eq_true_eq] at hfit
    obtain ⟨⟨hfk, hfz⟩, hfit⟩ := hfit
    simp only [cntGo] at hc
    split at hc
    case isFalse => cases hc
    rename_i hchk
    have hcs : ∃ ws', cntGo xs (lvBelow x.lv n).toNat = .ok ws' ∧ ws = lvBelow x.lv n :: ws' := by
      cases h : cntGo xs (lvBelow x.lv n).toNat with
      | error e => rw [h] at hc; simp [Except.map] at hc
      | ok l => rw [h] at hc; simp [Except.map] at hc; exact ⟨l, rfl, hc.symm⟩
    obtain ⟨ws', hc', rfl⟩ := hcs
    obtain ⟨-, -, -, -, b5, b6, -, -⟩ := lvBelow_ok hchk
    obtain ⟨k, mo, z⟩ := f
    simp only at hmo hk hfk hfz
    obtain ⟨m, rfl⟩ : ∃ m : Nat, mo = m := ⟨mo.toNat, by omega⟩
    have hm : m < S.length := by omega
    have hmM : m < M0.length := by omega
    have hmc : m < c.length := by rw [hP.1]; exact hm
    refine ⟨⟨⟨by simp only; omega, by simpa using hmc⟩, n, hn, hchk, hp⟩, fun y hy => ?_⟩
    obtain ⟨hy1, hy2⟩ := kids_in hchk hp y hy
    refine ⟨hy2.1, good_of hS hmet fs xs M1 k _ (lvBelow x.lv n).toNat y.2.toNat ws' (by omega) ?_ hr2 ?_ (by simpa using hl) hfit hc' (by omega) (by omega) (by simpa [lastG] using hN)⟩
    · intro m' h'
      unfold readStep at hr1
      simp only [Int.toNat_natCast] at hr1
      split at hr1
      · cases hr1
      split at hr1
      · split at hr1
        · cases hr1
          rw [getD_set _ _ _ _ _ hmM] at h' ⊢
          split at h'
          · simp at h'
          · rename_i e; rw [if_neg e]; exact hun m' h'
        · cases hr1
      · split at hr1
        · split at hr1
          · rename_i hcond
            cases hr1
            rw [getD_set _ _ _ _ _ hmM] at h' ⊢
            split at h'
            · rw [hcond.1] at h'; simp at h'
            · rename_i e; rw [if_neg e]; exact hun m' h'
          · cases hr1
        · cases hr1
    · have hkeep := fun m' => readGo_keep (S := S) (fs := fs) (M := M1) (M' := M) (b := k) (by omega) hr2 m'
      have hlen : (stepC (k, (m : Int), z) c y.1).length = S.length := by rw [stepC]; simpa using hP.1
      have hSm := hS (S.getD m 0) (by
        have : S.getD m 0 = S[m] := by simp [hm]
        rw [this]; exact List.getElem_mem hm)
      unfold readStep at hr1
      simp only [Int.toNat_natCast] at hr1
      split at hr1
      · cases hr1
      split at hr1
      · rename_i hk03
        split at hr1
        case isFalse => cases hr1
        rename_i hcond
        obtain ⟨hc1, hz0, -⟩ := hcond
        cases hr1
        have h00 := hun m hc1
        have k4 : ¬ k = 4 := by omega
        simp only [lvlOf, Int.toNat_natCast] at hfz
        rw [if_neg k4] at hfz
        have hfr : fromF (k, (m : Int), z) c = 0 := by simp only [fromF]; rw [if_neg k4]
        refine ⟨hlen, fun m' hm' hmet' => ?_⟩
        rw [getD_set _ _ _ _ _ hmM] at hmet' ⊢
        simp only [stepC, Int.toNat_natCast, hfr, Int.zero_add]
        rw [getD_set _ _ _ _ _ hmc]
        by_cases e : m = m'
        · subst e
          simp only [if_true]
          by_cases hb : 0 < (M.getD m (false, 0)).2
          · rw [if_pos hb] at hfz
            have hdiv : x.lv.sz * (M.getD m (false, 0)).2 ≤ S.getD m 0 := by
              rw [hfz, Int.tdiv_eq_ediv_of_nonneg hSm.1]
              exact Int.ediv_mul_le _ (by omega)
            have hb1 : y.1 + 1 ≤ (y.1 + 1) * (M.getD m (false, 0)).2 := by
              have := Int.mul_le_mul_of_nonneg_left (show (1 : Int) ≤ (M.getD m (false, 0)).2 by omega) (show 0 ≤ y.1 + 1 by omega)
              omega
            have hb2 : (y.1 + 1) * (M.getD m (false, 0)).2 ≤ x.lv.sz * (M.getD m (false, 0)).2 := Int.mul_le_mul_of_nonneg_right (by omega) (by omega)
            have w := wrap_i64 (n := y.1) (by omega) (by omega)
            rw [show w64 y.1 = y.1 from w, h00]
            refine ⟨by omega, ?_⟩
            rw [if_pos ⟨rfl, hb⟩]
            omega
          · rw [if_neg hb] at hfz
            have w := wrap_i64 (n := y.1) (by omega) (by omega)
            rw [show w64 y.1 = y.1 from w]
            refine ⟨by omega, ?_⟩
            rw [if_neg (by rintro ⟨_, h⟩; exact hb h)]
            omega
        · simp only [if_neg e] at hmet' ⊢
          exact hP.2 m' hm' hmet'
      · rename_i hk03
        split at hr1
        case isFalse => cases hr1
        rename_i k4
        split at hr1
        case isFalse => cases hr1
        rename_i hcond
        obtain ⟨hc1, hc2, -, hz0, -⟩ := hcond
        cases hr1
        have hMm : (M.getD m (false, 0)).2 = z := by
          have := hkeep m
          rw [getD_set _ _ _ _ _ hmM, if_pos rfl] at this
          exact this (by simp only; omega)
        simp only [lvlOf, Int.toNat_natCast] at hfz
        rw [if_pos k4, hMm] at hfz
        have hPm := hP.2 m hm hc1
        rw [if_pos ⟨hc2, by rw [hMm]; exact hz0⟩, hMm] at hPm
        obtain ⟨q0, q1⟩ := hPm
        rw [Int.add_mul] at q1
        have q2 : 0 ≤ c.getD m 0 * z := Int.mul_nonneg q0 (by omega)
        have w1 := wrap_i64 (n := c.getD m 0 * z) (by omega) (by omega)
        have w2 := wrap_i64 (n := c.getD m 0 * z + y.1) (by omega) (by omega)
        have hfr : fromF (k, (m : Int), z) c = c.getD m 0 * z := by simp only [fromF, Int.toNat_natCast]; rw [if_pos k4]; exact w1
        refine ⟨hlen, fun m' hm' hmet' => ?_⟩
        rw [getD_set _ _ _ _ _ hmM] at hmet' ⊢
        simp only [stepC, Int.toNat_natCast, hfr]
        rw [getD_set _ _ _ _ _ hmc]
        by_cases e : m = m'
        · subst e
          simp only [if_true]
          rw [show w64 (c.getD m 0 * z + y.1) = c.getD m 0 * z + y.1 from w2]
          refine ⟨by omega, ?_⟩
          rw [if_neg (by rintro ⟨h, _⟩; omega)]
          omega
        · simp only [if_neg e] at hmet' ⊢
          exact hP.2 m' hm' hmet'
  | [], x :: xs, _, _, _, _, _, _, _, _, _, _, hl, _, _, _, _, _ => by simp at hl
  | f :: fs, [], _, _, _, _, _, _, _, _, _, _, hl, _, _, _, _, _ => by simp at hl
theorem rep_getD {α : Type} (n m : Nat) (d : α) : (List.replicate n d).getD m d = d := by
  simp only [List.getD, List.getElem?_replicate]; split <;> rfl
theorem cntGo_nonneg : ∀ {xs : List LvA} {n : Nat} {l : List Int}, cntGo xs n = .ok l → ∀ w ∈ l, 0 ≤ w ∧ w ≤ 1048576
  | [], n, l, h, w, hw => by cases h; simp at hw
  | x :: r, n, l, h, w, hw => by
    simp only [cntGo] at h
    split at h
    · rename_i hc
      obtain ⟨-, -, -, -, b5, b6, -, -⟩ := lvBelow_ok hc
      cases hr : cntGo r (lvBelow x.lv n).toNat with
      | error e => rw [hr] at h; simp [Except.map] at h
      | ok l' =>
        rw [hr] at h
        simp [Except.map] at h
        subst h
        rcases List.mem_cons.1 hw with rfl | hw
        · exact ⟨b5, b6⟩
        · exact cntGo_nonneg hr w hw
    · cases h
/-- All of a tensor that may be may be gone through. -/
theorem tn_good {S : List Int} {F : List (Int × Int × Int)} {xs : List LvA} {Vs : List Int} (hS : ∀ x ∈ S, -9223372036854775808 ≤ x ∧ x ≤ 9223372036854775807) (h : tnCheck S F xs Vs = 0) :
    Good (fun c p => InS S c ∧ p < Vs.length) xs F (List.replicate S.length 0) 0 := by
  obtain ⟨h1, h2, h3, h4, h5, -⟩ := tnCheck_ok h
  have hc : (cells S).2 = 0 := by
    by_cases hc : (cells S).2 = 0
    · exact hc
    · unfold sizesF at h1; rw [if_pos hc] at h1; exact absurd h1 hc
  obtain ⟨hn, hl4⟩ := cells_nonneg' hc
  obtain ⟨M, hM⟩ := sizesF_read h1
  have hZ : (sizesF S F).1 = F.map (lvlOf S M) := by
    unfold sizesF at h1 ⊢
    rw [if_neg (by omega)] at h1 ⊢
    simp only [hM] at h1 ⊢
    split
    · rename_i hb; rw [if_pos hb] at h1; cases h1
    · rfl
  rw [hZ] at h3
  unfold readF at hM
  rw [Option.bind_eq_some_iff] at hM
  obtain ⟨M1, hM1, hM2⟩ := hM
  split at hM2
  case isFalse => cases hM2
  rename_i hall
  cases hM2
  have hlenM : M.length = 4 := by
    have : ∀ {fs : List (Int × Int × Int)} {A B : List (Bool × Int)} {b : Int}, readGo S fs A b = some B → B.length = A.length := by
      intro fs
      induction fs with
      | nil => intro A B b h; cases h; rfl
      | cons f fs ih =>
        intro A B b h
        simp only [readGo, Option.bind_eq_some_iff] at h
        obtain ⟨C, e1, e2⟩ := h
        rw [ih e2, readStep_len e1]
    rw [this hM1]; simp
  have hmet : ∀ m < S.length, (M.getD m (false, 0)).1 = true := by
    intro m hm
    have hb : m < M.length := by omega
    have e : M.getD m (false, 0) = M[m] := by simp [hb]
    rw [e]
    have := List.all_eq_true.1 hall M[m] (by
      rw [List.mem_take_iff_getElem]
      exact ⟨m, by omega, rfl⟩)
    exact this
  have hco := cntF_ok h4
  have hnn := cntGo_nonneg hco
  have hlast : lastG (cntF xs).1 1 = Vs.length := by
    have e1 := lastG_eq (cntF xs).1 1 fun w hw => (hnn w hw).1
    have e2 : lastF (cntF xs).1 = (((1 : Nat) : Int) :: (cntF xs).1).getD (cntF xs).1.length 0 := rfl
    rw [e2] at h5
    omega
  exact good_of (fun x hx => ⟨hn x hx, (hS x hx).2⟩) hmet F xs (List.replicate 4 (false, 0)) 0 _ 1 0 _ (by simpa using hl4) (by
    intro m _
    rw [rep_getD]) hM1 ⟨by simp, fun m _ hm => by
      rw [rep_getD] at hm; cases hm⟩ h2 h3 hco (by omega) (by omega) hlast
theorem atGo_inS : ∀ (xs cs : List Int) (n : Int), cs.length = xs.length → (∀ i < xs.length, 0 ≤ cs.getD i 0 ∧ cs.getD i 0 < xs.getD i 0) → (atGo xs cs n).2 = 0
  | [], cs, n, _, _ => by cases cs <;> rfl
  | s :: r, [], n, h, _ => by simp at h
  | s :: r, c :: q, n, h, hi => by
    simp only [atGo]
    have h0 := hi 0 (by simp)
    simp only [List.getD_cons_zero] at h0
    rw [if_neg (by omega)]
    exact atGo_inS r q _ (by simpa using h) fun i hlt => by
      have := hi (i + 1) (by simpa using hlt)
      simpa using this
theorem at_in {S c : List Int} (hc : (cells S).2 = 0) (hi : InS S c) : (atF S c).2 = 0 ∧ 0 ≤ (atF S c).1 ∧ (atF S c).1 < (cells S).1 := by
  have h : (atF S c).2 = 0 := by
    unfold atF
    rw [if_neg (by omega), if_neg (by rw [hi.1]; simp)]
    exact atGo_inS S c 0 hi.1 hi.2
  exact ⟨h, atF_lt hc h⟩
theorem zero_len {S : List Int} (h : (zeroF S).2 = 0) : (cells S).2 = 0 ∧ (zeroF S).1.1 = S ∧ ((zeroF S).1.2.length : Int) = (cells S).1 ∧ (zeroF S).1.2 = List.replicate (cells S).1.toNat 0 := by
  have hl : (laidF S).2 = 0 := by
    unfold zeroF at h
    split at h
    · exact absurd h ‹_›
    · rename_i h'; simpa using h'
  have hcl : laidF S = cells S := by
    unfold laidF at hl ⊢
    split
    · rename_i hb; rw [if_pos hb] at hl; cases hl
    · rfl
  have := cells_nonneg S
  unfold zeroF
  rw [if_neg (by omega), hcl]
  rw [hcl] at hl
  exact ⟨hl, rfl, by simp; omega, rfl⟩
theorem den_good {S : List Int} {F : List (Int × Int × Int)} {xs : List LvA} {Vs : List Int} (hS : S.length ≤ 9223372036854775807 ∧ ∀ x ∈ S, -9223372036854775808 ≤ x ∧ x ≤ 9223372036854775807) (h : tnCheck S F xs Vs = 0) (hz : (zeroF S).2 = 0) :
    Good (DenV S Vs (zeroF S).1.2.length) xs F (List.replicate S.length 0) 0 := by
  obtain ⟨hc, -, hl, -⟩ := zero_len hz
  refine (tn_good hS.2 h).mono ?_
  rintro c p ⟨hi, hp⟩
  obtain ⟨a1, a2, a3⟩ := at_in hc hi
  refine ⟨hp, ⟨by rw [hi.1]; exact hS.1, fun x hx => ?_⟩, a1, a2, by omega⟩
  obtain ⟨i, hil, rfl⟩ := List.mem_iff_getElem.1 hx
  have h2 := hi.2 i (by rw [← hi.1]; exact hil)
  have e1 : c.getD i 0 = c[i] := by simp [hil]
  have hiS : i < S.length := by rw [← hi.1]; exact hil
  have e2 : S.getD i 0 = S[i] := by simp [hiS]
  have := hS.2 S[i] (List.getElem_mem hiS)
  rw [e1, e2] at h2
  omega

end Go.Fw
