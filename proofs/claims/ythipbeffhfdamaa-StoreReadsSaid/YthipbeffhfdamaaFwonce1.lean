import Derived.Test.YthipbeffhfdamaaFwgood1
namespace Go.Fw
open Go Go.RowKit Go.Proofs
set_option maxRecDepth 100000
set_option linter.unusedSimpArgs false
set_option linter.unusedVariables false
structure Way (S : List Int) (M : List (Bool × Int)) (N : Nat) (fs : List (Int × Int × Int)) (xs : List LvA) (M0 : List (Bool × Int)) (b : Int) (c : List Int) (n p : Nat) : Prop where
  hM0 : S.length ≤ M0.length
  hun : ∀ m, (M0.getD m (false, 0)).1 = false → (M0.getD m (false, 0)).2 = 0
  hr : readGo S fs M0 b = some M
  hP : Part S M M0 c
  hl : xs.length = fs.length
  hfit : fitF xs fs (fs.map (lvlOf S M)) = true
  hc : ∃ ws, cntGo xs n = .ok ws ∧ lastG ws n = N
  hn : n ≤ 1048576
  hp : p < n
theorem Way.nil {S : List Int} {M : List (Bool × Int)} {N : Nat} {M0 : List (Bool × Int)} {b : Int} {c : List Int} {n p : Nat} (h : Way S M N [] [] M0 b c n p) : M0 = M ∧ p < N := by
  obtain ⟨-, -, hr, -, -, -, ⟨ws, hc, hN⟩, -, hp⟩ := h
  cases hr
  cases hc
  exact ⟨rfl, by rw [← hN]; exact hp⟩
def newF (f : Int × Int × Int) (c : List Int) (a : Int) : Int := if f.1 = 4 then c.getD f.2.1.toNat 0 * f.2.2 + a else a
set_option maxHeartbeats 2000000 in
theorem Way.step {S : List Int} {M : List (Bool × Int)} {N : Nat} {f : Int × Int × Int} {fs : List (Int × Int × Int)} {x : LvA} {xs : List LvA} {M0 : List (Bool × Int)} {b : Int} {c : List Int} {n p : Nat}
    (hS : ∀ x ∈ S, 0 ≤ x ∧ x ≤ 9223372036854775807) (h : Way S M N (f :: fs) (x :: xs) M0 b c n p) :
    (0 ≤ f.2.1 ∧ f.2.1.toNat < S.length) ∧ lvCheck x.lv n = 0 ∧ (f.1 = 4 → (M0.getD f.2.1.toNat (false, 0)) = (true, 0) ∧ 0 < f.2.2 ∧ (M.getD f.2.1.toNat (false, 0)).2 = f.2.2 ∧ x.lv.sz = f.2.2) ∧
    (f.1 ≠ 4 → (M0.getD f.2.1.toNat (false, 0)) = (false, 0)) ∧
    ∃ M1, (∀ m', M1.getD m' (false, 0) = if f.2.1.toNat = m' then (true, if f.1 = 4 then f.2.2 else 0) else M0.getD m' (false, 0)) ∧
      ∀ y ∈ kidsF x.lv p, 0 ≤ y.2 ∧ (0 ≤ y.1 ∧ y.1 < x.lv.sz) ∧ stepC f c y.1 = c.set f.2.1.toNat (newF f c y.1) ∧ Way S M N fs xs M1 f.1 (stepC f c y.1) (lvBelow x.lv n).toNat y.2.toNat := by
  obtain ⟨hM0, hun, hr, hP, hl, hfit, ⟨ws, hc, hN⟩, hn, hp⟩ := h
  simp only [readGo, Option.bind_eq_some_iff] at hr
  obtain ⟨M1, hr1, hr2⟩ := hr
  obtain ⟨hmo, hk, -⟩ := readStep_ok hr1
  have hM1 := readStep_len hr1
  simp only [List.map_cons, fitF, Bool.and_eq_true, decide_eq_true_eq] at hfit
  obtain ⟨⟨hfk, hfz⟩, hfit⟩ := hfit
  simp only [cntGo] at hc
  split at hc
  case isFalse => cases hc
  rename_i hchk
  have hcs : ∃ ws', cntGo xs (lvBelow x.lv n).toNat = .ok ws' ∧ ws = lvBelow x.lv n :: ws' := by
    cases h : cntGo xs (lvBelow x.lv n).toNat with
    | error e => rw [h] at hc; simp [Except.map] at hc
    | ok l => rw [h] at hc; simp [Except.map] at hc; exact ⟨l, rfl, hc.symm⟩
  obtain ⟨ws', hc', rfl⟩ := hcs
  obtain ⟨-, -, -, -, b5, b6, -, -⟩ := lvBelow_ok hchk
  obtain ⟨k, mo, z⟩ := f
  simp only at hmo hk hfk hfz
  obtain ⟨m, rfl⟩ : ∃ m : Nat, mo = m := ⟨mo.toNat, by omega⟩
  have hm : m < S.length := by omega
  have hmM : m < M0.length := by omega
  have hmc : m < c.length := by rw [hP.1]; exact hm
  have hkeep := fun m' => readGo_keep (S := S) (fs := fs) (M := M1) (M' := M) (b := k) (by omega) hr2 m'
  have hlen : ∀ a, (stepC (k, (m : Int), z) c a).length = S.length := fun a => by rw [stepC]; simpa using hP.1
  have hSm := hS (S.getD m 0) (by
    have : S.getD m 0 = S[m] := by simp [hm]
    rw [this]; exact List.getElem_mem hm)
  simp only [Int.toNat_natCast]
  unfold readStep at hr1
  simp only [Int.toNat_natCast] at hr1
  split at hr1
  · cases hr1
  split at hr1
  · rename_i hk03
    split at hr1
    case isFalse => cases hr1
    rename_i hcond
    obtain ⟨hc1, hz0, -⟩ := hcond
    cases hr1
    have h00 := hun m hc1
    have k4 : ¬ k = 4 := by omega
    refine ⟨⟨by omega, hm⟩, hchk, fun h => absurd h k4, fun _ => Prod.ext hc1 h00, M0.set m (true, (M0.getD m (false, 0)).2), fun m' => ?_, fun y hy => ?_⟩
    · rw [getD_set _ _ _ _ _ hmM]
      split
      · rw [h00]
      · rfl
    obtain ⟨hy1, hy2⟩ := kids_in hchk hp y hy
    simp only [lvlOf, Int.toNat_natCast] at hfz
    rw [if_neg k4] at hfz
    have hfr : fromF (k, (m : Int), z) c = 0 := by simp only [fromF]; rw [if_neg k4]
    have hy3 : 0 < (M.getD m (false, 0)).2 → (y.1 + 1) * (M.getD m (false, 0)).2 ≤ S.getD m 0 ∧ y.1 + 1 ≤ (y.1 + 1) * (M.getD m (false, 0)).2 := by
      intro hb
      rw [if_pos hb] at hfz
      have hdiv : x.lv.sz * (M.getD m (false, 0)).2 ≤ S.getD m 0 := by
        rw [hfz, Int.tdiv_eq_ediv_of_nonneg hSm.1]
        exact Int.ediv_mul_le _ (by omega)
      have hb1 : y.1 + 1 ≤ (y.1 + 1) * (M.getD m (false, 0)).2 := by
        have := Int.mul_le_mul_of_nonneg_left (show (1 : Int) ≤ (M.getD m (false, 0)).2 by omega) (show 0 ≤ y.1 + 1 by omega)
        omega
      have hb2 : (y.1 + 1) * (M.getD m (false, 0)).2 ≤ x.lv.sz * (M.getD m (false, 0)).2 := Int.mul_le_mul_of_nonneg_right (by omega) (by omega)
      omega
    have hy4 : ¬ 0 < (M.getD m (false, 0)).2 → y.1 < S.getD m 0 := by
      intro hb
      rw [if_neg hb] at hfz
      omega
    have w : w64 y.1 = y.1 := wrap_i64 (by omega) (by
      by_cases hb : 0 < (M.getD m (false, 0)).2
      · have := hy3 hb; omega
      · have := hy4 hb; omega)
    refine ⟨hy2.1, hy1, by simp only [stepC, newF, Int.toNat_natCast, hfr, Int.zero_add, w]; rw [if_neg k4], ⟨by rw [hM1]; exact hM0, ?_, hr2, ⟨hlen _, fun m' hm' hmet' => ?_⟩, by simpa using hl, hfit, ⟨ws', hc', by simpa [lastG] using hN⟩, by omega, by omega⟩⟩
    · intro m' h'
      rw [getD_set _ _ _ _ _ hmM] at h' ⊢
      split at h'
      · simp at h'
      · rename_i e; rw [if_neg e]; exact hun m' h'
    · rw [getD_set _ _ _ _ _ hmM] at hmet' ⊢
      simp only [stepC, Int.toNat_natCast, hfr, Int.zero_add]
      rw [getD_set _ _ _ _ _ hmc]
      by_cases e : m = m'
      · subst e
        simp only [if_true]
        rw [w, h00]
        by_cases hb : 0 < (M.getD m (false, 0)).2
        · refine ⟨by omega, ?_⟩
          rw [if_pos ⟨rfl, hb⟩]
          exact (hy3 hb).1
        · refine ⟨by omega, ?_⟩
          rw [if_neg (by rintro ⟨_, h⟩; exact hb h)]
          exact hy4 hb
      · simp only [if_neg e] at hmet' ⊢
        exact hP.2 m' hm' hmet'
  · rename_i hk03
    split at hr1
    case isFalse => cases hr1
    rename_i k4
    split at hr1
    case isFalse => cases hr1
    rename_i hcond
    obtain ⟨hc1, hc2, -, hz0, -⟩ := hcond
    cases hr1
    have hMm : (M.getD m (false, 0)).2 = z := by
      have := hkeep m
      rw [getD_set _ _ _ _ _ hmM, if_pos rfl] at this
      exact this (by simp only; omega)
    simp only [lvlOf, Int.toNat_natCast] at hfz
    rw [if_pos k4, hMm] at hfz
    refine ⟨⟨by omega, hm⟩, hchk, fun _ => ⟨Prod.ext hc1 hc2, hz0, hMm, hfz⟩, fun h => absurd k4 h, M0.set m ((M0.getD m (false, 0)).1, z), fun m' => ?_, fun y hy => ?_⟩
    · rw [getD_set _ _ _ _ _ hmM]
      split
      · rw [hc1]
      · rfl
    obtain ⟨hy1, hy2⟩ := kids_in hchk hp y hy
    have hPm := hP.2 m hm hc1
    rw [if_pos ⟨hc2, by rw [hMm]; exact hz0⟩, hMm] at hPm
    obtain ⟨q0, q1⟩ := hPm
    rw [Int.add_mul] at q1
    have q2 : 0 ≤ c.getD m 0 * z := Int.mul_nonneg q0 (by omega)
    have w1 := wrap_i64 (n := c.getD m 0 * z) (by omega) (by omega)
    have w2 : w64 (c.getD m 0 * z + y.1) = c.getD m 0 * z + y.1 := wrap_i64 (by omega) (by omega)
    have hfr : fromF (k, (m : Int), z) c = c.getD m 0 * z := by simp only [fromF, Int.toNat_natCast]; rw [if_pos k4]; exact w1
    refine ⟨hy2.1, hy1, by simp only [stepC, newF, Int.toNat_natCast, hfr, w2]; rw [if_pos k4], ⟨by rw [hM1]; exact hM0, ?_, hr2, ⟨hlen _, fun m' hm' hmet' => ?_⟩, by simpa using hl, hfit, ⟨ws', hc', by simpa [lastG] using hN⟩, by omega, by omega⟩⟩
    · intro m' h'
      rw [getD_set _ _ _ _ _ hmM] at h' ⊢
      split at h'
      · rw [hc1] at h'; simp at h'
      · rename_i e; rw [if_neg e]; exact hun m' h'
    · rw [getD_set _ _ _ _ _ hmM] at hmet' ⊢
      simp only [stepC, Int.toNat_natCast, hfr]
      rw [getD_set _ _ _ _ _ hmc]
      by_cases e : m = m'
      · subst e
        simp only [if_true]
        rw [w2]
        refine ⟨by omega, ?_⟩
        rw [if_neg (by rintro ⟨h, _⟩; omega)]
        omega
      · simp only [if_neg e] at hmet' ⊢
        exact hP.2 m' hm' hmet'
theorem tn_way {S : List Int} {F : List (Int × Int × Int)} {xs : List LvA} {Vs : List Int} (hS : ∀ x ∈ S, -9223372036854775808 ≤ x ∧ x ≤ 9223372036854775807) (h : tnCheck S F xs Vs = 0) :
    (∀ x ∈ S, 0 ≤ x ∧ x ≤ 9223372036854775807) ∧ ∃ M, readF S F = some M ∧ (∀ m < S.length, (M.getD m (false, 0)).1 = true) ∧ Way S M Vs.length F xs (List.replicate 4 (false, 0)) 0 (List.replicate S.length 0) 1 0 := by
  obtain ⟨h1, h2, h3, h4, h5, -⟩ := tnCheck_ok h
  have hc : (cells S).2 = 0 := by
    by_cases hc : (cells S).2 = 0
    · exact hc
    · unfold sizesF at h1; rw [if_pos hc] at h1; exact absurd h1 hc
  obtain ⟨hn, hl4⟩ := cells_nonneg' hc
  obtain ⟨M, hM⟩ := sizesF_read h1
  have hZ : (sizesF S F).1 = F.map (lvlOf S M) := by
    unfold sizesF at h1 ⊢
    rw [if_neg (by omega)] at h1 ⊢
    simp only [hM] at h1 ⊢
    split
    · rename_i hb; rw [if_pos hb] at h1; cases h1
    · rfl
  rw [hZ] at h3
  have hMF := hM
  unfold readF at hM
  rw [Option.bind_eq_some_iff] at hM
  obtain ⟨M1, hM1, hM2⟩ := hM
  split at hM2
  case isFalse => cases hM2
  rename_i hall
  cases hM2
  have hlenM : M.length = 4 := by
    have : ∀ {fs : List (Int × Int × Int)} {A B : List (Bool × Int)} {b : Int}, readGo S fs A b = some B → B.length = A.length := by
      intro fs
      induction fs with
      | nil => intro A B b h; cases h; rfl
      | cons f fs ih =>
        intro A B b h
        simp only [readGo, Option.bind_eq_some_iff] at h
        obtain ⟨C, e1, e2⟩ := h
        rw [ih e2, readStep_len e1]
    rw [this hM1]; simp
  have hmet : ∀ m < S.length, (M.getD m (false, 0)).1 = true := by
    intro m hm
    have hb : m < M.length := by omega
    have e : M.getD m (false, 0) = M[m] := by simp [hb]
    rw [e]
    have := List.all_eq_true.1 hall M[m] (by
      rw [List.mem_take_iff_getElem]
      exact ⟨m, by omega, rfl⟩)
    exact this
  have hco := cntF_ok h4
  have hnn := cntGo_nonneg hco
  have hlast : lastG (cntF xs).1 1 = Vs.length := by
    have e1 := lastG_eq (cntF xs).1 1 fun w hw => (hnn w hw).1
    have e2 : lastF (cntF xs).1 = (((1 : Nat) : Int) :: (cntF xs).1).getD (cntF xs).1.length 0 := rfl
    rw [e2] at h5
    omega
  refine ⟨fun x hx => ⟨hn x hx, (hS x hx).2⟩, M, hMF, hmet, by simpa using hl4, ?_, hM1, ⟨by simp, fun m _ hm => ?_⟩, h2, h3, ⟨_, hco, hlast⟩, by omega, by omega⟩
  · intro m _
    rw [rep_getD]
  · rw [rep_getD] at hm; cases hm
end Go.Fw
namespace Go.Fw
open Go Go.RowKit Go.Proofs
set_option maxRecDepth 100000
set_option linter.unusedSimpArgs false
set_option linter.unusedVariables false
def walkL : List LvA → List (Int × Int × Int) → List Int → Nat → List (List Int × Nat)
  | x :: xs, f :: fs, c, p => (kidsF x.lv p).flatMap fun y => walkL xs fs (stepC f c y.1) y.2.toNat
  | _, _, c, p => [(c, p)]
theorem foldl_flat {α β σ : Type} (g : α → List β) (h : σ → β → σ) : ∀ (l : List α) (s : σ), (l.flatMap g).foldl h s = l.foldl (fun s y => (g y).foldl h s) s
  | [], s => rfl
  | x :: r, s => by rw [List.flatMap_cons, List.foldl_append, foldl_flat g h r]; rfl
theorem foldl_same {α σ : Type} {g h : σ → α → σ} : ∀ (l : List α) (s : σ), (∀ x ∈ l, ∀ s, g s x = h s x) → l.foldl g s = l.foldl h s
  | [], s, _ => rfl
  | x :: r, s, e => by rw [List.foldl_cons, List.foldl_cons, e x (by simp), foldl_same r _ fun y hy => e y (by simp [hy])]
theorem walkF_list {σ : Type} (step : σ → List Int → Nat → σ) : ∀ (xs : List LvA) (fs : List (Int × Int × Int)) (c : List Int) (p : Nat) (s : σ), walkF step xs fs c p s = (walkL xs fs c p).foldl (fun s q => step s q.1 q.2) s
  | [], fs, c, p, s => by cases fs <;> rfl
  | x :: xs, [], c, p, s => rfl
  | x :: xs, f :: fs, c, p, s => by
    simp only [walkF, walkL]
    rw [foldl_flat]
    exact foldl_same _ _ fun y _ s => walkF_list step xs fs _ _ s
theorem Good.mem {V : List Int → Nat → Prop} : ∀ {xs : List LvA} {fs : List (Int × Int × Int)} {c : List Int} {p : Nat}, Good V xs fs c p → xs.length = fs.length → ∀ q ∈ walkL xs fs c p, V q.1 q.2
  | [], [], c, p, h, _, q, hq => by
    simp only [walkL, List.mem_singleton] at hq
    subst hq
    exact h
  | [], f :: fs, c, p, h, hl, q, hq => by simp at hl
  | x :: xs, [], c, p, h, hl, q, hq => by simp at hl
  | x :: xs, f :: fs, c, p, h, hl, q, hq => by
    simp only [walkL, List.mem_flatMap] at hq
    obtain ⟨y, hy, hq⟩ := hq
    exact Good.mem (h.2 y hy).2 (by simpa using hl) q hq
def wantF (M : List (Bool × Int)) (f : Int × Int × Int) (c : List Int) : Int :=
  if f.1 = 4 then c.getD f.2.1.toNat 0 % (M.getD f.2.1.toNat (false, 0)).2
  else if 0 < (M.getD f.2.1.toNat (false, 0)).2 then c.getD f.2.1.toNat 0 / (M.getD f.2.1.toNat (false, 0)).2 else c.getD f.2.1.toNat 0
def getGo (M : List (Bool × Int)) (Vs : List Int) (c : List Int) : List LvA → List (Int × Int × Int) → Nat → Int × Bool → Int × Bool
  | x :: xs, f :: fs, p, s => (kidsF x.lv p).foldl (fun s y => if y.1 = wantF M f c then getGo M Vs c xs fs y.2.toNat s else s) s
  | _, _, p, _ => (Vs.getD p 0, true)
theorem Way.agree {S : List Int} {M : List (Bool × Int)} {N : Nat} (hS : ∀ x ∈ S, 0 ≤ x ∧ x ≤ 9223372036854775807) : ∀ {fs : List (Int × Int × Int)} {xs : List LvA} {M0 : List (Bool × Int)} {b : Int} {c : List Int} {n p : Nat}, Way S M N fs xs M0 b c n p →
    ∀ q ∈ walkL xs fs c p, ∀ m < S.length, (M0.getD m (false, 0)).1 = true →
      if (M0.getD m (false, 0)).2 = 0 ∧ 0 < (M.getD m (false, 0)).2 then q.1.getD m 0 / (M.getD m (false, 0)).2 = c.getD m 0 else q.1.getD m 0 = c.getD m 0
  | [], [], M0, b, c, n, p, h, q, hq, m, hm, hmet => by
    simp only [walkL, List.mem_singleton] at hq
    subst hq
    obtain ⟨rfl, -⟩ := h.nil
    rw [if_neg (by rintro ⟨h1, h2⟩; omega)]
  | f :: fs, x :: xs, M0, b, c, n, p, h, q, hq, m, hm, hmet => by
    simp only [walkL, List.mem_flatMap] at hq
    obtain ⟨y, hy, hq⟩ := hq
    have hcl := h.hP.1
    obtain ⟨⟨f0, f1⟩, -, f4, f3, M1, hM1, hk⟩ := h.step hS
    obtain ⟨-, ⟨y0, y1⟩, he, hw⟩ := hk y hy
    have ih := Way.agree hS hw q hq m hm
    rw [hM1, he, getD_set _ _ _ _ _ (by omega)] at ih
    by_cases e : f.2.1.toNat = m
    · rw [if_pos e] at ih
      rw [if_pos e] at ih
      rw [← e] at hmet ⊢
      by_cases k4 : f.1 = 4
      · obtain ⟨g1, g2, g3, g4⟩ := f4 k4
        rw [g1, g3]
        rw [if_pos ⟨rfl, g2⟩]
        have ih := ih rfl
        simp only at ih
        rw [if_pos k4, if_neg (by rintro ⟨h1, _⟩; omega), ← e] at ih
        rw [ih, newF, if_pos k4, Int.mul_comm, Int.add_comm, Int.add_mul_ediv_left _ _ (by omega), Int.ediv_eq_zero_of_lt y0 (by omega)]
        omega
      · rw [f3 k4] at hmet
        cases hmet
    · rw [if_neg e] at ih
      rw [if_neg e] at ih
      exact ih hmet
  | [], x :: xs, _, _, _, _, _, h, _, _, _, _, _ => by have := h.hl; simp at this
  | f :: fs, [], _, _, _, _, _, h, _, _, _, _, _ => by have := h.hl; simp at this
def Aims (S : List Int) (M M0 : List (Bool × Int)) (cw c : List Int) : Prop :=
  ∀ m < S.length, (M0.getD m (false, 0)).1 = true → if (M0.getD m (false, 0)).2 = 0 ∧ 0 < (M.getD m (false, 0)).2 then c.getD m 0 / (M.getD m (false, 0)).2 = cw.getD m 0 else c.getD m 0 = cw.getD m 0
theorem list_ext_getD {a b : List Int} (hl : a.length = b.length) (h : ∀ m < b.length, a.getD m 0 = b.getD m 0) : a = b := by
  apply List.ext_getElem hl
  intro i h1 h2
  have := h i h2
  simpa [h1, h2] using this
theorem filter_flat {α β : Type} (g : α → List β) (P : β → Bool) : ∀ (l : List α), (l.flatMap g).filter P = l.flatMap fun y => (g y).filter P
  | [] => rfl
  | x :: r => by rw [List.flatMap_cons, List.filter_append, filter_flat g P r, List.flatMap_cons]
theorem getGo_eq {S : List Int} {M : List (Bool × Int)} {N : Nat} {Vs c : List Int} (hS : ∀ x ∈ S, 0 ≤ x ∧ x ≤ 9223372036854775807) (hmet : ∀ m < S.length, (M.getD m (false, 0)).1 = true) (hc : c.length = S.length) :
    ∀ {fs : List (Int × Int × Int)} {xs : List LvA} {M0 : List (Bool × Int)} {b : Int} {cw : List Int} {n p : Nat} (s : Int × Bool), Way S M N fs xs M0 b cw n p → Aims S M M0 cw c →
      getGo M Vs c xs fs p s = ((walkL xs fs cw p).filter fun q => q.1 = c).foldl (fun _ q => (Vs.getD q.2 0, true)) s
  | [], [], M0, b, cw, n, p, s, h, ha => by
    obtain ⟨rfl, -⟩ := h.nil
    have e : cw = c := by
      refine list_ext_getD (by rw [hc]; exact h.hP.1) fun m hm => ?_
      have := ha m (by omega) (hmet m (by omega))
      rw [if_neg (by rintro ⟨h1, h2⟩; omega)] at this
      exact this.symm
    simp [walkL, getGo, e]
  | f :: fs, x :: xs, M0, b, cw, n, p, s, h, ha => by
    simp only [walkL, getGo]
    have hcl := h.hP.1
    obtain ⟨⟨f0, f1⟩, -, f4, f3, M1, hM1, hk⟩ := h.step hS
    rw [filter_flat, foldl_flat]
    refine foldl_same _ _ fun y hy s => ?_
    obtain ⟨-, ⟨y0, y1⟩, he, hw⟩ := hk y hy
    have hcd : (stepC f cw y.1).getD f.2.1.toNat 0 = newF f cw y.1 := by rw [he, getD_set _ _ _ _ _ (by omega), if_pos rfl]
    by_cases e : y.1 = wantF M f c
    · rw [if_pos e]
      refine getGo_eq hS hmet hc s hw fun m hm hme => ?_
      rw [hM1] at hme ⊢
      rw [he, getD_set _ _ _ _ _ (by omega)]
      by_cases em : f.2.1.toNat = m
      · subst em
        simp only [if_true]
        unfold wantF at e
        by_cases k4 : f.1 = 4
        · obtain ⟨g1, g2, g3, g4⟩ := f4 k4
          rw [if_pos k4, g3] at e
          simp only [if_pos k4, g3]
          rw [if_neg (by rintro ⟨h1, _⟩; omega)]
          have := ha _ f1 (by rw [g1])
          rw [g1, g3, if_pos ⟨rfl, g2⟩] at this
          rw [newF, if_pos k4, e, ← this, Int.mul_comm]
          exact (Int.mul_ediv_add_emod _ _).symm
        · rw [if_neg k4] at e
          simp only [if_neg k4]
          rw [newF, if_neg k4, e]
          by_cases hb : 0 < (M.getD f.2.1.toNat (false, 0)).2
          · simp only [hb, if_true, and_self]
          · simp only [hb, if_false, and_false]
      · simp only [if_neg em] at hme ⊢
        exact ha m hm hme
    · rw [if_neg e]
      have hno : ((walkL xs fs (stepC f cw y.1) y.2.toNat).filter fun q => q.1 = c) = [] := by
        rw [List.filter_eq_nil_iff]
        intro q hq hqc
        have hqc : q.1 = c := by simpa using hqc
        apply e
        have hag := hw.agree hS q hq _ f1 (by rw [hM1, if_pos rfl])
        rw [hM1, if_pos rfl, hcd, hqc] at hag
        simp only at hag
        unfold wantF
        by_cases k4 : f.1 = 4
        · obtain ⟨g1, g2, g3, g4⟩ := f4 k4
          rw [if_pos k4, g3]
          rw [if_pos k4, if_neg (by rintro ⟨h1, _⟩; omega), newF, if_pos k4] at hag
          rw [hag, Int.add_comm, Int.add_mul_emod_self_right]
          exact (Int.emod_eq_of_lt y0 (by omega)).symm
        · rw [if_neg k4]
          rw [if_neg k4, newF, if_neg k4] at hag
          by_cases hb : 0 < (M.getD f.2.1.toNat (false, 0)).2
          · rw [if_pos hb]
            rw [if_pos ⟨rfl, hb⟩] at hag
            exact hag.symm
          · rw [if_neg hb]
            rw [if_neg (by rintro ⟨_, h⟩; exact hb h)] at hag
            exact hag.symm
      rw [hno]
      rfl
  | [], x :: xs, _, _, _, _, _, _, h, _ => by have := h.hl; simp at this
  | f :: fs, [], _, _, _, _, _, _, h, _ => by have := h.hl; simp at this
def getF (S : List Int) (F : List (Int × Int × Int)) (xs : List LvA) (Vs c : List Int) : (Int × Bool) × Int :=
  if tnCheck S F xs Vs ≠ 0 then ((0, false), tnCheck S F xs Vs) else if (atF S c).2 ≠ 0 then ((0, false), 3) else (getGo ((readF S F).getD []) Vs c xs F 0 (0, false), 0)
end Go.Fw
namespace Go.Fw
open Go Go.RowKit Go.Proofs
set_option maxRecDepth 100000
set_option linter.unusedSimpArgs false
set_option linter.unusedVariables false
theorem range_flat (n z : Nat) : ((List.range n).flatMap fun p => (List.range z).map fun a => p * z + a) = List.range (n * z) := by
  induction n with
  | zero => simp
  | succ n ih =>
    rw [List.range_succ, List.flatMap_append, ih, Nat.succ_mul, List.range_add]
    simp
theorem seg_flat (g : Nat → Nat) : ∀ n, (∀ p < n, g p ≤ g (p + 1)) → g 0 = 0 → ((List.range n).flatMap fun p => List.range' (g p) (g (p + 1) - g p)) = List.range (g n)
  | 0, _, h0 => by simp [h0]
  | n + 1, h, h0 => by
    rw [List.range_succ, List.flatMap_append, seg_flat g n (fun p hp => h p (by omega)) h0]
    have hle := h n (by omega)
    simp only [List.flatMap_cons, List.flatMap_nil, List.append_nil]
    have e : g (n + 1) = g n + (g (n + 1) - g n) := by omega
    rw [e, List.range_add, Nat.add_sub_cancel_left]
    congr 1
    rw [List.range'_eq_map_range]
theorem flat_same {α β : Type} {f g : α → List β} : ∀ (l : List α), (∀ x ∈ l, f x = g x) → l.flatMap f = l.flatMap g
  | [], _ => rfl
  | x :: r, h => by rw [List.flatMap_cons, List.flatMap_cons, h x (by simp), flat_same r fun y hy => h y (by simp [hy])]
theorem kids_all {l : Lv} {n : Nat} (hc : lvCheck l n = 0) : ((List.range n).flatMap fun p => (kidsF l p).map fun y => y.2.toNat) = List.range (lvBelow l n).toNat := by
  obtain ⟨z0, z1, hf, hcl, b0, b1, hcr, -⟩ := lvBelow_ok hc
  obtain ⟨k, z, ps, cs⟩ := l
  simp only at z0 z1 hf hcl b0 b1 hcr
  simp only [kidsF, lvBelow]
  by_cases hw : k = 0 ∨ k = 4
  · simp only [if_pos hw]
    obtain ⟨zn, rfl⟩ : ∃ zn : Nat, z = zn := ⟨z.toNat, by omega⟩
    have e : ((n : Int) * zn).toNat = n * zn := by rw [← Int.natCast_mul]; exact Int.toNat_natCast _
    rw [e, ← range_flat]
    refine flat_same _ fun p _ => ?_
    rw [List.map_map, Int.toNat_natCast]
    apply List.map_congr_left
    intro a _
    simp only [Function.comp]
    rw [← Int.natCast_mul, ← Int.natCast_add, Int.toNat_natCast]
  simp only [if_neg hw, Int.toNat_natCast]
  by_cases k3 : k = 3
  · have hcn : cs.length = n := by
      simp only [lvFormed] at hf
      rw [if_neg (by omega), if_neg (by omega), if_pos k3] at hf
      exact (of_decide_eq_true hf).2
    simp only [if_pos k3, List.map_cons, List.map_nil, Int.toNat_natCast]
    rw [hcn]
    simp
  have k12 : k = 1 ∨ k = 2 := by
    by_cases h : k = 1 ∨ k = 2
    · exact h
    · simp only [lvFormed] at hf
      rw [if_neg (by omega), if_neg (by omega), if_neg k3, if_neg h] at hf
      cases hf
  have hP := lvFormed_pos hf k12
  simp only at hP
  simp only [if_neg k3, List.map_map]
  have hg := seg_flat (fun p => (ps.getD p 0).toNat) n (fun p hp => by
    obtain ⟨f, t, h1, h2, h3, -⟩ := hP.at hp
    simp only [h1, h2, Int.toNat_natCast]
    exact h3) (by simp only [hP.zero]; rfl)
  simp only [hP.last, Int.toNat_natCast] at hg
  rw [← hg]
  refine flat_same _ fun p _ => ?_
  simp [Function.comp_def]
def walkP : List LvA → Nat → List Nat
  | [], p => [p]
  | x :: r, p => (kidsF x.lv p).flatMap fun y => walkP r y.2.toNat
theorem walkL_nums : ∀ (xs : List LvA) (fs : List (Int × Int × Int)) (c : List Int) (p : Nat), xs.length = fs.length → (walkL xs fs c p).map (·.2) = walkP xs p
  | [], fs, c, p, _ => by cases fs <;> rfl
  | x :: xs, [], c, p, h => by simp at h
  | x :: xs, f :: fs, c, p, h => by
    simp only [walkL, walkP, List.map_flatMap]
    exact flat_same _ fun y _ => walkL_nums xs fs _ _ (by simpa using h)
theorem walkP_all : ∀ (xs : List LvA) (n N : Nat) (ws : List Int), cntGo xs n = .ok ws → lastG ws n = N → (List.range n).flatMap (walkP xs) = List.range N
  | [], n, N, ws, h, hN => by
    cases h
    simp only [lastG] at hN
    subst hN
    have : walkP [] = fun p => [p] := by funext p; rfl
    rw [this]
    simp
  | x :: r, n, N, ws, h, hN => by
    simp only [cntGo] at h
    split at h
    case isFalse => cases h
    rename_i hchk
    have hcs : ∃ ws', cntGo r (lvBelow x.lv n).toNat = .ok ws' ∧ ws = lvBelow x.lv n :: ws' := by
      cases h' : cntGo r (lvBelow x.lv n).toNat with
      | error e => rw [h'] at h; simp [Except.map] at h
      | ok l => rw [h'] at h; simp [Except.map] at h; exact ⟨l, rfl, h.symm⟩
    obtain ⟨ws', hc', rfl⟩ := hcs
    have ih := walkP_all r _ N ws' hc' (by simpa [lastG] using hN)
    rw [← kids_all hchk, List.flatMap_assoc] at ih
    rw [← ih]
    refine flat_same _ fun p _ => ?_
    rw [walkP, List.flatMap_map]
theorem Way.kind {S : List Int} {M : List (Bool × Int)} {N : Nat} {f : Int × Int × Int} {fs : List (Int × Int × Int)} {x : LvA} {xs : List LvA} {M0 : List (Bool × Int)} {b : Int} {c : List Int} {n p : Nat}
    (h : Way S M N (f :: fs) (x :: xs) M0 b c n p) : x.lv.k = f.1 := by
  have := h.hfit
  simp only [List.map_cons, fitF, Bool.and_eq_true, decide_eq_true_eq] at this
  exact this.1.1
theorem Way.place {S : List Int} {M : List (Bool × Int)} {N : Nat} (hS : ∀ x ∈ S, 0 ≤ x ∧ x ≤ 9223372036854775807) {f : Int × Int × Int} {fs : List (Int × Int × Int)} {x : LvA} {xs : List LvA} {M0 : List (Bool × Int)} {b : Int} {c : List Int} {n p : Nat}
    (h : Way S M N (f :: fs) (x :: xs) M0 b c n p) {y : Int × Int} (hy : y ∈ kidsF x.lv p) {q : List Int × Nat} (hq : q ∈ walkL xs fs (stepC f c y.1) y.2.toNat) :
    (f.1 ≠ 4 → y.1 = if 0 < (M.getD f.2.1.toNat (false, 0)).2 then q.1.getD f.2.1.toNat 0 / (M.getD f.2.1.toNat (false, 0)).2 else q.1.getD f.2.1.toNat 0) ∧
    (f.1 = 4 → q.1.getD f.2.1.toNat 0 = c.getD f.2.1.toNat 0 * f.2.2 + y.1) := by
  have hcl := h.hP.1
  obtain ⟨⟨f0, f1⟩, -, f4, f3, M1, hM1, hk⟩ := h.step hS
  obtain ⟨-, -, he, hw⟩ := hk y hy
  have hcd : (stepC f c y.1).getD f.2.1.toNat 0 = newF f c y.1 := by rw [he, getD_set _ _ _ _ _ (by omega), if_pos rfl]
  have hag := hw.agree hS q hq _ f1 (by rw [hM1, if_pos rfl])
  rw [hM1, if_pos rfl, hcd] at hag
  simp only at hag
  constructor
  · intro k4
    rw [if_neg k4, newF, if_neg k4] at hag
    by_cases hb : 0 < (M.getD f.2.1.toNat (false, 0)).2
    · rw [if_pos hb]
      rw [if_pos ⟨rfl, hb⟩] at hag
      exact hag.symm
    · rw [if_neg hb]
      rw [if_neg (by rintro ⟨_, h⟩; exact hb h)] at hag
      exact hag.symm
  · intro k4
    obtain ⟨g1, g2, g3, g4⟩ := f4 k4
    rw [if_pos k4, if_neg (by rintro ⟨h1, _⟩; omega), newF, if_pos k4] at hag
    exact hag
def Lex : List LvA → Nat → Nat → Prop
  | [], _, _ => False
  | x :: r, a, b => x.lv.crd.getD a 0 < x.lv.crd.getD b 0 ∨ (x.lv.crd.getD a 0 = x.lv.crd.getD b 0 ∧ Lex r a b)
theorem Lex.trans : ∀ {xs : List LvA} {a b c : Nat}, Lex xs a b → Lex xs b c → Lex xs a c
  | [], _, _, _, h, _ => h.elim
  | x :: r, a, b, c, h1, h2 => by
    rcases h1 with h1 | ⟨e1, h1⟩ <;> rcases h2 with h2 | ⟨e2, h2⟩
    · exact .inl (by omega)
    · exact .inl (by omega)
    · exact .inl (by omega)
    · exact .inr ⟨by omega, h1.trans h2⟩
theorem lessF_lex : ∀ {xs : List LvA} {q : Nat}, lessF xs q = true → Lex xs (q - 1) q
  | [], _, h => by cases h
  | x :: r, q, h => by
    simp only [lessF] at h
    split at h
    · rename_i e; exact .inr ⟨e.symm, lessF_lex h⟩
    · exact .inl (of_decide_eq_true h)
theorem RiseT.lex {xs : List LvA} {ps : List Int} {m p : Nat} (h : RiseT xs ps m) (hp : p < ps.length - 1) (a : Nat) (ha : ps.getD p 0 ≤ a) : ∀ d, ((a + d + 1 : Nat) : Int) < ps.getD (p + 1) 0 → a + d + 1 < m → Lex xs a (a + d + 1)
  | 0, h1, h2 => lessF_lex (h p hp (a + 0 + 1) h2 (by omega) h1)
  | d + 1, h1, h2 => (RiseT.lex h hp a ha d (by omega) (by omega)).trans (lessF_lex (h p hp (a + (d + 1) + 1) h2 (by omega) h1))
theorem single_diff {S : List Int} {M : List (Bool × Int)} {N : Nat} (hS : ∀ x ∈ S, 0 ≤ x ∧ x ≤ 9223372036854775807) : ∀ {fs : List (Int × Int × Int)} {xs : List LvA} {M0 M0' : List (Bool × Int)} {b b' : Int} {c c' : List Int} {n p n' p' : Nat},
    Way S M N fs xs M0 b c n p → Way S M N fs xs M0' b' c' n' p' → (∀ x ∈ xs, x.lv.k = 3) → Lex xs p p' → ∀ q ∈ walkL xs fs c p, ∀ q' ∈ walkL xs fs c' p', q.1 ≠ q'.1
  | _, [], _, _, _, _, _, _, _, _, _, _, _, _, _, hx, _, _, _, _ => hx.elim
  | [], x :: xs, _, _, _, _, _, _, _, _, _, _, h, _, _, _, _, _, _, _ => by have := h.hl; simp at this
  | f :: fs, x :: xs, M0, M0', b, b', c, c', n, p, n', p', h, h', h3, hx, q, hq, q', hq' => by
    have k3 := h3 x (by simp)
    have hkf := h.kind
    have kk : ∀ p, kidsF x.lv p = [(x.lv.crd.getD p 0, (p : Int))] := fun p => by simp only [kidsF]; rw [if_neg (by omega), if_pos k3]
    simp only [walkL, kk, List.flatMap_cons, List.flatMap_nil, List.append_nil, Int.toNat_natCast] at hq hq'
    have p1 := (h.place hS (y := (x.lv.crd.getD p 0, (p : Int))) (by rw [kk]; simp) (q := q) (by simpa using hq)).1 (by omega)
    have p2 := (h'.place hS (y := (x.lv.crd.getD p' 0, (p' : Int))) (by rw [kk]; simp) (q := q') (by simpa using hq')).1 (by omega)
    rcases hx with hx | ⟨e, hx⟩
    · intro heq
      rw [heq] at p1
      simp only at p1 p2
      omega
    · obtain ⟨-, -, -, -, M1, -, hk⟩ := h.step hS
      obtain ⟨-, -, -, -, M1', -, hk'⟩ := h'.step hS
      obtain ⟨-, -, -, hw⟩ := hk (x.lv.crd.getD p 0, (p : Int)) (by rw [kk]; simp)
      obtain ⟨-, -, -, hw'⟩ := hk' (x.lv.crd.getD p' 0, (p' : Int)) (by rw [kk]; simp)
      simp only [Int.toNat_natCast] at hw hw'
      exact single_diff hS hw hw' (fun y hy => h3 y (by simp [hy])) hx q hq q' hq'
theorem Way.pair {S : List Int} {M : List (Bool × Int)} {N : Nat} (hS : ∀ x ∈ S, 0 ≤ x ∧ x ≤ 9223372036854775807) : ∀ {fs : List (Int × Int × Int)} {xs : List LvA} {M0 : List (Bool × Int)} {b : Int} {c : List Int} {n p : Nat},
    Way S M N fs xs M0 b c n p → Chn b xs → riseF xs = true → (walkL xs fs c p).Pairwise fun q r => q.1 ≠ r.1
  | [], [], _, _, _, _, _, _, _, _ => by simp [walkL]
  | [], x :: xs, _, _, _, _, _, h, _, _ => by have := h.hl; simp at this
  | f :: fs, [], _, _, _, _, _, h, _, _ => by have := h.hl; simp at this
  | f :: fs, x :: xs, M0, b, c, n, p, h, hch, hri => by
    have hkf := h.kind
    have hpl := fun {y} (hy : y ∈ kidsF x.lv p) {q} hq => h.place hS (y := y) hy (q := q) hq
    have hp := h.hp
    have hn := h.hn
    obtain ⟨-, hchk, f4, -, M1, -, hk⟩ := h.step hS
    obtain ⟨hc3, hch'⟩ := hch
    have hri' : riseF xs = true := by
      simp only [riseF] at hri
      split at hri
      · rename_i k2
        exact riseF_none fun y hy => by
          have := chn_single hch' (.inl k2) y hy
          simp [this]
      · exact hri
    simp only [walkL]
    rw [List.pairwise_flatMap]
    refine ⟨fun y hy => (hk y hy).2.2.2.pair hS (by rw [← hkf]; exact hch') hri', ?_⟩
    -- children of different places
    have far : ∀ y ∈ kidsF x.lv p, ∀ y' ∈ kidsF x.lv p, y.1 ≠ y'.1 → ∀ q ∈ walkL xs fs (stepC f c y.1) y.2.toNat, ∀ q' ∈ walkL xs fs (stepC f c y'.1) y'.2.toNat, q.1 ≠ q'.1 := by
      intro y hy y' hy' hne q hq q' hq' heq
      obtain ⟨a1, a2⟩ := hpl hy hq
      obtain ⟨b1, b2⟩ := hpl hy' hq'
      rw [heq] at a1 a2
      by_cases k4 : f.1 = 4
      · have := a2 k4
        have := b2 k4
        omega
      · exact hne ((a1 k4).trans (b1 k4).symm)
    obtain ⟨z0, z1, hf, hcl, b0, b1, hcr, hrise⟩ := lvBelow_ok hchk
    obtain ⟨⟨k, z, ps, cs⟩, px, qx⟩ := x
    simp only at z0 z1 hf hcl b0 b1 hcr hkf hrise hc3 hch'
    obtain ⟨Y, hY⟩ : ∃ Y, Y = kidsF ⟨k, z, ps, cs⟩ p := ⟨_, rfl⟩
    have hfar : Y.Pairwise (fun y y' => y.1 ≠ y'.1) → Y.Pairwise (fun y y' => ∀ q ∈ walkL xs fs (stepC f c y.1) y.2.toNat, ∀ q' ∈ walkL xs fs (stepC f c y'.1) y'.2.toNat, q.1 ≠ q'.1) := by
      intro hpw
      refine hpw.imp_of_mem ?_
      intro y y' hy hy' hne
      rw [hY] at hy hy'
      exact far y hy y' hy' hne
    simp only [← hY] at hk far ⊢
    simp only [kidsF] at hY
    by_cases hw : k = 0 ∨ k = 4
    · rw [if_pos hw] at hY
      apply hfar
      rw [hY, List.pairwise_map]
      exact List.nodup_range.imp fun h h' => h (by simp at h'; omega)
    rw [if_neg hw] at hY
    by_cases k3 : k = 3
    · rw [if_pos k3] at hY
      rw [hY]
      simp
    rw [if_neg k3] at hY
    have k12 : k = 1 ∨ k = 2 := by
      by_cases h : k = 1 ∨ k = 2
      · exact h
      · simp only [lvFormed] at hf
        rw [if_neg (by omega), if_neg (by omega), if_neg k3, if_neg h] at hf
        cases hf
    have hP := lvFormed_pos hf k12
    simp only at hP
    obtain ⟨f', t, hf', ht', hft, htc⟩ := hP.at hp
    rw [hf', ht', Int.toNat_natCast, Int.toNat_natCast] at hY
    have hpps : p < ps.length - 1 := by have := hP.len; omega
    have hlt : (List.range' f' (t - f')).Pairwise fun a b => a < b := List.pairwise_lt_range' 
    by_cases k1 : k = 1
    · apply hfar
      simp only [lvRise] at hrise
      rw [if_pos k1] at hrise
      have hR := of_decide_eq_true hrise p hpps
      rw [hf', ht'] at hR
      have hst : ∀ d a, f' ≤ a → a + d + 1 < t → cs.getD a 0 < cs.getD (a + d + 1) 0 := by
        intro d
        induction d with
        | zero =>
          intro a h1 h2
          have := hR (a + 1) (by omega) (by omega) (by omega)
          simp only [Nat.add_sub_cancel] at this
          simp only [Nat.add_zero]
          omega
        | succ d ih =>
          intro a h1 h2
          have i1 := ih a h1 (by omega)
          have := hR (a + (d + 1) + 1) (by omega) (by omega) (by omega)
          simp only [Nat.add_sub_cancel] at this
          have e : a + d + 1 = a + (d + 1) := by omega
          rw [e] at i1
          omega
      rw [hY, List.pairwise_map]
      refine hlt.imp_of_mem ?_
      intro a b ha hb hab
      rw [List.mem_range'_1] at ha hb
      have := hst (b - a - 1) a ha.1 (by omega)
      rw [show a + (b - a - 1) + 1 = b by omega] at this
      simp only
      omega
    · have k2 : k = 2 := by omega
      have hs := chn_single hch' (.inl k2)
      simp only [riseF] at hri
      rw [if_pos k2] at hri
      have hR := of_decide_eq_true hri
      have hmem : ∀ a ∈ List.range' f' (t - f'), (cs.getD a 0, (a : Int)) ∈ Y := by
        intro a ha
        rw [hY]
        exact List.mem_map.2 ⟨a, ha, rfl⟩
      rw [hY, List.pairwise_map]
      refine hlt.imp_of_mem ?_
      intro a b ha hb hab
      have hya := hmem a ha
      have hyb := hmem b hb
      rw [List.mem_range'_1] at ha hb
      have hL := hR.lex hpps a (by rw [hf']; omega) (b - a - 1) (by rw [ht']; omega) (by omega)
      rw [show a + (b - a - 1) + 1 = b by omega] at hL
      rcases hL with hL | ⟨-, hL⟩
      · exact far _ hya _ hyb (by simp only at hL ⊢; omega)
      · have wa := (hk _ hya).2.2.2
        have wb := (hk _ hyb).2.2.2
        simp only [Int.toNat_natCast] at wa wb ⊢
        exact single_diff hS wa wb hs hL
theorem tn_walk {S : List Int} {F : List (Int × Int × Int)} {xs : List LvA} {Vs : List Int} (hS : ∀ x ∈ S, -9223372036854775808 ≤ x ∧ x ≤ 9223372036854775807) (h : tnCheck S F xs Vs = 0) :
    (walkL xs F (List.replicate S.length 0) 0).map (·.2) = List.range Vs.length ∧ ((walkL xs F (List.replicate S.length 0) 0).Pairwise fun q r => q.1 ≠ r.1) ∧ ∀ q ∈ walkL xs F (List.replicate S.length 0) 0, InS S q.1 ∧ q.2 < Vs.length := by
  obtain ⟨hS0, M, hM, hmet, hway⟩ := tn_way hS h
  obtain ⟨h1, h2, h3, h4, h5, h6⟩ := tnCheck_ok h
  have hgood := tn_good hS h
  refine ⟨?_, ?_, fun q hq => hgood.mem h2 q hq⟩
  · rw [walkL_nums _ _ _ _ h2]
    obtain ⟨ws, hc, hN⟩ := hway.hc
    have := walkP_all xs 1 Vs.length ws hc hN
    simpa using this
  · refine hway.pair hS0 ?_ h6
    have hr := hway.hr
    have hfit := hway.hfit
    exact chn_of h2 (by simp) hr hfit
end Go.Fw
