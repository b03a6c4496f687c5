/- The place of a number, from the last level up; that is the one at which it is gone through. -/
import Derived.Test.YthipbeffhfdamaaFwonce1
namespace Go.Fw
open Go Go.RowKit Go.Proofs
set_option maxRecDepth 100000
set_option linter.unusedSimpArgs false
set_option linter.unusedVariables false
theorem take_upto (n : Nat) : ∀ (qs : List Int) (p : Nat), (∀ j < p, qs.getD j 0 ≤ n) → p < qs.length → (n : Int) < qs.getD p 0 → (qs.takeWhile fun x : Int => decide (x ≤ n)).length = p
  | [], p, _, h, _ => by simp at h
  | x :: qs, 0, _, _, h => by
    simp at h
    rw [List.takeWhile_cons_of_neg (by simpa using h)]
    rfl
  | x :: qs, p + 1, h1, h2, h3 => by
    have h0 := h1 0 (by omega)
    simp at h0
    rw [List.takeWhile_cons_of_pos (by simpa using h0), List.length_cons, take_upto n qs p (fun j hj => by simpa using h1 (j + 1) (by omega)) (by simpa using h2) (by simpa using h3)]
def upto (ps : List Int) (n : Nat) : Nat := ((ps.drop 1).takeWhile fun x : Int => decide (x ≤ n)).length
theorem upto_eq {ps : List Int} {n p : Nat} (h1 : ∀ j < p, ps.getD (j + 1) 0 ≤ n) (h2 : p + 1 < ps.length) (h3 : (n : Int) < ps.getD (p + 1) 0) : upto ps n = p := by
  have e : ∀ j, (ps.drop 1).getD j 0 = ps.getD (j + 1) 0 := fun j => by
    cases ps <;> simp
  refine take_upto n _ p (fun j hj => by rw [e]; exact h1 j hj) (by simp; omega) (by rw [e]; exact h3)
def parF (l : Lv) (n : Nat) : Nat × Int :=
  if l.k = 0 ∨ l.k = 4 then (n / l.sz.toNat, ((n % l.sz.toNat : Nat) : Int)) else if l.k = 3 then (n, l.crd.getD n 0) else (upto l.pos n, l.crd.getD n 0)
theorem par_kids {l : Lv} {a p : Nat} (hc : lvCheck l a = 0) (hp : p < a) {y : Int × Int} (hy : y ∈ kidsF l p) : parF l y.2.toNat = (p, y.1) ∧ y.2.toNat < (lvBelow l a).toNat := by
  constructor
  · obtain ⟨z0, z1, hf, hcl, b0, b1, hcr, -⟩ := lvBelow_ok hc
    obtain ⟨k, z, ps, cs⟩ := l
    simp only at z0 z1 hf hcl b0 b1 hcr
    simp only [kidsF, parF] at hy ⊢
    by_cases hw : k = 0 ∨ k = 4
    · simp only [if_pos hw] at hy ⊢
      obtain ⟨zn, rfl⟩ : ∃ zn : Nat, z = zn := ⟨z.toNat, by omega⟩
      obtain ⟨b, hb, rfl⟩ := List.mem_map.1 hy
      simp at hb
      have e : ((p : Int) * zn + b).toNat = zn * p + b := by
        rw [← Int.natCast_mul, ← Int.natCast_add, Int.toNat_natCast, Nat.mul_comm]
      simp only [e, Int.toNat_natCast]
      rw [Nat.mul_add_div (by omega), Nat.div_eq_of_lt hb, Nat.mul_add_mod, Nat.mod_eq_of_lt hb]
      simp
    simp only [if_neg hw] at hy ⊢
    by_cases k3 : k = 3
    · simp only [if_pos k3, List.mem_singleton] at hy ⊢
      subst hy
      simp
    simp only [if_neg k3] at hy ⊢
    have k12 : k = 1 ∨ k = 2 := by
      by_cases h : k = 1 ∨ k = 2
      · exact h
      · simp only [lvFormed] at hf
        rw [if_neg (by omega), if_neg (by omega), if_neg k3, if_neg h] at hf
        cases hf
    have hP := lvFormed_pos hf k12
    simp only at hP
    obtain ⟨n, hn, rfl⟩ := List.mem_map.1 hy
    simp only [Int.toNat_natCast]
    have hlen : ps.length = a + 1 := by
      simp only [lvFormed] at hf
      rw [if_neg (by omega), if_neg (by omega), if_neg k3, if_pos k12] at hf
      exact (of_decide_eq_true hf).1
    obtain ⟨f, t, h1, h2, h3, -⟩ := hP.at hp
    simp only [h1, h2, Int.toNat_natCast, List.mem_range'_1] at hn
    have mono : ∀ d j, j + d = p → ps.getD j 0 ≤ ps.getD p 0 := by
      intro d
      induction d with
      | zero => intro j h; rw [show j = p by omega]; exact Int.le_refl _
      | succ d ih =>
        intro j h
        obtain ⟨f', t', g1, g2, g3, -⟩ := hP.at (show j < a by omega)
        have := ih (j + 1) (by omega)
        rw [g2] at this
        rw [g1]; omega
    rw [upto_eq (p := p)]
    · intro j hj
      have := mono (p - (j + 1)) (j + 1) (by omega)
      rw [h1] at this
      omega
    · omega
    · rw [h2]; omega
  · have : y.2.toNat ∈ (List.range a).flatMap fun p => (kidsF l p).map fun y => y.2.toNat := List.mem_flatMap.2 ⟨p, List.mem_range.2 hp, List.mem_map.2 ⟨y, hy, rfl⟩⟩
    rw [kids_all hc] at this
    exact List.mem_range.1 this
def upF : List Lv → Nat → List Int × Nat
  | [], n => ([], n)
  | x :: xs, n => ((parF x (upF xs n).2).2 :: (upF xs n).1, (parF x (upF xs n).2).1)
def putF : List (Int × Int × Int) → List Int → List Int → List Int
  | f :: fs, a :: as_, c => putF fs as_ (stepC f c a)
  | _, _, c => c
theorem walk_up : ∀ (xs : List LvA) (fs : List (Int × Int × Int)) (c : List Int) (p a : Nat) (ws : List Int), xs.length = fs.length → cntGo xs a = .ok ws → p < a →
    ∀ q ∈ walkL xs fs c p, (upF (xs.map LvA.lv) q.2).2 = p ∧ q.1 = putF fs (upF (xs.map LvA.lv) q.2).1 c
  | [], fs, c, p, a, ws, hl, _, _, q, hq => by
    cases fs with
    | nil =>
      simp only [walkL, List.mem_singleton] at hq
      subst hq
      exact ⟨rfl, rfl⟩
    | cons f fs => simp at hl
  | x :: xs, [], c, p, a, ws, hl, _, _, q, hq => by simp at hl
  | x :: xs, f :: fs, c, p, a, ws, hl, h, hp, q, hq => by
    simp only [cntGo] at h
    split at h
    case isFalse => cases h
    rename_i hchk
    obtain ⟨ws', hc'⟩ : ∃ ws', cntGo xs (lvBelow x.lv a).toNat = .ok ws' := by
      cases h' : cntGo xs (lvBelow x.lv a).toNat with
      | error e => rw [h'] at h; simp [Except.map] at h
      | ok l => exact ⟨l, rfl⟩
    simp only [walkL, List.mem_flatMap] at hq
    obtain ⟨y, hy, hq⟩ := hq
    obtain ⟨k1, k2⟩ := par_kids hchk hp hy
    obtain ⟨i1, i2⟩ := walk_up xs fs (stepC f c y.1) y.2.toNat _ ws' (by simpa using hl) hc' k2 q hq
    simp only [List.map_cons, upF, putF, i1, k1]
    exact ⟨trivial, i2⟩
def plcF (S : List Int) (F : List (Int × Int × Int)) (L : List Lv) (n : Nat) : List Int := putF F (upF L n).1 (List.replicate S.length 0)
theorem walk_plc {S : List Int} {F : List (Int × Int × Int)} {xs : List LvA} {Vs : List Int} (hS : ∀ x ∈ S, -9223372036854775808 ≤ x ∧ x ≤ 9223372036854775807) (h : tnCheck S F xs Vs = 0) :
    walkL xs F (List.replicate S.length 0) 0 = (List.range Vs.length).map fun k => (plcF S F (xs.map LvA.lv) k, k) := by
  obtain ⟨hS0, M, hM, hmet, hway⟩ := tn_way hS h
  obtain ⟨h1, h2, h3, h4, h5, h6⟩ := tnCheck_ok h
  obtain ⟨ws, hc, hN⟩ := hway.hc
  have hw := (tn_walk hS h).1
  rw [← hw, List.map_map]
  conv => lhs; rw [← List.map_id (walkL xs F (List.replicate S.length 0) 0)]
  apply List.map_congr_left
  intro q hq
  have := (walk_up xs F _ 0 1 ws h2 hc (by omega) q hq).2
  exact Prod.ext this rfl
theorem entF_eq {S : List Int} {F : List (Int × Int × Int)} {xs : List LvA} {Vs : List Int} (hS : ∀ x ∈ S, -9223372036854775808 ≤ x ∧ x ≤ 9223372036854775807) (h : tnCheck S F xs Vs = 0) :
    (walkL xs F (List.replicate S.length 0) 0).map (fun q => (q.1, Vs.getD q.2 0)) = (List.range Vs.length).map fun k => (plcF S F (xs.map LvA.lv) k, Vs.getD k 0) := by
  rw [walk_plc hS h, List.map_map]
  rfl
end Go.Fw
/- Whose a number is, is one of those ahead. -/
namespace Go.Fw
open Go Go.RowKit Go.Proofs
set_option maxRecDepth 100000
set_option linter.unusedSimpArgs false
set_option linter.unusedVariables false
theorem par_of {l : Lv} {a n : Nat} (hc : lvCheck l a = 0) (h : n < (lvBelow l a).toNat) : ∃ p y, p < a ∧ y ∈ kidsF l p ∧ y.2.toNat = n ∧ parF l n = (p, y.1) := by
  have : n ∈ (List.range a).flatMap fun p => (kidsF l p).map fun y => y.2.toNat := by rw [kids_all hc]; exact List.mem_range.2 h
  obtain ⟨p, hp, h2⟩ := List.mem_flatMap.1 this
  obtain ⟨y, hy, rfl⟩ := List.mem_map.1 h2
  exact ⟨p, y, List.mem_range.1 hp, hy, rfl, (par_kids hc (List.mem_range.1 hp) hy).1⟩
theorem par_pos {l : Lv} {a n : Nat} (hc : lvCheck l a = 0) (h : n < (lvBelow l a).toNat) (hw : ¬ (l.k = 0 ∨ l.k = 4)) (k3 : l.k ≠ 3) :
    ∃ p, p < a ∧ (∀ j < p, l.pos.getD (j + 1) 0 ≤ n) ∧ p + 1 < l.pos.length ∧ (n : Int) < l.pos.getD (p + 1) 0 ∧ n < l.crd.length ∧ parF l n = (p, l.crd.getD n 0) := by
  obtain ⟨p, y, hp, hy, hyn, hpar⟩ := par_of hc h
  obtain ⟨z0, z1, hf, hcl, b0, b1, hcr, -⟩ := lvBelow_ok hc
  obtain ⟨k, z, ps, cs⟩ := l
  simp only at z0 z1 hf hcl b0 b1 hcr hw k3 h hpar ⊢
  simp only [kidsF, if_neg hw, if_neg k3] at hy
  have k12 : k = 1 ∨ k = 2 := by
    by_cases h : k = 1 ∨ k = 2
    · exact h
    · simp only [lvFormed] at hf
      rw [if_neg (by omega), if_neg (by omega), if_neg k3, if_neg h] at hf
      cases hf
  have hP := lvFormed_pos hf k12
  simp only at hP
  obtain ⟨m, hm, rfl⟩ := List.mem_map.1 hy
  simp only [Int.toNat_natCast] at hyn
  subst hyn
  have hlen : ps.length = a + 1 := by
    simp only [lvFormed] at hf
    rw [if_neg (by omega), if_neg (by omega), if_neg k3, if_pos k12] at hf
    exact (of_decide_eq_true hf).1
  obtain ⟨f, t, h1, h2, h3, -⟩ := hP.at hp
  simp only [h1, h2, Int.toNat_natCast, List.mem_range'_1] at hm
  have mono : ∀ d j, j + d = p → ps.getD j 0 ≤ ps.getD p 0 := by
    intro d
    induction d with
    | zero => intro j h; rw [show j = p by omega]; exact Int.le_refl _
    | succ d ih =>
      intro j h
      obtain ⟨f', t', g1, g2, g3, -⟩ := hP.at (show j < a by omega)
      have := ih (j + 1) (by omega)
      rw [g2] at this
      rw [g1]; omega
  simp only [lvBelow, if_neg hw, Int.toNat_natCast] at h
  refine ⟨p, hp, fun j hj => ?_, by omega, by rw [h2]; omega, h, hpar⟩
  have := mono (p - (j + 1)) (j + 1) (by omega)
  rw [h1] at this
  omega
theorem par_lt {l : Lv} {a n : Nat} (hc : lvCheck l a = 0) (h : n < (lvBelow l a).toNat) : (parF l n).1 < a := by
  obtain ⟨p, y, h1, _, _, h4⟩ := par_of hc h
  rw [h4]; exact h1
theorem cnt_cons {x : LvA} {xs : List LvA} {a : Nat} {ws : List Int} (h : cntGo (x :: xs) a = .ok ws) : lvCheck x.lv a = 0 ∧ ∃ ws', ws = lvBelow x.lv a :: ws' ∧ cntGo xs (lvBelow x.lv a).toNat = .ok ws' := by
  simp only [cntGo] at h
  split at h
  case isFalse => cases h
  rename_i hchk
  refine ⟨hchk, ?_⟩
  cases h' : cntGo xs (lvBelow x.lv a).toNat with
  | error e => rw [h'] at h; simp [Except.map] at h
  | ok l => rw [h'] at h; simp [Except.map] at h; exact ⟨l, h.symm, rfl⟩
theorem up_lt : ∀ (xs : List LvA) (a n : Nat) (ws : List Int), cntGo xs a = .ok ws → n < lastG ws a → (upF (xs.map LvA.lv) n).2 < a
  | [], a, n, ws, h, hn => by
    cases h
    exact hn
  | x :: xs, a, n, ws, h, hn => by
    obtain ⟨hc, ws', rfl, h'⟩ := cnt_cons h
    have := up_lt xs _ n ws' h' (by simpa [lastG] using hn)
    exact par_lt hc this
def ahF (a : Nat) (ws : List Int) (i : Nat) : Nat := (((a : Int) :: ws).getD i 0).toNat
theorem cnt_drop : ∀ (xs : List LvA) (a : Nat) (ws : List Int), cntGo xs a = .ok ws → ∀ i, i ≤ xs.length → cntGo (xs.drop i) (ahF a ws i) = .ok (ws.drop i) ∧ lastG (ws.drop i) (ahF a ws i) = lastG ws a
  | xs, a, ws, h, 0, _ => by simpa [ahF] using h
  | [], a, ws, h, i + 1, hi => by simp at hi
  | x :: xs, a, ws, h, i + 1, hi => by
    obtain ⟨hc, ws', rfl, h'⟩ := cnt_cons h
    have := cnt_drop xs _ ws' h' i (by simpa using hi)
    have e : ahF a (lvBelow x.lv a :: ws') (i + 1) = ahF (lvBelow x.lv a).toNat ws' i := by
      cases i with
      | zero => simp [ahF]; omega
      | succ i => simp [ahF]
    rw [e]
    simpa [lastG] using this
theorem cnt_len : ∀ (xs : List LvA) (a : Nat) (ws : List Int), cntGo xs a = .ok ws → ws.length = xs.length
  | [], a, ws, h => by cases h; rfl
  | x :: xs, a, ws, h => by
    obtain ⟨hc, ws', rfl, h'⟩ := cnt_cons h
    simp [cnt_len xs _ ws' h']
theorem cnt_at {xs : List LvA} {a : Nat} {ws : List Int} (h : cntGo xs a = .ok ws) {n : Nat} (hn : n < lastG ws a) {i : Nat} (hi : i < xs.length) :
    lvCheck xs[i].lv (ahF a ws i) = 0 ∧ (upF ((xs.drop (i + 1)).map LvA.lv) n).2 < (lvBelow xs[i].lv (ahF a ws i)).toNat ∧ upF ((xs.drop i).map LvA.lv) n = ((parF xs[i].lv (upF ((xs.drop (i + 1)).map LvA.lv) n).2).2 :: (upF ((xs.drop (i + 1)).map LvA.lv) n).1, (parF xs[i].lv (upF ((xs.drop (i + 1)).map LvA.lv) n).2).1) := by
  obtain ⟨h1, h2⟩ := cnt_drop xs a ws h i (by omega)
  rw [List.drop_eq_getElem_cons hi] at h1 ⊢
  obtain ⟨hc, ws', e, h'⟩ := cnt_cons h1
  rw [e] at h2
  refine ⟨hc, up_lt _ _ n ws' h' (by rw [← h2] at hn; simpa [lastG] using hn), rfl⟩
end Go.Fw
