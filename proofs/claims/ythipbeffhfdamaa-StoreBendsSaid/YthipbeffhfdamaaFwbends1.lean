import Derived.Test.YthipbeffhfdamaaFwstore7
import Derived.Test.YthipbeffhfdamaaFwargsT
namespace Go.Fw
open Go Go.RowKit Go.Proofs
set_option maxRecDepth 100000
set_option linter.unusedSimpArgs false
set_option linter.unusedVariables false

theorem fitF_at : ∀ {xs : List LvA} {F : List (Int × Int × Int)} {Z : List Int}, fitF xs F Z = true → xs.length = F.length → Z.length = F.length → ∀ i (h : i < xs.length) (h2 : i < F.length) (h3 : i < Z.length), xs[i].lv.k = F[i].1 ∧ xs[i].lv.sz = Z[i]
  | [], _, _, _, _, _ => fun i h => by simp at h
  | x :: xs, [], _, _, h, _ => by simp at h
  | x :: xs, f :: F, [], _, _, h => by simp at h
  | x :: xs, f :: F, z :: Z, h, h1, h2 => by
    simp only [fitF, Bool.and_eq_true, decide_eq_true_eq] at h
    intro i hi hi2 hi3
    cases i with
    | zero => exact h.1
    | succ i =>
      have := fitF_at h.2 (by simpa using h1) (by simpa using h2) i (by simpa using hi) (by simpa using hi2) (by simpa using hi3)
      simpa using this
theorem fitF_of : ∀ {xs : List LvA} {F : List (Int × Int × Int)} {Z : List Int}, (∀ i (h : i < xs.length) (h2 : i < F.length) (h3 : i < Z.length), xs[i].lv.k = F[i].1 ∧ xs[i].lv.sz = Z[i]) → fitF xs F Z = true
  | [], _, _, _ => by simp [fitF]
  | x :: xs, [], _, _ => by simp [fitF]
  | x :: xs, f :: F, [], _ => by simp [fitF]
  | x :: xs, f :: F, z :: Z, h => by
    simp only [fitF, Bool.and_eq_true, decide_eq_true_eq]
    refine ⟨h 0 (by simp) (by simp) (by simp), fitF_of fun i h1 h2 h3 => ?_⟩
    have := h (i + 1) (by simpa using h1) (by simpa using h2) (by simpa using h3)
    simpa using this
theorem cntGo_congr : ∀ {xs ys : List LvA} {n : Nat}, ys.map (·.lv) = xs.map (·.lv) → cntGo ys n = cntGo xs n
  | [], [], _, _ => rfl
  | [], y :: ys, _, h => by simp at h
  | x :: xs, [], _, h => by simp at h
  | x :: xs, y :: ys, n, h => by
    simp only [List.map_cons, List.cons.injEq] at h
    simp only [cntGo, h.1, cntGo_congr h.2]
theorem cntF_congr {xs ys : List LvA} (h : ys.map (·.lv) = xs.map (·.lv)) : cntF ys = cntF xs := by simp only [cntF, cntGo_congr h]

/-- With more or fewer numbers. -/
theorem bends_v {S : List Int} {F : List (Int × Int × Int)} {xs ys : List LvA} {V W : List Int} (h : tnCheck S F xs V = 0) (hy : ys.map (·.lv) = xs.map (·.lv)) (hW : W.length ≠ V.length) : tnCheck S F ys W ≠ 0 := by
  intro h2
  obtain ⟨-, -, -, -, a, -⟩ := tnCheck_ok h
  obtain ⟨-, -, -, -, b, -⟩ := tnCheck_ok h2
  rw [cntF_congr hy] at b
  omega
/-- With another size. -/
theorem bends_z {S : List Int} {F : List (Int × Int × Int)} {xs ys : List LvA} {V W : List Int} (hZ : (sizesF S F).1.length = F.length) (h : tnCheck S F xs V = 0) {i : Nat} (hi : i < xs.length) (hi2 : i < ys.length) (hs : ys[i].lv.sz ≠ xs[i].lv.sz) : tnCheck S F ys W ≠ 0 := by
  intro h2
  obtain ⟨-, a1, a2, -⟩ := tnCheck_ok h
  obtain ⟨-, b1, b2, -⟩ := tnCheck_ok h2
  have e1 := (fitF_at a2 a1 hZ i hi (by omega) (by omega)).2
  have e2 := (fitF_at b2 b1 hZ i hi2 (by omega) (by omega)).2
  omega
theorem cntGo_bad : ∀ {xs ys : List LvA} {n : Nat} {l : List Int} {i : Nat}, cntGo xs n = .ok l → (hl : ys.length = xs.length) → (hi : i < xs.length) → (∀ k (h : k < i), ys[k].lv = xs[k].lv) →
    (ys[i].lv.k = xs[i].lv.k ∧ ys[i].lv.sz = xs[i].lv.sz ∧ ys[i].lv.pos = xs[i].lv.pos ∧ ys[i].lv.crd.length = xs[i].lv.crd.length) → (∃ c ∈ ys[i].lv.crd, ys[i].lv.sz ≤ c) → cntGo ys n = .error 3
  | [], _, _, _, _, _, _, hi, _, _, _ => by simp at hi
  | x :: xs, [], _, _, _, _, hl, _, _, _, _ => by simp at hl
  | x :: xs, y :: ys, n, l, i, h, hl, hi, hk, he, hc => by
    simp only [cntGo] at h
    split at h
    case isFalse => cases h
    rename_i h0
    cases i with
    | zero =>
      simp only [List.getElem_cons_zero] at he hc
      obtain ⟨e1, e2, e3, e4⟩ := he
      obtain ⟨b1, b2, b3, b4, b5, b6, b7, b8⟩ := lvBelow_ok h0
      have f1 : lvFormed y.lv n = true := by
        rw [← b3]; simp only [lvFormed, e1, e2, e3, e4]
      have f2 : lvBelow y.lv n = lvBelow x.lv n := by simp only [lvBelow, e1, e2, e4]
      have f3 : y.lv.crd.any (lvOut y.lv) = true := by
        obtain ⟨c, hc1, hc2⟩ := hc
        rw [List.any_eq_true]
        refine ⟨c, hc1, ?_⟩
        simp [lvOut]
        omega
      have : lvCheck y.lv n = 3 := by
        unfold lvCheck
        rw [if_neg (by rw [f1, e2]; simp; omega), if_neg (by rw [f2, e4]; omega), if_pos f3]
      simp only [cntGo, this]
      simp
    | succ i =>
      have e0 : y.lv = x.lv := hk 0 (by omega)
      cases hr : cntGo xs (lvBelow x.lv n).toNat with
      | error e => rw [hr] at h; simp [Except.map] at h
      | ok l' =>
        have := cntGo_bad (ys := ys) (i := i) hr (by simpa using hl) (by simpa using hi) (fun k h => by simpa using hk (k + 1) (by omega)) (by simpa using he) (by simpa using hc)
        simp only [cntGo, e0, this]
        rw [if_pos h0]
        simp [Except.map]
/-- With a place that is none. -/
theorem bends_c {S : List Int} {F : List (Int × Int × Int)} {xs ys : List LvA} {V W : List Int} (hZ : (sizesF S F).1.length = F.length) (h : tnCheck S F xs V = 0) {i : Nat} (hl : ys.length = xs.length) (hi : i < xs.length) (hk : ∀ k (_ : k < xs.length), k ≠ i → ys[k].lv = xs[k].lv)
    (he : ys[i].lv.k = xs[i].lv.k ∧ ys[i].lv.sz = xs[i].lv.sz ∧ ys[i].lv.pos = xs[i].lv.pos ∧ ys[i].lv.crd.length = xs[i].lv.crd.length) (hc : ∃ c ∈ ys[i].lv.crd, ys[i].lv.sz ≤ c) : tnCheck S F ys W = 3 := by
  obtain ⟨a0, a1, a2, a3, -⟩ := tnCheck_ok h
  have f : fitF ys F (sizesF S F).1 = true := fitF_of fun k h1 h2 h3 => by
    have := fitF_at a2 a1 hZ k (by omega) h2 h3
    by_cases e : k = i
    · subst e
      rw [he.1, he.2.1]; exact this
    · rw [hk k (by omega) e]; exact this
  have c := cntGo_bad (cntF_ok a3) hl hi (fun k h => hk k (by omega) (by omega)) he hc
  have c2 : (cntF ys).2 = 3 := by simp only [cntF, c]
  unfold tnCheck
  rw [if_neg (by omega), if_neg (by omega), if_neg (by rw [f]; simp), if_pos (by omega), c2]
end Go.Fw
