import Derived.Test.YthipbeffhfdamaaFwway1
namespace Go.Fw
open Go Go.RowKit Go.Proofs
set_option maxRecDepth 100000
set_option linter.unusedSimpArgs false
set_option linter.unusedVariables false

/-- All places and numbers that are gone through. -/
def walkL : List LvA → List (Int × Int × Int) → List Int → Nat → List (List Int × Nat)
  | x :: xs, f :: fs, c, p => (kidsF x.lv p).flatMap fun y => walkL xs fs (stepC f c y.1) y.2.toNat
  | _, _, c, p => [(c, p)]
theorem foldl_flat {α β σ : Type} (g : α → List β) (h : σ → β → σ) : ∀ (l : List α) (s : σ), (l.flatMap g).foldl h s = l.foldl (fun s y => (g y).foldl h s) s
  | [], s => rfl
  | x :: r, s => by rw [List.flatMap_cons, List.foldl_append, foldl_flat g h r]; rfl
theorem foldl_same {α σ : Type} {g h : σ → α → σ} : ∀ (l : List α) (s : σ), (∀ x ∈ l, ∀ s, g s x = h s x) → l.foldl g s = l.foldl h s
  | [], s, _ => rfl
  | x :: r, s, e => by rw [List.foldl_cons, List.foldl_cons, e x (by simp), foldl_same r _ fun y hy => e y (by simp [hy])]
theorem walkF_list {σ : Type} (step : σ → List Int → Nat → σ) : ∀ (xs : List LvA) (fs : List (Int × Int × Int)) (c : List Int) (p : Nat) (s : σ), walkF step xs fs c p s = (walkL xs fs c p).foldl (fun s q => step s q.1 q.2) s
  | [], fs, c, p, s => by cases fs <;> rfl
  | x :: xs, [], c, p, s => rfl
  | x :: xs, f :: fs, c, p, s => by
    simp only [walkF, walkL]
    rw [foldl_flat]
    exact foldl_same _ _ fun y _ s => walkF_list step xs fs _ _ s
theorem Good.mem {V : List Int → Nat → Prop} : ∀ {xs : List LvA} {fs : List (Int × Int × Int)} {c : List Int} {p : Nat}, Good V xs fs c p → xs.length = fs.length → ∀ q ∈ walkL xs fs c p, V q.1 q.2
  | [], [], c, p, h, _, q, hq => by
    simp only [walkL, List.mem_singleton] at hq
    subst hq
    exact h
  | [], f :: fs, c, p, h, hl, q, hq => by simp at hl
  | x :: xs, [], c, p, h, hl, q, hq => by simp at hl
  | x :: xs, f :: fs, c, p, h, hl, q, hq => by
    simp only [walkL, List.mem_flatMap] at hq
    obtain ⟨y, hy, hq⟩ := hq
    exact Good.mem (h.2 y hy).2 (by simpa using hl) q hq

/-- What a level must have, to come to a place. -/
def wantF (M : List (Bool × Int)) (f : Int × Int × Int) (c : List Int) : Int :=
  if f.1 = 4 then c.getD f.2.1.toNat 0 % (M.getD f.2.1.toNat (false, 0)).2
  else if 0 < (M.getD f.2.1.toNat (false, 0)).2 then c.getD f.2.1.toNat 0 / (M.getD f.2.1.toNat (false, 0)).2 else c.getD f.2.1.toNat 0
/-- What is got. -/
def getGo (M : List (Bool × Int)) (Vs : List Int) (c : List Int) : List LvA → List (Int × Int × Int) → Nat → Int × Bool → Int × Bool
  | x :: xs, f :: fs, p, s => (kidsF x.lv p).foldl (fun s y => if y.1 = wantF M f c then getGo M Vs c xs fs y.2.toNat s else s) s
  | _, _, p, _ => (Vs.getD p 0, true)

/-- What stays of a mode that was met. -/
theorem Way.agree {S : List Int} {M : List (Bool × Int)} {N : Nat} (hS : ∀ x ∈ S, 0 ≤ x ∧ x ≤ 9223372036854775807) : ∀ {fs : List (Int × Int × Int)} {xs : List LvA} {M0 : List (Bool × Int)} {b : Int} {c : List Int} {n p : Nat}, Way S M N fs xs M0 b c n p →
    ∀ q ∈ walkL xs fs c p, ∀ m < S.length, (M0.getD m (false, 0)).1 = true →
      if (M0.getD m (false, 0)).2 = 0 ∧ 0 < (M.getD m (false, 0)).2 then q.1.getD m 0 / (M.getD m (false, 0)).2 = c.getD m 0 else q.1.getD m 0 = c.getD m 0
  | [], [], M0, b, c, n, p, h, q, hq, m, hm, hmet => by
    simp only [walkL, List.mem_singleton] at hq
    subst hq
    obtain ⟨rfl, -⟩ := h.nil
    rw [if_neg (by rintro ⟨h1, h2⟩; omega)]
  | f :: fs, x :: xs, M0, b, c, n, p, h, q, hq, m, hm, hmet => by
    simp only [walkL, List.mem_flatMap] at hq
    obtain ⟨y, hy, hq⟩ := hq
    have hcl := h.hP.1
    obtain ⟨⟨f0, f1⟩, -, f4, f3, M1, hM1, hk⟩ := h.step hS
    obtain ⟨-, ⟨y0, y1⟩, he, hw⟩ := hk y hy
    have ih := Way.agree hS hw q hq m hm
    rw [hM1, he, getD_set _ _ _ _ _ (by omega)] at ih
    by_cases e : f.2.1.toNat = m
    · rw [if_pos e] at ih
      rw [if_pos e] at ih
      rw [← e] at hmet ⊢
      by_cases k4 : f.1 = 4
      · obtain ⟨g1, g2, g3, g4⟩ := f4 k4
        rw [g1, g3]
        rw [if_pos ⟨rfl, g2⟩]
        have ih := ih rfl
        simp only at ih
        rw [if_pos k4, if_neg (by rintro ⟨h1, _⟩; omega), ← e] at ih
        rw [ih, newF, if_pos k4, Int.mul_comm, Int.add_comm, Int.add_mul_ediv_left _ _ (by omega), Int.ediv_eq_zero_of_lt y0 (by omega)]
        omega
      · rw [f3 k4] at hmet
        cases hmet
    · rw [if_neg e] at ih
      rw [if_neg e] at ih
      exact ih hmet
  | [], x :: xs, _, _, _, _, _, h, _, _, _, _, _ => by have := h.hl; simp at this
  | f :: fs, [], _, _, _, _, _, h, _, _, _, _, _ => by have := h.hl; simp at this

/-- A place that is aimed at is what the way down has so far. -/
def Aims (S : List Int) (M M0 : List (Bool × Int)) (cw c : List Int) : Prop :=
  ∀ m < S.length, (M0.getD m (false, 0)).1 = true → if (M0.getD m (false, 0)).2 = 0 ∧ 0 < (M.getD m (false, 0)).2 then c.getD m 0 / (M.getD m (false, 0)).2 = cw.getD m 0 else c.getD m 0 = cw.getD m 0
theorem list_ext_getD {a b : List Int} (hl : a.length = b.length) (h : ∀ m < b.length, a.getD m 0 = b.getD m 0) : a = b := by
  apply List.ext_getElem hl
  intro i h1 h2
  have := h i h2
  simpa [h1, h2] using this
theorem filter_flat {α β : Type} (g : α → List β) (P : β → Bool) : ∀ (l : List α), (l.flatMap g).filter P = l.flatMap fun y => (g y).filter P
  | [] => rfl
  | x :: r => by rw [List.flatMap_cons, List.filter_append, filter_flat g P r, List.flatMap_cons]
theorem getGo_eq {S : List Int} {M : List (Bool × Int)} {N : Nat} {Vs c : List Int} (hS : ∀ x ∈ S, 0 ≤ x ∧ x ≤ 9223372036854775807) (hmet : ∀ m < S.length, (M.getD m (false, 0)).1 = true) (hc : c.length = S.length) :
    ∀ {fs : List (Int × Int × Int)} {xs : List LvA} {M0 : List (Bool × Int)} {b : Int} {cw : List Int} {n p : Nat} (s : Int × Bool), Way S M N fs xs M0 b cw n p → Aims S M M0 cw c →
      getGo M Vs c xs fs p s = ((walkL xs fs cw p).filter fun q => q.1 = c).foldl (fun _ q => (Vs.getD q.2 0, true)) s
  | [], [], M0, b, cw, n, p, s, h, ha => by
    obtain ⟨rfl, -⟩ := h.nil
    have e : cw = c := by
      refine list_ext_getD (by rw [hc]; exact h.hP.1) fun m hm => ?_
      have := ha m (by omega) (hmet m (by omega))
      rw [if_neg (by rintro ⟨h1, h2⟩; omega)] at this
      exact this.symm
    simp [walkL, getGo, e]
  | f :: fs, x :: xs, M0, b, cw, n, p, s, h, ha => by
    simp only [walkL, getGo]
    have hcl := h.hP.1
    obtain ⟨⟨f0, f1⟩, -, f4, f3, M1, hM1, hk⟩ := h.step hS
    rw [filter_flat, foldl_flat]
    refine foldl_same _ _ fun y hy s => ?_
    obtain ⟨-, ⟨y0, y1⟩, he, hw⟩ := hk y hy
    have hcd : (stepC f cw y.1).getD f.2.1.toNat 0 = newF f cw y.1 := by rw [he, getD_set _ _ _ _ _ (by omega), if_pos rfl]
    by_cases e : y.1 = wantF M f c
    · rw [if_pos e]
      refine getGo_eq hS hmet hc s hw fun m hm hme => ?_
      rw [hM1] at hme ⊢
      rw [he, getD_set _ _ _ _ _ (by omega)]
      by_cases em : f.2.1.toNat = m
      · subst em
        simp only [if_true]
        unfold wantF at e
        by_cases k4 : f.1 = 4
        · obtain ⟨g1, g2, g3, g4⟩ := f4 k4
          rw [if_pos k4, g3] at e
          simp only [if_pos k4, g3]
          rw [if_neg (by rintro ⟨h1, _⟩; omega)]
          have := ha _ f1 (by rw [g1])
          rw [g1, g3, if_pos ⟨rfl, g2⟩] at this
          rw [newF, if_pos k4, e, ← this, Int.mul_comm]
          exact (Int.mul_ediv_add_emod _ _).symm
        · rw [if_neg k4] at e
          simp only [if_neg k4]
          rw [newF, if_neg k4, e]
          by_cases hb : 0 < (M.getD f.2.1.toNat (false, 0)).2
          · simp only [hb, if_true, and_self]
          · simp only [hb, if_false, and_false]
      · simp only [if_neg em] at hme ⊢
        exact ha m hm hme
    · rw [if_neg e]
      have hno : ((walkL xs fs (stepC f cw y.1) y.2.toNat).filter fun q => q.1 = c) = [] := by
        rw [List.filter_eq_nil_iff]
        intro q hq hqc
        have hqc : q.1 = c := by simpa using hqc
        apply e
        have hag := hw.agree hS q hq _ f1 (by rw [hM1, if_pos rfl])
        rw [hM1, if_pos rfl, hcd, hqc] at hag
        simp only at hag
        unfold wantF
        by_cases k4 : f.1 = 4
        · obtain ⟨g1, g2, g3, g4⟩ := f4 k4
          rw [if_pos k4, g3]
          rw [if_pos k4, if_neg (by rintro ⟨h1, _⟩; omega), newF, if_pos k4] at hag
          rw [hag, Int.add_comm, Int.add_mul_emod_self_right]
          exact (Int.emod_eq_of_lt y0 (by omega)).symm
        · rw [if_neg k4]
          rw [if_neg k4, newF, if_neg k4] at hag
          by_cases hb : 0 < (M.getD f.2.1.toNat (false, 0)).2
          · rw [if_pos hb]
            rw [if_pos ⟨rfl, hb⟩] at hag
            exact hag.symm
          · rw [if_neg hb]
            rw [if_neg (by rintro ⟨_, h⟩; exact hb h)] at hag
            exact hag.symm
      rw [hno]
      rfl
  | [], x :: xs, _, _, _, _, _, _, h, _ => by have := h.hl; simp at this
  | f :: fs, [], _, _, _, _, _, _, h, _ => by have := h.hl; simp at this
/-- A number, and whether there is one. -/
def getF (S : List Int) (F : List (Int × Int × Int)) (xs : List LvA) (Vs c : List Int) : (Int × Bool) × Int :=
  if tnCheck S F xs Vs ≠ 0 then ((0, false), tnCheck S F xs Vs) else if (atF S c).2 ≠ 0 then ((0, false), 3) else (getGo ((readF S F).getD []) Vs c xs F 0 (0, false), 0)
end Go.Fw
