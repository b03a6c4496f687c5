/- Things in order, plainly: each time the least that may come. -/
import Derived.Test.YtkfooghdpfhiaaaFwY4
namespace Go.Fw
open Go

/-- How many entries of the k-th list have not come. -/
def wt (A : List (List Int)) (out : List Nat) (k : Nat) : Nat := ((A.getD k []).filter fun x => decide (x.toNat ∉ out)).length
def may (A : List (List Int)) (out : List Nat) (k : Nat) : Bool := decide (k ∉ out) && decide (wt A out k = 0)
def nextF (A : List (List Int)) (out : List Nat) : Option Nat := (List.range A.length).find? (may A out)
/-- From what came so far to the end. -/
inductive OrdR (A : List (List Int)) : List Nat → List Nat → Prop
  | done {out : List Nat} : nextF A out = none → OrdR A out out
  | step {out : List Nat} {k : Nat} {l : List Nat} : nextF A out = some k → OrdR A (out ++ [k]) l → OrdR A out l
theorem OrdR.det {A : List (List Int)} {out l l' : List Nat} (h : OrdR A out l) (k : OrdR A out l') : l = l' := by
  induction h with
  | done h0 =>
    cases k with
    | done _ => rfl
    | step h1 _ => rw [h0] at h1; cases h1
  | step h0 _ ih =>
    cases k with
    | done h1 => rw [h0] at h1; cases h1
    | step h1 h2 => rw [h0] at h1; cases h1; exact ih h2
/-- All entries are numbers of things. -/
def inA (A : List (List Int)) : Prop := ∀ l ∈ A, ∀ x ∈ l, 0 ≤ x ∧ x < A.length
/-- How many have not come. -/
def leftN (n : Nat) (out : List Nat) : Nat := ((List.range n).filter fun k => decide (k ∉ out)).length
theorem filter_add {l : List Nat} (hl : l.Nodup) {P Q : Nat → Bool} {k : Nat} (hk : k ∈ l) (hP : P k = false) (hQ : Q k = true) (h : ∀ x ∈ l, x ≠ k → Q x = P x) : (l.filter Q).Perm (l.filter P ++ [k]) := by
  induction l with
  | nil => simp at hk
  | cons y l ih =>
    obtain ⟨hy, hl'⟩ := List.nodup_cons.1 hl
    rcases List.mem_cons.1 hk with rfl | hk'
    · have e : l.filter Q = l.filter P := List.filter_congr fun x hx => h x (by simp [hx]) (by rintro rfl; exact hy hx)
      rw [List.filter_cons_of_pos hQ, List.filter_cons_of_neg (by simp [hP]), e]
      exact List.perm_append_comm (l₁ := [k])
    · have hne : y ≠ k := by rintro rfl; exact hy hk'
      have ih := ih hl' hk' fun x hx => h x (by simp [hx])
      have e := h y (by simp) hne
      cases hp : P y with
      | true => rw [List.filter_cons_of_pos (by rw [e, hp]), List.filter_cons_of_pos hp]; exact ih.cons y
      | false => rw [List.filter_cons_of_neg (by rw [e, hp]; simp), List.filter_cons_of_neg (by simp [hp])]; exact ih
theorem leftN_snoc {n k : Nat} {out : List Nat} (hk : k < n) (ho : k ∉ out) : leftN n out = leftN n (out ++ [k]) + 1 := by
  have := (filter_add (l := List.range n) List.nodup_range (P := fun x => decide (x ∉ out ++ [k])) (Q := fun x => decide (x ∉ out)) (k := k) (by simpa using hk) (by simp) (by simpa using ho) (fun x _ hx => by simp [hx])).length_eq
  simpa [leftN] using this
theorem wt_snoc {A : List (List Int)} {out : List Nat} {i k : Nat} (ho : i ∉ out) (hA : ∀ x ∈ A.getD k [], 0 ≤ x) : wt A out k = wt A (out ++ [i]) k + ((A.getD k []).filter fun x => decide (x = (i : Int))).length := by
  unfold wt
  generalize A.getD k [] = l at hA
  induction l with
  | nil => rfl
  | cons x l ih =>
    have hx := hA x (by simp)
    have ih := ih fun y hy => hA y (by simp [hy])
    by_cases e : x = i
    · subst e
      rw [List.filter_cons_of_pos (by simpa using ho), List.filter_cons_of_neg (by simp), List.filter_cons_of_pos (by simp)]
      simp only [List.length_cons]; omega
    · have e2 : x.toNat ≠ i := by omega
      rw [List.filter_cons_of_neg (p := fun x => decide (x = (i : Int))) (by simpa using e)]
      by_cases e3 : x.toNat ∈ out
      · rw [List.filter_cons_of_neg (by simpa using e3), List.filter_cons_of_neg (by simp [e3])]; exact ih
      · rw [List.filter_cons_of_pos (by simpa using e3), List.filter_cons_of_pos (by simp [e3, e2])]
        simp only [List.length_cons]; omega
/-- Which wait for x: once for each entry. -/
def bhF (A : List (List Int)) (x : Nat) : List Int := A.zipIdx.flatMap fun p => (p.1.filter fun y => decide (y = (x : Int))).map fun _ => (p.2 : Int)
theorem bhF_snoc (A : List (List Int)) (l : List Int) (x : Nat) : bhF (A ++ [l]) x = bhF A x ++ (l.filter fun y => decide (y = (x : Int))).map fun _ => (A.length : Int) := by
  simp [bhF, List.zipIdx_append]
theorem bhF_count (A : List (List Int)) (x k : Nat) : ((bhF A x).filter fun y => decide (y = (k : Int))).length = ((A.getD k []).filter fun y => decide (y = (x : Int))).length := by
  have h : ∀ (m : Nat) (L : List (List Int)), (((L.zipIdx m).flatMap fun p => (p.1.filter fun y => decide (y = (x : Int))).map fun _ => (p.2 : Int)).filter fun y => decide (y = ((m + k : Nat) : Int))).length = ((L.getD k []).filter fun y => decide (y = (x : Int))).length ∧
      (m ≤ m → ∀ j : Nat, j < m → (((L.zipIdx m).flatMap fun p => (p.1.filter fun y => decide (y = (x : Int))).map fun _ => (p.2 : Int)).filter fun y => decide (y = (j : Int))) = []) := by
    induction k with
    | zero =>
      intro m L
      cases L with
      | nil => simp
      | cons l L =>
        have hz : ∀ j : Nat, j ≤ m → (((L.zipIdx (m + 1)).flatMap fun p => (p.1.filter fun y => decide (y = (x : Int))).map fun _ => (p.2 : Int)).filter fun y => decide (y = (j : Int))) = [] := by
          intro j hj
          rw [List.filter_eq_nil_iff]
          intro y hy
          obtain ⟨p, hp, hy⟩ := List.mem_flatMap.1 hy
          obtain ⟨z, _, rfl⟩ := List.mem_map.1 hy
          have := (List.mem_zipIdx hp).1
          simp; omega
        refine ⟨?_, fun _ j hj => ?_⟩
        · have := hz m (Nat.le_refl _)
          simp only [List.zipIdx_cons, List.flatMap_cons, List.filter_append, Nat.add_zero, this, List.append_nil]
          simp [List.filter_map]
        · have := hz j (by omega)
          simp only [List.zipIdx_cons, List.flatMap_cons, List.filter_append, this, List.append_nil]
          rw [List.filter_eq_nil_iff]
          intro y hy
          obtain ⟨z, _, rfl⟩ := List.mem_map.1 hy
          simp; omega
    | succ k ih =>
      intro m L
      cases L with
      | nil => simp
      | cons l L =>
        obtain ⟨i1, i2⟩ := ih (m + 1) L
        have hl : ∀ j : Nat, j ≠ m → ((l.filter fun y => decide (y = (x : Int))).map fun _ => (m : Int)).filter (fun y => decide (y = (j : Int))) = [] := by
          intro j hj
          rw [List.filter_eq_nil_iff]
          intro y hy
          obtain ⟨z, _, rfl⟩ := List.mem_map.1 hy
          simp; omega
        refine ⟨?_, fun _ j hj => ?_⟩
        · simp only [List.zipIdx_cons, List.flatMap_cons, List.filter_append]
          rw [hl (m + (k + 1)) (by omega), show m + (k + 1) = m + 1 + k by omega]
          simpa using i1
        · simp only [List.zipIdx_cons, List.flatMap_cons, List.filter_append]
          rw [hl j (by omega)]
          simpa using i2 (Nat.le_refl _) j (by omega)
  have := (h 0 A).1
  simpa [bhF] using this
theorem may_least {A : List (List Int)} {out : List Nat} {i : Nat} (hi : i < A.length) (hm : may A out i = true) (hl : ∀ k < A.length, may A out k = true → i ≤ k) : nextF A out = some i := by
  rw [nextF, List.find?_range_eq_some]
  exact ⟨hm, by simpa using hi, fun j hj => by
    cases h : may A out j with
    | false => rfl
    | true => have := hl j (by omega) h; omega⟩
end Go.Fw
