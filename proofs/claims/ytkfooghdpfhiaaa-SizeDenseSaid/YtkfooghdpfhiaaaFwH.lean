/- Literals, structs, slices of slices, make. -/
import Derived.Test.YtkfooghdpfhiaaaFwG
namespace Go.Fw
open Go Go.RowKit

theorem noRefs_get : ∀ {xs : List AV} (_ : noRefs xs = true) (j : Nat) (h : j < xs.length), noRef xs[j] = true
  | [], _, j, h => by simp at h
  | x :: xs, hn, j, h => by
    simp only [noRefs, Bool.and_eq_true] at hn
    cases j with
    | zero => exact hn.1
    | succ j => exact noRefs_get hn.2 j (by simpa using h)

section
variable {P : Program} {B : Nat} {w0 w : World} {m : BM} {H : List AObj} {fr : List AV} {a : Act}

theorem RV.toRI {a : AV} {v : Value} (h : RV w m H a v) : noRef a = true → RI w (Wr m H) a v := by
  induction h with
  | ri h => exact fun _ => h
  | slc o ho hL hv => intro h; simp [noRef] at h
  | ptr o ho hL hv => intro h; simp [noRef] at h
  | agg hn _ ih => intro h; simp only [noRef] at h; exact .agg hn fun j a b => ih j a b (noRefs_get h j a)
  | tup hn _ ih => intro h; simp only [noRef] at h; exact .tup hn fun j a b => ih j a b (noRefs_get h j a)
  | fn hn hn' _ _ ih ih' =>
    intro h; simp only [noRef, Bool.and_eq_true] at h
    exact .fn hn hn' (fun j a b => ih j a b (noRefs_get h.1 j a)) (fun j a b => ih' j a b (noRefs_get h.2 j a))
  | ifc _ ih => intro h; simp only [noRef] at h; exact .ifc (ih h)

/-! ### Filling cells -/
theorem foldl_set (off : Nat) : ∀ (l : List Value) (s : Nat) (cs : Array Value), off + s + l.length ≤ cs.size →
    ((l.zipIdx s).foldl (fun cs (p : Value × Nat) => cs.setIfInBounds (off + p.2) p.1) cs).size = cs.size ∧
    ∀ q : Nat, ((l.zipIdx s).foldl (fun cs (p : Value × Nat) => cs.setIfInBounds (off + p.2) p.1) cs)[q]? = if off + s ≤ q ∧ q < off + s + l.length then l[q - (off + s)]? else cs[q]?
  | [], s, cs, _ => by
    refine ⟨rfl, fun q => ?_⟩
    have hn : ¬ (off + s ≤ q ∧ q < off + s + ([] : List Value).length) := by simp
    rw [if_neg hn]; rfl
  | v :: l, s, cs, h => by
    have hl : (v :: l).length = l.length + 1 := rfl
    obtain ⟨h1, h2⟩ := foldl_set off l (s + 1) (cs.setIfInBounds (off + s) v) (by simp; omega)
    simp only [List.zipIdx_cons, List.foldl_cons]
    refine ⟨by rw [h1]; simp, fun q => ?_⟩
    rw [h2, hl]
    by_cases c1 : off + (s + 1) ≤ q ∧ q < off + (s + 1) + l.length
    · rw [if_pos c1, if_pos (by omega), show q - (off + s) = (q - (off + (s + 1))) + 1 by omega]; simp
    · rw [if_neg c1]
      by_cases c2 : q = off + s
      · subst c2
        rw [if_pos (by omega), Array.getElem?_setIfInBounds_self]
        rw [if_pos (by omega)]; simp
      · rw [if_neg (by omega), Array.getElem?_setIfInBounds_ne (by omega)]

theorem fill_step (v : Value) (off : Nat) (cs : Array Value) (h : off + v.cells.size ≤ cs.size) :
    (v.cells.zipIdx.foldl (fun cs (p : Value × Nat) => cs.setIfInBounds (off + p.2) p.1) cs).size = cs.size ∧
    ∀ q : Nat, (v.cells.zipIdx.foldl (fun cs (p : Value × Nat) => cs.setIfInBounds (off + p.2) p.1) cs)[q]? = if off ≤ q ∧ q < off + v.cells.size then v.cells[q - off]? else cs[q]? := by
  have := foldl_set off v.cells.toList 0 cs (by simpa using h)
  rw [← Array.foldl_toList, Array.toList_zipIdx]
  simpa using this

/-- A struct's cells, filled part by part. -/
theorem fill_sound {place : Nat → Option (Nat × Nat)} : ∀ (parts : List (Nat × Value)) (aparts : List (Nat × Nat × AV)) (cells : Array Value) (ac acs : List AV),
    parts.length = aparts.length → (∀ j (h : j < parts.length) (h' : j < aparts.length), place parts[j].1 = some (aparts[j].1, aparts[j].2.1) ∧ RV w m H aparts[j].2.2 parts[j].2) →
    ac.length = cells.size → (∀ j (h : j < ac.length) (h' : j < cells.size), RV w m H ac[j] cells[j]) → fillParts ac aparts = some acs →
    ∃ cs, Instr.fill place cells parts = some cs ∧ acs.length = cs.size ∧ ∀ j (h : j < acs.length) (h' : j < cs.size), RV w m H acs[j] cs[j]
  | [], [], cells, ac, acs, _, _, hn, hrv, h => by
    simp only [fillParts, Option.some.injEq] at h
    subst h
    exact ⟨cells, rfl, hn, hrv⟩
  | [], _ :: _, _, _, _, hl, _, _, _, _ => by simp at hl
  | _ :: _, [], _, _, _, hl, _, _, _, _ => by simp at hl
  | (i, v) :: parts, (off, sz, x) :: aparts, cells, ac, acs, hl, hp, hn, hrv, h => by
    simp only [fillParts] at h
    split at h
    case isFalse => cases h
    rename_i hc
    obtain ⟨hok, hfit⟩ := hc
    have hp0 := hp 0 (by simp) (by simp)
    simp only [List.getElem_cons_zero] at hp0
    obtain ⟨hpl, hx⟩ := hp0
    obtain ⟨x1, x2, x3, _⟩ := okEl_cells hx hok
    obtain ⟨f1, f2⟩ := fill_step v off cells (by omega)
    have hcond : ¬ ((decide (v.cells.size ≠ sz) || decide (off + v.cells.size > cells.size)) = true) := by simp; omega
    have ih := fill_sound (place := place) parts aparts _ (setAll ac off (cellsOf x)) acs (by simpa using hl) (fun j a b => hp (j + 1) (Nat.succ_lt_succ a) (Nat.succ_lt_succ b))
      (by rw [setAll_length, f1]; exact hn) (fun j a b => ?_) h
    · obtain ⟨cs, g1, g2⟩ := ih
      refine ⟨cs, ?_, g2⟩
      simp only [Instr.fill, hpl]
      rw [if_neg hcond]; exact g1
    · have hj : j < ac.length := by rw [setAll_length] at a; exact a
      have hj' : j < cells.size := by omega
      have e1 := setAll_get (cellsOf x) ac off (by omega) j
      have e2 := f2 j
      rw [List.getElem?_eq_getElem a] at e1
      rw [Array.getElem?_eq_getElem b] at e2
      by_cases c : off ≤ j ∧ j < off + sz
      · rw [if_pos (by omega)] at e1 e2
        have q1 : j - off < (cellsOf x).length := by omega
        have q2 : j - off < v.cells.size := by omega
        rw [List.getElem?_eq_getElem q1] at e1
        rw [Array.getElem?_eq_getElem q2] at e2
        rw [Option.some.inj e1, Option.some.inj e2]; exact x3 _ q1 q2
      · rw [if_neg (by omega)] at e1 e2
        rw [List.getElem?_eq_getElem hj] at e1
        rw [Array.getElem?_eq_getElem hj'] at e2
        rw [Option.some.inj e1, Option.some.inj e2]; exact hrv j hj hj'

/-- A row literal's cells. -/
theorem fill_row (sz : Nat) : ∀ (vs : List Value) (s : Nat) (cells : Array Value), (∀ v ∈ vs, v.cells.size = sz) → (s + vs.length) * sz ≤ cells.size →
    ∃ cs, Instr.fill (fun i => some (i * sz, sz)) cells ((List.range' s vs.length).zip vs) = some cs ∧ cs.size = cells.size ∧ (∀ q, q < s * sz → cs[q]? = cells[q]?) ∧
      ∀ k (hk : k < vs.length) j, j < sz → cs[(s + k) * sz + j]? = vs[k].cells[j]?
  | [], s, cells, _, _ => ⟨cells, by simp [Instr.fill], rfl, fun _ _ => rfl, fun k hk => by simp at hk⟩
  | v :: vs, s, cells, hv, hfit => by
    have hv0 := hv v (by simp)
    have hl : (v :: vs).length = vs.length + 1 := rfl
    have hle : (s + 1) * sz ≤ (s + (v :: vs).length) * sz := Nat.mul_le_mul_right _ (by omega)
    have hs1 : (s + 1) * sz = s * sz + sz := by rw [Nat.add_mul]; omega
    obtain ⟨f1, f2⟩ := fill_step v (s * sz) cells (by omega)
    obtain ⟨cs, g1, g2, g3, g4⟩ := fill_row sz vs (s + 1) _ (fun u hu => hv u (by simp [hu])) (by rw [f1, show s + 1 + vs.length = s + (v :: vs).length by rw [hl]; omega]; exact hfit)
    have hcond : ¬ ((decide (v.cells.size ≠ sz) || decide (s * sz + v.cells.size > cells.size)) = true) := by simp; omega
    refine ⟨cs, ?_, by rw [g2, f1], fun q hq => ?_, fun k hk j hj => ?_⟩
    · simp only [hl, List.range'_succ, List.zip_cons_cons, Instr.fill]
      rw [if_neg hcond]; exact g1
    · rw [g3 q (by omega), f2, if_neg (by omega)]
    · cases k with
      | zero =>
        rw [g3 _ (by simp; omega), f2, if_pos (by simp; omega)]
        simp
      | succ k =>
        have := g4 k (by simpa using hk) j hj
        rw [show s + (k + 1) = s + 1 + k by omega]; simpa using this
end
end Go.Fw
