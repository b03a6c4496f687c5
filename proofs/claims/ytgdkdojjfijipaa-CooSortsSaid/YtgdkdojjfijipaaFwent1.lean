import Derived.Test.YtgdkdojjfijipaaFwzero1
namespace Go.Fw
open Go Go.RowKit Go.Proofs
set_option maxRecDepth 100000
set_option linter.unusedSimpArgs false
set_option linter.unusedVariables false

/-- Entries: places and numbers. -/
def Ents (es : List AV) (W : List (List Int × Int)) : Prop := es.length = W.length ∧ ∀ i (h : i < es.length) (h' : i < W.length), ∃ a, es[i] = .agg [a, I W[i].2] ∧ ISl a W[i].1
theorem Ents.nil : Ents [] [] := ⟨rfl, fun i h => by simp at h⟩
theorem Ents.snoc {es : List AV} {W : List (List Int × Int)} (h : Ents es W) {a : AV} {c : List Int} {v : Int} (ha : ISl a c) : Ents (es ++ [.agg [a, I v]]) (W ++ [(c, v)]) := by
  obtain ⟨h1, h2⟩ := h
  refine ⟨by simp [h1], fun i h3 h4 => ?_⟩
  by_cases hi : i < es.length
  · obtain ⟨b, hb, hb2⟩ := h2 i hi (by omega)
    rw [List.getElem_append_left hi, List.getElem_append_left (by omega)]
    exact ⟨b, hb, hb2⟩
  · have : i = es.length := by simp at h3; omega
    subst this
    refine ⟨a, by simp [h1], by simp [h1]; exact ha⟩
theorem Ents.one {es : List AV} {W : List (List Int × Int)} (h : Ents es W) : allOneCell 2 es = true := by
  obtain ⟨h1, h2⟩ := h
  rw [allOneCell, List.all_eq_true]
  intro x hx
  obtain ⟨i, hi, rfl⟩ := List.mem_iff_getElem.1 hx
  obtain ⟨a, ha, ⟨nl, c, sz, rfl, _⟩, _⟩ := h2 i hi (by omega)
  rw [ha]
  simp [okEl, cellsOf]
theorem Ents.frz {es : List AV} {W : List (List Int × Int)} (h : Ents es W) (H : List AObj) (k n : Nat) (b : Bool) : es.map (frz H k (n + 2) b) = es := by
  obtain ⟨h1, h2⟩ := h
  apply List.ext_getElem (by simp)
  intro i h3 h4
  simp only [List.getElem_map]
  obtain ⟨a, ha, ⟨nl, c, sz, rfl, _⟩, _⟩ := h2 i h4 (by omega)
  rw [ha]
  simp

/-- Lists of entries. -/
def EnL (a : AV) (W : List (List Int × Int)) : Prop := ∃ nl c sz es, a = .imm nl c sz es ∧ (nl = true → W = []) ∧ (nl = false → sz = 2) ∧ Ents es W
theorem EnL.noRef {a : AV} {W : List (List Int × Int)} (h : EnL a W) : noRef a = true := by
  obtain ⟨nl, c, sz, es, rfl, _⟩ := h
  simp
theorem EnL.nil : EnL (.imm true none 0 []) [] := ⟨true, none, 0, [], rfl, by simp, by simp, Ents.nil⟩
theorem Ents.get {es : List AV} {W : List (List Int × Int)} (h : Ents es W) {i : Nat} (hi : i < W.length) : ∃ a, es[i]? = some (.agg [a, I W[i].2]) ∧ ISl a W[i].1 := by
  obtain ⟨h1, h2⟩ := h
  obtain ⟨a, ha, hb⟩ := h2 i (by omega) hi
  exact ⟨a, by rw [List.getElem?_eq_getElem (by omega), ha], hb⟩
theorem Ents.set {es : List AV} {W : List (List Int × Int)} (h : Ents es W) {a : AV} {c : List Int} {v : Int} (ha : ISl a c) (i : Nat) : Ents (es.set i (.agg [a, I v])) (W.set i (c, v)) := by
  obtain ⟨h1, h2⟩ := h
  refine ⟨by simpa using h1, fun j h3 h4 => ?_⟩
  have h3' : j < es.length := by simpa using h3
  have h4' : j < W.length := by simpa using h4
  simp only [List.getElem_set]
  by_cases e : i = j
  · rw [if_pos e, if_pos e]; exact ⟨a, rfl, ha⟩
  · rw [if_neg e, if_neg e]; exact h2 j h3' h4'
theorem Ents.take {es : List AV} {W : List (List Int × Int)} (h : Ents es W) (k : Nat) : Ents (es.take k) (W.take k) := by
  obtain ⟨h1, h2⟩ := h
  refine ⟨by simp [h1], fun j h3 h4 => ?_⟩
  simp at h3 h4
  simp only [List.getElem_take]
  exact h2 j (by omega) (by omega)
theorem Ents.drop {es : List AV} {W : List (List Int × Int)} (h : Ents es W) (k : Nat) : Ents (es.drop k) (W.drop k) := by
  obtain ⟨h1, h2⟩ := h
  refine ⟨by simp [h1], fun j h3 h4 => ?_⟩
  simp at h3 h4
  simp only [List.getElem_drop]
  exact h2 _ (by omega) (by omega)
theorem Ents.append {es es' : List AV} {W W' : List (List Int × Int)} (h : Ents es W) (h' : Ents es' W') : Ents (es ++ es') (W ++ W') := by
  obtain ⟨h1, h2⟩ := h
  obtain ⟨h3, h4⟩ := h'
  refine ⟨by simp [h1, h3], fun j h5 h6 => ?_⟩
  by_cases hj : j < es.length
  · rw [List.getElem_append_left hj, List.getElem_append_left (by omega)]
    exact h2 j hj (by omega)
  · rw [List.getElem_append_right (by omega), List.getElem_append_right (by omega)]
    simp at h5 h6
    have := h4 (j - es.length) (by omega) (by omega)
    simpa only [h1] using this
/-- Lists of entries with a shape. -/
def Coo (a : AV) (X : List Int × List (List Int × Int)) : Prop := ∃ s e, a = .agg [s, e] ∧ ISl s X.1 ∧ EnL e X.2
end Go.Fw
