import Derived.Test.YthipbeffhfdamaaFwstore13
import Derived.Test.YthipbeffhfdamaaFwown0
namespace Go.Fw
open Go Go.RowKit Go.Proofs
set_option maxRecDepth 100000
set_option linter.unusedSimpArgs false
set_option linter.unusedVariables false
def rowO (b : Nat) (K : List AObj) (a : AV) (ty sz : Nat) (es : List AV) : Prop :=
  (es = [] ∧ a = .imm true none 0 []) ∨ ∃ k, b ≤ k ∧ a = .slc k es.length 0 es.length none ∧ K[k]? = some ⟨ty, sz, es, true, none⟩
section
variable {b : Nat} {K : List AObj} {a : AV} {ty sz : Nat} {es : List AV}
theorem rowO.one (h : rowO b K a ty sz es) : oneC a = true := by
  rcases h with ⟨_, rfl⟩ | ⟨k, _, rfl, _⟩ <;> rfl
theorem rowO.isA (h : rowO b K a ty sz es) : isA a = false := by
  rcases h with ⟨_, rfl⟩ | ⟨k, _, rfl, _⟩ <;> rfl
theorem rowO.app (h : rowO b K a ty sz es) (G : List AObj) : rowO b (K ++ G) a ty sz es := by
  rcases h with h | ⟨k, h1, h2, h3⟩
  · exact .inl h
  · exact .inr ⟨k, h1, h2, by rw [List.getElem?_append_left (List.getElem?_eq_some_iff.1 h3).1]; exact h3⟩
theorem rowO.set (h : rowO b K a ty sz es) {i : Nat} {o0 : AObj} (hi : K[i]? = some o0) (hne : o0.ty ≠ ty) (o : AObj) : rowO b (K.set i o) a ty sz es := by
  rcases h with h | ⟨k, h1, h2, h3⟩
  · exact .inl h
  · refine .inr ⟨k, h1, h2, ?_⟩
    have : i ≠ k := by
      rintro rfl
      rw [hi] at h3
      simp at h3
      rw [h3] at hne
      exact hne rfl
    rw [gs_ne this]; exact h3
theorem rowO.setlt (h : rowO b K a ty sz es) {i : Nat} (hi : i < b) (o : AObj) : rowO b (K.set i o) a ty sz es := by
  rcases h with h | ⟨k, h1, h2, h3⟩
  · exact .inl h
  · exact .inr ⟨k, h1, h2, by rw [gs_ne (by omega)]; exact h3⟩
theorem rowO.mono (h : rowO b K a ty sz es) {b' : Nat} (hb : b' ≤ b) : rowO b' K a ty sz es := by
  rcases h with h | ⟨k, h1, h2, h3⟩
  · exact .inl h
  · exact .inr ⟨k, by omega, h2, h3⟩
theorem rowO.frz (h : rowO b K a ty sz es) (G : List AObj) (n : Nat) (he : es.map (frz (K ++ G) K.length n true) = es) : rowO b (frzH (K ++ G) K.length n) a ty sz es := by
  rcases h with h | ⟨k, h1, h2, h3⟩
  · exact .inl h
  · have hk := (List.getElem?_eq_some_iff.1 h3).1
    refine .inr ⟨k, h1, h2, ?_⟩
    rw [frzH_of n hk (by rw [List.getElem?_append_left hk]; exact h3)]
    simp [he]
theorem rowO.frzA (h : rowO b K a ty sz es) {m : Nat} (hm : K.length ≤ m) (K' : List AObj) (n : Nat) : Go.Fw.frz K' m (n + 1) true a = a := by
  rcases h with ⟨_, rfl⟩ | ⟨k, h1, rfl, h3⟩
  · simp
  · have hk := (List.getElem?_eq_some_iff.1 h3).1
    simp [show k < m by omega]
theorem rowO.to {K' : List AObj} (h : rowO b K a ty sz es) (f : ∀ k, b ≤ k → K[k]? = some ⟨ty, sz, es, true, none⟩ → K'[k]? = some ⟨ty, sz, es, true, none⟩) : rowO b K' a ty sz es := by
  rcases h with h | ⟨k, h1, h2, h3⟩
  · exact .inl h
  · exact .inr ⟨k, h1, h2, f k h1 h3⟩
theorem rowO.frzI {xs : List Int} (h : rowO b K a ty 1 (xs.map I)) (hx : xs.length ≤ 9223372036854775807 ∧ ∀ x ∈ xs, -9223372036854775808 ≤ x ∧ x ≤ 9223372036854775807) {m : Nat} (hm : m ≤ b) (n : Nat) : ISl (Go.Fw.frz K m (n + 1) true a) xs := by
  rcases h with ⟨h0, rfl⟩ | ⟨k, h1, rfl, h3⟩
  · have : xs = [] := by simpa using h0
    subst this
    simp
    exact ISl.nil
  · simp [show ¬ k < m by omega, h3]
    exact ISl.of _ hx.1 hx.2
theorem rowO.read (h : rowO b K a ty sz es) (n : Nat) : (es = [] ∧ Go.Fw.frz K 0 (n + 1) false a = .imm true none 0 []) ∨ Go.Fw.frz K 0 (n + 1) false a = .imm false none sz (es.map (Go.Fw.frz K 0 n false)) := by
  rcases h with ⟨h, rfl⟩ | ⟨k, h1, rfl, h3⟩
  · exact .inl ⟨h, by simp⟩
  · exact .inr (by simp [h3])
theorem rowO.ints {xs : List Int} (h : rowO b K a ty 1 (xs.map I)) (hx : xs.length ≤ 9223372036854775807 ∧ ∀ x ∈ xs, -9223372036854775808 ≤ x ∧ x ≤ 9223372036854775807) (n : Nat) : ISl (Go.Fw.frz K 0 (n + 1) false a) xs := by
  rcases h.read n with ⟨h0, e⟩ | e
  · have : xs = [] := by simpa using h0
    subst this
    rw [e]; exact ISl.nil
  · rw [e, frz_ints]
    exact ISl.of _ hx.1 hx.2
end
theorem rowO.make {K : List AObj} {ty sz : Nat} {es : List AV} {b : Nat} (hb : b ≤ K.length) : ∃ a G, G.length ≤ 1 ∧ rowO b (K ++ G) a ty sz es ∧ ((es = [] ∧ a = .imm true none 0 [] ∧ G = []) ∨ (es ≠ [] ∧ a = .slc K.length es.length 0 es.length none ∧ G = [⟨ty, sz, es, true, none⟩])) := by
  by_cases h : es = []
  · exact ⟨_, [], by simp, .inl ⟨h, rfl⟩, .inl ⟨h, rfl, rfl⟩⟩
  · exact ⟨_, [⟨ty, sz, es, true, none⟩], by simp, .inr ⟨K.length, hb, rfl, by simp⟩, .inr ⟨h, rfl, rfl⟩⟩
end Go.Fw
