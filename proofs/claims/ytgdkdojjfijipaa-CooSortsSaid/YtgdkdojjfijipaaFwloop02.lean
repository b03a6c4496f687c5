/- Objects of which rows may have turned: numbers in rows, entries' numbers. -/
import Derived.Test.YtgdkdojjfijipaaFwcoo1
namespace Go.Fw
open Go Go.RowKit Go.Proofs
set_option maxRecDepth 100000
set_option linter.unusedSimpArgs false
set_option linter.unusedVariables false
/-- The same object, but for numbers. -/
def Sim (o o' : AObj) : Prop := o' = o ∨ (∃ c c' : List Int, o = intOb c ∧ o' = intOb c' ∧ c'.length = c.length) ∨
  ∃ es es' : List AV, o = ensO es ∧ o' = ensO es' ∧ es'.length = es.length ∧ ∀ (i : Nat) (a : AV) (v : Int), es[i]? = some (.agg [a, I v]) → ∃ v', es'[i]? = some (.agg [a, I v'])
theorem Sim.trans {o o' o2 : AObj} (h : Sim o o') (k : Sim o' o2) : Sim o o2 := by
  rcases h with rfl | ⟨c, c', rfl, rfl, hl⟩ | ⟨es, es', rfl, rfl, hl, hg⟩
  · exact k
  · rcases k with rfl | ⟨d, d', h1, rfl, hl2⟩ | ⟨es, es', h1, rfl, hl2, _⟩
    · exact .inr (.inl ⟨c, c', rfl, rfl, hl⟩)
    · have : (c'.map I).length = (d.map I).length := by
        have := congrArg AObj.es h1
        rw [show (intOb c').es = c'.map I from rfl] at this
        rw [this]
      simp at this
      exact .inr (.inl ⟨c, d', rfl, rfl, by omega⟩)
    · have := congrArg AObj.ty h1
      simp at this
  · rcases k with rfl | ⟨d, d', h1, rfl, hl2⟩ | ⟨fs, fs', h1, rfl, hl2, hg2⟩
    · exact .inr (.inr ⟨es, es', rfl, rfl, hl, hg⟩)
    · have := congrArg AObj.ty h1
      simp at this
    · have e : es' = fs := congrArg AObj.es h1
      subst e
      refine .inr (.inr ⟨es, fs', rfl, rfl, by omega, fun i a v h => ?_⟩)
      obtain ⟨v1, h1⟩ := hg i a v h
      exact hg2 i a v1 h1
def Inv (K H : List AObj) : Prop := ∀ (k : Nat) (o : AObj), K[k]? = some o → ∃ o', H[k]? = some o' ∧ Sim o o'
section
variable {K H : List AObj}
theorem Inv.refl (K : List AObj) : Inv K K := fun k o h => ⟨o, h, .inl rfl⟩
theorem Inv.trans {L : List AObj} (h : Inv K H) (k : Inv H L) : Inv K L := fun i o hi =>
  let ⟨o', h1, h2⟩ := h i o hi
  let ⟨o2, h3, h4⟩ := k i o' h1
  ⟨o2, h3, h2.trans h4⟩
theorem Inv.app (h : Inv K H) (G : List AObj) : Inv K (H ++ G) := fun i o hi =>
  let ⟨o', h1, h2⟩ := h i o hi
  ⟨o', by rw [List.getElem?_append_left (List.getElem?_eq_some_iff.1 h1).1]; exact h1, h2⟩
theorem Inv.set (h : Inv K H) {k : Nat} {o o' : AObj} (hk : H[k]? = some o) (hs : Sim o o') : Inv K (H.set k o') := fun i x hi => by
  obtain ⟨y, h1, h2⟩ := h i x hi
  by_cases e : k = i
  · subst e
    rw [hk] at h1
    cases h1
    exact ⟨o', by rw [List.getElem?_set_self (List.getElem?_eq_some_iff.1 hk).1], h2.trans hs⟩
  · exact ⟨y, by rw [List.getElem?_set_ne e]; exact h1, h2⟩
theorem Inv.box (h : Inv K H) {k : Nat} {es : List AV} (hk : K[k]? = some ⟨25, 2, es, true, none⟩) : H[k]? = some ⟨25, 2, es, true, none⟩ := by
  obtain ⟨o', h1, h2⟩ := h k _ hk
  rcases h2 with rfl | ⟨c, c', e, _⟩ | ⟨c, c', e, _⟩
  · exact h1
  · have := congrArg AObj.ty e
    simp at this
  · have := congrArg AObj.ty e
    simp at this
theorem Inv.int (h : Inv K H) {k : Nat} {c : List Int} (hk : K[k]? = some (intOb c)) : ∃ c', H[k]? = some (intOb c') ∧ c'.length = c.length := by
  obtain ⟨o', h1, h2⟩ := h k _ hk
  rcases h2 with rfl | ⟨d, d', e, rfl, hl⟩ | ⟨d, d', e, _⟩
  · exact ⟨c, h1, rfl⟩
  · have : c.map I = d.map I := congrArg AObj.es e
    have := congrArg List.length this
    simp at this
    exact ⟨d', h1, by omega⟩
  · have := congrArg AObj.ty e
    simp at this
theorem Inv.ens (h : Inv K H) {k : Nat} {es : List AV} (hk : K[k]? = some (ensO es)) : ∃ es', H[k]? = some (ensO es') ∧ es'.length = es.length ∧ ∀ (i : Nat) (a : AV) (v : Int), es[i]? = some (.agg [a, I v]) → ∃ v', es'[i]? = some (.agg [a, I v']) := by
  obtain ⟨o', h1, h2⟩ := h k _ hk
  rcases h2 with rfl | ⟨d, d', e, rfl, hl⟩ | ⟨d, d', e, rfl, hl, hg⟩
  · exact ⟨es, h1, rfl, fun i a v h => ⟨v, h⟩⟩
  · have := congrArg AObj.ty e
    simp at this
  · have : es = d := congrArg AObj.es e
    subst this
    exact ⟨d', h1, hl, hg⟩
theorem Sim.int (c : List Int) (k : Nat) (w : Int) : Sim (intOb c) ⟨3, 1, (c.map I).set k (I w), true, none⟩ :=
  .inr (.inl ⟨c, c.set k w, rfl, by simp [List.map_set], by simp⟩)
theorem Sim.ens {es : List AV} {j : Nat} {a : AV} {v : Int} (h : es[j]? = some (.agg [a, I v])) (w : Int) : Sim (ensO es) ⟨38, 2, es.set j (.agg [a, I w]), true, none⟩ := by
  refine .inr (.inr ⟨es, _, rfl, rfl, by simp, fun i b u hb => ?_⟩)
  by_cases e : j = i
  · subst e
    rw [h] at hb
    simp at hb
    obtain ⟨rfl, rfl⟩ := hb
    exact ⟨w, by rw [List.getElem?_set_self (List.getElem?_eq_some_iff.1 h).1]⟩
  · exact ⟨u, by rw [List.getElem?_set_ne e]; exact hb⟩
end
end Go.Fw
