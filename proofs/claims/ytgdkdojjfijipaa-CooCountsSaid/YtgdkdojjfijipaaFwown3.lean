import Derived.Test.YtgdkdojjfijipaaFwown2
namespace Go.Fw
open Go
set_option maxRecDepth 100000
set_option linter.unusedSimpArgs false
set_option linter.unusedVariables false
/-- What is let go of: its elements are no more known. -/
def deadO (o : AObj) : AObj := ⟨o.ty, o.sz, o.es.map fun _ => .und, false, o.vir⟩
def deadH (keep : Nat → Bool) (H : List AObj) : List AObj := H.mapIdx fun i o => if keep i then o else deadO o
theorem deadH_len (keep : Nat → Bool) (H : List AObj) : (deadH keep H).length = H.length := by simp [deadH]
theorem deadH_keep {keep : Nat → Bool} {H : List AObj} {i : Nat} (h : keep i = true) : (deadH keep H)[i]? = H[i]? := by
  simp [deadH, List.getElem?_mapIdx, h]
theorem deadH_get {keep : Nat → Bool} {H : List AObj} {i : Nat} {x : AObj} (h : (deadH keep H)[i]? = some x) : ∃ o, H[i]? = some o ∧ ((keep i = true ∧ x = o) ∨ (keep i = false ∧ x = deadO o)) := by
  simp only [deadH, List.getElem?_mapIdx, Option.map_eq_some_iff] at h
  obtain ⟨o, h1, h2⟩ := h
  refine ⟨o, h1, ?_⟩
  cases hk : keep i with
  | true => rw [hk] at h2; exact .inl ⟨rfl, h2.symm⟩
  | false => rw [hk] at h2; exact .inr ⟨rfl, h2.symm⟩
theorem Weak.dead {nb : Nat} {fr : List AV} {H : List AObj} (keep : Nat → Bool) : Weak nb fr H fr (deadH keep H) := by
  intro B w0 mb Hb wb m w tmps hn tr r f
  have get : ∀ i x, (deadH keep H)[i]? = some x → ∃ o, H[i]? = some o ∧ ((keep i = true ∧ x = o) ∨ (keep i = false ∧ x = deadO o)) := fun i x h => deadH_get h
  have real : ∀ {i}, Real (deadH keep H) i → Real H i := by
    rintro i ⟨x, hx, hl, hv⟩
    obtain ⟨o, ho, ⟨_, rfl⟩ | ⟨_, rfl⟩⟩ := get i x hx
    · exact ⟨_, ho, hl, hv⟩
    · simp [deadO] at hl
  have hwr : ∀ b, Wr m (deadH keep H) b → Wr m H b := by
    rintro b (h | ⟨i, hr, e⟩)
    · exact .inl h
    · exact .inr ⟨i, real hr, e⟩
  have t1 : Tr m H w m (deadH keep H) w := by
    refine ⟨Nat.le_refl _, by rw [deadH_len]; exact Nat.le_refl _, fun _ _ _ => rfl, fun b _ hn hw => hn (hwr b hw), fun i o o' ho ho' => ?_, rfl⟩
    obtain ⟨o2, h2, ⟨_, rfl⟩ | ⟨_, rfl⟩⟩ := get i o' ho'
    · rw [ho] at h2; cases h2
      exact ⟨Nat.le_refl _, fun hl _ => ⟨hl, rfl, rfl, rfl⟩⟩
    · rw [ho] at h2; cases h2
      exact ⟨by simp [deadO], fun hl _ => by simp [deadO] at hl⟩
  refine ⟨m, tr.trans t1, ⟨r.below, r.hB, fun i x hx => ?_, fun i x hx hvx => ?_, fun i h => r.base i (real h), fun i x hx hl hvx => ?_, fun i i' h h' e => r.inj i i' (real h) (real h') e, r.xlt⟩, f.mono t1⟩
  · obtain ⟨o, ho, ⟨_, rfl⟩ | ⟨_, rfl⟩⟩ := get i x hx
    · exact r.szpos _ _ ho
    · exact r.szpos i o ho
  · obtain ⟨o, ho, ⟨_, rfl⟩ | ⟨_, rfl⟩⟩ := get i x hx
    · exact r.virt i _ ho hvx
    · have := r.virt i o ho hvx
      simp [deadO, this]
  · obtain ⟨o, ho, ⟨_, rfl⟩ | ⟨_, rfl⟩⟩ := get i x hx
    · obtain ⟨arr, h1, h2, h3⟩ := r.obj i _ ho hl hvx
      exact ⟨arr, h1, h2, fun k hk => ⟨(h3 k hk).1, fun j hj => let ⟨v, a, b⟩ := (h3 k hk).2 j hj; ⟨v, a, b.mono t1⟩⟩⟩
    · simp [deadO] at hl

/-- An element of which no more is known than how many cells it has. -/
def blankA : AV → AV
  | .agg cs => .agg (cs.map fun _ => .und)
  | _ => .und
theorem blank_cells (e : AV) : (cellsOf (blankA e)).length = (cellsOf e).length := by cases e <;> simp [blankA, cellsOf]
theorem blank_und (e : AV) (j : Nat) (h : j < (cellsOf (blankA e)).length) : (cellsOf (blankA e))[j] = .und := by
  cases e <;> simp [blankA, cellsOf]
def blankO (o : AObj) : AObj := { o with es := o.es.map blankA }
theorem Weak.blank {nb : Nat} {fr : List AV} {H : List AObj} {j : Nat} {o : AObj} (hj : H[j]? = some o) : Weak nb fr H fr (H.set j (blankO o)) := by
  intro B w0 mb Hb wb m w tmps hn tr r f
  have hjl := (List.getElem?_eq_some_iff.1 hj).1
  have get : ∀ i x, (H.set j (blankO o))[i]? = some x → (i = j ∧ x = blankO o) ∨ (i ≠ j ∧ H[i]? = some x) := by
    intro i x h
    by_cases e : i = j
    · subst e; rw [List.getElem?_set_self hjl] at h; exact .inl ⟨rfl, (Option.some.inj h).symm⟩
    · rw [List.getElem?_set_ne (Ne.symm e)] at h; exact .inr ⟨e, h⟩
  have real : ∀ {i}, Real (H.set j (blankO o)) i → Real H i := by
    rintro i ⟨x, hx, hl, hv⟩
    rcases get i x hx with ⟨rfl, rfl⟩ | ⟨_, h⟩
    · exact ⟨o, hj, hl, hv⟩
    · exact ⟨_, h, hl, hv⟩
  have hwr : ∀ b, Wr m (H.set j (blankO o)) b → Wr m H b := by
    rintro b (h | ⟨i, hr, e⟩)
    · exact .inl h
    · exact .inr ⟨i, real hr, e⟩
  have t1 : Tr m H w m (H.set j (blankO o)) w := by
    refine ⟨Nat.le_refl _, by simp, fun _ _ _ => rfl, fun b _ hn hw => hn (hwr b hw), fun i x x' hx hx' => ?_, rfl⟩
    rcases get i x' hx' with ⟨rfl, rfl⟩ | ⟨_, h⟩
    · rw [hj] at hx; cases hx
      exact ⟨by simp [blankO], fun hl _ => ⟨hl, rfl, rfl, rfl⟩⟩
    · rw [h] at hx; cases hx
      exact ⟨Nat.le_refl _, fun hl _ => ⟨hl, rfl, rfl, rfl⟩⟩
  refine ⟨m, tr.trans t1, ⟨r.below, r.hB, fun i x hx => ?_, fun i x hx hvx => ?_, fun i h => r.base i (real h), fun i x hx hl hvx => ?_, fun i i' h h' e => r.inj i i' (real h) (real h') e, r.xlt⟩, f.mono t1⟩
  · rcases get i x hx with ⟨rfl, rfl⟩ | ⟨_, h⟩
    · exact r.szpos _ o hj
    · exact r.szpos i x h
  · rcases get i x hx with ⟨rfl, rfl⟩ | ⟨_, h⟩
    · have := r.virt i o hj hvx
      simp [blankO, this]
    · exact r.virt i x h hvx
  · rcases get i x hx with ⟨rfl, rfl⟩ | ⟨_, h⟩
    · obtain ⟨arr, h1, h2, h3⟩ := r.obj i o hj hl hvx
      refine ⟨arr, h1, by simpa [blankO] using h2, fun k hk => ?_⟩
      have hk' : k < o.es.length := by simpa [blankO] using hk
      have e : (blankO o).es[k] = blankA o.es[k] := by simp [blankO]
      have hlen : (cellsOf (blankO o).es[k]).length = (cellsOf o.es[k]).length := by rw [e, blank_cells]
      refine ⟨by rw [hlen]; exact (h3 k hk').1, fun q hq => ?_⟩
      obtain ⟨v, a, b⟩ := (h3 k hk').2 q (by rw [← hlen]; exact hq)
      refine ⟨v, a, ?_⟩
      have : (cellsOf (blankO o).es[k])[q] = .und := by
        have := blank_und o.es[k] q (by rw [← e]; exact hq)
        simpa only [e] using this
      rw [this]
      exact .und v
    · obtain ⟨arr, h1, h2, h3⟩ := r.obj i x h hl hvx
      exact ⟨arr, h1, h2, fun k hk => ⟨(h3 k hk).1, fun j hj => let ⟨v, a, b⟩ := (h3 k hk).2 j hj; ⟨v, a, b.mono t1⟩⟩⟩
end Go.Fw
