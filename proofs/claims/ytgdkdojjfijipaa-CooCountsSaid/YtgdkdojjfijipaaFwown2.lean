import Derived.Test.YtgdkdojjfijipaaFwX
namespace Go.Fw
open Go
set_option maxRecDepth 100000
set_option linter.unusedSimpArgs false
set_option linter.unusedVariables false
section
variable {B : Nat} {w0 w : World} {m : BM} {H : List AObj}

theorem rv_nil_inv {c : Option Nat} {sz' : Nat} {v : Value} (h : RV w m H (.imm true c sz' []) v) : v = .slice none 0 0 := by
  cases h with | ri h => cases h with | nil => rfl

/-- A nil slice in an object may be taken for one of the call's own, that is not there yet. -/
theorem Weak.ownIn {nb : Nat} {fr : List AV} (j q t ty sz : Nat) (hsz : 0 < sz) {o : AObj} {cs : List AV} {c : Option Nat} {sz' : Nat} (hj : H[j]? = some o) (hv : o.vir = none) (hq : o.es[q]? = some (.agg cs)) (ht : cs[t]? = some (.imm true c sz' [])) :
    Weak nb fr H fr (H.set j { o with es := o.es.set q (.agg (cs.set t (.slc H.length 0 0 0 none))) } ++ [{ ty := ty, sz := sz, es := [], vir := some true }]) := by
  intro B w0 mb Hb wb m w tmps hn tr r f
  obtain ⟨o2, ho2⟩ : ∃ o2 : AObj, o2 = { o with es := o.es.set q (.agg (cs.set t (.slc H.length 0 0 0 none))) } := ⟨_, rfl⟩
  obtain ⟨V, hV⟩ : ∃ V : AObj, V = { ty := ty, sz := sz, es := [], vir := some true } := ⟨_, rfl⟩
  rw [← ho2, ← hV]
  have hjl := (List.getElem?_eq_some_iff.1 hj).1
  have hll : (H.set j o2).length = H.length := by simp
  have hlast : (H.set j o2 ++ [V])[H.length]? = some V := by rw [List.getElem?_append_right (by simp)]; simp
  have hgetj : (H.set j o2 ++ [V])[j]? = some o2 := by rw [List.getElem?_append_left (by omega), List.getElem?_set_self hjl]
  have hgetn : ∀ {i}, i ≠ j → i < H.length → (H.set j o2 ++ [V])[i]? = H[i]? := by
    intro i h1 h2
    rw [List.getElem?_append_left (by omega), List.getElem?_set_ne (Ne.symm h1)]
  have hget : ∀ i x, (H.set j o2 ++ [V])[i]? = some x → (i = j ∧ x = o2) ∨ (i ≠ j ∧ H[i]? = some x) ∨ (i = H.length ∧ x = V) := by
    intro i x h
    by_cases hi : i < H.length
    · by_cases e : i = j
      · subst e; rw [hgetj] at h; exact .inl ⟨rfl, (Option.some.inj h).symm⟩
      · rw [hgetn e hi] at h; exact .inr (.inl ⟨e, h⟩)
    · have hlt := (List.getElem?_eq_some_iff.1 h).1
      simp at hlt
      have : i = H.length := by omega
      subst this
      rw [hlast] at h; exact .inr (.inr ⟨rfl, (Option.some.inj h).symm⟩)
  have hlv : o2.live = o.live ∧ o2.vir = o.vir ∧ o2.sz = o.sz ∧ o2.ty = o.ty ∧ o2.es.length = o.es.length := by rw [ho2]; simp
  obtain ⟨e1, e2, e3, e4, e5⟩ := hlv
  have real : ∀ {i}, Real (H.set j o2 ++ [V]) i → Real H i := by
    rintro i ⟨x, hx, hl, hv'⟩
    rcases hget i x hx with ⟨rfl, rfl⟩ | ⟨_, h⟩ | ⟨_, rfl⟩
    · exact ⟨o, hj, by rw [← e1]; exact hl, hv⟩
    · exact ⟨x, h, hl, hv'⟩
    · rw [hV] at hv'; cases hv'
  have hwr : ∀ b, Wr m (H.set j o2 ++ [V]) b → Wr m H b := by
    rintro b (h | ⟨i, hr, e⟩)
    · exact .inl h
    · exact .inr ⟨i, real hr, e⟩
  have t1 : Tr m H w m (H.set j o2 ++ [V]) w := by
    refine ⟨Nat.le_refl _, by simp, fun _ _ _ => rfl, fun b _ hn hw => hn (hwr b hw), fun i x x' hx hx' => ?_, rfl⟩
    have hil := (List.getElem?_eq_some_iff.1 hx).1
    rcases hget i x' hx' with ⟨rfl, rfl⟩ | ⟨_, h⟩ | ⟨h, _⟩
    · rw [hj] at hx; cases hx
      exact ⟨by omega, fun hl _ => ⟨by rw [← e1]; exact hl, rfl, e2, e3⟩⟩
    · rw [h] at hx; cases hx
      exact ⟨Nat.le_refl _, fun hl _ => ⟨hl, rfl, rfl, rfl⟩⟩
    · omega
  refine ⟨m, tr.trans t1, ⟨r.below, r.hB, fun i x hx => ?_, fun i x hx hvx => ?_, fun i h => r.base i (real h), fun i x hx hl hvx => ?_, fun i i' h h' e => r.inj i i' (real h) (real h') e, r.xlt⟩, f.mono t1⟩
  · rcases hget i x hx with ⟨rfl, rfl⟩ | ⟨_, h⟩ | ⟨_, rfl⟩
    · rw [e3]; exact r.szpos _ _ hj
    · exact r.szpos i x h
    · rw [hV]; exact hsz
  · rcases hget i x hx with ⟨rfl, rfl⟩ | ⟨_, h⟩ | ⟨_, rfl⟩
    · rw [e2, hv] at hvx; exact absurd rfl hvx
    · exact r.virt i x h hvx
    · rw [hV]
  · rcases hget i x hx with ⟨rfl, rfl⟩ | ⟨_, h⟩ | ⟨_, rfl⟩
    · obtain ⟨arr, h1, h2, h3⟩ := r.obj i o hj (by rw [← e1]; exact hl) hv
      refine ⟨arr, by rw [e4]; exact h1, by rw [e3, e5]; exact h2, fun k hk => ?_⟩
      have hk' : k < o.es.length := by omega
      obtain ⟨g1, g2⟩ := h3 k hk'
      have hke : x.es[k] = if q = k then .agg (cs.set t (.slc H.length 0 0 0 none)) else o.es[k] := by
        simp only [ho2, List.getElem_set]
      by_cases e : q = k
      · subst e
        rw [if_pos rfl] at hke
        have hqe : o.es[q] = .agg cs := by rw [List.getElem?_eq_getElem hk'] at hq; exact Option.some.inj hq
        rw [hqe] at g1
        simp only [hqe] at g2
        rw [e3]
        have hxc : cellsOf x.es[q] = cs.set t (.slc H.length 0 0 0 none) := by rw [hke]; rfl
        rw [hxc]
        refine ⟨by simpa [cellsOf] using g1, fun jj hjj => ?_⟩
        have hjj' : jj < (cellsOf (.agg cs)).length := by simpa [cellsOf] using hjj
        obtain ⟨v, a1, a2⟩ := g2 jj hjj'
        refine ⟨v, a1, ?_⟩
        rw [List.getElem_set]
        split
        · rename_i et
          subst et
          have hcs : cs[t] = .imm true c sz' [] := by
            have hlt : t < cs.length := by simpa [cellsOf] using hjj'
            rw [List.getElem?_eq_getElem hlt] at ht; exact Option.some.inj ht
          have a2' : RV w m H (.imm true c sz' []) v := by rw [← hcs]; exact a2
          rw [rv_nil_inv a2']
          exact .slc V hlast (by simp) (fun _ _ => by rw [hV]; simp [SlcOk])
        · simp only [cellsOf] at a2
          exact a2.mono t1
      · rw [if_neg e] at hke
        rw [e3]
        have hxc : cellsOf x.es[k] = cellsOf o.es[k] := by rw [hke]
        refine ⟨by rw [hxc]; exact g1, fun jj hjj => ?_⟩
        obtain ⟨v, a1, a2⟩ := g2 jj (by rw [← hxc]; exact hjj)
        refine ⟨v, a1, ?_⟩
        have : (cellsOf x.es[k])[jj] = (cellsOf o.es[k])[jj]'(by rw [← hxc]; exact hjj) := by simp only [hxc]
        rw [this]
        exact a2.mono t1
    · obtain ⟨arr, h1, h2, h3⟩ := r.obj i x h hl hvx
      exact ⟨arr, h1, h2, fun k hk => ⟨(h3 k hk).1, fun j hj => let ⟨v, a, b⟩ := (h3 k hk).2 j hj; ⟨v, a, b.mono t1⟩⟩⟩
    · rw [hV] at hvx; cases hvx

/-- What a call made may be taken for immutable, and let go. -/
theorem ACalls.frozenAt {P : Program} {f : FuncId} {args : List AV} {R : AV → List AObj → Prop} (n : Nat) {H : List AObj} (h : ACalls P f args H R) :
    ACalls P f args H fun q H' => ∃ r G, R r G ∧ q = frz G H.length n true r ∧ H' = frzH G H.length n := by
  refine ⟨h.1, fun B w0 m w vs r hvs => (h.2 B w0 m w vs r hvs).mono ?_⟩
  rintro e w' ⟨v, q, m', G, rfl, t', r', hv, hR⟩
  exact ⟨v, frz G H.length n true q, m', frzH G H.length n, rfl, frz_tr t' n (Nat.le_refl _), frz_rel r' _ n, frz_rv r' n hv, q, G, hR, rfl, rfl⟩
end
end Go.Fw
