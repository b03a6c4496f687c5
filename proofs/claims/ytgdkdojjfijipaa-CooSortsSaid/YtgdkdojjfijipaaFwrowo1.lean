import Derived.Test.YtgdkdojjfijipaaFwX
import Derived.Test.YtgdkdojjfijipaaFwzero1
namespace Go.Fw
open Go
set_option maxRecDepth 100000
set_option linter.unusedSimpArgs false
set_option linter.unusedVariables false
section
variable {B : Nat} {w0 w : World} {m : BM} {H : List AObj}

theorem rv_nil_inv {c : Option Nat} {sz' : Nat} {v : Value} (h : RV w m H (.imm true c sz' []) v) : v = .slice none 0 0 := by
  cases h with | ri h => cases h with | nil => rfl

/-- A nil slice in an object may be taken for one of the call's own, that is not there yet. -/
theorem Weak.ownIn {nb : Nat} {fr : List AV} (j q t ty sz : Nat) (hsz : 0 < sz) {o : AObj} {cs : List AV} {c : Option Nat} {sz' : Nat} (hj : H[j]? = some o) (hv : o.vir = none) (hq : o.es[q]? = some (.agg cs)) (ht : cs[t]? = some (.imm true c sz' [])) :
    Weak nb fr H fr (H.set j { o with es := o.es.set q (.agg (cs.set t (.slc H.length 0 0 0 none))) } ++ [{ ty := ty, sz := sz, es := [], vir := some true }]) := by
  intro B w0 mb Hb wb m w tmps hn tr r f
  obtain ⟨o2, ho2⟩ : ∃ o2 : AObj, o2 = { o with es := o.es.set q (.agg (cs.set t (.slc H.length 0 0 0 none))) } := ⟨_, rfl⟩
  obtain ⟨V, hV⟩ : ∃ V : AObj, V = { ty := ty, sz := sz, es := [], vir := some true } := ⟨_, rfl⟩
  rw [← ho2, ← hV]
  have hjl := (List.getElem?_eq_some_iff.1 hj).1
  have hll : (H.set j o2).length = H.length := by simp
  have hlast : (H.set j o2 ++ [V])[H.length]? = some V := by rw [List.getElem?_append_right (by simp)]; simp
  have hgetj : (H.set j o2 ++ [V])[j]? = some o2 := by rw [List.getElem?_append_left (by omega), List.getElem?_set_self hjl]
  have hgetn : ∀ {i}, i ≠ j → i < H.length → (H.set j o2 ++ [V])[i]? = H[i]? := by
    intro i h1 h2
    rw [List.getElem?_append_left (by omega), List.getElem?_set_ne (Ne.symm h1)]
  have hget : ∀ i x, (H.set j o2 ++ [V])[i]? = some x → (i = j ∧ x = o2) ∨ (i ≠ j ∧ H[i]? = some x) ∨ (i = H.length ∧ x = V) := by
    intro i x h
    by_cases hi : i < H.length
    · by_cases e : i = j
      · subst e; rw [hgetj] at h; exact .inl ⟨rfl, (Option.some.inj h).symm⟩
      · rw [hgetn e hi] at h; exact .inr (.inl ⟨e, h⟩)
    · have hlt := (List.getElem?_eq_some_iff.1 h).1
      simp at hlt
      have : i = H.length := by omega
      subst this
      rw [hlast] at h; exact .inr (.inr ⟨rfl, (Option.some.inj h).symm⟩)
  have hlv : o2.live = o.live ∧ o2.vir = o.vir ∧ o2.sz = o.sz ∧ o2.ty = o.ty ∧ o2.es.length = o.es.length := by rw [ho2]; simp
  obtain ⟨e1, e2, e3, e4, e5⟩ := hlv
  have real : ∀ {i}, Real (H.set j o2 ++ [V]) i → Real H i := by
    rintro i ⟨x, hx, hl, hv'⟩
    rcases hget i x hx with ⟨rfl, rfl⟩ | ⟨_, h⟩ | ⟨_, rfl⟩
    · exact ⟨o, hj, by rw [← e1]; exact hl, hv⟩
    · exact ⟨x, h, hl, hv'⟩
    · rw [hV] at hv'; cases hv'
  have hwr : ∀ b, Wr m (H.set j o2 ++ [V]) b → Wr m H b := by
    rintro b (h | ⟨i, hr, e⟩)
    · exact .inl h
    · exact .inr ⟨i, real hr, e⟩
  have t1 : Tr m H w m (H.set j o2 ++ [V]) w := by
    refine ⟨Nat.le_refl _, by simp, fun _ _ _ => rfl, fun b _ hn hw => hn (hwr b hw), fun i x x' hx hx' => ?_, rfl⟩
    have hil := (List.getElem?_eq_some_iff.1 hx).1
    rcases hget i x' hx' with ⟨rfl, rfl⟩ | ⟨_, h⟩ | ⟨h, _⟩
    · rw [hj] at hx; cases hx
      exact ⟨by omega, fun hl _ => ⟨by rw [← e1]; exact hl, rfl, e2, e3⟩⟩
    · rw [h] at hx; cases hx
      exact ⟨Nat.le_refl _, fun hl _ => ⟨hl, rfl, rfl, rfl⟩⟩
    · omega
  refine ⟨m, tr.trans t1, ⟨r.below, r.hB, fun i x hx => ?_, fun i x hx hvx => ?_, fun i h => r.base i (real h), fun i x hx hl hvx => ?_, fun i i' h h' e => r.inj i i' (real h) (real h') e, r.xlt⟩, f.mono t1⟩
  · rcases hget i x hx with ⟨rfl, rfl⟩ | ⟨_, h⟩ | ⟨_, rfl⟩
    · rw [e3]; exact r.szpos _ _ hj
    · exact r.szpos i x h
    · rw [hV]; exact hsz
  · rcases hget i x hx with ⟨rfl, rfl⟩ | ⟨_, h⟩ | ⟨_, rfl⟩
    · rw [e2, hv] at hvx; exact absurd rfl hvx
    · exact r.virt i x h hvx
    · rw [hV]
  · rcases hget i x hx with ⟨rfl, rfl⟩ | ⟨_, h⟩ | ⟨_, rfl⟩
    · obtain ⟨arr, h1, h2, h3⟩ := r.obj i o hj (by rw [← e1]; exact hl) hv
      refine ⟨arr, by rw [e4]; exact h1, by rw [e3, e5]; exact h2, fun k hk => ?_⟩
      have hk' : k < o.es.length := by omega
      obtain ⟨g1, g2⟩ := h3 k hk'
      have hke : x.es[k] = if q = k then .agg (cs.set t (.slc H.length 0 0 0 none)) else o.es[k] := by
        simp only [ho2, List.getElem_set]
      by_cases e : q = k
      · subst e
        rw [if_pos rfl] at hke
        have hqe : o.es[q] = .agg cs := by rw [List.getElem?_eq_getElem hk'] at hq; exact Option.some.inj hq
        rw [hqe] at g1
        simp only [hqe] at g2
        rw [e3]
        have hxc : cellsOf x.es[q] = cs.set t (.slc H.length 0 0 0 none) := by rw [hke]; rfl
        rw [hxc]
        refine ⟨by simpa [cellsOf] using g1, fun jj hjj => ?_⟩
        have hjj' : jj < (cellsOf (.agg cs)).length := by simpa [cellsOf] using hjj
        obtain ⟨v, a1, a2⟩ := g2 jj hjj'
        refine ⟨v, a1, ?_⟩
        rw [List.getElem_set]
        split
        · rename_i et
          subst et
          have hcs : cs[t] = .imm true c sz' [] := by
            have hlt : t < cs.length := by simpa [cellsOf] using hjj'
            rw [List.getElem?_eq_getElem hlt] at ht; exact Option.some.inj ht
          have a2' : RV w m H (.imm true c sz' []) v := by rw [← hcs]; exact a2
          rw [rv_nil_inv a2']
          exact .slc V hlast (by simp) (fun _ _ => by rw [hV]; simp [SlcOk])
        · simp only [cellsOf] at a2
          exact a2.mono t1
      · rw [if_neg e] at hke
        rw [e3]
        have hxc : cellsOf x.es[k] = cellsOf o.es[k] := by rw [hke]
        refine ⟨by rw [hxc]; exact g1, fun jj hjj => ?_⟩
        obtain ⟨v, a1, a2⟩ := g2 jj (by rw [← hxc]; exact hjj)
        refine ⟨v, a1, ?_⟩
        have : (cellsOf x.es[k])[jj] = (cellsOf o.es[k])[jj]'(by rw [← hxc]; exact hjj) := by simp only [hxc]
        rw [this]
        exact a2.mono t1
    · obtain ⟨arr, h1, h2, h3⟩ := r.obj i x h hl hvx
      exact ⟨arr, h1, h2, fun k hk => ⟨(h3 k hk).1, fun j hj => let ⟨v, a, b⟩ := (h3 k hk).2 j hj; ⟨v, a, b.mono t1⟩⟩⟩
    · rw [hV] at hvx; cases hvx

/-- What a call made may be taken for immutable, and let go. -/
theorem ACalls.frozenAt {P : Program} {f : FuncId} {args : List AV} {R : AV → List AObj → Prop} (n : Nat) {H : List AObj} (h : ACalls P f args H R) :
    ACalls P f args H fun q H' => ∃ r G, R r G ∧ q = frz G H.length n true r ∧ H' = frzH G H.length n := by
  refine ⟨h.1, fun B w0 m w vs r hvs => (h.2 B w0 m w vs r hvs).mono ?_⟩
  rintro e w' ⟨v, q, m', G, rfl, t', r', hv, hR⟩
  exact ⟨v, frz G H.length n true q, m', frzH G H.length n, rfl, frz_tr t' n (Nat.le_refl _), frz_rel r' _ n, frz_rv r' n hv, q, G, hR, rfl, rfl⟩
end
end Go.Fw
namespace Go.Fw
open Go
set_option maxRecDepth 100000
set_option linter.unusedSimpArgs false
set_option linter.unusedVariables false
/-- What is let go of: its elements are no more known. -/
def deadO (o : AObj) : AObj := ⟨o.ty, o.sz, o.es.map fun _ => .und, false, o.vir⟩
def deadH (keep : Nat → Bool) (H : List AObj) : List AObj := H.mapIdx fun i o => if keep i then o else deadO o
theorem deadH_len (keep : Nat → Bool) (H : List AObj) : (deadH keep H).length = H.length := by simp [deadH]
theorem deadH_keep {keep : Nat → Bool} {H : List AObj} {i : Nat} (h : keep i = true) : (deadH keep H)[i]? = H[i]? := by
  simp [deadH, List.getElem?_mapIdx, h]
theorem deadH_get {keep : Nat → Bool} {H : List AObj} {i : Nat} {x : AObj} (h : (deadH keep H)[i]? = some x) : ∃ o, H[i]? = some o ∧ ((keep i = true ∧ x = o) ∨ (keep i = false ∧ x = deadO o)) := by
  simp only [deadH, List.getElem?_mapIdx, Option.map_eq_some_iff] at h
  obtain ⟨o, h1, h2⟩ := h
  refine ⟨o, h1, ?_⟩
  cases hk : keep i with
  | true => rw [hk] at h2; exact .inl ⟨rfl, h2.symm⟩
  | false => rw [hk] at h2; exact .inr ⟨rfl, h2.symm⟩
theorem Weak.dead {nb : Nat} {fr : List AV} {H : List AObj} (keep : Nat → Bool) : Weak nb fr H fr (deadH keep H) := by
  intro B w0 mb Hb wb m w tmps hn tr r f
  have get : ∀ i x, (deadH keep H)[i]? = some x → ∃ o, H[i]? = some o ∧ ((keep i = true ∧ x = o) ∨ (keep i = false ∧ x = deadO o)) := fun i x h => deadH_get h
  have real : ∀ {i}, Real (deadH keep H) i → Real H i := by
    rintro i ⟨x, hx, hl, hv⟩
    obtain ⟨o, ho, ⟨_, rfl⟩ | ⟨_, rfl⟩⟩ := get i x hx
    · exact ⟨_, ho, hl, hv⟩
    · simp [deadO] at hl
  have hwr : ∀ b, Wr m (deadH keep H) b → Wr m H b := by
    rintro b (h | ⟨i, hr, e⟩)
    · exact .inl h
    · exact .inr ⟨i, real hr, e⟩
  have t1 : Tr m H w m (deadH keep H) w := by
    refine ⟨Nat.le_refl _, by rw [deadH_len]; exact Nat.le_refl _, fun _ _ _ => rfl, fun b _ hn hw => hn (hwr b hw), fun i o o' ho ho' => ?_, rfl⟩
    obtain ⟨o2, h2, ⟨_, rfl⟩ | ⟨_, rfl⟩⟩ := get i o' ho'
    · rw [ho] at h2; cases h2
      exact ⟨Nat.le_refl _, fun hl _ => ⟨hl, rfl, rfl, rfl⟩⟩
    · rw [ho] at h2; cases h2
      exact ⟨by simp [deadO], fun hl _ => by simp [deadO] at hl⟩
  refine ⟨m, tr.trans t1, ⟨r.below, r.hB, fun i x hx => ?_, fun i x hx hvx => ?_, fun i h => r.base i (real h), fun i x hx hl hvx => ?_, fun i i' h h' e => r.inj i i' (real h) (real h') e, r.xlt⟩, f.mono t1⟩
  · obtain ⟨o, ho, ⟨_, rfl⟩ | ⟨_, rfl⟩⟩ := get i x hx
    · exact r.szpos _ _ ho
    · exact r.szpos i o ho
  · obtain ⟨o, ho, ⟨_, rfl⟩ | ⟨_, rfl⟩⟩ := get i x hx
    · exact r.virt i _ ho hvx
    · have := r.virt i o ho hvx
      simp [deadO, this]
  · obtain ⟨o, ho, ⟨_, rfl⟩ | ⟨_, rfl⟩⟩ := get i x hx
    · obtain ⟨arr, h1, h2, h3⟩ := r.obj i _ ho hl hvx
      exact ⟨arr, h1, h2, fun k hk => ⟨(h3 k hk).1, fun j hj => let ⟨v, a, b⟩ := (h3 k hk).2 j hj; ⟨v, a, b.mono t1⟩⟩⟩
    · simp [deadO] at hl

/-- An element of which no more is known than how many cells it has. -/
def blankA : AV → AV
  | .agg cs => .agg (cs.map fun _ => .und)
  | _ => .und
theorem blank_cells (e : AV) : (cellsOf (blankA e)).length = (cellsOf e).length := by cases e <;> simp [blankA, cellsOf]
theorem blank_und (e : AV) (j : Nat) (h : j < (cellsOf (blankA e)).length) : (cellsOf (blankA e))[j] = .und := by
  cases e <;> simp [blankA, cellsOf]
def blankO (o : AObj) : AObj := { o with es := o.es.map blankA }
theorem Weak.blank {nb : Nat} {fr : List AV} {H : List AObj} {j : Nat} {o : AObj} (hj : H[j]? = some o) : Weak nb fr H fr (H.set j (blankO o)) := by
  intro B w0 mb Hb wb m w tmps hn tr r f
  have hjl := (List.getElem?_eq_some_iff.1 hj).1
  have get : ∀ i x, (H.set j (blankO o))[i]? = some x → (i = j ∧ x = blankO o) ∨ (i ≠ j ∧ H[i]? = some x) := by
    intro i x h
    by_cases e : i = j
    · subst e; rw [List.getElem?_set_self hjl] at h; exact .inl ⟨rfl, (Option.some.inj h).symm⟩
    · rw [List.getElem?_set_ne (Ne.symm e)] at h; exact .inr ⟨e, h⟩
  have real : ∀ {i}, Real (H.set j (blankO o)) i → Real H i := by
    rintro i ⟨x, hx, hl, hv⟩
    rcases get i x hx with ⟨rfl, rfl⟩ | ⟨_, h⟩
    · exact ⟨o, hj, hl, hv⟩
    · exact ⟨_, h, hl, hv⟩
  have hwr : ∀ b, Wr m (H.set j (blankO o)) b → Wr m H b := by
    rintro b (h | ⟨i, hr, e⟩)
    · exact .inl h
    · exact .inr ⟨i, real hr, e⟩
  have t1 : Tr m H w m (H.set j (blankO o)) w := by
    refine ⟨Nat.le_refl _, by simp, fun _ _ _ => rfl, fun b _ hn hw => hn (hwr b hw), fun i x x' hx hx' => ?_, rfl⟩
    rcases get i x' hx' with ⟨rfl, rfl⟩ | ⟨_, h⟩
    · rw [hj] at hx; cases hx
      exact ⟨by simp [blankO], fun hl _ => ⟨hl, rfl, rfl, rfl⟩⟩
    · rw [h] at hx; cases hx
      exact ⟨Nat.le_refl _, fun hl _ => ⟨hl, rfl, rfl, rfl⟩⟩
  refine ⟨m, tr.trans t1, ⟨r.below, r.hB, fun i x hx => ?_, fun i x hx hvx => ?_, fun i h => r.base i (real h), fun i x hx hl hvx => ?_, fun i i' h h' e => r.inj i i' (real h) (real h') e, r.xlt⟩, f.mono t1⟩
  · rcases get i x hx with ⟨rfl, rfl⟩ | ⟨_, h⟩
    · exact r.szpos _ o hj
    · exact r.szpos i x h
  · rcases get i x hx with ⟨rfl, rfl⟩ | ⟨_, h⟩
    · have := r.virt i o hj hvx
      simp [blankO, this]
    · exact r.virt i x h hvx
  · rcases get i x hx with ⟨rfl, rfl⟩ | ⟨_, h⟩
    · obtain ⟨arr, h1, h2, h3⟩ := r.obj i o hj hl hvx
      refine ⟨arr, h1, by simpa [blankO] using h2, fun k hk => ?_⟩
      have hk' : k < o.es.length := by simpa [blankO] using hk
      have e : (blankO o).es[k] = blankA o.es[k] := by simp [blankO]
      have hlen : (cellsOf (blankO o).es[k]).length = (cellsOf o.es[k]).length := by rw [e, blank_cells]
      refine ⟨by rw [hlen]; exact (h3 k hk').1, fun q hq => ?_⟩
      obtain ⟨v, a, b⟩ := (h3 k hk').2 q (by rw [← hlen]; exact hq)
      refine ⟨v, a, ?_⟩
      have : (cellsOf (blankO o).es[k])[q] = .und := by
        have := blank_und o.es[k] q (by rw [← e]; exact hq)
        simpa only [e] using this
      rw [this]
      exact .und v
    · obtain ⟨arr, h1, h2, h3⟩ := r.obj i x h hl hvx
      exact ⟨arr, h1, h2, fun k hk => ⟨(h3 k hk).1, fun j hj => let ⟨v, a, b⟩ := (h3 k hk).2 j hj; ⟨v, a, b.mono t1⟩⟩⟩
end Go.Fw
namespace Go.Fw
open Go Go.RowKit Go.Proofs
set_option maxRecDepth 100000
set_option linter.unusedSimpArgs false
set_option linter.unusedVariables false

/-- Whole numbers that a slice may have. -/
abbrev InR (xs : List Int) : Prop := xs.length ≤ 9223372036854775807 ∧ ∀ x ∈ xs, -9223372036854775808 ≤ x ∧ x ≤ 9223372036854775807
abbrev nilD : AV := .agg [.imm true none 0 [], .imm true none 0 []]
abbrev i64O (vs : List Int) : AObj := ⟨2, 1, vs.map I, true, none⟩
abbrev denO (d : AV) : AObj := ⟨49, 2, [d], true, none⟩
def shapeOk (b : Nat) (H : List AObj) (j : Nat) (s : AV) (xs : List Int) : Prop :=
  (xs = [] ∧ ∃ nl c sz, s = .imm nl c sz [] ∧ (nl = false → sz = 1)) ∨ ∃ k, b ≤ k ∧ k ≠ j ∧ s = .slc k xs.length 0 xs.length none ∧ H[k]? = some ⟨3, 1, xs.map I, true, none⟩
/-- A tensor of the call's own: its numbers may be turned. -/
def ownD (b : Nat) (H : List AObj) (d : AV) (D : List Int × List Int) : Prop :=
  ∃ s j, b ≤ j ∧ d = .agg [s, .slc j D.2.length 0 D.2.length none] ∧ H[j]? = some (i64O D.2) ∧ shapeOk b H j s D.1
theorem ownD.frz {b : Nat} {G : List AObj} {d : AV} {D : List Int × List Int} (h : ownD b G d D) (hx : InR D.1) (hv : InR D.2) : Dn (frz G 0 8 false d) D := by
  obtain ⟨s, j, _, rfl, hj, hs⟩ := h
  refine ⟨_, _, by simp; exact ⟨rfl, rfl⟩, ?_, ?_⟩
  · rcases hs with ⟨h0, nl, c, sz, rfl, hs⟩ | ⟨k, _, _, rfl, hG⟩
    · exact ⟨⟨nl, c, sz, by simp [h0], ⟨fun _ => h0, hs⟩⟩, hx⟩
    · refine ⟨⟨false, none, 1, ?_, by simp, by simp⟩, hx⟩
      simp [hG]
  · refine ⟨⟨false, none, 1, ?_, by simp, by simp⟩, hv⟩
    simp [hj]
theorem ownD.tail {A A' G : List AObj} {b : Nat} {d : AV} {D : List Int × List Int} (h : ownD A.length (A ++ G) d D) (hl : A.length = A'.length) (hb : b ≤ A.length) : ownD b (A' ++ G) d D := by
  obtain ⟨s, j, hj, rfl, hjo, hs⟩ := h
  have get : ∀ k, A.length ≤ k → (A' ++ G)[k]? = (A ++ G)[k]? := by
    intro k hk
    rw [List.getElem?_append_right (by omega), List.getElem?_append_right hk, hl]
  refine ⟨s, j, by omega, rfl, by rw [get j hj]; exact hjo, ?_⟩
  rcases hs with h | ⟨k, h1, h2, h3, h4⟩
  · exact .inl h
  · exact .inr ⟨k, by omega, h2, h3, by rw [get k h1]; exact h4⟩
def denseR (F : (List Int × List Int) × Int) (r : AV) (G : List AObj) : Prop :=
  (F.2 ≠ 0 ∧ F.1 = ([], []) ∧ r = .tup [nilD, I F.2]) ∨ (F.2 = 0 ∧ ∃ d, r = .tup [d, I 0] ∧ ownD 0 G d F.1)
theorem dense_pure {P : Program} {f : FuncId} {args : List AV} {F : (List Int × List Int) × Int} (h : ACalls P f args [] (denseR F)) (hx : InR F.1.1) (hv : InR F.1.2) :
    ACalls P f args [] fun r H' => H' = [] ∧ ∃ d, r = .tup [d, I F.2] ∧ Dn d F.1 := by
  refine (h.frozen 9).mono ?_
  rintro q H' ⟨rfl, r, G, ⟨h1, h2, rfl⟩ | ⟨h1, d, rfl, hd⟩, rfl⟩
  · refine ⟨rfl, nilD, by simp, ?_⟩
    rw [h2]
    exact ⟨_, _, rfl, ISl.nil, ISl.nil⟩
  · refine ⟨rfl, _, by simp [h1]; rfl, ?_⟩
    exact hd.frz hx hv
theorem shH_get {s n : Nat} {fl : Bool} {G : List AObj} {i : Nat} {o : AObj} (h : G[i]? = some o) (H : List AObj) (hs : s = H.length) : (H ++ shH s fl n G)[i + s]? = some { o with es := o.es.map (shv s fl n) } := by
  subst hs
  rw [List.getElem?_append_right (by omega), show i + H.length - H.length = i by omega, shH, List.getElem?_map, h]; rfl
@[simp] theorem shv_I {s n : Nat} {fl : Bool} : shv s fl n ∘ I = I := by
  funext x; cases n <;> rfl
theorem dense_at {P : Program} {f : FuncId} {args : List AV} {F : (List Int × List Int) × Int} (h : ACalls P f args [] (denseR F)) (hno : noRefs args = true) (H : List AObj) :
    ACalls P f args H fun q H' => ∃ G, H' = H ++ G ∧ ((F.2 ≠ 0 ∧ F.1 = ([], []) ∧ q = .tup [nilD, I F.2]) ∨ (F.2 = 0 ∧ ∃ d, q = .tup [d, I 0] ∧ ownD H.length (H ++ G) d F.1)) := by
  refine (h.anywhere hno 8 H).mono ?_
  rintro q H' ⟨r, G, hr, rfl, rfl⟩
  refine ⟨_, rfl, ?_⟩
  rcases hr with ⟨h1, h2, rfl⟩ | ⟨h1, d, rfl, s, j, _, rfl, hj, hs⟩
  · exact .inl ⟨h1, h2, by simp [shv]⟩
  · refine .inr ⟨h1, _, by simp [shv]; rfl, shv H.length false 6 s, j + H.length, by omega, by simp [shv], ?_, ?_⟩
    · rw [shH_get hj H rfl]
      simp
    · rcases hs with ⟨h0, nl, c, sz, rfl, hs⟩ | ⟨k, _, hk, rfl, hG⟩
      · exact .inl ⟨h0, nl, c, sz, by simp [shv], hs⟩
      · refine .inr ⟨k + H.length, by omega, by omega, by simp [shv], ?_⟩
        rw [shH_get hG H rfl]
        simp
theorem dense_lent {P : Program} {f : FuncId} {args : List AV} {F : (List Int × List Int) × Int} (n' : Nat) {H : List AObj} (h : ACalls P f (args.map (frz H 0 n' false)) [] (denseR F)) :
    ACalls P f args H fun q H' => ∃ G, H' = H ++ G ∧ ((F.2 ≠ 0 ∧ F.1 = ([], []) ∧ q = .tup [nilD, I F.2]) ∨ (F.2 = 0 ∧ ∃ d, q = .tup [d, I 0] ∧ ownD H.length (H ++ G) d F.1)) := by
  refine (h.lent 8 n').mono ?_
  rintro q H' ⟨r, G, hr, rfl, rfl⟩
  refine ⟨_, rfl, ?_⟩
  rcases hr with ⟨h1, h2, rfl⟩ | ⟨h1, d, rfl, s, j, _, rfl, hj, hs⟩
  · exact .inl ⟨h1, h2, by simp [shv]⟩
  · refine .inr ⟨h1, _, by simp [shv]; rfl, shv H.length true 6 s, j + H.length, by omega, by simp [shv], ?_, ?_⟩
    · rw [shH_get hj H rfl]
      simp
    · rcases hs with ⟨h0, nl, c, sz, rfl, hs⟩ | ⟨k, _, hk, rfl, hG⟩
      · exact .inl ⟨h0, nl, c, sz, by simp [shv], hs⟩
      · refine .inr ⟨k + H.length, by omega, by omega, by simp [shv], ?_⟩
        rw [shH_get hG H rfl]
        simp
theorem zeroR.dense {xs : List Int} {r : AV} {G : List AObj} (h : zeroR xs r G) : denseR (zeroF xs) r G := by
  obtain ⟨e, ⟨h1, h2, rfl⟩ | ⟨rfl, h2, s, j, n, hn, rfl, hj, hs⟩⟩ := h
  · refine .inl ⟨?_, ?_, ?_⟩ <;> simp [zeroF, h2, h1]
  · have ez : zeroF xs = ((xs, List.replicate n 0), 0) := by simp [zeroF, h2, hn]
    rw [ez]
    refine .inr ⟨rfl, _, rfl, s, j, by omega, by simp, by simp [hj], ?_⟩
    rcases hs with h | ⟨k, h1, h2, h3⟩
    · exact .inl h
    · exact .inr ⟨k, by omega, h1, h2, h3⟩
theorem Zero_dense {a : AV} {xs : List Int} (ha : ISl a xs) : ACalls Try.prog 59 [a] [] (denseR (zeroF xs)) := (Zero_spec ha).mono fun _ _ h => h.dense
theorem gs_ne {K : List AObj} {q k : Nat} {o : AObj} (h : q ≠ k) : (K.set q o)[k]? = K[k]? := List.getElem?_set_ne h
theorem gs_eq {K : List AObj} {q : Nat} {o o0 : AObj} (h : K[q]? = some o0) : (K.set q o)[q]? = some o := List.getElem?_set_self (List.getElem?_eq_some_iff.1 h).1
theorem shapeOk.one {b : Nat} {H : List AObj} {j : Nat} {s : AV} {xs : List Int} (h : shapeOk b H j s xs) : oneC s = true := by
  rcases h with ⟨_, _, _, _, rfl, _⟩ | ⟨_, _, _, rfl, _⟩ <;> rfl
theorem shapeOk.set {b : Nat} {H : List AObj} {j : Nat} {s : AV} {xs : List Int} (h : shapeOk b H j s xs) (o : AObj) : shapeOk b (H.set j o) j s xs := by
  rcases h with h | ⟨k, h1, h2, h3, h4⟩
  · exact .inl h
  · exact .inr ⟨k, h1, h2, h3, by rw [gs_ne (by omega)]; exact h4⟩
theorem shapeOk.set_lt {b : Nat} {H : List AObj} {j : Nat} {s : AV} {xs : List Int} (h : shapeOk b H j s xs) (i : Nat) (hi : i < b) (o : AObj) : shapeOk b (H.set i o) j s xs := by
  rcases h with h | ⟨k, h1, h2, h3, h4⟩
  · exact .inl h
  · exact .inr ⟨k, h1, h2, h3, by rw [gs_ne (by omega)]; exact h4⟩
theorem shapeOk.app {b : Nat} {H : List AObj} {j : Nat} {s : AV} {xs : List Int} (h : shapeOk b H j s xs) (G : List AObj) : shapeOk b (H ++ G) j s xs := by
  rcases h with h | ⟨k, h1, h2, h3, h4⟩
  · exact .inl h
  · exact .inr ⟨k, h1, h2, h3, by rw [List.getElem?_append_left (List.getElem?_eq_some_iff.1 h4).1]; exact h4⟩
theorem shapeOk.mono {b b' : Nat} {H : List AObj} {j : Nat} {s : AV} {xs : List Int} (h : shapeOk b H j s xs) (hb : b' ≤ b) : shapeOk b' H j s xs := by
  rcases h with h | ⟨k, h1, h2, h3, h4⟩
  · exact .inl h
  · exact .inr ⟨k, by omega, h2, h3, h4⟩

end Go.Fw
namespace Go.Fw
open Go Go.RowKit Go.Proofs
set_option maxRecDepth 100000
set_option linter.unusedSimpArgs false
set_option linter.unusedVariables false

/-- A slice of the call's own, made by append out of none: its object is behind b. -/
def rowO (b : Nat) (K : List AObj) (a : AV) (ty sz : Nat) (es : List AV) : Prop :=
  (es = [] ∧ a = .imm true none 0 []) ∨ ∃ k, b ≤ k ∧ a = .slc k es.length 0 es.length none ∧ K[k]? = some ⟨ty, sz, es, true, none⟩
section
variable {b : Nat} {K : List AObj} {a : AV} {ty sz : Nat} {es : List AV}
theorem rowO.one (h : rowO b K a ty sz es) : oneC a = true := by
  rcases h with ⟨_, rfl⟩ | ⟨k, _, rfl, _⟩ <;> rfl
theorem rowO.isA (h : rowO b K a ty sz es) : isA a = false := by
  rcases h with ⟨_, rfl⟩ | ⟨k, _, rfl, _⟩ <;> rfl
theorem rowO.app (h : rowO b K a ty sz es) (G : List AObj) : rowO b (K ++ G) a ty sz es := by
  rcases h with h | ⟨k, h1, h2, h3⟩
  · exact .inl h
  · exact .inr ⟨k, h1, h2, by rw [List.getElem?_append_left (List.getElem?_eq_some_iff.1 h3).1]; exact h3⟩
theorem rowO.set (h : rowO b K a ty sz es) {i : Nat} {o0 : AObj} (hi : K[i]? = some o0) (hne : o0.ty ≠ ty) (o : AObj) : rowO b (K.set i o) a ty sz es := by
  rcases h with h | ⟨k, h1, h2, h3⟩
  · exact .inl h
  · refine .inr ⟨k, h1, h2, ?_⟩
    have : i ≠ k := by
      rintro rfl
      rw [hi] at h3
      simp at h3
      rw [h3] at hne
      exact hne rfl
    rw [gs_ne this]; exact h3
theorem rowO.setlt (h : rowO b K a ty sz es) {i : Nat} (hi : i < b) (o : AObj) : rowO b (K.set i o) a ty sz es := by
  rcases h with h | ⟨k, h1, h2, h3⟩
  · exact .inl h
  · exact .inr ⟨k, h1, h2, by rw [gs_ne (by omega)]; exact h3⟩
theorem rowO.mono (h : rowO b K a ty sz es) {b' : Nat} (hb : b' ≤ b) : rowO b' K a ty sz es := by
  rcases h with h | ⟨k, h1, h2, h3⟩
  · exact .inl h
  · exact .inr ⟨k, by omega, h2, h3⟩
/-- What stands behind is made immutable. -/
theorem rowO.frz (h : rowO b K a ty sz es) (G : List AObj) (n : Nat) (he : es.map (frz (K ++ G) K.length n true) = es) : rowO b (frzH (K ++ G) K.length n) a ty sz es := by
  rcases h with h | ⟨k, h1, h2, h3⟩
  · exact .inl h
  · have hk := (List.getElem?_eq_some_iff.1 h3).1
    refine .inr ⟨k, h1, h2, ?_⟩
    rw [frzH_of n hk (by rw [List.getElem?_append_left hk]; exact h3)]
    simp [he]
theorem rowO.frzA (h : rowO b K a ty sz es) {m : Nat} (hm : K.length ≤ m) (K' : List AObj) (n : Nat) : Go.Fw.frz K' m (n + 1) true a = a := by
  rcases h with ⟨_, rfl⟩ | ⟨k, h1, rfl, h3⟩
  · simp
  · have hk := (List.getElem?_eq_some_iff.1 h3).1
    simp [show k < m by omega]
theorem rowO.to {K' : List AObj} (h : rowO b K a ty sz es) (f : ∀ k, b ≤ k → K[k]? = some ⟨ty, sz, es, true, none⟩ → K'[k]? = some ⟨ty, sz, es, true, none⟩) : rowO b K' a ty sz es := by
  rcases h with h | ⟨k, h1, h2, h3⟩
  · exact .inl h
  · exact .inr ⟨k, h1, h2, f k h1 h3⟩
/-- Made immutable. -/
theorem rowO.frzI {xs : List Int} (h : rowO b K a ty 1 (xs.map I)) (hx : xs.length ≤ 9223372036854775807 ∧ ∀ x ∈ xs, -9223372036854775808 ≤ x ∧ x ≤ 9223372036854775807) {m : Nat} (hm : m ≤ b) (n : Nat) : ISl (Go.Fw.frz K m (n + 1) true a) xs := by
  rcases h with ⟨h0, rfl⟩ | ⟨k, h1, rfl, h3⟩
  · have : xs = [] := by simpa using h0
    subst this
    simp
    exact ISl.nil
  · simp [show ¬ k < m by omega, h3]
    exact ISl.of _ hx.1 hx.2
/-- Read as an immutable one. -/
theorem rowO.read (h : rowO b K a ty sz es) (n : Nat) : (es = [] ∧ Go.Fw.frz K 0 (n + 1) false a = .imm true none 0 []) ∨ Go.Fw.frz K 0 (n + 1) false a = .imm false none sz (es.map (Go.Fw.frz K 0 n false)) := by
  rcases h with ⟨h, rfl⟩ | ⟨k, h1, rfl, h3⟩
  · exact .inl ⟨h, by simp⟩
  · exact .inr (by simp [h3])
theorem rowO.ints {xs : List Int} (h : rowO b K a ty 1 (xs.map I)) (hx : xs.length ≤ 9223372036854775807 ∧ ∀ x ∈ xs, -9223372036854775808 ≤ x ∧ x ≤ 9223372036854775807) (n : Nat) : ISl (Go.Fw.frz K 0 (n + 1) false a) xs := by
  rcases h.read n with ⟨h0, e⟩ | e
  · have : xs = [] := by simpa using h0
    subst this
    rw [e]; exact ISl.nil
  · rw [e, frz_ints]
    exact ISl.of _ hx.1 hx.2
end
/-- Append to none. -/
theorem rowO.make {K : List AObj} {ty sz : Nat} {es : List AV} {b : Nat} (hb : b ≤ K.length) : ∃ a G, G.length ≤ 1 ∧ rowO b (K ++ G) a ty sz es ∧ ((es = [] ∧ a = .imm true none 0 [] ∧ G = []) ∨ (es ≠ [] ∧ a = .slc K.length es.length 0 es.length none ∧ G = [⟨ty, sz, es, true, none⟩])) := by
  by_cases h : es = []
  · exact ⟨_, [], by simp, .inl ⟨h, rfl⟩, .inl ⟨h, rfl, rfl⟩⟩
  · exact ⟨_, [⟨ty, sz, es, true, none⟩], by simp, .inr ⟨K.length, hb, rfl, by simp⟩, .inr ⟨h, rfl, rfl⟩⟩
end Go.Fw
