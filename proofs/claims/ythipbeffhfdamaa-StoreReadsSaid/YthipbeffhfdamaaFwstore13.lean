import Derived.Test.YthipbeffhfdamaaFwX
import Derived.Test.YthipbeffhfdamaaFwown0
import Derived.Test.YthipbeffhfdamaaFwgood1
import Derived.Test.YthipbeffhfdamaaFwonce1
import Derived.Test.YthipbeffhfdamaaFwslices64
namespace Go.Fw
open Go
set_option maxRecDepth 100000
set_option linter.unusedSimpArgs false
set_option linter.unusedVariables false
section
variable {B : Nat} {w0 w : World} {m : BM} {H : List AObj}
theorem rv_nil_inv {c : Option Nat} {sz' : Nat} {v : Value} (h : RV w m H (.imm true c sz' []) v) : v = .slice none 0 0 := by
  cases h with | ri h => cases h with | nil => rfl
theorem Weak.ownIn {nb : Nat} {fr : List AV} (j q t ty sz : Nat) (hsz : 0 < sz) {o : AObj} {cs : List AV} {c : Option Nat} {sz' : Nat} (hj : H[j]? = some o) (hv : o.vir = none) (hq : o.es[q]? = some (.agg cs)) (ht : cs[t]? = some (.imm true c sz' [])) :
    Weak nb fr H fr (H.set j { o with es := o.es.set q (.agg (cs.set t (.slc H.length 0 0 0 none))) } ++ [{ ty := ty, sz := sz, es := [], vir := some true }]) := by
  intro B w0 mb Hb wb m w tmps hn tr r f
  obtain ⟨o2, ho2⟩ : ∃ o2 : AObj, o2 = { o with es := o.es.set q (.agg (cs.set t (.slc H.length 0 0 0 none))) } := ⟨_, rfl⟩
  obtain ⟨V, hV⟩ : ∃ V : AObj, V = { ty := ty, sz := sz, es := [], vir := some true } := ⟨_, rfl⟩
  rw [← ho2, ← hV]
  have hjl := (List.getElem?_eq_some_iff.1 hj).1
  have hll : (H.set j o2).length = H.length := by simp
  have hlast : (H.set j o2 ++ [V])[H.length]? = some V := by rw [List.getElem?_append_right (by simp)]; simp
  have hgetj : (H.set j o2 ++ [V])[j]? = some o2 := by rw [List.getElem?_append_left (by omega), List.getElem?_set_self hjl]
  have hgetn : ∀ {i}, i ≠ j → i < H.length → (H.set j o2 ++ [V])[i]? = H[i]? := by
    intro i h1 h2
    rw [List.getElem?_append_left (by omega), List.getElem?_set_ne (Ne.symm h1)]
  have hget : ∀ i x, (H.set j o2 ++ [V])[i]? = some x → (i = j ∧ x = o2) ∨ (i ≠ j ∧ H[i]? = some x) ∨ (i = H.length ∧ x = V) := by
    intro i x h
    by_cases hi : i < H.length
    · by_cases e : i = j
      · subst e; rw [hgetj] at h; exact .inl ⟨rfl, (Option.some.inj h).symm⟩
      · rw [hgetn e hi] at h; exact .inr (.inl ⟨e, h⟩)
    · have hlt := (List.getElem?_eq_some_iff.1 h).1
      simp at hlt
      have : i = H.length := by omega
      subst this
      rw [hlast] at h; exact .inr (.inr ⟨rfl, (Option.some.inj h).symm⟩)
  have hlv : o2.live = o.live ∧ o2.vir = o.vir ∧ o2.sz = o.sz ∧ o2.ty = o.ty ∧ o2.es.length = o.es.length := by rw [ho2]; simp
  obtain ⟨e1, e2, e3, e4, e5⟩ := hlv
  have real : ∀ {i}, Real (H.set j o2 ++ [V]) i → Real H i := by
    rintro i ⟨x, hx, hl, hv'⟩
    rcases hget i x hx with ⟨rfl, rfl⟩ | ⟨_, h⟩ | ⟨_, rfl⟩
    · exact ⟨o, hj, by rw [← e1]; exact hl, hv⟩
    · exact ⟨x, h, hl, hv'⟩
    · rw [hV] at hv'; cases hv'
  have hwr : ∀ b, Wr m (H.set j o2 ++ [V]) b → Wr m H b := by
    rintro b (h | ⟨i, hr, e⟩)
    · exact .inl h
    · exact .inr ⟨i, real hr, e⟩
  have t1 : Tr m H w m (H.set j o2 ++ [V]) w := by
    refine ⟨Nat.le_refl _, by simp, fun _ _ _ => rfl, fun b _ hn hw => hn (hwr b hw), fun i x x' hx hx' => ?_, rfl⟩
    have hil := (List.getElem?_eq_some_iff.1 hx).1
    rcases hget i x' hx' with ⟨rfl, rfl⟩ | ⟨_, h⟩ | ⟨h, _⟩
    · rw [hj] at hx; cases hx
      exact ⟨by omega, fun hl _ => ⟨by rw [← e1]; exact hl, rfl, e2, e3⟩⟩
    · rw [h] at hx; cases hx
      exact ⟨Nat.le_refl _, fun hl _ => ⟨hl, rfl, rfl, rfl⟩⟩
    · omega
  refine ⟨m, tr.trans t1, ⟨r.below, r.hB, fun i x hx => ?_, fun i x hx hvx => ?_, fun i h => r.base i (real h), fun i x hx hl hvx => ?_, fun i i' h h' e => r.inj i i' (real h) (real h') e, r.xlt⟩, f.mono t1⟩
  · rcases hget i x hx with ⟨rfl, rfl⟩ | ⟨_, h⟩ | ⟨_, rfl⟩
    · rw [e3]; exact r.szpos _ _ hj
    · exact r.szpos i x h
    · rw [hV]; exact hsz
  · rcases hget i x hx with ⟨rfl, rfl⟩ | ⟨_, h⟩ | ⟨_, rfl⟩
    · rw [e2, hv] at hvx; exact absurd rfl hvx
    · exact r.virt i x h hvx
    · rw [hV]
  · rcases hget i x hx with ⟨rfl, rfl⟩ | ⟨_, h⟩ | ⟨_, rfl⟩
    · obtain ⟨arr, h1, h2, h3⟩ := r.obj i o hj (by rw [← e1]; exact hl) hv
      refine ⟨arr, by rw [e4]; exact h1, by rw [e3, e5]; exact h2, fun k hk => ?_⟩
      have hk' : k < o.es.length := by omega
      obtain ⟨g1, g2⟩ := h3 k hk'
      have hke : x.es[k] = if q = k then .agg (cs.set t (.slc H.length 0 0 0 none)) else o.es[k] := by
        simp only [ho2, List.getElem_set]
      by_cases e : q = k
      · subst e
        rw [if_pos rfl] at hke
        have hqe : o.es[q] = .agg cs := by rw [List.getElem?_eq_getElem hk'] at hq; exact Option.some.inj hq
        rw [hqe] at g1
        simp only [hqe] at g2
        rw [e3]
        have hxc : cellsOf x.es[q] = cs.set t (.slc H.length 0 0 0 none) := by rw [hke]; rfl
        rw [hxc]
        refine ⟨by simpa [cellsOf] using g1, fun jj hjj => ?_⟩
        have hjj' : jj < (cellsOf (.agg cs)).length := by simpa [cellsOf] using hjj
        obtain ⟨v, a1, a2⟩ := g2 jj hjj'
        refine ⟨v, a1, ?_⟩
        rw [List.getElem_set]
        split
        · rename_i et
          subst et
          have hcs : cs[t] = .imm true c sz' [] := by
            have hlt : t < cs.length := by simpa [cellsOf] using hjj'
            rw [List.getElem?_eq_getElem hlt] at ht; exact Option.some.inj ht
          have a2' : RV w m H (.imm true c sz' []) v := by rw [← hcs]; exact a2
          rw [rv_nil_inv a2']
          exact .slc V hlast (by simp) (fun _ _ => by rw [hV]; simp [SlcOk])
        · simp only [cellsOf] at a2
          exact a2.mono t1
      · rw [if_neg e] at hke
        rw [e3]
        have hxc : cellsOf x.es[k] = cellsOf o.es[k] := by rw [hke]
        refine ⟨by rw [hxc]; exact g1, fun jj hjj => ?_⟩
        obtain ⟨v, a1, a2⟩ := g2 jj (by rw [← hxc]; exact hjj)
        refine ⟨v, a1, ?_⟩
        have : (cellsOf x.es[k])[jj] = (cellsOf o.es[k])[jj]'(by rw [← hxc]; exact hjj) := by simp only [hxc]
        rw [this]
        exact a2.mono t1
    · obtain ⟨arr, h1, h2, h3⟩ := r.obj i x h hl hvx
      exact ⟨arr, h1, h2, fun k hk => ⟨(h3 k hk).1, fun j hj => let ⟨v, a, b⟩ := (h3 k hk).2 j hj; ⟨v, a, b.mono t1⟩⟩⟩
    · rw [hV] at hvx; cases hvx
theorem ACalls.frozenAt {P : Program} {f : FuncId} {args : List AV} {R : AV → List AObj → Prop} (n : Nat) {H : List AObj} (h : ACalls P f args H R) :
    ACalls P f args H fun q H' => ∃ r G, R r G ∧ q = frz G H.length n true r ∧ H' = frzH G H.length n := by
  refine ⟨h.1, fun B w0 m w vs r hvs => (h.2 B w0 m w vs r hvs).mono ?_⟩
  rintro e w' ⟨v, q, m', G, rfl, t', r', hv, hR⟩
  exact ⟨v, frz G H.length n true q, m', frzH G H.length n, rfl, frz_tr t' n (Nat.le_refl _), frz_rel r' _ n, frz_rv r' n hv, q, G, hR, rfl, rfl⟩
end
end Go.Fw
namespace Go.Fw
open Go Go.RowKit Go.Proofs
set_option maxRecDepth 100000
set_option linter.unusedSimpArgs false
set_option linter.unusedVariables false
def Ents (es : List AV) (W : List (List Int × Int)) : Prop := es.length = W.length ∧ ∀ i (h : i < es.length) (h' : i < W.length), ∃ a, es[i] = .agg [a, I W[i].2] ∧ ISl a W[i].1
theorem Ents.nil : Ents [] [] := ⟨rfl, fun i h => by simp at h⟩
theorem Ents.snoc {es : List AV} {W : List (List Int × Int)} (h : Ents es W) {a : AV} {c : List Int} {v : Int} (ha : ISl a c) : Ents (es ++ [.agg [a, I v]]) (W ++ [(c, v)]) := by
  obtain ⟨h1, h2⟩ := h
  refine ⟨by simp [h1], fun i h3 h4 => ?_⟩
  by_cases hi : i < es.length
  · obtain ⟨b, hb, hb2⟩ := h2 i hi (by omega)
    rw [List.getElem_append_left hi, List.getElem_append_left (by omega)]
    exact ⟨b, hb, hb2⟩
  · have : i = es.length := by simp at h3; omega
    subst this
    refine ⟨a, by simp [h1], by simp [h1]; exact ha⟩
theorem Ents.one {es : List AV} {W : List (List Int × Int)} (h : Ents es W) : allOneCell 2 es = true := by
  obtain ⟨h1, h2⟩ := h
  rw [allOneCell, List.all_eq_true]
  intro x hx
  obtain ⟨i, hi, rfl⟩ := List.mem_iff_getElem.1 hx
  obtain ⟨a, ha, ⟨nl, c, sz, rfl, _⟩, _⟩ := h2 i hi (by omega)
  rw [ha]
  simp [okEl, cellsOf]
theorem Ents.frz {es : List AV} {W : List (List Int × Int)} (h : Ents es W) (H : List AObj) (k n : Nat) (b : Bool) : es.map (frz H k (n + 2) b) = es := by
  obtain ⟨h1, h2⟩ := h
  apply List.ext_getElem (by simp)
  intro i h3 h4
  simp only [List.getElem_map]
  obtain ⟨a, ha, ⟨nl, c, sz, rfl, _⟩, _⟩ := h2 i h4 (by omega)
  rw [ha]
  simp
def EnL (a : AV) (W : List (List Int × Int)) : Prop := ∃ nl c sz es, a = .imm nl c sz es ∧ (nl = true → W = []) ∧ (nl = false → sz = 2) ∧ Ents es W
theorem EnL.noRef {a : AV} {W : List (List Int × Int)} (h : EnL a W) : noRef a = true := by
  obtain ⟨nl, c, sz, es, rfl, _⟩ := h
  simp
theorem EnL.nil : EnL (.imm true none 0 []) [] := ⟨true, none, 0, [], rfl, by simp, by simp, Ents.nil⟩
theorem Ents.get {es : List AV} {W : List (List Int × Int)} (h : Ents es W) {i : Nat} (hi : i < W.length) : ∃ a, es[i]? = some (.agg [a, I W[i].2]) ∧ ISl a W[i].1 := by
  obtain ⟨h1, h2⟩ := h
  obtain ⟨a, ha, hb⟩ := h2 i (by omega) hi
  exact ⟨a, by rw [List.getElem?_eq_getElem (by omega), ha], hb⟩
theorem Ents.set {es : List AV} {W : List (List Int × Int)} (h : Ents es W) {a : AV} {c : List Int} {v : Int} (ha : ISl a c) (i : Nat) : Ents (es.set i (.agg [a, I v])) (W.set i (c, v)) := by
  obtain ⟨h1, h2⟩ := h
  refine ⟨by simpa using h1, fun j h3 h4 => ?_⟩
  have h3' : j < es.length := by simpa using h3
  have h4' : j < W.length := by simpa using h4
  simp only [List.getElem_set]
  by_cases e : i = j
  · rw [if_pos e, if_pos e]; exact ⟨a, rfl, ha⟩
  · rw [if_neg e, if_neg e]; exact h2 j h3' h4'
theorem Ents.take {es : List AV} {W : List (List Int × Int)} (h : Ents es W) (k : Nat) : Ents (es.take k) (W.take k) := by
  obtain ⟨h1, h2⟩ := h
  refine ⟨by simp [h1], fun j h3 h4 => ?_⟩
  simp at h3 h4
  simp only [List.getElem_take]
  exact h2 j (by omega) (by omega)
theorem Ents.drop {es : List AV} {W : List (List Int × Int)} (h : Ents es W) (k : Nat) : Ents (es.drop k) (W.drop k) := by
  obtain ⟨h1, h2⟩ := h
  refine ⟨by simp [h1], fun j h3 h4 => ?_⟩
  simp at h3 h4
  simp only [List.getElem_drop]
  exact h2 _ (by omega) (by omega)
theorem Ents.append {es es' : List AV} {W W' : List (List Int × Int)} (h : Ents es W) (h' : Ents es' W') : Ents (es ++ es') (W ++ W') := by
  obtain ⟨h1, h2⟩ := h
  obtain ⟨h3, h4⟩ := h'
  refine ⟨by simp [h1, h3], fun j h5 h6 => ?_⟩
  by_cases hj : j < es.length
  · rw [List.getElem_append_left hj, List.getElem_append_left (by omega)]
    exact h2 j hj (by omega)
  · rw [List.getElem_append_right (by omega), List.getElem_append_right (by omega)]
    simp at h5 h6
    have := h4 (j - es.length) (by omega) (by omega)
    simpa only [h1] using this
def Coo (a : AV) (X : List Int × List (List Int × Int)) : Prop := ∃ s e, a = .agg [s, e] ∧ ISl s X.1 ∧ EnL e X.2
end Go.Fw
namespace Go.Fw
open Go Go.RowKit Go.Proofs
set_option maxRecDepth 100000
set_option linter.unusedSimpArgs false
set_option linter.unusedVariables false
structure RdP (nd : Nat) (s tn : AV) (K : List AObj) (W : List (List Int × Int)) : Prop where
  gq : 2 ≤ nd
  o0 : K[0]? = some (tnO tn)
  o1 : K[1]? = some ⟨48, 2, [.agg [.imm true none 0 [], .imm true none 0 []]], true, none⟩
  od : K[nd]? = some ⟨48, 2, [.agg [s, .slc (nd + 1) W.length 0 W.length none]], true, none⟩
  oe : ∃ es vr, K[nd + 1]? = some ⟨52, 2, es, true, vr⟩ ∧ Ents es W ∧ (vr = some true → W = []) ∧ vr ≠ some false
theorem RdP.same {nd : Nat} {s tn : AV} {K K' : List AObj} {W : List (List Int × Int)} (h : RdP nd s tn K W) (hK : ∀ i, i ≤ nd + 1 → K'[i]? = K[i]?) : RdP nd s tn K' W := by
  have h2 := h.gq
  obtain ⟨es, vr, e1, e2⟩ := h.oe
  exact ⟨h2, by rw [hK _ (by omega)]; exact h.o0, by rw [hK _ (by omega)]; exact h.o1, by rw [hK _ (by omega)]; exact h.od, es, vr, by rw [hK _ (by omega)]; exact e1, e2⟩
theorem RdP.frz {nd : Nat} {s tn : AV} {K : List AObj} {W : List (List Int × Int)} (h : RdP nd s tn K W) (htn : ∀ H k, frz H k 3 true tn = tn) (hs : ∀ H k, frz H k 2 true s = s) {k : Nat} (hk : nd + 1 < k) : RdP nd s tn (frzH K k 3) W := by
  have h2 := h.gq
  obtain ⟨es, vr, e1, e2, e3⟩ := h.oe
  refine ⟨h2, ?_, ?_, ?_, es, vr, ?_, e2, e3⟩
  · rw [frzH_of 3 (by omega) h.o0]; simp [htn]
  · rw [frzH_of 3 (by omega) h.o1]; simp
  · rw [frzH_of 3 (by omega) h.od]; simp [hk, hs]
  · rw [frzH_of 3 (by omega) e1]
    simp only [e2.frz]
theorem Clone_lent {K : List AObj} {i : Nat} {c : List Int} (hi : K[i]? = some (intOb c)) (hl : c.length ≤ 1000) :
    ACalls Try.prog 48 [.slc i c.length 0 c.length none] K fun q K' => (c = [] ∧ q = .imm false none 1 [] ∧ K' = K) ∨ (c ≠ [] ∧ q = .slc K.length c.length 0 c.length none ∧ K' = K ++ [intOb c]) := by
  have h := (Clone_spec (nl := false) (c := none) (sz := 1) (xs := c) (by simp) (by omega))
  refine ACalls.mono (ACalls.lent 3 3 (H := K) (R := cloneR false c) ?_) ?_
  · simp [hi]
    exact h
  · rintro q K' ⟨r, G, hR, rfl, rfl⟩
    unfold cloneR at hR
    rw [if_neg (by simp)] at hR
    by_cases hc : c = []
    · rw [if_pos hc] at hR
      obtain ⟨rfl, rfl⟩ := hR
      exact .inl ⟨hc, by simp, by simp⟩
    · rw [if_neg hc] at hR
      obtain ⟨rfl, rfl⟩ := hR
      exact .inr ⟨hc, by simp, by simp⟩
def RdV (Vs : List Int) (c : List Int) (p : Nat) : Prop := p < Vs.length ∧ InI c ∧ c.length ≤ 1000
def rdStep (Vs : List Int) (W : List (List Int × Int)) (c : List Int) (p : Nat) : List (List Int × Int) := W ++ [(c, Vs.getD p 0)]
def Read1_ac : AC := (.ops [.o 6 (.fad 1 (.t 2)), .o 7 (.ld 1 false (.t 6)), .m 8 (.t 0), .o 10 (.fad 3 (.t 3)), .o 11 (.ld 1 false (.t 10)), .m 12 (.t 1), .o 13 (.iad 1 (.t 11) (.t 12)), .o 14 (.ld 1 false (.t 13)), .c 9 true (.f 48) [(.t 8)], .o 15 (.mk [nil0, (.sc (.int .i64 0))] [(0, (1, (.t 9))), (1, (1, (.t 14)))]), .o 16 (.litO 52 2 [(.t 15)]), .o 17 (.app 52 2 32 (.t 7) (.t 16)), .o 18 (.fad 1 (.t 2)), .on (.st 1 (.t 18) (.t 17))])
theorem Read1_call {args : List AV} {H : List AObj} {R : AV → List AObj → Prop} (h : AWp Try.prog [16] H.length Read1_ac (bodyQ H.length [] R) (args ++ List.replicate (19 - args.length) .und) H) : ACalls Try.prog 50 args H R :=
  ACalls.of_fn Try.func50 rfl (by kernel_rfl) rfl Try.ntmps50 h
set_option maxHeartbeats 2000000 in
theorem Read1_spec {nd : Nat} {s sh f l v : AV} {S Vs : List Int} {F : List (Int × Int × Int)} {xs : List LvA} (hS : ISl sh S) (hF : Sp f F) (hl : Ls l xs) (hV : ISl v Vs) (hs2 : ∀ H k, frz H k 2 true s = s) {ty1 ty3 ty4 : Nat} {K : List AObj} {W : List (List Int × Int)} {c : List Int} {p : Nat}
    (hw : WInv (nd + 2) (nd + 7) (.agg [sh, f, l, v]) 50 [.ptr nd 1 0 0, .ptr 0 1 0 0] ty1 ty3 ty4 K c) (hP : RdP nd s (.agg [sh, f, l, v]) K W) (hv : RdV Vs c p) (hWl : W.length ≤ 1048576) :
    ACalls Try.prog 50 [.slc (nd + 4) c.length 0 c.length none, I p, .ptr nd 1 0 0, .ptr 0 1 0 0] K fun r K' => r = .tup [] ∧ WInv (nd + 2) (nd + 7) (.agg [sh, f, l, v]) 50 [.ptr nd 1 0 0, .ptr 0 1 0 0] ty1 ty3 ty4 K' c ∧ RdP nd s (.agg [sh, f, l, v]) K' (rdStep Vs W c p) := by
  obtain ⟨⟨nl, cl, sz, rfl, hs⟩, hlen, hx⟩ := hl
  obtain ⟨⟨nl1, c01, sz1, rfl, hs1⟩, hlen1, hx1⟩ := hS
  obtain ⟨⟨nl2, c02, sz2, rfl, hs2'⟩, hlen2, hx2⟩ := hF
  obtain ⟨⟨nl3, c3, sz3, rfl, hs3⟩, hlen3, hx3⟩ := hV
  obtain ⟨hp, hc, hcl⟩ := hv
  have hszv := sz_of hs3 hp
  subst hszv
  have htn : ∀ H k, frz H k 3 true (AV.agg [.imm nl1 c01 sz1 (S.map I), .imm nl2 c02 sz2 (F.map specV), .imm nl cl sz (xs.map lvV), .imm nl3 c3 1 (Vs.map I)]) = .agg [.imm nl1 c01 sz1 (S.map I), .imm nl2 c02 sz2 (F.map specV), .imm nl cl sz (xs.map lvV), .imm nl3 c3 1 (Vs.map I)] := fun H k => by simp
  obtain ⟨gq, o0, o1', od, es, vr, oe, hE, hvr1, hvr2⟩ := id hP
  have c2 := hw.o2
  have hKl := hw.len
  rw [show nd + 2 + 2 = nd + 4 by omega] at c2
  have hone := hE.one
  have hEl := hE.1
  apply Read1_call
  repeat first | refine AWp.seq ?_ | refine AWp.block ?_
  refine AWp.ops ?_
  simp [od, o0, hp]
  refine (Clone_lent c2 hcl).mono ?_
  intro q K1 hq
  have hK1 : ∃ G, K1 = K ++ G ∧ (q = .imm false none 1 [] ∧ c = [] ∨ q = .slc (nd + 7) c.length 0 c.length none ∧ K1[nd + 7]? = some (intOb c)) := by
    rcases hq with ⟨h1, h2, h3⟩ | ⟨h1, h2, h3⟩
    · exact ⟨[], by simp [h3], .inl ⟨h2, h1⟩⟩
    · refine ⟨[intOb c], h3, .inr ⟨by rw [h2, hKl], ?_⟩⟩
      rw [h3, ← hKl]
      simp
  obtain ⟨G, rfl, hq⟩ := hK1
  have gA : ∀ i, i < nd + 7 → (K ++ G)[i]? = K[i]? := fun i hi => List.getElem?_append_left (by omega)
  have od1 : (K ++ G)[nd]? = K[nd]? := gA _ (by omega)
  have oe1 : (K ++ G)[nd + 1]? = K[nd + 1]? := gA _ (by omega)
  have od2 : ∀ o, ((K ++ G).set (nd + 1) o)[nd]? = (K ++ G)[nd]? := fun o => List.getElem?_set_ne (by omega)
  have b1 : (W.length + 1) * 32 ≤ 140737488355328 := by omega
  have b2 : W.length + 1 ≤ 9223372036854775807 := by omega
  have hEl2 : es.length = W.length := hEl
  have gL : ∀ o, (K ++ G ++ [o])[(K ++ G).length]? = some o := fun o => by simp
  have od3 : ∀ o, (K ++ G ++ [o])[nd]? = (K ++ G)[nd]? := fun o => List.getElem?_append_left (by simp; omega)
  have oe3 : ∀ o, (K ++ G ++ [o])[nd + 1]? = (K ++ G)[nd + 1]? := fun o => List.getElem?_append_left (by simp; omega)
  have od4 : ∀ o o', ((K ++ G ++ [o]).set (nd + 1) o')[nd]? = (K ++ G ++ [o])[nd]? := fun o o' => List.getElem?_set_ne (by omega)
  have fin : ∀ (q : AV) (o : AObj), (∀ K2, (((K ++ G ++ [o]).set (nd + 1) ⟨52, 2, es ++ [.agg [q, I Vs[p]]], true, none⟩).set nd ⟨48, 2, [.agg [s, .slc (nd + 1) (W.length + 1) 0 (W.length + 1) none]], true, none⟩) = K2 → ∃ a, frz K2 (nd + 7) 2 true q = a ∧ ISl a c) →
      ∃ K', Weak K.length [AV.tup []] (((K ++ G ++ [o]).set (nd + 1) ⟨52, 2, es ++ [.agg [q, I Vs[p]]], true, none⟩).set nd ⟨48, 2, [.agg [s, .slc (nd + 1) (W.length + 1) 0 (W.length + 1) none]], true, none⟩) [AV.tup []] K' ∧
        WInv (nd + 2) (nd + 7) (.agg [.imm nl1 c01 sz1 (S.map I), .imm nl2 c02 sz2 (F.map specV), .imm nl cl sz (xs.map lvV), .imm nl3 c3 1 (Vs.map I)]) 50 [.ptr nd 1 0 0, .ptr 0 1 0 0] ty1 ty3 ty4 K' c ∧
        RdP nd s (.agg [.imm nl1 c01 sz1 (S.map I), .imm nl2 c02 sz2 (F.map specV), .imm nl cl sz (xs.map lvV), .imm nl3 c3 1 (Vs.map I)]) K' (rdStep Vs W c p) := by
    intro q o hq
    obtain ⟨o1, ho1⟩ : ∃ o1 : AObj, o1 = ⟨52, 2, es ++ [.agg [q, I Vs[p]]], true, none⟩ := ⟨_, rfl⟩
    obtain ⟨o2, ho2⟩ : ∃ o2 : AObj, o2 = ⟨48, 2, [.agg [s, .slc (nd + 1) (W.length + 1) 0 (W.length + 1) none]], true, none⟩ := ⟨_, rfl⟩
    rw [← ho1, ← ho2] at hq ⊢
    have eK : ((K ++ G ++ [o]).set (nd + 1) o1).set nd o2 = ((K.set (nd + 1) o1).set nd o2) ++ (G ++ [o]) := by
      rw [List.append_assoc, List.set_append_left _ _ (by omega), List.set_append_left _ _ (by simp; omega)]
    rw [eK] at hq ⊢
    obtain ⟨a, ha, hac⟩ := hq _ rfl
    refine ⟨frzH (((K.set (nd + 1) o1).set nd o2) ++ (G ++ [o])) (nd + 7) 3, by simpa using Weak.freeze (nb := K.length) (fr := [AV.tup []]) (H := ((K.set (nd + 1) o1).set nd o2) ++ (G ++ [o])) (nd + 7) 3 (by omega), ?_, ?_⟩
    · refine ((hw.setlt (by omega) o1).setlt (by omega) o2).frz (G ++ [o]) htn ?_
      intro H
      simp
    · have L : ∀ i, i < nd + 7 → (((K.set (nd + 1) o1).set nd o2) ++ (G ++ [o]))[i]? = ((K.set (nd + 1) o1).set nd o2)[i]? := fun i hi => List.getElem?_append_left (by simp; omega)
      refine ⟨gq, ?_, ?_, ?_, es ++ [.agg [a, I Vs[p]]], none, ?_, ?_, (by simp), by simp⟩
      · have e : (((K.set (nd + 1) o1).set nd o2) ++ (G ++ [o]))[0]? = some (tnO (.agg [.imm nl1 c01 sz1 (S.map I), .imm nl2 c02 sz2 (F.map specV), .imm nl cl sz (xs.map lvV), .imm nl3 c3 1 (Vs.map I)])) := by
          rw [L _ (by omega), gs_ne (by omega), gs_ne (by omega)]; exact o0
        rw [frzH_of 3 (by omega) e]; simp [htn]
      · have e : (((K.set (nd + 1) o1).set nd o2) ++ (G ++ [o]))[1]? = some ⟨48, 2, [.agg [.imm true none 0 [], .imm true none 0 []]], true, none⟩ := by
          rw [L _ (by omega), gs_ne (by omega), gs_ne (by omega)]; exact o1'
        rw [frzH_of 3 (by omega) e]; simp
      · have e : (((K.set (nd + 1) o1).set nd o2) ++ (G ++ [o]))[nd]? = some o2 := by
          rw [L _ (by omega), List.getElem?_set_self (by simp; omega)]
        rw [frzH_of 3 (by omega) e, ho2]
        simp [rdStep, hs2]
      · have e : (((K.set (nd + 1) o1).set nd o2) ++ (G ++ [o]))[nd + 1]? = some o1 := by
          rw [L _ (by omega), gs_ne (by omega), List.getElem?_set_self (by omega)]
        rw [frzH_of 3 (by omega) e, ← ha, ho1]
        simp only [List.map_append, hE.frz, List.map_cons, List.map_nil, frz_agg, frz_sc]
      · have hv : Vs.getD p 0 = Vs[p] := by simp [hp]
        rw [rdStep, hv]
        exact hE.snoc hac
  obtain ⟨KG, hKG⟩ : ∃ KG, KG = K ++ G := ⟨_, rfl⟩
  rw [← hKG] at gL od3 oe3 od4 od1 oe1 hq fin ⊢
  have hKGl : KG.length = (nd + 7) + G.length := by rw [hKG]; simp; omega
  rcases hq with ⟨rfl, hc0⟩ | ⟨rfl, hG⟩
  · simp [od1, od, oe1, oe, od3, oe3, od4, gL, hone, hEl, elems, b1, b2, hp]
    refine ⟨⟨G, hKG⟩, ?_⟩
    obtain ⟨K', w, h1, h2⟩ := fin (.imm false none 1 []) ⟨52, 2, [.agg [.imm false none 1 [], I Vs[p]]], true, none⟩ (fun K2 _ => ⟨_, rfl, by rw [hc0]; simp; exact ISl.of (xs := []) _ (by simp) (by simp)⟩)
    exact ⟨[], .tup [], K', rfl, by simpa [tupV] using w, rfl, h1, h2⟩
  · simp [od1, od, oe1, oe, od3, oe3, od4, gL, hone, hEl, elems, b1, b2, hp]
    refine ⟨⟨G, hKG⟩, ?_⟩
    obtain ⟨K', w, h1, h2⟩ := fin (.slc (nd + 7) c.length 0 c.length none) ⟨52, 2, [.agg [.slc (nd + 7) c.length 0 c.length none, I Vs[p]]], true, none⟩ (fun K2 hK2 => by
      have e : K2[nd + 7]? = some (intOb c) := by
        have hlt := (List.getElem?_eq_some_iff.1 hG).1
        rw [← hK2, List.getElem?_set_ne (by omega), List.getElem?_set_ne (by omega), List.getElem?_append_left (by omega)]
        exact hG
      exact ⟨_, rfl, by simp [e]; exact ISl.of _ hc.1 hc.2⟩)
    exact ⟨[], .tup [], K', rfl, by simpa [tupV] using w, rfl, h1, h2⟩
end Go.Fw
namespace Go.Fw
open Go Go.RowKit Go.Proofs
set_option maxRecDepth 100000
set_option linter.unusedSimpArgs false
set_option linter.unusedVariables false
theorem Clone_pure {a : AV} {xs : List Int} (ha : ISl a xs) (hl : xs.length ≤ 1000000) : ACalls Try.prog 48 [a] [] fun r H' => H' = [] ∧ ISl r xs := by
  obtain ⟨⟨nl, c, sz, rfl, hs⟩, hlen, hx⟩ := ha
  refine ((Clone_spec (c := c) hs hl).frozen 3).mono ?_
  rintro q H' ⟨rfl, r, G, hR, rfl⟩
  refine ⟨rfl, ?_⟩
  unfold cloneR at hR
  split at hR
  · rename_i h
    obtain ⟨rfl, rfl⟩ := hR
    rw [hs.1 h]
    simp
    exact ISl.nil
  · split at hR
    · rename_i h
      obtain ⟨rfl, rfl⟩ := hR
      rw [h]
      simp
      exact ISl.of (xs := []) _ (by simp) (by simp)
    · obtain ⟨rfl, rfl⟩ := hR
      simp
      exact ISl.of _ (by omega) hx
theorem rd_len (Vs : List Int) : ∀ (L : List (List Int × Nat)) (W : List (List Int × Int)), (L.foldl (fun s q => rdStep Vs s q.1 q.2) W).length = W.length + L.length
  | [], W => rfl
  | q :: L, W => by rw [List.foldl_cons, rd_len Vs L]; simp [rdStep]; omega
theorem rd_list (Vs : List Int) : ∀ (L : List (List Int × Nat)) (W : List (List Int × Int)), L.foldl (fun s q => rdStep Vs s q.1 q.2) W = W ++ L.map fun q => (q.1, Vs.getD q.2 0)
  | [], W => by simp
  | q :: L, W => by rw [List.foldl_cons, rd_list Vs L]; simp [rdStep]
theorem rd_good {V0 : List Int → Nat → Prop} {Vs : List Int} {B : Nat} : ∀ {xs : List LvA} {fs : List (Int × Int × Int)} {c : List Int} {p : Nat}, Good V0 xs fs c p → ∀ (W : List (List Int × Int)), W.length + (walkL xs fs c p).length ≤ B + 1 →
    GoodS (fun W c p => V0 c p ∧ W.length ≤ B) (rdStep Vs) xs fs c p W
  | [], fs, c, p, h, W, hW => by
    refine ⟨h, ?_⟩
    cases fs <;> simp [walkL] at hW <;> omega
  | x :: xs, [], c, p, h, W, hW => h.elim
  | x :: xs, f :: fs, c, p, h, W, hW => by
    refine ⟨h.1, fun a ha => ⟨(h.2 _ (List.getElem_mem ha)).1, rd_good (h.2 _ (List.getElem_mem ha)).2 _ ?_⟩⟩
    simp only [walkL] at hW
    have e : ((kidsF x.lv p).take a).foldl (fun s y => walkF (rdStep Vs) xs fs (stepC f c y.1) y.2.toNat s) W = (((kidsF x.lv p).take a).flatMap fun y => walkL xs fs (stepC f c y.1) y.2.toNat).foldl (fun s q => rdStep Vs s q.1 q.2) W := by
      rw [foldl_flat]
      exact foldl_same _ _ fun y _ s => walkF_list (rdStep Vs) xs fs _ _ s
    rw [e, rd_len]
    have hsp : (kidsF x.lv p).flatMap (fun y => walkL xs fs (stepC f c y.1) y.2.toNat) = ((kidsF x.lv p).take a).flatMap (fun y => walkL xs fs (stepC f c y.1) y.2.toNat) ++ (walkL xs fs (stepC f c (kidsF x.lv p)[a].1) (kidsF x.lv p)[a].2.toNat ++ ((kidsF x.lv p).drop (a + 1)).flatMap (fun y => walkL xs fs (stepC f c y.1) y.2.toNat)) := by
      conv => lhs; rw [← List.take_append_drop a (kidsF x.lv p), List.flatMap_append, List.drop_eq_getElem_cons ha, List.flatMap_cons]
    rw [hsp] at hW
    simp only [List.length_append] at hW
    omega
def entF (F : List (Int × Int × Int)) (xs : List LvA) (S Vs : List Int) : List (List Int × Int) := (walkL xs F (List.replicate S.length 0) 0).map fun q => (q.1, Vs.getD q.2 0)
set_option maxHeartbeats 2000000 in
theorem sRead_ok {sh f l v : AV} {S Vs : List Int} {F : List (Int × Int × Int)} {xs : List LvA} (hS : ISl sh S) (hF : Sp f F) (hl : Ls l xs) (hV : ISl v Vs) (hn : xs.length ≤ 1000) (hfn : F.length ≤ 1000) (hVl : Vs.length ≤ 1000000) (h : tnCheck S F xs Vs = 0) :
    ACalls Try.prog 20 [.agg [sh, f, l, v]] [] fun r H' => H' = [] ∧ ∃ s e, r = .tup [.agg [s, e], I 0] ∧ ISl s S ∧ EnL e (entF F xs S Vs) := by
  have hS' := hS
  have hF' := hF
  have hl' := hl
  have hV' := hV
  obtain ⟨⟨nl, cl, sz, rfl, hs⟩, hlen, hx⟩ := hl
  obtain ⟨⟨nl1, c01, sz1, rfl, hs1⟩, hlen1, hx1⟩ := hS
  obtain ⟨⟨nl2, c02, sz2, rfl, hs2⟩, hlen2, hx2⟩ := hF
  obtain ⟨⟨nl3, c3, sz3, rfl, hs3⟩, hlen3, hx3⟩ := hV
  have htn : ∀ H k, frz H k 3 true (AV.agg [.imm nl1 c01 sz1 (S.map I), .imm nl2 c02 sz2 (F.map specV), .imm nl cl sz (xs.map lvV), .imm nl3 c3 sz3 (Vs.map I)]) = .agg [.imm nl1 c01 sz1 (S.map I), .imm nl2 c02 sz2 (F.map specV), .imm nl cl sz (xs.map lvV), .imm nl3 c3 sz3 (Vs.map I)] := fun H k => by simp
  have hS4 : S.length ≤ 1000 := by
    have h0 := (tnCheck_ok h).1
    have := cells_len (sizesF_ok h0 (fun s hs => (hx2 s hs).2.2.2)).1
    omega
  have hfl : F.length = xs.length := (tnCheck_ok h).2.1.symm
  obtain ⟨w1, w2, w3⟩ := tn_walk hx1 h
  have hWl : (walkL xs F (List.replicate S.length 0) 0).length = Vs.length := by
    have := congrArg List.length w1
    simpa using this
  have hgood : GoodS (fun W c p => RdV Vs c p ∧ W.length ≤ 1048576) (rdStep Vs) xs F (List.replicate S.length 0) 0 [] := by
    refine rd_good ((tn_good hx1 h).mono ?_) [] (by simp; omega)
    rintro c p ⟨hi, hp⟩
    refine ⟨hp, ⟨by rw [hi.1]; exact hlen1, fun x hxc => ?_⟩, by rw [hi.1]; exact hS4⟩
    obtain ⟨i, hil, rfl⟩ := List.mem_iff_getElem.1 hxc
    have h2 := hi.2 i (by rw [← hi.1]; exact hil)
    have e1 : c.getD i 0 = c[i] := by simp [hil]
    have hiS : i < S.length := by rw [← hi.1]; exact hil
    have e2 : S.getD i 0 = S[i] := by simp [hiS]
    have := hx1 S[i] (List.getElem_mem hiS)
    rw [e1, e2] at h2
    omega
  have base : ACalls Try.prog 20 [.agg [.imm nl1 c01 sz1 (S.map I), .imm nl2 c02 sz2 (F.map specV), .imm nl cl sz (xs.map lvV), .imm nl3 c3 sz3 (Vs.map I)]] [] fun r G => ∃ s, ISl s S ∧ r = .tup [.agg [s, .slc 3 (entF F xs S Vs).length 0 (entF F xs S Vs).length none], I 0] ∧
      ∃ es vr, G[3]? = some ⟨52, 2, es, true, vr⟩ ∧ Ents es (entF F xs S Vs) ∧ (vr = some true → entF F xs S Vs = []) ∧ vr ≠ some false := by
    apply sRead_call
    repeat first | refine AWp.seq ?_ | refine AWp.block ?_
    refine AWp.ops ?_
    simp
    repeat first | refine AWp.seq ?_ | refine AWp.block ?_
    refine AWp.ops ?_
    simp
    refine ((sCheck_spec hS' hF' hl' hV' hn hfn).pure (by simp) (by rintro r rfl; simp) _).mono ?_
    rintro r H' ⟨rfl, rfl⟩
    simp
    repeat first | refine AWp.seq ?_ | refine AWp.block ?_
    refine AWp.ops ?_
    simp
    refine AWp.cond (b := false) (by simp [h]) (fun h => by cases h) (fun _ => ?_)
    refine AWp.skip ?_
    simp only [qSeq]
    repeat first | refine AWp.seq ?_ | refine AWp.block ?_
    refine AWp.ops ?_
    simp
    refine ((Clone_pure hS' (by omega)).pure (by simp) (by rintro r ⟨⟨nl, c, sz, rfl, _⟩, _⟩; simp) _).mono ?_
    rintro r H' ⟨rfl, hr⟩
    have hr' := hr
    obtain ⟨⟨nl5, c5, sz5, rfl, hs5⟩, hlen5, hx5⟩ := hr
    simp
    refine AWp.weak (Weak.ownIn 2 0 1 52 2 (by omega) (o := ⟨48, 2, [.agg [.imm nl5 c5 sz5 (S.map I), .imm true none 0 []]], true, none⟩) (cs := [.imm nl5 c5 sz5 (S.map I), .imm true none 0 []]) (c := none) (sz' := 0) (by simp) rfl (by simp) (by simp)) ?_
    simp
    repeat first | refine AWp.seq ?_ | refine AWp.block ?_
    refine AWp.ops ?_
    simp
    refine (walk_spec (n0 := 4) (P := fun K W => RdP 2 (.imm nl5 c5 sz5 (S.map I)) (.agg [.imm nl1 c01 sz1 (S.map I), .imm nl2 c02 sz2 (F.map specV), .imm nl cl sz (xs.map lvV), .imm nl3 c3 sz3 (Vs.map I)]) K W) (step := rdStep Vs) (V := fun W c p => RdV Vs c p ∧ W.length ≤ 1048576) (s := []) hS' hF' hl' hV' hfl hS4
      (fun K s o h => h.same fun i hi => gs_ne (by omega))
      (fun K s G hK h => (h.same fun i hi => List.getElem?_append_left (by omega)).frz htn (by simp) (by omega))
      (fun H => by simp)
      (fun ty1 ty3 ty4 K ws c p hw h hv => Read1_spec hS' hF' hl' hV' (by simp) hw h hv.1 hv.2)
      (fun K s G hK h => h.same fun i hi => List.getElem?_append_left (by omega))
      (fun K s hK h => h.frz htn (by simp) (by omega)) (by simp) ⟨by omega, rfl, rfl, rfl, [], some true, rfl, Ents.nil, by simp, by simp⟩ hgood).mono ?_
    rintro r K' ⟨rfl, hKl, hP'⟩
    rw [walkF_list, rd_list, List.nil_append] at hP'
    change RdP _ _ _ K' (entF F xs S Vs) at hP'
    simp
    obtain ⟨-, p0, p1, pd, es, vr, pe, q1, q2, q3⟩ := id hP'
    repeat first | refine AWp.seq ?_ | refine AWp.block ?_
    refine AWp.ops ?_
    simp [pd, p1]
    refine AWp.ret ?_
    simp
    refine retOk.of (by simp [gs_eq p1]; rfl) ?_
    simp
    refine ⟨_, hr', rfl, es, vr, pe, q1, q2, by simpa using q3⟩
  refine (base.frozen 4).mono ?_
  rintro q H' ⟨rfl, r, G, ⟨s, ⟨⟨nl5, c5, sz5, rfl, hs5⟩, hlen5, hx5⟩, rfl, es, vr, hG, q1, q2, q3⟩, rfl⟩
  have hel := q1.1
  have hes : es.map (frz G 0 1 false) = es := by
    apply List.ext_getElem (by simp)
    intro i h3 h4
    simp only [List.getElem_map]
    obtain ⟨a, ha, ⟨nl, c, sz, rfl, _⟩, _⟩ := q1.2 i h4 (by omega)
    rw [ha]
    simp
  refine ⟨rfl, .imm nl5 c5 sz5 (S.map I), ?_⟩
  match vr, q2, q3 with
  | some true, q2, _ =>
    have h3 := q2 rfl
    have h4 : es = [] := by rw [h3] at hel; simpa using hel
    refine ⟨.imm true none 2 [], by simp [hG, h3, h4], ⟨⟨nl5, c5, sz5, rfl, hs5⟩, hlen5, hx5⟩, true, none, 2, [], rfl, fun _ => h3, by simp, by rw [h3]; exact Ents.nil⟩
  | none, _, _ =>
    refine ⟨.imm false none 2 es, by simp [hG, hes, hel], ⟨⟨nl5, c5, sz5, rfl, hs5⟩, hlen5, hx5⟩, false, none, 2, es, rfl, by simp, by simp, q1⟩
  | some false, _, h => exact absurd rfl h
end Go.Fw
