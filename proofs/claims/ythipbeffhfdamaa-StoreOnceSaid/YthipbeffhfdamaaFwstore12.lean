import Derived.Test.YthipbeffhfdamaaFwdense1
import Derived.Test.YthipbeffhfdamaaFwown2
import Derived.Test.YthipbeffhfdamaaFwget1
namespace Go.Fw
open Go Go.RowKit Go.Proofs
set_option maxRecDepth 100000
set_option linter.unusedSimpArgs false
set_option linter.unusedVariables false

/-- Entries: places and numbers. -/
def Ents (es : List AV) (W : List (List Int × Int)) : Prop := es.length = W.length ∧ ∀ i (h : i < es.length) (h' : i < W.length), ∃ a, es[i] = .agg [a, I W[i].2] ∧ ISl a W[i].1
theorem Ents.nil : Ents [] [] := ⟨rfl, fun i h => by simp at h⟩
theorem Ents.snoc {es : List AV} {W : List (List Int × Int)} (h : Ents es W) {a : AV} {c : List Int} {v : Int} (ha : ISl a c) : Ents (es ++ [.agg [a, I v]]) (W ++ [(c, v)]) := by
  obtain ⟨h1, h2⟩ := h
  refine ⟨by simp [h1], fun i h3 h4 => ?_⟩
  by_cases hi : i < es.length
  · obtain ⟨b, hb, hb2⟩ := h2 i hi (by omega)
    rw [List.getElem_append_left hi, List.getElem_append_left (by omega)]
    exact ⟨b, hb, hb2⟩
  · have : i = es.length := by simp at h3; omega
    subst this
    refine ⟨a, by simp [h1], by simp [h1]; exact ha⟩
theorem Ents.one {es : List AV} {W : List (List Int × Int)} (h : Ents es W) : allOneCell 2 es = true := by
  obtain ⟨h1, h2⟩ := h
  rw [allOneCell, List.all_eq_true]
  intro x hx
  obtain ⟨i, hi, rfl⟩ := List.mem_iff_getElem.1 hx
  obtain ⟨a, ha, ⟨nl, c, sz, rfl, _⟩, _⟩ := h2 i hi (by omega)
  rw [ha]
  simp [okEl, cellsOf]
theorem Ents.frz {es : List AV} {W : List (List Int × Int)} (h : Ents es W) (H : List AObj) (k n : Nat) (b : Bool) : es.map (frz H k (n + 2) b) = es := by
  obtain ⟨h1, h2⟩ := h
  apply List.ext_getElem (by simp)
  intro i h3 h4
  simp only [List.getElem_map]
  obtain ⟨a, ha, ⟨nl, c, sz, rfl, _⟩, _⟩ := h2 i h4 (by omega)
  rw [ha]
  simp

/-- The objects of Read: the tensor, what is returned, what is made, its entries. -/
structure RdP (nd : Nat) (s tn : AV) (K : List AObj) (W : List (List Int × Int)) : Prop where
  gq : 2 ≤ nd
  o0 : K[0]? = some (tnO tn)
  o1 : K[1]? = some ⟨48, 2, [.agg [.imm true none 0 [], .imm true none 0 []]], true, none⟩
  od : K[nd]? = some ⟨48, 2, [.agg [s, .slc (nd + 1) W.length 0 W.length none]], true, none⟩
  oe : ∃ es vr, K[nd + 1]? = some ⟨52, 2, es, true, vr⟩ ∧ Ents es W ∧ (vr = some true → W = []) ∧ vr ≠ some false
theorem RdP.same {nd : Nat} {s tn : AV} {K K' : List AObj} {W : List (List Int × Int)} (h : RdP nd s tn K W) (hK : ∀ i, i ≤ nd + 1 → K'[i]? = K[i]?) : RdP nd s tn K' W := by
  have h2 := h.gq
  obtain ⟨es, vr, e1, e2⟩ := h.oe
  exact ⟨h2, by rw [hK _ (by omega)]; exact h.o0, by rw [hK _ (by omega)]; exact h.o1, by rw [hK _ (by omega)]; exact h.od, es, vr, by rw [hK _ (by omega)]; exact e1, e2⟩
theorem RdP.frz {nd : Nat} {s tn : AV} {K : List AObj} {W : List (List Int × Int)} (h : RdP nd s tn K W) (htn : ∀ H k, frz H k 3 true tn = tn) (hs : ∀ H k, frz H k 2 true s = s) {k : Nat} (hk : nd + 1 < k) : RdP nd s tn (frzH K k 3) W := by
  have h2 := h.gq
  obtain ⟨es, vr, e1, e2, e3⟩ := h.oe
  refine ⟨h2, ?_, ?_, ?_, es, vr, ?_, e2, e3⟩
  · rw [frzH_of 3 (by omega) h.o0]; simp [htn]
  · rw [frzH_of 3 (by omega) h.o1]; simp
  · rw [frzH_of 3 (by omega) h.od]; simp [hk, hs]
  · rw [frzH_of 3 (by omega) e1]
    simp only [e2.frz]

/-- A list of the call's own, told anew. -/
theorem Clone_lent {K : List AObj} {i : Nat} {c : List Int} (hi : K[i]? = some (intOb c)) (hl : c.length ≤ 1000) :
    ACalls Try.prog 48 [.slc i c.length 0 c.length none] K fun q K' => (c = [] ∧ q = .imm false (some 0) 1 [] ∧ K' = K) ∨ (c ≠ [] ∧ q = .slc K.length c.length 0 c.length none ∧ K' = K ++ [intOb c]) := by
  have h := (Clone_spec (nl := false) (c := none) (sz := 1) (xs := c) (by simp) (by omega))
  refine ACalls.mono (ACalls.lent 3 3 (H := K) (R := cloneR false c) ?_) ?_
  · simp [hi]
    exact h
  · rintro q K' ⟨r, G, hR, rfl, rfl⟩
    unfold cloneR at hR
    rw [if_neg (by simp)] at hR
    by_cases hc : c = []
    · rw [if_pos hc] at hR
      obtain ⟨rfl, rfl⟩ := hR
      exact .inl ⟨hc, by simp, by simp⟩
    · rw [if_neg hc] at hR
      obtain ⟨rfl, rfl⟩ := hR
      exact .inr ⟨hc, by simp, by simp⟩

/-- Which places and numbers there may be. -/
def RdV (Vs : List Int) (c : List Int) (p : Nat) : Prop := p < Vs.length ∧ InI c ∧ c.length ≤ 1000
def rdStep (Vs : List Int) (W : List (List Int × Int)) (c : List Int) (p : Nat) : List (List Int × Int) := W ++ [(c, Vs.getD p 0)]

def Read1_ac : AC := (.ops [⟨(some 6), none, (.k (.fad 1 (.t 2)))⟩, ⟨(some 7), none, (.k (.ld 1 false (.t 6)))⟩, ⟨(some 8), none, (.k (.mov (.t 0)))⟩, ⟨(some 10), none, (.k (.fad 3 (.t 3)))⟩, ⟨(some 11), none, (.k (.ld 1 false (.t 10)))⟩, ⟨(some 12), none, (.k (.mov (.t 1)))⟩, ⟨(some 13), none, (.k (.iad 1 (.t 11) (.t 12)))⟩, ⟨(some 14), none, (.k (.ld 1 false (.t 13)))⟩, ⟨(some 9), none, (.call true (.c (.fn (.func 48) [] [])) [(.t 8)])⟩, ⟨(some 15), none, (.k (.mk [(.imm true none 0 []), (.sc (.int .i64 0))] [(0, (1, (.t 9))), (1, (1, (.t 14)))]))⟩, ⟨(some 16), none, (.k (.litO 52 2 [(.t 15)]))⟩, ⟨(some 17), none, (.k (.app 52 2 32 (.t 7) (.t 16)))⟩, ⟨(some 18), none, (.k (.fad 1 (.t 2)))⟩, ⟨none, none, (.k (.st 1 (.t 18) (.t 17)))⟩])
theorem Read1_call {args : List AV} {H : List AObj} {R : AV → List AObj → Prop} (h : AWp Try.prog [16] H.length Read1_ac (bodyQ H.length [] R) (args ++ List.replicate (19 - args.length) .und) H) : ACalls Try.prog 50 args H R :=
  ACalls.of_fn Try.func50 rfl (by kernel_rfl) rfl Try.ntmps50 h

set_option maxHeartbeats 2000000 in
theorem Read1_spec {nd : Nat} {s sh f l v : AV} {S Vs : List Int} {F : List (Int × Int × Int)} {xs : List LvA} (hS : ISl sh S) (hF : Sp f F) (hl : Ls l xs) (hV : ISl v Vs) (hs2 : ∀ H k, frz H k 2 true s = s) {ty1 ty3 ty4 : Nat} {K : List AObj} {W : List (List Int × Int)} {c : List Int} {p : Nat}
    (hw : WInv (nd + 2) (nd + 7) (.agg [sh, f, l, v]) 50 [.ptr nd 1 0 0, .ptr 0 1 0 0] ty1 ty3 ty4 K c) (hP : RdP nd s (.agg [sh, f, l, v]) K W) (hv : RdV Vs c p) (hWl : W.length ≤ 1048576) :
    ACalls Try.prog 50 [.slc (nd + 4) c.length 0 c.length none, I p, .ptr nd 1 0 0, .ptr 0 1 0 0] K fun r K' => r = .tup [] ∧ WInv (nd + 2) (nd + 7) (.agg [sh, f, l, v]) 50 [.ptr nd 1 0 0, .ptr 0 1 0 0] ty1 ty3 ty4 K' c ∧ RdP nd s (.agg [sh, f, l, v]) K' (rdStep Vs W c p) := by
  obtain ⟨⟨nl, cl, sz, rfl, hs⟩, hlen, hx⟩ := hl
  obtain ⟨⟨nl1, c01, sz1, rfl, hs1⟩, hlen1, hx1⟩ := hS
  obtain ⟨⟨nl2, c02, sz2, rfl, hs2'⟩, hlen2, hx2⟩ := hF
  obtain ⟨⟨nl3, c3, sz3, rfl, hs3⟩, hlen3, hx3⟩ := hV
  obtain ⟨hp, hc, hcl⟩ := hv
  have hszv := sz_of hs3 hp
  subst hszv
  have htn : ∀ H k, frz H k 3 true (AV.agg [.imm nl1 c01 sz1 (S.map I), .imm nl2 c02 sz2 (F.map specV), .imm nl cl sz (xs.map lvV), .imm nl3 c3 1 (Vs.map I)]) = .agg [.imm nl1 c01 sz1 (S.map I), .imm nl2 c02 sz2 (F.map specV), .imm nl cl sz (xs.map lvV), .imm nl3 c3 1 (Vs.map I)] := fun H k => by simp
  obtain ⟨gq, o0, o1', od, es, vr, oe, hE, hvr1, hvr2⟩ := id hP
  have c2 := hw.o2
  have hKl := hw.len
  rw [show nd + 2 + 2 = nd + 4 by omega] at c2
  have hone := hE.one
  have hEl := hE.1
  apply Read1_call
  repeat first | refine AWp.seq ?_ | refine AWp.block ?_
  refine AWp.ops ?_
  simp [od, o0, hp]
  refine (Clone_lent c2 hcl).mono ?_
  intro q K1 hq
  have hK1 : ∃ G, K1 = K ++ G ∧ (q = .imm false (some 0) 1 [] ∧ c = [] ∨ q = .slc (nd + 7) c.length 0 c.length none ∧ K1[nd + 7]? = some (intOb c)) := by
    rcases hq with ⟨h1, h2, h3⟩ | ⟨h1, h2, h3⟩
    · exact ⟨[], by simp [h3], .inl ⟨h2, h1⟩⟩
    · refine ⟨[intOb c], h3, .inr ⟨by rw [h2, hKl], ?_⟩⟩
      rw [h3, ← hKl]
      simp
  obtain ⟨G, rfl, hq⟩ := hK1
  have gA : ∀ i, i < nd + 7 → (K ++ G)[i]? = K[i]? := fun i hi => List.getElem?_append_left (by omega)
  have od1 : (K ++ G)[nd]? = K[nd]? := gA _ (by omega)
  have oe1 : (K ++ G)[nd + 1]? = K[nd + 1]? := gA _ (by omega)
  have od2 : ∀ o, ((K ++ G).set (nd + 1) o)[nd]? = (K ++ G)[nd]? := fun o => List.getElem?_set_ne (by omega)
  have b1 : (W.length + 1) * 32 ≤ 140737488355328 := by omega
  have b2 : W.length + 1 ≤ 9223372036854775807 := by omega
  have hEl2 : es.length = W.length := hEl
  have gL : ∀ o, (K ++ G ++ [o])[(K ++ G).length]? = some o := fun o => by simp
  have od3 : ∀ o, (K ++ G ++ [o])[nd]? = (K ++ G)[nd]? := fun o => List.getElem?_append_left (by simp; omega)
  have oe3 : ∀ o, (K ++ G ++ [o])[nd + 1]? = (K ++ G)[nd + 1]? := fun o => List.getElem?_append_left (by simp; omega)
  have od4 : ∀ o o', ((K ++ G ++ [o]).set (nd + 1) o')[nd]? = (K ++ G ++ [o])[nd]? := fun o o' => List.getElem?_set_ne (by omega)
  have fin : ∀ (q : AV) (o : AObj), (∀ K2, (((K ++ G ++ [o]).set (nd + 1) ⟨52, 2, es ++ [.agg [q, I Vs[p]]], true, none⟩).set nd ⟨48, 2, [.agg [s, .slc (nd + 1) (W.length + 1) 0 (W.length + 1) none]], true, none⟩) = K2 → ∃ a, frz K2 (nd + 7) 2 true q = a ∧ ISl a c) →
      ∃ K', Weak K.length [AV.tup []] (((K ++ G ++ [o]).set (nd + 1) ⟨52, 2, es ++ [.agg [q, I Vs[p]]], true, none⟩).set nd ⟨48, 2, [.agg [s, .slc (nd + 1) (W.length + 1) 0 (W.length + 1) none]], true, none⟩) [AV.tup []] K' ∧
        WInv (nd + 2) (nd + 7) (.agg [.imm nl1 c01 sz1 (S.map I), .imm nl2 c02 sz2 (F.map specV), .imm nl cl sz (xs.map lvV), .imm nl3 c3 1 (Vs.map I)]) 50 [.ptr nd 1 0 0, .ptr 0 1 0 0] ty1 ty3 ty4 K' c ∧
        RdP nd s (.agg [.imm nl1 c01 sz1 (S.map I), .imm nl2 c02 sz2 (F.map specV), .imm nl cl sz (xs.map lvV), .imm nl3 c3 1 (Vs.map I)]) K' (rdStep Vs W c p) := by
    intro q o hq
    obtain ⟨o1, ho1⟩ : ∃ o1 : AObj, o1 = ⟨52, 2, es ++ [.agg [q, I Vs[p]]], true, none⟩ := ⟨_, rfl⟩
    obtain ⟨o2, ho2⟩ : ∃ o2 : AObj, o2 = ⟨48, 2, [.agg [s, .slc (nd + 1) (W.length + 1) 0 (W.length + 1) none]], true, none⟩ := ⟨_, rfl⟩
    rw [← ho1, ← ho2] at hq ⊢
    have eK : ((K ++ G ++ [o]).set (nd + 1) o1).set nd o2 = ((K.set (nd + 1) o1).set nd o2) ++ (G ++ [o]) := by
      rw [List.append_assoc, List.set_append_left _ _ (by omega), List.set_append_left _ _ (by simp; omega)]
    rw [eK] at hq ⊢
    obtain ⟨a, ha, hac⟩ := hq _ rfl
    refine ⟨frzH (((K.set (nd + 1) o1).set nd o2) ++ (G ++ [o])) (nd + 7) 3, by simpa using Weak.freeze (nb := K.length) (fr := [AV.tup []]) (H := ((K.set (nd + 1) o1).set nd o2) ++ (G ++ [o])) (nd + 7) 3 (by omega), ?_, ?_⟩
    · refine ((hw.setlt (by omega) o1).setlt (by omega) o2).frz (G ++ [o]) htn ?_
      intro H
      simp
    · have L : ∀ i, i < nd + 7 → (((K.set (nd + 1) o1).set nd o2) ++ (G ++ [o]))[i]? = ((K.set (nd + 1) o1).set nd o2)[i]? := fun i hi => List.getElem?_append_left (by simp; omega)
      refine ⟨gq, ?_, ?_, ?_, es ++ [.agg [a, I Vs[p]]], none, ?_, ?_, (by simp), by simp⟩
      · have e : (((K.set (nd + 1) o1).set nd o2) ++ (G ++ [o]))[0]? = some (tnO (.agg [.imm nl1 c01 sz1 (S.map I), .imm nl2 c02 sz2 (F.map specV), .imm nl cl sz (xs.map lvV), .imm nl3 c3 1 (Vs.map I)])) := by
          rw [L _ (by omega), gs_ne (by omega), gs_ne (by omega)]; exact o0
        rw [frzH_of 3 (by omega) e]; simp [htn]
      · have e : (((K.set (nd + 1) o1).set nd o2) ++ (G ++ [o]))[1]? = some ⟨48, 2, [.agg [.imm true none 0 [], .imm true none 0 []]], true, none⟩ := by
          rw [L _ (by omega), gs_ne (by omega), gs_ne (by omega)]; exact o1'
        rw [frzH_of 3 (by omega) e]; simp
      · have e : (((K.set (nd + 1) o1).set nd o2) ++ (G ++ [o]))[nd]? = some o2 := by
          rw [L _ (by omega), List.getElem?_set_self (by simp; omega)]
        rw [frzH_of 3 (by omega) e, ho2]
        simp [rdStep, hs2]
      · have e : (((K.set (nd + 1) o1).set nd o2) ++ (G ++ [o]))[nd + 1]? = some o1 := by
          rw [L _ (by omega), gs_ne (by omega), List.getElem?_set_self (by omega)]
        rw [frzH_of 3 (by omega) e, ← ha, ho1]
        simp only [List.map_append, hE.frz, List.map_cons, List.map_nil, frz_agg, frz_sc]
      · have hv : Vs.getD p 0 = Vs[p] := by simp [hp]
        rw [rdStep, hv]
        exact hE.snoc hac
  obtain ⟨KG, hKG⟩ : ∃ KG, KG = K ++ G := ⟨_, rfl⟩
  rw [← hKG] at gL od3 oe3 od4 od1 oe1 hq fin ⊢
  have hKGl : KG.length = (nd + 7) + G.length := by rw [hKG]; simp; omega
  rcases hq with ⟨rfl, hc0⟩ | ⟨rfl, hG⟩
  · simp [od1, od, oe1, oe, od3, oe3, od4, gL, hone, hEl, elems, b1, b2, hp]
    refine ⟨⟨G, hKG⟩, ?_⟩
    obtain ⟨K', w, h1, h2⟩ := fin (.imm false (some 0) 1 []) ⟨52, 2, [.agg [.imm false (some 0) 1 [], I Vs[p]]], true, none⟩ (fun K2 _ => ⟨_, rfl, by rw [hc0]; simp; exact ISl.of (xs := []) _ (by simp) (by simp)⟩)
    exact ⟨[], .tup [], K', rfl, by simpa [tupV] using w, rfl, h1, h2⟩
  · simp [od1, od, oe1, oe, od3, oe3, od4, gL, hone, hEl, elems, b1, b2, hp]
    refine ⟨⟨G, hKG⟩, ?_⟩
    obtain ⟨K', w, h1, h2⟩ := fin (.slc (nd + 7) c.length 0 c.length none) ⟨52, 2, [.agg [.slc (nd + 7) c.length 0 c.length none, I Vs[p]]], true, none⟩ (fun K2 hK2 => by
      have e : K2[nd + 7]? = some (intOb c) := by
        have hlt := (List.getElem?_eq_some_iff.1 hG).1
        rw [← hK2, List.getElem?_set_ne (by omega), List.getElem?_set_ne (by omega), List.getElem?_append_left (by omega)]
        exact hG
      exact ⟨_, rfl, by simp [e]; exact ISl.of _ hc.1 hc.2⟩)
    exact ⟨[], .tup [], K', rfl, by simpa [tupV] using w, rfl, h1, h2⟩
end Go.Fw
