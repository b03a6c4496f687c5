import Derived.Test.YthipbeffhfdamaaFwrowo1
import Derived.Test.YthipbeffhfdamaaFwslices64
namespace Go.Fw
open Go Go.RowKit Go.Proofs
set_option maxRecDepth 100000
set_option linter.unusedSimpArgs false
set_option linter.unusedVariables false
def lvsO (b j : Nat) (K : List AObj) (es : List AV) (xs : List LvA) : Prop :=
  es.length = xs.length ∧ ∀ i (h : i < xs.length), ∃ p q, es[i]? = some (.agg [I xs[i].lv.k, I xs[i].lv.sz, p, q]) ∧ (i ≠ j → ISl p xs[i].lv.pos ∧ ISl q xs[i].lv.crd) ∧
    (i = j → ∃ d, b ≤ d ∧ rowO b (K.take d) p 3 1 (xs[i].lv.pos.map I) ∧ rowO d K q 3 1 (xs[i].lv.crd.map I))
theorem lvsO.one {b j : Nat} {K : List AObj} {es : List AV} {xs : List LvA} (h : lvsO b j K es xs) : allOneCell 4 es = true := by
  rw [allOneCell, List.all_eq_true]
  intro x hx
  obtain ⟨i, hi, rfl⟩ := List.mem_iff_getElem.1 hx
  obtain ⟨p, q, h1, h2, h3⟩ := h.2 i (by rw [← h.1]; exact hi)
  rw [List.getElem?_eq_getElem hi] at h1
  rw [Option.some.inj h1]
  by_cases hj : i = j
  · obtain ⟨d, _, a1, a2⟩ := h3 hj
    simp [a1.one, a2.one, okEl]
  · obtain ⟨⟨⟨_, _, _, rfl, _⟩, _⟩, ⟨⟨_, _, _, rfl, _⟩, _⟩⟩ := h2 hj
    simp [okEl]
theorem lvsO.snoc {b j : Nat} {K K' : List AObj} {es : List AV} {xs : List LvA} (h : lvsO b j K es xs) (hK : ∀ k o, b ≤ k → o.ty = 3 → (∃ l : List Int, o.es = l.map I) → K[k]? = some o → K'[k]? = some o) {x : LvA} {p q : AV}
    (h2 : xs.length ≠ j → ISl p x.lv.pos ∧ ISl q x.lv.crd) (h3 : xs.length = j → ∃ d, b ≤ d ∧ rowO b (K'.take d) p 3 1 (x.lv.pos.map I) ∧ rowO d K' q 3 1 (x.lv.crd.map I)) :
    lvsO b j K' (es ++ [.agg [I x.lv.k, I x.lv.sz, p, q]]) (xs ++ [x]) := by
  refine ⟨by simp [h.1], fun i hi => ?_⟩
  have hl := h.1
  by_cases hx : i < xs.length
  · obtain ⟨p, q, a1, a2, a3⟩ := h.2 i hx
    refine ⟨p, q, ?_, ?_, ?_⟩
    · rw [List.getElem?_append_left (by omega), List.getElem_append_left hx]; exact a1
    · rw [List.getElem_append_left hx]; exact a2
    · rw [List.getElem_append_left hx]
      intro e
      obtain ⟨d, c0, c1, c2⟩ := a3 e
      refine ⟨d, c0, c1.to fun k hk hK2 => ?_, c2.to fun k hk hK2 => ?_⟩
      · rw [List.getElem?_take] at hK2 ⊢
        split at hK2
        · rename_i hkd
          rw [if_pos hkd]
          exact hK k _ (by omega) rfl ⟨_, rfl⟩ hK2
        · cases hK2
      · exact hK k _ (by omega) rfl ⟨_, rfl⟩ hK2
  · have : i = xs.length := by simp at hi; omega
    subst this
    refine ⟨p, q, by rw [List.getElem?_append_right (by omega)]; simp [hl], ?_, ?_⟩
    · simpa using h2
    · simpa using h3
structure CpI (b o lO j : Nat) (H : List AObj) (a sh f v : AV) (S : List Int) (F : List (Int × Int × Int)) (V : List Int) (K : List AObj) (es : List AV) (xs : List LvA) (vr : Option Bool) : Prop where
  pre : K.take b = H
  bo : b + 1 < o
  ol : o < lO
  o0 : K[b]? = some (tnO a)
  o1 : ∃ cs, cs.length = 4 ∧ K[b + 1]? = some (tnO (.agg cs))
  oo : K[o]? = some (tnO (.agg [sh, f, .slc lO xs.length 0 xs.length none, v]))
  rs : rowO (b + 1) (K.take lO) sh 3 1 (S.map I)
  rf : rowO (b + 1) (K.take lO) f 43 3 (F.map specV)
  rv : rowO (b + 1) (K.take lO) v 2 1 (V.map I)
  lo : K[lO]? = some ⟨34, 4, es, true, vr⟩
  v1 : vr = some true → es = []
  v2 : vr ≠ some false
  lv : lvsO (lO + 1) j K es xs
theorem CpI.step {b o lO j : Nat} {H : List AObj} {a sh f v : AV} {S : List Int} {F : List (Int × Int × Int)} {V : List Int} {K : List AObj} {es : List AV} {xs : List LvA} {vr : Option Bool}
    (h : CpI b o lO j H a sh f v S F V K es xs vr) {g : AV → AV} (hg1 : ∀ n, g (I n) = I n) (hg2 : ∀ s, g (specV s) = specV s) (hg3 : g a = a) (hg4 : H.map (fun o => { o with es := o.es.map g }) = H) (hg5 : ∀ cs, ∃ cs', g (.agg cs) = .agg cs' ∧ cs'.length = cs.length) {K2 : List AObj}
    (h1 : ∀ k ob, k ≠ lO → k ≠ o → K[k]? = some ob → K2[k]? = some { ob with es := ob.es.map g }) {x : LvA} {p q : AV} (hlo : K2[lO]? = some ⟨34, 4, es ++ [.agg [I x.lv.k, I x.lv.sz, p, q]], true, none⟩)
    (hoo : K2[o]? = some (tnO (.agg [sh, f, .slc lO (xs.length + 1) 0 (xs.length + 1) none, v])))
    (h2 : xs.length ≠ j → ISl p x.lv.pos ∧ ISl q x.lv.crd) (h3 : xs.length = j → ∃ d, lO + 1 ≤ d ∧ rowO (lO + 1) (K2.take d) p 3 1 (x.lv.pos.map I) ∧ rowO d K2 q 3 1 (x.lv.crd.map I)) :
    CpI b o lO j H a sh f v S F V K2 (es ++ [.agg [I x.lv.k, I x.lv.sz, p, q]]) (xs ++ [x]) none := by
  have hbl : b ≤ K.length := by have := (List.getElem?_eq_some_iff.1 h.o0).1; omega
  have c1 := h.bo
  have c2 := h.ol
  have row : ∀ {ty sz : Nat} {l : List AV} {r : AV}, ty ≠ 27 → l.map g = l → rowO (b + 1) (K.take lO) r ty sz l → rowO (b + 1) (K2.take lO) r ty sz l := by
    intro ty sz l r hty hl hr
    refine hr.to fun k hk hK => ?_
    rw [List.getElem?_take] at hK ⊢
    split at hK
    · rename_i hkl
      rw [if_pos hkl, h1 k _ (by omega) ?_ hK]
      · simp [hl]
      · rintro rfl
        rw [h.oo] at hK
        simp at hK
        exact hty hK.1.symm
    · cases hK
  obtain ⟨y, hyl, hy⟩ := h.o1
  obtain ⟨y2, hy2, hyl2⟩ := hg5 y
  refine ⟨?_, c1, c2, ?_, ⟨y2, by omega, by rw [h1 (b + 1) _ (by omega) (by omega) hy]; simp [hy2]⟩, by simpa using hoo, row (by decide) (by rw [List.map_map]; exact List.map_congr_left fun n _ => hg1 n) h.rs, row (by decide) (by rw [List.map_map]; exact List.map_congr_left fun n _ => hg2 n) h.rf,
    row (by decide) (by rw [List.map_map]; exact List.map_congr_left fun n _ => hg1 n) h.rv, hlo, by simp, by simp, h.lv.snoc (fun k ob hk hty he hK => ?_) h2 h3⟩
  · apply List.ext_getElem?
    intro k
    rw [List.getElem?_take]
    split
    · rename_i hkb
      have e : H[k]? = K[k]? := by rw [← h.pre, List.getElem?_take, if_pos hkb]
      have hkl : k < K.length := by omega
      have e2 : K[k]? = some K[k] := List.getElem?_eq_getElem hkl
      have e3 := h1 k _ (by omega) (by omega) e2
      rw [e3]
      have e4 : (H.map (fun o => { o with es := o.es.map g }))[k]? = H[k]? := by rw [hg4]
      rw [List.getElem?_map, e, e2] at e4
      rw [e, e2]
      simpa using e4
    · rename_i hkb
      have : H.length ≤ b := by rw [← h.pre]; simp; omega
      rw [List.getElem?_eq_none (by omega)]
  · rw [h1 b _ (by omega) (by omega) h.o0]
    simp [hg3]
  · obtain ⟨l, hl⟩ := he
    rw [h1 k _ (by omega) ?_ hK]
    · obtain ⟨ty, sz, es', lv, vr'⟩ := ob
      simp only at hl
      subst hl
      simp only [List.map_map]
      congr 2
      exact List.map_congr_left fun n _ => hg1 n
    · rintro rfl
      rw [h.oo] at hK
      simp at hK
      rw [← hK] at hty
      simp at hty
theorem CpI.put1 {b o lO j : Nat} {H : List AObj} {a sh f v : AV} {S : List Int} {F : List (Int × Int × Int)} {V : List Int} {K : List AObj} {es : List AV} {xs : List LvA} {vr : Option Bool}
    (h : CpI b o lO j H a sh f v S F V K es xs vr) {y' : List AV} (hy' : y'.length = 4) : CpI b o lO j H a sh f v S F V (K.set (b + 1) (tnO (.agg y'))) es xs vr := by
  have c1 := h.bo
  have c2 := h.ol
  obtain ⟨y, -, hy⟩ := h.o1
  have row : ∀ {ty sz : Nat} {l : List AV} {r : AV}, ty ≠ 27 → rowO (b + 1) (K.take lO) r ty sz l → rowO (b + 1) ((K.set (b + 1) (tnO (.agg y'))).take lO) r ty sz l := by
    intro ty sz l r hty hr
    refine hr.to fun k hk hK => ?_
    rw [List.getElem?_take] at hK ⊢
    split at hK
    · rename_i hkl
      rw [if_pos hkl, gs_ne ?_]
      · exact hK
      · rintro rfl
        rw [hy] at hK
        simp at hK
        exact hty hK.1.symm
    · cases hK
  refine ⟨by rw [List.take_set_of_le (by omega)]; exact h.pre, c1, c2, by rw [gs_ne (by omega)]; exact h.o0, ⟨_, hy', gs_eq hy⟩, by rw [gs_ne (by omega)]; exact h.oo, row (by decide) h.rs, row (by decide) h.rf, row (by decide) h.rv, by rw [gs_ne (by omega)]; exact h.lo, h.v1, h.v2, h.lv.1, fun i hi => ?_⟩
  obtain ⟨p, q, a1, a2, a3⟩ := h.lv.2 i hi
  refine ⟨p, q, a1, a2, fun e => ?_⟩
  obtain ⟨d, d1, d2, d3⟩ := a3 e
  refine ⟨d, d1, ?_, d3.setlt (by omega) _⟩
  rw [List.take_set]
  exact d2.setlt (by omega) _
theorem lvsO.frzE {b j : Nat} {K : List AObj} {es : List AV} {xs : List LvA} (h : lvsO b j K es xs) {m : Nat} (hm : K.length ≤ m) (K' : List AObj) : es.map (frz K' m 3 true) = es := by
  apply List.ext_getElem (by simp)
  intro i h1 h2
  simp only [List.getElem_map]
  have hx : i < xs.length := by rw [← h.1]; exact h2
  obtain ⟨p, q, a1, a2, a3⟩ := h.2 i hx
  rw [List.getElem?_eq_getElem h2] at a1
  rw [Option.some.inj a1]
  by_cases hj : i = j
  · obtain ⟨d, _, c1, c2⟩ := a3 hj
    have c1' : rowO b K p 3 1 (xs[i].lv.pos.map I) := c1.to fun k _ hK => by
      rw [List.getElem?_take] at hK
      split at hK
      · exact hK
      · cases hK
    simp [c1'.frzA hm K' 1, c2.frzA hm K' 1]
  · obtain ⟨⟨⟨_, _, _, rfl, _⟩, _⟩, ⟨⟨_, _, _, rfl, _⟩, _⟩⟩ := a2 hj
    simp
def CpR (j : Nat) (T : Tn) (H : List AObj) (r : AV) (K : List AObj) : Prop :=
  ∃ o lO a sh f v es vr, CpI H.length o lO j H a sh f v T.sh T.f T.v K es T.l vr ∧ r = .agg [sh, f, .slc lO T.l.length 0 T.l.length none, v]
def Copy_12 : AC := (.seq (.ops [.o 27 (.fad 3 (.t 5)), .o 28 (.ld 1 false (.t 27)), .o 29 (.app 3 1 8 .z (.t 28)), .o 30 (.fad 3 (.t 5)), .on (.st 1 (.t 30) (.t 29))]) (.ops [.o 31 (.fad 2 (.t 3)), .o 32 (.ld 1 false (.t 31)), .o 33 (.ld 4 true (.t 5)), .o 34 (.litO 34 4 [(.t 33)]), .o 35 (.app 34 4 64 (.t 32) (.t 34)), .o 36 (.fad 2 (.t 3)), .on (.st 1 (.t 36) (.t 35))]))
def Copy_11 : AC := (.seq (.ops [.o 23 (.fad 2 (.t 5)), .o 24 (.ld 1 false (.t 23)), .o 25 (.app 3 1 8 .z (.t 24)), .o 26 (.fad 2 (.t 5)), .on (.st 1 (.t 26) (.t 25))]) Copy_12)
def Copy_10 : AC := (.seq (.ops [.o 21 (.iad 4 (.t 17) (.t 19)), .o 22 (.ld 4 true (.t 21)), .o 5 (.new 34 4 (.c (.agg [(.sc (.int .i64 0)), (.sc (.int .i64 0)), nil0, nil0]))), .on (.st 4 (.t 5) (.t 22))]) Copy_11)
def Copy_9 : AC := (.block 1 Copy_10)
def Copy_8 : AC := (.seq Copy_9 (.ops [.o 37 (.bin .add (.t 19) (.i 1)), .m 19 (.t 37)]))
def Copy_7 : AC := (.seq (.cond (.t 20) .skip (.exit 0)) Copy_8)
def Copy_6 : AC := (.seq (.ops [.o 20 (.bin .lss (.t 19) (.t 18))]) Copy_7)
def Copy_5 : AC := (.loop Copy_6)
def Copy_4 : AC := (.block 0 Copy_5)
def Copy_3 : AC := (.seq (.ops [.o 16 (.fad 2 (.t 1)), .o 17 (.ld 1 false (.t 16)), .o 18 (.len (.t 17)), .m 19 (.i 0)]) Copy_4)
def Copy_2 : AC := (.seq Copy_3 (.seq (.ops [.o 38 (.ld 4 true (.t 3)), .on (.st 4 (.t 2) (.t 38))]) .ret))
def Copy_1 : AC := (.seq (.par [[.o 6 (.fad 0 (.t 1)), .o 7 (.ld 1 false (.t 6)), .o 9 (.fad 1 (.t 1)), .o 10 (.ld 1 false (.t 9)), .o 12 (.fad 3 (.t 1)), .o 13 (.ld 1 false (.t 12)), .o 8 (.app 3 1 8 .z (.t 7)), .o 11 (.app 43 3 24 .z (.t 10)), .o 14 (.app 2 1 8 .z (.t 13)), .o 15 (.mk [nil0, nil0, nil0, nil0] [(0, (1, (.t 8))), (1, (1, (.t 11))), (3, (1, (.t 14)))]), .o 3 (.new 27 4 (.c (.agg [nil0, nil0, nil0, nil0]))), .on (.st 4 (.t 3) (.t 15))], [.o 6 (.fad 0 (.t 1)), .o 7 (.ld 1 false (.t 6)), .o 9 (.fad 1 (.t 1)), .o 10 (.ld 1 false (.t 9)), .o 12 (.fad 3 (.t 1)), .o 13 (.ld 1 false (.t 12)), .o 8 (.app 3 1 8 .z (.t 7)), .o 11 (.app 43 3 24 .z (.t 10)), .o 14 (.app 2 1 8 .z (.t 13)), .o 3 (.new 27 4 (.c (.agg [nil0, nil0, nil0, nil0]))), .o 15 (.mk [nil0, nil0, nil0, nil0] [(0, (1, (.t 8))), (1, (1, (.t 11))), (3, (1, (.t 14)))]), .on (.st 4 (.t 3) (.t 15))], [.o 6 (.fad 0 (.t 1)), .o 7 (.ld 1 false (.t 6)), .o 9 (.fad 1 (.t 1)), .o 10 (.ld 1 false (.t 9)), .o 12 (.fad 3 (.t 1)), .o 13 (.ld 1 false (.t 12)), .o 8 (.app 3 1 8 .z (.t 7)), .o 11 (.app 43 3 24 .z (.t 10)), .o 3 (.new 27 4 (.c (.agg [nil0, nil0, nil0, nil0]))), .o 14 (.app 2 1 8 .z (.t 13)), .o 15 (.mk [nil0, nil0, nil0, nil0] [(0, (1, (.t 8))), (1, (1, (.t 11))), (3, (1, (.t 14)))]), .on (.st 4 (.t 3) (.t 15))], [.o 6 (.fad 0 (.t 1)), .o 7 (.ld 1 false (.t 6)), .o 9 (.fad 1 (.t 1)), .o 10 (.ld 1 false (.t 9)), .o 12 (.fad 3 (.t 1)), .o 13 (.ld 1 false (.t 12)), .o 8 (.app 3 1 8 .z (.t 7)), .o 3 (.new 27 4 (.c (.agg [nil0, nil0, nil0, nil0]))), .o 11 (.app 43 3 24 .z (.t 10)), .o 14 (.app 2 1 8 .z (.t 13)), .o 15 (.mk [nil0, nil0, nil0, nil0] [(0, (1, (.t 8))), (1, (1, (.t 11))), (3, (1, (.t 14)))]), .on (.st 4 (.t 3) (.t 15))], [.o 6 (.fad 0 (.t 1)), .o 7 (.ld 1 false (.t 6)), .o 9 (.fad 1 (.t 1)), .o 10 (.ld 1 false (.t 9)), .o 12 (.fad 3 (.t 1)), .o 13 (.ld 1 false (.t 12)), .o 3 (.new 27 4 (.c (.agg [nil0, nil0, nil0, nil0]))), .o 8 (.app 3 1 8 .z (.t 7)), .o 11 (.app 43 3 24 .z (.t 10)), .o 14 (.app 2 1 8 .z (.t 13)), .o 15 (.mk [nil0, nil0, nil0, nil0] [(0, (1, (.t 8))), (1, (1, (.t 11))), (3, (1, (.t 14)))]), .on (.st 4 (.t 3) (.t 15))]]) Copy_2)
def Copy_ac : AC := (.seq (.ops [.o 1 (.new 27 4 (.t 0)), .o 2 (.new 27 4 (.c (.agg [nil0, nil0, nil0, nil0])))]) Copy_1)
theorem Copy_call {args : List AV} {H : List AObj} {R : AV → List AObj → Prop} (h : AWp Try.prog [34] H.length Copy_ac (bodyQ H.length [(.cell 2 4 true)] R) (args ++ List.replicate (39 - args.length) .und) H) : ACalls Try.prog 12 args H R :=
  ACalls.of_fn Try.func12 rfl (by kernel_rfl) rfl Try.ntmps12 h
set_option maxHeartbeats 8000000 in
theorem Copy_own {a : AV} {T : Tn} (ha : Tns a T) (j : Nat) (H0 : List AObj) (hH : ∀ K k, H0.length ≤ k → H0.map (fun o => { o with es := o.es.map (frz K k 3 true) }) = H0) (hfew : fewF T = true) :
    ACalls Try.prog 12 [a] H0 (CpR j T H0) := by
  obtain ⟨S, F, xs, V⟩ := T
  obtain ⟨sh, f, l, v, rfl, hS, hF, hl, hV⟩ := ha
  simp only at hS hF hl hV
  obtain ⟨⟨nl, cl, sz, rfl, hs⟩, hlen, hx⟩ := hl
  obtain ⟨⟨nl1, c01, sz1, rfl, hs1⟩, hlen1, hx1⟩ := hS
  obtain ⟨⟨nl2, c02, sz2, rfl, hs2⟩, hlen2, hx2⟩ := hF
  obtain ⟨⟨nl3, c3, sz3, rfl, hs3⟩, hlen3, hx3⟩ := hV
  simp only [fewF, Bool.and_eq_true, decide_eq_true_eq, List.all_eq_true] at hfew
  obtain ⟨hf1, hf2⟩ := hfew
  obtain ⟨a, hA⟩ : ∃ a, a = AV.agg [.imm nl1 c01 sz1 (S.map I), .imm nl2 c02 sz2 (F.map specV), .imm nl cl sz (xs.map lvV), .imm nl3 c3 sz3 (V.map I)] := ⟨_, rfl⟩
  have ha3 : ∀ K k, frz K k 3 true a = a := by intro K k; rw [hA]; simp
  have e1 : ∀ K, elems 1 K (.imm nl1 c01 sz1 (S.map I)) = some (S.map I) := fun K => elems_of _ hs1
  have e2 : ∀ K, elems 3 K (.imm nl2 c02 sz2 (F.map specV)) = some (F.map specV) := fun K => by
    cases nl2 with
    | true => simp [elems]
    | false => simp [elems, hs2.2 rfl]
  have e3 : ∀ K, elems 1 K (.imm nl3 c3 sz3 (V.map I)) = some (V.map I) := fun K => elems_of _ hs3
  have b1 : S.length * 8 ≤ 140737488355328 := by omega
  have b2 : F.length * 24 ≤ 140737488355328 := by omega
  have b3 : V.length * 8 ≤ 140737488355328 := by omega
  have o3 : allOneCell 3 (F.map specV) = true := by simp [allOneCell, okEl, cellsOf, specV]
  obtain ⟨n, hn⟩ : ∃ n, n = H0.length := ⟨_, rfl⟩
  have hn1 : H0.length + 1 = n + 1 := by omega
  apply Copy_call
  repeat first | refine AWp.seq ?_ | refine AWp.block ?_
  refine AWp.ops ?_
  simp
  rw [← hA, ← hn]
  refine (AWp.cutE (σ := Nat × List AObj × AV × AV × AV) (fun s => n + 1 < s.1 ∧ s.1 < s.2.1.length ∧ s.2.1.take n = H0 ∧ s.2.1[n]? = some (tnO a) ∧ s.2.1[n + 1]? = some (tnO (.agg [.imm true none 0 [], .imm true none 0 [], .imm true none 0 [], .imm true none 0 []])) ∧ s.2.1[s.1]? = some (tnO (.agg [s.2.2.1, s.2.2.2.1, .imm true none 0 [], s.2.2.2.2])) ∧
      rowO (n + 1) s.2.1 s.2.2.1 3 1 (S.map I) ∧ rowO (n + 1) s.2.1 s.2.2.2.1 43 3 (F.map specV) ∧ rowO (n + 1) s.2.1 s.2.2.2.2 2 1 (V.map I))
    (fun s => [.und, .ptr n 1 0 0, .ptr (n + 1) 1 0 0, .ptr s.1 1 0 0, .und, .und, .und, .und, .und, .und, .und, .und, .und, .und, .und, .und, .und, .und, .und, .und, .und, .und, .und, .und, .und, .und, .und, .und, .und, .und, .und, .und, .und, .und, .und, .und, .und, .und, .und]) (fun s => s.2.1) ?_ ?_)
  · refine AWp.par ?_
    intro l hl
    simp at hl
    have hp : ∀ G, (H0 ++ G).take n = H0 := fun G => by rw [List.take_append_of_le_length (by omega), hn, List.take_length]
    have b1' : S.length ≤ 9223372036854775807 := by omega
    have b2' : F.length ≤ 9223372036854775807 := by omega
    have b3' : V.length ≤ 9223372036854775807 := by omega
    have hg : ∀ G k, (H0 ++ G)[n + k]? = G[k]? := fun G k => by rw [List.getElem?_append_right (by omega), show n + k - H0.length = k by omega]
    have hg0 : ∀ G, (H0 ++ G)[n]? = G[0]? := fun G => by rw [List.getElem?_append_right (by omega), show n - H0.length = 0 by omega]
    have hr0 : ∀ (b : Nat) (K : List AObj) (ty sz : Nat) (es : List AV), es = [] → rowO b K (.imm true none 0 []) ty sz es := fun b K ty sz es h => .inl ⟨h, rfl⟩
    have hr1 : ∀ (b : Nat) (K : List AObj) (k ty sz L : Nat) (es : List AV), b ≤ k → L = es.length → K[k]? = some ⟨ty, sz, es, true, none⟩ → rowO b K (.slc k L 0 L none) ty sz es := fun b K k ty sz L es h1 h2 h3 => by subst h2; exact .inr ⟨k, h1, rfl, h3⟩
    rcases Classical.em (S = []) with hS0 | hS0 <;> rcases Classical.em (F = []) with hF0 | hF0 <;> rcases Classical.em (V = []) with hV0 | hV0 <;> (first | replace hS0 : (S = []) = True := eq_true hS0 | replace hS0 : (S = []) = False := eq_false hS0) <;> (first | replace hF0 : (F = []) = True := eq_true hF0 | replace hF0 : (F = []) = False := eq_false hF0) <;> (first | replace hV0 : (V = []) = True := eq_true hV0 | replace hV0 : (V = []) = False := eq_false hV0)
    all_goals
      rcases hl with rfl | rfl | rfl | rfl | rfl <;>
      · simp [hA, hS0, hF0, hV0, e1, e2, e3, b1, b2, b3, o3, ← hn, b1', b2', b3']
        refine ⟨_, _, ?_, (Weak.slots [1, 2, 3]).to rfl rfl⟩
        simp [hp, hg, hg0, hA]
        refine ⟨by omega, _, _, _, ⟨rfl, rfl, rfl⟩, ?_, ?_, ?_⟩ <;> first | exact hr0 _ _ _ _ _ (by simp [hS0, hF0, hV0]) | exact hr1 _ _ _ _ _ _ _ (by omega) (by simp) (by simp [hg])
  rintro ⟨o, K, sh, f, v⟩ ⟨ho1, ho2, hpre, ho0, ho01, hoo, hrs, hrf, hrv⟩
  simp only at ho1 ho2 hpre ho0 ho01 hoo hrs hrf hrv ⊢
  obtain ⟨lO, hlO⟩ : ∃ lO, lO = K.length := ⟨_, rfl⟩
  refine AWp.weak (Weak.ownIn o 0 2 34 4 (by omega) (o := tnO (.agg [sh, f, .imm true none 0 [], v])) (cs := [sh, f, .imm true none 0 [], v]) (c := none) (sz' := 0) hoo rfl (by simp) (by simp)) ?_
  rw [← hlO]
  simp
  obtain ⟨K1, hK1⟩ : ∃ K1, K1 = K.set o (tnO (.agg [sh, f, .slc lO 0 0 0 none, v])) ++ [⟨34, 4, [], true, some true⟩] := ⟨_, rfl⟩
  rw [← hK1]
  have g1 : ∀ k, k < lO → k ≠ o → K1[k]? = K[k]? := fun k hk hk2 => by
    rw [hK1, List.getElem?_append_left (by simp; omega), gs_ne (Ne.symm hk2)]
  have row : ∀ {ty sz : Nat} {l : List AV} {r : AV}, ty ≠ 27 → rowO (n + 1) K r ty sz l → rowO (n + 1) (K1.take lO) r ty sz l := by
    intro ty sz l r hty hr
    refine hr.to fun k hk hK => ?_
    have hkl := (List.getElem?_eq_some_iff.1 hK).1
    rw [List.getElem?_take, if_pos (by omega), g1 k (by omega) ?_, hK]
    rintro rfl
    rw [hoo] at hK
    simp at hK
    exact hty hK.1.symm
  have I0 : CpI n o lO j H0 a sh f v S F V K1 [] [] (some true) := by
    refine ⟨?_, ho1, by omega, ?_, ⟨_, rfl, by rw [g1 (n + 1) (by omega) (by omega)]; exact ho01⟩, ?_, row (by decide) hrs, row (by decide) hrf, row (by decide) hrv, ?_, by simp, by simp, rfl, by simp⟩
    · rw [hK1, List.take_append_of_le_length (by simp; omega), List.take_set_of_le (by omega), hpre]
    · rw [g1 n (by omega) (by omega), ho0]
    · rw [hK1, List.getElem?_append_left (by simp; omega), gs_eq hoo]; rfl
    · rw [hK1, List.getElem?_append_right (by simp; omega)]; simp [hlO]
  have on := I0.o0
  clear hK1 row g1 hoo hrs hrf hrv ho0 ho01 hpre
  repeat first | refine AWp.seq ?_ | refine AWp.block ?_
  refine AWp.ops ?_
  simp [on, hA]
  obtain ⟨J, hJ⟩ : ∃ J : Nat → List AV → List AObj → Prop, J = fun i fr H => i ≤ xs.length ∧ ∃ (K : List AObj) (es : List AV) (vr : Option Bool), (CpI n o lO j H0 a sh f v S F V K es (xs.take i) vr) ∧ H = K ∧
    fr = [.und, .ptr n 1 0 0, .ptr (n + 1) 1 0 0, .ptr o 1 0 0, .und, .und, .und, .und, .und, .und, .und, .und, .und, .und, .und, .und, .und, .imm nl cl sz (xs.map lvV), I xs.length, I i, .und, .und, .und, .und, .und, .und, .und, .und, .und, .und, .und, .und, .und, .und, .und, .und, .und, .und, .und] := ⟨_, rfl⟩
  refine AWp.block (AWp.loop J (fun i => xs.length - i) 0 (Weak.slots [1, 2, 3, 17, 18, 19]) (by rw [hJ]; exact ⟨by omega, K1, [], some true, by simpa using I0, by simp, by simp⟩) ?_)
  intro i fr H hI
  rw [hJ] at hI
  obtain ⟨hi, K, es, vr, hinv, rfl, rfl⟩ := hI
  repeat first | refine AWp.seq ?_ | refine AWp.block ?_
  refine AWp.ops ?_
  simp
  refine AWp.seq (AWp.cond (b := decide (i < xs.length)) (by simp <;> omega) ?_ ?_)
  ·
    intro hb
    have hb : i < xs.length := by simpa using hb
    refine AWp.skip ?_
    simp only [qSeq]
    have hsz4 := sz4_of hs hb
    subst hsz4
    have hgs := lv_get hb
    have hok := hx xs[i] (List.getElem_mem hb)
    have hf := hf2 xs[i] (List.getElem_mem hb)
    have hxt := List.take_succ_eq_append_getElem hb
    have hwi := wrap_i64 (n := (i : Int) + 1) (by omega) (by omega)
    have hil : (xs.take i).length = i := by simp; omega
    generalize xs[i] = x at hgs hok hf hxt
    obtain ⟨⟨k, z, ps, cs⟩, p, q⟩ := x
    obtain ⟨h1, h2, h3, h4⟩ := hok
    simp only at hgs h1 h2 h3 h4 hf
    obtain ⟨⟨nlp, cp, szp, rfl, hsp⟩, hlp, hxp⟩ := h1
    obtain ⟨⟨nlq, cq, szq, rfl, hsq⟩, hlq, hxq⟩ := h2
    have ep := fun H => elems_of (c := cp) H hsp
    have eq := fun H => elems_of (c := cq) H hsq
    have b4 : ps.length * 8 ≤ 140737488355328 := by omega
    have b5 : cs.length * 8 ≤ 140737488355328 := by omega
    have b6 : ps.length ≤ 9223372036854775807 := by omega
    have b7 : cs.length ≤ 9223372036854775807 := by omega
    have w5 : (i + 1) * 64 ≤ 140737488355328 := by omega
    have w6 : i + 1 ≤ 9223372036854775807 := by omega
    have hlo := hinv.lo
    have hoo := hinv.oo
    rw [hil] at hoo
    have hel := hinv.lv.1
    rw [hil] at hel
    have hone := hinv.lv.one
    obtain ⟨m, hm⟩ : ∃ m, m = H.length := ⟨_, rfl⟩
    have hlm : lO < m := by rw [hm]; exact (List.getElem?_eq_some_iff.1 hlo).1
    have hom : o < m := by rw [hm]; exact (List.getElem?_eq_some_iff.1 hoo).1
    have gL : ∀ x G, (H ++ x :: G)[m]? = some x := fun x G => by rw [List.getElem?_append_right (by omega), show m - H.length = 0 by omega]; rfl
    have sL : ∀ x y G, (H ++ x :: G).set m y = H ++ y :: G := fun x y G => by rw [List.set_append_right _ _ (by omega), show m - H.length = 0 by omega]; rfl
    have gR : ∀ G r, r < m → (H ++ G)[r]? = H[r]? := fun G r hr => List.getElem?_append_left (by omega)
    repeat first | refine AWp.seq ?_ | refine AWp.block ?_
    refine AWp.ops ?_
    simp [hgs, ← hm]
    refine AWp.cutE (σ := AV × List AObj) (fun s => s.2[m]? = some ⟨34, 4, [.agg [I k, I z, s.1, .imm nlq cq szq (cs.map I)]], true, none⟩ ∧ (∀ r, r < m → s.2[r]? = H[r]?) ∧ m < s.2.length ∧ rowO (m + 1) s.2 s.1 3 1 (ps.map I))
      (fun s => [.und, .ptr n 1 0 0, .ptr (n + 1) 1 0 0, .ptr o 1 0 0, .und, .ptr m 1 0 0, .und, .und, .und, .und, .und, .und, .und, .und, .und, .und, .und, .imm nl cl 4 (xs.map lvV), I xs.length, I i, .und, .und, .und, .und, .und, .und, .und, .und, .und, .und, .und, .und, .und, .und, .und, .und, .und, .und, .und]) (fun s => s.2) ?_ ?_
    · by_cases hp0 : ps = []
      · replace hp0 : (ps = []) = True := eq_true hp0
        repeat first | refine AWp.seq ?_ | refine AWp.block ?_
        refine AWp.ops ?_
        simp [gL, sL, ep, hp0, ← hm]
        exact ⟨_, _, ⟨gL _ _, fun r hr => gR _ _ hr, by simp [hm], .inl ⟨by simp [hp0], rfl⟩⟩, (Weak.slots [1, 2, 3, 5, 17, 18, 19]).to rfl rfl⟩
      · replace hp0 : (ps = []) = False := eq_false hp0
        repeat first | refine AWp.seq ?_ | refine AWp.block ?_
        refine AWp.ops ?_
        simp [gL, sL, ep, hp0, b4, b6, ← hm]
        exact ⟨_, _, ⟨gL _ _, fun r hr => gR _ _ hr, by simp [hm], .inr ⟨m + 1, by omega, by simp, by simp [hm]⟩⟩, (Weak.slots [1, 2, 3, 5, 17, 18, 19]).to rfl rfl⟩
    rintro ⟨p', K1⟩ ⟨f1, f2, f3, f4⟩
    simp only at f1 f2 f3 f4 ⊢
    obtain ⟨d, hd⟩ : ∃ d, d = K1.length := ⟨_, rfl⟩
    refine AWp.cutE (σ := AV × List AObj) (fun s => s.2[m]? = some ⟨34, 4, [.agg [I k, I z, p', s.1]], true, none⟩ ∧ (∀ r, r < m → s.2[r]? = H[r]?) ∧ d ≤ s.2.length ∧ rowO (m + 1) (s.2.take d) p' 3 1 (ps.map I) ∧ rowO d s.2 s.1 3 1 (cs.map I))
      (fun s => [.und, .ptr n 1 0 0, .ptr (n + 1) 1 0 0, .ptr o 1 0 0, .und, .ptr m 1 0 0, .und, .und, .und, .und, .und, .und, .und, .und, .und, .und, .und, .imm nl cl 4 (xs.map lvV), I xs.length, I i, .und, .und, .und, .und, .und, .und, .und, .und, .und, .und, .und, .und, .und, .und, .und, .und, .und, .und, .und]) (fun s => s.2) ?_ ?_
    · have gA : ∀ G r, r < d → (K1 ++ G)[r]? = K1[r]? := fun G r hr => List.getElem?_append_left (by omega)
      have sA : ∀ G y, (K1 ++ G).set m y = K1.set m y ++ G := fun G y => List.set_append_left _ _ (by omega)
      have fp := f4.one
      have gS : ∀ y G r, r ≠ m → r < d → (K1.set m y ++ G)[r]? = K1[r]? := fun y G r h1 h2 => by rw [List.getElem?_append_left (by simp; omega), gs_ne (Ne.symm h1)]
      have gM : ∀ y G, (K1.set m y ++ G)[m]? = some y := fun y G => by rw [List.getElem?_append_left (by simp; omega), gs_eq f1]
      have hrow : ∀ y G, rowO (m + 1) ((K1.set m y ++ G).take d) p' 3 1 (ps.map I) := fun y G => f4.to fun k hk hK => by
        have := (List.getElem?_eq_some_iff.1 hK).1
        rw [List.getElem?_take, if_pos (by omega), gS _ _ _ (by omega) (by omega), hK]
      by_cases hq0 : cs = []
      · replace hq0 : (cs = []) = True := eq_true hq0
        repeat first | refine AWp.seq ?_ | refine AWp.block ?_
        refine AWp.ops ?_
        simp [f1, gA, sA, eq, hq0, fp]
        exact ⟨_, _, ⟨gs_eq f1, fun r hr => by rw [gs_ne (by omega)]; exact f2 r hr, by simp; omega, by simpa using hrow _ [], .inl ⟨by simp [hq0], rfl⟩⟩, (Weak.slots [1, 2, 3, 5, 17, 18, 19]).to rfl rfl⟩
      · replace hq0 : (cs = []) = False := eq_false hq0
        have f1' : ∀ G, (K1 ++ G)[m]? = some ⟨34, 4, [.agg [I k, I z, p', .imm nlq cq szq (cs.map I)]], true, none⟩ := fun G => by rw [gA _ _ (by omega)]; exact f1
        repeat first | refine AWp.seq ?_ | refine AWp.block ?_
        refine AWp.ops ?_
        simp [f1, f1', sA, eq, hq0, fp, b5, b7]
        exact ⟨_, _, ⟨gM _ _, fun r hr => by rw [gS _ _ _ (by omega) (by omega)]; exact f2 r hr, by simp; omega, hrow _ _, .inr ⟨d, by omega, by simp [hd], by rw [List.getElem?_append_right (by simp; omega)]; simp [hd]⟩⟩, (Weak.slots [1, 2, 3, 5, 17, 18, 19]).to rfl rfl⟩
    rintro ⟨q', K2⟩ ⟨e1', e2', e3', e4', e5'⟩
    simp only at e1' e2' e3' e4' e5' ⊢
    have hmd : m + 1 ≤ d := by omega
    have hK2l := (List.getElem?_eq_some_iff.1 e1').1
    have op := e4'.one
    have oq := e5'.one
    have hlo2 : K2[lO]? = some ⟨34, 4, es, true, vr⟩ := by rw [e2' _ hlm]; exact hlo
    have hoo2 : K2[o]? = some (tnO (.agg [sh, f, .slc lO i 0 i none, v])) := by rw [e2' _ hom]; exact hoo
    have hlo3 : ∀ G, (K2 ++ G)[lO]? = some ⟨34, 4, es, true, vr⟩ := fun G => by rw [List.getElem?_append_left (by omega)]; exact hlo2
    have hoo3 : ∀ x y, ((K2 ++ [x]).set lO y)[o]? = some (tnO (.agg [sh, f, .slc lO i 0 i none, v])) := fun x y => by
      have := hinv.ol
      rw [gs_ne (by omega), List.getElem?_append_left (by omega)]; exact hoo2
    repeat first | refine AWp.seq ?_ | refine AWp.block ?_
    refine AWp.ops ?_
    simp [e1', hlo2, hoo2, hlo3, hoo3, op, oq, hone, hel, w5, w6, elems]
    repeat first | refine AWp.seq ?_ | refine AWp.block ?_
    refine AWp.ops ?_
    simp [hwi]
    obtain ⟨K4, hK4⟩ : ∃ K4, K4 = ((K2 ++ [lvO (.agg [I k, I z, p', q'])]).set lO (⟨34, 4, es ++ [.agg [I k, I z, p', q']], true, none⟩ : AObj)).set o (tnO (.agg [sh, f, .slc lO (i + 1) 0 (i + 1) none, v])) := ⟨_, rfl⟩
    rw [← hK4]
    have hol := hinv.ol
    have c1 : ∀ r, r ≠ lO → r ≠ o → r < K2.length → K4[r]? = K2[r]? := fun r r1 r2 r3 => by
      rw [hK4, gs_ne (Ne.symm r2), gs_ne (Ne.symm r1), List.getElem?_append_left r3]
    have c2 : K4[lO]? = some ⟨34, 4, es ++ [.agg [I k, I z, p', q']], true, none⟩ := by
      rw [hK4, gs_ne (by omega), gs_eq (hlo3 _)]
    have c3 : K4[o]? = some (tnO (.agg [sh, f, .slc lO (i + 1) 0 (i + 1) none, v])) := by
      rw [hK4, gs_eq (hoo3 _ _)]
    have c4 : rowO (m + 1) (K4.take d) p' 3 1 (ps.map I) := e4'.to fun r hr hK => by
      have := (List.getElem?_eq_some_iff.1 hK).1
      simp at this
      rw [List.getElem?_take, if_pos (by omega)] at hK ⊢
      rw [c1 _ (by omega) (by omega) (by omega)]; exact hK
    have c5 : rowO d K4 q' 3 1 (cs.map I) := e5'.to fun r hr hK => by
      have := (List.getElem?_eq_some_iff.1 hK).1
      rw [c1 _ (by omega) (by omega) (by omega)]; exact hK
    have c4' : rowO (m + 1) K4 p' 3 1 (ps.map I) := c4.to fun r hr hK => by
      have := (List.getElem?_eq_some_iff.1 hK).1
      simp at this
      rw [List.getElem?_take, if_pos (by omega)] at hK
      exact hK
    clear hK4
    by_cases hij : i = j
    · refine ⟨i + 1, _, _, Weak.slots [1, 2, 3, 17, 18, 19], ?_, by omega⟩
      rw [hJ]
      refine ⟨by omega, _, es ++ [.agg [I k, I z, p', q']], none, ?_, rfl, by simp⟩
      rw [hxt]
      exact hinv.step (g := id) (x := ⟨⟨k, z, ps, cs⟩, .imm nlp cp szp (ps.map I), .imm nlq cq szq (cs.map I)⟩) (fun _ => rfl) (fun _ => rfl) rfl (by simp) (fun cs => ⟨cs, rfl, rfl⟩)
        (fun r ob r1 r2 hr => by
          have := (List.getElem?_eq_some_iff.1 hr).1
          rw [c1 r r1 r2 (by omega), e2' r (by omega), hr]; simp) c2 (by rw [hil]; exact c3) (fun h => absurd (hil.trans hij) h) (fun _ => ⟨d, by omega, c4.mono (by omega), c5⟩)
    · refine ⟨i + 1, _, _, (Weak.slots [1, 2, 3, 17, 18, 19]).trans (Weak.freeze m 3 (by have := hinv.bo; omega)), ?_, by omega⟩
      rw [hJ]
      refine ⟨by omega, _, es ++ [.agg [I k, I z, frz K4 m 2 true p', frz K4 m 2 true q']], none, ?_, rfl, ?_⟩
      rw [hxt]
      refine hinv.step (g := frz K4 m 3 true) (p := frz K4 m 2 true p') (q := frz K4 m 2 true q') (x := ⟨⟨k, z, ps, cs⟩, .imm nlp cp szp (ps.map I), .imm nlq cq szq (cs.map I)⟩) (fun _ => by simp) (fun _ => by simp [specV]) (ha3 _ _) (hH _ _ (by have := hinv.bo; omega)) (fun cs => ⟨_, by simp; rfl, by simp⟩)
        (fun r ob r1 r2 hr => by
          have := (List.getElem?_eq_some_iff.1 hr).1
          exact frzH_of 3 (by omega) (by rw [c1 r r1 r2 (by omega), e2' r (by omega)]; exact hr)) ?_ ?_ (fun _ => ⟨c4'.frzI ⟨hlp, hxp⟩ (by omega) 1, c5.frzI ⟨hlq, hxq⟩ (by omega) 1⟩) (fun h => absurd (hil.symm.trans h) hij)
      · rw [frzH_of 3 hlm c2]
        simp [hinv.lv.frzE (by omega : H.length ≤ m)]
      · rw [frzH_of 3 hom c3, hil]
        have hle : lO ≤ H.length := by omega
        have r1 := fun K' => hinv.rs.frzA (m := m) (by simp; omega) K' 1
        have r2 := fun K' => hinv.rf.frzA (m := m) (by simp; omega) K' 1
        have r3 := fun K' => hinv.rv.frzA (m := m) (by simp; omega) K' 1
        simp [r1, r2, r3, hlm]
      · have hnm : n < m := by have := hinv.bo; omega
        have hnm1 : n + 1 < m := by have := hinv.bo; omega
        simp [hnm, hnm1, hom]
  ·
    intro hb
    have hb : ¬ i < xs.length := by simpa using hb
    refine AWp.exit ?_
    simp [qSeq, qBlock]
    rw [List.take_of_length_le (by omega)] at hinv
    have q1 := hinv.oo
    obtain ⟨y, hy, q2⟩ := hinv.o1
    match y, hy with
    | [y1, y2, y3, y4], hy =>
    have op := hinv.rs.one
    have oq := hinv.rf.one
    have ov := hinv.rv.one
    repeat first | refine AWp.seq ?_ | refine AWp.block ?_
    refine AWp.ops ?_
    simp [q1, q2, op, oq, ov]
    refine AWp.ret ?_
    simp
    refine retOk.of (vs := [.agg [sh, f, .slc lO xs.length 0 xs.length none, v]]) (by simp [gs_eq q2]) ?_
    rw [hn] at hinv ⊢
    exact ⟨o, lO, _, sh, f, v, es, vr, hinv.put1 rfl, rfl⟩
end Go.Fw
