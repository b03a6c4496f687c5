/- store.Read, its entries' places the call's own. -/
import Derived.Test.YthipbeffhfdamaaFwwko1
import Derived.Test.YthipbeffhfdamaaFwstore13
import Derived.Test.YthipbeffhfdamaaFwupk1
namespace Go.Fw
open Go Go.RowKit Go.Proofs
set_option maxRecDepth 100000
set_option linter.unusedSimpArgs false
set_option linter.unusedVariables false
def rowG (b : Nat) (K : List AObj) (a : AV) (c : List Int) : Prop := (c = [] ∧ a = .imm false none 1 []) ∨ ∃ k, b ≤ k ∧ a = .slc k c.length 0 c.length none ∧ K[k]? = some ⟨3, 1, c.map I, true, none⟩
theorem rowG.to {b b' : Nat} {K K' : List AObj} {a : AV} {c : List Int} (h : rowG b K a c) (hb : b' ≤ b) (f : ∀ k o, b ≤ k → K[k]? = some o → K'[k]? = some o) : rowG b' K' a c := by
  rcases h with h | ⟨k, h1, h2, h3⟩
  · exact .inl h
  · exact .inr ⟨k, by omega, h2, f k _ h1 h3⟩
theorem rowG.one {b : Nat} {K : List AObj} {a : AV} {c : List Int} (h : rowG b K a c) : oneC a = true := by
  rcases h with ⟨_, rfl⟩ | ⟨k, _, rfl, _⟩ <;> rfl
def EntsG (b : Nat) (K : List AObj) (es : List AV) (W : List (List Int × Int)) : Prop := es.length = W.length ∧ ∀ i (h : i < W.length), ∃ a, es[i]? = some (.agg [a, I W[i].2]) ∧ rowG b K a W[i].1
section
variable {b : Nat} {K : List AObj} {es : List AV} {W : List (List Int × Int)}
theorem EntsG.to {b' : Nat} {K' : List AObj} (h : EntsG b K es W) (hb : b' ≤ b) (f : ∀ k o, b ≤ k → K[k]? = some o → K'[k]? = some o) : EntsG b' K' es W :=
  ⟨h.1, fun i hi => let ⟨a, h1, h2⟩ := h.2 i hi; ⟨a, h1, h2.to hb f⟩⟩
theorem EntsG.snoc (h : EntsG b K es W) {a : AV} {c : List Int} {v : Int} (ha : rowG b K a c) : EntsG b K (es ++ [.agg [a, I v]]) (W ++ [(c, v)]) := by
  refine ⟨by simp [h.1], fun i hi => ?_⟩
  by_cases hx : i < W.length
  · obtain ⟨a', h1, h2⟩ := h.2 i hx
    refine ⟨a', ?_, by rw [List.getElem_append_left hx]; exact h2⟩
    rw [List.getElem?_append_left (by rw [h.1]; exact hx), List.getElem_append_left hx]; exact h1
  · have : i = W.length := by simp at hi; omega
    subst this
    refine ⟨a, ?_, by simpa using ha⟩
    rw [List.getElem?_append_right (by rw [h.1]; omega)]
    simp [h.1]
theorem EntsG.one (h : EntsG b K es W) : allOneCell 2 es = true := by
  rw [allOneCell, List.all_eq_true]
  intro x hx
  obtain ⟨i, hi, rfl⟩ := List.mem_iff_getElem.1 hx
  obtain ⟨a, h1, h2⟩ := h.2 i (by rw [← h.1]; exact hi)
  rw [List.getElem?_eq_getElem hi] at h1
  rw [Option.some.inj h1]
  simp [okEl, h2.one]
end
structure RdG (tn : AV) (S : List Int) (K : List AObj) (W : List (List Int × Int)) : Prop where
  o0 : K[0]? = some ⟨27, 4, [tn], true, none⟩
  o1 : K[1]? = some ⟨48, 2, [.agg [nil0, nil0]], true, none⟩
  o2 : K[2]? = some ⟨48, 2, [.agg [Is S, .slc 3 W.length 0 W.length none]], true, none⟩
  o3 : ∃ es, K[3]? = some (ow 52 2 es) ∧ EntsG 9 K es W
section
variable {tn : AV} {S : List Int} {K : List AObj} {W : List (List Int × Int)}
theorem RdG.to (h : RdG tn S K W) {K' : List AObj} (f : ∀ k o, k ≠ 6 → K[k]? = some o → K'[k]? = some o) : RdG tn S K' W := by
  obtain ⟨es, h1, h2⟩ := h.o3
  exact ⟨f _ _ (by omega) h.o0, f _ _ (by omega) h.o1, f _ _ (by omega) h.o2, es, f _ _ (by omega) h1, h2.to (Nat.le_refl _) fun k o hk h => f k o (by omega) h⟩
theorem RdG.set (h : RdG tn S K W) (o : AObj) : RdG tn S (K.set 6 o) W := h.to fun k x hk hx => by rw [List.getElem?_set_ne (by omega)]; exact hx
theorem RdG.app (h : RdG tn S K W) (G : List AObj) : RdG tn S (K ++ G) W := h.to fun k x _ hx => gap hx
theorem WG.setlt {g : FuncId} {gc : List AV} {c : List Int} (h : WG 4 tn g gc K c) {i : Nat} (hi : i < 4) (o : AObj) : WG 4 tn g gc (K.set i o) c :=
  ⟨by rw [List.getElem?_set_ne (by omega)]; exact h.o0, by rw [List.getElem?_set_ne (by omega)]; exact h.o1, by rw [List.getElem?_set_ne (by omega)]; exact h.o2, by rw [List.getElem?_set_ne (by omega)]; exact h.o3, by rw [List.getElem?_set_ne (by omega)]; exact h.o4⟩
theorem RdG.put (h : RdG tn S K W) {es : List AV} (he : K[3]? = some (ow 52 2 es)) (hE : EntsG 9 K es W) {a : AV} {c : List Int} {v : Int} (ha : rowG 9 K a c) :
    RdG tn S ((K.set 3 (ow 52 2 (es ++ [.agg [a, I v]]))).set 2 ⟨48, 2, [.agg [Is S, .slc 3 (W.length + 1) 0 (W.length + 1) none]], true, none⟩) (W ++ [(c, v)]) := by
  have l2 := (List.getElem?_eq_some_iff.1 h.o2).1
  have l3 := (List.getElem?_eq_some_iff.1 he).1
  refine ⟨?_, ?_, ?_, es ++ [.agg [a, I v]], ?_, ?_⟩
  · rw [List.getElem?_set_ne (by omega), List.getElem?_set_ne (by omega)]; exact h.o0
  · rw [List.getElem?_set_ne (by omega), List.getElem?_set_ne (by omega)]; exact h.o1
  · rw [List.getElem?_set_self (by simpa using l2)]; simp
  · rw [List.getElem?_set_ne (by omega), List.getElem?_set_self l3]
  · exact (hE.snoc ha).to (Nat.le_refl _) fun k o hk hx => by rw [List.getElem?_set_ne (by omega), List.getElem?_set_ne (by omega)]; exact hx
end
def rd1_ac : AC := (.ops [.o 6 (.fad 1 (.t 2)), .o 7 (.ld 1 false (.t 6)), .m 8 (.t 0), .o 10 (.fad 3 (.t 3)), .o 11 (.ld 1 false (.t 10)), .m 12 (.t 1), .o 13 (.iad 1 (.t 11) (.t 12)), .o 14 (.ld 1 false (.t 13)), .c 9 true (.f 48) [(.t 8)], .o 15 (.mk [nil0, (.sc (.int .i64 0))] [(0, (1, (.t 9))), (1, (1, (.t 14)))]), .o 16 (.litO 52 2 [(.t 15)]), .o 17 (.app 52 2 32 (.t 7) (.t 16)), .o 18 (.fad 1 (.t 2)), .on (.st 1 (.t 18) (.t 17))])
theorem rd1_w {args : List AV} {H : List AObj} {R : AV → List AObj → Prop} (h : wp Try.prog [16] H.length rd1_ac (bodyW [] (Nr R .mk)) (args ++ List.replicate (19 - args.length) .und) H) : ACalls Try.prog 50 args H R :=
  ACalls.of_wp Try.func50 rfl (by kernel_rfl) rfl Try.ntmps50 h
section
variable {S Vs : List Int} {F : List (Int × Int × Int)} {L : List Lv}
set_option maxHeartbeats 2000000 in
theorem rd1_p {K : List AObj} {W : List (List Int × Int)} {c : List Int} {p : Nat} (hw : WG 4 (tnW S F L Vs) 50 [.ptr 2 1 0 0, .ptr 0 1 0 0] K c) (hP : RdG (tnW S F L Vs) S K W) (hv : RdV Vs c p) (hWl : W.length ≤ 1048576) :
    ACalls Try.prog 50 ([.slc 6 c.length 0 c.length none, I p] ++ [.ptr 2 1 0 0, .ptr 0 1 0 0]) K fun r K' => r = .tup [] ∧ WG 4 (tnW S F L Vs) 50 [.ptr 2 1 0 0, .ptr 0 1 0 0] K' c ∧ RdG (tnW S F L Vs) S K' (rdStep Vs W c p) ∧ Fr 9 K K' := by
  obtain ⟨hp, hc, hcl⟩ := hv
  obtain ⟨es, he, hE⟩ := hP.o3
  have o0 := hP.o0
  have o2 := hP.o2
  refine rd1_w ?_
  have hvp : Vs.getD p 0 = Vs[p] := by simp [hp]
  rw [rdStep, hvp]
  simp (disch := omega) [ar, -List.take_append_getElem, rd1_ac, o0, o2]
  refine (Clone_lent hw.o2 hcl).mono ?_
  rintro q K1 hq
  have hl := hw.lt
  have hK1 : ∃ G, K1 = K ++ G ∧ rowG 9 (K ++ G) q c := by
    rcases hq with ⟨h1, h2, h3⟩ | ⟨h1, h2, h3⟩
    · exact ⟨[], by simp [h3], .inl ⟨h1, h2⟩⟩
    · exact ⟨[intOb c], h3, .inr ⟨K.length, by omega, h2, by simp⟩⟩
  clear hq
  obtain ⟨G, rfl, hq⟩ := hK1
  have hw1 := hw.app G
  have hP1 := hP.app G
  have he1 : (K ++ G)[3]? = some (ow 52 2 es) := gap he
  have hE1 : EntsG 9 (K ++ G) es W := hE.to (Nat.le_refl _) fun k o _ h => gap h
  have hF1 := Fr.app 9 K G
  have hform : q = .imm false none 1 [] ∨ ∃ k, q = .slc k c.length 0 c.length none := by
    rcases hq with ⟨_, h⟩ | ⟨k, _, h, _⟩
    · exact .inl h
    · exact .inr ⟨k, h⟩
  refine ⟨fun _ => ⟨G, rfl⟩, ?_⟩
  clear hw hP he hE o0 o2 hvp hc hl
  generalize K ++ G = K1 at *
  have o2 := hP1.o2
  have f2 : ∀ o, (K1 ++ [o])[2]? = some _ := fun o => gap o2
  have f3 : ∀ o, (K1 ++ [o])[3]? = some _ := fun o => gap he1
  have e1 := gcc K1
  have hone := hE1.one
  have hel := hE1.1
  have r2 : ∀ o x, ((K1 ++ [o]).set 3 x)[2]? = some _ := fun o x => by rw [List.getElem?_set_ne (by omega)]; exact f2 o
  obtain ⟨O, hO⟩ : ∃ O : AObj, O = ⟨52, 2, [.agg [q, I Vs[p]]], true, none⟩ := ⟨_, rfl⟩
  have fin : (.tup [] : AV) = .tup [] ∧ WG 4 (tnW S F L Vs) 50 [.ptr 2 1 0 0, .ptr 0 1 0 0] (((K1 ++ [O]).set 3 (ow 52 2 (es ++ [.agg [q, I Vs[p]]]))).set 2 ⟨48, 2, [.agg [Is S, .slc 3 (W.length + 1) 0 (W.length + 1) none]], true, none⟩) c ∧
      RdG (tnW S F L Vs) S (((K1 ++ [O]).set 3 (ow 52 2 (es ++ [.agg [q, I Vs[p]]]))).set 2 ⟨48, 2, [.agg [Is S, .slc 3 (W.length + 1) 0 (W.length + 1) none]], true, none⟩) (W ++ [(c, Vs[p])]) ∧ Fr 9 K (((K1 ++ [O]).set 3 (ow 52 2 (es ++ [.agg [q, I Vs[p]]]))).set 2 ⟨48, 2, [.agg [Is S, .slc 3 (W.length + 1) 0 (W.length + 1) none]], true, none⟩) :=
    ⟨rfl, ((hw1.app [O]).setlt (by omega) _).setlt (by omega) _, (hP1.app [O]).put (gap he1) (hE1.to (Nat.le_refl _) fun k o _ h => gap h) (hq.to (Nat.le_refl _) fun k o _ h => gap h),
      (hF1.trans (Fr.app 9 K1 [O])).trans ((Fr.set _ _ (by omega)).trans (Fr.set _ _ (by omega)))⟩
  clear hw1 hP1 he1 hE1 hF1 hq o2
  rw [hO] at fin
  rcases hform with rfl | ⟨k, rfl⟩
  · simp (disch := omega) [ar, -List.take_append_getElem, e1, f2, f3, hone, hel, r2, elems, live?]
    simpa [ow] using fin
  · simp (disch := omega) [ar, -List.take_append_getElem, e1, f2, f3, hone, hel, r2, elems, live?]
    simpa [ow] using fin
def CooG (b : Nat) (K : List AObj) (r : AV) (X : List Int × List (List Int × Int)) : Prop := ∃ sh ea, r = .agg [sh, ea] ∧ (sh = Is X.1 ∨ (X.1 = [] ∧ sh = nil0)) ∧ ((X.2 = [] ∧ ea = nil0) ∨ ∃ e es, b ≤ e ∧ ea = .slc e X.2.length 0 X.2.length none ∧ K[e]? = some (ow 52 2 es) ∧ EntsG b K es X.2)
def lstP (S : List Int) (F : List (Int × Int × Int)) (L : List Lv) (V : List Int) : (List Int × List (List Int × Int)) × Int :=
  if tnC S F L V ≠ 0 then (([], []), tnC S F L V) else ((S, entP S F L V), 0)
theorem sClone_p {xs : List Int} (h : InI xs) (hl : xs.length ≤ 1000000) : Pu Try.prog 48 [Is xs] (Is xs) :=
  ((Clone_pure (Is_sl h) hl).wk fun r H' hr => ⟨_, hr.2.wk, hr.1, rfl⟩)
def rdo_c16 : AC := (.seq (.ops [.o 16 (.ld 4 true (.t 1)), .o 17 (.mkF (.func 50) [] [(.t 5), (.t 1)]), .c 18 false (.f 49) [(.t 16), (.t 17)]]) (.seq (.ops [.o 19 (.ld 2 true (.t 5)), .on (.st 2 (.t 2) (.t 19)), .m 3 (.i 0)]) .ret))
def rdo_ac : AC := (.seq (.ops [.o 1 (.new 27 4 (.t 0)), .o 2 (.new 48 2 (.c (.agg [nil0, nil0]))), .m 3 (.i 0)]) (.seq (.seq (.ops [.o 6 (.ld 4 true (.t 1)), .c 7 false (.f 11) [(.t 6)], .m 4 (.t 7)]) (.seq (.ops [.m 8 (.t 4), .o 9 (.bin .neq (.t 8) (.i 0))]) (.cond (.t 9) (.seq (.ops [.o 10 (.mk [nil0, nil0] []), .m 11 (.t 4), .on (.st 2 (.t 2) (.t 10)), .m 3 (.t 11)]) .ret) .skip))) (.seq (.ops [.o 12 (.fad 0 (.t 1)), .o 13 (.ld 1 false (.t 12)), .c 14 false (.f 48) [(.t 13)], .o 15 (.mk [nil0, nil0] [(0, (1, (.t 14)))]), .o 5 (.new 48 2 (.c (.agg [nil0, nil0]))), .on (.st 2 (.t 5) (.t 15))]) (.here rdo_c16))))
theorem rdo_w {args : List AV} {H : List AObj} {R : AV → List AObj → Prop} (h : wp Try.prog [] H.length rdo_ac (bodyW [(.cell 2 2 true), (.t 3)] (Nr R .mk)) (args ++ List.replicate (20 - args.length) .und) H) : ACalls Try.prog 20 args H R :=
  ACalls.of_wp Try.func20 rfl (by kernel_rfl) rfl Try.ntmps20 h
set_option maxHeartbeats 2000000 in
theorem rdo_p (h : TnOk S F L Vs) (k : Few S F L Vs) : ACalls Try.prog 20 [tnW S F L Vs] [] fun r G => ∃ x, r = .tup [x, I (lstP S F L Vs).2] ∧ CooG 0 G x (lstP S F L Vs).1 := by
  have hc := sCheck_p h k
  have hcl := sClone_p h.s (by have := k.s; omega)
  refine rdo_w ?_
  simp (disch := omega) [ar, -List.take_append_getElem, rdo_ac]
  refine Pu.c hc ?_
  by_cases h0 : tnC S F L Vs = 0
  case neg =>
    have e : lstP S F L Vs = (([], []), tnC S F L Vs) := by rw [lstP, if_pos h0]
    rw [e]
    simp (disch := omega) [ar, -List.take_append_getElem, h0]
    exact ⟨nil0, nil0, rfl, .inr ⟨rfl, rfl⟩, .inl ⟨rfl, rfl⟩⟩
  have e : lstP S F L Vs = ((S, entP S F L Vs), 0) := by rw [lstP, if_neg (by simpa using h0)]
  rw [e]
  have hck : tnCheck S F (L.map toA) Vs = 0 := h0
  have hfl : F.length = L.length := by have := (tnCheck_ok hck).2.1; simp at this; omega
  obtain ⟨w1, w2, w3⟩ := tn_walk h.s.2 hck
  have hWl : (walkL (L.map toA) F (List.replicate S.length 0) 0).length = Vs.length := by
    have := congrArg List.length w1
    simpa using this
  have hgood : GoodS (fun W c p => RdV Vs c p ∧ W.length ≤ 1048576) (rdStep Vs) (L.map toA) F (List.replicate S.length 0) 0 [] := by
    refine rd_good ((tn_good h.s.2 hck).mono ?_) [] (by have := k.v; simp; omega)
    rintro c p ⟨hi, hp⟩
    have hs := k.s
    refine ⟨hp, ⟨by rw [hi.1]; omega, fun x hxc => ?_⟩, by rw [hi.1]; omega⟩
    obtain ⟨i, hil, rfl⟩ := List.mem_iff_getElem.1 hxc
    have h2 := hi.2 i (by rw [← hi.1]; exact hil)
    have e1 : c.getD i 0 = c[i] := by simp [hil]
    have hiS : i < S.length := by rw [← hi.1]; exact hil
    have e2 : S.getD i 0 = S[i] := by simp [hiS]
    have := h.s.2 S[i] (List.getElem_mem hiS)
    rw [e1, e2] at h2
    omega
  have hwk := fun K (hK : K.length = 4) (hP : RdG (tnW S F L Vs) S K []) => wlk_p (n0 := 4) (g := 50) (gc := [.ptr 2 1 0 0, .ptr 0 1 0 0]) (P := fun K W => RdG (tnW S F L Vs) S K W) (step := rdStep Vs) (V := fun W c p => RdV Vs c p ∧ W.length ≤ 1048576) h hfl (by have := k.l; omega) (by have := k.s; omega)
    (fun K s o h => h.set o) (fun K s G h => h.app G) (fun K s c p hw hP hv => rd1_p hw hP hv.1 hv.2) hK hP hgood
  clear hgood w1 w2 w3 hWl hfl hc
  simp (disch := omega) [ar, -List.take_append_getElem, h0]
  refine Pu.c hcl ?_
  simp (disch := omega) [ar, -List.take_append_getElem]
  refine Hr.w ((Weak.ownAt 2 0 1 52 2 (by omega) (o := bx 48 2 (.agg [Is S, nil0])) (e0 := .agg [Is S, nil0]) (e1 := .agg [Is S, .slc 3 0 0 0 none]) (c := none) (sz' := 0) rfl rfl rfl rfl (by simp [cellsOf]))) ?_
  simp (disch := omega) [ar, -List.take_append_getElem, rdo_c16]
  refine (hwk _ rfl ⟨rfl, rfl, rfl, [], rfl, rfl, by simp⟩).c ?_
  rintro r K' ⟨rfl, hP⟩
  rw [walkF_list, rd_list, List.nil_append, entF_eq h.s.2 hck, toA_map] at hP
  obtain ⟨p0, p1, p2, es, p3, hE⟩ := hP
  have s1 : ∀ o, (K'.set 1 o)[1]? = some o := fun o => List.getElem?_set_self (List.getElem?_eq_some_iff.1 p1).1
  have hfin : ∀ o, CooG 0 (K'.set 1 o) (.agg [Is S, .slc 3 (entP S F L Vs).length 0 (entP S F L Vs).length none]) (S, entP S F L Vs) := fun o =>
    ⟨_, _, rfl, .inl rfl, .inr ⟨3, es, by omega, rfl, by rw [List.getElem?_set_ne (by omega)]; exact p3, hE.to (by omega) fun k o hk h => by rw [List.getElem?_set_ne (by omega)]; exact h⟩⟩
  clear hE hwk h hck
  simp (disch := omega) [ar, -List.take_append_getElem, p1, p2, s1]
  simpa using hfin _
end
end Go.Fw
