import Derived.Test.YthipbeffhfdamaaFwbox2
import Derived.Test.YthipbeffhfdamaaFwown0
namespace Go.Fw
open Go Go.RowKit Go.Proofs
set_option maxRecDepth 100000
set_option linter.unusedSimpArgs false
set_option linter.unusedVariables false
structure DenP (nd q n : Nat) (s tn : AV) (S : List Int) (K : List AObj) (vs : List Int) : Prop where
  lq : q < nd
  gq : 2 ≤ q
  o0 : K[0]? = some (tnO tn)
  o1 : K[1]? = some (denO nilD)
  od : K[nd]? = some (denO (.agg [s, .slc q n 0 n none]))
  oq : K[q]? = some (i64O vs)
  len : vs.length = n
  sh : (S = [] ∧ ∃ nl c sz, s = .imm nl c sz [] ∧ (nl = false → sz = 1)) ∨ ∃ k, (2 ≤ k ∧ k < nd ∧ k ≠ q) ∧ s = .slc k S.length 0 S.length none ∧ K[k]? = some ⟨3, 1, S.map I, true, none⟩
theorem DenP.same {nd q n : Nat} {s tn : AV} {S : List Int} {K K' : List AObj} {vs : List Int} (h : DenP nd q n s tn S K vs) (hK : ∀ i, i ≤ nd → K'[i]? = K[i]?) : DenP nd q n s tn S K' vs := by
  have h1 := h.lq
  have h2 := h.gq
  refine ⟨h1, h2, by rw [hK _ (by omega)]; exact h.o0, by rw [hK _ (by omega)]; exact h.o1, by rw [hK _ (by omega)]; exact h.od, by rw [hK _ (by omega)]; exact h.oq, h.len, ?_⟩
  rcases h.sh with h | ⟨k, h3, h4, h5⟩
  · exact .inl h
  · exact .inr ⟨k, h3, h4, by rw [hK _ (by omega)]; exact h5⟩
theorem DenP.frz {nd q n : Nat} {s tn : AV} {S : List Int} {K : List AObj} {vs : List Int} (h : DenP nd q n s tn S K vs) (htn : ∀ H k, frz H k 3 true tn = tn) {k : Nat} (hk : nd < k) : DenP nd q n s tn S (frzH K k 3) vs := by
  have h1 := h.lq
  have h2 := h.gq
  refine ⟨h1, h2, ?_, ?_, ?_, ?_, h.len, ?_⟩
  · rw [frzH_of 3 (by omega) h.o0]; simp [htn]
  · rw [frzH_of 3 (by omega) h.o1]; simp
  · rw [frzH_of 3 (by omega) h.od]
    have hq : q < k := by omega
    rcases h.sh with ⟨_, nl, c, sz, rfl, _⟩ | ⟨j, h3, rfl, _⟩
    · simp [hq]
    · have hj : j < k := by omega
      simp [hq, hj]
  · rw [frzH_of 3 (by omega) h.oq]; simp
  · rcases h.sh with h | ⟨j, h3, h4, h5⟩
    · exact .inl h
    · exact .inr ⟨j, h3, h4, by rw [frzH_of 3 (by omega) h5]; simp⟩
theorem DenP.one {nd q n : Nat} {s tn : AV} {S : List Int} {K : List AObj} {vs : List Int} (h : DenP nd q n s tn S K vs) : oneC s = true := by
  rcases h.sh with ⟨_, nl, c, sz, rfl, _⟩ | ⟨j, h3, rfl, _⟩ <;> rfl
theorem DenP.setq {nd q n : Nat} {s tn : AV} {S : List Int} {K : List AObj} {vs ws : List Int} (h : DenP nd q n s tn S K vs) (hw : ws.length = n) : DenP nd q n s tn S (K.set q (i64O ws)) ws := by
  have h1 := h.lq
  have h2 := h.gq
  refine ⟨h1, h2, by rw [gs_ne (by omega)]; exact h.o0, by rw [gs_ne (by omega)]; exact h.o1, by rw [gs_ne (by omega)]; exact h.od, gs_eq h.oq, hw, ?_⟩
  rcases h.sh with h | ⟨j, h3, h4, h5⟩
  · exact .inl h
  · exact .inr ⟨j, h3, h4, by rw [gs_ne (by omega)]; exact h5⟩
theorem WInv.setlt {n0 N : Nat} {tn : AV} {g : FuncId} {gc : List AV} {ty1 ty3 ty4 : Nat} {K : List AObj} {c : List Int} (h : WInv n0 N tn g gc ty1 ty3 ty4 K c) {q : Nat} (hq : q < n0) (o : AObj) : WInv n0 N tn g gc ty1 ty3 ty4 (K.set q o) c := by
  refine ⟨by simpa using h.len, h.lt, ?_, ?_, ?_, ?_, ?_⟩
  · rw [gs_ne (by omega)]; exact h.o0
  · rw [gs_ne (by omega)]; exact h.o1
  · rw [gs_ne (by omega)]; exact h.o2
  · rw [gs_ne (by omega)]; exact h.o3
  · rw [gs_ne (by omega)]; exact h.o4
def DenV (S Vs : List Int) (n : Nat) (c : List Int) (p : Nat) : Prop := p < Vs.length ∧ InI c ∧ (atF S c).2 = 0 ∧ 0 ≤ (atF S c).1 ∧ (atF S c).1 < n
def denStep (S Vs : List Int) (ws : List Int) (c : List Int) (p : Nat) : List Int := ws.set (atF S c).1.toNat (Vs.getD p 0)
def Dense1_ac : AC := (.seq (.ops [.o 9 (.fad 0 (.t 2)), .o 10 (.ld 1 false (.t 9)), .m 11 (.t 0), .c 12 false (.f 21) [(.t 10), (.t 11)], .m 8 (.t 12), .o 13 (.ext (.t 8) 0), .o 14 (.ext (.t 8) 1), .m 6 (.t 13), .m 7 (.t 14)]) (.ops [.o 15 (.fad 1 (.t 3)), .o 16 (.ld 1 false (.t 15)), .m 17 (.t 6), .o 18 (.fad 3 (.t 2)), .o 19 (.ld 1 false (.t 18)), .m 20 (.t 1), .o 21 (.iad 1 (.t 19) (.t 20)), .o 22 (.ld 1 false (.t 21)), .o 23 (.iad 1 (.t 16) (.t 17)), .on (.st 1 (.t 23) (.t 22))]))
theorem Dense1_call {args : List AV} {H : List AObj} {R : AV → List AObj → Prop} (h : AWp Try.prog [] H.length Dense1_ac (bodyQ H.length [] R) (args ++ List.replicate (24 - args.length) .und) H) : ACalls Try.prog 54 args H R :=
  ACalls.of_fn Try.func54 rfl (by kernel_rfl) rfl Try.ntmps54 h
set_option maxHeartbeats 2000000 in
theorem Dense1_spec {nd q n : Nat} {s sh f l v : AV} {S Vs : List Int} {F : List (Int × Int × Int)} {xs : List LvA} (hS : ISl sh S) (hF : Sp f F) (hl : Ls l xs) (hV : ISl v Vs) {ty1 ty3 ty4 : Nat} {K : List AObj} {ws c : List Int} {p : Nat}
    (hw : WInv (nd + 1) (nd + 6) (.agg [sh, f, l, v]) 54 [.ptr 0 1 0 0, .ptr nd 1 0 0] ty1 ty3 ty4 K c) (hP : DenP nd q n s (.agg [sh, f, l, v]) S K ws) (hv : DenV S Vs n c p) :
    ACalls Try.prog 54 [.slc (nd + 3) c.length 0 c.length none, I p, .ptr 0 1 0 0, .ptr nd 1 0 0] K fun r K' => r = .tup [] ∧ WInv (nd + 1) (nd + 6) (.agg [sh, f, l, v]) 54 [.ptr 0 1 0 0, .ptr nd 1 0 0] ty1 ty3 ty4 K' c ∧ DenP nd q n s (.agg [sh, f, l, v]) S K' (denStep S Vs ws c p) := by
  have hS' := hS
  obtain ⟨⟨nl, cl, sz, rfl, hs⟩, hlen, hx⟩ := hl
  obtain ⟨⟨nl1, c01, sz1, rfl, hs1⟩, hlen1, hx1⟩ := hS
  obtain ⟨⟨nl2, c02, sz2, rfl, hs2⟩, hlen2, hx2⟩ := hF
  obtain ⟨⟨nl3, c3, sz3, rfl, hs3⟩, hlen3, hx3⟩ := hV
  obtain ⟨hp, hc, a2, a0, a1⟩ := hv
  have hszv := sz_of hs3 hp
  subst hszv
  obtain ⟨lq, gq, o0, o1, od, oq, ol, osh⟩ := id hP
  have c2 := hw.o2
  rw [show nd + 1 + 2 = nd + 3 by omega] at c2
  obtain ⟨m, hm⟩ : ∃ m : Nat, (atF S c).1 = m := ⟨(atF S c).1.toNat, by omega⟩
  have hmn : m < n := by omega
  have hmw : m < ws.length := by omega
  have hone := hP.one
  apply Dense1_call
  repeat first | refine AWp.seq ?_ | refine AWp.block ?_
  refine AWp.ops ?_
  simp [o0]
  refine ACalls.mono (ACalls.pureLent 3 (R := fun r => r = .tup [I (atF S c).1, I (atF S c).2]) ?_ (by rintro r rfl s; simp)) ?_
  · simp [c2]
    exact At_spec hS' (ISl.of _ hc.1 hc.2)
  rintro r H' ⟨rfl, rfl⟩
  rw [hm]
  simp
  repeat first | refine AWp.seq ?_ | refine AWp.block ?_
  refine AWp.ops ?_
  simp [od, o0, oq, hone, hp, hmn, ol, hmw]
  have hset : (ws.map I).set m (I Vs[p]) = (denStep S Vs ws c p).map I := by
    rw [denStep, hm, Int.toNat_natCast, List.map_set]
    simp [hp]
  rw [hset]
  exact retOk.of rfl ⟨rfl, hw.setlt (by omega) _, hP.setq (by rw [denStep]; simpa using ol)⟩
def denseF (S : List Int) (F : List (Int × Int × Int)) (xs : List LvA) (Vs : List Int) : (List Int × List Int) × Int :=
  if tnCheck S F xs Vs ≠ 0 then (([], []), tnCheck S F xs Vs) else if (zeroF S).2 ≠ 0 then (([], []), (zeroF S).2)
  else ((S, walkF (denStep S Vs) xs F (List.replicate S.length 0) 0 (zeroF S).1.2), 0)
theorem walkF_inv {σ : Type} {P : σ → Prop} {step : σ → List Int → Nat → σ} (hs : ∀ s c p, P s → P (step s c p)) : ∀ (xs : List LvA) (fs : List (Int × Int × Int)) (c : List Int) (p : Nat) (s : σ), P s → P (walkF step xs fs c p s)
  | [], fs, c, p, s, h => hs s c p h
  | x :: xs, [], c, p, s, h => hs s c p h
  | x :: xs, f :: fs, c, p, s, h => by
    simp only [walkF]
    have : ∀ (ys : List (Int × Int)) (s : σ), P s → P (ys.foldl (fun s y => walkF step xs fs (stepC f c y.1) y.2.toNat s) s) := by
      intro ys
      induction ys with
      | nil => intro s h; exact h
      | cons y ys ih => intro s h; exact ih _ (walkF_inv hs xs fs _ _ s h)
    exact this _ s h
def sDense_12 : AC := (.seq (.ops [.o 26 (.ld 2 true (.t 5)), .on (.st 2 (.t 2) (.t 26)), .m 3 (.i 0)]) .ret)
def sDense_11 : AC := (.seq (.ops [.o 23 (.ld 4 true (.t 1)), .o 24 (.mkF (.func 54) [] [(.t 1), (.t 5)]), .c 25 false (.f 49) [(.t 23), (.t 24)]]) sDense_12)
def sDense_10 : AC := (.seq (.ops [.o 21 (.mk [nil0, nil0] []), .m 22 (.t 6), .on (.st 2 (.t 2) (.t 21)), .m 3 (.t 22)]) .ret)
def sDense_9 : AC := (.cond (.t 20) sDense_10 .skip)
def sDense_8 : AC := (.seq (.ops [.m 19 (.t 6), .o 20 (.bin .neq (.t 19) (.i 0))]) sDense_9)
def sDense_7 : AC := (.seq sDense_8 sDense_11)
def sDense_6 : AC := (.seq (.ops [.o 14 (.fad 0 (.t 1)), .o 15 (.ld 1 false (.t 14)), .c 16 false (.f 53) [(.t 15)], .m 13 (.t 16), .o 17 (.ext (.t 13) 0), .o 18 (.ext (.t 13) 1), .o 5 (.new 57 2 (.c (.agg [nil0, nil0]))), .on (.st 2 (.t 5) (.t 17)), .m 6 (.t 18)]) sDense_7)
def sDense_5 : AC := (.seq (.ops [.o 11 (.mk [nil0, nil0] []), .m 12 (.t 4), .on (.st 2 (.t 2) (.t 11)), .m 3 (.t 12)]) .ret)
def sDense_4 : AC := (.cond (.t 10) sDense_5 .skip)
def sDense_3 : AC := (.seq (.ops [.m 9 (.t 4), .o 10 (.bin .neq (.t 9) (.i 0))]) sDense_4)
def sDense_2 : AC := (.seq (.ops [.o 7 (.ld 4 true (.t 1)), .c 8 false (.f 11) [(.t 7)], .m 4 (.t 8)]) sDense_3)
def sDense_1 : AC := (.seq sDense_2 sDense_6)
def sDense_ac : AC := (.seq (.ops [.o 1 (.new 27 4 (.t 0)), .o 2 (.new 57 2 (.c (.agg [nil0, nil0]))), .m 3 (.i 0)]) sDense_1)
theorem sDense_call {args : List AV} {H : List AObj} {R : AV → List AObj → Prop} (h : AWp Try.prog [] H.length sDense_ac (bodyQ H.length [(.cell 2 2 true), (.t 3)] R) (args ++ List.replicate (27 - args.length) .und) H) : ACalls Try.prog 23 args H R :=
  ACalls.of_fn Try.func23 rfl (by kernel_rfl) rfl Try.ntmps23 h
set_option maxHeartbeats 4000000 in
theorem sDense_spec {sh f l v : AV} {S Vs : List Int} {F : List (Int × Int × Int)} {xs : List LvA} (hS : ISl sh S) (hF : Sp f F) (hl : Ls l xs) (hV : ISl v Vs) (hn : xs.length ≤ 1000) (hfn : F.length ≤ 1000)
    (hgood : tnCheck S F xs Vs = 0 → (zeroF S).2 = 0 → Good (DenV S Vs (zeroF S).1.2.length) xs F (List.replicate S.length 0) 0) :
    ACalls Try.prog 23 [.agg [sh, f, l, v]] [] fun r H' => H' = [] ∧ ∃ d, r = .tup [d, I (denseF S F xs Vs).2] ∧ Dn d (denseF S F xs Vs).1 := by
  have hS' := hS
  have hF' := hF
  have hl' := hl
  have hV' := hV
  obtain ⟨⟨nl, cl, sz, rfl, hs⟩, hlen, hx⟩ := hl
  obtain ⟨⟨nl1, c01, sz1, rfl, hs1⟩, hlen1, hx1⟩ := hS
  obtain ⟨⟨nl2, c02, sz2, rfl, hs2⟩, hlen2, hx2⟩ := hF
  obtain ⟨⟨nl3, c3, sz3, rfl, hs3⟩, hlen3, hx3⟩ := hV
  have base : ACalls Try.prog 23 [.agg [.imm nl1 c01 sz1 (S.map I), .imm nl2 c02 sz2 (F.map specV), .imm nl cl sz (xs.map lvV), .imm nl3 c3 sz3 (Vs.map I)]] [] (denseR (denseF S F xs Vs)) := by
    apply sDense_call
    repeat first | refine AWp.seq ?_ | refine AWp.block ?_
    refine AWp.ops ?_
    simp
    repeat first | refine AWp.seq ?_ | refine AWp.block ?_
    refine AWp.ops ?_
    simp
    refine ((sCheck_spec hS' hF' hl' hV' hn hfn).pure (by simp) (by rintro r rfl; simp) _).mono ?_
    rintro r H' ⟨rfl, rfl⟩
    simp
    repeat first | refine AWp.seq ?_ | refine AWp.block ?_
    refine AWp.ops ?_
    simp
    by_cases h : tnCheck S F xs Vs = 0
    case neg =>
      refine AWp.cond (b := true) (by simp [h]) (fun _ => ?_) (fun h => by cases h)
      repeat first | refine AWp.seq ?_ | refine AWp.block ?_
      refine AWp.ops ?_
      simp
      refine AWp.ret ?_
      simp
      refine retOk.of rfl ?_
      rw [denseF, if_pos h]
      exact .inl ⟨h, rfl, by simp⟩
    refine AWp.cond (b := false) (by simp [h]) (fun h => by cases h) (fun _ => ?_)
    refine AWp.skip ?_
    simp only [qSeq]
    repeat first | refine AWp.seq ?_ | refine AWp.block ?_
    refine AWp.ops ?_
    simp
    refine (dense_at (Zero_dense hS') (by simp) _).mono ?_
    rintro r H' ⟨G, rfl, hZ⟩
    rcases hZ with ⟨hz, hz1, rfl⟩ | ⟨hz, d, rfl, s, q, hq, rfl, hqo, hso⟩
    · simp
      repeat first | refine AWp.seq ?_ | refine AWp.block ?_
      refine AWp.ops ?_
      simp
      refine AWp.cond (b := true) (by simp [hz]) (fun _ => ?_) (fun h => by cases h)
      repeat first | refine AWp.seq ?_ | refine AWp.block ?_
      refine AWp.ops ?_
      simp
      refine AWp.ret ?_
      simp
      refine retOk.of rfl ?_
      rw [denseF, if_neg (by omega), if_pos hz]
      exact .inl ⟨hz, rfl, by simp⟩
    have hgo := hgood h hz
    have hz1 : (zeroF S).1.1 = S := by
      unfold zeroF at hz ⊢
      split at hz
      · exact absurd hz ‹_›
      · rename_i h'; rw [if_neg h']
    obtain ⟨n, hn'⟩ : ∃ n, n = (zeroF S).1.2.length := ⟨_, rfl⟩
    have hD : denseF S F xs Vs = ((S, walkF (denStep S Vs) xs F (List.replicate S.length 0) 0 (zeroF S).1.2), 0) := by
      rw [denseF, if_neg (by omega), if_neg (by omega)]
    have hS4 : S.length ≤ 1000 := by
      have h0 := (tnCheck_ok h).1
      have := cells_len (sizesF_ok h0 (fun s hs => (hx2 s hs).2.2.2)).1
      omega
    rw [hD]
    rw [hz1] at hso
    rw [← hn'] at hgo ⊢
    obtain ⟨Z, hZ⟩ : ∃ Z, Z = (zeroF S).1.2 := ⟨_, rfl⟩
    rw [← hZ] at hqo hn' ⊢
    simp at hq hqo hso
    have htn : ∀ H k, frz H k 3 true (AV.agg [.imm nl1 c01 sz1 (S.map I), .imm nl2 c02 sz2 (F.map specV), .imm nl cl sz (xs.map lvV), .imm nl3 c3 sz3 (Vs.map I)]) = .agg [.imm nl1 c01 sz1 (S.map I), .imm nl2 c02 sz2 (F.map specV), .imm nl cl sz (xs.map lvV), .imm nl3 c3 sz3 (Vs.map I)] := fun H k => by simp
    obtain ⟨tn, htne⟩ : ∃ tn, tn = AV.agg [.imm nl1 c01 sz1 (S.map I), .imm nl2 c02 sz2 (F.map specV), .imm nl cl sz (xs.map lvV), .imm nl3 c3 sz3 (Vs.map I)] := ⟨_, rfl⟩
    obtain ⟨HH, hHH⟩ : ∃ HH, HH = tnO (AV.agg [.imm nl1 c01 sz1 (S.map I), .imm nl2 c02 sz2 (F.map specV), .imm nl cl sz (xs.map lvV), .imm nl3 c3 sz3 (Vs.map I)]) :: denO nilD :: G := ⟨_, rfl⟩
    have f0 : HH[0]? = some (tnO (AV.agg [.imm nl1 c01 sz1 (S.map I), .imm nl2 c02 sz2 (F.map specV), .imm nl cl sz (xs.map lvV), .imm nl3 c3 sz3 (Vs.map I)])) := by rw [hHH]; rfl
    have f1 : HH[1]? = some (denO nilD) := by rw [hHH]; rfl
    have fq : HH[q]? = some (i64O Z) := by rw [hHH]; simpa using hqo
    have fs : shapeOk 2 HH q s S := by rw [hHH]; exact hso
    have hone := fs.one
    have hql := (List.getElem?_eq_some_iff.1 fq).1
    have hL : 2 ≤ HH.length := by rw [hHH]; simp
    simp [← hHH, hone]
    clear hHH hso hqo
    have hlen2 : Z.length = n := hn'.symm
    have gK : ∀ o, (HH ++ [o])[HH.length]? = some o := fun o => by simp
    have g0 : ∀ o, (HH ++ [o])[0]? = HH[0]? := fun o => List.getElem?_append_left (by omega)
    repeat first | refine AWp.seq ?_ | refine AWp.block ?_
    refine AWp.ops ?_
    simp
    refine AWp.cond (b := false) (by simp [hz]) (fun h => by cases h) (fun _ => ?_)
    refine AWp.skip ?_
    simp only [qSeq]
    have hP0 : DenP HH.length q n s (AV.agg [.imm nl1 c01 sz1 (S.map I), .imm nl2 c02 sz2 (F.map specV), .imm nl cl sz (xs.map lvV), .imm nl3 c3 sz3 (Vs.map I)]) S (HH ++ [denO (.agg [s, .slc q n 0 n none])]) Z := by
      refine ⟨hql, by omega, by rw [List.getElem?_append_left (by omega)]; exact f0, by rw [List.getElem?_append_left (by omega)]; exact f1, gK _, by rw [List.getElem?_append_left (by omega)]; exact fq, hlen2, ?_⟩
      rcases fs with h | ⟨k, h1, h2, h3, h4⟩
      · exact .inl h
      · have hk := (List.getElem?_eq_some_iff.1 h4).1
        exact .inr ⟨k, ⟨h1, hk, h2⟩, h3, by rw [List.getElem?_append_left (by omega)]; exact h4⟩
    obtain ⟨K0, hK0⟩ : ∃ K0, K0 = HH ++ [denO (.agg [s, .slc q n 0 n none])] := ⟨_, rfl⟩
    have hK0l : K0.length = HH.length + 1 := by rw [hK0]; simp
    rw [← hK0] at hP0 ⊢
    have k0 := hP0.o0
    repeat first | refine AWp.seq ?_ | refine AWp.block ?_
    refine AWp.ops ?_
    simp [k0]
    have hfl : F.length = xs.length := (tnCheck_ok h).2.1.symm
    refine (walk_spec (n0 := HH.length + 1) (P := fun K vs => DenP HH.length q n s (AV.agg [.imm nl1 c01 sz1 (S.map I), .imm nl2 c02 sz2 (F.map specV), .imm nl cl sz (xs.map lvV), .imm nl3 c3 sz3 (Vs.map I)]) S K vs) (step := denStep S Vs) (V := fun _ => DenV S Vs n) hS' hF' hl' hV' hfl hS4
      (fun K s o h => h.same fun i hi => gs_ne (by omega))
      (fun K s G hK h => (h.same fun i hi => List.getElem?_append_left (by omega)).frz htn (by omega))
      (fun H => by simp; intro h; omega)
      (fun ty1 ty3 ty4 K ws c p hw h hv => Dense1_spec hS' hF' hl' hV' hw h hv)
      (fun K s G hK h => h.same fun i hi => List.getElem?_append_left (by omega))
      (fun K s hK h => h.frz htn (by omega)) hK0l hP0 (hgo.toS _)).mono ?_
    rintro r K' ⟨rfl, hKl, hP'⟩
    simp
    obtain ⟨lq, gq, p0, p1, pd, pq, pl, psh⟩ := id hP'
    repeat first | refine AWp.seq ?_ | refine AWp.block ?_
    refine AWp.ops ?_
    simp [pd, p1, hone]
    refine AWp.ret ?_
    simp
    refine retOk.of (by simp [gs_eq p1]; rfl) ?_
    simp
    refine .inr ⟨rfl, _, rfl, s, q, by omega, by simp [pl], by rw [gs_ne (by omega)]; exact pq, ?_⟩
    rcases psh with h | ⟨k, ⟨h1, h2, h3⟩, h4, h5⟩
    · exact .inl h
    · exact .inr ⟨k, by omega, h3, h4, by rw [gs_ne (by omega)]; exact h5⟩
  have hz : InR (denseF S F xs Vs).1.1 ∧ InR (denseF S F xs Vs).1.2 := by
    unfold denseF
    split
    · exact ⟨⟨by simp, by simp⟩, by simp, by simp⟩
    split
    · exact ⟨⟨by simp, by simp⟩, by simp, by simp⟩
    · refine ⟨⟨hlen1, hx1⟩, ?_⟩
      refine walkF_inv (P := fun ws => InR ws) (fun ws c p h => ⟨by rw [denStep]; simpa using h.1, fun x hx => ?_⟩) xs F _ _ _ ?_
      · rw [denStep] at hx
        rcases List.mem_or_eq_of_mem_set hx with hx | rfl
        · exact h.2 x hx
        · by_cases hp : p < Vs.length
          · have : Vs.getD p 0 = Vs[p] := by simp [hp]
            rw [this]; exact hx3 _ (List.getElem_mem hp)
          · have : Vs.getD p 0 = 0 := by simp [Nat.not_lt.1 hp]
            rw [this]; omega
      · rename_i hz0
        have hl0 := laid_ok (xs := S) (by
          unfold zeroF at hz0
          split at hz0
          · exact absurd (by assumption) hz0
          · rename_i h'; simpa using h')
        obtain ⟨_, k, hk, hk2⟩ := hl0
        have e : (zeroF S).1.2 = List.replicate (laidF S).1.toNat 0 := by
          unfold zeroF at hz0 ⊢
          split at hz0
          · exact absurd (by assumption) hz0
          · rename_i h'; rw [if_neg h']
        rw [e]
        exact ⟨by simp; omega, fun x hx => by simp at hx; omega⟩
  exact dense_pure base hz.1 hz.2
end Go.Fw
namespace Go.Fw
open Go Go.RowKit Go.Proofs
set_option maxRecDepth 100000
set_option linter.unusedSimpArgs false
set_option linter.unusedVariables false
def InS (S : List Int) (c : List Int) : Prop := c.length = S.length ∧ ∀ i < S.length, 0 ≤ c.getD i 0 ∧ c.getD i 0 < S.getD i 0
theorem atGo_ins : ∀ (xs cs : List Int) (n : Int), cs.length = xs.length → (atGo xs cs n).2 = 0 → ∀ i < xs.length, 0 ≤ cs.getD i 0 ∧ cs.getD i 0 < xs.getD i 0
  | [], cs, n, _, _, i, hi => by simp at hi
  | s :: r, [], n, h, _, _, _ => by simp at h
  | s :: r, c :: q, n, h, ha, i, hi => by
    simp only [atGo] at ha
    split at ha
    · simp at ha
    · rename_i hb
      cases i with
      | zero => simp only [List.getD_cons_zero]; omega
      | succ i => simpa using atGo_ins r q _ (by simpa using h) ha i (by simpa using hi)
theorem atF_ins {S c : List Int} (h : (atF S c).2 = 0) : InS S c := by
  unfold atF at h
  split at h
  · rename_i h1
    exact absurd h h1
  split at h
  · simp at h
  rename_i h2
  have hl : c.length = S.length := by
    by_cases e : c.length = S.length
    · exact e
    · exact absurd e h2
  exact ⟨hl, atGo_ins S c 0 hl h⟩
end Go.Fw
namespace Go.Fw
open Go Go.RowKit Go.Proofs
set_option maxRecDepth 100000
set_option linter.unusedSimpArgs false
set_option linter.unusedVariables false
theorem Good.mono {V V' : List Int → Nat → Prop} (hV : ∀ c p, V c p → V' c p) : ∀ {xs : List LvA} {fs : List (Int × Int × Int)} {c : List Int} {p : Nat}, Good V xs fs c p → Good V' xs fs c p
  | [], fs, c, p, h => hV c p h
  | x :: xs, [], c, p, h => h
  | x :: xs, f :: fs, c, p, h => ⟨h.1, fun y hy => ⟨(h.2 y hy).1, Good.mono hV (h.2 y hy).2⟩⟩
theorem kids_in {l : Lv} {n p : Nat} (hc : lvCheck l n = 0) (hp : p < n) : ∀ y ∈ kidsF l p, (0 ≤ y.1 ∧ y.1 < l.sz) ∧ 0 ≤ y.2 ∧ y.2 < lvBelow l n := by
  obtain ⟨z0, z1, hf, hcl, b0, b1, hcr, -⟩ := lvBelow_ok hc
  obtain ⟨k, z, ps, cs⟩ := l
  simp only at z0 z1 hf hcl b0 b1 hcr
  intro y hy
  simp only [kidsF] at hy
  by_cases hw : k = 0 ∨ k = 4
  · rw [if_pos hw] at hy
    obtain ⟨a, ha, rfl⟩ := List.mem_map.1 hy
    rw [List.mem_range] at ha
    simp only [lvBelow]
    rw [if_pos hw]
    have h1 : ((p + 1 : Nat) : Int) * z ≤ (n : Int) * z := Int.mul_le_mul_of_nonneg_right (by omega) z0
    rw [Int.natCast_add, Int.add_mul] at h1
    have h2 : 0 ≤ (p : Int) * z := Int.mul_nonneg (by omega) z0
    omega
  rw [if_neg hw] at hy
  simp only [lvBelow]
  rw [if_neg hw]
  by_cases k3 : k = 3
  · rw [if_pos k3] at hy
    have hcn : cs.length = n := by
      simp only [lvFormed] at hf
      rw [if_neg (by omega), if_neg (by omega), if_pos k3] at hf
      exact (of_decide_eq_true hf).2
    have hy : y = (cs.getD p 0, (p : Int)) := by simpa using hy
    have hb : p < cs.length := by omega
    have e : cs.getD p 0 = cs[p] := by simp [hb]
    have := hcr cs[p] (List.getElem_mem hb)
    rw [hy, e]
    exact ⟨this, by simp only; omega, by simp only; omega⟩
  · rw [if_neg k3] at hy
    have k12 : k = 1 ∨ k = 2 := by
      by_cases h : k = 1 ∨ k = 2
      · exact h
      · simp only [lvFormed] at hf
        rw [if_neg (by omega), if_neg (by omega), if_neg k3, if_neg h] at hf
        cases hf
    have hP := lvFormed_pos hf k12
    simp only at hP
    obtain ⟨f, t, hf', ht', hft, htc⟩ := hP.at hp
    obtain ⟨a, ha, rfl⟩ := List.mem_map.1 hy
    rw [List.mem_range'] at ha
    obtain ⟨j, hj, rfl⟩ := ha
    simp only [hf', ht', Int.toNat_natCast] at hj ⊢
    have hb : f + 1 * j < cs.length := by omega
    have e : cs.getD (f + 1 * j) 0 = cs[f + 1 * j] := by simp only [List.getD, List.getElem?_eq_getElem hb]; rfl
    have := hcr _ (List.getElem_mem hb)
    rw [e]
    exact ⟨this, by omega, by omega⟩
def Part (S : List Int) (M M0 : List (Bool × Int)) (c : List Int) : Prop :=
  c.length = S.length ∧ ∀ m < S.length, (M0.getD m (false, 0)).1 = true →
    0 ≤ c.getD m 0 ∧ if (M0.getD m (false, 0)).2 = 0 ∧ 0 < (M.getD m (false, 0)).2 then (c.getD m 0 + 1) * (M.getD m (false, 0)).2 ≤ S.getD m 0 else c.getD m 0 < S.getD m 0
theorem getD_set {α : Type} (l : List α) (i j : Nat) (x d : α) (hi : i < l.length) : (l.set i x).getD j d = if i = j then x else l.getD j d := by
  simp only [List.getD, List.getElem?_set]
  split
  · simp [hi]
  · rfl
theorem readStep_keep {S : List Int} {s : Int × Int × Int} {M M' : List (Bool × Int)} {b : Int} (hM : S.length ≤ M.length) (h : readStep S s M b = some M') (m : Nat) (h0 : (M.getD m (false, 0)).2 ≠ 0) : (M'.getD m (false, 0)).2 = (M.getD m (false, 0)).2 := by
  unfold readStep at h
  split at h
  · cases h
  rename_i hr
  have hi : s.2.1.toNat < M.length := by omega
  split at h
  · split at h
    · cases h
      rw [getD_set _ _ _ _ _ hi]
      split
      · rename_i e; rw [e]
      · rfl
    · cases h
  · split at h
    · split at h
      · rename_i hc
        cases h
        rw [getD_set _ _ _ _ _ hi]
        split
        · rename_i e; rw [e] at hc; exact absurd hc.2.1 h0
        · rfl
      · cases h
    · cases h
theorem readGo_keep {S : List Int} : ∀ {fs : List (Int × Int × Int)} {M M' : List (Bool × Int)} {b : Int}, S.length ≤ M.length → readGo S fs M b = some M' → ∀ m, (M.getD m (false, 0)).2 ≠ 0 → (M'.getD m (false, 0)).2 = (M.getD m (false, 0)).2
  | [], M, M', b, _, h, m, _ => by cases h; rfl
  | s :: r, M, M', b, hM, h, m, h0 => by
    simp only [readGo, Option.bind_eq_some_iff] at h
    obtain ⟨M1, h1, h2⟩ := h
    have e := readStep_keep hM h1 m h0
    have := readGo_keep (by rw [readStep_len h1]; exact hM) h2 m (by rw [e]; exact h0)
    rw [this, e]
def lastG : List Int → Nat → Nat
  | [], n => n
  | w :: r, _ => lastG r w.toNat
theorem lastG_eq : ∀ (ws : List Int) (n : Nat), (∀ w ∈ ws, 0 ≤ w) → (lastG ws n : Int) = ((n : Int) :: ws).getD ws.length 0
  | [], n, _ => rfl
  | w :: r, n, h => by
    have hw := h w (by simp)
    have := lastG_eq r w.toNat fun x hx => h x (by simp [hx])
    simp only [lastG]
    rw [this]
    simp only [List.length_cons, List.getD_cons_succ]
    rw [Int.toNat_of_nonneg hw]
set_option maxHeartbeats 1000000 in
theorem good_of {S : List Int} {M : List (Bool × Int)} {N : Nat} (hS : ∀ x ∈ S, 0 ≤ x ∧ x ≤ 9223372036854775807) (hmet : ∀ m < S.length, (M.getD m (false, 0)).1 = true) :
    ∀ (fs : List (Int × Int × Int)) (xs : List LvA) (M0 : List (Bool × Int)) (b : Int) (c : List Int) (n p : Nat) (ws : List Int), S.length ≤ M0.length → (∀ m, (M0.getD m (false, 0)).1 = false → (M0.getD m (false, 0)).2 = 0) →
      readGo S fs M0 b = some M → Part S M M0 c → xs.length = fs.length → fitF xs fs (fs.map (lvlOf S M)) = true → cntGo xs n = .ok ws → n ≤ 1048576 → p < n → lastG ws n = N →
      Good (fun c p => InS S c ∧ p < N) xs fs c p
  | [], [], M0, b, c, n, p, ws, _, _, hr, hP, _, _, hc, _, hp, hN => by
    cases hr
    cases hc
    refine ⟨⟨hP.1, fun i hi => ?_⟩, by simpa [lastG] using (by rw [← hN]; exact hp : p < N)⟩
    have h1 := hP.2 i hi (hmet i hi)
    by_cases h : (M.getD i (false, 0)).2 = 0 ∧ 0 < (M.getD i (false, 0)).2
    · omega
    · rw [if_neg h] at h1; exact h1
  | f :: fs, x :: xs, M0, b, c, n, p, ws, hM0, hun, hr, hP, hl, hfit, hc, hn, hp, hN => by
    simp only [readGo, Option.bind_eq_some_iff] at hr
    obtain ⟨M1, hr1, hr2⟩ := hr
    obtain ⟨hmo, hk, -⟩ := readStep_ok hr1
    have hM1 := readStep_len hr1
    simp only [List.map_cons, fitF, Bool.and_eq_true, decide_eq_true_eq] at hfit
    obtain ⟨⟨hfk, hfz⟩, hfit⟩ := hfit
    simp only [cntGo] at hc
    split at hc
    case isFalse => cases hc
    rename_i hchk
    have hcs : ∃ ws', cntGo xs (lvBelow x.lv n).toNat = .ok ws' ∧ ws = lvBelow x.lv n :: ws' := by
      cases h : cntGo xs (lvBelow x.lv n).toNat with
      | error e => rw [h] at hc; simp [Except.map] at hc
      | ok l => rw [h] at hc; simp [Except.map] at hc; exact ⟨l, rfl, hc.symm⟩
    obtain ⟨ws', hc', rfl⟩ := hcs
    obtain ⟨-, -, -, -, b5, b6, -, -⟩ := lvBelow_ok hchk
    obtain ⟨k, mo, z⟩ := f
    simp only at hmo hk hfk hfz
    obtain ⟨m, rfl⟩ : ∃ m : Nat, mo = m := ⟨mo.toNat, by omega⟩
    have hm : m < S.length := by omega
    have hmM : m < M0.length := by omega
    have hmc : m < c.length := by rw [hP.1]; exact hm
    refine ⟨⟨⟨by simp only; omega, by simpa using hmc⟩, n, hn, hchk, hp⟩, fun y hy => ?_⟩
    obtain ⟨hy1, hy2⟩ := kids_in hchk hp y hy
    refine ⟨hy2.1, good_of hS hmet fs xs M1 k _ (lvBelow x.lv n).toNat y.2.toNat ws' (by omega) ?_ hr2 ?_ (by simpa using hl) hfit hc' (by omega) (by omega) (by simpa [lastG] using hN)⟩
    · intro m' h'
      unfold readStep at hr1
      simp only [Int.toNat_natCast] at hr1
      split at hr1
      · cases hr1
      split at hr1
      · split at hr1
        · cases hr1
          rw [getD_set _ _ _ _ _ hmM] at h' ⊢
          split at h'
          · simp at h'
          · rename_i e; rw [if_neg e]; exact hun m' h'
        · cases hr1
      · split at hr1
        · split at hr1
          · rename_i hcond
            cases hr1
            rw [getD_set _ _ _ _ _ hmM] at h' ⊢
            split at h'
            · rw [hcond.1] at h'; simp at h'
            · rename_i e; rw [if_neg e]; exact hun m' h'
          · cases hr1
        · cases hr1
    · have hkeep := fun m' => readGo_keep (S := S) (fs := fs) (M := M1) (M' := M) (b := k) (by omega) hr2 m'
      have hlen : (stepC (k, (m : Int), z) c y.1).length = S.length := by rw [stepC]; simpa using hP.1
      have hSm := hS (S.getD m 0) (by
        have : S.getD m 0 = S[m] := by simp [hm]
        rw [this]; exact List.getElem_mem hm)
      unfold readStep at hr1
      simp only [Int.toNat_natCast] at hr1
      split at hr1
      · cases hr1
      split at hr1
      · rename_i hk03
        split at hr1
        case isFalse => cases hr1
        rename_i hcond
        obtain ⟨hc1, hz0, -⟩ := hcond
        cases hr1
        have h00 := hun m hc1
        have k4 : ¬ k = 4 := by omega
        simp only [lvlOf, Int.toNat_natCast] at hfz
        rw [if_neg k4] at hfz
        have hfr : fromF (k, (m : Int), z) c = 0 := by simp only [fromF]; rw [if_neg k4]
        refine ⟨hlen, fun m' hm' hmet' => ?_⟩
        rw [getD_set _ _ _ _ _ hmM] at hmet' ⊢
        simp only [stepC, Int.toNat_natCast, hfr, Int.zero_add]
        rw [getD_set _ _ _ _ _ hmc]
        by_cases e : m = m'
        · subst e
          simp only [if_true]
          by_cases hb : 0 < (M.getD m (false, 0)).2
          · rw [if_pos hb] at hfz
            have hdiv : x.lv.sz * (M.getD m (false, 0)).2 ≤ S.getD m 0 := by
              rw [hfz, Int.tdiv_eq_ediv_of_nonneg hSm.1]
              exact Int.ediv_mul_le _ (by omega)
            have hb1 : y.1 + 1 ≤ (y.1 + 1) * (M.getD m (false, 0)).2 := by
              have := Int.mul_le_mul_of_nonneg_left (show (1 : Int) ≤ (M.getD m (false, 0)).2 by omega) (show 0 ≤ y.1 + 1 by omega)
              omega
            have hb2 : (y.1 + 1) * (M.getD m (false, 0)).2 ≤ x.lv.sz * (M.getD m (false, 0)).2 := Int.mul_le_mul_of_nonneg_right (by omega) (by omega)
            have w := wrap_i64 (n := y.1) (by omega) (by omega)
            rw [show w64 y.1 = y.1 from w, h00]
            refine ⟨by omega, ?_⟩
            rw [if_pos ⟨rfl, hb⟩]
            omega
          · rw [if_neg hb] at hfz
            have w := wrap_i64 (n := y.1) (by omega) (by omega)
            rw [show w64 y.1 = y.1 from w]
            refine ⟨by omega, ?_⟩
            rw [if_neg (by rintro ⟨_, h⟩; exact hb h)]
            omega
        · simp only [if_neg e] at hmet' ⊢
          exact hP.2 m' hm' hmet'
      · rename_i hk03
        split at hr1
        case isFalse => cases hr1
        rename_i k4
        split at hr1
        case isFalse => cases hr1
        rename_i hcond
        obtain ⟨hc1, hc2, -, hz0, -⟩ := hcond
        cases hr1
        have hMm : (M.getD m (false, 0)).2 = z := by
          have := hkeep m
          rw [getD_set _ _ _ _ _ hmM, if_pos rfl] at this
          exact this (by simp only; omega)
        simp only [lvlOf, Int.toNat_natCast] at hfz
        rw [if_pos k4, hMm] at hfz
        have hPm := hP.2 m hm hc1
        rw [if_pos ⟨hc2, by rw [hMm]; exact hz0⟩, hMm] at hPm
        obtain ⟨q0, q1⟩ := hPm
        rw [Int.add_mul] at q1
        have q2 : 0 ≤ c.getD m 0 * z := Int.mul_nonneg q0 (by omega)
        have w1 := wrap_i64 (n := c.getD m 0 * z) (by omega) (by omega)
        have w2 := wrap_i64 (n := c.getD m 0 * z + y.1) (by omega) (by omega)
        have hfr : fromF (k, (m : Int), z) c = c.getD m 0 * z := by simp only [fromF, Int.toNat_natCast]; rw [if_pos k4]; exact w1
        refine ⟨hlen, fun m' hm' hmet' => ?_⟩
        rw [getD_set _ _ _ _ _ hmM] at hmet' ⊢
        simp only [stepC, Int.toNat_natCast, hfr]
        rw [getD_set _ _ _ _ _ hmc]
        by_cases e : m = m'
        · subst e
          simp only [if_true]
          rw [show w64 (c.getD m 0 * z + y.1) = c.getD m 0 * z + y.1 from w2]
          refine ⟨by omega, ?_⟩
          rw [if_neg (by rintro ⟨h, _⟩; omega)]
          omega
        · simp only [if_neg e] at hmet' ⊢
          exact hP.2 m' hm' hmet'
  | [], x :: xs, _, _, _, _, _, _, _, _, _, _, hl, _, _, _, _, _ => by simp at hl
  | f :: fs, [], _, _, _, _, _, _, _, _, _, _, hl, _, _, _, _, _ => by simp at hl
theorem rep_getD {α : Type} (n m : Nat) (d : α) : (List.replicate n d).getD m d = d := by
  simp only [List.getD, List.getElem?_replicate]; split <;> rfl
theorem cntGo_nonneg : ∀ {xs : List LvA} {n : Nat} {l : List Int}, cntGo xs n = .ok l → ∀ w ∈ l, 0 ≤ w ∧ w ≤ 1048576
  | [], n, l, h, w, hw => by cases h; simp at hw
  | x :: r, n, l, h, w, hw => by
    simp only [cntGo] at h
    split at h
    · rename_i hc
      obtain ⟨-, -, -, -, b5, b6, -, -⟩ := lvBelow_ok hc
      cases hr : cntGo r (lvBelow x.lv n).toNat with
      | error e => rw [hr] at h; simp [Except.map] at h
      | ok l' =>
        rw [hr] at h
        simp [Except.map] at h
        subst h
        rcases List.mem_cons.1 hw with rfl | hw
        · exact ⟨b5, b6⟩
        · exact cntGo_nonneg hr w hw
    · cases h
theorem tn_good {S : List Int} {F : List (Int × Int × Int)} {xs : List LvA} {Vs : List Int} (hS : ∀ x ∈ S, -9223372036854775808 ≤ x ∧ x ≤ 9223372036854775807) (h : tnCheck S F xs Vs = 0) :
    Good (fun c p => InS S c ∧ p < Vs.length) xs F (List.replicate S.length 0) 0 := by
  obtain ⟨h1, h2, h3, h4, h5, -⟩ := tnCheck_ok h
  have hc : (cells S).2 = 0 := by
    by_cases hc : (cells S).2 = 0
    · exact hc
    · unfold sizesF at h1; rw [if_pos hc] at h1; exact absurd h1 hc
  obtain ⟨hn, hl4⟩ := cells_nonneg' hc
  obtain ⟨M, hM⟩ := sizesF_read h1
  have hZ : (sizesF S F).1 = F.map (lvlOf S M) := by
    unfold sizesF at h1 ⊢
    rw [if_neg (by omega)] at h1 ⊢
    simp only [hM] at h1 ⊢
    split
    · rename_i hb; rw [if_pos hb] at h1; cases h1
    · rfl
  rw [hZ] at h3
  unfold readF at hM
  rw [Option.bind_eq_some_iff] at hM
  obtain ⟨M1, hM1, hM2⟩ := hM
  split at hM2
  case isFalse => cases hM2
  rename_i hall
  cases hM2
  have hlenM : M.length = 4 := by
    have : ∀ {fs : List (Int × Int × Int)} {A B : List (Bool × Int)} {b : Int}, readGo S fs A b = some B → B.length = A.length := by
      intro fs
      induction fs with
      | nil => intro A B b h; cases h; rfl
      | cons f fs ih =>
        intro A B b h
        simp only [readGo, Option.bind_eq_some_iff] at h
        obtain ⟨C, e1, e2⟩ := h
        rw [ih e2, readStep_len e1]
    rw [this hM1]; simp
  have hmet : ∀ m < S.length, (M.getD m (false, 0)).1 = true := by
    intro m hm
    have hb : m < M.length := by omega
    have e : M.getD m (false, 0) = M[m] := by simp [hb]
    rw [e]
    have := List.all_eq_true.1 hall M[m] (by
      rw [List.mem_take_iff_getElem]
      exact ⟨m, by omega, rfl⟩)
    exact this
  have hco := cntF_ok h4
  have hnn := cntGo_nonneg hco
  have hlast : lastG (cntF xs).1 1 = Vs.length := by
    have e1 := lastG_eq (cntF xs).1 1 fun w hw => (hnn w hw).1
    have e2 : lastF (cntF xs).1 = (((1 : Nat) : Int) :: (cntF xs).1).getD (cntF xs).1.length 0 := rfl
    rw [e2] at h5
    omega
  exact good_of (fun x hx => ⟨hn x hx, (hS x hx).2⟩) hmet F xs (List.replicate 4 (false, 0)) 0 _ 1 0 _ (by simpa using hl4) (by
    intro m _
    rw [rep_getD]) hM1 ⟨by simp, fun m _ hm => by
      rw [rep_getD] at hm; cases hm⟩ h2 h3 hco (by omega) (by omega) hlast
theorem atGo_inS : ∀ (xs cs : List Int) (n : Int), cs.length = xs.length → (∀ i < xs.length, 0 ≤ cs.getD i 0 ∧ cs.getD i 0 < xs.getD i 0) → (atGo xs cs n).2 = 0
  | [], cs, n, _, _ => by cases cs <;> rfl
  | s :: r, [], n, h, _ => by simp at h
  | s :: r, c :: q, n, h, hi => by
    simp only [atGo]
    have h0 := hi 0 (by simp)
    simp only [List.getD_cons_zero] at h0
    rw [if_neg (by omega)]
    exact atGo_inS r q _ (by simpa using h) fun i hlt => by
      have := hi (i + 1) (by simpa using hlt)
      simpa using this
theorem at_in {S c : List Int} (hc : (cells S).2 = 0) (hi : InS S c) : (atF S c).2 = 0 ∧ 0 ≤ (atF S c).1 ∧ (atF S c).1 < (cells S).1 := by
  have h : (atF S c).2 = 0 := by
    unfold atF
    rw [if_neg (by omega), if_neg (by rw [hi.1]; simp)]
    exact atGo_inS S c 0 hi.1 hi.2
  exact ⟨h, atF_lt hc h⟩
theorem zero_len {S : List Int} (h : (zeroF S).2 = 0) : (cells S).2 = 0 ∧ (zeroF S).1.1 = S ∧ ((zeroF S).1.2.length : Int) = (cells S).1 ∧ (zeroF S).1.2 = List.replicate (cells S).1.toNat 0 := by
  have hl : (laidF S).2 = 0 := by
    unfold zeroF at h
    split at h
    · exact absurd h ‹_›
    · rename_i h'; simpa using h'
  have hcl : laidF S = cells S := by
    unfold laidF at hl ⊢
    split
    · rename_i hb; rw [if_pos hb] at hl; cases hl
    · rfl
  have := cells_nonneg S
  unfold zeroF
  rw [if_neg (by omega), hcl]
  rw [hcl] at hl
  exact ⟨hl, rfl, by simp; omega, rfl⟩
theorem den_good {S : List Int} {F : List (Int × Int × Int)} {xs : List LvA} {Vs : List Int} (hS : S.length ≤ 9223372036854775807 ∧ ∀ x ∈ S, -9223372036854775808 ≤ x ∧ x ≤ 9223372036854775807) (h : tnCheck S F xs Vs = 0) (hz : (zeroF S).2 = 0) :
    Good (DenV S Vs (zeroF S).1.2.length) xs F (List.replicate S.length 0) 0 := by
  obtain ⟨hc, -, hl, -⟩ := zero_len hz
  refine (tn_good hS.2 h).mono ?_
  rintro c p ⟨hi, hp⟩
  obtain ⟨a1, a2, a3⟩ := at_in hc hi
  refine ⟨hp, ⟨by rw [hi.1]; exact hS.1, fun x hx => ?_⟩, a1, a2, by omega⟩
  obtain ⟨i, hil, rfl⟩ := List.mem_iff_getElem.1 hx
  have h2 := hi.2 i (by rw [← hi.1]; exact hil)
  have e1 : c.getD i 0 = c[i] := by simp [hil]
  have hiS : i < S.length := by rw [← hi.1]; exact hil
  have e2 : S.getD i 0 = S[i] := by simp [hiS]
  have := hS.2 S[i] (List.getElem_mem hiS)
  rw [e1, e2] at h2
  omega
end Go.Fw
