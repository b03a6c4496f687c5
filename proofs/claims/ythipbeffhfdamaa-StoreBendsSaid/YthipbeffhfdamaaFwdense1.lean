import Derived.Test.YthipbeffhfdamaaFwstore9
import Derived.Test.YthipbeffhfdamaaFwown0
namespace Go.Fw
open Go Go.RowKit Go.Proofs
set_option maxRecDepth 100000
set_option linter.unusedSimpArgs false
set_option linter.unusedVariables false

/-- The objects of Dense: the tensor, what is returned, the shape and the numbers of what is made. -/
structure DenP (nd q n : Nat) (s tn : AV) (S : List Int) (K : List AObj) (vs : List Int) : Prop where
  lq : q < nd
  gq : 2 ≤ q
  o0 : K[0]? = some (tnO tn)
  o1 : K[1]? = some (denO nilD)
  od : K[nd]? = some (denO (.agg [s, .slc q n 0 n none]))
  oq : K[q]? = some (i64O vs)
  len : vs.length = n
  sh : (S = [] ∧ ∃ nl c sz, s = .imm nl c sz [] ∧ (nl = false → sz = 1)) ∨ ∃ k, (2 ≤ k ∧ k < nd ∧ k ≠ q) ∧ s = .slc k S.length 0 S.length none ∧ K[k]? = some ⟨3, 1, S.map I, true, none⟩
theorem DenP.same {nd q n : Nat} {s tn : AV} {S : List Int} {K K' : List AObj} {vs : List Int} (h : DenP nd q n s tn S K vs) (hK : ∀ i, i ≤ nd → K'[i]? = K[i]?) : DenP nd q n s tn S K' vs := by
  have h1 := h.lq
  have h2 := h.gq
  refine ⟨h1, h2, by rw [hK _ (by omega)]; exact h.o0, by rw [hK _ (by omega)]; exact h.o1, by rw [hK _ (by omega)]; exact h.od, by rw [hK _ (by omega)]; exact h.oq, h.len, ?_⟩
  rcases h.sh with h | ⟨k, h3, h4, h5⟩
  · exact .inl h
  · exact .inr ⟨k, h3, h4, by rw [hK _ (by omega)]; exact h5⟩
theorem DenP.frz {nd q n : Nat} {s tn : AV} {S : List Int} {K : List AObj} {vs : List Int} (h : DenP nd q n s tn S K vs) (htn : ∀ H k, frz H k 3 true tn = tn) {k : Nat} (hk : nd < k) : DenP nd q n s tn S (frzH K k 3) vs := by
  have h1 := h.lq
  have h2 := h.gq
  refine ⟨h1, h2, ?_, ?_, ?_, ?_, h.len, ?_⟩
  · rw [frzH_of 3 (by omega) h.o0]; simp [htn]
  · rw [frzH_of 3 (by omega) h.o1]; simp
  · rw [frzH_of 3 (by omega) h.od]
    have hq : q < k := by omega
    rcases h.sh with ⟨_, nl, c, sz, rfl, _⟩ | ⟨j, h3, rfl, _⟩
    · simp [hq]
    · have hj : j < k := by omega
      simp [hq, hj]
  · rw [frzH_of 3 (by omega) h.oq]; simp
  · rcases h.sh with h | ⟨j, h3, h4, h5⟩
    · exact .inl h
    · exact .inr ⟨j, h3, h4, by rw [frzH_of 3 (by omega) h5]; simp⟩
theorem DenP.one {nd q n : Nat} {s tn : AV} {S : List Int} {K : List AObj} {vs : List Int} (h : DenP nd q n s tn S K vs) : oneC s = true := by
  rcases h.sh with ⟨_, nl, c, sz, rfl, _⟩ | ⟨j, h3, rfl, _⟩ <;> rfl
theorem DenP.setq {nd q n : Nat} {s tn : AV} {S : List Int} {K : List AObj} {vs ws : List Int} (h : DenP nd q n s tn S K vs) (hw : ws.length = n) : DenP nd q n s tn S (K.set q (i64O ws)) ws := by
  have h1 := h.lq
  have h2 := h.gq
  refine ⟨h1, h2, by rw [gs_ne (by omega)]; exact h.o0, by rw [gs_ne (by omega)]; exact h.o1, by rw [gs_ne (by omega)]; exact h.od, gs_eq h.oq, hw, ?_⟩
  rcases h.sh with h | ⟨j, h3, h4, h5⟩
  · exact .inl h
  · exact .inr ⟨j, h3, h4, by rw [gs_ne (by omega)]; exact h5⟩
theorem WInv.setlt {n0 N : Nat} {tn : AV} {g : FuncId} {gc : List AV} {ty1 ty3 ty4 : Nat} {K : List AObj} {c : List Int} (h : WInv n0 N tn g gc ty1 ty3 ty4 K c) {q : Nat} (hq : q < n0) (o : AObj) : WInv n0 N tn g gc ty1 ty3 ty4 (K.set q o) c := by
  refine ⟨by simpa using h.len, h.lt, ?_, ?_, ?_, ?_, ?_⟩
  · rw [gs_ne (by omega)]; exact h.o0
  · rw [gs_ne (by omega)]; exact h.o1
  · rw [gs_ne (by omega)]; exact h.o2
  · rw [gs_ne (by omega)]; exact h.o3
  · rw [gs_ne (by omega)]; exact h.o4

/-- Which places and numbers there may be. -/
def DenV (S Vs : List Int) (n : Nat) (c : List Int) (p : Nat) : Prop := p < Vs.length ∧ InI c ∧ (atF S c).2 = 0 ∧ 0 ≤ (atF S c).1 ∧ (atF S c).1 < n
def denStep (S Vs : List Int) (ws : List Int) (c : List Int) (p : Nat) : List Int := ws.set (atF S c).1.toNat (Vs.getD p 0)

def Dense1_ac : AC := (.seq (.ops [⟨(some 9), none, (.k (.fad 0 (.t 2)))⟩, ⟨(some 10), none, (.k (.ld 1 false (.t 9)))⟩, ⟨(some 11), none, (.k (.mov (.t 0)))⟩, ⟨(some 12), none, (.call false (.c (.fn (.func 21) [] [])) [(.t 10), (.t 11)])⟩, ⟨(some 8), none, (.k (.mov (.t 12)))⟩, ⟨(some 13), none, (.k (.ext (.t 8) 0))⟩, ⟨(some 14), none, (.k (.ext (.t 8) 1))⟩, ⟨(some 6), none, (.k (.mov (.t 13)))⟩, ⟨(some 7), none, (.k (.mov (.t 14)))⟩]) (.ops [⟨(some 15), none, (.k (.fad 1 (.t 3)))⟩, ⟨(some 16), none, (.k (.ld 1 false (.t 15)))⟩, ⟨(some 17), none, (.k (.mov (.t 6)))⟩, ⟨(some 18), none, (.k (.fad 3 (.t 2)))⟩, ⟨(some 19), none, (.k (.ld 1 false (.t 18)))⟩, ⟨(some 20), none, (.k (.mov (.t 1)))⟩, ⟨(some 21), none, (.k (.iad 1 (.t 19) (.t 20)))⟩, ⟨(some 22), none, (.k (.ld 1 false (.t 21)))⟩, ⟨(some 23), none, (.k (.iad 1 (.t 16) (.t 17)))⟩, ⟨none, none, (.k (.st 1 (.t 23) (.t 22)))⟩]))
theorem Dense1_call {args : List AV} {H : List AObj} {R : AV → List AObj → Prop} (h : AWp Try.prog [] H.length Dense1_ac (bodyQ H.length [] R) (args ++ List.replicate (24 - args.length) .und) H) : ACalls Try.prog 54 args H R :=
  ACalls.of_fn Try.func54 rfl (by kernel_rfl) rfl Try.ntmps54 h

set_option maxHeartbeats 2000000 in
theorem Dense1_spec {nd q n : Nat} {s sh f l v : AV} {S Vs : List Int} {F : List (Int × Int × Int)} {xs : List LvA} (hS : ISl sh S) (hF : Sp f F) (hl : Ls l xs) (hV : ISl v Vs) {ty1 ty3 ty4 : Nat} {K : List AObj} {ws c : List Int} {p : Nat}
    (hw : WInv (nd + 1) (nd + 6) (.agg [sh, f, l, v]) 54 [.ptr 0 1 0 0, .ptr nd 1 0 0] ty1 ty3 ty4 K c) (hP : DenP nd q n s (.agg [sh, f, l, v]) S K ws) (hv : DenV S Vs n c p) :
    ACalls Try.prog 54 [.slc (nd + 3) c.length 0 c.length none, I p, .ptr 0 1 0 0, .ptr nd 1 0 0] K fun r K' => r = .tup [] ∧ WInv (nd + 1) (nd + 6) (.agg [sh, f, l, v]) 54 [.ptr 0 1 0 0, .ptr nd 1 0 0] ty1 ty3 ty4 K' c ∧ DenP nd q n s (.agg [sh, f, l, v]) S K' (denStep S Vs ws c p) := by
  have hS' := hS
  obtain ⟨⟨nl, cl, sz, rfl, hs⟩, hlen, hx⟩ := hl
  obtain ⟨⟨nl1, c01, sz1, rfl, hs1⟩, hlen1, hx1⟩ := hS
  obtain ⟨⟨nl2, c02, sz2, rfl, hs2⟩, hlen2, hx2⟩ := hF
  obtain ⟨⟨nl3, c3, sz3, rfl, hs3⟩, hlen3, hx3⟩ := hV
  obtain ⟨hp, hc, a2, a0, a1⟩ := hv
  have hszv := sz_of hs3 hp
  subst hszv
  obtain ⟨lq, gq, o0, o1, od, oq, ol, osh⟩ := id hP
  have c2 := hw.o2
  rw [show nd + 1 + 2 = nd + 3 by omega] at c2
  obtain ⟨m, hm⟩ : ∃ m : Nat, (atF S c).1 = m := ⟨(atF S c).1.toNat, by omega⟩
  have hmn : m < n := by omega
  have hmw : m < ws.length := by omega
  have hone := hP.one
  apply Dense1_call
  repeat first | refine AWp.seq ?_ | refine AWp.block ?_
  refine AWp.ops ?_
  simp [o0]
  refine ACalls.mono (ACalls.pureLent 3 (R := fun r => r = .tup [I (atF S c).1, I (atF S c).2]) ?_ (by rintro r rfl s; simp)) ?_
  · simp [c2]
    exact At_spec hS' (ISl.of _ hc.1 hc.2)
  rintro r H' ⟨rfl, rfl⟩
  rw [hm]
  simp
  repeat first | refine AWp.seq ?_ | refine AWp.block ?_
  refine AWp.ops ?_
  simp [od, o0, oq, hone, hp, hmn, ol, hmw]
  have hset : (ws.map I).set m (I Vs[p]) = (denStep S Vs ws c p).map I := by
    rw [denStep, hm, Int.toNat_natCast, List.map_set]
    simp [hp]
  rw [hset]
  exact retOk.of rfl ⟨rfl, hw.setlt (by omega) _, hP.setq (by rw [denStep]; simpa using ol)⟩

/-- A tensor, laid out. -/
def denseF (S : List Int) (F : List (Int × Int × Int)) (xs : List LvA) (Vs : List Int) : (List Int × List Int) × Int :=
  if tnCheck S F xs Vs ≠ 0 then (([], []), tnCheck S F xs Vs) else if (zeroF S).2 ≠ 0 then (([], []), (zeroF S).2)
  else ((S, walkF (denStep S Vs) xs F (List.replicate S.length 0) 0 (zeroF S).1.2), 0)

theorem walkF_inv {σ : Type} {P : σ → Prop} {step : σ → List Int → Nat → σ} (hs : ∀ s c p, P s → P (step s c p)) : ∀ (xs : List LvA) (fs : List (Int × Int × Int)) (c : List Int) (p : Nat) (s : σ), P s → P (walkF step xs fs c p s)
  | [], fs, c, p, s, h => hs s c p h
  | x :: xs, [], c, p, s, h => hs s c p h
  | x :: xs, f :: fs, c, p, s, h => by
    simp only [walkF]
    have : ∀ (ys : List (Int × Int)) (s : σ), P s → P (ys.foldl (fun s y => walkF step xs fs (stepC f c y.1) y.2.toNat s) s) := by
      intro ys
      induction ys with
      | nil => intro s h; exact h
      | cons y ys ih => intro s h; exact ih _ (walkF_inv hs xs fs _ _ s h)
    exact this _ s h

def sDense_12 : AC := (.seq (.ops [⟨(some 26), none, (.k (.ld 2 true (.t 5)))⟩, ⟨none, none, (.k (.st 2 (.t 2) (.t 26)))⟩, ⟨(some 3), none, (.k (.mov (.c (.sc (.int .i64 0)))))⟩]) .ret)
def sDense_11 : AC := (.seq (.ops [⟨(some 23), none, (.k (.ld 4 true (.t 1)))⟩, ⟨(some 24), none, (.k (.mkF (.func 54) [] [(.t 1), (.t 5)]))⟩, ⟨(some 25), none, (.call false (.c (.fn (.func 49) [] [])) [(.t 23), (.t 24)])⟩]) sDense_12)
def sDense_10 : AC := (.seq (.ops [⟨(some 21), none, (.k (.mk [(.imm true none 0 []), (.imm true none 0 [])] []))⟩, ⟨(some 22), none, (.k (.mov (.t 6)))⟩, ⟨none, none, (.k (.st 2 (.t 2) (.t 21)))⟩, ⟨(some 3), none, (.k (.mov (.t 22)))⟩]) .ret)
def sDense_9 : AC := (.cond (.t 20) sDense_10 .skip)
def sDense_8 : AC := (.seq (.ops [⟨(some 19), none, (.k (.mov (.t 6)))⟩, ⟨(some 20), none, (.k (.bin .neq (.t 19) (.c (.sc (.int .i64 0)))))⟩]) sDense_9)
def sDense_7 : AC := (.seq sDense_8 sDense_11)
def sDense_6 : AC := (.seq (.ops [⟨(some 14), none, (.k (.fad 0 (.t 1)))⟩, ⟨(some 15), none, (.k (.ld 1 false (.t 14)))⟩, ⟨(some 16), none, (.call false (.c (.fn (.func 53) [] [])) [(.t 15)])⟩, ⟨(some 13), none, (.k (.mov (.t 16)))⟩, ⟨(some 17), none, (.k (.ext (.t 13) 0))⟩, ⟨(some 18), none, (.k (.ext (.t 13) 1))⟩, ⟨(some 5), none, (.k (.new 57 2 (.c (.agg [(.imm true none 0 []), (.imm true none 0 [])]))))⟩, ⟨none, none, (.k (.st 2 (.t 5) (.t 17)))⟩, ⟨(some 6), none, (.k (.mov (.t 18)))⟩]) sDense_7)
def sDense_5 : AC := (.seq (.ops [⟨(some 11), none, (.k (.mk [(.imm true none 0 []), (.imm true none 0 [])] []))⟩, ⟨(some 12), none, (.k (.mov (.t 4)))⟩, ⟨none, none, (.k (.st 2 (.t 2) (.t 11)))⟩, ⟨(some 3), none, (.k (.mov (.t 12)))⟩]) .ret)
def sDense_4 : AC := (.cond (.t 10) sDense_5 .skip)
def sDense_3 : AC := (.seq (.ops [⟨(some 9), none, (.k (.mov (.t 4)))⟩, ⟨(some 10), none, (.k (.bin .neq (.t 9) (.c (.sc (.int .i64 0)))))⟩]) sDense_4)
def sDense_2 : AC := (.seq (.ops [⟨(some 7), none, (.k (.ld 4 true (.t 1)))⟩, ⟨(some 8), none, (.call false (.c (.fn (.func 11) [] [])) [(.t 7)])⟩, ⟨(some 4), none, (.k (.mov (.t 8)))⟩]) sDense_3)
def sDense_1 : AC := (.seq sDense_2 sDense_6)
def sDense_ac : AC := (.seq (.ops [⟨(some 1), none, (.k (.new 27 4 (.t 0)))⟩, ⟨(some 2), none, (.k (.new 57 2 (.c (.agg [(.imm true none 0 []), (.imm true none 0 [])]))))⟩, ⟨(some 3), none, (.k (.mov (.c (.sc (.int .i64 0)))))⟩]) sDense_1)
theorem sDense_call {args : List AV} {H : List AObj} {R : AV → List AObj → Prop} (h : AWp Try.prog [] H.length sDense_ac (bodyQ H.length [(.cell 2 2 true), (.t 3)] R) (args ++ List.replicate (27 - args.length) .und) H) : ACalls Try.prog 23 args H R :=
  ACalls.of_fn Try.func23 rfl (by kernel_rfl) rfl Try.ntmps23 h

set_option maxHeartbeats 4000000 in
theorem sDense_spec {sh f l v : AV} {S Vs : List Int} {F : List (Int × Int × Int)} {xs : List LvA} (hS : ISl sh S) (hF : Sp f F) (hl : Ls l xs) (hV : ISl v Vs) (hn : xs.length ≤ 1000) (hfn : F.length ≤ 1000)
    (hgood : tnCheck S F xs Vs = 0 → (zeroF S).2 = 0 → Good (DenV S Vs (zeroF S).1.2.length) xs F (List.replicate S.length 0) 0) :
    ACalls Try.prog 23 [.agg [sh, f, l, v]] [] fun r H' => H' = [] ∧ ∃ d, r = .tup [d, I (denseF S F xs Vs).2] ∧ Dn d (denseF S F xs Vs).1 := by
  have hS' := hS
  have hF' := hF
  have hl' := hl
  have hV' := hV
  obtain ⟨⟨nl, cl, sz, rfl, hs⟩, hlen, hx⟩ := hl
  obtain ⟨⟨nl1, c01, sz1, rfl, hs1⟩, hlen1, hx1⟩ := hS
  obtain ⟨⟨nl2, c02, sz2, rfl, hs2⟩, hlen2, hx2⟩ := hF
  obtain ⟨⟨nl3, c3, sz3, rfl, hs3⟩, hlen3, hx3⟩ := hV
  have base : ACalls Try.prog 23 [.agg [.imm nl1 c01 sz1 (S.map I), .imm nl2 c02 sz2 (F.map specV), .imm nl cl sz (xs.map lvV), .imm nl3 c3 sz3 (Vs.map I)]] [] (denseR (denseF S F xs Vs)) := by
    apply sDense_call
    repeat first | refine AWp.seq ?_ | refine AWp.block ?_
    refine AWp.ops ?_
    simp
    repeat first | refine AWp.seq ?_ | refine AWp.block ?_
    refine AWp.ops ?_
    simp
    refine ((sCheck_spec hS' hF' hl' hV' hn hfn).pure (by simp) (by rintro r rfl; simp) _).mono ?_
    rintro r H' ⟨rfl, rfl⟩
    simp
    repeat first | refine AWp.seq ?_ | refine AWp.block ?_
    refine AWp.ops ?_
    simp
    by_cases h : tnCheck S F xs Vs = 0
    case neg =>
      refine AWp.cond (b := true) (by simp [h]) (fun _ => ?_) (fun h => by cases h)
      repeat first | refine AWp.seq ?_ | refine AWp.block ?_
      refine AWp.ops ?_
      simp
      refine AWp.ret ?_
      simp
      refine retOk.of rfl ?_
      rw [denseF, if_pos h]
      exact .inl ⟨h, rfl, by simp⟩
    refine AWp.cond (b := false) (by simp [h]) (fun h => by cases h) (fun _ => ?_)
    refine AWp.skip ?_
    simp only [qSeq]
    repeat first | refine AWp.seq ?_ | refine AWp.block ?_
    refine AWp.ops ?_
    simp
    refine (dense_at (Zero_dense hS') (by simp) _).mono ?_
    rintro r H' ⟨G, rfl, hZ⟩
    rcases hZ with ⟨hz, hz1, rfl⟩ | ⟨hz, d, rfl, s, q, hq, rfl, hqo, hso⟩
    · simp
      repeat first | refine AWp.seq ?_ | refine AWp.block ?_
      refine AWp.ops ?_
      simp
      refine AWp.cond (b := true) (by simp [hz]) (fun _ => ?_) (fun h => by cases h)
      repeat first | refine AWp.seq ?_ | refine AWp.block ?_
      refine AWp.ops ?_
      simp
      refine AWp.ret ?_
      simp
      refine retOk.of rfl ?_
      rw [denseF, if_neg (by omega), if_pos hz]
      exact .inl ⟨hz, rfl, by simp⟩
    have hgo := hgood h hz
    have hz1 : (zeroF S).1.1 = S := by
      unfold zeroF at hz ⊢
      split at hz
      · exact absurd hz ‹_›
      · rename_i h'; rw [if_neg h']
    obtain ⟨n, hn'⟩ : ∃ n, n = (zeroF S).1.2.length := ⟨_, rfl⟩
    have hD : denseF S F xs Vs = ((S, walkF (denStep S Vs) xs F (List.replicate S.length 0) 0 (zeroF S).1.2), 0) := by
      rw [denseF, if_neg (by omega), if_neg (by omega)]
    have hS4 : S.length ≤ 1000 := by
      have h0 := (tnCheck_ok h).1
      have := cells_len (sizesF_ok h0 (fun s hs => (hx2 s hs).2.2.2)).1
      omega
    rw [hD]
    rw [hz1] at hso
    rw [← hn'] at hgo ⊢
    obtain ⟨Z, hZ⟩ : ∃ Z, Z = (zeroF S).1.2 := ⟨_, rfl⟩
    rw [← hZ] at hqo hn' ⊢
    simp at hq hqo hso
    have htn : ∀ H k, frz H k 3 true (AV.agg [.imm nl1 c01 sz1 (S.map I), .imm nl2 c02 sz2 (F.map specV), .imm nl cl sz (xs.map lvV), .imm nl3 c3 sz3 (Vs.map I)]) = .agg [.imm nl1 c01 sz1 (S.map I), .imm nl2 c02 sz2 (F.map specV), .imm nl cl sz (xs.map lvV), .imm nl3 c3 sz3 (Vs.map I)] := fun H k => by simp
    obtain ⟨tn, htne⟩ : ∃ tn, tn = AV.agg [.imm nl1 c01 sz1 (S.map I), .imm nl2 c02 sz2 (F.map specV), .imm nl cl sz (xs.map lvV), .imm nl3 c3 sz3 (Vs.map I)] := ⟨_, rfl⟩
    obtain ⟨HH, hHH⟩ : ∃ HH, HH = tnO (AV.agg [.imm nl1 c01 sz1 (S.map I), .imm nl2 c02 sz2 (F.map specV), .imm nl cl sz (xs.map lvV), .imm nl3 c3 sz3 (Vs.map I)]) :: denO nilD :: G := ⟨_, rfl⟩
    have f0 : HH[0]? = some (tnO (AV.agg [.imm nl1 c01 sz1 (S.map I), .imm nl2 c02 sz2 (F.map specV), .imm nl cl sz (xs.map lvV), .imm nl3 c3 sz3 (Vs.map I)])) := by rw [hHH]; rfl
    have f1 : HH[1]? = some (denO nilD) := by rw [hHH]; rfl
    have fq : HH[q]? = some (i64O Z) := by rw [hHH]; simpa using hqo
    have fs : shapeOk 2 HH q s S := by rw [hHH]; exact hso
    have hone := fs.one
    have hql := (List.getElem?_eq_some_iff.1 fq).1
    have hL : 2 ≤ HH.length := by rw [hHH]; simp
    simp [← hHH, hone]
    clear hHH hso hqo
    have hlen2 : Z.length = n := hn'.symm
    have gK : ∀ o, (HH ++ [o])[HH.length]? = some o := fun o => by simp
    have g0 : ∀ o, (HH ++ [o])[0]? = HH[0]? := fun o => List.getElem?_append_left (by omega)
    repeat first | refine AWp.seq ?_ | refine AWp.block ?_
    refine AWp.ops ?_
    simp
    refine AWp.cond (b := false) (by simp [hz]) (fun h => by cases h) (fun _ => ?_)
    refine AWp.skip ?_
    simp only [qSeq]
    have hP0 : DenP HH.length q n s (AV.agg [.imm nl1 c01 sz1 (S.map I), .imm nl2 c02 sz2 (F.map specV), .imm nl cl sz (xs.map lvV), .imm nl3 c3 sz3 (Vs.map I)]) S (HH ++ [denO (.agg [s, .slc q n 0 n none])]) Z := by
      refine ⟨hql, by omega, by rw [List.getElem?_append_left (by omega)]; exact f0, by rw [List.getElem?_append_left (by omega)]; exact f1, gK _, by rw [List.getElem?_append_left (by omega)]; exact fq, hlen2, ?_⟩
      rcases fs with h | ⟨k, h1, h2, h3, h4⟩
      · exact .inl h
      · have hk := (List.getElem?_eq_some_iff.1 h4).1
        exact .inr ⟨k, ⟨h1, hk, h2⟩, h3, by rw [List.getElem?_append_left (by omega)]; exact h4⟩
    obtain ⟨K0, hK0⟩ : ∃ K0, K0 = HH ++ [denO (.agg [s, .slc q n 0 n none])] := ⟨_, rfl⟩
    have hK0l : K0.length = HH.length + 1 := by rw [hK0]; simp
    rw [← hK0] at hP0 ⊢
    have k0 := hP0.o0
    repeat first | refine AWp.seq ?_ | refine AWp.block ?_
    refine AWp.ops ?_
    simp [k0]
    have hfl : F.length = xs.length := (tnCheck_ok h).2.1.symm
    refine (walk_spec (n0 := HH.length + 1) (P := fun K vs => DenP HH.length q n s (AV.agg [.imm nl1 c01 sz1 (S.map I), .imm nl2 c02 sz2 (F.map specV), .imm nl cl sz (xs.map lvV), .imm nl3 c3 sz3 (Vs.map I)]) S K vs) (step := denStep S Vs) (V := fun _ => DenV S Vs n) hS' hF' hl' hV' hfl hS4
      (fun K s o h => h.same fun i hi => gs_ne (by omega))
      (fun K s G hK h => (h.same fun i hi => List.getElem?_append_left (by omega)).frz htn (by omega))
      (fun H => by simp; intro h; omega)
      (fun ty1 ty3 ty4 K ws c p hw h hv => Dense1_spec hS' hF' hl' hV' hw h hv)
      (fun K s G hK h => h.same fun i hi => List.getElem?_append_left (by omega))
      (fun K s hK h => h.frz htn (by omega)) hK0l hP0 (hgo.toS _)).mono ?_
    rintro r K' ⟨rfl, hKl, hP'⟩
    simp
    obtain ⟨lq, gq, p0, p1, pd, pq, pl, psh⟩ := id hP'
    repeat first | refine AWp.seq ?_ | refine AWp.block ?_
    refine AWp.ops ?_
    simp [pd, p1, hone]
    refine AWp.ret ?_
    simp
    refine retOk.of (by simp [gs_eq p1]; rfl) ?_
    simp
    refine .inr ⟨rfl, _, rfl, s, q, by omega, by simp [pl], by rw [gs_ne (by omega)]; exact pq, ?_⟩
    rcases psh with h | ⟨k, ⟨h1, h2, h3⟩, h4, h5⟩
    · exact .inl h
    · exact .inr ⟨k, by omega, h3, h4, by rw [gs_ne (by omega)]; exact h5⟩
  have hz : InR (denseF S F xs Vs).1.1 ∧ InR (denseF S F xs Vs).1.2 := by
    unfold denseF
    split
    · exact ⟨⟨by simp, by simp⟩, by simp, by simp⟩
    split
    · exact ⟨⟨by simp, by simp⟩, by simp, by simp⟩
    · refine ⟨⟨hlen1, hx1⟩, ?_⟩
      refine walkF_inv (P := fun ws => InR ws) (fun ws c p h => ⟨by rw [denStep]; simpa using h.1, fun x hx => ?_⟩) xs F _ _ _ ?_
      · rw [denStep] at hx
        rcases List.mem_or_eq_of_mem_set hx with hx | rfl
        · exact h.2 x hx
        · by_cases hp : p < Vs.length
          · have : Vs.getD p 0 = Vs[p] := by simp [hp]
            rw [this]; exact hx3 _ (List.getElem_mem hp)
          · have : Vs.getD p 0 = 0 := by simp [Nat.not_lt.1 hp]
            rw [this]; omega
      · rename_i hz0
        have hl0 := laid_ok (xs := S) (by
          unfold zeroF at hz0
          split at hz0
          · exact absurd (by assumption) hz0
          · rename_i h'; simpa using h')
        obtain ⟨_, k, hk, hk2⟩ := hl0
        have e : (zeroF S).1.2 = List.replicate (laidF S).1.toNat 0 := by
          unfold zeroF at hz0 ⊢
          split at hz0
          · exact absurd (by assumption) hz0
          · rename_i h'; rw [if_neg h']
        rw [e]
        exact ⟨by simp; omega, fun x hx => by simp at hx; omega⟩
  exact dense_pure base hz.1 hz.2
end Go.Fw
