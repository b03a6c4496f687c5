import Derived.Test.YtgdkdojjfijipaaFwcoo15
import Derived.Test.YtgdkdojjfijipaaFwref02b
import Derived.Test.YtgdkdojjfijipaaFwref01z
namespace Go.Fw
open Go Go.RowKit Go.Proofs
set_option maxRecDepth 100000
set_option linter.unusedSimpArgs false
set_option linter.unusedVariables false

def rcDense_21 : AC := (.seq (.ops [⟨(some 52), none, (.k (.ld 2 true (.t 5)))⟩, ⟨none, none, (.k (.st 2 (.t 2) (.t 52)))⟩, ⟨(some 3), none, (.k (.mov (.c (.sc (.int .i64 0)))))⟩]) .ret)
def rcDense_20 : AC := (.seq (.ops [⟨(some 35), none, (.k (.fad 0 (.t 1)))⟩, ⟨(some 36), none, (.k (.ld 1 false (.t 35)))⟩, ⟨(some 37), none, (.k (.fad 0 (.t 8)))⟩, ⟨(some 38), none, (.k (.ld 1 false (.t 37)))⟩, ⟨(some 39), none, (.call false (.c (.fn (.func 57) [] [])) [(.t 36), (.t 38)])⟩, ⟨(some 34), none, (.k (.mov (.t 39)))⟩, ⟨(some 40), none, (.k (.ext (.t 34) 0))⟩, ⟨(some 41), none, (.k (.ext (.t 34) 1))⟩, ⟨(some 9), none, (.k (.mov (.t 40)))⟩, ⟨(some 10), none, (.k (.mov (.t 41)))⟩]) (.ops [⟨(some 42), none, (.k (.fad 1 (.t 5)))⟩, ⟨(some 43), none, (.k (.ld 1 false (.t 42)))⟩, ⟨(some 44), none, (.k (.mov (.t 9)))⟩, ⟨(some 45), none, (.k (.iad 1 (.t 43) (.t 44)))⟩, ⟨(some 46), none, (.k (.ld 1 false (.t 45)))⟩, ⟨(some 47), none, (.k (.fad 1 (.t 8)))⟩, ⟨(some 48), none, (.k (.ld 1 false (.t 47)))⟩, ⟨(some 49), none, (.k (.bin .add (.t 46) (.t 48)))⟩, ⟨(some 50), none, (.k (.iad 1 (.t 43) (.t 44)))⟩, ⟨none, none, (.k (.st 1 (.t 50) (.t 49)))⟩]))
def rcDense_19 : AC := (.seq (.ops [⟨(some 32), none, (.k (.iad 2 (.t 28) (.t 30)))⟩, ⟨(some 33), none, (.k (.ld 2 true (.t 32)))⟩, ⟨(some 8), none, (.k (.new 38 2 (.c (.agg [(.imm true none 0 []), (.sc (.int .i64 0))]))))⟩, ⟨none, none, (.k (.st 2 (.t 8) (.t 33)))⟩]) rcDense_20)
def rcDense_18 : AC := (.block 1 rcDense_19)
def rcDense_17 : AC := (.seq rcDense_18 (.ops [⟨(some 51), none, (.k (.bin .add (.t 30) (.c (.sc (.int .i64 1)))))⟩, ⟨(some 30), none, (.k (.mov (.t 51)))⟩]))
def rcDense_16 : AC := (.seq (.cond (.t 31) .skip (.exit 0)) rcDense_17)
def rcDense_15 : AC := (.seq (.ops [⟨(some 31), none, (.k (.bin .lss (.t 30) (.t 29)))⟩]) rcDense_16)
def rcDense_14 : AC := (.loop rcDense_15)
def rcDense_13 : AC := (.block 0 rcDense_14)
def rcDense_12 : AC := (.seq (.ops [⟨(some 27), none, (.k (.fad 1 (.t 1)))⟩, ⟨(some 28), none, (.k (.ld 1 false (.t 27)))⟩, ⟨(some 29), none, (.k (.len (.t 28)))⟩, ⟨(some 30), none, (.k (.mov (.c (.sc (.int .i64 0)))))⟩]) rcDense_13)
def rcDense_11 : AC := (.seq rcDense_12 rcDense_21)
def rcDense_10 : AC := (.seq (.ops [⟨(some 25), none, (.k (.mk [(.imm true none 0 []), (.imm true none 0 [])] []))⟩, ⟨(some 26), none, (.k (.mov (.t 6)))⟩, ⟨none, none, (.k (.st 2 (.t 2) (.t 25)))⟩, ⟨(some 3), none, (.k (.mov (.t 26)))⟩]) .ret)
def rcDense_9 : AC := (.cond (.t 24) rcDense_10 .skip)
def rcDense_8 : AC := (.seq (.ops [⟨(some 23), none, (.k (.mov (.t 6)))⟩, ⟨(some 24), none, (.k (.bin .neq (.t 23) (.c (.sc (.int .i64 0)))))⟩]) rcDense_9)
def rcDense_7 : AC := (.seq rcDense_8 rcDense_11)
def rcDense_6 : AC := (.seq (.ops [⟨(some 18), none, (.k (.fad 0 (.t 1)))⟩, ⟨(some 19), none, (.k (.ld 1 false (.t 18)))⟩, ⟨(some 20), none, (.call false (.c (.fn (.func 64) [] [])) [(.t 19)])⟩, ⟨(some 17), none, (.k (.mov (.t 20)))⟩, ⟨(some 21), none, (.k (.ext (.t 17) 0))⟩, ⟨(some 22), none, (.k (.ext (.t 17) 1))⟩, ⟨(some 5), none, (.k (.new 49 2 (.c (.agg [(.imm true none 0 []), (.imm true none 0 [])]))))⟩, ⟨none, none, (.k (.st 2 (.t 5) (.t 21)))⟩, ⟨(some 6), none, (.k (.mov (.t 22)))⟩]) rcDense_7)
def rcDense_5 : AC := (.seq (.ops [⟨(some 15), none, (.k (.mk [(.imm true none 0 []), (.imm true none 0 [])] []))⟩, ⟨(some 16), none, (.k (.mov (.t 4)))⟩, ⟨none, none, (.k (.st 2 (.t 2) (.t 15)))⟩, ⟨(some 3), none, (.k (.mov (.t 16)))⟩]) .ret)
def rcDense_4 : AC := (.cond (.t 14) rcDense_5 .skip)
def rcDense_3 : AC := (.seq (.ops [⟨(some 13), none, (.k (.mov (.t 4)))⟩, ⟨(some 14), none, (.k (.bin .neq (.t 13) (.c (.sc (.int .i64 0)))))⟩]) rcDense_4)
def rcDense_2 : AC := (.seq (.ops [⟨(some 11), none, (.k (.ld 2 true (.t 1)))⟩, ⟨(some 12), none, (.call false (.c (.fn (.func 28) [] [])) [(.t 11)])⟩, ⟨(some 4), none, (.k (.mov (.t 12)))⟩]) rcDense_3)
def rcDense_1 : AC := (.seq rcDense_2 rcDense_6)
def rcDense_ac : AC := (.seq (.ops [⟨(some 1), none, (.k (.new 25 2 (.t 0)))⟩, ⟨(some 2), none, (.k (.new 49 2 (.c (.agg [(.imm true none 0 []), (.imm true none 0 [])]))))⟩, ⟨(some 3), none, (.k (.mov (.c (.sc (.int .i64 0)))))⟩]) rcDense_1)
theorem rcDense_call {args : List AV} {H : List AObj} {R : AV → List AObj → Prop} (h : AWp Try.prog [] H.length rcDense_ac (bodyQ H.length [(.cell 2 2 true), (.t 3)] R) (args ++ List.replicate (53 - args.length) .und) H) : ACalls Try.prog 36 args H R :=
  ACalls.of_fn Try.func36 rfl (by kernel_rfl) rfl Try.ntmps36 h

set_option maxHeartbeats 8000000 in
theorem rcDense_spec {a : AV} {X : List Int × List (List Int × Int)} (ha : Coo a X) : ACalls Try.prog 36 [a] [] (denseR (cdF X)) := by
  have ha' := ha
  obtain ⟨S, E⟩ := X
  obtain ⟨s, e, rfl, hS, hE⟩ := ha
  simp only at hS hE
  have hS' := hS
  obtain ⟨⟨nl1, c01, sz1, rfl, hs1⟩, hlen1, hx1⟩ := hS
  obtain ⟨nl, cl, sz, es, rfl, he1, he2, hE⟩ := hE
  have hel := hE.1
  obtain ⟨x, hx⟩ : ∃ x, x = AV.agg [.imm nl1 c01 sz1 (S.map I), .imm nl cl sz es] := ⟨_, rfl⟩
  apply rcDense_call
  repeat first | refine AWp.seq ?_ | refine AWp.block ?_
  refine AWp.ops ?_
  simp
  repeat first | refine AWp.seq ?_ | refine AWp.block ?_
  refine AWp.ops ?_
  simp
  refine ((rcCheck_spec ha').pure (by simp) (by rintro r rfl; simp) _).mono ?_
  rintro r H' ⟨rfl, rfl⟩
  simp
  repeat first | refine AWp.seq ?_ | refine AWp.block ?_
  refine AWp.ops ?_
  simp
  by_cases h : cooCheck S E = 0
  case neg =>
    refine AWp.cond (b := true) (by simp [h]) (fun _ => ?_) (fun h => by cases h)
    have he : cdF (S, E) = (([], []), cooCheck S E) := by rw [cdF, if_pos h]
    repeat first | refine AWp.seq ?_ | refine AWp.block ?_
    refine AWp.ops ?_
    simp
    refine AWp.ret ?_
    simp
    refine retOk.of rfl ?_
    rw [he]
    exact .inl ⟨h, rfl, by simp⟩
  refine AWp.cond (b := false) (by simp [h]) (fun h => by cases h) (fun _ => ?_)
  obtain ⟨hS4, hE6, hcs⟩ := cooCheck_dims h
  have hat : ∀ t ∈ E, (atF S t.1).2 = 0 := fun t ht => by
    have h0 := h
    unfold cooCheck at h0
    split at h0
    · rename_i h1; exact absurd h0 h1
    split at h0
    · cases h0
    split at h0
    · cases h0
    rename_i h3
    have h3 : E.any (fun t => decide ((atF S t.1).2 ≠ 0)) = false := by simpa using h3
    simpa using List.any_eq_false.1 h3 t ht
  refine AWp.skip ?_
  simp only [qSeq]
  repeat first | refine AWp.seq ?_ | refine AWp.block ?_
  refine AWp.ops ?_
  simp
  refine (dense_at (rZero_dense hS') (by simp) _).mono ?_
  rintro r H' ⟨G, rfl, hr⟩
  rcases hr with ⟨hz, hz1, rfl⟩ | ⟨hz, dv, rfl, sv, j, hj, rfl, hjo, hso⟩
  · have he : cdF (S, E) = (([], []), (zeroF S).2) := by rw [cdF, if_neg (by simpa using h), if_pos hz]
    simp
    repeat first | refine AWp.seq ?_ | refine AWp.block ?_
    refine AWp.ops ?_
    simp
    refine AWp.cond (b := true) (by simp [hz]) (fun _ => ?_) (fun h => by cases h)
    repeat first | refine AWp.seq ?_ | refine AWp.block ?_
    refine AWp.ops ?_
    simp
    refine AWp.ret ?_
    simp
    refine retOk.of rfl ?_
    rw [he]
    exact .inl ⟨hz, rfl, by simp⟩
  obtain ⟨z1, -, n, hcn, hn6, hzn⟩ := zeroF_ok hz
  have he : cdF (S, E) = ((S, E.foldl (addE S) (zeroF S).1.2), 0) := by rw [cdF, if_neg (by simpa using h), if_neg (by simpa using hz)]
  rw [he]
  rw [z1] at hso
  obtain ⟨Z, hZ⟩ : ∃ Z, Z = (zeroF S).1.2 := ⟨_, rfl⟩
  have hZl : Z.length = n := by rw [hZ, hzn]; simp
  rw [← hZ] at hjo ⊢
  rw [hZl]
  simp at hj hjo hso
  have hone := hso.one
  simp [hone]
  obtain ⟨K, hK⟩ : ∃ K, K = cooO x :: denO nilD :: (G ++ [denO (.agg [sv, .slc j n 0 n none])]) := ⟨_, rfl⟩
  rw [← hx, ← hK]
  have gK : ∀ k o, 2 ≤ k → (cooO (.agg [.imm nl1 c01 sz1 (S.map I), .imm nl cl sz es]) :: denO nilD :: G)[k]? = some o → K[k]? = some o := fun k o hk h => by
    obtain ⟨j, rfl⟩ := Nat.exists_eq_add_of_le' hk
    simp at h
    rw [hK]
    simp
    rw [List.getElem?_append_left (List.getElem?_eq_some_iff.1 h).1]; exact h
  have I0 : DcI (G.length + 2) j n x sv S K Z := by
    refine ⟨by omega, hj, by rw [hK]; rfl, by rw [hK]; rfl, by rw [hK]; simp, gK j _ hj hjo, hZl, ?_⟩
    rcases hso with h | ⟨k, h1, h2, h3, h4⟩
    · exact .inl h
    · exact .inr ⟨k, h1, h2, h3, gK k _ h1 h4⟩
  obtain ⟨q, hq⟩ : ∃ q, q = G.length + 2 := ⟨_, rfl⟩
  rw [show G.length + 1 + 1 = q by omega]
  rw [← hq] at I0
  clear gK hK hso hjo
  repeat first | refine AWp.seq ?_ | refine AWp.block ?_
  refine AWp.ops ?_
  simp
  refine AWp.cond (b := false) (by simp [hz]) (fun h => by cases h) (fun _ => ?_)
  have k0 := I0.k0
  rw [hx] at k0
  refine AWp.skip ?_
  simp only [qSeq]
  repeat first | refine AWp.seq ?_ | refine AWp.block ?_
  refine AWp.ops ?_
  simp [k0]
  obtain ⟨J, hJ⟩ : ∃ J : Nat → List AV → List AObj → Prop, J = fun i fr H => i ≤ es.length ∧ ∃ (K : List AObj), (DcI q j n x sv S K ((E.take i).foldl (addE S) Z)) ∧ H = K ∧
    fr = [.und, .ptr 0 1 0 0, .ptr 1 1 0 0, .und, .und, .ptr q 1 0 0, .und, .und, .und, .und, .und, .und, .und, .und, .und, .und, .und, .und, .und, .und, .und, .und, .und, .und, .und, .und, .und, .und, .imm nl cl sz es, I es.length, I i, .und, .und, .und, .und, .und, .und, .und, .und, .und, .und, .und, .und, .und, .und, .und, .und, .und, .und, .und, .und, .und, .und] := ⟨_, rfl⟩
  refine AWp.block (AWp.loop J (fun i => es.length - i) 0 (Weak.slots [1, 2, 5, 28, 29, 30]) (by rw [hJ]; exact ⟨by omega, K, by simpa using I0, by simp, by simp⟩) ?_)
  intro i fr H hI
  rw [hJ] at hI
  obtain ⟨hi, K, hinv, rfl, rfl⟩ := hI
  repeat first | refine AWp.seq ?_ | refine AWp.block ?_
  refine AWp.ops ?_
  simp
  refine AWp.seq (AWp.cond (b := decide (i < es.length)) (by simp <;> omega) ?_ ?_)
  ·
    intro hb
    have hb : i < es.length := by simpa using hb
    refine AWp.skip ?_
    simp only [qSeq]
    have hbE : i < E.length := by omega
    have hnl : nl = false := by
      cases nl with
      | false => rfl
      | true => have := he1 rfl; rw [this] at hbE; simp at hbE
    have hsz := he2 hnl
    subst hnl hsz
    obtain ⟨ai, hai, hai2⟩ := hE.get hbE
    have hti := hat E[i] (List.getElem_mem hbE)
    have hxt : (E.take (i + 1)).foldl (addE S) Z = addE S ((E.take i).foldl (addE S) Z) E[i] := by
      rw [List.take_succ_eq_append_getElem hbE, List.foldl_append]; rfl
    generalize E[i] = t at hai hai2 hti hxt
    obtain ⟨c, v⟩ := t
    simp only at hai hai2 hti
    have hai2' := hai2
    obtain ⟨⟨n5, c5, z5, rfl, hs5⟩, hl5, hx5⟩ := hai2
    have hlt := atF_lt hcs hti
    obtain ⟨p, hp⟩ : ∃ p : Nat, (atF S c).1 = p := ⟨(atF S c).1.toNat, by omega⟩
    have hpn : p < n := by omega
    obtain ⟨vs, hvs⟩ : ∃ vs, vs = (E.take i).foldl (addE S) Z := ⟨_, rfl⟩
    rw [← hvs] at hinv hxt
    have hvl := hinv.vl
    have hadd : addE S vs (c, v) = vs.set p (IntKind.i64.wrap (vs[p]'(by omega) + v)) := by
      simp [addE, hp, List.getD, hvl, hpn]
    have hwi := wrap_i64 (n := (i : Int) + 1) (by omega) (by omega)
    obtain ⟨m, hm⟩ : ∃ m, m = H.length := ⟨_, rfl⟩
    have h0 := hinv.k0
    rw [hx] at h0
    have hm0 : 0 < m := by rw [hm]; exact (List.getElem?_eq_some_iff.1 h0).1
    have gL : ∀ x, (H ++ [x])[m]? = some x := fun x => by rw [List.getElem?_append_right (by omega), show m - H.length = 0 by omega]; rfl
    have sL : ∀ x y, (H ++ [x]).set m y = H ++ [y] := fun x y => by rw [List.set_append_right _ _ (by omega), show m - H.length = 0 by omega]; rfl
    repeat first | refine AWp.seq ?_ | refine AWp.block ?_
    refine AWp.ops ?_
    simp [hai, ← hm, gL, sL]
    obtain ⟨K1, hK1⟩ : ∃ K1, K1 = H ++ [enO (.agg [.imm n5 c5 z5 (c.map I), I v])] := ⟨_, rfl⟩
    rw [← hK1]
    have up : ∀ k o, H[k]? = some o → K1[k]? = some o := fun k o h => by rw [hK1, List.getElem?_append_left (List.getElem?_eq_some_iff.1 h).1]; exact h
    have hinv1 : DcI q j n x sv S K1 vs := hinv.same (fun k o _ h => up k o h) (up _ _ hinv.kj) hvl
    have a0 := up _ _ h0
    have aq := hinv1.kq
    have aj := hinv1.kj
    have am : K1[m]? = some (enO (.agg [.imm n5 c5 z5 (c.map I), I v])) := by rw [hK1]; exact gL _
    repeat first | refine AWp.seq ?_ | refine AWp.block ?_
    refine AWp.ops ?_
    simp [a0, am]
    refine ((rAt_spec hS' hai2').pure (by simp) (by rintro r rfl; simp) _).mono ?_
    rintro r H' ⟨hH', rfl⟩
    subst H'
    simp [hti]
    repeat first | refine AWp.seq ?_ | refine AWp.block ?_
    refine AWp.ops ?_
    simp [aq, aj, am, hvl, hp, hpn]
    repeat first | refine AWp.seq ?_ | refine AWp.block ?_
    refine AWp.ops ?_
    simp [hwi]
    refine ⟨i + 1, _, _, Weak.slots [1, 2, 5, 28, 29, 30], ?_, by omega⟩
    rw [hJ]
    refine ⟨by omega, _, ?_, rfl, by simp⟩
    rw [hxt, hadd]
    exact hinv1.same (fun k o hk h => by rw [gs_ne (Ne.symm hk)]; exact h) (by rw [gs_eq aj]; simp [List.map_set]) (by simpa using hvl)
  ·
    intro hb
    have hb : ¬ i < es.length := by simpa using hb
    refine AWp.exit ?_
    simp [qSeq, qBlock]
    rw [List.take_of_length_le (by omega)] at hinv
    have k1 := hinv.k1
    have kq := hinv.kq
    have h2 := hinv.j2
    have q2 := hinv.q2
    repeat first | refine AWp.seq ?_ | refine AWp.block ?_
    refine AWp.ops ?_
    simp [kq, k1, hone]
    refine AWp.ret ?_
    simp
    refine retOk.of (vs := [.agg [sv, .slc j n 0 n none], I 0]) (by simp [gs_eq k1]) ?_
    have hvl := hinv.vl
    refine .inr ⟨rfl, _, rfl, sv, j, by omega, by rw [hvl], by rw [gs_ne (by omega)]; exact hinv.kj, ?_⟩
    rcases hinv.sh with h | ⟨k, b1, b2, b3, b4⟩
    · exact .inl h
    · exact .inr ⟨k, by omega, b2, b3, by rw [gs_ne (by omega)]; exact b4⟩
theorem rcDense_pure {a : AV} {X : List Int × List (List Int × Int)} (ha : Coo a X) (hX : InI X.1) : ACalls Try.prog 36 [a] [] fun r H' => H' = [] ∧ ∃ d, r = .tup [d, I (cdF X).2] ∧ Dn d (cdF X).1 :=
  dense_pure (rcDense_spec ha) (cdF_in hX).1 (cdF_in hX).2
end Go.Fw
