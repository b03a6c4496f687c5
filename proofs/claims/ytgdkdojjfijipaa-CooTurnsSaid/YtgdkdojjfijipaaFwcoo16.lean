import Derived.Test.YtgdkdojjfijipaaFwcoo3
import Derived.Test.YtgdkdojjfijipaaFwcoo7
import Derived.Test.YtgdkdojjfijipaaFwrowo1
namespace Go.Fw
open Go Go.RowKit Go.Proofs
set_option maxRecDepth 100000
set_option linter.unusedSimpArgs false
set_option linter.unusedVariables false

/-- Numbers in another order. -/
def turnL (O L : List Int) : List Int := O.map fun m => L.getD m.toNat 0
def turnF (X : List Int × List (List Int × Int)) (O : List Int) : (List Int × List (List Int × Int)) × Int :=
  if (orderF X O).2 ≠ 0 then (([], []), (orderF X O).2) else ((turnL (orderF X O).1 X.1, X.2.map fun t => (turnL (orderF X O).1 t.1, t.2)), 0)

def turned_10 : AC := (.seq (.ops [⟨(some 15), none, (.k (.mov (.t 13)))⟩, ⟨(some 16), none, (.k (.iad 1 (.t 11) (.t 13)))⟩, ⟨(some 17), none, (.k (.ld 1 false (.t 16)))⟩, ⟨(some 6), none, (.k (.mov (.t 15)))⟩, ⟨(some 7), none, (.k (.mov (.t 17)))⟩]) (.ops [⟨(some 18), none, (.k (.mov (.t 5)))⟩, ⟨(some 19), none, (.k (.mov (.t 6)))⟩, ⟨(some 20), none, (.k (.mov (.t 0)))⟩, ⟨(some 21), none, (.k (.mov (.t 7)))⟩, ⟨(some 22), none, (.k (.iad 1 (.t 20) (.t 21)))⟩, ⟨(some 23), none, (.k (.ld 1 false (.t 22)))⟩, ⟨(some 24), none, (.k (.iad 1 (.t 18) (.t 19)))⟩, ⟨none, none, (.k (.st 1 (.t 24) (.t 23)))⟩]))
def turned_9 : AC := (.block 1 turned_10)
def turned_8 : AC := (.seq turned_9 (.ops [⟨(some 25), none, (.k (.bin .add (.t 13) (.c (.sc (.int .i64 1)))))⟩, ⟨(some 13), none, (.k (.mov (.t 25)))⟩]))
def turned_7 : AC := (.seq (.cond (.t 14) .skip (.exit 0)) turned_8)
def turned_6 : AC := (.seq (.ops [⟨(some 14), none, (.k (.bin .lss (.t 13) (.t 12)))⟩]) turned_7)
def turned_5 : AC := (.loop turned_6)
def turned_4 : AC := (.block 0 turned_5)
def turned_3 : AC := (.seq (.ops [⟨(some 11), none, (.k (.mov (.t 1)))⟩, ⟨(some 12), none, (.k (.len (.t 11)))⟩, ⟨(some 13), none, (.k (.mov (.c (.sc (.int .i64 0)))))⟩]) turned_4)
def turned_2 : AC := (.seq turned_3 (.seq (.ops [⟨(some 26), none, (.k (.mov (.t 5)))⟩, ⟨(some 4), none, (.k (.mov (.t 26)))⟩]) .ret))
def turned_1 : AC := (.seq (.ops [⟨(some 8), none, (.k (.mov (.t 1)))⟩, ⟨(some 9), none, (.k (.len (.t 8)))⟩, ⟨(some 10), none, (.k (.mkS 3 1 8 (.sc (.int .i64 0)) (.t 9) (.t 9)))⟩, ⟨(some 5), none, (.k (.mov (.t 10)))⟩]) turned_2)
def turned_ac : AC := (.seq (.ops [⟨(some 4), none, (.k (.mov (.c (.imm true none 0 []))))⟩]) turned_1)
theorem turned_call {args : List AV} {H : List AObj} {R : AV → List AObj → Prop} (h : AWp Try.prog [] H.length turned_ac (bodyQ H.length [(.t 4)] R) (args ++ List.replicate (27 - args.length) .und) H) : ACalls Try.prog 58 args H R :=
  ACalls.of_fn Try.func58 rfl (by kernel_rfl) rfl Try.ntmps58 h

set_option maxHeartbeats 2000000 in
theorem turned_spec {a o : AV} {L O : List Int} (ha : ISl a L) (ho : ISl o O) (hO : O.length ≤ 1000000) (hm : ∀ m ∈ O, 0 ≤ m ∧ m < L.length) : ACalls Try.prog 58 [a, o] [] fun r H' => H' = [] ∧ ISl r (turnL O L) := by
  obtain ⟨⟨nl1, c1, sz1, rfl, hs1⟩, hl1, hx1⟩ := ha
  obtain ⟨⟨nl2, c2, sz2, rfl, hs2⟩, hl2, hx2⟩ := ho
  have hel : ∀ m ∈ O, -9223372036854775808 ≤ L.getD m.toNat 0 ∧ L.getD m.toNat 0 ≤ 9223372036854775807 := fun m h => by
    have := hm m h
    have h1 : m.toNat < L.length := by omega
    have e : L.getD m.toNat 0 = L[m.toNat] := by simp [h1]
    rw [e]; exact hx1 _ (List.getElem_mem h1)
  have base : ACalls Try.prog 58 [.imm nl1 c1 sz1 (L.map I), .imm nl2 c2 sz2 (O.map I)] [] fun r G => r = .slc 0 O.length 0 O.length none ∧ G[0]? = some (intOb (turnL O L)) := by
    have m1 : (O.length : Int) * 8 ≤ 281474976710656 := by omega
    have m2 : (O.length : Int) ≤ 9223372036854775807 := by omega
    have hrep : List.replicate O.length (AV.sc (Value.int IntKind.i64 0)) = (List.replicate O.length (0 : Int)).map I := by simp
    apply turned_call
    repeat first | refine AWp.seq ?_ | refine AWp.block ?_
    refine AWp.ops ?_
    simp
    repeat first | refine AWp.seq ?_ | refine AWp.block ?_
    refine AWp.ops ?_
    simp [m1, m2]
    rw [hrep]
    repeat first | refine AWp.seq ?_ | refine AWp.block ?_
    refine AWp.ops ?_
    simp
    obtain ⟨J, hJ⟩ : ∃ J : Nat → List AV → List AObj → Prop, J = fun i fr H => i ≤ O.length ∧ ∃ (P : List Int), (P.length = O.length ∧ P.take i = (turnL O L).take i) ∧ H = [intOb P] ∧
      fr = [.imm nl1 c1 sz1 (L.map I), .imm nl2 c2 sz2 (O.map I), .und, .und, .und, .slc 0 O.length 0 O.length none, .und, .und, .und, .und, .und, .imm nl2 c2 sz2 (O.map I), I O.length, I i, .und, .und, .und, .und, .und, .und, .und, .und, .und, .und, .und, .und, .und] := ⟨_, rfl⟩
    refine AWp.block (AWp.loop J (fun i => O.length - i) 0 (Weak.slots [0, 1, 5, 11, 12, 13]) (by rw [hJ]; exact ⟨by omega, List.replicate O.length 0, ⟨by simp, by simp⟩, by simp, by simp⟩) ?_)
    intro i fr H hI
    rw [hJ] at hI
    obtain ⟨hi, P, hinv, rfl, rfl⟩ := hI
    repeat first | refine AWp.seq ?_ | refine AWp.block ?_
    refine AWp.ops ?_
    simp
    refine AWp.seq (AWp.cond (b := decide (i < O.length)) (by simp <;> omega) ?_ ?_)
    ·
      intro hb
      have hb : i < O.length := by simpa using hb
      refine AWp.skip ?_
      simp only [qSeq]
      obtain ⟨hPl, hPt⟩ := hinv
      have hsz := sz_of hs2 hb
      subst hsz
      have hmi := hm O[i] (List.getElem_mem hb)
      obtain ⟨m, hmm⟩ : ∃ m : Nat, O[i] = m := ⟨O[i].toNat, by omega⟩
      have hmL : m < L.length := by omega
      have hsz1 := sz_of hs1 hmL
      subst hsz1
      have hTi : (turnL O L)[i]'(by simpa [turnL] using hb) = L[m] := by simp [turnL, hmm, hmL]
      have hwi := wrap_i64 (n := (i : Int) + 1) (by omega) (by omega)
      have hbP : i < P.length := by omega
      repeat first | refine AWp.seq ?_ | refine AWp.block ?_
      refine AWp.ops ?_
      simp [hb, hmm]
      repeat first | refine AWp.seq ?_ | refine AWp.block ?_
      refine AWp.ops ?_
      simp [hmL, hPl, hb, hbP]
      repeat first | refine AWp.seq ?_ | refine AWp.block ?_
      refine AWp.ops ?_
      simp [hwi]
      refine ⟨i + 1, _, _, Weak.slots [0, 1, 5, 11, 12, 13], ?_, by omega⟩
      rw [hJ]
      refine ⟨by omega, P.set i L[m], ⟨by simpa using hPl, ?_⟩, by simp [List.map_set], by simp⟩
      rw [List.take_succ_eq_append_getElem (by simpa using hbP), List.take_succ_eq_append_getElem (by simpa [turnL] using hb), List.take_set_of_le (by omega), hPt, hTi]
      simp
    ·
      intro hb
      have hb : ¬ i < O.length := by simpa using hb
      refine AWp.exit ?_
      simp [qSeq, qBlock]
      obtain ⟨hPl, hPt⟩ := hinv
      rw [List.take_of_length_le (by omega), List.take_of_length_le (by simp [turnL]; omega)] at hPt
      subst hPt
      repeat first | refine AWp.seq ?_ | refine AWp.block ?_
      refine AWp.ops ?_
      simp
      refine AWp.ret ?_
      simp
      refine retOk.of rfl ⟨by simp, rfl⟩
  refine (base.frozen 2).mono ?_
  rintro q H' ⟨rfl, r, G, ⟨rfl, h2⟩, rfl⟩
  refine ⟨rfl, ?_⟩
  have hl : (turnL O L).length = O.length := by simp [turnL]
  rw [← hl]
  simp [h2]
  exact ISl.of _ (by omega) (fun x hx => by obtain ⟨m, hm2, rfl⟩ := List.mem_map.1 hx; exact hel m hm2)

def cTurn_16 : AC := (.seq (.ops [⟨(some 46), none, (.k (.ld 2 true (.t 8)))⟩, ⟨none, none, (.k (.st 2 (.t 4) (.t 46)))⟩, ⟨(some 5), none, (.k (.mov (.c (.sc (.int .i64 0)))))⟩]) .ret)
def cTurn_15 : AC := (.seq (.ops [⟨(some 31), none, (.k (.iad 2 (.t 27) (.t 29)))⟩, ⟨(some 32), none, (.k (.ld 2 true (.t 31)))⟩, ⟨(some 10), none, (.k (.new 38 2 (.c (.agg [(.imm true none 0 []), (.sc (.int .i64 0))]))))⟩, ⟨none, none, (.k (.st 2 (.t 10) (.t 32)))⟩]) (.ops [⟨(some 33), none, (.k (.fad 1 (.t 8)))⟩, ⟨(some 34), none, (.k (.ld 1 false (.t 33)))⟩, ⟨(some 35), none, (.k (.fad 0 (.t 10)))⟩, ⟨(some 36), none, (.k (.ld 1 false (.t 35)))⟩, ⟨(some 37), none, (.k (.mov (.t 6)))⟩, ⟨(some 39), none, (.k (.fad 1 (.t 10)))⟩, ⟨(some 40), none, (.k (.ld 1 false (.t 39)))⟩, ⟨(some 38), none, (.call true (.c (.fn (.func 58) [] [])) [(.t 36), (.t 37)])⟩, ⟨(some 41), none, (.k (.mk [(.imm true none 0 []), (.sc (.int .i64 0))] [(0, (1, (.t 38))), (1, (1, (.t 40)))]))⟩, ⟨(some 42), none, (.k (.lit 2 [(.t 41)]))⟩, ⟨(some 43), none, (.k (.app 38 2 32 (.t 34) (.t 42)))⟩, ⟨(some 44), none, (.k (.fad 1 (.t 8)))⟩, ⟨none, none, (.k (.st 1 (.t 44) (.t 43)))⟩]))
def cTurn_14 : AC := (.block 1 cTurn_15)
def cTurn_13 : AC := (.seq cTurn_14 (.ops [⟨(some 45), none, (.k (.bin .add (.t 29) (.c (.sc (.int .i64 1)))))⟩, ⟨(some 29), none, (.k (.mov (.t 45)))⟩]))
def cTurn_12 : AC := (.seq (.cond (.t 30) .skip (.exit 0)) cTurn_13)
def cTurn_11 : AC := (.seq (.ops [⟨(some 30), none, (.k (.bin .lss (.t 29) (.t 28)))⟩]) cTurn_12)
def cTurn_10 : AC := (.loop cTurn_11)
def cTurn_9 : AC := (.block 0 cTurn_10)
def cTurn_8 : AC := (.seq (.ops [⟨(some 26), none, (.k (.fad 1 (.t 2)))⟩, ⟨(some 27), none, (.k (.ld 1 false (.t 26)))⟩, ⟨(some 28), none, (.k (.len (.t 27)))⟩, ⟨(some 29), none, (.k (.mov (.c (.sc (.int .i64 0)))))⟩]) cTurn_9)
def cTurn_7 : AC := (.seq cTurn_8 cTurn_16)
def cTurn_6 : AC := (.seq (.ops [⟨(some 21), none, (.k (.fad 0 (.t 2)))⟩, ⟨(some 22), none, (.k (.ld 1 false (.t 21)))⟩, ⟨(some 23), none, (.k (.mov (.t 6)))⟩, ⟨(some 24), none, (.call false (.c (.fn (.func 58) [] [])) [(.t 22), (.t 23)])⟩, ⟨(some 25), none, (.k (.mk [(.imm true none 0 []), (.imm true none 0 [])] [(0, (1, (.t 24)))]))⟩, ⟨(some 8), none, (.k (.new 25 2 (.c (.agg [(.imm true none 0 []), (.imm true none 0 [])]))))⟩, ⟨none, none, (.k (.st 2 (.t 8) (.t 25)))⟩]) cTurn_7)
def cTurn_5 : AC := (.seq (.ops [⟨(some 19), none, (.k (.mk [(.imm true none 0 []), (.imm true none 0 [])] []))⟩, ⟨(some 20), none, (.k (.mov (.t 7)))⟩, ⟨none, none, (.k (.st 2 (.t 4) (.t 19)))⟩, ⟨(some 5), none, (.k (.mov (.t 20)))⟩]) .ret)
def cTurn_4 : AC := (.cond (.t 18) cTurn_5 .skip)
def cTurn_3 : AC := (.seq (.ops [⟨(some 17), none, (.k (.mov (.t 7)))⟩, ⟨(some 18), none, (.k (.bin .neq (.t 17) (.c (.sc (.int .i64 0)))))⟩]) cTurn_4)
def cTurn_2 : AC := (.seq cTurn_3 cTurn_6)
def cTurn_1 : AC := (.seq (.ops [⟨(some 12), none, (.k (.ld 2 true (.t 2)))⟩, ⟨(some 13), none, (.k (.mov (.t 1)))⟩, ⟨(some 14), none, (.call false (.c (.fn (.func 44) [] [])) [(.t 12), (.t 13)])⟩, ⟨(some 11), none, (.k (.mov (.t 14)))⟩, ⟨(some 15), none, (.k (.ext (.t 11) 0))⟩, ⟨(some 16), none, (.k (.ext (.t 11) 1))⟩, ⟨(some 6), none, (.k (.mov (.t 15)))⟩, ⟨(some 7), none, (.k (.mov (.t 16)))⟩]) cTurn_2)
def cTurn_ac : AC := (.seq (.ops [⟨(some 2), none, (.k (.new 25 2 (.t 0)))⟩, ⟨(some 4), none, (.k (.new 25 2 (.c (.agg [(.imm true none 0 []), (.imm true none 0 [])]))))⟩, ⟨(some 5), none, (.k (.mov (.c (.sc (.int .i64 0)))))⟩]) cTurn_1)
theorem cTurn_call {args : List AV} {H : List AObj} {R : AV → List AObj → Prop} (h : AWp Try.prog [] H.length cTurn_ac (bodyQ H.length [(.cell 4 2 true), (.t 5)] R) (args ++ List.replicate (47 - args.length) .und) H) : ACalls Try.prog 30 args H R :=
  ACalls.of_fn Try.func30 rfl (by kernel_rfl) rfl Try.ntmps30 h

set_option maxHeartbeats 4000000 in
theorem cTurn_spec {a o : AV} {X : List Int × List (List Int × Int)} {O : List Int} (ha : Coo a X) (ho : ISl o O) (hO : O.length ≤ 1000) : ACalls Try.prog 30 [a, o] [] fun r H' => H' = [] ∧ ∃ y, r = .tup [y, I (turnF X O).2] ∧ Coo y (turnF X O).1 := by
  have ha' := ha
  obtain ⟨S, E⟩ := X
  obtain ⟨s, e, rfl, hS, hE⟩ := ha
  simp only at hS hE
  have hS' := hS
  obtain ⟨⟨nl1, c01, sz1, rfl, hs1⟩, hlen1, hx1⟩ := hS
  obtain ⟨nl, cl, sz, es, rfl, he1, he2, hE⟩ := hE
  have hel := hE.1
  have ho' := ho
  obtain ⟨⟨nlo, co, szo, rfl, hso⟩, hlo, hxo⟩ := ho
  have base : ACalls Try.prog 30 [.agg [.imm nl1 c01 sz1 (S.map I), .imm nl cl sz es], .imm nlo co szo (O.map I)] [] fun r G => (r = .tup [.agg [.imm true none 0 [], .imm true none 0 []], I (turnF (S, E) O).2] ∧ (turnF (S, E) O).1 = ([], [])) ∨
      ((turnF (S, E) O).2 = 0 ∧ ∃ s es' vr, (vr = some true → es' = []) ∧ vr ≠ some false ∧ r = .tup [.agg [s, .slc 3 es'.length 0 es'.length none], I 0] ∧ ISl s (turnF (S, E) O).1.1 ∧ Ents es' (turnF (S, E) O).1.2 ∧ G[3]? = some ⟨38, 2, es', true, vr⟩) := by
    apply cTurn_call
    repeat first | refine AWp.seq ?_ | refine AWp.block ?_
    refine AWp.ops ?_
    simp
    repeat first | refine AWp.seq ?_ | refine AWp.block ?_
    refine AWp.ops ?_
    simp
    refine ((ordered_spec ha' ho' hO).pure (by simp) (by rintro r ⟨q, rfl, ⟨⟨_, _, _, rfl, _⟩, _⟩⟩; simp) _).mono ?_
    rintro r H' ⟨rfl, q, rfl, hq⟩
    have hq' := hq
    obtain ⟨⟨nlq, cq, szq, rfl, hsq⟩, hlq, hxq⟩ := hq
    simp
    repeat first | refine AWp.seq ?_ | refine AWp.block ?_
    refine AWp.ops ?_
    simp
    by_cases h : (orderF (S, E) O).2 = 0
    case neg =>
      refine AWp.cond (b := true) (by simp [h]) (fun _ => ?_) (fun h => by cases h)
      have he : turnF (S, E) O = (([], []), (orderF (S, E) O).2) := by rw [turnF, if_pos h]
      repeat first | refine AWp.seq ?_ | refine AWp.block ?_
      refine AWp.ops ?_
      simp
      refine AWp.ret ?_
      simp
      refine retOk.of rfl (.inl ?_)
      simp [he]
    refine AWp.cond (b := false) (by simp [h]) (fun h => by cases h) (fun _ => ?_)
    obtain ⟨hck, hperm⟩ := orderF_ok h
    obtain ⟨hS4, hE6, hcs, hat⟩ := cooCheck_len hck
    have hrng := orderF_rng h
    simp only at hS4 hE6 hcs hat hrng
    obtain ⟨Q, hQ⟩ : ∃ Q, Q = (orderF (S, E) O).1 := ⟨_, rfl⟩
    have he : turnF (S, E) O = ((turnL Q S, E.map fun t => (turnL Q t.1, t.2)), 0) := by rw [turnF, if_neg (by omega), hQ]
    rw [he]
    rw [← hQ] at hq' hrng hperm hlq hxq hsq ⊢
    have hQl : Q.length ≤ 4 := by have := hperm.length_eq; simp at this; omega
    refine AWp.skip ?_
    simp only [qSeq]
    repeat first | refine AWp.seq ?_ | refine AWp.block ?_
    refine AWp.ops ?_
    simp
    refine ((turned_spec hS' hq' (by omega) (fun m hm => hrng m hm)).pure (by simp) (by rintro r ⟨⟨_, _, _, rfl, _⟩, _⟩; simp) _).mono ?_
    rintro r H' ⟨rfl, hT⟩
    have hT' := hT
    obtain ⟨⟨nlt, ct, szt, rfl, hst⟩, hlt, hxt⟩ := hT
    simp
    refine AWp.weak (Weak.ownIn 2 0 1 38 2 (by omega) (o := cooO (.agg [.imm nlt ct szt ((turnL Q S).map I), .imm true none 0 []])) (cs := [.imm nlt ct szt ((turnL Q S).map I), .imm true none 0 []]) (c := none) (sz' := 0) (by simp) rfl (by simp) (by simp)) ?_
    simp
    repeat first | refine AWp.seq ?_ | refine AWp.block ?_
    refine AWp.ops ?_
    simp
    obtain ⟨J, hJ⟩ : ∃ J : Nat → List AV → List AObj → Prop, J = fun i fr H => i ≤ es.length ∧ ∃ (fs : List AV) (vr : Option Bool), (Ents fs ((E.take i).map fun t => (turnL Q t.1, t.2)) ∧ (vr = some true → fs = []) ∧ vr ≠ some false) ∧ H = [cooO (.agg [.imm nl1 c01 sz1 (S.map I), .imm nl cl sz es]), cooO (.agg [.imm true none 0 [], .imm true none 0 []]), cooO (.agg [.imm nlt ct szt ((turnL Q S).map I), .slc 3 fs.length 0 fs.length none]), ⟨38, 2, fs, true, vr⟩] ∧
      fr = [.und, .und, .ptr 0 1 0 0, .und, .ptr 1 1 0 0, .und, .imm nlq cq szq (Q.map I), .und, .ptr 2 1 0 0, .und, .und, .und, .und, .und, .und, .und, .und, .und, .und, .und, .und, .und, .und, .und, .und, .und, .und, .imm nl cl sz es, I es.length, I i, .und, .und, .und, .und, .und, .und, .und, .und, .und, .und, .und, .und, .und, .und, .und, .und, .und] := ⟨_, rfl⟩
    refine AWp.block (AWp.loop J (fun i => es.length - i) 0 (Weak.slots [2, 4, 6, 8, 27, 28, 29]) (by rw [hJ]; exact ⟨by omega, [], some true, ⟨Ents.nil, by simp, by simp⟩, by simp, by simp⟩) ?_)
    intro i fr H hI
    rw [hJ] at hI
    obtain ⟨hi, fs, vr, hinv, rfl, rfl⟩ := hI
    repeat first | refine AWp.seq ?_ | refine AWp.block ?_
    refine AWp.ops ?_
    simp
    refine AWp.seq (AWp.cond (b := decide (i < es.length)) (by simp <;> omega) ?_ ?_)
    ·
      intro hb
      have hb : i < es.length := by simpa using hb
      refine AWp.skip ?_
      simp only [qSeq]
      obtain ⟨hfE, hv1, hv2⟩ := hinv
      have hbE : i < E.length := by omega
      have hnl : nl = false := by
        cases nl with
        | false => rfl
        | true => have := he1 rfl; rw [this] at hbE; simp at hbE
      have hsz := he2 hnl
      subst hnl hsz
      obtain ⟨ai, hai, hai2⟩ := hE.get hbE
      have lt := atF_len (hat E[i] (List.getElem_mem hbE))
      have hxt2 := List.take_succ_eq_append_getElem hbE
      have hfl := hfE.1
      simp at hfl
      generalize E[i] = t at hai hai2 lt hxt2
      obtain ⟨c, v⟩ := t
      simp only at hai hai2 lt
      have hai2' := hai2
      obtain ⟨⟨n5, c5, z5, rfl, hs5⟩, hl5, hx5⟩ := hai2
      have hone := hfE.one
      have hwi := wrap_i64 (n := (i : Int) + 1) (by omega) (by omega)
      have w5 : (fs.length + 1) * 32 ≤ 140737488355328 := by omega
      have w6 : fs.length + 1 ≤ 9223372036854775807 := by omega
      repeat first | refine AWp.seq ?_ | refine AWp.block ?_
      refine AWp.ops ?_
      simp [hai]
      repeat first | refine AWp.seq ?_ | refine AWp.block ?_
      refine AWp.ops ?_
      simp
      refine ((turned_spec hai2' hq' (by omega) (fun m hm => by have := hrng m hm; omega)).pure (by simp) (by rintro r ⟨⟨_, _, _, rfl, _⟩, _⟩; simp) _).mono ?_
      rintro r H' ⟨rfl, hU⟩
      have hU' := hU
      obtain ⟨⟨n6, c6, z6, rfl, hs6⟩, hl6, hx6⟩ := hU
      simp [hone, w5, w6, elems]
      repeat first | refine AWp.seq ?_ | refine AWp.block ?_
      refine AWp.ops ?_
      simp [hwi]
      have hsn := hfE.snoc (v := v) hU'
      refine ⟨i + 1, _, _, (Weak.slots [2, 4, 6, 8, 27, 28, 29]).trans (Weak.freeze 4 3 (by simp)), ?_, by omega⟩
      rw [hJ]
      refine ⟨by omega, fs ++ [.agg [.imm n6 c6 z6 ((turnL Q c).map I), I v]], none, ⟨by rw [hxt2]; simpa using hsn, by simp, by simp⟩, ?_, by simp⟩
      have hfz : fs.map (frz (cooO (.agg [.imm nl1 c01 sz1 (S.map I), .imm false cl 2 es]) :: [cooO (.agg [.imm true none 0 [], .imm true none 0 []]), cooO (.agg [.imm nlt ct szt ((turnL Q S).map I), .slc 3 (fs.length + 1) 0 (fs.length + 1) none]), ⟨38, 2, fs ++ [.agg [.imm n6 c6 z6 ((turnL Q c).map I), I v]], true, none⟩, enO (.agg [.imm n5 c5 z5 (c.map I), I v])]) 4 3 true) = fs := hfE.frz _ 4 1 true
      simp [frzH, hfz]
    ·
      intro hb
      have hb : ¬ i < es.length := by simpa using hb
      refine AWp.exit ?_
      simp [qSeq, qBlock]
      obtain ⟨hfE, hv1, hv2⟩ := hinv
      rw [List.take_of_length_le (by omega)] at hfE
      repeat first | refine AWp.seq ?_ | refine AWp.block ?_
      refine AWp.ops ?_
      simp
      refine AWp.ret ?_
      simp
      refine retOk.of rfl (.inr ⟨_, fs, vr, hv1, hv2, by simp, hT', hfE, rfl⟩)
  refine (base.frozen 4).mono ?_
  rintro q H' ⟨rfl, r, G, ⟨rfl, h2⟩ | ⟨h1, s, fs, vr, hv1, hv2, rfl, hs, hf, hG⟩, rfl⟩
  · refine ⟨rfl, .agg [.imm true none 0 [], .imm true none 0 []], by simp, ?_⟩
    rw [h2]
    exact ⟨_, _, rfl, ISl.nil, EnL.nil⟩
  · obtain ⟨⟨nls, cs, szs, rfl, hss⟩, hls, hxs⟩ := hs
    have hfr : fs.map (frz G 0 1 false) = fs := by
      apply List.ext_getElem (by simp)
      intro i h3 h4
      simp only [List.getElem_map]
      obtain ⟨a, ha, ⟨nl, c, sz, rfl, _⟩, _⟩ := hf.2 i h4 (by rw [← hf.1]; exact h4)
      rw [ha]; simp
    rw [h1]
    match vr, hv1, hv2 with
    | none, _, _ =>
      refine ⟨rfl, .agg [.imm nls cs szs ((turnF (S, E) O).1.1.map I), .imm false none 2 fs], by simp [hG, hfr], _, _, rfl, ⟨⟨nls, cs, szs, rfl, hss⟩, hls, hxs⟩, false, none, 2, fs, rfl, by simp, by simp, hf⟩
    | some true, hv1, _ =>
      have h0 := hv1 rfl
      have hE0 : (turnF (S, E) O).1.2 = [] := by have := hf.1; rw [h0] at this; exact List.length_eq_zero_iff.1 (by simpa using this.symm)
      refine ⟨rfl, .agg [.imm nls cs szs ((turnF (S, E) O).1.1.map I), .imm true none 2 []], by simp [hG, h0], _, _, rfl, ⟨⟨nls, cs, szs, rfl, hss⟩, hls, hxs⟩, true, none, 2, [], rfl, fun _ => hE0, by simp, by rw [hE0]; exact Ents.nil⟩
    | some false, _, h => exact absurd rfl h
end Go.Fw
