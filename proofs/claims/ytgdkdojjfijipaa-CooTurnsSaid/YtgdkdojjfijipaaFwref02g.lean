import Derived.Test.YtgdkdojjfijipaaFwcoo16
import Derived.Test.YtgdkdojjfijipaaFwcoo11
import Derived.Test.YtgdkdojjfijipaaFwref02b
import Derived.Test.YtgdkdojjfijipaaFwrowo1
namespace Go.Fw
open Go Go.RowKit Go.Proofs
set_option maxRecDepth 100000
set_option linter.unusedSimpArgs false
set_option linter.unusedVariables false

def rcTurn_40 : AC := (.seq (.ops [⟨(some 84), none, (.k (.ld 2 true (.t 9)))⟩, ⟨none, none, (.k (.st 2 (.t 4) (.t 84)))⟩, ⟨(some 5), none, (.k (.mov (.c (.sc (.int .i64 0)))))⟩]) .ret)
def rcTurn_39 : AC := (.seq (.ops [⟨(some 63), none, (.k (.iad 1 (.t 59) (.t 61)))⟩, ⟨(some 64), none, (.k (.ld 1 false (.t 63)))⟩, ⟨(some 16), none, (.k (.mov (.t 64)))⟩]) (.ops [⟨(some 65), none, (.k (.mov (.t 14)))⟩, ⟨(some 66), none, (.k (.fad 0 (.t 13)))⟩, ⟨(some 67), none, (.k (.ld 1 false (.t 66)))⟩, ⟨(some 68), none, (.k (.mov (.t 16)))⟩, ⟨(some 69), none, (.k (.iad 1 (.t 67) (.t 68)))⟩, ⟨(some 70), none, (.k (.ld 1 false (.t 69)))⟩, ⟨(some 71), none, (.k (.lit 1 [(.t 70)]))⟩, ⟨(some 72), none, (.k (.app 3 1 8 (.t 65) (.t 71)))⟩, ⟨(some 14), none, (.k (.mov (.t 72)))⟩]))
def rcTurn_38 : AC := (.block 5 rcTurn_39)
def rcTurn_37 : AC := (.seq rcTurn_38 (.ops [⟨(some 73), none, (.k (.bin .add (.t 61) (.c (.sc (.int .i64 1)))))⟩, ⟨(some 61), none, (.k (.mov (.t 73)))⟩]))
def rcTurn_36 : AC := (.seq (.cond (.t 62) .skip (.exit 4)) rcTurn_37)
def rcTurn_35 : AC := (.seq (.ops [⟨(some 62), none, (.k (.bin .lss (.t 61) (.t 60)))⟩]) rcTurn_36)
def rcTurn_34 : AC := (.loop rcTurn_35)
def rcTurn_33 : AC := (.block 4 rcTurn_34)
def rcTurn_32 : AC := (.seq (.ops [⟨(some 59), none, (.k (.mov (.t 7)))⟩, ⟨(some 60), none, (.k (.len (.t 59)))⟩, ⟨(some 61), none, (.k (.mov (.c (.sc (.int .i64 0)))))⟩]) rcTurn_33)
def rcTurn_31 : AC := (.seq rcTurn_32 (.ops [⟨(some 74), none, (.k (.fad 1 (.t 9)))⟩, ⟨(some 75), none, (.k (.ld 1 false (.t 74)))⟩, ⟨(some 76), none, (.k (.mov (.t 14)))⟩, ⟨(some 77), none, (.k (.fad 1 (.t 13)))⟩, ⟨(some 78), none, (.k (.ld 1 false (.t 77)))⟩, ⟨(some 79), none, (.k (.mk [(.imm true none 0 []), (.sc (.int .i64 0))] [(0, (1, (.t 76))), (1, (1, (.t 78)))]))⟩, ⟨(some 80), none, (.k (.litO 38 2 [(.t 79)]))⟩, ⟨(some 81), none, (.k (.app 38 2 32 (.t 75) (.t 80)))⟩, ⟨(some 82), none, (.k (.fad 1 (.t 9)))⟩, ⟨none, none, (.k (.st 1 (.t 82) (.t 81)))⟩]))
def rcTurn_30 : AC := (.seq (.ops [⟨(some 14), none, (.k (.mov (.c (.imm true none 0 []))))⟩]) rcTurn_31)
def rcTurn_29 : AC := (.seq (.ops [⟨(some 57), none, (.k (.iad 2 (.t 53) (.t 55)))⟩, ⟨(some 58), none, (.k (.ld 2 true (.t 57)))⟩, ⟨(some 13), none, (.k (.new 38 2 (.c (.agg [(.imm true none 0 []), (.sc (.int .i64 0))]))))⟩, ⟨none, none, (.k (.st 2 (.t 13) (.t 58)))⟩]) rcTurn_30)
def rcTurn_28 : AC := (.block 3 rcTurn_29)
def rcTurn_27 : AC := (.seq rcTurn_28 (.ops [⟨(some 83), none, (.k (.bin .add (.t 55) (.c (.sc (.int .i64 1)))))⟩, ⟨(some 55), none, (.k (.mov (.t 83)))⟩]))
def rcTurn_26 : AC := (.seq (.cond (.t 56) .skip (.exit 2)) rcTurn_27)
def rcTurn_25 : AC := (.seq (.ops [⟨(some 56), none, (.k (.bin .lss (.t 55) (.t 54)))⟩]) rcTurn_26)
def rcTurn_24 : AC := (.loop rcTurn_25)
def rcTurn_23 : AC := (.block 2 rcTurn_24)
def rcTurn_22 : AC := (.seq (.ops [⟨(some 52), none, (.k (.fad 1 (.t 2)))⟩, ⟨(some 53), none, (.k (.ld 1 false (.t 52)))⟩, ⟨(some 54), none, (.k (.len (.t 53)))⟩, ⟨(some 55), none, (.k (.mov (.c (.sc (.int .i64 0)))))⟩]) rcTurn_23)
def rcTurn_21 : AC := (.seq rcTurn_22 rcTurn_40)
def rcTurn_20 : AC := (.seq (.ops [⟨(some 39), none, (.k (.iad 1 (.t 35) (.t 37)))⟩, ⟨(some 40), none, (.k (.ld 1 false (.t 39)))⟩, ⟨(some 11), none, (.k (.mov (.t 40)))⟩]) (.ops [⟨(some 41), none, (.k (.fad 0 (.t 9)))⟩, ⟨(some 42), none, (.k (.ld 1 false (.t 41)))⟩, ⟨(some 43), none, (.k (.fad 0 (.t 2)))⟩, ⟨(some 44), none, (.k (.ld 1 false (.t 43)))⟩, ⟨(some 45), none, (.k (.mov (.t 11)))⟩, ⟨(some 46), none, (.k (.iad 1 (.t 44) (.t 45)))⟩, ⟨(some 47), none, (.k (.ld 1 false (.t 46)))⟩, ⟨(some 48), none, (.k (.lit 1 [(.t 47)]))⟩, ⟨(some 49), none, (.k (.app 3 1 8 (.t 42) (.t 48)))⟩, ⟨(some 50), none, (.k (.fad 0 (.t 9)))⟩, ⟨none, none, (.k (.st 1 (.t 50) (.t 49)))⟩]))
def rcTurn_19 : AC := (.block 1 rcTurn_20)
def rcTurn_18 : AC := (.seq rcTurn_19 (.ops [⟨(some 51), none, (.k (.bin .add (.t 37) (.c (.sc (.int .i64 1)))))⟩, ⟨(some 37), none, (.k (.mov (.t 51)))⟩]))
def rcTurn_17 : AC := (.seq (.cond (.t 38) .skip (.exit 0)) rcTurn_18)
def rcTurn_16 : AC := (.seq (.ops [⟨(some 38), none, (.k (.bin .lss (.t 37) (.t 36)))⟩]) rcTurn_17)
def rcTurn_15 : AC := (.loop rcTurn_16)
def rcTurn_14 : AC := (.block 0 rcTurn_15)
def rcTurn_13 : AC := (.seq (.ops [⟨(some 35), none, (.k (.mov (.t 7)))⟩, ⟨(some 36), none, (.k (.len (.t 35)))⟩, ⟨(some 37), none, (.k (.mov (.c (.sc (.int .i64 0)))))⟩]) rcTurn_14)
def rcTurn_12 : AC := (.seq rcTurn_13 rcTurn_21)
def rcTurn_11 : AC := (.seq (.ops [⟨(some 34), none, (.k (.mk [(.imm true none 0 []), (.imm true none 0 [])] []))⟩, ⟨(some 9), none, (.k (.new 25 2 (.c (.agg [(.imm true none 0 []), (.imm true none 0 [])]))))⟩, ⟨none, none, (.k (.st 2 (.t 9) (.t 34)))⟩]) rcTurn_12)
def rcTurn_10 : AC := (.seq (.ops [⟨(some 33), none, (.k (.mk [(.imm true none 0 []), (.imm true none 0 [])] []))⟩, ⟨none, none, (.k (.st 2 (.t 4) (.t 33)))⟩, ⟨(some 5), none, (.k (.mov (.c (.sc (.int .i64 1)))))⟩]) .ret)
def rcTurn_9 : AC := (.cond (.t 32) rcTurn_10 .skip)
def rcTurn_8 : AC := (.seq (.ops [⟨(some 31), none, (.k (.mov (.t 8)))⟩, ⟨(some 32), none, (.k (.un .not (.t 31)))⟩]) rcTurn_9)
def rcTurn_7 : AC := (.seq rcTurn_8 rcTurn_11)
def rcTurn_6 : AC := (.seq (.ops [⟨(some 24), none, (.k (.fad 0 (.t 2)))⟩, ⟨(some 25), none, (.k (.ld 1 false (.t 24)))⟩, ⟨(some 26), none, (.k (.len (.t 25)))⟩, ⟨(some 27), none, (.k (.mov (.t 1)))⟩, ⟨(some 28), none, (.call false (.c (.fn (.func 17) [] [])) [(.t 26), (.t 27)])⟩, ⟨(some 23), none, (.k (.mov (.t 28)))⟩, ⟨(some 29), none, (.k (.ext (.t 23) 0))⟩, ⟨(some 30), none, (.k (.ext (.t 23) 1))⟩, ⟨(some 7), none, (.k (.mov (.t 29)))⟩, ⟨(some 8), none, (.k (.mov (.t 30)))⟩]) rcTurn_7)
def rcTurn_5 : AC := (.seq (.ops [⟨(some 21), none, (.k (.mk [(.imm true none 0 []), (.imm true none 0 [])] []))⟩, ⟨(some 22), none, (.k (.mov (.t 6)))⟩, ⟨none, none, (.k (.st 2 (.t 4) (.t 21)))⟩, ⟨(some 5), none, (.k (.mov (.t 22)))⟩]) .ret)
def rcTurn_4 : AC := (.cond (.t 20) rcTurn_5 .skip)
def rcTurn_3 : AC := (.seq (.ops [⟨(some 19), none, (.k (.mov (.t 6)))⟩, ⟨(some 20), none, (.k (.bin .neq (.t 19) (.c (.sc (.int .i64 0)))))⟩]) rcTurn_4)
def rcTurn_2 : AC := (.seq (.ops [⟨(some 17), none, (.k (.ld 2 true (.t 2)))⟩, ⟨(some 18), none, (.call false (.c (.fn (.func 28) [] [])) [(.t 17)])⟩, ⟨(some 6), none, (.k (.mov (.t 18)))⟩]) rcTurn_3)
def rcTurn_1 : AC := (.seq rcTurn_2 rcTurn_6)
def rcTurn_ac : AC := (.seq (.ops [⟨(some 2), none, (.k (.new 25 2 (.t 0)))⟩, ⟨(some 4), none, (.k (.new 25 2 (.c (.agg [(.imm true none 0 []), (.imm true none 0 [])]))))⟩, ⟨(some 5), none, (.k (.mov (.c (.sc (.int .i64 0)))))⟩]) rcTurn_1)
theorem rcTurn_call {args : List AV} {H : List AObj} {R : AV → List AObj → Prop} (h : AWp Try.prog [80] H.length rcTurn_ac (bodyQ H.length [(.cell 4 2 true), (.t 5)] R) (args ++ List.replicate (85 - args.length) .und) H) : ACalls Try.prog 35 args H R :=
  ACalls.of_fn Try.func35 rfl (by kernel_rfl) rfl Try.ntmps35 h

set_option maxHeartbeats 8000000 in
theorem rcTurn_spec {a o : AV} {X : List Int × List (List Int × Int)} {O : List Int} (ha : Coo a X) (ho : ISl o O) (hO : O.length ≤ 1000) : ACalls Try.prog 35 [a, o] [] (cooR (turnF X O)) := by
  have ha' := ha
  have ho' := ho
  obtain ⟨S, E⟩ := X
  obtain ⟨s, e, rfl, hS, hE⟩ := ha
  simp only at hS hE
  obtain ⟨⟨n1, c1, z1, rfl, hs1⟩, hl1, hx1⟩ := hS
  obtain ⟨n2, c2, z2, es, rfl, h21, h22, h23⟩ := hE
  obtain ⟨⟨no, co, zo, rfl, hso⟩, hlo, hxo⟩ := ho
  have hel := h23.1
  apply rcTurn_call
  repeat first | refine AWp.seq ?_ | refine AWp.block ?_
  refine AWp.ops ?_
  simp
  repeat first | refine AWp.seq ?_ | refine AWp.block ?_
  refine AWp.ops ?_
  simp
  refine ((rcCheck_spec ha').pure (by simp) (by rintro r rfl; simp) _).mono ?_
  rintro r H' ⟨rfl, rfl⟩
  simp
  repeat first | refine AWp.seq ?_ | refine AWp.block ?_
  refine AWp.ops ?_
  simp
  by_cases hck : cooCheck S E = 0
  case neg =>
    have he : turnF (S, E) O = (([], []), cooCheck S E) := by simp [turnF, orderF, hck]
    refine AWp.cond (b := true) (by simp [hck]) (fun _ => ?_) (fun h => by cases h)
    repeat first | refine AWp.seq ?_ | refine AWp.block ?_
    refine AWp.ops ?_
    simp
    refine AWp.ret ?_
    simp
    refine retOk.of rfl ?_
    rw [he]
    exact ⟨.agg [.imm true none 0 [], .imm true none 0 []], by simp, CooO.nil⟩
  refine AWp.cond (b := false) (by simp [hck]) (fun h => by cases h) (fun _ => ?_)
  obtain ⟨q1, q2, q3⟩ := rOrd_eq (X := (S, E)) (O := O) hck
  simp only at q1 q2 q3
  obtain ⟨hS4, hE6, hcs, hat⟩ := cooCheck_len hck
  refine AWp.skip ?_
  simp only [qSeq]
  repeat first | refine AWp.seq ?_ | refine AWp.block ?_
  refine AWp.ops ?_
  simp
  refine ((rOrder_spec (n := S.length) ho' (by omega) (by omega)).pure (by simp) (by rintro r ⟨y, rfl, ⟨⟨_, _, _, rfl, _⟩, _⟩⟩; simp) _).mono ?_
  rintro r H' ⟨rfl, q, rfl, hq⟩
  have hqone : oneC q = true := by obtain ⟨⟨_, _, _, rfl, _⟩, _⟩ := hq; rfl
  simp
  repeat first | refine AWp.seq ?_ | refine AWp.block ?_
  refine AWp.ops ?_
  simp
  by_cases hoz : (orderF (S, E) O).2 = 0
  case neg =>
    have h1 := (q3 hoz).1
    have he : turnF (S, E) O = (([], []), 1) := by simp [turnF, h1]
    refine AWp.cond (b := true) (by simp [q1, hoz]) (fun _ => ?_) (fun h => by cases h)
    repeat first | refine AWp.seq ?_ | refine AWp.block ?_
    refine AWp.ops ?_
    simp
    refine AWp.ret ?_
    simp
    refine retOk.of rfl ?_
    rw [he]
    exact ⟨.agg [.imm true none 0 [], .imm true none 0 []], by simp, CooO.nil⟩
  refine AWp.cond (b := false) (by simp [q1, hoz]) (fun h => by cases h) (fun _ => ?_)
  rw [q2 hoz] at hq
  have hPr := orderF_rng hoz
  obtain ⟨P, hP⟩ : ∃ P, P = (orderF (S, E) O).1 := ⟨_, rfl⟩
  rw [← hP] at hq hPr
  simp only at hPr
  have he : turnF (S, E) O = ((turnL P S, E.map fun t => (turnL P t.1, t.2)), 0) := by simp [turnF, hoz, ← hP]
  rw [he]
  obtain ⟨⟨nq, cq, zq, rfl, hsq⟩, hlq, hxq⟩ := hq
  refine AWp.skip ?_
  simp only [qSeq]
  repeat first | refine AWp.seq ?_ | refine AWp.block ?_
  refine AWp.ops ?_
  simp
  repeat first | refine AWp.seq ?_ | refine AWp.block ?_
  refine AWp.ops ?_
  simp
  obtain ⟨KB, hKB⟩ : ∃ K : List AObj, K = [cooO (.agg [.imm n1 c1 z1 (S.map I), .imm n2 c2 z2 es]), cooO (.agg [.imm true none 0 [], .imm true none 0 []]), cooO (.agg [.imm true none 0 [], .imm true none 0 []])] := ⟨_, rfl⟩
  rw [← hKB]
  have hPl : P.length ≤ 1000000 := by
    have := (orderF_ok hoz).2.length_eq
    rw [← hP] at this
    simp at this; omega
  obtain ⟨J, hJ⟩ : ∃ J : Nat → List AV → List AObj → Prop, J = fun i fr H => i ≤ P.length ∧ ∃ (K : List AObj) (sh : AV), (K[0]? = some (cooO (.agg [.imm n1 c1 z1 (S.map I), .imm n2 c2 z2 es])) ∧ K[1]? = some (cooO (.agg [.imm true none 0 [], .imm true none 0 []])) ∧ K[2]? = some (cooO (.agg [sh, .imm true none 0 []])) ∧ rowO 3 K sh 3 1 ((turnL (P.take i) S).map I)) ∧ H = K ∧
    fr = [.und, .und, .ptr 0 1 0 0, .und, .ptr 1 1 0 0, I 0, .und, .imm nq cq zq (P.map I), .und, .ptr 2 1 0 0, .und, .und, .und, .und, .und, .und, .und, .und, .und, .und, .und, .und, .und, .und, .und, .und, .und, .und, .und, .und, .und, .und, .und, .und, .und, .imm nq cq zq (P.map I), I P.length, I i, .und, .und, .und, .und, .und, .und, .und, .und, .und, .und, .und, .und, .und, .und, .und, .und, .und, .und, .und, .und, .und, .und, .und, .und, .und, .und, .und, .und, .und, .und, .und, .und, .und, .und, .und, .und, .und, .und, .und, .und, .und, .und, .und, .und, .und, .und, .und] := ⟨_, rfl⟩
  refine AWp.block (AWp.loop J (fun i => P.length - i) 0 (Weak.slots [2, 4, 5, 7, 9, 35, 36, 37]) (by rw [hJ]; exact ⟨by omega, KB, .imm true none 0 [], ⟨by rw [hKB]; rfl, by rw [hKB]; rfl, by rw [hKB]; rfl, .inl ⟨by simp [turnL], rfl⟩⟩, by simp, by simp⟩) ?_)
  intro i fr H hI
  rw [hJ] at hI
  obtain ⟨hi, K, sh, hinv, rfl, rfl⟩ := hI
  repeat first | refine AWp.seq ?_ | refine AWp.block ?_
  refine AWp.ops ?_
  simp
  refine AWp.seq (AWp.cond (b := decide (i < P.length)) (by simp <;> omega) ?_ ?_)
  ·
    intro hb
    have hb : i < P.length := by simpa using hb
    refine AWp.skip ?_
    simp only [qSeq]
    obtain ⟨k0, k1, k2, hr⟩ := hinv
    have hsz := sz_of hsq hb
    subst hsz
    have hmi := hPr P[i] (List.getElem_mem hb)
    obtain ⟨k, hk⟩ : ∃ k : Nat, P[i] = k := ⟨P[i].toNat, by omega⟩
    have hkS : k < S.length := by omega
    have hsz1 := sz_of hs1 hkS
    subst hsz1
    have hwi := wrap_i64 (n := (i : Int) + 1) (by omega) (by omega)
    have hts : (turnL (P.take (i + 1)) S).map I = (turnL (P.take i) S).map I ++ [I S[k]] := by
      rw [List.take_succ_eq_append_getElem hb]
      simp [turnL, hk, hkS]
    have htl : ((turnL (P.take i) S).map I).length = i := by simp [turnL]; omega
    rcases hr with ⟨h0, rfl⟩ | ⟨kk, hkk, rfl, hkK⟩
    · rw [h0] at hts
      have gR : ∀ G r o, H[r]? = some o → (H ++ G)[r]? = some o := fun G r o h => by rw [List.getElem?_append_left (List.getElem?_eq_some_iff.1 h).1]; exact h
      have g2 : ∀ G, (H ++ G)[2]? = some (cooO (.agg [.imm true none 0 [], .imm true none 0 []])) := fun G => gR _ _ _ k2
      have hH2 := (List.getElem?_eq_some_iff.1 k2).1
      repeat first | refine AWp.seq ?_ | refine AWp.block ?_
      refine AWp.ops ?_
      simp [hb, hk]
      repeat first | refine AWp.seq ?_ | refine AWp.block ?_
      refine AWp.ops ?_
      simp [k0, k2, hkS, g2]
      repeat first | refine AWp.seq ?_ | refine AWp.block ?_
      refine AWp.ops ?_
      simp [hwi]
      refine ⟨i + 1, _, _, Weak.slots [2, 4, 5, 7, 9, 35, 36, 37], ?_, by omega⟩
      rw [hJ]
      refine ⟨by omega, (H ++ [intOb [S[k]]]).set 2 (cooO (.agg [.slc H.length 1 0 1 none, .imm true none 0 []])), _, ⟨by rw [gs_ne (by omega)]; exact gR _ _ _ k0, by rw [gs_ne (by omega)]; exact gR _ _ _ k1, gs_eq (g2 _), .inr ⟨H.length, by omega, ?_, ?_⟩⟩, rfl, by simp⟩
      · rw [hts]; rfl
      · rw [hts, gs_ne (by omega), List.getElem?_append_right (by omega), Nat.sub_self]; rfl
    · obtain ⟨Z, hZ⟩ : ∃ Z, Z = (turnL (P.take i) S).map I := ⟨_, rfl⟩
      have hZ1 : allOneCell 1 Z = true := by rw [hZ]; simp
      rw [← hZ] at hts htl hkK k2
      have g2 : ∀ x, (H.set kk x)[2]? = some (cooO (.agg [.slc kk Z.length 0 Z.length none, .imm true none 0 []])) := fun x => by rw [gs_ne (by omega)]; exact k2
      have w5 : (Z.length + 1) * 8 ≤ 140737488355328 := by omega
      have w6 : Z.length + 1 ≤ 9223372036854775807 := by omega
      repeat first | refine AWp.seq ?_ | refine AWp.block ?_
      refine AWp.ops ?_
      simp [hb, hk]
      repeat first | refine AWp.seq ?_ | refine AWp.block ?_
      refine AWp.ops ?_
      simp [k0, k2, hkS, g2, hkK, hZ1, w5, w6]
      repeat first | refine AWp.seq ?_ | refine AWp.block ?_
      refine AWp.ops ?_
      simp [hwi]
      refine ⟨i + 1, _, _, Weak.slots [2, 4, 5, 7, 9, 35, 36, 37], ?_, by omega⟩
      rw [hJ]
      refine ⟨by omega, _, _, ⟨by rw [gs_ne (by omega), gs_ne (by omega)]; exact k0, by rw [gs_ne (by omega), gs_ne (by omega)]; exact k1, gs_eq (g2 _), .inr ⟨kk, by omega, ?_, ?_⟩⟩, rfl, by simp⟩
      · rw [hts]; simp
      · rw [hts, gs_ne (by omega), gs_eq hkK]
  ·
    intro hb
    have hb : ¬ i < P.length := by simpa using hb
    refine AWp.exit ?_
    simp [qSeq, qBlock]
    obtain ⟨k0, k1, k2, hr⟩ := hinv
    rw [List.take_of_length_le (by omega)] at hr
    clear hJ J
    repeat first | refine AWp.seq ?_ | refine AWp.block ?_
    refine AWp.ops ?_
    simp [k0]
    obtain ⟨J, hJ⟩ : ∃ J : Nat → List AV → List AObj → Prop, J = fun i fr H => i ≤ es.length ∧ ∃ (K : List AObj) (sh : AV) (e : AV) (fs : List AV), (K[0]? = some (cooO (.agg [.imm n1 c1 z1 (S.map I), .imm n2 c2 z2 es])) ∧ K[1]? = some (cooO (.agg [.imm true none 0 [], .imm true none 0 []])) ∧ K[2]? = some (cooO (.agg [sh, e])) ∧ rowO 3 K sh 3 1 ((turnL P S).map I) ∧ rowO 3 K e 38 2 fs ∧ EntsO 3 K fs ((E.take i).map fun t => (turnL P t.1, t.2))) ∧ H = K ∧
      fr = [.und, .und, .ptr 0 1 0 0, .und, .ptr 1 1 0 0, I 0, .und, .imm nq cq zq (P.map I), .und, .ptr 2 1 0 0, .und, .und, .und, .und, .und, .und, .und, .und, .und, .und, .und, .und, .und, .und, .und, .und, .und, .und, .und, .und, .und, .und, .und, .und, .und, .und, .und, .und, .und, .und, .und, .und, .und, .und, .und, .und, .und, .und, .und, .und, .und, .und, .und, .imm n2 c2 z2 es, I es.length, I i, .und, .und, .und, .und, .und, .und, .und, .und, .und, .und, .und, .und, .und, .und, .und, .und, .und, .und, .und, .und, .und, .und, .und, .und, .und, .und, .und, .und, .und] := ⟨_, rfl⟩
    refine AWp.block (AWp.loop J (fun i => es.length - i) 0 (Weak.slots [2, 4, 5, 7, 9, 53, 54, 55]) (by rw [hJ]; exact ⟨by omega, _, _, .imm true none 0 [], [], ⟨k0, k1, k2, hr, .inl ⟨rfl, rfl⟩, by simpa using EntsO.nil⟩, by simp, by simp⟩) ?_)
    intro i fr H hI
    rw [hJ] at hI
    obtain ⟨hi, K, sh, e, fs, hinv, rfl, rfl⟩ := hI
    repeat first | refine AWp.seq ?_ | refine AWp.block ?_
    refine AWp.ops ?_
    simp
    refine AWp.seq (AWp.cond (b := decide (i < es.length)) (by simp <;> omega) ?_ ?_)
    ·
      intro hb
      have hb : i < es.length := by simpa using hb
      refine AWp.skip ?_
      simp only [qSeq]
      clear hr k0 k1 k2
      obtain ⟨k0, k1, k2, hr, he', hE'⟩ := hinv
      have hbE : i < E.length := by omega
      obtain ⟨ai, hai, hai2⟩ := h23.get hbE
      have hmem : E[i] ∈ E := List.getElem_mem hbE
      have hxt := List.take_succ_eq_append_getElem hbE
      generalize E[i] = w at hai hai2 hmem hxt
      obtain ⟨c, v⟩ := w
      simp only at hai hai2
      obtain ⟨⟨n5, c5, z5, rfl, hs5⟩, hl5, hx5⟩ := hai2
      obtain ⟨_, hai'⟩ := List.getElem?_eq_some_iff.1 hai
      have hn2 : n2 = false := by
        cases n2 with
        | false => rfl
        | true => have := h21 rfl; rw [this] at hbE; simp at hbE
      have hz2 := h22 hn2
      subst hn2 hz2
      have hcl : c.length = S.length := by
        have := atF_len (hat _ hmem)
        simpa using this
      have hwi := wrap_i64 (n := (i : Int) + 1) (by omega) (by omega)
      obtain ⟨m, hm⟩ : ∃ m, m = H.length := ⟨_, rfl⟩
      have hm2 : 2 < m := by rw [hm]; exact (List.getElem?_eq_some_iff.1 k2).1
      have gL : ∀ x G, (H ++ x :: G)[m]? = some x := fun x G => by rw [List.getElem?_append_right (by omega), show m - H.length = 0 by omega]; rfl
      have sL : ∀ x y G, (H ++ x :: G).set m y = H ++ y :: G := fun x y G => by rw [List.set_append_right _ _ (by omega), show m - H.length = 0 by omega]; rfl
      repeat first | refine AWp.seq ?_ | refine AWp.block ?_
      refine AWp.ops ?_
      simp [hai, hai', hb, ← hm, gL, sL]
      obtain ⟨K1, hK1⟩ : ∃ K1, K1 = H ++ [enO (.agg [.imm n5 c5 z5 (c.map I), I v])] := ⟨_, rfl⟩
      rw [← hK1]
      have hK1l : K1.length = m + 1 := by rw [hK1]; simp; omega
      have up : ∀ r o, H[r]? = some o → K1[r]? = some o := fun r o h => by rw [hK1, List.getElem?_append_left (List.getElem?_eq_some_iff.1 h).1]; exact h
      have km : K1[m]? = some (enO (.agg [.imm n5 c5 z5 (c.map I), I v])) := by rw [hK1]; exact gL _ _
      replace k0 := up _ _ k0
      replace k1 := up _ _ k1
      replace k2 := up _ _ k2
      replace hr := hr.app [enO (.agg [.imm n5 c5 z5 (c.map I), I v])]
      replace he' := he'.app [enO (.agg [.imm n5 c5 z5 (c.map I), I v])]
      rw [← hK1] at hr he'
      replace hE' := hE'.to (Nat.le_refl _) fun k c _ h => up k _ h
      clear gL sL up hm hK1
      repeat first | refine AWp.seq ?_ | refine AWp.block ?_
      refine AWp.ops ?_
      simp
      repeat first | refine AWp.seq ?_ | refine AWp.block ?_
      refine AWp.ops ?_
      simp
      obtain ⟨J2, hJ2⟩ : ∃ J : Nat → List AV → List AObj → Prop, J = fun i2 fr H => i2 ≤ P.length ∧ ∃ (K : List AObj) (cc : AV), ((∀ (r : Nat) (o : AObj), K1[r]? = some o → K[r]? = some o) ∧ rowO (m + 1) K cc 3 1 ((turnL (P.take i2) c).map I)) ∧ H = K ∧
        fr = [.und, .und, .ptr 0 1 0 0, .und, .ptr 1 1 0 0, I 0, .und, .imm nq cq zq (P.map I), .und, .ptr 2 1 0 0, .und, .und, .und, .ptr m 1 0 0, cc, .und, .und, .und, .und, .und, .und, .und, .und, .und, .und, .und, .und, .und, .und, .und, .und, .und, .und, .und, .und, .und, .und, .und, .und, .und, .und, .und, .und, .und, .und, .und, .und, .und, .und, .und, .und, .und, .und, .imm false c2 2 es, I es.length, I i, .und, .und, .und, .imm nq cq zq (P.map I), I P.length, I i2, .und, .und, .und, .und, .und, .und, .und, .und, .und, .und, .und, .und, .und, .und, .und, .und, .und, .und, .und, .und, .und, .und, .und] := ⟨_, rfl⟩
      refine AWp.block (AWp.loop J2 (fun i2 => P.length - i2) 0 (Weak.slots [2, 4, 5, 7, 9, 13, 14, 53, 54, 55, 59, 60, 61]) (by rw [hJ2]; exact ⟨by omega, K1, .imm true none 0 [], ⟨fun _ _ h => h, .inl ⟨by simp [turnL], rfl⟩⟩, by simp, by simp⟩) ?_)
      intro i2 fr H hI
      rw [hJ2] at hI
      obtain ⟨hi2, K, cc, hinv2, rfl, rfl⟩ := hI
      repeat first | refine AWp.seq ?_ | refine AWp.block ?_
      refine AWp.ops ?_
      simp
      refine AWp.seq (AWp.cond (b := decide (i2 < P.length)) (by simp <;> omega) ?_ ?_)
      · intro hb2
        have hb2 : i2 < P.length := by simpa using hb2
        refine AWp.skip ?_
        simp only [qSeq]
        obtain ⟨up, hr2⟩ := hinv2
        have hsz := sz_of hsq hb2
        subst hsz
        have hmi := hPr P[i2] (List.getElem_mem hb2)
        obtain ⟨k, hk⟩ : ∃ k : Nat, P[i2] = k := ⟨P[i2].toNat, by omega⟩
        have hkc : k < c.length := by omega
        have hsz5 := sz_of hs5 hkc
        subst hsz5
        have hwi2 := wrap_i64 (n := (i2 : Int) + 1) (by omega) (by omega)
        have hts : (turnL (P.take (i2 + 1)) c).map I = (turnL (P.take i2) c).map I ++ [I c[k]] := by
          rw [List.take_succ_eq_append_getElem hb2]
          simp [turnL, hk, hkc]
        have htl : ((turnL (P.take i2) c).map I).length = i2 := by simp [turnL]; omega
        have qm := up _ _ km
        rcases hr2 with ⟨h0, rfl⟩ | ⟨kk, hkk, rfl, hkK⟩
        · rw [h0] at hts
          have hmH := (List.getElem?_eq_some_iff.1 qm).1
          repeat first | refine AWp.seq ?_ | refine AWp.block ?_
          refine AWp.ops ?_
          simp [hb2, hk]
          repeat first | refine AWp.seq ?_ | refine AWp.block ?_
          refine AWp.ops ?_
          simp [qm, hkc]
          repeat first | refine AWp.seq ?_ | refine AWp.block ?_
          refine AWp.ops ?_
          simp [hwi2]
          refine ⟨i2 + 1, _, _, Weak.slots [2, 4, 5, 7, 9, 13, 14, 53, 54, 55, 59, 60, 61], ?_, by omega⟩
          rw [hJ2]
          have gR : ∀ G r o, H[r]? = some o → (H ++ G)[r]? = some o := fun G r o h => by rw [List.getElem?_append_left (List.getElem?_eq_some_iff.1 h).1]; exact h
          refine ⟨by omega, _, _, ⟨fun r o h => gR _ _ _ (up r o h), .inr ⟨H.length, by omega, ?_, ?_⟩⟩, rfl, by simp; rfl⟩
          · rw [hts]; rfl
          · rw [hts, List.getElem?_append_right (by omega), Nat.sub_self]; rfl
        · obtain ⟨Z, hZ⟩ : ∃ Z, Z = (turnL (P.take i2) c).map I := ⟨_, rfl⟩
          have hZ1 : allOneCell 1 Z = true := by rw [hZ]; simp
          rw [← hZ] at hts htl hkK ⊢
          have w5 : (Z.length + 1) * 8 ≤ 140737488355328 := by omega
          have w6 : Z.length + 1 ≤ 9223372036854775807 := by omega
          repeat first | refine AWp.seq ?_ | refine AWp.block ?_
          refine AWp.ops ?_
          simp [hb2, hk]
          repeat first | refine AWp.seq ?_ | refine AWp.block ?_
          refine AWp.ops ?_
          simp [qm, hkc, hkK, hZ1, w5, w6]
          repeat first | refine AWp.seq ?_ | refine AWp.block ?_
          refine AWp.ops ?_
          simp [hwi2]
          refine ⟨i2 + 1, _, _, Weak.slots [2, 4, 5, 7, 9, 13, 14, 53, 54, 55, 59, 60, 61], ?_, by omega⟩
          rw [hJ2]
          refine ⟨by omega, _, _, ⟨fun r o h => ?_, .inr ⟨kk, hkk, ?_, ?_⟩⟩, rfl, by simp; rfl⟩
          · have := (List.getElem?_eq_some_iff.1 h).1
            rw [gs_ne (by omega)]; exact up r o h
          · rw [hts]; simp
          · rw [hts, gs_eq hkK]
      · intro hb2
        have hb2 : ¬ i2 < P.length := by simpa using hb2
        refine AWp.exit ?_
        simp [qSeq, qBlock]
        obtain ⟨up, hr2⟩ := hinv2
        rw [List.take_of_length_le (by omega)] at hr2
        have hone := hr2.one
        have hcell : cellsOf cc = [cc] := by
          rcases hr2 with ⟨_, rfl⟩ | ⟨_, _, rfl, _⟩ <;> rfl
        simp only [cellsOf] at hcell
        have qm := up _ _ km
        replace k0 := up _ _ k0
        replace k1 := up _ _ k1
        replace k2 := up _ _ k2
        have hrH := hr.to (K' := H) fun k _ h => up _ _ h
        have heH := he'.to (K' := H) fun k _ h => up _ _ h
        have hEH := hE'.to (K' := H) (Nat.le_refl _) fun k c _ h => up _ _ h
        have hsn := hEH.snoc (v := v) ((hr2.mono (b' := 3) (by omega)).toC)
        have ex : ((E.take (i + 1)).map fun t => (turnL P t.1, t.2)) = ((E.take i).map fun t => (turnL P t.1, t.2)) ++ [(turnL P c, v)] := by rw [hxt]; simp
        rw [← ex] at hsn
        have hfl := hEH.1
        simp at hfl
        have hone3 := hEH.one
        have w5 : (fs.length + 1) * 32 ≤ 140737488355328 := by omega
        have w6 : fs.length + 1 ≤ 9223372036854775807 := by omega
        obtain ⟨m2, hm2'⟩ : ∃ m, m = H.length := ⟨_, rfl⟩
        have gR0 : ∀ G r o, H[r]? = some o → (H ++ G)[r]? = some o := fun G r o h => by rw [List.getElem?_append_left (List.getElem?_eq_some_iff.1 h).1]; exact h
        have gL0 : ∀ x G, (H ++ x :: G)[m2]? = some x := fun x G => by rw [List.getElem?_append_right (by omega), show m2 - H.length = 0 by omega]; rfl
        have q9 : elems 2 (H ++ [⟨38, 2, [.agg [cc, I v]], true, none⟩]) (.slc m2 1 0 1 none) = some [.agg [cc, I v]] := by simp [elems, gL0]
        have q8 : allOneCell 2 [.agg [cc, I v]] = true := by simp [allOneCell, okEl, hcell, hone]
        have f2 : ∀ G, (H ++ G)[2]? = some (cooO (.agg [sh, e])) := fun G => gR0 _ _ _ k2
        have fm : ∀ G, (H ++ G)[m]? = some (enO (.agg [.imm n5 c5 z5 (c.map I), I v])) := fun G => gR0 _ _ _ qm
        rcases heH with ⟨e0, rfl⟩ | ⟨k, hk, rfl, hkK⟩
        · subst e0
          have gR : ∀ G r, r < H.length → (H ++ G)[r]? = H[r]? := fun G r hr => List.getElem?_append_left (by omega)
          have hH2 := (List.getElem?_eq_some_iff.1 k2).1
          have g2 : ∀ G, (H ++ G)[2]? = some (cooO (.agg [sh, .imm true none 0 []])) := fun G => by rw [gR _ _ (by omega)]; exact k2
          have o1 := hrH.one
          repeat first | refine AWp.seq ?_ | refine AWp.block ?_
          refine AWp.ops ?_
          simp [k2, qm, g2, f2, fm, q9, q8, gL0, ← hm2', hone, hcell, o1]
          repeat first | refine AWp.seq ?_ | refine AWp.block ?_
          refine AWp.ops ?_
          simp [hwi]
          refine ⟨i + 1, _, _, Weak.slots [2, 4, 5, 7, 9, 53, 54, 55], ?_, by omega⟩
          rw [hJ]
          refine ⟨by omega, (H ++ [ensO [.agg [cc, I v]], ensO [.agg [cc, I v]]]).set 2 (cooO (.agg [sh, .slc (m2 + 1) 1 0 1 none])), _, _, _, ⟨by rw [gs_ne (by omega), gR _ _ (by omega)]; exact k0, by rw [gs_ne (by omega), gR _ _ (by omega)]; exact k1, gs_eq (g2 _), (hrH.app _).set (g2 _) (by simp) _, .inr ⟨m2 + 1, by omega, rfl, ?_⟩, hsn.to (Nat.le_refl _) fun k c hk h => ?_⟩, rfl, by simp⟩
          · rw [gs_ne (by omega), List.getElem?_append_right (by omega), show m2 + 1 - H.length = 1 by omega]; rfl
          · rw [gs_ne (by omega), gR _ _ (List.getElem?_eq_some_iff.1 h).1]; exact h
        · have g2 : ∀ x, (H.set k x)[2]? = some (cooO (.agg [sh, .slc k fs.length 0 fs.length none])) := fun x => by rw [gs_ne (by omega)]; exact k2
          have o1 := hrH.one
          have fk : ∀ G, (H ++ G)[k]? = some (ensO fs) := fun G => gR0 _ _ _ hkK
          have g3 : ∀ G x, ((H ++ G).set k x)[2]? = some (cooO (.agg [sh, .slc k fs.length 0 fs.length none])) := fun G x => by rw [gs_ne (by omega)]; exact f2 _
          repeat first | refine AWp.seq ?_ | refine AWp.block ?_
          refine AWp.ops ?_
          simp [k2, qm, g2, g3, f2, fm, fk, q9, q8, gL0, ← hm2', hone, hcell, o1, hkK, w5, w6, hone3]
          repeat first | refine AWp.seq ?_ | refine AWp.block ?_
          refine AWp.ops ?_
          simp [hwi]
          refine ⟨i + 1, _, _, Weak.slots [2, 4, 5, 7, 9, 53, 54, 55], ?_, by omega⟩
          rw [hJ]
          refine ⟨by omega, ((H ++ [ensO [.agg [cc, I v]]]).set k (ensO (fs ++ [.agg [cc, I v]]))).set 2 (cooO (.agg [sh, .slc k (fs.length + 1) 0 (fs.length + 1) none])), _, _, _, ⟨by rw [gs_ne (by omega), gs_ne (by omega)]; exact gR0 _ _ _ k0, by rw [gs_ne (by omega), gs_ne (by omega)]; exact gR0 _ _ _ k1, gs_eq (g3 _ _), ((hrH.app _).set (fk _) (by simp) _).set (g3 _ _) (by simp) _, .inr ⟨k, by omega, ?_, ?_⟩, hsn.to (Nat.le_refl _) fun k9 c hk9 h => ?_⟩, rfl, by simp⟩
          · simp
          · rw [gs_ne (by omega), gs_eq (fk _)]
          · have : k ≠ k9 := by
              rintro rfl
              rw [hkK] at h
              simp at h
            rw [gs_ne (by omega), gs_ne this]; exact gR0 _ _ _ h
    ·
      intro hb
      have hb : ¬ i < es.length := by simpa using hb
      refine AWp.exit ?_
      simp [qSeq, qBlock]
      obtain ⟨k0, k1, k2, hr, he', hE'⟩ := hinv
      rw [List.take_of_length_le (by omega)] at hE'
      have o1 := hr.one
      have o2 := he'.one
      have g1 : ∀ x, (H.set 1 x)[1]? = some x := fun x => gs_eq k1
      repeat first | refine AWp.seq ?_ | refine AWp.block ?_
      refine AWp.ops ?_
      simp [k2, k1, o1, o2]
      refine AWp.ret ?_
      simp
      refine retOk.of (vs := [.agg [sh, e], I 0]) (by simp [g1]) ?_
      have hfl := hE'.1
      refine ⟨.agg [sh, e], by simp, sh, e, rfl, ((hr.set k1 (by simp) _).mono (by omega)).toC, ?_⟩
      rcases he' with ⟨e1, e2⟩ | ⟨k, e1, e2, e3⟩
      · subst e1
        exact .inl ⟨List.length_eq_zero_iff.1 (by simpa using hfl.symm), e2⟩
      · have e4 : (H.set 1 (cooO (.agg [sh, e])))[k]? = some (ensO fs) := by rw [gs_ne (by omega)]; exact e3
        refine .inr ⟨k, fs, by omega, by rw [e2, hfl], by rw [hfl]; exact Nat.le_refl _, e4, ?_⟩
        rw [← hfl, List.take_length]
        refine hE'.to (by omega) fun k c hk h => ?_
        rw [gs_ne (by omega)]; exact h
end Go.Fw
