import Derived.Test.YtgdkdojjfijipaaFwcoo11
namespace Go.Fw
open Go Go.RowKit Go.Proofs
set_option maxRecDepth 100000
set_option linter.unusedSimpArgs false
set_option linter.unusedVariables false

def CooRises_37 : AC := (.seq (.ops [⟨(some 148), none, (.k (.mov (.t 5)))⟩, ⟨(some 149), none, (.k (.mov (.t 148)))⟩, ⟨(some 150), (some (149, true)), (.k (.mov (.t 17)))⟩, ⟨(some 151), (some (149, true)), (.k (.bin .eql (.t 150) (.c (.sc (.int .i64 0)))))⟩, ⟨(some 152), none, (.k (.pick (.t 149) (.t 151) (.c (.sc (.bool false)))))⟩, ⟨(some 153), none, (.k (.mov (.t 152)))⟩, ⟨(some 154), (some (153, true)), (.k (.mov (.t 19)))⟩, ⟨(some 155), (some (153, true)), (.k (.bin .eql (.t 154) (.c (.sc (.int .i64 0)))))⟩, ⟨(some 156), none, (.k (.pick (.t 153) (.t 155) (.c (.sc (.bool false)))))⟩, ⟨(some 157), none, (.k (.mov (.t 156)))⟩, ⟨(some 158), (some (157, true)), (.k (.ld 2 true (.t 16)))⟩, ⟨(some 159), (some (157, true)), (.k (.ld 2 true (.t 6)))⟩, ⟨(some 160), (some (157, true)), (.call false (.c (.fn (.func 19) [] [])) [(.t 158), (.t 159)])⟩, ⟨(some 161), none, (.k (.pick (.t 157) (.t 160) (.c (.sc (.bool false)))))⟩, ⟨(some 162), none, (.k (.mov (.t 161)))⟩, ⟨(some 163), (some (162, true)), (.k (.ld 2 true (.t 18)))⟩, ⟨(some 164), (some (162, true)), (.k (.ld 2 true (.t 8)))⟩, ⟨(some 165), (some (162, true)), (.call false (.c (.fn (.func 19) [] [])) [(.t 163), (.t 164)])⟩, ⟨(some 166), none, (.k (.pick (.t 162) (.t 165) (.c (.sc (.bool false)))))⟩, ⟨(some 4), none, (.k (.mov (.t 166)))⟩]) .ret)
def CooRises_36 : AC := (.seq (.ops [⟨(some 143), none, (.k (.ld 2 true (.t 8)))⟩, ⟨(some 144), none, (.k (.mov (.t 1)))⟩, ⟨(some 145), none, (.call false (.c (.fn (.func 16) [] [])) [(.t 143), (.t 144)])⟩, ⟨(some 142), none, (.k (.mov (.t 145)))⟩, ⟨(some 146), none, (.k (.ext (.t 142) 0))⟩, ⟨(some 147), none, (.k (.ext (.t 142) 1))⟩, ⟨(some 18), none, (.k (.new 25 2 (.c (.agg [(.imm true none 0 []), (.imm true none 0 [])]))))⟩, ⟨none, none, (.k (.st 2 (.t 18) (.t 146)))⟩, ⟨(some 19), none, (.k (.mov (.t 147)))⟩]) CooRises_37)
def CooRises_35 : AC := (.seq (.ops [⟨(some 137), none, (.k (.ld 2 true (.t 6)))⟩, ⟨(some 138), none, (.k (.mov (.t 1)))⟩, ⟨(some 139), none, (.call false (.c (.fn (.func 15) [] [])) [(.t 137), (.t 138)])⟩, ⟨(some 136), none, (.k (.mov (.t 139)))⟩, ⟨(some 140), none, (.k (.ext (.t 136) 0))⟩, ⟨(some 141), none, (.k (.ext (.t 136) 1))⟩, ⟨(some 16), none, (.k (.new 25 2 (.c (.agg [(.imm true none 0 []), (.imm true none 0 [])]))))⟩, ⟨none, none, (.k (.st 2 (.t 16) (.t 140)))⟩, ⟨(some 17), none, (.k (.mov (.t 141)))⟩]) CooRises_36)
def CooRises_34 : AC := (.seq (.ops [⟨(some 110), none, (.k (.fad 0 (.t 15)))⟩, ⟨(some 111), none, (.k (.ld 1 false (.t 110)))⟩, ⟨(some 112), none, (.k (.len (.t 111)))⟩, ⟨(some 113), none, (.k (.fad 0 (.t 2)))⟩, ⟨(some 114), none, (.k (.ld 1 false (.t 113)))⟩, ⟨(some 115), none, (.k (.len (.t 114)))⟩, ⟨(some 116), none, (.k (.bin .neq (.t 112) (.t 115)))⟩, ⟨(some 117), none, (.k (.mov (.t 116)))⟩, ⟨(some 118), (some (117, false)), (.k (.mov (.t 14)))⟩, ⟨(some 119), (some (117, false)), (.k (.bin .gtr (.t 118) (.c (.sc (.int .i64 0)))))⟩, ⟨(some 120), (some (117, false)), (.k (.mov (.t 119)))⟩, ⟨(some 121), (some (120, true)), (.k (.fad 1 (.t 8)))⟩, ⟨(some 122), (some (120, true)), (.k (.ld 1 false (.t 121)))⟩, ⟨(some 123), (some (120, true)), (.k (.mov (.t 14)))⟩, ⟨(some 124), (some (120, true)), (.k (.bin .sub (.t 123) (.c (.sc (.int .i64 1)))))⟩, ⟨(some 125), (some (120, true)), (.k (.iad 2 (.t 122) (.t 124)))⟩, ⟨(some 126), (some (120, true)), (.k (.fad 0 (.t 125)))⟩, ⟨(some 127), (some (120, true)), (.k (.ld 1 false (.t 126)))⟩, ⟨(some 128), (some (120, true)), (.k (.fad 0 (.t 15)))⟩, ⟨(some 129), (some (120, true)), (.k (.ld 1 false (.t 128)))⟩, ⟨(some 130), (some (120, true)), (.k (.mov (.t 10)))⟩, ⟨(some 131), (some (120, true)), (.call true (.c (.fn (.func 18) [] [])) [(.t 127), (.t 129), (.t 130)])⟩, ⟨(some 132), (some (120, true)), (.k (.un .not (.t 131)))⟩, ⟨(some 133), (some (117, false)), (.k (.pick (.t 120) (.t 132) (.c (.sc (.bool false)))))⟩, ⟨(some 134), none, (.k (.pick (.t 117) (.c (.sc (.bool true))) (.t 133)))⟩]) (.cond (.t 134) (.seq (.ops [⟨(some 4), none, (.k (.mov (.c (.sc (.bool false)))))⟩]) .ret) .skip))
def CooRises_33 : AC := (.seq (.ops [⟨(some 107), none, (.k (.mov (.t 105)))⟩, ⟨(some 108), none, (.k (.iad 2 (.t 103) (.t 105)))⟩, ⟨(some 109), none, (.k (.ld 2 true (.t 108)))⟩, ⟨(some 15), none, (.k (.new 38 2 (.c (.agg [(.imm true none 0 []), (.sc (.int .i64 0))]))))⟩, ⟨(some 14), none, (.k (.mov (.t 107)))⟩, ⟨none, none, (.k (.st 2 (.t 15) (.t 109)))⟩]) CooRises_34)
def CooRises_32 : AC := (.block 3 CooRises_33)
def CooRises_31 : AC := (.seq CooRises_32 (.ops [⟨(some 135), none, (.k (.bin .add (.t 105) (.c (.sc (.int .i64 1)))))⟩, ⟨(some 105), none, (.k (.mov (.t 135)))⟩]))
def CooRises_30 : AC := (.seq (.cond (.t 106) .skip (.exit 2)) CooRises_31)
def CooRises_29 : AC := (.seq (.ops [⟨(some 106), none, (.k (.bin .lss (.t 105) (.t 104)))⟩]) CooRises_30)
def CooRises_28 : AC := (.loop CooRises_29)
def CooRises_27 : AC := (.block 2 CooRises_28)
def CooRises_26 : AC := (.seq (.ops [⟨(some 102), none, (.k (.fad 1 (.t 8)))⟩, ⟨(some 103), none, (.k (.ld 1 false (.t 102)))⟩, ⟨(some 104), none, (.k (.len (.t 103)))⟩, ⟨(some 105), none, (.k (.mov (.c (.sc (.int .i64 0)))))⟩]) CooRises_27)
def CooRises_25 : AC := (.seq CooRises_26 CooRises_35)
def CooRises_24 : AC := (.seq (.ops [⟨(some 77), none, (.k (.fad 0 (.t 13)))⟩, ⟨(some 78), none, (.k (.ld 1 false (.t 77)))⟩, ⟨(some 79), none, (.k (.len (.t 78)))⟩, ⟨(some 80), none, (.k (.fad 0 (.t 2)))⟩, ⟨(some 81), none, (.k (.ld 1 false (.t 80)))⟩, ⟨(some 82), none, (.k (.len (.t 81)))⟩, ⟨(some 83), none, (.k (.bin .neq (.t 79) (.t 82)))⟩, ⟨(some 84), none, (.k (.mov (.t 83)))⟩, ⟨(some 85), (some (84, false)), (.k (.mov (.t 12)))⟩, ⟨(some 86), (some (84, false)), (.k (.bin .gtr (.t 85) (.c (.sc (.int .i64 0)))))⟩, ⟨(some 87), (some (84, false)), (.k (.mov (.t 86)))⟩, ⟨(some 88), (some (87, true)), (.k (.fad 0 (.t 13)))⟩, ⟨(some 89), (some (87, true)), (.k (.ld 1 false (.t 88)))⟩, ⟨(some 90), (some (87, true)), (.k (.fad 1 (.t 6)))⟩, ⟨(some 91), (some (87, true)), (.k (.ld 1 false (.t 90)))⟩, ⟨(some 92), (some (87, true)), (.k (.mov (.t 12)))⟩, ⟨(some 93), (some (87, true)), (.k (.bin .sub (.t 92) (.c (.sc (.int .i64 1)))))⟩, ⟨(some 94), (some (87, true)), (.k (.iad 2 (.t 91) (.t 93)))⟩, ⟨(some 95), (some (87, true)), (.k (.fad 0 (.t 94)))⟩, ⟨(some 96), (some (87, true)), (.k (.ld 1 false (.t 95)))⟩, ⟨(some 97), (some (87, true)), (.k (.mov (.t 10)))⟩, ⟨(some 98), (some (87, true)), (.call true (.c (.fn (.func 18) [] [])) [(.t 89), (.t 96), (.t 97)])⟩, ⟨(some 99), (some (84, false)), (.k (.pick (.t 87) (.t 98) (.c (.sc (.bool false)))))⟩, ⟨(some 100), none, (.k (.pick (.t 84) (.c (.sc (.bool true))) (.t 99)))⟩]) (.cond (.t 100) (.seq (.ops [⟨(some 4), none, (.k (.mov (.c (.sc (.bool false)))))⟩]) .ret) .skip))
def CooRises_23 : AC := (.seq (.ops [⟨(some 74), none, (.k (.mov (.t 72)))⟩, ⟨(some 75), none, (.k (.iad 2 (.t 70) (.t 72)))⟩, ⟨(some 76), none, (.k (.ld 2 true (.t 75)))⟩, ⟨(some 13), none, (.k (.new 38 2 (.c (.agg [(.imm true none 0 []), (.sc (.int .i64 0))]))))⟩, ⟨(some 12), none, (.k (.mov (.t 74)))⟩, ⟨none, none, (.k (.st 2 (.t 13) (.t 76)))⟩]) CooRises_24)
def CooRises_22 : AC := (.block 1 CooRises_23)
def CooRises_21 : AC := (.seq CooRises_22 (.ops [⟨(some 101), none, (.k (.bin .add (.t 72) (.c (.sc (.int .i64 1)))))⟩, ⟨(some 72), none, (.k (.mov (.t 101)))⟩]))
def CooRises_20 : AC := (.seq (.cond (.t 73) .skip (.exit 0)) CooRises_21)
def CooRises_19 : AC := (.seq (.ops [⟨(some 73), none, (.k (.bin .lss (.t 72) (.t 71)))⟩]) CooRises_20)
def CooRises_18 : AC := (.loop CooRises_19)
def CooRises_17 : AC := (.block 0 CooRises_18)
def CooRises_16 : AC := (.seq (.ops [⟨(some 69), none, (.k (.fad 1 (.t 6)))⟩, ⟨(some 70), none, (.k (.ld 1 false (.t 69)))⟩, ⟨(some 71), none, (.k (.len (.t 70)))⟩, ⟨(some 72), none, (.k (.mov (.c (.sc (.int .i64 0)))))⟩]) CooRises_17)
def CooRises_15 : AC := (.seq CooRises_16 CooRises_25)
def CooRises_14 : AC := (.seq (.ops [⟨(some 67), none, (.k (.mov (.t 11)))⟩, ⟨(some 68), none, (.k (.un .not (.t 67)))⟩]) (.cond (.t 68) (.seq (.ops [⟨(some 4), none, (.k (.mov (.c (.sc (.bool false)))))⟩]) .ret) .skip))
def CooRises_13 : AC := (.seq CooRises_14 CooRises_15)
def CooRises_12 : AC := (.seq (.ops [⟨(some 60), none, (.k (.fad 0 (.t 2)))⟩, ⟨(some 61), none, (.k (.ld 1 false (.t 60)))⟩, ⟨(some 62), none, (.k (.len (.t 61)))⟩, ⟨(some 63), none, (.k (.mov (.t 1)))⟩, ⟨(some 64), none, (.call false (.c (.fn (.func 17) [] [])) [(.t 62), (.t 63)])⟩, ⟨(some 59), none, (.k (.mov (.t 64)))⟩, ⟨(some 65), none, (.k (.ext (.t 59) 0))⟩, ⟨(some 66), none, (.k (.ext (.t 59) 1))⟩, ⟨(some 10), none, (.k (.mov (.t 65)))⟩, ⟨(some 11), none, (.k (.mov (.t 66)))⟩]) CooRises_13)
def CooRises_11 : AC := (.seq (.ops [⟨(some 48), none, (.k (.mov (.t 5)))⟩, ⟨(some 49), none, (.k (.mov (.t 48)))⟩, ⟨(some 50), (some (49, true)), (.k (.fad 1 (.t 6)))⟩, ⟨(some 51), (some (49, true)), (.k (.ld 1 false (.t 50)))⟩, ⟨(some 52), (some (49, true)), (.k (.len (.t 51)))⟩, ⟨(some 53), (some (49, true)), (.k (.fad 1 (.t 8)))⟩, ⟨(some 54), (some (49, true)), (.k (.ld 1 false (.t 53)))⟩, ⟨(some 55), (some (49, true)), (.k (.len (.t 54)))⟩, ⟨(some 56), (some (49, true)), (.k (.bin .add (.t 52) (.t 55)))⟩, ⟨(some 57), (some (49, true)), (.k (.bin .eql (.t 56) (.c (.sc (.int .i64 0)))))⟩, ⟨(some 58), none, (.k (.pick (.t 49) (.t 57) (.c (.sc (.bool false)))))⟩, ⟨(some 4), none, (.k (.mov (.t 58)))⟩]) .ret)
def CooRises_10 : AC := (.cond (.t 47) CooRises_11 .skip)
def CooRises_9 : AC := (.seq (.ops [⟨(some 46), none, (.k (.mov (.t 7)))⟩, ⟨(some 47), none, (.k (.bin .neq (.t 46) (.c (.sc (.int .i64 0)))))⟩]) CooRises_10)
def CooRises_8 : AC := (.seq CooRises_9 CooRises_12)
def CooRises_7 : AC := (.seq (.ops [⟨(some 43), none, (.k (.mov (.t 7)))⟩, ⟨(some 44), none, (.k (.mov (.t 9)))⟩, ⟨(some 45), none, (.k (.bin .neq (.t 43) (.t 44)))⟩]) (.cond (.t 45) (.seq (.ops [⟨(some 4), none, (.k (.mov (.c (.sc (.bool false)))))⟩]) .ret) .skip))
def CooRises_6 : AC := (.seq CooRises_7 CooRises_8)
def CooRises_5 : AC := (.seq (.ops [⟨(some 38), none, (.k (.ld 2 true (.t 2)))⟩, ⟨(some 39), none, (.k (.mov (.t 1)))⟩, ⟨(some 40), none, (.call false (.c (.fn (.func 16) [] [])) [(.t 38), (.t 39)])⟩, ⟨(some 37), none, (.k (.mov (.t 40)))⟩, ⟨(some 41), none, (.k (.ext (.t 37) 0))⟩, ⟨(some 42), none, (.k (.ext (.t 37) 1))⟩, ⟨(some 8), none, (.k (.new 25 2 (.c (.agg [(.imm true none 0 []), (.imm true none 0 [])]))))⟩, ⟨none, none, (.k (.st 2 (.t 8) (.t 41)))⟩, ⟨(some 9), none, (.k (.mov (.t 42)))⟩]) CooRises_6)
def CooRises_4 : AC := (.seq (.ops [⟨(some 32), none, (.k (.ld 2 true (.t 2)))⟩, ⟨(some 33), none, (.k (.mov (.t 1)))⟩, ⟨(some 34), none, (.call false (.c (.fn (.func 15) [] [])) [(.t 32), (.t 33)])⟩, ⟨(some 31), none, (.k (.mov (.t 34)))⟩, ⟨(some 35), none, (.k (.ext (.t 31) 0))⟩, ⟨(some 36), none, (.k (.ext (.t 31) 1))⟩, ⟨(some 6), none, (.k (.new 25 2 (.c (.agg [(.imm true none 0 []), (.imm true none 0 [])]))))⟩, ⟨none, none, (.k (.st 2 (.t 6) (.t 35)))⟩, ⟨(some 7), none, (.k (.mov (.t 36)))⟩]) CooRises_5)
def CooRises_3 : AC := (.seq (.ops [⟨(some 21), none, (.k (.ld 2 true (.t 2)))⟩, ⟨(some 22), none, (.k (.lit 2 [(.t 21)]))⟩, ⟨(some 23), none, (.call false (.c (.fn (.func 12) [] [])) [(.t 22)])⟩, ⟨(some 24), none, (.k (.un .not (.t 23)))⟩, ⟨(some 25), none, (.k (.mov (.t 24)))⟩, ⟨(some 26), (some (25, false)), (.k (.mov (.t 1)))⟩, ⟨(some 27), (some (25, false)), (.k (.len (.t 26)))⟩, ⟨(some 28), (some (25, false)), (.k (.bin .gtr (.t 27) (.c (.sc (.int .i64 20)))))⟩, ⟨(some 29), none, (.k (.pick (.t 25) (.c (.sc (.bool true))) (.t 28)))⟩]) (.cond (.t 29) (.seq (.ops [⟨(some 30), none, (.k (.mov (.t 5)))⟩, ⟨(some 4), none, (.k (.mov (.t 30)))⟩]) .ret) .skip))
def CooRises_2 : AC := (.seq CooRises_3 CooRises_4)
def CooRises_1 : AC := (.seq (.ops [⟨(some 20), none, (.call false (.c (.fn (.func 11) [] [])) [])⟩, ⟨(some 5), none, (.k (.mov (.t 20)))⟩]) CooRises_2)
def CooRises_ac : AC := (.seq (.ops [⟨(some 2), none, (.k (.new 25 2 (.t 0)))⟩, ⟨(some 4), none, (.k (.mov (.c (.sc (.bool false)))))⟩]) CooRises_1)
theorem CooRises_call {args : List AV} {H : List AObj} {R : AV → List AObj → Prop} (h : AWp Try.prog [] H.length CooRises_ac (bodyQ H.length [(.t 4)] R) (args ++ List.replicate (167 - args.length) .und) H) : ACalls Try.prog 4 args H R :=
  ACalls.of_fn Try.func4 rfl (by kernel_rfl) rfl Try.ntmps4 h

set_option maxHeartbeats 8000000 in
theorem CooRises_spec {x a : AV} {X : List Int × List (List Int × Int)} {A : List Int} (hx : Coo x X) (hX : InX X) (hXl : X.2.length ≤ 9223372036854775807) (ha : ISl a A) : ACalls Try.prog 4 [x, a] [] fun r H' => H' = [] ∧ r = Bo true := by
  have hx' := hx
  have ha' := ha
  obtain ⟨s, e, rfl, ⟨⟨n1, c1, z1, rfl, hs1⟩, hl1, hx1⟩, ⟨n2, c2, z2, es, rfl, h21, h22, h23⟩⟩ := hx
  obtain ⟨⟨n3, c3, z3, rfl, hs3⟩, hl3, hx3⟩ := ha
  have base : ACalls Try.prog 4 [.agg [.imm n1 c1 z1 (X.1.map I), .imm n2 c2 z2 es], .imm n3 c3 z3 (A.map I)] [] fun r H' => r = Bo true := by
    apply CooRises_call
    repeat first | refine AWp.seq ?_ | refine AWp.block ?_
    refine AWp.ops ?_
    simp
    repeat first | refine AWp.seq ?_ | refine AWp.block ?_
    refine AWp.ops ?_
    simp
    refine (live02_spec.pure (by simp) (by rintro r rfl; simp) _).mono ?_
    rintro r H' ⟨rfl, rfl⟩
    simp
    repeat first | refine AWp.seq ?_ | refine AWp.block ?_
    refine AWp.ops ?_
    simp
    have hf := few2_spec (nl := false) (c := some 1) (sz := 2) (zs := [(.agg [.imm n1 c1 z1 (X.1.map I), .imm n2 c2 z2 es], X)]) (by simp; exact ⟨hx', hXl⟩) (by simp) (by simp) (by simp)
    simp only [List.map_cons, List.map_nil] at hf
    refine (hf.pure (by simp) (by rintro r rfl; simp) _).mono ?_
    rintro r H' ⟨rfl, rfl⟩
    simp only [List.all_cons, List.all_nil, Bool.and_true]
    cases hfew : fewX X with
    | false =>
      simp
      refine AWp.cond (b := true) (by simp) (fun _ => ?_) (fun h => by cases h)
      repeat first | refine AWp.seq ?_ | refine AWp.block ?_
      refine AWp.ops ?_
      simp
      refine AWp.ret ?_
      simp
      refine retOk.of rfl ?_
      simp
    | true =>
    simp only [fewX, Bool.and_eq_true, decide_eq_true_eq, List.all_eq_true] at hfew
    obtain ⟨hf1, hf2⟩ := hfew
    by_cases hA : 20 < A.length
    · have g : (20 : Int) < A.length := by omega
      simp [g]
      refine AWp.cond (b := true) (by simp [g]) (fun _ => ?_) (fun h => by cases h)
      repeat first | refine AWp.seq ?_ | refine AWp.block ?_
      refine AWp.ops ?_
      simp
      refine AWp.ret ?_
      simp
      refine retOk.of rfl ?_
      simp
    have gA : ¬ (20 : Int) < A.length := by omega
    simp [gA]
    refine AWp.cond (b := false) (by simp [gA]) (fun h => by cases h) (fun _ => ?_)
    refine AWp.skip ?_
    simp only [qSeq]
    repeat first | refine AWp.seq ?_ | refine AWp.block ?_
    refine AWp.ops ?_
    simp
    have sA := coo_pure (cSort_spec hx' ha' (by omega) hX) (sortF_in hX)
    have jA := coo_pure (cJoin_spec hx' ha' (by omega) hX (by omega)) (joinF_in hX)
    have lS := sortF_len X A
    have lJ := joinF_len X A
    have hj2 : (joinF X A).2 = (sortF X A).2 := rfl
    refine (sA.pure (by simp) (by rintro r ⟨y, rfl, hy⟩; simp [hy.noRef]) _).mono ?_
    rintro r H' ⟨rfl, y, rfl, hy⟩
    have hy' := hy
    obtain ⟨s5, e5, rfl, ⟨⟨n5, c5, z5, rfl, hs5⟩, hl5, hx5⟩, ⟨n6, c6, z6, es6, rfl, h61, h62, h63⟩⟩ := hy
    simp
    repeat first | refine AWp.seq ?_ | refine AWp.block ?_
    refine AWp.ops ?_
    simp
    refine (jA.pure (by simp) (by rintro r ⟨y, rfl, hy⟩; simp [hy.noRef]) _).mono ?_
    rintro r H' ⟨rfl, w, rfl, hw⟩
    have hw' := hw
    obtain ⟨s7, e7, rfl, ⟨⟨n7, c7, z7, rfl, hs7⟩, hl7, hx7⟩, ⟨n8, c8, z8, es8, rfl, h81, h82, h83⟩⟩ := hw
    simp
    rw [hj2]
    repeat first | refine AWp.seq ?_ | refine AWp.block ?_
    refine AWp.ops ?_
    simp
    refine AWp.cond (b := false) (by simp) (fun h => by cases h) (fun _ => ?_)
    refine AWp.skip ?_
    simp only [qSeq]
    repeat first | refine AWp.seq ?_ | refine AWp.block ?_
    refine AWp.ops ?_
    simp
    by_cases h0 : (orderF X A).2 = 0
    case neg =>
      have hs0 : sortF X A = (([], []), (orderF X A).2) := by rw [sortF, if_pos h0]
      have hj0 : joinF X A = (([], []), (orderF X A).2) := by rw [joinF, hs0]; rfl
      have e6 : es6 = [] := by have := h63.1; rw [hs0] at this; exact List.length_eq_zero_iff.1 (by simpa using this)
      have e8 : es8 = [] := by have := h83.1; rw [hj0] at this; exact List.length_eq_zero_iff.1 (by simpa using this)
      have hse : (sortF X A).2 = (orderF X A).2 := by rw [hs0]
      refine AWp.cond (b := true) (by simp [hse, h0]) (fun _ => ?_) (fun h => by cases h)
      subst e6 e8
      repeat first | refine AWp.seq ?_ | refine AWp.block ?_
      refine AWp.ops ?_
      simp [show IntKind.i64.wrap 0 = 0 from by decide]
      refine AWp.ret ?_
      simp
      refine retOk.of rfl ?_
      simp
    have hsk := sortF_ok h0
    obtain ⟨hck, hperm⟩ := orderF_ok h0
    obtain ⟨hr1, hr2, -⟩ := rOrd_eq (O := A) hck
    rw [h0] at hr1
    have hr1 : (rOrd X.1.length A).2 = true := by simpa using hr1
    have hr2 := hr2 h0
    obtain ⟨hS4, -⟩ := cooCheck_len hck
    have hse : (sortF X A).2 = 0 := by rw [hsk]
    refine AWp.cond (b := false) (by simp [hse]) (fun h => by cases h) (fun _ => ?_)
    refine AWp.skip ?_
    simp only [qSeq]
    repeat first | refine AWp.seq ?_ | refine AWp.block ?_
    refine AWp.ops ?_
    simp
    refine ((rOrder_spec (n := X.1.length) ha' (by omega) (by omega)).pure (by simp) (by rintro r ⟨y, rfl, ⟨⟨_, _, _, rfl, _⟩, _⟩⟩; simp) _).mono ?_
    rintro r H' ⟨rfl, q, rfl, hq⟩
    rw [hr2] at hq
    have hrng := orderF_rng h0
    have hQl : (orderF X A).1.length ≤ 4 := by have := hperm.length_eq; simp at this; omega
    obtain ⟨sag, sck⟩ := sortF_again h0
    obtain ⟨jag, jok⟩ := joinF_again h0
    have jck := joinF_check jok
    have hlt := (joined_sort (tells_of h0)).1
    obtain ⟨a1, a2, a3, a4⟩ := joinF_ok jok
    have hle := List.pairwise_mergeSort (leO_trans (orderF X A).1) (leO_total (orderF X A).1) X.2
    rw [hsk] at h61 h63
    rw [a2] at h81 h83
    simp only at h61 h63 h81 h83
    obtain ⟨Q, hQ⟩ : ∃ Q, Q = (orderF X A).1 := ⟨_, rfl⟩
    obtain ⟨W, hW⟩ : ∃ W, W = X.2.mergeSort (leO Q) := ⟨_, rfl⟩
    obtain ⟨V, hV⟩ : ∃ V, V = joinL W := ⟨_, rfl⟩
    have hcp := cells_places hck
    have hWp : ∀ t ∈ W, t.1.length = X.1.length ∧ InI t.1 := fun t ht => by
      rw [hW] at ht
      have := List.mem_mergeSort.1 ht
      exact ⟨hcp t this, hX.2 t this⟩
    have hVp : ∀ t ∈ V, t.1.length = X.1.length ∧ InI t.1 := fun t ht => by
      rw [hV] at ht
      obtain ⟨u, hu, e⟩ := joinL_mem ht
      rw [e]; exact hWp u hu
    rw [← hQ] at hq hrng hQl hlt hle h61 h63 h81 h83
    rw [← hW] at hlt hle h61 h63 h81 h83
    rw [← hV] at hlt h81 h83
    have hq' := hq
    obtain ⟨⟨n9, c9, z9, rfl, hs9⟩, hl9, hx9⟩ := hq
    have l6 := h63.1
    have l8 := h83.1
    have lW : W.length = X.2.length := by rw [hW, List.length_mergeSort]
    have lV : V.length ≤ X.2.length := by rw [hV, ← lW]; exact joinL_le W
    simp [hr1]
    repeat first | refine AWp.seq ?_ | refine AWp.block ?_
    refine AWp.ops ?_
    simp
    refine AWp.cond (b := false) (by simp) (fun h => by cases h) (fun _ => ?_)
    refine AWp.skip ?_
    simp only [qSeq]
    repeat first | refine AWp.seq ?_ | refine AWp.block ?_
    refine AWp.ops ?_
    simp
    obtain ⟨J, hJ⟩ : ∃ J : Nat → List AV → List AObj → Prop, J = fun i fr H => i ≤ es6.length ∧ (True) ∧ H = [cooO (.agg [.imm n1 c1 z1 (X.1.map I), .imm n2 c2 z2 es]), cooO (.agg [.imm n5 c5 z5 ((sortF X A).1.1.map I), .imm n6 c6 z6 es6]), cooO (.agg [.imm n7 c7 z7 ((joinF X A).1.1.map I), .imm n8 c8 z8 es8])] ∧
      fr = [.und, .imm n3 c3 z3 (A.map I), .ptr 0 1 0 0, .und, .und, Bo true, .ptr 1 1 0 0, .und, .ptr 2 1 0 0, .und, .imm n9 c9 z9 (Q.map I), .und, .und, .und, .und, .und, .und, .und, .und, .und, .und, .und, .und, .und, .und, .und, .und, .und, .und, .und, .und, .und, .und, .und, .und, .und, .und, .und, .und, .und, .und, .und, .und, .und, .und, .und, .und, .und, .und, .und, .und, .und, .und, .und, .und, .und, .und, .und, .und, .und, .und, .und, .und, .und, .und, .und, .und, .und, .und, .und, .imm n6 c6 z6 es6, I es6.length, I i, .und, .und, .und, .und, .und, .und, .und, .und, .und, .und, .und, .und, .und, .und, .und, .und, .und, .und, .und, .und, .und, .und, .und, .und, .und, .und, .und, .und, .und, .und, .und, .und, .und, .und, .und, .und, .und, .und, .und, .und, .und, .und, .und, .und, .und, .und, .und, .und, .und, .und, .und, .und, .und, .und, .und, .und, .und, .und, .und, .und, .und, .und, .und, .und, .und, .und, .und, .und, .und, .und, .und, .und, .und, .und, .und, .und, .und, .und, .und, .und, .und, .und, .und, .und, .und, .und, .und, .und, .und, .und, .und, .und, .und, .und] := ⟨_, rfl⟩
    refine AWp.block (AWp.loop J (fun i => es6.length - i) 0 (Weak.slots [1, 2, 5, 6, 8, 10, 70, 71, 72]) (by rw [hJ]; exact ⟨by omega, trivial, by simp, by simp⟩) ?_)
    intro i fr H hI
    rw [hJ] at hI
    obtain ⟨hi, hinv, rfl, rfl⟩ := hI
    repeat first | refine AWp.seq ?_ | refine AWp.block ?_
    refine AWp.ops ?_
    simp
    refine AWp.seq (AWp.cond (b := decide (i < es6.length)) (by simp <;> omega) ?_ ?_)
    ·
      intro hb
      have hb : i < es6.length := by simpa using hb
      refine AWp.skip ?_
      simp only [qSeq]
      have hbW : i < W.length := by omega
      have hnl : n6 = false := by
        cases n6 with
        | false => rfl
        | true => have := h61 rfl; rw [this] at hbW; simp at hbW
      have hsz := h62 hnl
      subst hnl hsz
      obtain ⟨yi, hyi, hyi2⟩ := h63.get hbW
      obtain ⟨lwi, hwI⟩ := hWp W[i] (List.getElem_mem hbW)
      have hyi2' := hyi2
      have hwi := wrap_i64 (n := (i : Int) + 1) (by omega) (by omega)
      obtain ⟨⟨n11, c11, z11, rfl, hs11⟩, hl11, hx11⟩ := hyi2
      repeat first | refine AWp.seq ?_ | refine AWp.block ?_
      refine AWp.ops ?_
      simp [hyi]
      have nx : ∀ fr' : List AV, fr' = [.und, .imm n3 c3 z3 (A.map I), .ptr 0 1 0 0, .und, .und, Bo true, .ptr 1 1 0 0, .und, .ptr 2 1 0 0, .und, .imm n9 c9 z9 (Q.map I), .und, .und, .und, .und, .und, .und, .und, .und, .und, .und, .und, .und, .und, .und, .und, .und, .und, .und, .und, .und, .und, .und, .und, .und, .und, .und, .und, .und, .und, .und, .und, .und, .und, .und, .und, .und, .und, .und, .und, .und, .und, .und, .und, .und, .und, .und, .und, .und, .und, .und, .und, .und, .und, .und, .und, .und, .und, .und, .und, .imm false c6 2 es6, I es6.length, I ((i : Int) + 1), .und, .und, .und, .und, .und, .und, .und, .und, .und, .und, .und, .und, .und, .und, .und, .und, .und, .und, .und, .und, .und, .und, .und, .und, .und, .und, .und, .und, .und, .und, .und, .und, .und, .und, .und, .und, .und, .und, .und, .und, .und, .und, .und, .und, .und, .und, .und, .und, .und, .und, .und, .und, .und, .und, .und, .und, .und, .und, .und, .und, .und, .und, .und, .und, .und, .und, .und, .und, .und, .und, .und, .und, .und, .und, .und, .und, .und, .und, .und, .und, .und, .und, .und, .und, .und, .und, .und, .und, .und, .und, .und, .und, .und, .und] →
          ∃ s' fr'' H'', Weak 0 fr' [cooO (.agg [.imm n1 c1 z1 (X.1.map I), .imm n2 c2 z2 es]), cooO (.agg [.imm n5 c5 z5 ((sortF X A).1.1.map I), .imm false c6 2 es6]), cooO (.agg [.imm n7 c7 z7 ((joinF X A).1.1.map I), .imm n8 c8 z8 es8]), enO (.agg [.imm n11 c11 z11 (W[i].1.map I), I W[i].2])] fr'' H'' ∧ J s' fr'' H'' ∧ es6.length - s' < es6.length - i := by
        rintro fr' rfl
        refine ⟨i + 1, _, _, Weak.freeze 3 3 (by simp), ?_, by omega⟩
        rw [hJ]
        exact ⟨by omega, trivial, by simp [frzH], by simp⟩
      by_cases hi0 : i = 0
      · subst hi0
        repeat first | refine AWp.seq ?_ | refine AWp.block ?_
        refine AWp.ops ?_
        simp [lwi]
        refine AWp.cond (b := false) (by simp) (fun h => by cases h) (fun _ => ?_)
        refine AWp.skip ?_
        simp only [qSeq, qBlock]
        repeat first | refine AWp.seq ?_ | refine AWp.block ?_
        refine AWp.ops ?_
        simp [show IntKind.i64.wrap 1 = 1 from by decide]
        obtain ⟨s', fr'', H'', q1, q2, q3⟩ := nx _ rfl
        exact ⟨s', fr'', H'', ((Weak.slots [1, 2, 5, 6, 8, 10, 70, 71, 72]).to (by simp) (by simp)).trans q1, by simpa using q2, q3⟩
      · have hip : 0 < i := by omega
        have gi : (0 : Int) < i := by omega
        have w1 := wrap_i64 (n := (i : Int) - 1) (by omega) (by omega)
        have g2 : ((i : Int) - 1).toNat = i - 1 := by omega
        have g3 : (1 : Int) ≤ i := by omega
        have g4 : (i : Int) - 1 < es6.length := by omega
        obtain ⟨yp, hyp, hyp2⟩ := h63.get (i := i - 1) (by omega)
        obtain ⟨lwp, -⟩ := hWp (W[i - 1]'(by omega)) (List.getElem_mem _)
        have hcmp : ¬ cmpO Q W[i].1 (W[i - 1]'(by omega)).1 < 0 := by
          have := (List.pairwise_iff_getElem.1 hle) (i - 1) i (by omega) hbW (by omega)
          simp only [leO, decide_eq_true_eq] at this
          have h2 := cmpO_neg Q W[i].1 (W[i - 1]'(by omega)).1
          omega
        have hah := rAhead_spec hyi2' hyp2 hq' (by omega) (fun m hm => by have := hrng m hm; omega)
        obtain ⟨⟨n12, c12, z12, rfl, hs12⟩, hl12, hx12⟩ := hyp2
        obtain ⟨_, hyp'⟩ := List.getElem?_eq_some_iff.1 hyp
        repeat first | refine AWp.seq ?_ | refine AWp.block ?_
        refine AWp.ops ?_
        simp [lwi, gi, w1, g2, g3, g4, hyp, hyp', hip]
        refine (hah.pure (by simp) (by rintro r rfl; simp) _).mono ?_
        rintro r H' ⟨rfl, rfl⟩
        simp [hcmp, lwi, gi, hip]
        refine AWp.cond (b := false) (by simp) (fun h => by cases h) (fun _ => ?_)
        refine AWp.skip ?_
        simp only [qSeq, qBlock]
        repeat first | refine AWp.seq ?_ | refine AWp.block ?_
        refine AWp.ops ?_
        simp [hwi]
        obtain ⟨s', fr'', H'', q1, q2, q3⟩ := nx _ rfl
        exact ⟨s', fr'', H'', ((Weak.slots [1, 2, 5, 6, 8, 10, 70, 71, 72]).to (by simp) (by simp)).trans q1, q2, q3⟩
    ·
      intro hb
      have hb : ¬ i < es6.length := by simpa using hb
      refine AWp.exit ?_
      simp [qSeq, qBlock]
      repeat first | refine AWp.seq ?_ | refine AWp.block ?_
      refine AWp.ops ?_
      simp
      obtain ⟨J2, hJ2⟩ : ∃ J : Nat → List AV → List AObj → Prop, J = fun i2 fr H => i2 ≤ es8.length ∧ (True) ∧ H = [cooO (.agg [.imm n1 c1 z1 (X.1.map I), .imm n2 c2 z2 es]), cooO (.agg [.imm n5 c5 z5 ((sortF X A).1.1.map I), .imm n6 c6 z6 es6]), cooO (.agg [.imm n7 c7 z7 ((joinF X A).1.1.map I), .imm n8 c8 z8 es8])] ∧
        fr = [.und, .imm n3 c3 z3 (A.map I), .ptr 0 1 0 0, .und, .und, Bo true, .ptr 1 1 0 0, .und, .ptr 2 1 0 0, .und, .imm n9 c9 z9 (Q.map I), .und, .und, .und, .und, .und, .und, .und, .und, .und, .und, .und, .und, .und, .und, .und, .und, .und, .und, .und, .und, .und, .und, .und, .und, .und, .und, .und, .und, .und, .und, .und, .und, .und, .und, .und, .und, .und, .und, .und, .und, .und, .und, .und, .und, .und, .und, .und, .und, .und, .und, .und, .und, .und, .und, .und, .und, .und, .und, .und, .und, .und, .und, .und, .und, .und, .und, .und, .und, .und, .und, .und, .und, .und, .und, .und, .und, .und, .und, .und, .und, .und, .und, .und, .und, .und, .und, .und, .und, .und, .und, .und, .und, .imm n8 c8 z8 es8, I es8.length, I i2, .und, .und, .und, .und, .und, .und, .und, .und, .und, .und, .und, .und, .und, .und, .und, .und, .und, .und, .und, .und, .und, .und, .und, .und, .und, .und, .und, .und, .und, .und, .und, .und, .und, .und, .und, .und, .und, .und, .und, .und, .und, .und, .und, .und, .und, .und, .und, .und, .und, .und, .und, .und, .und, .und, .und, .und, .und, .und, .und, .und, .und] := ⟨_, rfl⟩
      refine AWp.block (AWp.loop J2 (fun i2 => es8.length - i2) 0 (Weak.slots [1, 2, 5, 6, 8, 10, 103, 104, 105]) (by rw [hJ2]; exact ⟨by omega, trivial, by simp, by simp⟩) ?_)
      intro i2 fr H hI
      rw [hJ2] at hI
      obtain ⟨hi2, hinv2, rfl, rfl⟩ := hI
      repeat first | refine AWp.seq ?_ | refine AWp.block ?_
      refine AWp.ops ?_
      simp
      refine AWp.seq (AWp.cond (b := decide (i2 < es8.length)) (by simp <;> omega) ?_ ?_)
      · intro hb2
        have hb2 : i2 < es8.length := by simpa using hb2
        refine AWp.skip ?_
        simp only [qSeq]
        have hbW : i2 < V.length := by omega
        have hnl : n8 = false := by
          cases n8 with
          | false => rfl
          | true => have := h81 rfl; rw [this] at hbW; simp at hbW
        have hsz := h82 hnl
        subst hnl hsz
        obtain ⟨yi, hyi, hyi2⟩ := h83.get hbW
        obtain ⟨lwi, hwI⟩ := hVp V[i2] (List.getElem_mem hbW)
        have hyi2' := hyi2
        have hwi := wrap_i64 (n := (i2 : Int) + 1) (by omega) (by omega)
        obtain ⟨⟨n11, c11, z11, rfl, hs11⟩, hl11, hx11⟩ := hyi2
        repeat first | refine AWp.seq ?_ | refine AWp.block ?_
        refine AWp.ops ?_
        simp [hyi]
        have nx : ∀ fr' : List AV, fr' = [.und, .imm n3 c3 z3 (A.map I), .ptr 0 1 0 0, .und, .und, Bo true, .ptr 1 1 0 0, .und, .ptr 2 1 0 0, .und, .imm n9 c9 z9 (Q.map I), .und, .und, .und, .und, .und, .und, .und, .und, .und, .und, .und, .und, .und, .und, .und, .und, .und, .und, .und, .und, .und, .und, .und, .und, .und, .und, .und, .und, .und, .und, .und, .und, .und, .und, .und, .und, .und, .und, .und, .und, .und, .und, .und, .und, .und, .und, .und, .und, .und, .und, .und, .und, .und, .und, .und, .und, .und, .und, .und, .und, .und, .und, .und, .und, .und, .und, .und, .und, .und, .und, .und, .und, .und, .und, .und, .und, .und, .und, .und, .und, .und, .und, .und, .und, .und, .und, .und, .und, .und, .und, .und, .und, .imm false c8 2 es8, I es8.length, I ((i2 : Int) + 1), .und, .und, .und, .und, .und, .und, .und, .und, .und, .und, .und, .und, .und, .und, .und, .und, .und, .und, .und, .und, .und, .und, .und, .und, .und, .und, .und, .und, .und, .und, .und, .und, .und, .und, .und, .und, .und, .und, .und, .und, .und, .und, .und, .und, .und, .und, .und, .und, .und, .und, .und, .und, .und, .und, .und, .und, .und, .und, .und, .und, .und] →
            ∃ s' fr'' H'', Weak 0 fr' [cooO (.agg [.imm n1 c1 z1 (X.1.map I), .imm n2 c2 z2 es]), cooO (.agg [.imm n5 c5 z5 ((sortF X A).1.1.map I), .imm n6 c6 z6 es6]), cooO (.agg [.imm n7 c7 z7 ((joinF X A).1.1.map I), .imm false c8 2 es8]), enO (.agg [.imm n11 c11 z11 (V[i2].1.map I), I V[i2].2])] fr'' H'' ∧ J2 s' fr'' H'' ∧ es8.length - s' < es8.length - i2 := by
          rintro fr' rfl
          refine ⟨i2 + 1, _, _, Weak.freeze 3 3 (by simp), ?_, by omega⟩
          rw [hJ2]
          exact ⟨by omega, trivial, by simp [frzH], by simp⟩
        by_cases hi0 : i2 = 0
        · subst hi0
          repeat first | refine AWp.seq ?_ | refine AWp.block ?_
          refine AWp.ops ?_
          simp [lwi]
          refine AWp.cond (b := false) (by simp) (fun h => by cases h) (fun _ => ?_)
          refine AWp.skip ?_
          simp only [qSeq, qBlock]
          repeat first | refine AWp.seq ?_ | refine AWp.block ?_
          refine AWp.ops ?_
          simp [show IntKind.i64.wrap 1 = 1 from by decide]
          obtain ⟨s', fr'', H'', q1, q2, q3⟩ := nx _ rfl
          exact ⟨s', fr'', H'', ((Weak.slots [1, 2, 5, 6, 8, 10, 103, 104, 105]).to (by simp) (by simp)).trans q1, by simpa using q2, q3⟩
        · have hip : 0 < i2 := by omega
          have gi : (0 : Int) < i2 := by omega
          have w1 := wrap_i64 (n := (i2 : Int) - 1) (by omega) (by omega)
          have g2 : ((i2 : Int) - 1).toNat = i2 - 1 := by omega
          have g3 : (1 : Int) ≤ i2 := by omega
          have g4 : (i2 : Int) - 1 < es8.length := by omega
          obtain ⟨yp, hyp, hyp2⟩ := h83.get (i := i2 - 1) (by omega)
          obtain ⟨lwp, -⟩ := hVp (V[i2 - 1]'(by omega)) (List.getElem_mem _)
          have hcmp : cmpO Q (V[i2 - 1]'(by omega)).1 V[i2].1 < 0 := (List.pairwise_iff_getElem.1 hlt) (i2 - 1) i2 (by omega) hbW (by omega)
          have hah := rAhead_spec hyp2 hyi2' hq' (by omega) (fun m hm => by have := hrng m hm; omega)
          obtain ⟨⟨n12, c12, z12, rfl, hs12⟩, hl12, hx12⟩ := hyp2
          obtain ⟨_, hyp'⟩ := List.getElem?_eq_some_iff.1 hyp
          repeat first | refine AWp.seq ?_ | refine AWp.block ?_
          refine AWp.ops ?_
          simp [lwi, gi, w1, g2, g3, g4, hyp, hyp', hip]
          refine (hah.pure (by simp) (by rintro r rfl; simp) _).mono ?_
          rintro r H' ⟨rfl, rfl⟩
          simp [hcmp, lwi, gi, hip]
          refine AWp.cond (b := false) (by simp) (fun h => by cases h) (fun _ => ?_)
          refine AWp.skip ?_
          simp only [qSeq, qBlock]
          repeat first | refine AWp.seq ?_ | refine AWp.block ?_
          refine AWp.ops ?_
          simp [hwi]
          obtain ⟨s', fr'', H'', q1, q2, q3⟩ := nx _ rfl
          exact ⟨s', fr'', H'', ((Weak.slots [1, 2, 5, 6, 8, 10, 103, 104, 105]).to (by simp) (by simp)).trans q1, q2, q3⟩
      · intro hb2
        have hb2 : ¬ i2 < es8.length := by simpa using hb2
        refine AWp.exit ?_
        simp [qSeq, qBlock]
        have sB := coo_pure (cSort_spec hy' ha' (by omega) (sortF_in hX)) (sortF_in (sortF_in hX))
        have jB := coo_pure (cJoin_spec hw' ha' (by omega) (joinF_in hX) (by omega)) (joinF_in (joinF_in hX))
        rw [sag] at sB
        rw [jag] at jB
        repeat first | refine AWp.seq ?_ | refine AWp.block ?_
        refine AWp.ops ?_
        simp
        refine (sB.pure (by simp) (by rintro r ⟨y, rfl, hy⟩; simp [hy.noRef]) _).mono ?_
        rintro r H' ⟨rfl, p, rfl, hp⟩
        simp only at hp
        have hp' := hp
        obtain ⟨s13, e13, rfl, ⟨⟨n13, c13, z13, rfl, hs13⟩, hl13, hx13⟩, ⟨n14, c14, z14, es14, rfl, h141, h142, h143⟩⟩ := hp
        simp
        repeat first | refine AWp.seq ?_ | refine AWp.block ?_
        refine AWp.ops ?_
        simp
        refine (jB.pure (by simp) (by rintro r ⟨y, rfl, hy⟩; simp [hy.noRef]) _).mono ?_
        rintro r H' ⟨rfl, q, rfl, hq⟩
        simp only at hq
        have hq2' := hq
        obtain ⟨s15, e15, rfl, ⟨⟨n15, c15, z15, rfl, hs15⟩, hl15, hx15⟩, ⟨n16, c16, z16, es16, rfl, h161, h162, h163⟩⟩ := hq
        simp
        repeat first | refine AWp.seq ?_ | refine AWp.block ?_
        refine AWp.ops ?_
        simp
        have m1 := cSame_spec hp' hy' (by omega) (by omega)
        have m2 := cSame_spec hq2' hw' (by omega) (by omega)
        simp only [sck, jck, and_self, decide_true] at m1 m2
        refine (m1.pure (by simp) (by rintro r rfl; simp) _).mono ?_
        rintro r H' ⟨rfl, rfl⟩
        simp
        refine (m2.pure (by simp) (by rintro r rfl; simp) _).mono ?_
        rintro r H' ⟨rfl, rfl⟩
        simp
        refine AWp.ret ?_
        simp
        refine retOk.of rfl ?_
        simp
  refine (base.frozen 2).mono ?_
  rintro q H' ⟨rfl, r, G, rfl, rfl⟩
  exact ⟨rfl, by simp⟩
end Go.Fw
