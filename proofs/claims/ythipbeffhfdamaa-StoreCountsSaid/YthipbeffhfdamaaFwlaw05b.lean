import Derived.Test.YthipbeffhfdamaaFwlive05
import Derived.Test.YthipbeffhfdamaaFwcounts1
import Derived.Test.YthipbeffhfdamaaFwfew05
import Derived.Test.YthipbeffhfdamaaFwrefe
namespace Go.Fw
open Go Go.RowKit Go.Proofs
set_option maxRecDepth 100000
set_option linter.unusedSimpArgs false
set_option linter.unusedVariables false

def StoreCounts_27 : AC := (.seq (.ops [⟨(some 121), none, (.k (.mov (.t 3)))⟩, ⟨(some 122), none, (.k (.mov (.t 121)))⟩, ⟨(some 123), (some (122, true)), (.k (.fad 3 (.t 1)))⟩, ⟨(some 124), (some (122, true)), (.k (.ld 1 false (.t 123)))⟩, ⟨(some 125), (some (122, true)), (.k (.len (.t 124)))⟩, ⟨(some 126), (some (122, true)), (.k (.mov (.t 8)))⟩, ⟨(some 127), (some (122, true)), (.k (.bin .eql (.t 125) (.t 126)))⟩, ⟨(some 128), none, (.k (.pick (.t 122) (.t 127) (.c (.sc (.bool false)))))⟩, ⟨(some 129), none, (.k (.mov (.t 128)))⟩, ⟨(some 130), (some (129, true)), (.k (.mov (.t 10)))⟩, ⟨(some 131), (some (129, true)), (.k (.fad 0 (.t 1)))⟩, ⟨(some 132), (some (129, true)), (.k (.ld 1 false (.t 131)))⟩, ⟨(some 133), (some (129, true)), (.call false (.c (.fn (.func 15) [] [])) [(.t 130), (.t 132)])⟩, ⟨(some 134), none, (.k (.pick (.t 129) (.t 133) (.c (.sc (.bool false)))))⟩, ⟨(some 135), none, (.k (.mov (.t 134)))⟩, ⟨(some 136), (some (135, true)), (.k (.mov (.t 14)))⟩, ⟨(some 137), (some (135, true)), (.k (.bin .eql (.t 136) (.c (.sc (.int .i64 0)))))⟩, ⟨(some 138), none, (.k (.pick (.t 135) (.t 137) (.c (.sc (.bool false)))))⟩, ⟨(some 139), none, (.k (.mov (.t 138)))⟩, ⟨(some 140), (some (139, true)), (.k (.mov (.t 9)))⟩, ⟨(some 141), (some (139, true)), (.k (.un .not (.t 140)))⟩, ⟨(some 142), (some (139, true)), (.k (.mov (.t 141)))⟩, ⟨(some 143), (some (142, false)), (.k (.mov (.t 8)))⟩, ⟨(some 144), (some (142, false)), (.k (.mov (.t 13)))⟩, ⟨(some 145), (some (142, false)), (.k (.bin .eql (.t 143) (.t 144)))⟩, ⟨(some 146), (some (139, true)), (.k (.pick (.t 142) (.c (.sc (.bool true))) (.t 145)))⟩, ⟨(some 147), none, (.k (.pick (.t 139) (.t 146) (.c (.sc (.bool false)))))⟩, ⟨(some 2), none, (.k (.mov (.t 147)))⟩]) .ret)
def StoreCounts_26 : AC := (.seq (.ops [⟨(some 116), none, (.k (.fad 0 (.t 1)))⟩, ⟨(some 117), none, (.k (.ld 1 false (.t 116)))⟩, ⟨(some 118), none, (.call false (.c (.fn (.func 19) [] [])) [(.t 117)])⟩, ⟨(some 115), none, (.k (.mov (.t 118)))⟩, ⟨(some 119), none, (.k (.ext (.t 115) 0))⟩, ⟨(some 120), none, (.k (.ext (.t 115) 1))⟩, ⟨(some 13), none, (.k (.mov (.t 119)))⟩, ⟨(some 14), none, (.k (.mov (.t 120)))⟩]) StoreCounts_27)
def StoreCounts_25 : AC := (.cond (.t 94) (.ops [⟨(some 95), none, (.k (.mov (.t 10)))⟩, ⟨(some 96), none, (.k (.fad 1 (.t 12)))⟩, ⟨(some 97), none, (.k (.ld 1 false (.t 96)))⟩, ⟨(some 98), none, (.k (.iad 1 (.t 95) (.t 97)))⟩, ⟨(some 99), none, (.k (.ld 1 false (.t 98)))⟩, ⟨(some 100), none, (.k (.mov (.t 6)))⟩, ⟨(some 101), none, (.k (.mov (.t 11)))⟩, ⟨(some 102), none, (.k (.iad 1 (.t 100) (.t 101)))⟩, ⟨(some 103), none, (.k (.ld 1 false (.t 102)))⟩, ⟨(some 104), none, (.k (.bin .mul (.t 99) (.t 103)))⟩, ⟨(some 105), none, (.k (.iad 1 (.t 95) (.t 97)))⟩, ⟨none, none, (.k (.st 1 (.t 105) (.t 104)))⟩]) (.ops [⟨(some 106), none, (.k (.mov (.t 10)))⟩, ⟨(some 107), none, (.k (.fad 1 (.t 12)))⟩, ⟨(some 108), none, (.k (.ld 1 false (.t 107)))⟩, ⟨(some 109), none, (.k (.mov (.t 6)))⟩, ⟨(some 110), none, (.k (.mov (.t 11)))⟩, ⟨(some 111), none, (.k (.iad 1 (.t 109) (.t 110)))⟩, ⟨(some 112), none, (.k (.ld 1 false (.t 111)))⟩, ⟨(some 113), none, (.k (.iad 1 (.t 106) (.t 108)))⟩, ⟨none, none, (.k (.st 1 (.t 113) (.t 112)))⟩]))
def StoreCounts_24 : AC := (.seq (.ops [⟨(some 92), none, (.k (.fad 0 (.t 12)))⟩, ⟨(some 93), none, (.k (.ld 1 false (.t 92)))⟩, ⟨(some 94), none, (.k (.bin .eql (.t 93) (.c (.sc (.int .i64 4)))))⟩]) StoreCounts_25)
def StoreCounts_23 : AC := (.seq (.ops [⟨(some 81), none, (.k (.mov (.t 9)))⟩, ⟨(some 82), none, (.k (.mov (.t 81)))⟩, ⟨(some 83), (some (82, true)), (.k (.fad 0 (.t 12)))⟩, ⟨(some 84), (some (82, true)), (.k (.ld 1 false (.t 83)))⟩, ⟨(some 85), (some (82, true)), (.k (.bin .eql (.t 84) (.c (.sc (.int .i64 0)))))⟩, ⟨(some 86), (some (82, true)), (.k (.mov (.t 85)))⟩, ⟨(some 87), (some (86, false)), (.k (.fad 0 (.t 12)))⟩, ⟨(some 88), (some (86, false)), (.k (.ld 1 false (.t 87)))⟩, ⟨(some 89), (some (86, false)), (.k (.bin .eql (.t 88) (.c (.sc (.int .i64 4)))))⟩, ⟨(some 90), (some (82, true)), (.k (.pick (.t 86) (.c (.sc (.bool true))) (.t 89)))⟩, ⟨(some 91), none, (.k (.pick (.t 82) (.t 90) (.c (.sc (.bool false)))))⟩, ⟨(some 9), none, (.k (.mov (.t 91)))⟩]) StoreCounts_24)
def StoreCounts_22 : AC := (.seq (.ops [⟨(some 78), none, (.k (.mov (.t 76)))⟩, ⟨(some 79), none, (.k (.iad 3 (.t 74) (.t 76)))⟩, ⟨(some 80), none, (.k (.ld 3 true (.t 79)))⟩, ⟨(some 12), none, (.k (.new 43 3 (.c (.agg [(.sc (.int .i64 0)), (.sc (.int .i64 0)), (.sc (.int .i64 0))]))))⟩, ⟨(some 11), none, (.k (.mov (.t 78)))⟩, ⟨none, none, (.k (.st 3 (.t 12) (.t 80)))⟩]) StoreCounts_23)
def StoreCounts_21 : AC := (.block 1 StoreCounts_22)
def StoreCounts_20 : AC := (.seq StoreCounts_21 (.ops [⟨(some 114), none, (.k (.bin .add (.t 76) (.c (.sc (.int .i64 1)))))⟩, ⟨(some 76), none, (.k (.mov (.t 114)))⟩]))
def StoreCounts_19 : AC := (.seq (.cond (.t 77) .skip (.exit 0)) StoreCounts_20)
def StoreCounts_18 : AC := (.seq (.ops [⟨(some 77), none, (.k (.bin .lss (.t 76) (.t 75)))⟩]) StoreCounts_19)
def StoreCounts_17 : AC := (.loop StoreCounts_18)
def StoreCounts_16 : AC := (.block 0 StoreCounts_17)
def StoreCounts_15 : AC := (.seq (.ops [⟨(some 73), none, (.k (.fad 1 (.t 1)))⟩, ⟨(some 74), none, (.k (.ld 1 false (.t 73)))⟩, ⟨(some 75), none, (.k (.len (.t 74)))⟩, ⟨(some 76), none, (.k (.mov (.c (.sc (.int .i64 0)))))⟩]) StoreCounts_16)
def StoreCounts_14 : AC := (.seq StoreCounts_15 StoreCounts_26)
def StoreCounts_13 : AC := (.seq (.ops [⟨(some 69), none, (.k (.fad 0 (.t 1)))⟩, ⟨(some 70), none, (.k (.ld 1 false (.t 69)))⟩, ⟨(some 71), none, (.k (.len (.t 70)))⟩, ⟨(some 72), none, (.k (.mkS 3 1 8 (.sc (.int .i64 0)) (.t 71) (.t 71)))⟩, ⟨(some 10), none, (.k (.mov (.t 72)))⟩]) StoreCounts_14)
def StoreCounts_12 : AC := (.seq (.ops [⟨(some 9), none, (.k (.mov (.c (.sc (.bool true)))))⟩]) StoreCounts_13)
def StoreCounts_11 : AC := (.cond (.t 62) (.ops [⟨(some 63), none, (.k (.mov (.t 4)))⟩, ⟨(some 64), none, (.k (.mov (.t 4)))⟩, ⟨(some 65), none, (.k (.len (.t 64)))⟩, ⟨(some 66), none, (.k (.bin .sub (.t 65) (.c (.sc (.int .i64 1)))))⟩, ⟨(some 67), none, (.k (.iad 1 (.t 63) (.t 66)))⟩, ⟨(some 68), none, (.k (.ld 1 false (.t 67)))⟩, ⟨(some 8), none, (.k (.mov (.t 68)))⟩]) .skip)
def StoreCounts_10 : AC := (.seq (.ops [⟨(some 60), none, (.k (.mov (.t 4)))⟩, ⟨(some 61), none, (.k (.len (.t 60)))⟩, ⟨(some 62), none, (.k (.bin .gtr (.t 61) (.c (.sc (.int .i64 0)))))⟩]) StoreCounts_11)
def StoreCounts_9 : AC := (.seq StoreCounts_10 StoreCounts_12)
def StoreCounts_8 : AC := (.seq (.ops [⟨(some 8), none, (.k (.mov (.c (.sc (.int .i64 1)))))⟩]) StoreCounts_9)
def StoreCounts_7 : AC := (.seq (.ops [⟨(some 38), none, (.k (.mov (.t 5)))⟩, ⟨(some 39), none, (.k (.bin .neq (.t 38) (.c (.sc (.int .i64 0)))))⟩, ⟨(some 40), none, (.k (.mov (.t 39)))⟩, ⟨(some 41), (some (40, false)), (.k (.mov (.t 7)))⟩, ⟨(some 42), (some (40, false)), (.k (.bin .neq (.t 41) (.c (.sc (.int .i64 0)))))⟩, ⟨(some 43), none, (.k (.pick (.t 40) (.c (.sc (.bool true))) (.t 42)))⟩, ⟨(some 44), none, (.k (.mov (.t 43)))⟩, ⟨(some 45), (some (44, false)), (.k (.mov (.t 4)))⟩, ⟨(some 46), (some (44, false)), (.k (.len (.t 45)))⟩, ⟨(some 47), (some (44, false)), (.k (.fad 2 (.t 1)))⟩, ⟨(some 48), (some (44, false)), (.k (.ld 1 false (.t 47)))⟩, ⟨(some 49), (some (44, false)), (.k (.len (.t 48)))⟩, ⟨(some 50), (some (44, false)), (.k (.bin .neq (.t 46) (.t 49)))⟩, ⟨(some 51), none, (.k (.pick (.t 44) (.c (.sc (.bool true))) (.t 50)))⟩, ⟨(some 52), none, (.k (.mov (.t 51)))⟩, ⟨(some 53), (some (52, false)), (.k (.mov (.t 6)))⟩, ⟨(some 54), (some (52, false)), (.k (.len (.t 53)))⟩, ⟨(some 55), (some (52, false)), (.k (.fad 2 (.t 1)))⟩, ⟨(some 56), (some (52, false)), (.k (.ld 1 false (.t 55)))⟩, ⟨(some 57), (some (52, false)), (.k (.len (.t 56)))⟩, ⟨(some 58), (some (52, false)), (.k (.bin .neq (.t 54) (.t 57)))⟩, ⟨(some 59), none, (.k (.pick (.t 52) (.c (.sc (.bool true))) (.t 58)))⟩]) (.cond (.t 59) (.seq (.ops [⟨(some 2), none, (.k (.mov (.c (.sc (.bool false)))))⟩]) .ret) .skip))
def StoreCounts_6 : AC := (.seq StoreCounts_7 StoreCounts_8)
def StoreCounts_5 : AC := (.seq (.ops [⟨(some 31), none, (.k (.fad 0 (.t 1)))⟩, ⟨(some 32), none, (.k (.ld 1 false (.t 31)))⟩, ⟨(some 33), none, (.k (.fad 1 (.t 1)))⟩, ⟨(some 34), none, (.k (.ld 1 false (.t 33)))⟩, ⟨(some 35), none, (.call false (.c (.fn (.func 13) [] [])) [(.t 32), (.t 34)])⟩, ⟨(some 30), none, (.k (.mov (.t 35)))⟩, ⟨(some 36), none, (.k (.ext (.t 30) 0))⟩, ⟨(some 37), none, (.k (.ext (.t 30) 1))⟩, ⟨(some 6), none, (.k (.mov (.t 36)))⟩, ⟨(some 7), none, (.k (.mov (.t 37)))⟩]) StoreCounts_6)
def StoreCounts_4 : AC := (.seq (.ops [⟨(some 26), none, (.k (.ld 4 true (.t 1)))⟩, ⟨(some 27), none, (.call false (.c (.fn (.func 18) [] [])) [(.t 26)])⟩, ⟨(some 25), none, (.k (.mov (.t 27)))⟩, ⟨(some 28), none, (.k (.ext (.t 25) 0))⟩, ⟨(some 29), none, (.k (.ext (.t 25) 1))⟩, ⟨(some 4), none, (.k (.mov (.t 28)))⟩, ⟨(some 5), none, (.k (.mov (.t 29)))⟩]) StoreCounts_5)
def StoreCounts_3 : AC := (.seq (.ops [⟨(some 16), none, (.k (.ld 4 true (.t 1)))⟩, ⟨(some 17), none, (.call false (.c (.fn (.func 10) [] [])) [(.t 16)])⟩, ⟨(some 18), none, (.k (.un .not (.t 17)))⟩, ⟨(some 19), none, (.k (.mov (.t 18)))⟩, ⟨(some 20), (some (19, false)), (.k (.ld 4 true (.t 1)))⟩, ⟨(some 21), (some (19, false)), (.call false (.c (.fn (.func 11) [] [])) [(.t 20)])⟩, ⟨(some 22), (some (19, false)), (.k (.bin .neq (.t 21) (.c (.sc (.int .i64 0)))))⟩, ⟨(some 23), none, (.k (.pick (.t 19) (.c (.sc (.bool true))) (.t 22)))⟩]) (.cond (.t 23) (.seq (.ops [⟨(some 24), none, (.k (.mov (.t 3)))⟩, ⟨(some 2), none, (.k (.mov (.t 24)))⟩]) .ret) .skip))
def StoreCounts_2 : AC := (.seq StoreCounts_3 StoreCounts_4)
def StoreCounts_1 : AC := (.seq (.ops [⟨(some 15), none, (.call false (.c (.fn (.func 9) [] [])) [])⟩, ⟨(some 3), none, (.k (.mov (.t 15)))⟩]) StoreCounts_2)
def StoreCounts_ac : AC := (.seq (.ops [⟨(some 1), none, (.k (.new 27 4 (.t 0)))⟩, ⟨(some 2), none, (.k (.mov (.c (.sc (.bool false)))))⟩]) StoreCounts_1)
theorem StoreCounts_call {args : List AV} {H : List AObj} {R : AV → List AObj → Prop} (h : AWp Try.prog [] H.length StoreCounts_ac (bodyQ H.length [(.t 2)] R) (args ++ List.replicate (148 - args.length) .und) H) : ACalls Try.prog 5 args H R :=
  ACalls.of_fn Try.func5 rfl (by kernel_rfl) rfl Try.ntmps5 h

set_option maxHeartbeats 4000000 in
theorem StoreCounts_spec {a : AV} {T : Tn} (ha : Tns a T) : ACalls Try.prog 5 [a] [] fun r H' => H' = [] ∧ r = Bo true := by
  have ha' := ha
  obtain ⟨S, F, xs, Vs⟩ := T
  obtain ⟨sh, f, l, v, rfl, hS, hF, hl, hV⟩ := ha
  simp only at hS hF hl hV
  have hS' := hS
  have hF' := hF
  have hl' := hl
  have hV' := hV
  obtain ⟨⟨nl, cl, sz, rfl, hs⟩, hlen, hx⟩ := hl
  obtain ⟨⟨nl1, c01, sz1, rfl, hs1⟩, hlen1, hx1⟩ := hS
  obtain ⟨⟨nl2, c02, sz2, rfl, hs2⟩, hlen2, hx2⟩ := hF
  obtain ⟨⟨nl3, c3, sz3, rfl, hs3⟩, hlen3, hx3⟩ := hV
  have base : ACalls Try.prog 5 [.agg [.imm nl1 c01 sz1 (S.map I), .imm nl2 c02 sz2 (F.map specV), .imm nl cl sz (xs.map lvV), .imm nl3 c3 sz3 (Vs.map I)]] [] fun r H' => r = Bo true := by
    apply StoreCounts_call
    repeat first | refine AWp.seq ?_ | refine AWp.block ?_
    refine AWp.ops ?_
    simp
    repeat first | refine AWp.seq ?_ | refine AWp.block ?_
    refine AWp.ops ?_
    simp
    refine (live05_spec.pure (by simp) (by rintro r rfl; simp) _).mono ?_
    rintro r H' ⟨rfl, rfl⟩
    simp
    repeat first | refine AWp.seq ?_ | refine AWp.block ?_
    refine AWp.ops ?_
    simp
    refine ((few_spec ha').pure (by simp) (by rintro r rfl; simp) _).mono ?_
    rintro r H' ⟨rfl, rfl⟩
    cases hfew : fewF ⟨S, F, xs, Vs⟩ with
    | false =>
      simp
      refine AWp.cond (b := true) (by simp) (fun _ => ?_) (fun h => by cases h)
      repeat first | refine AWp.seq ?_ | refine AWp.block ?_
      refine AWp.ops ?_
      simp
      refine AWp.ret ?_
      simp
      refine retOk.of rfl ?_
      simp
    | true =>
    simp only [fewF, Bool.and_eq_true, decide_eq_true_eq, List.all_eq_true] at hfew
    obtain ⟨hf1, hf2⟩ := hfew
    simp
    refine ((sCheck_spec hS' hF' hl' hV' (by omega) (by omega)).pure (by simp) (by rintro r rfl; simp) _).mono ?_
    rintro r H' ⟨rfl, rfl⟩
    simp
    by_cases h : tnCheck S F xs Vs = 0
    case neg =>
      refine AWp.cond (b := true) (by simp [h]) (fun _ => ?_) (fun h => by cases h)
      repeat first | refine AWp.seq ?_ | refine AWp.block ?_
      refine AWp.ops ?_
      simp
      refine AWp.ret ?_
      simp
      refine retOk.of rfl ?_
      simp
    refine AWp.cond (b := false) (by simp [h]) (fun h => by cases h) (fun _ => ?_)
    obtain ⟨lcells, lprod, lwhole, lZ, lS4, lmode⟩ := counts_law hx1 h
    obtain ⟨h1, h2, h3, h4, h5, h6⟩ := tnCheck_ok h
    have hcnt : countsF S F xs Vs = ((cntF xs).1, 0) := by rw [countsF, if_neg (by omega)]
    have hcl := cntGo_len (cntF_ok h4)
    obtain ⟨N, hN⟩ : ∃ N, N = (cntF xs).1 := ⟨_, rfl⟩
    obtain ⟨Z, hZ⟩ : ∃ Z, Z = (sizesF S F).1 := ⟨_, rfl⟩
    obtain ⟨la, hla⟩ : ∃ la, la = lastF N := ⟨_, rfl⟩
    rw [← hN] at hcl lwhole h5
    rw [← hla] at lwhole h5
    rw [← hZ] at lprod lZ
    refine AWp.skip ?_
    simp only [qSeq]
    repeat first | refine AWp.seq ?_ | refine AWp.block ?_
    refine AWp.ops ?_
    simp
    refine ((sCounts_spec hS' hF' hl' hV' (by omega) (by omega)).pure (by simp) (by rintro r ⟨o, rfl, ⟨⟨_, _, _, rfl, _⟩, _⟩⟩; simp) _).mono ?_
    rw [hcnt, ← hN]
    rintro r H' ⟨rfl, o1, rfl, ho1⟩
    obtain ⟨⟨nlw, cw, szw, rfl, hsw⟩, hlw, hxw⟩ := ho1
    simp
    repeat first | refine AWp.seq ?_ | refine AWp.block ?_
    refine AWp.ops ?_
    simp
    refine ((Sizes_spec hS' hF' (by omega)).pure (by simp) (by rintro r ⟨o, rfl, ⟨⟨_, _, _, rfl, _⟩, _⟩⟩; simp) _).mono ?_
    rw [h1, ← hZ]
    rintro r H' ⟨rfl, o2, rfl, ho2⟩
    obtain ⟨⟨nlz, cz, szz, rfl, hsz⟩, hlz, hxz⟩ := ho2
    simp
    have e1 : ¬ (N.length : Int) ≠ xs.length := by omega
    have e2 : ¬ (Z.length : Int) ≠ xs.length := by omega
    have e1' : N.length = xs.length := by omega
    have e2' : Z.length = xs.length := by omega
    repeat first | refine AWp.seq ?_ | refine AWp.block ?_
    refine AWp.ops ?_
    simp [e1', e2']
    refine AWp.cond (b := false) (by simp) (fun h => by cases h) (fun _ => ?_)
    refine AWp.skip ?_
    simp only [qSeq]
    repeat first | refine AWp.seq ?_ | refine AWp.block ?_
    refine AWp.ops ?_
    simp
    refine AWp.cut [.und, .ptr 0 1 0 0, .und, Bo true, .und, .und, .imm nlz cz szz (Z.map I), .und, I la, .und, .und, .und, .und, .und, .und, .und, .und, .und, .und, .und, .und, .und, .und, .und, .und, .und, .und, .und, .und, .und, .und, .und, .und, .und, .und, .und, .und, .und, .und, .und, .und, .und, .und, .und, .und, .und, .und, .und, .und, .und, .und, .und, .und, .und, .und, .und, .und, .und, .und, .und, .und, .und, .und, .und, .und, .und, .und, .und, .und, .und, .und, .und, .und, .und, .und, .und, .und, .und, .und, .und, .und, .und, .und, .und, .und, .und, .und, .und, .und, .und, .und, .und, .und, .und, .und, .und, .und, .und, .und, .und, .und, .und, .und, .und, .und, .und, .und, .und, .und, .und, .und, .und, .und, .und, .und, .und, .und, .und, .und, .und, .und, .und, .und, .und, .und, .und, .und, .und, .und, .und, .und, .und, .und, .und, .und, .und, .und, .und, .und, .und, .und, .und, .und, .und, .und, .und, .und, .und] [tnO (.agg [.imm nl1 c01 sz1 (S.map I), .imm nl2 c02 sz2 (F.map specV), .imm nl cl sz (xs.map lvV), .imm nl3 c3 sz3 (Vs.map I)])] ?_ ?_
    ·
      repeat first | refine AWp.seq ?_ | refine AWp.block ?_
      refine AWp.ops ?_
      simp
      by_cases hN0 : N = []
      · have hl1 : la = 1 := by rw [hla, hN0]; rfl
        refine AWp.cond (b := false) (by simp [hN0]) (fun h => by cases h) (fun _ => ?_)
        refine AWp.skip ?_
        simp only [qSeq]
        exact (Weak.slots [1, 3, 6, 8]).to (by simp [hl1]) rfl
      · have hNp : 0 < N.length := List.length_pos_iff.2 hN0
        have hszw := sz_of hsw hNp
        subst hszw
        have b1 : N.length - 1 < N.length := by omega
        have w1 := wrap_i64 (n := (N.length : Int) - 1) (by omega) (by omega)
        have g1 : (1 : Int) ≤ N.length := by omega
        have g2 : ((N.length : Int) - 1).toNat = N.length - 1 := by omega
        have hg : la = N[N.length - 1] := by
          rw [hla, lastF, List.getD, List.getElem?_cons]
          rw [if_neg (by omega), List.getElem?_eq_getElem b1]
          rfl
        refine AWp.cond (b := true) (by simp [hNp]) (fun _ => ?_) (fun h => by cases h)
        repeat first | refine AWp.seq ?_ | refine AWp.block ?_
        refine AWp.ops ?_
        simp [b1, w1, g1, g2, hNp]
        exact (Weak.slots [1, 3, 6, 8]).to (by simp [hg]) rfl
    have m1 : S.length * 8 ≤ 281474976710656 := by omega
    have m2 : S.length ≤ 9223372036854775807 := by omega
    have m1' : (S.length : Int) * 8 ≤ 281474976710656 := by omega
    have m2' : (S.length : Int) ≤ 9223372036854775807 := by omega
    have hrep : List.replicate S.length (AV.sc (Value.int IntKind.i64 0)) = (List.replicate S.length (0 : Int)).map I := by simp
    repeat first | refine AWp.seq ?_ | refine AWp.block ?_
    refine AWp.ops ?_
    simp
    repeat first | refine AWp.seq ?_ | refine AWp.block ?_
    refine AWp.ops ?_
    simp [m1, m2, m1', m2']
    rw [hrep]
    repeat first | refine AWp.seq ?_ | refine AWp.block ?_
    refine AWp.ops ?_
    simp
    obtain ⟨J, hJ⟩ : ∃ J : Nat → List AV → List AObj → Prop, J = fun i fr H => i ≤ F.length ∧ ∃ (P : List Int) (wf : Bool), (prodGo F Z (List.replicate S.length 0) = prodGo (F.drop i) (Z.drop i) P ∧ P.length = S.length ∧ wf = (F.take i).all (fun f => decide (f.1 = 0 ∨ f.1 = 4))) ∧ H = [tnO (.agg [.imm nl1 c01 sz1 (S.map I), .imm nl2 c02 sz2 (F.map specV), .imm nl cl sz (xs.map lvV), .imm nl3 c3 sz3 (Vs.map I)]), intOb P] ∧
      fr = [.und, .ptr 0 1 0 0, .und, Bo true, .und, .und, .imm nlz cz szz (Z.map I), .und, I la, Bo wf, .slc 1 S.length 0 S.length none, .und, .und, .und, .und, .und, .und, .und, .und, .und, .und, .und, .und, .und, .und, .und, .und, .und, .und, .und, .und, .und, .und, .und, .und, .und, .und, .und, .und, .und, .und, .und, .und, .und, .und, .und, .und, .und, .und, .und, .und, .und, .und, .und, .und, .und, .und, .und, .und, .und, .und, .und, .und, .und, .und, .und, .und, .und, .und, .und, .und, .und, .und, .und, .imm nl2 c02 sz2 (F.map specV), I F.length, I i, .und, .und, .und, .und, .und, .und, .und, .und, .und, .und, .und, .und, .und, .und, .und, .und, .und, .und, .und, .und, .und, .und, .und, .und, .und, .und, .und, .und, .und, .und, .und, .und, .und, .und, .und, .und, .und, .und, .und, .und, .und, .und, .und, .und, .und, .und, .und, .und, .und, .und, .und, .und, .und, .und, .und, .und, .und, .und, .und, .und, .und, .und, .und, .und, .und, .und, .und, .und, .und, .und, .und] := ⟨_, rfl⟩
    refine AWp.block (AWp.loop J (fun i => F.length - i) 0 (Weak.slots [1, 3, 6, 8, 9, 10, 74, 75, 76]) (by rw [hJ]; exact ⟨by omega, List.replicate S.length 0, true, ⟨rfl, by simp, by simp⟩, by simp, by simp⟩) ?_)
    intro i fr H hI
    rw [hJ] at hI
    obtain ⟨hi, P, wf, hinv, rfl, rfl⟩ := hI
    repeat first | refine AWp.seq ?_ | refine AWp.block ?_
    refine AWp.ops ?_
    simp
    refine AWp.seq (AWp.cond (b := decide (i < F.length)) (by simp <;> omega) ?_ ?_)
    ·
      intro hb
      have hb : i < F.length := by simpa using hb
      refine AWp.skip ?_
      simp only [qSeq]
      obtain ⟨hgo, hPl, hwf⟩ := hinv
      have hbZ : i < Z.length := by omega
      have hsz3 := sz3_of hs2 hb
      have hszz1 := sz_of hsz hbZ
      subst hsz3 hszz1
      have hgF := spec_get hb
      have hmo := lmode F[i] (List.getElem_mem hb)
      rw [List.drop_eq_getElem_cons hb, List.drop_eq_getElem_cons hbZ] at hgo
      simp only [prodGo] at hgo
      have hall : (F.take (i + 1)).all (fun f => decide (f.1 = 0 ∨ f.1 = 4)) = (wf && decide (F[i].1 = 0 ∨ F[i].1 = 4)) := by
        rw [List.take_succ_eq_append_getElem hb, List.all_append, hwf]; simp
      generalize F[i] = sp at hgF hmo hgo hall
      obtain ⟨k, mo, z⟩ := sp
      simp only at hgF hmo hgo hall
      obtain ⟨m, rfl⟩ : ∃ m : Nat, mo = m := ⟨mo.toNat, by omega⟩
      have hmS : m < S.length := by omega
      have hmP : m < P.length := by omega
      have hPm : P.getD m 0 = P[m] := by simp [hmP]
      have hwi := wrap_i64 (n := (i : Int) + 1) (by omega) (by omega)
      repeat first | refine AWp.seq ?_ | refine AWp.block ?_
      refine AWp.ops ?_
      simp [hgF]
      refine AWp.cut [.und, .ptr 0 1 0 0, .und, Bo true, .und, .und, .imm nlz cz 1 (Z.map I), .und, I la, Bo (wf && decide (k = 0 ∨ k = 4)), .slc 1 S.length 0 S.length none, I i, .ptr 2 1 0 0, .und, .und, .und, .und, .und, .und, .und, .und, .und, .und, .und, .und, .und, .und, .und, .und, .und, .und, .und, .und, .und, .und, .und, .und, .und, .und, .und, .und, .und, .und, .und, .und, .und, .und, .und, .und, .und, .und, .und, .und, .und, .und, .und, .und, .und, .und, .und, .und, .und, .und, .und, .und, .und, .und, .und, .und, .und, .und, .und, .und, .und, .imm nl2 c02 3 (F.map specV), I F.length, I i, .und, .und, .und, .und, .und, .und, .und, .und, .und, .und, .und, .und, .und, .und, .und, .und, .und, .und, .und, .und, .und, .und, .und, .und, .und, .und, .und, .und, .und, .und, .und, .und, .und, .und, .und, .und, .und, .und, .und, .und, .und, .und, .und, .und, .und, .und, .und, .und, .und, .und, .und, .und, .und, .und, .und, .und, .und, .und, .und, .und, .und, .und, .und, .und, .und, .und, .und, .und, .und, .und, .und] [tnO (.agg [.imm nl1 c01 sz1 (S.map I), .imm nl2 c02 3 (F.map specV), .imm nl cl sz (xs.map lvV), .imm nl3 c3 sz3 (Vs.map I)]), intOb P, ⟨43, 3, [.agg [I k, I m, I z]], true, none⟩] ?_ ?_
      · cases wf with
        | false =>
          repeat first | refine AWp.seq ?_ | refine AWp.block ?_
          refine AWp.ops ?_
          simp
          exact (Weak.slots [1, 3, 6, 8, 9, 10, 11, 12, 74, 75, 76]).to (by simp) (by simp)
        | true =>
          by_cases k0 : k = 0
          ·
            repeat first | refine AWp.seq ?_ | refine AWp.block ?_
            refine AWp.ops ?_
            simp [k0]
            exact (Weak.slots [1, 3, 6, 8, 9, 10, 11, 12, 74, 75, 76]).to (by simp) (by simp)
          ·
            repeat first | refine AWp.seq ?_ | refine AWp.block ?_
            refine AWp.ops ?_
            simp [k0]
            exact (Weak.slots [1, 3, 6, 8, 9, 10, 11, 12, 74, 75, 76]).to (by by_cases k4 : k = 4 <;> simp [k0, k4]) (by simp)
      repeat first | refine AWp.seq ?_ | refine AWp.block ?_
      refine AWp.ops ?_
      simp
      by_cases k4 : k = 4
      · refine AWp.cond (b := true) (by simp [k4]) (fun _ => ?_) (fun h => by cases h)
        have hst : prodStep P (k, (m : Int), z) Z[i] = P.set m (IntKind.i64.wrap (P[m] * Z[i])) := by simp only [prodStep, Int.toNat_natCast, hPm]; rw [if_pos k4]
        repeat first | refine AWp.seq ?_ | refine AWp.block ?_
        refine AWp.ops ?_
        simp [hmP, hmS, hbZ, hPl]
        repeat first | refine AWp.seq ?_ | refine AWp.block ?_
        refine AWp.ops ?_
        simp [hwi]
        refine ⟨i + 1, _, _, (Weak.slots [1, 3, 6, 8, 9, 10, 74, 75, 76]).trans (Weak.freeze 2 3 (by simp)), ?_, by omega⟩
        rw [hJ]
        refine ⟨by omega, _, _, ⟨hgo, by rw [hst]; simpa using hPl, hall.symm⟩, by simp [frzH, hst, List.map_set], by simp [hwi]⟩
      · refine AWp.cond (b := false) (by simp [k4]) (fun h => by cases h) (fun _ => ?_)
        have hst : prodStep P (k, (m : Int), z) Z[i] = P.set m Z[i] := by simp only [prodStep, Int.toNat_natCast]; rw [if_neg k4]
        repeat first | refine AWp.seq ?_ | refine AWp.block ?_
        refine AWp.ops ?_
        simp [hmP, hmS, hbZ, hPl]
        repeat first | refine AWp.seq ?_ | refine AWp.block ?_
        refine AWp.ops ?_
        simp [hwi]
        refine ⟨i + 1, _, _, (Weak.slots [1, 3, 6, 8, 9, 10, 74, 75, 76]).trans (Weak.freeze 2 3 (by simp)), ?_, by omega⟩
        rw [hJ]
        refine ⟨by omega, _, _, ⟨hgo, by rw [hst]; simpa using hPl, hall.symm⟩, by simp [frzH, hst, List.map_set], by simp [hwi]⟩
    ·
      intro hb
      have hb : ¬ i < F.length := by simpa using hb
      refine AWp.exit ?_
      simp [qSeq, qBlock]
      obtain ⟨hgo, hPl, hwf⟩ := hinv
      rw [List.drop_eq_nil_of_le (by omega)] at hgo
      simp only [prodGo] at hgo
      rw [lprod] at hgo
      subst hgo
      rw [List.take_of_length_le (by omega)] at hwf
      repeat first | refine AWp.seq ?_ | refine AWp.block ?_
      refine AWp.ops ?_
      simp
      refine ((Cells_spec hS').pure (by simp) (by rintro r rfl; simp) _).mono ?_
      rintro r H' ⟨rfl, rfl⟩
      rw [lcells]
      simp
      repeat first | refine AWp.seq ?_ | refine AWp.block ?_
      refine AWp.ops ?_
      simp [h5]
      refine ACalls.mono (ACalls.pureLent 3 (R := fun r => r = Bo true) ?_ (by rintro r rfl s; simp)) ?_
      · simp
        exact (rEqual_spec (ISl.of _ hlen1 hx1) hS').mono fun r H h => ⟨h.1, by rw [h.2]; simp⟩
      rintro r H' ⟨rfl, rfl⟩
      cases wf with
      | false =>
        simp
        refine AWp.ret ?_
        simp
        refine retOk.of rfl ?_
        simp
      | true =>
        have hlc : la = (cells S).1 := lwhole fun f hf => by
          have := List.all_eq_true.1 hwf.symm f hf
          simpa using this
        rw [hlc]
        simp
        refine AWp.ret ?_
        simp
        refine retOk.of rfl ?_
        simp
  refine (base.frozen 2).mono ?_
  rintro q H' ⟨rfl, r, G, rfl, rfl⟩
  exact ⟨rfl, by simp⟩
end Go.Fw
