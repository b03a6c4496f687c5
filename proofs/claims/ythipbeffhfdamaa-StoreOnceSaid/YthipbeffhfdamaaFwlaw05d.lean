import Derived.Test.YthipbeffhfdamaaFwlive05
import Derived.Test.YthipbeffhfdamaaFwfew05
import Derived.Test.YthipbeffhfdamaaFwonce3
import Derived.Test.YthipbeffhfdamaaFwstore11
import Derived.Test.YthipbeffhfdamaaFwstore13
import Derived.Test.YthipbeffhfdamaaFwrefe
namespace Go.Fw
open Go Go.RowKit Go.Proofs
set_option maxRecDepth 100000
set_option linter.unusedSimpArgs false
set_option linter.unusedVariables false

def StoreOnce_30 : AC := (.seq (.ops [⟨(some 98), none, (.k (.mov (.t 12)))⟩, ⟨(some 99), none, (.k (.fad 1 (.t 7)))⟩, ⟨(some 100), none, (.k (.ld 1 false (.t 99)))⟩, ⟨(some 101), none, (.k (.bin .neq (.t 98) (.t 100)))⟩, ⟨(some 102), none, (.k (.mov (.t 101)))⟩, ⟨(some 103), (some (102, false)), (.k (.mov (.t 13)))⟩, ⟨(some 104), (some (102, false)), (.k (.un .not (.t 103)))⟩, ⟨(some 105), none, (.k (.pick (.t 102) (.c (.sc (.bool true))) (.t 104)))⟩, ⟨(some 106), none, (.k (.mov (.t 105)))⟩, ⟨(some 107), (some (106, false)), (.k (.mov (.t 14)))⟩, ⟨(some 108), (some (106, false)), (.k (.bin .neq (.t 107) (.c (.sc (.int .i64 0)))))⟩, ⟨(some 109), none, (.k (.pick (.t 106) (.c (.sc (.bool true))) (.t 108)))⟩]) (.cond (.t 109) (.seq (.ops [⟨(some 2), none, (.k (.mov (.c (.sc (.bool false)))))⟩]) .ret) .skip))
def StoreOnce_29 : AC := (.seq (.ops [⟨(some 91), none, (.k (.ld 4 true (.t 1)))⟩, ⟨(some 92), none, (.k (.fad 0 (.t 7)))⟩, ⟨(some 93), none, (.k (.ld 1 false (.t 92)))⟩, ⟨(some 94), none, (.call false (.c (.fn (.func 22) [] [])) [(.t 91), (.t 93)])⟩, ⟨(some 90), none, (.k (.mov (.t 94)))⟩, ⟨(some 95), none, (.k (.ext (.t 90) 0))⟩, ⟨(some 96), none, (.k (.ext (.t 90) 1))⟩, ⟨(some 97), none, (.k (.ext (.t 90) 2))⟩, ⟨(some 12), none, (.k (.mov (.t 95)))⟩, ⟨(some 13), none, (.k (.mov (.t 96)))⟩, ⟨(some 14), none, (.k (.mov (.t 97)))⟩]) StoreOnce_30)
def StoreOnce_28 : AC := (.seq (.ops [⟨(some 84), none, (.k (.fad 0 (.t 7)))⟩, ⟨(some 85), none, (.k (.ld 1 false (.t 84)))⟩, ⟨(some 86), none, (.k (.fad 0 (.t 11)))⟩, ⟨(some 87), none, (.k (.ld 1 false (.t 86)))⟩, ⟨(some 88), none, (.call false (.c (.fn (.func 15) [] [])) [(.t 85), (.t 87)])⟩]) (.cond (.t 88) (.seq (.ops [⟨(some 2), none, (.k (.mov (.c (.sc (.bool false)))))⟩]) .ret) .skip))
def StoreOnce_27 : AC := (.seq (.ops [⟨(some 82), none, (.k (.iad 2 (.t 78) (.t 80)))⟩, ⟨(some 83), none, (.k (.ld 2 true (.t 82)))⟩, ⟨(some 11), none, (.k (.new 52 2 (.c (.agg [(.imm true none 0 []), (.sc (.int .i64 0))]))))⟩, ⟨none, none, (.k (.st 2 (.t 11) (.t 83)))⟩]) StoreOnce_28)
def StoreOnce_26 : AC := (.block 3 StoreOnce_27)
def StoreOnce_25 : AC := (.seq StoreOnce_26 (.ops [⟨(some 89), none, (.k (.bin .add (.t 80) (.c (.sc (.int .i64 1)))))⟩, ⟨(some 80), none, (.k (.mov (.t 89)))⟩]))
def StoreOnce_24 : AC := (.seq (.cond (.t 81) .skip (.exit 2)) StoreOnce_25)
def StoreOnce_23 : AC := (.seq (.ops [⟨(some 81), none, (.k (.bin .lss (.t 80) (.t 79)))⟩]) StoreOnce_24)
def StoreOnce_22 : AC := (.loop StoreOnce_23)
def StoreOnce_21 : AC := (.block 2 StoreOnce_22)
def StoreOnce_20 : AC := (.seq (.ops [⟨(some 75), none, (.k (.fad 1 (.t 4)))⟩, ⟨(some 76), none, (.k (.ld 1 false (.t 75)))⟩, ⟨(some 77), none, (.k (.mov (.t 6)))⟩, ⟨(some 78), none, (.k (.sl 2 (.t 76) none (some (.t 77)) none))⟩, ⟨(some 79), none, (.k (.len (.t 78)))⟩, ⟨(some 80), none, (.k (.mov (.c (.sc (.int .i64 0)))))⟩]) StoreOnce_21)
def StoreOnce_19 : AC := (.seq StoreOnce_20 StoreOnce_29)
def StoreOnce_18 : AC := (.seq (.ops [⟨(some 63), none, (.k (.mov (.t 9)))⟩, ⟨(some 64), none, (.k (.bin .neq (.t 63) (.c (.sc (.int .i64 0)))))⟩, ⟨(some 65), none, (.k (.mov (.t 64)))⟩, ⟨(some 66), (some (65, false)), (.k (.fad 1 (.t 7)))⟩, ⟨(some 67), (some (65, false)), (.k (.ld 1 false (.t 66)))⟩, ⟨(some 68), (some (65, false)), (.k (.fad 3 (.t 1)))⟩, ⟨(some 69), (some (65, false)), (.k (.ld 1 false (.t 68)))⟩, ⟨(some 70), (some (65, false)), (.k (.mov (.t 6)))⟩, ⟨(some 71), (some (65, false)), (.k (.iad 1 (.t 69) (.t 70)))⟩, ⟨(some 72), (some (65, false)), (.k (.ld 1 false (.t 71)))⟩, ⟨(some 73), (some (65, false)), (.k (.bin .neq (.t 67) (.t 72)))⟩, ⟨(some 74), none, (.k (.pick (.t 65) (.c (.sc (.bool true))) (.t 73)))⟩]) (.cond (.t 74) (.seq (.ops [⟨(some 2), none, (.k (.mov (.c (.sc (.bool false)))))⟩]) .ret) .skip))
def StoreOnce_17 : AC := (.seq (.ops [⟨(some 56), none, (.k (.fad 0 (.t 1)))⟩, ⟨(some 57), none, (.k (.ld 1 false (.t 56)))⟩, ⟨(some 58), none, (.k (.fad 0 (.t 7)))⟩, ⟨(some 59), none, (.k (.ld 1 false (.t 58)))⟩, ⟨(some 60), none, (.call false (.c (.fn (.func 21) [] [])) [(.t 57), (.t 59)])⟩, ⟨(some 55), none, (.k (.mov (.t 60)))⟩, ⟨(some 61), none, (.k (.ext (.t 55) 0))⟩, ⟨(some 62), none, (.k (.ext (.t 55) 1))⟩, ⟨(some 8), none, (.k (.mov (.t 61)))⟩, ⟨(some 9), none, (.k (.mov (.t 62)))⟩]) StoreOnce_18)
def StoreOnce_16 : AC := (.seq StoreOnce_17 StoreOnce_19)
def StoreOnce_15 : AC := (.seq (.ops [⟨(some 52), none, (.k (.mov (.t 50)))⟩, ⟨(some 53), none, (.k (.iad 2 (.t 48) (.t 50)))⟩, ⟨(some 54), none, (.k (.ld 2 true (.t 53)))⟩, ⟨(some 7), none, (.k (.new 52 2 (.c (.agg [(.imm true none 0 []), (.sc (.int .i64 0))]))))⟩, ⟨(some 6), none, (.k (.mov (.t 52)))⟩, ⟨none, none, (.k (.st 2 (.t 7) (.t 54)))⟩]) StoreOnce_16)
def StoreOnce_14 : AC := (.block 1 StoreOnce_15)
def StoreOnce_13 : AC := (.seq StoreOnce_14 (.ops [⟨(some 110), none, (.k (.bin .add (.t 50) (.c (.sc (.int .i64 1)))))⟩, ⟨(some 50), none, (.k (.mov (.t 110)))⟩]))
def StoreOnce_12 : AC := (.seq (.cond (.t 51) .skip (.exit 0)) StoreOnce_13)
def StoreOnce_11 : AC := (.seq (.ops [⟨(some 51), none, (.k (.bin .lss (.t 50) (.t 49)))⟩]) StoreOnce_12)
def StoreOnce_10 : AC := (.loop StoreOnce_11)
def StoreOnce_9 : AC := (.block 0 StoreOnce_10)
def StoreOnce_8 : AC := (.seq (.ops [⟨(some 47), none, (.k (.fad 1 (.t 4)))⟩, ⟨(some 48), none, (.k (.ld 1 false (.t 47)))⟩, ⟨(some 49), none, (.k (.len (.t 48)))⟩, ⟨(some 50), none, (.k (.mov (.c (.sc (.int .i64 0)))))⟩]) StoreOnce_9)
def StoreOnce_7 : AC := (.seq StoreOnce_8 (.seq (.ops [⟨(some 111), none, (.k (.mov (.t 3)))⟩, ⟨(some 2), none, (.k (.mov (.t 111)))⟩]) .ret))
def StoreOnce_6 : AC := (.seq (.ops [⟨(some 36), none, (.k (.mov (.t 5)))⟩, ⟨(some 37), none, (.k (.bin .neq (.t 36) (.c (.sc (.int .i64 0)))))⟩, ⟨(some 38), none, (.k (.mov (.t 37)))⟩, ⟨(some 39), (some (38, false)), (.k (.fad 1 (.t 4)))⟩, ⟨(some 40), (some (38, false)), (.k (.ld 1 false (.t 39)))⟩, ⟨(some 41), (some (38, false)), (.k (.len (.t 40)))⟩, ⟨(some 42), (some (38, false)), (.k (.fad 3 (.t 1)))⟩, ⟨(some 43), (some (38, false)), (.k (.ld 1 false (.t 42)))⟩, ⟨(some 44), (some (38, false)), (.k (.len (.t 43)))⟩, ⟨(some 45), (some (38, false)), (.k (.bin .neq (.t 41) (.t 44)))⟩, ⟨(some 46), none, (.k (.pick (.t 38) (.c (.sc (.bool true))) (.t 45)))⟩]) (.cond (.t 46) (.seq (.ops [⟨(some 2), none, (.k (.mov (.c (.sc (.bool false)))))⟩]) .ret) .skip))
def StoreOnce_5 : AC := (.seq StoreOnce_6 StoreOnce_7)
def StoreOnce_4 : AC := (.seq (.ops [⟨(some 32), none, (.k (.ld 4 true (.t 1)))⟩, ⟨(some 33), none, (.call false (.c (.fn (.func 20) [] [])) [(.t 32)])⟩, ⟨(some 31), none, (.k (.mov (.t 33)))⟩, ⟨(some 34), none, (.k (.ext (.t 31) 0))⟩, ⟨(some 35), none, (.k (.ext (.t 31) 1))⟩, ⟨(some 4), none, (.k (.new 48 2 (.c (.agg [(.imm true none 0 []), (.imm true none 0 [])]))))⟩, ⟨none, none, (.k (.st 2 (.t 4) (.t 34)))⟩, ⟨(some 5), none, (.k (.mov (.t 35)))⟩]) StoreOnce_5)
def StoreOnce_3 : AC := (.seq (.ops [⟨(some 16), none, (.k (.ld 4 true (.t 1)))⟩, ⟨(some 17), none, (.call false (.c (.fn (.func 10) [] [])) [(.t 16)])⟩, ⟨(some 18), none, (.k (.un .not (.t 17)))⟩, ⟨(some 19), none, (.k (.mov (.t 18)))⟩, ⟨(some 20), (some (19, false)), (.k (.fad 3 (.t 1)))⟩, ⟨(some 21), (some (19, false)), (.k (.ld 1 false (.t 20)))⟩, ⟨(some 22), (some (19, false)), (.k (.len (.t 21)))⟩, ⟨(some 23), (some (19, false)), (.k (.bin .gtr (.t 22) (.c (.sc (.int .i64 300)))))⟩, ⟨(some 24), none, (.k (.pick (.t 19) (.c (.sc (.bool true))) (.t 23)))⟩, ⟨(some 25), none, (.k (.mov (.t 24)))⟩, ⟨(some 26), (some (25, false)), (.k (.ld 4 true (.t 1)))⟩, ⟨(some 27), (some (25, false)), (.call false (.c (.fn (.func 11) [] [])) [(.t 26)])⟩, ⟨(some 28), (some (25, false)), (.k (.bin .neq (.t 27) (.c (.sc (.int .i64 0)))))⟩, ⟨(some 29), none, (.k (.pick (.t 25) (.c (.sc (.bool true))) (.t 28)))⟩]) (.cond (.t 29) (.seq (.ops [⟨(some 30), none, (.k (.mov (.t 3)))⟩, ⟨(some 2), none, (.k (.mov (.t 30)))⟩]) .ret) .skip))
def StoreOnce_2 : AC := (.seq StoreOnce_3 StoreOnce_4)
def StoreOnce_1 : AC := (.seq (.ops [⟨(some 15), none, (.call false (.c (.fn (.func 9) [] [])) [])⟩, ⟨(some 3), none, (.k (.mov (.t 15)))⟩]) StoreOnce_2)
def StoreOnce_ac : AC := (.seq (.ops [⟨(some 1), none, (.k (.new 27 4 (.t 0)))⟩, ⟨(some 2), none, (.k (.mov (.c (.sc (.bool false)))))⟩]) StoreOnce_1)
theorem StoreOnce_call {args : List AV} {H : List AObj} {R : AV → List AObj → Prop} (h : AWp Try.prog [] H.length StoreOnce_ac (bodyQ H.length [(.t 2)] R) (args ++ List.replicate (112 - args.length) .und) H) : ACalls Try.prog 6 args H R :=
  ACalls.of_fn Try.func6 rfl (by kernel_rfl) rfl Try.ntmps6 h

set_option maxHeartbeats 4000000 in
theorem StoreOnce_spec {a : AV} {T : Tn} (ha : Tns a T) : ACalls Try.prog 6 [a] [] fun r H' => H' = [] ∧ r = Bo true := by
  have ha' := ha
  obtain ⟨S, F, xs, Vs⟩ := T
  obtain ⟨sh, f, l, v, rfl, hS, hF, hl, hV⟩ := ha
  simp only at hS hF hl hV
  have hS' := hS
  have hF' := hF
  have hl' := hl
  have hV' := hV
  obtain ⟨⟨nl, cl, sz, rfl, hs⟩, hlen, hx⟩ := hl
  obtain ⟨⟨nl1, c01, sz1, rfl, hs1⟩, hlen1, hx1⟩ := hS
  obtain ⟨⟨nl2, c02, sz2, rfl, hs2⟩, hlen2, hx2⟩ := hF
  obtain ⟨⟨nl3, c3, sz3, rfl, hs3⟩, hlen3, hx3⟩ := hV
  have base : ACalls Try.prog 6 [.agg [.imm nl1 c01 sz1 (S.map I), .imm nl2 c02 sz2 (F.map specV), .imm nl cl sz (xs.map lvV), .imm nl3 c3 sz3 (Vs.map I)]] [] fun r H' => r = Bo true := by
    apply StoreOnce_call
    repeat first | refine AWp.seq ?_ | refine AWp.block ?_
    refine AWp.ops ?_
    simp
    repeat first | refine AWp.seq ?_ | refine AWp.block ?_
    refine AWp.ops ?_
    simp
    refine (live05_spec.pure (by simp) (by rintro r rfl; simp) _).mono ?_
    rintro r H' ⟨rfl, rfl⟩
    simp
    repeat first | refine AWp.seq ?_ | refine AWp.block ?_
    refine AWp.ops ?_
    simp
    refine ((few_spec ha').pure (by simp) (by rintro r rfl; simp) _).mono ?_
    rintro r H' ⟨rfl, rfl⟩
    cases hfew : fewF ⟨S, F, xs, Vs⟩ with
    | false =>
      simp
      refine AWp.cond (b := true) (by simp) (fun _ => ?_) (fun h => by cases h)
      repeat first | refine AWp.seq ?_ | refine AWp.block ?_
      refine AWp.ops ?_
      simp
      refine AWp.ret ?_
      simp
      refine retOk.of rfl ?_
      simp
    | true =>
    simp only [fewF, Bool.and_eq_true, decide_eq_true_eq, List.all_eq_true] at hfew
    obtain ⟨hf1, hf2⟩ := hfew
    by_cases h300 : (300 : Int) < Vs.length
    · simp [h300]
      refine AWp.cond (b := true) (by simp) (fun _ => ?_) (fun h => by cases h)
      repeat first | refine AWp.seq ?_ | refine AWp.block ?_
      refine AWp.ops ?_
      simp
      refine AWp.ret ?_
      simp
      refine retOk.of rfl ?_
      simp
    have h300' : (Vs.length : Int) ≤ 300 := by omega
    simp [h300, h300']
    refine ((sCheck_spec hS' hF' hl' hV' (by omega) (by omega)).pure (by simp) (by rintro r rfl; simp) _).mono ?_
    rintro r H' ⟨rfl, rfl⟩
    simp
    by_cases h : tnCheck S F xs Vs = 0
    case neg =>
      refine AWp.cond (b := true) (by simp [h]) (fun _ => ?_) (fun h => by cases h)
      repeat first | refine AWp.seq ?_ | refine AWp.block ?_
      refine AWp.ops ?_
      simp
      refine AWp.ret ?_
      simp
      refine retOk.of rfl ?_
      simp
    refine AWp.cond (b := false) (by simp [h]) (fun h => by cases h) (fun _ => ?_)
    refine AWp.skip ?_
    simp only [qSeq]
    repeat first | refine AWp.seq ?_ | refine AWp.block ?_
    refine AWp.ops ?_
    simp
    refine ((sRead_ok hS' hF' hl' hV' (by omega) (by omega) (by omega) h).pure (by simp) (by
      rintro r ⟨s, e, rfl, ⟨⟨nl, c, sz, rfl, _⟩, _⟩, nl2, c2, sz2, es, rfl, _⟩; simp) _).mono ?_
    rintro r H' ⟨rfl, s, e, rfl, ⟨⟨nl5, c5, sz5, rfl, hs5⟩, hlen5, hx5⟩, nl6, c6, sz6, es, rfl, hs6, hs7, hE⟩
    simp
    repeat first | refine AWp.seq ?_ | refine AWp.block ?_
    refine AWp.ops ?_
    simp
    obtain ⟨E, hEE⟩ : ∃ E, E = entF F xs S Vs := ⟨_, rfl⟩
    rw [← hEE] at hs6 hE
    obtain ⟨o1, o2⟩ := once_law hx1 h hEE
    have hel := hE.1
    have hev : es.length = Vs.length := by omega
    refine AWp.cond (b := false) (by simp [hev]) (fun h => by cases h) (fun _ => ?_)
    refine AWp.skip ?_
    simp only [qSeq]
    repeat first | refine AWp.seq ?_ | refine AWp.block ?_
    refine AWp.ops ?_
    simp
    obtain ⟨J, hJ⟩ : ∃ J : Nat → List AV → List AObj → Prop, J = fun i fr H => i ≤ es.length ∧ (True) ∧ H = [tnO (.agg [.imm nl1 c01 sz1 (S.map I), .imm nl2 c02 sz2 (F.map specV), .imm nl cl sz (xs.map lvV), .imm nl3 c3 sz3 (Vs.map I)]), ⟨48, 2, [.agg [.imm nl5 c5 sz5 (S.map I), .imm nl6 c6 sz6 es]], true, none⟩] ∧
      fr = [.und, .ptr 0 1 0 0, Bo false, Bo true, .ptr 1 1 0 0, .und, .und, .und, .und, .und, .und, .und, .und, .und, .und, .und, .und, .und, .und, .und, .und, .und, .und, .und, .und, .und, .und, .und, .und, .und, .und, .und, .und, .und, .und, .und, .und, .und, .und, .und, .und, .und, .und, .und, .und, .und, .und, .und, .imm nl6 c6 sz6 es, I es.length, I i, .und, .und, .und, .und, .und, .und, .und, .und, .und, .und, .und, .und, .und, .und, .und, .und, .und, .und, .und, .und, .und, .und, .und, .und, .und, .und, .und, .und, .und, .und, .und, .und, .und, .und, .und, .und, .und, .und, .und, .und, .und, .und, .und, .und, .und, .und, .und, .und, .und, .und, .und, .und, .und, .und, .und, .und, .und, .und, .und, .und, .und] := ⟨_, rfl⟩
    refine AWp.block (AWp.loop J (fun i => es.length - i) 0 (Weak.slots [1, 2, 3, 4, 48, 49, 50]) (by rw [hJ]; exact ⟨by omega, trivial, by simp, by simp⟩) ?_)
    intro i fr H hI
    rw [hJ] at hI
    obtain ⟨hi, hinv, rfl, rfl⟩ := hI
    repeat first | refine AWp.seq ?_ | refine AWp.block ?_
    refine AWp.ops ?_
    simp
    refine AWp.seq (AWp.cond (b := decide (i < es.length)) (by simp <;> omega) ?_ ?_)
    ·
      intro hb
      have hb : i < es.length := by simpa using hb
      refine AWp.skip ?_
      simp only [qSeq]
      have hbe : i < es.length := hb
      have hb : i < Vs.length := by omega
      have hbE : i < E.length := by omega
      have hnl : nl6 = false := by
        cases nl6 with
        | false => rfl
        | true => have := hs6 rfl; rw [this] at hbE; simp at hbE
      have hsz := hs7 hnl
      subst hnl hsz
      have hszv := sz_of hs3 hb
      subst hszv
      obtain ⟨ai, hai, hai2⟩ := hE.2 i hbe hbE
      have hge : es[i]? = some (.agg [ai, I E[i].2]) := by rw [List.getElem?_eq_getElem hbe, hai]
      obtain ⟨v1, v2, v3, v4, v5⟩ := o2 i hbE
      have hvD : Vs.getD i 0 = Vs[i] := by simp [hb]
      rw [hvD] at v1 v4
      have hai' := hai2
      obtain ⟨⟨nl7, c7, sz7, rfl, hs7'⟩, hlen7, hx7⟩ := hai2
      repeat first | refine AWp.seq ?_ | refine AWp.block ?_
      refine AWp.ops ?_
      simp [hge]
      repeat first | refine AWp.seq ?_ | refine AWp.block ?_
      refine AWp.ops ?_
      simp
      refine ((At_spec hS' hai').pure (by simp) (by rintro r rfl; simp) _).mono ?_
      rintro r H' ⟨rfl, rfl⟩
      rw [v3, v1]
      simp
      repeat first | refine AWp.seq ?_ | refine AWp.block ?_
      refine AWp.ops ?_
      simp [hb]
      refine AWp.cond (b := false) (by simp) (fun h => by cases h) (fun _ => ?_)
      refine AWp.skip ?_
      simp only [qSeq]
      have hbI : (i : Int) ≤ es.length := by omega
      have hbn : ¬ i = es.length := by omega
      have hbN : ¬ (i : Int) = es.length := by omega
      have htk : (es.take i).length = i := by simp; omega
      repeat first | refine AWp.seq ?_ | refine AWp.block ?_
      refine AWp.ops ?_
      simp [hbI, hbn, hbN, htk]
      obtain ⟨ez, hez⟩ : ∃ ez, ez = es.take i := ⟨_, rfl⟩
      rw [← hez] at htk ⊢
      obtain ⟨JK, hJK⟩ : ∃ J : Nat → List AV → List AObj → Prop, J = fun iK fr H => iK ≤ i ∧ (True) ∧ H = [tnO (.agg [.imm nl1 c01 sz1 (S.map I), .imm nl2 c02 sz2 (F.map specV), .imm nl cl sz (xs.map lvV), .imm nl3 c3 1 (Vs.map I)]), ⟨48, 2, [.agg [.imm nl5 c5 sz5 (S.map I), .imm false c6 2 es]], true, none⟩, ⟨52, 2, [.agg [.imm nl7 c7 sz7 (E[i].1.map I), I Vs[i]]], true, none⟩] ∧
        fr = [.und, .ptr 0 1 0 0, Bo false, Bo true, .ptr 1 1 0 0, .und, I i, .ptr 2 1 0 0, .und, .und, .und, .und, .und, .und, .und, .und, .und, .und, .und, .und, .und, .und, .und, .und, .und, .und, .und, .und, .und, .und, .und, .und, .und, .und, .und, .und, .und, .und, .und, .und, .und, .und, .und, .und, .und, .und, .und, .und, .imm false c6 2 es, I es.length, I i, .und, .und, .und, .und, .und, .und, .und, .und, .und, .und, .und, .und, .und, .und, .und, .und, .und, .und, .und, .und, .und, .und, .und, .und, .und, .und, .und, .imm false (c6.map (· - 0)) 2 ez, I i, I iK, .und, .und, .und, .und, .und, .und, .und, .und, .und, .und, .und, .und, .und, .und, .und, .und, .und, .und, .und, .und, .und, .und, .und, .und, .und, .und, .und, .und, .und, .und, .und] := ⟨_, rfl⟩
      refine AWp.block (AWp.loop JK (fun iK => i - iK) 0 (Weak.slots [1, 2, 3, 4, 6, 7, 48, 49, 50, 78, 79, 80]) (by rw [hJK]; exact ⟨by omega, trivial, by simp, by simp⟩) ?_)
      intro iK fr H hI
      rw [hJK] at hI
      obtain ⟨hiK, hinvK, rfl, rfl⟩ := hI
      repeat first | refine AWp.seq ?_ | refine AWp.block ?_
      refine AWp.ops ?_
      simp
      refine AWp.seq (AWp.cond (b := decide (iK < i)) (by simp <;> omega) ?_ ?_)
      ·
        intro hb
        have hb : iK < i := by simpa using hb
        refine AWp.skip ?_
        simp only [qSeq]
        have hbe2 : iK < es.length := by omega
        have hbE2 : iK < E.length := by omega
        obtain ⟨ak, hak, hak2⟩ := hE.2 iK hbe2 hbE2
        have hgk : ez[iK]? = some (.agg [ak, I E[iK].2]) := by rw [hez, List.getElem?_take, if_pos (by omega), List.getElem?_eq_getElem hbe2, hak]
        have hne := v5 iK (by omega)
        have hak' := hak2
        obtain ⟨⟨nl8, c8, sz8, rfl, hs8'⟩, hlen8, hx8⟩ := hak2
        repeat first | refine AWp.seq ?_ | refine AWp.block ?_
        refine AWp.ops ?_
        simp [hgk]
        repeat first | refine AWp.seq ?_ | refine AWp.block ?_
        refine AWp.ops ?_
        simp
        refine ((rEqual_spec hai' hak').pure (by simp) (by rintro r rfl; simp) _).mono ?_
        rintro r H' ⟨rfl, rfl⟩
        have hne2 : decide (E[i].1 = E[iK].1) = false := by simpa using fun h => hne h.symm
        rw [hne2]
        simp
        refine AWp.cond (b := false) (by simp) (fun h => by cases h) (fun _ => ?_)
        refine AWp.skip ?_
        simp only [qSeq, qBlock]
        repeat first | refine AWp.seq ?_ | refine AWp.block ?_
        refine AWp.ops ?_
        simp
        refine ⟨iK + 1, _, _, (Weak.slots [1, 2, 3, 4, 6, 7, 48, 49, 50, 78, 79, 80]).trans (Weak.freeze 3 3 (by simp)), ?_, by omega⟩
        rw [hJK]
        refine ⟨by omega, ?_, by simp [frzH], by simp [wrap_i64 (n := (iK : Int) + 1) (by omega) (by omega)]⟩
        trivial
      ·
        intro hb
        have hb : ¬ iK < i := by simpa using hb
        refine AWp.exit ?_
        simp [qSeq, qBlock]
        repeat first | refine AWp.seq ?_ | refine AWp.block ?_
        refine AWp.ops ?_
        simp
        refine ((sGet_spec hS' hF' hl' hV' hai' (by omega) (by omega)).pure (by simp) (by rintro r rfl; simp) _).mono ?_
        rintro r H' ⟨rfl, rfl⟩
        rw [v4]
        simp
        repeat first | refine AWp.seq ?_ | refine AWp.block ?_
        refine AWp.ops ?_
        simp
        refine AWp.cond (b := false) (by simp) (fun h => by cases h) (fun _ => ?_)
        refine AWp.skip ?_
        simp only [qSeq, qBlock]
        repeat first | refine AWp.seq ?_ | refine AWp.block ?_
        refine AWp.ops ?_
        simp
        refine ⟨i + 1, _, _, (Weak.slots [1, 2, 3, 4, 48, 49, 50]).trans (Weak.freeze 2 3 (by simp)), ?_, by omega⟩
        rw [hJ]
        refine ⟨by omega, ?_, by simp [frzH], by simp [wrap_i64 (n := (i : Int) + 1) (by omega) (by omega)]⟩
        trivial
    ·
      intro hb
      have hb : ¬ i < es.length := by simpa using hb
      refine AWp.exit ?_
      simp [qSeq, qBlock]
      repeat first | refine AWp.seq ?_ | refine AWp.block ?_
      refine AWp.ops ?_
      simp
      refine AWp.ret ?_
      simp
      refine retOk.of rfl ?_
      rfl
  refine (base.frozen 2).mono ?_
  rintro q H' ⟨rfl, r, G, rfl, rfl⟩
  exact ⟨rfl, by simp⟩
end Go.Fw
