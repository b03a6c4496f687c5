import Derived.Test.YthipbeffhfdamaaFwlive05
import Derived.Test.YthipbeffhfdamaaFwfew05
import Derived.Test.YthipbeffhfdamaaFwonce2
import Derived.Test.YthipbeffhfdamaaFwstore11
import Derived.Test.YthipbeffhfdamaaFwempty1
import Derived.Test.YthipbeffhfdamaaFwcoord1
namespace Go.Fw
open Go Go.RowKit Go.Proofs
set_option maxRecDepth 100000
set_option linter.unusedSimpArgs false
set_option linter.unusedVariables false

theorem ISl.noRef {a : AV} {xs : List Int} (h : ISl a xs) : noRef a = true := by
  obtain ⟨⟨nl, c, sz, rfl, _⟩, _⟩ := h
  simp

def StoreDense_25 : AC := (.seq (.ops [⟨(some 88), none, (.k (.mov (.t 5)))⟩, ⟨(some 89), none, (.k (.mov (.t 88)))⟩, ⟨(some 90), (some (89, true)), (.k (.mov (.t 14)))⟩, ⟨(some 91), (some (89, true)), (.k (.bin .eql (.t 90) (.c (.sc (.int .i64 0)))))⟩, ⟨(some 92), none, (.k (.pick (.t 89) (.t 91) (.c (.sc (.bool false)))))⟩, ⟨(some 93), none, (.k (.mov (.t 92)))⟩, ⟨(some 94), (some (93, true)), (.k (.mov (.t 17)))⟩, ⟨(some 95), (some (93, true)), (.k (.bin .eql (.t 94) (.c (.sc (.int .i64 0)))))⟩, ⟨(some 96), none, (.k (.pick (.t 93) (.t 95) (.c (.sc (.bool false)))))⟩, ⟨(some 97), none, (.k (.mov (.t 96)))⟩, ⟨(some 98), (some (97, true)), (.k (.mov (.t 15)))⟩, ⟨(some 99), (some (97, true)), (.k (.fad 1 (.t 6)))⟩, ⟨(some 100), (some (97, true)), (.k (.ld 1 false (.t 99)))⟩, ⟨(some 101), (some (97, true)), (.k (.mov (.t 1)))⟩, ⟨(some 102), (some (97, true)), (.k (.iad 1 (.t 100) (.t 101)))⟩, ⟨(some 103), (some (97, true)), (.k (.ld 1 false (.t 102)))⟩, ⟨(some 104), (some (97, true)), (.k (.bin .eql (.t 98) (.t 103)))⟩, ⟨(some 105), none, (.k (.pick (.t 97) (.t 104) (.c (.sc (.bool false)))))⟩, ⟨(some 106), none, (.k (.mov (.t 105)))⟩, ⟨(some 107), (some (106, true)), (.k (.mov (.t 16)))⟩, ⟨(some 108), (some (106, true)), (.k (.mov (.t 107)))⟩, ⟨(some 109), (some (108, false)), (.k (.mov (.t 15)))⟩, ⟨(some 110), (some (108, false)), (.k (.bin .eql (.t 109) (.c (.sc (.int .i64 0)))))⟩, ⟨(some 111), (some (106, true)), (.k (.pick (.t 108) (.c (.sc (.bool true))) (.t 110)))⟩, ⟨(some 112), none, (.k (.pick (.t 106) (.t 111) (.c (.sc (.bool false)))))⟩, ⟨(some 4), none, (.k (.mov (.t 112)))⟩]) .ret)
def StoreDense_24 : AC := (.seq (.ops [⟨(some 82), none, (.k (.ld 4 true (.t 2)))⟩, ⟨(some 83), none, (.k (.mov (.t 13)))⟩, ⟨(some 84), none, (.call false (.c (.fn (.func 22) [] [])) [(.t 82), (.t 83)])⟩, ⟨(some 81), none, (.k (.mov (.t 84)))⟩, ⟨(some 85), none, (.k (.ext (.t 81) 0))⟩, ⟨(some 86), none, (.k (.ext (.t 81) 1))⟩, ⟨(some 87), none, (.k (.ext (.t 81) 2))⟩, ⟨(some 15), none, (.k (.mov (.t 85)))⟩, ⟨(some 16), none, (.k (.mov (.t 86)))⟩, ⟨(some 17), none, (.k (.mov (.t 87)))⟩]) StoreDense_25)
def StoreDense_23 : AC := (.seq (.ops [⟨(some 75), none, (.k (.fad 0 (.t 2)))⟩, ⟨(some 76), none, (.k (.ld 1 false (.t 75)))⟩, ⟨(some 77), none, (.k (.mov (.t 1)))⟩, ⟨(some 78), none, (.call false (.c (.fn (.func 25) [] [])) [(.t 76), (.t 77)])⟩, ⟨(some 74), none, (.k (.mov (.t 78)))⟩, ⟨(some 79), none, (.k (.ext (.t 74) 0))⟩, ⟨(some 80), none, (.k (.ext (.t 74) 1))⟩, ⟨(some 13), none, (.k (.mov (.t 79)))⟩, ⟨(some 14), none, (.k (.mov (.t 80)))⟩]) StoreDense_24)
def StoreDense_22 : AC := (.seq (.ops [⟨(some 61), none, (.k (.mov (.t 1)))⟩, ⟨(some 62), none, (.k (.fad 1 (.t 6)))⟩, ⟨(some 63), none, (.k (.ld 1 false (.t 62)))⟩, ⟨(some 64), none, (.k (.len (.t 63)))⟩, ⟨(some 65), none, (.k (.bin .rem (.t 61) (.t 64)))⟩, ⟨(some 66), none, (.k (.fad 1 (.t 6)))⟩, ⟨(some 67), none, (.k (.ld 1 false (.t 66)))⟩, ⟨(some 68), none, (.k (.len (.t 67)))⟩, ⟨(some 69), none, (.k (.bin .add (.t 65) (.t 68)))⟩, ⟨(some 70), none, (.k (.fad 1 (.t 6)))⟩, ⟨(some 71), none, (.k (.ld 1 false (.t 70)))⟩, ⟨(some 72), none, (.k (.len (.t 71)))⟩, ⟨(some 73), none, (.k (.bin .rem (.t 69) (.t 72)))⟩, ⟨(some 1), none, (.k (.mov (.t 73)))⟩]) StoreDense_23)
def StoreDense_21 : AC := (.seq (.ops [⟨(some 56), none, (.k (.fad 1 (.t 6)))⟩, ⟨(some 57), none, (.k (.ld 1 false (.t 56)))⟩, ⟨(some 58), none, (.k (.len (.t 57)))⟩, ⟨(some 59), none, (.k (.bin .eql (.t 58) (.c (.sc (.int .i64 0)))))⟩]) (.cond (.t 59) (.seq (.ops [⟨(some 60), none, (.k (.mov (.t 5)))⟩, ⟨(some 4), none, (.k (.mov (.t 60)))⟩]) .ret) .skip))
def StoreDense_20 : AC := (.seq StoreDense_21 StoreDense_22)
def StoreDense_19 : AC := (.seq (.ops [⟨(some 49), none, (.k (.mov (.t 9)))⟩, ⟨(some 50), none, (.k (.bin .neq (.t 49) (.c (.sc (.int .i64 0)))))⟩, ⟨(some 51), none, (.k (.mov (.t 50)))⟩, ⟨(some 52), (some (51, false)), (.k (.mov (.t 8)))⟩, ⟨(some 53), (some (51, false)), (.k (.mov (.t 10)))⟩, ⟨(some 54), (some (51, false)), (.k (.beq true (.t 52) (.t 53)))⟩, ⟨(some 55), none, (.k (.pick (.t 51) (.c (.sc (.bool true))) (.t 54)))⟩]) (.cond (.t 55) (.seq (.ops [⟨(some 4), none, (.k (.mov (.c (.sc (.bool false)))))⟩]) .ret) .skip))
def StoreDense_18 : AC := (.seq StoreDense_19 StoreDense_20)
def StoreDense_17 : AC := (.seq (.ops [⟨(some 41), none, (.k (.iad 1 (.t 37) (.t 39)))⟩, ⟨(some 42), none, (.k (.ld 1 false (.t 41)))⟩, ⟨(some 12), none, (.k (.mov (.t 42)))⟩]) (.ops [⟨(some 43), none, (.k (.mov (.t 10)))⟩, ⟨(some 44), none, (.k (.mov (.t 43)))⟩, ⟨(some 45), (some (44, true)), (.k (.mov (.t 12)))⟩, ⟨(some 46), (some (44, true)), (.k (.bin .eql (.t 45) (.c (.sc (.int .i64 0)))))⟩, ⟨(some 47), none, (.k (.pick (.t 44) (.t 46) (.c (.sc (.bool false)))))⟩, ⟨(some 10), none, (.k (.mov (.t 47)))⟩]))
def StoreDense_16 : AC := (.block 1 StoreDense_17)
def StoreDense_15 : AC := (.seq StoreDense_16 (.ops [⟨(some 48), none, (.k (.bin .add (.t 39) (.c (.sc (.int .i64 1)))))⟩, ⟨(some 39), none, (.k (.mov (.t 48)))⟩]))
def StoreDense_14 : AC := (.seq (.cond (.t 40) .skip (.exit 0)) StoreDense_15)
def StoreDense_13 : AC := (.seq (.ops [⟨(some 40), none, (.k (.bin .lss (.t 39) (.t 38)))⟩]) StoreDense_14)
def StoreDense_12 : AC := (.loop StoreDense_13)
def StoreDense_11 : AC := (.block 0 StoreDense_12)
def StoreDense_10 : AC := (.seq (.ops [⟨(some 36), none, (.k (.fad 1 (.t 6)))⟩, ⟨(some 37), none, (.k (.ld 1 false (.t 36)))⟩, ⟨(some 38), none, (.k (.len (.t 37)))⟩, ⟨(some 39), none, (.k (.mov (.c (.sc (.int .i64 0)))))⟩]) StoreDense_11)
def StoreDense_9 : AC := (.seq StoreDense_10 StoreDense_18)
def StoreDense_8 : AC := (.seq (.ops [⟨(some 10), none, (.k (.mov (.c (.sc (.bool true)))))⟩]) StoreDense_9)
def StoreDense_7 : AC := (.seq (.ops [⟨(some 32), none, (.k (.ld 4 true (.t 2)))⟩, ⟨(some 33), none, (.call false (.c (.fn (.func 24) [] [])) [(.t 32)])⟩, ⟨(some 31), none, (.k (.mov (.t 33)))⟩, ⟨(some 34), none, (.k (.ext (.t 31) 0))⟩, ⟨(some 35), none, (.k (.ext (.t 31) 1))⟩, ⟨(some 8), none, (.k (.mov (.t 34)))⟩, ⟨(some 9), none, (.k (.mov (.t 35)))⟩]) StoreDense_8)
def StoreDense_6 : AC := (.seq (.ops [⟨(some 28), none, (.k (.mov (.t 7)))⟩, ⟨(some 29), none, (.k (.bin .neq (.t 28) (.c (.sc (.int .i64 0)))))⟩]) (.cond (.t 29) (.seq (.ops [⟨(some 30), none, (.k (.mov (.t 5)))⟩, ⟨(some 4), none, (.k (.mov (.t 30)))⟩]) .ret) .skip))
def StoreDense_5 : AC := (.seq StoreDense_6 StoreDense_7)
def StoreDense_4 : AC := (.seq (.ops [⟨(some 24), none, (.k (.ld 4 true (.t 2)))⟩, ⟨(some 25), none, (.call false (.c (.fn (.func 23) [] [])) [(.t 24)])⟩, ⟨(some 23), none, (.k (.mov (.t 25)))⟩, ⟨(some 26), none, (.k (.ext (.t 23) 0))⟩, ⟨(some 27), none, (.k (.ext (.t 23) 1))⟩, ⟨(some 6), none, (.k (.new 57 2 (.c (.agg [(.imm true none 0 []), (.imm true none 0 [])]))))⟩, ⟨none, none, (.k (.st 2 (.t 6) (.t 26)))⟩, ⟨(some 7), none, (.k (.mov (.t 27)))⟩]) StoreDense_5)
def StoreDense_3 : AC := (.seq (.ops [⟨(some 19), none, (.k (.ld 4 true (.t 2)))⟩, ⟨(some 20), none, (.call false (.c (.fn (.func 10) [] [])) [(.t 19)])⟩, ⟨(some 21), none, (.k (.un .not (.t 20)))⟩]) (.cond (.t 21) (.seq (.ops [⟨(some 22), none, (.k (.mov (.t 5)))⟩, ⟨(some 4), none, (.k (.mov (.t 22)))⟩]) .ret) .skip))
def StoreDense_2 : AC := (.seq StoreDense_3 StoreDense_4)
def StoreDense_1 : AC := (.seq (.ops [⟨(some 18), none, (.call false (.c (.fn (.func 9) [] [])) [])⟩, ⟨(some 5), none, (.k (.mov (.t 18)))⟩]) StoreDense_2)
def StoreDense_ac : AC := (.seq (.ops [⟨(some 2), none, (.k (.new 27 4 (.t 0)))⟩, ⟨(some 4), none, (.k (.mov (.c (.sc (.bool false)))))⟩]) StoreDense_1)
theorem StoreDense_call {args : List AV} {H : List AObj} {R : AV → List AObj → Prop} (h : AWp Try.prog [] H.length StoreDense_ac (bodyQ H.length [(.t 4)] R) (args ++ List.replicate (113 - args.length) .und) H) : ACalls Try.prog 7 args H R :=
  ACalls.of_fn Try.func7 rfl (by kernel_rfl) rfl Try.ntmps7 h

set_option maxHeartbeats 4000000 in
theorem StoreDense_spec {a : AV} {T : Tn} {at_ : Int} (ha : Tns a T) (hat1 : -9223372036854775808 ≤ at_) (hat2 : at_ ≤ 9223372036854775807) : ACalls Try.prog 7 [a, I at_] [] fun r H' => H' = [] ∧ r = Bo true := by
  have ha' := ha
  obtain ⟨S, F, xs, Vs⟩ := T
  obtain ⟨sh, f, l, v, rfl, hS, hF, hl, hV⟩ := ha
  simp only at hS hF hl hV
  have hS' := hS
  have hF' := hF
  have hl' := hl
  have hV' := hV
  obtain ⟨⟨nl, cl, sz, rfl, hs⟩, hlen, hx⟩ := hl
  obtain ⟨⟨nl1, c01, sz1, rfl, hs1⟩, hlen1, hx1⟩ := hS
  obtain ⟨⟨nl2, c02, sz2, rfl, hs2⟩, hlen2, hx2⟩ := hF
  obtain ⟨⟨nl3, c3, sz3, rfl, hs3⟩, hlen3, hx3⟩ := hV
  have base : ACalls Try.prog 7 [.agg [.imm nl1 c01 sz1 (S.map I), .imm nl2 c02 sz2 (F.map specV), .imm nl cl sz (xs.map lvV), .imm nl3 c3 sz3 (Vs.map I)], I at_] [] fun r H' => r = Bo true := by
    apply StoreDense_call
    repeat first | refine AWp.seq ?_ | refine AWp.block ?_
    refine AWp.ops ?_
    simp
    repeat first | refine AWp.seq ?_ | refine AWp.block ?_
    refine AWp.ops ?_
    simp
    refine (live05_spec.pure (by simp) (by rintro r rfl; simp) _).mono ?_
    rintro r H' ⟨rfl, rfl⟩
    simp
    repeat first | refine AWp.seq ?_ | refine AWp.block ?_
    refine AWp.ops ?_
    simp
    refine ((few_spec ha').pure (by simp) (by rintro r rfl; simp) _).mono ?_
    rintro r H' ⟨rfl, rfl⟩
    cases hfew : fewF ⟨S, F, xs, Vs⟩ with
    | false =>
      simp
      refine AWp.cond (b := true) (by simp) (fun _ => ?_) (fun h => by cases h)
      repeat first | refine AWp.seq ?_ | refine AWp.block ?_
      refine AWp.ops ?_
      simp
      refine AWp.ret ?_
      simp
      refine retOk.of rfl ?_
      simp
    | true =>
    simp only [fewF, Bool.and_eq_true, decide_eq_true_eq, List.all_eq_true] at hfew
    obtain ⟨hf1, hf2⟩ := hfew
    simp
    refine AWp.cond (b := false) (by simp) (fun h => by cases h) (fun _ => ?_)
    refine AWp.skip ?_
    simp only [qSeq]
    repeat first | refine AWp.seq ?_ | refine AWp.block ?_
    refine AWp.ops ?_
    simp
    refine ((sDense_spec hS' hF' hl' hV' (by omega) (by omega) (fun h hz => den_good ⟨hlen1, hx1⟩ h hz)).pure (by simp) (by rintro r ⟨d, rfl, ⟨s, v, rfl, h1, h2⟩⟩; simp [h1.noRef, h2.noRef]) _).mono ?_
    rintro r H' ⟨rfl, d, rfl, hd⟩
    obtain ⟨ds, dv, rfl, hds, hdv⟩ := hd
    have hds' := hds
    have hdv' := hdv
    obtain ⟨⟨nl5, c5, z5, rfl, hz5⟩, _⟩ := hds
    obtain ⟨⟨nl6, c6, z6, rfl, hz6⟩, hl6, hx6⟩ := hdv
    simp
    repeat first | refine AWp.seq ?_ | refine AWp.block ?_
    refine AWp.ops ?_
    simp
    by_cases he : (denseF S F xs Vs).2 = 0
    case neg =>
      refine AWp.cond (b := true) (by simp [he]) (fun _ => ?_) (fun h => by cases h)
      repeat first | refine AWp.seq ?_ | refine AWp.block ?_
      refine AWp.ops ?_
      simp
      refine AWp.ret ?_
      simp
      refine retOk.of rfl ?_
      rfl
    refine AWp.cond (b := false) (by simp [he]) (fun h => by cases h) (fun _ => ?_)
    have h0 : tnCheck S F xs Vs = 0 := by
      unfold denseF at he
      split at he
      · exact absurd he ‹_›
      · omega
    have hz : (zeroF S).2 = 0 := by
      unfold denseF at he
      rw [if_neg (by omega)] at he
      split at he
      · exact absurd he ‹_›
      · omega
    obtain ⟨D, hD⟩ : ∃ D, D = walkF (denStep S Vs) xs F (List.replicate S.length 0) 0 (zeroF S).1.2 := ⟨_, rfl⟩
    have hde : denseF S F xs Vs = ((S, D), 0) := by rw [denseF, if_neg (by omega), if_neg (by omega), hD]
    obtain ⟨l1, l2, l3⟩ := dense_get hx1 h0 hz hD
    have hDl : (D.length : Int) ≤ 65536 := by
      obtain ⟨hc, -, hzl, hz2⟩ := zero_len hz
      have := (laid_ok (xs := S) (by
        unfold zeroF at hz
        split at hz
        · exact absurd hz ‹_›
        · rename_i h'; simpa using h')).2
      obtain ⟨n, hn, hn2⟩ := this
      have e : laidF S = cells S := by
        unfold laidF at hn ⊢
        split
        · rename_i hb; rw [if_pos hb] at hn
          exfalso
          unfold zeroF laidF at hz
          rw [if_pos hb] at hz
          simp at hz
        · rfl
      rw [e] at hn
      omega
    have hem : emptyF S F xs Vs = (!Vs.any (fun x => x != 0), 0) := by rw [emptyF, if_neg (by omega)]
    obtain ⟨none_, hnone⟩ : ∃ n, n = !Vs.any (fun x => x != 0) := ⟨_, rfl⟩
    have hnz : none_ = D.all (fun x => x == 0) := by
      rw [hnone, Bool.eq_iff_iff]
      simp only [Bool.not_eq_true', List.any_eq_false, bne_iff_ne, ne_eq, Decidable.not_not, List.all_eq_true, beq_iff_eq]
      exact l3.symm
    rw [← hnone] at hem
    rw [hde] at hds' hdv' hz5 hz6 hl6 hx6 ⊢
    simp only at hds' hdv' hz5 hz6 hl6 hx6 ⊢
    refine AWp.skip ?_
    simp only [qSeq]
    repeat first | refine AWp.seq ?_ | refine AWp.block ?_
    refine AWp.ops ?_
    simp
    refine ((sEmpty_spec hS' hF' hl' hV' (by omega) (by omega)).pure (by simp) (by rintro r rfl; simp) _).mono ?_
    rintro r H' ⟨rfl, rfl⟩
    rw [hem]
    simp
    repeat first | refine AWp.seq ?_ | refine AWp.block ?_
    refine AWp.ops ?_
    simp
    repeat first | refine AWp.seq ?_ | refine AWp.block ?_
    refine AWp.ops ?_
    simp
    obtain ⟨J, hJ⟩ : ∃ J : Nat → List AV → List AObj → Prop, J = fun i fr H => i ≤ D.length ∧ ∃ (zb : Bool), (zb = (D.take i).all (fun x => x == 0)) ∧ H = [tnO (.agg [.imm nl1 c01 sz1 (S.map I), .imm nl2 c02 sz2 (F.map specV), .imm nl cl sz (xs.map lvV), .imm nl3 c3 sz3 (Vs.map I)]), ⟨57, 2, [.agg [.imm nl5 c5 z5 (S.map I), .imm nl6 c6 z6 (D.map I)]], true, none⟩] ∧
      fr = [.und, I at_, .ptr 0 1 0 0, .und, .und, Bo true, .ptr 1 1 0 0, .und, Bo none_, I 0, Bo zb, .und, .und, .und, .und, .und, .und, .und, .und, .und, .und, .und, .und, .und, .und, .und, .und, .und, .und, .und, .und, .und, .und, .und, .und, .und, .und, .imm nl6 c6 z6 (D.map I), I D.length, I i, .und, .und, .und, .und, .und, .und, .und, .und, .und, .und, .und, .und, .und, .und, .und, .und, .und, .und, .und, .und, .und, .und, .und, .und, .und, .und, .und, .und, .und, .und, .und, .und, .und, .und, .und, .und, .und, .und, .und, .und, .und, .und, .und, .und, .und, .und, .und, .und, .und, .und, .und, .und, .und, .und, .und, .und, .und, .und, .und, .und, .und, .und, .und, .und, .und, .und, .und, .und, .und, .und, .und, .und, .und] := ⟨_, rfl⟩
    refine AWp.block (AWp.loop J (fun i => D.length - i) 0 (Weak.slots [1, 2, 5, 6, 8, 9, 10, 37, 38, 39]) (by rw [hJ]; exact ⟨by omega, true, by simp, by simp, by simp⟩) ?_)
    intro i fr H hI
    rw [hJ] at hI
    obtain ⟨hi, zb, hinv, rfl, rfl⟩ := hI
    repeat first | refine AWp.seq ?_ | refine AWp.block ?_
    refine AWp.ops ?_
    simp
    refine AWp.seq (AWp.cond (b := decide (i < D.length)) (by simp <;> omega) ?_ ?_)
    ·
      intro hb
      have hb : i < D.length := by simpa using hb
      refine AWp.skip ?_
      simp only [qSeq]
      have hsz6 := sz_of hz6 hb
      subst hsz6
      have hall : (D.take (i + 1)).all (fun x => x == 0) = ((D.take i).all (fun x => x == 0) && (D[i] == 0)) := by
        rw [List.take_succ_eq_append_getElem hb, List.all_append]; simp
      rw [← hinv] at hall
      repeat first | refine AWp.seq ?_ | refine AWp.block ?_
      refine AWp.ops ?_
      simp [hb]
      have hwi := wrap_i64 (n := (i : Int) + 1) (by omega) (by omega)
      cases zb with
      | false =>
        repeat first | refine AWp.seq ?_ | refine AWp.block ?_
        refine AWp.ops ?_
        simp
        repeat first | refine AWp.seq ?_ | refine AWp.block ?_
        refine AWp.ops ?_
        simp [hwi]
        refine ⟨i + 1, _, _, Weak.slots [1, 2, 5, 6, 8, 9, 10, 37, 38, 39], ?_, by omega⟩
        rw [hJ]
        refine ⟨by omega, false, ?_, by simp, by simp [wrap_i64 (n := (i : Int) + 1) (by omega) (by omega)]⟩
        rw [hall]; rfl
      | true =>
        repeat first | refine AWp.seq ?_ | refine AWp.block ?_
        refine AWp.ops ?_
        simp
        repeat first | refine AWp.seq ?_ | refine AWp.block ?_
        refine AWp.ops ?_
        simp [hwi]
        refine ⟨i + 1, _, _, Weak.slots [1, 2, 5, 6, 8, 9, 10, 37, 38, 39], ?_, by omega⟩
        rw [hJ]
        refine ⟨by omega, (D[i] == 0), ?_, by simp, by simp [wrap_i64 (n := (i : Int) + 1) (by omega) (by omega)]⟩
        rw [hall]; rfl
    ·
      intro hb
      have hb : ¬ i < D.length := by simpa using hb
      refine AWp.exit ?_
      simp [qSeq, qBlock]
      rw [List.take_of_length_le (by omega), ← hnz] at hinv
      subst hinv
      repeat first | refine AWp.seq ?_ | refine AWp.block ?_
      refine AWp.ops ?_
      simp
      refine AWp.cond (b := false) (by simp) (fun h => by cases h) (fun _ => ?_)
      refine AWp.skip ?_
      simp only [qSeq]
      by_cases hD0 : D = []
      ·
        repeat first | refine AWp.seq ?_ | refine AWp.block ?_
        refine AWp.ops ?_
        simp [hD0]
        refine AWp.cond (b := true) (by simp) (fun _ => ?_) (fun h => by cases h)
        repeat first | refine AWp.seq ?_ | refine AWp.block ?_
        refine AWp.ops ?_
        simp
        refine AWp.ret ?_
        simp
        refine retOk.of rfl ?_
        rfl
      have hDp : 0 < D.length := List.length_pos_iff.2 hD0
      have hDne : ¬ (D.length : Int) = 0 := by omega
      have hDne' : ¬ D.length = 0 := by omega
      repeat first | refine AWp.seq ?_ | refine AWp.block ?_
      refine AWp.ops ?_
      simp [hDne, hDne', hD0]
      refine AWp.cond (b := false) (by simp [hD0]) (fun h => by cases h) (fun _ => ?_)
      refine AWp.skip ?_
      simp only [qSeq]
      obtain ⟨M, hM⟩ : ∃ M : Int, M = D.length := ⟨_, rfl⟩
      rw [← hM] at hDne hDl l1 ⊢
      have t1 := Int.tmod_lt_of_pos at_ (b := M) (by omega)
      have t2 := Int.lt_tmod_of_pos at_ (b := M) (by omega)
      have w1 : IntKind.i64.wrap (at_.tmod M + M) = at_.tmod M + M := wrap_i64 (by omega) (by omega)
      obtain ⟨k, hk⟩ : ∃ k, k = (at_.tmod M + M).tmod M := ⟨_, rfl⟩
      have k0 : 0 ≤ k := by rw [hk]; exact Int.tmod_nonneg _ (by omega)
      have k1 : k < M := by rw [hk]; exact Int.tmod_lt_of_pos _ (by omega)
      obtain ⟨kn, hkn⟩ : ∃ kn : Nat, k = kn := ⟨k.toNat, by omega⟩
      have hkD : kn < D.length := by omega
      have hc := (zero_len hz).1
      have eF : coordF S k = (placeF S k, 0) := by
        have h1' : ¬ k < 0 := by omega
        have h2' : ¬ (cells S).1 ≤ k := by omega
        simp [coordF, hc, h1', h2']
      obtain ⟨g1, g2, g3⟩ := l2 kn hkD
      rw [← hkn] at g1 g2 g3
      have hDk : D.getD kn 0 = D[kn] := by simp [hkD]
      rw [hDk] at g2 g3
      have hsz6 := sz_of hz6 hkD
      subst hsz6
      repeat first | refine AWp.seq ?_ | refine AWp.block ?_
      refine AWp.ops ?_
      simp [← hM, hDne, hD0, w1]
      rw [← hk]
      repeat first | refine AWp.seq ?_ | refine AWp.block ?_
      refine AWp.ops ?_
      simp
      refine ((Coord_pure hS' (n := k) (by omega) (by omega)).pure (by simp) (by rintro r ⟨s, rfl, h⟩; simp [h.noRef]) _).mono ?_
      rw [eF]
      rintro r H' ⟨rfl, sc, rfl, hsc⟩
      simp only at hsc
      have hsc' := hsc
      obtain ⟨⟨nl7, c7, z7, rfl, _⟩, _⟩ := hsc
      simp
      repeat first | refine AWp.seq ?_ | refine AWp.block ?_
      refine AWp.ops ?_
      simp
      refine ((sGet_spec hS' hF' hl' hV' hsc' (by omega) (by omega)).pure (by simp) (by rintro r rfl; simp) _).mono ?_
      rintro r H' ⟨rfl, rfl⟩
      rw [g1, g2]
      generalize (getF S F xs Vs (placeF S k)).1.2 = is_ at g3
      simp
      cases is_ with
      | true =>
        repeat first | refine AWp.seq ?_ | refine AWp.block ?_
        refine AWp.ops ?_
        simp [hkn, hkD]
        refine AWp.ret ?_
        simp
        refine retOk.of rfl ?_
        rfl
      | false =>
        have g3 : D[kn] = 0 := by simpa using g3
        repeat first | refine AWp.seq ?_ | refine AWp.block ?_
        refine AWp.ops ?_
        simp [hkn, hkD, g3]
        refine AWp.ret ?_
        simp
        refine retOk.of rfl ?_
        rfl
  refine (base.frozen 2).mono ?_
  rintro q H' ⟨rfl, r, G, rfl, rfl⟩
  exact ⟨rfl, by simp⟩
end Go.Fw
