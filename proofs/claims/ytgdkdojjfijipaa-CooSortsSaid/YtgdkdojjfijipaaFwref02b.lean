import Derived.Test.YtgdkdojjfijipaaFwcoo1
import Derived.Test.YtgdkdojjfijipaaFwref01b
namespace Go.Fw
open Go Go.RowKit Go.Proofs
set_option maxRecDepth 100000
set_option linter.unusedSimpArgs false
set_option linter.unusedVariables false

def rcCheck_16 : AC := (.seq (.ops [⟨(some 37), none, (.k (.mov (.t 8)))⟩, ⟨(some 38), none, (.k (.bin .neq (.t 37) (.c (.sc (.int .i64 0)))))⟩]) (.cond (.t 38) (.seq (.ops [⟨(some 2), none, (.k (.mov (.c (.sc (.int .i64 3)))))⟩]) .ret) .skip))
def rcCheck_15 : AC := (.seq (.ops [⟨(some 30), none, (.k (.fad 0 (.t 1)))⟩, ⟨(some 31), none, (.k (.ld 1 false (.t 30)))⟩, ⟨(some 32), none, (.k (.fad 0 (.t 6)))⟩, ⟨(some 33), none, (.k (.ld 1 false (.t 32)))⟩, ⟨(some 34), none, (.call false (.c (.fn (.func 57) [] [])) [(.t 31), (.t 33)])⟩, ⟨(some 29), none, (.k (.mov (.t 34)))⟩, ⟨(some 35), none, (.k (.ext (.t 29) 0))⟩, ⟨(some 36), none, (.k (.ext (.t 29) 1))⟩, ⟨(some 7), none, (.k (.mov (.t 35)))⟩, ⟨(some 8), none, (.k (.mov (.t 36)))⟩]) rcCheck_16)
def rcCheck_14 : AC := (.seq (.ops [⟨(some 27), none, (.k (.iad 2 (.t 23) (.t 25)))⟩, ⟨(some 28), none, (.k (.ld 2 true (.t 27)))⟩, ⟨(some 6), none, (.k (.new 38 2 (.c (.agg [(.imm true none 0 []), (.sc (.int .i64 0))]))))⟩, ⟨none, none, (.k (.st 2 (.t 6) (.t 28)))⟩]) rcCheck_15)
def rcCheck_13 : AC := (.block 1 rcCheck_14)
def rcCheck_12 : AC := (.seq rcCheck_13 (.ops [⟨(some 39), none, (.k (.bin .add (.t 25) (.c (.sc (.int .i64 1)))))⟩, ⟨(some 25), none, (.k (.mov (.t 39)))⟩]))
def rcCheck_11 : AC := (.seq (.cond (.t 26) .skip (.exit 0)) rcCheck_12)
def rcCheck_10 : AC := (.seq (.ops [⟨(some 26), none, (.k (.bin .lss (.t 25) (.t 24)))⟩]) rcCheck_11)
def rcCheck_9 : AC := (.loop rcCheck_10)
def rcCheck_8 : AC := (.block 0 rcCheck_9)
def rcCheck_7 : AC := (.seq (.ops [⟨(some 22), none, (.k (.fad 1 (.t 1)))⟩, ⟨(some 23), none, (.k (.ld 1 false (.t 22)))⟩, ⟨(some 24), none, (.k (.len (.t 23)))⟩, ⟨(some 25), none, (.k (.mov (.c (.sc (.int .i64 0)))))⟩]) rcCheck_8)
def rcCheck_6 : AC := (.seq rcCheck_7 (.seq (.ops [⟨(some 2), none, (.k (.mov (.c (.sc (.int .i64 0)))))⟩]) .ret))
def rcCheck_5 : AC := (.seq (.ops [⟨(some 18), none, (.k (.fad 1 (.t 1)))⟩, ⟨(some 19), none, (.k (.ld 1 false (.t 18)))⟩, ⟨(some 20), none, (.k (.len (.t 19)))⟩, ⟨(some 21), none, (.k (.bin .gtr (.t 20) (.c (.sc (.int .i64 65536)))))⟩]) (.cond (.t 21) (.seq (.ops [⟨(some 2), none, (.k (.mov (.c (.sc (.int .i64 2)))))⟩]) .ret) .skip))
def rcCheck_4 : AC := (.seq rcCheck_5 rcCheck_6)
def rcCheck_3 : AC := (.seq (.ops [⟨(some 15), none, (.k (.mov (.t 4)))⟩, ⟨(some 16), none, (.k (.bin .neq (.t 15) (.c (.sc (.int .i64 0)))))⟩]) (.cond (.t 16) (.seq (.ops [⟨(some 17), none, (.k (.mov (.t 4)))⟩, ⟨(some 2), none, (.k (.mov (.t 17)))⟩]) .ret) .skip))
def rcCheck_2 : AC := (.seq (.ops [⟨(some 10), none, (.k (.fad 0 (.t 1)))⟩, ⟨(some 11), none, (.k (.ld 1 false (.t 10)))⟩, ⟨(some 12), none, (.call false (.c (.fn (.func 56) [] [])) [(.t 11)])⟩, ⟨(some 9), none, (.k (.mov (.t 12)))⟩, ⟨(some 13), none, (.k (.ext (.t 9) 0))⟩, ⟨(some 14), none, (.k (.ext (.t 9) 1))⟩, ⟨(some 3), none, (.k (.mov (.t 13)))⟩, ⟨(some 4), none, (.k (.mov (.t 14)))⟩]) rcCheck_3)
def rcCheck_1 : AC := (.seq rcCheck_2 rcCheck_4)
def rcCheck_ac : AC := (.seq (.ops [⟨(some 1), none, (.k (.new 25 2 (.t 0)))⟩, ⟨(some 2), none, (.k (.mov (.c (.sc (.int .i64 0)))))⟩]) rcCheck_1)
theorem rcCheck_call {args : List AV} {H : List AObj} {R : AV → List AObj → Prop} (h : AWp Try.prog [] H.length rcCheck_ac (bodyQ H.length [(.t 2)] R) (args ++ List.replicate (40 - args.length) .und) H) : ACalls Try.prog 28 args H R :=
  ACalls.of_fn Try.func28 rfl (by kernel_rfl) rfl Try.ntmps28 h

theorem rcCheck_spec {a : AV} {X : List Int × List (List Int × Int)} (ha : Coo a X) : ACalls Try.prog 28 [a] [] fun r H' => H' = [] ∧ r = I (cooCheck X.1 X.2) := by
  obtain ⟨S, E⟩ := X
  obtain ⟨s, e, rfl, hS, hE⟩ := ha
  simp only at hS hE
  have hS' := hS
  obtain ⟨⟨nl1, c01, sz1, rfl, hs1⟩, hlen1, hx1⟩ := hS
  obtain ⟨nl, cl, sz, es, rfl, he1, he2, hE⟩ := hE
  have hel := hE.1
  have base : ACalls Try.prog 28 [.agg [.imm nl1 c01 sz1 (S.map I), .imm nl cl sz es]] [] fun r H' => r = I (cooCheck S E) := by
    apply rcCheck_call
    repeat first | refine AWp.seq ?_ | refine AWp.block ?_
    refine AWp.ops ?_
    simp
    repeat first | refine AWp.seq ?_ | refine AWp.block ?_
    refine AWp.ops ?_
    simp
    refine ((rCells_spec hS').pure (by simp) (by rintro r rfl; simp) _).mono ?_
    rintro r H' ⟨rfl, rfl⟩
    simp
    repeat first | refine AWp.seq ?_ | refine AWp.block ?_
    refine AWp.ops ?_
    simp
    by_cases h : (cells S).2 = 0
    case neg =>
      refine AWp.cond (b := true) (by simp [h]) (fun _ => ?_) (fun h => by cases h)
      repeat first | refine AWp.seq ?_ | refine AWp.block ?_
      refine AWp.ops ?_
      simp
      refine AWp.ret ?_
      simp
      refine retOk.of rfl ?_
      rw [cooCheck, if_pos h]; simp
    refine AWp.cond (b := false) (by simp [h]) (fun h => by cases h) (fun _ => ?_)
    refine AWp.skip ?_
    simp only [qSeq]
    repeat first | refine AWp.seq ?_ | refine AWp.block ?_
    refine AWp.ops ?_
    simp
    by_cases h2 : E.length > 65536
    · have g2 : (65536 : Int) < es.length := by omega
      refine AWp.cond (b := true) (by simp [g2]) (fun _ => ?_) (fun h => by cases h)
      repeat first | refine AWp.seq ?_ | refine AWp.block ?_
      refine AWp.ops ?_
      simp
      refine AWp.ret ?_
      simp
      refine retOk.of rfl ?_
      rw [cooCheck, if_neg (by omega), if_pos h2]; simp
    have g2 : ¬ (65536 : Int) < es.length := by omega
    refine AWp.cond (b := false) (by simp; omega) (fun h => by cases h) (fun _ => ?_)
    refine AWp.skip ?_
    simp only [qSeq]
    repeat first | refine AWp.seq ?_ | refine AWp.block ?_
    refine AWp.ops ?_
    simp
    obtain ⟨J, hJ⟩ : ∃ J : Nat → List AV → List AObj → Prop, J = fun i fr H => i ≤ es.length ∧ ((E.take i).any (fun t => decide ((atF S t.1).2 ≠ 0)) = false) ∧ H = [cooO (.agg [.imm nl1 c01 sz1 (S.map I), .imm nl cl sz es])] ∧
      fr = [.und, .ptr 0 1 0 0, I 0, .und, .und, .und, .und, .und, .und, .und, .und, .und, .und, .und, .und, .und, .und, .und, .und, .und, .und, .und, .und, .imm nl cl sz es, I es.length, I i, .und, .und, .und, .und, .und, .und, .und, .und, .und, .und, .und, .und, .und, .und] := ⟨_, rfl⟩
    refine AWp.block (AWp.loop J (fun i => es.length - i) 0 (Weak.slots [1, 2, 23, 24, 25]) (by rw [hJ]; exact ⟨by omega, by simp, by simp, by simp⟩) ?_)
    intro i fr H hI
    rw [hJ] at hI
    obtain ⟨hi, hinv, rfl, rfl⟩ := hI
    repeat first | refine AWp.seq ?_ | refine AWp.block ?_
    refine AWp.ops ?_
    simp
    refine AWp.seq (AWp.cond (b := decide (i < es.length)) (by simp <;> omega) ?_ ?_)
    ·
      intro hb
      have hb : i < es.length := by simpa using hb
      refine AWp.skip ?_
      simp only [qSeq]
      have hbE : i < E.length := by omega
      obtain ⟨ai, hai, hai2⟩ := hE.get hbE
      have hnl : nl = false := by
        cases nl with
        | false => rfl
        | true => have := he1 rfl; rw [this] at hbE; simp at hbE
      have hsz := he2 hnl
      subst hnl hsz
      have hai' := hai2
      obtain ⟨⟨nl7, c7, sz7, rfl, hs7'⟩, hlen7, hx7⟩ := hai2
      have hall : (E.take (i + 1)).any (fun t => decide ((atF S t.1).2 ≠ 0)) = decide ((atF S E[i].1).2 ≠ 0) := by
        rw [List.take_succ_eq_append_getElem hbE, List.any_append, hinv]; simp
      repeat first | refine AWp.seq ?_ | refine AWp.block ?_
      refine AWp.ops ?_
      simp [hai]
      repeat first | refine AWp.seq ?_ | refine AWp.block ?_
      refine AWp.ops ?_
      simp
      refine ((rAt_spec hS' hai').pure (by simp) (by rintro r rfl; simp) _).mono ?_
      rintro r H' ⟨rfl, rfl⟩
      simp
      repeat first | refine AWp.seq ?_ | refine AWp.block ?_
      refine AWp.ops ?_
      simp
      by_cases hat : (atF S E[i].1).2 = 0
      case neg =>
        refine AWp.cond (b := true) (by simp [hat]) (fun _ => ?_) (fun h => by cases h)
        repeat first | refine AWp.seq ?_ | refine AWp.block ?_
        refine AWp.ops ?_
        simp
        refine AWp.ret ?_
        simp
        refine retOk.of rfl ?_
        have : E.any (fun t => decide ((atF S t.1).2 ≠ 0)) = true := by
          rw [List.any_eq_true]
          exact ⟨E[i], List.getElem_mem hbE, by simp [hat]⟩
        rw [cooCheck, if_neg (by omega), if_neg h2, if_pos this]; simp
      refine AWp.cond (b := false) (by simp [hat]) (fun h => by cases h) (fun _ => ?_)
      refine AWp.skip ?_
      simp only [qSeq, qBlock]
      repeat first | refine AWp.seq ?_ | refine AWp.block ?_
      refine AWp.ops ?_
      simp
      refine ⟨i + 1, _, _, (Weak.slots [1, 2, 23, 24, 25]).trans (Weak.freeze 1 3 (by simp)), ?_, by omega⟩
      rw [hJ]
      refine ⟨by omega, ?_, by simp [frzH], by simp [wrap_i64 (n := (i : Int) + 1) (by omega) (by omega)]⟩
      rw [hall]; simp [hat]
    ·
      intro hb
      have hb : ¬ i < es.length := by simpa using hb
      refine AWp.exit ?_
      simp [qSeq, qBlock]
      rw [List.take_of_length_le (by omega)] at hinv
      repeat first | refine AWp.seq ?_ | refine AWp.block ?_
      refine AWp.ops ?_
      simp
      refine AWp.ret ?_
      simp
      refine retOk.of rfl ?_
      rw [cooCheck, if_neg (by omega), if_neg h2, if_neg (by rw [hinv]; simp)]; simp
  refine (base.frozen 2).mono ?_
  rintro q H' ⟨rfl, r, G, rfl, rfl⟩
  exact ⟨rfl, by simp⟩
end Go.Fw
