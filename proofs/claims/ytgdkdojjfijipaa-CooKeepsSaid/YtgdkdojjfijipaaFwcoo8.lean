import Derived.Test.YtgdkdojjfijipaaFwcoo1
import Derived.Test.YtgdkdojjfijipaaFweq1
namespace Go.Fw
open Go Go.RowKit Go.Proofs
set_option maxRecDepth 100000
set_option linter.unusedSimpArgs false
set_option linter.unusedVariables false

def same1_1 : AC := (.seq (.ops [⟨(some 5), none, (.k (.fad 1 (.t 2)))⟩, ⟨(some 6), none, (.k (.ld 1 false (.t 5)))⟩, ⟨(some 7), none, (.k (.fad 1 (.t 3)))⟩, ⟨(some 8), none, (.k (.ld 1 false (.t 7)))⟩, ⟨(some 9), none, (.k (.bin .eql (.t 6) (.t 8)))⟩, ⟨(some 10), none, (.k (.mov (.t 9)))⟩, ⟨(some 11), (some (10, true)), (.k (.fad 0 (.t 2)))⟩, ⟨(some 12), (some (10, true)), (.k (.ld 1 false (.t 11)))⟩, ⟨(some 13), (some (10, true)), (.k (.fad 0 (.t 3)))⟩, ⟨(some 14), (some (10, true)), (.k (.ld 1 false (.t 13)))⟩, ⟨(some 15), (some (10, true)), (.call false (.c (.fn (.func 49) [] [])) [(.t 12), (.t 14)])⟩, ⟨(some 16), none, (.k (.pick (.t 10) (.t 15) (.c (.sc (.bool false)))))⟩, ⟨(some 4), none, (.k (.mov (.t 16)))⟩]) .ret)
def same1_ac : AC := (.seq (.ops [⟨(some 2), none, (.k (.new 38 2 (.t 0)))⟩, ⟨(some 3), none, (.k (.new 38 2 (.t 1)))⟩, ⟨(some 4), none, (.k (.mov (.c (.sc (.bool false)))))⟩]) same1_1)
theorem same1_call {args : List AV} {H : List AObj} {R : AV → List AObj → Prop} (h : AWp Try.prog [] H.length same1_ac (bodyQ H.length [(.t 4)] R) (args ++ List.replicate (17 - args.length) .und) H) : ACalls Try.prog 51 args H R :=
  ACalls.of_fn Try.func51 rfl (by kernel_rfl) rfl Try.ntmps51 h

theorem same1_spec {a c : AV} {A C : List Int} {v w : Int} (ha : ISl a A) (hc : ISl c C) : ACalls Try.prog 51 [.agg [a, I v], .agg [c, I w]] [] fun r H' => H' = [] ∧ r = Bo (decide (A = C ∧ v = w)) := by
  have ha' := ha
  have hc' := hc
  obtain ⟨⟨nl1, c1, sz1, rfl, hs1⟩, hl1, hx1⟩ := ha
  obtain ⟨⟨nl2, c2, sz2, rfl, hs2⟩, hl2, hx2⟩ := hc
  have base : ACalls Try.prog 51 [.agg [.imm nl1 c1 sz1 (A.map I), I v], .agg [.imm nl2 c2 sz2 (C.map I), I w]] [] fun r H' => r = Bo (decide (A = C ∧ v = w)) := by
    apply same1_call
    repeat first | refine AWp.seq ?_ | refine AWp.block ?_
    refine AWp.ops ?_
    simp
    by_cases h : v = w
    ·
      repeat first | refine AWp.seq ?_ | refine AWp.block ?_
      refine AWp.ops ?_
      simp [h]
      refine ((sEqual_spec ha' hc').pure (by simp) (by rintro r rfl; simp) _).mono ?_
      rintro r H' ⟨rfl, rfl⟩
      simp
      refine AWp.ret ?_
      simp
      refine retOk.of rfl ?_
      simp [h]
    ·
      repeat first | refine AWp.seq ?_ | refine AWp.block ?_
      refine AWp.ops ?_
      simp [h]
      refine AWp.ret ?_
      simp
      refine retOk.of rfl ?_
      simp [h]
  refine (base.frozen 2).mono ?_
  rintro q H' ⟨rfl, r, G, rfl, rfl⟩
  exact ⟨rfl, by simp⟩

def eqF_13 : AC := (.seq (.ops [⟨(some 26), none, (.k (.mov (.t 2)))⟩, ⟨(some 27), none, (.k (.ld 2 true (.t 8)))⟩, ⟨(some 28), none, (.k (.ld 2 true (.t 9)))⟩, ⟨(some 29), none, (.call false (.t 26) [(.t 27), (.t 28)])⟩, ⟨(some 30), none, (.k (.un .not (.t 29)))⟩]) (.cond (.t 30) (.seq (.ops [⟨(some 6), none, (.k (.mov (.c (.sc (.bool false)))))⟩]) .ret) .skip))
def eqF_12 : AC := (.seq (.ops [⟨(some 22), none, (.k (.mov (.t 1)))⟩, ⟨(some 23), none, (.k (.mov (.t 7)))⟩, ⟨(some 24), none, (.k (.iad 2 (.t 22) (.t 23)))⟩, ⟨(some 25), none, (.k (.ld 2 true (.t 24)))⟩, ⟨(some 9), none, (.k (.new 38 2 (.c (.agg [(.imm true none 0 []), (.sc (.int .i64 0))]))))⟩, ⟨none, none, (.k (.st 2 (.t 9) (.t 25)))⟩]) eqF_13)
def eqF_11 : AC := (.seq (.ops [⟨(some 19), none, (.k (.mov (.t 17)))⟩, ⟨(some 20), none, (.k (.iad 2 (.t 15) (.t 17)))⟩, ⟨(some 21), none, (.k (.ld 2 true (.t 20)))⟩, ⟨(some 8), none, (.k (.new 38 2 (.c (.agg [(.imm true none 0 []), (.sc (.int .i64 0))]))))⟩, ⟨(some 7), none, (.k (.mov (.t 19)))⟩, ⟨none, none, (.k (.st 2 (.t 8) (.t 21)))⟩]) eqF_12)
def eqF_10 : AC := (.block 1 eqF_11)
def eqF_9 : AC := (.seq eqF_10 (.ops [⟨(some 31), none, (.k (.bin .add (.t 17) (.c (.sc (.int .i64 1)))))⟩, ⟨(some 17), none, (.k (.mov (.t 31)))⟩]))
def eqF_8 : AC := (.seq (.cond (.t 18) .skip (.exit 0)) eqF_9)
def eqF_7 : AC := (.seq (.ops [⟨(some 18), none, (.k (.bin .lss (.t 17) (.t 16)))⟩]) eqF_8)
def eqF_6 : AC := (.loop eqF_7)
def eqF_5 : AC := (.block 0 eqF_6)
def eqF_4 : AC := (.seq (.ops [⟨(some 15), none, (.k (.mov (.t 0)))⟩, ⟨(some 16), none, (.k (.len (.t 15)))⟩, ⟨(some 17), none, (.k (.mov (.c (.sc (.int .i64 0)))))⟩]) eqF_5)
def eqF_3 : AC := (.seq eqF_4 (.seq (.ops [⟨(some 6), none, (.k (.mov (.c (.sc (.bool true)))))⟩]) .ret))
def eqF_2 : AC := (.seq (.ops [⟨(some 10), none, (.k (.mov (.t 0)))⟩, ⟨(some 11), none, (.k (.len (.t 10)))⟩, ⟨(some 12), none, (.k (.mov (.t 1)))⟩, ⟨(some 13), none, (.k (.len (.t 12)))⟩, ⟨(some 14), none, (.k (.bin .neq (.t 11) (.t 13)))⟩]) (.cond (.t 14) (.seq (.ops [⟨(some 6), none, (.k (.mov (.c (.sc (.bool false)))))⟩]) .ret) .skip))
def eqF_1 : AC := (.seq eqF_2 eqF_3)
def eqF_ac : AC := (.seq (.ops [⟨(some 6), none, (.k (.mov (.c (.sc (.bool false)))))⟩]) eqF_1)
theorem eqF_call {args : List AV} {H : List AObj} {R : AV → List AObj → Prop} (h : AWp Try.prog [] H.length eqF_ac (bodyQ H.length [(.t 6)] R) (args ++ List.replicate (32 - args.length) .und) H) : ACalls Try.prog 50 args H R :=
  ACalls.of_fn Try.func50 rfl (by kernel_rfl) rfl Try.ntmps50 h

set_option maxHeartbeats 2000000 in
theorem eqF_spec {a b : AV} {E D : List (List Int × Int)} (ha : EnL a E) (hb : EnL b D) (hE : E.length ≤ 9223372036854775807) (hD : D.length ≤ 9223372036854775807) : ACalls Try.prog 50 [a, b, .fn (.func 51) [] []] [] fun r H' => H' = [] ∧ r = Bo (decide (E = D)) := by
  obtain ⟨nl1, c1, sz1, es1, rfl, h11, h12, hE1⟩ := ha
  obtain ⟨nl2, c2, sz2, es2, rfl, h21, h22, hE2⟩ := hb
  have hl1 := hE1.1
  have hl2 := hE2.1
  have base : ACalls Try.prog 50 [.imm nl1 c1 sz1 es1, .imm nl2 c2 sz2 es2, .fn (.func 51) [] []] [] fun r H' => r = Bo (decide (E = D)) := by
    apply eqF_call
    repeat first | refine AWp.seq ?_ | refine AWp.block ?_
    refine AWp.ops ?_
    simp
    repeat first | refine AWp.seq ?_ | refine AWp.block ?_
    refine AWp.ops ?_
    simp
    by_cases hne : E.length = D.length
    case neg =>
      have g1 : ¬ (es1.length : Int) = es2.length := by omega
      refine AWp.cond (b := true) (by simp; omega) (fun _ => ?_) (fun h => by cases h)
      repeat first | refine AWp.seq ?_ | refine AWp.block ?_
      refine AWp.ops ?_
      simp
      refine AWp.ret ?_
      simp
      refine retOk.of rfl ?_
      have : ¬ E = D := fun e => hne (by rw [e])
      simp [this]
    refine AWp.cond (b := false) (by simp; omega) (fun h => by cases h) (fun _ => ?_)
    refine AWp.skip ?_
    simp only [qSeq]
    repeat first | refine AWp.seq ?_ | refine AWp.block ?_
    refine AWp.ops ?_
    simp
    obtain ⟨J, hJ⟩ : ∃ J : Nat → List AV → List AObj → Prop, J = fun i fr H => i ≤ es1.length ∧ (E.take i = D.take i) ∧ H = [] ∧
      fr = [.imm nl1 c1 sz1 es1, .imm nl2 c2 sz2 es2, .fn (.func 51) [] [], .und, .und, .und, Bo false, .und, .und, .und, .und, .und, .und, .und, .und, .imm nl1 c1 sz1 es1, I es1.length, I i, .und, .und, .und, .und, .und, .und, .und, .und, .und, .und, .und, .und, .und, .und] := ⟨_, rfl⟩
    refine AWp.block (AWp.loop J (fun i => es1.length - i) 0 (Weak.slots [0, 1, 2, 6, 15, 16, 17]) (by rw [hJ]; exact ⟨by omega, rfl, by simp, by simp⟩) ?_)
    intro i fr H hI
    rw [hJ] at hI
    obtain ⟨hi, hinv, rfl, rfl⟩ := hI
    repeat first | refine AWp.seq ?_ | refine AWp.block ?_
    refine AWp.ops ?_
    simp
    refine AWp.seq (AWp.cond (b := decide (i < es1.length)) (by simp <;> omega) ?_ ?_)
    ·
      intro hb
      have hb : i < es1.length := by simpa using hb
      refine AWp.skip ?_
      simp only [qSeq]
      have hb1 : i < E.length := by omega
      have hb2 : i < D.length := by omega
      obtain ⟨x, hx1, hx2⟩ := hE1.get hb1
      obtain ⟨y, hy1, hy2⟩ := hE2.get hb2
      have n1 : nl1 = false := by
        cases nl1 with
        | false => rfl
        | true => have := h11 rfl; rw [this] at hb1; simp at hb1
      have n2 : nl2 = false := by
        cases nl2 with
        | false => rfl
        | true => have := h21 rfl; rw [this] at hb2; simp at hb2
      have s1 := h12 n1
      have s2 := h22 n2
      subst n1 n2 s1 s2
      have t1 := List.take_succ_eq_append_getElem hb1
      have t2 := List.take_succ_eq_append_getElem hb2
      have hEe : E[i] ≠ D[i] → E ≠ D := fun h e => h (by subst e; rfl)
      generalize E[i] = p at hx1 hx2 t1 hEe
      generalize D[i] = q at hy1 hy2 t2 hEe
      obtain ⟨A, v⟩ := p
      obtain ⟨C, w⟩ := q
      simp only at hx1 hx2 hy1 hy2
      have hx2' := hx2
      have hy2' := hy2
      obtain ⟨⟨n5, c5, z5, rfl, hs5⟩, hl5, hx5⟩ := hx2
      obtain ⟨⟨n6, c6, z6, rfl, hs6⟩, hl6, hx6⟩ := hy2
      have hwi := wrap_i64 (n := (i : Int) + 1) (by omega) (by omega)
      repeat first | refine AWp.seq ?_ | refine AWp.block ?_
      refine AWp.ops ?_
      simp [hx1]
      repeat first | refine AWp.seq ?_ | refine AWp.block ?_
      refine AWp.ops ?_
      simp [hy1]
      repeat first | refine AWp.seq ?_ | refine AWp.block ?_
      refine AWp.ops ?_
      simp
      refine ((same1_spec (v := v) (w := w) hx2' hy2').pure (by simp) (by rintro r rfl; simp) _).mono ?_
      rintro r H' ⟨rfl, rfl⟩
      simp
      by_cases hq : A = C ∧ v = w
      · refine AWp.cond (b := false) (by simp [hq.1, hq.2]) (fun h => by cases h) (fun _ => ?_)
        refine AWp.skip ?_
        simp only [qSeq, qBlock]
        repeat first | refine AWp.seq ?_ | refine AWp.block ?_
        refine AWp.ops ?_
        simp [hwi]
        refine ⟨i + 1, _, _, (Weak.slots [0, 1, 2, 6, 15, 16, 17]).trans (Weak.freeze 0 3 (by simp)), ?_, by omega⟩
        rw [hJ]
        refine ⟨by omega, by rw [t1, t2, hinv, hq.1, hq.2], by simp [frzH], ?_⟩
        simp
      · refine AWp.cond (b := true) (by simp; by_cases h1 : A = C <;> simp_all) (fun _ => ?_) (fun h => by cases h)
        repeat first | refine AWp.seq ?_ | refine AWp.block ?_
        refine AWp.ops ?_
        simp
        refine AWp.ret ?_
        simp
        refine retOk.of rfl ?_
        have : E ≠ D := hEe fun e => hq (by simpa using e)
        simp [this]
    ·
      intro hb
      have hb : ¬ i < es1.length := by simpa using hb
      refine AWp.exit ?_
      simp [qSeq, qBlock]
      rw [List.take_of_length_le (by omega), List.take_of_length_le (by omega)] at hinv
      repeat first | refine AWp.seq ?_ | refine AWp.block ?_
      refine AWp.ops ?_
      simp
      refine AWp.ret ?_
      simp
      refine retOk.of rfl ?_
      simp [hinv]
  refine (base.frozen 2).mono ?_
  rintro q H' ⟨rfl, r, G, rfl, rfl⟩
  exact ⟨rfl, by simp⟩

def cSame_1 : AC := (.seq (.ops [⟨(some 5), none, (.k (.fad 0 (.t 2)))⟩, ⟨(some 6), none, (.k (.ld 1 false (.t 5)))⟩, ⟨(some 7), none, (.k (.fad 0 (.t 3)))⟩, ⟨(some 8), none, (.k (.ld 1 false (.t 7)))⟩, ⟨(some 9), none, (.call false (.c (.fn (.func 49) [] [])) [(.t 6), (.t 8)])⟩, ⟨(some 10), none, (.k (.mov (.t 9)))⟩, ⟨(some 11), (some (10, true)), (.k (.ld 2 true (.t 2)))⟩, ⟨(some 12), (some (10, true)), (.call false (.c (.fn (.func 13) [] [])) [(.t 11)])⟩, ⟨(some 13), (some (10, true)), (.k (.bin .eql (.t 12) (.c (.sc (.int .i64 0)))))⟩, ⟨(some 14), none, (.k (.pick (.t 10) (.t 13) (.c (.sc (.bool false)))))⟩, ⟨(some 15), none, (.k (.mov (.t 14)))⟩, ⟨(some 16), (some (15, true)), (.k (.fad 1 (.t 2)))⟩, ⟨(some 17), (some (15, true)), (.k (.ld 1 false (.t 16)))⟩, ⟨(some 18), (some (15, true)), (.k (.fad 1 (.t 3)))⟩, ⟨(some 19), (some (15, true)), (.k (.ld 1 false (.t 18)))⟩, ⟨(some 20), (some (15, true)), (.call false (.c (.fn (.func 50) [] [])) [(.t 17), (.t 19), (.c (.fn (.func 51) [] []))])⟩, ⟨(some 21), none, (.k (.pick (.t 15) (.t 20) (.c (.sc (.bool false)))))⟩, ⟨(some 4), none, (.k (.mov (.t 21)))⟩]) .ret)
def cSame_ac : AC := (.seq (.ops [⟨(some 2), none, (.k (.new 25 2 (.t 0)))⟩, ⟨(some 3), none, (.k (.new 25 2 (.t 1)))⟩, ⟨(some 4), none, (.k (.mov (.c (.sc (.bool false)))))⟩]) cSame_1)
theorem cSame_call {args : List AV} {H : List AObj} {R : AV → List AObj → Prop} (h : AWp Try.prog [] H.length cSame_ac (bodyQ H.length [(.t 4)] R) (args ++ List.replicate (22 - args.length) .und) H) : ACalls Try.prog 19 args H R :=
  ACalls.of_fn Try.func19 rfl (by kernel_rfl) rfl Try.ntmps19 h

theorem cSame_spec {a b : AV} {X Y : List Int × List (List Int × Int)} (ha : Coo a X) (hb : Coo b Y) (hE : X.2.length ≤ 9223372036854775807) (hD : Y.2.length ≤ 9223372036854775807) : ACalls Try.prog 19 [a, b] [] fun r H' => H' = [] ∧ r = Bo (decide (X.1 = Y.1 ∧ cooCheck X.1 X.2 = 0 ∧ X.2 = Y.2)) := by
  have ha' := ha
  obtain ⟨s1, e1, rfl, hs1, he1⟩ := ha
  obtain ⟨s2, e2, rfl, hs2, he2⟩ := hb
  have hs1' := hs1
  have hs2' := hs2
  have he1' := he1
  have he2' := he2
  obtain ⟨⟨n1, c1, z1, rfl, _⟩, _⟩ := hs1
  obtain ⟨⟨n2, c2, z2, rfl, _⟩, _⟩ := hs2
  obtain ⟨n3, c3, z3, es3, rfl, _⟩ := he1
  obtain ⟨n4, c4, z4, es4, rfl, _⟩ := he2
  have base : ACalls Try.prog 19 [.agg [.imm n1 c1 z1 (X.1.map I), .imm n3 c3 z3 es3], .agg [.imm n2 c2 z2 (Y.1.map I), .imm n4 c4 z4 es4]] [] fun r H' => r = Bo (decide (X.1 = Y.1 ∧ cooCheck X.1 X.2 = 0 ∧ X.2 = Y.2)) := by
    apply cSame_call
    repeat first | refine AWp.seq ?_ | refine AWp.block ?_
    refine AWp.ops ?_
    simp
    repeat first | refine AWp.seq ?_ | refine AWp.block ?_
    refine AWp.ops ?_
    simp
    refine ((sEqual_spec hs1' hs2').pure (by simp) (by rintro r rfl; simp) _).mono ?_
    rintro r H' ⟨rfl, rfl⟩
    by_cases h1 : X.1 = Y.1
    case neg =>
      simp [h1]
      refine AWp.ret ?_
      simp
      refine retOk.of rfl ?_
      simp
    replace h1 : (X.1 = Y.1) = True := eq_true h1
    simp [h1]
    refine ((cCheck_spec ha').pure (by simp) (by rintro r rfl; simp) _).mono ?_
    rintro r H' ⟨rfl, rfl⟩
    by_cases h2 : cooCheck X.1 X.2 = 0
    case neg =>
      simp [h2]
      refine AWp.ret ?_
      simp
      refine retOk.of rfl ?_
      simp
    simp [h2]
    refine ((eqF_spec he1' he2' hE hD).pure (by simp) (by rintro r rfl; simp) _).mono ?_
    rintro r H' ⟨rfl, rfl⟩
    simp
    refine AWp.ret ?_
    simp
    refine retOk.of rfl ?_
    simp
  refine (base.frozen 2).mono ?_
  rintro q H' ⟨rfl, r, G, rfl, rfl⟩
  exact ⟨rfl, by simp⟩
end Go.Fw
