import Derived.Test.YtgdkdojjfijipaaFwcoo1
import Derived.Test.YtgdkdojjfijipaaFweq1
import Derived.Test.YtgdkdojjfijipaaFwcoo7
namespace Go.Fw
open Go Go.RowKit Go.Proofs
set_option maxRecDepth 100000
set_option linter.unusedSimpArgs false
set_option linter.unusedVariables false

def same1_1 : AC := (.seq (.ops [⟨(some 5), none, (.k (.fad 1 (.t 2)))⟩, ⟨(some 6), none, (.k (.ld 1 false (.t 5)))⟩, ⟨(some 7), none, (.k (.fad 1 (.t 3)))⟩, ⟨(some 8), none, (.k (.ld 1 false (.t 7)))⟩, ⟨(some 9), none, (.k (.bin .eql (.t 6) (.t 8)))⟩, ⟨(some 10), none, (.k (.mov (.t 9)))⟩, ⟨(some 11), (some (10, true)), (.k (.fad 0 (.t 2)))⟩, ⟨(some 12), (some (10, true)), (.k (.ld 1 false (.t 11)))⟩, ⟨(some 13), (some (10, true)), (.k (.fad 0 (.t 3)))⟩, ⟨(some 14), (some (10, true)), (.k (.ld 1 false (.t 13)))⟩, ⟨(some 15), (some (10, true)), (.call false (.c (.fn (.func 49) [] [])) [(.t 12), (.t 14)])⟩, ⟨(some 16), none, (.k (.pick (.t 10) (.t 15) (.c (.sc (.bool false)))))⟩, ⟨(some 4), none, (.k (.mov (.t 16)))⟩]) .ret)
def same1_ac : AC := (.seq (.ops [⟨(some 2), none, (.k (.new 38 2 (.t 0)))⟩, ⟨(some 3), none, (.k (.new 38 2 (.t 1)))⟩, ⟨(some 4), none, (.k (.mov (.c (.sc (.bool false)))))⟩]) same1_1)
theorem same1_call {args : List AV} {H : List AObj} {R : AV → List AObj → Prop} (h : AWp Try.prog [] H.length same1_ac (bodyQ H.length [(.t 4)] R) (args ++ List.replicate (17 - args.length) .und) H) : ACalls Try.prog 51 args H R :=
  ACalls.of_fn Try.func51 rfl (by kernel_rfl) rfl Try.ntmps51 h

theorem same1_spec {a c : AV} {A C : List Int} {v w : Int} (ha : ISl a A) (hc : ISl c C) : ACalls Try.prog 51 [.agg [a, I v], .agg [c, I w]] [] fun r H' => H' = [] ∧ r = Bo (decide (A = C ∧ v = w)) := by
  have ha' := ha
  have hc' := hc
  obtain ⟨⟨nl1, c1, sz1, rfl, hs1⟩, hl1, hx1⟩ := ha
  obtain ⟨⟨nl2, c2, sz2, rfl, hs2⟩, hl2, hx2⟩ := hc
  have base : ACalls Try.prog 51 [.agg [.imm nl1 c1 sz1 (A.map I), I v], .agg [.imm nl2 c2 sz2 (C.map I), I w]] [] fun r H' => r = Bo (decide (A = C ∧ v = w)) := by
    apply same1_call
    repeat first | refine AWp.seq ?_ | refine AWp.block ?_
    refine AWp.ops ?_
    simp
    by_cases h : v = w
    ·
      repeat first | refine AWp.seq ?_ | refine AWp.block ?_
      refine AWp.ops ?_
      simp [h]
      refine ((sEqual_spec ha' hc').pure (by simp) (by rintro r rfl; simp) _).mono ?_
      rintro r H' ⟨rfl, rfl⟩
      simp
      refine AWp.ret ?_
      simp
      refine retOk.of rfl ?_
      simp [h]
    ·
      repeat first | refine AWp.seq ?_ | refine AWp.block ?_
      refine AWp.ops ?_
      simp [h]
      refine AWp.ret ?_
      simp
      refine retOk.of rfl ?_
      simp [h]
  refine (base.frozen 2).mono ?_
  rintro q H' ⟨rfl, r, G, rfl, rfl⟩
  exact ⟨rfl, by simp⟩

def eqF_13 : AC := (.seq (.ops [⟨(some 26), none, (.k (.mov (.t 2)))⟩, ⟨(some 27), none, (.k (.ld 2 true (.t 8)))⟩, ⟨(some 28), none, (.k (.ld 2 true (.t 9)))⟩, ⟨(some 29), none, (.call false (.t 26) [(.t 27), (.t 28)])⟩, ⟨(some 30), none, (.k (.un .not (.t 29)))⟩]) (.cond (.t 30) (.seq (.ops [⟨(some 6), none, (.k (.mov (.c (.sc (.bool false)))))⟩]) .ret) .skip))
def eqF_12 : AC := (.seq (.ops [⟨(some 22), none, (.k (.mov (.t 1)))⟩, ⟨(some 23), none, (.k (.mov (.t 7)))⟩, ⟨(some 24), none, (.k (.iad 2 (.t 22) (.t 23)))⟩, ⟨(some 25), none, (.k (.ld 2 true (.t 24)))⟩, ⟨(some 9), none, (.k (.new 38 2 (.c (.agg [(.imm true none 0 []), (.sc (.int .i64 0))]))))⟩, ⟨none, none, (.k (.st 2 (.t 9) (.t 25)))⟩]) eqF_13)
def eqF_11 : AC := (.seq (.ops [⟨(some 19), none, (.k (.mov (.t 17)))⟩, ⟨(some 20), none, (.k (.iad 2 (.t 15) (.t 17)))⟩, ⟨(some 21), none, (.k (.ld 2 true (.t 20)))⟩, ⟨(some 8), none, (.k (.new 38 2 (.c (.agg [(.imm true none 0 []), (.sc (.int .i64 0))]))))⟩, ⟨(some 7), none, (.k (.mov (.t 19)))⟩, ⟨none, none, (.k (.st 2 (.t 8) (.t 21)))⟩]) eqF_12)
def eqF_10 : AC := (.block 1 eqF_11)
def eqF_9 : AC := (.seq eqF_10 (.ops [⟨(some 31), none, (.k (.bin .add (.t 17) (.c (.sc (.int .i64 1)))))⟩, ⟨(some 17), none, (.k (.mov (.t 31)))⟩]))
def eqF_8 : AC := (.seq (.cond (.t 18) .skip (.exit 0)) eqF_9)
def eqF_7 : AC := (.seq (.ops [⟨(some 18), none, (.k (.bin .lss (.t 17) (.t 16)))⟩]) eqF_8)
def eqF_6 : AC := (.loop eqF_7)
def eqF_5 : AC := (.block 0 eqF_6)
def eqF_4 : AC := (.seq (.ops [⟨(some 15), none, (.k (.mov (.t 0)))⟩, ⟨(some 16), none, (.k (.len (.t 15)))⟩, ⟨(some 17), none, (.k (.mov (.c (.sc (.int .i64 0)))))⟩]) eqF_5)
def eqF_3 : AC := (.seq eqF_4 (.seq (.ops [⟨(some 6), none, (.k (.mov (.c (.sc (.bool true)))))⟩]) .ret))
def eqF_2 : AC := (.seq (.ops [⟨(some 10), none, (.k (.mov (.t 0)))⟩, ⟨(some 11), none, (.k (.len (.t 10)))⟩, ⟨(some 12), none, (.k (.mov (.t 1)))⟩, ⟨(some 13), none, (.k (.len (.t 12)))⟩, ⟨(some 14), none, (.k (.bin .neq (.t 11) (.t 13)))⟩]) (.cond (.t 14) (.seq (.ops [⟨(some 6), none, (.k (.mov (.c (.sc (.bool false)))))⟩]) .ret) .skip))
def eqF_1 : AC := (.seq eqF_2 eqF_3)
def eqF_ac : AC := (.seq (.ops [⟨(some 6), none, (.k (.mov (.c (.sc (.bool false)))))⟩]) eqF_1)
theorem eqF_call {args : List AV} {H : List AObj} {R : AV → List AObj → Prop} (h : AWp Try.prog [] H.length eqF_ac (bodyQ H.length [(.t 6)] R) (args ++ List.replicate (32 - args.length) .und) H) : ACalls Try.prog 50 args H R :=
  ACalls.of_fn Try.func50 rfl (by kernel_rfl) rfl Try.ntmps50 h

set_option maxHeartbeats 2000000 in
theorem eqF_spec {a b : AV} {E D : List (List Int × Int)} (ha : EnL a E) (hb : EnL b D) (hE : E.length ≤ 9223372036854775807) (hD : D.length ≤ 9223372036854775807) : ACalls Try.prog 50 [a, b, .fn (.func 51) [] []] [] fun r H' => H' = [] ∧ r = Bo (decide (E = D)) := by
  obtain ⟨nl1, c1, sz1, es1, rfl, h11, h12, hE1⟩ := ha
  obtain ⟨nl2, c2, sz2, es2, rfl, h21, h22, hE2⟩ := hb
  have hl1 := hE1.1
  have hl2 := hE2.1
  have base : ACalls Try.prog 50 [.imm nl1 c1 sz1 es1, .imm nl2 c2 sz2 es2, .fn (.func 51) [] []] [] fun r H' => r = Bo (decide (E = D)) := by
    apply eqF_call
    repeat first | refine AWp.seq ?_ | refine AWp.block ?_
    refine AWp.ops ?_
    simp
    repeat first | refine AWp.seq ?_ | refine AWp.block ?_
    refine AWp.ops ?_
    simp
    by_cases hne : E.length = D.length
    case neg =>
      have g1 : ¬ (es1.length : Int) = es2.length := by omega
      refine AWp.cond (b := true) (by simp; omega) (fun _ => ?_) (fun h => by cases h)
      repeat first | refine AWp.seq ?_ | refine AWp.block ?_
      refine AWp.ops ?_
      simp
      refine AWp.ret ?_
      simp
      refine retOk.of rfl ?_
      have : ¬ E = D := fun e => hne (by rw [e])
      simp [this]
    refine AWp.cond (b := false) (by simp; omega) (fun h => by cases h) (fun _ => ?_)
    refine AWp.skip ?_
    simp only [qSeq]
    repeat first | refine AWp.seq ?_ | refine AWp.block ?_
    refine AWp.ops ?_
    simp
    obtain ⟨J, hJ⟩ : ∃ J : Nat → List AV → List AObj → Prop, J = fun i fr H => i ≤ es1.length ∧ (E.take i = D.take i) ∧ H = [] ∧
      fr = [.imm nl1 c1 sz1 es1, .imm nl2 c2 sz2 es2, .fn (.func 51) [] [], .und, .und, .und, Bo false, .und, .und, .und, .und, .und, .und, .und, .und, .imm nl1 c1 sz1 es1, I es1.length, I i, .und, .und, .und, .und, .und, .und, .und, .und, .und, .und, .und, .und, .und, .und] := ⟨_, rfl⟩
    refine AWp.block (AWp.loop J (fun i => es1.length - i) 0 (Weak.slots [0, 1, 2, 6, 15, 16, 17]) (by rw [hJ]; exact ⟨by omega, rfl, by simp, by simp⟩) ?_)
    intro i fr H hI
    rw [hJ] at hI
    obtain ⟨hi, hinv, rfl, rfl⟩ := hI
    repeat first | refine AWp.seq ?_ | refine AWp.block ?_
    refine AWp.ops ?_
    simp
    refine AWp.seq (AWp.cond (b := decide (i < es1.length)) (by simp <;> omega) ?_ ?_)
    ·
      intro hb
      have hb : i < es1.length := by simpa using hb
      refine AWp.skip ?_
      simp only [qSeq]
      have hb1 : i < E.length := by omega
      have hb2 : i < D.length := by omega
      obtain ⟨x, hx1, hx2⟩ := hE1.get hb1
      obtain ⟨y, hy1, hy2⟩ := hE2.get hb2
      have n1 : nl1 = false := by
        cases nl1 with
        | false => rfl
        | true => have := h11 rfl; rw [this] at hb1; simp at hb1
      have n2 : nl2 = false := by
        cases nl2 with
        | false => rfl
        | true => have := h21 rfl; rw [this] at hb2; simp at hb2
      have s1 := h12 n1
      have s2 := h22 n2
      subst n1 n2 s1 s2
      have t1 := List.take_succ_eq_append_getElem hb1
      have t2 := List.take_succ_eq_append_getElem hb2
      have hEe : E[i] ≠ D[i] → E ≠ D := fun h e => h (by subst e; rfl)
      generalize E[i] = p at hx1 hx2 t1 hEe
      generalize D[i] = q at hy1 hy2 t2 hEe
      obtain ⟨A, v⟩ := p
      obtain ⟨C, w⟩ := q
      simp only at hx1 hx2 hy1 hy2
      have hx2' := hx2
      have hy2' := hy2
      obtain ⟨⟨n5, c5, z5, rfl, hs5⟩, hl5, hx5⟩ := hx2
      obtain ⟨⟨n6, c6, z6, rfl, hs6⟩, hl6, hx6⟩ := hy2
      have hwi := wrap_i64 (n := (i : Int) + 1) (by omega) (by omega)
      repeat first | refine AWp.seq ?_ | refine AWp.block ?_
      refine AWp.ops ?_
      simp [hx1]
      repeat first | refine AWp.seq ?_ | refine AWp.block ?_
      refine AWp.ops ?_
      simp [hy1]
      repeat first | refine AWp.seq ?_ | refine AWp.block ?_
      refine AWp.ops ?_
      simp
      refine ((same1_spec (v := v) (w := w) hx2' hy2').pure (by simp) (by rintro r rfl; simp) _).mono ?_
      rintro r H' ⟨rfl, rfl⟩
      simp
      by_cases hq : A = C ∧ v = w
      · refine AWp.cond (b := false) (by simp [hq.1, hq.2]) (fun h => by cases h) (fun _ => ?_)
        refine AWp.skip ?_
        simp only [qSeq, qBlock]
        repeat first | refine AWp.seq ?_ | refine AWp.block ?_
        refine AWp.ops ?_
        simp [hwi]
        refine ⟨i + 1, _, _, (Weak.slots [0, 1, 2, 6, 15, 16, 17]).trans (Weak.freeze 0 3 (by simp)), ?_, by omega⟩
        rw [hJ]
        refine ⟨by omega, by rw [t1, t2, hinv, hq.1, hq.2], by simp [frzH], ?_⟩
        simp
      · refine AWp.cond (b := true) (by simp; by_cases h1 : A = C <;> simp_all) (fun _ => ?_) (fun h => by cases h)
        repeat first | refine AWp.seq ?_ | refine AWp.block ?_
        refine AWp.ops ?_
        simp
        refine AWp.ret ?_
        simp
        refine retOk.of rfl ?_
        have : E ≠ D := hEe fun e => hq (by simpa using e)
        simp [this]
    ·
      intro hb
      have hb : ¬ i < es1.length := by simpa using hb
      refine AWp.exit ?_
      simp [qSeq, qBlock]
      rw [List.take_of_length_le (by omega), List.take_of_length_le (by omega)] at hinv
      repeat first | refine AWp.seq ?_ | refine AWp.block ?_
      refine AWp.ops ?_
      simp
      refine AWp.ret ?_
      simp
      refine retOk.of rfl ?_
      simp [hinv]
  refine (base.frozen 2).mono ?_
  rintro q H' ⟨rfl, r, G, rfl, rfl⟩
  exact ⟨rfl, by simp⟩

def cSame_1 : AC := (.seq (.ops [⟨(some 5), none, (.k (.fad 0 (.t 2)))⟩, ⟨(some 6), none, (.k (.ld 1 false (.t 5)))⟩, ⟨(some 7), none, (.k (.fad 0 (.t 3)))⟩, ⟨(some 8), none, (.k (.ld 1 false (.t 7)))⟩, ⟨(some 9), none, (.call false (.c (.fn (.func 49) [] [])) [(.t 6), (.t 8)])⟩, ⟨(some 10), none, (.k (.mov (.t 9)))⟩, ⟨(some 11), (some (10, true)), (.k (.ld 2 true (.t 2)))⟩, ⟨(some 12), (some (10, true)), (.call false (.c (.fn (.func 13) [] [])) [(.t 11)])⟩, ⟨(some 13), (some (10, true)), (.k (.bin .eql (.t 12) (.c (.sc (.int .i64 0)))))⟩, ⟨(some 14), none, (.k (.pick (.t 10) (.t 13) (.c (.sc (.bool false)))))⟩, ⟨(some 15), none, (.k (.mov (.t 14)))⟩, ⟨(some 16), (some (15, true)), (.k (.fad 1 (.t 2)))⟩, ⟨(some 17), (some (15, true)), (.k (.ld 1 false (.t 16)))⟩, ⟨(some 18), (some (15, true)), (.k (.fad 1 (.t 3)))⟩, ⟨(some 19), (some (15, true)), (.k (.ld 1 false (.t 18)))⟩, ⟨(some 20), (some (15, true)), (.call false (.c (.fn (.func 50) [] [])) [(.t 17), (.t 19), (.c (.fn (.func 51) [] []))])⟩, ⟨(some 21), none, (.k (.pick (.t 15) (.t 20) (.c (.sc (.bool false)))))⟩, ⟨(some 4), none, (.k (.mov (.t 21)))⟩]) .ret)
def cSame_ac : AC := (.seq (.ops [⟨(some 2), none, (.k (.new 25 2 (.t 0)))⟩, ⟨(some 3), none, (.k (.new 25 2 (.t 1)))⟩, ⟨(some 4), none, (.k (.mov (.c (.sc (.bool false)))))⟩]) cSame_1)
theorem cSame_call {args : List AV} {H : List AObj} {R : AV → List AObj → Prop} (h : AWp Try.prog [] H.length cSame_ac (bodyQ H.length [(.t 4)] R) (args ++ List.replicate (22 - args.length) .und) H) : ACalls Try.prog 19 args H R :=
  ACalls.of_fn Try.func19 rfl (by kernel_rfl) rfl Try.ntmps19 h

theorem cSame_spec {a b : AV} {X Y : List Int × List (List Int × Int)} (ha : Coo a X) (hb : Coo b Y) (hE : X.2.length ≤ 9223372036854775807) (hD : Y.2.length ≤ 9223372036854775807) : ACalls Try.prog 19 [a, b] [] fun r H' => H' = [] ∧ r = Bo (decide (X.1 = Y.1 ∧ cooCheck X.1 X.2 = 0 ∧ X.2 = Y.2)) := by
  have ha' := ha
  obtain ⟨s1, e1, rfl, hs1, he1⟩ := ha
  obtain ⟨s2, e2, rfl, hs2, he2⟩ := hb
  have hs1' := hs1
  have hs2' := hs2
  have he1' := he1
  have he2' := he2
  obtain ⟨⟨n1, c1, z1, rfl, _⟩, _⟩ := hs1
  obtain ⟨⟨n2, c2, z2, rfl, _⟩, _⟩ := hs2
  obtain ⟨n3, c3, z3, es3, rfl, _⟩ := he1
  obtain ⟨n4, c4, z4, es4, rfl, _⟩ := he2
  have base : ACalls Try.prog 19 [.agg [.imm n1 c1 z1 (X.1.map I), .imm n3 c3 z3 es3], .agg [.imm n2 c2 z2 (Y.1.map I), .imm n4 c4 z4 es4]] [] fun r H' => r = Bo (decide (X.1 = Y.1 ∧ cooCheck X.1 X.2 = 0 ∧ X.2 = Y.2)) := by
    apply cSame_call
    repeat first | refine AWp.seq ?_ | refine AWp.block ?_
    refine AWp.ops ?_
    simp
    repeat first | refine AWp.seq ?_ | refine AWp.block ?_
    refine AWp.ops ?_
    simp
    refine ((sEqual_spec hs1' hs2').pure (by simp) (by rintro r rfl; simp) _).mono ?_
    rintro r H' ⟨rfl, rfl⟩
    by_cases h1 : X.1 = Y.1
    case neg =>
      simp [h1]
      refine AWp.ret ?_
      simp
      refine retOk.of rfl ?_
      simp
    replace h1 : (X.1 = Y.1) = True := eq_true h1
    simp [h1]
    refine ((cCheck_spec ha').pure (by simp) (by rintro r rfl; simp) _).mono ?_
    rintro r H' ⟨rfl, rfl⟩
    by_cases h2 : cooCheck X.1 X.2 = 0
    case neg =>
      simp [h2]
      refine AWp.ret ?_
      simp
      refine retOk.of rfl ?_
      simp
    simp [h2]
    refine ((eqF_spec he1' he2' hE hD).pure (by simp) (by rintro r rfl; simp) _).mono ?_
    rintro r H' ⟨rfl, rfl⟩
    simp
    refine AWp.ret ?_
    simp
    refine retOk.of rfl ?_
    simp
  refine (base.frozen 2).mono ?_
  rintro q H' ⟨rfl, r, G, rfl, rfl⟩
  exact ⟨rfl, by simp⟩
end Go.Fw
namespace Go.Fw
open Go Go.RowKit Go.Proofs
set_option maxRecDepth 100000
set_option linter.unusedSimpArgs false
set_option linter.unusedVariables false

def fewX (X : List Int × List (List Int × Int)) : Bool := decide (¬ (20 < X.1.length ∨ 2000 < X.2.length)) && X.2.all fun t => decide (t.1.length ≤ 20)

def few2_20 : AC := (.seq (.ops [⟨(some 30), none, (.k (.fad 0 (.t 6)))⟩, ⟨(some 31), none, (.k (.ld 1 false (.t 30)))⟩, ⟨(some 32), none, (.k (.len (.t 31)))⟩, ⟨(some 33), none, (.k (.bin .gtr (.t 32) (.c (.sc (.int .i64 20)))))⟩]) (.cond (.t 33) (.seq (.ops [⟨(some 2), none, (.k (.mov (.c (.sc (.bool false)))))⟩]) .ret) .skip))
def few2_19 : AC := (.seq (.ops [⟨(some 28), none, (.k (.iad 2 (.t 24) (.t 26)))⟩, ⟨(some 29), none, (.k (.ld 2 true (.t 28)))⟩, ⟨(some 6), none, (.k (.new 38 2 (.c (.agg [(.imm true none 0 []), (.sc (.int .i64 0))]))))⟩, ⟨none, none, (.k (.st 2 (.t 6) (.t 29)))⟩]) few2_20)
def few2_18 : AC := (.block 3 few2_19)
def few2_17 : AC := (.seq few2_18 (.ops [⟨(some 34), none, (.k (.bin .add (.t 26) (.c (.sc (.int .i64 1)))))⟩, ⟨(some 26), none, (.k (.mov (.t 34)))⟩]))
def few2_16 : AC := (.seq (.cond (.t 27) .skip (.exit 2)) few2_17)
def few2_15 : AC := (.seq (.ops [⟨(some 27), none, (.k (.bin .lss (.t 26) (.t 25)))⟩]) few2_16)
def few2_14 : AC := (.loop few2_15)
def few2_13 : AC := (.block 2 few2_14)
def few2_12 : AC := (.seq (.ops [⟨(some 23), none, (.k (.fad 1 (.t 4)))⟩, ⟨(some 24), none, (.k (.ld 1 false (.t 23)))⟩, ⟨(some 25), none, (.k (.len (.t 24)))⟩, ⟨(some 26), none, (.k (.mov (.c (.sc (.int .i64 0)))))⟩]) few2_13)
def few2_11 : AC := (.seq (.ops [⟨(some 13), none, (.k (.fad 0 (.t 4)))⟩, ⟨(some 14), none, (.k (.ld 1 false (.t 13)))⟩, ⟨(some 15), none, (.k (.len (.t 14)))⟩, ⟨(some 16), none, (.k (.bin .gtr (.t 15) (.c (.sc (.int .i64 20)))))⟩, ⟨(some 17), none, (.k (.mov (.t 16)))⟩, ⟨(some 18), (some (17, false)), (.k (.fad 1 (.t 4)))⟩, ⟨(some 19), (some (17, false)), (.k (.ld 1 false (.t 18)))⟩, ⟨(some 20), (some (17, false)), (.k (.len (.t 19)))⟩, ⟨(some 21), (some (17, false)), (.k (.bin .gtr (.t 20) (.c (.sc (.int .i64 2000)))))⟩, ⟨(some 22), none, (.k (.pick (.t 17) (.c (.sc (.bool true))) (.t 21)))⟩]) (.cond (.t 22) (.seq (.ops [⟨(some 2), none, (.k (.mov (.c (.sc (.bool false)))))⟩]) .ret) .skip))
def few2_10 : AC := (.seq few2_11 few2_12)
def few2_9 : AC := (.seq (.ops [⟨(some 11), none, (.k (.iad 2 (.t 7) (.t 9)))⟩, ⟨(some 12), none, (.k (.ld 2 true (.t 11)))⟩, ⟨(some 4), none, (.k (.new 25 2 (.c (.agg [(.imm true none 0 []), (.imm true none 0 [])]))))⟩, ⟨none, none, (.k (.st 2 (.t 4) (.t 12)))⟩]) few2_10)
def few2_8 : AC := (.block 1 few2_9)
def few2_7 : AC := (.seq few2_8 (.ops [⟨(some 35), none, (.k (.bin .add (.t 9) (.c (.sc (.int .i64 1)))))⟩, ⟨(some 9), none, (.k (.mov (.t 35)))⟩]))
def few2_6 : AC := (.seq (.cond (.t 10) .skip (.exit 0)) few2_7)
def few2_5 : AC := (.seq (.ops [⟨(some 10), none, (.k (.bin .lss (.t 9) (.t 8)))⟩]) few2_6)
def few2_4 : AC := (.loop few2_5)
def few2_3 : AC := (.block 0 few2_4)
def few2_2 : AC := (.seq (.ops [⟨(some 7), none, (.k (.mov (.t 0)))⟩, ⟨(some 8), none, (.k (.len (.t 7)))⟩, ⟨(some 9), none, (.k (.mov (.c (.sc (.int .i64 0)))))⟩]) few2_3)
def few2_1 : AC := (.seq few2_2 (.seq (.ops [⟨(some 2), none, (.k (.mov (.c (.sc (.bool true)))))⟩]) .ret))
def few2_ac : AC := (.seq (.ops [⟨(some 2), none, (.k (.mov (.c (.sc (.bool false)))))⟩]) few2_1)
theorem few2_call {args : List AV} {H : List AObj} {R : AV → List AObj → Prop} (h : AWp Try.prog [] H.length few2_ac (bodyQ H.length [(.t 2)] R) (args ++ List.replicate (36 - args.length) .und) H) : ACalls Try.prog 12 args H R :=
  ACalls.of_fn Try.func12 rfl (by kernel_rfl) rfl Try.ntmps12 h

theorem Coo.forms {a : AV} {X : List Int × List (List Int × Int)} (h : Coo a X) : ∃ s e, a = .agg [s, e] ∧ oneC s = true ∧ oneC e = true ∧ ∀ H k n b, frz H k (n + 3) b a = a := by
  obtain ⟨s, e, rfl, ⟨⟨_, _, _, rfl, _⟩, _⟩, ⟨_, _, _, _, rfl, _⟩⟩ := h
  exact ⟨_, _, rfl, rfl, rfl, fun H k n b => by simp⟩

set_option maxHeartbeats 4000000 in
theorem few2_spec {nl : Bool} {c : Option Nat} {sz : Nat} {zs : List (AV × (List Int × List (List Int × Int)))} (hz : ∀ z ∈ zs, Coo z.1 z.2 ∧ z.2.2.length ≤ 9223372036854775807) (hn : nl = false → sz = 2) (hn2 : nl = true → zs = []) (hzl : zs.length ≤ 1000) : ACalls Try.prog 12 [.imm nl c sz (zs.map (·.1))] [] fun r H' => H' = [] ∧ r = Bo (zs.all fun z => fewX z.2) := by
  have base : ACalls Try.prog 12 [.imm nl c sz (zs.map (·.1))] [] fun r H' => r = Bo (zs.all fun z => fewX z.2) := by
    apply few2_call
    repeat first | refine AWp.seq ?_ | refine AWp.block ?_
    refine AWp.ops ?_
    simp
    repeat first | refine AWp.seq ?_ | refine AWp.block ?_
    refine AWp.ops ?_
    simp
    obtain ⟨J, hJ⟩ : ∃ J : Nat → List AV → List AObj → Prop, J = fun i fr H => i ≤ zs.length ∧ (∀ z ∈ zs.take i, fewX z.2 = true) ∧ H = [] ∧
      fr = [.und, .und, Bo false, .und, .und, .und, .und, .imm nl c sz (zs.map (·.1)), I zs.length, I i, .und, .und, .und, .und, .und, .und, .und, .und, .und, .und, .und, .und, .und, .und, .und, .und, .und, .und, .und, .und, .und, .und, .und, .und, .und, .und] := ⟨_, rfl⟩
    refine AWp.block (AWp.loop J (fun i => zs.length - i) 0 (Weak.slots [2, 7, 8, 9]) (by rw [hJ]; exact ⟨by omega, by simp, by simp, by simp⟩) ?_)
    intro i fr H hI
    rw [hJ] at hI
    obtain ⟨hi, hinv, rfl, rfl⟩ := hI
    repeat first | refine AWp.seq ?_ | refine AWp.block ?_
    refine AWp.ops ?_
    simp
    refine AWp.seq (AWp.cond (b := decide (i < zs.length)) (by simp <;> omega) ?_ ?_)
    ·
      intro hb
      have hb : i < zs.length := by simpa using hb
      refine AWp.skip ?_
      simp only [qSeq]
      have hnl : nl = false := by
        cases nl with
        | false => rfl
        | true => have := hn2 rfl; rw [this] at hb; simp at hb
      have hsz := hn hnl
      subst hnl hsz
      obtain ⟨hzi, hzb⟩ := hz zs[i] (List.getElem_mem hb)
      have hmem : zs[i] ∈ zs := List.getElem_mem hb
      have hget : (zs.map (·.1))[i]? = some zs[i].1 := by rw [List.getElem?_map, List.getElem?_eq_getElem hb]; rfl
      have hxt := List.take_succ_eq_append_getElem hb
      generalize zs[i] = z at hzi hmem hget hxt hzb
      obtain ⟨a, S, E⟩ := z
      simp only at hzi hget hzb
      obtain ⟨s, e, rfl, hS, hE⟩ := hzi
      simp only at hS hE
      obtain ⟨⟨n1, c1, z1, rfl, hs1⟩, hl1, hx1⟩ := hS
      obtain ⟨n2, c2, z2, es, rfl, h21, h22, hE2⟩ := hE
      have hel := hE2.1
      have hall : fewX (S, E) = false → (zs.all fun z => fewX z.2) = false := fun h => by
        rw [List.all_eq_false]
        exact ⟨_, hmem, by simp [h]⟩
      have hwi := wrap_i64 (n := (i : Int) + 1) (by omega) (by omega)
      have hget' : zs[i].1 = .agg [.imm n1 c1 z1 (S.map I), .imm n2 c2 z2 es] := by
        rw [List.getElem?_map, List.getElem?_eq_getElem hb] at hget
        simpa using hget
      repeat first | refine AWp.seq ?_ | refine AWp.block ?_
      refine AWp.ops ?_
      simp [hb, hget']
      by_cases b1 : 20 < S.length
      · have b1' : 20 < (S.length : Int) := by omega
        have : fewX (S, E) = false := by simp [fewX, b1]
        repeat first | refine AWp.seq ?_ | refine AWp.block ?_
        refine AWp.ops ?_
        simp [b1']
        refine AWp.cond (b := true) (by simp) (fun _ => ?_) (fun h => by cases h)
        repeat first | refine AWp.seq ?_ | refine AWp.block ?_
        refine AWp.ops ?_
        simp
        refine AWp.ret ?_
        simp
        refine retOk.of rfl ?_
        rw [hall this]; simp
      have b1' : ¬ 20 < (S.length : Int) := by omega
      by_cases b2 : 2000 < E.length
      · have b2' : 2000 < (es.length : Int) := by omega
        have : fewX (S, E) = false := by simp [fewX, b2]
        repeat first | refine AWp.seq ?_ | refine AWp.block ?_
        refine AWp.ops ?_
        simp [b1', b2']
        refine AWp.cond (b := true) (by simp [b2']) (fun _ => ?_) (fun h => by cases h)
        repeat first | refine AWp.seq ?_ | refine AWp.block ?_
        refine AWp.ops ?_
        simp
        refine AWp.ret ?_
        simp
        refine retOk.of rfl ?_
        rw [hall this]; simp
      have b2' : ¬ 2000 < (es.length : Int) := by omega
      repeat first | refine AWp.seq ?_ | refine AWp.block ?_
      refine AWp.ops ?_
      simp [b1', b2']
      refine AWp.cond (b := false) (by simp [b2']) (fun h => by cases h) (fun _ => ?_)
      refine AWp.skip ?_
      simp only [qSeq]
      repeat first | refine AWp.seq ?_ | refine AWp.block ?_
      refine AWp.ops ?_
      simp
      have hfE : fewX (S, E) = E.all fun t => decide (t.1.length ≤ 20) := by
        have : (decide (¬ (20 < S.length ∨ 2000 < E.length))) = true := by simp; omega
        simp only [fewX, this, Bool.true_and]
      obtain ⟨P, hP⟩ : ∃ P : List Int × Int → Bool, P = fun t => decide (t.1.length ≤ 20) := ⟨_, rfl⟩
      rw [← hP] at hfE
      obtain ⟨J2, hJ2⟩ : ∃ J : Nat → List AV → List AObj → Prop, J = fun i2 fr H => i2 ≤ es.length ∧ (∀ t ∈ E.take i2, P t = true) ∧ H = [cooO (.agg [.imm n1 c1 z1 (S.map I), .imm n2 c2 z2 es])] ∧
        fr = [.und, .und, Bo false, .und, .ptr 0 1 0 0, .und, .und, .imm false c 2 (zs.map (·.1)), I zs.length, I i, .und, .und, .und, .und, .und, .und, .und, .und, .und, .und, .und, .und, .und, .und, .imm n2 c2 z2 es, I es.length, I i2, .und, .und, .und, .und, .und, .und, .und, .und, .und] := ⟨_, rfl⟩
      refine AWp.block (AWp.loop J2 (fun i2 => es.length - i2) 0 (Weak.slots [2, 4, 7, 8, 9, 24, 25, 26]) (by rw [hJ2]; exact ⟨by omega, by simp, by simp, by simp⟩) ?_)
      intro i2 fr H hI
      rw [hJ2] at hI
      obtain ⟨hi2, hinv2, rfl, rfl⟩ := hI
      repeat first | refine AWp.seq ?_ | refine AWp.block ?_
      refine AWp.ops ?_
      simp
      refine AWp.seq (AWp.cond (b := decide (i2 < es.length)) (by simp <;> omega) ?_ ?_)
      · intro hb2
        have hb2 : i2 < es.length := by simpa using hb2
        have hbE : i2 < E.length := by omega
        have hnl : n2 = false := by
          cases n2 with
          | false => rfl
          | true => have := h21 rfl; rw [this] at hbE; simp at hbE
        have hsz := h22 hnl
        subst hnl hsz
        refine AWp.skip ?_
        simp only [qSeq]
        obtain ⟨ai, hai, hai2⟩ := hE2.get hbE
        have hx2 := List.take_succ_eq_append_getElem hbE
        have hm2 : E[i2] ∈ E := List.getElem_mem hbE
        generalize E[i2] = t at hai hai2 hx2 hm2
        obtain ⟨cc, v⟩ := t
        simp only at hai hai2
        obtain ⟨⟨n5, c5, z5, rfl, hs5⟩, hl5, hx5⟩ := hai2
        have hwi2 := wrap_i64 (n := (i2 : Int) + 1) (by omega) (by omega)
        repeat first | refine AWp.seq ?_ | refine AWp.block ?_
        refine AWp.ops ?_
        simp [hai]
        repeat first | refine AWp.seq ?_ | refine AWp.block ?_
        refine AWp.ops ?_
        simp
        by_cases b3 : 20 < cc.length
        · have b3' : 20 < (cc.length : Int) := by omega
          refine AWp.cond (b := true) (by simp [b3']) (fun _ => ?_) (fun h => by cases h)
          have : fewX (S, E) = false := by
            rw [hfE, List.all_eq_false]
            exact ⟨_, hm2, by simp [hP]; omega⟩
          repeat first | refine AWp.seq ?_ | refine AWp.block ?_
          refine AWp.ops ?_
          simp
          refine AWp.ret ?_
          simp
          refine retOk.of rfl ?_
          rw [hall this]; simp
        · have b3' : ¬ 20 < (cc.length : Int) := by omega
          refine AWp.cond (b := false) (by simp [b3']) (fun h => by cases h) (fun _ => ?_)
          refine AWp.skip ?_
          simp only [qSeq, qBlock]
          repeat first | refine AWp.seq ?_ | refine AWp.block ?_
          refine AWp.ops ?_
          simp
          refine ⟨i2 + 1, _, _, (Weak.slots [2, 4, 7, 8, 9, 24, 25, 26]).trans (Weak.freeze 1 3 (by simp)), ?_, by omega⟩
          rw [hJ2]
          refine ⟨by omega, ?_, by simp [frzH], by simp [wrap_i64 (n := (i2 : Int) + 1) (by omega) (by omega)]⟩
          intro t ht
          rw [hx2] at ht
          rcases List.mem_append.1 ht with h | h
          · exact hinv2 t h
          · simp at h; subst h; rw [hP]; simp; omega
      · intro hb2
        have hb2 : ¬ i2 < es.length := by simpa using hb2
        refine AWp.exit ?_
        simp [qSeq, qBlock]
        rw [List.take_of_length_le (by omega)] at hinv2
        have hok : fewX (S, E) = true := by rw [hfE]; exact List.all_eq_true.2 hinv2
        repeat first | refine AWp.seq ?_ | refine AWp.block ?_
        refine AWp.ops ?_
        simp
        refine ⟨i + 1, _, _, (Weak.slots [2, 7, 8, 9]).trans (Weak.freeze 0 3 (by simp)), ?_, by omega⟩
        rw [hJ]
        refine ⟨by omega, ?_, by simp [frzH], ?_⟩
        · intro z hzz
          rw [hxt] at hzz
          rcases List.mem_append.1 hzz with h | h
          · exact hinv z h
          · simp at h; subst h; exact hok
        · simp [hwi]
    ·
      intro hb
      have hb : ¬ i < zs.length := by simpa using hb
      refine AWp.exit ?_
      simp [qSeq, qBlock]
      rw [List.take_of_length_le (by omega)] at hinv
      have : (zs.all fun z => fewX z.2) = true := List.all_eq_true.2 hinv
      repeat first | refine AWp.seq ?_ | refine AWp.block ?_
      refine AWp.ops ?_
      simp
      refine AWp.ret ?_
      simp
      refine retOk.of rfl ?_
      rw [this]; simp
  refine (base.frozen 2).mono ?_
  rintro q H' ⟨rfl, r, G, rfl, rfl⟩
  exact ⟨rfl, by simp⟩

def live02_2 : AC := (.seq (.ops [⟨(some 16), none, (.k (.mov (.t 2)))⟩, ⟨(some 17), none, (.k (.bin .eql (.t 16) (.c (.sc (.int .i64 0)))))⟩, ⟨(some 18), none, (.k (.mov (.t 17)))⟩, ⟨(some 19), (some (18, true)), (.k (.fad 1 (.t 1)))⟩, ⟨(some 20), (some (18, true)), (.k (.ld 1 false (.t 19)))⟩, ⟨(some 21), (some (18, true)), (.k (.len (.t 20)))⟩, ⟨(some 22), (some (18, true)), (.k (.bin .eql (.t 21) (.c (.sc (.int .i64 2)))))⟩, ⟨(some 23), none, (.k (.pick (.t 18) (.t 22) (.c (.sc (.bool false)))))⟩, ⟨(some 24), none, (.k (.mov (.t 23)))⟩, ⟨(some 25), (some (24, true)), (.k (.fad 1 (.t 1)))⟩, ⟨(some 26), (some (24, true)), (.k (.ld 1 false (.t 25)))⟩, ⟨(some 27), (some (24, true)), (.k (.iad 2 (.t 26) (.c (.sc (.int .i64 0)))))⟩, ⟨(some 28), (some (24, true)), (.k (.fad 1 (.t 27)))⟩, ⟨(some 29), (some (24, true)), (.k (.ld 1 false (.t 28)))⟩, ⟨(some 30), (some (24, true)), (.k (.bin .eql (.t 29) (.c (.sc (.int .i64 2)))))⟩, ⟨(some 31), none, (.k (.pick (.t 24) (.t 30) (.c (.sc (.bool false)))))⟩, ⟨(some 32), none, (.k (.mov (.t 31)))⟩, ⟨(some 33), (some (32, true)), (.k (.fad 1 (.t 1)))⟩, ⟨(some 34), (some (32, true)), (.k (.ld 1 false (.t 33)))⟩, ⟨(some 35), (some (32, true)), (.k (.iad 2 (.t 34) (.c (.sc (.int .i64 1)))))⟩, ⟨(some 36), (some (32, true)), (.k (.fad 1 (.t 35)))⟩, ⟨(some 37), (some (32, true)), (.k (.ld 1 false (.t 36)))⟩, ⟨(some 38), (some (32, true)), (.k (.bin .eql (.t 37) (.c (.sc (.int .i64 7)))))⟩, ⟨(some 39), none, (.k (.pick (.t 32) (.t 38) (.c (.sc (.bool false)))))⟩, ⟨(some 0), none, (.k (.mov (.t 39)))⟩]) .ret)
def live02_1 : AC := (.seq (.ops [⟨(some 4), none, (.k (.lit 1 [(.c (.sc (.int .i64 2)))]))⟩, ⟨(some 5), none, (.k (.lit 1 [(.c (.sc (.int .i64 1)))]))⟩, ⟨(some 6), none, (.k (.mk [(.imm true none 0 []), (.sc (.int .i64 0))] [(0, (1, (.t 5))), (1, (1, (.c (.sc (.int .i64 3)))))]))⟩, ⟨(some 7), none, (.k (.lit 1 [(.c (.sc (.int .i64 0)))]))⟩, ⟨(some 8), none, (.k (.mk [(.imm true none 0 []), (.sc (.int .i64 0))] [(0, (1, (.t 7))), (1, (1, (.c (.sc (.int .i64 2)))))]))⟩, ⟨(some 9), none, (.k (.lit 1 [(.c (.sc (.int .i64 1)))]))⟩, ⟨(some 10), none, (.k (.mk [(.imm true none 0 []), (.sc (.int .i64 0))] [(0, (1, (.t 9))), (1, (1, (.c (.sc (.int .i64 4)))))]))⟩, ⟨(some 11), none, (.k (.lit 2 [(.t 6), (.t 8), (.t 10)]))⟩, ⟨(some 12), none, (.k (.mk [(.imm true none 0 []), (.imm true none 0 [])] [(0, (1, (.t 4))), (1, (1, (.t 11)))]))⟩, ⟨(some 13), none, (.call false (.c (.fn (.func 16) [] [])) [(.t 12), (.c (.imm true none 0 []))])⟩, ⟨(some 3), none, (.k (.mov (.t 13)))⟩, ⟨(some 14), none, (.k (.ext (.t 3) 0))⟩, ⟨(some 15), none, (.k (.ext (.t 3) 1))⟩, ⟨(some 1), none, (.k (.new 25 2 (.c (.agg [(.imm true none 0 []), (.imm true none 0 [])]))))⟩, ⟨none, none, (.k (.st 2 (.t 1) (.t 14)))⟩, ⟨(some 2), none, (.k (.mov (.t 15)))⟩]) live02_2)
def live02_ac : AC := (.seq (.ops [⟨(some 0), none, (.k (.mov (.c (.sc (.bool false)))))⟩]) live02_1)
theorem live02_call {args : List AV} {H : List AObj} {R : AV → List AObj → Prop} (h : AWp Try.prog [] H.length live02_ac (bodyQ H.length [(.t 0)] R) (args ++ List.replicate (40 - args.length) .und) H) : ACalls Try.prog 11 args H R :=
  ACalls.of_fn Try.func11 rfl (by kernel_rfl) rfl Try.ntmps11 h

theorem live02_order : orderF ([2], [([1], 3), ([0], 2), ([1], 4)]) [] = ([0], 0) := by decide +kernel
theorem live02_sort : [([1], (3 : Int)), ([0], 2), ([1], 4)].mergeSort (leO [0]) = [([0], 2), ([1], 3), ([1], 4)] := by
  simp [List.mergeSort, List.MergeSort.Internal.splitInTwo, leO, cmpO, List.merge]
theorem live02_join : joinF ([2], [([1], 3), ([0], 2), ([1], 4)]) [] = (([2], [([0], 2), ([1], 7)]), 0) := by
  have h : sortF ([2], [([1], 3), ([0], 2), ([1], 4)]) [] = (([2], [([0], 2), ([1], 3), ([1], 4)]), 0) := by
    simp only [sortF, live02_order, live02_sort]
    rfl
  rw [joinF, h]
  decide

theorem live02_spec : ACalls Try.prog 11 [] [] fun r G => G = [] ∧ r = Bo true := by
  have base : ACalls Try.prog 11 [] [] fun r G => r = Bo true := by
    apply live02_call
    repeat first | refine AWp.seq ?_ | refine AWp.block ?_
    refine AWp.ops ?_
    simp
    repeat first | refine AWp.seq ?_ | refine AWp.block ?_
    refine AWp.ops ?_
    simp
    have hc : Coo (.agg [.imm false (some 1) 1 [I 2], .imm false (some 3) 2 [.agg [.imm false (some 1) 1 [I 1], I 3], .agg [.imm false (some 1) 1 [I 0], I 2], .agg [.imm false (some 1) 1 [I 1], I 4]]]) ([2], [([1], 3), ([0], 2), ([1], 4)]) := by
      have h1 : ISl (.imm false (some 1) 1 [I 1]) [1] := ISl.of (xs := [1]) _ (by simp) (by simp)
      have h0 : ISl (.imm false (some 1) 1 [I 0]) [0] := ISl.of (xs := [0]) _ (by simp) (by simp)
      refine ⟨_, _, rfl, ISl.of (xs := [2]) _ (by simp) (by simp), false, _, _, _, rfl, by simp, by simp, ?_⟩
      exact ((Ents.nil.snoc h1).snoc h0).snoc h1
    refine ((coo_pure (cJoin_spec hc ISl.nil (by simp) ⟨⟨by simp, by simp⟩, by intro w hw; simp at hw; rcases hw with rfl | rfl | rfl <;> exact ⟨by simp, by simp⟩⟩ (by simp)) (by rw [live02_join]; exact ⟨⟨by simp, by simp⟩, by intro w hw; simp at hw; rcases hw with rfl | rfl <;> exact ⟨by simp, by simp⟩⟩)).pure (by simp) (by rintro r ⟨x, rfl, hx⟩; have := hx.noRef; simp [this]) _).mono ?_
    rw [live02_join]
    rintro r H' ⟨rfl, x, rfl, s, e, rfl, ⟨⟨n1, c1, z1, rfl, _⟩, _⟩, ⟨n2, c2, z2, es, rfl, h1, h2, h3⟩⟩
    have hn : n2 = false := by
      cases n2 with
      | false => rfl
      | true => have := h1 rfl; simp at this
    have hz := h2 hn
    subst hn hz
    obtain ⟨x0, hx0, _⟩ := h3.get (i := 0) (by simp)
    obtain ⟨x1, hx1, _⟩ := h3.get (i := 1) (by simp)
    have hl := h3.1
    simp at hl hx0 hx1
    match es, hl with
    | [e0, e1], _ =>
    simp at hx0 hx1
    subst hx0 hx1
    simp
    repeat first | refine AWp.seq ?_ | refine AWp.block ?_
    refine AWp.ops ?_
    simp
    refine AWp.ret ?_
    simp
    refine retOk.of rfl ?_
    simp
  refine (base.frozen 2).mono ?_
  rintro q H' ⟨rfl, r, G, rfl, rfl⟩
  exact ⟨rfl, by simp⟩
end Go.Fw
