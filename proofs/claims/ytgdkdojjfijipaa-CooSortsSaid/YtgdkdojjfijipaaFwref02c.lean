import Derived.Test.YtgdkdojjfijipaaFwref02b
import Derived.Test.YtgdkdojjfijipaaFwcoo3
namespace Go.Fw
open Go Go.RowKit Go.Proofs
set_option maxRecDepth 100000
set_option linter.unusedSimpArgs false
set_option linter.unusedVariables false

def rcEquals_12 : AC := (.seq (.ops [⟨(some 30), none, (.k (.fad 1 (.t 6)))⟩, ⟨(some 31), none, (.k (.ld 1 false (.t 30)))⟩, ⟨(some 32), none, (.k (.fad 1 (.t 3)))⟩, ⟨(some 33), none, (.k (.ld 1 false (.t 32)))⟩, ⟨(some 34), none, (.k (.mov (.t 5)))⟩, ⟨(some 35), none, (.k (.iad 2 (.t 33) (.t 34)))⟩, ⟨(some 36), none, (.k (.fad 1 (.t 35)))⟩, ⟨(some 37), none, (.k (.ld 1 false (.t 36)))⟩, ⟨(some 38), none, (.k (.bin .neq (.t 31) (.t 37)))⟩, ⟨(some 39), none, (.k (.mov (.t 38)))⟩, ⟨(some 40), (some (39, false)), (.k (.fad 0 (.t 6)))⟩, ⟨(some 41), (some (39, false)), (.k (.ld 1 false (.t 40)))⟩, ⟨(some 42), (some (39, false)), (.k (.fad 1 (.t 3)))⟩, ⟨(some 43), (some (39, false)), (.k (.ld 1 false (.t 42)))⟩, ⟨(some 44), (some (39, false)), (.k (.mov (.t 5)))⟩, ⟨(some 45), (some (39, false)), (.k (.iad 2 (.t 43) (.t 44)))⟩, ⟨(some 46), (some (39, false)), (.k (.fad 0 (.t 45)))⟩, ⟨(some 47), (some (39, false)), (.k (.ld 1 false (.t 46)))⟩, ⟨(some 48), (some (39, false)), (.call true (.c (.fn (.func 41) [] [])) [(.t 41), (.t 47)])⟩, ⟨(some 49), (some (39, false)), (.k (.un .not (.t 48)))⟩, ⟨(some 50), none, (.k (.pick (.t 39) (.c (.sc (.bool true))) (.t 49)))⟩]) (.cond (.t 50) (.seq (.ops [⟨(some 4), none, (.k (.mov (.c (.sc (.bool false)))))⟩]) .ret) .skip))
def rcEquals_11 : AC := (.seq (.ops [⟨(some 27), none, (.k (.mov (.t 25)))⟩, ⟨(some 28), none, (.k (.iad 2 (.t 23) (.t 25)))⟩, ⟨(some 29), none, (.k (.ld 2 true (.t 28)))⟩, ⟨(some 6), none, (.k (.new 38 2 (.c (.agg [(.imm true none 0 []), (.sc (.int .i64 0))]))))⟩, ⟨(some 5), none, (.k (.mov (.t 27)))⟩, ⟨none, none, (.k (.st 2 (.t 6) (.t 29)))⟩]) rcEquals_12)
def rcEquals_10 : AC := (.block 1 rcEquals_11)
def rcEquals_9 : AC := (.seq rcEquals_10 (.ops [⟨(some 51), none, (.k (.bin .add (.t 25) (.c (.sc (.int .i64 1)))))⟩, ⟨(some 25), none, (.k (.mov (.t 51)))⟩]))
def rcEquals_8 : AC := (.seq (.cond (.t 26) .skip (.exit 0)) rcEquals_9)
def rcEquals_7 : AC := (.seq (.ops [⟨(some 26), none, (.k (.bin .lss (.t 25) (.t 24)))⟩]) rcEquals_8)
def rcEquals_6 : AC := (.loop rcEquals_7)
def rcEquals_5 : AC := (.block 0 rcEquals_6)
def rcEquals_4 : AC := (.seq (.ops [⟨(some 22), none, (.k (.fad 1 (.t 2)))⟩, ⟨(some 23), none, (.k (.ld 1 false (.t 22)))⟩, ⟨(some 24), none, (.k (.len (.t 23)))⟩, ⟨(some 25), none, (.k (.mov (.c (.sc (.int .i64 0)))))⟩]) rcEquals_5)
def rcEquals_3 : AC := (.seq rcEquals_4 (.seq (.ops [⟨(some 4), none, (.k (.mov (.c (.sc (.bool true)))))⟩]) .ret))
def rcEquals_2 : AC := (.seq (.ops [⟨(some 7), none, (.k (.fad 0 (.t 2)))⟩, ⟨(some 8), none, (.k (.ld 1 false (.t 7)))⟩, ⟨(some 9), none, (.k (.fad 0 (.t 3)))⟩, ⟨(some 10), none, (.k (.ld 1 false (.t 9)))⟩, ⟨(some 11), none, (.call false (.c (.fn (.func 41) [] [])) [(.t 8), (.t 10)])⟩, ⟨(some 12), none, (.k (.un .not (.t 11)))⟩, ⟨(some 13), none, (.k (.mov (.t 12)))⟩, ⟨(some 14), (some (13, false)), (.k (.fad 1 (.t 2)))⟩, ⟨(some 15), (some (13, false)), (.k (.ld 1 false (.t 14)))⟩, ⟨(some 16), (some (13, false)), (.k (.len (.t 15)))⟩, ⟨(some 17), (some (13, false)), (.k (.fad 1 (.t 3)))⟩, ⟨(some 18), (some (13, false)), (.k (.ld 1 false (.t 17)))⟩, ⟨(some 19), (some (13, false)), (.k (.len (.t 18)))⟩, ⟨(some 20), (some (13, false)), (.k (.bin .neq (.t 16) (.t 19)))⟩, ⟨(some 21), none, (.k (.pick (.t 13) (.c (.sc (.bool true))) (.t 20)))⟩]) (.cond (.t 21) (.seq (.ops [⟨(some 4), none, (.k (.mov (.c (.sc (.bool false)))))⟩]) .ret) .skip))
def rcEquals_1 : AC := (.seq rcEquals_2 rcEquals_3)
def rcEquals_ac : AC := (.seq (.ops [⟨(some 2), none, (.k (.new 25 2 (.t 0)))⟩, ⟨(some 3), none, (.k (.new 25 2 (.t 1)))⟩, ⟨(some 4), none, (.k (.mov (.c (.sc (.bool false)))))⟩]) rcEquals_1)
theorem rcEquals_call {args : List AV} {H : List AObj} {R : AV → List AObj → Prop} (h : AWp Try.prog [] H.length rcEquals_ac (bodyQ H.length [(.t 4)] R) (args ++ List.replicate (52 - args.length) .und) H) : ACalls Try.prog 27 args H R :=
  ACalls.of_fn Try.func27 rfl (by kernel_rfl) rfl Try.ntmps27 h

set_option maxHeartbeats 4000000 in
theorem rcEquals_spec {a b : AV} {X Y : List Int × List (List Int × Int)} (ha : Coo a X) (hb : Coo b Y) (hEl : X.2.length ≤ 9223372036854775807) (hDl : Y.2.length ≤ 9223372036854775807) : ACalls Try.prog 27 [a, b] [] fun r H' => H' = [] ∧ r = Bo (decide (X = Y)) := by
  obtain ⟨S, E⟩ := X
  obtain ⟨T, D⟩ := Y
  obtain ⟨s, e, rfl, hS, hE⟩ := ha
  obtain ⟨t, d, rfl, hT, hD⟩ := hb
  simp only at hS hE hT hD hEl hDl
  have hS' := hS
  have hT' := hT
  obtain ⟨⟨n1, c1, z1, rfl, hs1⟩, hl1, hx1⟩ := hS
  obtain ⟨n2, c2, z2, es, rfl, h21, h22, h23⟩ := hE
  obtain ⟨⟨n3, c3, z3, rfl, hs3⟩, hl3, hx3⟩ := hT
  obtain ⟨n4, c4, z4, ds, rfl, h41, h42, h43⟩ := hD
  have hel := h23.1
  have hdl := h43.1
  have base : ACalls Try.prog 27 [.agg [.imm n1 c1 z1 (S.map I), .imm n2 c2 z2 es], .agg [.imm n3 c3 z3 (T.map I), .imm n4 c4 z4 ds]] [] fun r H' => r = Bo (decide ((S, E) = (T, D))) := by
    apply rcEquals_call
    repeat first | refine AWp.seq ?_ | refine AWp.block ?_
    refine AWp.ops ?_
    simp
    repeat first | refine AWp.seq ?_ | refine AWp.block ?_
    refine AWp.ops ?_
    simp
    refine ((rEqual_spec hS' hT').pure (by simp) (by rintro r rfl; simp) _).mono ?_
    rintro r H' ⟨rfl, rfl⟩
    by_cases hST : S = T
    case neg =>
      have hne : decide ((S, E) = (T, D)) = false := by simp [hST]
      simp [hST]
      refine AWp.cond (b := true) (by simp) (fun _ => ?_) (fun h => by cases h)
      repeat first | refine AWp.seq ?_ | refine AWp.block ?_
      refine AWp.ops ?_
      simp
      refine AWp.ret ?_
      simp
      refine retOk.of rfl ?_
      simp
    by_cases hL : es.length = ds.length
    case neg =>
      have hne : ¬ E = D := fun e => hL (by rw [hel, hdl, e])
      simp [hST]
      refine AWp.cond (b := true) (by simp; omega) (fun _ => ?_) (fun h => by cases h)
      repeat first | refine AWp.seq ?_ | refine AWp.block ?_
      refine AWp.ops ?_
      simp
      refine AWp.ret ?_
      simp
      refine retOk.of rfl ?_
      simp [hne]
    simp [hST]
    refine AWp.cond (b := false) (by simp; omega) (fun h => by cases h) (fun _ => ?_)
    subst hST
    refine AWp.skip ?_
    simp only [qSeq]
    repeat first | refine AWp.seq ?_ | refine AWp.block ?_
    refine AWp.ops ?_
    simp
    obtain ⟨J, hJ⟩ : ∃ J : Nat → List AV → List AObj → Prop, J = fun i fr H => i ≤ es.length ∧ (E.take i = D.take i) ∧ H = [cooO (.agg [.imm n1 c1 z1 (S.map I), .imm n2 c2 z2 es]), cooO (.agg [.imm n3 c3 z3 (S.map I), .imm n4 c4 z4 ds])] ∧
      fr = [.und, .und, .ptr 0 1 0 0, .ptr 1 1 0 0, Bo false, .und, .und, .und, .und, .und, .und, .und, .und, .und, .und, .und, .und, .und, .und, .und, .und, .und, .und, .imm n2 c2 z2 es, I es.length, I i, .und, .und, .und, .und, .und, .und, .und, .und, .und, .und, .und, .und, .und, .und, .und, .und, .und, .und, .und, .und, .und, .und, .und, .und, .und, .und] := ⟨_, rfl⟩
    refine AWp.block (AWp.loop J (fun i => es.length - i) 0 (Weak.slots [2, 3, 4, 23, 24, 25]) (by rw [hJ]; exact ⟨by omega, rfl, by simp, by simp⟩) ?_)
    intro i fr H hI
    rw [hJ] at hI
    obtain ⟨hi, hinv, rfl, rfl⟩ := hI
    repeat first | refine AWp.seq ?_ | refine AWp.block ?_
    refine AWp.ops ?_
    simp
    refine AWp.seq (AWp.cond (b := decide (i < es.length)) (by simp <;> omega) ?_ ?_)
    ·
      intro hb
      have hb : i < es.length := by simpa using hb
      refine AWp.skip ?_
      simp only [qSeq]
      have hb1 : i < E.length := by omega
      have hb2 : i < D.length := by omega
      obtain ⟨ai, hai, hai2⟩ := h23.get hb1
      obtain ⟨bi, hbi, hbi2⟩ := h43.get hb2
      have hx1 := List.take_succ_eq_append_getElem hb1
      have hx2 := List.take_succ_eq_append_getElem hb2
      have hn2 : n2 = false := by
        cases n2 with
        | false => rfl
        | true => have := h21 rfl; rw [this] at hb1; simp at hb1
      have hz2 := h22 hn2
      have hn4 : n4 = false := by
        cases n4 with
        | false => rfl
        | true => have := h41 rfl; rw [this] at hb2; simp at hb2
      have hz4 := h42 hn4
      subst hn2 hz2 hn4 hz4
      have hED : E = D → E[i] = D[i] := fun e => by subst e; rfl
      generalize E[i] = x at hai hai2 hx1 hED
      generalize D[i] = y at hbi hbi2 hx2 hED
      obtain ⟨c, v⟩ := x
      obtain ⟨c', v'⟩ := y
      simp only at hai hai2 hbi hbi2
      have hai3 := hai2
      have hbi3 := hbi2
      obtain ⟨⟨n5, c5, z5, rfl, hs5⟩, hl5, hx5⟩ := hai2
      obtain ⟨⟨n6, c6, z6, rfl, hs6⟩, hl6, hx6⟩ := hbi2
      obtain ⟨hia, hia'⟩ := List.getElem?_eq_some_iff.1 hai
      obtain ⟨hib, hib'⟩ := List.getElem?_eq_some_iff.1 hbi
      have hwi := wrap_i64 (n := (i : Int) + 1) (by omega) (by omega)
      by_cases hvv : v = v'
      case neg =>
        have hne : ¬ E = D := fun e => by
          have := hED e
          rw [Prod.mk.injEq] at this
          exact hvv this.2
        repeat first | refine AWp.seq ?_ | refine AWp.block ?_
        refine AWp.ops ?_
        simp [hai, hia, hia']
        repeat first | refine AWp.seq ?_ | refine AWp.block ?_
        refine AWp.ops ?_
        simp [hbi, hib, hib', hvv]
        refine AWp.cond (b := true) (by simp [hvv]) (fun _ => ?_) (fun h => by cases h)
        repeat first | refine AWp.seq ?_ | refine AWp.block ?_
        refine AWp.ops ?_
        simp
        refine AWp.ret ?_
        simp
        refine retOk.of rfl ?_
        simp [hne]
      subst hvv
      repeat first | refine AWp.seq ?_ | refine AWp.block ?_
      refine AWp.ops ?_
      simp [hai, hia, hia']
      repeat first | refine AWp.seq ?_ | refine AWp.block ?_
      refine AWp.ops ?_
      simp [hbi, hib, hib']
      refine ((rEqual_spec hai3 hbi3).pure (by simp) (by rintro r rfl; simp) _).mono ?_
      rintro r H' ⟨rfl, rfl⟩
      by_cases hcc : c = c'
      case neg =>
        have hne : ¬ E = D := fun e => by
          have := hED e
          rw [Prod.mk.injEq] at this
          exact hcc this.1
        simp [hcc]
        refine AWp.cond (b := true) (by simp) (fun _ => ?_) (fun h => by cases h)
        repeat first | refine AWp.seq ?_ | refine AWp.block ?_
        refine AWp.ops ?_
        simp
        refine AWp.ret ?_
        simp
        refine retOk.of rfl ?_
        simp [hne]
      subst hcc
      simp
      refine AWp.cond (b := false) (by simp) (fun h => by cases h) (fun _ => ?_)
      refine AWp.skip ?_
      simp only [qSeq, qBlock]
      repeat first | refine AWp.seq ?_ | refine AWp.block ?_
      refine AWp.ops ?_
      simp [hwi]
      refine ⟨i + 1, _, _, (Weak.slots [2, 3, 4, 23, 24, 25]).trans (Weak.freeze 2 3 (by simp)), ?_, by omega⟩
      rw [hJ]
      exact ⟨by omega, by rw [hx1, hx2, hinv], by simp [frzH, h23.frz, h43.frz], by simp⟩
    ·
      intro hb
      have hb : ¬ i < es.length := by simpa using hb
      refine AWp.exit ?_
      simp [qSeq, qBlock]
      rw [List.take_of_length_le (by omega), List.take_of_length_le (by omega)] at hinv
      repeat first | refine AWp.seq ?_ | refine AWp.block ?_
      refine AWp.ops ?_
      simp
      refine AWp.ret ?_
      simp
      refine retOk.of rfl ?_
      simp [hinv]
  refine (base.frozen 2).mono ?_
  rintro q H' ⟨rfl, r, G, rfl, rfl⟩
  exact ⟨rfl, by simp⟩
end Go.Fw
