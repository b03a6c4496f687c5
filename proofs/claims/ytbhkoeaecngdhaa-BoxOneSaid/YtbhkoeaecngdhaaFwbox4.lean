import Derived.Test.YtbhkoeaecngdhaaFwzero1
namespace Go.Fw
open Go Go.RowKit Go.Proofs
set_option maxRecDepth 100000
set_option linter.unusedSimpArgs false
set_option linter.unusedVariables false

def live_4 : AC := (.seq (.ops [⟨(some 22), none, (.k (.mov (.t 1)))⟩, ⟨(some 23), none, (.k (.bin .eql (.t 22) (.c (.sc (.int .i64 5)))))⟩, ⟨(some 24), none, (.k (.mov (.t 23)))⟩, ⟨(some 25), (some (24, true)), (.k (.mov (.t 2)))⟩, ⟨(some 26), (some (24, true)), (.k (.bin .eql (.t 25) (.c (.sc (.int .i64 0)))))⟩, ⟨(some 27), none, (.k (.pick (.t 24) (.t 26) (.c (.sc (.bool false)))))⟩, ⟨(some 28), none, (.k (.mov (.t 27)))⟩, ⟨(some 29), (some (28, true)), (.k (.mov (.t 3)))⟩, ⟨(some 30), (some (28, true)), (.k (.bin .eql (.t 29) (.c (.sc (.int .i64 1)))))⟩, ⟨(some 31), none, (.k (.pick (.t 28) (.t 30) (.c (.sc (.bool false)))))⟩, ⟨(some 32), none, (.k (.mov (.t 31)))⟩, ⟨(some 33), (some (32, true)), (.k (.mov (.t 4)))⟩, ⟨(some 34), (some (32, true)), (.k (.bin .eql (.t 33) (.c (.sc (.int .i64 0)))))⟩, ⟨(some 35), none, (.k (.pick (.t 32) (.t 34) (.c (.sc (.bool false)))))⟩, ⟨(some 36), none, (.k (.mov (.t 35)))⟩, ⟨(some 37), (some (36, true)), (.k (.fad 1 (.t 5)))⟩, ⟨(some 38), (some (36, true)), (.k (.ld 1 false (.t 37)))⟩, ⟨(some 39), (some (36, true)), (.k (.len (.t 38)))⟩, ⟨(some 40), (some (36, true)), (.k (.bin .eql (.t 39) (.c (.sc (.int .i64 2)))))⟩, ⟨(some 41), none, (.k (.pick (.t 36) (.t 40) (.c (.sc (.bool false)))))⟩, ⟨(some 42), none, (.k (.mov (.t 41)))⟩, ⟨(some 43), (some (42, true)), (.k (.mov (.t 6)))⟩, ⟨(some 44), (some (42, true)), (.k (.bin .eql (.t 43) (.c (.sc (.int .i64 0)))))⟩, ⟨(some 45), none, (.k (.pick (.t 42) (.t 44) (.c (.sc (.bool false)))))⟩, ⟨(some 0), none, (.k (.mov (.t 45)))⟩]) .ret)
def live_3 : AC := (.seq (.ops [⟨(some 18), none, (.k (.lit 1 [(.c (.sc (.int .i64 2)))]))⟩, ⟨(some 19), none, (.call false (.c (.fn (.func 20) [] [])) [(.t 18)])⟩, ⟨(some 17), none, (.k (.mov (.t 19)))⟩, ⟨(some 20), none, (.k (.ext (.t 17) 0))⟩, ⟨(some 21), none, (.k (.ext (.t 17) 1))⟩, ⟨(some 5), none, (.k (.new 35 2 (.c (.agg [(.imm true none 0 []), (.imm true none 0 [])]))))⟩, ⟨none, none, (.k (.st 2 (.t 5) (.t 20)))⟩, ⟨(some 6), none, (.k (.mov (.t 21)))⟩]) live_4)
def live_2 : AC := (.seq (.ops [⟨(some 14), none, (.call false (.c (.fn (.func 12) [] [])) [(.c (.imm true none 0 []))])⟩, ⟨(some 13), none, (.k (.mov (.t 14)))⟩, ⟨(some 15), none, (.k (.ext (.t 13) 0))⟩, ⟨(some 16), none, (.k (.ext (.t 13) 1))⟩, ⟨(some 3), none, (.k (.mov (.t 15)))⟩, ⟨(some 4), none, (.k (.mov (.t 16)))⟩]) live_3)
def live_1 : AC := (.seq (.ops [⟨(some 8), none, (.k (.lit 1 [(.c (.sc (.int .i64 2))), (.c (.sc (.int .i64 3)))]))⟩, ⟨(some 9), none, (.k (.lit 1 [(.c (.sc (.int .i64 1))), (.c (.sc (.int .i64 2)))]))⟩, ⟨(some 10), none, (.call false (.c (.fn (.func 13) [] [])) [(.t 8), (.t 9)])⟩, ⟨(some 7), none, (.k (.mov (.t 10)))⟩, ⟨(some 11), none, (.k (.ext (.t 7) 0))⟩, ⟨(some 12), none, (.k (.ext (.t 7) 1))⟩, ⟨(some 1), none, (.k (.mov (.t 11)))⟩, ⟨(some 2), none, (.k (.mov (.t 12)))⟩]) live_2)
def live_ac : AC := (.seq (.ops [⟨(some 0), none, (.k (.mov (.c (.sc (.bool false)))))⟩]) live_1)
theorem live_call {args : List AV} {H : List AObj} {R : AV → List AObj → Prop} (h : AWp Try.prog [] H.length live_ac (bodyQ H.length [(.t 0)] R) (args ++ List.replicate (46 - args.length) .und) H) : ACalls Try.prog 11 args H R :=
  ACalls.of_fn Try.func11 rfl (by kernel_rfl) rfl Try.ntmps11 h

theorem live_spec : ACalls Try.prog 11 [] [] fun r G => G = [] ∧ r = Bo true := by
  have base : ACalls Try.prog 11 [] [] fun r _ => r = Bo true := by
    apply live_call
    repeat first | refine AWp.seq ?_ | refine AWp.block ?_
    refine AWp.ops ?_
    simp
    repeat first | refine AWp.seq ?_ | refine AWp.block ?_
    refine AWp.ops ?_
    simp
    have a1 : ISl (.imm false (some 2) 1 [I 2, I 3]) [2, 3] := ISl.of (xs := [2, 3]) _ (by simp) (by simp)
    have a2 : ISl (.imm false (some 2) 1 [I 1, I 2]) [1, 2] := ISl.of (xs := [1, 2]) _ (by simp) (by simp)
    have a4 : ISl (.imm false (some 1) 1 [I 2]) [2] := ISl.of (xs := [2]) _ (by simp) (by simp)
    have e1 : atF [2, 3] [1, 2] = (5, 0) := by decide
    have e2 : cells [] = (1, 0) := by decide
    have e3 : zeroF [2] = (([2], [0, 0]), 0) := by decide
    refine (At_spec a1 a2).mono ?_
    rintro r H' ⟨rfl, rfl⟩
    simp [e1]
    repeat first | refine AWp.seq ?_ | refine AWp.block ?_
    refine AWp.ops ?_
    simp
    refine (Cells_spec ISl.nil).mono ?_
    rintro r H' ⟨rfl, rfl⟩
    simp [e2]
    repeat first | refine AWp.seq ?_ | refine AWp.block ?_
    refine AWp.ops ?_
    simp
    refine (Zero_pure a4).mono ?_
    rintro r H' ⟨rfl, d, rfl, s, v, rfl, ⟨⟨nl1, c1, sz1, rfl, _⟩, _⟩, ⟨⟨nl2, c2, sz2, rfl, _⟩, _⟩⟩
    simp [e3]
    repeat first | refine AWp.seq ?_ | refine AWp.block ?_
    refine AWp.ops ?_
    simp
    refine AWp.ret ?_
    simp
    exact retOk.of rfl rfl
  refine (base.frozen 1).mono ?_
  rintro q H' ⟨rfl, r, G, rfl, rfl⟩
  exact ⟨rfl, rfl⟩
end Go.Fw
