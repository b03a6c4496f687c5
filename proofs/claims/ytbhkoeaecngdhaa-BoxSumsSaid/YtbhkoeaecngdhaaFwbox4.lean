import Derived.Test.YtbhkoeaecngdhaaFwbox3
namespace Go.Fw
open Go Go.RowKit Go.Proofs
set_option maxRecDepth 100000
set_option linter.unusedSimpArgs false
set_option linter.unusedVariables false

theorem ISl.of {xs : List Int} (c : Option Nat) (h1 : xs.length ≤ 9223372036854775807) (h2 : ∀ x ∈ xs, -9223372036854775808 ≤ x ∧ x ≤ 9223372036854775807) : ISl (.imm false c 1 (xs.map I)) xs :=
  ⟨⟨false, c, 1, rfl, by simp, by simp⟩, h1, h2⟩

theorem ISl.nil : ISl (.imm true none 0 []) [] := ⟨⟨true, none, 0, rfl, by simp, by simp⟩, by simp, by simp⟩

/-- A tensor: its shape, its numbers. -/
def Dn (d : AV) (D : List Int × List Int) : Prop := ∃ s v, d = .agg [s, v] ∧ ISl s D.1 ∧ ISl v D.2

def zeroF (xs : List Int) : (List Int × List Int) × Int :=
  if (laidF xs).2 ≠ 0 then (([], []), (laidF xs).2) else ((xs, List.replicate (laidF xs).1.toNat 0), 0)

theorem map_replicate_I (n : Nat) : List.replicate n (I 0) = (List.replicate n (0 : Int)).map I := by simp

theorem Zero_pure {a : AV} {xs : List Int} (ha : ISl a xs) : ACalls Try.prog 20 [a] [] fun r H' => H' = [] ∧ ∃ d, r = .tup [d, I (zeroF xs).2] ∧ Dn d (zeroF xs).1 := by
  refine ((Zero_spec ha).frozen 8).mono ?_
  rintro q H' ⟨rfl, r, G, ⟨e, ⟨h1, h2, rfl⟩ | ⟨rfl, h2, s, j, n, hn, rfl, hj, hs⟩⟩, rfl⟩
  · refine ⟨rfl, _, by simp [zeroF, h2, h1]; rfl, ?_⟩
    simp only [zeroF, h2]
    rw [if_pos h1]
    exact ⟨_, _, rfl, ISl.nil, ISl.nil⟩
  · obtain ⟨hl, n', hn', hb⟩ := laid_ok h2
    have hnn : n' = n := by omega
    subst hnn
    refine ⟨rfl, _, by simp [zeroF, h2]; rfl, ?_⟩
    have ez : (zeroF xs).1 = (xs, List.replicate n' 0) := by simp [zeroF, h2, hn]
    rw [ez]
    refine ⟨_, _, rfl, ?_, ?_⟩
    · rcases hs with ⟨h0, nl, c, sz, rfl, hs⟩ | ⟨k, hk, rfl, hG⟩
      · exact ⟨⟨nl, c, sz, by simp [h0], ⟨fun _ => h0, hs⟩⟩, ha.2⟩
      · refine ⟨⟨false, none, 1, ?_, by simp, by simp⟩, ha.2⟩
        simp [hG]
    · refine ⟨⟨false, none, 1, ?_, by simp, by simp⟩, by simp; omega, ?_⟩
      · simp [hj]
      · intro x hx
        simp at hx
        omega

def live_4 : AC := (.seq (.ops [⟨(some 22), none, (.k (.mov (.t 1)))⟩, ⟨(some 23), none, (.k (.bin .eql (.t 22) (.c (.sc (.int .i64 5)))))⟩, ⟨(some 24), none, (.k (.mov (.t 23)))⟩, ⟨(some 25), (some (24, true)), (.k (.mov (.t 2)))⟩, ⟨(some 26), (some (24, true)), (.k (.bin .eql (.t 25) (.c (.sc (.int .i64 0)))))⟩, ⟨(some 27), none, (.k (.pick (.t 24) (.t 26) (.c (.sc (.bool false)))))⟩, ⟨(some 28), none, (.k (.mov (.t 27)))⟩, ⟨(some 29), (some (28, true)), (.k (.mov (.t 3)))⟩, ⟨(some 30), (some (28, true)), (.k (.bin .eql (.t 29) (.c (.sc (.int .i64 1)))))⟩, ⟨(some 31), none, (.k (.pick (.t 28) (.t 30) (.c (.sc (.bool false)))))⟩, ⟨(some 32), none, (.k (.mov (.t 31)))⟩, ⟨(some 33), (some (32, true)), (.k (.mov (.t 4)))⟩, ⟨(some 34), (some (32, true)), (.k (.bin .eql (.t 33) (.c (.sc (.int .i64 0)))))⟩, ⟨(some 35), none, (.k (.pick (.t 32) (.t 34) (.c (.sc (.bool false)))))⟩, ⟨(some 36), none, (.k (.mov (.t 35)))⟩, ⟨(some 37), (some (36, true)), (.k (.fad 1 (.t 5)))⟩, ⟨(some 38), (some (36, true)), (.k (.ld 1 false (.t 37)))⟩, ⟨(some 39), (some (36, true)), (.k (.len (.t 38)))⟩, ⟨(some 40), (some (36, true)), (.k (.bin .eql (.t 39) (.c (.sc (.int .i64 2)))))⟩, ⟨(some 41), none, (.k (.pick (.t 36) (.t 40) (.c (.sc (.bool false)))))⟩, ⟨(some 42), none, (.k (.mov (.t 41)))⟩, ⟨(some 43), (some (42, true)), (.k (.mov (.t 6)))⟩, ⟨(some 44), (some (42, true)), (.k (.bin .eql (.t 43) (.c (.sc (.int .i64 0)))))⟩, ⟨(some 45), none, (.k (.pick (.t 42) (.t 44) (.c (.sc (.bool false)))))⟩, ⟨(some 0), none, (.k (.mov (.t 45)))⟩]) .ret)
def live_3 : AC := (.seq (.ops [⟨(some 18), none, (.k (.lit 1 [(.c (.sc (.int .i64 2)))]))⟩, ⟨(some 19), none, (.call false (.c (.fn (.func 20) [] [])) [(.t 18)])⟩, ⟨(some 17), none, (.k (.mov (.t 19)))⟩, ⟨(some 20), none, (.k (.ext (.t 17) 0))⟩, ⟨(some 21), none, (.k (.ext (.t 17) 1))⟩, ⟨(some 5), none, (.k (.new 35 2 (.c (.agg [(.imm true none 0 []), (.imm true none 0 [])]))))⟩, ⟨none, none, (.k (.st 2 (.t 5) (.t 20)))⟩, ⟨(some 6), none, (.k (.mov (.t 21)))⟩]) live_4)
def live_2 : AC := (.seq (.ops [⟨(some 14), none, (.call false (.c (.fn (.func 12) [] [])) [(.c (.imm true none 0 []))])⟩, ⟨(some 13), none, (.k (.mov (.t 14)))⟩, ⟨(some 15), none, (.k (.ext (.t 13) 0))⟩, ⟨(some 16), none, (.k (.ext (.t 13) 1))⟩, ⟨(some 3), none, (.k (.mov (.t 15)))⟩, ⟨(some 4), none, (.k (.mov (.t 16)))⟩]) live_3)
def live_1 : AC := (.seq (.ops [⟨(some 8), none, (.k (.lit 1 [(.c (.sc (.int .i64 2))), (.c (.sc (.int .i64 3)))]))⟩, ⟨(some 9), none, (.k (.lit 1 [(.c (.sc (.int .i64 1))), (.c (.sc (.int .i64 2)))]))⟩, ⟨(some 10), none, (.call false (.c (.fn (.func 13) [] [])) [(.t 8), (.t 9)])⟩, ⟨(some 7), none, (.k (.mov (.t 10)))⟩, ⟨(some 11), none, (.k (.ext (.t 7) 0))⟩, ⟨(some 12), none, (.k (.ext (.t 7) 1))⟩, ⟨(some 1), none, (.k (.mov (.t 11)))⟩, ⟨(some 2), none, (.k (.mov (.t 12)))⟩]) live_2)
def live_ac : AC := (.seq (.ops [⟨(some 0), none, (.k (.mov (.c (.sc (.bool false)))))⟩]) live_1)
theorem live_call {args : List AV} {H : List AObj} {R : AV → List AObj → Prop} (h : AWp Try.prog [] H.length live_ac (bodyQ H.length [(.t 0)] R) (args ++ List.replicate (46 - args.length) .und) H) : ACalls Try.prog 11 args H R :=
  ACalls.of_fn Try.func11 rfl (by kernel_rfl) rfl Try.ntmps11 h

theorem live_spec : ACalls Try.prog 11 [] [] fun r G => G = [] ∧ r = Bo true := by
  have base : ACalls Try.prog 11 [] [] fun r _ => r = Bo true := by
    apply live_call
    first | refine AWp.seq (AWp.ops ?_) | refine AWp.seq (AWp.seq (AWp.ops ?_)) | refine AWp.ops ?_ | refine AWp.seq (AWp.block (AWp.seq (AWp.ops ?_))) | refine AWp.seq (AWp.seq (AWp.seq (AWp.ops ?_)))
    simp
    first | refine AWp.seq (AWp.ops ?_) | refine AWp.seq (AWp.seq (AWp.ops ?_)) | refine AWp.ops ?_ | refine AWp.seq (AWp.block (AWp.seq (AWp.ops ?_))) | refine AWp.seq (AWp.seq (AWp.seq (AWp.ops ?_)))
    simp
    have a1 : ISl (.imm false (some 2) 1 [I 2, I 3]) [2, 3] := ISl.of (xs := [2, 3]) _ (by simp) (by simp)
    have a2 : ISl (.imm false (some 2) 1 [I 1, I 2]) [1, 2] := ISl.of (xs := [1, 2]) _ (by simp) (by simp)
    have a4 : ISl (.imm false (some 1) 1 [I 2]) [2] := ISl.of (xs := [2]) _ (by simp) (by simp)
    have e1 : atF [2, 3] [1, 2] = (5, 0) := by decide
    have e2 : cells [] = (1, 0) := by decide
    have e3 : zeroF [2] = (([2], [0, 0]), 0) := by decide
    refine (At_spec a1 a2).mono ?_
    rintro r H' ⟨rfl, rfl⟩
    simp [e1]
    first | refine AWp.seq (AWp.ops ?_) | refine AWp.seq (AWp.seq (AWp.ops ?_)) | refine AWp.ops ?_ | refine AWp.seq (AWp.block (AWp.seq (AWp.ops ?_))) | refine AWp.seq (AWp.seq (AWp.seq (AWp.ops ?_)))
    simp
    refine (Cells_spec ISl.nil).mono ?_
    rintro r H' ⟨rfl, rfl⟩
    simp [e2]
    first | refine AWp.seq (AWp.ops ?_) | refine AWp.seq (AWp.seq (AWp.ops ?_)) | refine AWp.ops ?_ | refine AWp.seq (AWp.block (AWp.seq (AWp.ops ?_))) | refine AWp.seq (AWp.seq (AWp.seq (AWp.ops ?_)))
    simp
    refine (Zero_pure a4).mono ?_
    rintro r H' ⟨rfl, d, rfl, s, v, rfl, ⟨⟨nl1, c1, sz1, rfl, _⟩, _⟩, ⟨⟨nl2, c2, sz2, rfl, _⟩, _⟩⟩
    simp [e3]
    first | refine AWp.seq (AWp.ops ?_) | refine AWp.seq (AWp.seq (AWp.ops ?_)) | refine AWp.ops ?_ | refine AWp.seq (AWp.block (AWp.seq (AWp.ops ?_))) | refine AWp.seq (AWp.seq (AWp.seq (AWp.ops ?_)))
    simp
    refine AWp.ret ?_
    simp
    exact retOk.of rfl rfl
  refine (base.frozen 1).mono ?_
  rintro q H' ⟨rfl, r, G, rfl, rfl⟩
  exact ⟨rfl, rfl⟩
end Go.Fw
