import Derived.Test.YtgdkdojjfijipaaFwref01a
import Derived.Test.YtgdkdojjfijipaaFwbx1
import Derived.Test.YtgdkdojjfijipaaFwrowo1
namespace Go.Fw
open Go Go.RowKit Go.Proofs
set_option maxRecDepth 100000
set_option linter.unusedSimpArgs false
set_option linter.unusedVariables false

def rZero_10 : AC := (.seq (.par [[⟨(some 18), none, (.k (.mov (.t 0)))⟩, ⟨(some 20), none, (.k (.mov (.t 4)))⟩, ⟨(some 19), none, (.k (.app 3 1 8 (.c (.imm true none 0 [])) (.t 18)))⟩, ⟨(some 21), none, (.k (.mkS 2 1 8 (.sc (.int .i64 0)) (.t 20) (.t 20)))⟩, ⟨(some 22), none, (.k (.mk [(.imm true none 0 []), (.imm true none 0 [])] [(0, (1, (.t 19))), (1, (1, (.t 21)))]))⟩, ⟨none, none, (.k (.st 2 (.t 2) (.t 22)))⟩, ⟨(some 3), none, (.k (.mov (.c (.sc (.int .i64 0)))))⟩], [⟨(some 18), none, (.k (.mov (.t 0)))⟩, ⟨(some 20), none, (.k (.mov (.t 4)))⟩, ⟨(some 21), none, (.k (.mkS 2 1 8 (.sc (.int .i64 0)) (.t 20) (.t 20)))⟩, ⟨(some 19), none, (.k (.app 3 1 8 (.c (.imm true none 0 [])) (.t 18)))⟩, ⟨(some 22), none, (.k (.mk [(.imm true none 0 []), (.imm true none 0 [])] [(0, (1, (.t 19))), (1, (1, (.t 21)))]))⟩, ⟨none, none, (.k (.st 2 (.t 2) (.t 22)))⟩, ⟨(some 3), none, (.k (.mov (.c (.sc (.int .i64 0)))))⟩]]) .ret)
def rZero_9 : AC := (.seq (.ops [⟨(some 17), none, (.k (.mk [(.imm true none 0 []), (.imm true none 0 [])] []))⟩, ⟨none, none, (.k (.st 2 (.t 2) (.t 17)))⟩, ⟨(some 3), none, (.k (.mov (.c (.sc (.int .i64 2)))))⟩]) .ret)
def rZero_8 : AC := (.cond (.t 16) rZero_9 .skip)
def rZero_7 : AC := (.seq (.ops [⟨(some 15), none, (.k (.mov (.t 4)))⟩, ⟨(some 16), none, (.k (.bin .gtr (.t 15) (.c (.sc (.int .i64 65536)))))⟩]) rZero_8)
def rZero_6 : AC := (.seq rZero_7 rZero_10)
def rZero_5 : AC := (.seq (.ops [⟨(some 13), none, (.k (.mk [(.imm true none 0 []), (.imm true none 0 [])] []))⟩, ⟨(some 14), none, (.k (.mov (.t 5)))⟩, ⟨none, none, (.k (.st 2 (.t 2) (.t 13)))⟩, ⟨(some 3), none, (.k (.mov (.t 14)))⟩]) .ret)
def rZero_4 : AC := (.cond (.t 12) rZero_5 .skip)
def rZero_3 : AC := (.seq (.ops [⟨(some 11), none, (.k (.mov (.t 5)))⟩, ⟨(some 12), none, (.k (.bin .neq (.t 11) (.c (.sc (.int .i64 0)))))⟩]) rZero_4)
def rZero_2 : AC := (.seq rZero_3 rZero_6)
def rZero_1 : AC := (.seq (.ops [⟨(some 7), none, (.k (.mov (.t 0)))⟩, ⟨(some 8), none, (.call false (.c (.fn (.func 56) [] [])) [(.t 7)])⟩, ⟨(some 6), none, (.k (.mov (.t 8)))⟩, ⟨(some 9), none, (.k (.ext (.t 6) 0))⟩, ⟨(some 10), none, (.k (.ext (.t 6) 1))⟩, ⟨(some 4), none, (.k (.mov (.t 9)))⟩, ⟨(some 5), none, (.k (.mov (.t 10)))⟩]) rZero_2)
def rZero_ac : AC := (.seq (.ops [⟨(some 2), none, (.k (.new 49 2 (.c (.agg [(.imm true none 0 []), (.imm true none 0 [])]))))⟩, ⟨(some 3), none, (.k (.mov (.c (.sc (.int .i64 0)))))⟩]) rZero_1)
theorem rZero_call {args : List AV} {H : List AObj} {R : AV → List AObj → Prop} (h : AWp Try.prog [] H.length rZero_ac (bodyQ H.length [(.cell 2 2 true), (.t 3)] R) (args ++ List.replicate (23 - args.length) .und) H) : ACalls Try.prog 64 args H R :=
  ACalls.of_fn Try.func64 rfl (by kernel_rfl) rfl Try.ntmps64 h

theorem rZero_spec {a : AV} {xs : List Int} (ha : ISl a xs) : ACalls Try.prog 64 [a] [] fun r G => zeroR xs r G := by
  have ha' := ha
  obtain ⟨⟨nl, c, sz, rfl, hs⟩, hlen, hx⟩ := ha
  apply rZero_call
  repeat first | refine AWp.seq ?_ | refine AWp.block ?_
  refine AWp.ops ?_
  simp
  repeat first | refine AWp.seq ?_ | refine AWp.block ?_
  refine AWp.ops ?_
  simp
  refine ((rCells_spec ha').pure (by simp) (by rintro r rfl; simp) _).mono ?_
  rintro r H' ⟨rfl, rfl⟩
  simp
  repeat first | refine AWp.seq ?_ | refine AWp.block ?_
  refine AWp.ops ?_
  simp
  refine AWp.cond (b := (cells xs).2 != 0) (by simp) ?_ ?_
  · intro h
    have h : (cells xs).2 ≠ 0 := by simpa using h
    repeat first | refine AWp.seq ?_ | refine AWp.block ?_
    refine AWp.ops ?_
    simp
    refine AWp.ret ?_
    simp
    refine retOk.of rfl ⟨(cells xs).2, .inl ⟨h, ?_, by simp⟩⟩
    have e : laidF xs = cells xs := by simp [laidF, h]
    rw [e, ← cells_err h]
  intro h
  have h : (cells xs).2 = 0 := by simpa using h
  refine AWp.skip ?_
  simp only [qSeq]
  repeat first | refine AWp.seq ?_ | refine AWp.block ?_
  refine AWp.ops ?_
  simp
  refine AWp.cond (b := decide (65536 < (cells xs).1)) (by simp) ?_ ?_
  · intro h1
    have h1 : 65536 < (cells xs).1 := by simpa using h1
    repeat first | refine AWp.seq ?_ | refine AWp.block ?_
    refine AWp.ops ?_
    simp
    refine AWp.ret ?_
    simp
    refine retOk.of rfl ⟨2, .inl ⟨by omega, ?_, by simp⟩⟩
    simp [laidF, h, h1]
  intro h1
  have h1 : ¬ 65536 < (cells xs).1 := by simpa using h1
  have hlf : laidF xs = cells xs := by simp [laidF, h1]
  have h' : (laidF xs).2 = 0 := by rw [hlf]; exact h
  obtain ⟨hxl, n, hn, hn'⟩ := laid_ok h'
  have hnc : (cells xs).1 = n := by rw [← hlf]; exact hn
  refine AWp.skip ?_
  simp only [qSeq]
  refine AWp.seq (AWp.par ?_)
  have b1 : (n : Int) * 8 ≤ 281474976710656 := by omega
  have b2 : (n : Int) ≤ 9223372036854775807 := by omega
  have b3 : xs.length * 8 ≤ 140737488355328 := by omega
  have b4 : xs.length ≤ 9223372036854775807 := by omega
  simp [hnc, elems_of _ hs]
  by_cases hx0 : xs = []
  · subst hx0
    simp [b1, b2]
    refine AWp.ret ?_
    simp
    refine retOk.of rfl ⟨0, .inr ⟨rfl, h', _, 1, n, hn, by simp; rfl, by simp, .inl ⟨rfl, true, none, 0, by simp, by simp⟩⟩⟩
  · simp [hx0, b1, b2, b3, b4]
    refine ⟨?_, ?_⟩
    ·
      refine AWp.ret ?_
      simp
      refine retOk.of rfl ⟨0, .inr ⟨rfl, h', _, 2, n, hn, by simp, by simp, .inr ⟨1, by omega, rfl, by simp⟩⟩⟩
    ·
      refine AWp.ret ?_
      simp
      refine retOk.of rfl ⟨0, .inr ⟨rfl, h', _, 1, n, hn, by simp, by simp, .inr ⟨2, by omega, rfl, by simp⟩⟩⟩

theorem rZero_pure {a : AV} {xs : List Int} (ha : ISl a xs) : ACalls Try.prog 64 [a] [] fun r H' => H' = [] ∧ ∃ d, r = .tup [d, I (zeroF xs).2] ∧ Dn d (zeroF xs).1 := by
  refine ((rZero_spec ha).frozen 8).mono ?_
  rintro q H' ⟨rfl, r, G, ⟨e, ⟨h1, h2, rfl⟩ | ⟨rfl, h2, s, j, n, hn, rfl, hj, hs⟩⟩, rfl⟩
  · refine ⟨rfl, _, by simp [zeroF, h2, h1]; rfl, ?_⟩
    simp only [zeroF, h2]
    rw [if_pos h1]
    exact ⟨_, _, rfl, ISl.nil, ISl.nil⟩
  · obtain ⟨hl, n', hn', hb⟩ := laid_ok h2
    have hnn : n' = n := by omega
    subst hnn
    refine ⟨rfl, _, by simp [zeroF, h2]; rfl, ?_⟩
    have ez : (zeroF xs).1 = (xs, List.replicate n' 0) := by simp [zeroF, h2, hn]
    rw [ez]
    refine ⟨_, _, rfl, ?_, ?_⟩
    · rcases hs with ⟨h0, nl, c, sz, rfl, hs⟩ | ⟨k, hk, rfl, hG⟩
      · exact ⟨⟨nl, c, sz, by simp [h0], ⟨fun _ => h0, hs⟩⟩, ha.2⟩
      · refine ⟨⟨false, none, 1, ?_, by simp, by simp⟩, ha.2⟩
        simp [hG]
    · refine ⟨⟨false, none, 1, ?_, by simp, by simp⟩, by simp; omega, ?_⟩
      · simp [hj]
      · intro x hx
        simp at hx
        omega
theorem rZero_dense {a : AV} {xs : List Int} (ha : ISl a xs) : ACalls Try.prog 64 [a] [] (denseR (zeroF xs)) := (rZero_spec ha).mono fun _ _ h => h.dense
end Go.Fw
