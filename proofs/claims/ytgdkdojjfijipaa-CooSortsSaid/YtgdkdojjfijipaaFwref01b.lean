import Derived.Test.YtgdkdojjfijipaaFwref01a
import Derived.Test.YtgdkdojjfijipaaFwbx0
import Derived.Test.YtgdkdojjfijipaaFwbx0
namespace Go.Fw
open Go Go.RowKit Go.Proofs
set_option maxRecDepth 100000
set_option linter.unusedSimpArgs false
set_option linter.unusedVariables false

def rIn_12 : AC := (.seq (.ops [⟨(some 16), none, (.k (.mov (.t 1)))⟩, ⟨(some 17), none, (.k (.mov (.t 5)))⟩, ⟨(some 18), none, (.k (.iad 1 (.t 16) (.t 17)))⟩, ⟨(some 19), none, (.k (.ld 1 false (.t 18)))⟩, ⟨(some 20), none, (.k (.bin .lss (.t 19) (.c (.sc (.int .i64 0)))))⟩, ⟨(some 21), none, (.k (.mov (.t 20)))⟩, ⟨(some 22), (some (21, false)), (.k (.mov (.t 1)))⟩, ⟨(some 23), (some (21, false)), (.k (.mov (.t 5)))⟩, ⟨(some 24), (some (21, false)), (.k (.iad 1 (.t 22) (.t 23)))⟩, ⟨(some 25), (some (21, false)), (.k (.ld 1 false (.t 24)))⟩, ⟨(some 26), (some (21, false)), (.k (.mov (.t 0)))⟩, ⟨(some 27), (some (21, false)), (.k (.mov (.t 5)))⟩, ⟨(some 28), (some (21, false)), (.k (.iad 1 (.t 26) (.t 27)))⟩, ⟨(some 29), (some (21, false)), (.k (.ld 1 false (.t 28)))⟩, ⟨(some 30), (some (21, false)), (.k (.bin .geq (.t 25) (.t 29)))⟩, ⟨(some 31), none, (.k (.pick (.t 21) (.c (.sc (.bool true))) (.t 30)))⟩]) (.cond (.t 31) (.seq (.ops [⟨(some 4), none, (.k (.mov (.c (.sc (.bool false)))))⟩]) .ret) .skip))
def rIn_11 : AC := (.seq (.ops [⟨(some 15), none, (.k (.mov (.t 13)))⟩, ⟨(some 5), none, (.k (.mov (.t 15)))⟩]) rIn_12)
def rIn_10 : AC := (.block 1 rIn_11)
def rIn_9 : AC := (.seq rIn_10 (.ops [⟨(some 32), none, (.k (.bin .add (.t 13) (.c (.sc (.int .i64 1)))))⟩, ⟨(some 13), none, (.k (.mov (.t 32)))⟩]))
def rIn_8 : AC := (.seq (.cond (.t 14) .skip (.exit 0)) rIn_9)
def rIn_7 : AC := (.seq (.ops [⟨(some 14), none, (.k (.bin .lss (.t 13) (.t 12)))⟩]) rIn_8)
def rIn_6 : AC := (.loop rIn_7)
def rIn_5 : AC := (.block 0 rIn_6)
def rIn_4 : AC := (.seq (.ops [⟨(some 11), none, (.k (.mov (.t 1)))⟩, ⟨(some 12), none, (.k (.len (.t 11)))⟩, ⟨(some 13), none, (.k (.mov (.c (.sc (.int .i64 0)))))⟩]) rIn_5)
def rIn_3 : AC := (.seq rIn_4 (.seq (.ops [⟨(some 4), none, (.k (.mov (.c (.sc (.bool true)))))⟩]) .ret))
def rIn_2 : AC := (.seq (.ops [⟨(some 6), none, (.k (.mov (.t 1)))⟩, ⟨(some 7), none, (.k (.len (.t 6)))⟩, ⟨(some 8), none, (.k (.mov (.t 0)))⟩, ⟨(some 9), none, (.k (.len (.t 8)))⟩, ⟨(some 10), none, (.k (.bin .neq (.t 7) (.t 9)))⟩]) (.cond (.t 10) (.seq (.ops [⟨(some 4), none, (.k (.mov (.c (.sc (.bool false)))))⟩]) .ret) .skip))
def rIn_1 : AC := (.seq rIn_2 rIn_3)
def rIn_ac : AC := (.seq (.ops [⟨(some 4), none, (.k (.mov (.c (.sc (.bool false)))))⟩]) rIn_1)
theorem rIn_call {args : List AV} {H : List AObj} {R : AV → List AObj → Prop} (h : AWp Try.prog [] H.length rIn_ac (bodyQ H.length [(.t 4)] R) (args ++ List.replicate (33 - args.length) .und) H) : ACalls Try.prog 78 args H R :=
  ACalls.of_fn Try.func78 rfl (by kernel_rfl) rfl Try.ntmps78 h

theorem rIn_spec {a b : AV} {xs cs : List Int} (ha : ISl a xs) (hb : ISl b cs) : ACalls Try.prog 78 [a, b] [] fun r H' => H' = [] ∧ r = Bo (decide (cs.length = xs.length) && inGo xs cs) := by
  obtain ⟨⟨nl, c, sz, rfl, hs⟩, hlen, hx⟩ := ha
  obtain ⟨⟨nl', c', sz', rfl, hs'⟩, hlen', hx'⟩ := hb
  apply rIn_call
  repeat first | refine AWp.seq ?_ | refine AWp.block ?_
  refine AWp.ops ?_
  simp
  repeat first | refine AWp.seq ?_ | refine AWp.block ?_
  refine AWp.ops ?_
  simp
  refine AWp.cond (b := (cs.length : Int) != xs.length) (by simp) ?_ ?_
  · intro h
    repeat first | refine AWp.seq ?_ | refine AWp.block ?_
    refine AWp.ops ?_
    simp
    refine AWp.ret ?_
    simp
    refine retOk.of rfl ⟨rfl, ?_⟩
    have h : ¬ (cs.length : Int) = xs.length := by simpa using h
    have : ¬ cs.length = xs.length := by omega
    simp [this]
  intro h
  have hl : cs.length = xs.length := by
    have : (cs.length : Int) = xs.length := by simpa using h
    omega
  refine AWp.skip ?_
  simp only [qSeq]
  repeat first | refine AWp.seq ?_ | refine AWp.block ?_
  refine AWp.ops ?_
  simp
  obtain ⟨J, hJ⟩ : ∃ J : Nat → List AV → List AObj → Prop, J = fun i fr H => i ≤ cs.length ∧ (inGo xs cs = inGo (xs.drop i) (cs.drop i)) ∧ H = [] ∧
    fr = [AV.imm nl c sz (xs.map I), AV.imm nl' c' sz' (cs.map I), .und, .und, Bo false, .und, .und, .und, .und, .und, .und, .und, I cs.length, I i, .und, .und, .und, .und, .und, .und, .und, .und, .und, .und, .und, .und, .und, .und, .und, .und, .und, .und, .und] := ⟨_, rfl⟩
  refine AWp.block (AWp.loop J (fun i => cs.length - i) 0 (Weak.slots [0, 1, 4, 12, 13]) (by rw [hJ]; exact ⟨by omega, rfl, by simp, by simp⟩) ?_)
  intro i fr H hI
  rw [hJ] at hI
  obtain ⟨hi, hinv, rfl, rfl⟩ := hI
  repeat first | refine AWp.seq ?_ | refine AWp.block ?_
  refine AWp.ops ?_
  simp
  refine AWp.seq (AWp.cond (b := decide (i < cs.length)) (by simp <;> omega) ?_ ?_)
  ·
    intro hb
    have hb : i < cs.length := by simpa using hb
    refine AWp.skip ?_
    simp only [qSeq]
    have hb' : i < xs.length := by omega
    have hsz := sz_of hs hb'
    have hsz' := sz_of hs' hb
    subst hsz hsz'
    rw [List.drop_eq_getElem_cons hb, List.drop_eq_getElem_cons hb'] at hinv
    refine AWp.seq (AWp.block (AWp.seq (AWp.ops ?_)))
    simp
    refine AWp.seq (AWp.ops ?_)
    by_cases hc : cs[i] < 0 ∨ xs[i] ≤ cs[i]
    · have bad : inGo xs cs = false := by
        rw [hinv]
        simp only [inGo]
        rcases hc with h | h <;> simp [h]
      rcases Int.lt_or_le cs[i] 0 with h1 | h1
      · simp [hb, h1]
        refine AWp.cond (b := true) (by simp) (fun _ => ?_) (fun h => by cases h)
        repeat first | refine AWp.seq ?_ | refine AWp.block ?_
        refine AWp.ops ?_
        simp
        refine AWp.ret ?_
        simp
        refine retOk.of rfl ⟨rfl, by simp [bad]⟩
      · have h2 : xs[i] ≤ cs[i] := by omega
        simp [hb, hb', Int.not_lt.2 h1, h2]
        refine AWp.cond (b := true) (by simp) (fun _ => ?_) (fun h => by cases h)
        repeat first | refine AWp.seq ?_ | refine AWp.block ?_
        refine AWp.ops ?_
        simp
        refine AWp.ret ?_
        simp
        refine retOk.of rfl ⟨rfl, by simp [bad]⟩
    · have h1 : ¬ cs[i] < 0 := by omega
      have h2 : ¬ xs[i] ≤ cs[i] := by omega
      simp [hb, hb', h1, h2]
      refine AWp.cond (b := false) (by simp) (fun h => by cases h) (fun _ => ?_)
      refine AWp.skip ?_
      simp only [qSeq, qBlock]
      refine AWp.ops ?_
      simp
      refine ⟨i + 1, _, _, Weak.slots [0, 1, 4, 12, 13], ?_, by omega⟩
      rw [hJ]
      refine ⟨by omega, ?_, by simp, by simp [wrap_i64 (n := (i : Int) + 1) (by omega) (by omega)]⟩
      rw [hinv]
      simp [inGo, h1, h2]
  ·
    intro hb
    have hb : ¬ i < cs.length := by simpa using hb
    refine AWp.exit ?_
    simp [qSeq, qBlock]
    repeat first | refine AWp.seq ?_ | refine AWp.block ?_
    refine AWp.ops ?_
    simp
    refine AWp.ret ?_
    simp
    refine retOk.of rfl ⟨rfl, ?_⟩
    rw [hinv, List.drop_eq_nil_of_le (by omega), List.drop_eq_nil_of_le (by omega)]
    simp [inGo, hl]

def rNumber_10 : AC := (.seq (.ops [⟨(some 11), none, (.k (.mov (.t 9)))⟩, ⟨(some 6), none, (.k (.mov (.t 11)))⟩]) (.ops [⟨(some 12), none, (.k (.mov (.t 5)))⟩, ⟨(some 13), none, (.k (.mov (.t 0)))⟩, ⟨(some 14), none, (.k (.mov (.t 6)))⟩, ⟨(some 15), none, (.k (.iad 1 (.t 13) (.t 14)))⟩, ⟨(some 16), none, (.k (.ld 1 false (.t 15)))⟩, ⟨(some 17), none, (.k (.bin .mul (.t 12) (.t 16)))⟩, ⟨(some 18), none, (.k (.mov (.t 1)))⟩, ⟨(some 19), none, (.k (.mov (.t 6)))⟩, ⟨(some 20), none, (.k (.iad 1 (.t 18) (.t 19)))⟩, ⟨(some 21), none, (.k (.ld 1 false (.t 20)))⟩, ⟨(some 22), none, (.k (.bin .add (.t 17) (.t 21)))⟩, ⟨(some 5), none, (.k (.mov (.t 22)))⟩]))
def rNumber_9 : AC := (.block 1 rNumber_10)
def rNumber_8 : AC := (.seq rNumber_9 (.ops [⟨(some 23), none, (.k (.bin .add (.t 9) (.c (.sc (.int .i64 1)))))⟩, ⟨(some 9), none, (.k (.mov (.t 23)))⟩]))
def rNumber_7 : AC := (.seq (.cond (.t 10) .skip (.exit 0)) rNumber_8)
def rNumber_6 : AC := (.seq (.ops [⟨(some 10), none, (.k (.bin .lss (.t 9) (.t 8)))⟩]) rNumber_7)
def rNumber_5 : AC := (.loop rNumber_6)
def rNumber_4 : AC := (.block 0 rNumber_5)
def rNumber_3 : AC := (.seq (.ops [⟨(some 7), none, (.k (.mov (.t 1)))⟩, ⟨(some 8), none, (.k (.len (.t 7)))⟩, ⟨(some 9), none, (.k (.mov (.c (.sc (.int .i64 0)))))⟩]) rNumber_4)
def rNumber_2 : AC := (.seq rNumber_3 (.seq (.ops [⟨(some 24), none, (.k (.mov (.t 5)))⟩, ⟨(some 4), none, (.k (.mov (.t 24)))⟩]) .ret))
def rNumber_1 : AC := (.seq (.ops [⟨(some 5), none, (.k (.mov (.c (.sc (.int .i64 0)))))⟩]) rNumber_2)
def rNumber_ac : AC := (.seq (.ops [⟨(some 4), none, (.k (.mov (.c (.sc (.int .i64 0)))))⟩]) rNumber_1)
theorem rNumber_call {args : List AV} {H : List AObj} {R : AV → List AObj → Prop} (h : AWp Try.prog [] H.length rNumber_ac (bodyQ H.length [(.t 4)] R) (args ++ List.replicate (25 - args.length) .und) H) : ACalls Try.prog 79 args H R :=
  ACalls.of_fn Try.func79 rfl (by kernel_rfl) rfl Try.ntmps79 h

theorem rNumber_spec {a b : AV} {xs cs : List Int} (ha : ISl a xs) (hb : ISl b cs) (hl : cs.length = xs.length) : ACalls Try.prog 79 [a, b] [] fun r H' => H' = [] ∧ r = I (numGo xs cs 0) := by
  obtain ⟨⟨nl, c, sz, rfl, hs⟩, hlen, hx⟩ := ha
  obtain ⟨⟨nl', c', sz', rfl, hs'⟩, hlen', hx'⟩ := hb
  apply rNumber_call
  repeat first | refine AWp.seq ?_ | refine AWp.block ?_
  refine AWp.ops ?_
  simp
  repeat first | refine AWp.seq ?_ | refine AWp.block ?_
  refine AWp.ops ?_
  simp
  repeat first | refine AWp.seq ?_ | refine AWp.block ?_
  refine AWp.ops ?_
  simp
  obtain ⟨J, hJ⟩ : ∃ J : Nat → List AV → List AObj → Prop, J = fun i fr H => i ≤ cs.length ∧ ∃ (n : Int), (numGo xs cs 0 = numGo (xs.drop i) (cs.drop i) n) ∧ H = [] ∧
    fr = [AV.imm nl c sz (xs.map I), AV.imm nl' c' sz' (cs.map I), .und, .und, .und, I n, .und, .und, I cs.length, I i, .und, .und, .und, .und, .und, .und, .und, .und, .und, .und, .und, .und, .und, .und, .und] := ⟨_, rfl⟩
  refine AWp.block (AWp.loop J (fun i => cs.length - i) 0 (Weak.slots [0, 1, 5, 8, 9]) (by rw [hJ]; exact ⟨by omega, 0, rfl, by simp, by simp⟩) ?_)
  intro i fr H hI
  rw [hJ] at hI
  obtain ⟨hi, n, hinv, rfl, rfl⟩ := hI
  repeat first | refine AWp.seq ?_ | refine AWp.block ?_
  refine AWp.ops ?_
  simp
  refine AWp.seq (AWp.cond (b := decide (i < cs.length)) (by simp <;> omega) ?_ ?_)
  ·
    intro hb
    have hb : i < cs.length := by simpa using hb
    refine AWp.skip ?_
    simp only [qSeq]
    have hb' : i < xs.length := by omega
    have hsz := sz_of hs hb'
    have hsz' := sz_of hs' hb
    subst hsz hsz'
    rw [List.drop_eq_getElem_cons hb, List.drop_eq_getElem_cons hb'] at hinv
    refine AWp.seq (AWp.block (AWp.seq (AWp.ops ?_)))
    simp
    refine AWp.ops ?_
    simp [hb, hb']
    refine AWp.ops ?_
    simp
    refine ⟨i + 1, _, _, Weak.slots [0, 1, 5, 8, 9], ?_, by omega⟩
    rw [hJ]
    refine ⟨by omega, IntKind.i64.wrap (IntKind.i64.wrap (n * xs[i]) + cs[i]), ?_, by simp, by simp [wrap_i64 (n := (i : Int) + 1) (by omega) (by omega)]⟩
    rw [hinv]
    simp [numGo]
  ·
    intro hb
    have hb : ¬ i < cs.length := by simpa using hb
    refine AWp.exit ?_
    simp [qSeq, qBlock]
    repeat first | refine AWp.seq ?_ | refine AWp.block ?_
    refine AWp.ops ?_
    simp
    refine AWp.ret ?_
    simp
    refine retOk.of rfl ⟨rfl, ?_⟩
    rw [hinv, List.drop_eq_nil_of_le (by omega), List.drop_eq_nil_of_le (by omega)]
    simp [numGo]

def rAt_9 : AC := (.seq (.ops [⟨(some 20), none, (.k (.mov (.t 0)))⟩, ⟨(some 21), none, (.k (.mov (.t 1)))⟩, ⟨(some 22), none, (.call false (.c (.fn (.func 79) [] [])) [(.t 20), (.t 21)])⟩, ⟨(some 4), none, (.k (.mov (.t 22)))⟩, ⟨(some 5), none, (.k (.mov (.c (.sc (.int .i64 0)))))⟩]) .ret)
def rAt_8 : AC := (.cond (.t 19) (.seq (.ops [⟨(some 4), none, (.k (.mov (.c (.sc (.int .i64 0)))))⟩, ⟨(some 5), none, (.k (.mov (.c (.sc (.int .i64 3)))))⟩]) .ret) .skip)
def rAt_7 : AC := (.seq (.ops [⟨(some 16), none, (.k (.mov (.t 0)))⟩, ⟨(some 17), none, (.k (.mov (.t 1)))⟩, ⟨(some 18), none, (.call false (.c (.fn (.func 78) [] [])) [(.t 16), (.t 17)])⟩, ⟨(some 19), none, (.k (.un .not (.t 18)))⟩]) rAt_8)
def rAt_6 : AC := (.seq rAt_7 rAt_9)
def rAt_5 : AC := (.seq (.ops [⟨(some 15), none, (.k (.mov (.t 7)))⟩, ⟨(some 4), none, (.k (.mov (.c (.sc (.int .i64 0)))))⟩, ⟨(some 5), none, (.k (.mov (.t 15)))⟩]) .ret)
def rAt_4 : AC := (.cond (.t 14) rAt_5 .skip)
def rAt_3 : AC := (.seq (.ops [⟨(some 13), none, (.k (.mov (.t 7)))⟩, ⟨(some 14), none, (.k (.bin .neq (.t 13) (.c (.sc (.int .i64 0)))))⟩]) rAt_4)
def rAt_2 : AC := (.seq (.ops [⟨(some 9), none, (.k (.mov (.t 0)))⟩, ⟨(some 10), none, (.call false (.c (.fn (.func 56) [] [])) [(.t 9)])⟩, ⟨(some 8), none, (.k (.mov (.t 10)))⟩, ⟨(some 11), none, (.k (.ext (.t 8) 0))⟩, ⟨(some 12), none, (.k (.ext (.t 8) 1))⟩, ⟨(some 6), none, (.k (.mov (.t 11)))⟩, ⟨(some 7), none, (.k (.mov (.t 12)))⟩]) rAt_3)
def rAt_1 : AC := (.seq rAt_2 rAt_6)
def rAt_ac : AC := (.seq (.ops [⟨(some 4), none, (.k (.mov (.c (.sc (.int .i64 0)))))⟩, ⟨(some 5), none, (.k (.mov (.c (.sc (.int .i64 0)))))⟩]) rAt_1)
theorem rAt_call {args : List AV} {H : List AObj} {R : AV → List AObj → Prop} (h : AWp Try.prog [] H.length rAt_ac (bodyQ H.length [(.t 4), (.t 5)] R) (args ++ List.replicate (23 - args.length) .und) H) : ACalls Try.prog 57 args H R :=
  ACalls.of_fn Try.func57 rfl (by kernel_rfl) rfl Try.ntmps57 h

theorem rAt_spec {a b : AV} {xs cs : List Int} (ha : ISl a xs) (hb : ISl b cs) : ACalls Try.prog 57 [a, b] [] fun r H' => H' = [] ∧ r = .tup [I (atF xs cs).1, I (atF xs cs).2] := by
  have ha' := ha
  have hb' := hb
  obtain ⟨⟨nl, c, sz, rfl, hs⟩, hlen, hx⟩ := ha
  obtain ⟨⟨nl', c', sz', rfl, hs'⟩, hlen', hx'⟩ := hb
  apply rAt_call
  repeat first | refine AWp.seq ?_ | refine AWp.block ?_
  refine AWp.ops ?_
  simp
  repeat first | refine AWp.seq ?_ | refine AWp.block ?_
  refine AWp.ops ?_
  simp
  refine (rCells_spec ha').mono ?_
  rintro r H' ⟨rfl, rfl⟩
  simp
  repeat first | refine AWp.seq ?_ | refine AWp.block ?_
  refine AWp.ops ?_
  simp
  refine AWp.cond (b := (cells xs).2 != 0) (by simp) ?_ ?_
  · intro h
    have h : (cells xs).2 ≠ 0 := by simpa using h
    repeat first | refine AWp.seq ?_ | refine AWp.block ?_
    refine AWp.ops ?_
    simp
    refine AWp.ret ?_
    simp
    refine retOk.of rfl ⟨rfl, ?_⟩
    simp [atF, h]
  intro h
  have h : (cells xs).2 = 0 := by simpa using h
  refine AWp.skip ?_
  simp only [qSeq]
  repeat first | refine AWp.seq ?_ | refine AWp.block ?_
  refine AWp.ops ?_
  simp
  refine (rIn_spec ha' hb').mono ?_
  rintro r H' ⟨rfl, rfl⟩
  simp
  by_cases hl : cs.length = xs.length
  · by_cases hi : inGo xs cs = true
    · simp [hl, hi]
      refine AWp.cond (b := false) (by simp) (fun h => by cases h) (fun _ => ?_)
      refine AWp.skip ?_
      simp only [qSeq]
      repeat first | refine AWp.seq ?_ | refine AWp.block ?_
      refine AWp.ops ?_
      simp
      refine (rNumber_spec ha' hb' hl).mono ?_
      rintro r H' ⟨rfl, rfl⟩
      simp
      refine AWp.ret ?_
      simp
      refine retOk.of rfl ⟨rfl, ?_⟩
      simp [atF, h, hl, atGo_in, hi]
    · simp [hl, hi]
      refine AWp.cond (b := true) (by simp) (fun _ => ?_) (fun h => by cases h)
      repeat first | refine AWp.seq ?_ | refine AWp.block ?_
      refine AWp.ops ?_
      simp
      refine AWp.ret ?_
      simp
      refine retOk.of rfl ⟨rfl, ?_⟩
      simp [atF, h, hl, atGo_in, hi]
  · simp [hl]
    refine AWp.cond (b := true) (by simp) (fun _ => ?_) (fun h => by cases h)
    repeat first | refine AWp.seq ?_ | refine AWp.block ?_
    refine AWp.ops ?_
    simp
    refine AWp.ret ?_
    simp
    refine retOk.of rfl ⟨rfl, ?_⟩
    simp [atF, h, hl]
end Go.Fw
