import Derived.Test.YthipbeffhfdamaaFwX
import Derived.Test.YthipbeffhfdamaaFwref05g
import Derived.Test.YthipbeffhfdamaaFwrefe
import Derived.Test.YthipbeffhfdamaaFwnext1
import Derived.Test.YthipbeffhfdamaaFwown0
namespace Go.Fw
open Go Go.RowKit
theorem ACalls.res {P : Program} {f : FuncId} {args : List AV} {v : AV} (n : Nat) (h : ACalls P f args [] fun r _ => r = v) (hv : ∀ G, frz G 0 n false v = v) : ACalls P f args [] fun r H' => H' = [] ∧ r = v := by
  refine (h.frozen n).mono ?_
  rintro q H' ⟨rfl, r, G, rfl, rfl⟩
  exact ⟨rfl, hv G⟩
end Go.Fw
namespace Go.Fw
open Go Go.RowKit Go.Proofs
set_option maxRecDepth 100000
set_option linter.unusedSimpArgs false
set_option linter.unusedVariables false
def rIn_12 : AC := (.seq (.ops [.m 16 (.t 1), .m 17 (.t 5), .o 18 (.iad 1 (.t 16) (.t 17)), .o 19 (.ld 1 false (.t 18)), .o 20 (.bin .lss (.t 19) (.i 0)), .m 21 (.t 20), .mg 22 21 false (.t 1), .mg 23 21 false (.t 5), .og 24 21 false (.iad 1 (.t 22) (.t 23)), .og 25 21 false (.ld 1 false (.t 24)), .mg 26 21 false (.t 0), .mg 27 21 false (.t 5), .og 28 21 false (.iad 1 (.t 26) (.t 27)), .og 29 21 false (.ld 1 false (.t 28)), .og 30 21 false (.bin .geq (.t 25) (.t 29)), .o 31 (.pick (.t 21) (.b true) (.t 30))]) (.cond (.t 31) (.seq (.ops [.m 4 (.b false)]) .ret) .skip))
def rIn_11 : AC := (.seq (.ops [.m 15 (.t 13), .m 5 (.t 15)]) rIn_12)
def rIn_10 : AC := (.block 1 rIn_11)
def rIn_9 : AC := (.seq rIn_10 (.ops [.o 32 (.bin .add (.t 13) (.i 1)), .m 13 (.t 32)]))
def rIn_8 : AC := (.seq (.cond (.t 14) .skip (.exit 0)) rIn_9)
def rIn_7 : AC := (.seq (.ops [.o 14 (.bin .lss (.t 13) (.t 12))]) rIn_8)
def rIn_6 : AC := (.loop rIn_7)
def rIn_5 : AC := (.block 0 rIn_6)
def rIn_4 : AC := (.seq (.ops [.m 11 (.t 1), .o 12 (.len (.t 11)), .m 13 (.i 0)]) rIn_5)
def rIn_3 : AC := (.seq rIn_4 (.seq (.ops [.m 4 (.b true)]) .ret))
def rIn_2 : AC := (.seq (.ops [.m 6 (.t 1), .o 7 (.len (.t 6)), .m 8 (.t 0), .o 9 (.len (.t 8)), .o 10 (.bin .neq (.t 7) (.t 9))]) (.cond (.t 10) (.seq (.ops [.m 4 (.b false)]) .ret) .skip))
def rIn_1 : AC := (.seq rIn_2 rIn_3)
def rIn_ac : AC := (.seq (.ops [.m 4 (.b false)]) rIn_1)
theorem rIn_call {args : List AV} {H : List AObj} {R : AV → List AObj → Prop} (h : AWp Try.prog [] H.length rIn_ac (bodyQ H.length [(.t 4)] R) (args ++ List.replicate (33 - args.length) .und) H) : ACalls Try.prog 82 args H R :=
  ACalls.of_fn Try.func82 rfl (by kernel_rfl) rfl Try.ntmps82 h
theorem rIn_spec {a b : AV} {xs cs : List Int} (ha : ISl a xs) (hb : ISl b cs) : ACalls Try.prog 82 [a, b] [] fun r H' => H' = [] ∧ r = Bo (decide (cs.length = xs.length) && inGo xs cs) := by
  obtain ⟨⟨nl, c, sz, rfl, hs⟩, hlen, hx⟩ := ha
  obtain ⟨⟨nl', c', sz', rfl, hs'⟩, hlen', hx'⟩ := hb
  apply rIn_call
  repeat first | refine AWp.seq ?_ | refine AWp.block ?_
  refine AWp.ops ?_
  simp
  repeat first | refine AWp.seq ?_ | refine AWp.block ?_
  refine AWp.ops ?_
  simp
  refine AWp.cond (b := (cs.length : Int) != xs.length) (by simp) ?_ ?_
  · intro h
    repeat first | refine AWp.seq ?_ | refine AWp.block ?_
    refine AWp.ops ?_
    simp
    refine AWp.ret ?_
    simp
    refine retOk.of rfl ⟨rfl, ?_⟩
    have h : ¬ (cs.length : Int) = xs.length := by simpa using h
    have : ¬ cs.length = xs.length := by omega
    simp [this]
  intro h
  have hl : cs.length = xs.length := by
    have : (cs.length : Int) = xs.length := by simpa using h
    omega
  refine AWp.skip ?_
  simp only [qSeq]
  repeat first | refine AWp.seq ?_ | refine AWp.block ?_
  refine AWp.ops ?_
  simp
  obtain ⟨J, hJ⟩ : ∃ J : Nat → List AV → List AObj → Prop, J = fun i fr H => i ≤ cs.length ∧ (inGo xs cs = inGo (xs.drop i) (cs.drop i)) ∧ H = [] ∧
    fr = [AV.imm nl c sz (xs.map I), AV.imm nl' c' sz' (cs.map I), .und, .und, Bo false, .und, .und, .und, .und, .und, .und, .und, I cs.length, I i, .und, .und, .und, .und, .und, .und, .und, .und, .und, .und, .und, .und, .und, .und, .und, .und, .und, .und, .und] := ⟨_, rfl⟩
  refine AWp.block (AWp.loop J (fun i => cs.length - i) 0 (Weak.slots [0, 1, 4, 12, 13]) (by rw [hJ]; exact ⟨by omega, rfl, by simp, by simp⟩) ?_)
  intro i fr H hI
  rw [hJ] at hI
  obtain ⟨hi, hinv, rfl, rfl⟩ := hI
  repeat first | refine AWp.seq ?_ | refine AWp.block ?_
  refine AWp.ops ?_
  simp
  refine AWp.seq (AWp.cond (b := decide (i < cs.length)) (by simp <;> omega) ?_ ?_)
  ·
    intro hb
    have hb : i < cs.length := by simpa using hb
    refine AWp.skip ?_
    simp only [qSeq]
    have hb' : i < xs.length := by omega
    have hsz := sz_of hs hb'
    have hsz' := sz_of hs' hb
    subst hsz hsz'
    rw [List.drop_eq_getElem_cons hb, List.drop_eq_getElem_cons hb'] at hinv
    refine AWp.seq (AWp.block (AWp.seq (AWp.ops ?_)))
    simp
    refine AWp.seq (AWp.ops ?_)
    by_cases hc : cs[i] < 0 ∨ xs[i] ≤ cs[i]
    · have bad : inGo xs cs = false := by
        rw [hinv]
        simp only [inGo]
        rcases hc with h | h <;> simp [h]
      rcases Int.lt_or_le cs[i] 0 with h1 | h1
      · simp [hb, h1]
        refine AWp.cond (b := true) (by simp) (fun _ => ?_) (fun h => by cases h)
        repeat first | refine AWp.seq ?_ | refine AWp.block ?_
        refine AWp.ops ?_
        simp
        refine AWp.ret ?_
        simp
        refine retOk.of rfl ⟨rfl, by simp [bad]⟩
      · have h2 : xs[i] ≤ cs[i] := by omega
        simp [hb, hb', Int.not_lt.2 h1, h2]
        refine AWp.cond (b := true) (by simp) (fun _ => ?_) (fun h => by cases h)
        repeat first | refine AWp.seq ?_ | refine AWp.block ?_
        refine AWp.ops ?_
        simp
        refine AWp.ret ?_
        simp
        refine retOk.of rfl ⟨rfl, by simp [bad]⟩
    · have h1 : ¬ cs[i] < 0 := by omega
      have h2 : ¬ xs[i] ≤ cs[i] := by omega
      simp [hb, hb', h1, h2]
      refine AWp.cond (b := false) (by simp) (fun h => by cases h) (fun _ => ?_)
      refine AWp.skip ?_
      simp only [qSeq, qBlock]
      refine AWp.ops ?_
      simp
      refine ⟨i + 1, _, _, Weak.slots [0, 1, 4, 12, 13], ?_, by omega⟩
      rw [hJ]
      refine ⟨by omega, ?_, by simp, by simp [wrap_i64 (n := (i : Int) + 1) (by omega) (by omega)]⟩
      rw [hinv]
      simp [inGo, h1, h2]
  ·
    intro hb
    have hb : ¬ i < cs.length := by simpa using hb
    refine AWp.exit ?_
    simp [qSeq, qBlock]
    repeat first | refine AWp.seq ?_ | refine AWp.block ?_
    refine AWp.ops ?_
    simp
    refine AWp.ret ?_
    simp
    refine retOk.of rfl ⟨rfl, ?_⟩
    rw [hinv, List.drop_eq_nil_of_le (by omega), List.drop_eq_nil_of_le (by omega)]
    simp [inGo, hl]
def rNumber_10 : AC := (.seq (.ops [.m 11 (.t 9), .m 6 (.t 11)]) (.ops [.m 12 (.t 5), .m 13 (.t 0), .m 14 (.t 6), .o 15 (.iad 1 (.t 13) (.t 14)), .o 16 (.ld 1 false (.t 15)), .o 17 (.bin .mul (.t 12) (.t 16)), .m 18 (.t 1), .m 19 (.t 6), .o 20 (.iad 1 (.t 18) (.t 19)), .o 21 (.ld 1 false (.t 20)), .o 22 (.bin .add (.t 17) (.t 21)), .m 5 (.t 22)]))
def rNumber_9 : AC := (.block 1 rNumber_10)
def rNumber_8 : AC := (.seq rNumber_9 (.ops [.o 23 (.bin .add (.t 9) (.i 1)), .m 9 (.t 23)]))
def rNumber_7 : AC := (.seq (.cond (.t 10) .skip (.exit 0)) rNumber_8)
def rNumber_6 : AC := (.seq (.ops [.o 10 (.bin .lss (.t 9) (.t 8))]) rNumber_7)
def rNumber_5 : AC := (.loop rNumber_6)
def rNumber_4 : AC := (.block 0 rNumber_5)
def rNumber_3 : AC := (.seq (.ops [.m 7 (.t 1), .o 8 (.len (.t 7)), .m 9 (.i 0)]) rNumber_4)
def rNumber_2 : AC := (.seq rNumber_3 (.seq (.ops [.m 24 (.t 5), .m 4 (.t 24)]) .ret))
def rNumber_1 : AC := (.seq (.ops [.m 5 (.i 0)]) rNumber_2)
def rNumber_ac : AC := (.seq (.ops [.m 4 (.i 0)]) rNumber_1)
theorem rNumber_call {args : List AV} {H : List AObj} {R : AV → List AObj → Prop} (h : AWp Try.prog [] H.length rNumber_ac (bodyQ H.length [(.t 4)] R) (args ++ List.replicate (25 - args.length) .und) H) : ACalls Try.prog 83 args H R :=
  ACalls.of_fn Try.func83 rfl (by kernel_rfl) rfl Try.ntmps83 h
theorem rNumber_spec {a b : AV} {xs cs : List Int} (ha : ISl a xs) (hb : ISl b cs) (hl : cs.length = xs.length) : ACalls Try.prog 83 [a, b] [] fun r H' => H' = [] ∧ r = I (numGo xs cs 0) := by
  obtain ⟨⟨nl, c, sz, rfl, hs⟩, hlen, hx⟩ := ha
  obtain ⟨⟨nl', c', sz', rfl, hs'⟩, hlen', hx'⟩ := hb
  apply rNumber_call
  repeat first | refine AWp.seq ?_ | refine AWp.block ?_
  refine AWp.ops ?_
  simp
  repeat first | refine AWp.seq ?_ | refine AWp.block ?_
  refine AWp.ops ?_
  simp
  repeat first | refine AWp.seq ?_ | refine AWp.block ?_
  refine AWp.ops ?_
  simp
  obtain ⟨J, hJ⟩ : ∃ J : Nat → List AV → List AObj → Prop, J = fun i fr H => i ≤ cs.length ∧ ∃ (n : Int), (numGo xs cs 0 = numGo (xs.drop i) (cs.drop i) n) ∧ H = [] ∧
    fr = [AV.imm nl c sz (xs.map I), AV.imm nl' c' sz' (cs.map I), .und, .und, .und, I n, .und, .und, I cs.length, I i, .und, .und, .und, .und, .und, .und, .und, .und, .und, .und, .und, .und, .und, .und, .und] := ⟨_, rfl⟩
  refine AWp.block (AWp.loop J (fun i => cs.length - i) 0 (Weak.slots [0, 1, 5, 8, 9]) (by rw [hJ]; exact ⟨by omega, 0, rfl, by simp, by simp⟩) ?_)
  intro i fr H hI
  rw [hJ] at hI
  obtain ⟨hi, n, hinv, rfl, rfl⟩ := hI
  repeat first | refine AWp.seq ?_ | refine AWp.block ?_
  refine AWp.ops ?_
  simp
  refine AWp.seq (AWp.cond (b := decide (i < cs.length)) (by simp <;> omega) ?_ ?_)
  ·
    intro hb
    have hb : i < cs.length := by simpa using hb
    refine AWp.skip ?_
    simp only [qSeq]
    have hb' : i < xs.length := by omega
    have hsz := sz_of hs hb'
    have hsz' := sz_of hs' hb
    subst hsz hsz'
    rw [List.drop_eq_getElem_cons hb, List.drop_eq_getElem_cons hb'] at hinv
    refine AWp.seq (AWp.block (AWp.seq (AWp.ops ?_)))
    simp
    refine AWp.ops ?_
    simp [hb, hb']
    refine AWp.ops ?_
    simp
    refine ⟨i + 1, _, _, Weak.slots [0, 1, 5, 8, 9], ?_, by omega⟩
    rw [hJ]
    refine ⟨by omega, IntKind.i64.wrap (IntKind.i64.wrap (n * xs[i]) + cs[i]), ?_, by simp, by simp [wrap_i64 (n := (i : Int) + 1) (by omega) (by omega)]⟩
    rw [hinv]
    simp [numGo]
  ·
    intro hb
    have hb : ¬ i < cs.length := by simpa using hb
    refine AWp.exit ?_
    simp [qSeq, qBlock]
    repeat first | refine AWp.seq ?_ | refine AWp.block ?_
    refine AWp.ops ?_
    simp
    refine AWp.ret ?_
    simp
    refine retOk.of rfl ⟨rfl, ?_⟩
    rw [hinv, List.drop_eq_nil_of_le (by omega), List.drop_eq_nil_of_le (by omega)]
    simp [numGo]
def rAt_9 : AC := (.seq (.ops [.m 20 (.t 0), .m 21 (.t 1), .c 22 false (.f 83) [(.t 20), (.t 21)], .m 4 (.t 22), .m 5 (.i 0)]) .ret)
def rAt_8 : AC := (.cond (.t 19) (.seq (.ops [.m 4 (.i 0), .m 5 (.i 3)]) .ret) .skip)
def rAt_7 : AC := (.seq (.ops [.m 16 (.t 0), .m 17 (.t 1), .c 18 false (.f 82) [(.t 16), (.t 17)], .o 19 (.un .not (.t 18))]) rAt_8)
def rAt_6 : AC := (.seq rAt_7 rAt_9)
def rAt_5 : AC := (.seq (.ops [.m 15 (.t 7), .m 4 (.i 0), .m 5 (.t 15)]) .ret)
def rAt_4 : AC := (.cond (.t 14) rAt_5 .skip)
def rAt_3 : AC := (.seq (.ops [.m 13 (.t 7), .o 14 (.bin .neq (.t 13) (.i 0))]) rAt_4)
def rAt_2 : AC := (.seq (.ops [.m 9 (.t 0), .c 10 false (.f 42) [(.t 9)], .m 8 (.t 10), .o 11 (.ext (.t 8) 0), .o 12 (.ext (.t 8) 1), .m 6 (.t 11), .m 7 (.t 12)]) rAt_3)
def rAt_1 : AC := (.seq rAt_2 rAt_6)
def rAt_ac : AC := (.seq (.ops [.m 4 (.i 0), .m 5 (.i 0)]) rAt_1)
theorem rAt_call {args : List AV} {H : List AObj} {R : AV → List AObj → Prop} (h : AWp Try.prog [] H.length rAt_ac (bodyQ H.length [(.t 4), (.t 5)] R) (args ++ List.replicate (23 - args.length) .und) H) : ACalls Try.prog 67 args H R :=
  ACalls.of_fn Try.func67 rfl (by kernel_rfl) rfl Try.ntmps67 h
theorem rAt_spec {a b : AV} {xs cs : List Int} (ha : ISl a xs) (hb : ISl b cs) : ACalls Try.prog 67 [a, b] [] fun r H' => H' = [] ∧ r = .tup [I (atF xs cs).1, I (atF xs cs).2] := by
  have ha' := ha
  have hb' := hb
  obtain ⟨⟨nl, c, sz, rfl, hs⟩, hlen, hx⟩ := ha
  obtain ⟨⟨nl', c', sz', rfl, hs'⟩, hlen', hx'⟩ := hb
  apply rAt_call
  repeat first | refine AWp.seq ?_ | refine AWp.block ?_
  refine AWp.ops ?_
  simp
  repeat first | refine AWp.seq ?_ | refine AWp.block ?_
  refine AWp.ops ?_
  simp
  refine (rCells_spec ha').mono ?_
  rintro r H' ⟨rfl, rfl⟩
  simp
  repeat first | refine AWp.seq ?_ | refine AWp.block ?_
  refine AWp.ops ?_
  simp
  refine AWp.cond (b := (cells xs).2 != 0) (by simp) ?_ ?_
  · intro h
    have h : (cells xs).2 ≠ 0 := by simpa using h
    repeat first | refine AWp.seq ?_ | refine AWp.block ?_
    refine AWp.ops ?_
    simp
    refine AWp.ret ?_
    simp
    refine retOk.of rfl ⟨rfl, ?_⟩
    simp [atF, h]
  intro h
  have h : (cells xs).2 = 0 := by simpa using h
  refine AWp.skip ?_
  simp only [qSeq]
  repeat first | refine AWp.seq ?_ | refine AWp.block ?_
  refine AWp.ops ?_
  simp
  refine (rIn_spec ha' hb').mono ?_
  rintro r H' ⟨rfl, rfl⟩
  simp
  by_cases hl : cs.length = xs.length
  · by_cases hi : inGo xs cs = true
    · simp [hl, hi]
      refine AWp.cond (b := false) (by simp) (fun h => by cases h) (fun _ => ?_)
      refine AWp.skip ?_
      simp only [qSeq]
      repeat first | refine AWp.seq ?_ | refine AWp.block ?_
      refine AWp.ops ?_
      simp
      refine (rNumber_spec ha' hb' hl).mono ?_
      rintro r H' ⟨rfl, rfl⟩
      simp
      refine AWp.ret ?_
      simp
      refine retOk.of rfl ⟨rfl, ?_⟩
      simp [atF, h, hl, atGo_in, hi]
    · simp [hl, hi]
      refine AWp.cond (b := true) (by simp) (fun _ => ?_) (fun h => by cases h)
      repeat first | refine AWp.seq ?_ | refine AWp.block ?_
      refine AWp.ops ?_
      simp
      refine AWp.ret ?_
      simp
      refine retOk.of rfl ⟨rfl, ?_⟩
      simp [atF, h, hl, atGo_in, hi]
  · simp [hl]
    refine AWp.cond (b := true) (by simp) (fun _ => ?_) (fun h => by cases h)
    repeat first | refine AWp.seq ?_ | refine AWp.block ?_
    refine AWp.ops ?_
    simp
    refine AWp.ret ?_
    simp
    refine retOk.of rfl ⟨rfl, ?_⟩
    simp [atF, h, hl]
end Go.Fw
namespace Go.Fw
open Go Go.RowKit Go.Proofs
set_option maxRecDepth 100000
set_option linter.unusedSimpArgs false
set_option linter.unusedVariables false
def rZero_10 : AC := (.seq (.par [[.m 18 (.t 0), .m 20 (.t 4), .o 19 (.app 3 1 8 .z (.t 18)), .o 21 (.mkS 2 1 8 (.sc (.int .i64 0)) (.t 20) (.t 20)), .o 22 (.mk [nil0, nil0] [(0, (1, (.t 19))), (1, (1, (.t 21)))]), .on (.st 2 (.t 2) (.t 22)), .m 3 (.i 0)], [.m 18 (.t 0), .m 20 (.t 4), .o 21 (.mkS 2 1 8 (.sc (.int .i64 0)) (.t 20) (.t 20)), .o 19 (.app 3 1 8 .z (.t 18)), .o 22 (.mk [nil0, nil0] [(0, (1, (.t 19))), (1, (1, (.t 21)))]), .on (.st 2 (.t 2) (.t 22)), .m 3 (.i 0)]]) .ret)
def rZero_9 : AC := (.seq (.ops [.o 17 (.mk [nil0, nil0] []), .on (.st 2 (.t 2) (.t 17)), .m 3 (.i 2)]) .ret)
def rZero_8 : AC := (.cond (.t 16) rZero_9 .skip)
def rZero_7 : AC := (.seq (.ops [.m 15 (.t 4), .o 16 (.bin .gtr (.t 15) (.i 65536))]) rZero_8)
def rZero_6 : AC := (.seq rZero_7 rZero_10)
def rZero_5 : AC := (.seq (.ops [.o 13 (.mk [nil0, nil0] []), .m 14 (.t 5), .on (.st 2 (.t 2) (.t 13)), .m 3 (.t 14)]) .ret)
def rZero_4 : AC := (.cond (.t 12) rZero_5 .skip)
def rZero_3 : AC := (.seq (.ops [.m 11 (.t 5), .o 12 (.bin .neq (.t 11) (.i 0))]) rZero_4)
def rZero_2 : AC := (.seq rZero_3 rZero_6)
def rZero_1 : AC := (.seq (.ops [.m 7 (.t 0), .c 8 false (.f 42) [(.t 7)], .m 6 (.t 8), .o 9 (.ext (.t 6) 0), .o 10 (.ext (.t 6) 1), .m 4 (.t 9), .m 5 (.t 10)]) rZero_2)
def rZero_ac : AC := (.seq (.ops [.o 2 (.new 57 2 (.c (.agg [nil0, nil0]))), .m 3 (.i 0)]) rZero_1)
theorem rZero_call {args : List AV} {H : List AObj} {R : AV → List AObj → Prop} (h : AWp Try.prog [] H.length rZero_ac (bodyQ H.length [(.cell 2 2 true), (.t 3)] R) (args ++ List.replicate (23 - args.length) .und) H) : ACalls Try.prog 66 args H R :=
  ACalls.of_fn Try.func66 rfl (by kernel_rfl) rfl Try.ntmps66 h
theorem rZero_spec {a : AV} {xs : List Int} (ha : ISl a xs) : ACalls Try.prog 66 [a] [] fun r G => zeroR xs r G := by
  have ha' := ha
  obtain ⟨⟨nl, c, sz, rfl, hs⟩, hlen, hx⟩ := ha
  apply rZero_call
  repeat first | refine AWp.seq ?_ | refine AWp.block ?_
  refine AWp.ops ?_
  simp
  repeat first | refine AWp.seq ?_ | refine AWp.block ?_
  refine AWp.ops ?_
  simp
  refine ((rCells_spec ha').pure (by simp) (by rintro r rfl; simp) _).mono ?_
  rintro r H' ⟨rfl, rfl⟩
  simp
  repeat first | refine AWp.seq ?_ | refine AWp.block ?_
  refine AWp.ops ?_
  simp
  refine AWp.cond (b := (cells xs).2 != 0) (by simp) ?_ ?_
  · intro h
    have h : (cells xs).2 ≠ 0 := by simpa using h
    repeat first | refine AWp.seq ?_ | refine AWp.block ?_
    refine AWp.ops ?_
    simp
    refine AWp.ret ?_
    simp
    refine retOk.of rfl ⟨(cells xs).2, .inl ⟨h, ?_, by simp⟩⟩
    have e : laidF xs = cells xs := by simp [laidF, h]
    rw [e, ← cells_err h]
  intro h
  have h : (cells xs).2 = 0 := by simpa using h
  refine AWp.skip ?_
  simp only [qSeq]
  repeat first | refine AWp.seq ?_ | refine AWp.block ?_
  refine AWp.ops ?_
  simp
  refine AWp.cond (b := decide (65536 < (cells xs).1)) (by simp) ?_ ?_
  · intro h1
    have h1 : 65536 < (cells xs).1 := by simpa using h1
    repeat first | refine AWp.seq ?_ | refine AWp.block ?_
    refine AWp.ops ?_
    simp
    refine AWp.ret ?_
    simp
    refine retOk.of rfl ⟨2, .inl ⟨by omega, ?_, by simp⟩⟩
    simp [laidF, h, h1]
  intro h1
  have h1 : ¬ 65536 < (cells xs).1 := by simpa using h1
  have hlf : laidF xs = cells xs := by simp [laidF, h1]
  have h' : (laidF xs).2 = 0 := by rw [hlf]; exact h
  obtain ⟨hxl, n, hn, hn'⟩ := laid_ok h'
  have hnc : (cells xs).1 = n := by rw [← hlf]; exact hn
  refine AWp.skip ?_
  simp only [qSeq]
  refine AWp.seq (AWp.par ?_)
  have b1 : (n : Int) * 8 ≤ 281474976710656 := by omega
  have b2 : (n : Int) ≤ 9223372036854775807 := by omega
  have b3 : xs.length * 8 ≤ 140737488355328 := by omega
  have b4 : xs.length ≤ 9223372036854775807 := by omega
  simp [hnc, elems_of _ hs]
  by_cases hx0 : xs = []
  · subst hx0
    simp [b1, b2]
    refine AWp.ret ?_
    simp
    refine retOk.of rfl ⟨0, .inr ⟨rfl, h', _, 1, n, hn, by simp; rfl, by simp, .inl ⟨rfl, true, none, 0, by simp, by simp⟩⟩⟩
  · simp [hx0, b1, b2, b3, b4]
    refine ⟨?_, ?_⟩
    ·
      refine AWp.ret ?_
      simp
      refine retOk.of rfl ⟨0, .inr ⟨rfl, h', _, 2, n, hn, by simp, by simp, .inr ⟨1, by omega, rfl, by simp⟩⟩⟩
    ·
      refine AWp.ret ?_
      simp
      refine retOk.of rfl ⟨0, .inr ⟨rfl, h', _, 1, n, hn, by simp, by simp, .inr ⟨2, by omega, rfl, by simp⟩⟩⟩
theorem rZero_pure {a : AV} {xs : List Int} (ha : ISl a xs) : ACalls Try.prog 66 [a] [] fun r H' => H' = [] ∧ ∃ d, r = .tup [d, I (zeroF xs).2] ∧ Dn d (zeroF xs).1 := by
  refine ((rZero_spec ha).frozen 8).mono ?_
  rintro q H' ⟨rfl, r, G, ⟨e, ⟨h1, h2, rfl⟩ | ⟨rfl, h2, s, j, n, hn, rfl, hj, hs⟩⟩, rfl⟩
  · refine ⟨rfl, _, by simp [zeroF, h2, h1]; rfl, ?_⟩
    simp only [zeroF, h2]
    rw [if_pos h1]
    exact ⟨_, _, rfl, ISl.nil, ISl.nil⟩
  · obtain ⟨hl, n', hn', hb⟩ := laid_ok h2
    have hnn : n' = n := by omega
    subst hnn
    refine ⟨rfl, _, by simp [zeroF, h2]; rfl, ?_⟩
    have ez : (zeroF xs).1 = (xs, List.replicate n' 0) := by simp [zeroF, h2, hn]
    rw [ez]
    refine ⟨_, _, rfl, ?_, ?_⟩
    · rcases hs with ⟨h0, nl, c, sz, rfl, hs⟩ | ⟨k, hk, rfl, hG⟩
      · exact ⟨⟨nl, c, sz, by simp [h0], ⟨fun _ => h0, hs⟩⟩, ha.2⟩
      · refine ⟨⟨false, none, 1, ?_, by simp, by simp⟩, ha.2⟩
        simp [hG]
    · refine ⟨⟨false, none, 1, ?_, by simp, by simp⟩, by simp; omega, ?_⟩
      · simp [hj]
      · intro x hx
        simp at hx
        omega
theorem rZero_dense {a : AV} {xs : List Int} (ha : ISl a xs) : ACalls Try.prog 66 [a] [] (denseR (zeroF xs)) := (rZero_spec ha).mono fun _ _ h => h.dense
end Go.Fw
