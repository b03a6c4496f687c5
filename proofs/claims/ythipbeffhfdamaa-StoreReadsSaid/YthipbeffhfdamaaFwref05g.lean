import Derived.Test.YthipbeffhfdamaaFwbox1
import Derived.Test.YthipbeffhfdamaaFwref05e
namespace Go.Fw
open Go Go.RowKit Go.Proofs
set_option maxRecDepth 100000
set_option linter.unusedSimpArgs false
set_option linter.unusedVariables false
def rCells_33 : AC := (.seq (.ops [.m 42 (.t 7), .m 2 (.t 42), .m 3 (.i 0)]) .ret)
def rCells_32 : AC := (.cond (.t 37) (.seq (.ops [.m 2 (.i 0), .m 3 (.i 2)]) .ret) .skip)
def rCells_31 : AC := (.seq (.ops [.m 34 (.t 9), .m 35 (.t 7), .o 36 (.bin .quo (.i 4611686018427387903) (.t 35)), .o 37 (.bin .gtr (.t 34) (.t 36))]) rCells_32)
def rCells_30 : AC := (.seq rCells_31 (.ops [.m 38 (.t 7), .m 39 (.t 9), .o 40 (.bin .mul (.t 38) (.t 39)), .m 7 (.t 40)]))
def rCells_29 : AC := (.seq (.ops [.o 32 (.iad 1 (.t 28) (.t 30)), .o 33 (.ld 1 false (.t 32)), .m 9 (.t 33)]) rCells_30)
def rCells_28 : AC := (.block 3 rCells_29)
def rCells_27 : AC := (.seq rCells_28 (.ops [.o 41 (.bin .add (.t 30) (.i 1)), .m 30 (.t 41)]))
def rCells_26 : AC := (.seq (.cond (.t 31) .skip (.exit 2)) rCells_27)
def rCells_25 : AC := (.seq (.ops [.o 31 (.bin .lss (.t 30) (.t 29))]) rCells_26)
def rCells_24 : AC := (.loop rCells_25)
def rCells_23 : AC := (.block 2 rCells_24)
def rCells_22 : AC := (.seq (.ops [.m 28 (.t 0), .o 29 (.len (.t 28)), .m 30 (.i 0)]) rCells_23)
def rCells_21 : AC := (.seq rCells_22 rCells_33)
def rCells_20 : AC := (.seq (.ops [.m 7 (.i 1)]) rCells_21)
def rCells_19 : AC := (.cond (.t 27) (.seq (.ops [.m 2 (.i 0), .m 3 (.i 0)]) .ret) .skip)
def rCells_18 : AC := (.seq (.ops [.m 27 (.t 4)]) rCells_19)
def rCells_17 : AC := (.seq rCells_18 rCells_20)
def rCells_16 : AC := (.cond (.t 20) (.seq (.ops [.m 2 (.i 0), .m 3 (.i 1)]) .ret) .skip)
def rCells_15 : AC := (.seq (.ops [.m 19 (.t 6), .o 20 (.bin .lss (.t 19) (.i 0))]) rCells_16)
def rCells_14 : AC := (.seq rCells_15 (.ops [.m 21 (.t 4), .m 22 (.t 21), .mg 23 22 false (.t 6), .og 24 22 false (.bin .eql (.t 23) (.i 0)), .o 25 (.pick (.t 22) (.b true) (.t 24)), .m 4 (.t 25)]))
def rCells_13 : AC := (.seq (.ops [.o 17 (.iad 1 (.t 13) (.t 15)), .o 18 (.ld 1 false (.t 17)), .m 6 (.t 18)]) rCells_14)
def rCells_12 : AC := (.block 1 rCells_13)
def rCells_11 : AC := (.seq rCells_12 (.ops [.o 26 (.bin .add (.t 15) (.i 1)), .m 15 (.t 26)]))
def rCells_10 : AC := (.seq (.cond (.t 16) .skip (.exit 0)) rCells_11)
def rCells_9 : AC := (.seq (.ops [.o 16 (.bin .lss (.t 15) (.t 14))]) rCells_10)
def rCells_8 : AC := (.loop rCells_9)
def rCells_7 : AC := (.block 0 rCells_8)
def rCells_6 : AC := (.seq (.ops [.m 13 (.t 0), .o 14 (.len (.t 13)), .m 15 (.i 0)]) rCells_7)
def rCells_5 : AC := (.seq rCells_6 rCells_17)
def rCells_4 : AC := (.seq (.ops [.m 4 (.b false)]) rCells_5)
def rCells_3 : AC := (.cond (.t 12) (.seq (.ops [.m 2 (.i 0), .m 3 (.i 1)]) .ret) .skip)
def rCells_2 : AC := (.seq (.ops [.m 10 (.t 0), .o 11 (.len (.t 10)), .o 12 (.bin .gtr (.t 11) (.i 4))]) rCells_3)
def rCells_1 : AC := (.seq rCells_2 rCells_4)
def rCells_ac : AC := (.seq (.ops [.m 2 (.i 0), .m 3 (.i 0)]) rCells_1)
theorem rCells_call {args : List AV} {H : List AObj} {R : AV → List AObj → Prop} (h : AWp Try.prog [] H.length rCells_ac (bodyQ H.length [(.t 2), (.t 3)] R) (args ++ List.replicate (43 - args.length) .und) H) : ACalls Try.prog 42 args H R :=
  ACalls.of_fn Try.func42 rfl (by kernel_rfl) rfl Try.ntmps42 h
theorem rCells_spec {a : AV} {xs : List Int} (ha : ISl a xs) : ACalls Try.prog 42 [a] [] fun r H' => H' = [] ∧ r = .tup [I (cells xs).1, I (cells xs).2] := by
  obtain ⟨⟨nl, c, sz, rfl, hs⟩, hlen, hx⟩ := ha
  apply rCells_call
  repeat first | refine AWp.seq ?_ | refine AWp.block ?_
  refine AWp.ops ?_
  simp
  repeat first | refine AWp.seq ?_ | refine AWp.block ?_
  refine AWp.ops ?_
  simp
  refine AWp.cond (b := decide (4 < (xs.length : Int))) (by simp) ?_ ?_
  · intro h
    have h : 4 < (xs.length : Int) := by simpa using h
    repeat first | refine AWp.seq ?_ | refine AWp.block ?_
    refine AWp.ops ?_
    simp
    refine AWp.ret ?_
    simp
    refine retOk.of rfl ⟨rfl, ?_⟩
    have : xs.length > 4 := by omega
    simp [cells, this]
  intro h
  have h4 : ¬ xs.length > 4 := by
    have : ¬ 4 < (xs.length : Int) := by simpa using h
    omega
  refine AWp.skip ?_
  simp only [qSeq]
  repeat first | refine AWp.seq ?_ | refine AWp.block ?_
  refine AWp.ops ?_
  simp
  refine AWp.cutp (∀ x ∈ xs, 0 ≤ x) [AV.imm nl c sz (xs.map I), .und, I 0, I 0, Bo (decide (0 ∈ xs)), .und, .und, .und, .und, .und, .und, .und, .und, .und, .und, .und, .und, .und, .und, .und, .und, .und, .und, .und, .und, .und, .und, .und, .und, .und, .und, .und, .und, .und, .und, .und, .und, .und, .und, .und, .und, .und, .und] [] ?_ ?_
  ·
    repeat first | refine AWp.seq ?_ | refine AWp.block ?_
    refine AWp.ops ?_
    simp
    obtain ⟨J, hJ⟩ : ∃ J : Nat → List AV → List AObj → Prop, J = fun i fr H => i ≤ xs.length ∧ (∀ x ∈ xs.take i, 0 ≤ x) ∧ H = [] ∧
      fr = [AV.imm nl c sz (xs.map I), .und, I 0, I 0, Bo (decide (0 ∈ xs.take i)), .und, .und, .und, .und, .und, .und, .und, .und, AV.imm nl c sz (xs.map I), I xs.length, I i, .und, .und, .und, .und, .und, .und, .und, .und, .und, .und, .und, .und, .und, .und, .und, .und, .und, .und, .und, .und, .und, .und, .und, .und, .und, .und, .und] := ⟨_, rfl⟩
    refine AWp.block (AWp.loop J (fun i => xs.length - i) 0 (Weak.slots [0, 2, 3, 4, 13, 14, 15]) (by rw [hJ]; exact ⟨by omega, by simp, by simp, by simp⟩) ?_)
    intro i fr H hI
    rw [hJ] at hI
    obtain ⟨hi, hinv, rfl, rfl⟩ := hI
    repeat first | refine AWp.seq ?_ | refine AWp.block ?_
    refine AWp.ops ?_
    simp
    refine AWp.seq (AWp.cond (b := decide (i < xs.length)) (by simp <;> omega) ?_ ?_)
    ·
      intro hb
      have hb : i < xs.length := by simpa using hb
      refine AWp.skip ?_
      simp only [qSeq]
      have hsz := sz_of hs hb
      subst hsz
      refine AWp.seq (AWp.block (AWp.seq (AWp.ops ?_)))
      simp [hb]
      repeat first | refine AWp.seq ?_ | refine AWp.block ?_
      refine AWp.ops ?_
      simp
      refine AWp.cond (b := decide (xs[i] < 0)) (by simp) ?_ ?_
      · intro he
        have he : xs[i] < 0 := by simpa using he
        repeat first | refine AWp.seq ?_ | refine AWp.block ?_
        refine AWp.ops ?_
        simp
        refine AWp.ret ?_
        simp
        refine retOk.of rfl ⟨rfl, ?_⟩
        have : (xs.any fun x => decide (x < 0)) = true := by
          rw [List.any_eq_true]
          exact ⟨xs[i], List.getElem_mem hb, by simpa using he⟩
        simp [cells, this]
      · intro he
        have he : ¬ xs[i] < 0 := by simpa using he
        refine AWp.skip ?_
        simp only [qSeq]
        refine AWp.ops ?_
        have hmem : 0 ∈ xs.take (i + 1) ↔ 0 ∈ xs.take i ∨ xs[i] = 0 := by
          rw [List.take_succ_eq_append_getElem hb, List.mem_append, List.mem_singleton, eq_comm (a := (0 : Int))]
        have hpos : ∀ x ∈ xs.take (i + 1), 0 ≤ x := by
          intro x hm
          rw [List.take_succ_eq_append_getElem hb] at hm
          rcases List.mem_append.1 hm with h | h
          · exact hinv x h
          · simp at h; omega
        by_cases hz : 0 ∈ xs.take i
        · simp [hz]
          refine AWp.ops ?_
          simp
          refine ⟨i + 1, _, _, Weak.slots [0, 2, 3, 4, 13, 14, 15], ?_, by omega⟩
          rw [hJ]
          exact ⟨by omega, hpos, rfl, by simp [hmem, hz, wrap_i64 (n := (i : Int) + 1) (by omega) (by omega)]⟩
        · simp [hz]
          refine AWp.ops ?_
          simp
          refine ⟨i + 1, _, _, Weak.slots [0, 2, 3, 4, 13, 14, 15], ?_, by omega⟩
          rw [hJ]
          refine ⟨by omega, hpos, rfl, ?_⟩
          have hd : decide (0 ∈ xs.take (i + 1)) = (xs[i] == 0) := by
            rw [Bool.eq_iff_iff]; simp [hmem, hz]
          simp [hd, wrap_i64 (n := (i : Int) + 1) (by omega) (by omega)]
    ·
      intro hb
      have hb : ¬ i < xs.length := by simpa using hb
      refine AWp.exit ?_
      simp [qSeq, qBlock]
      have hxt : xs.take i = xs := List.take_of_length_le (by omega)
      rw [hxt] at hinv
      exact ⟨hinv, (Weak.slots [0, 2, 3, 4]).to (by simp [hxt]) rfl⟩
  intro hpos
  have hn : (xs.any fun x => decide (x < 0)) = false := by simpa using hpos
  have hc : cells xs = if 0 ∈ xs then (0, 0) else mulAll xs 1 := by
    unfold cells
    rw [if_neg]
    rintro (h | h)
    · omega
    · rw [hn] at h; cases h
  rw [hc]
  repeat first | refine AWp.seq ?_ | refine AWp.block ?_
  refine AWp.ops ?_
  simp
  refine AWp.cond (b := decide (0 ∈ xs)) (by simp) ?_ ?_
  · intro h
    have h : 0 ∈ xs := by simpa using h
    repeat first | refine AWp.seq ?_ | refine AWp.block ?_
    refine AWp.ops ?_
    simp
    refine AWp.ret ?_
    simp
    refine retOk.of rfl ⟨rfl, ?_⟩
    simp [h]
  intro h0
  have h0 : ¬ 0 ∈ xs := by simpa using h0
  refine AWp.skip ?_
  simp only [qSeq]
  rw [if_neg h0]
  repeat first | refine AWp.seq ?_ | refine AWp.block ?_
  refine AWp.ops ?_
  simp
  repeat first | refine AWp.seq ?_ | refine AWp.block ?_
  refine AWp.ops ?_
  simp
  obtain ⟨J, hJ⟩ : ∃ J : Nat → List AV → List AObj → Prop, J = fun i fr H => i ≤ xs.length ∧ ∃ (N : Nat), (1 ≤ N ∧ N < 4611686018427387904 ∧ mulAll xs 1 = mulAll (xs.drop i) N) ∧ H = [] ∧
    fr = [AV.imm nl c sz (xs.map I), .und, I 0, I 0, .und, .und, .und, I N, .und, .und, .und, .und, .und, .und, .und, .und, .und, .und, .und, .und, .und, .und, .und, .und, .und, .und, .und, .und, AV.imm nl c sz (xs.map I), I xs.length, I i, .und, .und, .und, .und, .und, .und, .und, .und, .und, .und, .und, .und] := ⟨_, rfl⟩
  refine AWp.block (AWp.loop J (fun i => xs.length - i) 0 (Weak.slots [0, 2, 3, 7, 28, 29, 30]) (by rw [hJ]; exact ⟨by omega, 1, ⟨by omega, by omega, rfl⟩, by simp, by simp⟩) ?_)
  intro i fr H hI
  rw [hJ] at hI
  obtain ⟨hi, N, hinv, rfl, rfl⟩ := hI
  repeat first | refine AWp.seq ?_ | refine AWp.block ?_
  refine AWp.ops ?_
  simp
  refine AWp.seq (AWp.cond (b := decide (i < xs.length)) (by simp <;> omega) ?_ ?_)
  ·
    intro hb
    have hb : i < xs.length := by simpa using hb
    refine AWp.skip ?_
    simp only [qSeq]
    obtain ⟨hN1, hN2, hm⟩ := hinv
    have hsz := sz_of hs hb
    subst hsz
    refine AWp.seq (AWp.block (AWp.seq (AWp.ops ?_)))
    simp [hb]
    have hxi := hx xs[i] (List.getElem_mem hb)
    have hxp := hpos xs[i] (List.getElem_mem hb)
    have hx0 : xs[i] ≠ 0 := fun e => h0 (by rw [← e]; exact List.getElem_mem hb)
    rw [List.drop_eq_getElem_cons hb] at hm
    obtain ⟨S, hS⟩ : ∃ S : Nat, xs[i] = (S : Int) := ⟨xs[i].toNat, by omega⟩
    rw [hS] at hm hxi hxp hx0
    simp only [hS]
    have hN0 : ¬ N = 0 := by omega
    obtain ⟨D, hD, hD1, hiff⟩ : ∃ D : Nat, (4611686018427387903 : Int) / (N : Int) = D ∧ D ≤ 4611686018427387903 ∧ (D < S ↔ N * S ≥ 4611686018427387904) := by
      refine ⟨4611686018427387903 / N, (Int.natCast_ediv 4611686018427387903 N).symm, Nat.div_le_self _ _, ?_⟩
      rw [Nat.div_lt_iff_lt_mul (by omega), Nat.mul_comm]; omega
    have hw := wrap_i64 (n := (D : Int)) (by omega) (by omega)
    refine AWp.seq (AWp.seq (AWp.ops ?_))
    have hT : (4611686018427387903 : Int).tdiv N = D := by rw [Int.tdiv_eq_ediv_of_nonneg (by omega), hD]
    simp [hN0, hT, hw]
    refine AWp.cond (b := decide (D < S)) (by simp) ?_ ?_
    · intro h
      have h : D < S := by simpa using h
      repeat first | refine AWp.seq ?_ | refine AWp.block ?_
      refine AWp.ops ?_
      simp
      refine AWp.ret ?_
      simp
      refine retOk.of rfl ⟨rfl, ?_⟩
      rw [hm]
      simp only [mulAll]
      rw [if_pos (by rw [← Int.natCast_mul]; have := hiff.1 h; omega)]
      simp
    · intro h
      have h : ¬ D < S := by simpa using h
      have hNS : N * S < 4611686018427387904 := by
        have : ¬ N * S ≥ 4611686018427387904 := fun e => h (hiff.2 e)
        omega
      have hNS1 : 1 ≤ N * S := Nat.mul_pos (by omega) (by omega)
      have hw2 := wrap_i64 (n := (N : Int) * S) (by rw [← Int.natCast_mul]; omega) (by rw [← Int.natCast_mul]; omega)
      refine AWp.skip ?_
      simp only [qSeq]
      refine AWp.ops ?_
      simp [hw2]
      refine AWp.ops ?_
      simp
      refine ⟨i + 1, _, _, Weak.slots [0, 2, 3, 7, 28, 29, 30], ?_, by omega⟩
      rw [hJ]
      refine ⟨by omega, N * S, ?_, by simp, by simp [wrap_i64 (n := (i : Int) + 1) (by omega) (by omega)]⟩
      refine ⟨hNS1, hNS, ?_⟩
      rw [hm]
      simp only [mulAll]
      rw [if_neg (by rw [← Int.natCast_mul]; omega), Int.natCast_mul]
  ·
    intro hb
    have hb : ¬ i < xs.length := by simpa using hb
    refine AWp.exit ?_
    simp [qSeq, qBlock]
    repeat first | refine AWp.seq ?_ | refine AWp.block ?_
    refine AWp.ops ?_
    simp
    refine AWp.ret ?_
    simp
    refine retOk.of rfl ⟨rfl, ?_⟩
    rw [hinv.2.2, List.drop_eq_nil_of_le (by omega)]
    simp [mulAll]
end Go.Fw
namespace Go.Fw
open Go Go.RowKit Go.Proofs
set_option maxRecDepth 100000
set_option linter.unusedSimpArgs false
set_option linter.unusedVariables false
def rsizes_18 : AC := (.cond (.t 31) (.ops [.m 32 (.t 8), .m 33 (.t 9), .o 34 (.bin .quo (.t 32) (.t 33)), .m 8 (.t 34)]) .skip)
def rsizes_17 : AC := (.seq (.ops [.m 30 (.t 9), .o 31 (.bin .gtr (.t 30) (.i 0))]) rsizes_18)
def rsizes_16 : AC := (.seq (.ops [.m 26 (.t 1), .o 27 (.fad 1 (.t 7)), .o 28 (.ld 1 false (.t 27)), .c 29 false (.f 73) [(.t 26), (.t 28)], .m 9 (.t 29)]) rsizes_17)
def rsizes_15 : AC := (.seq (.ops [.m 21 (.t 0), .o 22 (.fad 1 (.t 7)), .o 23 (.ld 1 false (.t 22)), .o 24 (.iad 1 (.t 21) (.t 23)), .o 25 (.ld 1 false (.t 24)), .m 8 (.t 25)]) rsizes_16)
def rsizes_14 : AC := (.cond (.t 20) rsizes_15 .skip)
def rsizes_13 : AC := (.seq (.ops [.o 18 (.fad 0 (.t 7)), .o 19 (.ld 1 false (.t 18)), .o 20 (.bin .neq (.t 19) (.i 4))]) rsizes_14)
def rsizes_12 : AC := (.seq rsizes_13 (.ops [.m 35 (.t 5), .m 36 (.t 8), .o 37 (.lit 1 [(.t 36)]), .o 38 (.app 3 1 8 (.t 35) (.t 37)), .m 5 (.t 38)]))
def rsizes_11 : AC := (.seq (.ops [.o 16 (.fad 2 (.t 7)), .o 17 (.ld 1 false (.t 16)), .m 8 (.t 17)]) rsizes_12)
def rsizes_10 : AC := (.seq (.ops [.o 14 (.iad 3 (.t 10) (.t 12)), .o 15 (.ld 3 true (.t 14)), .o 7 (.new 43 3 (.c (.agg [(.sc (.int .i64 0)), (.sc (.int .i64 0)), (.sc (.int .i64 0))]))), .on (.st 3 (.t 7) (.t 15))]) rsizes_11)
def rsizes_9 : AC := (.block 1 rsizes_10)
def rsizes_8 : AC := (.seq rsizes_9 (.ops [.o 39 (.bin .add (.t 12) (.i 1)), .m 12 (.t 39)]))
def rsizes_7 : AC := (.seq (.cond (.t 13) .skip (.exit 0)) rsizes_8)
def rsizes_6 : AC := (.seq (.ops [.o 13 (.bin .lss (.t 12) (.t 11))]) rsizes_7)
def rsizes_5 : AC := (.loop rsizes_6)
def rsizes_4 : AC := (.block 0 rsizes_5)
def rsizes_3 : AC := (.seq (.ops [.m 10 (.t 1), .o 11 (.len (.t 10)), .m 12 (.i 0)]) rsizes_4)
def rsizes_2 : AC := (.seq rsizes_3 (.seq (.ops [.m 40 (.t 5), .m 4 (.t 40)]) .ret))
def rsizes_1 : AC := (.seq (.ops [.m 5 .z]) rsizes_2)
def rsizes_ac : AC := (.seq (.ops [.m 4 .z]) rsizes_1)
theorem rsizes_call {args : List AV} {H : List AObj} {R : AV → List AObj → Prop} (h : AWp Try.prog [] H.length rsizes_ac (bodyQ H.length [(.t 4)] R) (args ++ List.replicate (41 - args.length) .und) H) : ACalls Try.prog 41 args H R :=
  ACalls.of_fn Try.func41 rfl (by kernel_rfl) rfl Try.ntmps41 h
set_option maxHeartbeats 4000000 in
theorem rsizes_spec {a b : AV} {xs : List Int} {fs : List (Int × Int × Int)} (ha : ISl a xs) (hb : Sp b fs) (hf : fs.length ≤ 1000) (hxn : ∀ x ∈ xs, 0 ≤ x) (hmo : ∀ s ∈ fs, 0 ≤ s.2.1 ∧ s.2.1 < xs.length) (hbl : ∀ s ∈ fs, 0 ≤ blockF fs s.2.1 ∧ blockF fs s.2.1 ≤ 9223372036854775807) :
    ACalls Try.prog 41 [a, b] [] fun r H' => H' = [] ∧ ISl r (fs.map (lvlR xs fs)) := by
  have hb' := hb
  obtain ⟨⟨nl, c, sz, rfl, hs⟩, hlen, hx⟩ := ha
  obtain ⟨⟨nl', c', sz', rfl, hs'⟩, hlen', hx'⟩ := hb
  have hin : ∀ x ∈ fs.map (lvlR xs fs), -9223372036854775808 ≤ x ∧ x ≤ 9223372036854775807 := by
    intro x hxm
    obtain ⟨s, hsm, rfl⟩ := List.mem_map.1 hxm
    obtain ⟨h1, h2⟩ := hmo s hsm
    have hget : xs.getD s.2.1.toNat 0 = xs[s.2.1.toNat]'(by omega) := by simp [(by omega : s.2.1.toNat < xs.length)]
    have h3 := hxn _ (List.getElem_mem (by omega : s.2.1.toNat < xs.length))
    have h4 := hx _ (List.getElem_mem (by omega : s.2.1.toNat < xs.length))
    unfold lvlR
    rw [hget]
    split
    · exact (hx' s hsm).2.2
    · split
      · rename_i hp
        have h5 : (xs[s.2.1.toNat]'(by omega)).tdiv (blockF fs s.2.1) ≤ xs[s.2.1.toNat]'(by omega) := by rw [Int.tdiv_eq_ediv_of_nonneg h3]; exact Int.ediv_le_self _ h3
        have h6 : 0 ≤ (xs[s.2.1.toNat]'(by omega)).tdiv (blockF fs s.2.1) := Int.tdiv_nonneg h3 (by omega)
        omega
      · exact h4
  have base : ACalls Try.prog 41 [.imm nl c sz (xs.map I), .imm nl' c' sz' (fs.map specV)] [] fun r H' => ∃ v, (v = some true → fs.map (lvlR xs fs) = []) ∧ v ≠ some false ∧ r = .slc 0 (fs.map (lvlR xs fs)).length 0 (fs.map (lvlR xs fs)).length none ∧ H' = [⟨3, 1, (fs.map (lvlR xs fs)).map I, true, v⟩] := by
    apply rsizes_call
    repeat first | refine AWp.seq ?_ | refine AWp.block ?_
    refine AWp.ops ?_
    simp
    repeat first | refine AWp.seq ?_ | refine AWp.block ?_
    refine AWp.ops ?_
    simp
    refine AWp.weak (Weak.own 5 3 1 (by omega) none 0 (by simp)) ?_
    simp
    repeat first | refine AWp.seq ?_ | refine AWp.block ?_
    refine AWp.ops ?_
    simp
    obtain ⟨J, hJ⟩ : ∃ J : Nat → List AV → List AObj → Prop, J = fun i fr H => i ≤ fs.length ∧ ∃ (ws : List Int) (v : Option Bool), (ws = (fs.take i).map (lvlR xs fs) ∧ (v = some true → ws = []) ∧ v ≠ some false) ∧ H = [⟨3, 1, ws.map I, true, v⟩] ∧
      fr = [.imm nl c sz (xs.map I), .imm nl' c' sz' (fs.map specV), .und, .und, .und, .slc 0 ws.length 0 ws.length none, .und, .und, .und, .und, .imm nl' c' sz' (fs.map specV), I fs.length, I i, .und, .und, .und, .und, .und, .und, .und, .und, .und, .und, .und, .und, .und, .und, .und, .und, .und, .und, .und, .und, .und, .und, .und, .und, .und, .und, .und, .und] := ⟨_, rfl⟩
    refine AWp.block (AWp.loop J (fun i => fs.length - i) 0 (Weak.slots [0, 1, 5, 10, 11, 12]) (by rw [hJ]; exact ⟨by omega, [], some true, ⟨by simp, by simp, by simp⟩, by simp, by simp⟩) ?_)
    intro i fr H hI
    rw [hJ] at hI
    obtain ⟨hi, ws, v, hinv, rfl, rfl⟩ := hI
    repeat first | refine AWp.seq ?_ | refine AWp.block ?_
    refine AWp.ops ?_
    simp
    refine AWp.seq (AWp.cond (b := decide (i < fs.length)) (by simp <;> omega) ?_ ?_)
    ·
      intro hb
      have hb : i < fs.length := by simpa using hb
      refine AWp.skip ?_
      simp only [qSeq]
      obtain ⟨hws, hv1, hv2⟩ := hinv
      have hsz3 := sz3_of hs' hb
      subst hsz3
      have hgs := spec_get hb
      have hwl : ws.length = i := by rw [hws]; simp; omega
      have hm := hmo fs[i] (List.getElem_mem hb)
      have hbk := hbl fs[i] (List.getElem_mem hb)
      have hst : (fs.take (i + 1)).map (lvlR xs fs) = ws ++ [lvlR xs fs fs[i]] := by rw [List.take_succ_eq_append_getElem hb, List.map_append, hws]; rfl
      generalize fs[i] = sp at hgs hm hbk hst
      obtain ⟨k, mo, z⟩ := sp
      simp only at hgs hm hbk
      obtain ⟨j, rfl⟩ : ∃ j : Nat, mo = j := ⟨mo.toNat, by omega⟩
      have hj : j < xs.length := by omega
      have hszx := sz_of hs hj
      subst hszx
      have gX : xs.getD j 0 = xs[j] := by simp [hj]
      have hxj := hxn xs[j] (List.getElem_mem hj)
      have hxr := hx xs[j] (List.getElem_mem hj)
      obtain ⟨blk, hblk⟩ : ∃ blk, blk = blockF fs j := ⟨_, rfl⟩
      obtain ⟨V, hV⟩ : ∃ V, V = lvlR xs fs (k, (j : Int), z) := ⟨_, rfl⟩
      rw [← hblk] at hbk
      rw [← hV] at hst
      have hVe : V = if k = 4 then z else if 0 < blk then xs[j].tdiv blk else xs[j] := by
        rw [hV]
        simp only [lvlR, Int.toNat_natCast, gX, ← hblk]
      repeat first | refine AWp.seq ?_ | refine AWp.block ?_
      refine AWp.ops ?_
      simp [hgs]
      repeat first | refine AWp.seq ?_ | refine AWp.block ?_
      refine AWp.ops ?_
      simp
      refine AWp.cut [.imm nl c 1 (xs.map I), .imm nl' c' 3 (fs.map specV), .und, .und, .und, .slc 0 ws.length 0 ws.length none, .und, .und, I V, .und, .imm nl' c' 3 (fs.map specV), I fs.length, I i, .und, .und, .und, .und, .und, .und, .und, .und, .und, .und, .und, .und, .und, .und, .und, .und, .und, .und, .und, .und, .und, .und, .und, .und, .und, .und, .und, .und] [⟨3, 1, ws.map I, true, v⟩] ?_ ?_
      ·
        repeat first | refine AWp.seq ?_ | refine AWp.block ?_
        refine AWp.ops ?_
        simp
        by_cases k4 : k = 4
        · rw [if_pos k4] at hVe
          refine AWp.cond (b := false) (by simp [k4]) (fun h => by cases h) (fun _ => ?_)
          refine AWp.skip ?_
          simp only [qSeq]
          exact ((Weak.slots [0, 1, 5, 8, 10, 11, 12]).trans (Weak.freeze 1 2 (by simp))).to (by simp [hVe]) (by simp [frzH])
        rw [if_neg k4] at hVe
        refine AWp.cond (b := true) (by simp [k4]) (fun _ => ?_) (fun h => by cases h)
        repeat first | refine AWp.seq ?_ | refine AWp.block ?_
        refine AWp.ops ?_
        simp [hj]
        repeat first | refine AWp.seq ?_ | refine AWp.block ?_
        refine AWp.ops ?_
        simp
        refine ((rBlock_spec (mode := (j : Int)) hb' hf).pure (by simp) (by rintro r rfl; simp) _).mono ?_
        rintro r H' ⟨rfl, rfl⟩
        rw [← hblk]
        simp
        repeat first | refine AWp.seq ?_ | refine AWp.block ?_
        refine AWp.ops ?_
        simp
        by_cases hp : 0 < blk
        · rw [if_pos hp] at hVe
          have hbn : ¬ blk = 0 := by omega
          have hwv : IntKind.i64.wrap (xs[j].tdiv blk) = V := by
            rw [hVe]
            have h1 : xs[j].tdiv blk ≤ xs[j] := by rw [Int.tdiv_eq_ediv_of_nonneg hxj]; exact Int.ediv_le_self _ hxj
            have h2 : 0 ≤ xs[j].tdiv blk := Int.tdiv_nonneg hxj (by omega)
            exact wrap_i64 (by omega) (by omega)
          refine AWp.cond (b := true) (by simp [hp]) (fun _ => ?_) (fun h => by cases h)
          repeat first | refine AWp.seq ?_ | refine AWp.block ?_
          refine AWp.ops ?_
          simp [hbn, hwv]
          exact ((Weak.slots [0, 1, 5, 8, 10, 11, 12]).trans (Weak.freeze 1 2 (by simp))).to (by simp) (by simp [frzH])
        · rw [if_neg hp] at hVe
          refine AWp.cond (b := false) (by simp <;> omega) (fun h => by cases h) (fun _ => ?_)
          refine AWp.skip ?_
          simp only [qSeq]
          exact ((Weak.slots [0, 1, 5, 8, 10, 11, 12]).trans (Weak.freeze 1 2 (by simp))).to (by simp [hVe]) (by simp [frzH])
      have b1 : (ws.length + 1) * 8 ≤ 140737488355328 := by omega
      have b2 : ws.length + 1 ≤ 9223372036854775807 := by omega
      repeat first | refine AWp.seq ?_ | refine AWp.block ?_
      refine AWp.ops ?_
      simp [b1, b2, elems]
      repeat first | refine AWp.seq ?_ | refine AWp.block ?_
      refine AWp.ops ?_
      simp
      refine ⟨i + 1, _, _, Weak.slots [0, 1, 5, 10, 11, 12], ?_, by omega⟩
      rw [hJ]
      refine ⟨by omega, ws ++ [V], none, ?_, by simp, by simp [wrap_i64 (n := (i : Int) + 1) (by omega) (by omega)]⟩
      exact ⟨hst.symm, by simp, by simp⟩
    ·
      intro hb
      have hb : ¬ i < fs.length := by simpa using hb
      refine AWp.exit ?_
      simp [qSeq, qBlock]
      obtain ⟨hws, hv1, hv2⟩ := hinv
      have e : fs.take i = fs := List.take_of_length_le (by omega)
      rw [e] at hws
      repeat first | refine AWp.seq ?_ | refine AWp.block ?_
      refine AWp.ops ?_
      simp
      refine AWp.ret ?_
      simp
      refine retOk.of rfl ⟨v, fun h => ?_, hv2, by simp [hws], by simp [hws]⟩
      have := hv1 h
      rw [hws] at this
      simpa using this
  refine (base.frozen 2).mono ?_
  rintro q H' ⟨rfl, r, G, ⟨v, hv1, hv2, rfl, rfl⟩, rfl⟩
  refine ⟨rfl, ?_⟩
  match v, hv1, hv2 with
  | some true, hv1, _ =>
    have h0 := hv1 rfl
    rw [h0]
    exact ⟨⟨true, none, 1, by simp, by simp, by simp⟩, by simp, by simp⟩
  | none, _, _ => exact ⟨⟨false, none, 1, by simp, by simp, by simp⟩, by simp; omega, hin⟩
  | some false, _, h => exact absurd rfl h
end Go.Fw
namespace Go.Fw
open Go Go.RowKit Go.Proofs
set_option maxRecDepth 100000
set_option linter.unusedSimpArgs false
set_option linter.unusedVariables false
def rForm_15 : AC := (.seq (.ops [.m 29 (.t 8), .o 30 (.bin .gtr (.t 29) (.i 2147483648))]) (.cond (.t 30) (.seq (.ops [.m 4 (.i 2)]) .ret) .skip))
def rForm_14 : AC := (.seq (.ops [.o 27 (.iad 1 (.t 23) (.t 25)), .o 28 (.ld 1 false (.t 27)), .m 8 (.t 28)]) rForm_15)
def rForm_13 : AC := (.block 1 rForm_14)
def rForm_12 : AC := (.seq rForm_13 (.ops [.o 31 (.bin .add (.t 25) (.i 1)), .m 25 (.t 31)]))
def rForm_11 : AC := (.seq (.cond (.t 26) .skip (.exit 0)) rForm_12)
def rForm_10 : AC := (.seq (.ops [.o 26 (.bin .lss (.t 25) (.t 24))]) rForm_11)
def rForm_9 : AC := (.loop rForm_10)
def rForm_8 : AC := (.block 0 rForm_9)
def rForm_7 : AC := (.seq (.ops [.m 21 (.t 0), .m 22 (.t 1), .c 23 false (.f 41) [(.t 21), (.t 22)], .o 24 (.len (.t 23)), .m 25 (.i 0)]) rForm_8)
def rForm_6 : AC := (.seq rForm_7 (.seq (.ops [.m 4 (.i 0)]) .ret))
def rForm_5 : AC := (.seq (.ops [.m 17 (.t 0), .m 18 (.t 1), .c 19 false (.f 43) [(.t 17), (.t 18)], .o 20 (.un .not (.t 19))]) (.cond (.t 20) (.seq (.ops [.m 4 (.i 4)]) .ret) .skip))
def rForm_4 : AC := (.seq rForm_5 rForm_6)
def rForm_3 : AC := (.seq (.ops [.m 14 (.t 6), .o 15 (.bin .neq (.t 14) (.i 0))]) (.cond (.t 15) (.seq (.ops [.m 16 (.t 6), .m 4 (.t 16)]) .ret) .skip))
def rForm_2 : AC := (.seq (.ops [.m 10 (.t 0), .c 11 false (.f 42) [(.t 10)], .m 9 (.t 11), .o 12 (.ext (.t 9) 0), .o 13 (.ext (.t 9) 1), .m 5 (.t 12), .m 6 (.t 13)]) rForm_3)
def rForm_1 : AC := (.seq rForm_2 rForm_4)
def rForm_ac : AC := (.seq (.ops [.m 4 (.i 0)]) rForm_1)
theorem rForm_call {args : List AV} {H : List AObj} {R : AV → List AObj → Prop} (h : AWp Try.prog [] H.length rForm_ac (bodyQ H.length [(.t 4)] R) (args ++ List.replicate (32 - args.length) .und) H) : ACalls Try.prog 17 args H R :=
  ACalls.of_fn Try.func17 rfl (by kernel_rfl) rfl Try.ntmps17 h
set_option maxHeartbeats 4000000 in
theorem rForm_spec {a b : AV} {xs : List Int} {fs : List (Int × Int × Int)} (ha : ISl a xs) (hb : Sp b fs) (hf : fs.length ≤ 1000) (hxl : xs.length ≤ 1000) : ACalls Try.prog 17 [a, b] [] fun r H' => H' = [] ∧ r = I (sizesF xs fs).2 := by
  have ha' := ha
  have hb' := hb
  obtain ⟨⟨nl, c, sz, rfl, hs⟩, hlen, hx⟩ := ha
  obtain ⟨⟨nl', c', sz', rfl, hs'⟩, hlen', hx'⟩ := hb
  apply rForm_call
  repeat first | refine AWp.seq ?_ | refine AWp.block ?_
  refine AWp.ops ?_
  simp
  repeat first | refine AWp.seq ?_ | refine AWp.block ?_
  refine AWp.ops ?_
  simp
  refine (rCells_spec ha').mono ?_
  rintro r H' ⟨rfl, rfl⟩
  simp
  repeat first | refine AWp.seq ?_ | refine AWp.block ?_
  refine AWp.ops ?_
  simp
  refine AWp.cond (b := (cells xs).2 != 0) (by simp) ?_ ?_
  · intro h
    have h : (cells xs).2 ≠ 0 := by simpa using h
    repeat first | refine AWp.seq ?_ | refine AWp.block ?_
    refine AWp.ops ?_
    simp
    refine AWp.ret ?_
    simp
    refine retOk.of rfl ⟨rfl, ?_⟩
    simp [sizesF, h]
  intro h
  have hc : (cells xs).2 = 0 := by simpa using h
  obtain ⟨hxn, hx4⟩ := cells_nonneg' hc
  refine AWp.skip ?_
  simp only [qSeq]
  repeat first | refine AWp.seq ?_ | refine AWp.block ?_
  refine AWp.ops ?_
  simp
  refine (rIs_spec ha' hb' hf hxl).mono ?_
  rintro r H' ⟨rfl, rfl⟩
  rw [isF_read hx4]
  simp
  cases hr : readF xs fs with
  | none =>
    refine AWp.cond (b := true) (by simp) (fun _ => ?_) (fun h => by cases h)
    repeat first | refine AWp.seq ?_ | refine AWp.block ?_
    refine AWp.ops ?_
    simp
    refine AWp.ret ?_
    simp
    refine retOk.of rfl ⟨rfl, ?_⟩
    simp [sizesF, hc, hr]
  | some M =>
    refine AWp.cond (b := false) (by simp) (fun h => by cases h) (fun _ => ?_)
    refine AWp.skip ?_
    simp only [qSeq]
    obtain ⟨hmodes, hblk⟩ := readF_ok hr
    have hblk := hblk fun s hs => (hx' s hs).2.2.2
    have hbl : ∀ s ∈ fs, 0 ≤ blockF fs s.2.1 ∧ blockF fs s.2.1 ≤ 9223372036854775807 := by
      intro s hsm
      obtain ⟨⟨m0, m1⟩, _⟩ := hmodes s hsm
      have hg : readGo xs fs (List.replicate 4 (false, 0)) 0 = some M := by
        unfold readF at hr
        rw [Option.bind_eq_some_iff] at hr
        obtain ⟨M1, h1, h2⟩ := hr
        split at h2
        · cases h2; exact h1
        · cases h2
      obtain ⟨b1, _, _⟩ := readGo_blk fs (by simpa using hx4) hg s.2.1.toNat (by omega)
      have e0 : ((List.replicate 4 ((false, 0) : Bool × Int)).getD s.2.1.toNat (false, 0)).2 = 0 := by
        rw [List.getD, List.getElem?_replicate]
        split <;> rfl
      rw [if_neg (by simpa using e0)] at b1
      have e1 : ((s.2.1.toNat : Nat) : Int) = s.2.1 := by omega
      rw [e1] at b1
      rw [← b1, List.getD]
      cases hgm : M[s.2.1.toNat]? with
      | none => simp
      | some p => exact hblk p (List.mem_of_getElem? hgm)
    have hls := lvl_same hx4 hr
    repeat first | refine AWp.seq ?_ | refine AWp.block ?_
    refine AWp.ops ?_
    simp
    refine (rsizes_spec ha' hb' hf hxn (fun s hs => (hmodes s hs).1) hbl).mono ?_
    rintro r H' ⟨rfl, hl⟩
    rw [← hls] at hl
    obtain ⟨L, hL⟩ : ∃ L, L = fs.map (lvlOf xs M) := ⟨_, rfl⟩
    rw [← hL] at hl
    obtain ⟨⟨nl2, c2, z2, rfl, hz2⟩, hlr⟩ := hl
    have hsz : ∀ {any : Bool}, (L.any fun v => decide (2147483648 < v)) = any → sizesF xs fs = if any = true then ([], 2) else (L, 0) := by
      rintro _ rfl
      simp only [sizesF, hc, ne_eq, not_true_eq_false, if_false, hr, ← hL]
    simp
    obtain ⟨J, hJ⟩ : ∃ J : Nat → List AV → List AObj → Prop, J = fun i fr H => i ≤ L.length ∧ ((L.take i).any (fun v => decide (2147483648 < v)) = false) ∧ H = [] ∧
      fr = [.und, .und, .und, .und, .und, .und, .und, .und, .und, .und, .und, .und, .und, .und, .und, .und, .und, .und, .und, .und, .und, .und, .und, .imm nl2 c2 z2 (L.map I), I L.length, I i, .und, .und, .und, .und, .und, .und] := ⟨_, rfl⟩
    refine AWp.block (AWp.loop J (fun i => L.length - i) 0 (Weak.slots [23, 24, 25]) (by rw [hJ]; exact ⟨by omega, by simp, by simp, by simp⟩) ?_)
    intro i fr H hI
    rw [hJ] at hI
    obtain ⟨hi, hinv, rfl, rfl⟩ := hI
    repeat first | refine AWp.seq ?_ | refine AWp.block ?_
    refine AWp.ops ?_
    simp
    refine AWp.seq (AWp.cond (b := decide (i < L.length)) (by simp <;> omega) ?_ ?_)
    ·
      intro hb
      have hb : i < L.length := by simpa using hb
      refine AWp.skip ?_
      simp only [qSeq]
      have hsz2 := sz_of hz2 hb
      subst hsz2
      have hst : (L.take (i + 1)).any (fun v => decide (2147483648 < v)) = decide (2147483648 < L[i]) := by
        rw [List.take_succ_eq_append_getElem hb, List.any_append, hinv]; simp
      repeat first | refine AWp.seq ?_ | refine AWp.block ?_
      refine AWp.ops ?_
      simp [hb]
      repeat first | refine AWp.seq ?_ | refine AWp.block ?_
      refine AWp.ops ?_
      simp
      refine AWp.cond (b := decide (2147483648 < L[i])) (by simp) ?_ ?_
      · intro h
        repeat first | refine AWp.seq ?_ | refine AWp.block ?_
        refine AWp.ops ?_
        simp
        refine AWp.ret ?_
        simp
        refine retOk.of rfl ⟨rfl, ?_⟩
        have hany : (L.any fun v => decide (2147483648 < v)) = true := List.any_eq_true.2 ⟨L[i], List.getElem_mem hb, h⟩
        rw [hsz hany]
        simp
      · intro h
        refine AWp.skip ?_
        simp only [qSeq, qBlock]
        repeat first | refine AWp.seq ?_ | refine AWp.block ?_
        refine AWp.ops ?_
        simp
        refine ⟨i + 1, _, _, Weak.slots [23, 24, 25], ?_, by omega⟩
        rw [hJ]
        refine ⟨by omega, ?_, by simp, by simp [wrap_i64 (n := (i : Int) + 1) (by omega) (by omega)]⟩
        rw [hst, h]
    ·
      intro hb
      have hb : ¬ i < L.length := by simpa using hb
      refine AWp.exit ?_
      simp [qSeq, qBlock]
      have e : L.take i = L := List.take_of_length_le (by omega)
      rw [e] at hinv
      repeat first | refine AWp.seq ?_ | refine AWp.block ?_
      refine AWp.ops ?_
      simp
      refine AWp.ret ?_
      simp
      refine retOk.of rfl ⟨rfl, ?_⟩
      rw [hsz hinv]
      simp
def rSizes_6 : AC := (.seq (.ops [.m 13 (.t 0), .m 14 (.t 1), .c 15 false (.f 41) [(.t 13), (.t 14)], .m 4 (.t 15), .m 5 (.i 0)]) .ret)
def rSizes_5 : AC := (.seq (.ops [.m 12 (.t 6), .m 4 .z, .m 5 (.t 12)]) .ret)
def rSizes_4 : AC := (.cond (.t 11) rSizes_5 .skip)
def rSizes_3 : AC := (.seq (.ops [.m 10 (.t 6), .o 11 (.bin .neq (.t 10) (.i 0))]) rSizes_4)
def rSizes_2 : AC := (.seq (.ops [.m 7 (.t 0), .m 8 (.t 1), .c 9 false (.f 17) [(.t 7), (.t 8)], .m 6 (.t 9)]) rSizes_3)
def rSizes_1 : AC := (.seq rSizes_2 rSizes_6)
def rSizes_ac : AC := (.seq (.ops [.m 4 .z, .m 5 (.i 0)]) rSizes_1)
theorem rSizes_call {args : List AV} {H : List AObj} {R : AV → List AObj → Prop} (h : AWp Try.prog [] H.length rSizes_ac (bodyQ H.length [(.t 4), (.t 5)] R) (args ++ List.replicate (16 - args.length) .und) H) : ACalls Try.prog 14 args H R :=
  ACalls.of_fn Try.func14 rfl (by kernel_rfl) rfl Try.ntmps14 h
theorem rSizes_spec {a b : AV} {xs : List Int} {fs : List (Int × Int × Int)} (ha : ISl a xs) (hb : Sp b fs) (hf : fs.length ≤ 1000) (hxl : xs.length ≤ 1000) : ACalls Try.prog 14 [a, b] [] fun r H' => H' = [] ∧ ∃ l, r = .tup [l, I (sizesF xs fs).2] ∧ ISl l (sizesF xs fs).1 := by
  have ha' := ha
  have hb' := hb
  obtain ⟨⟨nl, c, sz, rfl, hs⟩, hlen, hx⟩ := ha
  obtain ⟨⟨nl', c', sz', rfl, hs'⟩, hlen', hx'⟩ := hb
  apply rSizes_call
  repeat first | refine AWp.seq ?_ | refine AWp.block ?_
  refine AWp.ops ?_
  simp
  repeat first | refine AWp.seq ?_ | refine AWp.block ?_
  refine AWp.ops ?_
  simp
  refine (rForm_spec ha' hb' hf hxl).mono ?_
  rintro r H' ⟨rfl, rfl⟩
  simp
  repeat first | refine AWp.seq ?_ | refine AWp.block ?_
  refine AWp.ops ?_
  simp
  refine AWp.cond (b := (sizesF xs fs).2 != 0) (by simp) ?_ ?_
  · intro h
    have h : (sizesF xs fs).2 ≠ 0 := by simpa using h
    have h1 : (sizesF xs fs).1 = [] := by
      unfold sizesF at h ⊢
      by_cases hc : (cells xs).2 = 0
      · rw [if_neg (by simpa using hc)] at h ⊢
        cases hr : readF xs fs with
        | none => rfl
        | some M =>
          rw [hr] at h
          simp only at h ⊢
          split at h
          · rename_i hany; rw [if_pos hany]
          · simp at h
      · rw [if_pos hc]
    repeat first | refine AWp.seq ?_ | refine AWp.block ?_
    refine AWp.ops ?_
    simp
    refine AWp.ret ?_
    simp
    refine retOk.of rfl ⟨rfl, ?_⟩
    exact ⟨_, by simp; rfl, by rw [h1]; exact ⟨⟨true, none, 0, rfl, by simp, by simp⟩, by simp, by simp⟩⟩
  intro h
  have h0 : (sizesF xs fs).2 = 0 := by simpa using h
  refine AWp.skip ?_
  simp only [qSeq]
  have hc : (cells xs).2 = 0 := by
    by_cases hc : (cells xs).2 = 0
    · exact hc
    · simp only [sizesF, ne_eq, hc, not_false_eq_true, if_true] at h0
  obtain ⟨hxn, hx4⟩ := cells_nonneg' hc
  cases hr : readF xs fs with
  | none => simp [sizesF, hc, hr] at h0
  | some M =>
    obtain ⟨hmodes, hblk⟩ := readF_ok hr
    have hblk := hblk fun s hs => (hx' s hs).2.2.2
    have hbl : ∀ s ∈ fs, 0 ≤ blockF fs s.2.1 ∧ blockF fs s.2.1 ≤ 9223372036854775807 := by
      intro s hsm
      obtain ⟨⟨m0, m1⟩, _⟩ := hmodes s hsm
      have hg : readGo xs fs (List.replicate 4 (false, 0)) 0 = some M := by
        unfold readF at hr
        rw [Option.bind_eq_some_iff] at hr
        obtain ⟨M1, h1, h2⟩ := hr
        split at h2
        · cases h2; exact h1
        · cases h2
      obtain ⟨b1, _, _⟩ := readGo_blk fs (by simpa using hx4) hg s.2.1.toNat (by omega)
      have e0 : ((List.replicate 4 ((false, 0) : Bool × Int)).getD s.2.1.toNat (false, 0)).2 = 0 := by
        rw [List.getD, List.getElem?_replicate]
        split <;> rfl
      rw [if_neg (by simpa using e0)] at b1
      have e1 : ((s.2.1.toNat : Nat) : Int) = s.2.1 := by omega
      rw [e1] at b1
      rw [← b1, List.getD]
      cases hgm : M[s.2.1.toNat]? with
      | none => simp
      | some p => exact hblk p (List.mem_of_getElem? hgm)
    have hls := lvl_same hx4 hr
    have hS : (sizesF xs fs).1 = fs.map (lvlR xs fs) := by
      by_cases ha : (fs.map (lvlOf xs M)).any (fun v => decide (2147483648 < v)) = true
      · have : sizesF xs fs = ([], 2) := by simp only [sizesF, hc, ne_eq, not_true_eq_false, if_false, hr]; rw [if_pos ha]
        rw [this] at h0; simp at h0
      · have e : sizesF xs fs = (fs.map (lvlOf xs M), 0) := by simp only [sizesF, hc, ne_eq, not_true_eq_false, if_false, hr]; rw [if_neg ha]
        rw [e, ← hls]
    repeat first | refine AWp.seq ?_ | refine AWp.block ?_
    refine AWp.ops ?_
    simp
    refine (rsizes_spec ha' hb' hf hxn (fun s hs => (hmodes s hs).1) hbl).mono ?_
    rintro r H' ⟨rfl, hl⟩
    rw [← hS] at hl
    simp
    refine AWp.ret ?_
    simp
    refine retOk.of rfl ⟨rfl, ?_⟩
    exact ⟨r, by simp [h0], hl⟩
end Go.Fw
