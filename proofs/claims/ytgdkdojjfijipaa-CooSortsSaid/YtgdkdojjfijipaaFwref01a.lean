import Derived.Test.YtgdkdojjfijipaaFwbox3
namespace Go.Fw
open Go Go.RowKit Go.Proofs
set_option maxRecDepth 100000
set_option linter.unusedSimpArgs false
set_option linter.unusedVariables false

def rEqual_12 : AC := (.seq (.ops [⟨(some 16), none, (.k (.mov (.t 0)))⟩, ⟨(some 17), none, (.k (.mov (.t 5)))⟩, ⟨(some 18), none, (.k (.iad 1 (.t 16) (.t 17)))⟩, ⟨(some 19), none, (.k (.ld 1 false (.t 18)))⟩, ⟨(some 20), none, (.k (.mov (.t 1)))⟩, ⟨(some 21), none, (.k (.mov (.t 5)))⟩, ⟨(some 22), none, (.k (.iad 1 (.t 20) (.t 21)))⟩, ⟨(some 23), none, (.k (.ld 1 false (.t 22)))⟩, ⟨(some 24), none, (.k (.bin .neq (.t 19) (.t 23)))⟩]) (.cond (.t 24) (.seq (.ops [⟨(some 4), none, (.k (.mov (.c (.sc (.bool false)))))⟩]) .ret) .skip))
def rEqual_11 : AC := (.seq (.ops [⟨(some 15), none, (.k (.mov (.t 13)))⟩, ⟨(some 5), none, (.k (.mov (.t 15)))⟩]) rEqual_12)
def rEqual_10 : AC := (.block 1 rEqual_11)
def rEqual_9 : AC := (.seq rEqual_10 (.ops [⟨(some 25), none, (.k (.bin .add (.t 13) (.c (.sc (.int .i64 1)))))⟩, ⟨(some 13), none, (.k (.mov (.t 25)))⟩]))
def rEqual_8 : AC := (.seq (.cond (.t 14) .skip (.exit 0)) rEqual_9)
def rEqual_7 : AC := (.seq (.ops [⟨(some 14), none, (.k (.bin .lss (.t 13) (.t 12)))⟩]) rEqual_8)
def rEqual_6 : AC := (.loop rEqual_7)
def rEqual_5 : AC := (.block 0 rEqual_6)
def rEqual_4 : AC := (.seq (.ops [⟨(some 11), none, (.k (.mov (.t 0)))⟩, ⟨(some 12), none, (.k (.len (.t 11)))⟩, ⟨(some 13), none, (.k (.mov (.c (.sc (.int .i64 0)))))⟩]) rEqual_5)
def rEqual_3 : AC := (.seq rEqual_4 (.seq (.ops [⟨(some 4), none, (.k (.mov (.c (.sc (.bool true)))))⟩]) .ret))
def rEqual_2 : AC := (.seq (.ops [⟨(some 6), none, (.k (.mov (.t 0)))⟩, ⟨(some 7), none, (.k (.len (.t 6)))⟩, ⟨(some 8), none, (.k (.mov (.t 1)))⟩, ⟨(some 9), none, (.k (.len (.t 8)))⟩, ⟨(some 10), none, (.k (.bin .neq (.t 7) (.t 9)))⟩]) (.cond (.t 10) (.seq (.ops [⟨(some 4), none, (.k (.mov (.c (.sc (.bool false)))))⟩]) .ret) .skip))
def rEqual_1 : AC := (.seq rEqual_2 rEqual_3)
def rEqual_ac : AC := (.seq (.ops [⟨(some 4), none, (.k (.mov (.c (.sc (.bool false)))))⟩]) rEqual_1)
theorem rEqual_call {args : List AV} {H : List AObj} {R : AV → List AObj → Prop} (h : AWp Try.prog [] H.length rEqual_ac (bodyQ H.length [(.t 4)] R) (args ++ List.replicate (26 - args.length) .und) H) : ACalls Try.prog 41 args H R :=
  ACalls.of_fn Try.func41 rfl (by kernel_rfl) rfl Try.ntmps41 h

theorem rEqual_spec {a b : AV} {xs ys : List Int} (ha : ISl a xs) (hb : ISl b ys) : ACalls Try.prog 41 [a, b] [] fun r H' => H' = [] ∧ r = Bo (decide (xs = ys)) := by
  obtain ⟨⟨nl, c, sz, rfl, hs⟩, hlen, hx⟩ := ha
  obtain ⟨⟨nl', c', sz', rfl, hs'⟩, hlen', hx'⟩ := hb
  apply rEqual_call
  repeat first | refine AWp.seq ?_ | refine AWp.block ?_
  refine AWp.ops ?_
  simp
  repeat first | refine AWp.seq ?_ | refine AWp.block ?_
  refine AWp.ops ?_
  simp
  refine AWp.cond (b := (xs.length : Int) != ys.length) (by simp) ?_ ?_
  · intro h
    repeat first | refine AWp.seq ?_ | refine AWp.block ?_
    refine AWp.ops ?_
    simp
    refine AWp.ret ?_
    simp
    refine retOk.of rfl ⟨rfl, ?_⟩
    have h : ¬ (xs.length : Int) = ys.length := by simpa using h
    have : xs ≠ ys := fun e => h (by rw [e])
    simp [this]
  intro h
  have hl : xs.length = ys.length := by
    have : (xs.length : Int) = ys.length := by simpa using h
    omega
  refine AWp.skip ?_
  simp only [qSeq]
  repeat first | refine AWp.seq ?_ | refine AWp.block ?_
  refine AWp.ops ?_
  simp
  obtain ⟨J, hJ⟩ : ∃ J : Nat → List AV → List AObj → Prop, J = fun i fr H => i ≤ xs.length ∧ (xs.take i = ys.take i) ∧ H = [] ∧
    fr = [AV.imm nl c sz (xs.map I), AV.imm nl' c' sz' (ys.map I), .und, .und, Bo false, .und, .und, .und, .und, .und, .und, .und, I xs.length, I i, .und, .und, .und, .und, .und, .und, .und, .und, .und, .und, .und, .und] := ⟨_, rfl⟩
  refine AWp.block (AWp.loop J (fun i => xs.length - i) 0 (Weak.slots [0, 1, 4, 12, 13]) (by rw [hJ]; exact ⟨by omega, rfl, by simp, by simp⟩) ?_)
  intro i fr H hI
  rw [hJ] at hI
  obtain ⟨hi, hinv, rfl, rfl⟩ := hI
  repeat first | refine AWp.seq ?_ | refine AWp.block ?_
  refine AWp.ops ?_
  simp
  refine AWp.seq (AWp.cond (b := decide (i < xs.length)) (by simp <;> omega) ?_ ?_)
  ·
    intro hb
    have hb : i < xs.length := by simpa using hb
    refine AWp.skip ?_
    simp only [qSeq]
    have hb' : i < ys.length := by omega
    have hsz := sz_of hs hb
    have hsz' := sz_of hs' hb'
    subst hsz hsz'
    refine AWp.seq (AWp.block (AWp.seq (AWp.ops ?_)))
    simp
    repeat first | refine AWp.seq ?_ | refine AWp.block ?_
    refine AWp.ops ?_
    simp [hb, hb']
    refine AWp.cond (b := xs[i] != ys[i]) (by simp) ?_ ?_
    · intro he
      have he : ¬ xs[i] = ys[i] := by simpa using he
      repeat first | refine AWp.seq ?_ | refine AWp.block ?_
      refine AWp.ops ?_
      simp
      refine AWp.ret ?_
      simp
      refine retOk.of rfl ⟨rfl, ?_⟩
      have : xs ≠ ys := by rintro rfl; exact he rfl
      simp [this]
    · intro he
      have he : xs[i] = ys[i] := by simpa using he
      refine AWp.skip ?_
      simp only [qSeq, qBlock]
      refine AWp.ops ?_
      simp
      refine ⟨i + 1, _, _, Weak.slots [0, 1, 4, 12, 13], ?_, by omega⟩
      rw [hJ]
      refine ⟨by omega, ?_, by simp, by simp [wrap_i64 (n := (i : Int) + 1) (by omega) (by omega)]⟩
      rw [List.take_succ_eq_append_getElem hb, List.take_succ_eq_append_getElem hb', hinv, he]
  ·
    intro hb
    have hb : ¬ i < xs.length := by simpa using hb
    refine AWp.exit ?_
    simp [qSeq, qBlock]
    repeat first | refine AWp.seq ?_ | refine AWp.block ?_
    refine AWp.ops ?_
    simp
    refine AWp.ret ?_
    simp
    refine retOk.of rfl ⟨rfl, ?_⟩
    rw [List.take_of_length_le (by omega), List.take_of_length_le (by omega)] at hinv
    simp [hinv]

def rCells_33 : AC := (.seq (.ops [⟨(some 42), none, (.k (.mov (.t 7)))⟩, ⟨(some 2), none, (.k (.mov (.t 42)))⟩, ⟨(some 3), none, (.k (.mov (.c (.sc (.int .i64 0)))))⟩]) .ret)
def rCells_32 : AC := (.cond (.t 37) (.seq (.ops [⟨(some 2), none, (.k (.mov (.c (.sc (.int .i64 0)))))⟩, ⟨(some 3), none, (.k (.mov (.c (.sc (.int .i64 2)))))⟩]) .ret) .skip)
def rCells_31 : AC := (.seq (.ops [⟨(some 34), none, (.k (.mov (.t 9)))⟩, ⟨(some 35), none, (.k (.mov (.t 7)))⟩, ⟨(some 36), none, (.k (.bin .quo (.c (.sc (.int .i64 4611686018427387903))) (.t 35)))⟩, ⟨(some 37), none, (.k (.bin .gtr (.t 34) (.t 36)))⟩]) rCells_32)
def rCells_30 : AC := (.seq rCells_31 (.ops [⟨(some 38), none, (.k (.mov (.t 7)))⟩, ⟨(some 39), none, (.k (.mov (.t 9)))⟩, ⟨(some 40), none, (.k (.bin .mul (.t 38) (.t 39)))⟩, ⟨(some 7), none, (.k (.mov (.t 40)))⟩]))
def rCells_29 : AC := (.seq (.ops [⟨(some 32), none, (.k (.iad 1 (.t 28) (.t 30)))⟩, ⟨(some 33), none, (.k (.ld 1 false (.t 32)))⟩, ⟨(some 9), none, (.k (.mov (.t 33)))⟩]) rCells_30)
def rCells_28 : AC := (.block 3 rCells_29)
def rCells_27 : AC := (.seq rCells_28 (.ops [⟨(some 41), none, (.k (.bin .add (.t 30) (.c (.sc (.int .i64 1)))))⟩, ⟨(some 30), none, (.k (.mov (.t 41)))⟩]))
def rCells_26 : AC := (.seq (.cond (.t 31) .skip (.exit 2)) rCells_27)
def rCells_25 : AC := (.seq (.ops [⟨(some 31), none, (.k (.bin .lss (.t 30) (.t 29)))⟩]) rCells_26)
def rCells_24 : AC := (.loop rCells_25)
def rCells_23 : AC := (.block 2 rCells_24)
def rCells_22 : AC := (.seq (.ops [⟨(some 28), none, (.k (.mov (.t 0)))⟩, ⟨(some 29), none, (.k (.len (.t 28)))⟩, ⟨(some 30), none, (.k (.mov (.c (.sc (.int .i64 0)))))⟩]) rCells_23)
def rCells_21 : AC := (.seq rCells_22 rCells_33)
def rCells_20 : AC := (.seq (.ops [⟨(some 7), none, (.k (.mov (.c (.sc (.int .i64 1)))))⟩]) rCells_21)
def rCells_19 : AC := (.cond (.t 27) (.seq (.ops [⟨(some 2), none, (.k (.mov (.c (.sc (.int .i64 0)))))⟩, ⟨(some 3), none, (.k (.mov (.c (.sc (.int .i64 0)))))⟩]) .ret) .skip)
def rCells_18 : AC := (.seq (.ops [⟨(some 27), none, (.k (.mov (.t 4)))⟩]) rCells_19)
def rCells_17 : AC := (.seq rCells_18 rCells_20)
def rCells_16 : AC := (.cond (.t 20) (.seq (.ops [⟨(some 2), none, (.k (.mov (.c (.sc (.int .i64 0)))))⟩, ⟨(some 3), none, (.k (.mov (.c (.sc (.int .i64 1)))))⟩]) .ret) .skip)
def rCells_15 : AC := (.seq (.ops [⟨(some 19), none, (.k (.mov (.t 6)))⟩, ⟨(some 20), none, (.k (.bin .lss (.t 19) (.c (.sc (.int .i64 0)))))⟩]) rCells_16)
def rCells_14 : AC := (.seq rCells_15 (.ops [⟨(some 21), none, (.k (.mov (.t 4)))⟩, ⟨(some 22), none, (.k (.mov (.t 21)))⟩, ⟨(some 23), (some (22, false)), (.k (.mov (.t 6)))⟩, ⟨(some 24), (some (22, false)), (.k (.bin .eql (.t 23) (.c (.sc (.int .i64 0)))))⟩, ⟨(some 25), none, (.k (.pick (.t 22) (.c (.sc (.bool true))) (.t 24)))⟩, ⟨(some 4), none, (.k (.mov (.t 25)))⟩]))
def rCells_13 : AC := (.seq (.ops [⟨(some 17), none, (.k (.iad 1 (.t 13) (.t 15)))⟩, ⟨(some 18), none, (.k (.ld 1 false (.t 17)))⟩, ⟨(some 6), none, (.k (.mov (.t 18)))⟩]) rCells_14)
def rCells_12 : AC := (.block 1 rCells_13)
def rCells_11 : AC := (.seq rCells_12 (.ops [⟨(some 26), none, (.k (.bin .add (.t 15) (.c (.sc (.int .i64 1)))))⟩, ⟨(some 15), none, (.k (.mov (.t 26)))⟩]))
def rCells_10 : AC := (.seq (.cond (.t 16) .skip (.exit 0)) rCells_11)
def rCells_9 : AC := (.seq (.ops [⟨(some 16), none, (.k (.bin .lss (.t 15) (.t 14)))⟩]) rCells_10)
def rCells_8 : AC := (.loop rCells_9)
def rCells_7 : AC := (.block 0 rCells_8)
def rCells_6 : AC := (.seq (.ops [⟨(some 13), none, (.k (.mov (.t 0)))⟩, ⟨(some 14), none, (.k (.len (.t 13)))⟩, ⟨(some 15), none, (.k (.mov (.c (.sc (.int .i64 0)))))⟩]) rCells_7)
def rCells_5 : AC := (.seq rCells_6 rCells_17)
def rCells_4 : AC := (.seq (.ops [⟨(some 4), none, (.k (.mov (.c (.sc (.bool false)))))⟩]) rCells_5)
def rCells_3 : AC := (.cond (.t 12) (.seq (.ops [⟨(some 2), none, (.k (.mov (.c (.sc (.int .i64 0)))))⟩, ⟨(some 3), none, (.k (.mov (.c (.sc (.int .i64 1)))))⟩]) .ret) .skip)
def rCells_2 : AC := (.seq (.ops [⟨(some 10), none, (.k (.mov (.t 0)))⟩, ⟨(some 11), none, (.k (.len (.t 10)))⟩, ⟨(some 12), none, (.k (.bin .gtr (.t 11) (.c (.sc (.int .i64 4)))))⟩]) rCells_3)
def rCells_1 : AC := (.seq rCells_2 rCells_4)
def rCells_ac : AC := (.seq (.ops [⟨(some 2), none, (.k (.mov (.c (.sc (.int .i64 0)))))⟩, ⟨(some 3), none, (.k (.mov (.c (.sc (.int .i64 0)))))⟩]) rCells_1)
theorem rCells_call {args : List AV} {H : List AObj} {R : AV → List AObj → Prop} (h : AWp Try.prog [] H.length rCells_ac (bodyQ H.length [(.t 2), (.t 3)] R) (args ++ List.replicate (43 - args.length) .und) H) : ACalls Try.prog 56 args H R :=
  ACalls.of_fn Try.func56 rfl (by kernel_rfl) rfl Try.ntmps56 h

theorem rCells_spec {a : AV} {xs : List Int} (ha : ISl a xs) : ACalls Try.prog 56 [a] [] fun r H' => H' = [] ∧ r = .tup [I (cells xs).1, I (cells xs).2] := by
  obtain ⟨⟨nl, c, sz, rfl, hs⟩, hlen, hx⟩ := ha
  apply rCells_call
  repeat first | refine AWp.seq ?_ | refine AWp.block ?_
  refine AWp.ops ?_
  simp
  repeat first | refine AWp.seq ?_ | refine AWp.block ?_
  refine AWp.ops ?_
  simp
  refine AWp.cond (b := decide (4 < (xs.length : Int))) (by simp) ?_ ?_
  · intro h
    have h : 4 < (xs.length : Int) := by simpa using h
    repeat first | refine AWp.seq ?_ | refine AWp.block ?_
    refine AWp.ops ?_
    simp
    refine AWp.ret ?_
    simp
    refine retOk.of rfl ⟨rfl, ?_⟩
    have : xs.length > 4 := by omega
    simp [cells, this]
  intro h
  have h4 : ¬ xs.length > 4 := by
    have : ¬ 4 < (xs.length : Int) := by simpa using h
    omega
  refine AWp.skip ?_
  simp only [qSeq]
  repeat first | refine AWp.seq ?_ | refine AWp.block ?_
  refine AWp.ops ?_
  simp
  refine AWp.cutp (∀ x ∈ xs, 0 ≤ x) [AV.imm nl c sz (xs.map I), .und, I 0, I 0, Bo (decide (0 ∈ xs)), .und, .und, .und, .und, .und, .und, .und, .und, .und, .und, .und, .und, .und, .und, .und, .und, .und, .und, .und, .und, .und, .und, .und, .und, .und, .und, .und, .und, .und, .und, .und, .und, .und, .und, .und, .und, .und, .und] [] ?_ ?_
  ·
    repeat first | refine AWp.seq ?_ | refine AWp.block ?_
    refine AWp.ops ?_
    simp
    obtain ⟨J, hJ⟩ : ∃ J : Nat → List AV → List AObj → Prop, J = fun i fr H => i ≤ xs.length ∧ (∀ x ∈ xs.take i, 0 ≤ x) ∧ H = [] ∧
      fr = [AV.imm nl c sz (xs.map I), .und, I 0, I 0, Bo (decide (0 ∈ xs.take i)), .und, .und, .und, .und, .und, .und, .und, .und, AV.imm nl c sz (xs.map I), I xs.length, I i, .und, .und, .und, .und, .und, .und, .und, .und, .und, .und, .und, .und, .und, .und, .und, .und, .und, .und, .und, .und, .und, .und, .und, .und, .und, .und, .und] := ⟨_, rfl⟩
    refine AWp.block (AWp.loop J (fun i => xs.length - i) 0 (Weak.slots [0, 2, 3, 4, 13, 14, 15]) (by rw [hJ]; exact ⟨by omega, by simp, by simp, by simp⟩) ?_)
    intro i fr H hI
    rw [hJ] at hI
    obtain ⟨hi, hinv, rfl, rfl⟩ := hI
    repeat first | refine AWp.seq ?_ | refine AWp.block ?_
    refine AWp.ops ?_
    simp
    refine AWp.seq (AWp.cond (b := decide (i < xs.length)) (by simp <;> omega) ?_ ?_)
    ·
      intro hb
      have hb : i < xs.length := by simpa using hb
      refine AWp.skip ?_
      simp only [qSeq]
      have hsz := sz_of hs hb
      subst hsz
      refine AWp.seq (AWp.block (AWp.seq (AWp.ops ?_)))
      simp [hb]
      repeat first | refine AWp.seq ?_ | refine AWp.block ?_
      refine AWp.ops ?_
      simp
      refine AWp.cond (b := decide (xs[i] < 0)) (by simp) ?_ ?_
      · intro he
        have he : xs[i] < 0 := by simpa using he
        repeat first | refine AWp.seq ?_ | refine AWp.block ?_
        refine AWp.ops ?_
        simp
        refine AWp.ret ?_
        simp
        refine retOk.of rfl ⟨rfl, ?_⟩
        have : (xs.any fun x => decide (x < 0)) = true := by
          rw [List.any_eq_true]
          exact ⟨xs[i], List.getElem_mem hb, by simpa using he⟩
        simp [cells, this]
      · intro he
        have he : ¬ xs[i] < 0 := by simpa using he
        refine AWp.skip ?_
        simp only [qSeq]
        refine AWp.ops ?_
        have hmem : 0 ∈ xs.take (i + 1) ↔ 0 ∈ xs.take i ∨ xs[i] = 0 := by
          rw [List.take_succ_eq_append_getElem hb, List.mem_append, List.mem_singleton, eq_comm (a := (0 : Int))]
        have hpos : ∀ x ∈ xs.take (i + 1), 0 ≤ x := by
          intro x hm
          rw [List.take_succ_eq_append_getElem hb] at hm
          rcases List.mem_append.1 hm with h | h
          · exact hinv x h
          · simp at h; omega
        by_cases hz : 0 ∈ xs.take i
        · simp [hz]
          refine AWp.ops ?_
          simp
          refine ⟨i + 1, _, _, Weak.slots [0, 2, 3, 4, 13, 14, 15], ?_, by omega⟩
          rw [hJ]
          exact ⟨by omega, hpos, rfl, by simp [hmem, hz, wrap_i64 (n := (i : Int) + 1) (by omega) (by omega)]⟩
        · simp [hz]
          refine AWp.ops ?_
          simp
          refine ⟨i + 1, _, _, Weak.slots [0, 2, 3, 4, 13, 14, 15], ?_, by omega⟩
          rw [hJ]
          refine ⟨by omega, hpos, rfl, ?_⟩
          have hd : decide (0 ∈ xs.take (i + 1)) = (xs[i] == 0) := by
            rw [Bool.eq_iff_iff]; simp [hmem, hz]
          simp [hd, wrap_i64 (n := (i : Int) + 1) (by omega) (by omega)]
    ·
      intro hb
      have hb : ¬ i < xs.length := by simpa using hb
      refine AWp.exit ?_
      simp [qSeq, qBlock]
      have hxt : xs.take i = xs := List.take_of_length_le (by omega)
      rw [hxt] at hinv
      exact ⟨hinv, (Weak.slots [0, 2, 3, 4]).to (by simp [hxt]) rfl⟩
  intro hpos
  have hn : (xs.any fun x => decide (x < 0)) = false := by simpa using hpos
  have hc : cells xs = if 0 ∈ xs then (0, 0) else mulAll xs 1 := by
    unfold cells
    rw [if_neg]
    rintro (h | h)
    · omega
    · rw [hn] at h; cases h
  rw [hc]
  repeat first | refine AWp.seq ?_ | refine AWp.block ?_
  refine AWp.ops ?_
  simp
  refine AWp.cond (b := decide (0 ∈ xs)) (by simp) ?_ ?_
  · intro h
    have h : 0 ∈ xs := by simpa using h
    repeat first | refine AWp.seq ?_ | refine AWp.block ?_
    refine AWp.ops ?_
    simp
    refine AWp.ret ?_
    simp
    refine retOk.of rfl ⟨rfl, ?_⟩
    simp [h]
  intro h0
  have h0 : ¬ 0 ∈ xs := by simpa using h0
  refine AWp.skip ?_
  simp only [qSeq]
  rw [if_neg h0]
  repeat first | refine AWp.seq ?_ | refine AWp.block ?_
  refine AWp.ops ?_
  simp
  repeat first | refine AWp.seq ?_ | refine AWp.block ?_
  refine AWp.ops ?_
  simp
  obtain ⟨J, hJ⟩ : ∃ J : Nat → List AV → List AObj → Prop, J = fun i fr H => i ≤ xs.length ∧ ∃ (N : Nat), (1 ≤ N ∧ N < 4611686018427387904 ∧ mulAll xs 1 = mulAll (xs.drop i) N) ∧ H = [] ∧
    fr = [AV.imm nl c sz (xs.map I), .und, I 0, I 0, .und, .und, .und, I N, .und, .und, .und, .und, .und, .und, .und, .und, .und, .und, .und, .und, .und, .und, .und, .und, .und, .und, .und, .und, AV.imm nl c sz (xs.map I), I xs.length, I i, .und, .und, .und, .und, .und, .und, .und, .und, .und, .und, .und, .und] := ⟨_, rfl⟩
  refine AWp.block (AWp.loop J (fun i => xs.length - i) 0 (Weak.slots [0, 2, 3, 7, 28, 29, 30]) (by rw [hJ]; exact ⟨by omega, 1, ⟨by omega, by omega, rfl⟩, by simp, by simp⟩) ?_)
  intro i fr H hI
  rw [hJ] at hI
  obtain ⟨hi, N, hinv, rfl, rfl⟩ := hI
  repeat first | refine AWp.seq ?_ | refine AWp.block ?_
  refine AWp.ops ?_
  simp
  refine AWp.seq (AWp.cond (b := decide (i < xs.length)) (by simp <;> omega) ?_ ?_)
  ·
    intro hb
    have hb : i < xs.length := by simpa using hb
    refine AWp.skip ?_
    simp only [qSeq]
    obtain ⟨hN1, hN2, hm⟩ := hinv
    have hsz := sz_of hs hb
    subst hsz
    refine AWp.seq (AWp.block (AWp.seq (AWp.ops ?_)))
    simp [hb]
    have hxi := hx xs[i] (List.getElem_mem hb)
    have hxp := hpos xs[i] (List.getElem_mem hb)
    have hx0 : xs[i] ≠ 0 := fun e => h0 (by rw [← e]; exact List.getElem_mem hb)
    rw [List.drop_eq_getElem_cons hb] at hm
    obtain ⟨S, hS⟩ : ∃ S : Nat, xs[i] = (S : Int) := ⟨xs[i].toNat, by omega⟩
    rw [hS] at hm hxi hxp hx0
    simp only [hS]
    have hN0 : ¬ N = 0 := by omega
    obtain ⟨D, hD, hD1, hiff⟩ : ∃ D : Nat, (4611686018427387903 : Int) / (N : Int) = D ∧ D ≤ 4611686018427387903 ∧ (D < S ↔ N * S ≥ 4611686018427387904) := by
      refine ⟨4611686018427387903 / N, (Int.natCast_ediv 4611686018427387903 N).symm, Nat.div_le_self _ _, ?_⟩
      rw [Nat.div_lt_iff_lt_mul (by omega), Nat.mul_comm]; omega
    have hw := wrap_i64 (n := (D : Int)) (by omega) (by omega)
    refine AWp.seq (AWp.seq (AWp.ops ?_))
    have hT : (4611686018427387903 : Int).tdiv N = D := by rw [Int.tdiv_eq_ediv_of_nonneg (by omega), hD]
    simp [hN0, hT, hw]
    refine AWp.cond (b := decide (D < S)) (by simp) ?_ ?_
    · intro h
      have h : D < S := by simpa using h
      repeat first | refine AWp.seq ?_ | refine AWp.block ?_
      refine AWp.ops ?_
      simp
      refine AWp.ret ?_
      simp
      refine retOk.of rfl ⟨rfl, ?_⟩
      rw [hm]
      simp only [mulAll]
      rw [if_pos (by rw [← Int.natCast_mul]; have := hiff.1 h; omega)]
      simp
    · intro h
      have h : ¬ D < S := by simpa using h
      have hNS : N * S < 4611686018427387904 := by
        have : ¬ N * S ≥ 4611686018427387904 := fun e => h (hiff.2 e)
        omega
      have hNS1 : 1 ≤ N * S := Nat.mul_pos (by omega) (by omega)
      have hw2 := wrap_i64 (n := (N : Int) * S) (by rw [← Int.natCast_mul]; omega) (by rw [← Int.natCast_mul]; omega)
      refine AWp.skip ?_
      simp only [qSeq]
      refine AWp.ops ?_
      simp [hw2]
      refine AWp.ops ?_
      simp
      refine ⟨i + 1, _, _, Weak.slots [0, 2, 3, 7, 28, 29, 30], ?_, by omega⟩
      rw [hJ]
      refine ⟨by omega, N * S, ?_, by simp, by simp [wrap_i64 (n := (i : Int) + 1) (by omega) (by omega)]⟩
      refine ⟨hNS1, hNS, ?_⟩
      rw [hm]
      simp only [mulAll]
      rw [if_neg (by rw [← Int.natCast_mul]; omega), Int.natCast_mul]
  ·
    intro hb
    have hb : ¬ i < xs.length := by simpa using hb
    refine AWp.exit ?_
    simp [qSeq, qBlock]
    repeat first | refine AWp.seq ?_ | refine AWp.block ?_
    refine AWp.ops ?_
    simp
    refine AWp.ret ?_
    simp
    refine retOk.of rfl ⟨rfl, ?_⟩
    rw [hinv.2.2, List.drop_eq_nil_of_le (by omega)]
    simp [mulAll]
end Go.Fw
