import Derived.Test.YtgdkdojjfijipaaFwcoo6
namespace Go.Fw
open Go Go.RowKit Go.Proofs
set_option maxRecDepth 100000
set_option linter.unusedSimpArgs false
set_option linter.unusedVariables false

/-- How often a number is in a list. -/
def many (O : List Int) (i : Int) : Nat := (O.filter fun m => decide (m = i)).length
@[simp] theorem many_nil (i : Int) : many [] i = 0 := rfl
@[simp] theorem plainL_zero : plainL 0 = [] := rfl
theorem many_snoc (O : List Int) (m i : Int) : many (O ++ [m]) i = many O i + if m = i then 1 else 0 := by
  simp only [many, List.filter_append]
  by_cases h : m = i <;> simp [h]
/-- The document's answer: whether an order is one of so many modes. -/
def rOrd (n : Nat) (O : List Int) : List Int × Bool :=
  if O = [] then (plainL n, true) else if O.length ≠ n then ([], false) else if (List.range n).all (fun i => decide (many O (i : Int) = 1)) = true then (O, true) else ([], false)

def rAhead_12 : AC := (.seq (.ops [⟨(some 24), none, (.k (.mov (.t 0)))⟩, ⟨(some 25), none, (.k (.mov (.t 8)))⟩, ⟨(some 26), none, (.k (.iad 1 (.t 24) (.t 25)))⟩, ⟨(some 27), none, (.k (.ld 1 false (.t 26)))⟩, ⟨(some 28), none, (.k (.mov (.t 1)))⟩, ⟨(some 29), none, (.k (.mov (.t 8)))⟩, ⟨(some 30), none, (.k (.iad 1 (.t 28) (.t 29)))⟩, ⟨(some 31), none, (.k (.ld 1 false (.t 30)))⟩, ⟨(some 32), none, (.k (.bin .lss (.t 27) (.t 31)))⟩, ⟨(some 6), none, (.k (.mov (.t 32)))⟩]) .ret)
def rAhead_11 : AC := (.cond (.t 23) rAhead_12 .skip)
def rAhead_10 : AC := (.seq (.ops [⟨(some 15), none, (.k (.mov (.t 0)))⟩, ⟨(some 16), none, (.k (.mov (.t 8)))⟩, ⟨(some 17), none, (.k (.iad 1 (.t 15) (.t 16)))⟩, ⟨(some 18), none, (.k (.ld 1 false (.t 17)))⟩, ⟨(some 19), none, (.k (.mov (.t 1)))⟩, ⟨(some 20), none, (.k (.mov (.t 8)))⟩, ⟨(some 21), none, (.k (.iad 1 (.t 19) (.t 20)))⟩, ⟨(some 22), none, (.k (.ld 1 false (.t 21)))⟩, ⟨(some 23), none, (.k (.bin .neq (.t 18) (.t 22)))⟩]) rAhead_11)
def rAhead_9 : AC := (.seq (.ops [⟨(some 13), none, (.k (.iad 1 (.t 9) (.t 11)))⟩, ⟨(some 14), none, (.k (.ld 1 false (.t 13)))⟩, ⟨(some 8), none, (.k (.mov (.t 14)))⟩]) rAhead_10)
def rAhead_8 : AC := (.block 1 rAhead_9)
def rAhead_7 : AC := (.seq rAhead_8 (.ops [⟨(some 33), none, (.k (.bin .add (.t 11) (.c (.sc (.int .i64 1)))))⟩, ⟨(some 11), none, (.k (.mov (.t 33)))⟩]))
def rAhead_6 : AC := (.seq (.cond (.t 12) .skip (.exit 0)) rAhead_7)
def rAhead_5 : AC := (.seq (.ops [⟨(some 12), none, (.k (.bin .lss (.t 11) (.t 10)))⟩]) rAhead_6)
def rAhead_4 : AC := (.loop rAhead_5)
def rAhead_3 : AC := (.block 0 rAhead_4)
def rAhead_2 : AC := (.seq (.ops [⟨(some 9), none, (.k (.mov (.t 2)))⟩, ⟨(some 10), none, (.k (.len (.t 9)))⟩, ⟨(some 11), none, (.k (.mov (.c (.sc (.int .i64 0)))))⟩]) rAhead_3)
def rAhead_1 : AC := (.seq rAhead_2 (.seq (.ops [⟨(some 6), none, (.k (.mov (.c (.sc (.bool false)))))⟩]) .ret))
def rAhead_ac : AC := (.seq (.ops [⟨(some 6), none, (.k (.mov (.c (.sc (.bool false)))))⟩]) rAhead_1)
theorem rAhead_call {args : List AV} {H : List AObj} {R : AV → List AObj → Prop} (h : AWp Try.prog [] H.length rAhead_ac (bodyQ H.length [(.t 6)] R) (args ++ List.replicate (34 - args.length) .und) H) : ACalls Try.prog 18 args H R :=
  ACalls.of_fn Try.func18 rfl (by kernel_rfl) rfl Try.ntmps18 h

theorem rAhead_spec {a c q : AV} {A C O : List Int} (ha : ISl a A) (hc : ISl c C) (hq : ISl q O) (hO : O.length ≤ 1000000) (hm : ∀ m ∈ O, 0 ≤ m ∧ m < A.length ∧ m < C.length) :
    ACalls Try.prog 18 [a, c, q] [] fun r H' => H' = [] ∧ r = Bo (decide (cmpO O A C < 0)) := by
  obtain ⟨⟨nl1, c1, sz1, rfl, hs1⟩, hl1, hx1⟩ := ha
  obtain ⟨⟨nl2, c2, sz2, rfl, hs2⟩, hl2, hx2⟩ := hc
  obtain ⟨⟨nl3, c3, sz3, rfl, hs3⟩, hl3, hx3⟩ := hq
  apply rAhead_call
  repeat first | refine AWp.seq ?_ | refine AWp.block ?_
  refine AWp.ops ?_
  simp
  repeat first | refine AWp.seq ?_ | refine AWp.block ?_
  refine AWp.ops ?_
  simp
  obtain ⟨J, hJ⟩ : ∃ J : Nat → List AV → List AObj → Prop, J = fun i fr H => i ≤ O.length ∧ (cmpO O A C = cmpO (O.drop i) A C) ∧ H = [] ∧
    fr = [.imm nl1 c1 sz1 (A.map I), .imm nl2 c2 sz2 (C.map I), .und, .und, .und, .und, .und, .und, .und, .imm nl3 c3 sz3 (O.map I), I O.length, I i, .und, .und, .und, .und, .und, .und, .und, .und, .und, .und, .und, .und, .und, .und, .und, .und, .und, .und, .und, .und, .und, .und] := ⟨_, rfl⟩
  refine AWp.block (AWp.loop J (fun i => O.length - i) 0 (Weak.slots [0, 1, 9, 10, 11]) (by rw [hJ]; exact ⟨by omega, rfl, by simp, by simp⟩) ?_)
  intro i fr H hI
  rw [hJ] at hI
  obtain ⟨hi, hinv, rfl, rfl⟩ := hI
  repeat first | refine AWp.seq ?_ | refine AWp.block ?_
  refine AWp.ops ?_
  simp
  refine AWp.seq (AWp.cond (b := decide (i < O.length)) (by simp <;> omega) ?_ ?_)
  ·
    intro hb
    have hb : i < O.length := by simpa using hb
    refine AWp.skip ?_
    simp only [qSeq]
    have hsz := sz_of hs3 hb
    subst hsz
    have hmi := hm O[i] (List.getElem_mem hb)
    rw [List.drop_eq_getElem_cons hb] at hinv
    simp only [cmpO] at hinv
    have hwi := wrap_i64 (n := (i : Int) + 1) (by omega) (by omega)
    obtain ⟨m, hmm⟩ : ∃ m : Nat, O[i] = m := ⟨O[i].toNat, by omega⟩
    rw [hmm] at hmi hinv
    simp only [Int.toNat_natCast] at hinv
    have g1 : m < A.length := by omega
    have g2 : m < C.length := by omega
    have hsz1 := sz_of hs1 g1
    have hsz2 := sz_of hs2 g2
    subst hsz1 hsz2
    have e1 : A.getD m 0 = A[m] := by simp [g1]
    have e2 : C.getD m 0 = C[m] := by simp [g2]
    simp only [e1, e2] at hinv
    repeat first | refine AWp.seq ?_ | refine AWp.block ?_
    refine AWp.ops ?_
    simp [hb, hmm]
    repeat first | refine AWp.seq ?_ | refine AWp.block ?_
    refine AWp.ops ?_
    simp [hb, hmm, g1, g2]
    by_cases h : A[m] = C[m]
    · refine AWp.cond (b := false) (by simp [h]) (fun h => by cases h) (fun _ => ?_)
      refine AWp.skip ?_
      simp only [qSeq, qBlock]
      repeat first | refine AWp.seq ?_ | refine AWp.block ?_
      refine AWp.ops ?_
      simp [hwi]
      refine ⟨i + 1, _, _, Weak.slots [0, 1, 9, 10, 11], ?_, by omega⟩
      rw [hJ]
      refine ⟨by omega, ?_, by simp, by simp [wrap_i64 (n := (i : Int) + 1) (by omega) (by omega)]⟩
      rw [hinv, if_neg (by omega), if_neg (by omega)]
    · refine AWp.cond (b := true) (by simp [h]) (fun _ => ?_) (fun h => by cases h)
      repeat first | refine AWp.seq ?_ | refine AWp.block ?_
      refine AWp.ops ?_
      simp [g1, g2]
      refine AWp.ret ?_
      simp
      refine retOk.of rfl ⟨rfl, ?_⟩
      rw [hinv]
      by_cases h1 : A[m] < C[m]
      · simp [h1]
      · rw [if_neg h1, if_pos (by omega)]
        simp [h1]
  ·
    intro hb
    have hb : ¬ i < O.length := by simpa using hb
    refine AWp.exit ?_
    simp [qSeq, qBlock]
    rw [List.drop_eq_nil_of_le (by omega)] at hinv
    repeat first | refine AWp.seq ?_ | refine AWp.block ?_
    refine AWp.ops ?_
    simp
    refine AWp.ret ?_
    simp
    refine retOk.of rfl ⟨rfl, ?_⟩
    rw [hinv]
    simp [cmpO]

def rOrder_41 : AC := (.seq (.ops [⟨(some 48), none, (.k (.mov (.t 1)))⟩, ⟨(some 4), none, (.k (.mov (.t 48)))⟩, ⟨(some 5), none, (.k (.mov (.c (.sc (.bool true)))))⟩]) .ret)
def rOrder_40 : AC := (.cond (.t 46) (.seq (.ops [⟨(some 4), none, (.k (.mov (.c (.imm true none 0 []))))⟩, ⟨(some 5), none, (.k (.mov (.c (.sc (.bool false)))))⟩]) .ret) .skip)
def rOrder_39 : AC := (.seq (.ops [⟨(some 45), none, (.k (.mov (.t 9)))⟩, ⟨(some 46), none, (.k (.bin .neq (.t 45) (.c (.sc (.int .i64 1)))))⟩]) rOrder_40)
def rOrder_38 : AC := (.cond (.t 41) (.ops [⟨(some 42), none, (.k (.mov (.t 9)))⟩, ⟨(some 43), none, (.k (.bin .add (.t 42) (.c (.sc (.int .i64 1)))))⟩, ⟨(some 9), none, (.k (.mov (.t 43)))⟩]) .skip)
def rOrder_37 : AC := (.seq (.ops [⟨(some 39), none, (.k (.mov (.t 11)))⟩, ⟨(some 40), none, (.k (.mov (.t 8)))⟩, ⟨(some 41), none, (.k (.bin .eql (.t 39) (.t 40)))⟩]) rOrder_38)
def rOrder_36 : AC := (.seq (.ops [⟨(some 37), none, (.k (.iad 1 (.t 33) (.t 35)))⟩, ⟨(some 38), none, (.k (.ld 1 false (.t 37)))⟩, ⟨(some 11), none, (.k (.mov (.t 38)))⟩]) rOrder_37)
def rOrder_35 : AC := (.block 5 rOrder_36)
def rOrder_34 : AC := (.seq rOrder_35 (.ops [⟨(some 44), none, (.k (.bin .add (.t 35) (.c (.sc (.int .i64 1)))))⟩, ⟨(some 35), none, (.k (.mov (.t 44)))⟩]))
def rOrder_33 : AC := (.seq (.cond (.t 36) .skip (.exit 4)) rOrder_34)
def rOrder_32 : AC := (.seq (.ops [⟨(some 36), none, (.k (.bin .lss (.t 35) (.t 34)))⟩]) rOrder_33)
def rOrder_31 : AC := (.loop rOrder_32)
def rOrder_30 : AC := (.block 4 rOrder_31)
def rOrder_29 : AC := (.seq (.ops [⟨(some 33), none, (.k (.mov (.t 1)))⟩, ⟨(some 34), none, (.k (.len (.t 33)))⟩, ⟨(some 35), none, (.k (.mov (.c (.sc (.int .i64 0)))))⟩]) rOrder_30)
def rOrder_28 : AC := (.seq rOrder_29 rOrder_39)
def rOrder_27 : AC := (.seq (.ops [⟨(some 9), none, (.k (.mov (.c (.sc (.int .i64 0)))))⟩]) rOrder_28)
def rOrder_26 : AC := (.seq (.ops [⟨(some 32), none, (.k (.mov (.t 30)))⟩, ⟨(some 8), none, (.k (.mov (.t 32)))⟩]) rOrder_27)
def rOrder_25 : AC := (.block 3 rOrder_26)
def rOrder_24 : AC := (.seq rOrder_25 (.ops [⟨(some 47), none, (.k (.bin .add (.t 30) (.c (.sc (.int .i64 1)))))⟩, ⟨(some 30), none, (.k (.mov (.t 47)))⟩]))
def rOrder_23 : AC := (.seq (.cond (.t 31) .skip (.exit 2)) rOrder_24)
def rOrder_22 : AC := (.seq (.ops [⟨(some 31), none, (.k (.bin .lss (.t 30) (.t 29)))⟩]) rOrder_23)
def rOrder_21 : AC := (.loop rOrder_22)
def rOrder_20 : AC := (.block 2 rOrder_21)
def rOrder_19 : AC := (.seq (.ops [⟨(some 29), none, (.k (.mov (.t 0)))⟩, ⟨(some 30), none, (.k (.mov (.c (.sc (.int .i64 0)))))⟩]) rOrder_20)
def rOrder_18 : AC := (.seq rOrder_19 rOrder_41)
def rOrder_17 : AC := (.cond (.t 28) (.seq (.ops [⟨(some 4), none, (.k (.mov (.c (.imm true none 0 []))))⟩, ⟨(some 5), none, (.k (.mov (.c (.sc (.bool false)))))⟩]) .ret) .skip)
def rOrder_16 : AC := (.seq (.ops [⟨(some 25), none, (.k (.mov (.t 1)))⟩, ⟨(some 26), none, (.k (.len (.t 25)))⟩, ⟨(some 27), none, (.k (.mov (.t 0)))⟩, ⟨(some 28), none, (.k (.bin .neq (.t 26) (.t 27)))⟩]) rOrder_17)
def rOrder_15 : AC := (.seq rOrder_16 rOrder_18)
def rOrder_14 : AC := (.seq (.ops [⟨(some 24), none, (.k (.mov (.t 6)))⟩, ⟨(some 4), none, (.k (.mov (.t 24)))⟩, ⟨(some 5), none, (.k (.mov (.c (.sc (.bool true)))))⟩]) .ret)
def rOrder_13 : AC := (.seq (.ops [⟨(some 18), none, (.k (.mov (.t 16)))⟩, ⟨(some 7), none, (.k (.mov (.t 18)))⟩]) (.ops [⟨(some 19), none, (.k (.mov (.t 6)))⟩, ⟨(some 20), none, (.k (.mov (.t 7)))⟩, ⟨(some 21), none, (.k (.lit 1 [(.t 20)]))⟩, ⟨(some 22), none, (.k (.app 3 1 8 (.t 19) (.t 21)))⟩, ⟨(some 6), none, (.k (.mov (.t 22)))⟩]))
def rOrder_12 : AC := (.block 1 rOrder_13)
def rOrder_11 : AC := (.seq rOrder_12 (.ops [⟨(some 23), none, (.k (.bin .add (.t 16) (.c (.sc (.int .i64 1)))))⟩, ⟨(some 16), none, (.k (.mov (.t 23)))⟩]))
def rOrder_10 : AC := (.seq (.cond (.t 17) .skip (.exit 0)) rOrder_11)
def rOrder_9 : AC := (.seq (.ops [⟨(some 17), none, (.k (.bin .lss (.t 16) (.t 15)))⟩]) rOrder_10)
def rOrder_8 : AC := (.loop rOrder_9)
def rOrder_7 : AC := (.block 0 rOrder_8)
def rOrder_6 : AC := (.seq (.ops [⟨(some 15), none, (.k (.mov (.t 0)))⟩, ⟨(some 16), none, (.k (.mov (.c (.sc (.int .i64 0)))))⟩]) rOrder_7)
def rOrder_5 : AC := (.seq rOrder_6 rOrder_14)
def rOrder_4 : AC := (.seq (.ops [⟨(some 6), none, (.k (.mov (.c (.imm true none 0 []))))⟩]) rOrder_5)
def rOrder_3 : AC := (.cond (.t 14) rOrder_4 .skip)
def rOrder_2 : AC := (.seq (.ops [⟨(some 12), none, (.k (.mov (.t 1)))⟩, ⟨(some 13), none, (.k (.len (.t 12)))⟩, ⟨(some 14), none, (.k (.bin .eql (.t 13) (.c (.sc (.int .i64 0)))))⟩]) rOrder_3)
def rOrder_1 : AC := (.seq rOrder_2 rOrder_15)
def rOrder_ac : AC := (.seq (.ops [⟨(some 4), none, (.k (.mov (.c (.imm true none 0 []))))⟩, ⟨(some 5), none, (.k (.mov (.c (.sc (.bool false)))))⟩]) rOrder_1)
theorem rOrder_call {args : List AV} {H : List AObj} {R : AV → List AObj → Prop} (h : AWp Try.prog [] H.length rOrder_ac (bodyQ H.length [(.t 4), (.t 5)] R) (args ++ List.replicate (49 - args.length) .und) H) : ACalls Try.prog 17 args H R :=
  ACalls.of_fn Try.func17 rfl (by kernel_rfl) rfl Try.ntmps17 h

set_option maxHeartbeats 4000000 in
theorem rOrder_spec {o : AV} {O : List Int} {n : Nat} (ho : ISl o O) (hO : O.length ≤ 1000000) (hn : n ≤ 1000) : ACalls Try.prog 17 [I n, o] [] fun r H' => H' = [] ∧ ∃ q, r = .tup [q, Bo (rOrd n O).2] ∧ ISl q (rOrd n O).1 := by
  have ho' := ho
  obtain ⟨⟨nl3, c3, sz3, rfl, hs3⟩, hl3, hx3⟩ := ho
  have base : ACalls Try.prog 17 [I n, .imm nl3 c3 sz3 (O.map I)] [] fun r G => (∃ vr, (vr = some true → n = 0) ∧ vr ≠ some false ∧ r = .tup [.slc 0 n 0 n none, Bo true] ∧ rOrd n O = (plainL n, true) ∧ G[0]? = some ⟨3, 1, (plainL n).map I, true, vr⟩) ∨
      (r = .tup [.imm true none 0 [], Bo false] ∧ rOrd n O = ([], false)) ∨ (r = .tup [.imm nl3 c3 sz3 (O.map I), Bo true] ∧ rOrd n O = (O, true)) := by
    apply rOrder_call
    repeat first | refine AWp.seq ?_ | refine AWp.block ?_
    refine AWp.ops ?_
    simp
    repeat first | refine AWp.seq ?_ | refine AWp.block ?_
    refine AWp.ops ?_
    simp
    by_cases hO0 : O = []
    · have hr : rOrd n O = (plainL n, true) := by rw [rOrd, if_pos hO0]
      refine AWp.cond (b := true) (by simp [hO0]) (fun _ => ?_) (fun h => by cases h)
      repeat first | refine AWp.seq ?_ | refine AWp.block ?_
      refine AWp.ops ?_
      simp
      refine AWp.weak (Weak.own 6 3 1 (by omega) none 0 (by simp)) ?_
      simp
      repeat first | refine AWp.seq ?_ | refine AWp.block ?_
      refine AWp.ops ?_
      simp
      obtain ⟨J, hJ⟩ : ∃ J : Nat → List AV → List AObj → Prop, J = fun i fr H => i ≤ n ∧ ∃ (vr : Option Bool), ((vr = some true → i = 0) ∧ vr ≠ some false) ∧ H = [⟨3, 1, (plainL i).map I, true, vr⟩] ∧
        fr = [.und, .und, .und, .und, .und, .und, .slc 0 i 0 i none, .und, .und, .und, .und, .und, .und, .und, .und, I n, I i, .und, .und, .und, .und, .und, .und, .und, .und, .und, .und, .und, .und, .und, .und, .und, .und, .und, .und, .und, .und, .und, .und, .und, .und, .und, .und, .und, .und, .und, .und, .und, .und] := ⟨_, rfl⟩
      refine AWp.block (AWp.loop J (fun i => n - i) 0 (Weak.slots [6, 15, 16]) (by rw [hJ]; exact ⟨by omega, some true, ⟨by simp, by simp⟩, by simp, by simp⟩) ?_)
      intro i fr H hI
      rw [hJ] at hI
      obtain ⟨hi, vr, hinv, rfl, rfl⟩ := hI
      repeat first | refine AWp.seq ?_ | refine AWp.block ?_
      refine AWp.ops ?_
      simp
      refine AWp.seq (AWp.cond (b := decide (i < n)) (by simp <;> omega) ?_ ?_)
      ·
        intro hb
        have hb : i < n := by simpa using hb
        refine AWp.skip ?_
        simp only [qSeq]
        obtain ⟨hv1, hv2⟩ := hinv
        have b1 : (i + 1) * 8 ≤ 140737488355328 := by omega
        have b2 : i + 1 ≤ 9223372036854775807 := by omega
        have hwi := wrap_i64 (n := (i : Int) + 1) (by omega) (by omega)
        have hp : plainL (i + 1) = plainL i ++ [(i : Int)] := by simp [plainL, List.range_succ]
        repeat first | refine AWp.seq ?_ | refine AWp.block ?_
        refine AWp.ops ?_
        simp
        repeat first | refine AWp.seq ?_ | refine AWp.block ?_
        refine AWp.ops ?_
        simp [b1, b2, elems]
        repeat first | refine AWp.seq ?_ | refine AWp.block ?_
        refine AWp.ops ?_
        simp [hwi]
        refine ⟨i + 1, _, _, Weak.slots [6, 15, 16], ?_, by omega⟩
        rw [hJ]
        exact ⟨by omega, none, ⟨by simp, by simp⟩, by simp [hp], by simp⟩
      ·
        intro hb
        have hb : ¬ i < n := by simpa using hb
        refine AWp.exit ?_
        simp [qSeq, qBlock]
        obtain ⟨hv1, hv2⟩ := hinv
        have hin : i = n := by omega
        subst hin
        repeat first | refine AWp.seq ?_ | refine AWp.block ?_
        refine AWp.ops ?_
        simp
        refine AWp.ret ?_
        simp
        refine retOk.of rfl (.inl ⟨vr, hv1, hv2, by simp, hr, rfl⟩)
    · have hOp : 0 < O.length := List.length_pos_iff.2 hO0
      refine AWp.cond (b := false) (by simp; exact hO0) (fun h => by cases h) (fun _ => ?_)
      refine AWp.skip ?_
      simp only [qSeq]
      repeat first | refine AWp.seq ?_ | refine AWp.block ?_
      refine AWp.ops ?_
      simp
      by_cases hlen : O.length = n
      case neg =>
        have hr : rOrd n O = ([], false) := by rw [rOrd, if_neg hO0, if_pos hlen]
        refine AWp.cond (b := true) (by simp; omega) (fun _ => ?_) (fun h => by cases h)
        repeat first | refine AWp.seq ?_ | refine AWp.block ?_
        refine AWp.ops ?_
        simp
        refine AWp.ret ?_
        simp
        refine retOk.of rfl (.inr (.inl ⟨by simp, hr⟩))
      refine AWp.cond (b := false) (by simp; omega) (fun h => by cases h) (fun _ => ?_)
      have hr : rOrd n O = if (List.range n).all (fun i => decide (many O (i : Int) = 1)) = true then (O, true) else ([], false) := by rw [rOrd, if_neg hO0, if_neg (by omega)]
      refine AWp.skip ?_
      simp only [qSeq]
      repeat first | refine AWp.seq ?_ | refine AWp.block ?_
      refine AWp.ops ?_
      simp
      obtain ⟨J, hJ⟩ : ∃ J : Nat → List AV → List AObj → Prop, J = fun i fr H => i ≤ n ∧ (∀ k, k < i → many O (k : Int) = 1) ∧ H = [] ∧
        fr = [.und, .imm nl3 c3 sz3 (O.map I), .und, .und, .und, .und, .und, .und, .und, .und, .und, .und, .und, .und, .und, .und, .und, .und, .und, .und, .und, .und, .und, .und, .und, .und, .und, .und, .und, I n, I i, .und, .und, .und, .und, .und, .und, .und, .und, .und, .und, .und, .und, .und, .und, .und, .und, .und, .und] := ⟨_, rfl⟩
      refine AWp.block (AWp.loop J (fun i => n - i) 0 (Weak.slots [1, 29, 30]) (by rw [hJ]; exact ⟨by omega, fun k hk => by omega, by simp, by simp⟩) ?_)
      intro i fr H hI
      rw [hJ] at hI
      obtain ⟨hi, hinv, rfl, rfl⟩ := hI
      repeat first | refine AWp.seq ?_ | refine AWp.block ?_
      refine AWp.ops ?_
      simp
      refine AWp.seq (AWp.cond (b := decide (i < n)) (by simp <;> omega) ?_ ?_)
      ·
        intro hb
        have hb : i < n := by simpa using hb
        refine AWp.skip ?_
        simp only [qSeq]
        have hwi := wrap_i64 (n := (i : Int) + 1) (by omega) (by omega)
        repeat first | refine AWp.seq ?_ | refine AWp.block ?_
        refine AWp.ops ?_
        simp
        repeat first | refine AWp.seq ?_ | refine AWp.block ?_
        refine AWp.ops ?_
        simp
        repeat first | refine AWp.seq ?_ | refine AWp.block ?_
        refine AWp.ops ?_
        simp
        obtain ⟨J2, hJ2⟩ : ∃ J : Nat → List AV → List AObj → Prop, J = fun i2 fr H => i2 ≤ O.length ∧ (True) ∧ H = [] ∧
          fr = [.und, .imm nl3 c3 sz3 (O.map I), .und, .und, .und, .und, .und, .und, I i, I (many (O.take i2) (i : Int)), .und, .und, .und, .und, .und, .und, .und, .und, .und, .und, .und, .und, .und, .und, .und, .und, .und, .und, .und, I n, I i, .und, .und, .imm nl3 c3 sz3 (O.map I), I O.length, I i2, .und, .und, .und, .und, .und, .und, .und, .und, .und, .und, .und, .und, .und] := ⟨_, rfl⟩
        refine AWp.block (AWp.loop J2 (fun i2 => O.length - i2) 0 (Weak.slots [1, 8, 9, 29, 30, 33, 34, 35]) (by rw [hJ2]; exact ⟨by omega, trivial, by simp, by simp⟩) ?_)
        intro i2 fr H hI
        rw [hJ2] at hI
        obtain ⟨hi2, hinv2, rfl, rfl⟩ := hI
        repeat first | refine AWp.seq ?_ | refine AWp.block ?_
        refine AWp.ops ?_
        simp
        refine AWp.seq (AWp.cond (b := decide (i2 < O.length)) (by simp <;> omega) ?_ ?_)
        · intro hb2
          have hb2 : i2 < O.length := by simpa using hb2
          refine AWp.skip ?_
          simp only [qSeq]
          have hsz := sz_of hs3 hb2
          subst hsz
          have hwi2 := wrap_i64 (n := (i2 : Int) + 1) (by omega) (by omega)
          have hxt : many (O.take (i2 + 1)) (i : Int) = many (O.take i2) (i : Int) + if O[i2] = (i : Int) then 1 else 0 := by
            rw [List.take_succ_eq_append_getElem hb2, many_snoc]
          have hml : many (O.take i2) (i : Int) ≤ i2 := by
            have := List.length_filter_le (fun m => decide (m = (i : Int))) (O.take i2)
            simp only [List.length_take] at this
            simp only [many]; omega
          have hwm := wrap_i64 (n := (many (O.take i2) (i : Int) : Int) + 1) (by omega) (by omega)
          repeat first | refine AWp.seq ?_ | refine AWp.block ?_
          refine AWp.ops ?_
          simp [hb2]
          repeat first | refine AWp.seq ?_ | refine AWp.block ?_
          refine AWp.ops ?_
          simp
          by_cases h : O[i2] = (i : Int)
          · refine AWp.cond (b := true) (by simp [h]) (fun _ => ?_) (fun h => by cases h)
            rw [if_pos h] at hxt
            repeat first | refine AWp.seq ?_ | refine AWp.block ?_
            refine AWp.ops ?_
            simp [hwm]
            repeat first | refine AWp.seq ?_ | refine AWp.block ?_
            refine AWp.ops ?_
            simp [hwi2]
            refine ⟨i2 + 1, _, _, Weak.slots [1, 8, 9, 29, 30, 33, 34, 35], ?_, by omega⟩
            rw [hJ2]
            exact ⟨by omega, trivial, rfl, by simp [hxt]⟩
          · refine AWp.cond (b := false) (by simp [h]) (fun h => by cases h) (fun _ => ?_)
            rw [if_neg h, Nat.add_zero] at hxt
            refine AWp.skip ?_
            simp only [qSeq, qBlock]
            repeat first | refine AWp.seq ?_ | refine AWp.block ?_
            refine AWp.ops ?_
            simp [hwi2]
            refine ⟨i2 + 1, _, _, Weak.slots [1, 8, 9, 29, 30, 33, 34, 35], ?_, by omega⟩
            rw [hJ2]
            exact ⟨by omega, trivial, rfl, by simp [hxt]⟩
        · intro hb2
          have hb2 : ¬ i2 < O.length := by simpa using hb2
          refine AWp.exit ?_
          simp [qSeq, qBlock]
          rw [List.take_of_length_le (by omega)]
          repeat first | refine AWp.seq ?_ | refine AWp.block ?_
          refine AWp.ops ?_
          simp
          by_cases h : many O (i : Int) = 1
          · refine AWp.cond (b := false) (by simp [h]) (fun h => by cases h) (fun _ => ?_)
            refine AWp.skip ?_
            simp only [qSeq, qBlock]
            repeat first | refine AWp.seq ?_ | refine AWp.block ?_
            refine AWp.ops ?_
            simp [hwi]
            refine ⟨i + 1, _, _, Weak.slots [1, 29, 30], ?_, by omega⟩
            rw [hJ]
            refine ⟨by omega, ?_, by simp, by simp [wrap_i64 (n := (i : Int) + 1) (by omega) (by omega)]⟩
            intro k hk
            by_cases e : k = i
            · subst e; exact h
            · exact hinv k (by omega)
          · refine AWp.cond (b := true) (by simp; omega) (fun _ => ?_) (fun h => by cases h)
            repeat first | refine AWp.seq ?_ | refine AWp.block ?_
            refine AWp.ops ?_
            simp
            refine AWp.ret ?_
            simp
            refine retOk.of rfl (.inr (.inl ⟨by simp, ?_⟩))
            rw [hr, if_neg]
            intro ha
            have := List.all_eq_true.1 ha i (List.mem_range.2 hb)
            exact h (by simpa using this)
      ·
        intro hb
        have hb : ¬ i < n := by simpa using hb
        refine AWp.exit ?_
        simp [qSeq, qBlock]
        have hall : (List.range n).all (fun i => decide (many O (i : Int) = 1)) = true := by
          rw [List.all_eq_true]
          intro k hk
          have := hinv k (by have := List.mem_range.1 hk; omega)
          simp [this]
        repeat first | refine AWp.seq ?_ | refine AWp.block ?_
        refine AWp.ops ?_
        simp
        refine AWp.ret ?_
        simp
        refine retOk.of rfl (.inr (.inr ⟨by simp, by rw [hr, if_pos hall]⟩))
  refine (base.frozen 3).mono ?_
  rintro q H' ⟨rfl, r, G, ⟨vr, h1, h2, rfl, h3, h4⟩ | ⟨rfl, h2⟩ | ⟨rfl, h2⟩, rfl⟩
  · rw [h3]
    have hI : InI (plainL n) := ⟨by simp; omega, fun x hx => by
      have := plainL_mem hx
      omega⟩
    match vr, h1, h2 with
    | none, _, _ =>
      refine ⟨rfl, _, by simp; rfl, ?_⟩
      simp [h4]
      exact ISl.of _ hI.1 hI.2
    | some true, h1, _ =>
      have h0 := h1 rfl
      subst h0
      refine ⟨rfl, _, by simp; rfl, ?_⟩
      simp [h4]
      exact ⟨⟨true, none, 1, by simp [plainL], by simp [plainL], by simp⟩, hI⟩
    | some false, _, h => exact absurd rfl h
  · rw [h2]
    exact ⟨rfl, .imm true none 0 [], by simp, ISl.nil⟩
  · rw [h2]
    exact ⟨rfl, _, by simp; rfl, by simpa using ho'⟩
end Go.Fw
