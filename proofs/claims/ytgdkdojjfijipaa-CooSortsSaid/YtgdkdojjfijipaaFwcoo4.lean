import Derived.Test.YtgdkdojjfijipaaFwento1
import Derived.Test.YtgdkdojjfijipaaFwmsort1
namespace Go.Fw
open Go Go.RowKit Go.Proofs
set_option maxRecDepth 100000
set_option linter.unusedSimpArgs false
set_option linter.unusedVariables false

/-- How two places stand, by an order. -/
def cmpO : List Int → List Int → List Int → Int
  | [], _, _ => 0
  | m :: O, a, c => if a.getD m.toNat 0 < c.getD m.toNat 0 then -1 else if a.getD m.toNat 0 > c.getD m.toNat 0 then 1 else cmpO O a c
theorem cmpO_rng : ∀ (O a c : List Int), -1 ≤ cmpO O a c ∧ cmpO O a c ≤ 1
  | [], _, _ => by simp [cmpO]
  | m :: O, a, c => by
    simp only [cmpO]
    split
    · omega
    · split
      · omega
      · exact cmpO_rng O a c
theorem cmpO_neg : ∀ (O a c : List Int), cmpO O c a = -cmpO O a c
  | [], _, _ => by simp [cmpO]
  | m :: O, a, c => by
    simp only [cmpO]
    have := cmpO_neg O a c
    generalize a.getD m.toNat 0 = x
    generalize c.getD m.toNat 0 = y
    by_cases h1 : x < y
    · rw [if_pos h1, if_neg (by omega), if_pos (by omega)]; rfl
    · by_cases h2 : x > y
      · have h3 : y < x := h2
        simp only [if_pos h3, if_neg h1, gt_iff_lt]
      · rw [if_neg h1, if_neg h2, if_neg (by omega), if_neg (by omega)]; exact this
theorem cmpO_trans : ∀ (O : List Int) {a b c : List Int}, cmpO O a b ≤ 0 → cmpO O b c ≤ 0 → cmpO O a c ≤ 0
  | [], _, _, _, _, _ => by simp [cmpO]
  | m :: O, a, b, c, h1, h2 => by
    simp only [cmpO] at h1 h2 ⊢
    generalize a.getD m.toNat 0 = x at *
    generalize b.getD m.toNat 0 = y at *
    generalize c.getD m.toNat 0 = z at *
    by_cases e1 : x < y
    · by_cases e2 : y < z
      · rw [if_pos (by omega)]; omega
      · rw [if_neg e2] at h2
        by_cases e3 : y > z
        · rw [if_pos e3] at h2; omega
        · rw [if_pos (by omega)]; omega
    · rw [if_neg e1] at h1
      by_cases e2 : x > y
      · rw [if_pos e2] at h1; omega
      · rw [if_neg e2] at h1
        by_cases e3 : y < z
        · rw [if_pos (by omega)]; omega
        · rw [if_neg e3] at h2
          by_cases e4 : y > z
          · rw [if_pos e4] at h2; omega
          · rw [if_neg e4] at h2
            rw [if_neg (by omega), if_neg (by omega)]
            exact cmpO_trans O h1 h2
/-- Entries in order. -/
def leO (O : List Int) (x y : List Int × Int) : Bool := decide (cmpO O x.1 y.1 ≤ 0)
theorem leO_trans (O : List Int) : ∀ a b c, leO O a b = true → leO O b c = true → leO O a c = true := fun a b c h1 h2 => by
  simp only [leO, decide_eq_true_eq] at *
  exact cmpO_trans O h1 h2
theorem leO_total (O : List Int) : ∀ a b, (leO O a b || leO O b a) = true := fun a b => by
  simp only [leO, Bool.or_eq_true, decide_eq_true_eq]
  have := cmpO_neg O a.1 b.1
  omega

def isNaN_1 : AC := (.seq (.ops [⟨(some 3), none, (.k (.mov (.t 0)))⟩, ⟨(some 4), none, (.k (.mov (.t 0)))⟩, ⟨(some 5), none, (.k (.bin .neq (.t 3) (.t 4)))⟩, ⟨(some 2), none, (.k (.mov (.t 5)))⟩]) .ret)
def isNaN_ac : AC := (.seq (.ops [⟨(some 2), none, (.k (.mov (.c (.sc (.bool false)))))⟩]) isNaN_1)
theorem isNaN_call {args : List AV} {H : List AObj} {R : AV → List AObj → Prop} (h : AWp Try.prog [] H.length isNaN_ac (bodyQ H.length [(.t 2)] R) (args ++ List.replicate (6 - args.length) .und) H) : ACalls Try.prog 76 args H R :=
  ACalls.of_fn Try.func76 rfl (by kernel_rfl) rfl Try.ntmps76 h

theorem isNaN_spec (x : Int) : ACalls Try.prog 76 [I x] [] fun r H' => H' = [] ∧ r = Bo false := by
  apply isNaN_call
  repeat first | refine AWp.seq ?_ | refine AWp.block ?_
  refine AWp.ops ?_
  simp
  repeat first | refine AWp.seq ?_ | refine AWp.block ?_
  refine AWp.ops ?_
  simp
  refine AWp.ret ?_
  simp
  refine retOk.of rfl ⟨rfl, by simp⟩

def Cmp_13 : AC := (.seq (.ops [⟨(some 17), none, (.k (.mov (.t 0)))⟩, ⟨(some 18), none, (.k (.mov (.t 1)))⟩, ⟨(some 19), none, (.k (.bin .gtr (.t 17) (.t 18)))⟩]) (.cond (.t 19) (.seq (.ops [⟨(some 4), none, (.k (.mov (.c (.sc (.int .i64 1)))))⟩]) .ret) .skip))
def Cmp_12 : AC := (.seq Cmp_13 (.seq (.ops [⟨(some 4), none, (.k (.mov (.c (.sc (.int .i64 0)))))⟩]) .ret))
def Cmp_11 : AC := (.seq (.ops [⟨(some 14), none, (.k (.mov (.t 0)))⟩, ⟨(some 15), none, (.k (.mov (.t 1)))⟩, ⟨(some 16), none, (.k (.bin .lss (.t 14) (.t 15)))⟩]) (.cond (.t 16) (.seq (.ops [⟨(some 4), none, (.k (.mov (.c (.sc (.int .i64 (-1))))))⟩]) .ret) .skip))
def Cmp_10 : AC := (.seq Cmp_11 Cmp_12)
def Cmp_9 : AC := (.seq (.ops [⟨(some 13), none, (.k (.mov (.t 6)))⟩]) (.cond (.t 13) (.seq (.ops [⟨(some 4), none, (.k (.mov (.c (.sc (.int .i64 1)))))⟩]) .ret) .skip))
def Cmp_8 : AC := (.seq Cmp_9 Cmp_10)
def Cmp_7 : AC := (.seq (.ops [⟨(some 12), none, (.k (.mov (.t 6)))⟩]) (.cond (.t 12) (.seq (.ops [⟨(some 4), none, (.k (.mov (.c (.sc (.int .i64 0)))))⟩]) .ret) .skip))
def Cmp_6 : AC := (.seq Cmp_7 (.seq (.ops [⟨(some 4), none, (.k (.mov (.c (.sc (.int .i64 (-1))))))⟩]) .ret))
def Cmp_5 : AC := (.cond (.t 11) Cmp_6 .skip)
def Cmp_4 : AC := (.seq (.ops [⟨(some 11), none, (.k (.mov (.t 5)))⟩]) Cmp_5)
def Cmp_3 : AC := (.seq Cmp_4 Cmp_8)
def Cmp_2 : AC := (.seq (.ops [⟨(some 9), none, (.k (.mov (.t 1)))⟩, ⟨(some 10), none, (.call false (.c (.fn (.func 76) [] [])) [(.t 9)])⟩, ⟨(some 6), none, (.k (.mov (.t 10)))⟩]) Cmp_3)
def Cmp_1 : AC := (.seq (.ops [⟨(some 7), none, (.k (.mov (.t 0)))⟩, ⟨(some 8), none, (.call false (.c (.fn (.func 76) [] [])) [(.t 7)])⟩, ⟨(some 5), none, (.k (.mov (.t 8)))⟩]) Cmp_2)
def Cmp_ac : AC := (.seq (.ops [⟨(some 4), none, (.k (.mov (.c (.sc (.int .i64 0)))))⟩]) Cmp_1)
theorem Cmp_call {args : List AV} {H : List AObj} {R : AV → List AObj → Prop} (h : AWp Try.prog [] H.length Cmp_ac (bodyQ H.length [(.t 4)] R) (args ++ List.replicate (20 - args.length) .und) H) : ACalls Try.prog 48 args H R :=
  ACalls.of_fn Try.func48 rfl (by kernel_rfl) rfl Try.ntmps48 h

theorem Cmp_spec (x y : Int) : ACalls Try.prog 48 [I x, I y] [] fun r H' => H' = [] ∧ r = I (if x < y then -1 else if x > y then 1 else 0) := by
  apply Cmp_call
  repeat first | refine AWp.seq ?_ | refine AWp.block ?_
  refine AWp.ops ?_
  simp
  repeat first | refine AWp.seq ?_ | refine AWp.block ?_
  refine AWp.ops ?_
  simp
  refine (isNaN_spec x).mono ?_
  rintro r H' ⟨rfl, rfl⟩
  simp
  repeat first | refine AWp.seq ?_ | refine AWp.block ?_
  refine AWp.ops ?_
  simp
  refine (isNaN_spec y).mono ?_
  rintro r H' ⟨rfl, rfl⟩
  simp
  repeat first | refine AWp.seq ?_ | refine AWp.block ?_
  refine AWp.ops ?_
  simp
  refine AWp.cond (b := false) (by simp) (fun h => by cases h) (fun _ => ?_)
  refine AWp.skip ?_
  simp only [qSeq]
  repeat first | refine AWp.seq ?_ | refine AWp.block ?_
  refine AWp.ops ?_
  simp
  refine AWp.cond (b := false) (by simp) (fun h => by cases h) (fun _ => ?_)
  refine AWp.skip ?_
  simp only [qSeq]
  repeat first | refine AWp.seq ?_ | refine AWp.block ?_
  refine AWp.ops ?_
  simp
  by_cases h1 : x < y
  · refine AWp.cond (b := true) (by simp [h1]) (fun _ => ?_) (fun h => by cases h)
    repeat first | refine AWp.seq ?_ | refine AWp.block ?_
    refine AWp.ops ?_
    simp
    refine AWp.ret ?_
    simp
    refine retOk.of rfl ⟨rfl, by simp [h1]⟩
  refine AWp.cond (b := false) (by simp [h1]) (fun h => by cases h) (fun _ => ?_)
  refine AWp.skip ?_
  simp only [qSeq]
  repeat first | refine AWp.seq ?_ | refine AWp.block ?_
  refine AWp.ops ?_
  simp
  by_cases h2 : x > y
  · refine AWp.cond (b := true) (by simp; omega) (fun _ => ?_) (fun h => by cases h)
    repeat first | refine AWp.seq ?_ | refine AWp.block ?_
    refine AWp.ops ?_
    simp
    refine AWp.ret ?_
    simp
    refine retOk.of rfl ⟨rfl, by simp [h1, h2]⟩
  refine AWp.cond (b := false) (by simp; omega) (fun h => by cases h) (fun _ => ?_)
  refine AWp.skip ?_
  simp only [qSeq]
  repeat first | refine AWp.seq ?_ | refine AWp.block ?_
  refine AWp.ops ?_
  simp
  refine AWp.ret ?_
  simp
  refine retOk.of rfl ⟨rfl, by simp [h1, h2]⟩

def less_11 : AC := (.seq (.ops [⟨(some 26), none, (.k (.mov (.t 8)))⟩, ⟨(some 27), none, (.k (.bin .neq (.t 26) (.c (.sc (.int .i64 0)))))⟩]) (.cond (.t 27) (.seq (.ops [⟨(some 28), none, (.k (.mov (.t 8)))⟩, ⟨(some 5), none, (.k (.mov (.t 28)))⟩]) .ret) .skip))
def less_10 : AC := (.seq (.ops [⟨(some 15), none, (.k (.fad 0 (.t 3)))⟩, ⟨(some 16), none, (.k (.ld 1 false (.t 15)))⟩, ⟨(some 17), none, (.k (.mov (.t 7)))⟩, ⟨(some 18), none, (.k (.iad 1 (.t 16) (.t 17)))⟩, ⟨(some 19), none, (.k (.ld 1 false (.t 18)))⟩, ⟨(some 20), none, (.k (.fad 0 (.t 4)))⟩, ⟨(some 21), none, (.k (.ld 1 false (.t 20)))⟩, ⟨(some 22), none, (.k (.mov (.t 7)))⟩, ⟨(some 23), none, (.k (.iad 1 (.t 21) (.t 22)))⟩, ⟨(some 24), none, (.k (.ld 1 false (.t 23)))⟩, ⟨(some 25), none, (.call true (.c (.fn (.func 48) [] [])) [(.t 19), (.t 24)])⟩, ⟨(some 8), none, (.k (.mov (.t 25)))⟩]) less_11)
def less_9 : AC := (.seq (.ops [⟨(some 13), none, (.k (.iad 1 (.t 9) (.t 11)))⟩, ⟨(some 14), none, (.k (.ld 1 false (.t 13)))⟩, ⟨(some 7), none, (.k (.mov (.t 14)))⟩]) less_10)
def less_8 : AC := (.block 1 less_9)
def less_7 : AC := (.seq less_8 (.ops [⟨(some 29), none, (.k (.bin .add (.t 11) (.c (.sc (.int .i64 1)))))⟩, ⟨(some 11), none, (.k (.mov (.t 29)))⟩]))
def less_6 : AC := (.seq (.cond (.t 12) .skip (.exit 0)) less_7)
def less_5 : AC := (.seq (.ops [⟨(some 12), none, (.k (.bin .lss (.t 11) (.t 10)))⟩]) less_6)
def less_4 : AC := (.loop less_5)
def less_3 : AC := (.block 0 less_4)
def less_2 : AC := (.seq (.ops [⟨(some 9), none, (.k (.ld 1 false (.t 2)))⟩, ⟨(some 10), none, (.k (.len (.t 9)))⟩, ⟨(some 11), none, (.k (.mov (.c (.sc (.int .i64 0)))))⟩]) less_3)
def less_1 : AC := (.seq less_2 (.seq (.ops [⟨(some 5), none, (.k (.mov (.c (.sc (.int .i64 0)))))⟩]) .ret))
def less_ac : AC := (.seq (.ops [⟨(some 3), none, (.k (.new 38 2 (.t 0)))⟩, ⟨(some 4), none, (.k (.new 38 2 (.t 1)))⟩, ⟨(some 5), none, (.k (.mov (.c (.sc (.int .i64 0)))))⟩]) less_1)
theorem less_call {args : List AV} {H : List AObj} {R : AV → List AObj → Prop} (h : AWp Try.prog [] H.length less_ac (bodyQ H.length [(.t 5)] R) (args ++ List.replicate (30 - args.length) .und) H) : ACalls Try.prog 47 args H R :=
  ACalls.of_fn Try.func47 rfl (by kernel_rfl) rfl Try.ntmps47 h

set_option maxHeartbeats 2000000 in
/-- How two entries stand. -/
theorem less_spec {a c q : AV} {A C O : List Int} {v w : Int} (ha : ISl a A) (hc : ISl c C) (hq : ISl q O) (hO : O.length ≤ 1000000) (hm : ∀ m ∈ O, 0 ≤ m ∧ m < A.length ∧ m < C.length) :
    ACalls Try.prog 47 [.agg [a, I v], .agg [c, I w], .ipt q 0] [] fun r H' => H' = [] ∧ r = I (cmpO O A C) := by
  obtain ⟨⟨nl1, c1, sz1, rfl, hs1⟩, hl1, hx1⟩ := ha
  obtain ⟨⟨nl2, c2, sz2, rfl, hs2⟩, hl2, hx2⟩ := hc
  obtain ⟨⟨nl3, c3, sz3, rfl, hs3⟩, hl3, hx3⟩ := hq
  have base : ACalls Try.prog 47 [.agg [.imm nl1 c1 sz1 (A.map I), I v], .agg [.imm nl2 c2 sz2 (C.map I), I w], .ipt (.imm nl3 c3 sz3 (O.map I)) 0] [] fun r H' => r = I (cmpO O A C) := by
    apply less_call
    repeat first | refine AWp.seq ?_ | refine AWp.block ?_
    refine AWp.ops ?_
    simp
    repeat first | refine AWp.seq ?_ | refine AWp.block ?_
    refine AWp.ops ?_
    simp
    obtain ⟨J, hJ⟩ : ∃ J : Nat → List AV → List AObj → Prop, J = fun i fr H => i ≤ O.length ∧ (cmpO O A C = cmpO (O.drop i) A C) ∧ H = [enO (.agg [.imm nl1 c1 sz1 (A.map I), I v]), enO (.agg [.imm nl2 c2 sz2 (C.map I), I w])] ∧
      fr = [.und, .und, .und, .ptr 0 1 0 0, .ptr 1 1 0 0, .und, .und, .und, .und, .imm nl3 c3 sz3 (O.map I), I O.length, I i, .und, .und, .und, .und, .und, .und, .und, .und, .und, .und, .und, .und, .und, .und, .und, .und, .und, .und] := ⟨_, rfl⟩
    refine AWp.block (AWp.loop J (fun i => O.length - i) 0 (Weak.slots [3, 4, 9, 10, 11]) (by rw [hJ]; exact ⟨by omega, rfl, by simp, by simp⟩) ?_)
    intro i fr H hI
    rw [hJ] at hI
    obtain ⟨hi, hinv, rfl, rfl⟩ := hI
    repeat first | refine AWp.seq ?_ | refine AWp.block ?_
    refine AWp.ops ?_
    simp
    refine AWp.seq (AWp.cond (b := decide (i < O.length)) (by simp <;> omega) ?_ ?_)
    ·
      intro hb
      have hb : i < O.length := by simpa using hb
      refine AWp.skip ?_
      simp only [qSeq]
      have hsz := sz_of hs3 hb
      subst hsz
      have hmi := hm O[i] (List.getElem_mem hb)
      rw [List.drop_eq_getElem_cons hb] at hinv
      simp only [cmpO] at hinv
      have hwi := wrap_i64 (n := (i : Int) + 1) (by omega) (by omega)
      obtain ⟨m, hmm⟩ : ∃ m : Nat, O[i] = m := ⟨O[i].toNat, by omega⟩
      rw [hmm] at hmi hinv
      simp only [Int.toNat_natCast] at hinv
      have g1 : m < A.length := by omega
      have g2 : m < C.length := by omega
      have hsz1 := sz_of hs1 g1
      have hsz2 := sz_of hs2 g2
      subst hsz1 hsz2
      have e1 : A.getD m 0 = A[m] := by simp [g1]
      have e2 : C.getD m 0 = C[m] := by simp [g2]
      simp only [e1, e2] at hinv
      repeat first | refine AWp.seq ?_ | refine AWp.block ?_
      refine AWp.ops ?_
      simp [hb, hmm]
      repeat first | refine AWp.seq ?_ | refine AWp.block ?_
      refine AWp.ops ?_
      simp [hb, hmm, g1, g2]
      refine ((Cmp_spec A[m] C[m]).pure (by simp) (by rintro r rfl; simp) _).mono ?_
      rintro r H' ⟨rfl, rfl⟩
      simp
      repeat first | refine AWp.seq ?_ | refine AWp.block ?_
      refine AWp.ops ?_
      simp
      by_cases h1 : A[m] < C[m]
      · refine AWp.cond (b := true) (by simp [h1]) (fun _ => ?_) (fun h => by cases h)
        repeat first | refine AWp.seq ?_ | refine AWp.block ?_
        refine AWp.ops ?_
        simp
        refine AWp.ret ?_
        simp
        refine retOk.of rfl ?_
        rw [hinv, if_pos h1]; simp [h1]
      by_cases h2 : A[m] > C[m]
      · refine AWp.cond (b := true) (by simp [h1, h2]) (fun _ => ?_) (fun h => by cases h)
        repeat first | refine AWp.seq ?_ | refine AWp.block ?_
        refine AWp.ops ?_
        simp
        refine AWp.ret ?_
        simp
        refine retOk.of rfl ?_
        rw [hinv, if_neg h1, if_pos h2]; simp [h1, h2]
      refine AWp.cond (b := false) (by simp [h1, h2]) (fun h => by cases h) (fun _ => ?_)
      refine AWp.skip ?_
      simp only [qSeq, qBlock]
      repeat first | refine AWp.seq ?_ | refine AWp.block ?_
      refine AWp.ops ?_
      simp [hwi]
      refine ⟨i + 1, _, _, Weak.slots [3, 4, 9, 10, 11], ?_, by omega⟩
      rw [hJ]
      refine ⟨by omega, ?_, by simp, by simp [wrap_i64 (n := (i : Int) + 1) (by omega) (by omega)]⟩
      rw [hinv, if_neg h1, if_neg h2]
    ·
      intro hb
      have hb : ¬ i < O.length := by simpa using hb
      refine AWp.exit ?_
      simp [qSeq, qBlock]
      rw [List.drop_eq_nil_of_le (by omega)] at hinv
      repeat first | refine AWp.seq ?_ | refine AWp.block ?_
      refine AWp.ops ?_
      simp
      refine AWp.ret ?_
      simp
      refine retOk.of rfl ?_
      simp [hinv, cmpO]
  refine (base.frozen 2).mono ?_
  rintro q H' ⟨rfl, r, G, rfl, rfl⟩
  exact ⟨rfl, by simp⟩
end Go.Fw
