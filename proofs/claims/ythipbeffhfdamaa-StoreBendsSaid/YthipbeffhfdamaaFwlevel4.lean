import Derived.Test.YthipbeffhfdamaaFwlevel3
namespace Go.Fw
open Go Go.RowKit Go.Proofs
set_option maxRecDepth 100000
set_option linter.unusedSimpArgs false
set_option linter.unusedVariables false

def lvOut (l : Lv) (c : Int) : Bool := decide (c < 0 ∨ l.sz ≤ c)

def lCheck1_1 : AC := (.seq (.ops [⟨(some 4), none, (.k (.mov (.t 0)))⟩, ⟨(some 5), none, (.k (.bin .lss (.t 4) (.c (.sc (.int .i64 0)))))⟩, ⟨(some 6), none, (.k (.mov (.t 5)))⟩, ⟨(some 7), (some (6, false)), (.k (.mov (.t 0)))⟩, ⟨(some 8), (some (6, false)), (.k (.fad 1 (.t 1)))⟩, ⟨(some 9), (some (6, false)), (.k (.ld 1 false (.t 8)))⟩, ⟨(some 10), (some (6, false)), (.k (.bin .geq (.t 7) (.t 9)))⟩, ⟨(some 11), none, (.k (.pick (.t 6) (.c (.sc (.bool true))) (.t 10)))⟩, ⟨(some 3), none, (.k (.mov (.t 11)))⟩]) .ret)
def lCheck1_ac : AC := (.seq (.ops [⟨(some 3), none, (.k (.mov (.c (.sc (.bool false)))))⟩]) lCheck1_1)
theorem lCheck1_call {args : List AV} {H : List AObj} {R : AV → List AObj → Prop} (h : AWp Try.prog [] H.length lCheck1_ac (bodyQ H.length [(.t 3)] R) (args ++ List.replicate (12 - args.length) .und) H) : ACalls Try.prog 90 args H R :=
  ACalls.of_fn Try.func90 rfl (by kernel_rfl) rfl Try.ntmps90 h

theorem lCheck1_spec (k z : Int) (p c : AV) (x : Int) (l : Lv) (hl : l.sz = z) : ACalls Try.prog 90 [I x, .ptr 0 1 0 0] [lvO (.agg [I k, I z, p, c])] fun r H' => H' = [lvO (.agg [I k, I z, p, c])] ∧ r = Bo (lvOut l x) := by
  apply lCheck1_call
  repeat first | refine AWp.seq ?_ | refine AWp.block ?_
  refine AWp.ops ?_
  simp
  by_cases h : x < 0
  ·
    repeat first | refine AWp.seq ?_ | refine AWp.block ?_
    refine AWp.ops ?_
    simp [h]
    refine AWp.ret ?_
    simp
    refine retOk.of rfl ⟨rfl, ?_⟩
    simp [lvOut, h]
  ·
    repeat first | refine AWp.seq ?_ | refine AWp.block ?_
    refine AWp.ops ?_
    simp [h]
    refine AWp.ret ?_
    simp
    refine retOk.of rfl ⟨rfl, ?_⟩
    simp [lvOut, h, hl]

/-- What is wrong with a level. -/
def lvCheck (l : Lv) (n : Nat) : Int :=
  if l.sz < 0 ∨ 2147483648 < l.sz ∨ lvFormed l n = false then 1
  else if 65536 < l.crd.length ∨ 1048576 < lvBelow l n then 2
  else if l.crd.any (lvOut l) = true then 3
  else if lvRise l = false then 1 else 0

def lCheck_9 : AC := (.seq (.ops [⟨(some 45), none, (.k (.ld 4 true (.t 2)))⟩, ⟨(some 46), none, (.call false (.c (.fn (.func 91) [] [])) [(.t 45)])⟩, ⟨(some 47), none, (.k (.un .not (.t 46)))⟩, ⟨(some 44), none, (.k (.mov (.t 47)))⟩]) (.cond (.t 44) (.seq (.ops [⟨(some 4), none, (.k (.mov (.c (.sc (.int .i64 1)))))⟩]) .ret) .skip))
def lCheck_8 : AC := (.cond (.t 39) (.seq (.ops [⟨(some 4), none, (.k (.mov (.c (.sc (.int .i64 3)))))⟩]) .ret) lCheck_9)
def lCheck_7 : AC := (.seq (.ops [⟨(some 40), none, (.k (.fad 3 (.t 2)))⟩, ⟨(some 41), none, (.k (.ld 1 false (.t 40)))⟩, ⟨(some 42), none, (.k (.mkF (.func 90) [] [(.t 2)]))⟩, ⟨(some 43), none, (.call false (.c (.fn (.func 44) [] [])) [(.t 41), (.t 42)])⟩, ⟨(some 39), none, (.k (.mov (.t 43)))⟩]) lCheck_8)
def lCheck_6 : AC := (.cond (.t 28) (.seq (.ops [⟨(some 4), none, (.k (.mov (.c (.sc (.int .i64 2)))))⟩]) .ret) lCheck_7)
def lCheck_5 : AC := (.seq (.ops [⟨(some 29), none, (.k (.fad 3 (.t 2)))⟩, ⟨(some 30), none, (.k (.ld 1 false (.t 29)))⟩, ⟨(some 31), none, (.k (.len (.t 30)))⟩, ⟨(some 32), none, (.k (.bin .gtr (.t 31) (.c (.sc (.int .i64 65536)))))⟩, ⟨(some 33), none, (.k (.mov (.t 32)))⟩, ⟨(some 34), (some (33, false)), (.k (.ld 4 true (.t 2)))⟩, ⟨(some 35), (some (33, false)), (.k (.mov (.t 1)))⟩, ⟨(some 36), (some (33, false)), (.call false (.c (.fn (.func 85) [] [])) [(.t 34), (.t 35)])⟩, ⟨(some 37), (some (33, false)), (.k (.bin .gtr (.t 36) (.c (.sc (.int .i64 1048576)))))⟩, ⟨(some 38), none, (.k (.pick (.t 33) (.c (.sc (.bool true))) (.t 37)))⟩, ⟨(some 28), none, (.k (.mov (.t 38)))⟩]) lCheck_6)
def lCheck_4 : AC := (.cond (.t 5) (.seq (.ops [⟨(some 4), none, (.k (.mov (.c (.sc (.int .i64 1)))))⟩]) .ret) lCheck_5)
def lCheck_3 : AC := (.seq (.ops [⟨(some 6), none, (.k (.mov (.t 1)))⟩, ⟨(some 7), none, (.k (.bin .lss (.t 6) (.c (.sc (.int .i64 0)))))⟩, ⟨(some 8), none, (.k (.mov (.t 7)))⟩, ⟨(some 9), (some (8, false)), (.k (.mov (.t 1)))⟩, ⟨(some 10), (some (8, false)), (.k (.bin .gtr (.t 9) (.c (.sc (.int .i64 1048576)))))⟩, ⟨(some 11), none, (.k (.pick (.t 8) (.c (.sc (.bool true))) (.t 10)))⟩, ⟨(some 12), none, (.k (.mov (.t 11)))⟩, ⟨(some 13), (some (12, false)), (.k (.fad 1 (.t 2)))⟩, ⟨(some 14), (some (12, false)), (.k (.ld 1 false (.t 13)))⟩, ⟨(some 15), (some (12, false)), (.k (.bin .lss (.t 14) (.c (.sc (.int .i64 0)))))⟩, ⟨(some 16), none, (.k (.pick (.t 12) (.c (.sc (.bool true))) (.t 15)))⟩, ⟨(some 17), none, (.k (.mov (.t 16)))⟩, ⟨(some 18), (some (17, false)), (.k (.fad 1 (.t 2)))⟩, ⟨(some 19), (some (17, false)), (.k (.ld 1 false (.t 18)))⟩, ⟨(some 20), (some (17, false)), (.k (.bin .gtr (.t 19) (.c (.sc (.int .i64 2147483648)))))⟩, ⟨(some 21), none, (.k (.pick (.t 17) (.c (.sc (.bool true))) (.t 20)))⟩, ⟨(some 22), none, (.k (.mov (.t 21)))⟩, ⟨(some 23), (some (22, false)), (.k (.ld 4 true (.t 2)))⟩, ⟨(some 24), (some (22, false)), (.k (.mov (.t 1)))⟩, ⟨(some 25), (some (22, false)), (.call false (.c (.fn (.func 89) [] [])) [(.t 23), (.t 24)])⟩, ⟨(some 26), (some (22, false)), (.k (.un .not (.t 25)))⟩, ⟨(some 27), none, (.k (.pick (.t 22) (.c (.sc (.bool true))) (.t 26)))⟩, ⟨(some 5), none, (.k (.mov (.t 27)))⟩]) lCheck_4)
def lCheck_2 : AC := (.block 0 lCheck_3)
def lCheck_1 : AC := (.seq lCheck_2 (.seq (.ops [⟨(some 4), none, (.k (.mov (.c (.sc (.int .i64 0)))))⟩]) .ret))
def lCheck_ac : AC := (.seq (.ops [⟨(some 2), none, (.k (.new 34 4 (.t 0)))⟩, ⟨(some 4), none, (.k (.mov (.c (.sc (.int .i64 0)))))⟩]) lCheck_1)
theorem lCheck_call {args : List AV} {H : List AObj} {R : AV → List AObj → Prop} (h : AWp Try.prog [] H.length lCheck_ac (bodyQ H.length [(.t 4)] R) (args ++ List.replicate (48 - args.length) .und) H) : ACalls Try.prog 84 args H R :=
  ACalls.of_fn Try.func84 rfl (by kernel_rfl) rfl Try.ntmps84 h

set_option maxHeartbeats 2000000 in
theorem lCheck_spec {l : Lv} {p c : AV} (hl : LvOk l p c) {n : Nat} (hn : n ≤ 1048576) : ACalls Try.prog 84 [.agg [I l.k, I l.sz, p, c], I n] [] fun r H' => H' = [] ∧ r = I (lvCheck l n) := by
  have hl' := hl
  obtain ⟨h1, h2, h3, h4⟩ := hl
  have h2' := h2
  obtain ⟨⟨nl, cp, sz, rfl, hs⟩, hlen, hx⟩ := h1
  obtain ⟨⟨nl', cp', sz', rfl, hs'⟩, hlen', hx'⟩ := h2
  have base : ACalls Try.prog 84 [.agg [I l.k, I l.sz, .imm nl cp sz (l.pos.map I), .imm nl' cp' sz' (l.crd.map I)], I n] [] fun r H' => r = I (lvCheck l n) := by
    apply lCheck_call
    obtain ⟨bad, hbad⟩ : ∃ bad, bad = decide (l.sz < 0 ∨ 2147483648 < l.sz ∨ lvFormed l n = false) := ⟨_, rfl⟩
    repeat first | refine AWp.seq ?_ | refine AWp.block ?_
    refine AWp.ops ?_
    simp
    refine AWp.seq (AWp.block (AWp.cut [.und, I n, .ptr 0 1 0 0, .und, .und, Bo bad, .und, .und, .und, .und, .und, .und, .und, .und, .und, .und, .und, .und, .und, .und, .und, .und, .und, .und, .und, .und, .und, .und, .und, .und, .und, .und, .und, .und, .und, .und, .und, .und, .und, .und, .und, .und, .und, .und, .und, .und, .und, .und] [lvO (.agg [I l.k, I l.sz, .imm nl cp sz (l.pos.map I), .imm nl' cp' sz' (l.crd.map I)])] ?_ ?_))
    · have g0 : ¬ (n : Int) < 0 := by omega
      have g1 : ¬ 1048576 < (n : Int) := by omega
      by_cases z0 : l.sz < 0
      ·
        repeat first | refine AWp.seq ?_ | refine AWp.block ?_
        refine AWp.ops ?_
        simp [g0, g1, z0]
        exact (Weak.slots [1, 2, 5]).to (by simp [hbad, z0]) rfl
      by_cases z1 : 2147483648 < l.sz
      ·
        repeat first | refine AWp.seq ?_ | refine AWp.block ?_
        refine AWp.ops ?_
        simp [g0, g1, z0, z1]
        exact (Weak.slots [1, 2, 5]).to (by simp [hbad, z1]) rfl
      repeat first | refine AWp.seq ?_ | refine AWp.block ?_
      refine AWp.ops ?_
      simp [g0, g1, z0, z1]
      refine ((formed_spec hl' hn).pure (by simp) (by rintro r rfl; simp) _).mono ?_
      rintro r H' ⟨rfl, rfl⟩
      simp
      exact (Weak.slots [1, 2, 5]).to (by simp [hbad, z0, z1]) rfl
    refine AWp.cond (b := bad) (by simp) ?_ ?_
    · intro h
      have h : l.sz < 0 ∨ 2147483648 < l.sz ∨ lvFormed l n = false := by simpa only [hbad, decide_eq_true_eq] using h
      repeat first | refine AWp.seq ?_ | refine AWp.block ?_
      refine AWp.ops ?_
      simp
      refine AWp.ret ?_
      simp
      refine retOk.of rfl ?_
      rw [lvCheck, if_pos h]; simp
    intro h
    have hb : ¬ (l.sz < 0 ∨ 2147483648 < l.sz ∨ lvFormed l n = false) := by simpa only [hbad, decide_eq_false_iff_not] using h
    have z0 : 0 ≤ l.sz := by omega
    have z1 : l.sz ≤ 2147483648 := by omega
    have hf : lvFormed l n = true := by
      cases e : lvFormed l n with
      | true => rfl
      | false => exact absurd (.inr (.inr e)) hb
    obtain ⟨lg, hlg⟩ : ∃ lg, lg = decide (65536 < l.crd.length ∨ 1048576 < lvBelow l n) := ⟨_, rfl⟩
    refine AWp.cut [.und, I n, .ptr 0 1 0 0, .und, .und, .und, .und, .und, .und, .und, .und, .und, .und, .und, .und, .und, .und, .und, .und, .und, .und, .und, .und, .und, .und, .und, .und, .und, Bo lg, .und, .und, .und, .und, .und, .und, .und, .und, .und, .und, .und, .und, .und, .und, .und, .und, .und, .und, .und] [lvO (.agg [I l.k, I l.sz, .imm nl cp sz (l.pos.map I), .imm nl' cp' sz' (l.crd.map I)])] ?_ ?_
    · by_cases c1 : 65536 < l.crd.length
      · have c1' : 65536 < (l.crd.length : Int) := by omega
        repeat first | refine AWp.seq ?_ | refine AWp.block ?_
        refine AWp.ops ?_
        simp [c1']
        exact (Weak.slots [1, 2, 28]).to (by simp [hlg, c1]) rfl
      · have c1' : ¬ 65536 < (l.crd.length : Int) := by omega
        repeat first | refine AWp.seq ?_ | refine AWp.block ?_
        refine AWp.ops ?_
        simp [c1']
        refine ((below_spec hl' (n := n) ⟨by omega, by omega⟩ ⟨z0, z1⟩).pure (by simp) (by rintro r rfl; simp) _).mono ?_
        rintro r H' ⟨rfl, rfl⟩
        simp
        exact (Weak.slots [1, 2, 28]).to (by simp [hlg, c1]) rfl
    refine AWp.cond (b := lg) (by simp) ?_ ?_
    · intro h
      have h : 65536 < l.crd.length ∨ 1048576 < lvBelow l n := by simpa only [hlg, decide_eq_true_eq] using h
      repeat first | refine AWp.seq ?_ | refine AWp.block ?_
      refine AWp.ops ?_
      simp
      refine AWp.ret ?_
      simp
      refine retOk.of rfl ?_
      rw [lvCheck, if_neg hb, if_pos h]; simp
    intro h
    have hg : ¬ (65536 < l.crd.length ∨ 1048576 < lvBelow l n) := by simpa only [hlg, decide_eq_false_iff_not] using h
    repeat first | refine AWp.seq ?_ | refine AWp.block ?_
    refine AWp.ops ?_
    simp
    refine (ContainsFunc_gen h2' (caps := [.ptr 0 1 0 0]) (p := lvOut l) (fun x _ => lCheck1_spec _ _ _ _ x l rfl)).mono ?_
    rintro r H' ⟨rfl, rfl⟩
    simp
    refine AWp.cond (b := l.crd.any (lvOut l)) (by simp) ?_ ?_
    · intro h
      repeat first | refine AWp.seq ?_ | refine AWp.block ?_
      refine AWp.ops ?_
      simp
      refine AWp.ret ?_
      simp
      refine retOk.of rfl ?_
      rw [lvCheck, if_neg hb, if_neg hg, if_pos h]; simp
    intro ho
    have hr : ∀ x ∈ l.crd, 0 ≤ x ∧ x < 4294967296 := by
      intro x hx
      have := List.any_eq_false.1 ho x hx
      simp [lvOut] at this
      omega
    repeat first | refine AWp.seq ?_ | refine AWp.block ?_
    refine AWp.ops ?_
    simp
    refine ((lrising_spec hl' hn hf hr).pure (by simp) (by rintro r rfl; simp) _).mono ?_
    rintro r H' ⟨rfl, rfl⟩
    simp
    refine AWp.cond (b := !lvRise l) (by simp) ?_ ?_
    · intro h
      repeat first | refine AWp.seq ?_ | refine AWp.block ?_
      refine AWp.ops ?_
      simp
      refine AWp.ret ?_
      simp
      refine retOk.of rfl ?_
      rw [lvCheck, if_neg hb, if_neg hg, if_neg (by simp [ho]), if_pos (by simpa using h)]; simp
    intro h
    refine AWp.skip ?_
    simp only [qSeq, qBlock]
    repeat first | refine AWp.seq ?_ | refine AWp.block ?_
    refine AWp.ops ?_
    simp
    refine AWp.ret ?_
    simp
    refine retOk.of rfl ?_
    rw [lvCheck, if_neg hb, if_neg hg, if_neg (by simp [ho]), if_neg (by simpa using h)]; simp
  refine (base.frozen 2).mono ?_
  rintro q H' ⟨rfl, r, G, rfl, rfl⟩
  exact ⟨rfl, by simp⟩

theorem lvBelow_ok {l : Lv} {n : Nat} (h : lvCheck l n = 0) : 0 ≤ l.sz ∧ l.sz ≤ 2147483648 ∧ lvFormed l n = true ∧ l.crd.length ≤ 65536 ∧ 0 ≤ lvBelow l n ∧ lvBelow l n ≤ 1048576 ∧ (∀ x ∈ l.crd, 0 ≤ x ∧ x < l.sz) ∧ lvRise l = true := by
  unfold lvCheck at h
  split at h
  · cases h
  split at h
  · cases h
  split at h
  · cases h
  split at h
  · cases h
  rename_i a b c d
  have z0 : 0 ≤ l.sz := by omega
  refine ⟨by omega, by omega, ?_, by omega, ?_, by omega, fun x hx => ?_, by simpa using d⟩
  · cases e : lvFormed l n with
    | true => rfl
    | false => exact absurd (.inr (.inr e)) a
  · unfold lvBelow
    split
    · exact Int.mul_nonneg (by omega) z0
    · omega
  · have := List.any_eq_false.1 (by simpa only [Bool.not_eq_true] using c) x hx
    simp [lvOut] at this
    omega

def lBelow_6 : AC := (.seq (.ops [⟨(some 13), none, (.k (.ld 4 true (.t 2)))⟩, ⟨(some 14), none, (.k (.mov (.t 1)))⟩, ⟨(some 15), none, (.call false (.c (.fn (.func 85) [] [])) [(.t 13), (.t 14)])⟩, ⟨(some 4), none, (.k (.mov (.t 15)))⟩, ⟨(some 5), none, (.k (.mov (.c (.sc (.int .i64 0)))))⟩]) .ret)
def lBelow_5 : AC := (.seq (.ops [⟨(some 12), none, (.k (.mov (.t 6)))⟩, ⟨(some 4), none, (.k (.mov (.c (.sc (.int .i64 0)))))⟩, ⟨(some 5), none, (.k (.mov (.t 12)))⟩]) .ret)
def lBelow_4 : AC := (.cond (.t 11) lBelow_5 .skip)
def lBelow_3 : AC := (.seq (.ops [⟨(some 10), none, (.k (.mov (.t 6)))⟩, ⟨(some 11), none, (.k (.bin .neq (.t 10) (.c (.sc (.int .i64 0)))))⟩]) lBelow_4)
def lBelow_2 : AC := (.seq (.ops [⟨(some 7), none, (.k (.ld 4 true (.t 2)))⟩, ⟨(some 8), none, (.k (.mov (.t 1)))⟩, ⟨(some 9), none, (.call false (.c (.fn (.func 84) [] [])) [(.t 7), (.t 8)])⟩, ⟨(some 6), none, (.k (.mov (.t 9)))⟩]) lBelow_3)
def lBelow_1 : AC := (.seq lBelow_2 lBelow_6)
def lBelow_ac : AC := (.seq (.ops [⟨(some 2), none, (.k (.new 34 4 (.t 0)))⟩, ⟨(some 4), none, (.k (.mov (.c (.sc (.int .i64 0)))))⟩, ⟨(some 5), none, (.k (.mov (.c (.sc (.int .i64 0)))))⟩]) lBelow_1)
theorem lBelow_call {args : List AV} {H : List AObj} {R : AV → List AObj → Prop} (h : AWp Try.prog [] H.length lBelow_ac (bodyQ H.length [(.t 4), (.t 5)] R) (args ++ List.replicate (16 - args.length) .und) H) : ACalls Try.prog 69 args H R :=
  ACalls.of_fn Try.func69 rfl (by kernel_rfl) rfl Try.ntmps69 h

theorem lBelow_spec {l : Lv} {p c : AV} (hl : LvOk l p c) {n : Nat} (hn : n ≤ 1048576) : ACalls Try.prog 69 [.agg [I l.k, I l.sz, p, c], I n] [] fun r H' => H' = [] ∧ r = .tup [I (if lvCheck l n = 0 then lvBelow l n else 0), I (lvCheck l n)] := by
  have hl' := hl
  obtain ⟨h1, h2, h3, h4⟩ := hl
  obtain ⟨⟨nl, cp, sz, rfl, hs⟩, hlen, hx⟩ := h1
  obtain ⟨⟨nl', cp', sz', rfl, hs'⟩, hlen', hx'⟩ := h2
  have base : ACalls Try.prog 69 [.agg [I l.k, I l.sz, .imm nl cp sz (l.pos.map I), .imm nl' cp' sz' (l.crd.map I)], I n] [] fun r H' => r = .tup [I (if lvCheck l n = 0 then lvBelow l n else 0), I (lvCheck l n)] := by
    apply lBelow_call
    repeat first | refine AWp.seq ?_ | refine AWp.block ?_
    refine AWp.ops ?_
    simp
    repeat first | refine AWp.seq ?_ | refine AWp.block ?_
    refine AWp.ops ?_
    simp
    refine ((lCheck_spec hl' hn).pure (by simp) (by rintro r rfl; simp) _).mono ?_
    rintro r H' ⟨rfl, rfl⟩
    simp
    repeat first | refine AWp.seq ?_ | refine AWp.block ?_
    refine AWp.ops ?_
    simp
    by_cases h : lvCheck l n = 0
    · refine AWp.cond (b := false) (by simp [h]) (fun h => by cases h) (fun _ => ?_)
      obtain ⟨b1, b2, -⟩ := lvBelow_ok h
      refine AWp.skip ?_
      simp only [qSeq]
      repeat first | refine AWp.seq ?_ | refine AWp.block ?_
      refine AWp.ops ?_
      simp
      refine ((below_spec hl' (n := n) ⟨by omega, by omega⟩ ⟨b1, b2⟩).pure (by simp) (by rintro r rfl; simp) _).mono ?_
      rintro r H' ⟨rfl, rfl⟩
      simp
      refine AWp.ret ?_
      simp
      refine retOk.of rfl ?_
      simp [h]
    · refine AWp.cond (b := true) (by simp [h]) (fun _ => ?_) (fun h => by cases h)
      repeat first | refine AWp.seq ?_ | refine AWp.block ?_
      refine AWp.ops ?_
      simp
      refine AWp.ret ?_
      simp
      refine retOk.of rfl ?_
      simp [h]
  refine (base.frozen 2).mono ?_
  rintro q H' ⟨rfl, r, G, rfl, rfl⟩
  exact ⟨rfl, by simp⟩
end Go.Fw
