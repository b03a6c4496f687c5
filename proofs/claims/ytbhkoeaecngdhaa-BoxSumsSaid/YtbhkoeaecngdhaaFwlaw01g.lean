import Derived.Test.YtbhkoeaecngdhaaFwlaw01f
namespace Go.Fw
open Go Go.RowKit Go.Proofs
set_option maxRecDepth 100000
set_option linter.unusedSimpArgs false
set_option linter.unusedVariables false

theorem wrap_wrap_add (a b : Int) : IntKind.i64.wrap (IntKind.i64.wrap a + b) = IntKind.i64.wrap (a + b) := by simp only [wrap_bmod', Int.bmod_add_bmod]
theorem mode_range {x : Int} {L : Nat} (hL : 0 < L) (hL2 : L ≤ 1000) : ∃ m : Nat, m < L ∧ (IntKind.i64.wrap (x.tmod L + L)).tmod L = (m : Int) := by
  have h1 : x.tmod L < L := Int.tmod_lt_of_pos _ (by omega)
  have h2 : -(L : Int) < x.tmod L := by
    have := Int.tmod_lt_of_pos (-x) (b := (L : Int)) (by omega)
    rw [Int.neg_tmod] at this
    omega
  rw [wrap_i64 (by omega) (by omega)]
  have h3 : 0 ≤ (x.tmod L + L).tmod L := Int.tmod_nonneg _ (by omega)
  have h4 : (x.tmod L + L).tmod L < L := Int.tmod_lt_of_pos _ (by omega)
  exact ⟨((x.tmod L + L).tmod L).toNat, by omega, by omega⟩

theorem sumF_inR {D : List Int × List Int} (hD : InR D.1) (mode : Int) : InR (sumF D mode).1.1 ∧ InR (sumF D mode).1.2 := by
  have hn : InR [] := ⟨by simp, by simp⟩
  unfold sumF
  split
  · exact ⟨hn, hn⟩
  · split
    · exact ⟨hn, hn⟩
    · split
      · exact ⟨hn, hn⟩
      · rename_i hz
        have hz : (zeroF (D.1.eraseIdx mode.toNat)).2 = 0 := by simpa using hz
        obtain ⟨_, n, hn, hn'⟩ := laid_ok (zeroF_ok hz).1
        refine ⟨⟨?_, fun x hx => hD.2 x (List.mem_of_mem_eraseIdx hx)⟩, binV_inR (by rw [hn]; omega)⟩
        have := hD.1
        rw [List.length_eraseIdx]
        split <;> omega

def BoxTotal_32 : AC := (.seq (.ops [⟨(some 82), none, (.k (.mov (.t 5)))⟩, ⟨(some 83), none, (.k (.mov (.t 82)))⟩, ⟨(some 84), (some (83, true)), (.k (.mov (.t 14)))⟩, ⟨(some 85), (some (83, true)), (.k (.bin .eql (.t 84) (.c (.sc (.int .i64 0)))))⟩, ⟨(some 86), none, (.k (.pick (.t 83) (.t 85) (.c (.sc (.bool false)))))⟩, ⟨(some 87), none, (.k (.mov (.t 86)))⟩, ⟨(some 88), (some (87, true)), (.k (.mov (.t 13)))⟩, ⟨(some 89), (some (87, true)), (.k (.mov (.t 6)))⟩, ⟨(some 90), (some (87, true)), (.k (.bin .eql (.t 88) (.t 89)))⟩, ⟨(some 91), none, (.k (.pick (.t 87) (.t 90) (.c (.sc (.bool false)))))⟩, ⟨(some 4), none, (.k (.mov (.t 91)))⟩]) .ret)
def BoxTotal_31 : AC := (.seq (.ops [⟨(some 78), none, (.k (.ld 2 true (.t 2)))⟩, ⟨(some 79), none, (.call false (.c (.fn (.func 22) [] [])) [(.t 78), (.c (.imm true none 0 []))])⟩, ⟨(some 77), none, (.k (.mov (.t 79)))⟩, ⟨(some 80), none, (.k (.ext (.t 77) 0))⟩, ⟨(some 81), none, (.k (.ext (.t 77) 1))⟩, ⟨(some 13), none, (.k (.mov (.t 80)))⟩, ⟨(some 14), none, (.k (.mov (.t 81)))⟩]) BoxTotal_32)
def BoxTotal_30 : AC := (.seq (.ops [⟨(some 71), none, (.k (.mov (.t 5)))⟩, ⟨(some 72), none, (.k (.mov (.t 71)))⟩, ⟨(some 73), (some (72, true)), (.k (.mov (.t 12)))⟩, ⟨(some 74), (some (72, true)), (.k (.bin .eql (.t 73) (.c (.sc (.int .i64 2)))))⟩, ⟨(some 75), none, (.k (.pick (.t 72) (.t 74) (.c (.sc (.bool false)))))⟩, ⟨(some 4), none, (.k (.mov (.t 75)))⟩]) .ret)
def BoxTotal_29 : AC := (.cond (.t 70) BoxTotal_30 .skip)
def BoxTotal_28 : AC := (.seq (.ops [⟨(some 69), none, (.k (.mov (.t 12)))⟩, ⟨(some 70), none, (.k (.bin .neq (.t 69) (.c (.sc (.int .i64 0)))))⟩]) BoxTotal_29)
def BoxTotal_27 : AC := (.seq BoxTotal_28 (.ops [⟨(some 76), none, (.k (.ld 2 true (.t 11)))⟩, ⟨none, none, (.k (.st 2 (.t 2) (.t 76)))⟩]))
def BoxTotal_26 : AC := (.seq (.ops [⟨(some 64), none, (.k (.ld 2 true (.t 2)))⟩, ⟨(some 65), none, (.k (.mov (.t 10)))⟩, ⟨(some 66), none, (.call false (.c (.fn (.func 34) [] [])) [(.t 64), (.t 65)])⟩, ⟨(some 63), none, (.k (.mov (.t 66)))⟩, ⟨(some 67), none, (.k (.ext (.t 63) 0))⟩, ⟨(some 68), none, (.k (.ext (.t 63) 1))⟩, ⟨(some 11), none, (.k (.new 35 2 (.c (.agg [(.imm true none 0 []), (.imm true none 0 [])]))))⟩, ⟨none, none, (.k (.st 2 (.t 11) (.t 67)))⟩, ⟨(some 12), none, (.k (.mov (.t 68)))⟩]) BoxTotal_27)
def BoxTotal_25 : AC := (.cond (.t 46) (.ops [⟨(some 47), none, (.k (.mov (.t 1)))⟩, ⟨(some 48), none, (.k (.mov (.t 9)))⟩, ⟨(some 49), none, (.k (.iad 1 (.t 47) (.t 48)))⟩, ⟨(some 50), none, (.k (.ld 1 false (.t 49)))⟩, ⟨(some 51), none, (.k (.fad 0 (.t 2)))⟩, ⟨(some 52), none, (.k (.ld 1 false (.t 51)))⟩, ⟨(some 53), none, (.k (.len (.t 52)))⟩, ⟨(some 54), none, (.k (.bin .rem (.t 50) (.t 53)))⟩, ⟨(some 55), none, (.k (.fad 0 (.t 2)))⟩, ⟨(some 56), none, (.k (.ld 1 false (.t 55)))⟩, ⟨(some 57), none, (.k (.len (.t 56)))⟩, ⟨(some 58), none, (.k (.bin .add (.t 54) (.t 57)))⟩, ⟨(some 59), none, (.k (.fad 0 (.t 2)))⟩, ⟨(some 60), none, (.k (.ld 1 false (.t 59)))⟩, ⟨(some 61), none, (.k (.len (.t 60)))⟩, ⟨(some 62), none, (.k (.bin .rem (.t 58) (.t 61)))⟩, ⟨(some 10), none, (.k (.mov (.t 62)))⟩]) .skip)
def BoxTotal_24 : AC := (.seq (.ops [⟨(some 43), none, (.k (.mov (.t 9)))⟩, ⟨(some 44), none, (.k (.mov (.t 1)))⟩, ⟨(some 45), none, (.k (.len (.t 44)))⟩, ⟨(some 46), none, (.k (.bin .lss (.t 43) (.t 45)))⟩]) BoxTotal_25)
def BoxTotal_23 : AC := (.seq BoxTotal_24 BoxTotal_26)
def BoxTotal_22 : AC := (.seq (.ops [⟨(some 10), none, (.k (.mov (.c (.sc (.int .i64 0)))))⟩]) BoxTotal_23)
def BoxTotal_21 : AC := (.block 3 BoxTotal_22)
def BoxTotal_20 : AC := (.seq BoxTotal_21 (.ops [⟨(some 41), none, (.k (.mov (.t 9)))⟩, ⟨(some 42), none, (.k (.bin .add (.t 41) (.c (.sc (.int .i64 1)))))⟩, ⟨(some 9), none, (.k (.mov (.t 42)))⟩]))
def BoxTotal_19 : AC := (.seq (.ops [⟨(some 37), none, (.k (.fad 0 (.t 2)))⟩, ⟨(some 38), none, (.k (.ld 1 false (.t 37)))⟩, ⟨(some 39), none, (.k (.len (.t 38)))⟩, ⟨(some 40), none, (.k (.bin .gtr (.t 39) (.c (.sc (.int .i64 0)))))⟩]) (.cond (.t 40) .skip (.exit 2)))
def BoxTotal_18 : AC := (.seq BoxTotal_19 BoxTotal_20)
def BoxTotal_17 : AC := (.loop BoxTotal_18)
def BoxTotal_16 : AC := (.block 2 BoxTotal_17)
def BoxTotal_15 : AC := (.seq (.ops [⟨(some 9), none, (.k (.mov (.c (.sc (.int .i64 0)))))⟩]) BoxTotal_16)
def BoxTotal_14 : AC := (.seq BoxTotal_15 BoxTotal_31)
def BoxTotal_13 : AC := (.seq (.ops [⟨(some 31), none, (.k (.iad 1 (.t 27) (.t 29)))⟩, ⟨(some 32), none, (.k (.ld 1 false (.t 31)))⟩, ⟨(some 8), none, (.k (.mov (.t 32)))⟩]) (.ops [⟨(some 33), none, (.k (.mov (.t 6)))⟩, ⟨(some 34), none, (.k (.mov (.t 8)))⟩, ⟨(some 35), none, (.k (.bin .add (.t 33) (.t 34)))⟩, ⟨(some 6), none, (.k (.mov (.t 35)))⟩]))
def BoxTotal_12 : AC := (.block 1 BoxTotal_13)
def BoxTotal_11 : AC := (.seq BoxTotal_12 (.ops [⟨(some 36), none, (.k (.bin .add (.t 29) (.c (.sc (.int .i64 1)))))⟩, ⟨(some 29), none, (.k (.mov (.t 36)))⟩]))
def BoxTotal_10 : AC := (.seq (.cond (.t 30) .skip (.exit 0)) BoxTotal_11)
def BoxTotal_9 : AC := (.seq (.ops [⟨(some 30), none, (.k (.bin .lss (.t 29) (.t 28)))⟩]) BoxTotal_10)
def BoxTotal_8 : AC := (.loop BoxTotal_9)
def BoxTotal_7 : AC := (.block 0 BoxTotal_8)
def BoxTotal_6 : AC := (.seq (.ops [⟨(some 26), none, (.k (.fad 1 (.t 2)))⟩, ⟨(some 27), none, (.k (.ld 1 false (.t 26)))⟩, ⟨(some 28), none, (.k (.len (.t 27)))⟩, ⟨(some 29), none, (.k (.mov (.c (.sc (.int .i64 0)))))⟩]) BoxTotal_7)
def BoxTotal_5 : AC := (.seq BoxTotal_6 BoxTotal_14)
def BoxTotal_4 : AC := (.seq (.ops [⟨(some 6), none, (.k (.mov (.c (.sc (.int .i64 0)))))⟩]) BoxTotal_5)
def BoxTotal_3 : AC := (.seq (.ops [⟨(some 16), none, (.k (.ld 2 true (.t 2)))⟩, ⟨(some 17), none, (.k (.lit 2 [(.t 16)]))⟩, ⟨(some 18), none, (.call false (.c (.fn (.func 19) [] [])) [(.t 17)])⟩, ⟨(some 19), none, (.k (.un .not (.t 18)))⟩, ⟨(some 20), none, (.k (.mov (.t 19)))⟩, ⟨(some 21), (some (20, false)), (.k (.ld 2 true (.t 2)))⟩, ⟨(some 22), (some (20, false)), (.call false (.c (.fn (.func 25) [] [])) [(.t 21)])⟩, ⟨(some 23), (some (20, false)), (.k (.bin .neq (.t 22) (.c (.sc (.int .i64 0)))))⟩, ⟨(some 24), none, (.k (.pick (.t 20) (.c (.sc (.bool true))) (.t 23)))⟩]) (.cond (.t 24) (.seq (.ops [⟨(some 25), none, (.k (.mov (.t 5)))⟩, ⟨(some 4), none, (.k (.mov (.t 25)))⟩]) .ret) .skip))
def BoxTotal_2 : AC := (.seq BoxTotal_3 BoxTotal_4)
def BoxTotal_1 : AC := (.seq (.ops [⟨(some 15), none, (.call false (.c (.fn (.func 11) [] [])) [])⟩, ⟨(some 5), none, (.k (.mov (.t 15)))⟩]) BoxTotal_2)
def BoxTotal_ac : AC := (.seq (.ops [⟨(some 2), none, (.k (.new 35 2 (.t 0)))⟩, ⟨(some 4), none, (.k (.mov (.c (.sc (.bool false)))))⟩]) BoxTotal_1)
theorem BoxTotal_call {args : List AV} {H : List AObj} {R : AV → List AObj → Prop} (h : AWp Try.prog [] H.length BoxTotal_ac (bodyQ H.length [(.t 4)] R) (args ++ List.replicate (92 - args.length) .und) H) : ACalls Try.prog 8 args H R :=
  ACalls.of_fn Try.func8 rfl (by kernel_rfl) rfl Try.ntmps8 h

set_option maxHeartbeats 4000000 in
theorem BoxTotal_spec {d a : AV} {D : List Int × List Int} {ms : List Int} (hd : Dn d D) (ha : ISl a ms) : ACalls Try.prog 8 [d, a] [] fun r H' => H' = [] ∧ r = Bo true := by
  have hd' := hd
  obtain ⟨S, vs⟩ := D
  obtain ⟨s1, v1, rfl, ⟨⟨nl1, c1, z1, rfl, hz1⟩, hr1⟩, ⟨⟨nl2, c2, z2, rfl, hz2⟩, hr2⟩⟩ := hd
  obtain ⟨⟨nl3, c3, z3, rfl, hz3⟩, hr3⟩ := ha
  simp only at hz1 hr1 hz2 hr2
  refine ACalls.res 0 ?_ (fun _ => rfl)
  apply BoxTotal_call
  first | refine AWp.seq (AWp.ops ?_) | refine AWp.seq (AWp.seq (AWp.ops ?_)) | refine AWp.ops ?_ | refine AWp.seq (AWp.block (AWp.seq (AWp.ops ?_))) | refine AWp.seq (AWp.seq (AWp.seq (AWp.ops ?_)))
  simp
  first | refine AWp.seq (AWp.ops ?_) | refine AWp.seq (AWp.seq (AWp.ops ?_)) | refine AWp.ops ?_ | refine AWp.seq (AWp.block (AWp.seq (AWp.ops ?_))) | refine AWp.seq (AWp.seq (AWp.seq (AWp.ops ?_)))
  simp
  refine (live_spec.pure (by simp) (by rintro r rfl; simp) _).mono ?_
  rintro r H' ⟨rfl, rfl⟩
  simp
  first | refine AWp.seq (AWp.ops ?_) | refine AWp.seq (AWp.seq (AWp.ops ?_)) | refine AWp.ops ?_ | refine AWp.seq (AWp.block (AWp.seq (AWp.ops ?_))) | refine AWp.seq (AWp.seq (AWp.seq (AWp.ops ?_)))
  simp
  refine ((few_spec (.cons hd' .nil) (by simp)).pure (by simp) (by rintro r rfl; simp) _).mono ?_
  rintro r H' ⟨rfl, rfl⟩
  by_cases h1 : [(S, vs)].all fewB = true
  case neg =>
    have h1 : [(S, vs)].all fewB = false := by simpa only [Bool.not_eq_true] using h1
    simp only [h1]
    simp
    refine AWp.cond (b := true) (by simp) (fun _ => ?_) (fun h => by cases h)
    first | refine AWp.seq (AWp.ops ?_) | refine AWp.seq (AWp.seq (AWp.ops ?_)) | refine AWp.ops ?_ | refine AWp.seq (AWp.block (AWp.seq (AWp.ops ?_))) | refine AWp.seq (AWp.seq (AWp.seq (AWp.ops ?_)))
    simp
    refine AWp.ret ?_
    simp
    refine retOk.of rfl ?_
    rfl
  simp only [h1]
  simp
  refine ((bCheck_spec hd').pure (by simp) (by rintro r rfl; simp) _).mono ?_
  rintro r H' ⟨rfl, rfl⟩
  by_cases hc : checkF (S, vs) = 0
  case neg =>
    simp [hc]
    refine AWp.cond (b := true) (by simp [hc]) (fun _ => ?_) (fun h => by cases h)
    first | refine AWp.seq (AWp.ops ?_) | refine AWp.seq (AWp.seq (AWp.ops ?_)) | refine AWp.ops ?_ | refine AWp.seq (AWp.block (AWp.seq (AWp.ops ?_))) | refine AWp.seq (AWp.seq (AWp.seq (AWp.ops ?_)))
    simp
    refine AWp.ret ?_
    simp
    refine retOk.of rfl ?_
    rfl
  simp [hc]
  refine AWp.cond (b := false) (by simp) (fun h => by cases h) (fun _ => ?_)
  refine AWp.skip ?_
  simp only [qSeq]
  have hS4 : S.length ≤ 4 := (laid_ok (check_laid hc).1).1
  first | refine AWp.seq (AWp.ops ?_) | refine AWp.seq (AWp.seq (AWp.ops ?_)) | refine AWp.ops ?_ | refine AWp.seq (AWp.block (AWp.seq (AWp.ops ?_))) | refine AWp.seq (AWp.seq (AWp.seq (AWp.ops ?_)))
  simp
  refine AWp.cut [.und, .imm nl3 c3 z3 (ms.map I), .ptr 0 1 0 0, .und, .und, Bo true, I (IntKind.i64.wrap (sumI vs)), .und, .und, .und, .und, .und, .und, .und, .und, .und, .und, .und, .und, .und, .und, .und, .und, .und, .und, .und, .und, .und, .und, .und, .und, .und, .und, .und, .und, .und, .und, .und, .und, .und, .und, .und, .und, .und, .und, .und, .und, .und, .und, .und, .und, .und, .und, .und, .und, .und, .und, .und, .und, .und, .und, .und, .und, .und, .und, .und, .und, .und, .und, .und, .und, .und, .und, .und, .und, .und, .und, .und, .und, .und, .und, .und, .und, .und, .und, .und, .und, .und, .und, .und, .und, .und] [denO (.agg [.imm nl1 c1 z1 (S.map I), .imm nl2 c2 z2 (vs.map I)])] ?_ ?_
  ·
    first | refine AWp.seq (AWp.ops ?_) | refine AWp.seq (AWp.seq (AWp.ops ?_)) | refine AWp.ops ?_ | refine AWp.seq (AWp.block (AWp.seq (AWp.ops ?_))) | refine AWp.seq (AWp.seq (AWp.seq (AWp.ops ?_)))
    simp
    obtain ⟨J, hJ⟩ : ∃ J : Nat → List AV → List AObj → Prop, J = fun i fr H => i ≤ vs.length ∧ ∃ (w : Int), (w = IntKind.i64.wrap (sumI (vs.take i))) ∧ H = [denO (.agg [.imm nl1 c1 z1 (S.map I), .imm nl2 c2 z2 (vs.map I)])] ∧
      fr = [.und, .imm nl3 c3 z3 (ms.map I), .ptr 0 1 0 0, .und, .und, Bo true, I w, .und, .und, .und, .und, .und, .und, .und, .und, .und, .und, .und, .und, .und, .und, .und, .und, .und, .und, .und, .und, .imm nl2 c2 z2 (vs.map I), I vs.length, I i, .und, .und, .und, .und, .und, .und, .und, .und, .und, .und, .und, .und, .und, .und, .und, .und, .und, .und, .und, .und, .und, .und, .und, .und, .und, .und, .und, .und, .und, .und, .und, .und, .und, .und, .und, .und, .und, .und, .und, .und, .und, .und, .und, .und, .und, .und, .und, .und, .und, .und, .und, .und, .und, .und, .und, .und, .und, .und, .und, .und, .und, .und] := ⟨_, rfl⟩
    refine AWp.block (AWp.loop J (fun i => vs.length - i) 0 (Weak.slots [1, 2, 5, 6, 27, 28, 29]) (by rw [hJ]; exact ⟨by omega, 0, by rw [List.take_zero]; decide, by simp, by simp⟩) ?_)
    intro i fr H hI
    rw [hJ] at hI
    obtain ⟨hi, w, hinv, rfl, rfl⟩ := hI
    first | refine AWp.seq (AWp.ops ?_) | refine AWp.seq (AWp.seq (AWp.ops ?_)) | refine AWp.ops ?_ | refine AWp.seq (AWp.block (AWp.seq (AWp.ops ?_))) | refine AWp.seq (AWp.seq (AWp.seq (AWp.ops ?_)))
    simp
    refine AWp.seq (AWp.cond (b := decide (i < vs.length)) (by simp <;> omega) ?_ ?_)
    ·
      intro hb
      have hb : i < vs.length := by simpa using hb
      refine AWp.skip ?_
      simp only [qSeq]
      have hsz := sz_of hz2 hb
      subst hsz
      first | refine AWp.seq (AWp.ops ?_) | refine AWp.seq (AWp.seq (AWp.ops ?_)) | refine AWp.ops ?_ | refine AWp.seq (AWp.block (AWp.seq (AWp.ops ?_))) | refine AWp.seq (AWp.seq (AWp.seq (AWp.ops ?_)))
      simp [hb]
      first | refine AWp.seq (AWp.ops ?_) | refine AWp.seq (AWp.seq (AWp.ops ?_)) | refine AWp.ops ?_ | refine AWp.seq (AWp.block (AWp.seq (AWp.ops ?_))) | refine AWp.seq (AWp.seq (AWp.seq (AWp.ops ?_)))
      simp
      have e : IntKind.i64.wrap (w + vs[i]) = IntKind.i64.wrap (sumI (vs.take (i + 1))) := by
        rw [hinv, wrap_wrap_add, List.take_succ_eq_append_getElem hb, sumI_append]
        simp [sumI]
      simp [e]
      first | refine AWp.seq (AWp.ops ?_) | refine AWp.seq (AWp.seq (AWp.ops ?_)) | refine AWp.ops ?_ | refine AWp.seq (AWp.block (AWp.seq (AWp.ops ?_))) | refine AWp.seq (AWp.seq (AWp.seq (AWp.ops ?_)))
      simp
      refine ⟨i + 1, _, _, Weak.slots [1, 2, 5, 6, 27, 28, 29], ?_, by omega⟩
      rw [hJ]
      refine ⟨by omega, IntKind.i64.wrap (sumI (vs.take (i + 1))), ?_, by simp, by simp [wrap_i64 (n := (i : Int) + 1) (by omega) (by omega)]⟩
      rfl
    ·
      intro hb
      have hb : ¬ i < vs.length := by simpa using hb
      refine AWp.exit ?_
      simp [qSeq, qBlock]
      have e : vs.take i = vs := List.take_of_length_le (by omega)
      exact (Weak.slots [1, 2, 5, 6]).to (by simp [hinv, e]) rfl
  refine AWp.cutE (σ := AV × (List Int × List Int)) (fun s => Dn s.1 s.2 ∧ checkF s.2 = 0 ∧ s.2.1 = [] ∧ IntKind.i64.wrap (sumI s.2.2) = IntKind.i64.wrap (sumI vs)) (fun _ => [.und, .und, .ptr 0 1 0 0, .und, .und, Bo true, I (IntKind.i64.wrap (sumI vs)), .und, .und, .und, .und, .und, .und, .und, .und, .und, .und, .und, .und, .und, .und, .und, .und, .und, .und, .und, .und, .und, .und, .und, .und, .und, .und, .und, .und, .und, .und, .und, .und, .und, .und, .und, .und, .und, .und, .und, .und, .und, .und, .und, .und, .und, .und, .und, .und, .und, .und, .und, .und, .und, .und, .und, .und, .und, .und, .und, .und, .und, .und, .und, .und, .und, .und, .und, .und, .und, .und, .und, .und, .und, .und, .und, .und, .und, .und, .und, .und, .und, .und, .und, .und, .und]) (fun s => [denO s.1]) ?_ ?_
  ·
    first | refine AWp.seq (AWp.ops ?_) | refine AWp.seq (AWp.seq (AWp.ops ?_)) | refine AWp.ops ?_ | refine AWp.seq (AWp.block (AWp.seq (AWp.ops ?_))) | refine AWp.seq (AWp.seq (AWp.seq (AWp.ops ?_)))
    simp
    obtain ⟨J, hJ⟩ : ∃ J : Nat → List AV → List AObj → Prop, J = fun i fr H => ∃ (e : AV) (E : List Int × List Int), Dn e E ∧ checkF E = 0 ∧ E.1.length + i = S.length ∧ IntKind.i64.wrap (sumI E.2) = IntKind.i64.wrap (sumI vs) ∧ H = [denO e] ∧
      fr = [.und, .imm nl3 c3 z3 (ms.map I), .ptr 0 1 0 0, .und, .und, Bo true, I (IntKind.i64.wrap (sumI vs)), .und, .und, I i, .und, .und, .und, .und, .und, .und, .und, .und, .und, .und, .und, .und, .und, .und, .und, .und, .und, .und, .und, .und, .und, .und, .und, .und, .und, .und, .und, .und, .und, .und, .und, .und, .und, .und, .und, .und, .und, .und, .und, .und, .und, .und, .und, .und, .und, .und, .und, .und, .und, .und, .und, .und, .und, .und, .und, .und, .und, .und, .und, .und, .und, .und, .und, .und, .und, .und, .und, .und, .und, .und, .und, .und, .und, .und, .und, .und, .und, .und, .und, .und, .und, .und] := ⟨_, rfl⟩
    refine AWp.block (AWp.loop J (fun i => S.length - i) 0 (Weak.slots [1, 2, 5, 6, 9]) (by rw [hJ]; exact ⟨_, _, hd', hc, by simp, rfl, rfl, by simp⟩) ?_)
    intro i fr H hI
    rw [hJ] at hI
    obtain ⟨e, E, hE, hcE, hlE, hsE, rfl, rfl⟩ := hI
    obtain ⟨eS, ev⟩ := E
    have hE' := hE
    obtain ⟨s2, v2, rfl, ⟨⟨nl4, c4, z4, rfl, hz4⟩, hr4⟩, ⟨⟨nl5, c5, z5, rfl, hz5⟩, hr5⟩⟩ := hE
    simp only at hlE hsE hcE hz4 hr4 hz5 hr5
    first | refine AWp.seq (AWp.ops ?_) | refine AWp.seq (AWp.seq (AWp.ops ?_)) | refine AWp.ops ?_ | refine AWp.seq (AWp.block (AWp.seq (AWp.ops ?_))) | refine AWp.seq (AWp.seq (AWp.seq (AWp.ops ?_)))
    simp
    refine AWp.cond (b := decide (0 < (eS.length : Int))) (by simp) ?_ ?_
    · intro hpos
      have hpos : 0 < eS.length := by simpa using hpos
      have hi3 : i < 4 := by omega
      refine AWp.skip ?_
      simp only [qSeq]
      first | refine AWp.seq (AWp.ops ?_) | refine AWp.seq (AWp.seq (AWp.ops ?_)) | refine AWp.ops ?_ | refine AWp.seq (AWp.block (AWp.seq (AWp.ops ?_))) | refine AWp.seq (AWp.seq (AWp.seq (AWp.ops ?_)))
      simp
      refine AWp.cutE (σ := Nat) (fun m => m < eS.length) (fun m => [.und, .imm nl3 c3 z3 (ms.map I), .ptr 0 1 0 0, .und, .und, Bo true, I (IntKind.i64.wrap (sumI vs)), .und, .und, I i, I m, .und, .und, .und, .und, .und, .und, .und, .und, .und, .und, .und, .und, .und, .und, .und, .und, .und, .und, .und, .und, .und, .und, .und, .und, .und, .und, .und, .und, .und, .und, .und, .und, .und, .und, .und, .und, .und, .und, .und, .und, .und, .und, .und, .und, .und, .und, .und, .und, .und, .und, .und, .und, .und, .und, .und, .und, .und, .und, .und, .und, .und, .und, .und, .und, .und, .und, .und, .und, .und, .und, .und, .und, .und, .und, .und, .und, .und, .und, .und, .und, .und]) (fun _ => [denO (.agg [.imm nl4 c4 z4 (eS.map I), .imm nl5 c5 z5 (ev.map I)])]) ?_ ?_
      ·
        first | refine AWp.seq (AWp.ops ?_) | refine AWp.seq (AWp.seq (AWp.ops ?_)) | refine AWp.ops ?_ | refine AWp.seq (AWp.block (AWp.seq (AWp.ops ?_))) | refine AWp.seq (AWp.seq (AWp.seq (AWp.ops ?_)))
        simp
        refine AWp.cond (b := decide (i < ms.length)) (by simp) ?_ ?_
        · intro hi
          have hi : i < ms.length := by simpa using hi
          have hsz := sz_of hz3 hi
          subst hsz
          obtain ⟨m, hm, hme⟩ := mode_range (x := ms[i]) hpos (by omega)
          have hl0 : ¬ eS.length = 0 := by omega
          have hl0' : ¬ eS = [] := by rintro rfl; simp at hpos
          first | refine AWp.seq (AWp.ops ?_) | refine AWp.seq (AWp.seq (AWp.ops ?_)) | refine AWp.ops ?_ | refine AWp.seq (AWp.block (AWp.seq (AWp.ops ?_))) | refine AWp.seq (AWp.seq (AWp.seq (AWp.ops ?_)))
          simp [hi, hl0, hl0', hme]
          exact ⟨m, hm, (Weak.slots [1, 2, 5, 6, 9, 10]).to (by simp) rfl⟩
        · intro _
          refine AWp.skip ?_
          simp only [qSeq]
          exact ⟨0, hpos, (Weak.slots [1, 2, 5, 6, 9, 10]).to (by simp) rfl⟩
      intro m hm
      obtain ⟨r1, r2⟩ := sumF_inR (D := (eS, ev)) hE'.inR.1 m
      first | refine AWp.seq (AWp.ops ?_) | refine AWp.seq (AWp.seq (AWp.ops ?_)) | refine AWp.ops ?_ | refine AWp.seq (AWp.block (AWp.seq (AWp.ops ?_))) | refine AWp.seq (AWp.seq (AWp.seq (AWp.ops ?_)))
      simp
      refine ((dense_pure (Sum_spec (mode := m) hE') r1 r2).pure (by simp) (by rintro r ⟨d, rfl, h⟩; simp [h.noRef]) _).mono ?_
      rintro r H' ⟨rfl, x, rfl, hx⟩
      have hx' := hx
      obtain ⟨s3, v3, rfl, ⟨⟨nl6, c6, z6, rfl, _⟩, _⟩, ⟨⟨nl7, c7, z7, rfl, _⟩, _⟩⟩ := hx
      simp
      first | refine AWp.seq (AWp.ops ?_) | refine AWp.seq (AWp.seq (AWp.ops ?_)) | refine AWp.ops ?_ | refine AWp.seq (AWp.block (AWp.seq (AWp.ops ?_))) | refine AWp.seq (AWp.seq (AWp.seq (AWp.ops ?_)))
      simp
      rcases sum_total hcE hm with h2 | ⟨h2, h3, h4, h5⟩
      · simp [h2]
        refine AWp.cond (b := true) (by simp) (fun _ => ?_) (fun h => by cases h)
        first | refine AWp.seq (AWp.ops ?_) | refine AWp.seq (AWp.seq (AWp.ops ?_)) | refine AWp.ops ?_ | refine AWp.seq (AWp.block (AWp.seq (AWp.ops ?_))) | refine AWp.seq (AWp.seq (AWp.seq (AWp.ops ?_)))
        simp
        refine AWp.ret ?_
        simp
        refine retOk.of rfl ?_
        rfl
      · simp [h2]
        refine AWp.cond (b := false) (by simp) (fun h => by cases h) (fun _ => ?_)
        refine AWp.skip ?_
        simp only [qSeq]
        first | refine AWp.seq (AWp.ops ?_) | refine AWp.seq (AWp.seq (AWp.ops ?_)) | refine AWp.ops ?_ | refine AWp.seq (AWp.block (AWp.seq (AWp.ops ?_))) | refine AWp.seq (AWp.seq (AWp.seq (AWp.ops ?_)))
        simp
        first | refine AWp.seq (AWp.ops ?_) | refine AWp.seq (AWp.seq (AWp.ops ?_)) | refine AWp.ops ?_ | refine AWp.seq (AWp.block (AWp.seq (AWp.ops ?_))) | refine AWp.seq (AWp.seq (AWp.seq (AWp.ops ?_)))
        simp
        have hwi := wrap_i64 (n := (i : Int) + 1) (by omega) (by omega)
        refine ⟨i + 1, _, _, (Weak.slots [1, 2, 5, 6, 9]).trans (Weak.freeze 1 2 (by simp)), ?_, by simp only at hlE h4; omega⟩
        rw [hJ]
        exact ⟨_, _, hx', h3, by simp only at h4; omega, by rw [h5]; exact hsE, by simp [frzH], by simp [hwi]⟩
    · intro hpos
      have hpos : ¬ 0 < eS.length := by simpa using hpos
      have h0 : eS = [] := List.eq_nil_of_length_eq_zero (by omega)
      refine AWp.exit ?_
      simp [qSeq, qBlock]
      exact ⟨_, ⟨eS, ev, hE', hcE, h0, hsE⟩, (Weak.slots [2, 5, 6]).to (by simp) rfl⟩
  rintro ⟨e, E⟩ ⟨hE, hcE, h0, hs⟩
  obtain ⟨eS, ev⟩ := E
  simp only at hE hcE h0 hs
  subst h0
  have hE' := hE
  obtain ⟨s2, v2, rfl, ⟨⟨nl4, c4, z4, rfl, hz4⟩, hr4⟩, ⟨⟨nl5, c5, z5, rfl, hz5⟩, hr5⟩⟩ := hE
  have hl1 : ev.length = 1 := by
    have h := (check_laid hcE).2.1
    have e : laidF [] = (1, 0) := by decide
    simp only [e] at h
    omega
  obtain ⟨w, rfl⟩ := List.length_eq_one_iff.1 hl1
  have hw : IntKind.i64.wrap (sumI vs) = w := by
    rw [← hs]
    simp only [sumI, Int.add_zero]
    have := hr5.2 w (by simp)
    exact wrap_i64 this.1 this.2
  have hg : getF ([], [w]) [] = (w, 0) := by
    have e : atF [] [] = (0, 0) := by decide
    simp [getF, hcE, e]
  rw [hw]
  first | refine AWp.seq (AWp.ops ?_) | refine AWp.seq (AWp.seq (AWp.ops ?_)) | refine AWp.ops ?_ | refine AWp.seq (AWp.block (AWp.seq (AWp.ops ?_))) | refine AWp.seq (AWp.seq (AWp.seq (AWp.ops ?_)))
  simp
  refine ((bGet_spec hE' ISl.nil).pure (by simp) (by rintro r rfl; simp) _).mono ?_
  rintro r H' ⟨rfl, rfl⟩
  rw [hg]
  simp
  first | refine AWp.seq (AWp.ops ?_) | refine AWp.seq (AWp.seq (AWp.ops ?_)) | refine AWp.ops ?_ | refine AWp.seq (AWp.block (AWp.seq (AWp.ops ?_))) | refine AWp.seq (AWp.seq (AWp.seq (AWp.ops ?_)))
  simp
  refine AWp.ret ?_
  simp
  refine retOk.of rfl ?_
  rfl
end Go.Fw
