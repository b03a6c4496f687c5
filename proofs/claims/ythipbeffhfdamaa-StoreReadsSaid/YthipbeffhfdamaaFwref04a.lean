import Derived.Test.YthipbeffhfdamaaFwstore7
namespace Go.Fw
open Go Go.RowKit Go.Proofs
set_option maxRecDepth 100000
set_option linter.unusedSimpArgs false
set_option linter.unusedVariables false
def r4Whole_1 : AC := (.seq (.ops [.o 3 (.fad 0 (.t 1)), .o 4 (.ld 1 false (.t 3)), .o 5 (.bin .eql (.t 4) (.i 0)), .m 6 (.t 5), .og 7 6 false (.fad 0 (.t 1)), .og 8 6 false (.ld 1 false (.t 7)), .og 9 6 false (.bin .eql (.t 8) (.i 4)), .o 10 (.pick (.t 6) (.b true) (.t 9)), .m 2 (.t 10)]) .ret)
def r4Whole_ac : AC := (.seq (.ops [.o 1 (.new 34 4 (.t 0)), .m 2 (.b false)]) r4Whole_1)
theorem r4Whole_call {args : List AV} {H : List AObj} {R : AV → List AObj → Prop} (h : AWp Try.prog [] H.length r4Whole_ac (bodyQ H.length [(.t 2)] R) (args ++ List.replicate (11 - args.length) .und) H) : ACalls Try.prog 88 args H R :=
  ACalls.of_fn Try.func88 rfl (by kernel_rfl) rfl Try.ntmps88 h
theorem r4Whole_spec {l : Lv} {p c : AV} (hl : LvOk l p c) : ACalls Try.prog 88 [.agg [I l.k, I l.sz, p, c]] [] fun r H' => H' = [] ∧ r = Bo (lvWhole l) := by
  obtain ⟨h1, h2, h3, h4⟩ := hl
  obtain ⟨⟨nl, cp, sz, rfl, hs⟩, hlen, hx⟩ := h1
  obtain ⟨⟨nl', cp', sz', rfl, hs'⟩, hlen', hx'⟩ := h2
  have base : ACalls Try.prog 88 [.agg [I l.k, I l.sz, .imm nl cp sz (l.pos.map I), .imm nl' cp' sz' (l.crd.map I)]] [] fun r H' => r = Bo (lvWhole l) := by
    apply r4Whole_call
    repeat first | refine AWp.seq ?_ | refine AWp.block ?_
    refine AWp.ops ?_
    simp
    by_cases h0 : l.k = 0
    ·
      repeat first | refine AWp.seq ?_ | refine AWp.block ?_
      refine AWp.ops ?_
      simp [h0]
      refine AWp.ret ?_
      simp
      refine retOk.of rfl ?_
      simp [lvWhole, h0]
    ·
      repeat first | refine AWp.seq ?_ | refine AWp.block ?_
      refine AWp.ops ?_
      simp [h0]
      refine AWp.ret ?_
      simp
      refine retOk.of rfl ?_
      by_cases h4 : l.k = 4 <;> simp [lvWhole, h0, h4]
  refine (base.frozen 2).mono ?_
  rintro q H' ⟨rfl, r, G, rfl, rfl⟩
  exact ⟨rfl, by simp⟩
def r4many_5 : AC := (.seq (.ops [.o 11 (.fad 3 (.t 2)), .o 12 (.ld 1 false (.t 11)), .o 13 (.len (.t 12)), .m 4 (.t 13)]) .ret)
def r4many_4 : AC := (.seq (.ops [.m 7 (.t 1), .o 8 (.fad 1 (.t 2)), .o 9 (.ld 1 false (.t 8)), .o 10 (.bin .mul (.t 7) (.t 9)), .m 4 (.t 10)]) .ret)
def r4many_3 : AC := (.cond (.t 6) r4many_4 .skip)
def r4many_2 : AC := (.seq (.ops [.o 5 (.ld 4 true (.t 2)), .c 6 false (.f 88) [(.t 5)]]) r4many_3)
def r4many_1 : AC := (.seq r4many_2 r4many_5)
def r4many_ac : AC := (.seq (.ops [.o 2 (.new 34 4 (.t 0)), .m 4 (.i 0)]) r4many_1)
theorem r4many_call {args : List AV} {H : List AObj} {R : AV → List AObj → Prop} (h : AWp Try.prog [] H.length r4many_ac (bodyQ H.length [(.t 4)] R) (args ++ List.replicate (14 - args.length) .und) H) : ACalls Try.prog 87 args H R :=
  ACalls.of_fn Try.func87 rfl (by kernel_rfl) rfl Try.ntmps87 h
theorem r4many_spec {l : Lv} {p c : AV} (hl : LvOk l p c) {n : Int} (hn : 0 ≤ n ∧ n ≤ 1048576) (hz : 0 ≤ l.sz ∧ l.sz ≤ 2147483648) : ACalls Try.prog 87 [.agg [I l.k, I l.sz, p, c], I n] [] fun r H' => H' = [] ∧ r = I (lvBelow l n) := by
  have hl' := hl
  obtain ⟨h1, h2, h3, h4⟩ := hl
  obtain ⟨⟨nl, cp, sz, rfl, hs⟩, hlen, hx⟩ := h1
  obtain ⟨⟨nl', cp', sz', rfl, hs'⟩, hlen', hx'⟩ := h2
  have base : ACalls Try.prog 87 [.agg [I l.k, I l.sz, .imm nl cp sz (l.pos.map I), .imm nl' cp' sz' (l.crd.map I)], I n] [] fun r H' => r = I (lvBelow l n) := by
    apply r4many_call
    repeat first | refine AWp.seq ?_ | refine AWp.block ?_
    refine AWp.ops ?_
    simp
    repeat first | refine AWp.seq ?_ | refine AWp.block ?_
    refine AWp.ops ?_
    simp
    refine ((r4Whole_spec hl').pure (by simp) (by rintro r rfl; simp) _).mono ?_
    rintro r H' ⟨rfl, rfl⟩
    simp
    have hb : n * l.sz ≤ 1048576 * 2147483648 := Int.mul_le_mul hn.2 hz.2 hz.1 (by omega)
    have hb0 : 0 ≤ n * l.sz := Int.mul_nonneg hn.1 hz.1
    have hw := wrap_i64 (n := n * l.sz) (by omega) (by omega)
    refine AWp.cond (b := lvWhole l) (by simp) ?_ ?_
    · intro h
      repeat first | refine AWp.seq ?_ | refine AWp.block ?_
      refine AWp.ops ?_
      simp [hw]
      refine AWp.ret ?_
      simp
      refine retOk.of rfl ?_
      have h : l.k = 0 ∨ l.k = 4 := by simpa [lvWhole] using h
      rw [lvBelow, if_pos h]; simp
    · intro h
      have h : ¬ (l.k = 0 ∨ l.k = 4) := by simpa only [lvWhole, decide_eq_false_iff_not] using h
      refine AWp.skip ?_
      simp only [qSeq]
      repeat first | refine AWp.seq ?_ | refine AWp.block ?_
      refine AWp.ops ?_
      simp
      refine AWp.ret ?_
      simp
      refine retOk.of rfl ?_
      rw [lvBelow, if_neg h]; simp
  refine (base.frozen 2).mono ?_
  rintro q H' ⟨rfl, r, G, rfl, rfl⟩
  exact ⟨rfl, by simp⟩
def r4form_23 : AC := (.seq (.ops [.o 79 (.fad 2 (.t 2)), .o 80 (.ld 1 false (.t 79)), .m 81 (.t 5), .o 82 (.bin .add (.t 81) (.i 1)), .o 83 (.iad 1 (.t 80) (.t 82)), .o 84 (.ld 1 false (.t 83)), .o 85 (.fad 2 (.t 2)), .o 86 (.ld 1 false (.t 85)), .m 87 (.t 5), .o 88 (.iad 1 (.t 86) (.t 87)), .o 89 (.ld 1 false (.t 88)), .o 90 (.bin .lss (.t 84) (.t 89))]) (.cond (.t 90) (.seq (.ops [.m 4 (.i 1)]) .ret) .skip))
def r4form_22 : AC := (.seq (.ops [.m 78 (.t 76), .m 5 (.t 78)]) r4form_23)
def r4form_21 : AC := (.block 2 r4form_22)
def r4form_20 : AC := (.seq r4form_21 (.ops [.o 91 (.bin .add (.t 76) (.i 1)), .m 76 (.t 91)]))
def r4form_19 : AC := (.seq (.cond (.t 77) .skip (.exit 1)) r4form_20)
def r4form_18 : AC := (.seq (.ops [.o 77 (.bin .lss (.t 76) (.t 75))]) r4form_19)
def r4form_17 : AC := (.loop r4form_18)
def r4form_16 : AC := (.block 1 r4form_17)
def r4form_15 : AC := (.seq (.ops [.m 75 (.t 1), .m 76 (.i 0)]) r4form_16)
def r4form_14 : AC := (.seq r4form_15 (.seq (.ops [.m 4 (.i 0)]) .ret))
def r4form_13 : AC := (.seq (.ops [.o 51 (.fad 2 (.t 2)), .o 52 (.ld 1 false (.t 51)), .o 53 (.len (.t 52)), .m 54 (.t 1), .o 55 (.bin .add (.t 54) (.i 1)), .o 56 (.bin .neq (.t 53) (.t 55)), .m 57 (.t 56), .og 58 57 false (.fad 2 (.t 2)), .og 59 57 false (.ld 1 false (.t 58)), .og 60 57 false (.iad 1 (.t 59) (.i 0)), .og 61 57 false (.ld 1 false (.t 60)), .og 62 57 false (.bin .neq (.t 61) (.i 0)), .o 63 (.pick (.t 57) (.b true) (.t 62)), .m 64 (.t 63), .og 65 64 false (.fad 2 (.t 2)), .og 66 64 false (.ld 1 false (.t 65)), .mg 67 64 false (.t 1), .og 68 64 false (.iad 1 (.t 66) (.t 67)), .og 69 64 false (.ld 1 false (.t 68)), .og 70 64 false (.fad 3 (.t 2)), .og 71 64 false (.ld 1 false (.t 70)), .og 72 64 false (.len (.t 71)), .og 73 64 false (.bin .neq (.t 69) (.t 72)), .o 74 (.pick (.t 64) (.b true) (.t 73))]) (.cond (.t 74) (.seq (.ops [.m 4 (.i 1)]) .ret) .skip))
def r4form_12 : AC := (.seq r4form_13 r4form_14)
def r4form_11 : AC := (.seq (.ops [.o 43 (.fad 0 (.t 2)), .o 44 (.ld 1 false (.t 43)), .o 45 (.bin .neq (.t 44) (.i 1)), .m 46 (.t 45), .og 47 46 true (.fad 0 (.t 2)), .og 48 46 true (.ld 1 false (.t 47)), .og 49 46 true (.bin .neq (.t 48) (.i 2)), .o 50 (.pick (.t 46) (.t 49) (.b false)), .m 42 (.t 50)]) (.cond (.t 42) (.seq (.ops [.m 4 (.i 1)]) .ret) .skip))
def r4form_10 : AC := (.seq (.ops [.o 31 (.fad 2 (.t 2)), .o 32 (.ld 1 false (.t 31)), .o 33 (.len (.t 32)), .o 34 (.bin .gtr (.t 33) (.i 0)), .m 35 (.t 34), .og 36 35 false (.fad 3 (.t 2)), .og 37 35 false (.ld 1 false (.t 36)), .og 38 35 false (.len (.t 37)), .mg 39 35 false (.t 1), .og 40 35 false (.bin .neq (.t 38) (.t 39)), .o 41 (.pick (.t 35) (.b true) (.t 40))]) (.cond (.t 41) (.seq (.ops [.m 4 (.i 1)]) .ret) .skip))
def r4form_9 : AC := (.seq r4form_10 (.seq (.ops [.m 4 (.i 0)]) .ret))
def r4form_8 : AC := (.cond (.t 27) r4form_9 r4form_11)
def r4form_7 : AC := (.seq (.ops [.o 28 (.fad 0 (.t 2)), .o 29 (.ld 1 false (.t 28)), .o 30 (.bin .eql (.t 29) (.i 3)), .m 27 (.t 30)]) r4form_8)
def r4form_6 : AC := (.seq (.ops [.o 9 (.fad 2 (.t 2)), .o 10 (.ld 1 false (.t 9)), .o 11 (.len (.t 10)), .o 12 (.fad 3 (.t 2)), .o 13 (.ld 1 false (.t 12)), .o 14 (.len (.t 13)), .o 15 (.bin .add (.t 11) (.t 14)), .o 16 (.bin .gtr (.t 15) (.i 0)), .m 17 (.t 16), .og 18 17 false (.fad 0 (.t 2)), .og 19 17 false (.ld 1 false (.t 18)), .og 20 17 false (.bin .eql (.t 19) (.i 4)), .mg 21 17 false (.t 20), .og 22 21 true (.fad 1 (.t 2)), .og 23 21 true (.ld 1 false (.t 22)), .og 24 21 true (.bin .eql (.t 23) (.i 0)), .og 25 17 false (.pick (.t 21) (.t 24) (.b false)), .o 26 (.pick (.t 17) (.b true) (.t 25))]) (.cond (.t 26) (.seq (.ops [.m 4 (.i 1)]) .ret) .skip))
def r4form_5 : AC := (.seq r4form_6 (.seq (.ops [.m 4 (.i 0)]) .ret))
def r4form_4 : AC := (.cond (.t 6) r4form_5 r4form_7)
def r4form_3 : AC := (.seq (.ops [.o 7 (.ld 4 true (.t 2)), .c 8 false (.f 88) [(.t 7)], .m 6 (.t 8)]) r4form_4)
def r4form_2 : AC := (.block 0 r4form_3)
def r4form_1 : AC := (.seq r4form_2 r4form_12)
def r4form_ac : AC := (.seq (.ops [.o 2 (.new 34 4 (.t 0)), .m 4 (.i 0)]) r4form_1)
theorem r4form_call {args : List AV} {H : List AObj} {R : AV → List AObj → Prop} (h : AWp Try.prog [] H.length r4form_ac (bodyQ H.length [(.t 4)] R) (args ++ List.replicate (92 - args.length) .und) H) : ACalls Try.prog 93 args H R :=
  ACalls.of_fn Try.func93 rfl (by kernel_rfl) rfl Try.ntmps93 h
set_option maxHeartbeats 2000000 in
theorem r4form_spec {l : Lv} {p c : AV} (hl : LvOk l p c) (hsm : l.pos.length ≤ 4611686018427387903 ∧ l.crd.length ≤ 4611686018427387903) {n : Nat} (hn : n ≤ 1048576) : ACalls Try.prog 93 [.agg [I l.k, I l.sz, p, c], I n] [] fun r H' => H' = [] ∧ r = I (if lvFormed l n = true then 0 else 1) := by
  have hl' := hl
  obtain ⟨k, z, ps, cs⟩ := l
  obtain ⟨h1, h2, h3, h4⟩ := hl
  simp only at h1 h2 h3 h4 hsm
  obtain ⟨⟨nl, cp, sz, rfl, hs⟩, hlen, hx⟩ := h1
  obtain ⟨⟨nl', cp', sz', rfl, hs'⟩, hlen', hx'⟩ := h2
  simp only
  have base : ACalls Try.prog 93 [.agg [I k, I z, .imm nl cp sz (ps.map I), .imm nl' cp' sz' (cs.map I)], I n] [] fun r H' => r = I (if lvFormed ⟨k, z, ps, cs⟩ n = true then 0 else 1) := by
    apply r4form_call
    repeat first | refine AWp.seq ?_ | refine AWp.block ?_
    refine AWp.ops ?_
    simp
    repeat first | refine AWp.seq ?_ | refine AWp.block ?_
    refine AWp.ops ?_
    simp
    refine ((r4Whole_spec hl').pure (by simp) (by rintro r rfl; simp) _).mono ?_
    rintro r H' ⟨rfl, rfl⟩
    simp
    by_cases hw : k = 0 ∨ k = 4
    · refine AWp.cond (b := true) (by simp [lvWhole, hw]) (fun _ => ?_) (fun h => by cases h)
      have w1 := wrap_i64 (n := (ps.length : Int) + cs.length) (by omega) (by omega)
      by_cases hp : 0 < (ps.length : Int) + cs.length
      ·
        repeat first | refine AWp.seq ?_ | refine AWp.block ?_
        refine AWp.ops ?_
        simp [w1, hp]
        refine AWp.cond (b := true) (by simp) (fun _ => ?_) (fun h => by cases h)
        repeat first | refine AWp.seq ?_ | refine AWp.block ?_
        refine AWp.ops ?_
        simp
        refine AWp.ret ?_
        simp
        refine retOk.of rfl ?_
        have : lvFormed ⟨k, z, ps, cs⟩ n = false := by
          simp only [lvFormed]
          rcases hw with h | h
          · rw [if_neg (by omega), if_pos h]
            exact decide_eq_false (by omega)
          · rw [if_pos h]
            exact decide_eq_false (by omega)
        simp [this]
      by_cases k4 : k = 4
      · by_cases hz : z = 0
        ·
          repeat first | refine AWp.seq ?_ | refine AWp.block ?_
          refine AWp.ops ?_
          simp [w1, hp, k4, hz]
          refine AWp.cond (b := true) (by simp) (fun _ => ?_) (fun h => by cases h)
          repeat first | refine AWp.seq ?_ | refine AWp.block ?_
          refine AWp.ops ?_
          simp
          refine AWp.ret ?_
          simp
          refine retOk.of rfl ?_
          simp [lvFormed, k4, hz]
        ·
          repeat first | refine AWp.seq ?_ | refine AWp.block ?_
          refine AWp.ops ?_
          simp [w1, hp, k4, hz]
          refine AWp.cond (b := false) (by simp [hz]) (fun h => by cases h) (fun _ => ?_)
          refine AWp.skip ?_
          simp only [qSeq]
          repeat first | refine AWp.seq ?_ | refine AWp.block ?_
          refine AWp.ops ?_
          simp
          refine AWp.ret ?_
          simp
          refine retOk.of rfl ?_
          have e1 : ps = [] := List.length_eq_zero_iff.1 (by omega)
          have e2 : cs = [] := List.length_eq_zero_iff.1 (by omega)
          simp [lvFormed, k4, hz, e1, e2]
      ·
        repeat first | refine AWp.seq ?_ | refine AWp.block ?_
        refine AWp.ops ?_
        simp [w1, hp, k4]
        refine AWp.cond (b := false) (by simp) (fun h => by cases h) (fun _ => ?_)
        refine AWp.skip ?_
        simp only [qSeq]
        repeat first | refine AWp.seq ?_ | refine AWp.block ?_
        refine AWp.ops ?_
        simp
        refine AWp.ret ?_
        simp
        refine retOk.of rfl ?_
        have k0 : k = 0 := by omega
        have e1 : ps = [] := List.length_eq_zero_iff.1 (by omega)
        have e2 : cs = [] := List.length_eq_zero_iff.1 (by omega)
        simp [lvFormed, k0, e1, e2]
    refine AWp.cond (b := false) (by simpa [lvWhole] using hw) (fun h => by cases h) (fun _ => ?_)
    repeat first | refine AWp.seq ?_ | refine AWp.block ?_
    refine AWp.ops ?_
    simp
    by_cases k3 : k = 3
    · refine AWp.cond (b := true) (by simp [k3]) (fun _ => ?_) (fun h => by cases h)
      by_cases hp : ps = []
      case neg =>
        repeat first | refine AWp.seq ?_ | refine AWp.block ?_
        refine AWp.ops ?_
        simp [hp]
        refine AWp.cond (b := true) (by simp [hp]) (fun _ => ?_) (fun h => by cases h)
        repeat first | refine AWp.seq ?_ | refine AWp.block ?_
        refine AWp.ops ?_
        simp
        refine AWp.ret ?_
        simp
        refine retOk.of rfl ?_
        simp [lvFormed, k3, hp]
      subst hp
      by_cases hc : (cs.length : Int) = n
      ·
        repeat first | refine AWp.seq ?_ | refine AWp.block ?_
        refine AWp.ops ?_
        simp [hc]
        refine AWp.cond (b := false) (by simp) (fun h => by cases h) (fun _ => ?_)
        refine AWp.skip ?_
        simp only [qSeq]
        repeat first | refine AWp.seq ?_ | refine AWp.block ?_
        refine AWp.ops ?_
        simp
        refine AWp.ret ?_
        simp
        refine retOk.of rfl ?_
        have : cs.length = n := by omega
        simp [lvFormed, k3, this]
      ·
        repeat first | refine AWp.seq ?_ | refine AWp.block ?_
        refine AWp.ops ?_
        simp [hc]
        refine AWp.cond (b := true) (by simp [hc]) (fun _ => ?_) (fun h => by cases h)
        repeat first | refine AWp.seq ?_ | refine AWp.block ?_
        refine AWp.ops ?_
        simp
        refine AWp.ret ?_
        simp
        refine retOk.of rfl ?_
        have : ¬ cs.length = n := by omega
        simp [lvFormed, k3, this]
    refine AWp.cond (b := false) (by simp [k3]) (fun h => by cases h) (fun _ => ?_)
    by_cases k12 : k = 1 ∨ k = 2
    case neg =>
      have k1 : ¬ k = 1 := by omega
      have k2 : ¬ k = 2 := by omega
      repeat first | refine AWp.seq ?_ | refine AWp.block ?_
      refine AWp.ops ?_
      simp [k1, k2]
      refine AWp.cond (b := true) (by simp [k2]) (fun _ => ?_) (fun h => by cases h)
      repeat first | refine AWp.seq ?_ | refine AWp.block ?_
      refine AWp.ops ?_
      simp
      refine AWp.ret ?_
      simp
      refine retOk.of rfl ?_
      have : lvFormed ⟨k, z, ps, cs⟩ n = false := by
        simp only [lvFormed]
        rw [if_neg (by omega), if_neg (by omega), if_neg k3, if_neg k12]
      simp [this]
    have hF : lvFormed ⟨k, z, ps, cs⟩ n = decide (ps.length = n + 1 ∧ ps.getD 0 0 = 0 ∧ ps.getD n 0 = cs.length ∧ Sorted ps) := by
      simp only [lvFormed]
      rw [if_neg (by omega), if_neg (by omega), if_neg k3, if_pos k12]
    have hT : AWp Try.prog [] 0 r4form_12 (bodyQ 0 [ARes.t 4] fun r H' => r = I (if lvFormed ⟨k, z, ps, cs⟩ n = true then 0 else 1)) [.und, I n, .ptr 0 1 0 0, .und, .und, .und, .und, .und, .und, .und, .und, .und, .und, .und, .und, .und, .und, .und, .und, .und, .und, .und, .und, .und, .und, .und, .und, .und, .und, .und, .und, .und, .und, .und, .und, .und, .und, .und, .und, .und, .und, .und, .und, .und, .und, .und, .und, .und, .und, .und, .und, .und, .und, .und, .und, .und, .und, .und, .und, .und, .und, .und, .und, .und, .und, .und, .und, .und, .und, .und, .und, .und, .und, .und, .und, .und, .und, .und, .und, .und, .und, .und, .und, .und, .und, .und, .und, .und, .und, .und, .und, .und] [lvO (.agg [I k, I z, .imm nl cp sz (ps.map I), .imm nl' cp' sz' (cs.map I)])] := by
      have w1 := wrap_i64 (n := (n : Int) + 1) (by omega) (by omega)
      by_cases g1 : ps.length = n + 1
      case neg =>
        have g1' : ¬ (ps.length : Int) = (n : Int) + 1 := by omega
        repeat first | refine AWp.seq ?_ | refine AWp.block ?_
        refine AWp.ops ?_
        simp [w1, g1']
        refine AWp.cond (b := true) (by simp) (fun _ => ?_) (fun h => by cases h)
        repeat first | refine AWp.seq ?_ | refine AWp.block ?_
        refine AWp.ops ?_
        simp
        refine AWp.ret ?_
        simp
        refine retOk.of rfl ?_
        simp [hF, g1]
      have g1' : (ps.length : Int) = (n : Int) + 1 := by omega
      have hb0 : 0 < ps.length := by omega
      have hbn : n < ps.length := by omega
      have hsz := sz_of hs hb0
      subst hsz
      by_cases g2 : ps[0] = 0
      case neg =>
        repeat first | refine AWp.seq ?_ | refine AWp.block ?_
        refine AWp.ops ?_
        simp [w1, g1', hb0, g2]
        refine AWp.cond (b := true) (by simp [g2]) (fun _ => ?_) (fun h => by cases h)
        repeat first | refine AWp.seq ?_ | refine AWp.block ?_
        refine AWp.ops ?_
        simp
        refine AWp.ret ?_
        simp
        refine retOk.of rfl ?_
        simp [hF, g1, hb0, g2]
      by_cases g3 : ps[n] = cs.length
      case neg =>
        repeat first | refine AWp.seq ?_ | refine AWp.block ?_
        refine AWp.ops ?_
        simp [w1, g1', hb0, g2, hbn, g3]
        refine AWp.cond (b := true) (by simp [g3]) (fun _ => ?_) (fun h => by cases h)
        repeat first | refine AWp.seq ?_ | refine AWp.block ?_
        refine AWp.ops ?_
        simp
        refine AWp.ret ?_
        simp
        refine retOk.of rfl ?_
        simp [hF, g1, hb0, hbn, g2, g3]
      repeat first | refine AWp.seq ?_ | refine AWp.block ?_
      refine AWp.ops ?_
      simp [w1, g1', hb0, g2, hbn, g3]
      refine AWp.cond (b := false) (by simp) (fun h => by cases h) (fun _ => ?_)
      refine AWp.skip ?_
      simp only [qSeq]
      repeat first | refine AWp.seq ?_ | refine AWp.block ?_
      refine AWp.ops ?_
      simp
      obtain ⟨J, hJ⟩ : ∃ J : Nat → List AV → List AObj → Prop, J = fun i fr H => i ≤ n ∧ (∀ p < i, ps.getD p 0 ≤ ps.getD (p + 1) 0) ∧ H = [lvO (.agg [I k, I z, .imm nl cp 1 (ps.map I), .imm nl' cp' sz' (cs.map I)])] ∧
        fr = [.und, .und, .ptr 0 1 0 0, .und, .und, .und, .und, .und, .und, .und, .und, .und, .und, .und, .und, .und, .und, .und, .und, .und, .und, .und, .und, .und, .und, .und, .und, .und, .und, .und, .und, .und, .und, .und, .und, .und, .und, .und, .und, .und, .und, .und, .und, .und, .und, .und, .und, .und, .und, .und, .und, .und, .und, .und, .und, .und, .und, .und, .und, .und, .und, .und, .und, .und, .und, .und, .und, .und, .und, .und, .und, .und, .und, .und, .und, I n, I i, .und, .und, .und, .und, .und, .und, .und, .und, .und, .und, .und, .und, .und, .und, .und] := ⟨_, rfl⟩
      refine AWp.block (AWp.loop J (fun i => n - i) 0 (Weak.slots [2, 75, 76]) (by rw [hJ]; exact ⟨by omega, fun p hp => by omega, by simp, by simp⟩) ?_)
      intro i fr H hI
      rw [hJ] at hI
      obtain ⟨hi, hinv, rfl, rfl⟩ := hI
      repeat first | refine AWp.seq ?_ | refine AWp.block ?_
      refine AWp.ops ?_
      simp
      refine AWp.seq (AWp.cond (b := decide (i < n)) (by simp <;> omega) ?_ ?_)
      ·
        intro hb
        have hb : i < n := by simpa using hb
        refine AWp.skip ?_
        simp only [qSeq]
        have hbi : i < ps.length := by omega
        have hbi1 : i + 1 < ps.length := by omega
        have wi := wrap_i64 (n := (i : Int) + 1) (by omega) (by omega)
        have gi : (0 : Int) ≤ (i : Int) + 1 := by omega
        have gi2 : ((i : Int) + 1).toNat = i + 1 := by omega
        repeat first | refine AWp.seq ?_ | refine AWp.block ?_
        refine AWp.ops ?_
        simp
        repeat first | refine AWp.seq ?_ | refine AWp.block ?_
        refine AWp.ops ?_
        simp [hbi, hbi1, wi, gi, gi2]
        by_cases h : ps[i + 1] < ps[i]
        · refine AWp.cond (b := true) (by simp [h]) (fun _ => ?_) (fun h => by cases h)
          repeat first | refine AWp.seq ?_ | refine AWp.block ?_
          refine AWp.ops ?_
          simp
          refine AWp.ret ?_
          simp
          refine retOk.of rfl ?_
          have : ¬ Sorted ps := fun hS => by
            have := hS i hbi1
            simp [hbi, hbi1] at this
            omega
          simp [hF, this]
        · refine AWp.cond (b := false) (by simp; omega) (fun h => by cases h) (fun _ => ?_)
          refine AWp.skip ?_
          simp only [qSeq, qBlock]
          repeat first | refine AWp.seq ?_ | refine AWp.block ?_
          refine AWp.ops ?_
          simp
          refine ⟨i + 1, _, _, Weak.slots [2, 75, 76], ?_, by omega⟩
          rw [hJ]
          refine ⟨by omega, ?_, by simp, by simp [wrap_i64 (n := (i : Int) + 1) (by omega) (by omega)]⟩
          intro p hp
          by_cases e : p = i
          · subst e
            simp [hbi, hbi1]
            omega
          · exact hinv p (by omega)
      ·
        intro hb
        have hb : ¬ i < n := by simpa using hb
        refine AWp.exit ?_
        simp [qSeq, qBlock]
        repeat first | refine AWp.seq ?_ | refine AWp.block ?_
        refine AWp.ops ?_
        simp
        refine AWp.ret ?_
        simp
        refine retOk.of rfl ?_
        have hS : Sorted ps := fun p hp => hinv p (by omega)
        simp [hF, g1, hb0, hbn, g2, g3, hS]
    by_cases k1 : k = 1
    · subst k1
      repeat first | refine AWp.seq ?_ | refine AWp.block ?_
      refine AWp.ops ?_
      simp
      refine AWp.cond (b := false) (by simp) (fun h => by cases h) (fun _ => ?_)
      refine AWp.skip ?_
      simp only [qSeq, qBlock]
      refine AWp.weak ?_ hT
      exact (Weak.slots [1, 2]).to (by simp) (by simp)
    · have k2 : k = 2 := by omega
      subst k2
      repeat first | refine AWp.seq ?_ | refine AWp.block ?_
      refine AWp.ops ?_
      simp
      refine AWp.cond (b := false) (by simp) (fun h => by cases h) (fun _ => ?_)
      refine AWp.skip ?_
      simp only [qSeq, qBlock]
      refine AWp.weak ?_ hT
      exact (Weak.slots [1, 2]).to (by simp) (by simp)
  refine (base.frozen 2).mono ?_
  rintro q H' ⟨rfl, r, G, rfl, rfl⟩
  exact ⟨rfl, by simp⟩
end Go.Fw
