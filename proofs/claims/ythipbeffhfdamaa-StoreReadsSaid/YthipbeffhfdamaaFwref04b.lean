import Derived.Test.YthipbeffhfdamaaFwref04a
namespace Go.Fw
open Go Go.RowKit Go.Proofs
set_option maxRecDepth 100000
set_option linter.unusedSimpArgs false
set_option linter.unusedVariables false
def r4Check_36 : AC := (.seq (.ops [.o 85 (.fad 3 (.t 2)), .o 86 (.ld 1 false (.t 85)), .m 87 (.t 9), .o 88 (.iad 1 (.t 86) (.t 87)), .o 89 (.ld 1 false (.t 88)), .o 90 (.fad 3 (.t 2)), .o 91 (.ld 1 false (.t 90)), .m 92 (.t 9), .o 93 (.bin .sub (.t 92) (.i 1)), .o 94 (.iad 1 (.t 91) (.t 93)), .o 95 (.ld 1 false (.t 94)), .o 96 (.bin .lss (.t 89) (.t 95)), .m 97 (.t 96), .og 98 97 false (.fad 0 (.t 2)), .og 99 97 false (.ld 1 false (.t 98)), .og 100 97 false (.bin .eql (.t 99) (.i 1)), .mg 101 97 false (.t 100), .og 102 101 true (.fad 3 (.t 2)), .og 103 101 true (.ld 1 false (.t 102)), .mg 104 101 true (.t 9), .og 105 101 true (.iad 1 (.t 103) (.t 104)), .og 106 101 true (.ld 1 false (.t 105)), .og 107 101 true (.fad 3 (.t 2)), .og 108 101 true (.ld 1 false (.t 107)), .mg 109 101 true (.t 9), .og 110 101 true (.bin .sub (.t 109) (.i 1)), .og 111 101 true (.iad 1 (.t 108) (.t 110)), .og 112 101 true (.ld 1 false (.t 111)), .og 113 101 true (.bin .eql (.t 106) (.t 112)), .og 114 97 false (.pick (.t 101) (.t 113) (.b false)), .o 115 (.pick (.t 97) (.b true) (.t 114))]) (.cond (.t 115) (.seq (.ops [.m 4 (.i 1)]) .ret) .skip))
def r4Check_35 : AC := (.block 5 r4Check_36)
def r4Check_34 : AC := (.seq r4Check_35 (.ops [.m 83 (.t 9), .o 84 (.bin .add (.t 83) (.i 1)), .m 9 (.t 84)]))
def r4Check_33 : AC := (.seq (.ops [.m 75 (.t 9), .o 76 (.fad 2 (.t 2)), .o 77 (.ld 1 false (.t 76)), .m 78 (.t 8), .o 79 (.bin .add (.t 78) (.i 1)), .o 80 (.iad 1 (.t 77) (.t 79)), .o 81 (.ld 1 false (.t 80)), .o 82 (.bin .lss (.t 75) (.t 81))]) (.cond (.t 82) .skip (.exit 4)))
def r4Check_32 : AC := (.seq r4Check_33 r4Check_34)
def r4Check_31 : AC := (.loop r4Check_32)
def r4Check_30 : AC := (.block 4 r4Check_31)
def r4Check_29 : AC := (.seq (.ops [.o 69 (.fad 2 (.t 2)), .o 70 (.ld 1 false (.t 69)), .m 71 (.t 8), .o 72 (.iad 1 (.t 70) (.t 71)), .o 73 (.ld 1 false (.t 72)), .o 74 (.bin .add (.t 73) (.i 1)), .m 9 (.t 74)]) r4Check_30)
def r4Check_28 : AC := (.seq (.ops [.m 68 (.t 66), .m 8 (.t 68)]) r4Check_29)
def r4Check_27 : AC := (.block 3 r4Check_28)
def r4Check_26 : AC := (.seq r4Check_27 (.ops [.o 116 (.bin .add (.t 66) (.i 1)), .m 66 (.t 116)]))
def r4Check_25 : AC := (.seq (.cond (.t 67) .skip (.exit 2)) r4Check_26)
def r4Check_24 : AC := (.seq (.ops [.o 67 (.bin .lss (.t 66) (.t 65))]) r4Check_25)
def r4Check_23 : AC := (.loop r4Check_24)
def r4Check_22 : AC := (.block 2 r4Check_23)
def r4Check_21 : AC := (.seq (.ops [.m 65 (.t 1), .m 66 (.i 0)]) r4Check_22)
def r4Check_20 : AC := (.seq r4Check_21 (.seq (.ops [.m 4 (.i 0)]) .ret))
def r4Check_19 : AC := (.seq (.ops [.o 58 (.ld 4 true (.t 2)), .c 59 false (.f 88) [(.t 58)], .m 60 (.t 59), .og 61 60 false (.fad 0 (.t 2)), .og 62 60 false (.ld 1 false (.t 61)), .og 63 60 false (.bin .eql (.t 62) (.i 3)), .o 64 (.pick (.t 60) (.b true) (.t 63))]) (.cond (.t 64) (.seq (.ops [.m 4 (.i 0)]) .ret) .skip))
def r4Check_18 : AC := (.seq r4Check_19 r4Check_20)
def r4Check_17 : AC := (.seq (.ops [.m 49 (.t 7), .o 50 (.bin .lss (.t 49) (.i 0)), .m 51 (.t 50), .mg 52 51 false (.t 7), .og 53 51 false (.fad 1 (.t 2)), .og 54 51 false (.ld 1 false (.t 53)), .og 55 51 false (.bin .geq (.t 52) (.t 54)), .o 56 (.pick (.t 51) (.b true) (.t 55))]) (.cond (.t 56) (.seq (.ops [.m 4 (.i 3)]) .ret) .skip))
def r4Check_16 : AC := (.seq (.ops [.o 47 (.iad 1 (.t 43) (.t 45)), .o 48 (.ld 1 false (.t 47)), .m 7 (.t 48)]) r4Check_17)
def r4Check_15 : AC := (.block 1 r4Check_16)
def r4Check_14 : AC := (.seq r4Check_15 (.ops [.o 57 (.bin .add (.t 45) (.i 1)), .m 45 (.t 57)]))
def r4Check_13 : AC := (.seq (.cond (.t 46) .skip (.exit 0)) r4Check_14)
def r4Check_12 : AC := (.seq (.ops [.o 46 (.bin .lss (.t 45) (.t 44))]) r4Check_13)
def r4Check_11 : AC := (.loop r4Check_12)
def r4Check_10 : AC := (.block 0 r4Check_11)
def r4Check_9 : AC := (.seq (.ops [.o 42 (.fad 3 (.t 2)), .o 43 (.ld 1 false (.t 42)), .o 44 (.len (.t 43)), .m 45 (.i 0)]) r4Check_10)
def r4Check_8 : AC := (.seq r4Check_9 r4Check_18)
def r4Check_7 : AC := (.seq (.ops [.o 32 (.fad 3 (.t 2)), .o 33 (.ld 1 false (.t 32)), .o 34 (.len (.t 33)), .o 35 (.bin .gtr (.t 34) (.i 65536)), .m 36 (.t 35), .og 37 36 false (.ld 4 true (.t 2)), .mg 38 36 false (.t 1), .cg 39 36 false false (.f 87) [(.t 37), (.t 38)], .og 40 36 false (.bin .gtr (.t 39) (.i 1048576)), .o 41 (.pick (.t 36) (.b true) (.t 40))]) (.cond (.t 41) (.seq (.ops [.m 4 (.i 2)]) .ret) .skip))
def r4Check_6 : AC := (.seq r4Check_7 r4Check_8)
def r4Check_5 : AC := (.seq (.ops [.m 29 (.t 5), .o 30 (.bin .neq (.t 29) (.i 0))]) (.cond (.t 30) (.seq (.ops [.m 31 (.t 5), .m 4 (.t 31)]) .ret) .skip))
def r4Check_4 : AC := (.seq (.ops [.o 26 (.ld 4 true (.t 2)), .m 27 (.t 1), .c 28 false (.f 93) [(.t 26), (.t 27)], .m 5 (.t 28)]) r4Check_5)
def r4Check_3 : AC := (.seq r4Check_4 r4Check_6)
def r4Check_2 : AC := (.seq (.ops [.m 10 (.t 1), .o 11 (.bin .lss (.t 10) (.i 0)), .m 12 (.t 11), .mg 13 12 false (.t 1), .og 14 12 false (.bin .gtr (.t 13) (.i 1048576)), .o 15 (.pick (.t 12) (.b true) (.t 14)), .m 16 (.t 15), .og 17 16 false (.fad 1 (.t 2)), .og 18 16 false (.ld 1 false (.t 17)), .og 19 16 false (.bin .lss (.t 18) (.i 0)), .o 20 (.pick (.t 16) (.b true) (.t 19)), .m 21 (.t 20), .og 22 21 false (.fad 1 (.t 2)), .og 23 21 false (.ld 1 false (.t 22)), .og 24 21 false (.bin .gtr (.t 23) (.i 2147483648)), .o 25 (.pick (.t 21) (.b true) (.t 24))]) (.cond (.t 25) (.seq (.ops [.m 4 (.i 1)]) .ret) .skip))
def r4Check_1 : AC := (.seq r4Check_2 r4Check_3)
def r4Check_ac : AC := (.seq (.ops [.o 2 (.new 34 4 (.t 0)), .m 4 (.i 0)]) r4Check_1)
theorem r4Check_call {args : List AV} {H : List AObj} {R : AV → List AObj → Prop} (h : AWp Try.prog [] H.length r4Check_ac (bodyQ H.length [(.t 4)] R) (args ++ List.replicate (117 - args.length) .und) H) : ACalls Try.prog 86 args H R :=
  ACalls.of_fn Try.func86 rfl (by kernel_rfl) rfl Try.ntmps86 h
set_option maxHeartbeats 4000000 in
theorem r4Check_spec {l : Lv} {p c : AV} (hl : LvOk l p c) (hsm : l.pos.length ≤ 4611686018427387903 ∧ l.crd.length ≤ 4611686018427387903) {n : Nat} (hn : n ≤ 1048576) : ACalls Try.prog 86 [.agg [I l.k, I l.sz, p, c], I n] [] fun r H' => H' = [] ∧ r = I (lvCheck l n) := by
  have hl' := hl
  obtain ⟨h1, h2, h3, h4⟩ := hl
  obtain ⟨⟨nl, cp, sz, rfl, hs⟩, hlen, hx⟩ := h1
  obtain ⟨⟨nl', cp', sz', rfl, hs'⟩, hlen', hx'⟩ := h2
  have base : ACalls Try.prog 86 [.agg [I l.k, I l.sz, .imm nl cp sz (l.pos.map I), .imm nl' cp' sz' (l.crd.map I)], I n] [] fun r H' => r = I (lvCheck l n) := by
    apply r4Check_call
    obtain ⟨bad, hbad⟩ : ∃ bad, bad = decide (l.sz < 0 ∨ 2147483648 < l.sz) := ⟨_, rfl⟩
    repeat first | refine AWp.seq ?_ | refine AWp.block ?_
    refine AWp.ops ?_
    simp
    refine AWp.seq (AWp.cut [.und, I n, .ptr 0 1 0 0, .und, .und, .und, .und, .und, .und, .und, .und, .und, .und, .und, .und, .und, .und, .und, .und, .und, .und, .und, .und, .und, .und, Bo bad, .und, .und, .und, .und, .und, .und, .und, .und, .und, .und, .und, .und, .und, .und, .und, .und, .und, .und, .und, .und, .und, .und, .und, .und, .und, .und, .und, .und, .und, .und, .und, .und, .und, .und, .und, .und, .und, .und, .und, .und, .und, .und, .und, .und, .und, .und, .und, .und, .und, .und, .und, .und, .und, .und, .und, .und, .und, .und, .und, .und, .und, .und, .und, .und, .und, .und, .und, .und, .und, .und, .und, .und, .und, .und, .und, .und, .und, .und, .und, .und, .und, .und, .und, .und, .und, .und, .und, .und, .und, .und, .und] [lvO (.agg [I l.k, I l.sz, .imm nl cp sz (l.pos.map I), .imm nl' cp' sz' (l.crd.map I)])] ?_ ?_)
    · have g0 : ¬ (n : Int) < 0 := by omega
      have g1 : ¬ 1048576 < (n : Int) := by omega
      by_cases z0 : l.sz < 0
      ·
        repeat first | refine AWp.seq ?_ | refine AWp.block ?_
        refine AWp.ops ?_
        simp [g0, g1, z0]
        exact (Weak.slots [1, 2, 25]).to (by simp [hbad, z0]) rfl
      ·
        repeat first | refine AWp.seq ?_ | refine AWp.block ?_
        refine AWp.ops ?_
        simp [g0, g1, z0]
        exact (Weak.slots [1, 2, 25]).to (by simp [hbad, z0]) rfl
    refine AWp.cond (b := bad) (by simp) ?_ ?_
    · intro h
      have h : l.sz < 0 ∨ 2147483648 < l.sz := by simpa only [hbad, decide_eq_true_eq] using h
      repeat first | refine AWp.seq ?_ | refine AWp.block ?_
      refine AWp.ops ?_
      simp
      refine AWp.ret ?_
      simp
      refine retOk.of rfl ?_
      rw [lvCheck, if_pos (by omega)]; simp
    intro h
    have hb : ¬ (l.sz < 0 ∨ 2147483648 < l.sz) := by simpa only [hbad, decide_eq_false_iff_not] using h
    have z0 : 0 ≤ l.sz := by omega
    have z1 : l.sz ≤ 2147483648 := by omega
    refine AWp.skip ?_
    simp only [qSeq]
    repeat first | refine AWp.seq ?_ | refine AWp.block ?_
    refine AWp.ops ?_
    simp
    refine ((r4form_spec hl' hsm hn).pure (by simp) (by rintro r rfl; simp) _).mono ?_
    rintro r H' ⟨rfl, rfl⟩
    simp
    repeat first | refine AWp.seq ?_ | refine AWp.block ?_
    refine AWp.ops ?_
    simp
    by_cases hf : lvFormed l n = true
    case neg =>
      refine AWp.cond (b := true) (by simp [hf]) (fun _ => ?_) (fun h => by cases h)
      repeat first | refine AWp.seq ?_ | refine AWp.block ?_
      refine AWp.ops ?_
      simp
      refine AWp.ret ?_
      simp
      refine retOk.of rfl ?_
      have : l.sz < 0 ∨ 2147483648 < l.sz ∨ lvFormed l n = false := .inr (.inr (by simpa using hf))
      rw [lvCheck, if_pos this]; simp [hf]
    refine AWp.cond (b := false) (by simp [hf]) (fun h => by cases h) (fun _ => ?_)
    have hb3 : ¬ (l.sz < 0 ∨ 2147483648 < l.sz ∨ lvFormed l n = false) := by
      rintro (h | h | h)
      · omega
      · omega
      · rw [hf] at h; cases h
    obtain ⟨lg, hlg⟩ : ∃ lg, lg = decide (65536 < l.crd.length ∨ 1048576 < lvBelow l n) := ⟨_, rfl⟩
    refine AWp.skip ?_
    simp only [qSeq]
    refine AWp.seq (AWp.cut [.und, I n, .ptr 0 1 0 0, .und, .und, .und, .und, .und, .und, .und, .und, .und, .und, .und, .und, .und, .und, .und, .und, .und, .und, .und, .und, .und, .und, .und, .und, .und, .und, .und, .und, .und, .und, .und, .und, .und, .und, .und, .und, .und, .und, Bo lg, .und, .und, .und, .und, .und, .und, .und, .und, .und, .und, .und, .und, .und, .und, .und, .und, .und, .und, .und, .und, .und, .und, .und, .und, .und, .und, .und, .und, .und, .und, .und, .und, .und, .und, .und, .und, .und, .und, .und, .und, .und, .und, .und, .und, .und, .und, .und, .und, .und, .und, .und, .und, .und, .und, .und, .und, .und, .und, .und, .und, .und, .und, .und, .und, .und, .und, .und, .und, .und, .und, .und, .und, .und, .und, .und] [lvO (.agg [I l.k, I l.sz, .imm nl cp sz (l.pos.map I), .imm nl' cp' sz' (l.crd.map I)])] ?_ ?_)
    · by_cases c1 : 65536 < l.crd.length
      · have c1' : 65536 < (l.crd.length : Int) := by omega
        repeat first | refine AWp.seq ?_ | refine AWp.block ?_
        refine AWp.ops ?_
        simp [c1']
        exact (Weak.slots [1, 2, 41]).to (by simp [hlg, c1]) rfl
      · have c1' : ¬ 65536 < (l.crd.length : Int) := by omega
        repeat first | refine AWp.seq ?_ | refine AWp.block ?_
        refine AWp.ops ?_
        simp [c1']
        refine ((r4many_spec hl' (n := n) ⟨by omega, by omega⟩ ⟨z0, z1⟩).pure (by simp) (by rintro r rfl; simp) _).mono ?_
        rintro r H' ⟨rfl, rfl⟩
        simp
        exact (Weak.slots [1, 2, 41]).to (by simp [hlg, c1]) rfl
    refine AWp.cond (b := lg) (by simp) ?_ ?_
    · intro h
      have h : 65536 < l.crd.length ∨ 1048576 < lvBelow l n := by simpa only [hlg, decide_eq_true_eq] using h
      repeat first | refine AWp.seq ?_ | refine AWp.block ?_
      refine AWp.ops ?_
      simp
      refine AWp.ret ?_
      simp
      refine retOk.of rfl ?_
      rw [lvCheck, if_neg hb3, if_pos h]; simp
    intro h
    have hg : ¬ (65536 < l.crd.length ∨ 1048576 < lvBelow l n) := by simpa only [hlg, decide_eq_false_iff_not] using h
    refine AWp.skip ?_
    simp only [qSeq]
    repeat first | refine AWp.seq ?_ | refine AWp.block ?_
    refine AWp.ops ?_
    simp
    have hlv : l.crd.any (lvOut l) = false → lvCheck l n = if lvRise l = false then 1 else 0 := by
      intro h
      rw [lvCheck, if_neg hb3, if_neg hg, if_neg (by simp [h])]
    obtain ⟨J, hJ⟩ : ∃ J : Nat → List AV → List AObj → Prop, J = fun i fr H => i ≤ l.crd.length ∧ (∀ x ∈ l.crd.take i, lvOut l x = false) ∧ H = [lvO (.agg [I l.k, I l.sz, .imm nl cp sz (l.pos.map I), .imm nl' cp' sz' (l.crd.map I)])] ∧
      fr = [.und, I n, .ptr 0 1 0 0, .und, .und, .und, .und, .und, .und, .und, .und, .und, .und, .und, .und, .und, .und, .und, .und, .und, .und, .und, .und, .und, .und, .und, .und, .und, .und, .und, .und, .und, .und, .und, .und, .und, .und, .und, .und, .und, .und, .und, .und, .imm nl' cp' sz' (l.crd.map I), I l.crd.length, I i, .und, .und, .und, .und, .und, .und, .und, .und, .und, .und, .und, .und, .und, .und, .und, .und, .und, .und, .und, .und, .und, .und, .und, .und, .und, .und, .und, .und, .und, .und, .und, .und, .und, .und, .und, .und, .und, .und, .und, .und, .und, .und, .und, .und, .und, .und, .und, .und, .und, .und, .und, .und, .und, .und, .und, .und, .und, .und, .und, .und, .und, .und, .und, .und, .und, .und, .und, .und, .und, .und, .und] := ⟨_, rfl⟩
    refine AWp.block (AWp.loop J (fun i => l.crd.length - i) 0 (Weak.slots [1, 2, 43, 44, 45]) (by rw [hJ]; exact ⟨by omega, by simp, by simp, by simp⟩) ?_)
    intro i fr H hI
    rw [hJ] at hI
    obtain ⟨hi, hinv, rfl, rfl⟩ := hI
    repeat first | refine AWp.seq ?_ | refine AWp.block ?_
    refine AWp.ops ?_
    simp
    refine AWp.seq (AWp.cond (b := decide (i < l.crd.length)) (by simp <;> omega) ?_ ?_)
    ·
      intro hb
      have hb : i < l.crd.length := by simpa using hb
      refine AWp.skip ?_
      simp only [qSeq]
      have hszc := sz_of hs' hb
      subst hszc
      repeat first | refine AWp.seq ?_ | refine AWp.block ?_
      refine AWp.ops ?_
      simp [hb]
      by_cases x0 : l.crd[i] < 0
      ·
        repeat first | refine AWp.seq ?_ | refine AWp.block ?_
        refine AWp.ops ?_
        simp [x0]
        refine AWp.cond (b := true) (by simp) (fun _ => ?_) (fun h => by cases h)
        repeat first | refine AWp.seq ?_ | refine AWp.block ?_
        refine AWp.ops ?_
        simp
        refine AWp.ret ?_
        simp
        refine retOk.of rfl ?_
        have : l.crd.any (lvOut l) = true := List.any_eq_true.2 ⟨l.crd[i], List.getElem_mem hb, by simp [lvOut, x0]⟩
        rw [lvCheck, if_neg hb3, if_neg hg, if_pos this]; simp
      by_cases x1 : l.sz ≤ l.crd[i]
      ·
        repeat first | refine AWp.seq ?_ | refine AWp.block ?_
        refine AWp.ops ?_
        simp [x0, x1]
        refine AWp.cond (b := true) (by simp [x1]) (fun _ => ?_) (fun h => by cases h)
        repeat first | refine AWp.seq ?_ | refine AWp.block ?_
        refine AWp.ops ?_
        simp
        refine AWp.ret ?_
        simp
        refine retOk.of rfl ?_
        have : l.crd.any (lvOut l) = true := List.any_eq_true.2 ⟨l.crd[i], List.getElem_mem hb, by simp [lvOut, x1]⟩
        rw [lvCheck, if_neg hb3, if_neg hg, if_pos this]; simp
      repeat first | refine AWp.seq ?_ | refine AWp.block ?_
      refine AWp.ops ?_
      simp [x0, x1]
      refine AWp.cond (b := false) (by simp [x1]) (fun h => by cases h) (fun _ => ?_)
      refine AWp.skip ?_
      simp only [qSeq, qBlock]
      repeat first | refine AWp.seq ?_ | refine AWp.block ?_
      refine AWp.ops ?_
      simp
      refine ⟨i + 1, _, _, Weak.slots [1, 2, 43, 44, 45], ?_, by omega⟩
      rw [hJ]
      refine ⟨by omega, ?_, by simp, by simp [wrap_i64 (n := (i : Int) + 1) (by omega) (by omega)]⟩
      intro x hxm
      rw [List.take_succ_eq_append_getElem hb] at hxm
      rcases List.mem_append.1 hxm with h | h
      · exact hinv x h
      · simp at h; rw [h]; simp [lvOut, x0]; omega
    ·
      intro hb
      have hb : ¬ i < l.crd.length := by simpa using hb
      refine AWp.exit ?_
      simp [qSeq, qBlock]
      have ho : l.crd.any (lvOut l) = false := by
        rw [List.take_of_length_le (by omega)] at hinv
        rw [List.any_eq_false]
        intro x hxm
        rw [hinv x hxm]; simp
      have hr : ∀ x ∈ l.crd, 0 ≤ x ∧ x < 4294967296 := by
        intro x hx
        have := List.any_eq_false.1 ho x hx
        simp [lvOut] at this
        omega
      rw [hlv ho]
      repeat first | refine AWp.seq ?_ | refine AWp.block ?_
      refine AWp.ops ?_
      simp
      refine ((r4Whole_spec hl').pure (by simp) (by rintro r rfl; simp) _).mono ?_
      rintro r H' ⟨rfl, rfl⟩
      simp
      cases hwv : lvWhole l with
      | true =>
        have hw : l.k = 0 ∨ l.k = 4 := by simpa [lvWhole] using hwv
        simp
        refine AWp.cond (b := true) (by simp) (fun _ => ?_) (fun h => by cases h)
        repeat first | refine AWp.seq ?_ | refine AWp.block ?_
        refine AWp.ops ?_
        simp
        refine AWp.ret ?_
        simp
        refine retOk.of rfl ?_
        have : lvRise l = true := by simp only [lvRise]; rw [if_neg (by omega), if_neg (by omega)]
        simp [this]
      | false =>
        have hw : ¬ (l.k = 0 ∨ l.k = 4) := by simpa only [lvWhole, decide_eq_false_iff_not] using hwv
        simp
        by_cases k3 : l.k = 3
        · refine AWp.cond (b := true) (by simp [k3]) (fun _ => ?_) (fun h => by cases h)
          repeat first | refine AWp.seq ?_ | refine AWp.block ?_
          refine AWp.ops ?_
          simp
          refine AWp.ret ?_
          simp
          refine retOk.of rfl ?_
          have : lvRise l = true := by simp only [lvRise]; rw [if_neg (by omega), if_neg (by omega)]
          simp [this]
        refine AWp.cond (b := false) (by simp [k3]) (fun h => by cases h) (fun _ => ?_)
        have h12 : l.k = 1 ∨ l.k = 2 := by
          by_cases h : l.k = 1 ∨ l.k = 2
          · exact h
          · simp only [lvFormed] at hf
            rw [if_neg (by omega), if_neg (by omega), if_neg k3, if_neg h] at hf
            cases hf
        obtain ⟨lst, hlst⟩ : ∃ lst : Int, lst = if l.k = 2 then 0 else 1 := ⟨_, rfl⟩
        have hR : lvRise l = decide (Rise l.pos l.crd lst) := by
          simp only [lvRise, hlst]
          rcases h12 with h | h <;> simp [h]
        rw [hR]
        have hP : PosOk l.pos l.crd.length n := by
          simp only [lvFormed] at hf
          rw [if_neg (by omega), if_neg (by omega), if_neg k3, if_pos h12] at hf
          have hf := of_decide_eq_true hf
          exact ⟨hf.1, hf.2.1, hf.2.2.1, hf.2.2.2⟩
        obtain ⟨k, z, ps, cs⟩ := l
        simp only at *
        obtain ⟨hpl, -, -, -⟩ := id hP
        have hszp := sz_of hs (i := 0) (by omega)
        subst hszp
        refine AWp.skip ?_
        simp only [qSeq]
        repeat first | refine AWp.seq ?_ | refine AWp.block ?_
        refine AWp.ops ?_
        simp
        obtain ⟨JK, hJK⟩ : ∃ J : Nat → List AV → List AObj → Prop, J = fun iK fr H => iK ≤ n ∧ (∀ p < iK, RiseSeg cs lst (ps.getD p 0) (ps.getD (p + 1) 0)) ∧ H = [lvO (.agg [I k, I z, .imm nl cp 1 (ps.map I), .imm nl' cp' sz' (cs.map I)])] ∧
          fr = [.und, .und, .ptr 0 1 0 0, .und, .und, .und, .und, .und, .und, .und, .und, .und, .und, .und, .und, .und, .und, .und, .und, .und, .und, .und, .und, .und, .und, .und, .und, .und, .und, .und, .und, .und, .und, .und, .und, .und, .und, .und, .und, .und, .und, .und, .und, .und, .und, .und, .und, .und, .und, .und, .und, .und, .und, .und, .und, .und, .und, .und, .und, .und, .und, .und, .und, .und, .und, I n, I iK, .und, .und, .und, .und, .und, .und, .und, .und, .und, .und, .und, .und, .und, .und, .und, .und, .und, .und, .und, .und, .und, .und, .und, .und, .und, .und, .und, .und, .und, .und, .und, .und, .und, .und, .und, .und, .und, .und, .und, .und, .und, .und, .und, .und, .und, .und, .und, .und, .und, .und] := ⟨_, rfl⟩
        refine AWp.block (AWp.loop JK (fun iK => n - iK) 0 (Weak.slots [2, 65, 66]) (by rw [hJK]; exact ⟨by omega, fun p hp => by omega, by simp, by simp⟩) ?_)
        intro iK fr H hI
        rw [hJK] at hI
        obtain ⟨hiK, hinvK, rfl, rfl⟩ := hI
        repeat first | refine AWp.seq ?_ | refine AWp.block ?_
        refine AWp.ops ?_
        simp
        refine AWp.seq (AWp.cond (b := decide (iK < n)) (by simp <;> omega) ?_ ?_)
        ·
          intro hb
          have hb : iK < n := by simpa using hb
          refine AWp.skip ?_
          simp only [qSeq]
          obtain ⟨f, t, hf', ht', hft, htc⟩ := hP.at hb
          have hbp : iK < ps.length := by omega
          have hbp1 : iK + 1 < ps.length := by omega
          have ef : ps[iK] = f := by simpa [hbp] using hf'
          have et : ps[iK + 1] = t := by simpa [hbp1] using ht'
          have hwi := wrap_i64 (n := (iK : Int) + 1) (by omega) (by omega)
          have hwf := wrap_i64 (n := (f : Int) + 1) (by omega) (by omega)
          have gi : (0 : Int) ≤ (iK : Int) + 1 := by omega
          have gi2 : ((iK : Int) + 1).toNat = iK + 1 := by omega
          repeat first | refine AWp.seq ?_ | refine AWp.block ?_
          refine AWp.ops ?_
          simp
          repeat first | refine AWp.seq ?_ | refine AWp.block ?_
          refine AWp.ops ?_
          simp [hbp, ef, hwf]
          obtain ⟨J2, hJ2⟩ : ∃ J2 : Nat → List AV → List AObj → Prop, J2 = fun j fr H => (∀ q : Nat, f < q → q < f + 1 + j → q < cs.length → cs.getD (q - 1) 0 + lst ≤ cs.getD q 0) ∧
            H = [lvO (.agg [I k, I z, .imm nl cp 1 (ps.map I), .imm nl' cp' sz' (cs.map I)])] ∧
            fr = [.und, .und, .ptr 0 1 0 0, .und, .und, .und, .und, .und, I iK, I ((f + 1 + j : Nat) : Int), .und, .und, .und, .und, .und, .und, .und, .und, .und, .und, .und, .und, .und, .und, .und, .und, .und, .und, .und, .und, .und, .und, .und, .und, .und, .und, .und, .und, .und, .und, .und, .und, .und, .und, .und, .und, .und, .und, .und, .und, .und, .und, .und, .und, .und, .und, .und, .und, .und, .und, .und, .und, .und, .und, .und, I n, I iK, .und, .und, .und, .und, .und, .und, .und, .und, .und, .und, .und, .und, .und, .und, .und, .und, .und, .und, .und, .und, .und, .und, .und, .und, .und, .und, .und, .und, .und, .und, .und, .und, .und, .und, .und, .und, .und, .und, .und, .und, .und, .und, .und, .und, .und, .und, .und, .und, .und, .und] := ⟨_, rfl⟩
          refine AWp.block (AWp.loop J2 (fun j => t - j) 0 (Weak.slots [2, 8, 9, 65, 66]) (by
            rw [hJ2]
            exact ⟨fun q h1 h2 => by omega, by simp, by simp⟩) ?_)
          intro j fr H hI
          rw [hJ2] at hI
          obtain ⟨hin, rfl, rfl⟩ := hI
          obtain ⟨q, hq⟩ : ∃ q : Nat, q = f + 1 + j := ⟨_, rfl⟩
          rw [← hq] at hin ⊢
          repeat first | refine AWp.seq ?_ | refine AWp.block ?_
          refine AWp.ops ?_
          simp [hbp1, hwi, gi, gi2, et]
          refine AWp.cond (b := decide (q < t)) (by simp) ?_ ?_
          · intro h0
            have h0 : q < t := by simpa using h0
            have wq := wrap_i64 (n := (q : Int) + 1) (by omega) (by omega)
            have wq1 := wrap_i64 (n := (q : Int) - 1) (by omega) (by omega)
            have c1 : q < cs.length := by omega
            have c2 : q - 1 < cs.length := by omega
            have g1 : (1 : Int) ≤ q := by omega
            have g2 : ((q : Int) - 1).toNat = q - 1 := by omega
            have hszc := sz_of hs' c1
            have e1 : cs.getD q 0 = cs[q] := by simp [c1]
            have e2 : cs.getD (q - 1) 0 = cs[q - 1] := by simp [c2]
            have fin : ¬ cs[q - 1] + lst ≤ cs[q] → ¬ Rise ps cs lst := fun h hR => by
              have := hR iK (by omega) q c1 (by omega) (by omega)
              omega
            refine AWp.skip ?_
            simp only [qSeq]
            by_cases d1 : cs[q] < cs[q - 1]
            ·
              repeat first | refine AWp.seq ?_ | refine AWp.block ?_
              refine AWp.ops ?_
              simp [c1, c2, g1, g2, wq1, hszc, d1]
              refine AWp.cond (b := true) (by simp) (fun _ => ?_) (fun h => by cases h)
              repeat first | refine AWp.seq ?_ | refine AWp.block ?_
              refine AWp.ops ?_
              simp
              refine AWp.ret ?_
              simp
              refine retOk.of rfl ?_
              have : ¬ Rise ps cs lst := fin (by rw [hlst]; split <;> omega)
              simp [this]
            by_cases k1 : k = 1
            · by_cases d2 : cs[q] = cs[q - 1]
              ·
                repeat first | refine AWp.seq ?_ | refine AWp.block ?_
                refine AWp.ops ?_
                simp [c1, c2, g1, g2, wq1, hszc, d1, k1, d2]
                refine AWp.cond (b := true) (by simp) (fun _ => ?_) (fun h => by cases h)
                repeat first | refine AWp.seq ?_ | refine AWp.block ?_
                refine AWp.ops ?_
                simp
                refine AWp.ret ?_
                simp
                refine retOk.of rfl ?_
                have : ¬ Rise ps cs lst := fin (by rw [hlst]; split <;> omega)
                simp [this]
              ·
                repeat first | refine AWp.seq ?_ | refine AWp.block ?_
                refine AWp.ops ?_
                simp [c1, c2, g1, g2, wq1, hszc, d1, k1, d2]
                refine AWp.cond (b := false) (by simp [d2]) (fun h => by cases h) (fun _ => ?_)
                refine AWp.skip ?_
                simp only [qSeq, qBlock]
                repeat first | refine AWp.seq ?_ | refine AWp.block ?_
                refine AWp.ops ?_
                simp [wq]
                refine ⟨j + 1, _, _, Weak.slots [2, 8, 9, 65, 66], ?_, by omega⟩
                rw [hJ2]
                refine ⟨fun q' h1 h2 h3 => ?_, by simp [k1, hszc], by simp; omega⟩
                by_cases e : q' = q
                · rw [e, e1, e2, hlst]; split <;> omega
                · exact hin q' h1 (by omega) h3
            ·
              repeat first | refine AWp.seq ?_ | refine AWp.block ?_
              refine AWp.ops ?_
              simp [c1, c2, g1, g2, wq1, hszc, d1, k1]
              refine AWp.cond (b := false) (by simp) (fun h => by cases h) (fun _ => ?_)
              refine AWp.skip ?_
              simp only [qSeq, qBlock]
              repeat first | refine AWp.seq ?_ | refine AWp.block ?_
              refine AWp.ops ?_
              simp [wq]
              refine ⟨j + 1, _, _, Weak.slots [2, 8, 9, 65, 66], ?_, by omega⟩
              rw [hJ2]
              refine ⟨fun q' h1 h2 h3 => ?_, by simp [hszc], by simp; omega⟩
              by_cases e : q' = q
              · rw [e, e1, e2, hlst]; split <;> omega
              · exact hin q' h1 (by omega) h3
          · intro h0
            have h0 : ¬ q < t := by simpa using h0
            refine AWp.exit ?_
            simp [qSeq, qBlock]
            repeat first | refine AWp.seq ?_ | refine AWp.block ?_
            refine AWp.ops ?_
            simp
            refine ⟨iK + 1, _, _, Weak.slots [2, 65, 66], ?_, by omega⟩
            rw [hJK]
            refine ⟨by omega, ?_, by simp, by simp [wrap_i64 (n := (iK : Int) + 1) (by omega) (by omega)]⟩
            intro p hp
            by_cases e : p = iK
            · subst e
              intro q' h1 h2 h3
              rw [hf'] at h2
              rw [ht'] at h3
              exact hin q' (by omega) (by omega) h1
            · exact hinvK p (by omega)
        ·
          intro hb
          have hb : ¬ iK < n := by simpa using hb
          refine AWp.exit ?_
          simp [qSeq, qBlock]
          repeat first | refine AWp.seq ?_ | refine AWp.block ?_
          refine AWp.ops ?_
          simp
          refine AWp.ret ?_
          simp
          refine retOk.of rfl ?_
          have : Rise ps cs lst := fun p hp => hinvK p (by omega)
          simp [this]
  refine (base.frozen 2).mono ?_
  rintro q H' ⟨rfl, r, G, rfl, rfl⟩
  exact ⟨rfl, by simp⟩
def r4Below_6 : AC := (.seq (.ops [.o 13 (.ld 4 true (.t 2)), .m 14 (.t 1), .c 15 false (.f 87) [(.t 13), (.t 14)], .m 4 (.t 15), .m 5 (.i 0)]) .ret)
def r4Below_5 : AC := (.seq (.ops [.m 12 (.t 6), .m 4 (.i 0), .m 5 (.t 12)]) .ret)
def r4Below_4 : AC := (.cond (.t 11) r4Below_5 .skip)
def r4Below_3 : AC := (.seq (.ops [.m 10 (.t 6), .o 11 (.bin .neq (.t 10) (.i 0))]) r4Below_4)
def r4Below_2 : AC := (.seq (.ops [.o 7 (.ld 4 true (.t 2)), .m 8 (.t 1), .c 9 false (.f 86) [(.t 7), (.t 8)], .m 6 (.t 9)]) r4Below_3)
def r4Below_1 : AC := (.seq r4Below_2 r4Below_6)
def r4Below_ac : AC := (.seq (.ops [.o 2 (.new 34 4 (.t 0)), .m 4 (.i 0), .m 5 (.i 0)]) r4Below_1)
theorem r4Below_call {args : List AV} {H : List AObj} {R : AV → List AObj → Prop} (h : AWp Try.prog [] H.length r4Below_ac (bodyQ H.length [(.t 4), (.t 5)] R) (args ++ List.replicate (16 - args.length) .und) H) : ACalls Try.prog 80 args H R :=
  ACalls.of_fn Try.func80 rfl (by kernel_rfl) rfl Try.ntmps80 h
theorem r4Below_spec {l : Lv} {p c : AV} (hl : LvOk l p c) (hsm : l.pos.length ≤ 4611686018427387903 ∧ l.crd.length ≤ 4611686018427387903) {n : Nat} (hn : n ≤ 1048576) : ACalls Try.prog 80 [.agg [I l.k, I l.sz, p, c], I n] [] fun r H' => H' = [] ∧ r = .tup [I (if lvCheck l n = 0 then lvBelow l n else 0), I (lvCheck l n)] := by
  have hl' := hl
  obtain ⟨h1, h2, h3, h4⟩ := hl
  obtain ⟨⟨nl, cp, sz, rfl, hs⟩, hlen, hx⟩ := h1
  obtain ⟨⟨nl', cp', sz', rfl, hs'⟩, hlen', hx'⟩ := h2
  have base : ACalls Try.prog 80 [.agg [I l.k, I l.sz, .imm nl cp sz (l.pos.map I), .imm nl' cp' sz' (l.crd.map I)], I n] [] fun r H' => r = .tup [I (if lvCheck l n = 0 then lvBelow l n else 0), I (lvCheck l n)] := by
    apply r4Below_call
    repeat first | refine AWp.seq ?_ | refine AWp.block ?_
    refine AWp.ops ?_
    simp
    repeat first | refine AWp.seq ?_ | refine AWp.block ?_
    refine AWp.ops ?_
    simp
    refine ((r4Check_spec hl' hsm hn).pure (by simp) (by rintro r rfl; simp) _).mono ?_
    rintro r H' ⟨rfl, rfl⟩
    simp
    repeat first | refine AWp.seq ?_ | refine AWp.block ?_
    refine AWp.ops ?_
    simp
    by_cases h : lvCheck l n = 0
    · refine AWp.cond (b := false) (by simp [h]) (fun h => by cases h) (fun _ => ?_)
      obtain ⟨b1, b2, -⟩ := lvBelow_ok h
      refine AWp.skip ?_
      simp only [qSeq]
      repeat first | refine AWp.seq ?_ | refine AWp.block ?_
      refine AWp.ops ?_
      simp
      refine ((r4many_spec hl' (n := n) ⟨by omega, by omega⟩ ⟨b1, b2⟩).pure (by simp) (by rintro r rfl; simp) _).mono ?_
      rintro r H' ⟨rfl, rfl⟩
      simp
      refine AWp.ret ?_
      simp
      refine retOk.of rfl ?_
      simp [h]
    · refine AWp.cond (b := true) (by simp [h]) (fun _ => ?_) (fun h => by cases h)
      repeat first | refine AWp.seq ?_ | refine AWp.block ?_
      refine AWp.ops ?_
      simp
      refine AWp.ret ?_
      simp
      refine retOk.of rfl ?_
      simp [h]
  refine (base.frozen 2).mono ?_
  rintro q H' ⟨rfl, r, G, rfl, rfl⟩
  exact ⟨rfl, by simp⟩
end Go.Fw
