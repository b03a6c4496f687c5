import Derived.Test.YthipbeffhfdamaaFwlevel1
namespace Go.Fw
open Go Go.RowKit Go.Proofs
set_option maxRecDepth 100000
set_option linter.unusedSimpArgs false
set_option linter.unusedVariables false
def lvFormed (l : Lv) (n : Nat) : Bool :=
  if l.k = 4 then decide (l.sz ≠ 0 ∧ l.pos.length = 0 ∧ l.crd.length = 0)
  else if l.k = 0 then decide (l.pos.length = 0 ∧ l.crd.length = 0)
  else if l.k = 3 then decide (l.pos.length = 0 ∧ l.crd.length = n)
  else if l.k = 1 ∨ l.k = 2 then decide (l.pos.length = n + 1 ∧ l.pos.getD 0 0 = 0 ∧ l.pos.getD n 0 = l.crd.length ∧ Sorted l.pos)
  else false
def formed_27 : AC := (.seq (.ops [.o 40 (.fad 2 (.t 2)), .o 41 (.ld 1 false (.t 40)), .o 42 (.len (.t 41)), .m 43 (.t 1), .o 44 (.bin .add (.t 43) (.i 1)), .o 45 (.bin .eql (.t 42) (.t 44)), .m 46 (.t 45), .og 47 46 true (.fad 2 (.t 2)), .og 48 46 true (.ld 1 false (.t 47)), .og 49 46 true (.iad 1 (.t 48) (.i 0)), .og 50 46 true (.ld 1 false (.t 49)), .og 51 46 true (.bin .eql (.t 50) (.i 0)), .o 52 (.pick (.t 46) (.t 51) (.b false)), .m 53 (.t 52), .og 54 53 true (.fad 2 (.t 2)), .og 55 53 true (.ld 1 false (.t 54)), .mg 56 53 true (.t 1), .og 57 53 true (.iad 1 (.t 55) (.t 56)), .og 58 53 true (.ld 1 false (.t 57)), .og 59 53 true (.fad 3 (.t 2)), .og 60 53 true (.ld 1 false (.t 59)), .og 61 53 true (.len (.t 60)), .og 62 53 true (.bin .eql (.t 58) (.t 61)), .o 63 (.pick (.t 53) (.t 62) (.b false)), .m 64 (.t 63), .og 65 64 true (.fad 2 (.t 2)), .og 66 64 true (.ld 1 false (.t 65)), .cg 67 64 true true (.f 94) [(.t 66)], .o 68 (.pick (.t 64) (.t 67) (.b false)), .m 4 (.t 68)]) .ret)
def formed_26 : AC := (.seq formed_27 (.exit 0))
def formed_25 : AC := (.seq (.ops [.o 29 (.fad 2 (.t 2)), .o 30 (.ld 1 false (.t 29)), .o 31 (.len (.t 30)), .o 32 (.bin .eql (.t 31) (.i 0)), .m 33 (.t 32), .og 34 33 true (.fad 3 (.t 2)), .og 35 33 true (.ld 1 false (.t 34)), .og 36 33 true (.len (.t 35)), .mg 37 33 true (.t 1), .og 38 33 true (.bin .eql (.t 36) (.t 37)), .o 39 (.pick (.t 33) (.t 38) (.b false)), .m 4 (.t 39)]) .ret)
def formed_24 : AC := (.seq formed_25 (.exit 0))
def formed_23 : AC := (.seq (.ops [.o 19 (.fad 2 (.t 2)), .o 20 (.ld 1 false (.t 19)), .o 21 (.len (.t 20)), .o 22 (.bin .eql (.t 21) (.i 0)), .m 23 (.t 22), .og 24 23 true (.fad 3 (.t 2)), .og 25 23 true (.ld 1 false (.t 24)), .og 26 23 true (.len (.t 25)), .og 27 23 true (.bin .eql (.t 26) (.i 0)), .o 28 (.pick (.t 23) (.t 27) (.b false)), .m 4 (.t 28)]) .ret)
def formed_22 : AC := (.seq formed_23 (.exit 0))
def formed_21 : AC := (.seq (.ops [.o 16 (.fad 1 (.t 2)), .o 17 (.ld 1 false (.t 16)), .o 18 (.bin .eql (.t 17) (.i 0))]) (.cond (.t 18) (.seq (.ops [.m 4 (.b false)]) .ret) .skip))
def formed_20 : AC := (.seq (.ops [.o 14 (.bin .eql (.t 6) (.i 1)), .m 13 (.t 14)]) (.cond (.t 13) .skip (.ops [.o 15 (.bin .eql (.t 6) (.i 2)), .m 13 (.t 15)])))
def formed_19 : AC := (.seq formed_20 (.cond (.t 13) (.exit 4) .skip))
def formed_18 : AC := (.seq (.ops [.o 12 (.bin .eql (.t 6) (.i 3)), .m 11 (.t 12)]) (.cond (.t 11) (.exit 3) .skip))
def formed_17 : AC := (.seq formed_18 formed_19)
def formed_16 : AC := (.seq (.ops [.o 10 (.bin .eql (.t 6) (.i 0)), .m 9 (.t 10)]) (.cond (.t 9) (.exit 2) .skip))
def formed_15 : AC := (.seq formed_16 formed_17)
def formed_14 : AC := (.seq (.ops [.o 8 (.bin .eql (.t 6) (.i 4)), .m 7 (.t 8)]) (.cond (.t 7) (.exit 1) .skip))
def formed_13 : AC := (.seq formed_14 formed_15)
def formed_12 : AC := (.seq formed_13 (.exit 0))
def formed_11 : AC := (.block 1 formed_12)
def formed_10 : AC := (.seq formed_11 formed_21)
def formed_9 : AC := (.block 2 formed_10)
def formed_8 : AC := (.seq formed_9 formed_22)
def formed_7 : AC := (.block 3 formed_8)
def formed_6 : AC := (.seq formed_7 formed_24)
def formed_5 : AC := (.block 4 formed_6)
def formed_4 : AC := (.seq formed_5 formed_26)
def formed_3 : AC := (.block 0 formed_4)
def formed_2 : AC := (.seq (.ops [.o 5 (.fad 0 (.t 2)), .o 6 (.ld 1 false (.t 5))]) formed_3)
def formed_1 : AC := (.seq formed_2 (.seq (.ops [.m 4 (.b false)]) .ret))
def formed_ac : AC := (.seq (.ops [.o 2 (.new 34 4 (.t 0)), .m 4 (.b false)]) formed_1)
theorem formed_call {args : List AV} {H : List AObj} {R : AV → List AObj → Prop} (h : AWp Try.prog [] H.length formed_ac (bodyQ H.length [(.t 4)] R) (args ++ List.replicate (69 - args.length) .und) H) : ACalls Try.prog 89 args H R :=
  ACalls.of_fn Try.func89 rfl (by kernel_rfl) rfl Try.ntmps89 h
set_option maxHeartbeats 2000000 in
theorem formed_spec {l : Lv} {p c : AV} (hl : LvOk l p c) {n : Nat} (hn : n ≤ 1048576) : ACalls Try.prog 89 [.agg [I l.k, I l.sz, p, c], I n] [] fun r H' => H' = [] ∧ r = Bo (lvFormed l n) := by
  obtain ⟨k, z, ps, cs⟩ := l
  obtain ⟨h1, h2, h3, h4⟩ := hl
  have h1' := h1
  simp only at h1 h2 h3 h4
  obtain ⟨⟨nl, cp, sz, rfl, hs⟩, hlen, hx⟩ := h1
  obtain ⟨⟨nl', cp', sz', rfl, hs'⟩, hlen', hx'⟩ := h2
  simp only at h1' ⊢
  have base : ACalls Try.prog 89 [.agg [I k, I z, .imm nl cp sz (ps.map I), .imm nl' cp' sz' (cs.map I)], I n] [] fun r H' => r = Bo (lvFormed ⟨k, z, ps, cs⟩ n) := by
    apply formed_call
    repeat first | refine AWp.seq ?_ | refine AWp.block ?_
    refine AWp.ops ?_
    simp
    repeat first | refine AWp.seq ?_ | refine AWp.block ?_
    refine AWp.ops ?_
    simp
    refine AWp.block (AWp.seq (AWp.block (AWp.seq (AWp.block (AWp.seq (AWp.block (AWp.seq (AWp.block (AWp.seq (AWp.seq (AWp.seq (AWp.ops ?_))))))))))))
    simp
    by_cases k4 : k = 4
    · refine AWp.cond (b := true) (by simp [k4]) (fun _ => ?_) (fun h => by cases h)
      refine AWp.exit ?_
      simp [qSeq, qBlock]
      repeat first | refine AWp.seq ?_ | refine AWp.block ?_
      refine AWp.ops ?_
      simp
      by_cases hz : z = 0
      · refine AWp.cond (b := true) (by simp [hz]) (fun _ => ?_) (fun h => by cases h)
        repeat first | refine AWp.seq ?_ | refine AWp.block ?_
        refine AWp.ops ?_
        simp
        refine AWp.ret ?_
        simp
        refine retOk.of rfl ?_
        simp [lvFormed, k4, hz]
      refine AWp.cond (b := false) (by simp [hz]) (fun h => by cases h) (fun _ => ?_)
      refine AWp.skip ?_
      by_cases hp : ps.length = 0
      ·
        repeat first | refine AWp.seq ?_ | refine AWp.block ?_
        refine AWp.ops ?_
        simp [hp]
        refine AWp.ret ?_
        simp
        refine retOk.of rfl ?_
        by_cases hc : cs.length = 0 <;> simp [lvFormed, k4, hz, hp, hc]
      ·
        repeat first | refine AWp.seq ?_ | refine AWp.block ?_
        refine AWp.ops ?_
        simp [hp]
        refine AWp.ret ?_
        simp
        refine retOk.of rfl ?_
        simp [lvFormed, k4, hz, hp]
    refine AWp.cond (b := false) (by simp [k4]) (fun h => by cases h) (fun _ => ?_)
    refine AWp.skip ?_
    simp only [qSeq]
    repeat first | refine AWp.seq ?_ | refine AWp.block ?_
    refine AWp.ops ?_
    simp
    by_cases k0 : k = 0
    · refine AWp.cond (b := true) (by simp [k0]) (fun _ => ?_) (fun h => by cases h)
      refine AWp.exit ?_
      simp [qSeq, qBlock]
      by_cases hp : ps.length = 0
      ·
        repeat first | refine AWp.seq ?_ | refine AWp.block ?_
        refine AWp.ops ?_
        simp [hp]
        refine AWp.ret ?_
        simp
        refine retOk.of rfl ?_
        by_cases hc : cs.length = 0 <;> simp [lvFormed, k4, k0, hp, hc]
      ·
        repeat first | refine AWp.seq ?_ | refine AWp.block ?_
        refine AWp.ops ?_
        simp [hp]
        refine AWp.ret ?_
        simp
        refine retOk.of rfl ?_
        simp [lvFormed, k4, k0, hp]
    refine AWp.cond (b := false) (by simp [k0]) (fun h => by cases h) (fun _ => ?_)
    refine AWp.skip ?_
    simp only [qSeq]
    repeat first | refine AWp.seq ?_ | refine AWp.block ?_
    refine AWp.ops ?_
    simp
    by_cases k3 : k = 3
    · refine AWp.cond (b := true) (by simp [k3]) (fun _ => ?_) (fun h => by cases h)
      refine AWp.exit ?_
      simp [qSeq, qBlock]
      by_cases hp : ps.length = 0
      ·
        repeat first | refine AWp.seq ?_ | refine AWp.block ?_
        refine AWp.ops ?_
        simp [hp]
        refine AWp.ret ?_
        simp
        refine retOk.of rfl ?_
        by_cases hc : cs.length = n <;> simp [lvFormed, k4, k0, k3, hp, hc] <;> omega
      ·
        repeat first | refine AWp.seq ?_ | refine AWp.block ?_
        refine AWp.ops ?_
        simp [hp]
        refine AWp.ret ?_
        simp
        refine retOk.of rfl ?_
        simp [lvFormed, k4, k0, k3, hp]
    refine AWp.cond (b := false) (by simp [k3]) (fun h => by cases h) (fun _ => ?_)
    refine AWp.skip ?_
    simp only [qSeq]
    obtain ⟨sw, hsw⟩ : ∃ sw, sw = decide (k = 1 ∨ k = 2) := ⟨_, rfl⟩
    refine AWp.cut [.und, I n, .ptr 0 1 0 0, .und, .und, .und, .und, .und, .und, .und, .und, .und, .und, Bo sw, .und, .und, .und, .und, .und, .und, .und, .und, .und, .und, .und, .und, .und, .und, .und, .und, .und, .und, .und, .und, .und, .und, .und, .und, .und, .und, .und, .und, .und, .und, .und, .und, .und, .und, .und, .und, .und, .und, .und, .und, .und, .und, .und, .und, .und, .und, .und, .und, .und, .und, .und, .und, .und, .und, .und] [lvO (.agg [I k, I z, .imm nl cp sz (ps.map I), .imm nl' cp' sz' (cs.map I)])] ?_ ?_
    ·
      repeat first | refine AWp.seq ?_ | refine AWp.block ?_
      refine AWp.ops ?_
      simp
      by_cases k1 : k = 1
      · refine AWp.cond (b := true) (by simp [k1]) (fun _ => ?_) (fun h => by cases h)
        refine AWp.skip ?_
        simp only [qSeq]
        exact (Weak.slots [1, 2, 13]).to (by simp [hsw, k1]) rfl
      refine AWp.cond (b := false) (by simp [k1]) (fun h => by cases h) (fun _ => ?_)
      repeat first | refine AWp.seq ?_ | refine AWp.block ?_
      refine AWp.ops ?_
      simp
      exact (Weak.slots [1, 2, 13]).to (by by_cases k2 : k = 2 <;> simp [hsw, k1, k2]) rfl
    refine AWp.cond (b := sw) (by simp) ?_ ?_
    · intro h
      have h : k = 1 ∨ k = 2 := by simpa [hsw] using h
      refine AWp.exit ?_
      simp [qSeq, qBlock]
      have hw := wrap_i64 (n := (n : Int) + 1) (by omega) (by omega)
      have hF : lvFormed ⟨k, z, ps, cs⟩ n = decide (ps.length = n + 1 ∧ ps.getD 0 0 = 0 ∧ ps.getD n 0 = cs.length ∧ Sorted ps) := by
        simp only [lvFormed]
        rw [if_neg k4, if_neg k0, if_neg k3, if_pos h]
      by_cases g1 : ps.length = n + 1
      case neg =>
        have g1' : ¬ (ps.length : Int) = (n : Int) + 1 := by omega
        repeat first | refine AWp.seq ?_ | refine AWp.block ?_
        refine AWp.ops ?_
        simp [hw, g1']
        refine AWp.ret ?_
        simp
        refine retOk.of rfl ?_
        simp [hF, g1]
      have g1' : (ps.length : Int) = (n : Int) + 1 := by omega
      have hb0 : 0 < ps.length := by omega
      have hbn : n < ps.length := by omega
      have hsz := sz_of hs hb0
      subst hsz
      by_cases g2 : ps[0] = 0
      case neg =>
        repeat first | refine AWp.seq ?_ | refine AWp.block ?_
        refine AWp.ops ?_
        simp [hw, g1', hb0, g2]
        refine AWp.ret ?_
        simp
        refine retOk.of rfl ?_
        simp [hF, g1, hb0, g2]
      by_cases g3 : ps[n] = cs.length
      case neg =>
        repeat first | refine AWp.seq ?_ | refine AWp.block ?_
        refine AWp.ops ?_
        simp [hw, g1', hb0, g2, hbn, g3]
        refine AWp.ret ?_
        simp
        refine retOk.of rfl ?_
        simp [hF, g1, hb0, hbn, g2, g3]
      repeat first | refine AWp.seq ?_ | refine AWp.block ?_
      refine AWp.ops ?_
      simp [hw, g1', hb0, g2, hbn, g3]
      refine ((IsSorted_spec h1').pure (by simp) (by rintro r rfl; simp) _).mono ?_
      rintro r H' ⟨rfl, rfl⟩
      simp
      refine AWp.ret ?_
      simp
      refine retOk.of rfl ?_
      simp [hF, g1, hb0, hbn, g2, g3]
    · intro h
      have h : ¬ (k = 1 ∨ k = 2) := by simpa only [hsw, decide_eq_false_iff_not] using h
      refine AWp.skip ?_
      simp only [qSeq]
      refine AWp.exit ?_
      simp [qSeq, qBlock]
      repeat first | refine AWp.seq ?_ | refine AWp.block ?_
      refine AWp.ops ?_
      simp
      refine AWp.ret ?_
      simp
      refine retOk.of rfl ?_
      simp only [lvFormed]
      rw [if_neg k4, if_neg k0, if_neg k3, if_neg h]
      simp
  refine (base.frozen 2).mono ?_
  rintro q H' ⟨rfl, r, G, rfl, rfl⟩
  exact ⟨rfl, by simp⟩
end Go.Fw
