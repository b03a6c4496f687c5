import Derived.Test.YtkfooghdpfhiaaaFwstore7
namespace Go.Fw
open Go Go.RowKit Go.Proofs
set_option maxRecDepth 100000
set_option linter.unusedSimpArgs false
set_option linter.unusedVariables false

def r4Whole_1 : AC := (.seq (.ops [⟨(some 3), none, (.k (.fad 0 (.t 1)))⟩, ⟨(some 4), none, (.k (.ld 1 false (.t 3)))⟩, ⟨(some 5), none, (.k (.bin .eql (.t 4) (.c (.sc (.int .i64 0)))))⟩, ⟨(some 6), none, (.k (.mov (.t 5)))⟩, ⟨(some 7), (some (6, false)), (.k (.fad 0 (.t 1)))⟩, ⟨(some 8), (some (6, false)), (.k (.ld 1 false (.t 7)))⟩, ⟨(some 9), (some (6, false)), (.k (.bin .eql (.t 8) (.c (.sc (.int .i64 4)))))⟩, ⟨(some 10), none, (.k (.pick (.t 6) (.c (.sc (.bool true))) (.t 9)))⟩, ⟨(some 2), none, (.k (.mov (.t 10)))⟩]) .ret)
def r4Whole_ac : AC := (.seq (.ops [⟨(some 1), none, (.k (.new 97 4 (.t 0)))⟩, ⟨(some 2), none, (.k (.mov (.c (.sc (.bool false)))))⟩]) r4Whole_1)
theorem r4Whole_call {args : List AV} {H : List AObj} {R : AV → List AObj → Prop} (h : AWp Try.prog [] H.length r4Whole_ac (bodyQ H.length [(.t 2)] R) (args ++ List.replicate (11 - args.length) .und) H) : ACalls Try.prog 104 args H R :=
  ACalls.of_fn Try.func104 rfl (by kernel_rfl) rfl Try.ntmps104 h

theorem r4Whole_spec {l : Lv} {p c : AV} (hl : LvOk l p c) : ACalls Try.prog 104 [.agg [I l.k, I l.sz, p, c]] [] fun r H' => H' = [] ∧ r = Bo (lvWhole l) := by
  obtain ⟨h1, h2, h3, h4⟩ := hl
  obtain ⟨⟨nl, cp, sz, rfl, hs⟩, hlen, hx⟩ := h1
  obtain ⟨⟨nl', cp', sz', rfl, hs'⟩, hlen', hx'⟩ := h2
  have base : ACalls Try.prog 104 [.agg [I l.k, I l.sz, .imm nl cp sz (l.pos.map I), .imm nl' cp' sz' (l.crd.map I)]] [] fun r H' => r = Bo (lvWhole l) := by
    apply r4Whole_call
    first | refine AWp.seq (AWp.ops ?_) | refine AWp.seq (AWp.seq (AWp.ops ?_)) | refine AWp.ops ?_ | refine AWp.seq (AWp.block (AWp.seq (AWp.ops ?_))) | refine AWp.seq (AWp.seq (AWp.seq (AWp.ops ?_))) | refine AWp.block (AWp.seq (AWp.ops ?_)) | refine AWp.block (AWp.seq (AWp.seq (AWp.ops ?_))) | refine AWp.seq (AWp.block (AWp.seq (AWp.seq (AWp.ops ?_))))
    simp
    by_cases h0 : l.k = 0
    ·
      first | refine AWp.seq (AWp.ops ?_) | refine AWp.seq (AWp.seq (AWp.ops ?_)) | refine AWp.ops ?_ | refine AWp.seq (AWp.block (AWp.seq (AWp.ops ?_))) | refine AWp.seq (AWp.seq (AWp.seq (AWp.ops ?_))) | refine AWp.block (AWp.seq (AWp.ops ?_)) | refine AWp.block (AWp.seq (AWp.seq (AWp.ops ?_))) | refine AWp.seq (AWp.block (AWp.seq (AWp.seq (AWp.ops ?_))))
      simp [h0]
      refine AWp.ret ?_
      simp
      refine retOk.of rfl ?_
      simp [lvWhole, h0]
    ·
      first | refine AWp.seq (AWp.ops ?_) | refine AWp.seq (AWp.seq (AWp.ops ?_)) | refine AWp.ops ?_ | refine AWp.seq (AWp.block (AWp.seq (AWp.ops ?_))) | refine AWp.seq (AWp.seq (AWp.seq (AWp.ops ?_))) | refine AWp.block (AWp.seq (AWp.ops ?_)) | refine AWp.block (AWp.seq (AWp.seq (AWp.ops ?_))) | refine AWp.seq (AWp.block (AWp.seq (AWp.seq (AWp.ops ?_))))
      simp [h0]
      refine AWp.ret ?_
      simp
      refine retOk.of rfl ?_
      by_cases h4 : l.k = 4 <;> simp [lvWhole, h0, h4]
  refine (base.frozen 2).mono ?_
  rintro q H' ⟨rfl, r, G, rfl, rfl⟩
  exact ⟨rfl, by simp⟩

def r4many_5 : AC := (.seq (.ops [⟨(some 11), none, (.k (.fad 3 (.t 2)))⟩, ⟨(some 12), none, (.k (.ld 1 false (.t 11)))⟩, ⟨(some 13), none, (.k (.len (.t 12)))⟩, ⟨(some 4), none, (.k (.mov (.t 13)))⟩]) .ret)
def r4many_4 : AC := (.seq (.ops [⟨(some 7), none, (.k (.mov (.t 1)))⟩, ⟨(some 8), none, (.k (.fad 1 (.t 2)))⟩, ⟨(some 9), none, (.k (.ld 1 false (.t 8)))⟩, ⟨(some 10), none, (.k (.bin .mul (.t 7) (.t 9)))⟩, ⟨(some 4), none, (.k (.mov (.t 10)))⟩]) .ret)
def r4many_3 : AC := (.cond (.t 6) r4many_4 .skip)
def r4many_2 : AC := (.seq (.ops [⟨(some 5), none, (.k (.ld 4 true (.t 2)))⟩, ⟨(some 6), none, (.call false (.c (.fn (.func 104) [] [])) [(.t 5)])⟩]) r4many_3)
def r4many_1 : AC := (.seq r4many_2 r4many_5)
def r4many_ac : AC := (.seq (.ops [⟨(some 2), none, (.k (.new 97 4 (.t 0)))⟩, ⟨(some 4), none, (.k (.mov (.c (.sc (.int .i64 0)))))⟩]) r4many_1)
theorem r4many_call {args : List AV} {H : List AObj} {R : AV → List AObj → Prop} (h : AWp Try.prog [] H.length r4many_ac (bodyQ H.length [(.t 4)] R) (args ++ List.replicate (14 - args.length) .und) H) : ACalls Try.prog 98 args H R :=
  ACalls.of_fn Try.func98 rfl (by kernel_rfl) rfl Try.ntmps98 h

theorem r4many_spec {l : Lv} {p c : AV} (hl : LvOk l p c) {n : Int} (hn : 0 ≤ n ∧ n ≤ 1048576) (hz : 0 ≤ l.sz ∧ l.sz ≤ 2147483648) : ACalls Try.prog 98 [.agg [I l.k, I l.sz, p, c], I n] [] fun r H' => H' = [] ∧ r = I (lvBelow l n) := by
  have hl' := hl
  obtain ⟨h1, h2, h3, h4⟩ := hl
  obtain ⟨⟨nl, cp, sz, rfl, hs⟩, hlen, hx⟩ := h1
  obtain ⟨⟨nl', cp', sz', rfl, hs'⟩, hlen', hx'⟩ := h2
  have base : ACalls Try.prog 98 [.agg [I l.k, I l.sz, .imm nl cp sz (l.pos.map I), .imm nl' cp' sz' (l.crd.map I)], I n] [] fun r H' => r = I (lvBelow l n) := by
    apply r4many_call
    first | refine AWp.seq (AWp.ops ?_) | refine AWp.seq (AWp.seq (AWp.ops ?_)) | refine AWp.ops ?_ | refine AWp.seq (AWp.block (AWp.seq (AWp.ops ?_))) | refine AWp.seq (AWp.seq (AWp.seq (AWp.ops ?_))) | refine AWp.block (AWp.seq (AWp.ops ?_)) | refine AWp.block (AWp.seq (AWp.seq (AWp.ops ?_))) | refine AWp.seq (AWp.block (AWp.seq (AWp.seq (AWp.ops ?_))))
    simp
    first | refine AWp.seq (AWp.ops ?_) | refine AWp.seq (AWp.seq (AWp.ops ?_)) | refine AWp.ops ?_ | refine AWp.seq (AWp.block (AWp.seq (AWp.ops ?_))) | refine AWp.seq (AWp.seq (AWp.seq (AWp.ops ?_))) | refine AWp.block (AWp.seq (AWp.ops ?_)) | refine AWp.block (AWp.seq (AWp.seq (AWp.ops ?_))) | refine AWp.seq (AWp.block (AWp.seq (AWp.seq (AWp.ops ?_))))
    simp
    refine ((r4Whole_spec hl').pure (by simp) (by rintro r rfl; simp) _).mono ?_
    rintro r H' ⟨rfl, rfl⟩
    simp
    have hb : n * l.sz ≤ 1048576 * 2147483648 := Int.mul_le_mul hn.2 hz.2 hz.1 (by omega)
    have hb0 : 0 ≤ n * l.sz := Int.mul_nonneg hn.1 hz.1
    have hw := wrap_i64 (n := n * l.sz) (by omega) (by omega)
    refine AWp.cond (b := lvWhole l) (by simp) ?_ ?_
    · intro h
      first | refine AWp.seq (AWp.ops ?_) | refine AWp.seq (AWp.seq (AWp.ops ?_)) | refine AWp.ops ?_ | refine AWp.seq (AWp.block (AWp.seq (AWp.ops ?_))) | refine AWp.seq (AWp.seq (AWp.seq (AWp.ops ?_))) | refine AWp.block (AWp.seq (AWp.ops ?_)) | refine AWp.block (AWp.seq (AWp.seq (AWp.ops ?_))) | refine AWp.seq (AWp.block (AWp.seq (AWp.seq (AWp.ops ?_))))
      simp [hw]
      refine AWp.ret ?_
      simp
      refine retOk.of rfl ?_
      have h : l.k = 0 ∨ l.k = 4 := by simpa [lvWhole] using h
      rw [lvBelow, if_pos h]; simp
    · intro h
      have h : ¬ (l.k = 0 ∨ l.k = 4) := by simpa only [lvWhole, decide_eq_false_iff_not] using h
      refine AWp.skip ?_
      simp only [qSeq]
      first | refine AWp.seq (AWp.ops ?_) | refine AWp.seq (AWp.seq (AWp.ops ?_)) | refine AWp.ops ?_ | refine AWp.seq (AWp.block (AWp.seq (AWp.ops ?_))) | refine AWp.seq (AWp.seq (AWp.seq (AWp.ops ?_))) | refine AWp.block (AWp.seq (AWp.ops ?_)) | refine AWp.block (AWp.seq (AWp.seq (AWp.ops ?_))) | refine AWp.seq (AWp.block (AWp.seq (AWp.seq (AWp.ops ?_))))
      simp
      refine AWp.ret ?_
      simp
      refine retOk.of rfl ?_
      rw [lvBelow, if_neg h]; simp
  refine (base.frozen 2).mono ?_
  rintro q H' ⟨rfl, r, G, rfl, rfl⟩
  exact ⟨rfl, by simp⟩

def r4form_23 : AC := (.seq (.ops [⟨(some 79), none, (.k (.fad 2 (.t 2)))⟩, ⟨(some 80), none, (.k (.ld 1 false (.t 79)))⟩, ⟨(some 81), none, (.k (.mov (.t 5)))⟩, ⟨(some 82), none, (.k (.bin .add (.t 81) (.c (.sc (.int .i64 1)))))⟩, ⟨(some 83), none, (.k (.iad 1 (.t 80) (.t 82)))⟩, ⟨(some 84), none, (.k (.ld 1 false (.t 83)))⟩, ⟨(some 85), none, (.k (.fad 2 (.t 2)))⟩, ⟨(some 86), none, (.k (.ld 1 false (.t 85)))⟩, ⟨(some 87), none, (.k (.mov (.t 5)))⟩, ⟨(some 88), none, (.k (.iad 1 (.t 86) (.t 87)))⟩, ⟨(some 89), none, (.k (.ld 1 false (.t 88)))⟩, ⟨(some 90), none, (.k (.bin .lss (.t 84) (.t 89)))⟩]) (.cond (.t 90) (.seq (.ops [⟨(some 4), none, (.k (.mov (.c (.sc (.int .i64 1)))))⟩]) .ret) .skip))
def r4form_22 : AC := (.seq (.ops [⟨(some 78), none, (.k (.mov (.t 76)))⟩, ⟨(some 5), none, (.k (.mov (.t 78)))⟩]) r4form_23)
def r4form_21 : AC := (.block 2 r4form_22)
def r4form_20 : AC := (.seq r4form_21 (.ops [⟨(some 91), none, (.k (.bin .add (.t 76) (.c (.sc (.int .i64 1)))))⟩, ⟨(some 76), none, (.k (.mov (.t 91)))⟩]))
def r4form_19 : AC := (.seq (.cond (.t 77) .skip (.exit 1)) r4form_20)
def r4form_18 : AC := (.seq (.ops [⟨(some 77), none, (.k (.bin .lss (.t 76) (.t 75)))⟩]) r4form_19)
def r4form_17 : AC := (.loop r4form_18)
def r4form_16 : AC := (.block 1 r4form_17)
def r4form_15 : AC := (.seq (.ops [⟨(some 75), none, (.k (.mov (.t 1)))⟩, ⟨(some 76), none, (.k (.mov (.c (.sc (.int .i64 0)))))⟩]) r4form_16)
def r4form_14 : AC := (.seq r4form_15 (.seq (.ops [⟨(some 4), none, (.k (.mov (.c (.sc (.int .i64 0)))))⟩]) .ret))
def r4form_13 : AC := (.seq (.ops [⟨(some 51), none, (.k (.fad 2 (.t 2)))⟩, ⟨(some 52), none, (.k (.ld 1 false (.t 51)))⟩, ⟨(some 53), none, (.k (.len (.t 52)))⟩, ⟨(some 54), none, (.k (.mov (.t 1)))⟩, ⟨(some 55), none, (.k (.bin .add (.t 54) (.c (.sc (.int .i64 1)))))⟩, ⟨(some 56), none, (.k (.bin .neq (.t 53) (.t 55)))⟩, ⟨(some 57), none, (.k (.mov (.t 56)))⟩, ⟨(some 58), (some (57, false)), (.k (.fad 2 (.t 2)))⟩, ⟨(some 59), (some (57, false)), (.k (.ld 1 false (.t 58)))⟩, ⟨(some 60), (some (57, false)), (.k (.iad 1 (.t 59) (.c (.sc (.int .i64 0)))))⟩, ⟨(some 61), (some (57, false)), (.k (.ld 1 false (.t 60)))⟩, ⟨(some 62), (some (57, false)), (.k (.bin .neq (.t 61) (.c (.sc (.int .i64 0)))))⟩, ⟨(some 63), none, (.k (.pick (.t 57) (.c (.sc (.bool true))) (.t 62)))⟩, ⟨(some 64), none, (.k (.mov (.t 63)))⟩, ⟨(some 65), (some (64, false)), (.k (.fad 2 (.t 2)))⟩, ⟨(some 66), (some (64, false)), (.k (.ld 1 false (.t 65)))⟩, ⟨(some 67), (some (64, false)), (.k (.mov (.t 1)))⟩, ⟨(some 68), (some (64, false)), (.k (.iad 1 (.t 66) (.t 67)))⟩, ⟨(some 69), (some (64, false)), (.k (.ld 1 false (.t 68)))⟩, ⟨(some 70), (some (64, false)), (.k (.fad 3 (.t 2)))⟩, ⟨(some 71), (some (64, false)), (.k (.ld 1 false (.t 70)))⟩, ⟨(some 72), (some (64, false)), (.k (.len (.t 71)))⟩, ⟨(some 73), (some (64, false)), (.k (.bin .neq (.t 69) (.t 72)))⟩, ⟨(some 74), none, (.k (.pick (.t 64) (.c (.sc (.bool true))) (.t 73)))⟩]) (.cond (.t 74) (.seq (.ops [⟨(some 4), none, (.k (.mov (.c (.sc (.int .i64 1)))))⟩]) .ret) .skip))
def r4form_12 : AC := (.seq r4form_13 r4form_14)
def r4form_11 : AC := (.seq (.ops [⟨(some 43), none, (.k (.fad 0 (.t 2)))⟩, ⟨(some 44), none, (.k (.ld 1 false (.t 43)))⟩, ⟨(some 45), none, (.k (.bin .neq (.t 44) (.c (.sc (.int .i64 1)))))⟩, ⟨(some 46), none, (.k (.mov (.t 45)))⟩, ⟨(some 47), (some (46, true)), (.k (.fad 0 (.t 2)))⟩, ⟨(some 48), (some (46, true)), (.k (.ld 1 false (.t 47)))⟩, ⟨(some 49), (some (46, true)), (.k (.bin .neq (.t 48) (.c (.sc (.int .i64 2)))))⟩, ⟨(some 50), none, (.k (.pick (.t 46) (.t 49) (.c (.sc (.bool false)))))⟩, ⟨(some 42), none, (.k (.mov (.t 50)))⟩]) (.cond (.t 42) (.seq (.ops [⟨(some 4), none, (.k (.mov (.c (.sc (.int .i64 1)))))⟩]) .ret) .skip))
def r4form_10 : AC := (.seq (.ops [⟨(some 31), none, (.k (.fad 2 (.t 2)))⟩, ⟨(some 32), none, (.k (.ld 1 false (.t 31)))⟩, ⟨(some 33), none, (.k (.len (.t 32)))⟩, ⟨(some 34), none, (.k (.bin .gtr (.t 33) (.c (.sc (.int .i64 0)))))⟩, ⟨(some 35), none, (.k (.mov (.t 34)))⟩, ⟨(some 36), (some (35, false)), (.k (.fad 3 (.t 2)))⟩, ⟨(some 37), (some (35, false)), (.k (.ld 1 false (.t 36)))⟩, ⟨(some 38), (some (35, false)), (.k (.len (.t 37)))⟩, ⟨(some 39), (some (35, false)), (.k (.mov (.t 1)))⟩, ⟨(some 40), (some (35, false)), (.k (.bin .neq (.t 38) (.t 39)))⟩, ⟨(some 41), none, (.k (.pick (.t 35) (.c (.sc (.bool true))) (.t 40)))⟩]) (.cond (.t 41) (.seq (.ops [⟨(some 4), none, (.k (.mov (.c (.sc (.int .i64 1)))))⟩]) .ret) .skip))
def r4form_9 : AC := (.seq r4form_10 (.seq (.ops [⟨(some 4), none, (.k (.mov (.c (.sc (.int .i64 0)))))⟩]) .ret))
def r4form_8 : AC := (.cond (.t 27) r4form_9 r4form_11)
def r4form_7 : AC := (.seq (.ops [⟨(some 28), none, (.k (.fad 0 (.t 2)))⟩, ⟨(some 29), none, (.k (.ld 1 false (.t 28)))⟩, ⟨(some 30), none, (.k (.bin .eql (.t 29) (.c (.sc (.int .i64 3)))))⟩, ⟨(some 27), none, (.k (.mov (.t 30)))⟩]) r4form_8)
def r4form_6 : AC := (.seq (.ops [⟨(some 9), none, (.k (.fad 2 (.t 2)))⟩, ⟨(some 10), none, (.k (.ld 1 false (.t 9)))⟩, ⟨(some 11), none, (.k (.len (.t 10)))⟩, ⟨(some 12), none, (.k (.fad 3 (.t 2)))⟩, ⟨(some 13), none, (.k (.ld 1 false (.t 12)))⟩, ⟨(some 14), none, (.k (.len (.t 13)))⟩, ⟨(some 15), none, (.k (.bin .add (.t 11) (.t 14)))⟩, ⟨(some 16), none, (.k (.bin .gtr (.t 15) (.c (.sc (.int .i64 0)))))⟩, ⟨(some 17), none, (.k (.mov (.t 16)))⟩, ⟨(some 18), (some (17, false)), (.k (.fad 0 (.t 2)))⟩, ⟨(some 19), (some (17, false)), (.k (.ld 1 false (.t 18)))⟩, ⟨(some 20), (some (17, false)), (.k (.bin .eql (.t 19) (.c (.sc (.int .i64 4)))))⟩, ⟨(some 21), (some (17, false)), (.k (.mov (.t 20)))⟩, ⟨(some 22), (some (21, true)), (.k (.fad 1 (.t 2)))⟩, ⟨(some 23), (some (21, true)), (.k (.ld 1 false (.t 22)))⟩, ⟨(some 24), (some (21, true)), (.k (.bin .eql (.t 23) (.c (.sc (.int .i64 0)))))⟩, ⟨(some 25), (some (17, false)), (.k (.pick (.t 21) (.t 24) (.c (.sc (.bool false)))))⟩, ⟨(some 26), none, (.k (.pick (.t 17) (.c (.sc (.bool true))) (.t 25)))⟩]) (.cond (.t 26) (.seq (.ops [⟨(some 4), none, (.k (.mov (.c (.sc (.int .i64 1)))))⟩]) .ret) .skip))
def r4form_5 : AC := (.seq r4form_6 (.seq (.ops [⟨(some 4), none, (.k (.mov (.c (.sc (.int .i64 0)))))⟩]) .ret))
def r4form_4 : AC := (.cond (.t 6) r4form_5 r4form_7)
def r4form_3 : AC := (.seq (.ops [⟨(some 7), none, (.k (.ld 4 true (.t 2)))⟩, ⟨(some 8), none, (.call false (.c (.fn (.func 104) [] [])) [(.t 7)])⟩, ⟨(some 6), none, (.k (.mov (.t 8)))⟩]) r4form_4)
def r4form_2 : AC := (.block 0 r4form_3)
def r4form_1 : AC := (.seq r4form_2 r4form_12)
def r4form_ac : AC := (.seq (.ops [⟨(some 2), none, (.k (.new 97 4 (.t 0)))⟩, ⟨(some 4), none, (.k (.mov (.c (.sc (.int .i64 0)))))⟩]) r4form_1)
theorem r4form_call {args : List AV} {H : List AObj} {R : AV → List AObj → Prop} (h : AWp Try.prog [] H.length r4form_ac (bodyQ H.length [(.t 4)] R) (args ++ List.replicate (92 - args.length) .und) H) : ACalls Try.prog 103 args H R :=
  ACalls.of_fn Try.func103 rfl (by kernel_rfl) rfl Try.ntmps103 h

set_option maxHeartbeats 2000000 in
theorem r4form_spec {l : Lv} {p c : AV} (hl : LvOk l p c) (hsm : l.pos.length ≤ 4611686018427387903 ∧ l.crd.length ≤ 4611686018427387903) {n : Nat} (hn : n ≤ 1048576) : ACalls Try.prog 103 [.agg [I l.k, I l.sz, p, c], I n] [] fun r H' => H' = [] ∧ r = I (if lvFormed l n = true then 0 else 1) := by
  have hl' := hl
  obtain ⟨k, z, ps, cs⟩ := l
  obtain ⟨h1, h2, h3, h4⟩ := hl
  simp only at h1 h2 h3 h4 hsm
  obtain ⟨⟨nl, cp, sz, rfl, hs⟩, hlen, hx⟩ := h1
  obtain ⟨⟨nl', cp', sz', rfl, hs'⟩, hlen', hx'⟩ := h2
  simp only
  have base : ACalls Try.prog 103 [.agg [I k, I z, .imm nl cp sz (ps.map I), .imm nl' cp' sz' (cs.map I)], I n] [] fun r H' => r = I (if lvFormed ⟨k, z, ps, cs⟩ n = true then 0 else 1) := by
    apply r4form_call
    first | refine AWp.seq (AWp.ops ?_) | refine AWp.seq (AWp.seq (AWp.ops ?_)) | refine AWp.ops ?_ | refine AWp.seq (AWp.block (AWp.seq (AWp.ops ?_))) | refine AWp.seq (AWp.seq (AWp.seq (AWp.ops ?_))) | refine AWp.block (AWp.seq (AWp.ops ?_)) | refine AWp.block (AWp.seq (AWp.seq (AWp.ops ?_))) | refine AWp.seq (AWp.block (AWp.seq (AWp.seq (AWp.ops ?_))))
    simp
    first | refine AWp.seq (AWp.ops ?_) | refine AWp.seq (AWp.seq (AWp.ops ?_)) | refine AWp.ops ?_ | refine AWp.seq (AWp.block (AWp.seq (AWp.ops ?_))) | refine AWp.seq (AWp.seq (AWp.seq (AWp.ops ?_))) | refine AWp.block (AWp.seq (AWp.ops ?_)) | refine AWp.block (AWp.seq (AWp.seq (AWp.ops ?_))) | refine AWp.seq (AWp.block (AWp.seq (AWp.seq (AWp.ops ?_))))
    simp
    refine ((r4Whole_spec hl').pure (by simp) (by rintro r rfl; simp) _).mono ?_
    rintro r H' ⟨rfl, rfl⟩
    simp
    by_cases hw : k = 0 ∨ k = 4
    · refine AWp.cond (b := true) (by simp [lvWhole, hw]) (fun _ => ?_) (fun h => by cases h)
      have w1 := wrap_i64 (n := (ps.length : Int) + cs.length) (by omega) (by omega)
      by_cases hp : 0 < (ps.length : Int) + cs.length
      ·
        first | refine AWp.seq (AWp.ops ?_) | refine AWp.seq (AWp.seq (AWp.ops ?_)) | refine AWp.ops ?_ | refine AWp.seq (AWp.block (AWp.seq (AWp.ops ?_))) | refine AWp.seq (AWp.seq (AWp.seq (AWp.ops ?_))) | refine AWp.block (AWp.seq (AWp.ops ?_)) | refine AWp.block (AWp.seq (AWp.seq (AWp.ops ?_))) | refine AWp.seq (AWp.block (AWp.seq (AWp.seq (AWp.ops ?_))))
        simp [w1, hp]
        refine AWp.cond (b := true) (by simp) (fun _ => ?_) (fun h => by cases h)
        first | refine AWp.seq (AWp.ops ?_) | refine AWp.seq (AWp.seq (AWp.ops ?_)) | refine AWp.ops ?_ | refine AWp.seq (AWp.block (AWp.seq (AWp.ops ?_))) | refine AWp.seq (AWp.seq (AWp.seq (AWp.ops ?_))) | refine AWp.block (AWp.seq (AWp.ops ?_)) | refine AWp.block (AWp.seq (AWp.seq (AWp.ops ?_))) | refine AWp.seq (AWp.block (AWp.seq (AWp.seq (AWp.ops ?_))))
        simp
        refine AWp.ret ?_
        simp
        refine retOk.of rfl ?_
        have : lvFormed ⟨k, z, ps, cs⟩ n = false := by
          simp only [lvFormed]
          rcases hw with h | h
          · rw [if_neg (by omega), if_pos h]
            exact decide_eq_false (by omega)
          · rw [if_pos h]
            exact decide_eq_false (by omega)
        simp [this]
      by_cases k4 : k = 4
      · by_cases hz : z = 0
        ·
          first | refine AWp.seq (AWp.ops ?_) | refine AWp.seq (AWp.seq (AWp.ops ?_)) | refine AWp.ops ?_ | refine AWp.seq (AWp.block (AWp.seq (AWp.ops ?_))) | refine AWp.seq (AWp.seq (AWp.seq (AWp.ops ?_))) | refine AWp.block (AWp.seq (AWp.ops ?_)) | refine AWp.block (AWp.seq (AWp.seq (AWp.ops ?_))) | refine AWp.seq (AWp.block (AWp.seq (AWp.seq (AWp.ops ?_))))
          simp [w1, hp, k4, hz]
          refine AWp.cond (b := true) (by simp) (fun _ => ?_) (fun h => by cases h)
          first | refine AWp.seq (AWp.ops ?_) | refine AWp.seq (AWp.seq (AWp.ops ?_)) | refine AWp.ops ?_ | refine AWp.seq (AWp.block (AWp.seq (AWp.ops ?_))) | refine AWp.seq (AWp.seq (AWp.seq (AWp.ops ?_))) | refine AWp.block (AWp.seq (AWp.ops ?_)) | refine AWp.block (AWp.seq (AWp.seq (AWp.ops ?_))) | refine AWp.seq (AWp.block (AWp.seq (AWp.seq (AWp.ops ?_))))
          simp
          refine AWp.ret ?_
          simp
          refine retOk.of rfl ?_
          simp [lvFormed, k4, hz]
        ·
          first | refine AWp.seq (AWp.ops ?_) | refine AWp.seq (AWp.seq (AWp.ops ?_)) | refine AWp.ops ?_ | refine AWp.seq (AWp.block (AWp.seq (AWp.ops ?_))) | refine AWp.seq (AWp.seq (AWp.seq (AWp.ops ?_))) | refine AWp.block (AWp.seq (AWp.ops ?_)) | refine AWp.block (AWp.seq (AWp.seq (AWp.ops ?_))) | refine AWp.seq (AWp.block (AWp.seq (AWp.seq (AWp.ops ?_))))
          simp [w1, hp, k4, hz]
          refine AWp.cond (b := false) (by simp [hz]) (fun h => by cases h) (fun _ => ?_)
          refine AWp.skip ?_
          simp only [qSeq]
          first | refine AWp.seq (AWp.ops ?_) | refine AWp.seq (AWp.seq (AWp.ops ?_)) | refine AWp.ops ?_ | refine AWp.seq (AWp.block (AWp.seq (AWp.ops ?_))) | refine AWp.seq (AWp.seq (AWp.seq (AWp.ops ?_))) | refine AWp.block (AWp.seq (AWp.ops ?_)) | refine AWp.block (AWp.seq (AWp.seq (AWp.ops ?_))) | refine AWp.seq (AWp.block (AWp.seq (AWp.seq (AWp.ops ?_))))
          simp
          refine AWp.ret ?_
          simp
          refine retOk.of rfl ?_
          have e1 : ps = [] := List.length_eq_zero_iff.1 (by omega)
          have e2 : cs = [] := List.length_eq_zero_iff.1 (by omega)
          simp [lvFormed, k4, hz, e1, e2]
      ·
        first | refine AWp.seq (AWp.ops ?_) | refine AWp.seq (AWp.seq (AWp.ops ?_)) | refine AWp.ops ?_ | refine AWp.seq (AWp.block (AWp.seq (AWp.ops ?_))) | refine AWp.seq (AWp.seq (AWp.seq (AWp.ops ?_))) | refine AWp.block (AWp.seq (AWp.ops ?_)) | refine AWp.block (AWp.seq (AWp.seq (AWp.ops ?_))) | refine AWp.seq (AWp.block (AWp.seq (AWp.seq (AWp.ops ?_))))
        simp [w1, hp, k4]
        refine AWp.cond (b := false) (by simp) (fun h => by cases h) (fun _ => ?_)
        refine AWp.skip ?_
        simp only [qSeq]
        first | refine AWp.seq (AWp.ops ?_) | refine AWp.seq (AWp.seq (AWp.ops ?_)) | refine AWp.ops ?_ | refine AWp.seq (AWp.block (AWp.seq (AWp.ops ?_))) | refine AWp.seq (AWp.seq (AWp.seq (AWp.ops ?_))) | refine AWp.block (AWp.seq (AWp.ops ?_)) | refine AWp.block (AWp.seq (AWp.seq (AWp.ops ?_))) | refine AWp.seq (AWp.block (AWp.seq (AWp.seq (AWp.ops ?_))))
        simp
        refine AWp.ret ?_
        simp
        refine retOk.of rfl ?_
        have k0 : k = 0 := by omega
        have e1 : ps = [] := List.length_eq_zero_iff.1 (by omega)
        have e2 : cs = [] := List.length_eq_zero_iff.1 (by omega)
        simp [lvFormed, k0, e1, e2]
    refine AWp.cond (b := false) (by simpa [lvWhole] using hw) (fun h => by cases h) (fun _ => ?_)
    first | refine AWp.seq (AWp.ops ?_) | refine AWp.seq (AWp.seq (AWp.ops ?_)) | refine AWp.ops ?_ | refine AWp.seq (AWp.block (AWp.seq (AWp.ops ?_))) | refine AWp.seq (AWp.seq (AWp.seq (AWp.ops ?_))) | refine AWp.block (AWp.seq (AWp.ops ?_)) | refine AWp.block (AWp.seq (AWp.seq (AWp.ops ?_))) | refine AWp.seq (AWp.block (AWp.seq (AWp.seq (AWp.ops ?_))))
    simp
    by_cases k3 : k = 3
    · refine AWp.cond (b := true) (by simp [k3]) (fun _ => ?_) (fun h => by cases h)
      by_cases hp : ps = []
      case neg =>
        first | refine AWp.seq (AWp.ops ?_) | refine AWp.seq (AWp.seq (AWp.ops ?_)) | refine AWp.ops ?_ | refine AWp.seq (AWp.block (AWp.seq (AWp.ops ?_))) | refine AWp.seq (AWp.seq (AWp.seq (AWp.ops ?_))) | refine AWp.block (AWp.seq (AWp.ops ?_)) | refine AWp.block (AWp.seq (AWp.seq (AWp.ops ?_))) | refine AWp.seq (AWp.block (AWp.seq (AWp.seq (AWp.ops ?_))))
        simp [hp]
        refine AWp.cond (b := true) (by simp [hp]) (fun _ => ?_) (fun h => by cases h)
        first | refine AWp.seq (AWp.ops ?_) | refine AWp.seq (AWp.seq (AWp.ops ?_)) | refine AWp.ops ?_ | refine AWp.seq (AWp.block (AWp.seq (AWp.ops ?_))) | refine AWp.seq (AWp.seq (AWp.seq (AWp.ops ?_))) | refine AWp.block (AWp.seq (AWp.ops ?_)) | refine AWp.block (AWp.seq (AWp.seq (AWp.ops ?_))) | refine AWp.seq (AWp.block (AWp.seq (AWp.seq (AWp.ops ?_))))
        simp
        refine AWp.ret ?_
        simp
        refine retOk.of rfl ?_
        simp [lvFormed, k3, hp]
      subst hp
      by_cases hc : (cs.length : Int) = n
      ·
        first | refine AWp.seq (AWp.ops ?_) | refine AWp.seq (AWp.seq (AWp.ops ?_)) | refine AWp.ops ?_ | refine AWp.seq (AWp.block (AWp.seq (AWp.ops ?_))) | refine AWp.seq (AWp.seq (AWp.seq (AWp.ops ?_))) | refine AWp.block (AWp.seq (AWp.ops ?_)) | refine AWp.block (AWp.seq (AWp.seq (AWp.ops ?_))) | refine AWp.seq (AWp.block (AWp.seq (AWp.seq (AWp.ops ?_))))
        simp [hc]
        refine AWp.cond (b := false) (by simp) (fun h => by cases h) (fun _ => ?_)
        refine AWp.skip ?_
        simp only [qSeq]
        first | refine AWp.seq (AWp.ops ?_) | refine AWp.seq (AWp.seq (AWp.ops ?_)) | refine AWp.ops ?_ | refine AWp.seq (AWp.block (AWp.seq (AWp.ops ?_))) | refine AWp.seq (AWp.seq (AWp.seq (AWp.ops ?_))) | refine AWp.block (AWp.seq (AWp.ops ?_)) | refine AWp.block (AWp.seq (AWp.seq (AWp.ops ?_))) | refine AWp.seq (AWp.block (AWp.seq (AWp.seq (AWp.ops ?_))))
        simp
        refine AWp.ret ?_
        simp
        refine retOk.of rfl ?_
        have : cs.length = n := by omega
        simp [lvFormed, k3, this]
      ·
        first | refine AWp.seq (AWp.ops ?_) | refine AWp.seq (AWp.seq (AWp.ops ?_)) | refine AWp.ops ?_ | refine AWp.seq (AWp.block (AWp.seq (AWp.ops ?_))) | refine AWp.seq (AWp.seq (AWp.seq (AWp.ops ?_))) | refine AWp.block (AWp.seq (AWp.ops ?_)) | refine AWp.block (AWp.seq (AWp.seq (AWp.ops ?_))) | refine AWp.seq (AWp.block (AWp.seq (AWp.seq (AWp.ops ?_))))
        simp [hc]
        refine AWp.cond (b := true) (by simp [hc]) (fun _ => ?_) (fun h => by cases h)
        first | refine AWp.seq (AWp.ops ?_) | refine AWp.seq (AWp.seq (AWp.ops ?_)) | refine AWp.ops ?_ | refine AWp.seq (AWp.block (AWp.seq (AWp.ops ?_))) | refine AWp.seq (AWp.seq (AWp.seq (AWp.ops ?_))) | refine AWp.block (AWp.seq (AWp.ops ?_)) | refine AWp.block (AWp.seq (AWp.seq (AWp.ops ?_))) | refine AWp.seq (AWp.block (AWp.seq (AWp.seq (AWp.ops ?_))))
        simp
        refine AWp.ret ?_
        simp
        refine retOk.of rfl ?_
        have : ¬ cs.length = n := by omega
        simp [lvFormed, k3, this]
    refine AWp.cond (b := false) (by simp [k3]) (fun h => by cases h) (fun _ => ?_)
    by_cases k12 : k = 1 ∨ k = 2
    case neg =>
      have k1 : ¬ k = 1 := by omega
      have k2 : ¬ k = 2 := by omega
      first | refine AWp.seq (AWp.ops ?_) | refine AWp.seq (AWp.seq (AWp.ops ?_)) | refine AWp.ops ?_ | refine AWp.seq (AWp.block (AWp.seq (AWp.ops ?_))) | refine AWp.seq (AWp.seq (AWp.seq (AWp.ops ?_))) | refine AWp.block (AWp.seq (AWp.ops ?_)) | refine AWp.block (AWp.seq (AWp.seq (AWp.ops ?_))) | refine AWp.seq (AWp.block (AWp.seq (AWp.seq (AWp.ops ?_))))
      simp [k1, k2]
      refine AWp.cond (b := true) (by simp [k2]) (fun _ => ?_) (fun h => by cases h)
      first | refine AWp.seq (AWp.ops ?_) | refine AWp.seq (AWp.seq (AWp.ops ?_)) | refine AWp.ops ?_ | refine AWp.seq (AWp.block (AWp.seq (AWp.ops ?_))) | refine AWp.seq (AWp.seq (AWp.seq (AWp.ops ?_))) | refine AWp.block (AWp.seq (AWp.ops ?_)) | refine AWp.block (AWp.seq (AWp.seq (AWp.ops ?_))) | refine AWp.seq (AWp.block (AWp.seq (AWp.seq (AWp.ops ?_))))
      simp
      refine AWp.ret ?_
      simp
      refine retOk.of rfl ?_
      have : lvFormed ⟨k, z, ps, cs⟩ n = false := by
        simp only [lvFormed]
        rw [if_neg (by omega), if_neg (by omega), if_neg k3, if_neg k12]
      simp [this]
    have hF : lvFormed ⟨k, z, ps, cs⟩ n = decide (ps.length = n + 1 ∧ ps.getD 0 0 = 0 ∧ ps.getD n 0 = cs.length ∧ Sorted ps) := by
      simp only [lvFormed]
      rw [if_neg (by omega), if_neg (by omega), if_neg k3, if_pos k12]
    have hT : AWp Try.prog [] 0 r4form_12 (bodyQ 0 [ARes.t 4] fun r H' => r = I (if lvFormed ⟨k, z, ps, cs⟩ n = true then 0 else 1)) [.und, I n, .ptr 0 1 0 0, .und, .und, .und, .und, .und, .und, .und, .und, .und, .und, .und, .und, .und, .und, .und, .und, .und, .und, .und, .und, .und, .und, .und, .und, .und, .und, .und, .und, .und, .und, .und, .und, .und, .und, .und, .und, .und, .und, .und, .und, .und, .und, .und, .und, .und, .und, .und, .und, .und, .und, .und, .und, .und, .und, .und, .und, .und, .und, .und, .und, .und, .und, .und, .und, .und, .und, .und, .und, .und, .und, .und, .und, .und, .und, .und, .und, .und, .und, .und, .und, .und, .und, .und, .und, .und, .und, .und, .und, .und] [lvO (.agg [I k, I z, .imm nl cp sz (ps.map I), .imm nl' cp' sz' (cs.map I)])] := by
      have w1 := wrap_i64 (n := (n : Int) + 1) (by omega) (by omega)
      by_cases g1 : ps.length = n + 1
      case neg =>
        have g1' : ¬ (ps.length : Int) = (n : Int) + 1 := by omega
        first | refine AWp.seq (AWp.ops ?_) | refine AWp.seq (AWp.seq (AWp.ops ?_)) | refine AWp.ops ?_ | refine AWp.seq (AWp.block (AWp.seq (AWp.ops ?_))) | refine AWp.seq (AWp.seq (AWp.seq (AWp.ops ?_))) | refine AWp.block (AWp.seq (AWp.ops ?_)) | refine AWp.block (AWp.seq (AWp.seq (AWp.ops ?_))) | refine AWp.seq (AWp.block (AWp.seq (AWp.seq (AWp.ops ?_))))
        simp [w1, g1']
        refine AWp.cond (b := true) (by simp) (fun _ => ?_) (fun h => by cases h)
        first | refine AWp.seq (AWp.ops ?_) | refine AWp.seq (AWp.seq (AWp.ops ?_)) | refine AWp.ops ?_ | refine AWp.seq (AWp.block (AWp.seq (AWp.ops ?_))) | refine AWp.seq (AWp.seq (AWp.seq (AWp.ops ?_))) | refine AWp.block (AWp.seq (AWp.ops ?_)) | refine AWp.block (AWp.seq (AWp.seq (AWp.ops ?_))) | refine AWp.seq (AWp.block (AWp.seq (AWp.seq (AWp.ops ?_))))
        simp
        refine AWp.ret ?_
        simp
        refine retOk.of rfl ?_
        simp [hF, g1]
      have g1' : (ps.length : Int) = (n : Int) + 1 := by omega
      have hb0 : 0 < ps.length := by omega
      have hbn : n < ps.length := by omega
      have hsz := sz_of hs hb0
      subst hsz
      by_cases g2 : ps[0] = 0
      case neg =>
        first | refine AWp.seq (AWp.ops ?_) | refine AWp.seq (AWp.seq (AWp.ops ?_)) | refine AWp.ops ?_ | refine AWp.seq (AWp.block (AWp.seq (AWp.ops ?_))) | refine AWp.seq (AWp.seq (AWp.seq (AWp.ops ?_))) | refine AWp.block (AWp.seq (AWp.ops ?_)) | refine AWp.block (AWp.seq (AWp.seq (AWp.ops ?_))) | refine AWp.seq (AWp.block (AWp.seq (AWp.seq (AWp.ops ?_))))
        simp [w1, g1', hb0, g2]
        refine AWp.cond (b := true) (by simp [g2]) (fun _ => ?_) (fun h => by cases h)
        first | refine AWp.seq (AWp.ops ?_) | refine AWp.seq (AWp.seq (AWp.ops ?_)) | refine AWp.ops ?_ | refine AWp.seq (AWp.block (AWp.seq (AWp.ops ?_))) | refine AWp.seq (AWp.seq (AWp.seq (AWp.ops ?_))) | refine AWp.block (AWp.seq (AWp.ops ?_)) | refine AWp.block (AWp.seq (AWp.seq (AWp.ops ?_))) | refine AWp.seq (AWp.block (AWp.seq (AWp.seq (AWp.ops ?_))))
        simp
        refine AWp.ret ?_
        simp
        refine retOk.of rfl ?_
        simp [hF, g1, hb0, g2]
      by_cases g3 : ps[n] = cs.length
      case neg =>
        first | refine AWp.seq (AWp.ops ?_) | refine AWp.seq (AWp.seq (AWp.ops ?_)) | refine AWp.ops ?_ | refine AWp.seq (AWp.block (AWp.seq (AWp.ops ?_))) | refine AWp.seq (AWp.seq (AWp.seq (AWp.ops ?_))) | refine AWp.block (AWp.seq (AWp.ops ?_)) | refine AWp.block (AWp.seq (AWp.seq (AWp.ops ?_))) | refine AWp.seq (AWp.block (AWp.seq (AWp.seq (AWp.ops ?_))))
        simp [w1, g1', hb0, g2, hbn, g3]
        refine AWp.cond (b := true) (by simp [g3]) (fun _ => ?_) (fun h => by cases h)
        first | refine AWp.seq (AWp.ops ?_) | refine AWp.seq (AWp.seq (AWp.ops ?_)) | refine AWp.ops ?_ | refine AWp.seq (AWp.block (AWp.seq (AWp.ops ?_))) | refine AWp.seq (AWp.seq (AWp.seq (AWp.ops ?_))) | refine AWp.block (AWp.seq (AWp.ops ?_)) | refine AWp.block (AWp.seq (AWp.seq (AWp.ops ?_))) | refine AWp.seq (AWp.block (AWp.seq (AWp.seq (AWp.ops ?_))))
        simp
        refine AWp.ret ?_
        simp
        refine retOk.of rfl ?_
        simp [hF, g1, hb0, hbn, g2, g3]
      first | refine AWp.seq (AWp.ops ?_) | refine AWp.seq (AWp.seq (AWp.ops ?_)) | refine AWp.ops ?_ | refine AWp.seq (AWp.block (AWp.seq (AWp.ops ?_))) | refine AWp.seq (AWp.seq (AWp.seq (AWp.ops ?_))) | refine AWp.block (AWp.seq (AWp.ops ?_)) | refine AWp.block (AWp.seq (AWp.seq (AWp.ops ?_))) | refine AWp.seq (AWp.block (AWp.seq (AWp.seq (AWp.ops ?_))))
      simp [w1, g1', hb0, g2, hbn, g3]
      refine AWp.cond (b := false) (by simp) (fun h => by cases h) (fun _ => ?_)
      refine AWp.skip ?_
      simp only [qSeq]
      first | refine AWp.seq (AWp.ops ?_) | refine AWp.seq (AWp.seq (AWp.ops ?_)) | refine AWp.ops ?_ | refine AWp.seq (AWp.block (AWp.seq (AWp.ops ?_))) | refine AWp.seq (AWp.seq (AWp.seq (AWp.ops ?_))) | refine AWp.block (AWp.seq (AWp.ops ?_)) | refine AWp.block (AWp.seq (AWp.seq (AWp.ops ?_))) | refine AWp.seq (AWp.block (AWp.seq (AWp.seq (AWp.ops ?_))))
      simp
      obtain ⟨J, hJ⟩ : ∃ J : Nat → List AV → List AObj → Prop, J = fun i fr H => i ≤ n ∧ (∀ p < i, ps.getD p 0 ≤ ps.getD (p + 1) 0) ∧ H = [lvO (.agg [I k, I z, .imm nl cp 1 (ps.map I), .imm nl' cp' sz' (cs.map I)])] ∧
        fr = [.und, .und, .ptr 0 1 0 0, .und, .und, .und, .und, .und, .und, .und, .und, .und, .und, .und, .und, .und, .und, .und, .und, .und, .und, .und, .und, .und, .und, .und, .und, .und, .und, .und, .und, .und, .und, .und, .und, .und, .und, .und, .und, .und, .und, .und, .und, .und, .und, .und, .und, .und, .und, .und, .und, .und, .und, .und, .und, .und, .und, .und, .und, .und, .und, .und, .und, .und, .und, .und, .und, .und, .und, .und, .und, .und, .und, .und, .und, I n, I i, .und, .und, .und, .und, .und, .und, .und, .und, .und, .und, .und, .und, .und, .und, .und] := ⟨_, rfl⟩
      refine AWp.block (AWp.loop J (fun i => n - i) 0 (Weak.slots [2, 75, 76]) (by rw [hJ]; exact ⟨by omega, fun p hp => by omega, by simp, by simp⟩) ?_)
      intro i fr H hI
      rw [hJ] at hI
      obtain ⟨hi, hinv, rfl, rfl⟩ := hI
      first | refine AWp.seq (AWp.ops ?_) | refine AWp.seq (AWp.seq (AWp.ops ?_)) | refine AWp.ops ?_ | refine AWp.seq (AWp.block (AWp.seq (AWp.ops ?_))) | refine AWp.seq (AWp.seq (AWp.seq (AWp.ops ?_))) | refine AWp.block (AWp.seq (AWp.ops ?_)) | refine AWp.block (AWp.seq (AWp.seq (AWp.ops ?_))) | refine AWp.seq (AWp.block (AWp.seq (AWp.seq (AWp.ops ?_))))
      simp
      refine AWp.seq (AWp.cond (b := decide (i < n)) (by simp <;> omega) ?_ ?_)
      ·
        intro hb
        have hb : i < n := by simpa using hb
        refine AWp.skip ?_
        simp only [qSeq]
        have hbi : i < ps.length := by omega
        have hbi1 : i + 1 < ps.length := by omega
        have wi := wrap_i64 (n := (i : Int) + 1) (by omega) (by omega)
        have gi : (0 : Int) ≤ (i : Int) + 1 := by omega
        have gi2 : ((i : Int) + 1).toNat = i + 1 := by omega
        first | refine AWp.seq (AWp.ops ?_) | refine AWp.seq (AWp.seq (AWp.ops ?_)) | refine AWp.ops ?_ | refine AWp.seq (AWp.block (AWp.seq (AWp.ops ?_))) | refine AWp.seq (AWp.seq (AWp.seq (AWp.ops ?_))) | refine AWp.block (AWp.seq (AWp.ops ?_)) | refine AWp.block (AWp.seq (AWp.seq (AWp.ops ?_))) | refine AWp.seq (AWp.block (AWp.seq (AWp.seq (AWp.ops ?_))))
        simp
        first | refine AWp.seq (AWp.ops ?_) | refine AWp.seq (AWp.seq (AWp.ops ?_)) | refine AWp.ops ?_ | refine AWp.seq (AWp.block (AWp.seq (AWp.ops ?_))) | refine AWp.seq (AWp.seq (AWp.seq (AWp.ops ?_))) | refine AWp.block (AWp.seq (AWp.ops ?_)) | refine AWp.block (AWp.seq (AWp.seq (AWp.ops ?_))) | refine AWp.seq (AWp.block (AWp.seq (AWp.seq (AWp.ops ?_))))
        simp [hbi, hbi1, wi, gi, gi2]
        by_cases h : ps[i + 1] < ps[i]
        · refine AWp.cond (b := true) (by simp [h]) (fun _ => ?_) (fun h => by cases h)
          first | refine AWp.seq (AWp.ops ?_) | refine AWp.seq (AWp.seq (AWp.ops ?_)) | refine AWp.ops ?_ | refine AWp.seq (AWp.block (AWp.seq (AWp.ops ?_))) | refine AWp.seq (AWp.seq (AWp.seq (AWp.ops ?_))) | refine AWp.block (AWp.seq (AWp.ops ?_)) | refine AWp.block (AWp.seq (AWp.seq (AWp.ops ?_))) | refine AWp.seq (AWp.block (AWp.seq (AWp.seq (AWp.ops ?_))))
          simp
          refine AWp.ret ?_
          simp
          refine retOk.of rfl ?_
          have : ¬ Sorted ps := fun hS => by
            have := hS i hbi1
            simp [hbi, hbi1] at this
            omega
          simp [hF, this]
        · refine AWp.cond (b := false) (by simp; omega) (fun h => by cases h) (fun _ => ?_)
          refine AWp.skip ?_
          simp only [qSeq, qBlock]
          first | refine AWp.seq (AWp.ops ?_) | refine AWp.seq (AWp.seq (AWp.ops ?_)) | refine AWp.ops ?_ | refine AWp.seq (AWp.block (AWp.seq (AWp.ops ?_))) | refine AWp.seq (AWp.seq (AWp.seq (AWp.ops ?_))) | refine AWp.block (AWp.seq (AWp.ops ?_)) | refine AWp.block (AWp.seq (AWp.seq (AWp.ops ?_))) | refine AWp.seq (AWp.block (AWp.seq (AWp.seq (AWp.ops ?_))))
          simp
          refine ⟨i + 1, _, _, Weak.slots [2, 75, 76], ?_, by omega⟩
          rw [hJ]
          refine ⟨by omega, ?_, by simp, by simp [wrap_i64 (n := (i : Int) + 1) (by omega) (by omega)]⟩
          intro p hp
          by_cases e : p = i
          · subst e
            simp [hbi, hbi1]
            omega
          · exact hinv p (by omega)
      ·
        intro hb
        have hb : ¬ i < n := by simpa using hb
        refine AWp.exit ?_
        simp [qSeq, qBlock]
        first | refine AWp.seq (AWp.ops ?_) | refine AWp.seq (AWp.seq (AWp.ops ?_)) | refine AWp.ops ?_ | refine AWp.seq (AWp.block (AWp.seq (AWp.ops ?_))) | refine AWp.seq (AWp.seq (AWp.seq (AWp.ops ?_))) | refine AWp.block (AWp.seq (AWp.ops ?_)) | refine AWp.block (AWp.seq (AWp.seq (AWp.ops ?_))) | refine AWp.seq (AWp.block (AWp.seq (AWp.seq (AWp.ops ?_))))
        simp
        refine AWp.ret ?_
        simp
        refine retOk.of rfl ?_
        have hS : Sorted ps := fun p hp => hinv p (by omega)
        simp [hF, g1, hb0, hbn, g2, g3, hS]
    by_cases k1 : k = 1
    · subst k1
      first | refine AWp.seq (AWp.ops ?_) | refine AWp.seq (AWp.seq (AWp.ops ?_)) | refine AWp.ops ?_ | refine AWp.seq (AWp.block (AWp.seq (AWp.ops ?_))) | refine AWp.seq (AWp.seq (AWp.seq (AWp.ops ?_))) | refine AWp.block (AWp.seq (AWp.ops ?_)) | refine AWp.block (AWp.seq (AWp.seq (AWp.ops ?_))) | refine AWp.seq (AWp.block (AWp.seq (AWp.seq (AWp.ops ?_))))
      simp
      refine AWp.cond (b := false) (by simp) (fun h => by cases h) (fun _ => ?_)
      refine AWp.skip ?_
      simp only [qSeq, qBlock]
      refine AWp.weak ?_ hT
      exact (Weak.slots [1, 2]).to (by simp) (by simp)
    · have k2 : k = 2 := by omega
      subst k2
      first | refine AWp.seq (AWp.ops ?_) | refine AWp.seq (AWp.seq (AWp.ops ?_)) | refine AWp.ops ?_ | refine AWp.seq (AWp.block (AWp.seq (AWp.ops ?_))) | refine AWp.seq (AWp.seq (AWp.seq (AWp.ops ?_))) | refine AWp.block (AWp.seq (AWp.ops ?_)) | refine AWp.block (AWp.seq (AWp.seq (AWp.ops ?_))) | refine AWp.seq (AWp.block (AWp.seq (AWp.seq (AWp.ops ?_))))
      simp
      refine AWp.cond (b := false) (by simp) (fun h => by cases h) (fun _ => ?_)
      refine AWp.skip ?_
      simp only [qSeq, qBlock]
      refine AWp.weak ?_ hT
      exact (Weak.slots [1, 2]).to (by simp) (by simp)
  refine (base.frozen 2).mono ?_
  rintro q H' ⟨rfl, r, G, rfl, rfl⟩
  exact ⟨rfl, by simp⟩
end Go.Fw
