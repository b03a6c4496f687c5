import Derived.Test.YtkfooghdpfhiaaaFwref04a
namespace Go.Fw
open Go Go.RowKit Go.Proofs
set_option maxRecDepth 100000
set_option linter.unusedSimpArgs false
set_option linter.unusedVariables false

def r4Check_36 : AC := (.seq (.ops [⟨(some 85), none, (.k (.fad 3 (.t 2)))⟩, ⟨(some 86), none, (.k (.ld 1 false (.t 85)))⟩, ⟨(some 87), none, (.k (.mov (.t 9)))⟩, ⟨(some 88), none, (.k (.iad 1 (.t 86) (.t 87)))⟩, ⟨(some 89), none, (.k (.ld 1 false (.t 88)))⟩, ⟨(some 90), none, (.k (.fad 3 (.t 2)))⟩, ⟨(some 91), none, (.k (.ld 1 false (.t 90)))⟩, ⟨(some 92), none, (.k (.mov (.t 9)))⟩, ⟨(some 93), none, (.k (.bin .sub (.t 92) (.c (.sc (.int .i64 1)))))⟩, ⟨(some 94), none, (.k (.iad 1 (.t 91) (.t 93)))⟩, ⟨(some 95), none, (.k (.ld 1 false (.t 94)))⟩, ⟨(some 96), none, (.k (.bin .lss (.t 89) (.t 95)))⟩, ⟨(some 97), none, (.k (.mov (.t 96)))⟩, ⟨(some 98), (some (97, false)), (.k (.fad 0 (.t 2)))⟩, ⟨(some 99), (some (97, false)), (.k (.ld 1 false (.t 98)))⟩, ⟨(some 100), (some (97, false)), (.k (.bin .eql (.t 99) (.c (.sc (.int .i64 1)))))⟩, ⟨(some 101), (some (97, false)), (.k (.mov (.t 100)))⟩, ⟨(some 102), (some (101, true)), (.k (.fad 3 (.t 2)))⟩, ⟨(some 103), (some (101, true)), (.k (.ld 1 false (.t 102)))⟩, ⟨(some 104), (some (101, true)), (.k (.mov (.t 9)))⟩, ⟨(some 105), (some (101, true)), (.k (.iad 1 (.t 103) (.t 104)))⟩, ⟨(some 106), (some (101, true)), (.k (.ld 1 false (.t 105)))⟩, ⟨(some 107), (some (101, true)), (.k (.fad 3 (.t 2)))⟩, ⟨(some 108), (some (101, true)), (.k (.ld 1 false (.t 107)))⟩, ⟨(some 109), (some (101, true)), (.k (.mov (.t 9)))⟩, ⟨(some 110), (some (101, true)), (.k (.bin .sub (.t 109) (.c (.sc (.int .i64 1)))))⟩, ⟨(some 111), (some (101, true)), (.k (.iad 1 (.t 108) (.t 110)))⟩, ⟨(some 112), (some (101, true)), (.k (.ld 1 false (.t 111)))⟩, ⟨(some 113), (some (101, true)), (.k (.bin .eql (.t 106) (.t 112)))⟩, ⟨(some 114), (some (97, false)), (.k (.pick (.t 101) (.t 113) (.c (.sc (.bool false)))))⟩, ⟨(some 115), none, (.k (.pick (.t 97) (.c (.sc (.bool true))) (.t 114)))⟩]) (.cond (.t 115) (.seq (.ops [⟨(some 4), none, (.k (.mov (.c (.sc (.int .i64 1)))))⟩]) .ret) .skip))
def r4Check_35 : AC := (.block 5 r4Check_36)
def r4Check_34 : AC := (.seq r4Check_35 (.ops [⟨(some 83), none, (.k (.mov (.t 9)))⟩, ⟨(some 84), none, (.k (.bin .add (.t 83) (.c (.sc (.int .i64 1)))))⟩, ⟨(some 9), none, (.k (.mov (.t 84)))⟩]))
def r4Check_33 : AC := (.seq (.ops [⟨(some 75), none, (.k (.mov (.t 9)))⟩, ⟨(some 76), none, (.k (.fad 2 (.t 2)))⟩, ⟨(some 77), none, (.k (.ld 1 false (.t 76)))⟩, ⟨(some 78), none, (.k (.mov (.t 8)))⟩, ⟨(some 79), none, (.k (.bin .add (.t 78) (.c (.sc (.int .i64 1)))))⟩, ⟨(some 80), none, (.k (.iad 1 (.t 77) (.t 79)))⟩, ⟨(some 81), none, (.k (.ld 1 false (.t 80)))⟩, ⟨(some 82), none, (.k (.bin .lss (.t 75) (.t 81)))⟩]) (.cond (.t 82) .skip (.exit 4)))
def r4Check_32 : AC := (.seq r4Check_33 r4Check_34)
def r4Check_31 : AC := (.loop r4Check_32)
def r4Check_30 : AC := (.block 4 r4Check_31)
def r4Check_29 : AC := (.seq (.ops [⟨(some 69), none, (.k (.fad 2 (.t 2)))⟩, ⟨(some 70), none, (.k (.ld 1 false (.t 69)))⟩, ⟨(some 71), none, (.k (.mov (.t 8)))⟩, ⟨(some 72), none, (.k (.iad 1 (.t 70) (.t 71)))⟩, ⟨(some 73), none, (.k (.ld 1 false (.t 72)))⟩, ⟨(some 74), none, (.k (.bin .add (.t 73) (.c (.sc (.int .i64 1)))))⟩, ⟨(some 9), none, (.k (.mov (.t 74)))⟩]) r4Check_30)
def r4Check_28 : AC := (.seq (.ops [⟨(some 68), none, (.k (.mov (.t 66)))⟩, ⟨(some 8), none, (.k (.mov (.t 68)))⟩]) r4Check_29)
def r4Check_27 : AC := (.block 3 r4Check_28)
def r4Check_26 : AC := (.seq r4Check_27 (.ops [⟨(some 116), none, (.k (.bin .add (.t 66) (.c (.sc (.int .i64 1)))))⟩, ⟨(some 66), none, (.k (.mov (.t 116)))⟩]))
def r4Check_25 : AC := (.seq (.cond (.t 67) .skip (.exit 2)) r4Check_26)
def r4Check_24 : AC := (.seq (.ops [⟨(some 67), none, (.k (.bin .lss (.t 66) (.t 65)))⟩]) r4Check_25)
def r4Check_23 : AC := (.loop r4Check_24)
def r4Check_22 : AC := (.block 2 r4Check_23)
def r4Check_21 : AC := (.seq (.ops [⟨(some 65), none, (.k (.mov (.t 1)))⟩, ⟨(some 66), none, (.k (.mov (.c (.sc (.int .i64 0)))))⟩]) r4Check_22)
def r4Check_20 : AC := (.seq r4Check_21 (.seq (.ops [⟨(some 4), none, (.k (.mov (.c (.sc (.int .i64 0)))))⟩]) .ret))
def r4Check_19 : AC := (.seq (.ops [⟨(some 58), none, (.k (.ld 4 true (.t 2)))⟩, ⟨(some 59), none, (.call false (.c (.fn (.func 104) [] [])) [(.t 58)])⟩, ⟨(some 60), none, (.k (.mov (.t 59)))⟩, ⟨(some 61), (some (60, false)), (.k (.fad 0 (.t 2)))⟩, ⟨(some 62), (some (60, false)), (.k (.ld 1 false (.t 61)))⟩, ⟨(some 63), (some (60, false)), (.k (.bin .eql (.t 62) (.c (.sc (.int .i64 3)))))⟩, ⟨(some 64), none, (.k (.pick (.t 60) (.c (.sc (.bool true))) (.t 63)))⟩]) (.cond (.t 64) (.seq (.ops [⟨(some 4), none, (.k (.mov (.c (.sc (.int .i64 0)))))⟩]) .ret) .skip))
def r4Check_18 : AC := (.seq r4Check_19 r4Check_20)
def r4Check_17 : AC := (.seq (.ops [⟨(some 49), none, (.k (.mov (.t 7)))⟩, ⟨(some 50), none, (.k (.bin .lss (.t 49) (.c (.sc (.int .i64 0)))))⟩, ⟨(some 51), none, (.k (.mov (.t 50)))⟩, ⟨(some 52), (some (51, false)), (.k (.mov (.t 7)))⟩, ⟨(some 53), (some (51, false)), (.k (.fad 1 (.t 2)))⟩, ⟨(some 54), (some (51, false)), (.k (.ld 1 false (.t 53)))⟩, ⟨(some 55), (some (51, false)), (.k (.bin .geq (.t 52) (.t 54)))⟩, ⟨(some 56), none, (.k (.pick (.t 51) (.c (.sc (.bool true))) (.t 55)))⟩]) (.cond (.t 56) (.seq (.ops [⟨(some 4), none, (.k (.mov (.c (.sc (.int .i64 3)))))⟩]) .ret) .skip))
def r4Check_16 : AC := (.seq (.ops [⟨(some 47), none, (.k (.iad 1 (.t 43) (.t 45)))⟩, ⟨(some 48), none, (.k (.ld 1 false (.t 47)))⟩, ⟨(some 7), none, (.k (.mov (.t 48)))⟩]) r4Check_17)
def r4Check_15 : AC := (.block 1 r4Check_16)
def r4Check_14 : AC := (.seq r4Check_15 (.ops [⟨(some 57), none, (.k (.bin .add (.t 45) (.c (.sc (.int .i64 1)))))⟩, ⟨(some 45), none, (.k (.mov (.t 57)))⟩]))
def r4Check_13 : AC := (.seq (.cond (.t 46) .skip (.exit 0)) r4Check_14)
def r4Check_12 : AC := (.seq (.ops [⟨(some 46), none, (.k (.bin .lss (.t 45) (.t 44)))⟩]) r4Check_13)
def r4Check_11 : AC := (.loop r4Check_12)
def r4Check_10 : AC := (.block 0 r4Check_11)
def r4Check_9 : AC := (.seq (.ops [⟨(some 42), none, (.k (.fad 3 (.t 2)))⟩, ⟨(some 43), none, (.k (.ld 1 false (.t 42)))⟩, ⟨(some 44), none, (.k (.len (.t 43)))⟩, ⟨(some 45), none, (.k (.mov (.c (.sc (.int .i64 0)))))⟩]) r4Check_10)
def r4Check_8 : AC := (.seq r4Check_9 r4Check_18)
def r4Check_7 : AC := (.seq (.ops [⟨(some 32), none, (.k (.fad 3 (.t 2)))⟩, ⟨(some 33), none, (.k (.ld 1 false (.t 32)))⟩, ⟨(some 34), none, (.k (.len (.t 33)))⟩, ⟨(some 35), none, (.k (.bin .gtr (.t 34) (.c (.sc (.int .i64 65536)))))⟩, ⟨(some 36), none, (.k (.mov (.t 35)))⟩, ⟨(some 37), (some (36, false)), (.k (.ld 4 true (.t 2)))⟩, ⟨(some 38), (some (36, false)), (.k (.mov (.t 1)))⟩, ⟨(some 39), (some (36, false)), (.call false (.c (.fn (.func 98) [] [])) [(.t 37), (.t 38)])⟩, ⟨(some 40), (some (36, false)), (.k (.bin .gtr (.t 39) (.c (.sc (.int .i64 1048576)))))⟩, ⟨(some 41), none, (.k (.pick (.t 36) (.c (.sc (.bool true))) (.t 40)))⟩]) (.cond (.t 41) (.seq (.ops [⟨(some 4), none, (.k (.mov (.c (.sc (.int .i64 2)))))⟩]) .ret) .skip))
def r4Check_6 : AC := (.seq r4Check_7 r4Check_8)
def r4Check_5 : AC := (.seq (.ops [⟨(some 29), none, (.k (.mov (.t 5)))⟩, ⟨(some 30), none, (.k (.bin .neq (.t 29) (.c (.sc (.int .i64 0)))))⟩]) (.cond (.t 30) (.seq (.ops [⟨(some 31), none, (.k (.mov (.t 5)))⟩, ⟨(some 4), none, (.k (.mov (.t 31)))⟩]) .ret) .skip))
def r4Check_4 : AC := (.seq (.ops [⟨(some 26), none, (.k (.ld 4 true (.t 2)))⟩, ⟨(some 27), none, (.k (.mov (.t 1)))⟩, ⟨(some 28), none, (.call false (.c (.fn (.func 103) [] [])) [(.t 26), (.t 27)])⟩, ⟨(some 5), none, (.k (.mov (.t 28)))⟩]) r4Check_5)
def r4Check_3 : AC := (.seq r4Check_4 r4Check_6)
def r4Check_2 : AC := (.seq (.ops [⟨(some 10), none, (.k (.mov (.t 1)))⟩, ⟨(some 11), none, (.k (.bin .lss (.t 10) (.c (.sc (.int .i64 0)))))⟩, ⟨(some 12), none, (.k (.mov (.t 11)))⟩, ⟨(some 13), (some (12, false)), (.k (.mov (.t 1)))⟩, ⟨(some 14), (some (12, false)), (.k (.bin .gtr (.t 13) (.c (.sc (.int .i64 1048576)))))⟩, ⟨(some 15), none, (.k (.pick (.t 12) (.c (.sc (.bool true))) (.t 14)))⟩, ⟨(some 16), none, (.k (.mov (.t 15)))⟩, ⟨(some 17), (some (16, false)), (.k (.fad 1 (.t 2)))⟩, ⟨(some 18), (some (16, false)), (.k (.ld 1 false (.t 17)))⟩, ⟨(some 19), (some (16, false)), (.k (.bin .lss (.t 18) (.c (.sc (.int .i64 0)))))⟩, ⟨(some 20), none, (.k (.pick (.t 16) (.c (.sc (.bool true))) (.t 19)))⟩, ⟨(some 21), none, (.k (.mov (.t 20)))⟩, ⟨(some 22), (some (21, false)), (.k (.fad 1 (.t 2)))⟩, ⟨(some 23), (some (21, false)), (.k (.ld 1 false (.t 22)))⟩, ⟨(some 24), (some (21, false)), (.k (.bin .gtr (.t 23) (.c (.sc (.int .i64 2147483648)))))⟩, ⟨(some 25), none, (.k (.pick (.t 21) (.c (.sc (.bool true))) (.t 24)))⟩]) (.cond (.t 25) (.seq (.ops [⟨(some 4), none, (.k (.mov (.c (.sc (.int .i64 1)))))⟩]) .ret) .skip))
def r4Check_1 : AC := (.seq r4Check_2 r4Check_3)
def r4Check_ac : AC := (.seq (.ops [⟨(some 2), none, (.k (.new 97 4 (.t 0)))⟩, ⟨(some 4), none, (.k (.mov (.c (.sc (.int .i64 0)))))⟩]) r4Check_1)
theorem r4Check_call {args : List AV} {H : List AObj} {R : AV → List AObj → Prop} (h : AWp Try.prog [] H.length r4Check_ac (bodyQ H.length [(.t 4)] R) (args ++ List.replicate (117 - args.length) .und) H) : ACalls Try.prog 97 args H R :=
  ACalls.of_fn Try.func97 rfl (by kernel_rfl) rfl Try.ntmps97 h

set_option maxHeartbeats 4000000 in
theorem r4Check_spec {l : Lv} {p c : AV} (hl : LvOk l p c) (hsm : l.pos.length ≤ 4611686018427387903 ∧ l.crd.length ≤ 4611686018427387903) {n : Nat} (hn : n ≤ 1048576) : ACalls Try.prog 97 [.agg [I l.k, I l.sz, p, c], I n] [] fun r H' => H' = [] ∧ r = I (lvCheck l n) := by
  have hl' := hl
  obtain ⟨h1, h2, h3, h4⟩ := hl
  obtain ⟨⟨nl, cp, sz, rfl, hs⟩, hlen, hx⟩ := h1
  obtain ⟨⟨nl', cp', sz', rfl, hs'⟩, hlen', hx'⟩ := h2
  have base : ACalls Try.prog 97 [.agg [I l.k, I l.sz, .imm nl cp sz (l.pos.map I), .imm nl' cp' sz' (l.crd.map I)], I n] [] fun r H' => r = I (lvCheck l n) := by
    apply r4Check_call
    obtain ⟨bad, hbad⟩ : ∃ bad, bad = decide (l.sz < 0 ∨ 2147483648 < l.sz) := ⟨_, rfl⟩
    first | refine AWp.seq (AWp.ops ?_) | refine AWp.seq (AWp.seq (AWp.ops ?_)) | refine AWp.ops ?_ | refine AWp.seq (AWp.block (AWp.seq (AWp.ops ?_))) | refine AWp.seq (AWp.seq (AWp.seq (AWp.ops ?_))) | refine AWp.block (AWp.seq (AWp.ops ?_)) | refine AWp.block (AWp.seq (AWp.seq (AWp.ops ?_))) | refine AWp.seq (AWp.block (AWp.seq (AWp.seq (AWp.ops ?_))))
    simp
    refine AWp.seq (AWp.cut [.und, I n, .ptr 0 1 0 0, .und, .und, .und, .und, .und, .und, .und, .und, .und, .und, .und, .und, .und, .und, .und, .und, .und, .und, .und, .und, .und, .und, Bo bad, .und, .und, .und, .und, .und, .und, .und, .und, .und, .und, .und, .und, .und, .und, .und, .und, .und, .und, .und, .und, .und, .und, .und, .und, .und, .und, .und, .und, .und, .und, .und, .und, .und, .und, .und, .und, .und, .und, .und, .und, .und, .und, .und, .und, .und, .und, .und, .und, .und, .und, .und, .und, .und, .und, .und, .und, .und, .und, .und, .und, .und, .und, .und, .und, .und, .und, .und, .und, .und, .und, .und, .und, .und, .und, .und, .und, .und, .und, .und, .und, .und, .und, .und, .und, .und, .und, .und, .und, .und, .und, .und] [lvO (.agg [I l.k, I l.sz, .imm nl cp sz (l.pos.map I), .imm nl' cp' sz' (l.crd.map I)])] ?_ ?_)
    · have g0 : ¬ (n : Int) < 0 := by omega
      have g1 : ¬ 1048576 < (n : Int) := by omega
      by_cases z0 : l.sz < 0
      ·
        first | refine AWp.seq (AWp.ops ?_) | refine AWp.seq (AWp.seq (AWp.ops ?_)) | refine AWp.ops ?_ | refine AWp.seq (AWp.block (AWp.seq (AWp.ops ?_))) | refine AWp.seq (AWp.seq (AWp.seq (AWp.ops ?_))) | refine AWp.block (AWp.seq (AWp.ops ?_)) | refine AWp.block (AWp.seq (AWp.seq (AWp.ops ?_))) | refine AWp.seq (AWp.block (AWp.seq (AWp.seq (AWp.ops ?_))))
        simp [g0, g1, z0]
        exact (Weak.slots [1, 2, 25]).to (by simp [hbad, z0]) rfl
      ·
        first | refine AWp.seq (AWp.ops ?_) | refine AWp.seq (AWp.seq (AWp.ops ?_)) | refine AWp.ops ?_ | refine AWp.seq (AWp.block (AWp.seq (AWp.ops ?_))) | refine AWp.seq (AWp.seq (AWp.seq (AWp.ops ?_))) | refine AWp.block (AWp.seq (AWp.ops ?_)) | refine AWp.block (AWp.seq (AWp.seq (AWp.ops ?_))) | refine AWp.seq (AWp.block (AWp.seq (AWp.seq (AWp.ops ?_))))
        simp [g0, g1, z0]
        exact (Weak.slots [1, 2, 25]).to (by simp [hbad, z0]) rfl
    refine AWp.cond (b := bad) (by simp) ?_ ?_
    · intro h
      have h : l.sz < 0 ∨ 2147483648 < l.sz := by simpa only [hbad, decide_eq_true_eq] using h
      first | refine AWp.seq (AWp.ops ?_) | refine AWp.seq (AWp.seq (AWp.ops ?_)) | refine AWp.ops ?_ | refine AWp.seq (AWp.block (AWp.seq (AWp.ops ?_))) | refine AWp.seq (AWp.seq (AWp.seq (AWp.ops ?_))) | refine AWp.block (AWp.seq (AWp.ops ?_)) | refine AWp.block (AWp.seq (AWp.seq (AWp.ops ?_))) | refine AWp.seq (AWp.block (AWp.seq (AWp.seq (AWp.ops ?_))))
      simp
      refine AWp.ret ?_
      simp
      refine retOk.of rfl ?_
      rw [lvCheck, if_pos (by omega)]; simp
    intro h
    have hb : ¬ (l.sz < 0 ∨ 2147483648 < l.sz) := by simpa only [hbad, decide_eq_false_iff_not] using h
    have z0 : 0 ≤ l.sz := by omega
    have z1 : l.sz ≤ 2147483648 := by omega
    refine AWp.skip ?_
    simp only [qSeq]
    first | refine AWp.seq (AWp.ops ?_) | refine AWp.seq (AWp.seq (AWp.ops ?_)) | refine AWp.ops ?_ | refine AWp.seq (AWp.block (AWp.seq (AWp.ops ?_))) | refine AWp.seq (AWp.seq (AWp.seq (AWp.ops ?_))) | refine AWp.block (AWp.seq (AWp.ops ?_)) | refine AWp.block (AWp.seq (AWp.seq (AWp.ops ?_))) | refine AWp.seq (AWp.block (AWp.seq (AWp.seq (AWp.ops ?_))))
    simp
    refine ((r4form_spec hl' hsm hn).pure (by simp) (by rintro r rfl; simp) _).mono ?_
    rintro r H' ⟨rfl, rfl⟩
    simp
    first | refine AWp.seq (AWp.ops ?_) | refine AWp.seq (AWp.seq (AWp.ops ?_)) | refine AWp.ops ?_ | refine AWp.seq (AWp.block (AWp.seq (AWp.ops ?_))) | refine AWp.seq (AWp.seq (AWp.seq (AWp.ops ?_))) | refine AWp.block (AWp.seq (AWp.ops ?_)) | refine AWp.block (AWp.seq (AWp.seq (AWp.ops ?_))) | refine AWp.seq (AWp.block (AWp.seq (AWp.seq (AWp.ops ?_))))
    simp
    by_cases hf : lvFormed l n = true
    case neg =>
      refine AWp.cond (b := true) (by simp [hf]) (fun _ => ?_) (fun h => by cases h)
      first | refine AWp.seq (AWp.ops ?_) | refine AWp.seq (AWp.seq (AWp.ops ?_)) | refine AWp.ops ?_ | refine AWp.seq (AWp.block (AWp.seq (AWp.ops ?_))) | refine AWp.seq (AWp.seq (AWp.seq (AWp.ops ?_))) | refine AWp.block (AWp.seq (AWp.ops ?_)) | refine AWp.block (AWp.seq (AWp.seq (AWp.ops ?_))) | refine AWp.seq (AWp.block (AWp.seq (AWp.seq (AWp.ops ?_))))
      simp
      refine AWp.ret ?_
      simp
      refine retOk.of rfl ?_
      have : l.sz < 0 ∨ 2147483648 < l.sz ∨ lvFormed l n = false := .inr (.inr (by simpa using hf))
      rw [lvCheck, if_pos this]; simp [hf]
    refine AWp.cond (b := false) (by simp [hf]) (fun h => by cases h) (fun _ => ?_)
    have hb3 : ¬ (l.sz < 0 ∨ 2147483648 < l.sz ∨ lvFormed l n = false) := by
      rintro (h | h | h)
      · omega
      · omega
      · rw [hf] at h; cases h
    obtain ⟨lg, hlg⟩ : ∃ lg, lg = decide (65536 < l.crd.length ∨ 1048576 < lvBelow l n) := ⟨_, rfl⟩
    refine AWp.skip ?_
    simp only [qSeq]
    refine AWp.seq (AWp.cut [.und, I n, .ptr 0 1 0 0, .und, .und, .und, .und, .und, .und, .und, .und, .und, .und, .und, .und, .und, .und, .und, .und, .und, .und, .und, .und, .und, .und, .und, .und, .und, .und, .und, .und, .und, .und, .und, .und, .und, .und, .und, .und, .und, .und, Bo lg, .und, .und, .und, .und, .und, .und, .und, .und, .und, .und, .und, .und, .und, .und, .und, .und, .und, .und, .und, .und, .und, .und, .und, .und, .und, .und, .und, .und, .und, .und, .und, .und, .und, .und, .und, .und, .und, .und, .und, .und, .und, .und, .und, .und, .und, .und, .und, .und, .und, .und, .und, .und, .und, .und, .und, .und, .und, .und, .und, .und, .und, .und, .und, .und, .und, .und, .und, .und, .und, .und, .und, .und, .und, .und, .und] [lvO (.agg [I l.k, I l.sz, .imm nl cp sz (l.pos.map I), .imm nl' cp' sz' (l.crd.map I)])] ?_ ?_)
    · by_cases c1 : 65536 < l.crd.length
      · have c1' : 65536 < (l.crd.length : Int) := by omega
        first | refine AWp.seq (AWp.ops ?_) | refine AWp.seq (AWp.seq (AWp.ops ?_)) | refine AWp.ops ?_ | refine AWp.seq (AWp.block (AWp.seq (AWp.ops ?_))) | refine AWp.seq (AWp.seq (AWp.seq (AWp.ops ?_))) | refine AWp.block (AWp.seq (AWp.ops ?_)) | refine AWp.block (AWp.seq (AWp.seq (AWp.ops ?_))) | refine AWp.seq (AWp.block (AWp.seq (AWp.seq (AWp.ops ?_))))
        simp [c1']
        exact (Weak.slots [1, 2, 41]).to (by simp [hlg, c1]) rfl
      · have c1' : ¬ 65536 < (l.crd.length : Int) := by omega
        first | refine AWp.seq (AWp.ops ?_) | refine AWp.seq (AWp.seq (AWp.ops ?_)) | refine AWp.ops ?_ | refine AWp.seq (AWp.block (AWp.seq (AWp.ops ?_))) | refine AWp.seq (AWp.seq (AWp.seq (AWp.ops ?_))) | refine AWp.block (AWp.seq (AWp.ops ?_)) | refine AWp.block (AWp.seq (AWp.seq (AWp.ops ?_))) | refine AWp.seq (AWp.block (AWp.seq (AWp.seq (AWp.ops ?_))))
        simp [c1']
        refine ((r4many_spec hl' (n := n) ⟨by omega, by omega⟩ ⟨z0, z1⟩).pure (by simp) (by rintro r rfl; simp) _).mono ?_
        rintro r H' ⟨rfl, rfl⟩
        simp
        exact (Weak.slots [1, 2, 41]).to (by simp [hlg, c1]) rfl
    refine AWp.cond (b := lg) (by simp) ?_ ?_
    · intro h
      have h : 65536 < l.crd.length ∨ 1048576 < lvBelow l n := by simpa only [hlg, decide_eq_true_eq] using h
      first | refine AWp.seq (AWp.ops ?_) | refine AWp.seq (AWp.seq (AWp.ops ?_)) | refine AWp.ops ?_ | refine AWp.seq (AWp.block (AWp.seq (AWp.ops ?_))) | refine AWp.seq (AWp.seq (AWp.seq (AWp.ops ?_))) | refine AWp.block (AWp.seq (AWp.ops ?_)) | refine AWp.block (AWp.seq (AWp.seq (AWp.ops ?_))) | refine AWp.seq (AWp.block (AWp.seq (AWp.seq (AWp.ops ?_))))
      simp
      refine AWp.ret ?_
      simp
      refine retOk.of rfl ?_
      rw [lvCheck, if_neg hb3, if_pos h]; simp
    intro h
    have hg : ¬ (65536 < l.crd.length ∨ 1048576 < lvBelow l n) := by simpa only [hlg, decide_eq_false_iff_not] using h
    refine AWp.skip ?_
    simp only [qSeq]
    first | refine AWp.seq (AWp.ops ?_) | refine AWp.seq (AWp.seq (AWp.ops ?_)) | refine AWp.ops ?_ | refine AWp.seq (AWp.block (AWp.seq (AWp.ops ?_))) | refine AWp.seq (AWp.seq (AWp.seq (AWp.ops ?_))) | refine AWp.block (AWp.seq (AWp.ops ?_)) | refine AWp.block (AWp.seq (AWp.seq (AWp.ops ?_))) | refine AWp.seq (AWp.block (AWp.seq (AWp.seq (AWp.ops ?_))))
    simp
    have hlv : l.crd.any (lvOut l) = false → lvCheck l n = if lvRise l = false then 1 else 0 := by
      intro h
      rw [lvCheck, if_neg hb3, if_neg hg, if_neg (by simp [h])]
    obtain ⟨J, hJ⟩ : ∃ J : Nat → List AV → List AObj → Prop, J = fun i fr H => i ≤ l.crd.length ∧ (∀ x ∈ l.crd.take i, lvOut l x = false) ∧ H = [lvO (.agg [I l.k, I l.sz, .imm nl cp sz (l.pos.map I), .imm nl' cp' sz' (l.crd.map I)])] ∧
      fr = [.und, I n, .ptr 0 1 0 0, .und, .und, .und, .und, .und, .und, .und, .und, .und, .und, .und, .und, .und, .und, .und, .und, .und, .und, .und, .und, .und, .und, .und, .und, .und, .und, .und, .und, .und, .und, .und, .und, .und, .und, .und, .und, .und, .und, .und, .und, .imm nl' cp' sz' (l.crd.map I), I l.crd.length, I i, .und, .und, .und, .und, .und, .und, .und, .und, .und, .und, .und, .und, .und, .und, .und, .und, .und, .und, .und, .und, .und, .und, .und, .und, .und, .und, .und, .und, .und, .und, .und, .und, .und, .und, .und, .und, .und, .und, .und, .und, .und, .und, .und, .und, .und, .und, .und, .und, .und, .und, .und, .und, .und, .und, .und, .und, .und, .und, .und, .und, .und, .und, .und, .und, .und, .und, .und, .und, .und, .und, .und] := ⟨_, rfl⟩
    refine AWp.block (AWp.loop J (fun i => l.crd.length - i) 0 (Weak.slots [1, 2, 43, 44, 45]) (by rw [hJ]; exact ⟨by omega, by simp, by simp, by simp⟩) ?_)
    intro i fr H hI
    rw [hJ] at hI
    obtain ⟨hi, hinv, rfl, rfl⟩ := hI
    first | refine AWp.seq (AWp.ops ?_) | refine AWp.seq (AWp.seq (AWp.ops ?_)) | refine AWp.ops ?_ | refine AWp.seq (AWp.block (AWp.seq (AWp.ops ?_))) | refine AWp.seq (AWp.seq (AWp.seq (AWp.ops ?_))) | refine AWp.block (AWp.seq (AWp.ops ?_)) | refine AWp.block (AWp.seq (AWp.seq (AWp.ops ?_))) | refine AWp.seq (AWp.block (AWp.seq (AWp.seq (AWp.ops ?_))))
    simp
    refine AWp.seq (AWp.cond (b := decide (i < l.crd.length)) (by simp <;> omega) ?_ ?_)
    ·
      intro hb
      have hb : i < l.crd.length := by simpa using hb
      refine AWp.skip ?_
      simp only [qSeq]
      have hszc := sz_of hs' hb
      subst hszc
      first | refine AWp.seq (AWp.ops ?_) | refine AWp.seq (AWp.seq (AWp.ops ?_)) | refine AWp.ops ?_ | refine AWp.seq (AWp.block (AWp.seq (AWp.ops ?_))) | refine AWp.seq (AWp.seq (AWp.seq (AWp.ops ?_))) | refine AWp.block (AWp.seq (AWp.ops ?_)) | refine AWp.block (AWp.seq (AWp.seq (AWp.ops ?_))) | refine AWp.seq (AWp.block (AWp.seq (AWp.seq (AWp.ops ?_))))
      simp [hb]
      by_cases x0 : l.crd[i] < 0
      ·
        first | refine AWp.seq (AWp.ops ?_) | refine AWp.seq (AWp.seq (AWp.ops ?_)) | refine AWp.ops ?_ | refine AWp.seq (AWp.block (AWp.seq (AWp.ops ?_))) | refine AWp.seq (AWp.seq (AWp.seq (AWp.ops ?_))) | refine AWp.block (AWp.seq (AWp.ops ?_)) | refine AWp.block (AWp.seq (AWp.seq (AWp.ops ?_))) | refine AWp.seq (AWp.block (AWp.seq (AWp.seq (AWp.ops ?_))))
        simp [x0]
        refine AWp.cond (b := true) (by simp) (fun _ => ?_) (fun h => by cases h)
        first | refine AWp.seq (AWp.ops ?_) | refine AWp.seq (AWp.seq (AWp.ops ?_)) | refine AWp.ops ?_ | refine AWp.seq (AWp.block (AWp.seq (AWp.ops ?_))) | refine AWp.seq (AWp.seq (AWp.seq (AWp.ops ?_))) | refine AWp.block (AWp.seq (AWp.ops ?_)) | refine AWp.block (AWp.seq (AWp.seq (AWp.ops ?_))) | refine AWp.seq (AWp.block (AWp.seq (AWp.seq (AWp.ops ?_))))
        simp
        refine AWp.ret ?_
        simp
        refine retOk.of rfl ?_
        have : l.crd.any (lvOut l) = true := List.any_eq_true.2 ⟨l.crd[i], List.getElem_mem hb, by simp [lvOut, x0]⟩
        rw [lvCheck, if_neg hb3, if_neg hg, if_pos this]; simp
      by_cases x1 : l.sz ≤ l.crd[i]
      ·
        first | refine AWp.seq (AWp.ops ?_) | refine AWp.seq (AWp.seq (AWp.ops ?_)) | refine AWp.ops ?_ | refine AWp.seq (AWp.block (AWp.seq (AWp.ops ?_))) | refine AWp.seq (AWp.seq (AWp.seq (AWp.ops ?_))) | refine AWp.block (AWp.seq (AWp.ops ?_)) | refine AWp.block (AWp.seq (AWp.seq (AWp.ops ?_))) | refine AWp.seq (AWp.block (AWp.seq (AWp.seq (AWp.ops ?_))))
        simp [x0, x1]
        refine AWp.cond (b := true) (by simp [x1]) (fun _ => ?_) (fun h => by cases h)
        first | refine AWp.seq (AWp.ops ?_) | refine AWp.seq (AWp.seq (AWp.ops ?_)) | refine AWp.ops ?_ | refine AWp.seq (AWp.block (AWp.seq (AWp.ops ?_))) | refine AWp.seq (AWp.seq (AWp.seq (AWp.ops ?_))) | refine AWp.block (AWp.seq (AWp.ops ?_)) | refine AWp.block (AWp.seq (AWp.seq (AWp.ops ?_))) | refine AWp.seq (AWp.block (AWp.seq (AWp.seq (AWp.ops ?_))))
        simp
        refine AWp.ret ?_
        simp
        refine retOk.of rfl ?_
        have : l.crd.any (lvOut l) = true := List.any_eq_true.2 ⟨l.crd[i], List.getElem_mem hb, by simp [lvOut, x1]⟩
        rw [lvCheck, if_neg hb3, if_neg hg, if_pos this]; simp
      first | refine AWp.seq (AWp.ops ?_) | refine AWp.seq (AWp.seq (AWp.ops ?_)) | refine AWp.ops ?_ | refine AWp.seq (AWp.block (AWp.seq (AWp.ops ?_))) | refine AWp.seq (AWp.seq (AWp.seq (AWp.ops ?_))) | refine AWp.block (AWp.seq (AWp.ops ?_)) | refine AWp.block (AWp.seq (AWp.seq (AWp.ops ?_))) | refine AWp.seq (AWp.block (AWp.seq (AWp.seq (AWp.ops ?_))))
      simp [x0, x1]
      refine AWp.cond (b := false) (by simp [x1]) (fun h => by cases h) (fun _ => ?_)
      refine AWp.skip ?_
      simp only [qSeq, qBlock]
      first | refine AWp.seq (AWp.ops ?_) | refine AWp.seq (AWp.seq (AWp.ops ?_)) | refine AWp.ops ?_ | refine AWp.seq (AWp.block (AWp.seq (AWp.ops ?_))) | refine AWp.seq (AWp.seq (AWp.seq (AWp.ops ?_))) | refine AWp.block (AWp.seq (AWp.ops ?_)) | refine AWp.block (AWp.seq (AWp.seq (AWp.ops ?_))) | refine AWp.seq (AWp.block (AWp.seq (AWp.seq (AWp.ops ?_))))
      simp
      refine ⟨i + 1, _, _, Weak.slots [1, 2, 43, 44, 45], ?_, by omega⟩
      rw [hJ]
      refine ⟨by omega, ?_, by simp, by simp [wrap_i64 (n := (i : Int) + 1) (by omega) (by omega)]⟩
      intro x hxm
      rw [List.take_succ_eq_append_getElem hb] at hxm
      rcases List.mem_append.1 hxm with h | h
      · exact hinv x h
      · simp at h; rw [h]; simp [lvOut, x0]; omega
    ·
      intro hb
      have hb : ¬ i < l.crd.length := by simpa using hb
      refine AWp.exit ?_
      simp [qSeq, qBlock]
      have ho : l.crd.any (lvOut l) = false := by
        rw [List.take_of_length_le (by omega)] at hinv
        rw [List.any_eq_false]
        intro x hxm
        rw [hinv x hxm]; simp
      have hr : ∀ x ∈ l.crd, 0 ≤ x ∧ x < 4294967296 := by
        intro x hx
        have := List.any_eq_false.1 ho x hx
        simp [lvOut] at this
        omega
      rw [hlv ho]
      first | refine AWp.seq (AWp.ops ?_) | refine AWp.seq (AWp.seq (AWp.ops ?_)) | refine AWp.ops ?_ | refine AWp.seq (AWp.block (AWp.seq (AWp.ops ?_))) | refine AWp.seq (AWp.seq (AWp.seq (AWp.ops ?_))) | refine AWp.block (AWp.seq (AWp.ops ?_)) | refine AWp.block (AWp.seq (AWp.seq (AWp.ops ?_))) | refine AWp.seq (AWp.block (AWp.seq (AWp.seq (AWp.ops ?_))))
      simp
      refine ((r4Whole_spec hl').pure (by simp) (by rintro r rfl; simp) _).mono ?_
      rintro r H' ⟨rfl, rfl⟩
      simp
      cases hwv : lvWhole l with
      | true =>
        have hw : l.k = 0 ∨ l.k = 4 := by simpa [lvWhole] using hwv
        simp
        refine AWp.cond (b := true) (by simp) (fun _ => ?_) (fun h => by cases h)
        first | refine AWp.seq (AWp.ops ?_) | refine AWp.seq (AWp.seq (AWp.ops ?_)) | refine AWp.ops ?_ | refine AWp.seq (AWp.block (AWp.seq (AWp.ops ?_))) | refine AWp.seq (AWp.seq (AWp.seq (AWp.ops ?_))) | refine AWp.block (AWp.seq (AWp.ops ?_)) | refine AWp.block (AWp.seq (AWp.seq (AWp.ops ?_))) | refine AWp.seq (AWp.block (AWp.seq (AWp.seq (AWp.ops ?_))))
        simp
        refine AWp.ret ?_
        simp
        refine retOk.of rfl ?_
        have : lvRise l = true := by simp only [lvRise]; rw [if_neg (by omega), if_neg (by omega)]
        simp [this]
      | false =>
        have hw : ¬ (l.k = 0 ∨ l.k = 4) := by simpa only [lvWhole, decide_eq_false_iff_not] using hwv
        simp
        by_cases k3 : l.k = 3
        · refine AWp.cond (b := true) (by simp [k3]) (fun _ => ?_) (fun h => by cases h)
          first | refine AWp.seq (AWp.ops ?_) | refine AWp.seq (AWp.seq (AWp.ops ?_)) | refine AWp.ops ?_ | refine AWp.seq (AWp.block (AWp.seq (AWp.ops ?_))) | refine AWp.seq (AWp.seq (AWp.seq (AWp.ops ?_))) | refine AWp.block (AWp.seq (AWp.ops ?_)) | refine AWp.block (AWp.seq (AWp.seq (AWp.ops ?_))) | refine AWp.seq (AWp.block (AWp.seq (AWp.seq (AWp.ops ?_))))
          simp
          refine AWp.ret ?_
          simp
          refine retOk.of rfl ?_
          have : lvRise l = true := by simp only [lvRise]; rw [if_neg (by omega), if_neg (by omega)]
          simp [this]
        refine AWp.cond (b := false) (by simp [k3]) (fun h => by cases h) (fun _ => ?_)
        have h12 : l.k = 1 ∨ l.k = 2 := by
          by_cases h : l.k = 1 ∨ l.k = 2
          · exact h
          · simp only [lvFormed] at hf
            rw [if_neg (by omega), if_neg (by omega), if_neg k3, if_neg h] at hf
            cases hf
        obtain ⟨lst, hlst⟩ : ∃ lst : Int, lst = if l.k = 2 then 0 else 1 := ⟨_, rfl⟩
        have hR : lvRise l = decide (Rise l.pos l.crd lst) := by
          simp only [lvRise, hlst]
          rcases h12 with h | h <;> simp [h]
        rw [hR]
        have hP : PosOk l.pos l.crd.length n := by
          simp only [lvFormed] at hf
          rw [if_neg (by omega), if_neg (by omega), if_neg k3, if_pos h12] at hf
          have hf := of_decide_eq_true hf
          exact ⟨hf.1, hf.2.1, hf.2.2.1, hf.2.2.2⟩
        obtain ⟨k, z, ps, cs⟩ := l
        simp only at *
        obtain ⟨hpl, -, -, -⟩ := id hP
        have hszp := sz_of hs (i := 0) (by omega)
        subst hszp
        refine AWp.skip ?_
        simp only [qSeq]
        first | refine AWp.seq (AWp.ops ?_) | refine AWp.seq (AWp.seq (AWp.ops ?_)) | refine AWp.ops ?_ | refine AWp.seq (AWp.block (AWp.seq (AWp.ops ?_))) | refine AWp.seq (AWp.seq (AWp.seq (AWp.ops ?_))) | refine AWp.block (AWp.seq (AWp.ops ?_)) | refine AWp.block (AWp.seq (AWp.seq (AWp.ops ?_))) | refine AWp.seq (AWp.block (AWp.seq (AWp.seq (AWp.ops ?_))))
        simp
        obtain ⟨JK, hJK⟩ : ∃ J : Nat → List AV → List AObj → Prop, J = fun iK fr H => iK ≤ n ∧ (∀ p < iK, RiseSeg cs lst (ps.getD p 0) (ps.getD (p + 1) 0)) ∧ H = [lvO (.agg [I k, I z, .imm nl cp 1 (ps.map I), .imm nl' cp' sz' (cs.map I)])] ∧
          fr = [.und, .und, .ptr 0 1 0 0, .und, .und, .und, .und, .und, .und, .und, .und, .und, .und, .und, .und, .und, .und, .und, .und, .und, .und, .und, .und, .und, .und, .und, .und, .und, .und, .und, .und, .und, .und, .und, .und, .und, .und, .und, .und, .und, .und, .und, .und, .und, .und, .und, .und, .und, .und, .und, .und, .und, .und, .und, .und, .und, .und, .und, .und, .und, .und, .und, .und, .und, .und, I n, I iK, .und, .und, .und, .und, .und, .und, .und, .und, .und, .und, .und, .und, .und, .und, .und, .und, .und, .und, .und, .und, .und, .und, .und, .und, .und, .und, .und, .und, .und, .und, .und, .und, .und, .und, .und, .und, .und, .und, .und, .und, .und, .und, .und, .und, .und, .und, .und, .und, .und, .und] := ⟨_, rfl⟩
        refine AWp.block (AWp.loop JK (fun iK => n - iK) 0 (Weak.slots [2, 65, 66]) (by rw [hJK]; exact ⟨by omega, fun p hp => by omega, by simp, by simp⟩) ?_)
        intro iK fr H hI
        rw [hJK] at hI
        obtain ⟨hiK, hinvK, rfl, rfl⟩ := hI
        first | refine AWp.seq (AWp.ops ?_) | refine AWp.seq (AWp.seq (AWp.ops ?_)) | refine AWp.ops ?_ | refine AWp.seq (AWp.block (AWp.seq (AWp.ops ?_))) | refine AWp.seq (AWp.seq (AWp.seq (AWp.ops ?_))) | refine AWp.block (AWp.seq (AWp.ops ?_)) | refine AWp.block (AWp.seq (AWp.seq (AWp.ops ?_))) | refine AWp.seq (AWp.block (AWp.seq (AWp.seq (AWp.ops ?_))))
        simp
        refine AWp.seq (AWp.cond (b := decide (iK < n)) (by simp <;> omega) ?_ ?_)
        ·
          intro hb
          have hb : iK < n := by simpa using hb
          refine AWp.skip ?_
          simp only [qSeq]
          obtain ⟨f, t, hf', ht', hft, htc⟩ := hP.at hb
          have hbp : iK < ps.length := by omega
          have hbp1 : iK + 1 < ps.length := by omega
          have ef : ps[iK] = f := by simpa [hbp] using hf'
          have et : ps[iK + 1] = t := by simpa [hbp1] using ht'
          have hwi := wrap_i64 (n := (iK : Int) + 1) (by omega) (by omega)
          have hwf := wrap_i64 (n := (f : Int) + 1) (by omega) (by omega)
          have gi : (0 : Int) ≤ (iK : Int) + 1 := by omega
          have gi2 : ((iK : Int) + 1).toNat = iK + 1 := by omega
          first | refine AWp.seq (AWp.ops ?_) | refine AWp.seq (AWp.seq (AWp.ops ?_)) | refine AWp.ops ?_ | refine AWp.seq (AWp.block (AWp.seq (AWp.ops ?_))) | refine AWp.seq (AWp.seq (AWp.seq (AWp.ops ?_))) | refine AWp.block (AWp.seq (AWp.ops ?_)) | refine AWp.block (AWp.seq (AWp.seq (AWp.ops ?_))) | refine AWp.seq (AWp.block (AWp.seq (AWp.seq (AWp.ops ?_))))
          simp
          first | refine AWp.seq (AWp.ops ?_) | refine AWp.seq (AWp.seq (AWp.ops ?_)) | refine AWp.ops ?_ | refine AWp.seq (AWp.block (AWp.seq (AWp.ops ?_))) | refine AWp.seq (AWp.seq (AWp.seq (AWp.ops ?_))) | refine AWp.block (AWp.seq (AWp.ops ?_)) | refine AWp.block (AWp.seq (AWp.seq (AWp.ops ?_))) | refine AWp.seq (AWp.block (AWp.seq (AWp.seq (AWp.ops ?_))))
          simp [hbp, ef, hwf]
          obtain ⟨J2, hJ2⟩ : ∃ J2 : Nat → List AV → List AObj → Prop, J2 = fun j fr H => (∀ q : Nat, f < q → q < f + 1 + j → q < cs.length → cs.getD (q - 1) 0 + lst ≤ cs.getD q 0) ∧
            H = [lvO (.agg [I k, I z, .imm nl cp 1 (ps.map I), .imm nl' cp' sz' (cs.map I)])] ∧
            fr = [.und, .und, .ptr 0 1 0 0, .und, .und, .und, .und, .und, I iK, I ((f + 1 + j : Nat) : Int), .und, .und, .und, .und, .und, .und, .und, .und, .und, .und, .und, .und, .und, .und, .und, .und, .und, .und, .und, .und, .und, .und, .und, .und, .und, .und, .und, .und, .und, .und, .und, .und, .und, .und, .und, .und, .und, .und, .und, .und, .und, .und, .und, .und, .und, .und, .und, .und, .und, .und, .und, .und, .und, .und, .und, I n, I iK, .und, .und, .und, .und, .und, .und, .und, .und, .und, .und, .und, .und, .und, .und, .und, .und, .und, .und, .und, .und, .und, .und, .und, .und, .und, .und, .und, .und, .und, .und, .und, .und, .und, .und, .und, .und, .und, .und, .und, .und, .und, .und, .und, .und, .und, .und, .und, .und, .und, .und] := ⟨_, rfl⟩
          refine AWp.block (AWp.loop J2 (fun j => t - j) 0 (Weak.slots [2, 8, 9, 65, 66]) (by
            rw [hJ2]
            exact ⟨fun q h1 h2 => by omega, by simp, by simp⟩) ?_)
          intro j fr H hI
          rw [hJ2] at hI
          obtain ⟨hin, rfl, rfl⟩ := hI
          obtain ⟨q, hq⟩ : ∃ q : Nat, q = f + 1 + j := ⟨_, rfl⟩
          rw [← hq] at hin ⊢
          first | refine AWp.seq (AWp.ops ?_) | refine AWp.seq (AWp.seq (AWp.ops ?_)) | refine AWp.ops ?_ | refine AWp.seq (AWp.block (AWp.seq (AWp.ops ?_))) | refine AWp.seq (AWp.seq (AWp.seq (AWp.ops ?_))) | refine AWp.block (AWp.seq (AWp.ops ?_)) | refine AWp.block (AWp.seq (AWp.seq (AWp.ops ?_))) | refine AWp.seq (AWp.block (AWp.seq (AWp.seq (AWp.ops ?_))))
          simp [hbp1, hwi, gi, gi2, et]
          refine AWp.cond (b := decide (q < t)) (by simp) ?_ ?_
          · intro h0
            have h0 : q < t := by simpa using h0
            have wq := wrap_i64 (n := (q : Int) + 1) (by omega) (by omega)
            have wq1 := wrap_i64 (n := (q : Int) - 1) (by omega) (by omega)
            have c1 : q < cs.length := by omega
            have c2 : q - 1 < cs.length := by omega
            have g1 : (1 : Int) ≤ q := by omega
            have g2 : ((q : Int) - 1).toNat = q - 1 := by omega
            have hszc := sz_of hs' c1
            have e1 : cs.getD q 0 = cs[q] := by simp [c1]
            have e2 : cs.getD (q - 1) 0 = cs[q - 1] := by simp [c2]
            have fin : ¬ cs[q - 1] + lst ≤ cs[q] → ¬ Rise ps cs lst := fun h hR => by
              have := hR iK (by omega) q c1 (by omega) (by omega)
              omega
            refine AWp.skip ?_
            simp only [qSeq]
            by_cases d1 : cs[q] < cs[q - 1]
            ·
              first | refine AWp.seq (AWp.ops ?_) | refine AWp.seq (AWp.seq (AWp.ops ?_)) | refine AWp.ops ?_ | refine AWp.seq (AWp.block (AWp.seq (AWp.ops ?_))) | refine AWp.seq (AWp.seq (AWp.seq (AWp.ops ?_))) | refine AWp.block (AWp.seq (AWp.ops ?_)) | refine AWp.block (AWp.seq (AWp.seq (AWp.ops ?_))) | refine AWp.seq (AWp.block (AWp.seq (AWp.seq (AWp.ops ?_))))
              simp [c1, c2, g1, g2, wq1, hszc, d1]
              refine AWp.cond (b := true) (by simp) (fun _ => ?_) (fun h => by cases h)
              first | refine AWp.seq (AWp.ops ?_) | refine AWp.seq (AWp.seq (AWp.ops ?_)) | refine AWp.ops ?_ | refine AWp.seq (AWp.block (AWp.seq (AWp.ops ?_))) | refine AWp.seq (AWp.seq (AWp.seq (AWp.ops ?_))) | refine AWp.block (AWp.seq (AWp.ops ?_)) | refine AWp.block (AWp.seq (AWp.seq (AWp.ops ?_))) | refine AWp.seq (AWp.block (AWp.seq (AWp.seq (AWp.ops ?_))))
              simp
              refine AWp.ret ?_
              simp
              refine retOk.of rfl ?_
              have : ¬ Rise ps cs lst := fin (by rw [hlst]; split <;> omega)
              simp [this]
            by_cases k1 : k = 1
            · by_cases d2 : cs[q] = cs[q - 1]
              ·
                first | refine AWp.seq (AWp.ops ?_) | refine AWp.seq (AWp.seq (AWp.ops ?_)) | refine AWp.ops ?_ | refine AWp.seq (AWp.block (AWp.seq (AWp.ops ?_))) | refine AWp.seq (AWp.seq (AWp.seq (AWp.ops ?_))) | refine AWp.block (AWp.seq (AWp.ops ?_)) | refine AWp.block (AWp.seq (AWp.seq (AWp.ops ?_))) | refine AWp.seq (AWp.block (AWp.seq (AWp.seq (AWp.ops ?_))))
                simp [c1, c2, g1, g2, wq1, hszc, d1, k1, d2]
                refine AWp.cond (b := true) (by simp) (fun _ => ?_) (fun h => by cases h)
                first | refine AWp.seq (AWp.ops ?_) | refine AWp.seq (AWp.seq (AWp.ops ?_)) | refine AWp.ops ?_ | refine AWp.seq (AWp.block (AWp.seq (AWp.ops ?_))) | refine AWp.seq (AWp.seq (AWp.seq (AWp.ops ?_))) | refine AWp.block (AWp.seq (AWp.ops ?_)) | refine AWp.block (AWp.seq (AWp.seq (AWp.ops ?_))) | refine AWp.seq (AWp.block (AWp.seq (AWp.seq (AWp.ops ?_))))
                simp
                refine AWp.ret ?_
                simp
                refine retOk.of rfl ?_
                have : ¬ Rise ps cs lst := fin (by rw [hlst]; split <;> omega)
                simp [this]
              ·
                first | refine AWp.seq (AWp.ops ?_) | refine AWp.seq (AWp.seq (AWp.ops ?_)) | refine AWp.ops ?_ | refine AWp.seq (AWp.block (AWp.seq (AWp.ops ?_))) | refine AWp.seq (AWp.seq (AWp.seq (AWp.ops ?_))) | refine AWp.block (AWp.seq (AWp.ops ?_)) | refine AWp.block (AWp.seq (AWp.seq (AWp.ops ?_))) | refine AWp.seq (AWp.block (AWp.seq (AWp.seq (AWp.ops ?_))))
                simp [c1, c2, g1, g2, wq1, hszc, d1, k1, d2]
                refine AWp.cond (b := false) (by simp [d2]) (fun h => by cases h) (fun _ => ?_)
                refine AWp.skip ?_
                simp only [qSeq, qBlock]
                first | refine AWp.seq (AWp.ops ?_) | refine AWp.seq (AWp.seq (AWp.ops ?_)) | refine AWp.ops ?_ | refine AWp.seq (AWp.block (AWp.seq (AWp.ops ?_))) | refine AWp.seq (AWp.seq (AWp.seq (AWp.ops ?_))) | refine AWp.block (AWp.seq (AWp.ops ?_)) | refine AWp.block (AWp.seq (AWp.seq (AWp.ops ?_))) | refine AWp.seq (AWp.block (AWp.seq (AWp.seq (AWp.ops ?_))))
                simp [wq]
                refine ⟨j + 1, _, _, Weak.slots [2, 8, 9, 65, 66], ?_, by omega⟩
                rw [hJ2]
                refine ⟨fun q' h1 h2 h3 => ?_, by simp [k1, hszc], by simp; omega⟩
                by_cases e : q' = q
                · rw [e, e1, e2, hlst]; split <;> omega
                · exact hin q' h1 (by omega) h3
            ·
              first | refine AWp.seq (AWp.ops ?_) | refine AWp.seq (AWp.seq (AWp.ops ?_)) | refine AWp.ops ?_ | refine AWp.seq (AWp.block (AWp.seq (AWp.ops ?_))) | refine AWp.seq (AWp.seq (AWp.seq (AWp.ops ?_))) | refine AWp.block (AWp.seq (AWp.ops ?_)) | refine AWp.block (AWp.seq (AWp.seq (AWp.ops ?_))) | refine AWp.seq (AWp.block (AWp.seq (AWp.seq (AWp.ops ?_))))
              simp [c1, c2, g1, g2, wq1, hszc, d1, k1]
              refine AWp.cond (b := false) (by simp) (fun h => by cases h) (fun _ => ?_)
              refine AWp.skip ?_
              simp only [qSeq, qBlock]
              first | refine AWp.seq (AWp.ops ?_) | refine AWp.seq (AWp.seq (AWp.ops ?_)) | refine AWp.ops ?_ | refine AWp.seq (AWp.block (AWp.seq (AWp.ops ?_))) | refine AWp.seq (AWp.seq (AWp.seq (AWp.ops ?_))) | refine AWp.block (AWp.seq (AWp.ops ?_)) | refine AWp.block (AWp.seq (AWp.seq (AWp.ops ?_))) | refine AWp.seq (AWp.block (AWp.seq (AWp.seq (AWp.ops ?_))))
              simp [wq]
              refine ⟨j + 1, _, _, Weak.slots [2, 8, 9, 65, 66], ?_, by omega⟩
              rw [hJ2]
              refine ⟨fun q' h1 h2 h3 => ?_, by simp [hszc], by simp; omega⟩
              by_cases e : q' = q
              · rw [e, e1, e2, hlst]; split <;> omega
              · exact hin q' h1 (by omega) h3
          · intro h0
            have h0 : ¬ q < t := by simpa using h0
            refine AWp.exit ?_
            simp [qSeq, qBlock]
            first | refine AWp.seq (AWp.ops ?_) | refine AWp.seq (AWp.seq (AWp.ops ?_)) | refine AWp.ops ?_ | refine AWp.seq (AWp.block (AWp.seq (AWp.ops ?_))) | refine AWp.seq (AWp.seq (AWp.seq (AWp.ops ?_))) | refine AWp.block (AWp.seq (AWp.ops ?_)) | refine AWp.block (AWp.seq (AWp.seq (AWp.ops ?_))) | refine AWp.seq (AWp.block (AWp.seq (AWp.seq (AWp.ops ?_))))
            simp
            refine ⟨iK + 1, _, _, Weak.slots [2, 65, 66], ?_, by omega⟩
            rw [hJK]
            refine ⟨by omega, ?_, by simp, by simp [wrap_i64 (n := (iK : Int) + 1) (by omega) (by omega)]⟩
            intro p hp
            by_cases e : p = iK
            · subst e
              intro q' h1 h2 h3
              rw [hf'] at h2
              rw [ht'] at h3
              exact hin q' (by omega) (by omega) h1
            · exact hinvK p (by omega)
        ·
          intro hb
          have hb : ¬ iK < n := by simpa using hb
          refine AWp.exit ?_
          simp [qSeq, qBlock]
          first | refine AWp.seq (AWp.ops ?_) | refine AWp.seq (AWp.seq (AWp.ops ?_)) | refine AWp.ops ?_ | refine AWp.seq (AWp.block (AWp.seq (AWp.ops ?_))) | refine AWp.seq (AWp.seq (AWp.seq (AWp.ops ?_))) | refine AWp.block (AWp.seq (AWp.ops ?_)) | refine AWp.block (AWp.seq (AWp.seq (AWp.ops ?_))) | refine AWp.seq (AWp.block (AWp.seq (AWp.seq (AWp.ops ?_))))
          simp
          refine AWp.ret ?_
          simp
          refine retOk.of rfl ?_
          have : Rise ps cs lst := fun p hp => hinvK p (by omega)
          simp [this]
  refine (base.frozen 2).mono ?_
  rintro q H' ⟨rfl, r, G, rfl, rfl⟩
  exact ⟨rfl, by simp⟩

def r4Below_6 : AC := (.seq (.ops [⟨(some 13), none, (.k (.ld 4 true (.t 2)))⟩, ⟨(some 14), none, (.k (.mov (.t 1)))⟩, ⟨(some 15), none, (.call false (.c (.fn (.func 98) [] [])) [(.t 13), (.t 14)])⟩, ⟨(some 4), none, (.k (.mov (.t 15)))⟩, ⟨(some 5), none, (.k (.mov (.c (.sc (.int .i64 0)))))⟩]) .ret)
def r4Below_5 : AC := (.seq (.ops [⟨(some 12), none, (.k (.mov (.t 6)))⟩, ⟨(some 4), none, (.k (.mov (.c (.sc (.int .i64 0)))))⟩, ⟨(some 5), none, (.k (.mov (.t 12)))⟩]) .ret)
def r4Below_4 : AC := (.cond (.t 11) r4Below_5 .skip)
def r4Below_3 : AC := (.seq (.ops [⟨(some 10), none, (.k (.mov (.t 6)))⟩, ⟨(some 11), none, (.k (.bin .neq (.t 10) (.c (.sc (.int .i64 0)))))⟩]) r4Below_4)
def r4Below_2 : AC := (.seq (.ops [⟨(some 7), none, (.k (.ld 4 true (.t 2)))⟩, ⟨(some 8), none, (.k (.mov (.t 1)))⟩, ⟨(some 9), none, (.call false (.c (.fn (.func 97) [] [])) [(.t 7), (.t 8)])⟩, ⟨(some 6), none, (.k (.mov (.t 9)))⟩]) r4Below_3)
def r4Below_1 : AC := (.seq r4Below_2 r4Below_6)
def r4Below_ac : AC := (.seq (.ops [⟨(some 2), none, (.k (.new 97 4 (.t 0)))⟩, ⟨(some 4), none, (.k (.mov (.c (.sc (.int .i64 0)))))⟩, ⟨(some 5), none, (.k (.mov (.c (.sc (.int .i64 0)))))⟩]) r4Below_1)
theorem r4Below_call {args : List AV} {H : List AObj} {R : AV → List AObj → Prop} (h : AWp Try.prog [] H.length r4Below_ac (bodyQ H.length [(.t 4), (.t 5)] R) (args ++ List.replicate (16 - args.length) .und) H) : ACalls Try.prog 91 args H R :=
  ACalls.of_fn Try.func91 rfl (by kernel_rfl) rfl Try.ntmps91 h

theorem r4Below_spec {l : Lv} {p c : AV} (hl : LvOk l p c) (hsm : l.pos.length ≤ 4611686018427387903 ∧ l.crd.length ≤ 4611686018427387903) {n : Nat} (hn : n ≤ 1048576) : ACalls Try.prog 91 [.agg [I l.k, I l.sz, p, c], I n] [] fun r H' => H' = [] ∧ r = .tup [I (if lvCheck l n = 0 then lvBelow l n else 0), I (lvCheck l n)] := by
  have hl' := hl
  obtain ⟨h1, h2, h3, h4⟩ := hl
  obtain ⟨⟨nl, cp, sz, rfl, hs⟩, hlen, hx⟩ := h1
  obtain ⟨⟨nl', cp', sz', rfl, hs'⟩, hlen', hx'⟩ := h2
  have base : ACalls Try.prog 91 [.agg [I l.k, I l.sz, .imm nl cp sz (l.pos.map I), .imm nl' cp' sz' (l.crd.map I)], I n] [] fun r H' => r = .tup [I (if lvCheck l n = 0 then lvBelow l n else 0), I (lvCheck l n)] := by
    apply r4Below_call
    first | refine AWp.seq (AWp.ops ?_) | refine AWp.seq (AWp.seq (AWp.ops ?_)) | refine AWp.ops ?_ | refine AWp.seq (AWp.block (AWp.seq (AWp.ops ?_))) | refine AWp.seq (AWp.seq (AWp.seq (AWp.ops ?_))) | refine AWp.block (AWp.seq (AWp.ops ?_)) | refine AWp.block (AWp.seq (AWp.seq (AWp.ops ?_))) | refine AWp.seq (AWp.block (AWp.seq (AWp.seq (AWp.ops ?_))))
    simp
    first | refine AWp.seq (AWp.ops ?_) | refine AWp.seq (AWp.seq (AWp.ops ?_)) | refine AWp.ops ?_ | refine AWp.seq (AWp.block (AWp.seq (AWp.ops ?_))) | refine AWp.seq (AWp.seq (AWp.seq (AWp.ops ?_))) | refine AWp.block (AWp.seq (AWp.ops ?_)) | refine AWp.block (AWp.seq (AWp.seq (AWp.ops ?_))) | refine AWp.seq (AWp.block (AWp.seq (AWp.seq (AWp.ops ?_))))
    simp
    refine ((r4Check_spec hl' hsm hn).pure (by simp) (by rintro r rfl; simp) _).mono ?_
    rintro r H' ⟨rfl, rfl⟩
    simp
    first | refine AWp.seq (AWp.ops ?_) | refine AWp.seq (AWp.seq (AWp.ops ?_)) | refine AWp.ops ?_ | refine AWp.seq (AWp.block (AWp.seq (AWp.ops ?_))) | refine AWp.seq (AWp.seq (AWp.seq (AWp.ops ?_))) | refine AWp.block (AWp.seq (AWp.ops ?_)) | refine AWp.block (AWp.seq (AWp.seq (AWp.ops ?_))) | refine AWp.seq (AWp.block (AWp.seq (AWp.seq (AWp.ops ?_))))
    simp
    by_cases h : lvCheck l n = 0
    · refine AWp.cond (b := false) (by simp [h]) (fun h => by cases h) (fun _ => ?_)
      obtain ⟨b1, b2, -⟩ := lvBelow_ok h
      refine AWp.skip ?_
      simp only [qSeq]
      first | refine AWp.seq (AWp.ops ?_) | refine AWp.seq (AWp.seq (AWp.ops ?_)) | refine AWp.ops ?_ | refine AWp.seq (AWp.block (AWp.seq (AWp.ops ?_))) | refine AWp.seq (AWp.seq (AWp.seq (AWp.ops ?_))) | refine AWp.block (AWp.seq (AWp.ops ?_)) | refine AWp.block (AWp.seq (AWp.seq (AWp.ops ?_))) | refine AWp.seq (AWp.block (AWp.seq (AWp.seq (AWp.ops ?_))))
      simp
      refine ((r4many_spec hl' (n := n) ⟨by omega, by omega⟩ ⟨b1, b2⟩).pure (by simp) (by rintro r rfl; simp) _).mono ?_
      rintro r H' ⟨rfl, rfl⟩
      simp
      refine AWp.ret ?_
      simp
      refine retOk.of rfl ?_
      simp [h]
    · refine AWp.cond (b := true) (by simp [h]) (fun _ => ?_) (fun h => by cases h)
      first | refine AWp.seq (AWp.ops ?_) | refine AWp.seq (AWp.seq (AWp.ops ?_)) | refine AWp.ops ?_ | refine AWp.seq (AWp.block (AWp.seq (AWp.ops ?_))) | refine AWp.seq (AWp.seq (AWp.seq (AWp.ops ?_))) | refine AWp.block (AWp.seq (AWp.ops ?_)) | refine AWp.block (AWp.seq (AWp.seq (AWp.ops ?_))) | refine AWp.seq (AWp.block (AWp.seq (AWp.seq (AWp.ops ?_))))
      simp
      refine AWp.ret ?_
      simp
      refine retOk.of rfl ?_
      simp [h]
  refine (base.frozen 2).mono ?_
  rintro q H' ⟨rfl, r, G, rfl, rfl⟩
  exact ⟨rfl, by simp⟩
end Go.Fw
