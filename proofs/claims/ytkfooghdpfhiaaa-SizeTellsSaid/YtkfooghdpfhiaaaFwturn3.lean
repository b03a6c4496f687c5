import Derived.Test.YtkfooghdpfhiaaaFwturn2
namespace Go.Fw
open Go Go.RowKit Go.Proofs
set_option maxRecDepth 100000
set_option linter.unusedSimpArgs false
set_option linter.unusedVariables false

theorem lastN_get : ∀ (ns : List Nat) (a : Nat) (h : 0 < ns.length), lastN ns a = ns[ns.length - 1]
  | [m], a, _ => rfl
  | m :: k :: r, a, _ => by
    have := lastN_get (k :: r) m (by simp)
    simp only [lastN] at this ⊢
    rw [this]
    simp

def rTurn_58 : AC := (.seq (.ops [⟨(some 104), none, (.k (.mov (.t 10)))⟩, ⟨(some 105), none, (.k (.mov (.t 12)))⟩, ⟨(some 4), none, (.k (.mov (.t 104)))⟩, ⟨(some 5), none, (.k (.mov (.t 105)))⟩, ⟨(some 6), none, (.k (.mov (.c (.sc (.int .i64 0)))))⟩]) .ret)
def rTurn_57 : AC := (.seq (.ops [⟨(some 4), none, (.k (.mov (.c (.sc (.int .i64 0)))))⟩, ⟨(some 5), none, (.k (.mov (.c (.sc (.int .i64 0)))))⟩, ⟨(some 6), none, (.k (.mov (.c (.sc (.int .i64 2)))))⟩]) .ret)
def rTurn_56 : AC := (.cond (.t 103) rTurn_57 .skip)
def rTurn_55 : AC := (.seq (.ops [⟨(some 102), none, (.k (.mov (.t 11)))⟩, ⟨(some 103), none, (.k (.un .not (.t 102)))⟩]) rTurn_56)
def rTurn_54 : AC := (.seq rTurn_55 rTurn_58)
def rTurn_53 : AC := (.seq (.ops [⟨(some 98), none, (.k (.mov (.t 10)))⟩, ⟨(some 99), none, (.call false (.c (.fn (.func 67) [] [])) [(.t 98), (.c (.sc (.int .i64 64)))])⟩, ⟨(some 97), none, (.k (.mov (.t 99)))⟩, ⟨(some 100), none, (.k (.ext (.t 97) 0))⟩, ⟨(some 101), none, (.k (.ext (.t 97) 1))⟩, ⟨(some 10), none, (.k (.mov (.t 100)))⟩, ⟨(some 11), none, (.k (.mov (.t 101)))⟩]) rTurn_54)
def rTurn_52 : AC := (.seq (.ops [⟨(some 4), none, (.k (.mov (.c (.sc (.int .i64 0)))))⟩, ⟨(some 5), none, (.k (.mov (.c (.sc (.int .i64 0)))))⟩, ⟨(some 6), none, (.k (.mov (.c (.sc (.int .i64 2)))))⟩]) .ret)
def rTurn_51 : AC := (.cond (.t 93) rTurn_52 .skip)
def rTurn_50 : AC := (.seq (.ops [⟨(some 92), none, (.k (.mov (.t 20)))⟩, ⟨(some 93), none, (.k (.un .not (.t 92)))⟩]) rTurn_51)
def rTurn_49 : AC := (.cond (.t 85) (.ops [⟨(some 87), none, (.k (.mov (.t 10)))⟩, ⟨(some 88), none, (.k (.mov (.t 19)))⟩, ⟨(some 89), none, (.call false (.c (.fn (.func 67) [] [])) [(.t 87), (.t 88)])⟩, ⟨(some 86), none, (.k (.mov (.t 89)))⟩, ⟨(some 90), none, (.k (.ext (.t 86) 0))⟩, ⟨(some 91), none, (.k (.ext (.t 86) 1))⟩, ⟨(some 10), none, (.k (.mov (.t 90)))⟩, ⟨(some 20), none, (.k (.mov (.t 91)))⟩]) .skip)
def rTurn_48 : AC := (.seq (.ops [⟨(some 85), none, (.k (.mov (.t 20)))⟩]) rTurn_49)
def rTurn_47 : AC := (.seq rTurn_48 rTurn_50)
def rTurn_46 : AC := (.seq (.ops [⟨(some 81), none, (.k (.mov (.t 18)))⟩, ⟨(some 82), none, (.call false (.c (.fn (.func 64) [] [])) [(.c (.sc (.int .i64 24))), (.t 81)])⟩, ⟨(some 80), none, (.k (.mov (.t 82)))⟩, ⟨(some 83), none, (.k (.ext (.t 80) 0))⟩, ⟨(some 84), none, (.k (.ext (.t 80) 1))⟩, ⟨(some 19), none, (.k (.mov (.t 83)))⟩, ⟨(some 20), none, (.k (.mov (.t 84)))⟩]) rTurn_47)
def rTurn_45 : AC := (.seq (.ops [⟨(some 78), none, (.k (.iad 1 (.t 74) (.t 76)))⟩, ⟨(some 79), none, (.k (.ld 1 false (.t 78)))⟩, ⟨(some 18), none, (.k (.mov (.t 79)))⟩]) rTurn_46)
def rTurn_44 : AC := (.block 5 rTurn_45)
def rTurn_43 : AC := (.seq rTurn_44 (.ops [⟨(some 94), none, (.k (.bin .add (.t 76) (.c (.sc (.int .i64 1)))))⟩, ⟨(some 76), none, (.k (.mov (.t 94)))⟩]))
def rTurn_42 : AC := (.seq (.cond (.t 77) .skip (.exit 4)) rTurn_43)
def rTurn_41 : AC := (.seq (.ops [⟨(some 77), none, (.k (.bin .lss (.t 76) (.t 75)))⟩]) rTurn_42)
def rTurn_40 : AC := (.loop rTurn_41)
def rTurn_39 : AC := (.block 4 rTurn_40)
def rTurn_38 : AC := (.seq (.ops [⟨(some 72), none, (.k (.mov (.t 14)))⟩, ⟨(some 73), none, (.k (.mov (.t 16)))⟩, ⟨(some 74), none, (.k (.lit 1 [(.t 72), (.t 73)]))⟩, ⟨(some 75), none, (.k (.len (.t 74)))⟩, ⟨(some 76), none, (.k (.mov (.c (.sc (.int .i64 0)))))⟩]) rTurn_39)
def rTurn_37 : AC := (.seq rTurn_38 (.ops [⟨(some 95), none, (.k (.mov (.t 16)))⟩, ⟨(some 14), none, (.k (.mov (.t 95)))⟩]))
def rTurn_36 : AC := (.seq (.ops [⟨(some 70), none, (.k (.iad 1 (.t 66) (.t 68)))⟩, ⟨(some 71), none, (.k (.ld 1 false (.t 70)))⟩, ⟨(some 16), none, (.k (.mov (.t 71)))⟩]) rTurn_37)
def rTurn_35 : AC := (.block 3 rTurn_36)
def rTurn_34 : AC := (.seq rTurn_35 (.ops [⟨(some 96), none, (.k (.bin .add (.t 68) (.c (.sc (.int .i64 1)))))⟩, ⟨(some 68), none, (.k (.mov (.t 96)))⟩]))
def rTurn_33 : AC := (.seq (.cond (.t 69) .skip (.exit 2)) rTurn_34)
def rTurn_32 : AC := (.seq (.ops [⟨(some 69), none, (.k (.bin .lss (.t 68) (.t 67)))⟩]) rTurn_33)
def rTurn_31 : AC := (.loop rTurn_32)
def rTurn_30 : AC := (.block 2 rTurn_31)
def rTurn_29 : AC := (.seq (.ops [⟨(some 66), none, (.k (.mov (.t 1)))⟩, ⟨(some 67), none, (.k (.len (.t 66)))⟩, ⟨(some 68), none, (.k (.mov (.c (.sc (.int .i64 0)))))⟩]) rTurn_30)
def rTurn_28 : AC := (.seq rTurn_29 rTurn_53)
def rTurn_27 : AC := (.seq (.ops [⟨(some 14), none, (.k (.mov (.c (.sc (.int .i64 1)))))⟩]) rTurn_28)
def rTurn_26 : AC := (.seq (.ops [⟨(some 4), none, (.k (.mov (.c (.sc (.int .i64 0)))))⟩, ⟨(some 5), none, (.k (.mov (.c (.sc (.int .i64 0)))))⟩, ⟨(some 6), none, (.k (.mov (.c (.sc (.int .i64 2)))))⟩]) .ret)
def rTurn_25 : AC := (.cond (.t 65) rTurn_26 .skip)
def rTurn_24 : AC := (.seq (.ops [⟨(some 60), none, (.k (.mov (.t 11)))⟩, ⟨(some 61), none, (.k (.un .not (.t 60)))⟩, ⟨(some 62), none, (.k (.mov (.t 61)))⟩, ⟨(some 63), (some (62, false)), (.k (.mov (.t 13)))⟩, ⟨(some 64), (some (62, false)), (.k (.un .not (.t 63)))⟩, ⟨(some 65), none, (.k (.pick (.t 62) (.c (.sc (.bool true))) (.t 64)))⟩]) rTurn_25)
def rTurn_23 : AC := (.seq rTurn_24 rTurn_27)
def rTurn_22 : AC := (.seq (.ops [⟨(some 54), none, (.k (.mov (.t 0)))⟩, ⟨(some 55), none, (.k (.bin .add (.t 54) (.c (.sc (.int .i64 1)))))⟩, ⟨(some 56), none, (.k (.mov (.t 9)))⟩, ⟨(some 57), none, (.call false (.c (.fn (.func 64) [] [])) [(.t 55), (.t 56)])⟩, ⟨(some 53), none, (.k (.mov (.t 57)))⟩, ⟨(some 58), none, (.k (.ext (.t 53) 0))⟩, ⟨(some 59), none, (.k (.ext (.t 53) 1))⟩, ⟨(some 12), none, (.k (.mov (.t 58)))⟩, ⟨(some 13), none, (.k (.mov (.t 59)))⟩]) rTurn_23)
def rTurn_21 : AC := (.seq (.ops [⟨(some 46), none, (.k (.mov (.t 0)))⟩, ⟨(some 47), none, (.k (.bin .mul (.c (.sc (.int .i64 8))) (.t 46)))⟩, ⟨(some 48), none, (.k (.bin .add (.t 47) (.c (.sc (.int .i64 8)))))⟩, ⟨(some 49), none, (.k (.mov (.t 9)))⟩, ⟨(some 50), none, (.call false (.c (.fn (.func 64) [] [])) [(.t 48), (.t 49)])⟩, ⟨(some 45), none, (.k (.mov (.t 50)))⟩, ⟨(some 51), none, (.k (.ext (.t 45) 0))⟩, ⟨(some 52), none, (.k (.ext (.t 45) 1))⟩, ⟨(some 10), none, (.k (.mov (.t 51)))⟩, ⟨(some 11), none, (.k (.mov (.t 52)))⟩]) rTurn_22)
def rTurn_20 : AC := (.cond (.t 38) (.ops [⟨(some 39), none, (.k (.mov (.t 1)))⟩, ⟨(some 40), none, (.k (.mov (.t 1)))⟩, ⟨(some 41), none, (.k (.len (.t 40)))⟩, ⟨(some 42), none, (.k (.bin .sub (.t 41) (.c (.sc (.int .i64 1)))))⟩, ⟨(some 43), none, (.k (.iad 1 (.t 39) (.t 42)))⟩, ⟨(some 44), none, (.k (.ld 1 false (.t 43)))⟩, ⟨(some 9), none, (.k (.mov (.t 44)))⟩]) .skip)
def rTurn_19 : AC := (.seq (.ops [⟨(some 36), none, (.k (.mov (.t 1)))⟩, ⟨(some 37), none, (.k (.len (.t 36)))⟩, ⟨(some 38), none, (.k (.bin .gtr (.t 37) (.c (.sc (.int .i64 0)))))⟩]) rTurn_20)
def rTurn_18 : AC := (.seq rTurn_19 rTurn_21)
def rTurn_17 : AC := (.seq (.ops [⟨(some 9), none, (.k (.mov (.c (.sc (.int .i64 1)))))⟩]) rTurn_18)
def rTurn_16 : AC := (.seq (.ops [⟨(some 4), none, (.k (.mov (.c (.sc (.int .i64 0)))))⟩, ⟨(some 5), none, (.k (.mov (.c (.sc (.int .i64 0)))))⟩, ⟨(some 6), none, (.k (.mov (.c (.sc (.int .i64 1)))))⟩]) .ret)
def rTurn_15 : AC := (.cond (.t 35) rTurn_16 .skip)
def rTurn_14 : AC := (.seq (.ops [⟨(some 30), none, (.k (.mov (.t 0)))⟩, ⟨(some 31), none, (.k (.bin .lss (.t 30) (.c (.sc (.int .i64 0)))))⟩, ⟨(some 32), none, (.k (.mov (.t 31)))⟩, ⟨(some 33), (some (32, false)), (.k (.mov (.t 0)))⟩, ⟨(some 34), (some (32, false)), (.k (.bin .gtr (.t 33) (.c (.sc (.int .i64 4)))))⟩, ⟨(some 35), none, (.k (.pick (.t 32) (.c (.sc (.bool true))) (.t 34)))⟩]) rTurn_15)
def rTurn_13 : AC := (.seq rTurn_14 rTurn_17)
def rTurn_12 : AC := (.seq (.ops [⟨(some 4), none, (.k (.mov (.c (.sc (.int .i64 0)))))⟩, ⟨(some 5), none, (.k (.mov (.c (.sc (.int .i64 0)))))⟩, ⟨(some 6), none, (.k (.mov (.c (.sc (.int .i64 1)))))⟩]) .ret)
def rTurn_11 : AC := (.cond (.t 28) rTurn_12 .skip)
def rTurn_10 : AC := (.seq (.ops [⟨(some 27), none, (.k (.mov (.t 8)))⟩, ⟨(some 28), none, (.k (.bin .lss (.t 27) (.c (.sc (.int .i64 0)))))⟩]) rTurn_11)
def rTurn_9 : AC := (.seq (.ops [⟨(some 25), none, (.k (.iad 1 (.t 21) (.t 23)))⟩, ⟨(some 26), none, (.k (.ld 1 false (.t 25)))⟩, ⟨(some 8), none, (.k (.mov (.t 26)))⟩]) rTurn_10)
def rTurn_8 : AC := (.block 1 rTurn_9)
def rTurn_7 : AC := (.seq rTurn_8 (.ops [⟨(some 29), none, (.k (.bin .add (.t 23) (.c (.sc (.int .i64 1)))))⟩, ⟨(some 23), none, (.k (.mov (.t 29)))⟩]))
def rTurn_6 : AC := (.seq (.cond (.t 24) .skip (.exit 0)) rTurn_7)
def rTurn_5 : AC := (.seq (.ops [⟨(some 24), none, (.k (.bin .lss (.t 23) (.t 22)))⟩]) rTurn_6)
def rTurn_4 : AC := (.loop rTurn_5)
def rTurn_3 : AC := (.block 0 rTurn_4)
def rTurn_2 : AC := (.seq (.ops [⟨(some 21), none, (.k (.mov (.t 1)))⟩, ⟨(some 22), none, (.k (.len (.t 21)))⟩, ⟨(some 23), none, (.k (.mov (.c (.sc (.int .i64 0)))))⟩]) rTurn_3)
def rTurn_1 : AC := (.seq rTurn_2 rTurn_13)
def rTurn_ac : AC := (.seq (.ops [⟨(some 4), none, (.k (.mov (.c (.sc (.int .i64 0)))))⟩, ⟨(some 5), none, (.k (.mov (.c (.sc (.int .i64 0)))))⟩, ⟨(some 6), none, (.k (.mov (.c (.sc (.int .i64 0)))))⟩]) rTurn_1)
theorem rTurn_call {args : List AV} {H : List AObj} {R : AV → List AObj → Prop} (h : AWp Try.prog [] H.length rTurn_ac (bodyQ H.length [(.t 4), (.t 5), (.t 6)] R) (args ++ List.replicate (106 - args.length) .und) H) : ACalls Try.prog 33 args H R :=
  ACalls.of_fn Try.func33 rfl (by kernel_rfl) rfl Try.ntmps33 h

set_option maxHeartbeats 4000000 in
theorem rTurn_spec {a : AV} {xs : List Int} (ha : ISl a xs) {rank : Int} (hr : -9223372036854775808 ≤ rank ∧ rank ≤ 9223372036854775807) : ACalls Try.prog 33 [I rank, a] [] fun r H' => H' = [] ∧ r = .tup [I (turnF rank xs).1, I (turnF rank xs).2.1, I (turnF rank xs).2.2] := by
  have ha' := ha
  obtain ⟨⟨nl, c, sz, rfl, hs⟩, hlen, hx⟩ := ha
  have base : ACalls Try.prog 33 [I rank, .imm nl c sz (xs.map I)] [] fun r H' => r = .tup [I (turnF rank xs).1, I (turnF rank xs).2.1, I (turnF rank xs).2.2] := by
    apply rTurn_call
    first | refine AWp.seq (AWp.ops ?_) | refine AWp.seq (AWp.seq (AWp.ops ?_)) | refine AWp.ops ?_ | refine AWp.seq (AWp.block (AWp.seq (AWp.ops ?_))) | refine AWp.seq (AWp.seq (AWp.seq (AWp.ops ?_))) | refine AWp.block (AWp.seq (AWp.ops ?_)) | refine AWp.block (AWp.seq (AWp.seq (AWp.ops ?_))) | refine AWp.seq (AWp.block (AWp.seq (AWp.seq (AWp.ops ?_))))
    simp
    first | refine AWp.seq (AWp.ops ?_) | refine AWp.seq (AWp.seq (AWp.ops ?_)) | refine AWp.ops ?_ | refine AWp.seq (AWp.block (AWp.seq (AWp.ops ?_))) | refine AWp.seq (AWp.seq (AWp.seq (AWp.ops ?_))) | refine AWp.block (AWp.seq (AWp.ops ?_)) | refine AWp.block (AWp.seq (AWp.seq (AWp.ops ?_))) | refine AWp.seq (AWp.block (AWp.seq (AWp.seq (AWp.ops ?_))))
    simp
    obtain ⟨J, hJ⟩ : ∃ J : Nat → List AV → List AObj → Prop, J = fun i fr H => i ≤ xs.length ∧ (∀ x ∈ xs.take i, 0 ≤ x) ∧ H = [] ∧
      fr = [I rank, .imm nl c sz (xs.map I), .und, .und, .und, .und, .und, .und, .und, .und, .und, .und, .und, .und, .und, .und, .und, .und, .und, .und, .und, .imm nl c sz (xs.map I), I xs.length, I i, .und, .und, .und, .und, .und, .und, .und, .und, .und, .und, .und, .und, .und, .und, .und, .und, .und, .und, .und, .und, .und, .und, .und, .und, .und, .und, .und, .und, .und, .und, .und, .und, .und, .und, .und, .und, .und, .und, .und, .und, .und, .und, .und, .und, .und, .und, .und, .und, .und, .und, .und, .und, .und, .und, .und, .und, .und, .und, .und, .und, .und, .und, .und, .und, .und, .und, .und, .und, .und, .und, .und, .und, .und, .und, .und, .und, .und, .und, .und, .und, .und, .und] := ⟨_, rfl⟩
    refine AWp.block (AWp.loop J (fun i => xs.length - i) 0 (Weak.slots [0, 1, 21, 22, 23]) (by rw [hJ]; exact ⟨by omega, by simp, by simp, by simp⟩) ?_)
    intro i fr H hI
    rw [hJ] at hI
    obtain ⟨hi, hinv, rfl, rfl⟩ := hI
    first | refine AWp.seq (AWp.ops ?_) | refine AWp.seq (AWp.seq (AWp.ops ?_)) | refine AWp.ops ?_ | refine AWp.seq (AWp.block (AWp.seq (AWp.ops ?_))) | refine AWp.seq (AWp.seq (AWp.seq (AWp.ops ?_))) | refine AWp.block (AWp.seq (AWp.ops ?_)) | refine AWp.block (AWp.seq (AWp.seq (AWp.ops ?_))) | refine AWp.seq (AWp.block (AWp.seq (AWp.seq (AWp.ops ?_))))
    simp
    refine AWp.seq (AWp.cond (b := decide (i < xs.length)) (by simp <;> omega) ?_ ?_)
    ·
      intro hb
      have hb : i < xs.length := by simpa using hb
      refine AWp.skip ?_
      simp only [qSeq]
      have hsz := sz_of hs hb
      subst hsz
      first | refine AWp.seq (AWp.ops ?_) | refine AWp.seq (AWp.seq (AWp.ops ?_)) | refine AWp.ops ?_ | refine AWp.seq (AWp.block (AWp.seq (AWp.ops ?_))) | refine AWp.seq (AWp.seq (AWp.seq (AWp.ops ?_))) | refine AWp.block (AWp.seq (AWp.ops ?_)) | refine AWp.block (AWp.seq (AWp.seq (AWp.ops ?_))) | refine AWp.seq (AWp.block (AWp.seq (AWp.seq (AWp.ops ?_))))
      simp [hb]
      first | refine AWp.seq (AWp.ops ?_) | refine AWp.seq (AWp.seq (AWp.ops ?_)) | refine AWp.ops ?_ | refine AWp.seq (AWp.block (AWp.seq (AWp.ops ?_))) | refine AWp.seq (AWp.seq (AWp.seq (AWp.ops ?_))) | refine AWp.block (AWp.seq (AWp.ops ?_)) | refine AWp.block (AWp.seq (AWp.seq (AWp.ops ?_))) | refine AWp.seq (AWp.block (AWp.seq (AWp.seq (AWp.ops ?_))))
      simp
      by_cases h : xs[i] < 0
      · refine AWp.cond (b := true) (by simp [h]) (fun _ => ?_) (fun h => by cases h)
        first | refine AWp.seq (AWp.ops ?_) | refine AWp.seq (AWp.seq (AWp.ops ?_)) | refine AWp.ops ?_ | refine AWp.seq (AWp.block (AWp.seq (AWp.ops ?_))) | refine AWp.seq (AWp.seq (AWp.seq (AWp.ops ?_))) | refine AWp.block (AWp.seq (AWp.ops ?_)) | refine AWp.block (AWp.seq (AWp.seq (AWp.ops ?_))) | refine AWp.seq (AWp.block (AWp.seq (AWp.seq (AWp.ops ?_))))
        simp
        refine AWp.ret ?_
        simp
        refine retOk.of rfl ?_
        have : rank < 0 ∨ 4 < rank ∨ xs.any (fun x => decide (x < 0)) = true := .inr (.inr (List.any_eq_true.2 ⟨xs[i], List.getElem_mem hb, by simp [h]⟩))
        rw [turnF, if_pos this]; simp
      · refine AWp.cond (b := false) (by simp; omega) (fun h => by cases h) (fun _ => ?_)
        refine AWp.skip ?_
        simp only [qSeq, qBlock]
        first | refine AWp.seq (AWp.ops ?_) | refine AWp.seq (AWp.seq (AWp.ops ?_)) | refine AWp.ops ?_ | refine AWp.seq (AWp.block (AWp.seq (AWp.ops ?_))) | refine AWp.seq (AWp.seq (AWp.seq (AWp.ops ?_))) | refine AWp.block (AWp.seq (AWp.ops ?_)) | refine AWp.block (AWp.seq (AWp.seq (AWp.ops ?_))) | refine AWp.seq (AWp.block (AWp.seq (AWp.seq (AWp.ops ?_))))
        simp
        refine ⟨i + 1, _, _, Weak.slots [0, 1, 21, 22, 23], ?_, by omega⟩
        rw [hJ]
        refine ⟨by omega, ?_, by simp, by simp [wrap_i64 (n := (i : Int) + 1) (by omega) (by omega)]⟩
        intro x hxm
        rw [List.take_succ_eq_append_getElem hb] at hxm
        rcases List.mem_append.1 hxm with h' | h'
        · exact hinv x h'
        · simp at h'; rw [h']; omega
    ·
      intro hb
      have hb : ¬ i < xs.length := by simpa using hb
      refine AWp.exit ?_
      simp [qSeq, qBlock]
      rw [List.take_of_length_le (by omega)] at hinv
      have hpos := hinv
      have hany : xs.any (fun x => decide (x < 0)) = false := by
        rw [List.any_eq_false]
        intro x hm
        have := hpos x hm
        simp; omega
      obtain ⟨bad, hbad⟩ : ∃ bad, bad = decide (rank < 0 ∨ 4 < rank) := ⟨_, rfl⟩
      refine AWp.seq (AWp.cut [I rank, .imm nl c sz (xs.map I), .und, .und, .und, .und, .und, .und, .und, .und, .und, .und, .und, .und, .und, .und, .und, .und, .und, .und, .und, .und, .und, .und, .und, .und, .und, .und, .und, .und, .und, .und, .und, .und, .und, Bo bad, .und, .und, .und, .und, .und, .und, .und, .und, .und, .und, .und, .und, .und, .und, .und, .und, .und, .und, .und, .und, .und, .und, .und, .und, .und, .und, .und, .und, .und, .und, .und, .und, .und, .und, .und, .und, .und, .und, .und, .und, .und, .und, .und, .und, .und, .und, .und, .und, .und, .und, .und, .und, .und, .und, .und, .und, .und, .und, .und, .und, .und, .und, .und, .und, .und, .und, .und, .und, .und, .und] [] ?_ ?_)
      · by_cases r0 : rank < 0
        ·
          first | refine AWp.seq (AWp.ops ?_) | refine AWp.seq (AWp.seq (AWp.ops ?_)) | refine AWp.ops ?_ | refine AWp.seq (AWp.block (AWp.seq (AWp.ops ?_))) | refine AWp.seq (AWp.seq (AWp.seq (AWp.ops ?_))) | refine AWp.block (AWp.seq (AWp.ops ?_)) | refine AWp.block (AWp.seq (AWp.seq (AWp.ops ?_))) | refine AWp.seq (AWp.block (AWp.seq (AWp.seq (AWp.ops ?_))))
          simp [r0]
          exact (Weak.slots [0, 1, 35]).to (by simp [hbad, r0]) rfl
        ·
          first | refine AWp.seq (AWp.ops ?_) | refine AWp.seq (AWp.seq (AWp.ops ?_)) | refine AWp.ops ?_ | refine AWp.seq (AWp.block (AWp.seq (AWp.ops ?_))) | refine AWp.seq (AWp.seq (AWp.seq (AWp.ops ?_))) | refine AWp.block (AWp.seq (AWp.ops ?_)) | refine AWp.block (AWp.seq (AWp.seq (AWp.ops ?_))) | refine AWp.seq (AWp.block (AWp.seq (AWp.seq (AWp.ops ?_))))
          simp [r0]
          exact (Weak.slots [0, 1, 35]).to (by simp [hbad, r0]) rfl
      refine AWp.cond (b := bad) (by simp) ?_ ?_
      · intro h
        have h : rank < 0 ∨ 4 < rank := by simpa only [hbad, decide_eq_true_eq] using h
        first | refine AWp.seq (AWp.ops ?_) | refine AWp.seq (AWp.seq (AWp.ops ?_)) | refine AWp.ops ?_ | refine AWp.seq (AWp.block (AWp.seq (AWp.ops ?_))) | refine AWp.seq (AWp.seq (AWp.seq (AWp.ops ?_))) | refine AWp.block (AWp.seq (AWp.ops ?_)) | refine AWp.block (AWp.seq (AWp.seq (AWp.ops ?_))) | refine AWp.seq (AWp.block (AWp.seq (AWp.seq (AWp.ops ?_))))
        simp
        refine AWp.ret ?_
        simp
        refine retOk.of rfl ?_
        rw [turnF, if_pos (by omega)]; simp
      intro h
      have hg0 : ¬ (rank < 0 ∨ 4 < rank) := by simpa only [hbad, decide_eq_false_iff_not] using h
      have hg : ¬ (rank < 0 ∨ 4 < rank ∨ xs.any (fun x => decide (x < 0)) = true) := by
        rintro (h | h | h)
        · omega
        · omega
        · rw [hany] at h; cases h
      obtain ⟨k, hk⟩ : ∃ k : Nat, rank = k := ⟨rank.toNat, by omega⟩
      have hk4 : k ≤ 4 := by omega
      obtain ⟨ns, hns⟩ : ∃ ns : List Nat, ns = xs.map Int.toNat := ⟨_, rfl⟩
      have hnl : ns.length = xs.length := by rw [hns]; simp
      have hng : ∀ i (h : i < xs.length), xs[i] = (ns[i]'(by omega) : Nat) := by
        intro i h
        have := hpos xs[i] (List.getElem_mem h)
        simp only [hns, List.getElem_map]
        omega
      subst hk
      have hT : turnF k xs = if 4611686018427387904 ≤ 64 + turnS ns 1 + 8 * (k + 1) * lastN ns 1 then (0, 0, 2) else (((64 + turnS ns 1 + 8 * (k + 1) * lastN ns 1 : Nat) : Int), (((k + 1) * lastN ns 1 : Nat) : Int), 0) := by
        rw [turnF, if_neg hg, Int.toNat_natCast, ← hns]
      obtain ⟨S, hS⟩ : ∃ S, S = turnS ns 1 := ⟨_, rfl⟩
      obtain ⟨L, hL⟩ : ∃ L, L = lastN ns 1 := ⟨_, rfl⟩
      rw [← hS, ← hL] at hT
      obtain ⟨CC, hCC⟩ : ∃ CC, CC = (k + 1) * L := ⟨_, rfl⟩
      obtain ⟨TT, hTT⟩ : ∃ TT, TT = 64 + S + 8 * (k + 1) * L := ⟨_, rfl⟩
      rw [← hCC, ← hTT] at hT
      have hC8 : (8 * k + 8) * L = 8 * CC := by rw [hCC, ← Nat.mul_assoc]; rfl
      rw [Nat.mul_assoc, ← hCC] at hTT
      rw [hT]
      have hLb : L < 9223372036854775808 := by
        rcases Nat.eq_zero_or_pos ns.length with h0 | h0
        · rw [hL, List.length_eq_zero_iff.1 h0]; decide
        · have h1 := lastN_get ns 1 h0
          have h2 := hng (ns.length - 1) (by omega)
          have h3 := hx _ (List.getElem_mem (by omega : ns.length - 1 < xs.length))
          omega
      refine AWp.skip ?_
      simp only [qSeq]
      first | refine AWp.seq (AWp.ops ?_) | refine AWp.seq (AWp.seq (AWp.ops ?_)) | refine AWp.ops ?_ | refine AWp.seq (AWp.block (AWp.seq (AWp.ops ?_))) | refine AWp.seq (AWp.seq (AWp.seq (AWp.ops ?_))) | refine AWp.block (AWp.seq (AWp.ops ?_)) | refine AWp.block (AWp.seq (AWp.seq (AWp.ops ?_))) | refine AWp.seq (AWp.block (AWp.seq (AWp.seq (AWp.ops ?_))))
      simp
      refine AWp.cut [I k, .imm nl c sz (xs.map I), .und, .und, .und, .und, .und, .und, .und, I L, .und, .und, .und, .und, .und, .und, .und, .und, .und, .und, .und, .und, .und, .und, .und, .und, .und, .und, .und, .und, .und, .und, .und, .und, .und, .und, .und, .und, .und, .und, .und, .und, .und, .und, .und, .und, .und, .und, .und, .und, .und, .und, .und, .und, .und, .und, .und, .und, .und, .und, .und, .und, .und, .und, .und, .und, .und, .und, .und, .und, .und, .und, .und, .und, .und, .und, .und, .und, .und, .und, .und, .und, .und, .und, .und, .und, .und, .und, .und, .und, .und, .und, .und, .und, .und, .und, .und, .und, .und, .und, .und, .und, .und, .und, .und, .und] [] ?_ ?_
      ·
        first | refine AWp.seq (AWp.ops ?_) | refine AWp.seq (AWp.seq (AWp.ops ?_)) | refine AWp.ops ?_ | refine AWp.seq (AWp.block (AWp.seq (AWp.ops ?_))) | refine AWp.seq (AWp.seq (AWp.seq (AWp.ops ?_))) | refine AWp.block (AWp.seq (AWp.ops ?_)) | refine AWp.block (AWp.seq (AWp.seq (AWp.ops ?_))) | refine AWp.seq (AWp.block (AWp.seq (AWp.seq (AWp.ops ?_))))
        simp
        by_cases hN0 : xs = []
        · have hl1 : L = 1 := by rw [hL, hns, hN0]; rfl
          refine AWp.cond (b := false) (by simp [hN0]) (fun h => by cases h) (fun _ => ?_)
          refine AWp.skip ?_
          simp only [qSeq]
          exact (Weak.slots [0, 1, 9]).to (by simp [hl1, hN0]) rfl
        · have hNp : 0 < xs.length := List.length_pos_iff.2 hN0
          have hszw := sz_of hs hNp
          subst hszw
          have b1 : xs.length - 1 < xs.length := by omega
          have w1 := wrap_i64 (n := (xs.length : Int) - 1) (by omega) (by omega)
          have g1 : (1 : Int) ≤ xs.length := by omega
          have g2 : ((xs.length : Int) - 1).toNat = xs.length - 1 := by omega
          have hg : xs[xs.length - 1] = (L : Int) := by
            rw [hng _ b1, hL, lastN_get ns 1 (by omega)]
            simp only [hnl]
          refine AWp.cond (b := true) (by simp [hNp]) (fun _ => ?_) (fun h => by cases h)
          first | refine AWp.seq (AWp.ops ?_) | refine AWp.seq (AWp.seq (AWp.ops ?_)) | refine AWp.ops ?_ | refine AWp.seq (AWp.block (AWp.seq (AWp.ops ?_))) | refine AWp.seq (AWp.seq (AWp.seq (AWp.ops ?_))) | refine AWp.block (AWp.seq (AWp.ops ?_)) | refine AWp.block (AWp.seq (AWp.seq (AWp.ops ?_))) | refine AWp.seq (AWp.block (AWp.seq (AWp.seq (AWp.ops ?_))))
          simp [b1, w1, g1, g2, hNp, hg]
          exact (Weak.slots [0, 1, 9]).to (by simp) rfl
      have w1 := wrap_i64 (n := 8 * (k : Int)) (by omega) (by omega)
      have w2 := wrap_i64 (n := 8 * (k : Int) + 8) (by omega) (by omega)
      have w3 := wrap_i64 (n := (k : Int) + 1) (by omega) (by omega)
      have e1 : 8 * (k : Int) + 8 = ((8 * k + 8 : Nat) : Int) := by omega
      have e2 : (k : Int) + 1 = ((k + 1 : Nat) : Int) := by omega
      first | refine AWp.seq (AWp.ops ?_) | refine AWp.seq (AWp.seq (AWp.ops ?_)) | refine AWp.ops ?_ | refine AWp.seq (AWp.block (AWp.seq (AWp.ops ?_))) | refine AWp.seq (AWp.seq (AWp.seq (AWp.ops ?_))) | refine AWp.block (AWp.seq (AWp.ops ?_)) | refine AWp.block (AWp.seq (AWp.seq (AWp.ops ?_))) | refine AWp.seq (AWp.block (AWp.seq (AWp.seq (AWp.ops ?_))))
      simp [w1, w2]
      rw [e1]
      refine (rTimes_spec (x := 8 * k + 8) (y := L) (by omega) hLb).mono ?_
      rintro r H' ⟨rfl, rfl⟩
      rw [hC8]
      simp
      first | refine AWp.seq (AWp.ops ?_) | refine AWp.seq (AWp.seq (AWp.ops ?_)) | refine AWp.ops ?_ | refine AWp.seq (AWp.block (AWp.seq (AWp.ops ?_))) | refine AWp.seq (AWp.seq (AWp.seq (AWp.ops ?_))) | refine AWp.block (AWp.seq (AWp.ops ?_)) | refine AWp.block (AWp.seq (AWp.seq (AWp.ops ?_))) | refine AWp.seq (AWp.block (AWp.seq (AWp.seq (AWp.ops ?_))))
      simp [w3]
      rw [e2]
      refine (rTimes_spec (x := k + 1) (y := L) (by omega) hLb).mono ?_
      rintro r H' ⟨rfl, rfl⟩
      rw [← hCC]
      simp
      by_cases c8 : 4611686018427387904 ≤ 8 * CC
      · have hb2 : 4611686018427387904 ≤ TT := by omega
        first | refine AWp.seq (AWp.ops ?_) | refine AWp.seq (AWp.seq (AWp.ops ?_)) | refine AWp.ops ?_ | refine AWp.seq (AWp.block (AWp.seq (AWp.ops ?_))) | refine AWp.seq (AWp.seq (AWp.seq (AWp.ops ?_))) | refine AWp.block (AWp.seq (AWp.ops ?_)) | refine AWp.block (AWp.seq (AWp.seq (AWp.ops ?_))) | refine AWp.seq (AWp.block (AWp.seq (AWp.seq (AWp.ops ?_))))
        simp [c8]
        refine AWp.cond (b := true) (by simp) (fun _ => ?_) (fun h => by cases h)
        first | refine AWp.seq (AWp.ops ?_) | refine AWp.seq (AWp.seq (AWp.ops ?_)) | refine AWp.ops ?_ | refine AWp.seq (AWp.block (AWp.seq (AWp.ops ?_))) | refine AWp.seq (AWp.seq (AWp.seq (AWp.ops ?_))) | refine AWp.block (AWp.seq (AWp.ops ?_)) | refine AWp.block (AWp.seq (AWp.seq (AWp.ops ?_))) | refine AWp.seq (AWp.block (AWp.seq (AWp.seq (AWp.ops ?_))))
        simp
        refine AWp.ret ?_
        simp
        refine retOk.of rfl ?_
        simp [hb2]
      have cC : ¬ 4611686018427387904 ≤ CC := by omega
      first | refine AWp.seq (AWp.ops ?_) | refine AWp.seq (AWp.seq (AWp.ops ?_)) | refine AWp.ops ?_ | refine AWp.seq (AWp.block (AWp.seq (AWp.ops ?_))) | refine AWp.seq (AWp.seq (AWp.seq (AWp.ops ?_))) | refine AWp.block (AWp.seq (AWp.ops ?_)) | refine AWp.block (AWp.seq (AWp.seq (AWp.ops ?_))) | refine AWp.seq (AWp.block (AWp.seq (AWp.seq (AWp.ops ?_))))
      simp [c8, cC]
      refine AWp.cond (b := false) (by simp) (fun h => by cases h) (fun _ => ?_)
      refine AWp.skip ?_
      simp only [qSeq]
      first | refine AWp.seq (AWp.ops ?_) | refine AWp.seq (AWp.seq (AWp.ops ?_)) | refine AWp.ops ?_ | refine AWp.seq (AWp.block (AWp.seq (AWp.ops ?_))) | refine AWp.seq (AWp.seq (AWp.seq (AWp.ops ?_))) | refine AWp.block (AWp.seq (AWp.ops ?_)) | refine AWp.block (AWp.seq (AWp.seq (AWp.ops ?_))) | refine AWp.seq (AWp.block (AWp.seq (AWp.seq (AWp.ops ?_))))
      simp
      first | refine AWp.seq (AWp.ops ?_) | refine AWp.seq (AWp.seq (AWp.ops ?_)) | refine AWp.ops ?_ | refine AWp.seq (AWp.block (AWp.seq (AWp.ops ?_))) | refine AWp.seq (AWp.seq (AWp.seq (AWp.ops ?_))) | refine AWp.block (AWp.seq (AWp.ops ?_)) | refine AWp.block (AWp.seq (AWp.seq (AWp.ops ?_))) | refine AWp.seq (AWp.block (AWp.seq (AWp.seq (AWp.ops ?_))))
      simp
      obtain ⟨JK, hJK⟩ : ∃ J : Nat → List AV → List AObj → Prop, J = fun iK fr H => iK ≤ xs.length ∧ ∃ (f a : Nat), ((f < 4611686018427387904 ∧ a < 9223372036854775808) ∧ f + turnS (ns.drop iK) a + 64 = TT) ∧ H = [] ∧
        fr = [.und, .und, .und, .und, .und, .und, .und, .und, .und, .und, I f, .und, I CC, .und, I a, .und, .und, .und, .und, .und, .und, .und, .und, .und, .und, .und, .und, .und, .und, .und, .und, .und, .und, .und, .und, .und, .und, .und, .und, .und, .und, .und, .und, .und, .und, .und, .und, .und, .und, .und, .und, .und, .und, .und, .und, .und, .und, .und, .und, .und, .und, .und, .und, .und, .und, .und, .imm nl c sz (xs.map I), I xs.length, I iK, .und, .und, .und, .und, .und, .und, .und, .und, .und, .und, .und, .und, .und, .und, .und, .und, .und, .und, .und, .und, .und, .und, .und, .und, .und, .und, .und, .und, .und, .und, .und, .und, .und, .und, .und, .und, .und] := ⟨_, rfl⟩
      refine AWp.block (AWp.loop JK (fun iK => xs.length - iK) 0 (Weak.slots [10, 12, 14, 66, 67, 68]) (by rw [hJK]; exact ⟨by omega, 8 * CC, 1, ⟨⟨by omega, by omega⟩, by show 8 * CC + turnS ns 1 + 64 = TT; omega⟩, by simp, by simp⟩) ?_)
      intro iK fr H hI
      rw [hJK] at hI
      obtain ⟨hiK, f, a, hinvK, rfl, rfl⟩ := hI
      first | refine AWp.seq (AWp.ops ?_) | refine AWp.seq (AWp.seq (AWp.ops ?_)) | refine AWp.ops ?_ | refine AWp.seq (AWp.block (AWp.seq (AWp.ops ?_))) | refine AWp.seq (AWp.seq (AWp.seq (AWp.ops ?_))) | refine AWp.block (AWp.seq (AWp.ops ?_)) | refine AWp.block (AWp.seq (AWp.seq (AWp.ops ?_))) | refine AWp.seq (AWp.block (AWp.seq (AWp.seq (AWp.ops ?_))))
      simp
      refine AWp.seq (AWp.cond (b := decide (iK < xs.length)) (by simp <;> omega) ?_ ?_)
      ·
        intro hb
        have hb : iK < xs.length := by simpa using hb
        refine AWp.skip ?_
        simp only [qSeq]
        obtain ⟨⟨hf, ha⟩, i1⟩ := hinvK
        have hbn : iK < ns.length := by omega
        have hsz := sz_of hs hb
        subst hsz
        have hxi := hng iK hb
        have hxr := hx xs[iK] (List.getElem_mem hb)
        rw [List.drop_eq_getElem_cons hbn] at i1
        generalize ns[iK] = m at hxi i1
        simp only [turnS] at i1
        first | refine AWp.seq (AWp.ops ?_) | refine AWp.seq (AWp.seq (AWp.ops ?_)) | refine AWp.ops ?_ | refine AWp.seq (AWp.block (AWp.seq (AWp.ops ?_))) | refine AWp.seq (AWp.seq (AWp.seq (AWp.ops ?_))) | refine AWp.block (AWp.seq (AWp.ops ?_)) | refine AWp.block (AWp.seq (AWp.seq (AWp.ops ?_))) | refine AWp.seq (AWp.block (AWp.seq (AWp.seq (AWp.ops ?_))))
        simp [hb, hxi]
        first | refine AWp.seq (AWp.ops ?_) | refine AWp.seq (AWp.seq (AWp.ops ?_)) | refine AWp.ops ?_ | refine AWp.seq (AWp.block (AWp.seq (AWp.ops ?_))) | refine AWp.seq (AWp.seq (AWp.seq (AWp.ops ?_))) | refine AWp.block (AWp.seq (AWp.ops ?_)) | refine AWp.block (AWp.seq (AWp.seq (AWp.ops ?_))) | refine AWp.seq (AWp.block (AWp.seq (AWp.seq (AWp.ops ?_))))
        simp
        obtain ⟨J2, hJ2⟩ : ∃ J2 : Nat → List AV → List AObj → Prop, J2 = fun (j : Nat) fr H => ∃ f2 : Nat, (j ≤ 2 ∧ f2 < 4611686018427387904 ∧ f2 = f + (if j = 0 then 0 else 24 * a) + (if j ≤ 1 then 0 else 24 * m)) ∧ H = [] ∧
          fr = [.und, .und, .und, .und, .und, .und, .und, .und, .und, .und, I f2, .und, I CC, .und, I a, .und, I m, .und, .und, .und, .und, .und, .und, .und, .und, .und, .und, .und, .und, .und, .und, .und, .und, .und, .und, .und, .und, .und, .und, .und, .und, .und, .und, .und, .und, .und, .und, .und, .und, .und, .und, .und, .und, .und, .und, .und, .und, .und, .und, .und, .und, .und, .und, .und, .und, .und, .imm nl c 1 (xs.map I), I xs.length, I iK, .und, .und, .und, .und, .und, .imm false (some 2) 1 [I a, I m], I 2, I j, .und, .und, .und, .und, .und, .und, .und, .und, .und, .und, .und, .und, .und, .und, .und, .und, .und, .und, .und, .und, .und, .und, .und, .und, .und, .und, .und, .und, .und] := ⟨_, rfl⟩
        refine AWp.block (AWp.loop J2 (fun j => 2 - j) 0 (Weak.slots [10, 12, 14, 16, 66, 67, 68, 74, 75, 76]) (by
          rw [hJ2]
          exact ⟨f, ⟨by omega, hf, by simp⟩, by simp, by simp⟩) ?_)
        intro j fr H hI
        rw [hJ2] at hI
        obtain ⟨f2, ⟨hj2, hf2, hfe⟩, rfl, rfl⟩ := hI
        first | refine AWp.seq (AWp.ops ?_) | refine AWp.seq (AWp.seq (AWp.ops ?_)) | refine AWp.ops ?_ | refine AWp.seq (AWp.block (AWp.seq (AWp.ops ?_))) | refine AWp.seq (AWp.seq (AWp.seq (AWp.ops ?_))) | refine AWp.block (AWp.seq (AWp.ops ?_)) | refine AWp.block (AWp.seq (AWp.seq (AWp.ops ?_))) | refine AWp.seq (AWp.block (AWp.seq (AWp.seq (AWp.ops ?_))))
        simp
        refine AWp.seq (AWp.cond (b := decide (j < 2)) (by simp; omega) ?_ ?_)
        · intro h0
          have h0 : j < 2 := by simpa using h0
          obtain ⟨x, hx1⟩ : ∃ x, x = if j = 0 then a else m := ⟨_, rfl⟩
          have hxb : x < 9223372036854775808 := by rw [hx1]; split <;> omega
          have hget : [I a, I m][j]? = some (I x) := by
            match j, h0 with
            | 0, _ => simp [hx1]
            | 1, _ => simp [hx1]
          have hgt : [I a, I m][j]'(by simpa using h0) = I x := by
            have := hget
            rw [List.getElem?_eq_getElem (by simpa using h0)] at this
            simpa using this
          have hnx : f2 + 24 * x = f + (if j + 1 = 0 then 0 else 24 * a) + (if j + 1 ≤ 1 then 0 else 24 * m) := by
            rcases (show j = 0 ∨ j = 1 by omega) with h | h <;> simp [hx1, hfe, h]
          have hsm : f2 + 24 * x ≤ f + 24 * a + 24 * m := by
            rw [hnx]; split <;> split <;> omega
          have wj := wrap_i64 (n := (j : Int) + 1) (by omega) (by omega)
          refine AWp.skip ?_
          simp only [qSeq]
          first | refine AWp.seq (AWp.ops ?_) | refine AWp.seq (AWp.seq (AWp.ops ?_)) | refine AWp.ops ?_ | refine AWp.seq (AWp.block (AWp.seq (AWp.ops ?_))) | refine AWp.seq (AWp.seq (AWp.seq (AWp.ops ?_))) | refine AWp.block (AWp.seq (AWp.ops ?_)) | refine AWp.block (AWp.seq (AWp.seq (AWp.ops ?_))) | refine AWp.seq (AWp.block (AWp.seq (AWp.seq (AWp.ops ?_))))
          simp [h0, hgt, hget]
          first | refine AWp.seq (AWp.ops ?_) | refine AWp.seq (AWp.seq (AWp.ops ?_)) | refine AWp.ops ?_ | refine AWp.seq (AWp.block (AWp.seq (AWp.ops ?_))) | refine AWp.seq (AWp.seq (AWp.seq (AWp.ops ?_))) | refine AWp.block (AWp.seq (AWp.ops ?_)) | refine AWp.block (AWp.seq (AWp.seq (AWp.ops ?_))) | refine AWp.seq (AWp.block (AWp.seq (AWp.seq (AWp.ops ?_))))
          simp
          refine (rTimes_spec (x := 24) (y := x) (by omega) hxb).mono ?_
          rintro r H' ⟨rfl, rfl⟩
          simp
          first | refine AWp.seq (AWp.ops ?_) | refine AWp.seq (AWp.seq (AWp.ops ?_)) | refine AWp.ops ?_ | refine AWp.seq (AWp.block (AWp.seq (AWp.ops ?_))) | refine AWp.seq (AWp.seq (AWp.seq (AWp.ops ?_))) | refine AWp.block (AWp.seq (AWp.ops ?_)) | refine AWp.block (AWp.seq (AWp.seq (AWp.ops ?_))) | refine AWp.seq (AWp.block (AWp.seq (AWp.seq (AWp.ops ?_))))
          simp
          by_cases d1 : 4611686018427387904 ≤ 24 * x
          · have hb2 : 4611686018427387904 ≤ TT := by omega
            refine AWp.cond (b := false) (by simp [d1]) (fun h => by cases h) (fun _ => ?_)
            refine AWp.skip ?_
            simp only [qSeq]
            first | refine AWp.seq (AWp.ops ?_) | refine AWp.seq (AWp.seq (AWp.ops ?_)) | refine AWp.ops ?_ | refine AWp.seq (AWp.block (AWp.seq (AWp.ops ?_))) | refine AWp.seq (AWp.seq (AWp.seq (AWp.ops ?_))) | refine AWp.block (AWp.seq (AWp.ops ?_)) | refine AWp.block (AWp.seq (AWp.seq (AWp.ops ?_))) | refine AWp.seq (AWp.block (AWp.seq (AWp.seq (AWp.ops ?_))))
            simp
            refine AWp.cond (b := true) (by simp [d1]) (fun _ => ?_) (fun h => by cases h)
            first | refine AWp.seq (AWp.ops ?_) | refine AWp.seq (AWp.seq (AWp.ops ?_)) | refine AWp.ops ?_ | refine AWp.seq (AWp.block (AWp.seq (AWp.ops ?_))) | refine AWp.seq (AWp.seq (AWp.seq (AWp.ops ?_))) | refine AWp.block (AWp.seq (AWp.ops ?_)) | refine AWp.block (AWp.seq (AWp.seq (AWp.ops ?_))) | refine AWp.seq (AWp.block (AWp.seq (AWp.seq (AWp.ops ?_))))
            simp
            refine AWp.ret ?_
            simp
            refine retOk.of rfl ?_
            simp [hb2]
          have d1' : 24 * x < 4611686018427387904 := by omega
          refine AWp.cond (b := true) (by simp [d1']) (fun _ => ?_) (fun h => by cases h)
          have ed : (if 4611686018427387904 ≤ 24 * x then (0 : Int) else 24 * (x : Int)) = ((24 * x : Nat) : Int) := by rw [if_neg d1]; simp
          have e24 : 24 * (x : Int) = ((24 * x : Nat) : Int) := by omega
          first | refine AWp.seq (AWp.ops ?_) | refine AWp.seq (AWp.seq (AWp.ops ?_)) | refine AWp.ops ?_ | refine AWp.seq (AWp.block (AWp.seq (AWp.ops ?_))) | refine AWp.seq (AWp.seq (AWp.seq (AWp.ops ?_))) | refine AWp.block (AWp.seq (AWp.ops ?_)) | refine AWp.block (AWp.seq (AWp.seq (AWp.ops ?_))) | refine AWp.seq (AWp.block (AWp.seq (AWp.seq (AWp.ops ?_))))
          simp [ed]
          rw [e24]
          refine (rplus_spec (x := f2) (y := 24 * x) hf2 d1').mono ?_
          rintro r H' ⟨rfl, rfl⟩
          by_cases d2 : 4611686018427387904 ≤ f2 + 24 * x
          · have hb2 : 4611686018427387904 ≤ TT := by omega
            rw [if_pos d2]
            simp [d2]
            first | refine AWp.seq (AWp.ops ?_) | refine AWp.seq (AWp.seq (AWp.ops ?_)) | refine AWp.ops ?_ | refine AWp.seq (AWp.block (AWp.seq (AWp.ops ?_))) | refine AWp.seq (AWp.seq (AWp.seq (AWp.ops ?_))) | refine AWp.block (AWp.seq (AWp.ops ?_)) | refine AWp.block (AWp.seq (AWp.seq (AWp.ops ?_))) | refine AWp.seq (AWp.block (AWp.seq (AWp.seq (AWp.ops ?_))))
            simp
            refine AWp.cond (b := true) (by simp) (fun _ => ?_) (fun h => by cases h)
            first | refine AWp.seq (AWp.ops ?_) | refine AWp.seq (AWp.seq (AWp.ops ?_)) | refine AWp.ops ?_ | refine AWp.seq (AWp.block (AWp.seq (AWp.ops ?_))) | refine AWp.seq (AWp.seq (AWp.seq (AWp.ops ?_))) | refine AWp.block (AWp.seq (AWp.ops ?_)) | refine AWp.block (AWp.seq (AWp.seq (AWp.ops ?_))) | refine AWp.seq (AWp.block (AWp.seq (AWp.seq (AWp.ops ?_))))
            simp
            refine AWp.ret ?_
            simp
            refine retOk.of rfl ?_
            simp [hb2]
          · rw [if_neg d2]
            have d2' : f2 + 24 * x < 4611686018427387904 := by omega
            simp [d2']
            first | refine AWp.seq (AWp.ops ?_) | refine AWp.seq (AWp.seq (AWp.ops ?_)) | refine AWp.ops ?_ | refine AWp.seq (AWp.block (AWp.seq (AWp.ops ?_))) | refine AWp.seq (AWp.seq (AWp.seq (AWp.ops ?_))) | refine AWp.block (AWp.seq (AWp.ops ?_)) | refine AWp.block (AWp.seq (AWp.seq (AWp.ops ?_))) | refine AWp.seq (AWp.block (AWp.seq (AWp.seq (AWp.ops ?_))))
            simp
            refine AWp.cond (b := false) (by simp [d2']) (fun h => by cases h) (fun _ => ?_)
            refine AWp.skip ?_
            simp only [qSeq, qBlock]
            first | refine AWp.seq (AWp.ops ?_) | refine AWp.seq (AWp.seq (AWp.ops ?_)) | refine AWp.ops ?_ | refine AWp.seq (AWp.block (AWp.seq (AWp.ops ?_))) | refine AWp.seq (AWp.seq (AWp.seq (AWp.ops ?_))) | refine AWp.block (AWp.seq (AWp.ops ?_)) | refine AWp.block (AWp.seq (AWp.seq (AWp.ops ?_))) | refine AWp.seq (AWp.block (AWp.seq (AWp.seq (AWp.ops ?_))))
            simp [wj]
            refine ⟨j + 1, _, _, Weak.slots [10, 12, 14, 16, 66, 67, 68, 74, 75, 76], ?_, by omega⟩
            rw [hJ2]
            exact ⟨f2 + 24 * x, ⟨by omega, d2', hnx⟩, by simp, by simp [wj]⟩
        · intro h0
          have h0 : ¬ j < 2 := by simpa using h0
          obtain rfl : j = 2 := by omega
          refine AWp.exit ?_
          simp [qSeq, qBlock]
          first | refine AWp.seq (AWp.ops ?_) | refine AWp.seq (AWp.seq (AWp.ops ?_)) | refine AWp.ops ?_ | refine AWp.seq (AWp.block (AWp.seq (AWp.ops ?_))) | refine AWp.seq (AWp.seq (AWp.seq (AWp.ops ?_))) | refine AWp.block (AWp.seq (AWp.ops ?_)) | refine AWp.block (AWp.seq (AWp.seq (AWp.ops ?_))) | refine AWp.seq (AWp.block (AWp.seq (AWp.seq (AWp.ops ?_))))
          simp
          first | refine AWp.seq (AWp.ops ?_) | refine AWp.seq (AWp.seq (AWp.ops ?_)) | refine AWp.ops ?_ | refine AWp.seq (AWp.block (AWp.seq (AWp.ops ?_))) | refine AWp.seq (AWp.seq (AWp.seq (AWp.ops ?_))) | refine AWp.block (AWp.seq (AWp.ops ?_)) | refine AWp.block (AWp.seq (AWp.seq (AWp.ops ?_))) | refine AWp.seq (AWp.block (AWp.seq (AWp.seq (AWp.ops ?_))))
          simp
          refine ⟨iK + 1, _, _, Weak.slots [10, 12, 14, 66, 67, 68], ?_, by omega⟩
          rw [hJK]
          simp at hfe
          exact ⟨by omega, f2, m, ⟨⟨hf2, by omega⟩, by omega⟩, by simp, by simp [wrap_i64 (n := (iK : Int) + 1) (by omega) (by omega)]⟩
      ·
        intro hb
        have hb : ¬ iK < xs.length := by simpa using hb
        refine AWp.exit ?_
        simp [qSeq, qBlock]
        obtain ⟨⟨hf, ha⟩, i1⟩ := hinvK
        rw [List.drop_eq_nil_of_le (by omega)] at i1
        simp only [turnS, Nat.add_zero] at i1
        first | refine AWp.seq (AWp.ops ?_) | refine AWp.seq (AWp.seq (AWp.ops ?_)) | refine AWp.ops ?_ | refine AWp.seq (AWp.block (AWp.seq (AWp.ops ?_))) | refine AWp.seq (AWp.seq (AWp.seq (AWp.ops ?_))) | refine AWp.block (AWp.seq (AWp.ops ?_)) | refine AWp.block (AWp.seq (AWp.seq (AWp.ops ?_))) | refine AWp.seq (AWp.block (AWp.seq (AWp.seq (AWp.ops ?_))))
        simp
        refine (rplus_spec (x := f) (y := 64) hf (by omega)).mono ?_
        rintro r H' ⟨rfl, rfl⟩
        rw [i1]
        simp
        by_cases hb2 : 4611686018427387904 ≤ TT
        ·
          first | refine AWp.seq (AWp.ops ?_) | refine AWp.seq (AWp.seq (AWp.ops ?_)) | refine AWp.ops ?_ | refine AWp.seq (AWp.block (AWp.seq (AWp.ops ?_))) | refine AWp.seq (AWp.seq (AWp.seq (AWp.ops ?_))) | refine AWp.block (AWp.seq (AWp.ops ?_)) | refine AWp.block (AWp.seq (AWp.seq (AWp.ops ?_))) | refine AWp.seq (AWp.block (AWp.seq (AWp.seq (AWp.ops ?_))))
          simp [hb2]
          refine AWp.cond (b := true) (by simp [hb2]) (fun _ => ?_) (fun h => by cases h)
          first | refine AWp.seq (AWp.ops ?_) | refine AWp.seq (AWp.seq (AWp.ops ?_)) | refine AWp.ops ?_ | refine AWp.seq (AWp.block (AWp.seq (AWp.ops ?_))) | refine AWp.seq (AWp.seq (AWp.seq (AWp.ops ?_))) | refine AWp.block (AWp.seq (AWp.ops ?_)) | refine AWp.block (AWp.seq (AWp.seq (AWp.ops ?_))) | refine AWp.seq (AWp.block (AWp.seq (AWp.seq (AWp.ops ?_))))
          simp
          refine AWp.ret ?_
          simp
          refine retOk.of rfl ?_
          simp [hb2]
        · have hb2' : TT < 4611686018427387904 := by omega
          first | refine AWp.seq (AWp.ops ?_) | refine AWp.seq (AWp.seq (AWp.ops ?_)) | refine AWp.ops ?_ | refine AWp.seq (AWp.block (AWp.seq (AWp.ops ?_))) | refine AWp.seq (AWp.seq (AWp.seq (AWp.ops ?_))) | refine AWp.block (AWp.seq (AWp.ops ?_)) | refine AWp.block (AWp.seq (AWp.seq (AWp.ops ?_))) | refine AWp.seq (AWp.block (AWp.seq (AWp.seq (AWp.ops ?_))))
          simp [hb2]
          refine AWp.cond (b := false) (by simp [hb2']) (fun h => by cases h) (fun _ => ?_)
          refine AWp.skip ?_
          simp only [qSeq]
          first | refine AWp.seq (AWp.ops ?_) | refine AWp.seq (AWp.seq (AWp.ops ?_)) | refine AWp.ops ?_ | refine AWp.seq (AWp.block (AWp.seq (AWp.ops ?_))) | refine AWp.seq (AWp.seq (AWp.seq (AWp.ops ?_))) | refine AWp.block (AWp.seq (AWp.ops ?_)) | refine AWp.block (AWp.seq (AWp.seq (AWp.ops ?_))) | refine AWp.seq (AWp.block (AWp.seq (AWp.seq (AWp.ops ?_))))
          simp
          refine AWp.ret ?_
          simp
          refine retOk.of rfl ?_
          simp [hb2]
  refine (base.frozen 2).mono ?_
  rintro q H' ⟨rfl, r, G, rfl, rfl⟩
  exact ⟨rfl, by simp⟩
end Go.Fw
