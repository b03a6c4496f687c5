import Derived.Test.YtgdkdojjfijipaaFwcoo9
import Derived.Test.YtgdkdojjfijipaaFwcoo18
namespace Go.Fw
open Go Go.RowKit Go.Proofs
set_option maxRecDepth 100000
set_option linter.unusedSimpArgs false
set_option linter.unusedVariables false

/-- The order that turns back, as far as it is known. -/
def bk (O : List Int) (i : Nat) : List Int := (List.range O.length).map fun (m : Nat) => if (m : Int) ∈ O.take i then (O.idxOf (m : Int) : Int) else 0
@[simp] theorem bk_len (O : List Int) (i : Nat) : (bk O i).length = O.length := by simp [bk]
theorem bk_zero (O : List Int) : List.replicate O.length (0 : Int) = bk O 0 := by
  apply List.ext_getElem (by simp)
  intro i h1 h2
  simp [bk]
theorem bk_all {O : List Int} (h : Ordr O) : bk O O.length = backL O := by
  apply List.ext_getElem (by simp [backL])
  intro i h1 h2
  simp [bk, backL, h.al i (by simpa using h1)]
theorem bk_succ {O : List Int} (h : Ordr O) {i : Nat} (hi : i < O.length) : (bk O i).set O[i].toNat (i : Int) = bk O (i + 1) := by
  have hr := h.rg O[i] (List.getElem_mem hi)
  apply List.ext_getElem (by simp)
  intro j h1 h2
  have hj : j < O.length := by simpa using h1
  rw [List.getElem_set]
  have ht : O.take (i + 1) = O.take i ++ [O[i]] := List.take_succ_eq_append_getElem hi
  have hidx : O.idxOf O[i] = i := by
    have hlt : O.idxOf O[i] < O.length := List.idxOf_lt_length_iff.2 (List.getElem_mem hi)
    exact nd_inj h.nd hlt hi (List.getElem_idxOf hlt)
  by_cases e : O[i].toNat = j
  · have e2 : O[i] = (j : Int) := by omega
    rw [if_pos e]
    simp only [bk, List.getElem_map, List.getElem_range]
    rw [if_pos (by rw [← e2, ht]; exact List.mem_append_right _ (List.mem_singleton.2 rfl)), ← e2, hidx]
  · rw [if_neg e]
    have e2 : ¬ (j : Int) = O[i] := by omega
    simp only [bk, List.getElem_map, List.getElem_range, ht, List.mem_append, List.mem_singleton, e2, or_false]

def CooBack_45 : AC := (.seq (.ops [⟨(some 133), none, (.k (.mov (.t 22)))⟩, ⟨(some 134), none, (.k (.mov (.t 24)))⟩, ⟨(some 135), none, (.k (.bin .neq (.t 133) (.t 134)))⟩, ⟨(some 136), none, (.k (.mov (.t 135)))⟩, ⟨(some 137), (some (136, false)), (.k (.mov (.t 23)))⟩, ⟨(some 138), (some (136, false)), (.k (.bin .neq (.t 137) (.c (.sc (.int .i64 0)))))⟩, ⟨(some 139), none, (.k (.pick (.t 136) (.c (.sc (.bool true))) (.t 138)))⟩, ⟨(some 140), none, (.k (.mov (.t 139)))⟩, ⟨(some 141), (some (140, false)), (.k (.mov (.t 25)))⟩, ⟨(some 142), (some (140, false)), (.k (.bin .neq (.t 141) (.c (.sc (.int .i64 0)))))⟩, ⟨(some 143), none, (.k (.pick (.t 140) (.c (.sc (.bool true))) (.t 142)))⟩]) (.cond (.t 143) (.seq (.ops [⟨(some 4), none, (.k (.mov (.c (.sc (.bool false)))))⟩]) .ret) .skip))
def CooBack_44 : AC := (.seq (.ops [⟨(some 128), none, (.k (.ld 2 true (.t 15)))⟩, ⟨(some 129), none, (.k (.mov (.t 19)))⟩, ⟨(some 130), none, (.call false (.c (.fn (.func 32) [] [])) [(.t 128), (.t 129)])⟩, ⟨(some 127), none, (.k (.mov (.t 130)))⟩, ⟨(some 131), none, (.k (.ext (.t 127) 0))⟩, ⟨(some 132), none, (.k (.ext (.t 127) 1))⟩, ⟨(some 24), none, (.k (.mov (.t 131)))⟩, ⟨(some 25), none, (.k (.mov (.t 132)))⟩]) CooBack_45)
def CooBack_43 : AC := (.seq (.ops [⟨(some 121), none, (.k (.ld 2 true (.t 13)))⟩, ⟨(some 122), none, (.k (.fad 0 (.t 18)))⟩, ⟨(some 123), none, (.k (.ld 1 false (.t 122)))⟩, ⟨(some 124), none, (.call false (.c (.fn (.func 32) [] [])) [(.t 121), (.t 123)])⟩, ⟨(some 120), none, (.k (.mov (.t 124)))⟩, ⟨(some 125), none, (.k (.ext (.t 120) 0))⟩, ⟨(some 126), none, (.k (.ext (.t 120) 1))⟩, ⟨(some 22), none, (.k (.mov (.t 125)))⟩, ⟨(some 23), none, (.k (.mov (.t 126)))⟩]) CooBack_44)
def CooBack_42 : AC := (.seq (.ops [⟨(some 109), none, (.k (.iad 1 (.t 105) (.t 107)))⟩, ⟨(some 110), none, (.k (.ld 1 false (.t 109)))⟩, ⟨(some 21), none, (.k (.mov (.t 110)))⟩]) (.ops [⟨(some 111), none, (.k (.mov (.t 19)))⟩, ⟨(some 112), none, (.k (.fad 0 (.t 18)))⟩, ⟨(some 113), none, (.k (.ld 1 false (.t 112)))⟩, ⟨(some 114), none, (.k (.mov (.t 21)))⟩, ⟨(some 115), none, (.k (.iad 1 (.t 113) (.t 114)))⟩, ⟨(some 116), none, (.k (.ld 1 false (.t 115)))⟩, ⟨(some 117), none, (.k (.lit 1 [(.t 116)]))⟩, ⟨(some 118), none, (.k (.app 3 1 8 (.t 111) (.t 117)))⟩, ⟨(some 19), none, (.k (.mov (.t 118)))⟩]))
def CooBack_41 : AC := (.block 5 CooBack_42)
def CooBack_40 : AC := (.seq CooBack_41 (.ops [⟨(some 119), none, (.k (.bin .add (.t 107) (.c (.sc (.int .i64 1)))))⟩, ⟨(some 107), none, (.k (.mov (.t 119)))⟩]))
def CooBack_39 : AC := (.seq (.cond (.t 108) .skip (.exit 4)) CooBack_40)
def CooBack_38 : AC := (.seq (.ops [⟨(some 108), none, (.k (.bin .lss (.t 107) (.t 106)))⟩]) CooBack_39)
def CooBack_37 : AC := (.loop CooBack_38)
def CooBack_36 : AC := (.block 4 CooBack_37)
def CooBack_35 : AC := (.seq (.ops [⟨(some 105), none, (.k (.mov (.t 1)))⟩, ⟨(some 106), none, (.k (.len (.t 105)))⟩, ⟨(some 107), none, (.k (.mov (.c (.sc (.int .i64 0)))))⟩]) CooBack_36)
def CooBack_34 : AC := (.seq CooBack_35 CooBack_43)
def CooBack_33 : AC := (.seq (.ops [⟨(some 19), none, (.k (.mov (.c (.imm true none 0 []))))⟩]) CooBack_34)
def CooBack_32 : AC := (.seq (.ops [⟨(some 103), none, (.k (.iad 2 (.t 99) (.t 101)))⟩, ⟨(some 104), none, (.k (.ld 2 true (.t 103)))⟩, ⟨(some 18), none, (.k (.new 38 2 (.c (.agg [(.imm true none 0 []), (.sc (.int .i64 0))]))))⟩, ⟨none, none, (.k (.st 2 (.t 18) (.t 104)))⟩]) CooBack_33)
def CooBack_31 : AC := (.block 3 CooBack_32)
def CooBack_30 : AC := (.seq CooBack_31 (.ops [⟨(some 144), none, (.k (.bin .add (.t 101) (.c (.sc (.int .i64 1)))))⟩, ⟨(some 101), none, (.k (.mov (.t 144)))⟩]))
def CooBack_29 : AC := (.seq (.cond (.t 102) .skip (.exit 2)) CooBack_30)
def CooBack_28 : AC := (.seq (.ops [⟨(some 102), none, (.k (.bin .lss (.t 101) (.t 100)))⟩]) CooBack_29)
def CooBack_27 : AC := (.loop CooBack_28)
def CooBack_26 : AC := (.block 2 CooBack_27)
def CooBack_25 : AC := (.seq (.ops [⟨(some 98), none, (.k (.fad 1 (.t 2)))⟩, ⟨(some 99), none, (.k (.ld 1 false (.t 98)))⟩, ⟨(some 100), none, (.k (.len (.t 99)))⟩, ⟨(some 101), none, (.k (.mov (.c (.sc (.int .i64 0)))))⟩]) CooBack_26)
def CooBack_24 : AC := (.seq CooBack_25 (.seq (.ops [⟨(some 145), none, (.k (.mov (.t 5)))⟩, ⟨(some 4), none, (.k (.mov (.t 145)))⟩]) .ret))
def CooBack_23 : AC := (.seq (.ops [⟨(some 95), none, (.k (.mov (.t 14)))⟩, ⟨(some 96), none, (.k (.bin .neq (.t 95) (.c (.sc (.int .i64 0)))))⟩]) (.cond (.t 96) (.seq (.ops [⟨(some 97), none, (.k (.mov (.t 5)))⟩, ⟨(some 4), none, (.k (.mov (.t 97)))⟩]) .ret) .skip))
def CooBack_22 : AC := (.seq CooBack_23 CooBack_24)
def CooBack_21 : AC := (.seq (.ops [⟨(some 82), none, (.k (.mov (.t 12)))⟩, ⟨(some 83), none, (.k (.bin .neq (.t 82) (.c (.sc (.int .i64 0)))))⟩, ⟨(some 84), none, (.k (.mov (.t 83)))⟩, ⟨(some 85), (some (84, false)), (.k (.mov (.t 14)))⟩, ⟨(some 86), (some (84, false)), (.k (.mov (.t 16)))⟩, ⟨(some 87), (some (84, false)), (.k (.bin .neq (.t 85) (.t 86)))⟩, ⟨(some 88), none, (.k (.pick (.t 84) (.c (.sc (.bool true))) (.t 87)))⟩, ⟨(some 89), none, (.k (.mov (.t 88)))⟩, ⟨(some 90), (some (89, false)), (.k (.ld 2 true (.t 11)))⟩, ⟨(some 91), (some (89, false)), (.k (.ld 2 true (.t 2)))⟩, ⟨(some 92), (some (89, false)), (.call false (.c (.fn (.func 19) [] [])) [(.t 90), (.t 91)])⟩, ⟨(some 93), (some (89, false)), (.k (.un .not (.t 92)))⟩, ⟨(some 94), none, (.k (.pick (.t 89) (.c (.sc (.bool true))) (.t 93)))⟩]) (.cond (.t 94) (.seq (.ops [⟨(some 4), none, (.k (.mov (.c (.sc (.bool false)))))⟩]) .ret) .skip))
def CooBack_20 : AC := (.seq CooBack_21 CooBack_22)
def CooBack_19 : AC := (.seq (.ops [⟨(some 78), none, (.k (.ld 2 true (.t 6)))⟩, ⟨(some 79), none, (.call false (.c (.fn (.func 31) [] [])) [(.t 78)])⟩, ⟨(some 77), none, (.k (.mov (.t 79)))⟩, ⟨(some 80), none, (.k (.ext (.t 77) 0))⟩, ⟨(some 81), none, (.k (.ext (.t 77) 1))⟩, ⟨(some 15), none, (.k (.new 49 2 (.c (.agg [(.imm true none 0 []), (.imm true none 0 [])]))))⟩, ⟨none, none, (.k (.st 2 (.t 15) (.t 80)))⟩, ⟨(some 16), none, (.k (.mov (.t 81)))⟩]) CooBack_20)
def CooBack_18 : AC := (.seq (.ops [⟨(some 73), none, (.k (.ld 2 true (.t 2)))⟩, ⟨(some 74), none, (.call false (.c (.fn (.func 31) [] [])) [(.t 73)])⟩, ⟨(some 72), none, (.k (.mov (.t 74)))⟩, ⟨(some 75), none, (.k (.ext (.t 72) 0))⟩, ⟨(some 76), none, (.k (.ext (.t 72) 1))⟩, ⟨(some 13), none, (.k (.new 49 2 (.c (.agg [(.imm true none 0 []), (.imm true none 0 [])]))))⟩, ⟨none, none, (.k (.st 2 (.t 13) (.t 75)))⟩, ⟨(some 14), none, (.k (.mov (.t 76)))⟩]) CooBack_19)
def CooBack_17 : AC := (.seq (.ops [⟨(some 67), none, (.k (.ld 2 true (.t 6)))⟩, ⟨(some 68), none, (.k (.mov (.t 8)))⟩, ⟨(some 69), none, (.call false (.c (.fn (.func 30) [] [])) [(.t 67), (.t 68)])⟩, ⟨(some 66), none, (.k (.mov (.t 69)))⟩, ⟨(some 70), none, (.k (.ext (.t 66) 0))⟩, ⟨(some 71), none, (.k (.ext (.t 66) 1))⟩, ⟨(some 11), none, (.k (.new 25 2 (.c (.agg [(.imm true none 0 []), (.imm true none 0 [])]))))⟩, ⟨none, none, (.k (.st 2 (.t 11) (.t 70)))⟩, ⟨(some 12), none, (.k (.mov (.t 71)))⟩]) CooBack_18)
def CooBack_16 : AC := (.seq (.ops [⟨(some 58), none, (.k (.mov (.t 56)))⟩, ⟨(some 59), none, (.k (.iad 1 (.t 54) (.t 56)))⟩, ⟨(some 60), none, (.k (.ld 1 false (.t 59)))⟩, ⟨(some 9), none, (.k (.mov (.t 58)))⟩, ⟨(some 10), none, (.k (.mov (.t 60)))⟩]) (.ops [⟨(some 61), none, (.k (.mov (.t 8)))⟩, ⟨(some 62), none, (.k (.mov (.t 10)))⟩, ⟨(some 63), none, (.k (.mov (.t 9)))⟩, ⟨(some 64), none, (.k (.iad 1 (.t 61) (.t 62)))⟩, ⟨none, none, (.k (.st 1 (.t 64) (.t 63)))⟩]))
def CooBack_15 : AC := (.block 1 CooBack_16)
def CooBack_14 : AC := (.seq CooBack_15 (.ops [⟨(some 65), none, (.k (.bin .add (.t 56) (.c (.sc (.int .i64 1)))))⟩, ⟨(some 56), none, (.k (.mov (.t 65)))⟩]))
def CooBack_13 : AC := (.seq (.cond (.t 57) .skip (.exit 0)) CooBack_14)
def CooBack_12 : AC := (.seq (.ops [⟨(some 57), none, (.k (.bin .lss (.t 56) (.t 55)))⟩]) CooBack_13)
def CooBack_11 : AC := (.loop CooBack_12)
def CooBack_10 : AC := (.block 0 CooBack_11)
def CooBack_9 : AC := (.seq (.ops [⟨(some 54), none, (.k (.mov (.t 1)))⟩, ⟨(some 55), none, (.k (.len (.t 54)))⟩, ⟨(some 56), none, (.k (.mov (.c (.sc (.int .i64 0)))))⟩]) CooBack_10)
def CooBack_8 : AC := (.seq CooBack_9 CooBack_17)
def CooBack_7 : AC := (.seq (.ops [⟨(some 51), none, (.k (.mov (.t 1)))⟩, ⟨(some 52), none, (.k (.len (.t 51)))⟩, ⟨(some 53), none, (.k (.mkS 3 1 8 (.sc (.int .i64 0)) (.t 52) (.t 52)))⟩, ⟨(some 8), none, (.k (.mov (.t 53)))⟩]) CooBack_8)
def CooBack_6 : AC := (.seq (.ops [⟨(some 48), none, (.k (.mov (.t 7)))⟩, ⟨(some 49), none, (.k (.bin .neq (.t 48) (.c (.sc (.int .i64 0)))))⟩]) (.cond (.t 49) (.seq (.ops [⟨(some 50), none, (.k (.mov (.t 5)))⟩, ⟨(some 4), none, (.k (.mov (.t 50)))⟩]) .ret) .skip))
def CooBack_5 : AC := (.seq CooBack_6 CooBack_7)
def CooBack_4 : AC := (.seq (.ops [⟨(some 43), none, (.k (.ld 2 true (.t 2)))⟩, ⟨(some 44), none, (.k (.mov (.t 1)))⟩, ⟨(some 45), none, (.call false (.c (.fn (.func 30) [] [])) [(.t 43), (.t 44)])⟩, ⟨(some 42), none, (.k (.mov (.t 45)))⟩, ⟨(some 46), none, (.k (.ext (.t 42) 0))⟩, ⟨(some 47), none, (.k (.ext (.t 42) 1))⟩, ⟨(some 6), none, (.k (.new 25 2 (.c (.agg [(.imm true none 0 []), (.imm true none 0 [])]))))⟩, ⟨none, none, (.k (.st 2 (.t 6) (.t 46)))⟩, ⟨(some 7), none, (.k (.mov (.t 47)))⟩]) CooBack_5)
def CooBack_3 : AC := (.seq (.ops [⟨(some 27), none, (.k (.ld 2 true (.t 2)))⟩, ⟨(some 28), none, (.k (.lit 2 [(.t 27)]))⟩, ⟨(some 29), none, (.call false (.c (.fn (.func 12) [] [])) [(.t 28)])⟩, ⟨(some 30), none, (.k (.un .not (.t 29)))⟩, ⟨(some 31), none, (.k (.mov (.t 30)))⟩, ⟨(some 32), (some (31, false)), (.k (.mov (.t 1)))⟩, ⟨(some 33), (some (31, false)), (.k (.len (.t 32)))⟩, ⟨(some 34), (some (31, false)), (.k (.bin .gtr (.t 33) (.c (.sc (.int .i64 20)))))⟩, ⟨(some 35), none, (.k (.pick (.t 31) (.c (.sc (.bool true))) (.t 34)))⟩, ⟨(some 36), none, (.k (.mov (.t 35)))⟩, ⟨(some 37), (some (36, false)), (.k (.mov (.t 1)))⟩, ⟨(some 38), (some (36, false)), (.k (.len (.t 37)))⟩, ⟨(some 39), (some (36, false)), (.k (.bin .eql (.t 38) (.c (.sc (.int .i64 0)))))⟩, ⟨(some 40), none, (.k (.pick (.t 36) (.c (.sc (.bool true))) (.t 39)))⟩]) (.cond (.t 40) (.seq (.ops [⟨(some 41), none, (.k (.mov (.t 5)))⟩, ⟨(some 4), none, (.k (.mov (.t 41)))⟩]) .ret) .skip))
def CooBack_2 : AC := (.seq CooBack_3 CooBack_4)
def CooBack_1 : AC := (.seq (.ops [⟨(some 26), none, (.call false (.c (.fn (.func 11) [] [])) [])⟩, ⟨(some 5), none, (.k (.mov (.t 26)))⟩]) CooBack_2)
def CooBack_ac : AC := (.seq (.ops [⟨(some 2), none, (.k (.new 25 2 (.t 0)))⟩, ⟨(some 4), none, (.k (.mov (.c (.sc (.bool false)))))⟩]) CooBack_1)
theorem CooBack_call {args : List AV} {H : List AObj} {R : AV → List AObj → Prop} (h : AWp Try.prog [] H.length CooBack_ac (bodyQ H.length [(.t 4)] R) (args ++ List.replicate (146 - args.length) .und) H) : ACalls Try.prog 7 args H R :=
  ACalls.of_fn Try.func7 rfl (by kernel_rfl) rfl Try.ntmps7 h

set_option maxHeartbeats 8000000 in
theorem CooBack_spec {x o : AV} {X : List Int × List (List Int × Int)} {O : List Int} (hx : Coo x X) (ho : ISl o O) (hXl : X.2.length ≤ 9223372036854775807) (hI : InX X) : ACalls Try.prog 7 [x, o] [] fun r H' => H' = [] ∧ r = Bo true := by
  have hx' := hx
  have ho' := ho
  obtain ⟨S, E⟩ := X
  obtain ⟨s, e, rfl, hS, hE⟩ := hx
  simp only at hS hE hXl hI
  obtain ⟨⟨n1, c1, z1, rfl, hs1⟩, hl1, hx1⟩ := hS
  obtain ⟨n2, c2, z2, es, rfl, h21, h22, h23⟩ := hE
  obtain ⟨⟨no, co, zo, rfl, hso⟩, hlo, hxo⟩ := ho
  have hel := h23.1
  have base : ACalls Try.prog 7 [.agg [.imm n1 c1 z1 (S.map I), .imm n2 c2 z2 es], .imm no co zo (O.map I)] [] fun r H' => r = Bo true := by
    apply CooBack_call
    repeat first | refine AWp.seq ?_ | refine AWp.block ?_
    refine AWp.ops ?_
    simp
    repeat first | refine AWp.seq ?_ | refine AWp.block ?_
    refine AWp.ops ?_
    simp
    refine (live02_spec.pure (by simp) (by rintro r rfl; simp) _).mono ?_
    rintro r H' ⟨rfl, rfl⟩
    simp
    repeat first | refine AWp.seq ?_ | refine AWp.block ?_
    refine AWp.ops ?_
    simp
    have hf := few2_spec (nl := false) (c := some 1) (sz := 2) (zs := [(.agg [.imm n1 c1 z1 (S.map I), .imm n2 c2 z2 es], (S, E))]) (by simp; exact ⟨hx', hXl⟩) (by simp) (by simp) (by simp)
    simp only [List.map_cons, List.map_nil] at hf
    refine (hf.pure (by simp) (by rintro r rfl; simp) _).mono ?_
    rintro r H' ⟨rfl, rfl⟩
    simp only [List.all_cons, List.all_nil, Bool.and_true]
    cases hfew : fewX (S, E) with
    | false =>
      simp
      refine AWp.cond (b := true) (by simp) (fun _ => ?_) (fun h => by cases h)
      repeat first | refine AWp.seq ?_ | refine AWp.block ?_
      refine AWp.ops ?_
      simp
      refine AWp.ret ?_
      simp
      refine retOk.of rfl ?_
      simp
    | true =>
    simp only [fewX, Bool.and_eq_true, decide_eq_true_eq, List.all_eq_true] at hfew
    obtain ⟨hf1, hf2⟩ := hfew
    by_cases hO20 : (20 : Int) < O.length
    · simp [hO20]
      refine AWp.cond (b := true) (by simp) (fun _ => ?_) (fun h => by cases h)
      repeat first | refine AWp.seq ?_ | refine AWp.block ?_
      refine AWp.ops ?_
      simp
      refine AWp.ret ?_
      simp
      refine retOk.of rfl ?_
      simp
    by_cases hO0 : O = []
    · subst hO0
      simp
      refine AWp.cond (b := true) (by simp) (fun _ => ?_) (fun h => by cases h)
      repeat first | refine AWp.seq ?_ | refine AWp.block ?_
      refine AWp.ops ?_
      simp
      refine AWp.ret ?_
      simp
      refine retOk.of rfl ?_
      simp
    have hOl : O.length ≤ 20 := by omega
    have hOp : 0 < O.length := List.length_pos_iff.2 hO0
    have hOz : ¬ (O.length : Int) = 0 := by omega
    have hO0' : (O = []) = False := eq_false hO0
    simp [hO20, hO0', hOz]
    refine AWp.cond (b := false) (by simp [hO0]) (fun h => by cases h) (fun _ => ?_)
    refine AWp.skip ?_
    simp only [qSeq]
    repeat first | refine AWp.seq ?_ | refine AWp.block ?_
    refine AWp.ops ?_
    simp
    refine ((cTurn_spec hx' ho' (by omega)).pure (by simp) (by rintro r ⟨y, rfl, hy⟩; have := hy.noRef; simp [this]) _).mono ?_
    rintro r H' ⟨rfl, y, rfl, hy⟩
    obtain ⟨ys, ye, rfl, hys1, hye1, hyf⟩ := hy.forms
    simp [hys1, hye1]
    repeat first | refine AWp.seq ?_ | refine AWp.block ?_
    refine AWp.ops ?_
    simp
    by_cases hT : (turnF (S, E) O).2 = 0
    case neg =>
      refine AWp.cond (b := true) (by simp [hT]) (fun _ => ?_) (fun h => by cases h)
      repeat first | refine AWp.seq ?_ | refine AWp.block ?_
      refine AWp.ops ?_
      simp
      refine AWp.ret ?_
      simp
      refine retOk.of rfl ?_
      simp
    refine AWp.cond (b := false) (by simp [hT]) (fun h => by cases h) (fun _ => ?_)
    obtain ⟨hck, hOr, hSO, hTe⟩ := order_of hO0 hT
    simp only at hck hSO hTe
    have m1 : (O.length : Int) * 8 ≤ 281474976710656 := by omega
    have m2 : (O.length : Int) ≤ 9223372036854775807 := by omega
    have hrep : List.replicate O.length (AV.sc (Value.int IntKind.i64 0)) = (bk O 0).map I := by rw [← bk_zero]; simp
    refine AWp.skip ?_
    simp only [qSeq]
    repeat first | refine AWp.seq ?_ | refine AWp.block ?_
    refine AWp.ops ?_
    simp [m1, m2]
    rw [hrep]
    repeat first | refine AWp.seq ?_ | refine AWp.block ?_
    refine AWp.ops ?_
    simp
    obtain ⟨A0, hA0⟩ : ∃ A, A = AV.agg [.imm n1 c1 z1 (S.map I), .imm n2 c2 z2 es] := ⟨_, rfl⟩
    obtain ⟨_, _, hxe, _, _, hxf⟩ := hx'.forms
    rw [← hA0]
    obtain ⟨Y0, hY0⟩ : ∃ A, A = AV.agg [ys, ye] := ⟨_, rfl⟩
    rw [← hY0] at hyf ⊢
    rw [← hA0] at hxf
    have hBl : (backL O).length = O.length := by simp [backL]
    have hOS : O.length ≤ 4 := by have := (cooCheck_len hck).1; omega
    obtain ⟨J, hJ⟩ : ∃ J : Nat → List AV → List AObj → Prop, J = fun i fr H => i ≤ O.length ∧ (True) ∧ H = [cooO A0, cooO Y0, intOb (bk O i)] ∧
      fr = [.und, .imm no co zo (O.map I), .ptr 0 1 0 0, .und, .und, Bo true, .ptr 1 1 0 0, .und, .slc 2 O.length 0 O.length none, .und, .und, .und, .und, .und, .und, .und, .und, .und, .und, .und, .und, .und, .und, .und, .und, .und, .und, .und, .und, .und, .und, .und, .und, .und, .und, .und, .und, .und, .und, .und, .und, .und, .und, .und, .und, .und, .und, .und, .und, .und, .und, .und, .und, .und, .imm no co zo (O.map I), I O.length, I i, .und, .und, .und, .und, .und, .und, .und, .und, .und, .und, .und, .und, .und, .und, .und, .und, .und, .und, .und, .und, .und, .und, .und, .und, .und, .und, .und, .und, .und, .und, .und, .und, .und, .und, .und, .und, .und, .und, .und, .und, .und, .und, .und, .und, .und, .und, .und, .und, .und, .und, .und, .und, .und, .und, .und, .und, .und, .und, .und, .und, .und, .und, .und, .und, .und, .und, .und, .und, .und, .und, .und, .und, .und, .und, .und, .und, .und, .und, .und, .und, .und, .und, .und, .und, .und, .und, .und, .und, .und] := ⟨_, rfl⟩
    refine AWp.block (AWp.loop J (fun i => O.length - i) 0 (Weak.slots [1, 2, 5, 6, 8, 54, 55, 56]) (by rw [hJ]; exact ⟨by omega, trivial, by simp, by simp⟩) ?_)
    intro i fr H hI
    rw [hJ] at hI
    obtain ⟨hi, hinv, rfl, rfl⟩ := hI
    repeat first | refine AWp.seq ?_ | refine AWp.block ?_
    refine AWp.ops ?_
    simp
    refine AWp.seq (AWp.cond (b := decide (i < O.length)) (by simp <;> omega) ?_ ?_)
    ·
      intro hb
      have hb : i < O.length := by simpa using hb
      refine AWp.skip ?_
      simp only [qSeq]
      have hsz := sz_of hso hb
      subst hsz
      have hmi := hOr.rg O[i] (List.getElem_mem hb)
      obtain ⟨k, hk⟩ : ∃ k : Nat, O[i] = k := ⟨O[i].toNat, by omega⟩
      have hkn : k < O.length := by omega
      have hwi := wrap_i64 (n := (i : Int) + 1) (by omega) (by omega)
      have hset := bk_succ hOr hb
      rw [hk, Int.toNat_natCast] at hset
      have hset2 : ((bk O i).map I).set k (I i) = (bk O (i + 1)).map I := by rw [← hset, List.map_set]
      repeat first | refine AWp.seq ?_ | refine AWp.block ?_
      refine AWp.ops ?_
      simp [hb, hk]
      repeat first | refine AWp.seq ?_ | refine AWp.block ?_
      refine AWp.ops ?_
      simp [hkn, hset2]
      repeat first | refine AWp.seq ?_ | refine AWp.block ?_
      refine AWp.ops ?_
      simp [hwi]
      refine ⟨i + 1, _, _, Weak.slots [1, 2, 5, 6, 8, 54, 55, 56], ?_, by omega⟩
      rw [hJ]
      exact ⟨by omega, trivial, by simp, by simp⟩
    ·
      intro hb
      have hb : ¬ i < O.length := by simpa using hb
      refine AWp.exit ?_
      simp [qSeq, qBlock]
      have hi2 : i = O.length := by omega
      rw [hi2, bk_all hOr]
      clear hinv hJ
      refine AWp.weak (Weak.freeze 2 3 (by simp)) ?_
      simp [frzH, hBl, hxf _ _ 0 true, hyf _ _ 0 true]
      rw [hA0, hY0]
      rw [hY0] at hyf
      have hbI : ISl (.imm false none 1 ((backL O).map I)) (backL O) := ISl.of _ (by omega) fun m hm => by
        have := (back_ordr hOr).rg m hm
        omega
      repeat first | refine AWp.seq ?_ | refine AWp.block ?_
      refine AWp.ops ?_
      simp
      have cz := cTurn_spec hy hbI (by omega)
      rw [turn_there hO0 hT] at cz
      refine (cz.pure (by have := hy.noRef; simp at this; simp [this]) (by rintro r ⟨z, rfl, hz⟩; have := hz.noRef; simp [this]) _).mono ?_
      rintro r H' ⟨rfl, z, rfl, hz⟩
      obtain ⟨zs, ze, rfl, hzs1, hze1, hzf⟩ := hz.forms
      simp [hzs1, hze1]
      repeat first | refine AWp.seq ?_ | refine AWp.block ?_
      refine AWp.ops ?_
      simp
      refine ((cDense_pure hx' hI.1).pure (by simp) (by rintro r ⟨d, rfl, hd⟩; have := hd.noRef; simp [this]) _).mono ?_
      rintro r H' ⟨rfl, d, rfl, hd⟩
      obtain ⟨d1, d2, rfl, hd1, hd2⟩ := hd.two
      simp [hd1, hd2]
      have hIy : InI (turnF (S, E) O).1.1 := by
        obtain ⟨_, _, _, h, _⟩ := hy
        exact h.2
      repeat first | refine AWp.seq ?_ | refine AWp.block ?_
      refine AWp.ops ?_
      simp
      refine ((cDense_pure hy hIy).pure (by have := hy.noRef; simp at this; simp [this]) (by rintro r ⟨d, rfl, hd⟩; have := hd.noRef; simp [this]) _).mono ?_
      rintro r H' ⟨rfl, t, rfl, ht⟩
      obtain ⟨t1, t2, rfl, ht1, ht2⟩ := ht.two
      rw [turn_err hO0 hT]
      simp [ht1, ht2]
      repeat first | refine AWp.seq ?_ | refine AWp.block ?_
      refine AWp.ops ?_
      simp
      refine ((cSame_spec hz hx' hXl hXl).pure (by have := hz.noRef; simp at this; simp [this]) (by rintro r rfl; simp) _).mono ?_
      rintro r H' ⟨rfl, rfl⟩
      simp [hck]
      refine AWp.cond (b := false) (by simp) (fun h => by cases h) (fun _ => ?_)
      refine AWp.skip ?_
      simp only [qSeq]
      repeat first | refine AWp.seq ?_ | refine AWp.block ?_
      refine AWp.ops ?_
      simp
      by_cases hD : (cdF (S, E)).2 = 0
      case neg =>
        refine AWp.cond (b := true) (by simp [hD]) (fun _ => ?_) (fun h => by cases h)
        repeat first | refine AWp.seq ?_ | refine AWp.block ?_
        refine AWp.ops ?_
        simp
        refine AWp.ret ?_
        simp
        refine retOk.of rfl ?_
        simp
      refine AWp.cond (b := false) (by simp [hD]) (fun h => by cases h) (fun _ => ?_)
      refine AWp.skip ?_
      simp only [qSeq]
      repeat first | refine AWp.seq ?_ | refine AWp.block ?_
      refine AWp.ops ?_
      simp
      obtain ⟨KB, hKB⟩ : ∃ K : List AObj, K = [cooO (.agg [.imm n1 c1 z1 (S.map I), .imm n2 c2 z2 es]), cooO (.agg [ys, ye]), cooO (.agg [zs, ze]), denO (.agg [d1, d2]), denO (.agg [t1, t2])] := ⟨_, rfl⟩
      rw [← hKB]
      obtain ⟨J, hJ⟩ : ∃ J : Nat → List AV → List AObj → Prop, J = fun i fr H => i ≤ es.length ∧ ∃ (K : List AObj), (K[3]? = some (denO (.agg [d1, d2])) ∧ K[4]? = some (denO (.agg [t1, t2]))) ∧ H = K ∧
        fr = [.und, .imm no co zo (O.map I), .und, .und, .und, Bo true, .und, .und, .und, .und, .und, .und, .und, .ptr 3 1 0 0, .und, .ptr 4 1 0 0, .und, .und, .und, .und, .und, .und, .und, .und, .und, .und, .und, .und, .und, .und, .und, .und, .und, .und, .und, .und, .und, .und, .und, .und, .und, .und, .und, .und, .und, .und, .und, .und, .und, .und, .und, .und, .und, .und, .und, .und, .und, .und, .und, .und, .und, .und, .und, .und, .und, .und, .und, .und, .und, .und, .und, .und, .und, .und, .und, .und, .und, .und, .und, .und, .und, .und, .und, .und, .und, .und, .und, .und, .und, .und, .und, .und, .und, .und, .und, .und, .und, .und, .und, .imm n2 c2 z2 es, I es.length, I i, .und, .und, .und, .und, .und, .und, .und, .und, .und, .und, .und, .und, .und, .und, .und, .und, .und, .und, .und, .und, .und, .und, .und, .und, .und, .und, .und, .und, .und, .und, .und, .und, .und, .und, .und, .und, .und, .und, .und, .und, .und, .und, .und, .und] := ⟨_, rfl⟩
      refine AWp.block (AWp.loop J (fun i => es.length - i) 0 (Weak.slots [1, 5, 13, 15, 99, 100, 101]) (by rw [hJ]; exact ⟨by omega, KB, ⟨by rw [hKB]; rfl, by rw [hKB]; rfl⟩, by simp, by simp⟩) ?_)
      intro i fr H hI
      rw [hJ] at hI
      obtain ⟨hi, K, hinv, rfl, rfl⟩ := hI
      repeat first | refine AWp.seq ?_ | refine AWp.block ?_
      refine AWp.ops ?_
      simp
      refine AWp.seq (AWp.cond (b := decide (i < es.length)) (by simp <;> omega) ?_ ?_)
      ·
        intro hb
        have hb : i < es.length := by simpa using hb
        refine AWp.skip ?_
        simp only [qSeq]
        obtain ⟨k3, k4⟩ := hinv
        have hbE : i < E.length := by omega
        obtain ⟨ai, hai, hai2⟩ := h23.get hbE
        have hmem : E[i] ∈ E := List.getElem_mem hbE
        generalize E[i] = w at hai hai2 hmem
        obtain ⟨c, v⟩ := w
        simp only at hai hai2
        have hai2' := hai2
        obtain ⟨⟨n5, c5, z5, rfl, hs5⟩, hl5, hx5⟩ := hai2
        obtain ⟨_, hai'⟩ := List.getElem?_eq_some_iff.1 hai
        have hn2 : n2 = false := by
          cases n2 with
          | false => rfl
          | true => have := h21 rfl; rw [this] at hbE; simp at hbE
        have hz2 := h22 hn2
        subst hn2 hz2
        have hcl : c.length = O.length := by
          have := atF_len ((cooCheck_len hck).2.2.2 _ hmem)
          simp only at this; omega
        obtain ⟨hcell, hcell2⟩ := turn_cell hO0 hT hD hmem
        simp only at hcell hcell2
        have hwi := wrap_i64 (n := (i : Int) + 1) (by omega) (by omega)
        obtain ⟨m, hm⟩ : ∃ m, m = H.length := ⟨_, rfl⟩
        have hm4 : 4 < m := by rw [hm]; exact (List.getElem?_eq_some_iff.1 k4).1
        have gR : ∀ G r, r < m → (H ++ G)[r]? = H[r]? := fun G r hr => List.getElem?_append_left (by omega)
        have gL : ∀ x G, (H ++ x :: G)[m]? = some x := fun x G => by rw [List.getElem?_append_right (by omega), show m - H.length = 0 by omega]; rfl
        have sL : ∀ x y G, (H ++ x :: G).set m y = H ++ y :: G := fun x y G => by rw [List.set_append_right _ _ (by omega), show m - H.length = 0 by omega]; rfl
        repeat first | refine AWp.seq ?_ | refine AWp.block ?_
        refine AWp.ops ?_
        simp [hai, hai', hb, ← hm, gL, sL]
        obtain ⟨K1, hK1⟩ : ∃ K1, K1 = H ++ [enO (.agg [.imm n5 c5 z5 (c.map I), I v])] := ⟨_, rfl⟩
        rw [← hK1]
        replace k3 : K1[3]? = some (denO (.agg [d1, d2])) := by rw [hK1, gR _ _ (by omega)]; exact k3
        replace k4 : K1[4]? = some (denO (.agg [t1, t2])) := by rw [hK1, gR _ _ (by omega)]; exact k4
        have km : K1[m]? = some (enO (.agg [.imm n5 c5 z5 (c.map I), I v])) := by rw [hK1]; exact gL _ _
        clear gR gL sL hm hK1
        repeat first | refine AWp.seq ?_ | refine AWp.block ?_
        refine AWp.ops ?_
        simp
        repeat first | refine AWp.seq ?_ | refine AWp.block ?_
        refine AWp.ops ?_
        simp
        obtain ⟨J2, hJ2⟩ : ∃ J : Nat → List AV → List AObj → Prop, J = fun i2 fr H => i2 ≤ O.length ∧ ∃ (K : List AObj) (a : AV), (K[3]? = some (denO (.agg [d1, d2])) ∧ K[4]? = some (denO (.agg [t1, t2])) ∧ K[m]? = some (enO (.agg [.imm n5 c5 z5 (c.map I), I v])) ∧ rowO 5 K a 3 1 ((turnL (O.take i2) c).map I)) ∧ H = K ∧
          fr = [.und, .imm no co zo (O.map I), .und, .und, .und, Bo true, .und, .und, .und, .und, .und, .und, .und, .ptr 3 1 0 0, .und, .ptr 4 1 0 0, .und, .und, .ptr m 1 0 0, a, .und, .und, .und, .und, .und, .und, .und, .und, .und, .und, .und, .und, .und, .und, .und, .und, .und, .und, .und, .und, .und, .und, .und, .und, .und, .und, .und, .und, .und, .und, .und, .und, .und, .und, .und, .und, .und, .und, .und, .und, .und, .und, .und, .und, .und, .und, .und, .und, .und, .und, .und, .und, .und, .und, .und, .und, .und, .und, .und, .und, .und, .und, .und, .und, .und, .und, .und, .und, .und, .und, .und, .und, .und, .und, .und, .und, .und, .und, .und, .imm false c2 2 es, I es.length, I i, .und, .und, .und, .imm no co zo (O.map I), I O.length, I i2, .und, .und, .und, .und, .und, .und, .und, .und, .und, .und, .und, .und, .und, .und, .und, .und, .und, .und, .und, .und, .und, .und, .und, .und, .und, .und, .und, .und, .und, .und, .und, .und, .und, .und, .und, .und, .und, .und] := ⟨_, rfl⟩
        refine AWp.block (AWp.loop J2 (fun i2 => O.length - i2) 0 (Weak.slots [1, 5, 13, 15, 18, 19, 99, 100, 101, 105, 106, 107]) (by rw [hJ2]; exact ⟨by omega, K1, .imm true none 0 [], ⟨k3, k4, km, .inl ⟨by simp [turnL], rfl⟩⟩, by simp, by simp⟩) ?_)
        intro i2 fr H hI
        rw [hJ2] at hI
        obtain ⟨hi2, K, a, hinv2, rfl, rfl⟩ := hI
        repeat first | refine AWp.seq ?_ | refine AWp.block ?_
        refine AWp.ops ?_
        simp
        refine AWp.seq (AWp.cond (b := decide (i2 < O.length)) (by simp <;> omega) ?_ ?_)
        · intro hb2
          have hb2 : i2 < O.length := by simpa using hb2
          refine AWp.skip ?_
          simp only [qSeq]
          obtain ⟨q3, q4, qm, hr⟩ := hinv2
          have hsz := sz_of hso hb2
          subst hsz
          have hmi := hOr.rg O[i2] (List.getElem_mem hb2)
          obtain ⟨k, hk⟩ : ∃ k : Nat, O[i2] = k := ⟨O[i2].toNat, by omega⟩
          have hkc : k < c.length := by omega
          have hsz5 := sz_of hs5 hkc
          subst hsz5
          have hwi2 := wrap_i64 (n := (i2 : Int) + 1) (by omega) (by omega)
          have hts : (turnL (O.take (i2 + 1)) c).map I = (turnL (O.take i2) c).map I ++ [I c[k]] := by
            rw [List.take_succ_eq_append_getElem hb2]
            simp [turnL, hk, hkc]
          have htl : ((turnL (O.take i2) c).map I).length = i2 := by simp [turnL]; omega
          rcases hr with ⟨h0, rfl⟩ | ⟨kk, hkk, rfl, hkK⟩
          · rw [h0] at hts
            repeat first | refine AWp.seq ?_ | refine AWp.block ?_
            refine AWp.ops ?_
            simp [hb2, hk]
            repeat first | refine AWp.seq ?_ | refine AWp.block ?_
            refine AWp.ops ?_
            simp [qm, hkc]
            repeat first | refine AWp.seq ?_ | refine AWp.block ?_
            refine AWp.ops ?_
            simp [hwi2]
            refine ⟨i2 + 1, _, _, Weak.slots [1, 5, 13, 15, 18, 19, 99, 100, 101, 105, 106, 107], ?_, by omega⟩
            rw [hJ2]
            have gR : ∀ G r o, H[r]? = some o → (H ++ G)[r]? = some o := fun G r o h => by rw [List.getElem?_append_left (List.getElem?_eq_some_iff.1 h).1]; exact h
            refine ⟨by omega, _, _, ⟨gR _ _ _ q3, gR _ _ _ q4, gR _ _ _ qm, .inr ⟨H.length, ?_, ?_, ?_⟩⟩, rfl, by simp; rfl⟩
            · have := (List.getElem?_eq_some_iff.1 q4).1; omega
            · rw [hts]; rfl
            · rw [hts, List.getElem?_append_right (by omega), Nat.sub_self]; rfl
          · have hkm : kk ≠ m := by
              rintro rfl
              rw [hkK] at qm
              simp at qm
            obtain ⟨Z, hZ⟩ : ∃ Z, Z = (turnL (O.take i2) c).map I := ⟨_, rfl⟩
            have hZ1 : allOneCell 1 Z = true := by rw [hZ]; simp
            rw [← hZ] at hts htl hkK ⊢
            have w5 : (Z.length + 1) * 8 ≤ 140737488355328 := by omega
            have w6 : Z.length + 1 ≤ 9223372036854775807 := by omega
            repeat first | refine AWp.seq ?_ | refine AWp.block ?_
            refine AWp.ops ?_
            simp [hb2, hk]
            repeat first | refine AWp.seq ?_ | refine AWp.block ?_
            refine AWp.ops ?_
            simp [qm, hkc, hkK, hZ1, w5, w6]
            repeat first | refine AWp.seq ?_ | refine AWp.block ?_
            refine AWp.ops ?_
            simp [hwi2]
            refine ⟨i2 + 1, _, _, Weak.slots [1, 5, 13, 15, 18, 19, 99, 100, 101, 105, 106, 107], ?_, by omega⟩
            rw [hJ2]
            have h3 : kk ≠ 3 := by
              rintro rfl
              rw [hkK] at q3
              simp at q3
            have h4 : kk ≠ 4 := by
              rintro rfl
              rw [hkK] at q4
              simp at q4
            refine ⟨by omega, _, _, ⟨by rw [gs_ne h3]; exact q3, by rw [gs_ne h4]; exact q4, by rw [gs_ne hkm]; exact qm, .inr ⟨kk, hkk, ?_, ?_⟩⟩, rfl, by simp; rfl⟩
            · rw [hts]; simp
            · rw [hts, gs_eq hkK]
        · intro hb2
          have hb2 : ¬ i2 < O.length := by simpa using hb2
          refine AWp.exit ?_
          simp [qSeq, qBlock]
          obtain ⟨q3, q4, qm, hr⟩ := hinv2
          rw [List.take_of_length_le (by omega)] at hr
          have hcI : InI (turnL O c) := by
            refine ⟨by rw [turn_len]; omega, fun z hz => ?_⟩
            obtain ⟨q, hq, rfl⟩ := List.mem_map.1 hz
            have h5 := hOr.rg q hq
            have h6 : q.toNat < c.length := by omega
            have : c.getD q.toNat 0 = c[q.toNat] := by simp [h6]
            rw [this]
            exact hx5 _ (List.getElem_mem h6)
          have hone := hr.one
          have hfz := hr.ints hcI 6
          repeat first | refine AWp.seq ?_ | refine AWp.block ?_
          refine AWp.ops ?_
          simp [q3, qm]
          refine ((bGet_spec hd hai2').pure (by have := hd.noRef; simp at this; simp [this]) (by rintro r rfl; simp) _).mono ?_
          rintro r H' ⟨rfl, rfl⟩
          simp
          repeat first | refine AWp.seq ?_ | refine AWp.block ?_
          refine AWp.ops ?_
          simp [q4]
          refine ACalls.mono (ACalls.pureLent 7 (R := fun r => r = .tup [I (getF (cdF (S, E)).1 c).1, I 0]) ?_ (by rintro r rfl s; simp)) ?_
          · have := bGet_spec ht hfz
            rw [hcell] at this
            simpa [ht.frz] using this
          rintro r H' ⟨hH', rfl⟩
          subst H'
          simp [hcell2]
          repeat first | refine AWp.seq ?_ | refine AWp.block ?_
          refine AWp.ops ?_
          simp
          refine AWp.cond (b := false) (by simp) (fun h => by cases h) (fun _ => ?_)
          refine AWp.skip ?_
          simp only [qSeq, qBlock]
          repeat first | refine AWp.seq ?_ | refine AWp.block ?_
          refine AWp.ops ?_
          simp [hwi]
          refine ⟨i + 1, _, _, Weak.slots [1, 5, 13, 15, 99, 100, 101], ?_, by omega⟩
          rw [hJ]
          exact ⟨by omega, _, ⟨q3, q4⟩, rfl, by simp⟩
      ·
        intro hb
        have hb : ¬ i < es.length := by simpa using hb
        refine AWp.exit ?_
        simp [qSeq, qBlock]
        repeat first | refine AWp.seq ?_ | refine AWp.block ?_
        refine AWp.ops ?_
        simp
        refine AWp.ret ?_
        simp
        refine retOk.of rfl ?_
        simp
  refine (base.frozen 2).mono ?_
  rintro q H' ⟨rfl, r, G, rfl, rfl⟩
  exact ⟨rfl, by simp⟩
end Go.Fw
