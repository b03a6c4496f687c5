import Derived.Test.YtgdkdojjfijipaaFwcoo9
import Derived.Test.YtgdkdojjfijipaaFwcoo21
namespace Go.Fw
open Go Go.RowKit Go.Proofs
set_option maxRecDepth 100000
set_option linter.unusedSimpArgs false
set_option linter.unusedVariables false

theorem Coo.len {a : AV} {X : List Int × List (List Int × Int)} (h : Coo a X) : ∃ s nl c sz fs, a = .agg [s, .imm nl c sz fs] ∧ oneC s = true ∧ fs.length = X.2.length := by
  obtain ⟨s, e, rfl, ⟨⟨_, _, _, rfl, _⟩, _⟩, nl, c, sz, fs, rfl, _, _, h⟩ := h
  exact ⟨_, _, _, _, _, rfl, rfl, h.1⟩

def CooKeeps_29 : AC := (.seq (.ops [⟨(some 127), none, (.k (.mov (.t 5)))⟩, ⟨(some 128), none, (.k (.mov (.t 127)))⟩, ⟨(some 129), (some (128, true)), (.k (.mov (.t 21)))⟩, ⟨(some 130), (some (128, true)), (.k (.bin .eql (.t 129) (.c (.sc (.int .i64 0)))))⟩, ⟨(some 131), none, (.k (.pick (.t 128) (.t 130) (.c (.sc (.bool false)))))⟩, ⟨(some 132), none, (.k (.mov (.t 131)))⟩, ⟨(some 133), (some (132, true)), (.k (.ld 2 true (.t 20)))⟩, ⟨(some 134), (some (132, true)), (.k (.ld 2 true (.t 14)))⟩, ⟨(some 135), (some (132, true)), (.call false (.c (.fn (.func 19) [] [])) [(.t 133), (.t 134)])⟩, ⟨(some 136), none, (.k (.pick (.t 132) (.t 135) (.c (.sc (.bool false)))))⟩, ⟨(some 4), none, (.k (.mov (.t 136)))⟩]) .ret)
def CooKeeps_28 : AC := (.seq (.ops [⟨(some 123), none, (.k (.ld 2 true (.t 6)))⟩, ⟨(some 124), none, (.call false (.c (.fn (.func 37) [] [])) [(.t 123)])⟩, ⟨(some 122), none, (.k (.mov (.t 124)))⟩, ⟨(some 125), none, (.k (.ext (.t 122) 0))⟩, ⟨(some 126), none, (.k (.ext (.t 122) 1))⟩, ⟨(some 20), none, (.k (.new 25 2 (.c (.agg [(.imm true none 0 []), (.imm true none 0 [])]))))⟩, ⟨none, none, (.k (.st 2 (.t 20) (.t 125)))⟩, ⟨(some 21), none, (.k (.mov (.t 126)))⟩]) CooKeeps_29)
def CooKeeps_27 : AC := (.seq (.ops [⟨(some 113), none, (.k (.mov (.t 19)))⟩, ⟨(some 114), none, (.k (.bin .neq (.t 113) (.c (.sc (.int .i64 0)))))⟩, ⟨(some 115), none, (.k (.mov (.t 114)))⟩, ⟨(some 116), (some (115, false)), (.k (.ld 2 true (.t 18)))⟩, ⟨(some 117), (some (115, false)), (.k (.ld 2 true (.t 6)))⟩, ⟨(some 118), (some (115, false)), (.call false (.c (.fn (.func 34) [] [])) [(.t 116), (.t 117)])⟩, ⟨(some 119), (some (115, false)), (.k (.un .not (.t 118)))⟩, ⟨(some 120), none, (.k (.pick (.t 115) (.c (.sc (.bool true))) (.t 119)))⟩]) (.cond (.t 120) (.seq (.ops [⟨(some 4), none, (.k (.mov (.c (.sc (.bool false)))))⟩]) .ret) .skip))
def CooKeeps_26 : AC := (.seq (.ops [⟨(some 109), none, (.k (.ld 2 true (.t 17)))⟩, ⟨(some 110), none, (.call false (.c (.fn (.func 31) [] [])) [(.t 109)])⟩, ⟨(some 108), none, (.k (.mov (.t 110)))⟩, ⟨(some 111), none, (.k (.ext (.t 108) 0))⟩, ⟨(some 112), none, (.k (.ext (.t 108) 1))⟩, ⟨(some 18), none, (.k (.new 49 2 (.c (.agg [(.imm true none 0 []), (.imm true none 0 [])]))))⟩, ⟨none, none, (.k (.st 2 (.t 18) (.t 111)))⟩, ⟨(some 19), none, (.k (.mov (.t 112)))⟩]) CooKeeps_27)
def CooKeeps_25 : AC := (.seq (.ops [⟨(some 106), none, (.k (.iad 2 (.t 102) (.t 104)))⟩, ⟨(some 107), none, (.k (.ld 2 true (.t 106)))⟩, ⟨(some 17), none, (.k (.new 25 2 (.c (.agg [(.imm true none 0 []), (.imm true none 0 [])]))))⟩, ⟨none, none, (.k (.st 2 (.t 17) (.t 107)))⟩]) CooKeeps_26)
def CooKeeps_24 : AC := (.block 1 CooKeeps_25)
def CooKeeps_23 : AC := (.seq CooKeeps_24 (.ops [⟨(some 121), none, (.k (.bin .add (.t 104) (.c (.sc (.int .i64 1)))))⟩, ⟨(some 104), none, (.k (.mov (.t 121)))⟩]))
def CooKeeps_22 : AC := (.seq (.cond (.t 105) .skip (.exit 0)) CooKeeps_23)
def CooKeeps_21 : AC := (.seq (.ops [⟨(some 105), none, (.k (.bin .lss (.t 104) (.t 103)))⟩]) CooKeeps_22)
def CooKeeps_20 : AC := (.loop CooKeeps_21)
def CooKeeps_19 : AC := (.block 0 CooKeeps_20)
def CooKeeps_18 : AC := (.seq (.ops [⟨(some 98), none, (.k (.ld 2 true (.t 8)))⟩, ⟨(some 99), none, (.k (.ld 2 true (.t 10)))⟩, ⟨(some 100), none, (.k (.ld 2 true (.t 12)))⟩, ⟨(some 101), none, (.k (.ld 2 true (.t 14)))⟩, ⟨(some 102), none, (.k (.lit 2 [(.t 98), (.t 99), (.t 100), (.t 101)]))⟩, ⟨(some 103), none, (.k (.len (.t 102)))⟩, ⟨(some 104), none, (.k (.mov (.c (.sc (.int .i64 0)))))⟩]) CooKeeps_19)
def CooKeeps_17 : AC := (.seq CooKeeps_18 CooKeeps_28)
def CooKeeps_16 : AC := (.seq (.ops [⟨(some 70), none, (.k (.mov (.t 11)))⟩, ⟨(some 71), none, (.k (.bin .neq (.t 70) (.c (.sc (.int .i64 0)))))⟩, ⟨(some 72), none, (.k (.mov (.t 71)))⟩, ⟨(some 73), (some (72, false)), (.k (.mov (.t 13)))⟩, ⟨(some 74), (some (72, false)), (.k (.bin .neq (.t 73) (.c (.sc (.int .i64 0)))))⟩, ⟨(some 75), none, (.k (.pick (.t 72) (.c (.sc (.bool true))) (.t 74)))⟩, ⟨(some 76), none, (.k (.mov (.t 75)))⟩, ⟨(some 77), (some (76, false)), (.k (.mov (.t 15)))⟩, ⟨(some 78), (some (76, false)), (.k (.bin .neq (.t 77) (.c (.sc (.int .i64 0)))))⟩, ⟨(some 79), none, (.k (.pick (.t 76) (.c (.sc (.bool true))) (.t 78)))⟩, ⟨(some 80), none, (.k (.mov (.t 79)))⟩, ⟨(some 81), (some (80, false)), (.k (.fad 1 (.t 8)))⟩, ⟨(some 82), (some (80, false)), (.k (.ld 1 false (.t 81)))⟩, ⟨(some 83), (some (80, false)), (.k (.len (.t 82)))⟩, ⟨(some 84), (some (80, false)), (.k (.fad 1 (.t 2)))⟩, ⟨(some 85), (some (80, false)), (.k (.ld 1 false (.t 84)))⟩, ⟨(some 86), (some (80, false)), (.k (.len (.t 85)))⟩, ⟨(some 87), (some (80, false)), (.k (.bin .neq (.t 83) (.t 86)))⟩, ⟨(some 88), none, (.k (.pick (.t 80) (.c (.sc (.bool true))) (.t 87)))⟩, ⟨(some 89), none, (.k (.mov (.t 88)))⟩, ⟨(some 90), (some (89, false)), (.k (.fad 1 (.t 10)))⟩, ⟨(some 91), (some (89, false)), (.k (.ld 1 false (.t 90)))⟩, ⟨(some 92), (some (89, false)), (.k (.len (.t 91)))⟩, ⟨(some 93), (some (89, false)), (.k (.fad 1 (.t 8)))⟩, ⟨(some 94), (some (89, false)), (.k (.ld 1 false (.t 93)))⟩, ⟨(some 95), (some (89, false)), (.k (.len (.t 94)))⟩, ⟨(some 96), (some (89, false)), (.k (.bin .gtr (.t 92) (.t 95)))⟩, ⟨(some 97), none, (.k (.pick (.t 89) (.c (.sc (.bool true))) (.t 96)))⟩]) (.cond (.t 97) (.seq (.ops [⟨(some 4), none, (.k (.mov (.c (.sc (.bool false)))))⟩]) .ret) .skip))
def CooKeeps_15 : AC := (.seq CooKeeps_16 CooKeeps_17)
def CooKeeps_14 : AC := (.seq (.ops [⟨(some 66), none, (.k (.ld 2 true (.t 2)))⟩, ⟨(some 67), none, (.call false (.c (.fn (.func 25) [] [])) [(.t 66)])⟩, ⟨(some 65), none, (.k (.mov (.t 67)))⟩, ⟨(some 68), none, (.k (.ext (.t 65) 0))⟩, ⟨(some 69), none, (.k (.ext (.t 65) 1))⟩, ⟨(some 14), none, (.k (.new 25 2 (.c (.agg [(.imm true none 0 []), (.imm true none 0 [])]))))⟩, ⟨none, none, (.k (.st 2 (.t 14) (.t 68)))⟩, ⟨(some 15), none, (.k (.mov (.t 69)))⟩]) CooKeeps_15)
def CooKeeps_13 : AC := (.seq (.ops [⟨(some 61), none, (.k (.ld 2 true (.t 2)))⟩, ⟨(some 62), none, (.call false (.c (.fn (.func 23) [] [])) [(.t 61)])⟩, ⟨(some 60), none, (.k (.mov (.t 62)))⟩, ⟨(some 63), none, (.k (.ext (.t 60) 0))⟩, ⟨(some 64), none, (.k (.ext (.t 60) 1))⟩, ⟨(some 12), none, (.k (.new 25 2 (.c (.agg [(.imm true none 0 []), (.imm true none 0 [])]))))⟩, ⟨none, none, (.k (.st 2 (.t 12) (.t 63)))⟩, ⟨(some 13), none, (.k (.mov (.t 64)))⟩]) CooKeeps_14)
def CooKeeps_12 : AC := (.seq (.ops [⟨(some 55), none, (.k (.ld 2 true (.t 2)))⟩, ⟨(some 56), none, (.k (.mov (.t 1)))⟩, ⟨(some 57), none, (.call false (.c (.fn (.func 16) [] [])) [(.t 55), (.t 56)])⟩, ⟨(some 54), none, (.k (.mov (.t 57)))⟩, ⟨(some 58), none, (.k (.ext (.t 54) 0))⟩, ⟨(some 59), none, (.k (.ext (.t 54) 1))⟩, ⟨(some 10), none, (.k (.new 25 2 (.c (.agg [(.imm true none 0 []), (.imm true none 0 [])]))))⟩, ⟨none, none, (.k (.st 2 (.t 10) (.t 58)))⟩, ⟨(some 11), none, (.k (.mov (.t 59)))⟩]) CooKeeps_13)
def CooKeeps_11 : AC := (.seq (.ops [⟨(some 49), none, (.k (.mov (.t 5)))⟩, ⟨(some 50), none, (.k (.mov (.t 49)))⟩, ⟨(some 51), (some (50, true)), (.k (.mov (.t 9)))⟩, ⟨(some 52), (some (50, true)), (.k (.bin .eql (.t 51) (.c (.sc (.int .i64 1)))))⟩, ⟨(some 53), none, (.k (.pick (.t 50) (.t 52) (.c (.sc (.bool false)))))⟩, ⟨(some 4), none, (.k (.mov (.t 53)))⟩]) .ret)
def CooKeeps_10 : AC := (.cond (.t 48) CooKeeps_11 .skip)
def CooKeeps_9 : AC := (.seq (.ops [⟨(some 47), none, (.k (.mov (.t 9)))⟩, ⟨(some 48), none, (.k (.bin .neq (.t 47) (.c (.sc (.int .i64 0)))))⟩]) CooKeeps_10)
def CooKeeps_8 : AC := (.seq CooKeeps_9 CooKeeps_12)
def CooKeeps_7 : AC := (.seq (.ops [⟨(some 42), none, (.k (.ld 2 true (.t 2)))⟩, ⟨(some 43), none, (.k (.mov (.t 1)))⟩, ⟨(some 44), none, (.call false (.c (.fn (.func 15) [] [])) [(.t 42), (.t 43)])⟩, ⟨(some 41), none, (.k (.mov (.t 44)))⟩, ⟨(some 45), none, (.k (.ext (.t 41) 0))⟩, ⟨(some 46), none, (.k (.ext (.t 41) 1))⟩, ⟨(some 8), none, (.k (.new 25 2 (.c (.agg [(.imm true none 0 []), (.imm true none 0 [])]))))⟩, ⟨none, none, (.k (.st 2 (.t 8) (.t 45)))⟩, ⟨(some 9), none, (.k (.mov (.t 46)))⟩]) CooKeeps_8)
def CooKeeps_6 : AC := (.seq (.ops [⟨(some 38), none, (.k (.mov (.t 7)))⟩, ⟨(some 39), none, (.k (.bin .neq (.t 38) (.c (.sc (.int .i64 0)))))⟩]) (.cond (.t 39) (.seq (.ops [⟨(some 40), none, (.k (.mov (.t 5)))⟩, ⟨(some 4), none, (.k (.mov (.t 40)))⟩]) .ret) .skip))
def CooKeeps_5 : AC := (.seq CooKeeps_6 CooKeeps_7)
def CooKeeps_4 : AC := (.seq (.ops [⟨(some 34), none, (.k (.ld 2 true (.t 2)))⟩, ⟨(some 35), none, (.call false (.c (.fn (.func 31) [] [])) [(.t 34)])⟩, ⟨(some 33), none, (.k (.mov (.t 35)))⟩, ⟨(some 36), none, (.k (.ext (.t 33) 0))⟩, ⟨(some 37), none, (.k (.ext (.t 33) 1))⟩, ⟨(some 6), none, (.k (.new 49 2 (.c (.agg [(.imm true none 0 []), (.imm true none 0 [])]))))⟩, ⟨none, none, (.k (.st 2 (.t 6) (.t 36)))⟩, ⟨(some 7), none, (.k (.mov (.t 37)))⟩]) CooKeeps_5)
def CooKeeps_3 : AC := (.seq (.ops [⟨(some 23), none, (.k (.ld 2 true (.t 2)))⟩, ⟨(some 24), none, (.k (.lit 2 [(.t 23)]))⟩, ⟨(some 25), none, (.call false (.c (.fn (.func 12) [] [])) [(.t 24)])⟩, ⟨(some 26), none, (.k (.un .not (.t 25)))⟩, ⟨(some 27), none, (.k (.mov (.t 26)))⟩, ⟨(some 28), (some (27, false)), (.k (.mov (.t 1)))⟩, ⟨(some 29), (some (27, false)), (.k (.len (.t 28)))⟩, ⟨(some 30), (some (27, false)), (.k (.bin .gtr (.t 29) (.c (.sc (.int .i64 20)))))⟩, ⟨(some 31), none, (.k (.pick (.t 27) (.c (.sc (.bool true))) (.t 30)))⟩]) (.cond (.t 31) (.seq (.ops [⟨(some 32), none, (.k (.mov (.t 5)))⟩, ⟨(some 4), none, (.k (.mov (.t 32)))⟩]) .ret) .skip))
def CooKeeps_2 : AC := (.seq CooKeeps_3 CooKeeps_4)
def CooKeeps_1 : AC := (.seq (.ops [⟨(some 22), none, (.call false (.c (.fn (.func 11) [] [])) [])⟩, ⟨(some 5), none, (.k (.mov (.t 22)))⟩]) CooKeeps_2)
def CooKeeps_ac : AC := (.seq (.ops [⟨(some 2), none, (.k (.new 25 2 (.t 0)))⟩, ⟨(some 4), none, (.k (.mov (.c (.sc (.bool false)))))⟩]) CooKeeps_1)
theorem CooKeeps_call {args : List AV} {H : List AObj} {R : AV → List AObj → Prop} (h : AWp Try.prog [] H.length CooKeeps_ac (bodyQ H.length [(.t 4)] R) (args ++ List.replicate (137 - args.length) .und) H) : ACalls Try.prog 10 args H R :=
  ACalls.of_fn Try.func10 rfl (by kernel_rfl) rfl Try.ntmps10 h

set_option maxHeartbeats 8000000 in
theorem CooKeeps_spec {x o : AV} {X : List Int × List (List Int × Int)} {O : List Int} (hx : Coo x X) (ho : ISl o O) (hXl : X.2.length ≤ 9223372036854775807) (hI : InX X) (hv : ∀ t ∈ X.2, -9223372036854775808 ≤ t.2 ∧ t.2 ≤ 9223372036854775807) : ACalls Try.prog 10 [x, o] [] fun r H' => H' = [] ∧ r = Bo true := by
  have hx' := hx
  have ho' := ho
  obtain ⟨S, E⟩ := X
  obtain ⟨s, e, rfl, hS, hE⟩ := hx
  simp only at hS hE hXl hI hv
  obtain ⟨⟨n1, c1, z1, rfl, hs1⟩, hl1, hx1⟩ := hS
  obtain ⟨n2, c2, z2, es, rfl, h21, h22, h23⟩ := hE
  obtain ⟨⟨no, co, zo, rfl, hso⟩, hlo, hxo⟩ := ho
  have hel := h23.1
  have base : ACalls Try.prog 10 [.agg [.imm n1 c1 z1 (S.map I), .imm n2 c2 z2 es], .imm no co zo (O.map I)] [] fun r H' => r = Bo true := by
    apply CooKeeps_call
    repeat first | refine AWp.seq ?_ | refine AWp.block ?_
    refine AWp.ops ?_
    simp
    repeat first | refine AWp.seq ?_ | refine AWp.block ?_
    refine AWp.ops ?_
    simp
    refine (live02_spec.pure (by simp) (by rintro r rfl; simp) _).mono ?_
    rintro r H' ⟨rfl, rfl⟩
    simp
    repeat first | refine AWp.seq ?_ | refine AWp.block ?_
    refine AWp.ops ?_
    simp
    have hf := few2_spec (nl := false) (c := some 1) (sz := 2) (zs := [(.agg [.imm n1 c1 z1 (S.map I), .imm n2 c2 z2 es], (S, E))]) (by simp; exact ⟨hx', hXl⟩) (by simp) (by simp) (by simp)
    simp only [List.map_cons, List.map_nil] at hf
    refine (hf.pure (by simp) (by rintro r rfl; simp) _).mono ?_
    rintro r H' ⟨rfl, rfl⟩
    simp only [List.all_cons, List.all_nil, Bool.and_true]
    cases hfew : fewX (S, E) with
    | false =>
      simp
      refine AWp.cond (b := true) (by simp) (fun _ => ?_) (fun h => by cases h)
      repeat first | refine AWp.seq ?_ | refine AWp.block ?_
      refine AWp.ops ?_
      simp
      refine AWp.ret ?_
      simp
      refine retOk.of rfl ?_
      simp
    | true =>
    simp only [fewX, Bool.and_eq_true, decide_eq_true_eq, List.all_eq_true] at hfew
    obtain ⟨hf1, hf2⟩ := hfew
    by_cases hO20 : (20 : Int) < O.length
    · simp [hO20]
      refine AWp.cond (b := true) (by simp) (fun _ => ?_) (fun h => by cases h)
      repeat first | refine AWp.seq ?_ | refine AWp.block ?_
      refine AWp.ops ?_
      simp
      refine AWp.ret ?_
      simp
      refine retOk.of rfl ?_
      simp
    have hOl : O.length ≤ 20 := by omega
    have hE2 : E.length ≤ 2000 := by omega
    simp [hO20]
    refine AWp.cond (b := false) (by simp [hO20]) (fun h => by cases h) (fun _ => ?_)
    refine AWp.skip ?_
    simp only [qSeq]
    repeat first | refine AWp.seq ?_ | refine AWp.block ?_
    refine AWp.ops ?_
    simp
    refine ((cDense_pure hx' hI.1).pure (by simp) (by rintro r ⟨d, rfl, hd⟩; have := hd.noRef; simp [this]) _).mono ?_
    rintro r H' ⟨rfl, d, rfl, hd⟩
    obtain ⟨d1, d2, rfl, hd1, hd2⟩ := hd.two
    simp [hd1, hd2]
    repeat first | refine AWp.seq ?_ | refine AWp.block ?_
    refine AWp.ops ?_
    simp
    by_cases hD : (cdF (S, E)).2 = 0
    case neg =>
      refine AWp.cond (b := true) (by simp [hD]) (fun _ => ?_) (fun h => by cases h)
      repeat first | refine AWp.seq ?_ | refine AWp.block ?_
      refine AWp.ops ?_
      simp
      refine AWp.ret ?_
      simp
      refine retOk.of rfl ?_
      simp
    refine AWp.cond (b := false) (by simp [hD]) (fun h => by cases h) (fun _ => ?_)
    have hck := (cdF_ok hD).1
    simp only at hck
    refine AWp.skip ?_
    simp only [qSeq]
    repeat first | refine AWp.seq ?_ | refine AWp.block ?_
    refine AWp.ops ?_
    simp
    refine ((coo_pure (cSort_spec hx' ho' (by omega) hI) (sortF_in hI)).pure (by simp) (by rintro r ⟨y, rfl, hy⟩; have := hy.noRef; simp [this]) _).mono ?_
    rintro r H' ⟨rfl, sv, rfl, hs⟩
    have hsn := hs.noRef
    obtain ⟨sa, sn, sc, sz, sf, rfl, hsa, hsl⟩ := hs.len
    simp [hsa]
    repeat first | refine AWp.seq ?_ | refine AWp.block ?_
    refine AWp.ops ?_
    simp
    by_cases ho0 : (orderF (S, E) O).2 = 0
    case neg =>
      have hse : (sortF (S, E) O).2 = 1 := by
        have := ((rOrd_eq (X := (S, E)) (O := O) hck).2.2 ho0).1
        rw [sortF, if_pos ho0]; exact this
      refine AWp.cond (b := true) (by simp [hse]) (fun _ => ?_) (fun h => by cases h)
      repeat first | refine AWp.seq ?_ | refine AWp.block ?_
      refine AWp.ops ?_
      simp [hse]
      refine AWp.ret ?_
      simp
      refine retOk.of rfl ?_
      simp
    obtain ⟨⟨Ls, es1, es2, es3⟩, ⟨Lj, ej1, ej2, ej3⟩, Lt, et1, et2, et3⟩ := keeps hD ho0
    obtain ⟨Lp, ep1, ep2, ep3, ep4⟩ := keeps_plain hD
    rw [es1] at hs hsl ⊢
    refine AWp.cond (b := false) (by simp) (fun h => by cases h) (fun _ => ?_)
    refine AWp.skip ?_
    simp only [qSeq]
    repeat first | refine AWp.seq ?_ | refine AWp.block ?_
    refine AWp.ops ?_
    simp
    have hE3 : (S, E).2.length ≤ 1000000 := by show E.length ≤ 1000000; omega
    refine ((coo_pure (cJoin_spec hx' ho' (by omega) hI hE3) (joinF_in hI)).pure (by simp) (by rintro r ⟨y, rfl, hy⟩; have := hy.noRef; simp [this]) _).mono ?_
    rintro r H' ⟨rfl, jv, rfl, hj⟩
    have hjn := hj.noRef
    rw [ej1] at hj ⊢
    obtain ⟨ja, jn, jc, jz, jf, rfl, hja, hjl⟩ := hj.len
    simp [hja]
    repeat first | refine AWp.seq ?_ | refine AWp.block ?_
    refine AWp.ops ?_
    simp
    refine ((coo_pure (cTrim_spec hx' hI) (trimF_in hI)).pure (by simp) (by rintro r ⟨y, rfl, hy⟩; have := hy.noRef; simp [this]) _).mono ?_
    rintro r H' ⟨rfl, tv, rfl, ht⟩
    rw [et1] at ht ⊢
    have htn := ht.noRef
    obtain ⟨ta, tb, rfl, hta, htb, _⟩ := ht.forms
    simp [hta, htb]
    repeat first | refine AWp.seq ?_ | refine AWp.block ?_
    refine AWp.ops ?_
    simp
    refine ((coo_pure (cPlain_spec hx' hI hE3) (plainF_in hI)).pure (by simp) (by rintro r ⟨y, rfl, hy⟩; have := hy.noRef; simp [this]) _).mono ?_
    rintro r H' ⟨rfl, pv, rfl, hp⟩
    rw [ep1] at hp ⊢
    have hpn := hp.noRef
    obtain ⟨pa, pb, rfl, hpa, hpb, _⟩ := hp.forms
    simp [hpa, hpb]
    simp only at hs hj ht hp hsl hjl
    have hl1' : sf.length = es.length := by omega
    have hl2' : ¬ (sf.length : Int) < jf.length := by omega
    have hl3 : jf.length ≤ es.length := by omega
    repeat first | refine AWp.seq ?_ | refine AWp.block ?_
    refine AWp.ops ?_
    simp [hl1', hl3]
    refine AWp.cond (b := false) (by simp [hl1', hl3]) (fun h => by cases h) (fun _ => ?_)
    refine AWp.skip ?_
    simp only [qSeq]
    obtain ⟨KB, hKB⟩ : ∃ K : List AObj, K = [cooO (.agg [.imm n1 c1 z1 (S.map I), .imm n2 c2 z2 es]), denO (.agg [d1, d2]), cooO (.agg [sa, .imm sn sc sz sf]), cooO (.agg [ja, .imm jn jc jz jf]), cooO (.agg [ta, tb]), cooO (.agg [pa, pb])] := ⟨_, rfl⟩
    obtain ⟨zs, hzs⟩ : ∃ zs : List (AV × List (List Int × Int)), zs = [(.agg [sa, .imm sn sc sz sf], Ls), (.agg [ja, .imm jn jc jz jf], Lj), (.agg [ta, tb], Lt), (.agg [pa, pb], Lp)] := ⟨_, rfl⟩
    have hzl : zs.length = 4 := by rw [hzs]; rfl
    have hz : ∀ z ∈ zs, Coo z.1 (S, z.2) ∧ cdF (S, z.2) = cdF (S, E) := by
      rw [hzs]
      simp only [List.mem_cons, List.not_mem_nil, or_false]
      rintro z (rfl | rfl | rfl | rfl)
      · exact ⟨hs, es3⟩
      · exact ⟨hj, ej3⟩
      · exact ⟨ht, et3⟩
      · exact ⟨hp, ep3⟩
    have hzm : [.agg [sa, .imm sn sc sz sf], .agg [ja, .imm jn jc jz jf], .agg [ta, tb], .agg [pa, pb]] = zs.map (·.1) := by rw [hzs]; rfl
    simp at hsn hjn htn hpn
    repeat first | refine AWp.seq ?_ | refine AWp.block ?_
    refine AWp.ops ?_
    simp [hsa, hja, hta, htb, hpa, hpb, hsn, hjn, htn, hpn]
    rw [hzm, ← hKB]
    have h4 : I 4 = I (zs.length : Int) := by rw [hzl]; rfl
    rw [h4]
    obtain ⟨f1, _⟩ := cdF_ok hD
    have hck2 := (cdF_ok hD).2.2.2.1
    obtain ⟨J, hJ⟩ : ∃ J : Nat → List AV → List AObj → Prop, J = fun i fr H => i ≤ zs.length ∧ ∃ (K : List AObj), (K[1]? = some (denO (.agg [d1, d2])) ∧ K[5]? = some (cooO (.agg [pa, pb]))) ∧ H = K ∧
      fr = [.und, .und, .und, .und, .und, Bo true, .ptr 1 1 0 0, .und, .und, .und, .und, .und, .und, .und, .ptr 5 1 0 0, .und, .und, .und, .und, .und, .und, .und, .und, .und, .und, .und, .und, .und, .und, .und, .und, .und, .und, .und, .und, .und, .und, .und, .und, .und, .und, .und, .und, .und, .und, .und, .und, .und, .und, .und, .und, .und, .und, .und, .und, .und, .und, .und, .und, .und, .und, .und, .und, .und, .und, .und, .und, .und, .und, .und, .und, .und, .und, .und, .und, .und, .und, .und, .und, .und, .und, .und, .und, .und, .und, .und, .und, .und, .und, .und, .und, .und, .und, .und, .und, .und, .und, .und, .und, .und, .und, .und, .imm false (some 4) 2 (zs.map (·.1)), I zs.length, I i, .und, .und, .und, .und, .und, .und, .und, .und, .und, .und, .und, .und, .und, .und, .und, .und, .und, .und, .und, .und, .und, .und, .und, .und, .und, .und, .und, .und, .und, .und, .und, .und] := ⟨_, rfl⟩
    refine AWp.block (AWp.loop J (fun i => zs.length - i) 0 (Weak.slots [5, 6, 14, 102, 103, 104]) (by rw [hJ]; exact ⟨by omega, KB, ⟨by rw [hKB]; rfl, by rw [hKB]; rfl⟩, by simp, by simp⟩) ?_)
    intro i fr H hI
    rw [hJ] at hI
    obtain ⟨hi, K, hinv, rfl, rfl⟩ := hI
    repeat first | refine AWp.seq ?_ | refine AWp.block ?_
    refine AWp.ops ?_
    simp
    refine AWp.seq (AWp.cond (b := decide (i < zs.length)) (by simp <;> omega) ?_ ?_)
    ·
      intro hb
      have hb : i < zs.length := by simpa using hb
      refine AWp.skip ?_
      simp only [qSeq]
      obtain ⟨k1, k5⟩ := hinv
      have hwi := wrap_i64 (n := (i : Int) + 1) (by omega) (by omega)
      obtain ⟨hzc, hze⟩ := hz zs[i] (List.getElem_mem hb)
      obtain ⟨y, hy⟩ : ∃ y, zs[i] = y := ⟨_, rfl⟩
      rw [hy] at hzc hze
      obtain ⟨ya, yL⟩ := y
      simp only at hzc hze
      have hzn := hzc.noRef
      have hzi : (zs.map (·.1))[i]? = some ya := by simp [hb, hy]
      obtain ⟨a1, a2, rfl, ha1, ha2, _⟩ := hzc.forms
      simp at hzn
      obtain ⟨m, hm⟩ : ∃ m, m = H.length := ⟨_, rfl⟩
      have hm5 : 5 < m := by rw [hm]; exact (List.getElem?_eq_some_iff.1 k5).1
      have gR : ∀ G r, r < m → (H ++ G)[r]? = H[r]? := fun G r hr => List.getElem?_append_left (by omega)
      have gL : ∀ x G, (H ++ x :: G)[m]? = some x := fun x G => by rw [List.getElem?_append_right (by omega), show m - H.length = 0 by omega]; rfl
      have gL1 : ∀ x y G, (H ++ x :: y :: G)[m + 1]? = some y := fun x y G => by rw [List.getElem?_append_right (by omega), show m + 1 - H.length = 1 by omega]; rfl
      have sL : ∀ x y G, (H ++ x :: G).set m y = H ++ y :: G := fun x y G => by rw [List.set_append_right _ _ (by omega), show m - H.length = 0 by omega]; rfl
      have sL1 : ∀ x y z G, (H ++ x :: y :: G).set (m + 1) z = H ++ x :: z :: G := fun x y z G => by rw [List.set_append_right _ _ (by omega), show m + 1 - H.length = 1 by omega]; rfl
      have g1 : ∀ G, (H ++ G)[1]? = some (denO (.agg [d1, d2])) := fun G => by rw [gR _ _ (by omega)]; exact k1
      have g5 : ∀ G, (H ++ G)[5]? = some (cooO (.agg [pa, pb])) := fun G => by rw [gR _ _ (by omega)]; exact k5
      repeat first | refine AWp.seq ?_ | refine AWp.block ?_
      refine AWp.ops ?_
      simp [hb, hy, ha1, ha2, ← hm, gL, sL]
      repeat first | refine AWp.seq ?_ | refine AWp.block ?_
      refine AWp.ops ?_
      simp [gL]
      refine ((cDense_pure hzc hI.1).pure (by simp [hzn]) (by rintro r ⟨d, rfl, hd⟩; have := hd.noRef; simp [this]) _).mono ?_
      rintro r H' ⟨hH', e, rfl, he⟩
      subst H'
      obtain ⟨e1, e2, rfl, he1, he2⟩ := he.two
      rw [hze] at he ⊢
      simp [he1, he2, ← hm]
      have g1' : ∀ G (h : 1 < (H ++ G).length), (H ++ G)[1] = denO (.agg [d1, d2]) := fun G h => by
        have := g1 G
        rw [List.getElem?_eq_getElem h] at this
        exact Option.some.inj this
      repeat first | refine AWp.seq ?_ | refine AWp.block ?_
      refine AWp.ops ?_
      simp [gL1, sL1, ← hm, hD, g1, g1']
      refine ((bSame_spec he hd).pure (by have h7 := he.noRef; have h8 := hd.noRef; simp at h7 h8; simp [h7, h8]) (by rintro r rfl; simp) _).mono ?_
      rintro r H' ⟨rfl, rfl⟩
      simp [hck2]
      refine AWp.cond (b := false) (by simp) (fun h => by cases h) (fun _ => ?_)
      refine AWp.skip ?_
      simp only [qSeq, qBlock]
      repeat first | refine AWp.seq ?_ | refine AWp.block ?_
      refine AWp.ops ?_
      simp [hwi]
      refine ⟨i + 1, _, _, Weak.slots [5, 6, 14, 102, 103, 104], ?_, by omega⟩
      rw [hJ]
      exact ⟨by omega, _, ⟨g1 _, g5 _⟩, rfl, by simp⟩
    ·
      intro hb
      have hb : ¬ i < zs.length := by simpa using hb
      refine AWp.exit ?_
      simp [qSeq, qBlock]
      obtain ⟨k1, k5⟩ := hinv
      repeat first | refine AWp.seq ?_ | refine AWp.block ?_
      refine AWp.ops ?_
      simp [k1]
      refine ((cOf_spec hd).pure (by have := hd.noRef; simp at this; simp [this]) (by rintro r ⟨y, rfl, hy⟩; have := hy.noRef; simp [this]) _).mono ?_
      rintro r H' ⟨hH', ov, rfl, ho⟩
      subst H'
      rw [of_plain hD hv, ep1] at ho ⊢
      have hon := ho.noRef
      obtain ⟨oa, ob, rfl, hoa, hob, _⟩ := ho.forms
      simp at hon
      simp [hoa, hob]
      obtain ⟨m, hm⟩ : ∃ m, m = H.length := ⟨_, rfl⟩
      have hm5 : 5 < m := by rw [hm]; exact (List.getElem?_eq_some_iff.1 k5).1
      have gL : ∀ x G, (H ++ x :: G)[m]? = some x := fun x G => by rw [List.getElem?_append_right (by omega), show m - H.length = 0 by omega]; rfl
      have sL : ∀ x y G, (H ++ x :: G).set m y = H ++ y :: G := fun x y G => by rw [List.set_append_right _ _ (by omega), show m - H.length = 0 by omega]; rfl
      have g5 : ∀ G, (H ++ G)[5]? = some (cooO (.agg [pa, pb])) := fun G => by rw [List.getElem?_append_left (by omega)]; exact k5
      repeat first | refine AWp.seq ?_ | refine AWp.block ?_
      refine AWp.ops ?_
      simp [← hm, gL, sL, g5]
      refine ((cSame_spec ho hp (by simp only; omega) (by simp only; omega)).pure (by simp [hon, hpn]) (by rintro r rfl; simp) _).mono ?_
      rintro r H' ⟨rfl, rfl⟩
      simp [ep4]
      refine AWp.ret ?_
      simp
      refine retOk.of rfl ?_
      simp
  refine (base.frozen 2).mono ?_
  rintro q H' ⟨rfl, r, G, rfl, rfl⟩
  exact ⟨rfl, by simp⟩
end Go.Fw
