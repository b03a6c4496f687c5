import Derived.Test.YtgdkdojjfijipaaFwcoo9
import Derived.Test.YtgdkdojjfijipaaFwcoo16
import Derived.Test.YtgdkdojjfijipaaFwref02c
import Derived.Test.YtgdkdojjfijipaaFwref02d
import Derived.Test.YtgdkdojjfijipaaFwref02e
import Derived.Test.YtgdkdojjfijipaaFwref02f
import Derived.Test.YtgdkdojjfijipaaFwref02g
namespace Go.Fw
open Go Go.RowKit Go.Proofs
set_option maxRecDepth 100000
set_option linter.unusedSimpArgs false
set_option linter.unusedVariables false

theorem Coo.inX {y : AV} {Z : List Int × List (List Int × Int)} (h : Coo y Z) : InX Z := by
  obtain ⟨s, e, rfl, hS, hE⟩ := h
  refine ⟨hS.2, fun w hw => ?_⟩
  obtain ⟨nl, cl, sz, es, rfl, he1, he2, hE⟩ := hE
  obtain ⟨i, hi, rfl⟩ := List.getElem_of_mem hw
  obtain ⟨ai, -, h2⟩ := hE.get hi
  exact h2.2
theorem ofF_len {S V : List Int} (h : V.length ≤ 9223372036854775807) : (ofF (S, V)).1.2.length ≤ 9223372036854775807 := by
  unfold ofF
  split
  · simp
  · exact Nat.le_trans (ofE_len _ _ _) h
theorem turnF_len {X : List Int × List (List Int × Int)} {O : List Int} (h : X.2.length ≤ 9223372036854775807) : (turnF X O).1.2.length ≤ 9223372036854775807 := by
  unfold turnF
  split
  · simp
  · simpa using h
def CooTurns_12 : AC := (.seq (.ops [⟨(some 93), none, (.k (.mov (.t 9)))⟩, ⟨(some 94), none, (.k (.mov (.t 93)))⟩, ⟨(some 95), (some (94, true)), (.k (.ld 2 true (.t 10)))⟩, ⟨(some 96), (some (94, true)), (.k (.ld 2 true (.t 12)))⟩, ⟨(some 97), (some (94, true)), (.call false (.c (.fn (.func 27) [] [])) [(.t 95), (.t 96)])⟩, ⟨(some 98), none, (.k (.pick (.t 94) (.t 97) (.c (.sc (.bool false)))))⟩, ⟨(some 99), none, (.k (.mov (.t 98)))⟩, ⟨(some 100), (some (99, true)), (.k (.mov (.t 11)))⟩, ⟨(some 101), (some (99, true)), (.k (.mov (.t 13)))⟩, ⟨(some 102), (some (99, true)), (.k (.bin .eql (.t 100) (.t 101)))⟩, ⟨(some 103), none, (.k (.pick (.t 99) (.t 102) (.c (.sc (.bool false)))))⟩, ⟨(some 104), none, (.k (.mov (.t 103)))⟩, ⟨(some 105), (some (104, true)), (.k (.ld 2 true (.t 14)))⟩, ⟨(some 106), (some (104, true)), (.k (.ld 2 true (.t 16)))⟩, ⟨(some 107), (some (104, true)), (.call false (.c (.fn (.func 40) [] [])) [(.t 105), (.t 106)])⟩, ⟨(some 108), none, (.k (.pick (.t 104) (.t 107) (.c (.sc (.bool false)))))⟩, ⟨(some 109), none, (.k (.mov (.t 108)))⟩, ⟨(some 110), (some (109, true)), (.k (.mov (.t 15)))⟩, ⟨(some 111), (some (109, true)), (.k (.mov (.t 17)))⟩, ⟨(some 112), (some (109, true)), (.k (.bin .eql (.t 110) (.t 111)))⟩, ⟨(some 113), none, (.k (.pick (.t 109) (.t 112) (.c (.sc (.bool false)))))⟩, ⟨(some 114), none, (.k (.mov (.t 113)))⟩, ⟨(some 115), (some (114, true)), (.k (.ld 2 true (.t 18)))⟩, ⟨(some 116), (some (114, true)), (.k (.ld 2 true (.t 20)))⟩, ⟨(some 117), (some (114, true)), (.call false (.c (.fn (.func 27) [] [])) [(.t 115), (.t 116)])⟩, ⟨(some 118), none, (.k (.pick (.t 114) (.t 117) (.c (.sc (.bool false)))))⟩, ⟨(some 119), none, (.k (.mov (.t 118)))⟩, ⟨(some 120), (some (119, true)), (.k (.mov (.t 19)))⟩, ⟨(some 121), (some (119, true)), (.k (.mov (.t 21)))⟩, ⟨(some 122), (some (119, true)), (.k (.bin .eql (.t 120) (.t 121)))⟩, ⟨(some 123), none, (.k (.pick (.t 119) (.t 122) (.c (.sc (.bool false)))))⟩, ⟨(some 124), none, (.k (.mov (.t 123)))⟩, ⟨(some 125), (some (124, true)), (.k (.mov (.t 22)))⟩, ⟨(some 126), (some (124, true)), (.k (.mov (.t 24)))⟩, ⟨(some 127), (some (124, true)), (.call false (.c (.fn (.func 41) [] [])) [(.t 125), (.t 126)])⟩, ⟨(some 128), none, (.k (.pick (.t 124) (.t 127) (.c (.sc (.bool false)))))⟩, ⟨(some 129), none, (.k (.mov (.t 128)))⟩, ⟨(some 130), (some (129, true)), (.k (.mov (.t 23)))⟩, ⟨(some 131), (some (129, true)), (.k (.mov (.t 25)))⟩, ⟨(some 132), (some (129, true)), (.k (.bin .eql (.t 130) (.t 131)))⟩, ⟨(some 133), none, (.k (.pick (.t 129) (.t 132) (.c (.sc (.bool false)))))⟩, ⟨(some 8), none, (.k (.mov (.t 133)))⟩]) .ret)
def CooTurns_11 : AC := (.seq (.ops [⟨(some 88), none, (.k (.ld 2 true (.t 4)))⟩, ⟨(some 89), none, (.k (.mov (.t 3)))⟩, ⟨(some 90), none, (.call false (.c (.fn (.func 39) [] [])) [(.t 88), (.t 89)])⟩, ⟨(some 87), none, (.k (.mov (.t 90)))⟩, ⟨(some 91), none, (.k (.ext (.t 87) 0))⟩, ⟨(some 92), none, (.k (.ext (.t 87) 1))⟩, ⟨(some 24), none, (.k (.mov (.t 91)))⟩, ⟨(some 25), none, (.k (.mov (.t 92)))⟩]) CooTurns_12)
def CooTurns_10 : AC := (.seq (.ops [⟨(some 82), none, (.k (.ld 2 true (.t 4)))⟩, ⟨(some 83), none, (.k (.mov (.t 3)))⟩, ⟨(some 84), none, (.call false (.c (.fn (.func 14) [] [])) [(.t 82), (.t 83)])⟩, ⟨(some 81), none, (.k (.mov (.t 84)))⟩, ⟨(some 85), none, (.k (.ext (.t 81) 0))⟩, ⟨(some 86), none, (.k (.ext (.t 81) 1))⟩, ⟨(some 22), none, (.k (.mov (.t 85)))⟩, ⟨(some 23), none, (.k (.mov (.t 86)))⟩]) CooTurns_11)
def CooTurns_9 : AC := (.seq (.ops [⟨(some 77), none, (.k (.ld 2 true (.t 5)))⟩, ⟨(some 78), none, (.call false (.c (.fn (.func 38) [] [])) [(.t 77)])⟩, ⟨(some 76), none, (.k (.mov (.t 78)))⟩, ⟨(some 79), none, (.k (.ext (.t 76) 0))⟩, ⟨(some 80), none, (.k (.ext (.t 76) 1))⟩, ⟨(some 20), none, (.k (.new 25 2 (.c (.agg [(.imm true none 0 []), (.imm true none 0 [])]))))⟩, ⟨none, none, (.k (.st 2 (.t 20) (.t 79)))⟩, ⟨(some 21), none, (.k (.mov (.t 80)))⟩]) CooTurns_10)
def CooTurns_8 : AC := (.seq (.ops [⟨(some 72), none, (.k (.ld 2 true (.t 5)))⟩, ⟨(some 73), none, (.call false (.c (.fn (.func 37) [] [])) [(.t 72)])⟩, ⟨(some 71), none, (.k (.mov (.t 73)))⟩, ⟨(some 74), none, (.k (.ext (.t 71) 0))⟩, ⟨(some 75), none, (.k (.ext (.t 71) 1))⟩, ⟨(some 18), none, (.k (.new 25 2 (.c (.agg [(.imm true none 0 []), (.imm true none 0 [])]))))⟩, ⟨none, none, (.k (.st 2 (.t 18) (.t 74)))⟩, ⟨(some 19), none, (.k (.mov (.t 75)))⟩]) CooTurns_9)
def CooTurns_7 : AC := (.seq (.ops [⟨(some 67), none, (.k (.ld 2 true (.t 4)))⟩, ⟨(some 68), none, (.call false (.c (.fn (.func 36) [] [])) [(.t 67)])⟩, ⟨(some 66), none, (.k (.mov (.t 68)))⟩, ⟨(some 69), none, (.k (.ext (.t 66) 0))⟩, ⟨(some 70), none, (.k (.ext (.t 66) 1))⟩, ⟨(some 16), none, (.k (.new 49 2 (.c (.agg [(.imm true none 0 []), (.imm true none 0 [])]))))⟩, ⟨none, none, (.k (.st 2 (.t 16) (.t 69)))⟩, ⟨(some 17), none, (.k (.mov (.t 70)))⟩]) CooTurns_8)
def CooTurns_6 : AC := (.seq (.ops [⟨(some 62), none, (.k (.ld 2 true (.t 4)))⟩, ⟨(some 63), none, (.call false (.c (.fn (.func 31) [] [])) [(.t 62)])⟩, ⟨(some 61), none, (.k (.mov (.t 63)))⟩, ⟨(some 64), none, (.k (.ext (.t 61) 0))⟩, ⟨(some 65), none, (.k (.ext (.t 61) 1))⟩, ⟨(some 14), none, (.k (.new 49 2 (.c (.agg [(.imm true none 0 []), (.imm true none 0 [])]))))⟩, ⟨none, none, (.k (.st 2 (.t 14) (.t 64)))⟩, ⟨(some 15), none, (.k (.mov (.t 65)))⟩]) CooTurns_7)
def CooTurns_5 : AC := (.seq (.ops [⟨(some 56), none, (.k (.ld 2 true (.t 4)))⟩, ⟨(some 57), none, (.k (.mov (.t 2)))⟩, ⟨(some 58), none, (.call false (.c (.fn (.func 35) [] [])) [(.t 56), (.t 57)])⟩, ⟨(some 55), none, (.k (.mov (.t 58)))⟩, ⟨(some 59), none, (.k (.ext (.t 55) 0))⟩, ⟨(some 60), none, (.k (.ext (.t 55) 1))⟩, ⟨(some 12), none, (.k (.new 25 2 (.c (.agg [(.imm true none 0 []), (.imm true none 0 [])]))))⟩, ⟨none, none, (.k (.st 2 (.t 12) (.t 59)))⟩, ⟨(some 13), none, (.k (.mov (.t 60)))⟩]) CooTurns_6)
def CooTurns_4 : AC := (.seq (.ops [⟨(some 50), none, (.k (.ld 2 true (.t 4)))⟩, ⟨(some 51), none, (.k (.mov (.t 2)))⟩, ⟨(some 52), none, (.call false (.c (.fn (.func 30) [] [])) [(.t 50), (.t 51)])⟩, ⟨(some 49), none, (.k (.mov (.t 52)))⟩, ⟨(some 53), none, (.k (.ext (.t 49) 0))⟩, ⟨(some 54), none, (.k (.ext (.t 49) 1))⟩, ⟨(some 10), none, (.k (.new 25 2 (.c (.agg [(.imm true none 0 []), (.imm true none 0 [])]))))⟩, ⟨none, none, (.k (.st 2 (.t 10) (.t 53)))⟩, ⟨(some 11), none, (.k (.mov (.t 54)))⟩]) CooTurns_5)
def CooTurns_3 : AC := (.seq (.ops [⟨(some 27), none, (.k (.ld 2 true (.t 4)))⟩, ⟨(some 28), none, (.k (.lit 2 [(.t 27)]))⟩, ⟨(some 29), none, (.call false (.c (.fn (.func 12) [] [])) [(.t 28)])⟩, ⟨(some 30), none, (.k (.un .not (.t 29)))⟩, ⟨(some 31), none, (.k (.mov (.t 30)))⟩, ⟨(some 32), (some (31, false)), (.k (.mov (.t 2)))⟩, ⟨(some 33), (some (31, false)), (.k (.len (.t 32)))⟩, ⟨(some 34), (some (31, false)), (.k (.bin .gtr (.t 33) (.c (.sc (.int .i64 20)))))⟩, ⟨(some 35), none, (.k (.pick (.t 31) (.c (.sc (.bool true))) (.t 34)))⟩, ⟨(some 36), none, (.k (.mov (.t 35)))⟩, ⟨(some 37), (some (36, false)), (.k (.fad 0 (.t 5)))⟩, ⟨(some 38), (some (36, false)), (.k (.ld 1 false (.t 37)))⟩, ⟨(some 39), (some (36, false)), (.k (.len (.t 38)))⟩, ⟨(some 40), (some (36, false)), (.k (.bin .gtr (.t 39) (.c (.sc (.int .i64 20)))))⟩, ⟨(some 41), none, (.k (.pick (.t 36) (.c (.sc (.bool true))) (.t 40)))⟩, ⟨(some 42), none, (.k (.mov (.t 41)))⟩, ⟨(some 43), (some (42, false)), (.k (.fad 1 (.t 5)))⟩, ⟨(some 44), (some (42, false)), (.k (.ld 1 false (.t 43)))⟩, ⟨(some 45), (some (42, false)), (.k (.len (.t 44)))⟩, ⟨(some 46), (some (42, false)), (.k (.bin .gtr (.t 45) (.c (.sc (.int .i64 70000)))))⟩, ⟨(some 47), none, (.k (.pick (.t 42) (.c (.sc (.bool true))) (.t 46)))⟩]) (.cond (.t 47) (.seq (.ops [⟨(some 48), none, (.k (.mov (.t 9)))⟩, ⟨(some 8), none, (.k (.mov (.t 48)))⟩]) .ret) .skip))
def CooTurns_2 : AC := (.seq CooTurns_3 CooTurns_4)
def CooTurns_1 : AC := (.seq (.ops [⟨(some 26), none, (.call false (.c (.fn (.func 11) [] [])) [])⟩, ⟨(some 9), none, (.k (.mov (.t 26)))⟩]) CooTurns_2)
def CooTurns_ac : AC := (.seq (.ops [⟨(some 4), none, (.k (.new 25 2 (.t 0)))⟩, ⟨(some 5), none, (.k (.new 49 2 (.t 1)))⟩, ⟨(some 8), none, (.k (.mov (.c (.sc (.bool false)))))⟩]) CooTurns_1)
theorem CooTurns_call {args : List AV} {H : List AObj} {R : AV → List AObj → Prop} (h : AWp Try.prog [] H.length CooTurns_ac (bodyQ H.length [(.t 8)] R) (args ++ List.replicate (134 - args.length) .und) H) : ACalls Try.prog 9 args H R :=
  ACalls.of_fn Try.func9 rfl (by kernel_rfl) rfl Try.ntmps9 h

set_option maxHeartbeats 8000000 in
theorem CooTurns_spec {x d o : AV} {X : List Int × List (List Int × Int)} {D : List Int × List Int} {O : List Int} {mode : Int} (hx : Coo x X) (hd : Dn d D) (ho : ISl o O) (hXl : X.2.length ≤ 9223372036854775807) (hI : InX X) : ACalls Try.prog 9 [x, d, o, I mode] [] fun r H' => H' = [] ∧ r = Bo true := by
  have hx' := hx
  have ho' := ho
  have hd' := hd
  obtain ⟨S, E⟩ := X
  obtain ⟨DS, DV⟩ := D
  obtain ⟨s, e, rfl, hS, hE⟩ := hx
  simp only at hS hE hXl hI
  obtain ⟨⟨n1, c1, z1, rfl, hs1⟩, hl1, hx1⟩ := hS
  obtain ⟨n2, c2, z2, es, rfl, h21, h22, h23⟩ := hE
  obtain ⟨⟨no, co, zo, rfl, hso⟩, hlo, hxo⟩ := ho
  obtain ⟨ds, dv, rfl, hDS, hDV⟩ := hd
  simp only at hDS hDV
  obtain ⟨⟨n3, c3, z3, rfl, hs3⟩, hl3, hx3⟩ := hDS
  obtain ⟨⟨n4, c4, z4, rfl, hs4⟩, hl4, hx4⟩ := hDV
  have hel := h23.1
  have base : ACalls Try.prog 9 [.agg [.imm n1 c1 z1 (S.map I), .imm n2 c2 z2 es], .agg [.imm n3 c3 z3 (DS.map I), .imm n4 c4 z4 (DV.map I)], .imm no co zo (O.map I), I mode] [] fun r H' => r = Bo true := by
    apply CooTurns_call
    repeat first | refine AWp.seq ?_ | refine AWp.block ?_
    refine AWp.ops ?_
    simp
    repeat first | refine AWp.seq ?_ | refine AWp.block ?_
    refine AWp.ops ?_
    simp
    refine (live02_spec.pure (by simp) (by rintro r rfl; simp) _).mono ?_
    rintro r H' ⟨rfl, rfl⟩
    simp
    repeat first | refine AWp.seq ?_ | refine AWp.block ?_
    refine AWp.ops ?_
    simp
    have hf := few2_spec (nl := false) (c := some 1) (sz := 2) (zs := [(.agg [.imm n1 c1 z1 (S.map I), .imm n2 c2 z2 es], (S, E))]) (by simp; exact ⟨hx', hXl⟩) (by simp) (by simp) (by simp)
    simp only [List.map_cons, List.map_nil] at hf
    refine (hf.pure (by simp) (by rintro r rfl; simp) _).mono ?_
    rintro r H' ⟨rfl, rfl⟩
    simp only [List.all_cons, List.all_nil, Bool.and_true]
    by_cases hin : fewX (S, E) = true ∧ O.length ≤ 20 ∧ DS.length ≤ 20 ∧ DV.length ≤ 70000
    case neg =>
      have ht : ∀ a b c : Bool, True := fun _ _ _ => trivial
      cases hfew : fewX (S, E) with
      | false =>
        simp
        refine AWp.cond (b := true) (by simp) (fun _ => ?_) (fun h => by cases h)
        repeat first | refine AWp.seq ?_ | refine AWp.block ?_
        refine AWp.ops ?_
        simp
        refine AWp.ret ?_
        simp
        refine retOk.of rfl ?_
        simp
      | true =>
      by_cases h1 : (20 : Int) < O.length
      · simp [h1]
        refine AWp.cond (b := true) (by simp) (fun _ => ?_) (fun h => by cases h)
        repeat first | refine AWp.seq ?_ | refine AWp.block ?_
        refine AWp.ops ?_
        simp
        refine AWp.ret ?_
        simp
        refine retOk.of rfl ?_
        simp
      by_cases h2 : (20 : Int) < DS.length
      · simp [h1, h2]
        refine AWp.cond (b := true) (by simp) (fun _ => ?_) (fun h => by cases h)
        repeat first | refine AWp.seq ?_ | refine AWp.block ?_
        refine AWp.ops ?_
        simp
        refine AWp.ret ?_
        simp
        refine retOk.of rfl ?_
        simp
      have h3 : (70000 : Int) < DV.length := by
        have : ¬ (O.length ≤ 20 ∧ DS.length ≤ 20 ∧ DV.length ≤ 70000) := fun h => hin ⟨hfew, h⟩
        omega
      simp [h1, h2, h3]
      refine AWp.cond (b := true) (by simp) (fun _ => ?_) (fun h => by cases h)
      repeat first | refine AWp.seq ?_ | refine AWp.block ?_
      refine AWp.ops ?_
      simp
      refine AWp.ret ?_
      simp
      refine retOk.of rfl ?_
      simp
    obtain ⟨hfew, i1, i2, i3⟩ := hin
    have j1 : ¬ (20 : Int) < O.length := by omega
    have j2 : ¬ (20 : Int) < DS.length := by omega
    have j3 : ¬ (70000 : Int) < DV.length := by omega
    rw [hfew]
    simp [j1, j2, j3]
    refine AWp.cond (b := false) (by simp) (fun h => by cases h) (fun _ => ?_)
    refine AWp.skip ?_
    simp only [qSeq]
    have n2 : ∀ {x y : AV}, noRef x = true → noRef y = true → noRefs [x, y] = true := fun h k => by simp [noRefs, h, k]
    have nT : ∀ {y : AV} {Y : List Int × List (List Int × Int)} {z : Int}, Coo y Y → noRef (.tup [y, I z]) = true := fun h => by have := h.noRef; simp [this]
    have nD : ∀ {y : AV} {Y : List Int × List Int} {z : Int}, Dn y Y → noRef (.tup [y, I z]) = true := fun h => by have := h.noRef; simp [this]
    repeat first | refine AWp.seq ?_ | refine AWp.block ?_
    refine AWp.ops ?_
    simp
    refine ((cTurn_spec hx' ho' (by omega)).pure (by simp) (by rintro r ⟨y, rfl, hy⟩; exact nT hy) _).mono ?_
    rintro r H' ⟨rfl, a1, rfl, ha⟩
    have hTI := ha.inX
    have ha0 := ha.noRef
    obtain ⟨as1, ae1, rfl, ha1, ha2, haf⟩ := ha.forms
    simp [ha1, ha2]
    repeat first | refine AWp.seq ?_ | refine AWp.block ?_
    refine AWp.ops ?_
    simp
    refine ((coo_pure (rcTurn_spec hx' ho' (by omega)) hTI).pure (by simp) (by rintro r ⟨y, rfl, hy⟩; exact nT hy) _).mono ?_
    rintro r H' ⟨rfl, b1, rfl, hb⟩
    have hb0 := hb.noRef
    obtain ⟨bs1, be1, rfl, hb1, hb2, hbf⟩ := hb.forms
    simp [hb1, hb2]
    repeat first | refine AWp.seq ?_ | refine AWp.block ?_
    refine AWp.ops ?_
    simp
    refine ((cDense_pure hx' hI.1).pure (by simp) (by rintro r ⟨y, rfl, hy⟩; exact nD hy) _).mono ?_
    rintro r H' ⟨rfl, c1, rfl, hc⟩
    have hc0 := hc.noRef
    obtain ⟨cs1, ce1, rfl, hc1, hc2⟩ := hc.two
    simp [hc1, hc2]
    repeat first | refine AWp.seq ?_ | refine AWp.block ?_
    refine AWp.ops ?_
    simp
    refine ((rcDense_pure hx' hI.1).pure (by simp) (by rintro r ⟨y, rfl, hy⟩; exact nD hy) _).mono ?_
    rintro r H' ⟨rfl, y1, rfl, hy⟩
    have hy0 := hy.noRef
    obtain ⟨ys1, ye1, rfl, hy1, hy2⟩ := hy.two
    simp [hy1, hy2]
    repeat first | refine AWp.seq ?_ | refine AWp.block ?_
    refine AWp.ops ?_
    simp
    refine ((cOf_spec hd').pure (by simp) (by rintro r ⟨y, rfl, hy⟩; exact nT hy) _).mono ?_
    rintro r H' ⟨rfl, p1, rfl, hp⟩
    have hp0 := hp.noRef
    obtain ⟨ps1, pe1, rfl, hp1, hp2, hpf⟩ := hp.forms
    simp [hp1, hp2]
    repeat first | refine AWp.seq ?_ | refine AWp.block ?_
    refine AWp.ops ?_
    simp
    refine ((rcOf_spec hd').pure (by simp) (by rintro r ⟨y, rfl, hy⟩; exact nT hy) _).mono ?_
    rintro r H' ⟨rfl, q1, rfl, hq⟩
    have hq0 := hq.noRef
    obtain ⟨qs1, qe1, rfl, hq1, hq2, hqf⟩ := hq.forms
    simp [hq1, hq2]
    repeat first | refine AWp.seq ?_ | refine AWp.block ?_
    refine AWp.ops ?_
    simp
    refine ((cCount_spec hx').pure (by simp) (by rintro r ⟨y, rfl, hy⟩; have := hy.noRef; simp [this]) _).mono ?_
    rintro r H' ⟨rfl, n1, rfl, hn⟩
    have hn0 := hn.noRef
    simp
    repeat first | refine AWp.seq ?_ | refine AWp.block ?_
    refine AWp.ops ?_
    simp
    refine ((rcCount_spec hx').pure (by simp) (by rintro r ⟨y, rfl, hy⟩; have := hy.noRef; simp [this]) _).mono ?_
    rintro r H' ⟨rfl, m1, rfl, hm⟩
    have hm0 := hm.noRef
    simp
    repeat first | refine AWp.seq ?_ | refine AWp.block ?_
    refine AWp.ops ?_
    simp
    refine ((rcEquals_spec ha hb (turnF_len hXl) (turnF_len hXl)).pure (n2 ha0 hb0) (by rintro r rfl; simp) _).mono ?_
    rintro r H' ⟨rfl, rfl⟩
    simp
    refine ((rEquals_spec hc hy).pure (n2 hc0 hy0) (by rintro r rfl; simp) _).mono ?_
    rintro r H' ⟨rfl, rfl⟩
    simp
    refine ((rcEquals_spec hp hq (ofF_len hl4) (ofF_len hl4)).pure (n2 hp0 hq0) (by rintro r rfl; simp) _).mono ?_
    rintro r H' ⟨rfl, rfl⟩
    simp
    refine ((rEqual_spec hn hm).pure (n2 hn0 hm0) (by rintro r rfl; simp) _).mono ?_
    rintro r H' ⟨rfl, rfl⟩
    simp
    refine AWp.ret ?_
    simp
    refine retOk.of rfl ?_
    simp
  refine (base.frozen 2).mono ?_
  rintro q H' ⟨rfl, r, G, rfl, rfl⟩
  exact ⟨rfl, by simp⟩
end Go.Fw
