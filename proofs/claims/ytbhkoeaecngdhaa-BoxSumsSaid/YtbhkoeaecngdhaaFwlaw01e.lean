import Derived.Test.YtbhkoeaecngdhaaFwlaw01d
namespace Go.Fw
open Go Go.RowKit Go.Proofs
set_option maxRecDepth 100000
set_option linter.unusedSimpArgs false
set_option linter.unusedVariables false

theorem Ring1_ok {d e : AV} {S l1 l2 : List Int} (hd : Dn d (S, l1)) (he : Dn e (S, l2)) (hc : checkF (S, l1) = 0) (hl : l2.length = l1.length) :
    ACalls Try.prog 29 [d, e] [] fun r H' => H' = [] ∧ Dn r (S, List.zipWith addW l1 l2) := by
  have := Ring1_spec hd he
  rw [both_ok hc hl] at this
  exact this
theorem Ring2_ok {d e : AV} {S l1 l2 : List Int} (hd : Dn d (S, l1)) (he : Dn e (S, l2)) (hc : checkF (S, l1) = 0) (hl : l2.length = l1.length) :
    ACalls Try.prog 31 [d, e] [] fun r H' => H' = [] ∧ Dn r (S, List.zipWith mulW l1 l2) := by
  have := Ring2_spec hd he
  rw [both_ok hc hl] at this
  exact this
theorem Same_ok {d e : AV} {S l1 l2 : List Int} (hd : Dn d (S, l1)) (he : Dn e (S, l2)) (hc : checkF (S, l1) = 0) (h : l1 = l2) :
    ACalls Try.prog 27 [d, e] [] fun r H' => H' = [] ∧ r = Bo true := by
  have := bSame_spec hd he
  subst h
  simpa [hc] using this

def BoxRing_12 : AC := (.seq (.ops [⟨(some 98), none, (.k (.mov (.t 7)))⟩, ⟨(some 99), none, (.k (.mov (.t 98)))⟩, ⟨(some 100), (some (99, true)), (.k (.mov (.t 8)))⟩, ⟨(some 101), (some (99, true)), (.k (.ld 2 true (.t 3)))⟩, ⟨(some 102), (some (99, true)), (.k (.ld 2 true (.t 4)))⟩, ⟨(some 104), (some (99, true)), (.k (.mov (.t 8)))⟩, ⟨(some 105), (some (99, true)), (.k (.ld 2 true (.t 4)))⟩, ⟨(some 106), (some (99, true)), (.k (.ld 2 true (.t 3)))⟩, ⟨(some 103), (some (99, true)), (.call true (.t 100) [(.t 101), (.t 102)])⟩, ⟨(some 107), (some (99, true)), (.call true (.t 104) [(.t 105), (.t 106)])⟩, ⟨(some 108), (some (99, true)), (.call true (.c (.fn (.func 27) [] [])) [(.t 103), (.t 107)])⟩, ⟨(some 109), none, (.k (.pick (.t 99) (.t 108) (.c (.sc (.bool false)))))⟩, ⟨(some 110), none, (.k (.mov (.t 109)))⟩, ⟨(some 111), (some (110, true)), (.k (.mov (.t 9)))⟩, ⟨(some 112), (some (110, true)), (.k (.ld 2 true (.t 3)))⟩, ⟨(some 113), (some (110, true)), (.k (.ld 2 true (.t 4)))⟩, ⟨(some 115), (some (110, true)), (.k (.mov (.t 9)))⟩, ⟨(some 116), (some (110, true)), (.k (.ld 2 true (.t 4)))⟩, ⟨(some 117), (some (110, true)), (.k (.ld 2 true (.t 3)))⟩, ⟨(some 114), (some (110, true)), (.call true (.t 111) [(.t 112), (.t 113)])⟩, ⟨(some 118), (some (110, true)), (.call true (.t 115) [(.t 116), (.t 117)])⟩, ⟨(some 119), (some (110, true)), (.call true (.c (.fn (.func 27) [] [])) [(.t 114), (.t 118)])⟩, ⟨(some 120), none, (.k (.pick (.t 110) (.t 119) (.c (.sc (.bool false)))))⟩, ⟨(some 121), none, (.k (.mov (.t 120)))⟩, ⟨(some 122), (some (121, true)), (.k (.mov (.t 8)))⟩, ⟨(some 123), (some (121, true)), (.k (.mov (.t 8)))⟩, ⟨(some 124), (some (121, true)), (.k (.ld 2 true (.t 3)))⟩, ⟨(some 125), (some (121, true)), (.k (.ld 2 true (.t 4)))⟩, ⟨(some 127), (some (121, true)), (.k (.ld 2 true (.t 5)))⟩, ⟨(some 129), (some (121, true)), (.k (.mov (.t 8)))⟩, ⟨(some 130), (some (121, true)), (.k (.ld 2 true (.t 3)))⟩, ⟨(some 131), (some (121, true)), (.k (.mov (.t 8)))⟩, ⟨(some 132), (some (121, true)), (.k (.ld 2 true (.t 4)))⟩, ⟨(some 133), (some (121, true)), (.k (.ld 2 true (.t 5)))⟩, ⟨(some 126), (some (121, true)), (.call true (.t 123) [(.t 124), (.t 125)])⟩, ⟨(some 128), (some (121, true)), (.call true (.t 122) [(.t 126), (.t 127)])⟩, ⟨(some 134), (some (121, true)), (.call true (.t 131) [(.t 132), (.t 133)])⟩, ⟨(some 135), (some (121, true)), (.call true (.t 129) [(.t 130), (.t 134)])⟩, ⟨(some 136), (some (121, true)), (.call true (.c (.fn (.func 27) [] [])) [(.t 128), (.t 135)])⟩, ⟨(some 137), none, (.k (.pick (.t 121) (.t 136) (.c (.sc (.bool false)))))⟩, ⟨(some 138), none, (.k (.mov (.t 137)))⟩, ⟨(some 139), (some (138, true)), (.k (.mov (.t 9)))⟩, ⟨(some 140), (some (138, true)), (.k (.mov (.t 9)))⟩, ⟨(some 141), (some (138, true)), (.k (.ld 2 true (.t 3)))⟩, ⟨(some 142), (some (138, true)), (.k (.ld 2 true (.t 4)))⟩, ⟨(some 144), (some (138, true)), (.k (.ld 2 true (.t 5)))⟩, ⟨(some 146), (some (138, true)), (.k (.mov (.t 9)))⟩, ⟨(some 147), (some (138, true)), (.k (.ld 2 true (.t 3)))⟩, ⟨(some 148), (some (138, true)), (.k (.mov (.t 9)))⟩, ⟨(some 149), (some (138, true)), (.k (.ld 2 true (.t 4)))⟩, ⟨(some 150), (some (138, true)), (.k (.ld 2 true (.t 5)))⟩, ⟨(some 143), (some (138, true)), (.call true (.t 140) [(.t 141), (.t 142)])⟩, ⟨(some 145), (some (138, true)), (.call true (.t 139) [(.t 143), (.t 144)])⟩, ⟨(some 151), (some (138, true)), (.call true (.t 148) [(.t 149), (.t 150)])⟩, ⟨(some 152), (some (138, true)), (.call true (.t 146) [(.t 147), (.t 151)])⟩, ⟨(some 153), (some (138, true)), (.call true (.c (.fn (.func 27) [] [])) [(.t 145), (.t 152)])⟩, ⟨(some 154), none, (.k (.pick (.t 138) (.t 153) (.c (.sc (.bool false)))))⟩, ⟨(some 155), none, (.k (.mov (.t 154)))⟩, ⟨(some 156), (some (155, true)), (.k (.mov (.t 9)))⟩, ⟨(some 157), (some (155, true)), (.k (.ld 2 true (.t 3)))⟩, ⟨(some 158), (some (155, true)), (.k (.mov (.t 8)))⟩, ⟨(some 159), (some (155, true)), (.k (.ld 2 true (.t 4)))⟩, ⟨(some 160), (some (155, true)), (.k (.ld 2 true (.t 5)))⟩, ⟨(some 163), (some (155, true)), (.k (.mov (.t 8)))⟩, ⟨(some 164), (some (155, true)), (.k (.mov (.t 9)))⟩, ⟨(some 165), (some (155, true)), (.k (.ld 2 true (.t 3)))⟩, ⟨(some 166), (some (155, true)), (.k (.ld 2 true (.t 4)))⟩, ⟨(some 168), (some (155, true)), (.k (.mov (.t 9)))⟩, ⟨(some 169), (some (155, true)), (.k (.ld 2 true (.t 3)))⟩, ⟨(some 170), (some (155, true)), (.k (.ld 2 true (.t 5)))⟩, ⟨(some 161), (some (155, true)), (.call true (.t 158) [(.t 159), (.t 160)])⟩, ⟨(some 162), (some (155, true)), (.call true (.t 156) [(.t 157), (.t 161)])⟩, ⟨(some 167), (some (155, true)), (.call true (.t 164) [(.t 165), (.t 166)])⟩, ⟨(some 171), (some (155, true)), (.call true (.t 168) [(.t 169), (.t 170)])⟩, ⟨(some 172), (some (155, true)), (.call true (.t 163) [(.t 167), (.t 171)])⟩, ⟨(some 173), (some (155, true)), (.call true (.c (.fn (.func 27) [] [])) [(.t 162), (.t 172)])⟩, ⟨(some 174), none, (.k (.pick (.t 155) (.t 173) (.c (.sc (.bool false)))))⟩, ⟨(some 6), none, (.k (.mov (.t 174)))⟩]) .ret)
def BoxRing_11 : AC := (.seq (.ops [⟨(some 74), none, (.k (.mov (.t 11)))⟩, ⟨(some 75), none, (.k (.bin .neq (.t 74) (.c (.sc (.int .i64 0)))))⟩, ⟨(some 76), none, (.k (.mov (.t 75)))⟩, ⟨(some 77), (some (76, false)), (.k (.mov (.t 13)))⟩, ⟨(some 78), (some (76, false)), (.k (.bin .neq (.t 77) (.c (.sc (.int .i64 0)))))⟩, ⟨(some 79), none, (.k (.pick (.t 76) (.c (.sc (.bool true))) (.t 78)))⟩, ⟨(some 80), none, (.k (.mov (.t 79)))⟩, ⟨(some 81), (some (80, false)), (.k (.mov (.t 8)))⟩, ⟨(some 82), (some (80, false)), (.k (.ld 2 true (.t 3)))⟩, ⟨(some 83), (some (80, false)), (.k (.ld 2 true (.t 10)))⟩, ⟨(some 85), (some (80, false)), (.k (.ld 2 true (.t 12)))⟩, ⟨(some 84), (some (80, false)), (.call true (.t 81) [(.t 82), (.t 83)])⟩, ⟨(some 86), (some (80, false)), (.call true (.c (.fn (.func 27) [] [])) [(.t 84), (.t 85)])⟩, ⟨(some 87), (some (80, false)), (.k (.un .not (.t 86)))⟩, ⟨(some 88), none, (.k (.pick (.t 80) (.c (.sc (.bool true))) (.t 87)))⟩, ⟨(some 89), none, (.k (.mov (.t 88)))⟩, ⟨(some 90), (some (89, false)), (.k (.mov (.t 8)))⟩, ⟨(some 91), (some (89, false)), (.k (.ld 2 true (.t 3)))⟩, ⟨(some 92), (some (89, false)), (.k (.ld 2 true (.t 12)))⟩, ⟨(some 94), (some (89, false)), (.k (.ld 2 true (.t 3)))⟩, ⟨(some 93), (some (89, false)), (.call true (.t 90) [(.t 91), (.t 92)])⟩, ⟨(some 95), (some (89, false)), (.call true (.c (.fn (.func 27) [] [])) [(.t 93), (.t 94)])⟩, ⟨(some 96), (some (89, false)), (.k (.un .not (.t 95)))⟩, ⟨(some 97), none, (.k (.pick (.t 89) (.c (.sc (.bool true))) (.t 96)))⟩]) (.cond (.t 97) (.seq (.ops [⟨(some 6), none, (.k (.mov (.c (.sc (.bool false)))))⟩]) .ret) .skip))
def BoxRing_10 : AC := (.seq BoxRing_11 BoxRing_12)
def BoxRing_9 : AC := (.seq (.ops [⟨(some 69), none, (.k (.fad 0 (.t 3)))⟩, ⟨(some 70), none, (.k (.ld 1 false (.t 69)))⟩, ⟨(some 71), none, (.call false (.c (.fn (.func 20) [] [])) [(.t 70)])⟩, ⟨(some 68), none, (.k (.mov (.t 71)))⟩, ⟨(some 72), none, (.k (.ext (.t 68) 0))⟩, ⟨(some 73), none, (.k (.ext (.t 68) 1))⟩, ⟨(some 12), none, (.k (.new 35 2 (.c (.agg [(.imm true none 0 []), (.imm true none 0 [])]))))⟩, ⟨none, none, (.k (.st 2 (.t 12) (.t 72)))⟩, ⟨(some 13), none, (.k (.mov (.t 73)))⟩]) BoxRing_10)
def BoxRing_8 : AC := (.seq (.ops [⟨(some 64), none, (.k (.ld 2 true (.t 3)))⟩, ⟨(some 65), none, (.call false (.c (.fn (.func 33) [] [])) [(.t 64), (.c (.sc (.int .i64 (-1))))])⟩, ⟨(some 63), none, (.k (.mov (.t 65)))⟩, ⟨(some 66), none, (.k (.ext (.t 63) 0))⟩, ⟨(some 67), none, (.k (.ext (.t 63) 1))⟩, ⟨(some 10), none, (.k (.new 35 2 (.c (.agg [(.imm true none 0 []), (.imm true none 0 [])]))))⟩, ⟨none, none, (.k (.st 2 (.t 10) (.t 66)))⟩, ⟨(some 11), none, (.k (.mov (.t 67)))⟩]) BoxRing_9)
def BoxRing_7 : AC := (.seq (.ops [⟨(some 9), none, (.k (.mov (.c (.fn (.func 31) [] []))))⟩]) BoxRing_8)
def BoxRing_6 : AC := (.seq (.ops [⟨(some 8), none, (.k (.mov (.c (.fn (.func 29) [] []))))⟩]) BoxRing_7)
def BoxRing_5 : AC := (.seq (.ops [⟨(some 54), none, (.k (.fad 0 (.t 3)))⟩, ⟨(some 55), none, (.k (.ld 1 false (.t 54)))⟩, ⟨(some 56), none, (.k (.fad 1 (.t 5)))⟩, ⟨(some 57), none, (.k (.ld 1 false (.t 56)))⟩, ⟨(some 58), none, (.k (.fad 1 (.t 3)))⟩, ⟨(some 59), none, (.k (.ld 1 false (.t 58)))⟩, ⟨(some 60), none, (.k (.len (.t 59)))⟩, ⟨(some 61), none, (.k (.sl 1 (.t 57) none (some (.t 60)) none))⟩, ⟨(some 62), none, (.k (.mk [(.imm true none 0 []), (.imm true none 0 [])] [(0, (1, (.t 55))), (1, (1, (.t 61)))]))⟩, ⟨none, none, (.k (.st 2 (.t 5) (.t 62)))⟩]) BoxRing_6)
def BoxRing_4 : AC := (.seq (.ops [⟨(some 45), none, (.k (.fad 0 (.t 3)))⟩, ⟨(some 46), none, (.k (.ld 1 false (.t 45)))⟩, ⟨(some 47), none, (.k (.fad 1 (.t 4)))⟩, ⟨(some 48), none, (.k (.ld 1 false (.t 47)))⟩, ⟨(some 49), none, (.k (.fad 1 (.t 3)))⟩, ⟨(some 50), none, (.k (.ld 1 false (.t 49)))⟩, ⟨(some 51), none, (.k (.len (.t 50)))⟩, ⟨(some 52), none, (.k (.sl 1 (.t 48) none (some (.t 51)) none))⟩, ⟨(some 53), none, (.k (.mk [(.imm true none 0 []), (.imm true none 0 [])] [(0, (1, (.t 46))), (1, (1, (.t 52)))]))⟩, ⟨none, none, (.k (.st 2 (.t 4) (.t 53)))⟩]) BoxRing_5)
def BoxRing_3 : AC := (.seq (.ops [⟨(some 15), none, (.k (.ld 2 true (.t 3)))⟩, ⟨(some 16), none, (.k (.ld 2 true (.t 4)))⟩, ⟨(some 17), none, (.k (.ld 2 true (.t 5)))⟩, ⟨(some 18), none, (.k (.lit 2 [(.t 15), (.t 16), (.t 17)]))⟩, ⟨(some 19), none, (.call false (.c (.fn (.func 19) [] [])) [(.t 18)])⟩, ⟨(some 20), none, (.k (.un .not (.t 19)))⟩, ⟨(some 21), none, (.k (.mov (.t 20)))⟩, ⟨(some 22), (some (21, false)), (.k (.ld 2 true (.t 3)))⟩, ⟨(some 23), (some (21, false)), (.call false (.c (.fn (.func 25) [] [])) [(.t 22)])⟩, ⟨(some 24), (some (21, false)), (.k (.bin .neq (.t 23) (.c (.sc (.int .i64 0)))))⟩, ⟨(some 25), none, (.k (.pick (.t 21) (.c (.sc (.bool true))) (.t 24)))⟩, ⟨(some 26), none, (.k (.mov (.t 25)))⟩, ⟨(some 27), (some (26, false)), (.k (.fad 1 (.t 4)))⟩, ⟨(some 28), (some (26, false)), (.k (.ld 1 false (.t 27)))⟩, ⟨(some 29), (some (26, false)), (.k (.len (.t 28)))⟩, ⟨(some 30), (some (26, false)), (.k (.fad 1 (.t 3)))⟩, ⟨(some 31), (some (26, false)), (.k (.ld 1 false (.t 30)))⟩, ⟨(some 32), (some (26, false)), (.k (.len (.t 31)))⟩, ⟨(some 33), (some (26, false)), (.k (.bin .lss (.t 29) (.t 32)))⟩, ⟨(some 34), none, (.k (.pick (.t 26) (.c (.sc (.bool true))) (.t 33)))⟩, ⟨(some 35), none, (.k (.mov (.t 34)))⟩, ⟨(some 36), (some (35, false)), (.k (.fad 1 (.t 5)))⟩, ⟨(some 37), (some (35, false)), (.k (.ld 1 false (.t 36)))⟩, ⟨(some 38), (some (35, false)), (.k (.len (.t 37)))⟩, ⟨(some 39), (some (35, false)), (.k (.fad 1 (.t 3)))⟩, ⟨(some 40), (some (35, false)), (.k (.ld 1 false (.t 39)))⟩, ⟨(some 41), (some (35, false)), (.k (.len (.t 40)))⟩, ⟨(some 42), (some (35, false)), (.k (.bin .lss (.t 38) (.t 41)))⟩, ⟨(some 43), none, (.k (.pick (.t 35) (.c (.sc (.bool true))) (.t 42)))⟩]) (.cond (.t 43) (.seq (.ops [⟨(some 44), none, (.k (.mov (.t 7)))⟩, ⟨(some 6), none, (.k (.mov (.t 44)))⟩]) .ret) .skip))
def BoxRing_2 : AC := (.seq BoxRing_3 BoxRing_4)
def BoxRing_1 : AC := (.seq (.ops [⟨(some 14), none, (.call false (.c (.fn (.func 11) [] [])) [])⟩, ⟨(some 7), none, (.k (.mov (.t 14)))⟩]) BoxRing_2)
def BoxRing_ac : AC := (.seq (.ops [⟨(some 3), none, (.k (.new 35 2 (.t 0)))⟩, ⟨(some 4), none, (.k (.new 35 2 (.t 1)))⟩, ⟨(some 5), none, (.k (.new 35 2 (.t 2)))⟩, ⟨(some 6), none, (.k (.mov (.c (.sc (.bool false)))))⟩]) BoxRing_1)
theorem BoxRing_call {args : List AV} {H : List AObj} {R : AV → List AObj → Prop} (h : AWp Try.prog [] H.length BoxRing_ac (bodyQ H.length [(.t 6)] R) (args ++ List.replicate (175 - args.length) .und) H) : ACalls Try.prog 7 args H R :=
  ACalls.of_fn Try.func7 rfl (by kernel_rfl) rfl Try.ntmps7 h

set_option maxHeartbeats 4000000 in
theorem BoxRing_spec {a b c : AV} {A B C : List Int × List Int} (ha : Dn a A) (hb : Dn b B) (hc : Dn c C) :
    ACalls Try.prog 7 [a, b, c] [] fun r H' => H' = [] ∧ r = Bo true := by
  have ha' := ha
  have hb' := hb
  have hc' := hc
  obtain ⟨S, xs⟩ := A
  obtain ⟨bS, ys⟩ := B
  obtain ⟨cS, zs⟩ := C
  obtain ⟨s1, v1, rfl, hS, hX⟩ := ha
  obtain ⟨s2, v2, rfl, hbS, hY⟩ := hb
  obtain ⟨s3, v3, rfl, hcS, hZ⟩ := hc
  have hS' := hS
  have hX' := hX
  have hY' := hY
  have hZ' := hZ
  obtain ⟨⟨nl1, c1, z1, rfl, hz1⟩, hr1⟩ := hS
  obtain ⟨⟨nl2, c2, z2, rfl, hz2⟩, hr2⟩ := hX
  obtain ⟨⟨nl3, c3, z3, rfl, hz3⟩, hr3⟩ := hbS
  obtain ⟨⟨nl4, c4, z4, rfl, hz4⟩, hr4⟩ := hY
  obtain ⟨⟨nl5, c5, z5, rfl, hz5⟩, hr5⟩ := hcS
  obtain ⟨⟨nl6, c6, z6, rfl, hz6⟩, hr6⟩ := hZ
  simp only at hz1 hr1 hz2 hr2 hz3 hr3 hz4 hr4 hz5 hr5 hz6 hr6 hS' hX' hY' hZ'
  refine ACalls.res 0 ?_ (fun _ => rfl)
  apply BoxRing_call
  first | refine AWp.seq (AWp.ops ?_) | refine AWp.seq (AWp.seq (AWp.ops ?_)) | refine AWp.ops ?_ | refine AWp.seq (AWp.block (AWp.seq (AWp.ops ?_))) | refine AWp.seq (AWp.seq (AWp.seq (AWp.ops ?_)))
  simp
  first | refine AWp.seq (AWp.ops ?_) | refine AWp.seq (AWp.seq (AWp.ops ?_)) | refine AWp.ops ?_ | refine AWp.seq (AWp.block (AWp.seq (AWp.ops ?_))) | refine AWp.seq (AWp.seq (AWp.seq (AWp.ops ?_)))
  simp
  refine (live_spec.pure (by simp) (by rintro r rfl; simp) _).mono ?_
  rintro r H' ⟨rfl, rfl⟩
  simp
  first | refine AWp.seq (AWp.ops ?_) | refine AWp.seq (AWp.seq (AWp.ops ?_)) | refine AWp.ops ?_ | refine AWp.seq (AWp.block (AWp.seq (AWp.ops ?_))) | refine AWp.seq (AWp.seq (AWp.seq (AWp.ops ?_)))
  simp
  refine ((few_spec (.cons ha' (.cons hb' (.cons hc' .nil))) (by simp)).pure (by simp) (by rintro r rfl; simp) _).mono ?_
  rintro r H' ⟨rfl, rfl⟩
  by_cases h1 : [(S, xs), (bS, ys), (cS, zs)].all fewB = true
  case neg =>
    have h1 : [(S, xs), (bS, ys), (cS, zs)].all fewB = false := by simpa only [Bool.not_eq_true] using h1
    simp only [h1]
    simp
    refine AWp.cond (b := true) (by simp) (fun _ => ?_) (fun h => by cases h)
    first | refine AWp.seq (AWp.ops ?_) | refine AWp.seq (AWp.seq (AWp.ops ?_)) | refine AWp.ops ?_ | refine AWp.seq (AWp.block (AWp.seq (AWp.ops ?_))) | refine AWp.seq (AWp.seq (AWp.seq (AWp.ops ?_)))
    simp
    refine AWp.ret ?_
    simp
    refine retOk.of rfl ?_
    rfl
  simp only [h1]
  simp
  refine ((bCheck_spec ha').pure (by simp) (by rintro r rfl; simp) _).mono ?_
  rintro r H' ⟨rfl, rfl⟩
  by_cases h2 : checkF (S, xs) = 0
  case neg =>
    simp [h2]
    refine AWp.cond (b := true) (by simp) (fun _ => ?_) (fun h => by cases h)
    first | refine AWp.seq (AWp.ops ?_) | refine AWp.seq (AWp.seq (AWp.ops ?_)) | refine AWp.ops ?_ | refine AWp.seq (AWp.block (AWp.seq (AWp.ops ?_))) | refine AWp.seq (AWp.seq (AWp.seq (AWp.ops ?_)))
    simp
    refine AWp.ret ?_
    simp
    refine retOk.of rfl ?_
    rfl
  simp [h2]
  by_cases h3 : ys.length < xs.length
  · simp [h3, Nat.not_le.2 h3]
    refine AWp.cond (b := true) (by simp) (fun _ => ?_) (fun h => by cases h)
    first | refine AWp.seq (AWp.ops ?_) | refine AWp.seq (AWp.seq (AWp.ops ?_)) | refine AWp.ops ?_ | refine AWp.seq (AWp.block (AWp.seq (AWp.ops ?_))) | refine AWp.seq (AWp.seq (AWp.seq (AWp.ops ?_)))
    simp
    refine AWp.ret ?_
    simp
    refine retOk.of rfl ?_
    rfl
  by_cases h4 : zs.length < xs.length
  · simp [h3, Nat.not_lt.1 h3, h4]
    refine AWp.cond (b := true) (by simp [h4]) (fun _ => ?_) (fun h => by cases h)
    first | refine AWp.seq (AWp.ops ?_) | refine AWp.seq (AWp.seq (AWp.ops ?_)) | refine AWp.ops ?_ | refine AWp.seq (AWp.block (AWp.seq (AWp.ops ?_))) | refine AWp.seq (AWp.seq (AWp.seq (AWp.ops ?_)))
    simp
    refine AWp.ret ?_
    simp
    refine retOk.of rfl ?_
    rfl
  simp [h3, Nat.not_lt.1 h3, h4]
  refine AWp.cond (b := false) (by simp [Nat.not_lt.1 h4]) (fun h => by cases h) (fun _ => ?_)
  refine AWp.skip ?_
  simp only [qSeq]
  have e4 : nl4 = true ∨ z4 = 1 := by cases nl4 <;> simp_all
  have e6 : nl6 = true ∨ z6 = 1 := by cases nl6 <;> simp_all
  obtain ⟨Y, hYd⟩ : ∃ Y, Y = ys.take xs.length := ⟨_, rfl⟩
  obtain ⟨Z, hZd⟩ : ∃ Z, Z = zs.take xs.length := ⟨_, rfl⟩
  have hYl : Y.length = xs.length := by rw [hYd, List.length_take]; omega
  have hZl : Z.length = xs.length := by rw [hZd, List.length_take]; omega
  have t4 : (if (xs.length : Int) = ys.length then ys.map I else List.take xs.length (ys.map I)) = Y.map I := by
    rw [hYd, List.map_take]
    split
    · rw [List.take_of_length_le (by simp; omega)]
    · rfl
  have t6 : (if (xs.length : Int) = zs.length then zs.map I else List.take xs.length (zs.map I)) = Z.map I := by
    rw [hZd, List.map_take]
    split
    · rw [List.take_of_length_le (by simp; omega)]
    · rfl
  have iY : ISl (.imm nl4 c4 z4 (Y.map I)) Y := by
    refine ⟨⟨nl4, c4, z4, rfl, fun h => ?_, hz4.2⟩, by omega, fun x hx => hr4.2 x ?_⟩
    · rw [hYd, hz4.1 h]; simp
    · rw [hYd] at hx; exact List.mem_of_mem_take hx
  have iZ : ISl (.imm nl6 c6 z6 (Z.map I)) Z := by
    refine ⟨⟨nl6, c6, z6, rfl, fun h => ?_, hz6.2⟩, by omega, fun x hx => hr6.2 x ?_⟩
    · rw [hZd, hz6.1 h]; simp
    · rw [hZd] at hx; exact List.mem_of_mem_take hx
  have dA : Dn (.agg [.imm nl1 c1 z1 (S.map I), .imm nl2 c2 z2 (xs.map I)]) (S, xs) := ha'
  have dB : Dn (.agg [.imm nl1 c1 z1 (S.map I), .imm nl4 c4 z4 (Y.map I)]) (S, Y) := ⟨_, _, rfl, hS', iY⟩
  have dC : Dn (.agg [.imm nl1 c1 z1 (S.map I), .imm nl6 c6 z6 (Z.map I)]) (S, Z) := ⟨_, _, rfl, hS', iZ⟩
  clear hYd hZd
  first | refine AWp.seq (AWp.ops ?_) | refine AWp.seq (AWp.seq (AWp.ops ?_)) | refine AWp.ops ?_ | refine AWp.seq (AWp.block (AWp.seq (AWp.ops ?_))) | refine AWp.seq (AWp.seq (AWp.seq (AWp.ops ?_)))
  simp [e4, e6, Nat.not_lt.1 h3, Nat.not_lt.1 h4, t4, t6]
  first | refine AWp.seq (AWp.ops ?_) | refine AWp.seq (AWp.seq (AWp.ops ?_)) | refine AWp.ops ?_ | refine AWp.seq (AWp.block (AWp.seq (AWp.ops ?_))) | refine AWp.seq (AWp.seq (AWp.seq (AWp.ops ?_)))
  simp [e4, e6, Nat.not_lt.1 h3, Nat.not_lt.1 h4, t4, t6]
  refine AWp.weak (Weak.slots [3, 4, 5, 6, 7]) ?_
  simp
  have hk : ∀ l : List Int, l.length = xs.length → checkF (S, l) = 0 := fun l h => check_len h2 h
  obtain ⟨aA, hAe⟩ : ∃ x, x = AV.agg [.imm nl1 c1 z1 (S.map I), .imm nl2 c2 z2 (xs.map I)] := ⟨_, rfl⟩
  first | refine AWp.seq (AWp.ops ?_) | refine AWp.seq (AWp.seq (AWp.ops ?_)) | refine AWp.ops ?_ | refine AWp.seq (AWp.block (AWp.seq (AWp.ops ?_))) | refine AWp.seq (AWp.seq (AWp.seq (AWp.ops ?_)))
  simp
  first | refine AWp.seq (AWp.ops ?_) | refine AWp.seq (AWp.seq (AWp.ops ?_)) | refine AWp.ops ?_ | refine AWp.seq (AWp.block (AWp.seq (AWp.ops ?_))) | refine AWp.seq (AWp.seq (AWp.seq (AWp.ops ?_)))
  simp
  first | refine AWp.seq (AWp.ops ?_) | refine AWp.seq (AWp.seq (AWp.ops ?_)) | refine AWp.ops ?_ | refine AWp.seq (AWp.block (AWp.seq (AWp.ops ?_))) | refine AWp.seq (AWp.seq (AWp.seq (AWp.ops ?_)))
  simp
  refine ((Scale_spec (by_ := -1) dA).pure (by simp) (by rintro r ⟨d, rfl, h⟩; simp [h.noRef]) _).mono ?_
  rintro r H' ⟨rfl, m, rfl, dM⟩
  rw [both_ok h2 rfl] at dM ⊢
  obtain ⟨ml, hml⟩ : ∃ ml, ml = List.zipWith (fun x _ => mulW x (-1)) xs xs := ⟨_, rfl⟩
  have mlL : ml.length = xs.length := by rw [hml]; simp
  have mlE : ∀ i (h : i < ml.length) (h' : i < xs.length), ml[i] = mulW xs[i] (-1) := by intro i h h'; subst hml; rw [List.getElem_zipWith]
  rw [← hml] at dM
  clear hml
  have dM' := dM
  obtain ⟨s4, v4, rfl, ⟨⟨nl7, c7, z7, rfl, _⟩, _⟩, ⟨⟨nl8, c8, z8, rfl, _⟩, _⟩⟩ := dM
  simp
  first | refine AWp.seq (AWp.ops ?_) | refine AWp.seq (AWp.seq (AWp.ops ?_)) | refine AWp.ops ?_ | refine AWp.seq (AWp.block (AWp.seq (AWp.ops ?_))) | refine AWp.seq (AWp.seq (AWp.seq (AWp.ops ?_)))
  simp
  refine ((Zero_pure hS').pure (by simp) (by rintro r ⟨d, rfl, h⟩; simp [h.noRef]) _).mono ?_
  rintro r H' ⟨rfl, z, rfl, dZ⟩
  have hzF : zeroF S = ((S, List.replicate xs.length 0), 0) := (bothF_ok (op := addW) h2 h2 rfl).2.2
  rw [hzF] at dZ ⊢
  obtain ⟨zl, hzl⟩ : ∃ zl : List Int, zl = List.replicate xs.length 0 := ⟨_, rfl⟩
  have zlL : zl.length = xs.length := by rw [hzl]; simp
  have zlE : ∀ i (h : i < zl.length), zl[i] = 0 := by intro i h; subst hzl; rw [List.getElem_replicate]
  rw [← hzl] at dZ
  clear hzl hzF
  have dZ' := dZ
  obtain ⟨s5, v5, rfl, ⟨⟨nl9, c9, z9, rfl, _⟩, _⟩, ⟨⟨nl10, c10, z10, rfl, _⟩, _⟩⟩ := dZ
  simp
  first | refine AWp.seq (AWp.ops ?_) | refine AWp.seq (AWp.seq (AWp.ops ?_)) | refine AWp.ops ?_ | refine AWp.seq (AWp.block (AWp.seq (AWp.ops ?_))) | refine AWp.seq (AWp.seq (AWp.seq (AWp.ops ?_)))
  simp
  refine ((Ring1_ok dA dM' (hk _ (by simp [hYl, hZl, mlL, zlL])) (by simp [hYl, hZl, mlL, zlL])).pure (by simp [dA.noRef, dM'.noRef]) (by rintro r h; exact h.noRef) _).mono ?_
  rintro q1 H' ⟨rfl, w1⟩
  simp
  refine ((Same_ok w1 dZ' (hk _ (by simp [hYl, hZl, mlL, zlL])) (by refine zip_ext (by simp [hYl, hZl, mlL, zlL]) (fun i i1 i2 => ?_); simp only [List.getElem_zipWith]; rw [mlE i (by omega) (by omega), zlE]; exact addW_neg _)).pure (by simp [w1.noRef, dZ'.noRef]) (by rintro r rfl; rfl) _).mono ?_
  rintro r H' ⟨rfl, rfl⟩
  simp
  refine ((Ring1_ok dA dZ' (hk _ (by simp [hYl, hZl, mlL, zlL])) (by simp [hYl, hZl, mlL, zlL])).pure (by simp [dA.noRef, dZ'.noRef]) (by rintro r h; exact h.noRef) _).mono ?_
  rintro q2 H' ⟨rfl, w2⟩
  simp
  refine ((Same_ok w2 dA (hk _ (by simp [hYl, hZl, mlL, zlL])) (by refine zip_ext (by simp [hYl, hZl, mlL, zlL]) (fun i i1 i2 => ?_); simp only [List.getElem_zipWith]; rw [zlE]; exact addW_zero (hr2.2 _ (List.getElem_mem _)))).pure (by simp [w2.noRef, dA.noRef]) (by rintro r rfl; rfl) _).mono ?_
  rintro r H' ⟨rfl, rfl⟩
  simp
  refine AWp.cond (b := false) (by simp) (fun h => by cases h) (fun _ => ?_)
  refine AWp.skip ?_
  simp only [qSeq]
  first | refine AWp.seq (AWp.ops ?_) | refine AWp.seq (AWp.seq (AWp.ops ?_)) | refine AWp.ops ?_ | refine AWp.seq (AWp.block (AWp.seq (AWp.ops ?_))) | refine AWp.seq (AWp.seq (AWp.seq (AWp.ops ?_)))
  simp
  refine ((Ring1_ok dA dB (hk _ (by simp [hYl, hZl, mlL, zlL])) (by simp [hYl, hZl, mlL, zlL])).pure (by simp [dA.noRef, dB.noRef]) (by rintro r h; exact h.noRef) _).mono ?_
  rintro q3 H' ⟨rfl, w3⟩
  simp
  refine ((Ring1_ok dB dA (hk _ (by simp [hYl, hZl, mlL, zlL])) (by simp [hYl, hZl, mlL, zlL])).pure (by simp [dB.noRef, dA.noRef]) (by rintro r h; exact h.noRef) _).mono ?_
  rintro q4 H' ⟨rfl, w4⟩
  simp
  refine ((Same_ok w3 w4 (hk _ (by simp [hYl, hZl, mlL, zlL])) (by refine zip_ext (by simp [hYl, hZl, mlL, zlL]) (fun i i1 i2 => ?_); simp only [List.getElem_zipWith]; exact addW_comm _ _)).pure (by simp [w3.noRef, w4.noRef]) (by rintro r rfl; rfl) _).mono ?_
  rintro r H' ⟨rfl, rfl⟩
  simp
  refine ((Ring2_ok dA dB (hk _ (by simp [hYl, hZl, mlL, zlL])) (by simp [hYl, hZl, mlL, zlL])).pure (by simp [dA.noRef, dB.noRef]) (by rintro r h; exact h.noRef) _).mono ?_
  rintro q5 H' ⟨rfl, w5⟩
  simp
  refine ((Ring2_ok dB dA (hk _ (by simp [hYl, hZl, mlL, zlL])) (by simp [hYl, hZl, mlL, zlL])).pure (by simp [dB.noRef, dA.noRef]) (by rintro r h; exact h.noRef) _).mono ?_
  rintro q6 H' ⟨rfl, w6⟩
  simp
  refine ((Same_ok w5 w6 (hk _ (by simp [hYl, hZl, mlL, zlL])) (by refine zip_ext (by simp [hYl, hZl, mlL, zlL]) (fun i i1 i2 => ?_); simp only [List.getElem_zipWith]; exact mulW_comm _ _)).pure (by simp [w5.noRef, w6.noRef]) (by rintro r rfl; rfl) _).mono ?_
  rintro r H' ⟨rfl, rfl⟩
  simp
  refine ((Ring1_ok dA dB (hk _ (by simp [hYl, hZl, mlL, zlL])) (by simp [hYl, hZl, mlL, zlL])).pure (by simp [dA.noRef, dB.noRef]) (by rintro r h; exact h.noRef) _).mono ?_
  rintro q7 H' ⟨rfl, w7⟩
  simp
  refine ((Ring1_ok w7 dC (hk _ (by simp [hYl, hZl, mlL, zlL])) (by simp [hYl, hZl, mlL, zlL])).pure (by simp [w7.noRef, dC.noRef]) (by rintro r h; exact h.noRef) _).mono ?_
  rintro q8 H' ⟨rfl, w8⟩
  simp
  refine ((Ring1_ok dB dC (hk _ (by simp [hYl, hZl, mlL, zlL])) (by simp [hYl, hZl, mlL, zlL])).pure (by simp [dB.noRef, dC.noRef]) (by rintro r h; exact h.noRef) _).mono ?_
  rintro q9 H' ⟨rfl, w9⟩
  simp
  refine ((Ring1_ok dA w9 (hk _ (by simp [hYl, hZl, mlL, zlL])) (by simp [hYl, hZl, mlL, zlL])).pure (by simp [dA.noRef, w9.noRef]) (by rintro r h; exact h.noRef) _).mono ?_
  rintro q10 H' ⟨rfl, w10⟩
  simp
  refine ((Same_ok w8 w10 (hk _ (by simp [hYl, hZl, mlL, zlL])) (by refine zip_ext (by simp [hYl, hZl, mlL, zlL]) (fun i i1 i2 => ?_); simp only [List.getElem_zipWith]; exact addW_assoc _ _ _)).pure (by simp [w8.noRef, w10.noRef]) (by rintro r rfl; rfl) _).mono ?_
  rintro r H' ⟨rfl, rfl⟩
  simp
  refine ((Ring2_ok dA dB (hk _ (by simp [hYl, hZl, mlL, zlL])) (by simp [hYl, hZl, mlL, zlL])).pure (by simp [dA.noRef, dB.noRef]) (by rintro r h; exact h.noRef) _).mono ?_
  rintro q11 H' ⟨rfl, w11⟩
  simp
  refine ((Ring2_ok w11 dC (hk _ (by simp [hYl, hZl, mlL, zlL])) (by simp [hYl, hZl, mlL, zlL])).pure (by simp [w11.noRef, dC.noRef]) (by rintro r h; exact h.noRef) _).mono ?_
  rintro q12 H' ⟨rfl, w12⟩
  simp
  refine ((Ring2_ok dB dC (hk _ (by simp [hYl, hZl, mlL, zlL])) (by simp [hYl, hZl, mlL, zlL])).pure (by simp [dB.noRef, dC.noRef]) (by rintro r h; exact h.noRef) _).mono ?_
  rintro q13 H' ⟨rfl, w13⟩
  simp
  refine ((Ring2_ok dA w13 (hk _ (by simp [hYl, hZl, mlL, zlL])) (by simp [hYl, hZl, mlL, zlL])).pure (by simp [dA.noRef, w13.noRef]) (by rintro r h; exact h.noRef) _).mono ?_
  rintro q14 H' ⟨rfl, w14⟩
  simp
  refine ((Same_ok w12 w14 (hk _ (by simp [hYl, hZl, mlL, zlL])) (by refine zip_ext (by simp [hYl, hZl, mlL, zlL]) (fun i i1 i2 => ?_); simp only [List.getElem_zipWith]; exact mulW_assoc _ _ _)).pure (by simp [w12.noRef, w14.noRef]) (by rintro r rfl; rfl) _).mono ?_
  rintro r H' ⟨rfl, rfl⟩
  simp
  refine ((Ring1_ok dB dC (hk _ (by simp [hYl, hZl, mlL, zlL])) (by simp [hYl, hZl, mlL, zlL])).pure (by simp [dB.noRef, dC.noRef]) (by rintro r h; exact h.noRef) _).mono ?_
  rintro q15 H' ⟨rfl, w15⟩
  simp
  refine ((Ring2_ok dA w15 (hk _ (by simp [hYl, hZl, mlL, zlL])) (by simp [hYl, hZl, mlL, zlL])).pure (by simp [dA.noRef, w15.noRef]) (by rintro r h; exact h.noRef) _).mono ?_
  rintro q16 H' ⟨rfl, w16⟩
  simp
  refine ((Ring2_ok dA dB (hk _ (by simp [hYl, hZl, mlL, zlL])) (by simp [hYl, hZl, mlL, zlL])).pure (by simp [dA.noRef, dB.noRef]) (by rintro r h; exact h.noRef) _).mono ?_
  rintro q17 H' ⟨rfl, w17⟩
  simp
  refine ((Ring2_ok dA dC (hk _ (by simp [hYl, hZl, mlL, zlL])) (by simp [hYl, hZl, mlL, zlL])).pure (by simp [dA.noRef, dC.noRef]) (by rintro r h; exact h.noRef) _).mono ?_
  rintro q18 H' ⟨rfl, w18⟩
  simp
  refine ((Ring1_ok w17 w18 (hk _ (by simp [hYl, hZl, mlL, zlL])) (by simp [hYl, hZl, mlL, zlL])).pure (by simp [w17.noRef, w18.noRef]) (by rintro r h; exact h.noRef) _).mono ?_
  rintro q19 H' ⟨rfl, w19⟩
  simp
  refine ((Same_ok w16 w19 (hk _ (by simp [hYl, hZl, mlL, zlL])) (by refine zip_ext (by simp [hYl, hZl, mlL, zlL]) (fun i i1 i2 => ?_); simp only [List.getElem_zipWith]; exact mulW_addW _ _ _)).pure (by simp [w16.noRef, w19.noRef]) (by rintro r rfl; rfl) _).mono ?_
  rintro r H' ⟨rfl, rfl⟩
  simp
  refine AWp.ret ?_
  simp
  refine retOk.of rfl ?_
  rfl
end Go.Fw
