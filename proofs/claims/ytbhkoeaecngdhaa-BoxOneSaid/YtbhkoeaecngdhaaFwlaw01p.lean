import Derived.Test.YtbhkoeaecngdhaaFwcoord1
import Derived.Test.YtbhkoeaecngdhaaFwbox4
namespace Go.Fw
open Go Go.RowKit Go.Proofs
set_option maxRecDepth 100000
set_option linter.unusedSimpArgs false
set_option linter.unusedVariables false

theorem ISl.noRef {a : AV} {xs : List Int} (h : ISl a xs) : noRef a = true := by
  obtain ⟨⟨nl, c, sz, rfl, _⟩, _⟩ := h
  simp

def BoxPlaces_10 : AC := (.seq (.ops [⟨(some 64), none, (.k (.mov (.t 7)))⟩, ⟨(some 65), none, (.k (.mov (.t 64)))⟩, ⟨(some 66), (some (65, true)), (.k (.mov (.t 8)))⟩, ⟨(some 67), (some (65, true)), (.k (.mov (.t 10)))⟩, ⟨(some 68), (some (65, true)), (.k (.bin .eql (.t 66) (.t 67)))⟩, ⟨(some 69), none, (.k (.pick (.t 65) (.t 68) (.c (.sc (.bool false)))))⟩, ⟨(some 70), none, (.k (.mov (.t 69)))⟩, ⟨(some 71), (some (70, true)), (.k (.mov (.t 9)))⟩, ⟨(some 72), (some (70, true)), (.k (.mov (.t 11)))⟩, ⟨(some 73), (some (70, true)), (.k (.bin .eql (.t 71) (.t 72)))⟩, ⟨(some 74), none, (.k (.pick (.t 70) (.t 73) (.c (.sc (.bool false)))))⟩, ⟨(some 75), none, (.k (.mov (.t 74)))⟩, ⟨(some 76), (some (75, true)), (.k (.mov (.t 12)))⟩, ⟨(some 77), (some (75, true)), (.k (.mov (.t 14)))⟩, ⟨(some 78), (some (75, true)), (.k (.bin .eql (.t 76) (.t 77)))⟩, ⟨(some 79), none, (.k (.pick (.t 75) (.t 78) (.c (.sc (.bool false)))))⟩, ⟨(some 80), none, (.k (.mov (.t 79)))⟩, ⟨(some 81), (some (80, true)), (.k (.mov (.t 13)))⟩, ⟨(some 82), (some (80, true)), (.k (.mov (.t 15)))⟩, ⟨(some 83), (some (80, true)), (.k (.bin .eql (.t 81) (.t 82)))⟩, ⟨(some 84), none, (.k (.pick (.t 80) (.t 83) (.c (.sc (.bool false)))))⟩, ⟨(some 85), none, (.k (.mov (.t 84)))⟩, ⟨(some 86), (some (85, true)), (.k (.mov (.t 16)))⟩, ⟨(some 87), (some (85, true)), (.k (.mov (.t 18)))⟩, ⟨(some 88), (some (85, true)), (.call false (.c (.fn (.func 18) [] [])) [(.t 86), (.t 87)])⟩, ⟨(some 89), none, (.k (.pick (.t 85) (.t 88) (.c (.sc (.bool false)))))⟩, ⟨(some 90), none, (.k (.mov (.t 89)))⟩, ⟨(some 91), (some (90, true)), (.k (.mov (.t 17)))⟩, ⟨(some 92), (some (90, true)), (.k (.mov (.t 19)))⟩, ⟨(some 93), (some (90, true)), (.k (.bin .eql (.t 91) (.t 92)))⟩, ⟨(some 94), none, (.k (.pick (.t 90) (.t 93) (.c (.sc (.bool false)))))⟩, ⟨(some 6), none, (.k (.mov (.t 94)))⟩]) .ret)
def BoxPlaces_9 : AC := (.seq (.ops [⟨(some 59), none, (.k (.mov (.t 0)))⟩, ⟨(some 60), none, (.k (.mov (.t 2)))⟩, ⟨(some 61), none, (.call false (.c (.fn (.func 17) [] [])) [(.t 59), (.t 60)])⟩, ⟨(some 58), none, (.k (.mov (.t 61)))⟩, ⟨(some 62), none, (.k (.ext (.t 58) 0))⟩, ⟨(some 63), none, (.k (.ext (.t 58) 1))⟩, ⟨(some 18), none, (.k (.mov (.t 62)))⟩, ⟨(some 19), none, (.k (.mov (.t 63)))⟩]) BoxPlaces_10)
def BoxPlaces_8 : AC := (.seq (.ops [⟨(some 53), none, (.k (.mov (.t 0)))⟩, ⟨(some 54), none, (.k (.mov (.t 2)))⟩, ⟨(some 55), none, (.call false (.c (.fn (.func 16) [] [])) [(.t 53), (.t 54)])⟩, ⟨(some 52), none, (.k (.mov (.t 55)))⟩, ⟨(some 56), none, (.k (.ext (.t 52) 0))⟩, ⟨(some 57), none, (.k (.ext (.t 52) 1))⟩, ⟨(some 16), none, (.k (.mov (.t 56)))⟩, ⟨(some 17), none, (.k (.mov (.t 57)))⟩]) BoxPlaces_9)
def BoxPlaces_7 : AC := (.seq (.ops [⟨(some 47), none, (.k (.mov (.t 0)))⟩, ⟨(some 48), none, (.k (.mov (.t 1)))⟩, ⟨(some 49), none, (.call false (.c (.fn (.func 15) [] [])) [(.t 47), (.t 48)])⟩, ⟨(some 46), none, (.k (.mov (.t 49)))⟩, ⟨(some 50), none, (.k (.ext (.t 46) 0))⟩, ⟨(some 51), none, (.k (.ext (.t 46) 1))⟩, ⟨(some 14), none, (.k (.mov (.t 50)))⟩, ⟨(some 15), none, (.k (.mov (.t 51)))⟩]) BoxPlaces_8)
def BoxPlaces_6 : AC := (.seq (.ops [⟨(some 41), none, (.k (.mov (.t 0)))⟩, ⟨(some 42), none, (.k (.mov (.t 1)))⟩, ⟨(some 43), none, (.call false (.c (.fn (.func 13) [] [])) [(.t 41), (.t 42)])⟩, ⟨(some 40), none, (.k (.mov (.t 43)))⟩, ⟨(some 44), none, (.k (.ext (.t 40) 0))⟩, ⟨(some 45), none, (.k (.ext (.t 40) 1))⟩, ⟨(some 12), none, (.k (.mov (.t 44)))⟩, ⟨(some 13), none, (.k (.mov (.t 45)))⟩]) BoxPlaces_7)
def BoxPlaces_5 : AC := (.seq (.ops [⟨(some 36), none, (.k (.mov (.t 0)))⟩, ⟨(some 37), none, (.call false (.c (.fn (.func 14) [] [])) [(.t 36)])⟩, ⟨(some 35), none, (.k (.mov (.t 37)))⟩, ⟨(some 38), none, (.k (.ext (.t 35) 0))⟩, ⟨(some 39), none, (.k (.ext (.t 35) 1))⟩, ⟨(some 10), none, (.k (.mov (.t 38)))⟩, ⟨(some 11), none, (.k (.mov (.t 39)))⟩]) BoxPlaces_6)
def BoxPlaces_4 : AC := (.seq (.ops [⟨(some 31), none, (.k (.mov (.t 0)))⟩, ⟨(some 32), none, (.call false (.c (.fn (.func 12) [] [])) [(.t 31)])⟩, ⟨(some 30), none, (.k (.mov (.t 32)))⟩, ⟨(some 33), none, (.k (.ext (.t 30) 0))⟩, ⟨(some 34), none, (.k (.ext (.t 30) 1))⟩, ⟨(some 8), none, (.k (.mov (.t 33)))⟩, ⟨(some 9), none, (.k (.mov (.t 34)))⟩]) BoxPlaces_5)
def BoxPlaces_3 : AC := (.seq (.ops [⟨(some 21), none, (.k (.mov (.t 0)))⟩, ⟨(some 22), none, (.k (.len (.t 21)))⟩, ⟨(some 23), none, (.k (.bin .gtr (.t 22) (.c (.sc (.int .i64 20)))))⟩, ⟨(some 24), none, (.k (.mov (.t 23)))⟩, ⟨(some 25), (some (24, false)), (.k (.mov (.t 1)))⟩, ⟨(some 26), (some (24, false)), (.k (.len (.t 25)))⟩, ⟨(some 27), (some (24, false)), (.k (.bin .gtr (.t 26) (.c (.sc (.int .i64 20)))))⟩, ⟨(some 28), none, (.k (.pick (.t 24) (.c (.sc (.bool true))) (.t 27)))⟩]) (.cond (.t 28) (.seq (.ops [⟨(some 29), none, (.k (.mov (.t 7)))⟩, ⟨(some 6), none, (.k (.mov (.t 29)))⟩]) .ret) .skip))
def BoxPlaces_2 : AC := (.seq BoxPlaces_3 BoxPlaces_4)
def BoxPlaces_1 : AC := (.seq (.ops [⟨(some 20), none, (.call false (.c (.fn (.func 11) [] [])) [])⟩, ⟨(some 7), none, (.k (.mov (.t 20)))⟩]) BoxPlaces_2)
def BoxPlaces_ac : AC := (.seq (.ops [⟨(some 6), none, (.k (.mov (.c (.sc (.bool false)))))⟩]) BoxPlaces_1)
theorem BoxPlaces_call {args : List AV} {H : List AObj} {R : AV → List AObj → Prop} (h : AWp Try.prog [] H.length BoxPlaces_ac (bodyQ H.length [(.t 6)] R) (args ++ List.replicate (95 - args.length) .und) H) : ACalls Try.prog 4 args H R :=
  ACalls.of_fn Try.func4 rfl (by kernel_rfl) rfl Try.ntmps4 h

set_option maxHeartbeats 4000000 in
theorem BoxPlaces_spec {a b : AV} {xs cs : List Int} {n : Int} (ha : ISl a xs) (hb : ISl b cs) (hn1 : -9223372036854775808 ≤ n) (hn2 : n ≤ 9223372036854775807) :
    ACalls Try.prog 4 [a, b, I n] [] fun r H' => H' = [] ∧ r = Bo true := by
  have ha' := ha
  have hb' := hb
  obtain ⟨⟨nl5, c5, z5, rfl, _⟩, _⟩ := ha
  obtain ⟨⟨nl6, c6, z6, rfl, _⟩, _⟩ := hb
  refine ACalls.res 0 ?_ (fun _ => rfl)
  apply BoxPlaces_call
  repeat first | refine AWp.seq ?_ | refine AWp.block ?_
  refine AWp.ops ?_
  simp
  repeat first | refine AWp.seq ?_ | refine AWp.block ?_
  refine AWp.ops ?_
  simp
  refine (live_spec.pure (by simp) (by rintro r rfl; simp) _).mono ?_
  rintro r H' ⟨rfl, rfl⟩
  simp
  by_cases h2 : xs.length ≤ 20
  · have g2 : ¬ 20 < (xs.length : Int) := by omega
    have g2' : (xs.length : Int) ≤ 20 := by omega
    by_cases h3 : cs.length ≤ 20
    · have g3 : ¬ 20 < (cs.length : Int) := by omega
      have g3' : (cs.length : Int) ≤ 20 := by omega
      repeat first | refine AWp.seq ?_ | refine AWp.block ?_
      refine AWp.ops ?_
      simp [g2, g2', g3, g3']
      refine AWp.cond (b := false) (by simp) (fun h => by cases h) (fun _ => ?_)
      refine AWp.skip ?_
      simp only [qSeq]
      repeat first | refine AWp.seq ?_ | refine AWp.block ?_
      refine AWp.ops ?_
      simp
      refine ((Cells_spec ha').pure (by simp) (by rintro r rfl; simp) _).mono ?_
      rintro r H' ⟨rfl, rfl⟩
      simp
      repeat first | refine AWp.seq ?_ | refine AWp.block ?_
      refine AWp.ops ?_
      simp
      refine ((rCells_spec ha').pure (by simp) (by rintro r rfl; simp) _).mono ?_
      rintro r H' ⟨rfl, rfl⟩
      simp
      repeat first | refine AWp.seq ?_ | refine AWp.block ?_
      refine AWp.ops ?_
      simp
      refine ((At_spec ha' hb').pure (by simp) (by rintro r rfl; simp) _).mono ?_
      rintro r H' ⟨rfl, rfl⟩
      simp
      repeat first | refine AWp.seq ?_ | refine AWp.block ?_
      refine AWp.ops ?_
      simp
      refine ((rAt_spec ha' hb').pure (by simp) (by rintro r rfl; simp) _).mono ?_
      rintro r H' ⟨rfl, rfl⟩
      simp
      repeat first | refine AWp.seq ?_ | refine AWp.block ?_
      refine AWp.ops ?_
      simp
      refine ((Coord_pure ha' hn1 hn2).pure (by simp) (by rintro r ⟨s, rfl, h⟩; simp [h.noRef]) _).mono ?_
      rintro r H' ⟨rfl, s1, rfl, hs1⟩
      have hs1' := hs1
      obtain ⟨⟨nl7, c7, z7, rfl, _⟩, _⟩ := hs1
      simp
      repeat first | refine AWp.seq ?_ | refine AWp.block ?_
      refine AWp.ops ?_
      simp
      refine ((rCoord_spec ha' hn1 hn2).pure (by simp) (by rintro r ⟨s, rfl, h⟩; simp [h.noRef]) _).mono ?_
      rintro r H' ⟨rfl, s2, rfl, hs2⟩
      have hs2' := hs2
      obtain ⟨⟨nl8, c8, z8, rfl, _⟩, _⟩ := hs2
      simp
      repeat first | refine AWp.seq ?_ | refine AWp.block ?_
      refine AWp.ops ?_
      simp
      refine ((rEqual_spec hs1' hs2').pure (by simp) (by rintro r rfl; simp) _).mono ?_
      rintro r H' ⟨rfl, rfl⟩
      simp
      refine AWp.ret ?_
      simp
      refine retOk.of rfl ?_
      simp
    · have g3 : 20 < (cs.length : Int) := by omega
      have g3' : ¬ (cs.length : Int) ≤ 20 := by omega
      repeat first | refine AWp.seq ?_ | refine AWp.block ?_
      refine AWp.ops ?_
      simp [g2, g2', g3, g3']
      refine AWp.cond (b := true) (by simp) (fun _ => ?_) (fun h => by cases h)
      repeat first | refine AWp.seq ?_ | refine AWp.block ?_
      refine AWp.ops ?_
      simp
      refine AWp.ret ?_
      simp
      refine retOk.of rfl ?_
      rfl
  · have g2 : 20 < (xs.length : Int) := by omega
    have g2' : ¬ (xs.length : Int) ≤ 20 := by omega
    repeat first | refine AWp.seq ?_ | refine AWp.block ?_
    refine AWp.ops ?_
    simp [g2, g2']
    refine AWp.cond (b := true) (by simp) (fun _ => ?_) (fun h => by cases h)
    repeat first | refine AWp.seq ?_ | refine AWp.block ?_
    refine AWp.ops ?_
    simp
    refine AWp.ret ?_
    simp
    refine retOk.of rfl ?_
    rfl
end Go.Fw
