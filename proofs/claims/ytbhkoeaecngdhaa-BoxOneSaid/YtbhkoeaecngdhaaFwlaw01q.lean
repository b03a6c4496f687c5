import Derived.Test.YtbhkoeaecngdhaaFwlaw01p
import Derived.Test.YtbhkoeaecngdhaaFwnext1
namespace Go.Fw
open Go Go.RowKit Go.Proofs
set_option maxRecDepth 100000
set_option linter.unusedSimpArgs false
set_option linter.unusedVariables false

def BoxOne_42 : AC := (.seq (.ops [⟨(some 142), none, (.k (.mov (.t 5)))⟩, ⟨(some 143), none, (.k (.mov (.t 142)))⟩, ⟨(some 144), (some (143, true)), (.k (.mov (.t 8)))⟩, ⟨(some 145), (some (143, true)), (.k (.mov (.t 16)))⟩, ⟨(some 146), (some (143, true)), (.call false (.c (.fn (.func 18) [] [])) [(.t 144), (.t 145)])⟩, ⟨(some 147), none, (.k (.pick (.t 143) (.t 146) (.c (.sc (.bool false)))))⟩, ⟨(some 4), none, (.k (.mov (.t 147)))⟩]) .ret)
def BoxOne_41 : AC := (.seq (.ops [⟨(some 133), none, (.k (.mov (.t 8)))⟩, ⟨(some 134), none, (.k (.mov (.t 18)))⟩, ⟨(some 135), none, (.k (.iad 1 (.t 133) (.t 134)))⟩, ⟨(some 136), none, (.k (.ld 1 false (.t 135)))⟩, ⟨(some 137), none, (.k (.bin .add (.t 136) (.c (.sc (.int .i64 1)))))⟩, ⟨(some 138), none, (.k (.iad 1 (.t 133) (.t 134)))⟩, ⟨none, none, (.k (.st 1 (.t 138) (.t 137)))⟩]) (.exit 2))
def BoxOne_40 : AC := (.cond (.t 132) BoxOne_41 .skip)
def BoxOne_39 : AC := (.seq (.ops [⟨(some 123), none, (.k (.mov (.t 8)))⟩, ⟨(some 124), none, (.k (.mov (.t 18)))⟩, ⟨(some 125), none, (.k (.iad 1 (.t 123) (.t 124)))⟩, ⟨(some 126), none, (.k (.ld 1 false (.t 125)))⟩, ⟨(some 127), none, (.k (.bin .add (.t 126) (.c (.sc (.int .i64 1)))))⟩, ⟨(some 128), none, (.k (.mov (.t 0)))⟩, ⟨(some 129), none, (.k (.mov (.t 18)))⟩, ⟨(some 130), none, (.k (.iad 1 (.t 128) (.t 129)))⟩, ⟨(some 131), none, (.k (.ld 1 false (.t 130)))⟩, ⟨(some 132), none, (.k (.bin .lss (.t 127) (.t 131)))⟩]) BoxOne_40)
def BoxOne_38 : AC := (.seq BoxOne_39 (.ops [⟨(some 139), none, (.k (.mov (.t 8)))⟩, ⟨(some 140), none, (.k (.mov (.t 18)))⟩, ⟨(some 141), none, (.k (.iad 1 (.t 139) (.t 140)))⟩, ⟨none, none, (.k (.st 1 (.t 141) (.c (.sc (.int .i64 0)))))⟩]))
def BoxOne_37 : AC := (.block 3 BoxOne_38)
def BoxOne_36 : AC := (.seq BoxOne_37 (.ops [⟨(some 121), none, (.k (.mov (.t 18)))⟩, ⟨(some 122), none, (.k (.bin .sub (.t 121) (.c (.sc (.int .i64 1)))))⟩, ⟨(some 18), none, (.k (.mov (.t 122)))⟩]))
def BoxOne_35 : AC := (.seq (.ops [⟨(some 119), none, (.k (.mov (.t 18)))⟩, ⟨(some 120), none, (.k (.bin .geq (.t 119) (.c (.sc (.int .i64 0)))))⟩]) (.cond (.t 120) .skip (.exit 2)))
def BoxOne_34 : AC := (.seq BoxOne_35 BoxOne_36)
def BoxOne_33 : AC := (.loop BoxOne_34)
def BoxOne_32 : AC := (.block 2 BoxOne_33)
def BoxOne_31 : AC := (.seq (.ops [⟨(some 116), none, (.k (.mov (.t 8)))⟩, ⟨(some 117), none, (.k (.len (.t 116)))⟩, ⟨(some 118), none, (.k (.bin .sub (.t 117) (.c (.sc (.int .i64 1)))))⟩, ⟨(some 18), none, (.k (.mov (.t 118)))⟩]) BoxOne_32)
def BoxOne_30 : AC := (.seq BoxOne_31 BoxOne_42)
def BoxOne_29 : AC := (.seq (.ops [⟨(some 114), none, (.k (.mov (.t 17)))⟩, ⟨(some 115), none, (.k (.bin .neq (.t 114) (.c (.sc (.int .i64 0)))))⟩]) (.cond (.t 115) (.seq (.ops [⟨(some 4), none, (.k (.mov (.c (.sc (.bool false)))))⟩]) .ret) .skip))
def BoxOne_28 : AC := (.seq BoxOne_29 BoxOne_30)
def BoxOne_27 : AC := (.seq (.ops [⟨(some 108), none, (.k (.mov (.t 0)))⟩, ⟨(some 109), none, (.k (.mov (.t 1)))⟩, ⟨(some 110), none, (.k (.bin .add (.t 109) (.c (.sc (.int .i64 1)))))⟩, ⟨(some 111), none, (.call false (.c (.fn (.func 16) [] [])) [(.t 108), (.t 110)])⟩, ⟨(some 107), none, (.k (.mov (.t 111)))⟩, ⟨(some 112), none, (.k (.ext (.t 107) 0))⟩, ⟨(some 113), none, (.k (.ext (.t 107) 1))⟩, ⟨(some 16), none, (.k (.mov (.t 112)))⟩, ⟨(some 17), none, (.k (.mov (.t 113)))⟩]) BoxOne_28)
def BoxOne_26 : AC := (.seq (.ops [⟨(some 102), none, (.k (.mov (.t 5)))⟩, ⟨(some 103), none, (.k (.mov (.t 102)))⟩, ⟨(some 104), (some (103, true)), (.k (.mov (.t 15)))⟩, ⟨(some 105), (some (103, true)), (.k (.bin .eql (.t 104) (.c (.sc (.int .i64 3)))))⟩, ⟨(some 106), none, (.k (.pick (.t 103) (.t 105) (.c (.sc (.bool false)))))⟩, ⟨(some 4), none, (.k (.mov (.t 106)))⟩]) .ret)
def BoxOne_25 : AC := (.seq (.ops [⟨(some 96), none, (.k (.mov (.t 0)))⟩, ⟨(some 97), none, (.k (.mov (.t 1)))⟩, ⟨(some 98), none, (.k (.bin .add (.t 97) (.c (.sc (.int .i64 1)))))⟩, ⟨(some 99), none, (.call false (.c (.fn (.func 16) [] [])) [(.t 96), (.t 98)])⟩, ⟨(some 95), none, (.k (.mov (.t 99)))⟩, ⟨(some 100), none, (.k (.ext (.t 95) 0))⟩, ⟨(some 101), none, (.k (.ext (.t 95) 1))⟩, ⟨(some 14), none, (.k (.mov (.t 100)))⟩, ⟨(some 15), none, (.k (.mov (.t 101)))⟩]) BoxOne_26)
def BoxOne_24 : AC := (.cond (.t 94) BoxOne_25 .skip)
def BoxOne_23 : AC := (.seq (.ops [⟨(some 91), none, (.k (.mov (.t 1)))⟩, ⟨(some 92), none, (.k (.bin .add (.t 91) (.c (.sc (.int .i64 1)))))⟩, ⟨(some 93), none, (.k (.mov (.t 6)))⟩, ⟨(some 94), none, (.k (.bin .eql (.t 92) (.t 93)))⟩]) BoxOne_24)
def BoxOne_22 : AC := (.seq BoxOne_23 BoxOne_27)
def BoxOne_21 : AC := (.seq (.ops [⟨(some 80), none, (.k (.mov (.t 13)))⟩, ⟨(some 81), none, (.k (.bin .lss (.t 80) (.c (.sc (.int .i64 0)))))⟩, ⟨(some 82), none, (.k (.mov (.t 81)))⟩, ⟨(some 83), (some (82, false)), (.k (.mov (.t 13)))⟩, ⟨(some 84), (some (82, false)), (.k (.mov (.t 0)))⟩, ⟨(some 85), (some (82, false)), (.k (.mov (.t 12)))⟩, ⟨(some 86), (some (82, false)), (.k (.iad 1 (.t 84) (.t 85)))⟩, ⟨(some 87), (some (82, false)), (.k (.ld 1 false (.t 86)))⟩, ⟨(some 88), (some (82, false)), (.k (.bin .geq (.t 83) (.t 87)))⟩, ⟨(some 89), none, (.k (.pick (.t 82) (.c (.sc (.bool true))) (.t 88)))⟩]) (.cond (.t 89) (.seq (.ops [⟨(some 4), none, (.k (.mov (.c (.sc (.bool false)))))⟩]) .ret) .skip))
def BoxOne_20 : AC := (.seq (.ops [⟨(some 77), none, (.k (.mov (.t 75)))⟩, ⟨(some 78), none, (.k (.iad 1 (.t 73) (.t 75)))⟩, ⟨(some 79), none, (.k (.ld 1 false (.t 78)))⟩, ⟨(some 12), none, (.k (.mov (.t 77)))⟩, ⟨(some 13), none, (.k (.mov (.t 79)))⟩]) BoxOne_21)
def BoxOne_19 : AC := (.block 1 BoxOne_20)
def BoxOne_18 : AC := (.seq BoxOne_19 (.ops [⟨(some 90), none, (.k (.bin .add (.t 75) (.c (.sc (.int .i64 1)))))⟩, ⟨(some 75), none, (.k (.mov (.t 90)))⟩]))
def BoxOne_17 : AC := (.seq (.cond (.t 76) .skip (.exit 0)) BoxOne_18)
def BoxOne_16 : AC := (.seq (.ops [⟨(some 76), none, (.k (.bin .lss (.t 75) (.t 74)))⟩]) BoxOne_17)
def BoxOne_15 : AC := (.loop BoxOne_16)
def BoxOne_14 : AC := (.block 0 BoxOne_15)
def BoxOne_13 : AC := (.seq (.ops [⟨(some 73), none, (.k (.mov (.t 8)))⟩, ⟨(some 74), none, (.k (.len (.t 73)))⟩, ⟨(some 75), none, (.k (.mov (.c (.sc (.int .i64 0)))))⟩]) BoxOne_14)
def BoxOne_12 : AC := (.seq BoxOne_13 BoxOne_22)
def BoxOne_11 : AC := (.seq (.ops [⟨(some 55), none, (.k (.mov (.t 9)))⟩, ⟨(some 56), none, (.k (.bin .neq (.t 55) (.c (.sc (.int .i64 0)))))⟩, ⟨(some 57), none, (.k (.mov (.t 56)))⟩, ⟨(some 58), (some (57, false)), (.k (.mov (.t 11)))⟩, ⟨(some 59), (some (57, false)), (.k (.bin .neq (.t 58) (.c (.sc (.int .i64 0)))))⟩, ⟨(some 60), none, (.k (.pick (.t 57) (.c (.sc (.bool true))) (.t 59)))⟩, ⟨(some 61), none, (.k (.mov (.t 60)))⟩, ⟨(some 62), (some (61, false)), (.k (.mov (.t 10)))⟩, ⟨(some 63), (some (61, false)), (.k (.mov (.t 1)))⟩, ⟨(some 64), (some (61, false)), (.k (.bin .neq (.t 62) (.t 63)))⟩, ⟨(some 65), none, (.k (.pick (.t 61) (.c (.sc (.bool true))) (.t 64)))⟩, ⟨(some 66), none, (.k (.mov (.t 65)))⟩, ⟨(some 67), (some (66, false)), (.k (.mov (.t 8)))⟩, ⟨(some 68), (some (66, false)), (.k (.len (.t 67)))⟩, ⟨(some 69), (some (66, false)), (.k (.mov (.t 0)))⟩, ⟨(some 70), (some (66, false)), (.k (.len (.t 69)))⟩, ⟨(some 71), (some (66, false)), (.k (.bin .neq (.t 68) (.t 70)))⟩, ⟨(some 72), none, (.k (.pick (.t 66) (.c (.sc (.bool true))) (.t 71)))⟩]) (.cond (.t 72) (.seq (.ops [⟨(some 4), none, (.k (.mov (.c (.sc (.bool false)))))⟩]) .ret) .skip))
def BoxOne_10 : AC := (.seq BoxOne_11 BoxOne_12)
def BoxOne_9 : AC := (.seq (.ops [⟨(some 50), none, (.k (.mov (.t 0)))⟩, ⟨(some 51), none, (.k (.mov (.t 8)))⟩, ⟨(some 52), none, (.call false (.c (.fn (.func 13) [] [])) [(.t 50), (.t 51)])⟩, ⟨(some 49), none, (.k (.mov (.t 52)))⟩, ⟨(some 53), none, (.k (.ext (.t 49) 0))⟩, ⟨(some 54), none, (.k (.ext (.t 49) 1))⟩, ⟨(some 10), none, (.k (.mov (.t 53)))⟩, ⟨(some 11), none, (.k (.mov (.t 54)))⟩]) BoxOne_10)
def BoxOne_8 : AC := (.seq (.ops [⟨(some 44), none, (.k (.mov (.t 0)))⟩, ⟨(some 45), none, (.k (.mov (.t 1)))⟩, ⟨(some 46), none, (.call false (.c (.fn (.func 16) [] [])) [(.t 44), (.t 45)])⟩, ⟨(some 43), none, (.k (.mov (.t 46)))⟩, ⟨(some 47), none, (.k (.ext (.t 43) 0))⟩, ⟨(some 48), none, (.k (.ext (.t 43) 1))⟩, ⟨(some 8), none, (.k (.mov (.t 47)))⟩, ⟨(some 9), none, (.k (.mov (.t 48)))⟩]) BoxOne_9)
def BoxOne_7 : AC := (.seq (.ops [⟨(some 36), none, (.k (.mov (.t 1)))⟩, ⟨(some 37), none, (.k (.mov (.t 6)))⟩, ⟨(some 38), none, (.k (.bin .rem (.t 36) (.t 37)))⟩, ⟨(some 39), none, (.k (.mov (.t 6)))⟩, ⟨(some 40), none, (.k (.bin .add (.t 38) (.t 39)))⟩, ⟨(some 41), none, (.k (.mov (.t 6)))⟩, ⟨(some 42), none, (.k (.bin .rem (.t 40) (.t 41)))⟩, ⟨(some 1), none, (.k (.mov (.t 42)))⟩]) BoxOne_8)
def BoxOne_6 : AC := (.seq (.ops [⟨(some 31), none, (.k (.mov (.t 5)))⟩, ⟨(some 32), none, (.k (.mov (.t 31)))⟩, ⟨(some 33), (some (32, true)), (.k (.mov (.t 6)))⟩, ⟨(some 34), (some (32, true)), (.k (.bin .eql (.t 33) (.c (.sc (.int .i64 0)))))⟩, ⟨(some 35), none, (.k (.pick (.t 32) (.t 34) (.c (.sc (.bool false)))))⟩, ⟨(some 4), none, (.k (.mov (.t 35)))⟩]) .ret)
def BoxOne_5 : AC := (.cond (.t 30) BoxOne_6 .skip)
def BoxOne_4 : AC := (.seq (.ops [⟨(some 25), none, (.k (.mov (.t 7)))⟩, ⟨(some 26), none, (.k (.bin .neq (.t 25) (.c (.sc (.int .i64 0)))))⟩, ⟨(some 27), none, (.k (.mov (.t 26)))⟩, ⟨(some 28), (some (27, false)), (.k (.mov (.t 6)))⟩, ⟨(some 29), (some (27, false)), (.k (.bin .eql (.t 28) (.c (.sc (.int .i64 0)))))⟩, ⟨(some 30), none, (.k (.pick (.t 27) (.c (.sc (.bool true))) (.t 29)))⟩]) BoxOne_5)
def BoxOne_3 : AC := (.seq BoxOne_4 BoxOne_7)
def BoxOne_2 : AC := (.seq (.ops [⟨(some 21), none, (.k (.mov (.t 0)))⟩, ⟨(some 22), none, (.call false (.c (.fn (.func 12) [] [])) [(.t 21)])⟩, ⟨(some 20), none, (.k (.mov (.t 22)))⟩, ⟨(some 23), none, (.k (.ext (.t 20) 0))⟩, ⟨(some 24), none, (.k (.ext (.t 20) 1))⟩, ⟨(some 6), none, (.k (.mov (.t 23)))⟩, ⟨(some 7), none, (.k (.mov (.t 24)))⟩]) BoxOne_3)
def BoxOne_1 : AC := (.seq (.ops [⟨(some 19), none, (.call false (.c (.fn (.func 11) [] [])) [])⟩, ⟨(some 5), none, (.k (.mov (.t 19)))⟩]) BoxOne_2)
def BoxOne_ac : AC := (.seq (.ops [⟨(some 4), none, (.k (.mov (.c (.sc (.bool false)))))⟩]) BoxOne_1)
theorem BoxOne_call {args : List AV} {H : List AObj} {R : AV → List AObj → Prop} (h : AWp Try.prog [] H.length BoxOne_ac (bodyQ H.length [(.t 4)] R) (args ++ List.replicate (148 - args.length) .und) H) : ACalls Try.prog 5 args H R :=
  ACalls.of_fn Try.func5 rfl (by kernel_rfl) rfl Try.ntmps5 h

set_option maxHeartbeats 4000000 in
theorem BoxOne_spec {a : AV} {xs : List Int} {n : Int} (ha : ISl a xs) (hn1 : -9223372036854775808 ≤ n) (hn2 : n ≤ 9223372036854775807) :
    ACalls Try.prog 5 [a, I n] [] fun r H' => H' = [] ∧ r = Bo true := by
  have ha' := ha
  obtain ⟨⟨nl, c, sz, rfl, hs⟩, hlen, hx⟩ := ha
  refine ACalls.res 0 ?_ (fun _ => rfl)
  apply BoxOne_call
  repeat first | refine AWp.seq ?_ | refine AWp.block ?_
  refine AWp.ops ?_
  simp
  repeat first | refine AWp.seq ?_ | refine AWp.block ?_
  refine AWp.ops ?_
  simp
  refine (live_spec.pure (by simp) (by rintro r rfl; simp) _).mono ?_
  rintro r H' ⟨rfl, rfl⟩
  simp
  repeat first | refine AWp.seq ?_ | refine AWp.block ?_
  refine AWp.ops ?_
  simp
  refine ((Cells_spec ha').pure (by simp) (by rintro r rfl; simp) _).mono ?_
  rintro r H' ⟨rfl, rfl⟩
  simp
  by_cases h0 : (cells xs).2 = 0 ∧ (cells xs).1 ≠ 0
  · obtain ⟨he, hne⟩ := h0
    have hpos := cells_nonneg xs
    obtain ⟨hx1, hprd⟩ := cells_nz he (by omega)
    have hl4 := cells_len he
    have hM := cells_lt he (by omega)
    obtain ⟨M, hMd⟩ : ∃ M, M = (cells xs).1 := ⟨_, rfl⟩
    rw [← hMd] at hne hpos hprd hM
    rw [← hMd]
    have w1 : IntKind.i64.wrap (n.tmod M + M) = n.tmod M + M := by
      have := Int.tmod_lt_of_pos n (b := M) (by omega)
      have := Int.lt_tmod_of_pos n (b := M) (by omega)
      exact wrap_i64 (by omega) (by omega)
    obtain ⟨k, hk⟩ : ∃ k, k = (n.tmod M + M).tmod M := ⟨_, rfl⟩
    have k0 : 0 ≤ k := by
      have := Int.lt_tmod_of_pos n (b := M) (by omega)
      rw [hk]; exact Int.tmod_nonneg _ (by omega)
    have k1 : k < M := by rw [hk]; exact Int.tmod_lt_of_pos _ (by omega)
    repeat first | refine AWp.seq ?_ | refine AWp.block ?_
    refine AWp.ops ?_
    simp [he, hne]
    refine AWp.cond (b := false) (by simp [hne]) (fun h => by cases h) (fun _ => ?_)
    refine AWp.skip ?_
    simp only [qSeq]
    repeat first | refine AWp.seq ?_ | refine AWp.block ?_
    refine AWp.ops ?_
    simp [hne, w1]
    rw [← hk]
    have eF : coordF xs k = (placeF xs k, 0) := by
      have h1' : ¬ k < 0 := by omega
      have h2' : ¬ M ≤ k := by omega
      simp [coordF, he, h1', ← hMd, h2']
    have eA : atF xs (placeF xs k) = (k, 0) := at_place he k0 (by omega)
    have hin := (coordF_in (n := k) ha' (by omega) (by rw [eF])).2.2.2.2.2.2
    have hpl := placeF_len xs k
    have hbd : ∀ i (h : i < (placeF xs k).length) (h' : i < xs.length), 0 ≤ (placeF xs k)[i] ∧ (placeF xs k)[i] < xs[i] := fun i h h' => placeF_bd hx1 i h h'
    repeat first | refine AWp.seq ?_ | refine AWp.block ?_
    refine AWp.ops ?_
    simp
    refine (Coord_base ha' (n := k) (by omega) (by omega)).mono ?_
    rintro r H' (⟨h, _, _⟩ | ⟨_, o1, o2, rfl, rfl⟩)
    · rw [eF] at h; exact absurd rfl h
    rw [eF]
    simp only
    obtain ⟨ps, hps⟩ : ∃ ps, ps = placeF xs k := ⟨_, rfl⟩
    rw [← hps] at hpl hin hbd eA
    rw [← hps, hpl]
    simp
    repeat first | refine AWp.seq ?_ | refine AWp.block ?_
    refine AWp.ops ?_
    simp
    have hpI : ISl (.imm false none 1 (ps.map I)) ps := ISl.of (xs := ps) _ (by omega) hin
    refine (ACalls.pureLent 1 (R := fun r => r = .tup [I k, I 0]) ?_ (by rintro r rfl s; simp)).mono ?_
    · have := At_spec ha' hpI
      rw [eA] at this
      simp [hpl]
      exact this
    rintro r H' ⟨rfl, rfl⟩
    simp
    repeat first | refine AWp.seq ?_ | refine AWp.block ?_
    refine AWp.ops ?_
    simp
    refine AWp.cond (b := false) (by simp) (fun h => by cases h) (fun _ => ?_)
    refine AWp.skip ?_
    simp only [qSeq]
    repeat first | refine AWp.seq ?_ | refine AWp.block ?_
    refine AWp.ops ?_
    simp
    obtain ⟨J, hJ⟩ : ∃ J : Nat → List AV → List AObj → Prop, J = fun i fr H => i ≤ xs.length ∧ (True) ∧ H = [o1, ⟨3, 1, ps.map I, true, none⟩, o2] ∧
      fr = [.imm nl c sz (xs.map I), I k, .und, .und, Bo false, Bo true, I M, .und, .slc 1 xs.length 0 xs.length none, .und, .und, .und, .und, .und, .und, .und, .und, .und, .und, .und, .und, .und, .und, .und, .und, .und, .und, .und, .und, .und, .und, .und, .und, .und, .und, .und, .und, .und, .und, .und, .und, .und, .und, .und, .und, .und, .und, .und, .und, .und, .und, .und, .und, .und, .und, .und, .und, .und, .und, .und, .und, .und, .und, .und, .und, .und, .und, .und, .und, .und, .und, .und, .und, .slc 1 xs.length 0 xs.length none, I xs.length, I i, .und, .und, .und, .und, .und, .und, .und, .und, .und, .und, .und, .und, .und, .und, .und, .und, .und, .und, .und, .und, .und, .und, .und, .und, .und, .und, .und, .und, .und, .und, .und, .und, .und, .und, .und, .und, .und, .und, .und, .und, .und, .und, .und, .und, .und, .und, .und, .und, .und, .und, .und, .und, .und, .und, .und, .und, .und, .und, .und, .und, .und, .und, .und, .und, .und, .und, .und, .und, .und, .und, .und, .und] := ⟨_, rfl⟩
    refine AWp.block (AWp.loop J (fun i => xs.length - i) 0 (Weak.slots [0, 1, 4, 5, 6, 8, 73, 74, 75]) (by rw [hJ]; exact ⟨by omega, trivial, by simp, by simp⟩) ?_)
    intro i fr H hI
    rw [hJ] at hI
    obtain ⟨hi, hinv, rfl, rfl⟩ := hI
    repeat first | refine AWp.seq ?_ | refine AWp.block ?_
    refine AWp.ops ?_
    simp
    refine AWp.seq (AWp.cond (b := decide (i < xs.length)) (by simp <;> omega) ?_ ?_)
    ·
      intro hb
      have hb : i < xs.length := by simpa using hb
      refine AWp.skip ?_
      simp only [qSeq]
      have hb2 : i < ps.length := by omega
      have hsz := sz_of hs hb
      subst hsz
      obtain ⟨b0, b1⟩ := hbd i hb2 hb
      have b2 : ¬ ps[i] < 0 := by omega
      have b3 : ¬ xs[i] ≤ ps[i] := by omega
      repeat first | refine AWp.seq ?_ | refine AWp.block ?_
      refine AWp.ops ?_
      simp [hb, hb2, hpl]
      repeat first | refine AWp.seq ?_ | refine AWp.block ?_
      refine AWp.ops ?_
      simp [hb, hb2, hpl, b0, b1, b2, b3]
      refine AWp.cond (b := false) (by simp) (fun h => by cases h) (fun _ => ?_)
      refine AWp.skip ?_
      simp only [qSeq, qBlock]
      repeat first | refine AWp.seq ?_ | refine AWp.block ?_
      refine AWp.ops ?_
      simp
      refine ⟨i + 1, _, _, Weak.slots [0, 1, 4, 5, 6, 8, 73, 74, 75], ?_, by omega⟩
      rw [hJ]
      refine ⟨by omega, ?_, by simp, by simp [wrap_i64 (n := (i : Int) + 1) (by omega) (by omega)]⟩
      trivial
    ·
      intro hb
      have hb : ¬ i < xs.length := by simpa using hb
      refine AWp.exit ?_
      simp [qSeq, qBlock]
      have w2 : IntKind.i64.wrap (k + 1) = k + 1 := wrap_i64 (by omega) (by omega)
      repeat first | refine AWp.seq ?_ | refine AWp.block ?_
      refine AWp.ops ?_
      simp [w2]
      refine AWp.cond (b := (k + 1 == M)) (by simp) ?_ ?_
      · intro h
        have h : k + 1 = M := by simpa using h
        have eF2 : coordF xs (k + 1) = ([], 3) := by
          have h1' : ¬ k + 1 < 0 := by omega
          have h2' : M ≤ k + 1 := by omega
          simp [coordF, he, h1', ← hMd, h2']
        repeat first | refine AWp.seq ?_ | refine AWp.block ?_
        refine AWp.ops ?_
        simp [w2]
        refine ((Coord_pure ha' (n := k + 1) (by omega) (by omega)).pure (by simp) (by rintro r ⟨s, rfl, h⟩; simp [h.noRef]) _).mono ?_
        rintro r H' ⟨rfl, s1, rfl, hs1⟩
        have hs1' := hs1
        obtain ⟨⟨nl7, c7, z7, rfl, _⟩, _⟩ := hs1
        rw [eF2]
        simp
        repeat first | refine AWp.seq ?_ | refine AWp.block ?_
        refine AWp.ops ?_
        simp
        refine AWp.ret ?_
        simp
        refine retOk.of rfl ?_
        rfl
      intro h
      have h : k + 1 < M := by
        have : ¬ k + 1 = M := by simpa using h
        omega
      have eF2 : coordF xs (k + 1) = (placeF xs (k + 1), 0) := by
        have h1' : ¬ k + 1 < 0 := by omega
        have h2' : ¬ M ≤ k + 1 := by omega
        simp [coordF, he, h1', ← hMd, h2']
      refine AWp.skip ?_
      simp only [qSeq]
      repeat first | refine AWp.seq ?_ | refine AWp.block ?_
      refine AWp.ops ?_
      simp [w2]
      refine ((Coord_pure ha' (n := k + 1) (by omega) (by omega)).pure (by simp) (by rintro r ⟨s, rfl, h⟩; simp [h.noRef]) _).mono ?_
      rintro r H' ⟨rfl, s1, rfl, hs1⟩
      rw [eF2] at hs1 ⊢
      simp only at hs1
      have hs1' := hs1
      obtain ⟨⟨nl7, c7, z7, rfl, _⟩, _⟩ := hs1
      simp
      repeat first | refine AWp.seq ?_ | refine AWp.block ?_
      refine AWp.ops ?_
      simp
      refine AWp.cond (b := false) (by simp) (fun h => by cases h) (fun _ => ?_)
      refine AWp.skip ?_
      simp only [qSeq]
      have hwl : IntKind.i64.wrap ((xs.length : Int) - 1) = (xs.length : Int) - 1 := wrap_i64 (by omega) (by omega)
      repeat first | refine AWp.seq ?_ | refine AWp.block ?_
      refine AWp.ops ?_
      simp [hwl]
      obtain ⟨J2, hJ2⟩ : ∃ J2 : Nat → List AV → List AObj → Prop, J2 = fun j fr H => j ≤ xs.length ∧ ∃ ws : List Int, NextI xs k j ws ∧ H = [o1, ⟨3, 1, ws.map I, true, none⟩, o2] ∧
        fr = [.imm nl c sz (xs.map I), .und, .und, .und, Bo false, Bo true, .und, .und, .slc 1 xs.length 0 xs.length none, .und, .und, .und, .und, .und, .und, .und, .imm nl7 c7 z7 ((placeF xs (k + 1)).map I), .und, I ((j : Int) - 1), .und, .und, .und, .und, .und, .und, .und, .und, .und, .und, .und, .und, .und, .und, .und, .und, .und, .und, .und, .und, .und, .und, .und, .und, .und, .und, .und, .und, .und, .und, .und, .und, .und, .und, .und, .und, .und, .und, .und, .und, .und, .und, .und, .und, .und, .und, .und, .und, .und, .und, .und, .und, .und, .und, .und, .und, .und, .und, .und, .und, .und, .und, .und, .und, .und, .und, .und, .und, .und, .und, .und, .und, .und, .und, .und, .und, .und, .und, .und, .und, .und, .und, .und, .und, .und, .und, .und, .und, .und, .und, .und, .und, .und, .und, .und, .und, .und, .und, .und, .und, .und, .und, .und, .und, .und, .und, .und, .und, .und, .und, .und, .und, .und, .und, .und, .und, .und, .und, .und, .und, .und, .und, .und, .und, .und, .und, .und, .und, .und] := ⟨_, rfl⟩
      refine AWp.block (AWp.loop J2 (fun j => j) xs.length (Weak.slots [0, 4, 5, 8, 16, 18]) (by
        rw [hJ2]
        exact ⟨by omega, ps, by rw [hps]; exact NextI.init xs k, by simp, by simp⟩) ?_)
      intro j fr H hI
      rw [hJ2] at hI
      obtain ⟨hj, ws, hN, rfl, rfl⟩ := hI
      have hwl1 := hN.len hj
      repeat first | refine AWp.seq ?_ | refine AWp.block ?_
      refine AWp.ops ?_
      simp
      refine AWp.cond (b := decide (0 < j)) (by simp; omega) ?_ ?_
      · intro hj0
        have hj0 : 0 < j := by simpa using hj0
        obtain ⟨i, rfl⟩ : ∃ i, j = i + 1 := ⟨j - 1, by omega⟩
        have hb : i < xs.length := by omega
        have hb2 : i < ws.length := by omega
        have hsz := sz_of hs hb
        subst hsz
        have hxi := hx1 _ (List.getElem_mem hb)
        have hxr := hx _ (List.getElem_mem hb)
        have hg := hN.get hb hb2
        have q0 := Int.emod_nonneg (k / prd (xs.drop (i + 1))) (b := xs[i]) (by omega)
        have q1 := Int.emod_lt_of_pos (k / prd (xs.drop (i + 1))) (b := xs[i]) (by omega)
        have hmore := hN.more hb hx1
        have hdone := hN.done hb hx1
        obtain ⟨q, hq⟩ : ∃ q, q = k / prd (xs.drop (i + 1)) % xs[i] := ⟨_, rfl⟩
        rw [← hq] at hg q0 q1 hmore hdone
        have w3 : IntKind.i64.wrap (q + 1) = q + 1 := wrap_i64 (by omega) (by omega)
        have d3 : IntKind.i64.wrap ((i : Int) - 1) = (i : Int) - 1 := wrap_i64 (by omega) (by omega)
        refine AWp.skip ?_
        simp only [qSeq]
        repeat first | refine AWp.seq ?_ | refine AWp.block ?_
        refine AWp.ops ?_
        simp [hb, hb2, hwl1, hg, w3]
        refine AWp.cond (b := decide (q + 1 < xs[i])) (by simp) ?_ ?_
        · intro hc
          have hc : q + 1 < xs[i] := by simpa using hc
          repeat first | refine AWp.seq ?_ | refine AWp.block ?_
          refine AWp.ops ?_
          simp [hb, hb2, hwl1, hg, w3]
          refine AWp.exit ?_
          simp [qSeq, qBlock]
          have hd := congrArg (List.map I) (hdone hc)
          rw [List.map_set] at hd
          rw [hd]
          repeat first | refine AWp.seq ?_ | refine AWp.block ?_
          refine AWp.ops ?_
          simp
          refine (ACalls.pureLent 1 (R := fun r => r = Bo true) ?_ (by rintro r rfl s; rfl)).mono ?_
          · have hp2 := placeF_len xs (k + 1)
            have := rEqual_spec (ISl.of (xs := placeF xs (k + 1)) none (by omega) hs1'.2.2) hs1'
            simp [hp2]
            simpa using this
          rintro r H' ⟨rfl, rfl⟩
          simp
          refine AWp.ret ?_
          simp
          refine retOk.of rfl ?_
          rfl
        · intro hc
          have hc : ¬ q + 1 < xs[i] := by simpa using hc
          refine AWp.skip ?_
          simp only [qSeq, qBlock]
          repeat first | refine AWp.seq ?_ | refine AWp.block ?_
          refine AWp.ops ?_
          simp [hb, hb2, hwl1]
          repeat first | refine AWp.seq ?_ | refine AWp.block ?_
          refine AWp.ops ?_
          simp [d3]
          refine ⟨i, _, _, Weak.slots [0, 4, 5, 8, 16, 18], ?_, by omega⟩
          rw [hJ2]
          exact ⟨by omega, ws.set i 0, hmore hc, by simp [List.map_set], by simp⟩
      · intro hj0
        have hj0 : j = 0 := by
          have : ¬ 0 < j := by simpa using hj0
          omega
        subst hj0
        exact (hN.never k0 (by omega)).elim
  · have hz : (cells xs).1 = 0 := by
      by_cases h1 : (cells xs).2 = 0
      · by_cases h2 : (cells xs).1 = 0
        · exact h2
        · exact absurd ⟨h1, h2⟩ h0
      · exact cells_err h1
    by_cases h1 : (cells xs).2 = 0
    ·
      repeat first | refine AWp.seq ?_ | refine AWp.block ?_
      refine AWp.ops ?_
      simp [hz, h1]
      refine AWp.cond (b := true) (by simp) (fun _ => ?_) (fun h => by cases h)
      repeat first | refine AWp.seq ?_ | refine AWp.block ?_
      refine AWp.ops ?_
      simp
      refine AWp.ret ?_
      simp
      refine retOk.of rfl ?_
      rfl
    ·
      repeat first | refine AWp.seq ?_ | refine AWp.block ?_
      refine AWp.ops ?_
      simp [hz, h1]
      refine AWp.cond (b := true) (by simp) (fun _ => ?_) (fun h => by cases h)
      repeat first | refine AWp.seq ?_ | refine AWp.block ?_
      refine AWp.ops ?_
      simp
      refine AWp.ret ?_
      simp
      refine retOk.of rfl ?_
      rfl
end Go.Fw
