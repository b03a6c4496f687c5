import Derived.Test.YtbhkoeaecngdhaaFwlaw01f
import Derived.Test.YtbhkoeaecngdhaaFwref01e
import Derived.Test.YtbhkoeaecngdhaaFwref01g
namespace Go.Fw
open Go Go.RowKit Go.Proofs
set_option maxRecDepth 100000
set_option linter.unusedSimpArgs false
set_option linter.unusedVariables false

theorem sumF_inR' {D : List Int × List Int} (hD : InR D.1) (mode : Int) : InR (sumF D mode).1.1 ∧ InR (sumF D mode).1.2 := by
  have hn : InR [] := ⟨by simp, by simp⟩
  unfold sumF
  split
  · exact ⟨hn, hn⟩
  · split
    · exact ⟨hn, hn⟩
    · split
      · exact ⟨hn, hn⟩
      · rename_i hz
        have hz : (zeroF (D.1.eraseIdx mode.toNat)).2 = 0 := by simpa using hz
        obtain ⟨_, n, hn, hn'⟩ := laid_ok (zeroF_ok hz).1
        refine ⟨⟨?_, fun x hx => hD.2 x (List.mem_of_mem_eraseIdx hx)⟩, binV_inR (by rw [hn]; omega)⟩
        have := hD.1
        rw [List.length_eraseIdx]
        split <;> omega

def BoxReckons_32 : AC := (.seq (.ops [⟨(some 133), none, (.k (.mov (.t 9)))⟩, ⟨(some 134), none, (.k (.mov (.t 133)))⟩, ⟨(some 135), (some (134, true)), (.k (.fad 0 (.t 11)))⟩, ⟨(some 136), (some (134, true)), (.k (.ld 1 false (.t 135)))⟩, ⟨(some 137), (some (134, true)), (.k (.fad 0 (.t 13)))⟩, ⟨(some 138), (some (134, true)), (.k (.ld 1 false (.t 137)))⟩, ⟨(some 139), (some (134, true)), (.call false (.c (.fn (.func 18) [] [])) [(.t 136), (.t 138)])⟩, ⟨(some 140), none, (.k (.pick (.t 134) (.t 139) (.c (.sc (.bool false)))))⟩, ⟨(some 141), none, (.k (.mov (.t 140)))⟩, ⟨(some 142), (some (141, true)), (.k (.fad 1 (.t 11)))⟩, ⟨(some 143), (some (141, true)), (.k (.ld 1 false (.t 142)))⟩, ⟨(some 144), (some (141, true)), (.k (.len (.t 143)))⟩, ⟨(some 145), (some (141, true)), (.k (.fad 1 (.t 13)))⟩, ⟨(some 146), (some (141, true)), (.k (.ld 1 false (.t 145)))⟩, ⟨(some 147), (some (141, true)), (.k (.len (.t 146)))⟩, ⟨(some 148), (some (141, true)), (.k (.bin .eql (.t 144) (.t 147)))⟩, ⟨(some 149), none, (.k (.pick (.t 141) (.t 148) (.c (.sc (.bool false)))))⟩, ⟨(some 150), none, (.k (.mov (.t 149)))⟩, ⟨(some 151), (some (150, true)), (.k (.mov (.t 12)))⟩, ⟨(some 152), (some (150, true)), (.k (.mov (.t 14)))⟩, ⟨(some 153), (some (150, true)), (.k (.bin .eql (.t 151) (.t 152)))⟩, ⟨(some 154), none, (.k (.pick (.t 150) (.t 153) (.c (.sc (.bool false)))))⟩, ⟨(some 155), none, (.k (.mov (.t 154)))⟩, ⟨(some 156), (some (155, true)), (.k (.ld 2 true (.t 4)))⟩, ⟨(some 157), (some (155, true)), (.k (.fad 0 (.t 4)))⟩, ⟨(some 158), (some (155, true)), (.k (.ld 1 false (.t 157)))⟩, ⟨(some 159), (some (155, true)), (.k (.mov (.t 10)))⟩, ⟨(some 160), (some (155, true)), (.k (.mk [(.imm true none 0 []), (.imm true none 0 [])] [(0, (1, (.t 158))), (1, (1, (.t 159)))]))⟩, ⟨(some 161), (some (155, true)), (.call false (.c (.fn (.func 24) [] [])) [(.t 156), (.t 160)])⟩, ⟨(some 162), none, (.k (.pick (.t 155) (.t 161) (.c (.sc (.bool false)))))⟩, ⟨(some 8), none, (.k (.mov (.t 162)))⟩]) .ret)
def BoxReckons_31 : AC := (.seq (.ops [⟨(some 126), none, (.k (.fad 1 (.t 11)))⟩, ⟨(some 127), none, (.k (.ld 1 false (.t 126)))⟩, ⟨(some 128), none, (.k (.mov (.t 15)))⟩, ⟨(some 129), none, (.k (.iad 1 (.t 127) (.t 128)))⟩, ⟨(some 130), none, (.k (.ld 1 false (.t 129)))⟩, ⟨(some 131), none, (.k (.bin .neq (.t 130) (.c (.sc (.int .i64 0)))))⟩]) (.cond (.t 131) (.seq (.ops [⟨(some 8), none, (.k (.mov (.c (.sc (.bool false)))))⟩]) .ret) .skip))
def BoxReckons_30 : AC := (.seq (.ops [⟨(some 114), none, (.k (.fad 1 (.t 11)))⟩, ⟨(some 115), none, (.k (.ld 1 false (.t 114)))⟩, ⟨(some 116), none, (.k (.mov (.t 15)))⟩, ⟨(some 117), none, (.k (.iad 1 (.t 115) (.t 116)))⟩, ⟨(some 118), none, (.k (.ld 1 false (.t 117)))⟩, ⟨(some 119), none, (.k (.fad 1 (.t 13)))⟩, ⟨(some 120), none, (.k (.ld 1 false (.t 119)))⟩, ⟨(some 121), none, (.k (.mov (.t 15)))⟩, ⟨(some 122), none, (.k (.iad 1 (.t 120) (.t 121)))⟩, ⟨(some 123), none, (.k (.ld 1 false (.t 122)))⟩, ⟨(some 124), none, (.k (.bin .sub (.t 118) (.t 123)))⟩, ⟨(some 125), none, (.k (.iad 1 (.t 115) (.t 116)))⟩, ⟨none, none, (.k (.st 1 (.t 125) (.t 124)))⟩]) BoxReckons_31)
def BoxReckons_29 : AC := (.seq (.ops [⟨(some 113), none, (.k (.mov (.t 111)))⟩, ⟨(some 15), none, (.k (.mov (.t 113)))⟩]) BoxReckons_30)
def BoxReckons_28 : AC := (.block 1 BoxReckons_29)
def BoxReckons_27 : AC := (.seq BoxReckons_28 (.ops [⟨(some 132), none, (.k (.bin .add (.t 111) (.c (.sc (.int .i64 1)))))⟩, ⟨(some 111), none, (.k (.mov (.t 132)))⟩]))
def BoxReckons_26 : AC := (.seq (.cond (.t 112) .skip (.exit 0)) BoxReckons_27)
def BoxReckons_25 : AC := (.seq (.ops [⟨(some 112), none, (.k (.bin .lss (.t 111) (.t 110)))⟩]) BoxReckons_26)
def BoxReckons_24 : AC := (.loop BoxReckons_25)
def BoxReckons_23 : AC := (.block 0 BoxReckons_24)
def BoxReckons_22 : AC := (.seq (.ops [⟨(some 108), none, (.k (.fad 1 (.t 11)))⟩, ⟨(some 109), none, (.k (.ld 1 false (.t 108)))⟩, ⟨(some 110), none, (.k (.len (.t 109)))⟩, ⟨(some 111), none, (.k (.mov (.c (.sc (.int .i64 0)))))⟩]) BoxReckons_23)
def BoxReckons_21 : AC := (.seq BoxReckons_22 BoxReckons_32)
def BoxReckons_20 : AC := (.seq (.ops [⟨(some 101), none, (.k (.fad 1 (.t 11)))⟩, ⟨(some 102), none, (.k (.ld 1 false (.t 101)))⟩, ⟨(some 103), none, (.k (.len (.t 102)))⟩, ⟨(some 104), none, (.k (.fad 1 (.t 13)))⟩, ⟨(some 105), none, (.k (.ld 1 false (.t 104)))⟩, ⟨(some 106), none, (.k (.len (.t 105)))⟩, ⟨(some 107), none, (.k (.bin .neq (.t 103) (.t 106)))⟩]) (.cond (.t 107) (.seq (.ops [⟨(some 8), none, (.k (.mov (.c (.sc (.bool false)))))⟩]) .ret) .skip))
def BoxReckons_19 : AC := (.seq BoxReckons_20 BoxReckons_21)
def BoxReckons_18 : AC := (.seq (.ops [⟨(some 96), none, (.k (.ld 2 true (.t 4)))⟩, ⟨(some 97), none, (.k (.mov (.t 3)))⟩, ⟨(some 98), none, (.call false (.c (.fn (.func 38) [] [])) [(.t 96), (.t 97)])⟩, ⟨(some 95), none, (.k (.mov (.t 98)))⟩, ⟨(some 99), none, (.k (.ext (.t 95) 0))⟩, ⟨(some 100), none, (.k (.ext (.t 95) 1))⟩, ⟨none, none, (.k (.st 2 (.t 13) (.t 99)))⟩, ⟨(some 14), none, (.k (.mov (.t 100)))⟩]) BoxReckons_19)
def BoxReckons_17 : AC := (.seq (.ops [⟨(some 90), none, (.k (.ld 2 true (.t 4)))⟩, ⟨(some 91), none, (.k (.mov (.t 3)))⟩, ⟨(some 92), none, (.call false (.c (.fn (.func 34) [] [])) [(.t 90), (.t 91)])⟩, ⟨(some 89), none, (.k (.mov (.t 92)))⟩, ⟨(some 93), none, (.k (.ext (.t 89) 0))⟩, ⟨(some 94), none, (.k (.ext (.t 89) 1))⟩, ⟨none, none, (.k (.st 2 (.t 11) (.t 93)))⟩, ⟨(some 12), none, (.k (.mov (.t 94)))⟩]) BoxReckons_18)
def BoxReckons_16 : AC := (.seq (.ops [⟨(some 80), none, (.k (.ld 2 true (.t 11)))⟩, ⟨(some 81), none, (.k (.ld 2 true (.t 13)))⟩, ⟨(some 82), none, (.call false (.c (.fn (.func 24) [] [])) [(.t 80), (.t 81)])⟩, ⟨(some 83), none, (.k (.un .not (.t 82)))⟩, ⟨(some 84), none, (.k (.mov (.t 83)))⟩, ⟨(some 85), (some (84, false)), (.k (.mov (.t 12)))⟩, ⟨(some 86), (some (84, false)), (.k (.mov (.t 14)))⟩, ⟨(some 87), (some (84, false)), (.k (.bin .neq (.t 85) (.t 86)))⟩, ⟨(some 88), none, (.k (.pick (.t 84) (.c (.sc (.bool true))) (.t 87)))⟩]) (.cond (.t 88) (.seq (.ops [⟨(some 8), none, (.k (.mov (.c (.sc (.bool false)))))⟩]) .ret) .skip))
def BoxReckons_15 : AC := (.seq BoxReckons_16 BoxReckons_17)
def BoxReckons_14 : AC := (.seq (.ops [⟨(some 75), none, (.k (.ld 2 true (.t 4)))⟩, ⟨(some 76), none, (.k (.mov (.t 2)))⟩, ⟨(some 77), none, (.call false (.c (.fn (.func 37) [] [])) [(.t 75), (.t 76)])⟩, ⟨(some 74), none, (.k (.mov (.t 77)))⟩, ⟨(some 78), none, (.k (.ext (.t 74) 0))⟩, ⟨(some 79), none, (.k (.ext (.t 74) 1))⟩, ⟨none, none, (.k (.st 2 (.t 13) (.t 78)))⟩, ⟨(some 14), none, (.k (.mov (.t 79)))⟩]) BoxReckons_15)
def BoxReckons_13 : AC := (.seq (.ops [⟨(some 69), none, (.k (.ld 2 true (.t 4)))⟩, ⟨(some 70), none, (.k (.mov (.t 2)))⟩, ⟨(some 71), none, (.call false (.c (.fn (.func 33) [] [])) [(.t 69), (.t 70)])⟩, ⟨(some 68), none, (.k (.mov (.t 71)))⟩, ⟨(some 72), none, (.k (.ext (.t 68) 0))⟩, ⟨(some 73), none, (.k (.ext (.t 68) 1))⟩, ⟨none, none, (.k (.st 2 (.t 11) (.t 72)))⟩, ⟨(some 12), none, (.k (.mov (.t 73)))⟩]) BoxReckons_14)
def BoxReckons_12 : AC := (.seq (.ops [⟨(some 59), none, (.k (.ld 2 true (.t 11)))⟩, ⟨(some 60), none, (.k (.ld 2 true (.t 13)))⟩, ⟨(some 61), none, (.call false (.c (.fn (.func 24) [] [])) [(.t 59), (.t 60)])⟩, ⟨(some 62), none, (.k (.un .not (.t 61)))⟩, ⟨(some 63), none, (.k (.mov (.t 62)))⟩, ⟨(some 64), (some (63, false)), (.k (.mov (.t 12)))⟩, ⟨(some 65), (some (63, false)), (.k (.mov (.t 14)))⟩, ⟨(some 66), (some (63, false)), (.k (.bin .neq (.t 64) (.t 65)))⟩, ⟨(some 67), none, (.k (.pick (.t 63) (.c (.sc (.bool true))) (.t 66)))⟩]) (.cond (.t 67) (.seq (.ops [⟨(some 8), none, (.k (.mov (.c (.sc (.bool false)))))⟩]) .ret) .skip))
def BoxReckons_11 : AC := (.seq BoxReckons_12 BoxReckons_13)
def BoxReckons_10 : AC := (.seq (.ops [⟨(some 54), none, (.k (.ld 2 true (.t 4)))⟩, ⟨(some 55), none, (.k (.ld 2 true (.t 5)))⟩, ⟨(some 56), none, (.call false (.c (.fn (.func 36) [] [])) [(.t 54), (.t 55)])⟩, ⟨(some 53), none, (.k (.mov (.t 56)))⟩, ⟨(some 57), none, (.k (.ext (.t 53) 0))⟩, ⟨(some 58), none, (.k (.ext (.t 53) 1))⟩, ⟨none, none, (.k (.st 2 (.t 13) (.t 57)))⟩, ⟨(some 14), none, (.k (.mov (.t 58)))⟩]) BoxReckons_11)
def BoxReckons_9 : AC := (.seq (.ops [⟨(some 48), none, (.k (.ld 2 true (.t 4)))⟩, ⟨(some 49), none, (.k (.ld 2 true (.t 5)))⟩, ⟨(some 50), none, (.call false (.c (.fn (.func 32) [] [])) [(.t 48), (.t 49)])⟩, ⟨(some 47), none, (.k (.mov (.t 50)))⟩, ⟨(some 51), none, (.k (.ext (.t 47) 0))⟩, ⟨(some 52), none, (.k (.ext (.t 47) 1))⟩, ⟨none, none, (.k (.st 2 (.t 11) (.t 51)))⟩, ⟨(some 12), none, (.k (.mov (.t 52)))⟩]) BoxReckons_10)
def BoxReckons_8 : AC := (.seq (.ops [⟨(some 38), none, (.k (.ld 2 true (.t 11)))⟩, ⟨(some 39), none, (.k (.ld 2 true (.t 13)))⟩, ⟨(some 40), none, (.call false (.c (.fn (.func 24) [] [])) [(.t 38), (.t 39)])⟩, ⟨(some 41), none, (.k (.un .not (.t 40)))⟩, ⟨(some 42), none, (.k (.mov (.t 41)))⟩, ⟨(some 43), (some (42, false)), (.k (.mov (.t 12)))⟩, ⟨(some 44), (some (42, false)), (.k (.mov (.t 14)))⟩, ⟨(some 45), (some (42, false)), (.k (.bin .neq (.t 43) (.t 44)))⟩, ⟨(some 46), none, (.k (.pick (.t 42) (.c (.sc (.bool true))) (.t 45)))⟩]) (.cond (.t 46) (.seq (.ops [⟨(some 8), none, (.k (.mov (.c (.sc (.bool false)))))⟩]) .ret) .skip))
def BoxReckons_7 : AC := (.seq BoxReckons_8 BoxReckons_9)
def BoxReckons_6 : AC := (.seq (.ops [⟨(some 33), none, (.k (.ld 2 true (.t 4)))⟩, ⟨(some 34), none, (.k (.ld 2 true (.t 5)))⟩, ⟨(some 35), none, (.call false (.c (.fn (.func 35) [] [])) [(.t 33), (.t 34)])⟩, ⟨(some 32), none, (.k (.mov (.t 35)))⟩, ⟨(some 36), none, (.k (.ext (.t 32) 0))⟩, ⟨(some 37), none, (.k (.ext (.t 32) 1))⟩, ⟨(some 13), none, (.k (.new 35 2 (.c (.agg [(.imm true none 0 []), (.imm true none 0 [])]))))⟩, ⟨none, none, (.k (.st 2 (.t 13) (.t 36)))⟩, ⟨(some 14), none, (.k (.mov (.t 37)))⟩]) BoxReckons_7)
def BoxReckons_5 : AC := (.seq (.ops [⟨(some 27), none, (.k (.ld 2 true (.t 4)))⟩, ⟨(some 28), none, (.k (.ld 2 true (.t 5)))⟩, ⟨(some 29), none, (.call false (.c (.fn (.func 30) [] [])) [(.t 27), (.t 28)])⟩, ⟨(some 26), none, (.k (.mov (.t 29)))⟩, ⟨(some 30), none, (.k (.ext (.t 26) 0))⟩, ⟨(some 31), none, (.k (.ext (.t 26) 1))⟩, ⟨(some 11), none, (.k (.new 35 2 (.c (.agg [(.imm true none 0 []), (.imm true none 0 [])]))))⟩, ⟨none, none, (.k (.st 2 (.t 11) (.t 30)))⟩, ⟨(some 12), none, (.k (.mov (.t 31)))⟩]) BoxReckons_6)
def BoxReckons_4 : AC := (.seq (.ops [⟨(some 23), none, (.k (.fad 1 (.t 4)))⟩, ⟨(some 24), none, (.k (.ld 1 false (.t 23)))⟩, ⟨(some 25), none, (.k (.app 2 1 8 (.c (.imm true none 0 [])) (.t 24)))⟩, ⟨(some 10), none, (.k (.mov (.t 25)))⟩]) BoxReckons_5)
def BoxReckons_3 : AC := (.seq (.ops [⟨(some 17), none, (.k (.ld 2 true (.t 4)))⟩, ⟨(some 18), none, (.k (.ld 2 true (.t 5)))⟩, ⟨(some 19), none, (.k (.lit 2 [(.t 17), (.t 18)]))⟩, ⟨(some 20), none, (.call false (.c (.fn (.func 19) [] [])) [(.t 19)])⟩, ⟨(some 21), none, (.k (.un .not (.t 20)))⟩]) (.cond (.t 21) (.seq (.ops [⟨(some 22), none, (.k (.mov (.t 9)))⟩, ⟨(some 8), none, (.k (.mov (.t 22)))⟩]) .ret) .skip))
def BoxReckons_2 : AC := (.seq BoxReckons_3 BoxReckons_4)
def BoxReckons_1 : AC := (.seq (.ops [⟨(some 16), none, (.call false (.c (.fn (.func 11) [] [])) [])⟩, ⟨(some 9), none, (.k (.mov (.t 16)))⟩]) BoxReckons_2)
def BoxReckons_ac : AC := (.seq (.ops [⟨(some 4), none, (.k (.new 35 2 (.t 0)))⟩, ⟨(some 5), none, (.k (.new 35 2 (.t 1)))⟩, ⟨(some 8), none, (.k (.mov (.c (.sc (.bool false)))))⟩]) BoxReckons_1)
theorem BoxReckons_call {args : List AV} {H : List AObj} {R : AV → List AObj → Prop} (h : AWp Try.prog [] H.length BoxReckons_ac (bodyQ H.length [(.t 8)] R) (args ++ List.replicate (163 - args.length) .und) H) : ACalls Try.prog 9 args H R :=
  ACalls.of_fn Try.func9 rfl (by kernel_rfl) rfl Try.ntmps9 h

set_option maxHeartbeats 8000000 in
theorem BoxReckons_spec {a b : AV} {A B : List Int × List Int} {by_ mode : Int} (ha : Dn a A) (hb : Dn b B) : ACalls Try.prog 9 [a, b, I by_, I mode] [] fun r H' => H' = [] ∧ r = Bo true := by
  have ha' := ha
  have hb' := hb
  obtain ⟨S, vs⟩ := A
  obtain ⟨bS, ys⟩ := B
  obtain ⟨s1, v1, rfl, hS, ⟨⟨nl2, c2, z2, rfl, hz2⟩, hr2⟩⟩ := ha
  obtain ⟨s2, v2, rfl, ⟨⟨nl3, c3, z3, rfl, hz3⟩, hr3⟩, ⟨⟨nl4, c4, z4, rfl, hz4⟩, hr4⟩⟩ := hb
  have hS' := hS
  obtain ⟨⟨nl1, c1, z1, rfl, hz1⟩, hr1⟩ := hS
  simp only at hz1 hr1 hz2 hr2 hz3 hr3 hz4 hr4 hS'
  refine ACalls.res 0 ?_ (fun _ => rfl)
  apply BoxReckons_call
  first | refine AWp.seq (AWp.ops ?_) | refine AWp.seq (AWp.seq (AWp.ops ?_)) | refine AWp.ops ?_ | refine AWp.seq (AWp.block (AWp.seq (AWp.ops ?_))) | refine AWp.seq (AWp.seq (AWp.seq (AWp.ops ?_)))
  simp
  first | refine AWp.seq (AWp.ops ?_) | refine AWp.seq (AWp.seq (AWp.ops ?_)) | refine AWp.ops ?_ | refine AWp.seq (AWp.block (AWp.seq (AWp.ops ?_))) | refine AWp.seq (AWp.seq (AWp.seq (AWp.ops ?_)))
  simp
  refine (live_spec.pure (by simp) (by rintro r rfl; simp) _).mono ?_
  rintro r H' ⟨rfl, rfl⟩
  simp
  first | refine AWp.seq (AWp.ops ?_) | refine AWp.seq (AWp.seq (AWp.ops ?_)) | refine AWp.ops ?_ | refine AWp.seq (AWp.block (AWp.seq (AWp.ops ?_))) | refine AWp.seq (AWp.seq (AWp.seq (AWp.ops ?_)))
  simp
  refine ((few_spec (.cons ha' (.cons hb' .nil)) (by simp)).pure (by simp) (by rintro r rfl; simp) _).mono ?_
  rintro r H' ⟨rfl, rfl⟩
  by_cases h1 : [(S, vs), (bS, ys)].all fewB = true
  case neg =>
    have h1 : [(S, vs), (bS, ys)].all fewB = false := by simpa only [Bool.not_eq_true] using h1
    simp only [h1]
    simp
    refine AWp.cond (b := true) (by simp) (fun _ => ?_) (fun h => by cases h)
    first | refine AWp.seq (AWp.ops ?_) | refine AWp.seq (AWp.seq (AWp.ops ?_)) | refine AWp.ops ?_ | refine AWp.seq (AWp.block (AWp.seq (AWp.ops ?_))) | refine AWp.seq (AWp.seq (AWp.seq (AWp.ops ?_)))
    simp
    refine AWp.ret ?_
    simp
    refine retOk.of rfl ?_
    rfl
  have hvl : vs.length ≤ 70000 := by
    simp [fewB] at h1
    omega
  simp only [h1]
  simp
  refine AWp.cond (b := false) (by simp) (fun h => by cases h) (fun _ => ?_)
  refine AWp.skip ?_
  simp only [qSeq]
  refine AWp.cutE (σ := AV) (fun w => ISl w vs) (fun w => [.und, .und, I by_, I mode, .ptr 0 1 0 0, .ptr 1 1 0 0, .und, .und, Bo false, Bo true, w, .und, .und, .und, .und, .und, .und, .und, .und, .und, .und, .und, .und, .und, .und, .und, .und, .und, .und, .und, .und, .und, .und, .und, .und, .und, .und, .und, .und, .und, .und, .und, .und, .und, .und, .und, .und, .und, .und, .und, .und, .und, .und, .und, .und, .und, .und, .und, .und, .und, .und, .und, .und, .und, .und, .und, .und, .und, .und, .und, .und, .und, .und, .und, .und, .und, .und, .und, .und, .und, .und, .und, .und, .und, .und, .und, .und, .und, .und, .und, .und, .und, .und, .und, .und, .und, .und, .und, .und, .und, .und, .und, .und, .und, .und, .und, .und, .und, .und, .und, .und, .und, .und, .und, .und, .und, .und, .und, .und, .und, .und, .und, .und, .und, .und, .und, .und, .und, .und, .und, .und, .und, .und, .und, .und, .und, .und, .und, .und, .und, .und, .und, .und, .und, .und, .und, .und, .und, .und, .und, .und, .und, .und, .und, .und, .und, .und, .und, .und, .und, .und, .und, .und]) (fun _ => [denO (.agg [.imm nl1 c1 z1 (S.map I), .imm nl2 c2 z2 (vs.map I)]), denO (.agg [.imm nl3 c3 z3 (bS.map I), .imm nl4 c4 z4 (ys.map I)])]) ?_ ?_
  · refine AWp.ops ?_
    by_cases hv : vs = []
    · have hel : ∀ H, elems 1 H (.imm nl2 c2 z2 (vs.map I)) = some [] := by intro H; rw [elems_of H hz2, hv]; rfl
      simp [hel]
      refine ⟨_, ?_, (Weak.slots [2, 3, 4, 5, 8, 9, 10]).to (by simp; rfl) rfl⟩
      rw [hv]; exact ISl.nil
    · have b1 : vs.length * 8 ≤ 140737488355328 := by omega
      have b2 : vs.length ≤ 9223372036854775807 := by omega
      simp [elems_of _ hz2, hv, b1, b2]
      refine ⟨_, ?_, ((Weak.slots [2, 3, 4, 5, 8, 9, 10]).trans (Weak.freeze 2 2 (by simp))).to (by simp; rfl) (by simp [frzH])⟩
      exact ISl.of _ hr2.1 hr2.2
  intro w hw
  obtain ⟨rA1, rA2⟩ := bothF_inR (op := addW) (fun x y => wrapR _) ha'.inR.1 ha'.inR.2 (E := (bS, ys))
  obtain ⟨rM1, rM2⟩ := bothF_inR (op := mulW) (fun x y => wrapR _) ha'.inR.1 ha'.inR.2 (E := (bS, ys))
  obtain ⟨rS1, rS2⟩ := bothF_inR (op := fun x _ => mulW x by_) (fun x y => wrapR _) ha'.inR.1 ha'.inR.2 (E := (S, vs))
  obtain ⟨rU1, rU2⟩ := sumF_inR' (D := (S, vs)) ha'.inR.1 mode
  have hwn := hw.noRef
  have hw' := hw
  obtain ⟨⟨nlw, cw, zw, rfl, hzw⟩, hrw⟩ := hw
  first | refine AWp.seq (AWp.ops ?_) | refine AWp.seq (AWp.seq (AWp.ops ?_)) | refine AWp.ops ?_ | refine AWp.seq (AWp.block (AWp.seq (AWp.ops ?_))) | refine AWp.seq (AWp.seq (AWp.seq (AWp.ops ?_)))
  simp
  refine ((Add_spec ha' hb').pure (by simp) (by rintro r ⟨d, rfl, h⟩; simp [h.noRef]) _).mono ?_
  rintro r H' ⟨rfl, x1, rfl, dx1⟩
  have dx1' := dx1
  obtain ⟨s3, v3, rfl, ⟨⟨_, _, _, rfl, _⟩, _⟩, ⟨⟨_, _, _, rfl, _⟩, _⟩⟩ := dx1
  simp
  first | refine AWp.seq (AWp.ops ?_) | refine AWp.seq (AWp.seq (AWp.ops ?_)) | refine AWp.ops ?_ | refine AWp.seq (AWp.block (AWp.seq (AWp.ops ?_))) | refine AWp.seq (AWp.seq (AWp.seq (AWp.ops ?_)))
  simp
  refine ((dense_pure (rAdd_spec ha' hb') rA1 rA2).pure (by simp) (by rintro r ⟨d, rfl, h⟩; simp [h.noRef]) _).mono ?_
  rintro r H' ⟨rfl, x2, rfl, dx2⟩
  have dx2' := dx2
  obtain ⟨s3, v3, rfl, ⟨⟨_, _, _, rfl, _⟩, _⟩, ⟨⟨_, _, _, rfl, _⟩, _⟩⟩ := dx2
  simp
  first | refine AWp.seq (AWp.ops ?_) | refine AWp.seq (AWp.seq (AWp.ops ?_)) | refine AWp.ops ?_ | refine AWp.seq (AWp.block (AWp.seq (AWp.ops ?_))) | refine AWp.seq (AWp.seq (AWp.seq (AWp.ops ?_)))
  simp
  refine ((rEquals_spec dx1' dx2').pure (by simp) (by rintro r rfl; simp) _).mono ?_
  rintro r H' ⟨rfl, rfl⟩
  simp
  refine AWp.cond (b := false) (by simp) (fun h => by cases h) (fun _ => ?_)
  refine AWp.skip ?_
  simp only [qSeq]
  first | refine AWp.seq (AWp.ops ?_) | refine AWp.seq (AWp.seq (AWp.ops ?_)) | refine AWp.ops ?_ | refine AWp.seq (AWp.block (AWp.seq (AWp.ops ?_))) | refine AWp.seq (AWp.seq (AWp.seq (AWp.ops ?_)))
  simp
  refine ((Mul_spec ha' hb').pure (by simp) (by rintro r ⟨d, rfl, h⟩; simp [h.noRef]) _).mono ?_
  rintro r H' ⟨rfl, x1, rfl, dx1⟩
  have dx1' := dx1
  obtain ⟨s3, v3, rfl, ⟨⟨_, _, _, rfl, _⟩, _⟩, ⟨⟨_, _, _, rfl, _⟩, _⟩⟩ := dx1
  simp
  first | refine AWp.seq (AWp.ops ?_) | refine AWp.seq (AWp.seq (AWp.ops ?_)) | refine AWp.ops ?_ | refine AWp.seq (AWp.block (AWp.seq (AWp.ops ?_))) | refine AWp.seq (AWp.seq (AWp.seq (AWp.ops ?_)))
  simp
  refine ((dense_pure (rMul_spec ha' hb') rM1 rM2).pure (by simp) (by rintro r ⟨d, rfl, h⟩; simp [h.noRef]) _).mono ?_
  rintro r H' ⟨rfl, x2, rfl, dx2⟩
  have dx2' := dx2
  obtain ⟨s3, v3, rfl, ⟨⟨_, _, _, rfl, _⟩, _⟩, ⟨⟨_, _, _, rfl, _⟩, _⟩⟩ := dx2
  simp
  first | refine AWp.seq (AWp.ops ?_) | refine AWp.seq (AWp.seq (AWp.ops ?_)) | refine AWp.ops ?_ | refine AWp.seq (AWp.block (AWp.seq (AWp.ops ?_))) | refine AWp.seq (AWp.seq (AWp.seq (AWp.ops ?_)))
  simp
  refine ((rEquals_spec dx1' dx2').pure (by simp) (by rintro r rfl; simp) _).mono ?_
  rintro r H' ⟨rfl, rfl⟩
  simp
  refine AWp.cond (b := false) (by simp) (fun h => by cases h) (fun _ => ?_)
  refine AWp.skip ?_
  simp only [qSeq]
  first | refine AWp.seq (AWp.ops ?_) | refine AWp.seq (AWp.seq (AWp.ops ?_)) | refine AWp.ops ?_ | refine AWp.seq (AWp.block (AWp.seq (AWp.ops ?_))) | refine AWp.seq (AWp.seq (AWp.seq (AWp.ops ?_)))
  simp
  refine ((Scale_spec (by_ := by_) ha').pure (by simp) (by rintro r ⟨d, rfl, h⟩; simp [h.noRef]) _).mono ?_
  rintro r H' ⟨rfl, x1, rfl, dx1⟩
  have dx1' := dx1
  obtain ⟨s3, v3, rfl, ⟨⟨_, _, _, rfl, _⟩, _⟩, ⟨⟨_, _, _, rfl, _⟩, _⟩⟩ := dx1
  simp
  first | refine AWp.seq (AWp.ops ?_) | refine AWp.seq (AWp.seq (AWp.ops ?_)) | refine AWp.ops ?_ | refine AWp.seq (AWp.block (AWp.seq (AWp.ops ?_))) | refine AWp.seq (AWp.seq (AWp.seq (AWp.ops ?_)))
  simp
  refine ((dense_pure (rScale_spec (by_ := by_) ha') rS1 rS2).pure (by simp) (by rintro r ⟨d, rfl, h⟩; simp [h.noRef]) _).mono ?_
  rintro r H' ⟨rfl, x2, rfl, dx2⟩
  have dx2' := dx2
  obtain ⟨s3, v3, rfl, ⟨⟨_, _, _, rfl, _⟩, _⟩, ⟨⟨_, _, _, rfl, _⟩, _⟩⟩ := dx2
  simp
  first | refine AWp.seq (AWp.ops ?_) | refine AWp.seq (AWp.seq (AWp.ops ?_)) | refine AWp.ops ?_ | refine AWp.seq (AWp.block (AWp.seq (AWp.ops ?_))) | refine AWp.seq (AWp.seq (AWp.seq (AWp.ops ?_)))
  simp
  refine ((rEquals_spec dx1' dx2').pure (by simp) (by rintro r rfl; simp) _).mono ?_
  rintro r H' ⟨rfl, rfl⟩
  simp
  refine AWp.cond (b := false) (by simp) (fun h => by cases h) (fun _ => ?_)
  refine AWp.skip ?_
  simp only [qSeq]
  refine AWp.weak (Weak.slots [3, 4, 5, 9, 10, 11, 13]) ?_
  simp
  first | refine AWp.seq (AWp.ops ?_) | refine AWp.seq (AWp.seq (AWp.ops ?_)) | refine AWp.ops ?_ | refine AWp.seq (AWp.block (AWp.seq (AWp.ops ?_))) | refine AWp.seq (AWp.seq (AWp.seq (AWp.ops ?_)))
  simp
  refine (dense_at (Sum_spec (mode := mode) ha') (by simp) _).mono ?_
  rintro r H' ⟨G, rfl, hcase⟩
  rcases hcase with ⟨h1, h2, rfl⟩ | ⟨h1, d, rfl, hown⟩
  · simp
    first | refine AWp.seq (AWp.ops ?_) | refine AWp.seq (AWp.seq (AWp.ops ?_)) | refine AWp.ops ?_ | refine AWp.seq (AWp.block (AWp.seq (AWp.ops ?_))) | refine AWp.seq (AWp.seq (AWp.seq (AWp.ops ?_)))
    simp
    refine ((dense_pure (rSum_spec (mode := mode) ha') rU1 rU2).pure (by simp) (by rintro r ⟨d, rfl, h⟩; simp [h.noRef]) _).mono ?_
    rintro r H' ⟨rfl, x2, rfl, dx2⟩
    rw [h2] at dx2
    obtain ⟨s3, v3, rfl, hx2, hx3⟩ := dx2
    have hx2' := hx2
    obtain ⟨⟨nl7, c7, z7, rfl, _⟩, _⟩ := hx2
    obtain ⟨⟨nl8, c8, z8, rfl, _⟩, _⟩ := hx3
    simp
    first | refine AWp.seq (AWp.ops ?_) | refine AWp.seq (AWp.seq (AWp.ops ?_)) | refine AWp.ops ?_ | refine AWp.seq (AWp.block (AWp.seq (AWp.ops ?_))) | refine AWp.seq (AWp.seq (AWp.seq (AWp.ops ?_)))
    simp
    refine AWp.cond (b := false) (by simp) (fun h => by cases h) (fun _ => ?_)
    refine AWp.skip ?_
    simp only [qSeq]
    refine AWp.weak (Weak.slots [4, 9, 10, 11, 12, 13, 14]) ?_
    simp
    refine AWp.cutE (σ := List AObj) (fun K => K[0]? = some (denO (.agg [.imm nl1 c1 z1 (S.map I), .imm nl2 c2 z2 (vs.map I)])) ∧ K[2]? = some (denO nilD) ∧ K[3]? = some (denO (.agg [.imm nl7 c7 z7 [], .imm nl8 c8 z8 []]))) (fun _ => [.und, .und, .und, .und, .ptr 0 1 0 0, .und, .und, .und, .und, Bo true, .imm nlw cw zw (vs.map I), .ptr 2 1 0 0, I (sumF (S, vs) mode).2, .ptr 3 1 0 0, I (sumF (S, vs) mode).2, .und, .und, .und, .und, .und, .und, .und, .und, .und, .und, .und, .und, .und, .und, .und, .und, .und, .und, .und, .und, .und, .und, .und, .und, .und, .und, .und, .und, .und, .und, .und, .und, .und, .und, .und, .und, .und, .und, .und, .und, .und, .und, .und, .und, .und, .und, .und, .und, .und, .und, .und, .und, .und, .und, .und, .und, .und, .und, .und, .und, .und, .und, .und, .und, .und, .und, .und, .und, .und, .und, .und, .und, .und, .und, .und, .und, .und, .und, .und, .und, .und, .und, .und, .und, .und, .und, .und, .und, .und, .und, .und, .und, .und, .und, .und, .und, .und, .und, .und, .und, .und, .und, .und, .und, .und, .und, .und, .und, .und, .und, .und, .und, .und, .und, .und, .und, .und, .und, .und, .und, .und, .und, .und, .und, .und, .und, .und, .und, .und, .und, .und, .und, .und, .und, .und, .und, .und, .und, .und, .und, .und, .und, .und, .und, .und, .und, .und, .und]) (fun K => K) ?_ ?_
    ·
      first | refine AWp.seq (AWp.ops ?_) | refine AWp.seq (AWp.seq (AWp.ops ?_)) | refine AWp.ops ?_ | refine AWp.seq (AWp.block (AWp.seq (AWp.ops ?_))) | refine AWp.seq (AWp.seq (AWp.seq (AWp.ops ?_)))
      simp
      obtain ⟨K, hK⟩ : ∃ K, K = denO (.agg [.imm nl1 c1 z1 (S.map I), .imm nl2 c2 z2 (vs.map I)]) :: denO (.agg [.imm nl3 c3 z3 (bS.map I), .imm nl4 c4 z4 (ys.map I)]) :: denO nilD :: denO (.agg [.imm nl7 c7 z7 [], .imm nl8 c8 z8 []]) :: G := ⟨_, rfl⟩
      rw [← hK]
      obtain ⟨J, hJ⟩ : ∃ J : Nat → List AV → List AObj → Prop, J = fun i fr H => i ≤ (0 : Nat) ∧ (True) ∧ H = K ∧
        fr = [.und, .und, .und, .und, .ptr 0 1 0 0, .und, .und, .und, .und, Bo true, .imm nlw cw zw (vs.map I), .ptr 2 1 0 0, I (sumF (S, vs) mode).2, .ptr 3 1 0 0, I (sumF (S, vs) mode).2, .und, .und, .und, .und, .und, .und, .und, .und, .und, .und, .und, .und, .und, .und, .und, .und, .und, .und, .und, .und, .und, .und, .und, .und, .und, .und, .und, .und, .und, .und, .und, .und, .und, .und, .und, .und, .und, .und, .und, .und, .und, .und, .und, .und, .und, .und, .und, .und, .und, .und, .und, .und, .und, .und, .und, .und, .und, .und, .und, .und, .und, .und, .und, .und, .und, .und, .und, .und, .und, .und, .und, .und, .und, .und, .und, .und, .und, .und, .und, .und, .und, .und, .und, .und, .und, .und, .und, .und, .und, .und, .und, .und, .und, .und, .und, I 0, I i, .und, .und, .und, .und, .und, .und, .und, .und, .und, .und, .und, .und, .und, .und, .und, .und, .und, .und, .und, .und, .und, .und, .und, .und, .und, .und, .und, .und, .und, .und, .und, .und, .und, .und, .und, .und, .und, .und, .und, .und, .und, .und, .und, .und, .und, .und, .und, .und, .und, .und, .und] := ⟨_, rfl⟩
      refine AWp.block (AWp.loop J (fun i => (0 : Nat) - i) 0 (Weak.slots [4, 9, 10, 11, 12, 13, 14, 110, 111]) (by rw [hJ]; exact ⟨by omega, trivial, by simp, by simp⟩) ?_)
      intro i fr H hI
      rw [hJ] at hI
      obtain ⟨hi, hinv, rfl, rfl⟩ := hI
      first | refine AWp.seq (AWp.ops ?_) | refine AWp.seq (AWp.seq (AWp.ops ?_)) | refine AWp.ops ?_ | refine AWp.seq (AWp.block (AWp.seq (AWp.ops ?_))) | refine AWp.seq (AWp.seq (AWp.seq (AWp.ops ?_)))
      simp
      refine AWp.seq (AWp.cond (b := decide (i < (0 : Nat))) (by simp <;> omega) ?_ ?_)
      · intro hb
        simp at hb
      · intro _
        refine AWp.exit ?_
        simp [qSeq, qBlock]
        exact ⟨_, ⟨by rw [hK]; rfl, by rw [hK]; rfl, by rw [hK]; rfl⟩, (Weak.slots [4, 9, 10, 11, 12, 13, 14]).to (by simp) rfl⟩
    rintro K ⟨k0, k2, k3⟩
    first | refine AWp.seq (AWp.ops ?_) | refine AWp.seq (AWp.seq (AWp.ops ?_)) | refine AWp.ops ?_ | refine AWp.seq (AWp.block (AWp.seq (AWp.ops ?_))) | refine AWp.seq (AWp.seq (AWp.seq (AWp.ops ?_)))
    simp [k0, k2, k3]
    refine ((rEqual_spec ISl.nil hx2').pure (by simp) (by rintro r rfl; simp) _).mono ?_
    rintro r H' ⟨rfl, rfl⟩
    simp [k0, k2, k3]
    refine ((rEquals_spec ha' (⟨_, _, rfl, hS', hw'⟩ : Dn (.agg [.imm nl1 c1 z1 (S.map I), .imm nlw cw zw (vs.map I)]) (S, vs))).pure (by simp) (by rintro r rfl; simp) _).mono ?_
    rintro r H' ⟨rfl, rfl⟩
    simp
    refine AWp.ret ?_
    simp
    refine retOk.of rfl ?_
    rfl
  obtain ⟨⟨tS, zs⟩, hT⟩ : ∃ T, T = (sumF (S, vs) mode).1 := ⟨_, rfl⟩
  rw [← hT] at hown rU1 rU2
  obtain ⟨s, q, hq, rfl, hqo, hso⟩ := hown
  simp only at hqo hso rU1 rU2
  have hone := hso.one
  have hd2 := (dense_pure (rSum_spec (mode := mode) ha') (by rw [← hT]; exact rU1) (by rw [← hT]; exact rU2))
  rw [← hT, h1] at hd2
  simp [hone]
  first | refine AWp.seq (AWp.ops ?_) | refine AWp.seq (AWp.seq (AWp.ops ?_)) | refine AWp.ops ?_ | refine AWp.seq (AWp.block (AWp.seq (AWp.ops ?_))) | refine AWp.seq (AWp.seq (AWp.seq (AWp.ops ?_)))
  simp
  refine (hd2.pure (by simp) (by rintro r ⟨d, rfl, h⟩; simp [h.noRef]) _).mono ?_
  rintro r H' ⟨rfl, x2, rfl, dx2⟩
  obtain ⟨s3, v3, rfl, hx2, hx3⟩ := dx2
  have hx2' := hx2
  obtain ⟨⟨nl7, c7, z7, rfl, hz7⟩, _⟩ := hx2
  obtain ⟨⟨nl8, c8, z8, rfl, hz8⟩, _⟩ := hx3
  simp only at hz7 hz8 hx2'
  simp
  refine AWp.weak (Weak.slots [4, 9, 10, 11, 12, 13, 14]) ?_
  obtain ⟨K, hK⟩ : ∃ K, K = denO (.agg [.imm nl1 c1 z1 (S.map I), .imm nl2 c2 z2 (vs.map I)]) :: denO (.agg [.imm nl3 c3 z3 (bS.map I), .imm nl4 c4 z4 (ys.map I)]) :: denO (.agg [s, .slc q zs.length 0 zs.length none]) :: denO (.agg [.imm nl7 c7 z7 (tS.map I), .imm nl8 c8 z8 (zs.map I)]) :: G := ⟨_, rfl⟩
  have k0 : K[0]? = some (denO (.agg [.imm nl1 c1 z1 (S.map I), .imm nl2 c2 z2 (vs.map I)])) := by rw [hK]; rfl
  have k2 : K[2]? = some (denO (.agg [s, .slc q zs.length 0 zs.length none])) := by rw [hK]; rfl
  have k3 : K[3]? = some (denO (.agg [.imm nl7 c7 z7 (tS.map I), .imm nl8 c8 z8 (zs.map I)])) := by rw [hK]; rfl
  have hown : ownD 4 K (.agg [s, .slc q zs.length 0 zs.length none]) (tS, zs) := by
    have h0 : ownD 4 ([denO (.agg [.imm nl1 c1 z1 (S.map I), .imm nl2 c2 z2 (vs.map I)]), denO (.agg [.imm nl3 c3 z3 (bS.map I), .imm nl4 c4 z4 (ys.map I)]), _, _] ++ G) (.agg [s, .slc q zs.length 0 zs.length none]) (tS, zs) := ⟨s, q, hq, rfl, hqo, hso⟩
    have h2 := ownD.tail (A := [denO (.agg [.imm nl1 c1 z1 (S.map I), .imm nl2 c2 z2 (vs.map I)]), denO (.agg [.imm nl3 c3 z3 (bS.map I), .imm nl4 c4 z4 (ys.map I)]), _, _]) (A' := [denO (.agg [.imm nl1 c1 z1 (S.map I), .imm nl2 c2 z2 (vs.map I)]), denO (.agg [.imm nl3 c3 z3 (bS.map I), .imm nl4 c4 z4 (ys.map I)]), denO (.agg [s, .slc q zs.length 0 zs.length none]), denO (.agg [.imm nl7 c7 z7 (tS.map I), .imm nl8 c8 z8 (zs.map I)])]) (b := 4) h0 rfl (by simp)
    rw [hK]; exact h2
  obtain ⟨s', q', hq4, he, kq, ks⟩ := hown
  simp only [AV.agg.injEq, List.cons.injEq, AV.slc.injEq, and_true, true_and] at he
  obtain ⟨rfl, rfl⟩ := he
  simp only at kq ks
  simp [← hK]
  first | refine AWp.seq (AWp.ops ?_) | refine AWp.seq (AWp.seq (AWp.ops ?_)) | refine AWp.ops ?_ | refine AWp.seq (AWp.block (AWp.seq (AWp.ops ?_))) | refine AWp.seq (AWp.seq (AWp.seq (AWp.ops ?_)))
  simp [k0, k2, k3]
  refine AWp.cond (b := false) (by simp) (fun h => by cases h) (fun _ => ?_)
  refine AWp.skip ?_
  simp only [qSeq]
  first | refine AWp.seq (AWp.ops ?_) | refine AWp.seq (AWp.seq (AWp.ops ?_)) | refine AWp.ops ?_ | refine AWp.seq (AWp.block (AWp.seq (AWp.ops ?_))) | refine AWp.seq (AWp.seq (AWp.seq (AWp.ops ?_)))
  simp [k2]
  obtain ⟨J, hJ⟩ : ∃ J : Nat → List AV → List AObj → Prop, J = fun i fr H => i ≤ zs.length ∧ ∃ (K2 : List AObj) (ws : List Int), (K2[0]? = some (denO (.agg [.imm nl1 c1 z1 (S.map I), .imm nl2 c2 z2 (vs.map I)])) ∧ K2[2]? = some (denO (.agg [s, .slc q zs.length 0 zs.length none])) ∧ K2[3]? = some (denO (.agg [.imm nl7 c7 z7 (tS.map I), .imm nl8 c8 z8 (zs.map I)])) ∧ K2[q]? = some (i64O ws) ∧ shapeOk 4 K2 q s tS ∧ ws.length = zs.length ∧ ∀ k, i ≤ k → ws[k]? = zs[k]?) ∧ H = K2 ∧
    fr = [.und, .und, .und, .und, .ptr 0 1 0 0, .und, .und, .und, .und, Bo true, .imm nlw cw zw (vs.map I), .ptr 2 1 0 0, I 0, .ptr 3 1 0 0, I 0, .und, .und, .und, .und, .und, .und, .und, .und, .und, .und, .und, .und, .und, .und, .und, .und, .und, .und, .und, .und, .und, .und, .und, .und, .und, .und, .und, .und, .und, .und, .und, .und, .und, .und, .und, .und, .und, .und, .und, .und, .und, .und, .und, .und, .und, .und, .und, .und, .und, .und, .und, .und, .und, .und, .und, .und, .und, .und, .und, .und, .und, .und, .und, .und, .und, .und, .und, .und, .und, .und, .und, .und, .und, .und, .und, .und, .und, .und, .und, .und, .und, .und, .und, .und, .und, .und, .und, .und, .und, .und, .und, .und, .und, .und, .und, I zs.length, I i, .und, .und, .und, .und, .und, .und, .und, .und, .und, .und, .und, .und, .und, .und, .und, .und, .und, .und, .und, .und, .und, .und, .und, .und, .und, .und, .und, .und, .und, .und, .und, .und, .und, .und, .und, .und, .und, .und, .und, .und, .und, .und, .und, .und, .und, .und, .und, .und, .und, .und, .und] := ⟨_, rfl⟩
  refine AWp.block (AWp.loop J (fun i => zs.length - i) 0 (Weak.slots [4, 9, 10, 11, 12, 13, 14, 110, 111]) (by rw [hJ]; exact ⟨by omega, K, zs, ⟨k0, k2, k3, kq, ks, rfl, fun _ _ => rfl⟩, by simp, by simp⟩) ?_)
  intro i fr H hI
  rw [hJ] at hI
  obtain ⟨hi, K2, ws, hinv, rfl, rfl⟩ := hI
  first | refine AWp.seq (AWp.ops ?_) | refine AWp.seq (AWp.seq (AWp.ops ?_)) | refine AWp.ops ?_ | refine AWp.seq (AWp.block (AWp.seq (AWp.ops ?_))) | refine AWp.seq (AWp.seq (AWp.seq (AWp.ops ?_)))
  simp
  refine AWp.seq (AWp.cond (b := decide (i < zs.length)) (by simp <;> omega) ?_ ?_)
  ·
    intro hb
    have hb : i < zs.length := by simpa using hb
    refine AWp.skip ?_
    simp only [qSeq]
    obtain ⟨k0, k2, k3, kq, ks, kl, kv⟩ := hinv
    have hb2 : i < ws.length := by omega
    have hsz := sz_of hz8 hb
    subst hsz
    have hwz : ws[i] = zs[i] := by
      have := kv i (by omega)
      rw [List.getElem?_eq_getElem hb, List.getElem?_eq_getElem hb2] at this
      exact Option.some.inj this
    have hw0 : IntKind.i64.wrap 0 = 0 := by decide
    have g0 : ∀ X, (H.set q X)[0]? = H[0]? := fun X => gs_ne (by omega)
    have g2 : ∀ X, (H.set q X)[2]? = H[2]? := fun X => gs_ne (by omega)
    have g3 : ∀ X, (H.set q X)[3]? = H[3]? := fun X => gs_ne (by omega)
    have gq : ∀ X, (H.set q X)[q]? = some X := fun X => gs_eq kq
    first | refine AWp.seq (AWp.ops ?_) | refine AWp.seq (AWp.seq (AWp.ops ?_)) | refine AWp.ops ?_ | refine AWp.seq (AWp.block (AWp.seq (AWp.ops ?_))) | refine AWp.seq (AWp.seq (AWp.seq (AWp.ops ?_)))
    simp
    first | refine AWp.seq (AWp.ops ?_) | refine AWp.seq (AWp.seq (AWp.ops ?_)) | refine AWp.ops ?_ | refine AWp.seq (AWp.block (AWp.seq (AWp.ops ?_))) | refine AWp.seq (AWp.seq (AWp.seq (AWp.ops ?_)))
    simp [k2, k3, kq, kl, hb, hb2, hwz, hw0]
    first | refine AWp.seq (AWp.ops ?_) | refine AWp.seq (AWp.seq (AWp.ops ?_)) | refine AWp.ops ?_ | refine AWp.seq (AWp.block (AWp.seq (AWp.ops ?_))) | refine AWp.seq (AWp.seq (AWp.seq (AWp.ops ?_)))
    simp [g2, gq, k2, kl, hb, hb2]
    refine AWp.cond (b := false) (by simp) (fun h => by cases h) (fun _ => ?_)
    refine AWp.skip ?_
    simp only [qSeq, qBlock]
    first | refine AWp.seq (AWp.ops ?_) | refine AWp.seq (AWp.seq (AWp.ops ?_)) | refine AWp.ops ?_ | refine AWp.seq (AWp.block (AWp.seq (AWp.ops ?_))) | refine AWp.seq (AWp.seq (AWp.seq (AWp.ops ?_)))
    simp
    refine ⟨i + 1, _, _, Weak.slots [4, 9, 10, 11, 12, 13, 14, 110, 111], ?_, by omega⟩
    rw [hJ]
    refine ⟨by omega, H.set q (i64O (ws.set i 0)), ws.set i 0, ?_, by simp [i64O, List.map_set], by simp [wrap_i64 (n := (i : Int) + 1) (by omega) (by omega)]⟩
    refine ⟨by rw [g0]; exact k0, by rw [g2]; exact k2, by rw [g3]; exact k3, gq _, ks.set _, by simpa using kl, fun k hk => ?_⟩
    rw [List.getElem?_set_ne (by omega)]
    exact kv k (by omega)
  ·
    intro hb
    have hb : ¬ i < zs.length := by simpa using hb
    refine AWp.exit ?_
    simp [qSeq, qBlock]
    obtain ⟨k0, k2, k3, kq, ks, kl, kv⟩ := hinv
    first | refine AWp.seq (AWp.ops ?_) | refine AWp.seq (AWp.seq (AWp.ops ?_)) | refine AWp.ops ?_ | refine AWp.seq (AWp.block (AWp.seq (AWp.ops ?_))) | refine AWp.seq (AWp.seq (AWp.seq (AWp.ops ?_)))
    simp [k0, k2, k3]
    refine (ACalls.pureLent 1 (R := fun r => r = Bo true) ?_ (by rintro r rfl s; rfl)).mono ?_
    · have := rEqual_spec (ks.isl (n := 0) rU1) hx2'
      simpa using this
    rintro r H' ⟨rfl, rfl⟩
    simp [k0, k2, k3]
    refine ((rEquals_spec ha' (⟨_, _, rfl, hS', hw'⟩ : Dn (.agg [.imm nl1 c1 z1 (S.map I), .imm nlw cw zw (vs.map I)]) (S, vs))).pure (by simp) (by rintro r rfl; simp) _).mono ?_
    rintro r H' ⟨rfl, rfl⟩
    simp
    refine AWp.ret ?_
    simp
    refine retOk.of rfl ?_
    rfl
end Go.Fw
