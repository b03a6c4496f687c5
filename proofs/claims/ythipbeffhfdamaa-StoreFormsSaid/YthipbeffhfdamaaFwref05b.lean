import Derived.Test.YthipbeffhfdamaaFwref05a
namespace Go.Fw
open Go Go.RowKit Go.Proofs
set_option maxRecDepth 100000
set_option linter.unusedSimpArgs false
set_option linter.unusedVariables false

def rIs_34 : AC := (.seq (.ops [⟨(some 123), none, (.k (.mov (.t 5)))⟩, ⟨(some 124), none, (.k (.mov (.t 10)))⟩, ⟨(some 125), none, (.k (.iad 1 (.t 123) (.t 124)))⟩, ⟨(some 126), none, (.k (.ld 1 false (.t 125)))⟩, ⟨(some 127), none, (.k (.bin .neq (.t 126) (.c (.sc (.int .i64 1)))))⟩, ⟨(some 128), none, (.k (.mov (.t 127)))⟩, ⟨(some 129), (some (128, false)), (.k (.mov (.t 6)))⟩, ⟨(some 130), (some (128, false)), (.k (.mov (.t 10)))⟩, ⟨(some 131), (some (128, false)), (.k (.iad 1 (.t 129) (.t 130)))⟩, ⟨(some 132), (some (128, false)), (.k (.ld 1 false (.t 131)))⟩, ⟨(some 133), (some (128, false)), (.k (.bin .gtr (.t 132) (.c (.sc (.int .i64 1)))))⟩, ⟨(some 134), none, (.k (.pick (.t 128) (.c (.sc (.bool true))) (.t 133)))⟩]) (.cond (.t 134) (.seq (.ops [⟨(some 4), none, (.k (.mov (.c (.sc (.bool false)))))⟩]) .ret) .skip))
def rIs_33 : AC := (.seq (.ops [⟨(some 122), none, (.k (.mov (.t 120)))⟩, ⟨(some 10), none, (.k (.mov (.t 122)))⟩]) rIs_34)
def rIs_32 : AC := (.block 3 rIs_33)
def rIs_31 : AC := (.seq rIs_32 (.ops [⟨(some 135), none, (.k (.bin .add (.t 120) (.c (.sc (.int .i64 1)))))⟩, ⟨(some 120), none, (.k (.mov (.t 135)))⟩]))
def rIs_30 : AC := (.seq (.cond (.t 121) .skip (.exit 2)) rIs_31)
def rIs_29 : AC := (.seq (.ops [⟨(some 121), none, (.k (.bin .lss (.t 120) (.t 119)))⟩]) rIs_30)
def rIs_28 : AC := (.loop rIs_29)
def rIs_27 : AC := (.block 2 rIs_28)
def rIs_26 : AC := (.seq (.ops [⟨(some 118), none, (.k (.mov (.t 0)))⟩, ⟨(some 119), none, (.k (.len (.t 118)))⟩, ⟨(some 120), none, (.k (.mov (.c (.sc (.int .i64 0)))))⟩]) rIs_27)
def rIs_25 : AC := (.seq rIs_26 (.seq (.ops [⟨(some 4), none, (.k (.mov (.c (.sc (.bool true)))))⟩]) .ret))
def rIs_24 : AC := (.seq (.ops [⟨(some 107), none, (.k (.fad 2 (.t 8)))⟩, ⟨(some 108), none, (.k (.ld 1 false (.t 107)))⟩, ⟨(some 109), none, (.k (.bin .neq (.t 108) (.c (.sc (.int .i64 0)))))⟩]) (.cond (.t 109) (.seq (.ops [⟨(some 4), none, (.k (.mov (.c (.sc (.bool false)))))⟩]) .ret) .skip))
def rIs_23 : AC := (.seq rIs_24 (.ops [⟨(some 110), none, (.k (.mov (.t 5)))⟩, ⟨(some 111), none, (.k (.fad 1 (.t 8)))⟩, ⟨(some 112), none, (.k (.ld 1 false (.t 111)))⟩, ⟨(some 113), none, (.k (.iad 1 (.t 110) (.t 112)))⟩, ⟨(some 114), none, (.k (.ld 1 false (.t 113)))⟩, ⟨(some 115), none, (.k (.bin .add (.t 114) (.c (.sc (.int .i64 1)))))⟩, ⟨(some 116), none, (.k (.iad 1 (.t 110) (.t 112)))⟩, ⟨none, none, (.k (.st 1 (.t 116) (.t 115)))⟩]))
def rIs_22 : AC := (.seq (.ops [⟨(some 78), none, (.k (.mov (.t 5)))⟩, ⟨(some 79), none, (.k (.fad 1 (.t 8)))⟩, ⟨(some 80), none, (.k (.ld 1 false (.t 79)))⟩, ⟨(some 81), none, (.k (.iad 1 (.t 78) (.t 80)))⟩, ⟨(some 82), none, (.k (.ld 1 false (.t 81)))⟩, ⟨(some 83), none, (.k (.bin .eql (.t 82) (.c (.sc (.int .i64 0)))))⟩, ⟨(some 84), none, (.k (.mov (.t 83)))⟩, ⟨(some 85), (some (84, false)), (.k (.fad 2 (.t 8)))⟩, ⟨(some 86), (some (84, false)), (.k (.ld 1 false (.t 85)))⟩, ⟨(some 87), (some (84, false)), (.k (.bin .lss (.t 86) (.c (.sc (.int .i64 1)))))⟩, ⟨(some 88), none, (.k (.pick (.t 84) (.c (.sc (.bool true))) (.t 87)))⟩, ⟨(some 89), none, (.k (.mov (.t 88)))⟩, ⟨(some 90), (some (89, false)), (.k (.mov (.t 0)))⟩, ⟨(some 91), (some (89, false)), (.k (.fad 1 (.t 8)))⟩, ⟨(some 92), (some (89, false)), (.k (.ld 1 false (.t 91)))⟩, ⟨(some 93), (some (89, false)), (.k (.iad 1 (.t 90) (.t 92)))⟩, ⟨(some 94), (some (89, false)), (.k (.ld 1 false (.t 93)))⟩, ⟨(some 95), (some (89, false)), (.k (.fad 2 (.t 8)))⟩, ⟨(some 96), (some (89, false)), (.k (.ld 1 false (.t 95)))⟩, ⟨(some 97), (some (89, false)), (.k (.bin .rem (.t 94) (.t 96)))⟩, ⟨(some 98), (some (89, false)), (.k (.bin .neq (.t 97) (.c (.sc (.int .i64 0)))))⟩, ⟨(some 99), none, (.k (.pick (.t 89) (.c (.sc (.bool true))) (.t 98)))⟩]) (.cond (.t 99) (.seq (.ops [⟨(some 4), none, (.k (.mov (.c (.sc (.bool false)))))⟩]) .ret) .skip))
def rIs_21 : AC := (.seq rIs_22 (.ops [⟨(some 100), none, (.k (.mov (.t 6)))⟩, ⟨(some 101), none, (.k (.fad 1 (.t 8)))⟩, ⟨(some 102), none, (.k (.ld 1 false (.t 101)))⟩, ⟨(some 103), none, (.k (.iad 1 (.t 100) (.t 102)))⟩, ⟨(some 104), none, (.k (.ld 1 false (.t 103)))⟩, ⟨(some 105), none, (.k (.bin .add (.t 104) (.c (.sc (.int .i64 1)))))⟩, ⟨(some 106), none, (.k (.iad 1 (.t 100) (.t 102)))⟩, ⟨none, none, (.k (.st 1 (.t 106) (.t 105)))⟩]))
def rIs_20 : AC := (.cond (.t 77) rIs_21 rIs_23)
def rIs_19 : AC := (.seq (.ops [⟨(some 75), none, (.k (.fad 0 (.t 8)))⟩, ⟨(some 76), none, (.k (.ld 1 false (.t 75)))⟩, ⟨(some 77), none, (.k (.bin .eql (.t 76) (.c (.sc (.int .i64 4)))))⟩]) rIs_20)
def rIs_18 : AC := (.seq (.ops [⟨(some 70), none, (.k (.mov (.t 9)))⟩, ⟨(some 71), none, (.k (.fad 0 (.t 8)))⟩, ⟨(some 72), none, (.k (.ld 1 false (.t 71)))⟩, ⟨(some 73), none, (.k (.bin .eql (.t 72) (.c (.sc (.int .i64 3)))))⟩, ⟨(some 74), none, (.k (.beq true (.t 70) (.t 73)))⟩]) (.cond (.t 74) (.seq (.ops [⟨(some 4), none, (.k (.mov (.c (.sc (.bool false)))))⟩]) .ret) .skip))
def rIs_17 : AC := (.seq rIs_18 rIs_19)
def rIs_16 : AC := (.seq (.ops [⟨(some 50), none, (.k (.mov (.t 7)))⟩, ⟨(some 51), none, (.k (.bin .gtr (.t 50) (.c (.sc (.int .i64 0)))))⟩, ⟨(some 52), none, (.k (.mov (.t 51)))⟩, ⟨(some 53), (some (52, true)), (.k (.mov (.t 1)))⟩, ⟨(some 54), (some (52, true)), (.k (.mov (.t 7)))⟩, ⟨(some 55), (some (52, true)), (.k (.bin .sub (.t 54) (.c (.sc (.int .i64 1)))))⟩, ⟨(some 56), (some (52, true)), (.k (.iad 3 (.t 53) (.t 55)))⟩, ⟨(some 57), (some (52, true)), (.k (.fad 0 (.t 56)))⟩, ⟨(some 58), (some (52, true)), (.k (.ld 1 false (.t 57)))⟩, ⟨(some 59), (some (52, true)), (.k (.bin .eql (.t 58) (.c (.sc (.int .i64 2)))))⟩, ⟨(some 60), (some (52, true)), (.k (.mov (.t 59)))⟩, ⟨(some 61), (some (60, false)), (.k (.mov (.t 1)))⟩, ⟨(some 62), (some (60, false)), (.k (.mov (.t 7)))⟩, ⟨(some 63), (some (60, false)), (.k (.bin .sub (.t 62) (.c (.sc (.int .i64 1)))))⟩, ⟨(some 64), (some (60, false)), (.k (.iad 3 (.t 61) (.t 63)))⟩, ⟨(some 65), (some (60, false)), (.k (.fad 0 (.t 64)))⟩, ⟨(some 66), (some (60, false)), (.k (.ld 1 false (.t 65)))⟩, ⟨(some 67), (some (60, false)), (.k (.bin .eql (.t 66) (.c (.sc (.int .i64 3)))))⟩, ⟨(some 68), (some (52, true)), (.k (.pick (.t 60) (.c (.sc (.bool true))) (.t 67)))⟩, ⟨(some 69), none, (.k (.pick (.t 52) (.t 68) (.c (.sc (.bool false)))))⟩, ⟨(some 9), none, (.k (.mov (.t 69)))⟩]) rIs_17)
def rIs_15 : AC := (.seq (.ops [⟨(some 30), none, (.k (.fad 1 (.t 8)))⟩, ⟨(some 31), none, (.k (.ld 1 false (.t 30)))⟩, ⟨(some 32), none, (.k (.bin .lss (.t 31) (.c (.sc (.int .i64 0)))))⟩, ⟨(some 33), none, (.k (.mov (.t 32)))⟩, ⟨(some 34), (some (33, false)), (.k (.fad 1 (.t 8)))⟩, ⟨(some 35), (some (33, false)), (.k (.ld 1 false (.t 34)))⟩, ⟨(some 36), (some (33, false)), (.k (.mov (.t 0)))⟩, ⟨(some 37), (some (33, false)), (.k (.len (.t 36)))⟩, ⟨(some 38), (some (33, false)), (.k (.bin .geq (.t 35) (.t 37)))⟩, ⟨(some 39), none, (.k (.pick (.t 33) (.c (.sc (.bool true))) (.t 38)))⟩, ⟨(some 40), none, (.k (.mov (.t 39)))⟩, ⟨(some 41), (some (40, false)), (.k (.fad 0 (.t 8)))⟩, ⟨(some 42), (some (40, false)), (.k (.ld 1 false (.t 41)))⟩, ⟨(some 43), (some (40, false)), (.k (.bin .lss (.t 42) (.c (.sc (.int .i64 0)))))⟩, ⟨(some 44), none, (.k (.pick (.t 40) (.c (.sc (.bool true))) (.t 43)))⟩, ⟨(some 45), none, (.k (.mov (.t 44)))⟩, ⟨(some 46), (some (45, false)), (.k (.fad 0 (.t 8)))⟩, ⟨(some 47), (some (45, false)), (.k (.ld 1 false (.t 46)))⟩, ⟨(some 48), (some (45, false)), (.k (.bin .gtr (.t 47) (.c (.sc (.int .i64 4)))))⟩, ⟨(some 49), none, (.k (.pick (.t 45) (.c (.sc (.bool true))) (.t 48)))⟩]) (.cond (.t 49) (.seq (.ops [⟨(some 4), none, (.k (.mov (.c (.sc (.bool false)))))⟩]) .ret) .skip))
def rIs_14 : AC := (.seq rIs_15 rIs_16)
def rIs_13 : AC := (.seq (.ops [⟨(some 27), none, (.k (.mov (.t 25)))⟩, ⟨(some 28), none, (.k (.iad 3 (.t 23) (.t 25)))⟩, ⟨(some 29), none, (.k (.ld 3 true (.t 28)))⟩, ⟨(some 8), none, (.k (.new 43 3 (.c (.agg [(.sc (.int .i64 0)), (.sc (.int .i64 0)), (.sc (.int .i64 0))]))))⟩, ⟨(some 7), none, (.k (.mov (.t 27)))⟩, ⟨none, none, (.k (.st 3 (.t 8) (.t 29)))⟩]) rIs_14)
def rIs_12 : AC := (.block 1 rIs_13)
def rIs_11 : AC := (.seq rIs_12 (.ops [⟨(some 117), none, (.k (.bin .add (.t 25) (.c (.sc (.int .i64 1)))))⟩, ⟨(some 25), none, (.k (.mov (.t 117)))⟩]))
def rIs_10 : AC := (.seq (.cond (.t 26) .skip (.exit 0)) rIs_11)
def rIs_9 : AC := (.seq (.ops [⟨(some 26), none, (.k (.bin .lss (.t 25) (.t 24)))⟩]) rIs_10)
def rIs_8 : AC := (.loop rIs_9)
def rIs_7 : AC := (.block 0 rIs_8)
def rIs_6 : AC := (.seq (.ops [⟨(some 23), none, (.k (.mov (.t 1)))⟩, ⟨(some 24), none, (.k (.len (.t 23)))⟩, ⟨(some 25), none, (.k (.mov (.c (.sc (.int .i64 0)))))⟩]) rIs_7)
def rIs_5 : AC := (.seq rIs_6 rIs_25)
def rIs_4 : AC := (.seq (.ops [⟨(some 20), none, (.k (.mov (.t 0)))⟩, ⟨(some 21), none, (.k (.len (.t 20)))⟩, ⟨(some 22), none, (.k (.mkS 3 1 8 (.sc (.int .i64 0)) (.t 21) (.t 21)))⟩, ⟨(some 6), none, (.k (.mov (.t 22)))⟩]) rIs_5)
def rIs_3 : AC := (.seq (.ops [⟨(some 17), none, (.k (.mov (.t 0)))⟩, ⟨(some 18), none, (.k (.len (.t 17)))⟩, ⟨(some 19), none, (.k (.mkS 3 1 8 (.sc (.int .i64 0)) (.t 18) (.t 18)))⟩, ⟨(some 5), none, (.k (.mov (.t 19)))⟩]) rIs_4)
def rIs_2 : AC := (.seq (.ops [⟨(some 11), none, (.k (.mov (.t 1)))⟩, ⟨(some 12), none, (.k (.len (.t 11)))⟩, ⟨(some 13), none, (.k (.mov (.t 0)))⟩, ⟨(some 14), none, (.k (.len (.t 13)))⟩, ⟨(some 15), none, (.k (.bin .mul (.c (.sc (.int .i64 2))) (.t 14)))⟩, ⟨(some 16), none, (.k (.bin .gtr (.t 12) (.t 15)))⟩]) (.cond (.t 16) (.seq (.ops [⟨(some 4), none, (.k (.mov (.c (.sc (.bool false)))))⟩]) .ret) .skip))
def rIs_1 : AC := (.seq rIs_2 rIs_3)
def rIs_ac : AC := (.seq (.ops [⟨(some 4), none, (.k (.mov (.c (.sc (.bool false)))))⟩]) rIs_1)
theorem rIs_call {args : List AV} {H : List AObj} {R : AV → List AObj → Prop} (h : AWp Try.prog [] H.length rIs_ac (bodyQ H.length [(.t 4)] R) (args ++ List.replicate (136 - args.length) .und) H) : ACalls Try.prog 43 args H R :=
  ACalls.of_fn Try.func43 rfl (by kernel_rfl) rfl Try.ntmps43 h

set_option maxHeartbeats 4000000 in
theorem rIs_spec {a b : AV} {xs : List Int} {fs : List (Int × Int × Int)} (ha : ISl a xs) (hb : Sp b fs) (hf : fs.length ≤ 1000) (hx4 : xs.length ≤ 1000) : ACalls Try.prog 43 [a, b] [] fun r H' => H' = [] ∧ r = Bo (isF xs fs) := by
  obtain ⟨⟨nl, c, sz, rfl, hs⟩, hlen, hx⟩ := ha
  obtain ⟨⟨nl', c', sz', rfl, hs'⟩, hlen', hx'⟩ := hb
  have base : ACalls Try.prog 43 [.imm nl c sz (xs.map I), .imm nl' c' sz' (fs.map specV)] [] fun r _ => r = Bo (isF xs fs) := by
    apply rIs_call
    repeat first | refine AWp.seq ?_ | refine AWp.block ?_
    refine AWp.ops ?_
    simp
    have w2 := wrap_i64 (n := 2 * (xs.length : Int)) (by omega) (by omega)
    repeat first | refine AWp.seq ?_ | refine AWp.block ?_
    refine AWp.ops ?_
    simp [w2]
    refine AWp.cond (b := decide (2 * (xs.length : Int) < fs.length)) (by simp) ?_ ?_
    · intro h
      have h : 2 * (xs.length : Int) < fs.length := by simpa using h
      have h : 2 * xs.length < fs.length := by omega
      repeat first | refine AWp.seq ?_ | refine AWp.block ?_
      refine AWp.ops ?_
      simp
      refine AWp.ret ?_
      simp
      refine retOk.of rfl ?_
      simp [isF, h]
    intro h
    have h : ¬ 2 * (xs.length : Int) < fs.length := by simpa using h
    have hfx : ¬ 2 * xs.length < fs.length := by omega
    refine AWp.skip ?_
    simp only [qSeq]
    have e1 : (xs.length : Int) * 8 ≤ 281474976710656 := by omega
    have e2 : (xs.length : Int) ≤ 9223372036854775807 := by omega
    repeat first | refine AWp.seq ?_ | refine AWp.block ?_
    refine AWp.ops ?_
    simp [e1, e2]
    repeat first | refine AWp.seq ?_ | refine AWp.block ?_
    refine AWp.ops ?_
    simp [e1, e2]
    refine AWp.cutE (σ := List Int × List Int) (fun q => (q.1.length = xs.length ∧ q.2.length = xs.length) ∧ isF xs fs = isEnd q.1 q.2) (fun q => [.imm nl c sz (xs.map I), .und, .und, .und, Bo false, .slc 0 xs.length 0 xs.length none, .slc 1 xs.length 0 xs.length none, .und, .und, .und, .und, .und, .und, .und, .und, .und, .und, .und, .und, .und, .und, .und, .und, .und, .und, .und, .und, .und, .und, .und, .und, .und, .und, .und, .und, .und, .und, .und, .und, .und, .und, .und, .und, .und, .und, .und, .und, .und, .und, .und, .und, .und, .und, .und, .und, .und, .und, .und, .und, .und, .und, .und, .und, .und, .und, .und, .und, .und, .und, .und, .und, .und, .und, .und, .und, .und, .und, .und, .und, .und, .und, .und, .und, .und, .und, .und, .und, .und, .und, .und, .und, .und, .und, .und, .und, .und, .und, .und, .und, .und, .und, .und, .und, .und, .und, .und, .und, .und, .und, .und, .und, .und, .und, .und, .und, .und, .und, .und, .und, .und, .und, .und, .und, .und, .und, .und, .und, .und, .und, .und, .und, .und, .und, .und, .und, .und]) (fun q => [intOb q.1, intOb q.2]) ?_ ?_
    ·
      repeat first | refine AWp.seq ?_ | refine AWp.block ?_
      refine AWp.ops ?_
      simp
      obtain ⟨J, hJ⟩ : ∃ J : Nat → List AV → List AObj → Prop, J = fun i fr H => i ≤ fs.length ∧ ∃ (P : List Int) (B : List Int) (bf : Int), ((P.length = xs.length ∧ B.length = xs.length) ∧ (∀ p ∈ P, 0 ≤ p ∧ p ≤ i) ∧ (∀ p ∈ B, 0 ≤ p ∧ p ≤ i) ∧ isGo xs fs (List.replicate xs.length 0) (List.replicate xs.length 0) 0 = isGo xs (fs.drop i) P B bf ∧ (i = 0 → bf = 0) ∧ ∀ h : i - 1 < fs.length, 0 < i → bf = fs[i - 1].1) ∧ H = [intOb P, intOb B] ∧
        fr = [.imm nl c sz (xs.map I), .imm nl' c' sz' (fs.map specV), .und, .und, Bo false, .slc 0 xs.length 0 xs.length none, .slc 1 xs.length 0 xs.length none, .und, .und, .und, .und, .und, .und, .und, .und, .und, .und, .und, .und, .und, .und, .und, .und, .imm nl' c' sz' (fs.map specV), I fs.length, I i, .und, .und, .und, .und, .und, .und, .und, .und, .und, .und, .und, .und, .und, .und, .und, .und, .und, .und, .und, .und, .und, .und, .und, .und, .und, .und, .und, .und, .und, .und, .und, .und, .und, .und, .und, .und, .und, .und, .und, .und, .und, .und, .und, .und, .und, .und, .und, .und, .und, .und, .und, .und, .und, .und, .und, .und, .und, .und, .und, .und, .und, .und, .und, .und, .und, .und, .und, .und, .und, .und, .und, .und, .und, .und, .und, .und, .und, .und, .und, .und, .und, .und, .und, .und, .und, .und, .und, .und, .und, .und, .und, .und, .und, .und, .und, .und, .und, .und, .und, .und, .und, .und, .und, .und, .und, .und, .und, .und, .und, .und] := ⟨_, rfl⟩
      refine AWp.block (AWp.loop J (fun i => fs.length - i) 0 (Weak.slots [0, 1, 4, 5, 6, 23, 24, 25]) (by rw [hJ]; exact ⟨by omega, List.replicate xs.length 0, List.replicate xs.length 0, 0, ⟨⟨by simp, by simp⟩, by intro p hp; simp at hp; omega, by intro p hp; simp at hp; omega, rfl, fun _ => rfl, by omega⟩, by simp, by simp⟩) ?_)
      intro i fr H hI
      rw [hJ] at hI
      obtain ⟨hi, P, B, bf, hinv, rfl, rfl⟩ := hI
      repeat first | refine AWp.seq ?_ | refine AWp.block ?_
      refine AWp.ops ?_
      simp
      refine AWp.seq (AWp.cond (b := decide (i < fs.length)) (by simp <;> omega) ?_ ?_)
      ·
        intro hb
        have hb : i < fs.length := by simpa using hb
        refine AWp.skip ?_
        simp only [qSeq]
        obtain ⟨⟨hPl, hBl⟩, hPv, hBv, hgo, hb0, hbp⟩ := hinv
        have hsz3 := sz3_of hs' hb
        subst hsz3
        have hgs := spec_get hb
        have hnx : ∀ k, fs[i].1 = k → ∀ h : i + 1 - 1 < fs.length, 0 < i + 1 → k = fs[i + 1 - 1].1 := by
          intro k hk h _
          simp only [Nat.add_sub_cancel]
          exact hk.symm
        rw [List.drop_eq_getElem_cons hb] at hgo
        simp only [isGo] at hgo
        have hbad : ∀ {q}, fs[i] = q → isStep xs q P B bf = none → isF xs fs = false := by
          rintro _ rfl h
          rw [h] at hgo
          simp only [isF, if_neg hfx]
          rw [hgo]
          rfl
        generalize hsp : fs[i] = sp at hgs hgo hnx
        obtain ⟨k, mo, z⟩ := sp
        simp only at hgs hgo hnx
        have hbad := hbad hsp
        repeat first | refine AWp.seq ?_ | refine AWp.block ?_
        refine AWp.ops ?_
        simp [hgs]
        by_cases c1 : mo < 0
        ·
          repeat first | refine AWp.seq ?_ | refine AWp.block ?_
          refine AWp.ops ?_
          simp [c1, Int.not_le.2 c1]
          refine AWp.cond (b := true) (by simp) (fun _ => ?_) (fun h => by cases h)
          repeat first | refine AWp.seq ?_ | refine AWp.block ?_
          refine AWp.ops ?_
          simp
          refine AWp.ret ?_
          simp
          refine retOk.of rfl ?_
          simp [hbad (by simp [isStep, c1])]
        by_cases c2 : (xs.length : Int) ≤ mo
        ·
          repeat first | refine AWp.seq ?_ | refine AWp.block ?_
          refine AWp.ops ?_
          simp [c1, Int.not_lt.1 c1, c2]
          refine AWp.cond (b := true) (by simp [c2]) (fun _ => ?_) (fun h => by cases h)
          repeat first | refine AWp.seq ?_ | refine AWp.block ?_
          refine AWp.ops ?_
          simp
          refine AWp.ret ?_
          simp
          refine retOk.of rfl ?_
          simp [hbad (by simp [isStep, c2])]
        by_cases c3 : k < 0
        ·
          repeat first | refine AWp.seq ?_ | refine AWp.block ?_
          refine AWp.ops ?_
          simp [c1, Int.not_lt.1 c1, c2, Int.not_le.1 c2, c3, Int.not_le.2 c3]
          refine AWp.cond (b := true) (by simp [c3]) (fun _ => ?_) (fun h => by cases h)
          repeat first | refine AWp.seq ?_ | refine AWp.block ?_
          refine AWp.ops ?_
          simp
          refine AWp.ret ?_
          simp
          refine retOk.of rfl ?_
          simp [hbad (by simp [isStep, c3])]
        by_cases c4 : 4 < k
        ·
          repeat first | refine AWp.seq ?_ | refine AWp.block ?_
          refine AWp.ops ?_
          simp [c1, Int.not_lt.1 c1, c2, Int.not_le.1 c2, c3, Int.not_lt.1 c3]
          refine AWp.cond (b := true) (by simp [c4]) (fun _ => ?_) (fun h => by cases h)
          repeat first | refine AWp.seq ?_ | refine AWp.block ?_
          refine AWp.ops ?_
          simp
          refine AWp.ret ?_
          simp
          refine retOk.of rfl ?_
          simp [hbad (by simp [isStep, c4])]
        repeat first | refine AWp.seq ?_ | refine AWp.block ?_
        refine AWp.ops ?_
        simp [c1, Int.not_lt.1 c1, c2, Int.not_le.1 c2, c3, Int.not_lt.1 c3]
        refine AWp.cond (b := false) (by simp [c4] <;> omega) (fun h => by cases h) (fun _ => ?_)
        refine AWp.skip ?_
        simp only [qSeq]
        obtain ⟨j, rfl⟩ : ∃ j : Nat, mo = j := ⟨mo.toNat, by omega⟩
        have hj : j < xs.length := by omega
        have hszx := sz_of hs hj
        subst hszx
        have hjP : j < P.length := by omega
        have hjB : j < B.length := by omega
        have gP : P.getD j 0 = P[j] := by simp [hjP]
        have gB : B.getD j 0 = B[j] := by simp [hjB]
        have gX : xs.getD j 0 = xs[j] := by simp [hj]
        have hPj := hPv P[j] (List.getElem_mem hjP)
        have hBj := hBv B[j] (List.getElem_mem hjB)
        obtain ⟨lo, hlo⟩ : ∃ lo, lo = (bf == 2 || bf == 3) := ⟨_, rfl⟩
        have hst : isStep xs (k, (j : Int), z) P B bf = if lo ≠ (k == 3) then none else if k = 4 then (if P[j] = 0 ∨ z < 1 ∨ xs[j].tmod z ≠ 0 then none else some (P, B.set j (B[j] + 1))) else if z ≠ 0 then none else some (P.set j (P[j] + 1), B) := by
          simp only [isStep]
          rw [if_neg (by omega), Int.toNat_natCast, gP, gB, gX, hlo]
        refine AWp.cut [.imm nl c 1 (xs.map I), .imm nl' c' 3 (fs.map specV), .und, .und, Bo false, .slc 0 xs.length 0 xs.length none, .slc 1 xs.length 0 xs.length none, .und, .ptr 2 1 0 0, Bo lo, .und, .und, .und, .und, .und, .und, .und, .und, .und, .und, .und, .und, .und, .imm nl' c' 3 (fs.map specV), I fs.length, I i, .und, .und, .und, .und, .und, .und, .und, .und, .und, .und, .und, .und, .und, .und, .und, .und, .und, .und, .und, .und, .und, .und, .und, .und, .und, .und, .und, .und, .und, .und, .und, .und, .und, .und, .und, .und, .und, .und, .und, .und, .und, .und, .und, .und, .und, .und, .und, .und, .und, .und, .und, .und, .und, .und, .und, .und, .und, .und, .und, .und, .und, .und, .und, .und, .und, .und, .und, .und, .und, .und, .und, .und, .und, .und, .und, .und, .und, .und, .und, .und, .und, .und, .und, .und, .und, .und, .und, .und, .und, .und, .und, .und, .und, .und, .und, .und, .und, .und, .und, .und, .und, .und, .und, .und, .und, .und, .und, .und, .und, .und] [intOb P, intOb B, specO (k, j, z)] ?_ ?_
        · refine AWp.ops ?_
          rcases Nat.eq_zero_or_pos i with h0 | h0
          · have hbf := hb0 h0
            subst h0
            simp
            exact (Weak.slots [0, 1, 4, 5, 6, 8, 9, 23, 24, 25]).to (by simp [hlo, hbf]) rfl
          · obtain ⟨q, rfl⟩ : ∃ q, i = q + 1 := ⟨i - 1, by omega⟩
            have hq : q < fs.length := by omega
            have hbf := hbp (by omega) (by omega)
            simp only [Nat.add_sub_cancel] at hbf
            have hgq := spec_get hq
            have hwq : IntKind.i64.wrap ((q : Int) + 1 - 1) = q := by rw [wrap_i64 (by omega) (by omega)]; omega
            have hwq' : IntKind.i64.wrap (q : Int) = q := wrap_i64 (by omega) (by omega)
            have hqp : (0 : Int) < (q : Int) + 1 := by omega
            by_cases d2 : fs[q].1 = 2
            · simp [hqp, hwq, hwq', hgq, d2]
              exact (Weak.slots [0, 1, 4, 5, 6, 8, 9, 23, 24, 25]).to (by simp [hlo, hbf, d2]) rfl
            · simp [hqp, hwq, hwq', hgq, d2]
              exact (Weak.slots [0, 1, 4, 5, 6, 8, 9, 23, 24, 25]).to (by simp [hlo, hbf, d2]) rfl
        have nextP : ∀ (P2 B2 : List Int) (fr : List AV), isStep xs (k, (j : Int), z) P B bf = some (P2, B2) → (P2.length = xs.length ∧ B2.length = xs.length) → (∀ p ∈ P2, 0 ≤ p ∧ p ≤ (i : Int) + 1) → (∀ p ∈ B2, 0 ≤ p ∧ p ≤ (i : Int) + 1) →
            J (i + 1) [.imm nl c 1 (xs.map I), .imm nl' c' 3 (fs.map specV), .und, .und, Bo false, .slc 0 xs.length 0 xs.length none, .slc 1 xs.length 0 xs.length none, .und, .und, .und, .und, .und, .und, .und, .und, .und, .und, .und, .und, .und, .und, .und, .und, .imm nl' c' 3 (fs.map specV), I fs.length, I ((i : Int) + 1), .und, .und, .und, .und, .und, .und, .und, .und, .und, .und, .und, .und, .und, .und, .und, .und, .und, .und, .und, .und, .und, .und, .und, .und, .und, .und, .und, .und, .und, .und, .und, .und, .und, .und, .und, .und, .und, .und, .und, .und, .und, .und, .und, .und, .und, .und, .und, .und, .und, .und, .und, .und, .und, .und, .und, .und, .und, .und, .und, .und, .und, .und, .und, .und, .und, .und, .und, .und, .und, .und, .und, .und, .und, .und, .und, .und, .und, .und, .und, .und, .und, .und, .und, .und, .und, .und, .und, .und, .und, .und, .und, .und, .und, .und, .und, .und, .und, .und, .und, .und, .und, .und, .und, .und, .und, .und, .und, .und, .und, .und] [intOb P2, intOb B2] := by
          intro P2 B2 fr h1 h2 h3 h4
          rw [hJ]
          refine ⟨by omega, P2, B2, k, ⟨h2, by simpa using h3, by simpa using h4, ?_, by omega, fun h _ => ?_⟩, rfl, by simp⟩
          · rw [hgo, h1]; rfl
          · exact hnx k rfl h (by omega)
        have hwi := wrap_i64 (n := (i : Int) + 1) (by omega) (by omega)
        refine AWp.seq (AWp.seq (AWp.ops ?_))
        by_cases hl : lo = (k == 3)
        case neg =>
          have hl' : (lo == (k == 3)) = false := by simpa using hl
          simp [hl']
          refine AWp.cond (b := true) (by simp [hl]) (fun _ => ?_) (fun h => by cases h)
          repeat first | refine AWp.seq ?_ | refine AWp.block ?_
          refine AWp.ops ?_
          simp
          refine AWp.ret ?_
          simp
          refine retOk.of rfl ?_
          simp [hbad (by rw [hst, if_pos hl])]
        rw [if_neg (by simpa using hl)] at hst
        have hl' : (lo == (k == 3)) = true := by simpa using hl
        simp [hl']
        refine AWp.cond (b := false) (by simp [hl]) (fun h => by cases h) (fun _ => ?_)
        refine AWp.skip ?_
        simp only [qSeq]
        repeat first | refine AWp.seq ?_ | refine AWp.block ?_
        refine AWp.ops ?_
        simp
        by_cases k4 : k = 4
        · rw [if_pos k4] at hst
          refine AWp.cond (b := true) (by simp [k4]) (fun _ => ?_) (fun h => by cases h)
          refine AWp.seq (AWp.seq (AWp.ops ?_))
          by_cases p0 : P[j] = 0
          · simp [hj, hPl, hjP, p0]
            refine AWp.cond (b := true) (by simp) (fun _ => ?_) (fun h => by cases h)
            repeat first | refine AWp.seq ?_ | refine AWp.block ?_
            refine AWp.ops ?_
            simp
            refine AWp.ret ?_
            simp
            refine retOk.of rfl ?_
            simp [hbad (by rw [hst, if_pos (.inl p0)])]
          by_cases z1 : z < 1
          · simp [hj, hPl, hjP, p0, z1]
            refine AWp.cond (b := true) (by simp) (fun _ => ?_) (fun h => by cases h)
            repeat first | refine AWp.seq ?_ | refine AWp.block ?_
            refine AWp.ops ?_
            simp
            refine AWp.ret ?_
            simp
            refine retOk.of rfl ?_
            simp [hbad (by rw [hst, if_pos (.inr (.inl z1))])]
          have zn : ¬ z = 0 := by omega
          by_cases r0 : xs[j].tmod z = 0
          · simp [hj, hPl, hjP, p0, z1, Int.not_lt.1 z1, zn, r0]
            refine AWp.cond (b := false) (by simp) (fun h => by cases h) (fun _ => ?_)
            refine AWp.skip ?_
            simp only [qSeq]
            have hwb := wrap_i64 (n := B[j] + 1) (by omega) (by omega)
            rw [if_neg (by intro h; rcases h with h | h | h; exact p0 h; exact z1 h; exact h r0)] at hst
            repeat first | refine AWp.seq ?_ | refine AWp.block ?_
            refine AWp.ops ?_
            simp [hj, hBl, hjB, hwb]
            repeat first | refine AWp.seq ?_ | refine AWp.block ?_
            refine AWp.ops ?_
            simp
            refine ⟨i + 1, _, _, ((Weak.slots [0, 1, 4, 5, 6, 23, 24, 25]).trans (Weak.freeze 2 2 (by simp))).to (by simp [hwi]) (by simp [frzH, intOb, List.map_set]), nextP P (B.set j (B[j] + 1)) [] hst ⟨hPl, by simpa using hBl⟩ (fun p hp => by have := hPv p hp; omega) (fun p hp => ?_) , by omega⟩
            rcases List.mem_or_eq_of_mem_set hp with hp | rfl
            · have := hBv p hp; omega
            · omega
          · simp [hj, hPl, hjP, p0, z1, Int.not_lt.1 z1, zn, r0]
            refine AWp.cond (b := true) (by simp [r0]) (fun _ => ?_) (fun h => by cases h)
            repeat first | refine AWp.seq ?_ | refine AWp.block ?_
            refine AWp.ops ?_
            simp
            refine AWp.ret ?_
            simp
            refine retOk.of rfl ?_
            simp [hbad (by rw [hst, if_pos (.inr (.inr r0))])]
        · rw [if_neg k4] at hst
          refine AWp.cond (b := false) (by simp [k4]) (fun h => by cases h) (fun _ => ?_)
          refine AWp.seq (AWp.seq (AWp.ops ?_))
          by_cases z0 : z = 0
          · simp [z0]
            refine AWp.cond (b := false) (by simp) (fun h => by cases h) (fun _ => ?_)
            refine AWp.skip ?_
            simp only [qSeq]
            have hwb := wrap_i64 (n := P[j] + 1) (by omega) (by omega)
            rw [if_neg (by simpa using z0)] at hst
            repeat first | refine AWp.seq ?_ | refine AWp.block ?_
            refine AWp.ops ?_
            simp [hj, hPl, hjP, hwb]
            repeat first | refine AWp.seq ?_ | refine AWp.block ?_
            refine AWp.ops ?_
            simp
            refine ⟨i + 1, _, _, ((Weak.slots [0, 1, 4, 5, 6, 23, 24, 25]).trans (Weak.freeze 2 2 (by simp))).to (by simp [hwi]) (by simp [frzH, intOb, List.map_set]), nextP (P.set j (P[j] + 1)) B [] hst ⟨by simpa using hPl, hBl⟩ (fun p hp => ?_) (fun p hp => by have := hBv p hp; omega), by omega⟩
            rcases List.mem_or_eq_of_mem_set hp with hp | rfl
            · have := hPv p hp; omega
            · omega
          · simp [z0]
            refine AWp.cond (b := true) (by simp [z0]) (fun _ => ?_) (fun h => by cases h)
            repeat first | refine AWp.seq ?_ | refine AWp.block ?_
            refine AWp.ops ?_
            simp
            refine AWp.ret ?_
            simp
            refine retOk.of rfl ?_
            simp [hbad (by rw [hst, if_pos z0])]
      ·
        intro hb
        have hb : ¬ i < fs.length := by simpa using hb
        refine AWp.exit ?_
        simp [qSeq, qBlock]
        obtain ⟨⟨hPl, hBl⟩, hPv, hBv, hgo, hb0, hbp⟩ := hinv
        rw [List.drop_eq_nil_of_le (by omega), isGo] at hgo
        refine ⟨P, B, ⟨⟨hPl, hBl⟩, ?_⟩, (Weak.slots [0, 4, 5, 6]).to (by simp) rfl⟩
        simp only [isF, if_neg hfx, hgo]
    rintro ⟨P, B⟩ ⟨⟨hPl, hBl⟩, hF⟩
    simp only at hPl hBl hF
    repeat first | refine AWp.seq ?_ | refine AWp.block ?_
    refine AWp.ops ?_
    simp
    obtain ⟨J, hJ⟩ : ∃ J : Nat → List AV → List AObj → Prop, J = fun i fr H => i ≤ xs.length ∧ (isEnd P B = isEnd (P.drop i) (B.drop i)) ∧ H = [intOb P, intOb B] ∧
      fr = [.und, .und, .und, .und, Bo false, .slc 0 xs.length 0 xs.length none, .slc 1 xs.length 0 xs.length none, .und, .und, .und, .und, .und, .und, .und, .und, .und, .und, .und, .und, .und, .und, .und, .und, .und, .und, .und, .und, .und, .und, .und, .und, .und, .und, .und, .und, .und, .und, .und, .und, .und, .und, .und, .und, .und, .und, .und, .und, .und, .und, .und, .und, .und, .und, .und, .und, .und, .und, .und, .und, .und, .und, .und, .und, .und, .und, .und, .und, .und, .und, .und, .und, .und, .und, .und, .und, .und, .und, .und, .und, .und, .und, .und, .und, .und, .und, .und, .und, .und, .und, .und, .und, .und, .und, .und, .und, .und, .und, .und, .und, .und, .und, .und, .und, .und, .und, .und, .und, .und, .und, .und, .und, .und, .und, .und, .und, .und, .und, .und, .und, I xs.length, I i, .und, .und, .und, .und, .und, .und, .und, .und, .und, .und, .und, .und, .und, .und, .und] := ⟨_, rfl⟩
    refine AWp.block (AWp.loop J (fun i => xs.length - i) 0 (Weak.slots [4, 5, 6, 119, 120]) (by rw [hJ]; exact ⟨by omega, rfl, by simp, by simp⟩) ?_)
    intro i fr H hI
    rw [hJ] at hI
    obtain ⟨hi, hinv, rfl, rfl⟩ := hI
    repeat first | refine AWp.seq ?_ | refine AWp.block ?_
    refine AWp.ops ?_
    simp
    refine AWp.seq (AWp.cond (b := decide (i < xs.length)) (by simp <;> omega) ?_ ?_)
    ·
      intro hb
      have hb : i < xs.length := by simpa using hb
      refine AWp.skip ?_
      simp only [qSeq]
      have h1 : i < P.length := by omega
      have h2 : i < B.length := by omega
      rw [List.drop_eq_getElem_cons h1, List.drop_eq_getElem_cons h2] at hinv
      simp only [isEnd] at hinv
      repeat first | refine AWp.seq ?_ | refine AWp.block ?_
      refine AWp.ops ?_
      simp
      repeat first | refine AWp.seq ?_ | refine AWp.block ?_
      refine AWp.ops ?_
      simp [hPl, hBl, hb, h1, h2]
      by_cases c1 : P[i] = 1
      · simp [c1]
        by_cases c2 : 1 < B[i]
        · refine AWp.cond (b := true) (by simp [c2]) (fun _ => ?_) (fun h => by cases h)
          repeat first | refine AWp.seq ?_ | refine AWp.block ?_
          refine AWp.ops ?_
          simp
          refine AWp.ret ?_
          simp
          refine retOk.of rfl ?_
          rw [hF, hinv]; simp [c1, c2]
        · refine AWp.cond (b := false) (by simp [c2] <;> omega) (fun h => by cases h) (fun _ => ?_)
          refine AWp.skip ?_
          simp only [qSeq, qBlock]
          repeat first | refine AWp.seq ?_ | refine AWp.block ?_
          refine AWp.ops ?_
          simp
          refine ⟨i + 1, _, _, Weak.slots [4, 5, 6, 119, 120], ?_, by omega⟩
          rw [hJ]
          refine ⟨by omega, ?_, by simp, by simp [wrap_i64 (n := (i : Int) + 1) (by omega) (by omega)]⟩
          rw [hinv]; simp [c1, Int.not_lt.1 c2]
      · simp [c1]
        refine AWp.cond (b := true) (by simp) (fun _ => ?_) (fun h => by cases h)
        repeat first | refine AWp.seq ?_ | refine AWp.block ?_
        refine AWp.ops ?_
        simp
        refine AWp.ret ?_
        simp
        refine retOk.of rfl ?_
        rw [hF, hinv]; simp [c1]
    ·
      intro hb
      have hb : ¬ i < xs.length := by simpa using hb
      refine AWp.exit ?_
      simp [qSeq, qBlock]
      rw [List.drop_eq_nil_of_le (by omega), List.drop_eq_nil_of_le (by omega)] at hinv
      repeat first | refine AWp.seq ?_ | refine AWp.block ?_
      refine AWp.ops ?_
      simp
      refine AWp.ret ?_
      simp
      refine retOk.of rfl ?_
      rw [hF, hinv]
      rfl
  refine (base.frozen 1).mono ?_
  rintro q H' ⟨rfl, r, G, rfl, rfl⟩
  exact ⟨rfl, rfl⟩
end Go.Fw
