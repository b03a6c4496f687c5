import Derived.Test.YtkfooghdpfhiaaaFwsize3
namespace Go.Fw
open Go Go.RowKit Go.Proofs
set_option maxRecDepth 100000
set_option linter.unusedSimpArgs false
set_option linter.unusedVariables false

def prL (xs : List Int) : Int := xs.foldl (· * ·) 1
theorem mulAll_fold : ∀ (xs : List Int) (n : Int), (mulAll xs n).2 = 0 → (mulAll xs n).1 = xs.foldl (· * ·) n
  | [], n, _ => rfl
  | s :: r, n, h => by
    simp only [mulAll] at h ⊢
    split at h
    · simp at h
    · rename_i hc
      rw [if_neg hc]
      exact mulAll_fold r (n * s) h
theorem fold_zero : ∀ (xs : List Int), xs.foldl (· * ·) (0 : Int) = 0
  | [] => rfl
  | s :: r => by rw [List.foldl_cons, Int.zero_mul]; exact fold_zero r
theorem fold_mem : ∀ (xs : List Int) (n : Int), 0 ∈ xs → xs.foldl (· * ·) n = 0
  | [], n, h => by simp at h
  | s :: r, n, h => by
    rw [List.foldl_cons]
    rcases List.mem_cons.1 h with h | h
    · rw [← h, Int.mul_zero, fold_zero]
    · exact fold_mem r _ h
theorem cells_fold {xs : List Int} (h : (cells xs).2 = 0) : (cells xs).1 = prL xs := by
  unfold cells at h ⊢
  split at h
  · simp at h
  · rename_i h1
    rw [if_neg h1]
    split at h
    · rename_i h2
      rw [if_pos h2]
      exact (fold_mem xs 1 h2).symm
    · rename_i h2
      rw [if_neg h2]
      exact mulAll_fold xs 1 h
theorem wGo_len : ∀ {fs : List (Int × Int × Int)} {Z W : List Int} {cs n : Int}, Z.length = fs.length → wGo cs fs Z n = some W → W.length = fs.length
  | [], [], W, cs, n, _, h => by simp only [wGo, Option.some.injEq] at h; subst h; rfl
  | [], _ :: _, W, cs, n, hl, _ => by simp at hl
  | _ :: _, [], W, cs, n, hl, _ => by simp at hl
  | s :: r, z :: q, W, cs, n, hl, h => by
    simp only [wGo, Option.bind_eq_some_iff, Option.map_eq_some_iff] at h
    obtain ⟨m, h1, W2, h2, rfl⟩ := h
    have := wGo_len (by simpa using hl) h2
    simp [this]

def SizeDense_45 : AC := (.seq (.ops [⟨(some 128), none, (.k (.mov (.t 5)))⟩, ⟨(some 129), none, (.k (.mov (.t 128)))⟩, ⟨(some 130), (some (129, true)), (.k (.mov (.t 6)))⟩, ⟨(some 131), (some (129, true)), (.k (.len (.t 130)))⟩, ⟨(some 132), (some (129, true)), (.k (.mov (.t 1)))⟩, ⟨(some 133), (some (129, true)), (.k (.len (.t 132)))⟩, ⟨(some 134), (some (129, true)), (.k (.bin .eql (.t 131) (.t 133)))⟩, ⟨(some 135), none, (.k (.pick (.t 129) (.t 134) (.c (.sc (.bool false)))))⟩, ⟨(some 4), none, (.k (.mov (.t 135)))⟩]) .ret)
def SizeDense_44 : AC := (.seq (.ops [⟨(some 88), none, (.k (.mov (.t 6)))⟩, ⟨(some 89), none, (.k (.mov (.t 14)))⟩, ⟨(some 90), none, (.k (.iad 1 (.t 88) (.t 89)))⟩, ⟨(some 91), none, (.k (.ld 1 false (.t 90)))⟩, ⟨(some 92), none, (.k (.mov (.t 10)))⟩, ⟨(some 93), none, (.k (.bin .gtr (.t 91) (.t 92)))⟩, ⟨(some 94), none, (.k (.mov (.t 93)))⟩, ⟨(some 95), (some (94, false)), (.k (.mov (.t 6)))⟩, ⟨(some 96), (some (94, false)), (.k (.mov (.t 14)))⟩, ⟨(some 97), (some (94, false)), (.k (.iad 1 (.t 95) (.t 96)))⟩, ⟨(some 98), (some (94, false)), (.k (.ld 1 false (.t 97)))⟩, ⟨(some 99), (some (94, false)), (.k (.bin .gtr (.t 98) (.c (.sc (.int .i64 65536)))))⟩, ⟨(some 100), none, (.k (.pick (.t 94) (.c (.sc (.bool true))) (.t 99)))⟩]) (.cond (.t 100) (.seq (.ops [⟨(some 4), none, (.k (.mov (.c (.sc (.bool false)))))⟩]) .ret) .skip))
def SizeDense_43 : AC := (.seq (.ops [⟨(some 117), none, (.k (.mov (.t 6)))⟩, ⟨(some 118), none, (.k (.mov (.t 14)))⟩, ⟨(some 119), none, (.k (.iad 1 (.t 117) (.t 118)))⟩, ⟨(some 120), none, (.k (.ld 1 false (.t 119)))⟩, ⟨(some 121), none, (.k (.mov (.t 13)))⟩, ⟨(some 122), none, (.k (.bin .neq (.t 120) (.t 121)))⟩]) (.cond (.t 122) (.seq (.ops [⟨(some 4), none, (.k (.mov (.c (.sc (.bool false)))))⟩]) .ret) .skip))
def SizeDense_42 : AC := (.cond (.t 115) SizeDense_43 SizeDense_44)
def SizeDense_41 : AC := (.seq (.ops [⟨(some 116), none, (.k (.bin .eql (.t 87) (.c (.sc (.int .i64 3)))))⟩, ⟨(some 115), none, (.k (.mov (.t 116)))⟩]) SizeDense_42)
def SizeDense_40 : AC := (.seq (.ops [⟨(some 104), none, (.k (.mov (.t 6)))⟩, ⟨(some 105), none, (.k (.mov (.t 14)))⟩, ⟨(some 106), none, (.k (.iad 1 (.t 104) (.t 105)))⟩, ⟨(some 107), none, (.k (.ld 1 false (.t 106)))⟩, ⟨(some 108), none, (.k (.mov (.t 13)))⟩, ⟨(some 109), none, (.k (.mov (.t 8)))⟩, ⟨(some 110), none, (.k (.mov (.t 14)))⟩, ⟨(some 111), none, (.k (.iad 1 (.t 109) (.t 110)))⟩, ⟨(some 112), none, (.k (.ld 1 false (.t 111)))⟩, ⟨(some 113), none, (.k (.bin .mul (.t 108) (.t 112)))⟩, ⟨(some 114), none, (.k (.bin .neq (.t 107) (.t 113)))⟩]) (.cond (.t 114) (.seq (.ops [⟨(some 4), none, (.k (.mov (.c (.sc (.bool false)))))⟩]) .ret) .skip))
def SizeDense_39 : AC := (.cond (.t 101) SizeDense_40 SizeDense_41)
def SizeDense_38 : AC := (.seq (.ops [⟨(some 102), none, (.k (.bin .eql (.t 87) (.c (.sc (.int .i64 0)))))⟩, ⟨(some 101), none, (.k (.mov (.t 102)))⟩]) (.cond (.t 101) .skip (.ops [⟨(some 103), none, (.k (.bin .eql (.t 87) (.c (.sc (.int .i64 4)))))⟩, ⟨(some 101), none, (.k (.mov (.t 103)))⟩])))
def SizeDense_37 : AC := (.seq SizeDense_38 SizeDense_39)
def SizeDense_36 : AC := (.block 4 SizeDense_37)
def SizeDense_35 : AC := (.seq (.ops [⟨(some 86), none, (.k (.fad 0 (.t 15)))⟩, ⟨(some 87), none, (.k (.ld 1 false (.t 86)))⟩]) SizeDense_36)
def SizeDense_34 : AC := (.seq SizeDense_35 (.ops [⟨(some 123), none, (.k (.mov (.t 6)))⟩, ⟨(some 124), none, (.k (.mov (.t 14)))⟩, ⟨(some 125), none, (.k (.iad 1 (.t 123) (.t 124)))⟩, ⟨(some 126), none, (.k (.ld 1 false (.t 125)))⟩, ⟨(some 13), none, (.k (.mov (.t 126)))⟩]))
def SizeDense_33 : AC := (.seq (.ops [⟨(some 83), none, (.k (.mov (.t 81)))⟩, ⟨(some 84), none, (.k (.iad 3 (.t 79) (.t 81)))⟩, ⟨(some 85), none, (.k (.ld 3 true (.t 84)))⟩, ⟨(some 15), none, (.k (.new 29 3 (.c (.agg [(.sc (.int .i64 0)), (.sc (.int .i64 0)), (.sc (.int .i64 0))]))))⟩, ⟨(some 14), none, (.k (.mov (.t 83)))⟩, ⟨none, none, (.k (.st 3 (.t 15) (.t 85)))⟩]) SizeDense_34)
def SizeDense_32 : AC := (.block 3 SizeDense_33)
def SizeDense_31 : AC := (.seq SizeDense_32 (.ops [⟨(some 127), none, (.k (.bin .add (.t 81) (.c (.sc (.int .i64 1)))))⟩, ⟨(some 81), none, (.k (.mov (.t 127)))⟩]))
def SizeDense_30 : AC := (.seq (.cond (.t 82) .skip (.exit 2)) SizeDense_31)
def SizeDense_29 : AC := (.seq (.ops [⟨(some 82), none, (.k (.bin .lss (.t 81) (.t 80)))⟩]) SizeDense_30)
def SizeDense_28 : AC := (.loop SizeDense_29)
def SizeDense_27 : AC := (.block 2 SizeDense_28)
def SizeDense_26 : AC := (.seq (.ops [⟨(some 79), none, (.k (.mov (.t 1)))⟩, ⟨(some 80), none, (.k (.len (.t 79)))⟩, ⟨(some 81), none, (.k (.mov (.c (.sc (.int .i64 0)))))⟩]) SizeDense_27)
def SizeDense_25 : AC := (.seq SizeDense_26 SizeDense_45)
def SizeDense_24 : AC := (.seq (.ops [⟨(some 13), none, (.k (.mov (.c (.sc (.int .i64 1)))))⟩]) SizeDense_25)
def SizeDense_23 : AC := (.seq (.ops [⟨(some 67), none, (.k (.mov (.t 6)))⟩, ⟨(some 68), none, (.k (.len (.t 67)))⟩, ⟨(some 69), none, (.k (.mov (.t 1)))⟩, ⟨(some 70), none, (.k (.len (.t 69)))⟩, ⟨(some 71), none, (.k (.bin .neq (.t 68) (.t 70)))⟩, ⟨(some 72), none, (.k (.mov (.t 71)))⟩, ⟨(some 73), (some (72, false)), (.k (.mov (.t 8)))⟩, ⟨(some 74), (some (72, false)), (.k (.len (.t 73)))⟩, ⟨(some 75), (some (72, false)), (.k (.mov (.t 1)))⟩, ⟨(some 76), (some (72, false)), (.k (.len (.t 75)))⟩, ⟨(some 77), (some (72, false)), (.k (.bin .neq (.t 74) (.t 76)))⟩, ⟨(some 78), none, (.k (.pick (.t 72) (.c (.sc (.bool true))) (.t 77)))⟩]) (.cond (.t 78) (.seq (.ops [⟨(some 4), none, (.k (.mov (.c (.sc (.bool false)))))⟩]) .ret) .skip))
def SizeDense_22 : AC := (.seq SizeDense_23 SizeDense_24)
def SizeDense_21 : AC := (.seq (.ops [⟨(some 60), none, (.k (.mov (.t 12)))⟩, ⟨(some 61), none, (.k (.bin .gtr (.t 60) (.c (.sc (.int .i64 1024)))))⟩]) (.cond (.t 61) (.seq (.ops [⟨(some 62), none, (.k (.mov (.t 5)))⟩, ⟨(some 4), none, (.k (.mov (.t 62)))⟩]) .ret) .skip))
def SizeDense_20 : AC := (.seq SizeDense_21 (.ops [⟨(some 63), none, (.k (.mov (.t 10)))⟩, ⟨(some 64), none, (.k (.mov (.t 12)))⟩, ⟨(some 65), none, (.k (.bin .mul (.t 63) (.t 64)))⟩, ⟨(some 10), none, (.k (.mov (.t 65)))⟩]))
def SizeDense_19 : AC := (.seq (.ops [⟨(some 58), none, (.k (.iad 1 (.t 54) (.t 56)))⟩, ⟨(some 59), none, (.k (.ld 1 false (.t 58)))⟩, ⟨(some 12), none, (.k (.mov (.t 59)))⟩]) SizeDense_20)
def SizeDense_18 : AC := (.block 1 SizeDense_19)
def SizeDense_17 : AC := (.seq SizeDense_18 (.ops [⟨(some 66), none, (.k (.bin .add (.t 56) (.c (.sc (.int .i64 1)))))⟩, ⟨(some 56), none, (.k (.mov (.t 66)))⟩]))
def SizeDense_16 : AC := (.seq (.cond (.t 57) .skip (.exit 0)) SizeDense_17)
def SizeDense_15 : AC := (.seq (.ops [⟨(some 57), none, (.k (.bin .lss (.t 56) (.t 55)))⟩]) SizeDense_16)
def SizeDense_14 : AC := (.loop SizeDense_15)
def SizeDense_13 : AC := (.block 0 SizeDense_14)
def SizeDense_12 : AC := (.seq (.ops [⟨(some 54), none, (.k (.mov (.t 0)))⟩, ⟨(some 55), none, (.k (.len (.t 54)))⟩, ⟨(some 56), none, (.k (.mov (.c (.sc (.int .i64 0)))))⟩]) SizeDense_13)
def SizeDense_11 : AC := (.seq SizeDense_12 SizeDense_22)
def SizeDense_10 : AC := (.seq (.ops [⟨(some 10), none, (.k (.mov (.c (.sc (.int .i64 1)))))⟩]) SizeDense_11)
def SizeDense_9 : AC := (.seq (.ops [⟨(some 44), none, (.k (.mov (.t 5)))⟩, ⟨(some 45), none, (.k (.mov (.t 44)))⟩, ⟨(some 46), (some (45, true)), (.k (.mov (.t 9)))⟩, ⟨(some 47), (some (45, true)), (.k (.bin .eql (.t 46) (.c (.sc (.int .i64 0)))))⟩, ⟨(some 48), (some (45, true)), (.k (.mov (.t 47)))⟩, ⟨(some 49), (some (48, false)), (.k (.mov (.t 7)))⟩, ⟨(some 50), (some (48, false)), (.k (.mov (.t 9)))⟩, ⟨(some 51), (some (48, false)), (.k (.bin .eql (.t 49) (.t 50)))⟩, ⟨(some 52), (some (45, true)), (.k (.pick (.t 48) (.c (.sc (.bool true))) (.t 51)))⟩, ⟨(some 53), none, (.k (.pick (.t 45) (.t 52) (.c (.sc (.bool false)))))⟩, ⟨(some 4), none, (.k (.mov (.t 53)))⟩]) .ret)
def SizeDense_8 : AC := (.cond (.t 43) SizeDense_9 .skip)
def SizeDense_7 : AC := (.seq (.ops [⟨(some 38), none, (.k (.mov (.t 7)))⟩, ⟨(some 39), none, (.k (.bin .neq (.t 38) (.c (.sc (.int .i64 0)))))⟩, ⟨(some 40), none, (.k (.mov (.t 39)))⟩, ⟨(some 41), (some (40, false)), (.k (.mov (.t 9)))⟩, ⟨(some 42), (some (40, false)), (.k (.bin .neq (.t 41) (.c (.sc (.int .i64 0)))))⟩, ⟨(some 43), none, (.k (.pick (.t 40) (.c (.sc (.bool true))) (.t 42)))⟩]) SizeDense_8)
def SizeDense_6 : AC := (.seq SizeDense_7 SizeDense_10)
def SizeDense_5 : AC := (.seq (.ops [⟨(some 33), none, (.k (.mov (.t 0)))⟩, ⟨(some 34), none, (.k (.mov (.t 1)))⟩, ⟨(some 35), none, (.call false (.c (.fn (.func 13) [] [])) [(.t 33), (.t 34)])⟩, ⟨(some 32), none, (.k (.mov (.t 35)))⟩, ⟨(some 36), none, (.k (.ext (.t 32) 0))⟩, ⟨(some 37), none, (.k (.ext (.t 32) 1))⟩, ⟨(some 8), none, (.k (.mov (.t 36)))⟩, ⟨(some 9), none, (.k (.mov (.t 37)))⟩]) SizeDense_6)
def SizeDense_4 : AC := (.seq (.ops [⟨(some 27), none, (.k (.mov (.t 0)))⟩, ⟨(some 28), none, (.k (.mov (.t 1)))⟩, ⟨(some 29), none, (.call false (.c (.fn (.func 12) [] [])) [(.t 27), (.t 28)])⟩, ⟨(some 26), none, (.k (.mov (.t 29)))⟩, ⟨(some 30), none, (.k (.ext (.t 26) 0))⟩, ⟨(some 31), none, (.k (.ext (.t 26) 1))⟩, ⟨(some 6), none, (.k (.mov (.t 30)))⟩, ⟨(some 7), none, (.k (.mov (.t 31)))⟩]) SizeDense_5)
def SizeDense_3 : AC := (.seq (.ops [⟨(some 17), none, (.k (.mov (.t 0)))⟩, ⟨(some 18), none, (.k (.len (.t 17)))⟩, ⟨(some 19), none, (.k (.bin .gtr (.t 18) (.c (.sc (.int .i64 20)))))⟩, ⟨(some 20), none, (.k (.mov (.t 19)))⟩, ⟨(some 21), (some (20, false)), (.k (.mov (.t 1)))⟩, ⟨(some 22), (some (20, false)), (.k (.len (.t 21)))⟩, ⟨(some 23), (some (20, false)), (.k (.bin .gtr (.t 22) (.c (.sc (.int .i64 40)))))⟩, ⟨(some 24), none, (.k (.pick (.t 20) (.c (.sc (.bool true))) (.t 23)))⟩]) (.cond (.t 24) (.seq (.ops [⟨(some 25), none, (.k (.mov (.t 5)))⟩, ⟨(some 4), none, (.k (.mov (.t 25)))⟩]) .ret) .skip))
def SizeDense_2 : AC := (.seq SizeDense_3 SizeDense_4)
def SizeDense_1 : AC := (.seq (.ops [⟨(some 16), none, (.call false (.c (.fn (.func 11) [] [])) [])⟩, ⟨(some 5), none, (.k (.mov (.t 16)))⟩]) SizeDense_2)
def SizeDense_ac : AC := (.seq (.ops [⟨(some 4), none, (.k (.mov (.c (.sc (.bool false)))))⟩]) SizeDense_1)
theorem SizeDense_call {args : List AV} {H : List AObj} {R : AV → List AObj → Prop} (h : AWp Try.prog [] H.length SizeDense_ac (bodyQ H.length [(.t 4)] R) (args ++ List.replicate (136 - args.length) .und) H) : ACalls Try.prog 3 args H R :=
  ACalls.of_fn Try.func3 rfl (by kernel_rfl) rfl Try.ntmps3 h

set_option maxHeartbeats 4000000 in
theorem SizeDense_spec {a b : AV} {xs : List Int} {fs : List (Int × Int × Int)} (ha : ISl a xs) (hb : Sp b fs) : ACalls Try.prog 3 [a, b] [] fun r H' => H' = [] ∧ r = Bo true := by
  have ha' := ha
  have hb' := hb
  obtain ⟨⟨nl, c, sz, rfl, hs⟩, hlen, hx⟩ := ha
  obtain ⟨⟨nl', c', sz', rfl, hs'⟩, hlen', hx'⟩ := hb
  apply SizeDense_call
  first | refine AWp.seq (AWp.ops ?_) | refine AWp.seq (AWp.seq (AWp.ops ?_)) | refine AWp.ops ?_ | refine AWp.seq (AWp.block (AWp.seq (AWp.ops ?_))) | refine AWp.seq (AWp.seq (AWp.seq (AWp.ops ?_))) | refine AWp.block (AWp.seq (AWp.ops ?_)) | refine AWp.block (AWp.seq (AWp.seq (AWp.ops ?_))) | refine AWp.seq (AWp.block (AWp.seq (AWp.seq (AWp.ops ?_))))
  simp
  first | refine AWp.seq (AWp.ops ?_) | refine AWp.seq (AWp.seq (AWp.ops ?_)) | refine AWp.ops ?_ | refine AWp.seq (AWp.block (AWp.seq (AWp.ops ?_))) | refine AWp.seq (AWp.seq (AWp.seq (AWp.ops ?_))) | refine AWp.block (AWp.seq (AWp.ops ?_)) | refine AWp.block (AWp.seq (AWp.seq (AWp.ops ?_))) | refine AWp.seq (AWp.block (AWp.seq (AWp.seq (AWp.ops ?_))))
  simp
  refine live20_spec.mono ?_
  rintro r H' ⟨rfl, rfl⟩
  simp
  first | refine AWp.seq (AWp.ops ?_) | refine AWp.seq (AWp.seq (AWp.ops ?_)) | refine AWp.ops ?_ | refine AWp.seq (AWp.block (AWp.seq (AWp.ops ?_))) | refine AWp.seq (AWp.seq (AWp.seq (AWp.ops ?_))) | refine AWp.block (AWp.seq (AWp.ops ?_)) | refine AWp.block (AWp.seq (AWp.seq (AWp.ops ?_))) | refine AWp.seq (AWp.block (AWp.seq (AWp.seq (AWp.ops ?_))))
  simp
  by_cases h20 : xs.length ≤ 20
  case neg =>
    have g : 20 < (xs.length : Int) := by omega
    simp [g, Int.not_le.2 g]
    refine AWp.cond (b := true) (by simp) (fun _ => ?_) (fun h => by cases h)
    first | refine AWp.seq (AWp.ops ?_) | refine AWp.seq (AWp.seq (AWp.ops ?_)) | refine AWp.ops ?_ | refine AWp.seq (AWp.block (AWp.seq (AWp.ops ?_))) | refine AWp.seq (AWp.seq (AWp.seq (AWp.ops ?_))) | refine AWp.block (AWp.seq (AWp.ops ?_)) | refine AWp.block (AWp.seq (AWp.seq (AWp.ops ?_))) | refine AWp.seq (AWp.block (AWp.seq (AWp.seq (AWp.ops ?_))))
    simp
    refine AWp.ret ?_
    simp
    refine retOk.of rfl ⟨rfl, rfl⟩
  by_cases h40 : fs.length ≤ 40
  case neg =>
    have g : ¬ 20 < (xs.length : Int) := by omega
    have g2 : 40 < (fs.length : Int) := by omega
    simp [g, Int.not_lt.1 g]
    refine AWp.cond (b := true) (by simp [g2]) (fun _ => ?_) (fun h => by cases h)
    first | refine AWp.seq (AWp.ops ?_) | refine AWp.seq (AWp.seq (AWp.ops ?_)) | refine AWp.ops ?_ | refine AWp.seq (AWp.block (AWp.seq (AWp.ops ?_))) | refine AWp.seq (AWp.seq (AWp.seq (AWp.ops ?_))) | refine AWp.block (AWp.seq (AWp.ops ?_)) | refine AWp.block (AWp.seq (AWp.seq (AWp.ops ?_))) | refine AWp.seq (AWp.block (AWp.seq (AWp.seq (AWp.ops ?_))))
    simp
    refine AWp.ret ?_
    simp
    refine retOk.of rfl ⟨rfl, rfl⟩
  have g : ¬ 20 < (xs.length : Int) := by omega
  have g2 : ¬ 40 < (fs.length : Int) := by omega
  simp [g, Int.not_lt.1 g]
  refine AWp.cond (b := false) (by simp <;> omega) (fun h => by cases h) (fun _ => ?_)
  refine AWp.skip ?_
  simp only [qSeq]
  first | refine AWp.seq (AWp.ops ?_) | refine AWp.seq (AWp.seq (AWp.ops ?_)) | refine AWp.ops ?_ | refine AWp.seq (AWp.block (AWp.seq (AWp.ops ?_))) | refine AWp.seq (AWp.seq (AWp.seq (AWp.ops ?_))) | refine AWp.block (AWp.seq (AWp.ops ?_)) | refine AWp.block (AWp.seq (AWp.seq (AWp.ops ?_))) | refine AWp.seq (AWp.block (AWp.seq (AWp.seq (AWp.ops ?_))))
  simp
  refine (Worst_spec ha' hb' (by omega)).mono ?_
  rintro r H' ⟨rfl, lW, rfl, hW⟩
  simp
  first | refine AWp.seq (AWp.ops ?_) | refine AWp.seq (AWp.seq (AWp.ops ?_)) | refine AWp.ops ?_ | refine AWp.seq (AWp.block (AWp.seq (AWp.ops ?_))) | refine AWp.seq (AWp.seq (AWp.seq (AWp.ops ?_))) | refine AWp.block (AWp.seq (AWp.ops ?_)) | refine AWp.block (AWp.seq (AWp.seq (AWp.ops ?_))) | refine AWp.seq (AWp.block (AWp.seq (AWp.seq (AWp.ops ?_))))
  simp
  refine (Sizes_spec ha' hb' (by omega)).mono ?_
  rintro r H' ⟨rfl, lZ, rfl, hZ⟩
  simp
  first | refine AWp.seq (AWp.ops ?_) | refine AWp.seq (AWp.seq (AWp.ops ?_)) | refine AWp.ops ?_ | refine AWp.seq (AWp.block (AWp.seq (AWp.ops ?_))) | refine AWp.seq (AWp.seq (AWp.seq (AWp.ops ?_))) | refine AWp.block (AWp.seq (AWp.ops ?_)) | refine AWp.block (AWp.seq (AWp.seq (AWp.ops ?_))) | refine AWp.seq (AWp.block (AWp.seq (AWp.seq (AWp.ops ?_))))
  simp
  by_cases hz : (sizesF xs fs).2 = 0
  case neg =>
    have hwe : (worstF xs fs).2 = (sizesF xs fs).2 := by simp [worstF, hz]
    rw [hwe]
    simp [hz]
    refine AWp.cond (b := true) (by simp) (fun _ => ?_) (fun h => by cases h)
    first | refine AWp.seq (AWp.ops ?_) | refine AWp.seq (AWp.seq (AWp.ops ?_)) | refine AWp.ops ?_ | refine AWp.seq (AWp.block (AWp.seq (AWp.ops ?_))) | refine AWp.seq (AWp.seq (AWp.seq (AWp.ops ?_))) | refine AWp.block (AWp.seq (AWp.ops ?_)) | refine AWp.block (AWp.seq (AWp.seq (AWp.ops ?_))) | refine AWp.seq (AWp.block (AWp.seq (AWp.seq (AWp.ops ?_))))
    simp [hz]
    refine AWp.ret ?_
    simp
    refine retOk.of rfl ⟨rfl, rfl⟩
  by_cases hw : (worstF xs fs).2 = 0
  case neg =>
    simp [hz, hw]
    refine AWp.cond (b := true) (by simp) (fun _ => ?_) (fun h => by cases h)
    first | refine AWp.seq (AWp.ops ?_) | refine AWp.seq (AWp.seq (AWp.ops ?_)) | refine AWp.ops ?_ | refine AWp.seq (AWp.block (AWp.seq (AWp.ops ?_))) | refine AWp.seq (AWp.seq (AWp.seq (AWp.ops ?_))) | refine AWp.block (AWp.seq (AWp.ops ?_)) | refine AWp.block (AWp.seq (AWp.seq (AWp.ops ?_))) | refine AWp.seq (AWp.block (AWp.seq (AWp.seq (AWp.ops ?_))))
    simp [hz]
    refine AWp.ret ?_
    simp
    refine retOk.of rfl ⟨rfl, rfl⟩
  simp [hz, hw]
  refine AWp.cond (b := false) (by simp) (fun h => by cases h) (fun _ => ?_)
  refine AWp.skip ?_
  simp only [qSeq]
  obtain ⟨hc, hzl, hzv, hkind⟩ := sizesF_ok hz fun s hs => (hx' s hs).2.2.2
  obtain ⟨hxn, hx4⟩ := cells_nonneg' hc
  obtain ⟨Z, hZd⟩ : ∃ Z, Z = (sizesF xs fs).1 := ⟨_, rfl⟩
  rw [← hZd] at hZ hzl hzv
  obtain ⟨W, hWd⟩ : ∃ W, W = (worstF xs fs).1 := ⟨_, rfl⟩
  rw [← hWd] at hW
  have hgoW : wGo (cells xs).1 fs Z 1 = some W := by
    rw [hWd, hZd]
    unfold worstF at hw ⊢
    rw [if_neg (by simpa using hz)] at hw ⊢
    cases hg : wGo (cells xs).1 fs (sizesF xs fs).1 1 with
    | none => rw [hg] at hw; simp at hw
    | some l => rfl
  have hWl := wGo_len hzl hgoW
  obtain ⟨⟨nlW, cW, zW, rfl, hsW⟩, hrW⟩ := hW
  obtain ⟨⟨nlZ, cZ, zZ, rfl, hsZ⟩, hrZ⟩ := hZ
  have hcn := cells_nonneg'' hc
  have hcf := cells_fold hc
  first | refine AWp.seq (AWp.ops ?_) | refine AWp.seq (AWp.seq (AWp.ops ?_)) | refine AWp.ops ?_ | refine AWp.seq (AWp.block (AWp.seq (AWp.ops ?_))) | refine AWp.seq (AWp.seq (AWp.seq (AWp.ops ?_))) | refine AWp.block (AWp.seq (AWp.ops ?_)) | refine AWp.block (AWp.seq (AWp.seq (AWp.ops ?_))) | refine AWp.seq (AWp.block (AWp.seq (AWp.seq (AWp.ops ?_))))
  simp
  refine AWp.weak (Weak.slots [0, 1, 4, 5, 6, 8, 10]) ?_
  simp
  refine AWp.cut [.und, .imm nl' c' sz' (fs.map specV), .und, .und, .und, Bo true, .imm nlW cW zW (W.map I), .und, .imm nlZ cZ zZ (Z.map I), .und, I (cells xs).1, .und, .und, .und, .und, .und, .und, .und, .und, .und, .und, .und, .und, .und, .und, .und, .und, .und, .und, .und, .und, .und, .und, .und, .und, .und, .und, .und, .und, .und, .und, .und, .und, .und, .und, .und, .und, .und, .und, .und, .und, .und, .und, .und, .und, .und, .und, .und, .und, .und, .und, .und, .und, .und, .und, .und, .und, .und, .und, .und, .und, .und, .und, .und, .und, .und, .und, .und, .und, .und, .und, .und, .und, .und, .und, .und, .und, .und, .und, .und, .und, .und, .und, .und, .und, .und, .und, .und, .und, .und, .und, .und, .und, .und, .und, .und, .und, .und, .und, .und, .und, .und, .und, .und, .und, .und, .und, .und, .und, .und, .und, .und, .und, .und, .und, .und, .und, .und, .und, .und, .und, .und, .und, .und, .und, .und] [] ?_ ?_
  ·
    first | refine AWp.seq (AWp.ops ?_) | refine AWp.seq (AWp.seq (AWp.ops ?_)) | refine AWp.ops ?_ | refine AWp.seq (AWp.block (AWp.seq (AWp.ops ?_))) | refine AWp.seq (AWp.seq (AWp.seq (AWp.ops ?_))) | refine AWp.block (AWp.seq (AWp.ops ?_)) | refine AWp.block (AWp.seq (AWp.seq (AWp.ops ?_))) | refine AWp.seq (AWp.block (AWp.seq (AWp.seq (AWp.ops ?_))))
    simp
    obtain ⟨J, hJ⟩ : ∃ J : Nat → List AV → List AObj → Prop, J = fun i fr H => i ≤ xs.length ∧ ∃ (p : Int), (p = prL (xs.take i) ∧ 0 ≤ p ∧ (i = 0 → p ≤ 1) ∧ (i = 1 → p ≤ 1024) ∧ (i = 2 → p ≤ 1048576) ∧ (i = 3 → p ≤ 1073741824) ∧ (i = 4 → p ≤ 1099511627776)) ∧ H = [] ∧
      fr = [.und, .imm nl' c' sz' (fs.map specV), .und, .und, .und, Bo true, .imm nlW cW zW (W.map I), .und, .imm nlZ cZ zZ (Z.map I), .und, I p, .und, .und, .und, .und, .und, .und, .und, .und, .und, .und, .und, .und, .und, .und, .und, .und, .und, .und, .und, .und, .und, .und, .und, .und, .und, .und, .und, .und, .und, .und, .und, .und, .und, .und, .und, .und, .und, .und, .und, .und, .und, .und, .und, .imm nl c sz (xs.map I), I xs.length, I i, .und, .und, .und, .und, .und, .und, .und, .und, .und, .und, .und, .und, .und, .und, .und, .und, .und, .und, .und, .und, .und, .und, .und, .und, .und, .und, .und, .und, .und, .und, .und, .und, .und, .und, .und, .und, .und, .und, .und, .und, .und, .und, .und, .und, .und, .und, .und, .und, .und, .und, .und, .und, .und, .und, .und, .und, .und, .und, .und, .und, .und, .und, .und, .und, .und, .und, .und, .und, .und, .und, .und, .und, .und, .und, .und, .und, .und, .und, .und] := ⟨_, rfl⟩
    refine AWp.block (AWp.loop J (fun i => xs.length - i) 0 (Weak.slots [1, 5, 6, 8, 10, 54, 55, 56]) (by rw [hJ]; exact ⟨by omega, 1, ⟨rfl, by omega, by omega, by omega, by omega, by omega, by omega⟩, by simp, by simp⟩) ?_)
    intro i fr H hI
    rw [hJ] at hI
    obtain ⟨hi, p, hinv, rfl, rfl⟩ := hI
    first | refine AWp.seq (AWp.ops ?_) | refine AWp.seq (AWp.seq (AWp.ops ?_)) | refine AWp.ops ?_ | refine AWp.seq (AWp.block (AWp.seq (AWp.ops ?_))) | refine AWp.seq (AWp.seq (AWp.seq (AWp.ops ?_))) | refine AWp.block (AWp.seq (AWp.ops ?_)) | refine AWp.block (AWp.seq (AWp.seq (AWp.ops ?_))) | refine AWp.seq (AWp.block (AWp.seq (AWp.seq (AWp.ops ?_))))
    simp
    refine AWp.seq (AWp.cond (b := decide (i < xs.length)) (by simp <;> omega) ?_ ?_)
    ·
      intro hb
      have hb : i < xs.length := by simpa using hb
      refine AWp.skip ?_
      simp only [qSeq]
      obtain ⟨hp, hp0, b0, b1, b2, b3, b4⟩ := hinv
      have hsz := sz_of hs hb
      subst hsz
      have hxi := hxn xs[i] (List.getElem_mem hb)
      first | refine AWp.seq (AWp.ops ?_) | refine AWp.seq (AWp.seq (AWp.ops ?_)) | refine AWp.ops ?_ | refine AWp.seq (AWp.block (AWp.seq (AWp.ops ?_))) | refine AWp.seq (AWp.seq (AWp.seq (AWp.ops ?_))) | refine AWp.block (AWp.seq (AWp.ops ?_)) | refine AWp.block (AWp.seq (AWp.seq (AWp.ops ?_))) | refine AWp.seq (AWp.block (AWp.seq (AWp.seq (AWp.ops ?_))))
      simp [hb]
      first | refine AWp.seq (AWp.ops ?_) | refine AWp.seq (AWp.seq (AWp.ops ?_)) | refine AWp.ops ?_ | refine AWp.seq (AWp.block (AWp.seq (AWp.ops ?_))) | refine AWp.seq (AWp.seq (AWp.seq (AWp.ops ?_))) | refine AWp.block (AWp.seq (AWp.ops ?_)) | refine AWp.block (AWp.seq (AWp.seq (AWp.ops ?_))) | refine AWp.seq (AWp.block (AWp.seq (AWp.seq (AWp.ops ?_))))
      simp
      refine AWp.cond (b := decide (1024 < xs[i])) (by simp) ?_ ?_
      · intro _
        first | refine AWp.seq (AWp.ops ?_) | refine AWp.seq (AWp.seq (AWp.ops ?_)) | refine AWp.ops ?_ | refine AWp.seq (AWp.block (AWp.seq (AWp.ops ?_))) | refine AWp.seq (AWp.seq (AWp.seq (AWp.ops ?_))) | refine AWp.block (AWp.seq (AWp.ops ?_)) | refine AWp.block (AWp.seq (AWp.seq (AWp.ops ?_))) | refine AWp.seq (AWp.block (AWp.seq (AWp.seq (AWp.ops ?_))))
        simp
        refine AWp.ret ?_
        simp
        refine retOk.of rfl ⟨rfl, rfl⟩
      · intro h
        have h : ¬ 1024 < xs[i] := by simpa using h
        have hm : p * xs[i] ≤ p * 1024 := Int.mul_le_mul_of_nonneg_left (by omega) hp0
        have hm0 : 0 ≤ p * xs[i] := Int.mul_nonneg hp0 hxi
        have hi4 : i = 0 ∨ i = 1 ∨ i = 2 ∨ i = 3 := by omega
        have hmb : p * xs[i] ≤ 1099511627776 := by
          rcases hi4 with h | h | h | h
          · have := b0 h; omega
          · have := b1 h; omega
          · have := b2 h; omega
          · have := b3 h; omega
        have hwp := wrap_i64 (n := p * xs[i]) (by omega) (by omega)
        refine AWp.skip ?_
        simp only [qSeq]
        first | refine AWp.seq (AWp.ops ?_) | refine AWp.seq (AWp.seq (AWp.ops ?_)) | refine AWp.ops ?_ | refine AWp.seq (AWp.block (AWp.seq (AWp.ops ?_))) | refine AWp.seq (AWp.seq (AWp.seq (AWp.ops ?_))) | refine AWp.block (AWp.seq (AWp.ops ?_)) | refine AWp.block (AWp.seq (AWp.seq (AWp.ops ?_))) | refine AWp.seq (AWp.block (AWp.seq (AWp.seq (AWp.ops ?_))))
        simp [hwp]
        first | refine AWp.seq (AWp.ops ?_) | refine AWp.seq (AWp.seq (AWp.ops ?_)) | refine AWp.ops ?_ | refine AWp.seq (AWp.block (AWp.seq (AWp.ops ?_))) | refine AWp.seq (AWp.seq (AWp.seq (AWp.ops ?_))) | refine AWp.block (AWp.seq (AWp.ops ?_)) | refine AWp.block (AWp.seq (AWp.seq (AWp.ops ?_))) | refine AWp.seq (AWp.block (AWp.seq (AWp.seq (AWp.ops ?_))))
        simp
        refine ⟨i + 1, _, _, Weak.slots [1, 5, 6, 8, 10, 54, 55, 56], ?_, by omega⟩
        rw [hJ]
        refine ⟨by omega, p * xs[i], ?_, by simp, by simp [wrap_i64 (n := (i : Int) + 1) (by omega) (by omega)]⟩
        refine ⟨?_, hm0, by omega, fun h => ?_, fun h => ?_, fun h => ?_, fun h => hmb⟩
        · rw [prL, List.take_succ_eq_append_getElem hb, List.foldl_append, List.foldl_cons, List.foldl_nil, hp, prL]
        · have := b0 (by omega); omega
        · have := b1 (by omega); omega
        · have := b2 (by omega); omega
    ·
      intro hb
      have hb : ¬ i < xs.length := by simpa using hb
      refine AWp.exit ?_
      simp [qSeq, qBlock]
      obtain ⟨hp, _⟩ := hinv
      have e : xs.take i = xs := List.take_of_length_le (by omega)
      rw [e, ← hcf] at hp
      exact (Weak.slots [1, 5, 6, 8, 10]).to (by simp [hp]) rfl
  obtain ⟨cs, hcs⟩ : ∃ cs, cs = (cells xs).1 := ⟨_, rfl⟩
  rw [← hcs] at hgoW hcn ⊢
  first | refine AWp.seq (AWp.ops ?_) | refine AWp.seq (AWp.seq (AWp.ops ?_)) | refine AWp.ops ?_ | refine AWp.seq (AWp.block (AWp.seq (AWp.ops ?_))) | refine AWp.seq (AWp.seq (AWp.seq (AWp.ops ?_))) | refine AWp.block (AWp.seq (AWp.ops ?_)) | refine AWp.block (AWp.seq (AWp.seq (AWp.ops ?_))) | refine AWp.seq (AWp.block (AWp.seq (AWp.seq (AWp.ops ?_))))
  simp [hWl, hzl]
  refine AWp.cond (b := false) (by simp) (fun h => by cases h) (fun _ => ?_)
  refine AWp.skip ?_
  simp only [qSeq]
  first | refine AWp.seq (AWp.ops ?_) | refine AWp.seq (AWp.seq (AWp.ops ?_)) | refine AWp.ops ?_ | refine AWp.seq (AWp.block (AWp.seq (AWp.ops ?_))) | refine AWp.seq (AWp.seq (AWp.seq (AWp.ops ?_))) | refine AWp.block (AWp.seq (AWp.ops ?_)) | refine AWp.block (AWp.seq (AWp.seq (AWp.ops ?_))) | refine AWp.seq (AWp.block (AWp.seq (AWp.seq (AWp.ops ?_))))
  simp
  first | refine AWp.seq (AWp.ops ?_) | refine AWp.seq (AWp.seq (AWp.ops ?_)) | refine AWp.ops ?_ | refine AWp.seq (AWp.block (AWp.seq (AWp.ops ?_))) | refine AWp.seq (AWp.seq (AWp.seq (AWp.ops ?_))) | refine AWp.block (AWp.seq (AWp.ops ?_)) | refine AWp.block (AWp.seq (AWp.seq (AWp.ops ?_))) | refine AWp.seq (AWp.block (AWp.seq (AWp.seq (AWp.ops ?_))))
  simp
  obtain ⟨J, hJ⟩ : ∃ J : Nat → List AV → List AObj → Prop, J = fun i fr H => i ≤ fs.length ∧ ∃ (n : Int), ((0 ≤ n ∧ n < 4611686018427387904) ∧ wGo cs (fs.drop i) (Z.drop i) n = some (W.drop i)) ∧ H = [] ∧
    fr = [.und, .imm nl' c' sz' (fs.map specV), .und, .und, .und, Bo true, .imm nlW cW zW (W.map I), .und, .imm nlZ cZ zZ (Z.map I), .und, I cs, .und, .und, I n, .und, .und, .und, .und, .und, .und, .und, .und, .und, .und, .und, .und, .und, .und, .und, .und, .und, .und, .und, .und, .und, .und, .und, .und, .und, .und, .und, .und, .und, .und, .und, .und, .und, .und, .und, .und, .und, .und, .und, .und, .und, .und, .und, .und, .und, .und, .und, .und, .und, .und, .und, .und, .und, .und, .und, .und, .und, .und, .und, .und, .und, .und, .und, .und, .und, .imm nl' c' sz' (fs.map specV), I fs.length, I i, .und, .und, .und, .und, .und, .und, .und, .und, .und, .und, .und, .und, .und, .und, .und, .und, .und, .und, .und, .und, .und, .und, .und, .und, .und, .und, .und, .und, .und, .und, .und, .und, .und, .und, .und, .und, .und, .und, .und, .und, .und, .und, .und, .und, .und, .und, .und, .und, .und, .und, .und, .und, .und, .und] := ⟨_, rfl⟩
  refine AWp.block (AWp.loop J (fun i => fs.length - i) 0 (Weak.slots [1, 5, 6, 8, 10, 13, 79, 80, 81]) (by rw [hJ]; exact ⟨by omega, 1, ⟨by omega, by simpa using hgoW⟩, by simp, by simp⟩) ?_)
  intro i fr H hI
  rw [hJ] at hI
  obtain ⟨hi, n, hinv, rfl, rfl⟩ := hI
  first | refine AWp.seq (AWp.ops ?_) | refine AWp.seq (AWp.seq (AWp.ops ?_)) | refine AWp.ops ?_ | refine AWp.seq (AWp.block (AWp.seq (AWp.ops ?_))) | refine AWp.seq (AWp.seq (AWp.seq (AWp.ops ?_))) | refine AWp.block (AWp.seq (AWp.ops ?_)) | refine AWp.block (AWp.seq (AWp.seq (AWp.ops ?_))) | refine AWp.seq (AWp.block (AWp.seq (AWp.seq (AWp.ops ?_))))
  simp
  refine AWp.seq (AWp.cond (b := decide (i < fs.length)) (by simp <;> omega) ?_ ?_)
  ·
    intro hb
    have hb : i < fs.length := by simpa using hb
    refine AWp.skip ?_
    simp only [qSeq]
    obtain ⟨hn, hgo⟩ := hinv
    have hsz3 := sz3_of hs' hb
    subst hsz3
    have hbz : i < Z.length := by omega
    have hbw : i < W.length := by omega
    have hszz := sz_of hsZ hbz
    have hszw := sz_of hsW hbw
    subst hszz hszw
    have hgs := spec_get hb
    have hk5 := hkind fs[i] (List.getElem_mem hb)
    have hzr := hzv Z[i] (List.getElem_mem hbz)
    rw [List.drop_eq_getElem_cons hb, List.drop_eq_getElem_cons hbz, List.drop_eq_getElem_cons hbw] at hgo
    simp only [wGo] at hgo
    generalize fs[i] = sp at hgs hk5 hgo
    obtain ⟨k, mo, z⟩ := sp
    simp only at hgs hk5 hgo
    rw [Option.bind_eq_some_iff] at hgo
    obtain ⟨m, hst, hrest⟩ := hgo
    rw [Option.map_eq_some_iff] at hrest
    obtain ⟨W2, hW2, hcons⟩ := hrest
    simp only [List.cons.injEq] at hcons
    obtain ⟨hmW, rfl⟩ := hcons
    subst hmW
    have hmr := wStep_range hst hn hcn hzr.1
    have hwg : W[i]? = some W[i] := List.getElem?_eq_getElem hbw
    obtain ⟨w, hwd⟩ : ∃ w, w = W[i] := ⟨_, rfl⟩
    rw [← hwd] at hst hW2 hmr
    first | refine AWp.seq (AWp.ops ?_) | refine AWp.seq (AWp.seq (AWp.ops ?_)) | refine AWp.ops ?_ | refine AWp.seq (AWp.block (AWp.seq (AWp.ops ?_))) | refine AWp.seq (AWp.seq (AWp.seq (AWp.ops ?_))) | refine AWp.block (AWp.seq (AWp.ops ?_)) | refine AWp.block (AWp.seq (AWp.seq (AWp.ops ?_))) | refine AWp.seq (AWp.block (AWp.seq (AWp.seq (AWp.ops ?_))))
    simp [hgs]
    refine AWp.cut [.und, .imm nl' c' 3 (fs.map specV), .und, .und, .und, Bo true, .imm nlW cW 1 (W.map I), .und, .imm nlZ cZ 1 (Z.map I), .und, I cs, .und, .und, I n, I i, .und, .und, .und, .und, .und, .und, .und, .und, .und, .und, .und, .und, .und, .und, .und, .und, .und, .und, .und, .und, .und, .und, .und, .und, .und, .und, .und, .und, .und, .und, .und, .und, .und, .und, .und, .und, .und, .und, .und, .und, .und, .und, .und, .und, .und, .und, .und, .und, .und, .und, .und, .und, .und, .und, .und, .und, .und, .und, .und, .und, .und, .und, .und, .und, .imm nl' c' 3 (fs.map specV), I fs.length, I i, .und, .und, .und, .und, .und, .und, .und, .und, .und, .und, .und, .und, .und, .und, .und, .und, .und, .und, .und, .und, .und, .und, .und, .und, .und, .und, .und, .und, .und, .und, .und, .und, .und, .und, .und, .und, .und, .und, .und, .und, .und, .und, .und, .und, .und, .und, .und, .und, .und, .und, .und, .und, .und, .und] [] ?_ ?_
    ·
      first | refine AWp.seq (AWp.ops ?_) | refine AWp.seq (AWp.seq (AWp.ops ?_)) | refine AWp.ops ?_ | refine AWp.seq (AWp.block (AWp.seq (AWp.ops ?_))) | refine AWp.seq (AWp.seq (AWp.seq (AWp.ops ?_))) | refine AWp.block (AWp.seq (AWp.ops ?_)) | refine AWp.block (AWp.seq (AWp.seq (AWp.ops ?_))) | refine AWp.seq (AWp.block (AWp.seq (AWp.seq (AWp.ops ?_))))
      simp
      obtain ⟨sw, hsw⟩ : ∃ sw, sw = (k == 0 || k == 4) := ⟨_, rfl⟩
      refine AWp.block (AWp.cut [.und, .imm nl' c' 3 (fs.map specV), .und, .und, .und, Bo true, .imm nlW cW 1 (W.map I), .und, .imm nlZ cZ 1 (Z.map I), .und, I cs, .und, .und, I n, I i, .und, .und, .und, .und, .und, .und, .und, .und, .und, .und, .und, .und, .und, .und, .und, .und, .und, .und, .und, .und, .und, .und, .und, .und, .und, .und, .und, .und, .und, .und, .und, .und, .und, .und, .und, .und, .und, .und, .und, .und, .und, .und, .und, .und, .und, .und, .und, .und, .und, .und, .und, .und, .und, .und, .und, .und, .und, .und, .und, .und, .und, .und, .und, .und, .imm nl' c' 3 (fs.map specV), I fs.length, I i, .und, .und, .und, .und, .und, I k, .und, .und, .und, .und, .und, .und, .und, .und, .und, .und, .und, .und, .und, Bo sw, .und, .und, .und, .und, .und, .und, .und, .und, .und, .und, .und, .und, .und, .und, .und, .und, .und, .und, .und, .und, .und, .und, .und, .und, .und, .und, .und, .und, .und, .und, .und, .und, .und, .und] [] ?_ ?_)
      ·
        first | refine AWp.seq (AWp.ops ?_) | refine AWp.seq (AWp.seq (AWp.ops ?_)) | refine AWp.ops ?_ | refine AWp.seq (AWp.block (AWp.seq (AWp.ops ?_))) | refine AWp.seq (AWp.seq (AWp.seq (AWp.ops ?_))) | refine AWp.block (AWp.seq (AWp.ops ?_)) | refine AWp.block (AWp.seq (AWp.seq (AWp.ops ?_))) | refine AWp.seq (AWp.block (AWp.seq (AWp.seq (AWp.ops ?_))))
        simp
        by_cases k0 : k = 0
        · refine AWp.cond (b := true) (by simp [k0]) (fun _ => ?_) (fun h => by cases h)
          refine AWp.skip ?_
          simp only [qSeq]
          exact ((Weak.slots [1, 5, 6, 8, 10, 13, 14, 79, 80, 81, 87, 101]).trans (Weak.freeze 0 2 (by simp))).to (by simp [hsw, k0]) (by simp [frzH])
        · refine AWp.cond (b := false) (by simp [k0]) (fun h => by cases h) (fun _ => ?_)
          first | refine AWp.seq (AWp.ops ?_) | refine AWp.seq (AWp.seq (AWp.ops ?_)) | refine AWp.ops ?_ | refine AWp.seq (AWp.block (AWp.seq (AWp.ops ?_))) | refine AWp.seq (AWp.seq (AWp.seq (AWp.ops ?_))) | refine AWp.block (AWp.seq (AWp.ops ?_)) | refine AWp.block (AWp.seq (AWp.seq (AWp.ops ?_))) | refine AWp.seq (AWp.block (AWp.seq (AWp.seq (AWp.ops ?_))))
          simp
          exact ((Weak.slots [1, 5, 6, 8, 10, 13, 14, 79, 80, 81, 87, 101]).trans (Weak.freeze 0 2 (by simp))).to (by simp [hsw, k0]) (by simp [frzH])
      refine AWp.cond (b := sw) (by simp) ?_ ?_
      · intro h1
        have hk : k = 0 ∨ k = 4 := by rw [hsw] at h1; simpa using h1
        have hwv : w = n * Z[i] := by
          have h3 : ¬ k = 3 := by omega
          have h2 : ¬ k = 2 := by omega
          have h11 : ¬ k = 1 := by omega
          simp only [wStep, if_neg h3, if_neg h2, if_neg h11] at hst
          split at hst
          · cases hst
          · exact (Option.some.inj hst).symm
        have hww := wrap_i64 (n := n * Z[i]) (by omega) (by omega)
        first | refine AWp.seq (AWp.ops ?_) | refine AWp.seq (AWp.seq (AWp.ops ?_)) | refine AWp.ops ?_ | refine AWp.seq (AWp.block (AWp.seq (AWp.ops ?_))) | refine AWp.seq (AWp.seq (AWp.seq (AWp.ops ?_))) | refine AWp.block (AWp.seq (AWp.ops ?_)) | refine AWp.block (AWp.seq (AWp.seq (AWp.ops ?_))) | refine AWp.seq (AWp.block (AWp.seq (AWp.seq (AWp.ops ?_))))
        simp [hbz, hbw, hww, ← hwd, hwv]
        refine AWp.cond (b := false) (by simp) (fun h => by cases h) (fun _ => ?_)
        refine AWp.skip ?_
        simp only [qSeq, qBlock, if_true]
        exact (Weak.slots [1, 5, 6, 8, 10, 13, 14, 79, 80, 81]).to (by simp) rfl
      · intro h1
        have hk : ¬ k = 0 ∧ ¬ k = 4 := by rw [hsw] at h1; simpa using h1
        first | refine AWp.seq (AWp.ops ?_) | refine AWp.seq (AWp.seq (AWp.ops ?_)) | refine AWp.ops ?_ | refine AWp.seq (AWp.block (AWp.seq (AWp.ops ?_))) | refine AWp.seq (AWp.seq (AWp.seq (AWp.ops ?_))) | refine AWp.block (AWp.seq (AWp.ops ?_)) | refine AWp.block (AWp.seq (AWp.seq (AWp.ops ?_))) | refine AWp.seq (AWp.block (AWp.seq (AWp.seq (AWp.ops ?_))))
        simp
        by_cases k3 : k = 3
        · refine AWp.cond (b := true) (by simp [k3]) (fun _ => ?_) (fun h => by cases h)
          have hwv : w = n := by
            simp only [wStep, if_pos k3] at hst
            exact (Option.some.inj hst).symm
          first | refine AWp.seq (AWp.ops ?_) | refine AWp.seq (AWp.seq (AWp.ops ?_)) | refine AWp.ops ?_ | refine AWp.seq (AWp.block (AWp.seq (AWp.ops ?_))) | refine AWp.seq (AWp.seq (AWp.seq (AWp.ops ?_))) | refine AWp.block (AWp.seq (AWp.ops ?_)) | refine AWp.block (AWp.seq (AWp.seq (AWp.ops ?_))) | refine AWp.seq (AWp.block (AWp.seq (AWp.seq (AWp.ops ?_))))
          simp [hbw, ← hwd, hwv]
          refine AWp.cond (b := false) (by simp) (fun h => by cases h) (fun _ => ?_)
          refine AWp.skip ?_
          simp only [qSeq, qBlock, if_true]
          exact (Weak.slots [1, 5, 6, 8, 10, 13, 14, 79, 80, 81]).to (by simp) rfl
        · refine AWp.cond (b := false) (by simp [k3]) (fun h => by cases h) (fun _ => ?_)
          have hwv : w ≤ cs ∧ w ≤ 65536 := by
            simp only [wStep, if_neg k3] at hst
            split at hst
            · have := (Option.some.inj hst).symm
              unfold minI at this
              split at this <;> omega
            · split at hst
              · have := (Option.some.inj hst).symm
                unfold minI at this
                split at this <;> split at this <;> (try split at this) <;> omega
              · omega
          have g1 : ¬ cs < w := by omega
          have g2 : ¬ 65536 < w := by omega
          first | refine AWp.seq (AWp.ops ?_) | refine AWp.seq (AWp.seq (AWp.ops ?_)) | refine AWp.ops ?_ | refine AWp.seq (AWp.block (AWp.seq (AWp.ops ?_))) | refine AWp.seq (AWp.seq (AWp.seq (AWp.ops ?_))) | refine AWp.block (AWp.seq (AWp.ops ?_)) | refine AWp.block (AWp.seq (AWp.seq (AWp.ops ?_))) | refine AWp.seq (AWp.block (AWp.seq (AWp.seq (AWp.ops ?_))))
          simp [hbw, ← hwd, g1, g2, hwv.1, hwv.2]
          refine AWp.cond (b := false) (by simp [g2, hwv.2]) (fun h => by cases h) (fun _ => ?_)
          refine AWp.skip ?_
          simp only [qSeq, qBlock, if_true]
          exact (Weak.slots [1, 5, 6, 8, 10, 13, 14, 79, 80, 81]).to (by simp) rfl
    first | refine AWp.seq (AWp.ops ?_) | refine AWp.seq (AWp.seq (AWp.ops ?_)) | refine AWp.ops ?_ | refine AWp.seq (AWp.block (AWp.seq (AWp.ops ?_))) | refine AWp.seq (AWp.seq (AWp.seq (AWp.ops ?_))) | refine AWp.block (AWp.seq (AWp.ops ?_)) | refine AWp.block (AWp.seq (AWp.seq (AWp.ops ?_))) | refine AWp.seq (AWp.block (AWp.seq (AWp.seq (AWp.ops ?_))))
    simp [hbw, ← hwd]
    first | refine AWp.seq (AWp.ops ?_) | refine AWp.seq (AWp.seq (AWp.ops ?_)) | refine AWp.ops ?_ | refine AWp.seq (AWp.block (AWp.seq (AWp.ops ?_))) | refine AWp.seq (AWp.seq (AWp.seq (AWp.ops ?_))) | refine AWp.block (AWp.seq (AWp.ops ?_)) | refine AWp.block (AWp.seq (AWp.seq (AWp.ops ?_))) | refine AWp.seq (AWp.block (AWp.seq (AWp.seq (AWp.ops ?_))))
    simp
    refine ⟨i + 1, _, _, Weak.slots [1, 5, 6, 8, 10, 13, 79, 80, 81], ?_, by omega⟩
    rw [hJ]
    refine ⟨by omega, w, ?_, by simp, by simp [wrap_i64 (n := (i : Int) + 1) (by omega) (by omega)]⟩
    exact ⟨hmr, hW2⟩
  ·
    intro hb
    have hb : ¬ i < fs.length := by simpa using hb
    refine AWp.exit ?_
    simp [qSeq, qBlock]
    first | refine AWp.seq (AWp.ops ?_) | refine AWp.seq (AWp.seq (AWp.ops ?_)) | refine AWp.ops ?_ | refine AWp.seq (AWp.block (AWp.seq (AWp.ops ?_))) | refine AWp.seq (AWp.seq (AWp.seq (AWp.ops ?_))) | refine AWp.block (AWp.seq (AWp.ops ?_)) | refine AWp.block (AWp.seq (AWp.seq (AWp.ops ?_))) | refine AWp.seq (AWp.block (AWp.seq (AWp.seq (AWp.ops ?_))))
    simp [hWl]
    refine AWp.ret ?_
    simp
    refine retOk.of rfl ⟨rfl, rfl⟩
end Go.Fw
