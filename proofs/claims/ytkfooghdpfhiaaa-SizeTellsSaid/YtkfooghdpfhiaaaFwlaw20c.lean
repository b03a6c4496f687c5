import Derived.Test.YtkfooghdpfhiaaaFwlaw20b
namespace Go.Fw
open Go Go.RowKit Go.Proofs
set_option maxRecDepth 100000
set_option linter.unusedSimpArgs false
set_option linter.unusedVariables false

theorem withGo_self : ∀ xs : List Int, withGo xs xs = true
  | [] => rfl
  | x :: r => by simp [withGo, withGo_self r]
theorem withF_self (xs : List Int) : withF xs xs = true := by simp [withF, withGo_self]
abbrev t_ : ByteArray := ⟨#[116]⟩

def SizeTells_10 : AC := (.seq (.ops [⟨(some 89), none, (.k (.mov (.t 13)))⟩, ⟨(some 90), none, (.k (.mov (.t 89)))⟩, ⟨(some 91), (some (90, true)), (.k (.mov (.t 14)))⟩, ⟨(some 92), (some (90, true)), (.k (.mov (.t 16)))⟩, ⟨(some 93), (some (90, true)), (.call false (.c (.fn (.func 27) [] [])) [(.t 91), (.t 92)])⟩, ⟨(some 94), none, (.k (.pick (.t 90) (.t 93) (.c (.sc (.bool false)))))⟩, ⟨(some 95), none, (.k (.mov (.t 94)))⟩, ⟨(some 96), (some (95, true)), (.k (.mov (.t 15)))⟩, ⟨(some 97), (some (95, true)), (.k (.mov (.t 17)))⟩, ⟨(some 98), (some (95, true)), (.k (.bin .eql (.t 96) (.t 97)))⟩, ⟨(some 99), none, (.k (.pick (.t 95) (.t 98) (.c (.sc (.bool false)))))⟩, ⟨(some 100), none, (.k (.mov (.t 99)))⟩, ⟨(some 101), (some (100, true)), (.k (.mov (.t 18)))⟩, ⟨(some 102), (some (100, true)), (.k (.mov (.t 21)))⟩, ⟨(some 103), (some (100, true)), (.k (.bin .eql (.t 101) (.t 102)))⟩, ⟨(some 104), none, (.k (.pick (.t 100) (.t 103) (.c (.sc (.bool false)))))⟩, ⟨(some 105), none, (.k (.mov (.t 104)))⟩, ⟨(some 106), (some (105, true)), (.k (.mov (.t 19)))⟩, ⟨(some 107), (some (105, true)), (.k (.mov (.t 22)))⟩, ⟨(some 108), (some (105, true)), (.k (.bin .eql (.t 106) (.t 107)))⟩, ⟨(some 109), none, (.k (.pick (.t 105) (.t 108) (.c (.sc (.bool false)))))⟩, ⟨(some 110), none, (.k (.mov (.t 109)))⟩, ⟨(some 111), (some (110, true)), (.k (.mov (.t 20)))⟩, ⟨(some 112), (some (110, true)), (.k (.mov (.t 23)))⟩, ⟨(some 113), (some (110, true)), (.k (.bin .eql (.t 111) (.t 112)))⟩, ⟨(some 114), none, (.k (.pick (.t 110) (.t 113) (.c (.sc (.bool false)))))⟩, ⟨(some 115), none, (.k (.mov (.t 114)))⟩, ⟨(some 116), (some (115, true)), (.k (.fad 0 (.t 24)))⟩, ⟨(some 117), (some (115, true)), (.k (.ld 1 false (.t 116)))⟩, ⟨(some 118), (some (115, true)), (.k (.fad 0 (.t 26)))⟩, ⟨(some 119), (some (115, true)), (.k (.ld 1 false (.t 118)))⟩, ⟨(some 120), (some (115, true)), (.k (.bin .eql (.t 117) (.t 119)))⟩, ⟨(some 121), none, (.k (.pick (.t 115) (.t 120) (.c (.sc (.bool false)))))⟩, ⟨(some 122), none, (.k (.mov (.t 121)))⟩, ⟨(some 123), (some (122, true)), (.k (.fad 1 (.t 24)))⟩, ⟨(some 124), (some (122, true)), (.k (.ld 1 false (.t 123)))⟩, ⟨(some 125), (some (122, true)), (.k (.fad 1 (.t 26)))⟩, ⟨(some 126), (some (122, true)), (.k (.ld 1 false (.t 125)))⟩, ⟨(some 127), (some (122, true)), (.call false (.c (.fn (.func 27) [] [])) [(.t 124), (.t 126)])⟩, ⟨(some 128), none, (.k (.pick (.t 122) (.t 127) (.c (.sc (.bool false)))))⟩, ⟨(some 129), none, (.k (.mov (.t 128)))⟩, ⟨(some 130), (some (129, true)), (.k (.mov (.t 25)))⟩, ⟨(some 131), (some (129, true)), (.k (.mov (.t 27)))⟩, ⟨(some 132), (some (129, true)), (.k (.bin .eql (.t 130) (.t 131)))⟩, ⟨(some 133), none, (.k (.pick (.t 129) (.t 132) (.c (.sc (.bool false)))))⟩, ⟨(some 134), none, (.k (.mov (.t 133)))⟩, ⟨(some 135), (some (134, true)), (.k (.mov (.t 3)))⟩, ⟨(some 136), (some (134, true)), (.k (.mov (.t 4)))⟩, ⟨(some 137), (some (134, true)), (.call false (.c (.fn (.func 36) [] [])) [(.t 135), (.t 136)])⟩, ⟨(some 138), (some (134, true)), (.k (.mov (.t 3)))⟩, ⟨(some 139), (some (134, true)), (.k (.mov (.t 4)))⟩, ⟨(some 140), (some (134, true)), (.call false (.c (.fn (.func 37) [] [])) [(.t 138), (.t 139)])⟩, ⟨(some 141), (some (134, true)), (.k (.beq false (.t 137) (.t 140)))⟩, ⟨(some 142), none, (.k (.pick (.t 134) (.t 141) (.c (.sc (.bool false)))))⟩, ⟨(some 143), none, (.k (.mov (.t 142)))⟩, ⟨(some 144), (some (143, true)), (.k (.mov (.t 3)))⟩, ⟨(some 145), (some (143, true)), (.k (.mov (.t 3)))⟩, ⟨(some 146), (some (143, true)), (.call false (.c (.fn (.func 36) [] [])) [(.t 144), (.t 145)])⟩, ⟨(some 147), none, (.k (.pick (.t 143) (.t 146) (.c (.sc (.bool false)))))⟩, ⟨(some 12), none, (.k (.mov (.t 147)))⟩]) .ret)
def SizeTells_9 : AC := (.seq (.ops [⟨(some 85), none, (.k (.ld 4 true (.t 11)))⟩, ⟨(some 86), none, (.call false (.c (.fn (.func 35) [] [])) [(.c (.sc (.string ⟨#[116]⟩))), (.t 85)])⟩, ⟨(some 84), none, (.k (.mov (.t 86)))⟩, ⟨(some 87), none, (.k (.ext (.t 84) 0))⟩, ⟨(some 88), none, (.k (.ext (.t 84) 1))⟩, ⟨(some 26), none, (.k (.new 57 2 (.c (.agg [(.sc (.string ⟨#[]⟩)), (.imm true none 0 [])]))))⟩, ⟨none, none, (.k (.st 2 (.t 26) (.t 87)))⟩, ⟨(some 27), none, (.k (.mov (.t 88)))⟩]) SizeTells_10)
def SizeTells_8 : AC := (.seq (.ops [⟨(some 80), none, (.k (.ld 4 true (.t 11)))⟩, ⟨(some 81), none, (.call false (.c (.fn (.func 34) [] [])) [(.c (.sc (.string ⟨#[116]⟩))), (.t 80)])⟩, ⟨(some 79), none, (.k (.mov (.t 81)))⟩, ⟨(some 82), none, (.k (.ext (.t 79) 0))⟩, ⟨(some 83), none, (.k (.ext (.t 79) 1))⟩, ⟨(some 24), none, (.k (.new 57 2 (.c (.agg [(.sc (.string ⟨#[]⟩)), (.imm true none 0 [])]))))⟩, ⟨none, none, (.k (.st 2 (.t 24) (.t 82)))⟩, ⟨(some 25), none, (.k (.mov (.t 83)))⟩]) SizeTells_9)
def SizeTells_7 : AC := (.seq (.ops [⟨(some 73), none, (.k (.mov (.t 2)))⟩, ⟨(some 74), none, (.k (.mov (.t 3)))⟩, ⟨(some 75), none, (.call false (.c (.fn (.func 33) [] [])) [(.t 73), (.t 74)])⟩, ⟨(some 72), none, (.k (.mov (.t 75)))⟩, ⟨(some 76), none, (.k (.ext (.t 72) 0))⟩, ⟨(some 77), none, (.k (.ext (.t 72) 1))⟩, ⟨(some 78), none, (.k (.ext (.t 72) 2))⟩, ⟨(some 21), none, (.k (.mov (.t 76)))⟩, ⟨(some 22), none, (.k (.mov (.t 77)))⟩, ⟨(some 23), none, (.k (.mov (.t 78)))⟩]) SizeTells_8)
def SizeTells_6 : AC := (.seq (.ops [⟨(some 66), none, (.k (.mov (.t 2)))⟩, ⟨(some 67), none, (.k (.mov (.t 3)))⟩, ⟨(some 68), none, (.call false (.c (.fn (.func 32) [] [])) [(.t 66), (.t 67)])⟩, ⟨(some 65), none, (.k (.mov (.t 68)))⟩, ⟨(some 69), none, (.k (.ext (.t 65) 0))⟩, ⟨(some 70), none, (.k (.ext (.t 65) 1))⟩, ⟨(some 71), none, (.k (.ext (.t 65) 2))⟩, ⟨(some 18), none, (.k (.mov (.t 69)))⟩, ⟨(some 19), none, (.k (.mov (.t 70)))⟩, ⟨(some 20), none, (.k (.mov (.t 71)))⟩]) SizeTells_7)
def SizeTells_5 : AC := (.seq (.ops [⟨(some 60), none, (.k (.mov (.t 0)))⟩, ⟨(some 61), none, (.k (.mov (.t 1)))⟩, ⟨(some 62), none, (.call false (.c (.fn (.func 31) [] [])) [(.t 60), (.t 61)])⟩, ⟨(some 59), none, (.k (.mov (.t 62)))⟩, ⟨(some 63), none, (.k (.ext (.t 59) 0))⟩, ⟨(some 64), none, (.k (.ext (.t 59) 1))⟩, ⟨(some 16), none, (.k (.mov (.t 63)))⟩, ⟨(some 17), none, (.k (.mov (.t 64)))⟩]) SizeTells_6)
def SizeTells_4 : AC := (.seq (.ops [⟨(some 54), none, (.k (.mov (.t 0)))⟩, ⟨(some 55), none, (.k (.mov (.t 1)))⟩, ⟨(some 56), none, (.call false (.c (.fn (.func 12) [] [])) [(.t 54), (.t 55)])⟩, ⟨(some 53), none, (.k (.mov (.t 56)))⟩, ⟨(some 57), none, (.k (.ext (.t 53) 0))⟩, ⟨(some 58), none, (.k (.ext (.t 53) 1))⟩, ⟨(some 14), none, (.k (.mov (.t 57)))⟩, ⟨(some 15), none, (.k (.mov (.t 58)))⟩]) SizeTells_5)
def SizeTells_3 : AC := (.seq (.ops [⟨(some 29), none, (.k (.mov (.t 0)))⟩, ⟨(some 30), none, (.k (.len (.t 29)))⟩, ⟨(some 31), none, (.k (.bin .gtr (.t 30) (.c (.sc (.int .i64 20)))))⟩, ⟨(some 32), none, (.k (.mov (.t 31)))⟩, ⟨(some 33), (some (32, false)), (.k (.mov (.t 1)))⟩, ⟨(some 34), (some (32, false)), (.k (.len (.t 33)))⟩, ⟨(some 35), (some (32, false)), (.k (.bin .gtr (.t 34) (.c (.sc (.int .i64 40)))))⟩, ⟨(some 36), none, (.k (.pick (.t 32) (.c (.sc (.bool true))) (.t 35)))⟩, ⟨(some 37), none, (.k (.mov (.t 36)))⟩, ⟨(some 38), (some (37, false)), (.k (.mov (.t 3)))⟩, ⟨(some 39), (some (37, false)), (.k (.len (.t 38)))⟩, ⟨(some 40), (some (37, false)), (.k (.bin .gtr (.t 39) (.c (.sc (.int .i64 20)))))⟩, ⟨(some 41), none, (.k (.pick (.t 37) (.c (.sc (.bool true))) (.t 40)))⟩, ⟨(some 42), none, (.k (.mov (.t 41)))⟩, ⟨(some 43), (some (42, false)), (.k (.mov (.t 4)))⟩, ⟨(some 44), (some (42, false)), (.k (.len (.t 43)))⟩, ⟨(some 45), (some (42, false)), (.k (.bin .gtr (.t 44) (.c (.sc (.int .i64 20)))))⟩, ⟨(some 46), none, (.k (.pick (.t 42) (.c (.sc (.bool true))) (.t 45)))⟩, ⟨(some 47), none, (.k (.mov (.t 46)))⟩, ⟨(some 48), (some (47, false)), (.k (.ld 4 true (.t 11)))⟩, ⟨(some 49), (some (47, false)), (.call false (.c (.fn (.func 30) [] [])) [(.t 48)])⟩, ⟨(some 50), (some (47, false)), (.k (.un .not (.t 49)))⟩, ⟨(some 51), none, (.k (.pick (.t 47) (.c (.sc (.bool true))) (.t 50)))⟩]) (.cond (.t 51) (.seq (.ops [⟨(some 52), none, (.k (.mov (.t 13)))⟩, ⟨(some 12), none, (.k (.mov (.t 52)))⟩]) .ret) .skip))
def SizeTells_2 : AC := (.seq SizeTells_3 SizeTells_4)
def SizeTells_1 : AC := (.seq (.ops [⟨(some 28), none, (.call false (.c (.fn (.func 11) [] [])) [])⟩, ⟨(some 13), none, (.k (.mov (.t 28)))⟩]) SizeTells_2)
def SizeTells_ac : AC := (.seq (.ops [⟨(some 11), none, (.k (.new 52 4 (.t 5)))⟩, ⟨(some 12), none, (.k (.mov (.c (.sc (.bool false)))))⟩]) SizeTells_1)
theorem SizeTells_call {args : List AV} {H : List AObj} {R : AV → List AObj → Prop} (h : AWp Try.prog [] H.length SizeTells_ac (bodyQ H.length [(.t 12)] R) (args ++ List.replicate (148 - args.length) .und) H) : ACalls Try.prog 10 args H R :=
  ACalls.of_fn Try.func10 rfl (by kernel_rfl) rfl Try.ntmps10 h

set_option maxHeartbeats 4000000 in
theorem SizeTells_spec {a1 a2 a3 a4 a5 : AV} {xs ns ms : List Int} {fs : List (Int × Int × Int)} {rank : Int} {T : Tn} (h1 : ISl a1 xs) (h2 : Sp a2 fs) (hr : -9223372036854775808 ≤ rank ∧ rank ≤ 9223372036854775807) (h3 : ISl a3 ns) (h4 : ISl a4 ms) (h5 : Tns a5 T) :
    ACalls Try.prog 10 [a1, a2, I rank, a3, a4, a5] [] fun r H' => H' = [] ∧ r = Bo true := by
  have h1' := h1
  have h2' := h2
  have h3' := h3
  have h4' := h4
  obtain ⟨⟨nl1, c1, sz1, rfl, -⟩, -⟩ := h1
  obtain ⟨⟨nl2, c2, sz2, rfl, -⟩, -⟩ := h2
  obtain ⟨⟨nl3, c3, sz3, rfl, -⟩, -⟩ := h3
  obtain ⟨⟨nl4, c4, sz4, rfl, -⟩, -⟩ := h4
  have h5' := h5
  obtain ⟨S, F, ls, V⟩ := T
  obtain ⟨sh, f, l, v, rfl, hS, hF, hl, hV⟩ := h5
  simp only at hS hF hl hV
  have hS' := hS
  have hF' := hF
  have hl' := hl
  have hV' := hV
  obtain ⟨⟨nl5, c5, sz5, rfl, -⟩, -⟩ := hS
  obtain ⟨⟨nl6, c6, sz6, rfl, -⟩, -⟩ := hF
  obtain ⟨⟨nl7, c7, sz7, rfl, -⟩, -⟩ := hl
  obtain ⟨⟨nl8, c8, sz8, rfl, -⟩, -⟩ := hV
  obtain ⟨tn, htn⟩ : ∃ tn, tn = AV.agg [.imm nl5 c5 sz5 (S.map I), .imm nl6 c6 sz6 (F.map specV), .imm nl7 c7 sz7 (ls.map lvV), .imm nl8 c8 sz8 (V.map I)] := ⟨_, rfl⟩
  have base : ACalls Try.prog 10 [.imm nl1 c1 sz1 (xs.map I), .imm nl2 c2 sz2 (fs.map specV), I rank, .imm nl3 c3 sz3 (ns.map I), .imm nl4 c4 sz4 (ms.map I), .agg [.imm nl5 c5 sz5 (S.map I), .imm nl6 c6 sz6 (F.map specV), .imm nl7 c7 sz7 (ls.map lvV), .imm nl8 c8 sz8 (V.map I)]] [] fun r H' => r = Bo true := by
    apply SizeTells_call
    first | refine AWp.seq (AWp.ops ?_) | refine AWp.seq (AWp.seq (AWp.ops ?_)) | refine AWp.ops ?_ | refine AWp.seq (AWp.block (AWp.seq (AWp.ops ?_))) | refine AWp.seq (AWp.seq (AWp.seq (AWp.ops ?_))) | refine AWp.block (AWp.seq (AWp.ops ?_)) | refine AWp.block (AWp.seq (AWp.seq (AWp.ops ?_))) | refine AWp.seq (AWp.block (AWp.seq (AWp.seq (AWp.ops ?_))))
    simp
    first | refine AWp.seq (AWp.ops ?_) | refine AWp.seq (AWp.seq (AWp.ops ?_)) | refine AWp.ops ?_ | refine AWp.seq (AWp.block (AWp.seq (AWp.ops ?_))) | refine AWp.seq (AWp.seq (AWp.seq (AWp.ops ?_))) | refine AWp.block (AWp.seq (AWp.ops ?_)) | refine AWp.block (AWp.seq (AWp.seq (AWp.ops ?_))) | refine AWp.seq (AWp.block (AWp.seq (AWp.seq (AWp.ops ?_))))
    simp
    refine ((live20_spec).pure (by simp) (by rintro r rfl; simp) _).mono ?_
    rintro r H' ⟨rfl, rfl⟩
    simp
    obtain ⟨sm, hsm⟩ : ∃ sm, sm = decide (20 < xs.length ∨ 40 < fs.length ∨ 20 < ns.length ∨ 20 < ms.length ∨ fewF ⟨S, F, ls, V⟩ = false) := ⟨_, rfl⟩
    refine AWp.seq (AWp.cut [.imm nl1 c1 sz1 (xs.map I), .imm nl2 c2 sz2 (fs.map specV), I rank, .imm nl3 c3 sz3 (ns.map I), .imm nl4 c4 sz4 (ms.map I), .und, .und, .und, .und, .und, .und, .ptr 0 1 0 0, .und, Bo true, .und, .und, .und, .und, .und, .und, .und, .und, .und, .und, .und, .und, .und, .und, .und, .und, .und, .und, .und, .und, .und, .und, .und, .und, .und, .und, .und, .und, .und, .und, .und, .und, .und, .und, .und, .und, .und, Bo sm, .und, .und, .und, .und, .und, .und, .und, .und, .und, .und, .und, .und, .und, .und, .und, .und, .und, .und, .und, .und, .und, .und, .und, .und, .und, .und, .und, .und, .und, .und, .und, .und, .und, .und, .und, .und, .und, .und, .und, .und, .und, .und, .und, .und, .und, .und, .und, .und, .und, .und, .und, .und, .und, .und, .und, .und, .und, .und, .und, .und, .und, .und, .und, .und, .und, .und, .und, .und, .und, .und, .und, .und, .und, .und, .und, .und, .und, .und, .und, .und, .und, .und, .und, .und, .und, .und, .und, .und, .und, .und, .und, .und, .und, .und, .und, .und] [tnO (.agg [.imm nl5 c5 sz5 (S.map I), .imm nl6 c6 sz6 (F.map specV), .imm nl7 c7 sz7 (ls.map lvV), .imm nl8 c8 sz8 (V.map I)])] ?_ ?_)
    · by_cases g1 : 20 < xs.length
      · have g1' : 20 < (xs.length : Int) := by omega
        first | refine AWp.seq (AWp.ops ?_) | refine AWp.seq (AWp.seq (AWp.ops ?_)) | refine AWp.ops ?_ | refine AWp.seq (AWp.block (AWp.seq (AWp.ops ?_))) | refine AWp.seq (AWp.seq (AWp.seq (AWp.ops ?_))) | refine AWp.block (AWp.seq (AWp.ops ?_)) | refine AWp.block (AWp.seq (AWp.seq (AWp.ops ?_))) | refine AWp.seq (AWp.block (AWp.seq (AWp.seq (AWp.ops ?_))))
        simp [g1']
        exact (Weak.slots [0, 1, 2, 3, 4, 11, 13, 51]).to (by simp [hsm, g1]) rfl
      have g1' : ¬ 20 < (xs.length : Int) := by omega
      by_cases g2 : 40 < fs.length
      · have g2' : 40 < (fs.length : Int) := by omega
        first | refine AWp.seq (AWp.ops ?_) | refine AWp.seq (AWp.seq (AWp.ops ?_)) | refine AWp.ops ?_ | refine AWp.seq (AWp.block (AWp.seq (AWp.ops ?_))) | refine AWp.seq (AWp.seq (AWp.seq (AWp.ops ?_))) | refine AWp.block (AWp.seq (AWp.ops ?_)) | refine AWp.block (AWp.seq (AWp.seq (AWp.ops ?_))) | refine AWp.seq (AWp.block (AWp.seq (AWp.seq (AWp.ops ?_))))
        simp [g1', g2']
        exact (Weak.slots [0, 1, 2, 3, 4, 11, 13, 51]).to (by simp [hsm, g2]) rfl
      have g2' : ¬ 40 < (fs.length : Int) := by omega
      by_cases g3 : 20 < ns.length
      · have g3' : 20 < (ns.length : Int) := by omega
        first | refine AWp.seq (AWp.ops ?_) | refine AWp.seq (AWp.seq (AWp.ops ?_)) | refine AWp.ops ?_ | refine AWp.seq (AWp.block (AWp.seq (AWp.ops ?_))) | refine AWp.seq (AWp.seq (AWp.seq (AWp.ops ?_))) | refine AWp.block (AWp.seq (AWp.ops ?_)) | refine AWp.block (AWp.seq (AWp.seq (AWp.ops ?_))) | refine AWp.seq (AWp.block (AWp.seq (AWp.seq (AWp.ops ?_))))
        simp [g1', g2', g3']
        exact (Weak.slots [0, 1, 2, 3, 4, 11, 13, 51]).to (by simp [hsm, g3]) rfl
      have g3' : ¬ 20 < (ns.length : Int) := by omega
      by_cases g4 : 20 < ms.length
      · have g4' : 20 < (ms.length : Int) := by omega
        first | refine AWp.seq (AWp.ops ?_) | refine AWp.seq (AWp.seq (AWp.ops ?_)) | refine AWp.ops ?_ | refine AWp.seq (AWp.block (AWp.seq (AWp.ops ?_))) | refine AWp.seq (AWp.seq (AWp.seq (AWp.ops ?_))) | refine AWp.block (AWp.seq (AWp.ops ?_)) | refine AWp.block (AWp.seq (AWp.seq (AWp.ops ?_))) | refine AWp.seq (AWp.block (AWp.seq (AWp.seq (AWp.ops ?_))))
        simp [g1', g2', g3', g4']
        exact (Weak.slots [0, 1, 2, 3, 4, 11, 13, 51]).to (by simp [hsm, g4]) rfl
      have g4' : ¬ 20 < (ms.length : Int) := by omega
      first | refine AWp.seq (AWp.ops ?_) | refine AWp.seq (AWp.seq (AWp.ops ?_)) | refine AWp.ops ?_ | refine AWp.seq (AWp.block (AWp.seq (AWp.ops ?_))) | refine AWp.seq (AWp.seq (AWp.seq (AWp.ops ?_))) | refine AWp.block (AWp.seq (AWp.ops ?_)) | refine AWp.block (AWp.seq (AWp.seq (AWp.ops ?_))) | refine AWp.seq (AWp.block (AWp.seq (AWp.seq (AWp.ops ?_))))
      simp [g1', g2', g3', g4']
      refine ((few_spec h5').pure (by simp) (by rintro r rfl; simp) _).mono ?_
      rintro r H' ⟨rfl, rfl⟩
      simp
      exact (Weak.slots [0, 1, 2, 3, 4, 11, 13, 51]).to (by simp [hsm, g1, g2, g3, g4]) rfl
    refine AWp.cond (b := sm) (by simp) ?_ ?_
    · intro h
      first | refine AWp.seq (AWp.ops ?_) | refine AWp.seq (AWp.seq (AWp.ops ?_)) | refine AWp.ops ?_ | refine AWp.seq (AWp.block (AWp.seq (AWp.ops ?_))) | refine AWp.seq (AWp.seq (AWp.seq (AWp.ops ?_))) | refine AWp.block (AWp.seq (AWp.ops ?_)) | refine AWp.block (AWp.seq (AWp.seq (AWp.ops ?_))) | refine AWp.seq (AWp.block (AWp.seq (AWp.seq (AWp.ops ?_))))
      simp
      refine AWp.ret ?_
      simp
      refine retOk.of rfl ?_
      simp
    intro h
    have hg : ¬ (20 < xs.length ∨ 40 < fs.length ∨ 20 < ns.length ∨ 20 < ms.length ∨ fewF ⟨S, F, ls, V⟩ = false) := by simpa only [hsm, decide_eq_false_iff_not] using h
    have hfew : fewF ⟨S, F, ls, V⟩ = true := by
      cases e : fewF ⟨S, F, ls, V⟩ with
      | true => rfl
      | false => exact absurd (.inr (.inr (.inr (.inr e)))) hg
    simp only [fewF, Bool.and_eq_true, decide_eq_true_eq, List.all_eq_true] at hfew
    obtain ⟨hf1, hf2⟩ := hfew
    have hsml : ∀ x ∈ ls, x.lv.pos.length ≤ 4611686018427387903 ∧ x.lv.crd.length ≤ 4611686018427387903 := fun x hx => by have := hf2 x hx; omega
    refine AWp.skip ?_
    simp only [qSeq]
    first | refine AWp.seq (AWp.ops ?_) | refine AWp.seq (AWp.seq (AWp.ops ?_)) | refine AWp.ops ?_ | refine AWp.seq (AWp.block (AWp.seq (AWp.ops ?_))) | refine AWp.seq (AWp.seq (AWp.seq (AWp.ops ?_))) | refine AWp.block (AWp.seq (AWp.ops ?_)) | refine AWp.block (AWp.seq (AWp.seq (AWp.ops ?_))) | refine AWp.seq (AWp.block (AWp.seq (AWp.seq (AWp.ops ?_))))
    simp
    refine ((Worst_spec h1' h2' (by omega)).pure (by simp) (by rintro r ⟨o, rfl, ⟨⟨_, _, _, rfl, _⟩, _⟩⟩; simp) _).mono ?_
    rintro r H' ⟨rfl, o1, rfl, ho1⟩
    have ho1' := ho1
    obtain ⟨⟨nlA, cA, szA, rfl, -⟩, -⟩ := ho1
    simp
    first | refine AWp.seq (AWp.ops ?_) | refine AWp.seq (AWp.seq (AWp.ops ?_)) | refine AWp.ops ?_ | refine AWp.seq (AWp.block (AWp.seq (AWp.ops ?_))) | refine AWp.seq (AWp.seq (AWp.seq (AWp.ops ?_))) | refine AWp.block (AWp.seq (AWp.ops ?_)) | refine AWp.block (AWp.seq (AWp.seq (AWp.ops ?_))) | refine AWp.seq (AWp.block (AWp.seq (AWp.seq (AWp.ops ?_))))
    simp
    refine ((rWorst_spec h1' h2' (by omega) (by omega)).pure (by simp) (by rintro r ⟨o, rfl, ⟨⟨_, _, _, rfl, _⟩, _⟩⟩; simp) _).mono ?_
    rintro r H' ⟨rfl, o2, rfl, ho2⟩
    have ho2' := ho2
    obtain ⟨⟨nlB, cB, szB, rfl, -⟩, -⟩ := ho2
    simp
    first | refine AWp.seq (AWp.ops ?_) | refine AWp.seq (AWp.seq (AWp.ops ?_)) | refine AWp.ops ?_ | refine AWp.seq (AWp.block (AWp.seq (AWp.ops ?_))) | refine AWp.seq (AWp.seq (AWp.seq (AWp.ops ?_))) | refine AWp.block (AWp.seq (AWp.ops ?_)) | refine AWp.block (AWp.seq (AWp.seq (AWp.ops ?_))) | refine AWp.seq (AWp.block (AWp.seq (AWp.seq (AWp.ops ?_))))
    simp
    refine ((zTurn_spec h3' hr).pure (by simp) (by rintro r rfl; simp) _).mono ?_
    rintro r H' ⟨rfl, rfl⟩
    simp
    first | refine AWp.seq (AWp.ops ?_) | refine AWp.seq (AWp.seq (AWp.ops ?_)) | refine AWp.ops ?_ | refine AWp.seq (AWp.block (AWp.seq (AWp.ops ?_))) | refine AWp.seq (AWp.seq (AWp.seq (AWp.ops ?_))) | refine AWp.block (AWp.seq (AWp.ops ?_)) | refine AWp.block (AWp.seq (AWp.seq (AWp.ops ?_))) | refine AWp.seq (AWp.block (AWp.seq (AWp.seq (AWp.ops ?_))))
    simp
    refine ((rTurn_spec h3' hr).pure (by simp) (by rintro r rfl; simp) _).mono ?_
    rintro r H' ⟨rfl, rfl⟩
    simp
    first | refine AWp.seq (AWp.ops ?_) | refine AWp.seq (AWp.seq (AWp.ops ?_)) | refine AWp.ops ?_ | refine AWp.seq (AWp.block (AWp.seq (AWp.ops ?_))) | refine AWp.seq (AWp.seq (AWp.seq (AWp.ops ?_))) | refine AWp.block (AWp.seq (AWp.ops ?_)) | refine AWp.block (AWp.seq (AWp.seq (AWp.ops ?_))) | refine AWp.seq (AWp.block (AWp.seq (AWp.seq (AWp.ops ?_))))
    simp
    refine ((zCounts_spec (nm := t_) hS' hF' hl' hV' (by omega) (by omega)).pure (by simp) (by rintro r ⟨o, rfl, ⟨⟨_, _, _, rfl, _⟩, _⟩⟩; simp) _).mono ?_
    rintro r H' ⟨rfl, o3, rfl, ho3⟩
    have ho3' := ho3
    obtain ⟨⟨nlC, cC, szC, rfl, -⟩, -⟩ := ho3
    simp
    first | refine AWp.seq (AWp.ops ?_) | refine AWp.seq (AWp.seq (AWp.ops ?_)) | refine AWp.ops ?_ | refine AWp.seq (AWp.block (AWp.seq (AWp.ops ?_))) | refine AWp.seq (AWp.seq (AWp.seq (AWp.ops ?_))) | refine AWp.block (AWp.seq (AWp.ops ?_)) | refine AWp.block (AWp.seq (AWp.seq (AWp.ops ?_))) | refine AWp.seq (AWp.block (AWp.seq (AWp.seq (AWp.ops ?_))))
    simp
    refine ((yCounts_spec (nm := t_) hS' hF' hl' hV' (by omega) (by omega) (by omega) hsml).pure (by simp) (by rintro r ⟨o, rfl, ⟨⟨_, _, _, rfl, _⟩, _⟩⟩; simp) _).mono ?_
    rintro r H' ⟨rfl, o4, rfl, ho4⟩
    have ho4' := ho4
    obtain ⟨⟨nlD, cD, szD, rfl, -⟩, -⟩ := ho4
    simp
    first | refine AWp.seq (AWp.ops ?_) | refine AWp.seq (AWp.seq (AWp.ops ?_)) | refine AWp.ops ?_ | refine AWp.seq (AWp.block (AWp.seq (AWp.ops ?_))) | refine AWp.seq (AWp.seq (AWp.seq (AWp.ops ?_))) | refine AWp.block (AWp.seq (AWp.ops ?_)) | refine AWp.block (AWp.seq (AWp.seq (AWp.ops ?_))) | refine AWp.seq (AWp.block (AWp.seq (AWp.seq (AWp.ops ?_))))
    simp
    refine ((rEqual_spec ho1' ho2').pure (by simp) (by rintro r rfl; simp) _).mono ?_
    rintro r H' ⟨rfl, rfl⟩
    simp
    refine ((rEqual_spec ho3' ho4').pure (by simp) (by rintro r rfl; simp) _).mono ?_
    rintro r H' ⟨rfl, rfl⟩
    simp
    refine ((Within_spec h3' h4').pure (by simp) (by rintro r rfl; simp) _).mono ?_
    rintro r H' ⟨rfl, rfl⟩
    simp
    refine ((rWithin_spec h3' h4').pure (by simp) (by rintro r rfl; simp) _).mono ?_
    rintro r H' ⟨rfl, rfl⟩
    simp
    refine ((Within_spec h3' h3').pure (by simp) (by rintro r rfl; simp) _).mono ?_
    rintro r H' ⟨rfl, rfl⟩
    rw [withF_self]
    simp
    refine AWp.ret ?_
    simp
    refine retOk.of rfl ?_
    simp
  refine (base.frozen 2).mono ?_
  rintro q H' ⟨rfl, r, G, rfl, rfl⟩
  exact ⟨rfl, by simp⟩
end Go.Fw
