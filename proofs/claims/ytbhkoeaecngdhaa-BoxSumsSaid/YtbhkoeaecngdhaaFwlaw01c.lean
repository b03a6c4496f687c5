import Derived.Test.YtbhkoeaecngdhaaFwlaw01b
namespace Go.Fw
open Go Go.RowKit Go.Proofs
set_option maxRecDepth 100000
set_option linter.unusedSimpArgs false
set_option linter.unusedVariables false

theorem Dns.nil : Dns [] [] := ⟨rfl, fun i h => by simp at h⟩
theorem Dns.cons {d : AV} {D : List Int × List Int} {ds : List AV} {Ds : List (List Int × List Int)} (h : Dn d D) (t : Dns ds Ds) : Dns (d :: ds) (D :: Ds) := by
  refine ⟨by simp [t.1], fun i h1 h2 => ?_⟩
  cases i with
  | zero => exact h
  | succ i => exact t.2 i (by simpa using h1) (by simpa using h2)

def BoxCells_8 : AC := (.seq (.ops [⟨(some 57), none, (.k (.mov (.t 9)))⟩, ⟨(some 58), none, (.k (.mov (.t 57)))⟩, ⟨(some 59), (some (58, true)), (.k (.ld 2 true (.t 10)))⟩, ⟨(some 60), (some (58, true)), (.k (.ld 2 true (.t 12)))⟩, ⟨(some 61), (some (58, true)), (.call true (.c (.fn (.func 24) [] [])) [(.t 59), (.t 60)])⟩, ⟨(some 62), none, (.k (.pick (.t 58) (.t 61) (.c (.sc (.bool false)))))⟩, ⟨(some 63), none, (.k (.mov (.t 62)))⟩, ⟨(some 64), (some (63, true)), (.k (.mov (.t 11)))⟩, ⟨(some 65), (some (63, true)), (.k (.mov (.t 13)))⟩, ⟨(some 66), (some (63, true)), (.k (.bin .eql (.t 64) (.t 65)))⟩, ⟨(some 67), none, (.k (.pick (.t 63) (.t 66) (.c (.sc (.bool false)))))⟩, ⟨(some 68), none, (.k (.mov (.t 67)))⟩, ⟨(some 69), (some (68, true)), (.k (.mov (.t 14)))⟩, ⟨(some 70), (some (68, true)), (.k (.mov (.t 16)))⟩, ⟨(some 71), (some (68, true)), (.k (.bin .eql (.t 69) (.t 70)))⟩, ⟨(some 72), none, (.k (.pick (.t 68) (.t 71) (.c (.sc (.bool false)))))⟩, ⟨(some 73), none, (.k (.mov (.t 72)))⟩, ⟨(some 74), (some (73, true)), (.k (.mov (.t 15)))⟩, ⟨(some 75), (some (73, true)), (.k (.mov (.t 17)))⟩, ⟨(some 76), (some (73, true)), (.k (.bin .eql (.t 74) (.t 75)))⟩, ⟨(some 77), none, (.k (.pick (.t 73) (.t 76) (.c (.sc (.bool false)))))⟩, ⟨(some 78), none, (.k (.mov (.t 77)))⟩, ⟨(some 79), (some (78, true)), (.k (.ld 2 true (.t 4)))⟩, ⟨(some 81), (some (78, true)), (.k (.ld 2 true (.t 4)))⟩, ⟨(some 80), (some (78, true)), (.call true (.c (.fn (.func 25) [] [])) [(.t 79)])⟩, ⟨(some 82), (some (78, true)), (.call true (.c (.fn (.func 26) [] [])) [(.t 81)])⟩, ⟨(some 83), (some (78, true)), (.k (.bin .eql (.t 80) (.t 82)))⟩, ⟨(some 84), none, (.k (.pick (.t 78) (.t 83) (.c (.sc (.bool false)))))⟩, ⟨(some 85), none, (.k (.mov (.t 84)))⟩, ⟨(some 86), (some (85, true)), (.k (.ld 2 true (.t 4)))⟩, ⟨(some 87), (some (85, true)), (.k (.ld 2 true (.t 5)))⟩, ⟨(some 89), (some (85, true)), (.k (.ld 2 true (.t 4)))⟩, ⟨(some 90), (some (85, true)), (.k (.ld 2 true (.t 5)))⟩, ⟨(some 88), (some (85, true)), (.call true (.c (.fn (.func 27) [] [])) [(.t 86), (.t 87)])⟩, ⟨(some 91), (some (85, true)), (.call true (.c (.fn (.func 28) [] [])) [(.t 89), (.t 90)])⟩, ⟨(some 92), (some (85, true)), (.k (.beq false (.t 88) (.t 91)))⟩, ⟨(some 93), none, (.k (.pick (.t 85) (.t 92) (.c (.sc (.bool false)))))⟩, ⟨(some 8), none, (.k (.mov (.t 93)))⟩]) .ret)
def BoxCells_7 : AC := (.seq (.ops [⟨(some 52), none, (.k (.ld 2 true (.t 4)))⟩, ⟨(some 53), none, (.k (.mov (.t 3)))⟩, ⟨(some 54), none, (.call false (.c (.fn (.func 23) [] [])) [(.t 52), (.t 53)])⟩, ⟨(some 51), none, (.k (.mov (.t 54)))⟩, ⟨(some 55), none, (.k (.ext (.t 51) 0))⟩, ⟨(some 56), none, (.k (.ext (.t 51) 1))⟩, ⟨(some 16), none, (.k (.mov (.t 55)))⟩, ⟨(some 17), none, (.k (.mov (.t 56)))⟩]) BoxCells_8)
def BoxCells_6 : AC := (.seq (.ops [⟨(some 46), none, (.k (.ld 2 true (.t 4)))⟩, ⟨(some 47), none, (.k (.mov (.t 3)))⟩, ⟨(some 48), none, (.call false (.c (.fn (.func 22) [] [])) [(.t 46), (.t 47)])⟩, ⟨(some 45), none, (.k (.mov (.t 48)))⟩, ⟨(some 49), none, (.k (.ext (.t 45) 0))⟩, ⟨(some 50), none, (.k (.ext (.t 45) 1))⟩, ⟨(some 14), none, (.k (.mov (.t 49)))⟩, ⟨(some 15), none, (.k (.mov (.t 50)))⟩]) BoxCells_7)
def BoxCells_5 : AC := (.seq (.ops [⟨(some 41), none, (.k (.mov (.t 2)))⟩, ⟨(some 42), none, (.call false (.c (.fn (.func 21) [] [])) [(.t 41)])⟩, ⟨(some 40), none, (.k (.mov (.t 42)))⟩, ⟨(some 43), none, (.k (.ext (.t 40) 0))⟩, ⟨(some 44), none, (.k (.ext (.t 40) 1))⟩, ⟨(some 12), none, (.k (.new 35 2 (.c (.agg [(.imm true none 0 []), (.imm true none 0 [])]))))⟩, ⟨none, none, (.k (.st 2 (.t 12) (.t 43)))⟩, ⟨(some 13), none, (.k (.mov (.t 44)))⟩]) BoxCells_6)
def BoxCells_4 : AC := (.seq (.ops [⟨(some 36), none, (.k (.mov (.t 2)))⟩, ⟨(some 37), none, (.call false (.c (.fn (.func 20) [] [])) [(.t 36)])⟩, ⟨(some 35), none, (.k (.mov (.t 37)))⟩, ⟨(some 38), none, (.k (.ext (.t 35) 0))⟩, ⟨(some 39), none, (.k (.ext (.t 35) 1))⟩, ⟨(some 10), none, (.k (.new 35 2 (.c (.agg [(.imm true none 0 []), (.imm true none 0 [])]))))⟩, ⟨none, none, (.k (.st 2 (.t 10) (.t 38)))⟩, ⟨(some 11), none, (.k (.mov (.t 39)))⟩]) BoxCells_5)
def BoxCells_3 : AC := (.seq (.ops [⟨(some 19), none, (.k (.ld 2 true (.t 4)))⟩, ⟨(some 20), none, (.k (.ld 2 true (.t 5)))⟩, ⟨(some 21), none, (.k (.lit 2 [(.t 19), (.t 20)]))⟩, ⟨(some 22), none, (.call false (.c (.fn (.func 19) [] [])) [(.t 21)])⟩, ⟨(some 23), none, (.k (.un .not (.t 22)))⟩, ⟨(some 24), none, (.k (.mov (.t 23)))⟩, ⟨(some 25), (some (24, false)), (.k (.mov (.t 2)))⟩, ⟨(some 26), (some (24, false)), (.k (.len (.t 25)))⟩, ⟨(some 27), (some (24, false)), (.k (.bin .gtr (.t 26) (.c (.sc (.int .i64 20)))))⟩, ⟨(some 28), none, (.k (.pick (.t 24) (.c (.sc (.bool true))) (.t 27)))⟩, ⟨(some 29), none, (.k (.mov (.t 28)))⟩, ⟨(some 30), (some (29, false)), (.k (.mov (.t 3)))⟩, ⟨(some 31), (some (29, false)), (.k (.len (.t 30)))⟩, ⟨(some 32), (some (29, false)), (.k (.bin .gtr (.t 31) (.c (.sc (.int .i64 20)))))⟩, ⟨(some 33), none, (.k (.pick (.t 29) (.c (.sc (.bool true))) (.t 32)))⟩]) (.cond (.t 33) (.seq (.ops [⟨(some 34), none, (.k (.mov (.t 9)))⟩, ⟨(some 8), none, (.k (.mov (.t 34)))⟩]) .ret) .skip))
def BoxCells_2 : AC := (.seq BoxCells_3 BoxCells_4)
def BoxCells_1 : AC := (.seq (.ops [⟨(some 18), none, (.call false (.c (.fn (.func 11) [] [])) [])⟩, ⟨(some 9), none, (.k (.mov (.t 18)))⟩]) BoxCells_2)
def BoxCells_ac : AC := (.seq (.ops [⟨(some 4), none, (.k (.new 35 2 (.t 0)))⟩, ⟨(some 5), none, (.k (.new 35 2 (.t 1)))⟩, ⟨(some 8), none, (.k (.mov (.c (.sc (.bool false)))))⟩]) BoxCells_1)
theorem BoxCells_call {args : List AV} {H : List AObj} {R : AV → List AObj → Prop} (h : AWp Try.prog [] H.length BoxCells_ac (bodyQ H.length [(.t 8)] R) (args ++ List.replicate (94 - args.length) .und) H) : ACalls Try.prog 6 args H R :=
  ACalls.of_fn Try.func6 rfl (by kernel_rfl) rfl Try.ntmps6 h

set_option maxHeartbeats 4000000 in
theorem BoxCells_spec {d e a b : AV} {D E : List Int × List Int} {xs cs : List Int} (hd : Dn d D) (he : Dn e E) (ha : ISl a xs) (hb : ISl b cs) :
    ACalls Try.prog 6 [d, e, a, b] [] fun r H' => H' = [] ∧ r = Bo true := by
  have hd' := hd
  have he' := he
  have ha' := ha
  have hb' := hb
  obtain ⟨s1, v1, rfl, ⟨⟨nl1, c1, z1, rfl, _⟩, _⟩, ⟨⟨nl2, c2, z2, rfl, _⟩, _⟩⟩ := hd
  obtain ⟨s2, v2, rfl, ⟨⟨nl3, c3, z3, rfl, _⟩, _⟩, ⟨⟨nl4, c4, z4, rfl, _⟩, _⟩⟩ := he
  obtain ⟨⟨nl5, c5, z5, rfl, _⟩, _⟩ := ha
  obtain ⟨⟨nl6, c6, z6, rfl, _⟩, _⟩ := hb
  refine ACalls.res 0 ?_ (fun _ => rfl)
  apply BoxCells_call
  first | refine AWp.seq (AWp.ops ?_) | refine AWp.seq (AWp.seq (AWp.ops ?_)) | refine AWp.ops ?_ | refine AWp.seq (AWp.block (AWp.seq (AWp.ops ?_))) | refine AWp.seq (AWp.seq (AWp.seq (AWp.ops ?_)))
  simp
  first | refine AWp.seq (AWp.ops ?_) | refine AWp.seq (AWp.seq (AWp.ops ?_)) | refine AWp.ops ?_ | refine AWp.seq (AWp.block (AWp.seq (AWp.ops ?_))) | refine AWp.seq (AWp.seq (AWp.seq (AWp.ops ?_)))
  simp
  refine (live_spec.pure (by simp) (by rintro r rfl; simp) _).mono ?_
  rintro r H' ⟨rfl, rfl⟩
  simp
  first | refine AWp.seq (AWp.ops ?_) | refine AWp.seq (AWp.seq (AWp.ops ?_)) | refine AWp.ops ?_ | refine AWp.seq (AWp.block (AWp.seq (AWp.ops ?_))) | refine AWp.seq (AWp.seq (AWp.seq (AWp.ops ?_)))
  simp
  refine ((few_spec (.cons hd' (.cons he' .nil)) (by simp)).pure (by simp) (by rintro r rfl; simp) _).mono ?_
  rintro r H' ⟨rfl, rfl⟩
  by_cases h : [D, E].all fewB = true ∧ xs.length ≤ 20 ∧ cs.length ≤ 20
  · obtain ⟨h1, h2, h3⟩ := h
    have g2 : ¬ 20 < (xs.length : Int) := by omega
    have g3 : ¬ 20 < (cs.length : Int) := by omega
    simp only [h1]
    simp [g2, Int.not_lt.1 g2, g3, Int.not_lt.1 g3]
    refine AWp.cond (b := false) (by simp [g3]) (fun h => by cases h) (fun _ => ?_)
    refine AWp.skip ?_
    simp only [qSeq]
    first | refine AWp.seq (AWp.ops ?_) | refine AWp.seq (AWp.seq (AWp.ops ?_)) | refine AWp.ops ?_ | refine AWp.seq (AWp.block (AWp.seq (AWp.ops ?_))) | refine AWp.seq (AWp.seq (AWp.seq (AWp.ops ?_)))
    simp
    refine ((Zero_pure ha').pure (by simp) (by rintro r ⟨d, rfl, h⟩; simp [h.noRef]) _).mono ?_
    rintro r H' ⟨rfl, d1, rfl, hd1⟩
    have hd1' := hd1
    obtain ⟨s3, v3, rfl, ⟨⟨nl7, c7, z7, rfl, _⟩, _⟩, ⟨⟨nl8, c8, z8, rfl, _⟩, _⟩⟩ := hd1
    simp
    first | refine AWp.seq (AWp.ops ?_) | refine AWp.seq (AWp.seq (AWp.ops ?_)) | refine AWp.ops ?_ | refine AWp.seq (AWp.block (AWp.seq (AWp.ops ?_))) | refine AWp.seq (AWp.seq (AWp.seq (AWp.ops ?_)))
    simp
    refine ((rZero_pure ha').pure (by simp) (by rintro r ⟨d, rfl, h⟩; simp [h.noRef]) _).mono ?_
    rintro r H' ⟨rfl, d2, rfl, hd2⟩
    have hd2' := hd2
    obtain ⟨s4, v4, rfl, ⟨⟨nl9, c9, z9, rfl, _⟩, _⟩, ⟨⟨nl10, c10, z10, rfl, _⟩, _⟩⟩ := hd2
    simp
    first | refine AWp.seq (AWp.ops ?_) | refine AWp.seq (AWp.seq (AWp.ops ?_)) | refine AWp.ops ?_ | refine AWp.seq (AWp.block (AWp.seq (AWp.ops ?_))) | refine AWp.seq (AWp.seq (AWp.seq (AWp.ops ?_)))
    simp
    refine ((bGet_spec hd' hb').pure (by simp) (by rintro r rfl; simp) _).mono ?_
    rintro r H' ⟨rfl, rfl⟩
    simp
    first | refine AWp.seq (AWp.ops ?_) | refine AWp.seq (AWp.seq (AWp.ops ?_)) | refine AWp.ops ?_ | refine AWp.seq (AWp.block (AWp.seq (AWp.ops ?_))) | refine AWp.seq (AWp.seq (AWp.seq (AWp.ops ?_)))
    simp
    refine ((rGet_spec hd' hb').pure (by simp) (by rintro r rfl; simp) _).mono ?_
    rintro r H' ⟨rfl, rfl⟩
    simp
    first | refine AWp.seq (AWp.ops ?_) | refine AWp.seq (AWp.seq (AWp.ops ?_)) | refine AWp.ops ?_ | refine AWp.seq (AWp.block (AWp.seq (AWp.ops ?_))) | refine AWp.seq (AWp.seq (AWp.seq (AWp.ops ?_)))
    simp
    refine ((rEquals_spec hd1' hd2').pure (by simp) (by rintro r rfl; simp) _).mono ?_
    rintro r H' ⟨rfl, rfl⟩
    simp
    refine ((bCheck_spec hd').pure (by simp) (by rintro r rfl; simp) _).mono ?_
    rintro r H' ⟨rfl, rfl⟩
    simp
    refine ((rCheck_spec hd').pure (by simp) (by rintro r rfl; simp) _).mono ?_
    rintro r H' ⟨rfl, rfl⟩
    simp
    refine ((bSame_spec hd' he').pure (by simp) (by rintro r rfl; simp) _).mono ?_
    rintro r H' ⟨rfl, rfl⟩
    simp
    refine ((rSame_spec hd' he').pure (by simp) (by rintro r rfl; simp) _).mono ?_
    rintro r H' ⟨rfl, rfl⟩
    simp
    refine AWp.ret ?_
    simp
    refine retOk.of rfl ?_
    simp
  · by_cases h1 : [D, E].all fewB = true
    · simp only [h1]
      by_cases h2 : xs.length ≤ 20
      · have h3 : ¬ cs.length ≤ 20 := fun h3 => h ⟨h1, h2, h3⟩
        have g2 : ¬ 20 < (xs.length : Int) := by omega
        have g3 : 20 < (cs.length : Int) := by omega
        simp [g2, Int.not_lt.1 g2]
        refine AWp.cond (b := true) (by simp [g3]) (fun _ => ?_) (fun h => by cases h)
        first | refine AWp.seq (AWp.ops ?_) | refine AWp.seq (AWp.seq (AWp.ops ?_)) | refine AWp.ops ?_ | refine AWp.seq (AWp.block (AWp.seq (AWp.ops ?_))) | refine AWp.seq (AWp.seq (AWp.seq (AWp.ops ?_)))
        simp
        refine AWp.ret ?_
        simp
        refine retOk.of rfl ?_
        rfl
      · have g2 : 20 < (xs.length : Int) := by omega
        simp [g2, Int.not_le.2 g2]
        refine AWp.cond (b := true) (by simp) (fun _ => ?_) (fun h => by cases h)
        first | refine AWp.seq (AWp.ops ?_) | refine AWp.seq (AWp.seq (AWp.ops ?_)) | refine AWp.ops ?_ | refine AWp.seq (AWp.block (AWp.seq (AWp.ops ?_))) | refine AWp.seq (AWp.seq (AWp.seq (AWp.ops ?_)))
        simp
        refine AWp.ret ?_
        simp
        refine retOk.of rfl ?_
        rfl
    · have h1 : [D, E].all fewB = false := by simpa only [Bool.not_eq_true] using h1
      simp only [h1]
      simp
      refine AWp.cond (b := true) (by simp) (fun _ => ?_) (fun h => by cases h)
      first | refine AWp.seq (AWp.ops ?_) | refine AWp.seq (AWp.seq (AWp.ops ?_)) | refine AWp.ops ?_ | refine AWp.seq (AWp.block (AWp.seq (AWp.ops ?_))) | refine AWp.seq (AWp.seq (AWp.seq (AWp.ops ?_)))
      simp
      refine AWp.ret ?_
      simp
      refine retOk.of rfl ?_
      rfl
end Go.Fw
