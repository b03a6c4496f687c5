import Derived.Test.YthipbeffhfdamaaFwlive05
import Derived.Test.YthipbeffhfdamaaFwref05g
import Derived.Test.YthipbeffhfdamaaFwrefe
namespace Go.Fw
open Go Go.RowKit Go.Proofs
set_option maxRecDepth 100000
set_option linter.unusedSimpArgs false
set_option linter.unusedVariables false

def StoreForms_6 : AC := (.seq (.ops [⟨(some 32), none, (.k (.mov (.t 5)))⟩, ⟨(some 33), none, (.k (.mov (.t 32)))⟩, ⟨(some 34), (some (33, true)), (.k (.mov (.t 6)))⟩, ⟨(some 35), (some (33, true)), (.k (.mov (.t 8)))⟩, ⟨(some 36), (some (33, true)), (.call false (.c (.fn (.func 15) [] [])) [(.t 34), (.t 35)])⟩, ⟨(some 37), none, (.k (.pick (.t 33) (.t 36) (.c (.sc (.bool false)))))⟩, ⟨(some 38), none, (.k (.mov (.t 37)))⟩, ⟨(some 39), (some (38, true)), (.k (.mov (.t 7)))⟩, ⟨(some 40), (some (38, true)), (.k (.mov (.t 9)))⟩, ⟨(some 41), (some (38, true)), (.k (.bin .eql (.t 39) (.t 40)))⟩, ⟨(some 42), none, (.k (.pick (.t 38) (.t 41) (.c (.sc (.bool false)))))⟩, ⟨(some 43), none, (.k (.mov (.t 42)))⟩, ⟨(some 44), (some (43, true)), (.k (.mov (.t 0)))⟩, ⟨(some 45), (some (43, true)), (.k (.mov (.t 1)))⟩, ⟨(some 46), (some (43, true)), (.call false (.c (.fn (.func 16) [] [])) [(.t 44), (.t 45)])⟩, ⟨(some 47), (some (43, true)), (.k (.mov (.t 0)))⟩, ⟨(some 48), (some (43, true)), (.k (.mov (.t 1)))⟩, ⟨(some 49), (some (43, true)), (.call false (.c (.fn (.func 17) [] [])) [(.t 47), (.t 48)])⟩, ⟨(some 50), (some (43, true)), (.k (.bin .eql (.t 46) (.t 49)))⟩, ⟨(some 51), none, (.k (.pick (.t 43) (.t 50) (.c (.sc (.bool false)))))⟩, ⟨(some 4), none, (.k (.mov (.t 51)))⟩]) .ret)
def StoreForms_5 : AC := (.seq (.ops [⟨(some 27), none, (.k (.mov (.t 0)))⟩, ⟨(some 28), none, (.k (.mov (.t 1)))⟩, ⟨(some 29), none, (.call false (.c (.fn (.func 14) [] [])) [(.t 27), (.t 28)])⟩, ⟨(some 26), none, (.k (.mov (.t 29)))⟩, ⟨(some 30), none, (.k (.ext (.t 26) 0))⟩, ⟨(some 31), none, (.k (.ext (.t 26) 1))⟩, ⟨(some 8), none, (.k (.mov (.t 30)))⟩, ⟨(some 9), none, (.k (.mov (.t 31)))⟩]) StoreForms_6)
def StoreForms_4 : AC := (.seq (.ops [⟨(some 21), none, (.k (.mov (.t 0)))⟩, ⟨(some 22), none, (.k (.mov (.t 1)))⟩, ⟨(some 23), none, (.call false (.c (.fn (.func 13) [] [])) [(.t 21), (.t 22)])⟩, ⟨(some 20), none, (.k (.mov (.t 23)))⟩, ⟨(some 24), none, (.k (.ext (.t 20) 0))⟩, ⟨(some 25), none, (.k (.ext (.t 20) 1))⟩, ⟨(some 6), none, (.k (.mov (.t 24)))⟩, ⟨(some 7), none, (.k (.mov (.t 25)))⟩]) StoreForms_5)
def StoreForms_3 : AC := (.seq (.ops [⟨(some 11), none, (.k (.mov (.t 0)))⟩, ⟨(some 12), none, (.k (.len (.t 11)))⟩, ⟨(some 13), none, (.k (.bin .gtr (.t 12) (.c (.sc (.int .i64 20)))))⟩, ⟨(some 14), none, (.k (.mov (.t 13)))⟩, ⟨(some 15), (some (14, false)), (.k (.mov (.t 1)))⟩, ⟨(some 16), (some (14, false)), (.k (.len (.t 15)))⟩, ⟨(some 17), (some (14, false)), (.k (.bin .gtr (.t 16) (.c (.sc (.int .i64 40)))))⟩, ⟨(some 18), none, (.k (.pick (.t 14) (.c (.sc (.bool true))) (.t 17)))⟩]) (.cond (.t 18) (.seq (.ops [⟨(some 19), none, (.k (.mov (.t 5)))⟩, ⟨(some 4), none, (.k (.mov (.t 19)))⟩]) .ret) .skip))
def StoreForms_2 : AC := (.seq StoreForms_3 StoreForms_4)
def StoreForms_1 : AC := (.seq (.ops [⟨(some 10), none, (.call false (.c (.fn (.func 9) [] [])) [])⟩, ⟨(some 5), none, (.k (.mov (.t 10)))⟩]) StoreForms_2)
def StoreForms_ac : AC := (.seq (.ops [⟨(some 4), none, (.k (.mov (.c (.sc (.bool false)))))⟩]) StoreForms_1)
theorem StoreForms_call {args : List AV} {H : List AObj} {R : AV → List AObj → Prop} (h : AWp Try.prog [] H.length StoreForms_ac (bodyQ H.length [(.t 4)] R) (args ++ List.replicate (52 - args.length) .und) H) : ACalls Try.prog 4 args H R :=
  ACalls.of_fn Try.func4 rfl (by kernel_rfl) rfl Try.ntmps4 h

set_option maxHeartbeats 2000000 in
theorem StoreForms_spec {a b : AV} {xs : List Int} {fs : List (Int × Int × Int)} (ha : ISl a xs) (hb : Sp b fs) : ACalls Try.prog 4 [a, b] [] fun r H' => H' = [] ∧ r = Bo true := by
  have ha' := ha
  have hb' := hb
  obtain ⟨⟨nl, c, sz, rfl, hs⟩, hlen, hx⟩ := ha
  obtain ⟨⟨nl', c', sz', rfl, hs'⟩, hlen', hx'⟩ := hb
  apply StoreForms_call
  repeat first | refine AWp.seq ?_ | refine AWp.block ?_
  refine AWp.ops ?_
  simp
  repeat first | refine AWp.seq ?_ | refine AWp.block ?_
  refine AWp.ops ?_
  simp
  refine live05_spec.mono ?_
  rintro r H' ⟨rfl, rfl⟩
  simp
  by_cases g1 : 20 < xs.length
  · have g1' : 20 < (xs.length : Int) := by omega
    repeat first | refine AWp.seq ?_ | refine AWp.block ?_
    refine AWp.ops ?_
    simp [g1']
    refine AWp.cond (b := true) (by simp) (fun _ => ?_) (fun h => by cases h)
    repeat first | refine AWp.seq ?_ | refine AWp.block ?_
    refine AWp.ops ?_
    simp
    refine AWp.ret ?_
    simp
    refine retOk.of rfl ⟨rfl, ?_⟩
    simp
  have g1' : ¬ 20 < (xs.length : Int) := by omega
  by_cases g2 : 40 < fs.length
  · have g2' : 40 < (fs.length : Int) := by omega
    repeat first | refine AWp.seq ?_ | refine AWp.block ?_
    refine AWp.ops ?_
    simp [g1', g2']
    refine AWp.cond (b := true) (by simp [g2']) (fun _ => ?_) (fun h => by cases h)
    repeat first | refine AWp.seq ?_ | refine AWp.block ?_
    refine AWp.ops ?_
    simp
    refine AWp.ret ?_
    simp
    refine retOk.of rfl ⟨rfl, ?_⟩
    simp
  have g2' : ¬ 40 < (fs.length : Int) := by omega
  repeat first | refine AWp.seq ?_ | refine AWp.block ?_
  refine AWp.ops ?_
  simp [g1', g2']
  refine AWp.cond (b := false) (by simp) (fun h => by cases h) (fun _ => ?_)
  refine AWp.skip ?_
  simp only [qSeq]
  repeat first | refine AWp.seq ?_ | refine AWp.block ?_
  refine AWp.ops ?_
  simp
  refine (Sizes_spec ha' hb' (by omega)).mono ?_
  rintro r H' ⟨rfl, o1, rfl, ho1⟩
  have ho1' := ho1
  obtain ⟨⟨nlA, cA, szA, rfl, -⟩, -⟩ := ho1
  simp
  repeat first | refine AWp.seq ?_ | refine AWp.block ?_
  refine AWp.ops ?_
  simp
  refine (rSizes_spec ha' hb' (by omega) (by omega)).mono ?_
  rintro r H' ⟨rfl, o2, rfl, ho2⟩
  have ho2' := ho2
  obtain ⟨⟨nlB, cB, szB, rfl, -⟩, -⟩ := ho2
  simp
  repeat first | refine AWp.seq ?_ | refine AWp.block ?_
  refine AWp.ops ?_
  simp
  refine (rEqual_spec ho1' ho2').mono ?_
  rintro r H' ⟨rfl, rfl⟩
  simp
  refine (sForm_spec ha' hb' (by omega)).mono ?_
  rintro r H' ⟨rfl, rfl⟩
  simp
  refine (rForm_spec ha' hb' (by omega) (by omega)).mono ?_
  rintro r H' ⟨rfl, rfl⟩
  simp
  refine AWp.ret ?_
  simp
  refine retOk.of rfl ⟨rfl, ?_⟩
  simp
end Go.Fw
