import Derived.Test.YthipbeffhfdamaaFwgood1
namespace Go.Fw
open Go Go.RowKit Go.Proofs
set_option maxRecDepth 100000
set_option linter.unusedSimpArgs false
set_option linter.unusedVariables false

def sForm_1 : AC := (.seq (.ops [⟨(some 8), none, (.k (.mov (.t 0)))⟩, ⟨(some 9), none, (.k (.mov (.t 1)))⟩, ⟨(some 10), none, (.call false (.c (.fn (.func 13) [] [])) [(.t 8), (.t 9)])⟩, ⟨(some 7), none, (.k (.mov (.t 10)))⟩, ⟨(some 11), none, (.k (.ext (.t 7) 0))⟩, ⟨(some 12), none, (.k (.ext (.t 7) 1))⟩, ⟨(some 5), none, (.k (.mov (.t 11)))⟩, ⟨(some 6), none, (.k (.mov (.t 12)))⟩]) (.seq (.ops [⟨(some 13), none, (.k (.mov (.t 6)))⟩, ⟨(some 4), none, (.k (.mov (.t 13)))⟩]) .ret))
def sForm_ac : AC := (.seq (.ops [⟨(some 4), none, (.k (.mov (.c (.sc (.int .i64 0)))))⟩]) sForm_1)
theorem sForm_call {args : List AV} {H : List AObj} {R : AV → List AObj → Prop} (h : AWp Try.prog [] H.length sForm_ac (bodyQ H.length [(.t 4)] R) (args ++ List.replicate (14 - args.length) .und) H) : ACalls Try.prog 16 args H R :=
  ACalls.of_fn Try.func16 rfl (by kernel_rfl) rfl Try.ntmps16 h

theorem sForm_spec {a b : AV} {xs : List Int} {fs : List (Int × Int × Int)} (ha : ISl a xs) (hb : Sp b fs) (hf : fs.length ≤ 1000) : ACalls Try.prog 16 [a, b] [] fun r H' => H' = [] ∧ r = I (sizesF xs fs).2 := by
  apply sForm_call
  repeat first | refine AWp.seq ?_ | refine AWp.block ?_
  refine AWp.ops ?_
  simp
  repeat first | refine AWp.seq ?_ | refine AWp.block ?_
  refine AWp.ops ?_
  simp
  refine (Sizes_spec ha hb hf).mono ?_
  rintro r H' ⟨rfl, l, rfl, hl⟩
  simp
  repeat first | refine AWp.seq ?_ | refine AWp.block ?_
  refine AWp.ops ?_
  simp
  refine AWp.ret ?_
  simp
  refine retOk.of rfl ⟨rfl, rfl⟩

def sRead_8 : AC := (.seq (.ops [⟨(some 19), none, (.k (.ld 2 true (.t 5)))⟩, ⟨none, none, (.k (.st 2 (.t 2) (.t 19)))⟩, ⟨(some 3), none, (.k (.mov (.c (.sc (.int .i64 0)))))⟩]) .ret)
def sRead_7 : AC := (.seq (.ops [⟨(some 16), none, (.k (.ld 4 true (.t 1)))⟩, ⟨(some 17), none, (.k (.mkF (.func 50) [] [(.t 5), (.t 1)]))⟩, ⟨(some 18), none, (.call false (.c (.fn (.func 49) [] [])) [(.t 16), (.t 17)])⟩]) sRead_8)
def sRead_6 : AC := (.seq (.ops [⟨(some 12), none, (.k (.fad 0 (.t 1)))⟩, ⟨(some 13), none, (.k (.ld 1 false (.t 12)))⟩, ⟨(some 14), none, (.call false (.c (.fn (.func 48) [] [])) [(.t 13)])⟩, ⟨(some 15), none, (.k (.mk [(.imm true none 0 []), (.imm true none 0 [])] [(0, (1, (.t 14)))]))⟩, ⟨(some 5), none, (.k (.new 48 2 (.c (.agg [(.imm true none 0 []), (.imm true none 0 [])]))))⟩, ⟨none, none, (.k (.st 2 (.t 5) (.t 15)))⟩]) sRead_7)
def sRead_5 : AC := (.seq (.ops [⟨(some 10), none, (.k (.mk [(.imm true none 0 []), (.imm true none 0 [])] []))⟩, ⟨(some 11), none, (.k (.mov (.t 4)))⟩, ⟨none, none, (.k (.st 2 (.t 2) (.t 10)))⟩, ⟨(some 3), none, (.k (.mov (.t 11)))⟩]) .ret)
def sRead_4 : AC := (.cond (.t 9) sRead_5 .skip)
def sRead_3 : AC := (.seq (.ops [⟨(some 8), none, (.k (.mov (.t 4)))⟩, ⟨(some 9), none, (.k (.bin .neq (.t 8) (.c (.sc (.int .i64 0)))))⟩]) sRead_4)
def sRead_2 : AC := (.seq (.ops [⟨(some 6), none, (.k (.ld 4 true (.t 1)))⟩, ⟨(some 7), none, (.call false (.c (.fn (.func 11) [] [])) [(.t 6)])⟩, ⟨(some 4), none, (.k (.mov (.t 7)))⟩]) sRead_3)
def sRead_1 : AC := (.seq sRead_2 sRead_6)
def sRead_ac : AC := (.seq (.ops [⟨(some 1), none, (.k (.new 27 4 (.t 0)))⟩, ⟨(some 2), none, (.k (.new 48 2 (.c (.agg [(.imm true none 0 []), (.imm true none 0 [])]))))⟩, ⟨(some 3), none, (.k (.mov (.c (.sc (.int .i64 0)))))⟩]) sRead_1)
theorem sRead_call {args : List AV} {H : List AObj} {R : AV → List AObj → Prop} (h : AWp Try.prog [] H.length sRead_ac (bodyQ H.length [(.cell 2 2 true), (.t 3)] R) (args ++ List.replicate (20 - args.length) .und) H) : ACalls Try.prog 20 args H R :=
  ACalls.of_fn Try.func20 rfl (by kernel_rfl) rfl Try.ntmps20 h

theorem sReadErr_spec {sh f l v : AV} {S Vs : List Int} {F : List (Int × Int × Int)} {xs : List LvA} (hS : ISl sh S) (hF : Sp f F) (hl : Ls l xs) (hV : ISl v Vs) (hn : xs.length ≤ 1000) (hfn : F.length ≤ 1000) (he : tnCheck S F xs Vs ≠ 0) :
    ACalls Try.prog 20 [.agg [sh, f, l, v]] [] fun r H' => H' = [] ∧ r = .tup [.agg [.imm true none 0 [], .imm true none 0 []], I (tnCheck S F xs Vs)] := by
  have hS' := hS
  have hF' := hF
  have hl' := hl
  have hV' := hV
  obtain ⟨⟨nl, cl, sz, rfl, hs⟩, hlen, hx⟩ := hl
  obtain ⟨⟨nl1, c01, sz1, rfl, hs1⟩, hlen1, hx1⟩ := hS
  obtain ⟨⟨nl2, c02, sz2, rfl, hs2⟩, hlen2, hx2⟩ := hF
  obtain ⟨⟨nl3, c3, sz3, rfl, hs3⟩, hlen3, hx3⟩ := hV
  have base : ACalls Try.prog 20 [.agg [.imm nl1 c01 sz1 (S.map I), .imm nl2 c02 sz2 (F.map specV), .imm nl cl sz (xs.map lvV), .imm nl3 c3 sz3 (Vs.map I)]] [] fun r H' => r = .tup [.agg [.imm true none 0 [], .imm true none 0 []], I (tnCheck S F xs Vs)] := by
    apply sRead_call
    repeat first | refine AWp.seq ?_ | refine AWp.block ?_
    refine AWp.ops ?_
    simp
    repeat first | refine AWp.seq ?_ | refine AWp.block ?_
    refine AWp.ops ?_
    simp
    refine ((sCheck_spec hS' hF' hl' hV' hn hfn).pure (by simp) (by rintro r rfl; simp) _).mono ?_
    rintro r H' ⟨rfl, rfl⟩
    simp
    repeat first | refine AWp.seq ?_ | refine AWp.block ?_
    refine AWp.ops ?_
    simp
    refine AWp.cond (b := true) (by simp [he]) (fun _ => ?_) (fun h => by cases h)
    repeat first | refine AWp.seq ?_ | refine AWp.block ?_
    refine AWp.ops ?_
    simp
    refine AWp.ret ?_
    simp
    refine retOk.of rfl ?_
    simp
  refine (base.frozen 3).mono ?_
  rintro q H' ⟨rfl, r, G, rfl, rfl⟩
  exact ⟨rfl, by simp⟩

/-- The chapter's example. -/
def exS : List Int := [2, 3]
def exF : List (Int × Int × Int) := [(0, 0, 0), (1, 1, 0)]
def exL : List LvA := [⟨⟨0, 2, [], []⟩, .imm true none 0 [], .imm true none 0 []⟩, ⟨⟨1, 3, [0, 1, 2], [2, 0]⟩, .imm false (some 3) 1 [I 0, I 1, I 2], .imm false (some 2) 1 [I 2, I 0]⟩]
def exV : List Int := [5, 7]
theorem exL_ok : Ls (.imm false (some 2) 4 (exL.map lvV)) exL := by
  refine ⟨⟨false, some 2, 4, rfl, by simp, by simp⟩, by simp [exL], fun x hx => ?_⟩
  simp only [exL, List.mem_cons, List.not_mem_nil, or_false] at hx
  rcases hx with rfl | rfl
  · exact ⟨ISl.nil, ISl.nil, ⟨by decide, by decide⟩, ⟨by decide, by decide⟩⟩
  · exact ⟨ISl.of (xs := [0, 1, 2]) _ (by simp) (by simp), ISl.of (xs := [2, 0]) _ (by simp) (by simp), ⟨by decide, by decide⟩, ⟨by decide, by decide⟩⟩

def some05_1 : AC := (.seq (.ops [⟨(some 1), none, (.k (.lit 1 [(.c (.sc (.int .i64 2))), (.c (.sc (.int .i64 3)))]))⟩, ⟨(some 2), none, (.k (.mk [(.sc (.int .i64 0)), (.sc (.int .i64 0)), (.sc (.int .i64 0))] [(0, (1, (.c (.sc (.int .i64 0))))), (1, (1, (.c (.sc (.int .i64 0)))))]))⟩, ⟨(some 3), none, (.k (.mk [(.sc (.int .i64 0)), (.sc (.int .i64 0)), (.sc (.int .i64 0))] [(0, (1, (.c (.sc (.int .i64 1))))), (1, (1, (.c (.sc (.int .i64 1)))))]))⟩, ⟨(some 4), none, (.k (.lit 3 [(.t 2), (.t 3)]))⟩, ⟨(some 5), none, (.k (.mk [(.sc (.int .i64 0)), (.sc (.int .i64 0)), (.imm true none 0 []), (.imm true none 0 [])] [(0, (1, (.c (.sc (.int .i64 0))))), (1, (1, (.c (.sc (.int .i64 2)))))]))⟩, ⟨(some 6), none, (.k (.lit 1 [(.c (.sc (.int .i64 0))), (.c (.sc (.int .i64 1))), (.c (.sc (.int .i64 2)))]))⟩, ⟨(some 7), none, (.k (.lit 1 [(.c (.sc (.int .i64 2))), (.c (.sc (.int .i64 0)))]))⟩, ⟨(some 8), none, (.k (.mk [(.sc (.int .i64 0)), (.sc (.int .i64 0)), (.imm true none 0 []), (.imm true none 0 [])] [(0, (1, (.c (.sc (.int .i64 1))))), (1, (1, (.c (.sc (.int .i64 3))))), (2, (1, (.t 6))), (3, (1, (.t 7)))]))⟩, ⟨(some 9), none, (.k (.lit 4 [(.t 5), (.t 8)]))⟩, ⟨(some 10), none, (.k (.lit 1 [(.c (.sc (.int .i64 5))), (.c (.sc (.int .i64 7)))]))⟩, ⟨(some 11), none, (.k (.mk [(.imm true none 0 []), (.imm true none 0 []), (.imm true none 0 []), (.imm true none 0 [])] [(0, (1, (.t 1))), (1, (1, (.t 4))), (2, (1, (.t 9))), (3, (1, (.t 10)))]))⟩, ⟨none, none, (.k (.st 4 (.t 0) (.t 11)))⟩]) .ret)
def some05_ac : AC := (.seq (.ops [⟨(some 0), none, (.k (.new 27 4 (.c (.agg [(.imm true none 0 []), (.imm true none 0 []), (.imm true none 0 []), (.imm true none 0 [])]))))⟩]) some05_1)
theorem some05_call {args : List AV} {H : List AObj} {R : AV → List AObj → Prop} (h : AWp Try.prog [] H.length some05_ac (bodyQ H.length [(.cell 0 4 true)] R) (args ++ List.replicate (12 - args.length) .und) H) : ACalls Try.prog 37 args H R :=
  ACalls.of_fn Try.func37 rfl (by kernel_rfl) rfl Try.ntmps37 h

theorem some05_spec : ACalls Try.prog 37 [] [] fun r H' => H' = [] ∧ r = .agg [.imm false (some 2) 1 (exS.map I), .imm false (some 2) 3 (exF.map specV), .imm false (some 2) 4 (exL.map lvV), .imm false (some 2) 1 (exV.map I)] := by
  have base : ACalls Try.prog 37 [] [] fun r H' => r = .agg [.imm false (some 2) 1 (exS.map I), .imm false (some 2) 3 (exF.map specV), .imm false (some 2) 4 (exL.map lvV), .imm false (some 2) 1 (exV.map I)] := by
    apply some05_call
    repeat first | refine AWp.seq ?_ | refine AWp.block ?_
    refine AWp.ops ?_
    simp
    repeat first | refine AWp.seq ?_ | refine AWp.block ?_
    refine AWp.ops ?_
    simp
    refine AWp.ret ?_
    simp
    refine retOk.of rfl ?_
    simp [exS, exF, exL, exV, lvV]
  refine (base.frozen 2).mono ?_
  rintro q H' ⟨rfl, r, G, rfl, rfl⟩
  exact ⟨rfl, by simp⟩

theorem ex_check : tnCheck exS exF exL exV = 0 := by decide +kernel
theorem ex_dense : denseF exS exF exL exV = (([2, 3], [0, 0, 5, 7, 0, 0]), 0) := by decide +kernel
theorem ex_none : tnCheck [1] [] [] [] = 4 := by decide +kernel

def live05_3 : AC := (.seq (.ops [⟨(some 16), none, (.call false (.c (.fn (.func 37) [] [])) [])⟩, ⟨(some 17), none, (.call false (.c (.fn (.func 11) [] [])) [(.t 16)])⟩, ⟨(some 18), none, (.k (.bin .eql (.t 17) (.c (.sc (.int .i64 0)))))⟩, ⟨(some 19), none, (.k (.mov (.t 18)))⟩, ⟨(some 20), (some (19, true)), (.k (.mov (.t 2)))⟩, ⟨(some 21), (some (19, true)), (.k (.bin .eql (.t 20) (.c (.sc (.int .i64 0)))))⟩, ⟨(some 22), none, (.k (.pick (.t 19) (.t 21) (.c (.sc (.bool false)))))⟩, ⟨(some 23), none, (.k (.mov (.t 22)))⟩, ⟨(some 24), (some (23, true)), (.k (.fad 1 (.t 1)))⟩, ⟨(some 25), (some (23, true)), (.k (.ld 1 false (.t 24)))⟩, ⟨(some 26), (some (23, true)), (.k (.len (.t 25)))⟩, ⟨(some 27), (some (23, true)), (.k (.bin .eql (.t 26) (.c (.sc (.int .i64 6)))))⟩, ⟨(some 28), none, (.k (.pick (.t 23) (.t 27) (.c (.sc (.bool false)))))⟩, ⟨(some 29), none, (.k (.mov (.t 28)))⟩, ⟨(some 30), (some (29, true)), (.k (.fad 1 (.t 1)))⟩, ⟨(some 31), (some (29, true)), (.k (.ld 1 false (.t 30)))⟩, ⟨(some 32), (some (29, true)), (.k (.iad 1 (.t 31) (.c (.sc (.int .i64 2)))))⟩, ⟨(some 33), (some (29, true)), (.k (.ld 1 false (.t 32)))⟩, ⟨(some 34), (some (29, true)), (.k (.bin .eql (.t 33) (.c (.sc (.int .i64 5)))))⟩, ⟨(some 35), none, (.k (.pick (.t 29) (.t 34) (.c (.sc (.bool false)))))⟩, ⟨(some 36), none, (.k (.mov (.t 35)))⟩, ⟨(some 37), (some (36, true)), (.k (.fad 1 (.t 1)))⟩, ⟨(some 38), (some (36, true)), (.k (.ld 1 false (.t 37)))⟩, ⟨(some 39), (some (36, true)), (.k (.iad 1 (.t 38) (.c (.sc (.int .i64 3)))))⟩, ⟨(some 40), (some (36, true)), (.k (.ld 1 false (.t 39)))⟩, ⟨(some 41), (some (36, true)), (.k (.bin .eql (.t 40) (.c (.sc (.int .i64 7)))))⟩, ⟨(some 42), none, (.k (.pick (.t 36) (.t 41) (.c (.sc (.bool false)))))⟩, ⟨(some 43), none, (.k (.mov (.t 42)))⟩, ⟨(some 44), (some (43, true)), (.k (.mov (.t 4)))⟩, ⟨(some 45), (some (43, true)), (.k (.bin .eql (.t 44) (.c (.sc (.int .i64 4)))))⟩, ⟨(some 46), none, (.k (.pick (.t 43) (.t 45) (.c (.sc (.bool false)))))⟩, ⟨(some 0), none, (.k (.mov (.t 46)))⟩]) .ret)
def live05_2 : AC := (.seq (.ops [⟨(some 11), none, (.k (.lit 1 [(.c (.sc (.int .i64 1)))]))⟩, ⟨(some 12), none, (.k (.mk [(.imm true none 0 []), (.imm true none 0 []), (.imm true none 0 []), (.imm true none 0 [])] [(0, (1, (.t 11)))]))⟩, ⟨(some 13), none, (.call false (.c (.fn (.func 20) [] [])) [(.t 12)])⟩, ⟨(some 10), none, (.k (.mov (.t 13)))⟩, ⟨(some 14), none, (.k (.ext (.t 10) 0))⟩, ⟨(some 15), none, (.k (.ext (.t 10) 1))⟩, ⟨(some 3), none, (.k (.new 48 2 (.c (.agg [(.imm true none 0 []), (.imm true none 0 [])]))))⟩, ⟨none, none, (.k (.st 2 (.t 3) (.t 14)))⟩, ⟨(some 4), none, (.k (.mov (.t 15)))⟩]) live05_3)
def live05_1 : AC := (.seq (.ops [⟨(some 6), none, (.call false (.c (.fn (.func 37) [] [])) [])⟩, ⟨(some 7), none, (.call false (.c (.fn (.func 23) [] [])) [(.t 6)])⟩, ⟨(some 5), none, (.k (.mov (.t 7)))⟩, ⟨(some 8), none, (.k (.ext (.t 5) 0))⟩, ⟨(some 9), none, (.k (.ext (.t 5) 1))⟩, ⟨(some 1), none, (.k (.new 57 2 (.c (.agg [(.imm true none 0 []), (.imm true none 0 [])]))))⟩, ⟨none, none, (.k (.st 2 (.t 1) (.t 8)))⟩, ⟨(some 2), none, (.k (.mov (.t 9)))⟩]) live05_2)
def live05_ac : AC := (.seq (.ops [⟨(some 0), none, (.k (.mov (.c (.sc (.bool false)))))⟩]) live05_1)
theorem live05_call {args : List AV} {H : List AObj} {R : AV → List AObj → Prop} (h : AWp Try.prog [] H.length live05_ac (bodyQ H.length [(.t 0)] R) (args ++ List.replicate (47 - args.length) .und) H) : ACalls Try.prog 9 args H R :=
  ACalls.of_fn Try.func9 rfl (by kernel_rfl) rfl Try.ntmps9 h

set_option maxHeartbeats 2000000 in
theorem live05_spec : ACalls Try.prog 9 [] [] fun r G => G = [] ∧ r = Bo true := by
  have hS : ISl (.imm false (some 2) 1 (exS.map I)) exS := ISl.of _ (by simp [exS]) (by simp [exS])
  have hF : Sp (.imm false (some 2) 3 (exF.map specV)) exF := ⟨⟨false, some 2, 3, rfl, by simp, by simp⟩, by simp [exF], by simp [exF]⟩
  have hV : ISl (.imm false (some 2) 1 (exV.map I)) exV := ISl.of _ (by simp [exV]) (by simp [exV])
  have hS1 : ISl (.imm false (some 1) 1 [I 1]) [1] := ISl.of (xs := [1]) _ (by simp) (by simp)
  have hF0 : Sp (.imm true none 0 []) [] := ⟨⟨true, none, 0, rfl, by simp, by simp⟩, by simp, by simp⟩
  have hL0 : Ls (.imm true none 0 []) [] := ⟨⟨true, none, 0, rfl, by simp, by simp⟩, by simp, by simp⟩
  have base : ACalls Try.prog 9 [] [] fun r G => r = Bo true := by
    apply live05_call
    repeat first | refine AWp.seq ?_ | refine AWp.block ?_
    refine AWp.ops ?_
    simp
    repeat first | refine AWp.seq ?_ | refine AWp.block ?_
    refine AWp.ops ?_
    simp
    refine (some05_spec).mono ?_
    rintro r H' ⟨rfl, rfl⟩
    obtain ⟨tn, htn⟩ : ∃ tn, tn = AV.agg [.imm false (some 2) 1 (exS.map I), .imm false (some 2) 3 (exF.map specV), .imm false (some 2) 4 (exL.map lvV), .imm false (some 2) 1 (exV.map I)] := ⟨_, rfl⟩
    have hd := sDense_spec hS hF exL_ok hV (by simp [exL]) (by simp [exF]) (fun h1 h2 => den_good ⟨by simp [exS], by simp [exS]⟩ h1 h2)
    have hc := (sCheck_spec hS hF exL_ok hV (by simp [exL]) (by simp [exF])).pure (by simp) (by rintro r rfl; simp)
    rw [ex_dense] at hd
    rw [ex_check] at hc
    rw [← htn] at hd hc ⊢
    have hone : oneC tn = false := by rw [htn]; rfl
    simp
    refine hd.mono ?_
    rintro r H' ⟨rfl, d, rfl, s, v, rfl, ⟨⟨nla, ca, za, rfl, hza⟩, _⟩, ⟨⟨nlb, cb, zb, rfl, hzb⟩, _⟩⟩
    have hzb1 := sz_of (i := 0) hzb (by simp)
    subst hzb1
    simp
    repeat first | refine AWp.seq ?_ | refine AWp.block ?_
    refine AWp.ops ?_
    simp
    refine ((sReadErr_spec hS1 hF0 hL0 ISl.nil (by simp) (by simp) (by rw [ex_none]; decide)).pure (by simp) (by rintro r rfl; simp) _).mono ?_
    rintro r H' ⟨rfl, rfl⟩
    rw [ex_none]
    simp
    repeat first | refine AWp.seq ?_ | refine AWp.block ?_
    refine AWp.ops ?_
    simp
    refine ((some05_spec).pure (by simp) (by rintro r rfl; simp) _).mono ?_
    rintro r H' ⟨rfl, rfl⟩
    rw [← htn]
    simp
    refine (hc _).mono ?_
    rintro r H' ⟨rfl, rfl⟩
    simp
    refine AWp.ret ?_
    simp
    refine retOk.of rfl ?_
    simp
  refine (base.frozen 2).mono ?_
  rintro q H' ⟨rfl, r, G, rfl, rfl⟩
  exact ⟨rfl, by simp⟩
end Go.Fw
