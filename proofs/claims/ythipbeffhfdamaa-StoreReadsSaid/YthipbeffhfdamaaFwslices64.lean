import Derived.Test.YthipbeffhfdamaaFwgood1
import Derived.Test.YthipbeffhfdamaaFwargsT
import Derived.Test.YthipbeffhfdamaaFwonce1
import Derived.Test.YthipbeffhfdamaaFwbox1
namespace Go.Fw
open Go Go.RowKit Go.Proofs
set_option maxRecDepth 100000
set_option linter.unusedSimpArgs false
set_option linter.unusedVariables false
def sForm_1 : AC := (.seq (.ops [.m 8 (.t 0), .m 9 (.t 1), .c 10 false (.f 13) [(.t 8), (.t 9)], .m 7 (.t 10), .o 11 (.ext (.t 7) 0), .o 12 (.ext (.t 7) 1), .m 5 (.t 11), .m 6 (.t 12)]) (.seq (.ops [.m 13 (.t 6), .m 4 (.t 13)]) .ret))
def sForm_ac : AC := (.seq (.ops [.m 4 (.i 0)]) sForm_1)
theorem sForm_call {args : List AV} {H : List AObj} {R : AV → List AObj → Prop} (h : AWp Try.prog [] H.length sForm_ac (bodyQ H.length [(.t 4)] R) (args ++ List.replicate (14 - args.length) .und) H) : ACalls Try.prog 16 args H R :=
  ACalls.of_fn Try.func16 rfl (by kernel_rfl) rfl Try.ntmps16 h
theorem sForm_spec {a b : AV} {xs : List Int} {fs : List (Int × Int × Int)} (ha : ISl a xs) (hb : Sp b fs) (hf : fs.length ≤ 1000) : ACalls Try.prog 16 [a, b] [] fun r H' => H' = [] ∧ r = I (sizesF xs fs).2 := by
  apply sForm_call
  repeat first | refine AWp.seq ?_ | refine AWp.block ?_
  refine AWp.ops ?_
  simp
  repeat first | refine AWp.seq ?_ | refine AWp.block ?_
  refine AWp.ops ?_
  simp
  refine (Sizes_spec ha hb hf).mono ?_
  rintro r H' ⟨rfl, l, rfl, hl⟩
  simp
  repeat first | refine AWp.seq ?_ | refine AWp.block ?_
  refine AWp.ops ?_
  simp
  refine AWp.ret ?_
  simp
  refine retOk.of rfl ⟨rfl, rfl⟩
def sRead_8 : AC := (.seq (.ops [.o 19 (.ld 2 true (.t 5)), .on (.st 2 (.t 2) (.t 19)), .m 3 (.i 0)]) .ret)
def sRead_7 : AC := (.seq (.ops [.o 16 (.ld 4 true (.t 1)), .o 17 (.mkF (.func 50) [] [(.t 5), (.t 1)]), .c 18 false (.f 49) [(.t 16), (.t 17)]]) sRead_8)
def sRead_6 : AC := (.seq (.ops [.o 12 (.fad 0 (.t 1)), .o 13 (.ld 1 false (.t 12)), .c 14 false (.f 48) [(.t 13)], .o 15 (.mk [nil0, nil0] [(0, (1, (.t 14)))]), .o 5 (.new 48 2 (.c (.agg [nil0, nil0]))), .on (.st 2 (.t 5) (.t 15))]) sRead_7)
def sRead_5 : AC := (.seq (.ops [.o 10 (.mk [nil0, nil0] []), .m 11 (.t 4), .on (.st 2 (.t 2) (.t 10)), .m 3 (.t 11)]) .ret)
def sRead_4 : AC := (.cond (.t 9) sRead_5 .skip)
def sRead_3 : AC := (.seq (.ops [.m 8 (.t 4), .o 9 (.bin .neq (.t 8) (.i 0))]) sRead_4)
def sRead_2 : AC := (.seq (.ops [.o 6 (.ld 4 true (.t 1)), .c 7 false (.f 11) [(.t 6)], .m 4 (.t 7)]) sRead_3)
def sRead_1 : AC := (.seq sRead_2 sRead_6)
def sRead_ac : AC := (.seq (.ops [.o 1 (.new 27 4 (.t 0)), .o 2 (.new 48 2 (.c (.agg [nil0, nil0]))), .m 3 (.i 0)]) sRead_1)
theorem sRead_call {args : List AV} {H : List AObj} {R : AV → List AObj → Prop} (h : AWp Try.prog [] H.length sRead_ac (bodyQ H.length [(.cell 2 2 true), (.t 3)] R) (args ++ List.replicate (20 - args.length) .und) H) : ACalls Try.prog 20 args H R :=
  ACalls.of_fn Try.func20 rfl (by kernel_rfl) rfl Try.ntmps20 h
theorem sReadErr_spec {sh f l v : AV} {S Vs : List Int} {F : List (Int × Int × Int)} {xs : List LvA} (hS : ISl sh S) (hF : Sp f F) (hl : Ls l xs) (hV : ISl v Vs) (hn : xs.length ≤ 1000) (hfn : F.length ≤ 1000) (he : tnCheck S F xs Vs ≠ 0) :
    ACalls Try.prog 20 [.agg [sh, f, l, v]] [] fun r H' => H' = [] ∧ r = .tup [.agg [.imm true none 0 [], .imm true none 0 []], I (tnCheck S F xs Vs)] := by
  have hS' := hS
  have hF' := hF
  have hl' := hl
  have hV' := hV
  obtain ⟨⟨nl, cl, sz, rfl, hs⟩, hlen, hx⟩ := hl
  obtain ⟨⟨nl1, c01, sz1, rfl, hs1⟩, hlen1, hx1⟩ := hS
  obtain ⟨⟨nl2, c02, sz2, rfl, hs2⟩, hlen2, hx2⟩ := hF
  obtain ⟨⟨nl3, c3, sz3, rfl, hs3⟩, hlen3, hx3⟩ := hV
  have base : ACalls Try.prog 20 [.agg [.imm nl1 c01 sz1 (S.map I), .imm nl2 c02 sz2 (F.map specV), .imm nl cl sz (xs.map lvV), .imm nl3 c3 sz3 (Vs.map I)]] [] fun r H' => r = .tup [.agg [.imm true none 0 [], .imm true none 0 []], I (tnCheck S F xs Vs)] := by
    apply sRead_call
    repeat first | refine AWp.seq ?_ | refine AWp.block ?_
    refine AWp.ops ?_
    simp
    repeat first | refine AWp.seq ?_ | refine AWp.block ?_
    refine AWp.ops ?_
    simp
    refine ((sCheck_spec hS' hF' hl' hV' hn hfn).pure (by simp) (by rintro r rfl; simp) _).mono ?_
    rintro r H' ⟨rfl, rfl⟩
    simp
    repeat first | refine AWp.seq ?_ | refine AWp.block ?_
    refine AWp.ops ?_
    simp
    refine AWp.cond (b := true) (by simp [he]) (fun _ => ?_) (fun h => by cases h)
    repeat first | refine AWp.seq ?_ | refine AWp.block ?_
    refine AWp.ops ?_
    simp
    refine AWp.ret ?_
    simp
    refine retOk.of rfl ?_
    simp
  refine (base.frozen 3).mono ?_
  rintro q H' ⟨rfl, r, G, rfl, rfl⟩
  exact ⟨rfl, by simp⟩
def exS : List Int := [2, 3]
def exF : List (Int × Int × Int) := [(0, 0, 0), (1, 1, 0)]
def exL : List LvA := [⟨⟨0, 2, [], []⟩, .imm true none 0 [], .imm true none 0 []⟩, ⟨⟨1, 3, [0, 1, 2], [2, 0]⟩, .imm false (some 3) 1 [I 0, I 1, I 2], .imm false (some 2) 1 [I 2, I 0]⟩]
def exV : List Int := [5, 7]
theorem exL_ok : Ls (.imm false (some 2) 4 (exL.map lvV)) exL := by
  refine ⟨⟨false, some 2, 4, rfl, by simp, by simp⟩, by simp [exL], fun x hx => ?_⟩
  simp only [exL, List.mem_cons, List.not_mem_nil, or_false] at hx
  rcases hx with rfl | rfl
  · exact ⟨ISl.nil, ISl.nil, ⟨by decide, by decide⟩, ⟨by decide, by decide⟩⟩
  · exact ⟨ISl.of (xs := [0, 1, 2]) _ (by simp) (by simp), ISl.of (xs := [2, 0]) _ (by simp) (by simp), ⟨by decide, by decide⟩, ⟨by decide, by decide⟩⟩
def some05_1 : AC := (.seq (.ops [.o 1 (.lit 1 [(.i 2), (.i 3)]), .o 2 (.mk [(.sc (.int .i64 0)), (.sc (.int .i64 0)), (.sc (.int .i64 0))] [(0, (1, (.i 0))), (1, (1, (.i 0)))]), .o 3 (.mk [(.sc (.int .i64 0)), (.sc (.int .i64 0)), (.sc (.int .i64 0))] [(0, (1, (.i 1))), (1, (1, (.i 1)))]), .o 4 (.lit 3 [(.t 2), (.t 3)]), .o 5 (.mk [(.sc (.int .i64 0)), (.sc (.int .i64 0)), nil0, nil0] [(0, (1, (.i 0))), (1, (1, (.i 2)))]), .o 6 (.lit 1 [(.i 0), (.i 1), (.i 2)]), .o 7 (.lit 1 [(.i 2), (.i 0)]), .o 8 (.mk [(.sc (.int .i64 0)), (.sc (.int .i64 0)), nil0, nil0] [(0, (1, (.i 1))), (1, (1, (.i 3))), (2, (1, (.t 6))), (3, (1, (.t 7)))]), .o 9 (.lit 4 [(.t 5), (.t 8)]), .o 10 (.lit 1 [(.i 5), (.i 7)]), .o 11 (.mk [nil0, nil0, nil0, nil0] [(0, (1, (.t 1))), (1, (1, (.t 4))), (2, (1, (.t 9))), (3, (1, (.t 10)))]), .on (.st 4 (.t 0) (.t 11))]) .ret)
def some05_ac : AC := (.seq (.ops [.o 0 (.new 27 4 (.c (.agg [nil0, nil0, nil0, nil0])))]) some05_1)
theorem some05_call {args : List AV} {H : List AObj} {R : AV → List AObj → Prop} (h : AWp Try.prog [] H.length some05_ac (bodyQ H.length [(.cell 0 4 true)] R) (args ++ List.replicate (12 - args.length) .und) H) : ACalls Try.prog 37 args H R :=
  ACalls.of_fn Try.func37 rfl (by kernel_rfl) rfl Try.ntmps37 h
theorem some05_spec : ACalls Try.prog 37 [] [] fun r H' => H' = [] ∧ r = .agg [.imm false (some 2) 1 (exS.map I), .imm false (some 2) 3 (exF.map specV), .imm false (some 2) 4 (exL.map lvV), .imm false (some 2) 1 (exV.map I)] := by
  have base : ACalls Try.prog 37 [] [] fun r H' => r = .agg [.imm false (some 2) 1 (exS.map I), .imm false (some 2) 3 (exF.map specV), .imm false (some 2) 4 (exL.map lvV), .imm false (some 2) 1 (exV.map I)] := by
    apply some05_call
    repeat first | refine AWp.seq ?_ | refine AWp.block ?_
    refine AWp.ops ?_
    simp
    repeat first | refine AWp.seq ?_ | refine AWp.block ?_
    refine AWp.ops ?_
    simp
    refine AWp.ret ?_
    simp
    refine retOk.of rfl ?_
    simp [exS, exF, exL, exV, lvV]
  refine (base.frozen 2).mono ?_
  rintro q H' ⟨rfl, r, G, rfl, rfl⟩
  exact ⟨rfl, by simp⟩
theorem ex_check : tnCheck exS exF exL exV = 0 := by decide +kernel
theorem ex_dense : denseF exS exF exL exV = (([2, 3], [0, 0, 5, 7, 0, 0]), 0) := by decide +kernel
theorem ex_none : tnCheck [1] [] [] [] = 4 := by decide +kernel
def live05_3 : AC := (.seq (.ops [.c 16 false (.f 37) [], .c 17 false (.f 11) [(.t 16)], .o 18 (.bin .eql (.t 17) (.i 0)), .m 19 (.t 18), .mg 20 19 true (.t 2), .og 21 19 true (.bin .eql (.t 20) (.i 0)), .o 22 (.pick (.t 19) (.t 21) (.b false)), .m 23 (.t 22), .og 24 23 true (.fad 1 (.t 1)), .og 25 23 true (.ld 1 false (.t 24)), .og 26 23 true (.len (.t 25)), .og 27 23 true (.bin .eql (.t 26) (.i 6)), .o 28 (.pick (.t 23) (.t 27) (.b false)), .m 29 (.t 28), .og 30 29 true (.fad 1 (.t 1)), .og 31 29 true (.ld 1 false (.t 30)), .og 32 29 true (.iad 1 (.t 31) (.i 2)), .og 33 29 true (.ld 1 false (.t 32)), .og 34 29 true (.bin .eql (.t 33) (.i 5)), .o 35 (.pick (.t 29) (.t 34) (.b false)), .m 36 (.t 35), .og 37 36 true (.fad 1 (.t 1)), .og 38 36 true (.ld 1 false (.t 37)), .og 39 36 true (.iad 1 (.t 38) (.i 3)), .og 40 36 true (.ld 1 false (.t 39)), .og 41 36 true (.bin .eql (.t 40) (.i 7)), .o 42 (.pick (.t 36) (.t 41) (.b false)), .m 43 (.t 42), .mg 44 43 true (.t 4), .og 45 43 true (.bin .eql (.t 44) (.i 4)), .o 46 (.pick (.t 43) (.t 45) (.b false)), .m 0 (.t 46)]) .ret)
def live05_2 : AC := (.seq (.ops [.o 11 (.lit 1 [(.i 1)]), .o 12 (.mk [nil0, nil0, nil0, nil0] [(0, (1, (.t 11)))]), .c 13 false (.f 20) [(.t 12)], .m 10 (.t 13), .o 14 (.ext (.t 10) 0), .o 15 (.ext (.t 10) 1), .o 3 (.new 48 2 (.c (.agg [nil0, nil0]))), .on (.st 2 (.t 3) (.t 14)), .m 4 (.t 15)]) live05_3)
def live05_1 : AC := (.seq (.ops [.c 6 false (.f 37) [], .c 7 false (.f 23) [(.t 6)], .m 5 (.t 7), .o 8 (.ext (.t 5) 0), .o 9 (.ext (.t 5) 1), .o 1 (.new 57 2 (.c (.agg [nil0, nil0]))), .on (.st 2 (.t 1) (.t 8)), .m 2 (.t 9)]) live05_2)
def live05_ac : AC := (.seq (.ops [.m 0 (.b false)]) live05_1)
theorem live05_call {args : List AV} {H : List AObj} {R : AV → List AObj → Prop} (h : AWp Try.prog [] H.length live05_ac (bodyQ H.length [(.t 0)] R) (args ++ List.replicate (47 - args.length) .und) H) : ACalls Try.prog 9 args H R :=
  ACalls.of_fn Try.func9 rfl (by kernel_rfl) rfl Try.ntmps9 h
set_option maxHeartbeats 2000000 in
theorem live05_spec : ACalls Try.prog 9 [] [] fun r G => G = [] ∧ r = Bo true := by
  have hS : ISl (.imm false (some 2) 1 (exS.map I)) exS := ISl.of _ (by simp [exS]) (by simp [exS])
  have hF : Sp (.imm false (some 2) 3 (exF.map specV)) exF := ⟨⟨false, some 2, 3, rfl, by simp, by simp⟩, by simp [exF], by simp [exF]⟩
  have hV : ISl (.imm false (some 2) 1 (exV.map I)) exV := ISl.of _ (by simp [exV]) (by simp [exV])
  have hS1 : ISl (.imm false (some 1) 1 [I 1]) [1] := ISl.of (xs := [1]) _ (by simp) (by simp)
  have hF0 : Sp (.imm true none 0 []) [] := ⟨⟨true, none, 0, rfl, by simp, by simp⟩, by simp, by simp⟩
  have hL0 : Ls (.imm true none 0 []) [] := ⟨⟨true, none, 0, rfl, by simp, by simp⟩, by simp, by simp⟩
  have base : ACalls Try.prog 9 [] [] fun r G => r = Bo true := by
    apply live05_call
    repeat first | refine AWp.seq ?_ | refine AWp.block ?_
    refine AWp.ops ?_
    simp
    repeat first | refine AWp.seq ?_ | refine AWp.block ?_
    refine AWp.ops ?_
    simp
    refine (some05_spec).mono ?_
    rintro r H' ⟨rfl, rfl⟩
    obtain ⟨tn, htn⟩ : ∃ tn, tn = AV.agg [.imm false (some 2) 1 (exS.map I), .imm false (some 2) 3 (exF.map specV), .imm false (some 2) 4 (exL.map lvV), .imm false (some 2) 1 (exV.map I)] := ⟨_, rfl⟩
    have hd := sDense_spec hS hF exL_ok hV (by simp [exL]) (by simp [exF]) (fun h1 h2 => den_good ⟨by simp [exS], by simp [exS]⟩ h1 h2)
    have hc := (sCheck_spec hS hF exL_ok hV (by simp [exL]) (by simp [exF])).pure (by simp) (by rintro r rfl; simp)
    rw [ex_dense] at hd
    rw [ex_check] at hc
    rw [← htn] at hd hc ⊢
    have hone : oneC tn = false := by rw [htn]; rfl
    simp
    refine hd.mono ?_
    rintro r H' ⟨rfl, d, rfl, s, v, rfl, ⟨⟨nla, ca, za, rfl, hza⟩, _⟩, ⟨⟨nlb, cb, zb, rfl, hzb⟩, _⟩⟩
    have hzb1 := sz_of (i := 0) hzb (by simp)
    subst hzb1
    simp
    repeat first | refine AWp.seq ?_ | refine AWp.block ?_
    refine AWp.ops ?_
    simp
    refine ((sReadErr_spec hS1 hF0 hL0 ISl.nil (by simp) (by simp) (by rw [ex_none]; decide)).pure (by simp) (by rintro r rfl; simp) _).mono ?_
    rintro r H' ⟨rfl, rfl⟩
    rw [ex_none]
    simp
    repeat first | refine AWp.seq ?_ | refine AWp.block ?_
    refine AWp.ops ?_
    simp
    refine ((some05_spec).pure (by simp) (by rintro r rfl; simp) _).mono ?_
    rintro r H' ⟨rfl, rfl⟩
    rw [← htn]
    simp
    refine (hc _).mono ?_
    rintro r H' ⟨rfl, rfl⟩
    simp
    refine AWp.ret ?_
    simp
    refine retOk.of rfl ?_
    simp
  refine (base.frozen 2).mono ?_
  rintro q H' ⟨rfl, r, G, rfl, rfl⟩
  exact ⟨rfl, by simp⟩
end Go.Fw
namespace Go.Fw
open Go Go.RowKit Go.Proofs
set_option maxRecDepth 100000
set_option linter.unusedSimpArgs false
set_option linter.unusedVariables false
def fewF (T : Tn) : Bool := decide (¬ (20 < T.sh.length ∨ 40 < T.f.length ∨ 40 < T.l.length ∨ 3000 < T.v.length)) && T.l.all (fun x => decide (¬ (3000 < x.lv.pos.length ∨ 3000 < x.lv.crd.length)))
def few_12 : AC := (.seq (.ops [.o 34 (.fad 2 (.t 4)), .o 35 (.ld 1 false (.t 34)), .o 36 (.len (.t 35)), .o 37 (.bin .gtr (.t 36) (.i 3000)), .m 38 (.t 37), .og 39 38 false (.fad 3 (.t 4)), .og 40 38 false (.ld 1 false (.t 39)), .og 41 38 false (.len (.t 40)), .og 42 38 false (.bin .gtr (.t 41) (.i 3000)), .o 43 (.pick (.t 38) (.b true) (.t 42))]) (.cond (.t 43) (.seq (.ops [.m 2 (.b false)]) .ret) .skip))
def few_11 : AC := (.seq (.ops [.o 32 (.iad 4 (.t 28) (.t 30)), .o 33 (.ld 4 true (.t 32)), .o 4 (.new 34 4 (.c (.agg [(.sc (.int .i64 0)), (.sc (.int .i64 0)), nil0, nil0]))), .on (.st 4 (.t 4) (.t 33))]) few_12)
def few_10 : AC := (.block 1 few_11)
def few_9 : AC := (.seq few_10 (.ops [.o 44 (.bin .add (.t 30) (.i 1)), .m 30 (.t 44)]))
def few_8 : AC := (.seq (.cond (.t 31) .skip (.exit 0)) few_9)
def few_7 : AC := (.seq (.ops [.o 31 (.bin .lss (.t 30) (.t 29))]) few_8)
def few_6 : AC := (.loop few_7)
def few_5 : AC := (.block 0 few_6)
def few_4 : AC := (.seq (.ops [.o 27 (.fad 2 (.t 1)), .o 28 (.ld 1 false (.t 27)), .o 29 (.len (.t 28)), .m 30 (.i 0)]) few_5)
def few_3 : AC := (.seq few_4 (.seq (.ops [.m 2 (.b true)]) .ret))
def few_2 : AC := (.seq (.ops [.o 5 (.fad 0 (.t 1)), .o 6 (.ld 1 false (.t 5)), .o 7 (.len (.t 6)), .o 8 (.bin .gtr (.t 7) (.i 20)), .m 9 (.t 8), .og 10 9 false (.fad 1 (.t 1)), .og 11 9 false (.ld 1 false (.t 10)), .og 12 9 false (.len (.t 11)), .og 13 9 false (.bin .gtr (.t 12) (.i 40)), .o 14 (.pick (.t 9) (.b true) (.t 13)), .m 15 (.t 14), .og 16 15 false (.fad 2 (.t 1)), .og 17 15 false (.ld 1 false (.t 16)), .og 18 15 false (.len (.t 17)), .og 19 15 false (.bin .gtr (.t 18) (.i 40)), .o 20 (.pick (.t 15) (.b true) (.t 19)), .m 21 (.t 20), .og 22 21 false (.fad 3 (.t 1)), .og 23 21 false (.ld 1 false (.t 22)), .og 24 21 false (.len (.t 23)), .og 25 21 false (.bin .gtr (.t 24) (.i 3000)), .o 26 (.pick (.t 21) (.b true) (.t 25))]) (.cond (.t 26) (.seq (.ops [.m 2 (.b false)]) .ret) .skip))
def few_1 : AC := (.seq few_2 few_3)
def few_ac : AC := (.seq (.ops [.o 1 (.new 27 4 (.t 0)), .m 2 (.b false)]) few_1)
theorem few_call {args : List AV} {H : List AObj} {R : AV → List AObj → Prop} (h : AWp Try.prog [] H.length few_ac (bodyQ H.length [(.t 2)] R) (args ++ List.replicate (45 - args.length) .und) H) : ACalls Try.prog 10 args H R :=
  ACalls.of_fn Try.func10 rfl (by kernel_rfl) rfl Try.ntmps10 h
set_option maxHeartbeats 2000000 in
theorem few_spec {a : AV} {T : Tn} (ha : Tns a T) : ACalls Try.prog 10 [a] [] fun r H' => H' = [] ∧ r = Bo (fewF T) := by
  obtain ⟨S, F, xs, V⟩ := T
  obtain ⟨sh, f, l, v, rfl, hS, hF, hl, hV⟩ := ha
  simp only at hS hF hl hV
  obtain ⟨⟨nl, c, sz, rfl, hs⟩, hlen, hx⟩ := hl
  obtain ⟨⟨nl1, c01, sz1, rfl, hs1⟩, hlen1, hx1⟩ := hS
  obtain ⟨⟨nl2, c02, sz2, rfl, hs2⟩, hlen2, hx2⟩ := hF
  obtain ⟨⟨nl3, c3, sz3, rfl, hs3⟩, hlen3, hx3⟩ := hV
  have base : ACalls Try.prog 10 [.agg [.imm nl1 c01 sz1 (S.map I), .imm nl2 c02 sz2 (F.map specV), .imm nl c sz (xs.map lvV), .imm nl3 c3 sz3 (V.map I)]] [] fun r H' => r = Bo (fewF ⟨S, F, xs, V⟩) := by
    apply few_call
    repeat first | refine AWp.seq ?_ | refine AWp.block ?_
    refine AWp.ops ?_
    simp
    obtain ⟨bad, hbad⟩ : ∃ bad, bad = decide (20 < S.length ∨ 40 < F.length ∨ 40 < xs.length ∨ 3000 < V.length) := ⟨_, rfl⟩
    refine AWp.seq (AWp.cut [.und, .ptr 0 1 0 0, .und, .und, .und, .und, .und, .und, .und, .und, .und, .und, .und, .und, .und, .und, .und, .und, .und, .und, .und, .und, .und, .und, .und, .und, Bo bad, .und, .und, .und, .und, .und, .und, .und, .und, .und, .und, .und, .und, .und, .und, .und, .und, .und, .und] [tnO (.agg [.imm nl1 c01 sz1 (S.map I), .imm nl2 c02 sz2 (F.map specV), .imm nl c sz (xs.map lvV), .imm nl3 c3 sz3 (V.map I)])] ?_ ?_)
    · by_cases a1 : 20 < S.length
      · have a1' : 20 < (S.length : Int) := by omega
        repeat first | refine AWp.seq ?_ | refine AWp.block ?_
        refine AWp.ops ?_
        simp [a1']
        exact (Weak.slots [1, 26]).to (by simp [hbad, a1]) rfl
      have a1' : ¬ 20 < (S.length : Int) := by omega
      by_cases a2 : 40 < F.length
      · have a2' : 40 < (F.length : Int) := by omega
        repeat first | refine AWp.seq ?_ | refine AWp.block ?_
        refine AWp.ops ?_
        simp [a1', a2']
        exact (Weak.slots [1, 26]).to (by simp [hbad, a2]) rfl
      have a2' : ¬ 40 < (F.length : Int) := by omega
      by_cases a3 : 40 < xs.length
      · have a3' : 40 < (xs.length : Int) := by omega
        repeat first | refine AWp.seq ?_ | refine AWp.block ?_
        refine AWp.ops ?_
        simp [a1', a2', a3']
        exact (Weak.slots [1, 26]).to (by simp [hbad, a3]) rfl
      have a3' : ¬ 40 < (xs.length : Int) := by omega
      repeat first | refine AWp.seq ?_ | refine AWp.block ?_
      refine AWp.ops ?_
      simp [a1', a2', a3']
      have e : decide (3000 < (V.length : Int)) = bad := by
        rw [hbad, Bool.eq_iff_iff]
        simp [a1, a2, a3]
        omega
      exact (Weak.slots [1, 26]).to (by simp [e]) rfl
    refine AWp.cond (b := bad) (by simp) ?_ ?_
    · intro h
      have h : 20 < S.length ∨ 40 < F.length ∨ 40 < xs.length ∨ 3000 < V.length := by simpa only [hbad, decide_eq_true_eq] using h
      repeat first | refine AWp.seq ?_ | refine AWp.block ?_
      refine AWp.ops ?_
      simp
      refine AWp.ret ?_
      simp
      refine retOk.of rfl ?_
      have : fewF ⟨S, F, xs, V⟩ = false := by
        simp only [fewF]
        rw [decide_eq_false (fun hn => hn h), Bool.false_and]
      rw [this]
      simp
    intro h
    have hg : ¬ (20 < S.length ∨ 40 < F.length ∨ 40 < xs.length ∨ 3000 < V.length) := by simpa only [hbad, decide_eq_false_iff_not] using h
    have hF : fewF ⟨S, F, xs, V⟩ = xs.all (fun x => decide (¬ (3000 < x.lv.pos.length ∨ 3000 < x.lv.crd.length))) := by
      simp only [fewF]
      rw [decide_eq_true hg, Bool.true_and]
    rw [hF]
    obtain ⟨P, hP⟩ : ∃ P : LvA → Bool, P = fun x => decide (¬ (3000 < x.lv.pos.length ∨ 3000 < x.lv.crd.length)) := ⟨_, rfl⟩
    rw [← hP]
    refine AWp.skip ?_
    simp only [qSeq]
    repeat first | refine AWp.seq ?_ | refine AWp.block ?_
    refine AWp.ops ?_
    simp
    obtain ⟨J, hJ⟩ : ∃ J : Nat → List AV → List AObj → Prop, J = fun i fr H => i ≤ xs.length ∧ (∀ x ∈ xs.take i, P x = true) ∧ H = [tnO (.agg [.imm nl1 c01 sz1 (S.map I), .imm nl2 c02 sz2 (F.map specV), .imm nl c sz (xs.map lvV), .imm nl3 c3 sz3 (V.map I)])] ∧
      fr = [.und, .ptr 0 1 0 0, .und, .und, .und, .und, .und, .und, .und, .und, .und, .und, .und, .und, .und, .und, .und, .und, .und, .und, .und, .und, .und, .und, .und, .und, .und, .und, .imm nl c sz (xs.map lvV), I xs.length, I i, .und, .und, .und, .und, .und, .und, .und, .und, .und, .und, .und, .und, .und, .und] := ⟨_, rfl⟩
    refine AWp.block (AWp.loop J (fun i => xs.length - i) 0 (Weak.slots [1, 28, 29, 30]) (by rw [hJ]; exact ⟨by omega, by simp, by simp, by simp⟩) ?_)
    intro i fr H hI
    rw [hJ] at hI
    obtain ⟨hi, hinv, rfl, rfl⟩ := hI
    repeat first | refine AWp.seq ?_ | refine AWp.block ?_
    refine AWp.ops ?_
    simp
    refine AWp.seq (AWp.cond (b := decide (i < xs.length)) (by simp <;> omega) ?_ ?_)
    ·
      intro hb
      have hb : i < xs.length := by simpa using hb
      refine AWp.skip ?_
      simp only [qSeq]
      have hsz4 := sz4_of hs hb
      subst hsz4
      have hgs := lv_get hb
      have hok := hx xs[i] (List.getElem_mem hb)
      have hmem : xs[i] ∈ xs := List.getElem_mem hb
      have hall : (∀ x ∈ xs.take (i + 1), P x = true) ↔ (P xs[i] = true ∧ ∀ x ∈ xs.take i, P x = true) := by
        rw [List.take_succ_eq_append_getElem hb]
        simp only [List.mem_append, List.mem_singleton]
        exact ⟨fun h => ⟨h _ (.inr rfl), fun x hx => h x (.inl hx)⟩, fun h x hx => hx.elim (h.2 x) (fun e => e ▸ h.1)⟩
      have hPx : P xs[i] = decide (¬ (3000 < xs[i].lv.pos.length ∨ 3000 < xs[i].lv.crd.length)) := by rw [hP]
      generalize xs[i] = x at hgs hok hmem hall hPx
      obtain ⟨⟨k, z, ps, cs⟩, p, q⟩ := x
      simp only at hgs hok hPx
      obtain ⟨⟨⟨nlp, cp, szp, rfl, _⟩, _⟩, ⟨⟨nlq, cq, szq, rfl, _⟩, _⟩, _⟩ := hok
      have hbadx : (3000 < ps.length ∨ 3000 < cs.length) → xs.all P = false := by
        intro h
        rw [List.all_eq_false]
        exact ⟨_, hmem, by rw [hPx, decide_eq_false (fun hn => hn h)]; simp⟩
      repeat first | refine AWp.seq ?_ | refine AWp.block ?_
      refine AWp.ops ?_
      simp [hgs]
      by_cases b1 : 3000 < ps.length
      · have b1' : 3000 < (ps.length : Int) := by omega
        repeat first | refine AWp.seq ?_ | refine AWp.block ?_
        refine AWp.ops ?_
        simp [b1']
        refine AWp.cond (b := true) (by simp) (fun _ => ?_) (fun h => by cases h)
        repeat first | refine AWp.seq ?_ | refine AWp.block ?_
        refine AWp.ops ?_
        simp
        refine AWp.ret ?_
        simp
        refine retOk.of rfl ?_
        rw [hbadx (.inl b1)]; simp
      have b1' : ¬ 3000 < (ps.length : Int) := by omega
      by_cases b2 : 3000 < cs.length
      · have b2' : 3000 < (cs.length : Int) := by omega
        repeat first | refine AWp.seq ?_ | refine AWp.block ?_
        refine AWp.ops ?_
        simp [b1', b2']
        refine AWp.cond (b := true) (by simp [b2']) (fun _ => ?_) (fun h => by cases h)
        repeat first | refine AWp.seq ?_ | refine AWp.block ?_
        refine AWp.ops ?_
        simp
        refine AWp.ret ?_
        simp
        refine retOk.of rfl ?_
        rw [hbadx (.inr b2)]; simp
      have b2' : ¬ 3000 < (cs.length : Int) := by omega
      repeat first | refine AWp.seq ?_ | refine AWp.block ?_
      refine AWp.ops ?_
      simp [b1', b2']
      refine AWp.cond (b := false) (by simp) (fun h => by cases h) (fun _ => ?_)
      refine AWp.skip ?_
      simp only [qSeq, qBlock]
      repeat first | refine AWp.seq ?_ | refine AWp.block ?_
      refine AWp.ops ?_
      simp
      refine ⟨i + 1, _, _, (Weak.slots [1, 28, 29, 30]).trans (Weak.freeze 1 3 (by simp)), ?_, by omega⟩
      rw [hJ]
      refine ⟨by omega, ?_, by simp [frzH], by simp [wrap_i64 (n := (i : Int) + 1) (by omega) (by omega)]⟩
      exact hall.2 ⟨by rw [hPx]; exact decide_eq_true (by omega), hinv⟩
    ·
      intro hb
      have hb : ¬ i < xs.length := by simpa using hb
      refine AWp.exit ?_
      simp [qSeq, qBlock]
      rw [List.take_of_length_le (by omega)] at hinv
      repeat first | refine AWp.seq ?_ | refine AWp.block ?_
      refine AWp.ops ?_
      simp
      refine AWp.ret ?_
      simp
      refine retOk.of rfl ?_
      have : xs.all P = true := List.all_eq_true.2 hinv
      rw [this]; simp
  refine (base.frozen 2).mono ?_
  rintro q H' ⟨rfl, r, G, rfl, rfl⟩
  exact ⟨rfl, by simp⟩
end Go.Fw
namespace Go.Fw
open Go Go.RowKit Go.Proofs
set_option maxRecDepth 100000
set_option linter.unusedSimpArgs false
set_option linter.unusedVariables false
abbrev getCaps : List AV := [.ptr 0 1 0 0, .ptr 2 1 0 0, .ptr 3 1 0 0, .ptr 1 1 0 0, .ptr 4 1 0 0, .ptr 5 1 0 0]
structure GInv (N : Nat) (tn cv : AV) (M : List (Bool × Int)) (v : Int) (b : Bool) (K : List AObj) : Prop where
  len : K.length = N
  lt : N = 6
  o0 : K[0]? = some (tnO tn)
  o1 : K[1]? = some ⟨22, 1, [cv], true, none⟩
  o2 : K[2]? = some ⟨2, 1, [I v], true, none⟩
  o3 : K[3]? = some ⟨4, 1, [Bo b], true, none⟩
  o4 : K[4]? = some ⟨71, 8, [.agg (mcells M)], true, none⟩
  o5 : K[5]? = some ⟨84, 1, [.fn (.func 51) [] getCaps], true, none⟩
theorem GInv.frz {N : Nat} {tn cv : AV} {M : List (Bool × Int)} {v : Int} {b : Bool} {K : List AObj} (h : GInv N tn cv M v b K) (G : List AObj)
    (htn : ∀ H k, frz H k 3 true tn = tn) (hcv : ∀ H k, frz H k 3 true cv = cv) : GInv N tn cv M v b (frzH (K ++ G) N 3) := by
  have hl := h.len
  have hN := h.lt
  have app : ∀ {i : Nat} {o : AObj}, K[i]? = some o → (K ++ G)[i]? = some o := by
    intro i o ho
    rw [List.getElem?_append_left (List.getElem?_eq_some_iff.1 ho).1]; exact ho
  refine ⟨by simp [frzH]; omega, hN, ?_, ?_, ?_, ?_, ?_, ?_⟩
  · rw [frzH_of 3 (by omega) (app h.o0)]; simp [htn]
  · rw [frzH_of 3 (by omega) (app h.o1)]; simp [hcv]
  · rw [frzH_of 3 (by omega) (app h.o2)]; simp
  · rw [frzH_of 3 (by omega) (app h.o3)]; simp
  · rw [frzH_of 3 (by omega) (app h.o4)]; simp [mcells_frz]
  · rw [frzH_of 3 (by omega) (app h.o5)]; simp [hN]
theorem GInv.put {N : Nat} {tn cv : AV} {M : List (Bool × Int)} {v w : Int} {b d : Bool} {K : List AObj} (h : GInv N tn cv M v b K) :
    GInv N tn cv M w d ((K.set 2 ⟨2, 1, [I w], true, none⟩).set 3 ⟨4, 1, [Bo d], true, none⟩) := by
  have hl := h.len
  have hN := h.lt
  refine ⟨by simpa using hl, hN, ?_, ?_, ?_, ?_, ?_, ?_⟩
  · simpa using h.o0
  · simpa using h.o1
  · simp [hl, hN]
  · simp [hl, hN]
  · simpa using h.o4
  · simpa using h.o5
def gdown_21 : AC := (.cond (.t 66) (.ops [.o 67 (.ld 1 false (.t 7)), .m 68 (.t 0), .o 69 (.bin .add (.t 68) (.i 1)), .o 70 (.fad 1 (.t 14)), .o 71 (.ld 1 false (.t 70)), .c 72 false (.t 67) [(.t 69), (.t 71)]]) .skip)
def gdown_20 : AC := (.seq (.ops [.o 63 (.fad 0 (.t 14)), .o 64 (.ld 1 false (.t 63)), .m 65 (.t 11), .o 66 (.bin .eql (.t 64) (.t 65))]) gdown_21)
def gdown_19 : AC := (.seq (.ops [.o 61 (.iad 2 (.t 57) (.t 59)), .o 62 (.ld 2 true (.t 61)), .o 14 (.new 88 2 (.c (.agg [(.sc (.int .i64 0)), (.sc (.int .i64 0))]))), .on (.st 2 (.t 14) (.t 62))]) gdown_20)
def gdown_18 : AC := (.block 1 gdown_19)
def gdown_17 : AC := (.seq gdown_18 (.ops [.o 73 (.bin .add (.t 59) (.i 1)), .m 59 (.t 73)]))
def gdown_16 : AC := (.seq (.cond (.t 60) .skip (.exit 0)) gdown_17)
def gdown_15 : AC := (.seq (.ops [.o 60 (.bin .lss (.t 59) (.t 58))]) gdown_16)
def gdown_14 : AC := (.loop gdown_15)
def gdown_13 : AC := (.block 0 gdown_14)
def gdown_12 : AC := (.seq (.ops [.o 51 (.fad 2 (.t 2)), .o 52 (.ld 1 false (.t 51)), .m 53 (.t 0), .o 54 (.iad 4 (.t 52) (.t 53)), .o 55 (.ld 4 true (.t 54)), .m 56 (.t 1), .c 57 false (.f 52) [(.t 55), (.t 56)], .o 58 (.len (.t 57)), .m 59 (.i 0)]) gdown_13)
def gdown_11 : AC := (.cond (.t 47) (.ops [.m 48 (.t 11), .m 49 (.t 12), .o 50 (.bin .quo (.t 48) (.t 49)), .m 11 (.t 50)]) .skip)
def gdown_10 : AC := (.seq (.ops [.m 46 (.t 12), .o 47 (.bin .gtr (.t 46) (.i 0))]) gdown_11)
def gdown_9 : AC := (.cond (.t 42) (.ops [.m 43 (.t 11), .m 44 (.t 12), .o 45 (.bin .rem (.t 43) (.t 44)), .m 11 (.t 45)]) gdown_10)
def gdown_8 : AC := (.seq (.ops [.o 40 (.fad 0 (.t 10)), .o 41 (.ld 1 false (.t 40)), .o 42 (.bin .eql (.t 41) (.i 4))]) gdown_9)
def gdown_7 : AC := (.seq (.ops [.o 35 (.fad 1 (.t 10)), .o 36 (.ld 1 false (.t 35)), .o 37 (.iar 4 2 (.t 6) (.t 36)), .o 38 (.fad 1 (.t 37)), .o 39 (.ld 1 false (.t 38)), .m 12 (.t 39)]) gdown_8)
def gdown_6 : AC := (.seq gdown_7 gdown_12)
def gdown_5 : AC := (.seq (.ops [.o 30 (.ld 1 false (.t 5)), .o 31 (.fad 1 (.t 10)), .o 32 (.ld 1 false (.t 31)), .o 33 (.iad 1 (.t 30) (.t 32)), .o 34 (.ld 1 false (.t 33)), .m 11 (.t 34)]) gdown_6)
def gdown_4 : AC := (.seq (.ops [.o 25 (.fad 1 (.t 2)), .o 26 (.ld 1 false (.t 25)), .m 27 (.t 0), .o 28 (.iad 3 (.t 26) (.t 27)), .o 29 (.ld 3 true (.t 28)), .o 10 (.new 43 3 (.c (.agg [(.sc (.int .i64 0)), (.sc (.int .i64 0)), (.sc (.int .i64 0))]))), .on (.st 3 (.t 10) (.t 29))]) gdown_5)
def gdown_3 : AC := (.seq (.ops [.o 20 (.fad 3 (.t 2)), .o 21 (.ld 1 false (.t 20)), .m 22 (.t 1), .o 23 (.iad 1 (.t 21) (.t 22)), .o 24 (.ld 1 false (.t 23)), .on (.st 1 (.t 3) (.t 24)), .on (.st 1 (.t 4) (.b true))]) .ret)
def gdown_2 : AC := (.cond (.t 19) gdown_3 .skip)
def gdown_1 : AC := (.seq (.ops [.m 15 (.t 0), .o 16 (.fad 2 (.t 2)), .o 17 (.ld 1 false (.t 16)), .o 18 (.len (.t 17)), .o 19 (.bin .eql (.t 15) (.t 18))]) gdown_2)
def gdown_ac : AC := (.seq gdown_1 gdown_4)
theorem gdown_call {args : List AV} {H : List AObj} {R : AV → List AObj → Prop} (h : AWp Try.prog [] H.length gdown_ac (bodyQ H.length [] R) (args ++ List.replicate (74 - args.length) .und) H) : ACalls Try.prog 51 args H R :=
  ACalls.of_fn Try.func51 rfl (by kernel_rfl) rfl Try.ntmps51 h
set_option maxHeartbeats 4000000 in
theorem gdown_spec {N : Nat} {sh f l v cv : AV} {S Vs c : List Int} {F : List (Int × Int × Int)} {xs : List LvA} {M : List (Bool × Int)} (hS : ISl sh S) (hF : Sp f F) (hl : Ls l xs) (hV : ISl v Vs) (hfl : F.length = xs.length) (hcv : ISl cv c) (hc : InS S c)
    (hS0 : ∀ x ∈ S, 0 ≤ x ∧ x ≤ 9223372036854775807) (hM4 : M.length = 4) (hSl : S.length ≤ 4) :
    ∀ j i, i + j = xs.length → ∀ K w b p M0 b0 cw n, GInv N (.agg [sh, f, l, v]) cv M w b K → Way S M Vs.length (F.drop i) (xs.drop i) M0 b0 cw n p →
      ACalls Try.prog 51 [I i, I p, .ptr 0 1 0 0, .ptr 2 1 0 0, .ptr 3 1 0 0, .ptr 1 1 0 0, .ptr 4 1 0 0, .ptr 5 1 0 0] K fun r K' => r = .tup [] ∧ GInv N (.agg [sh, f, l, v]) cv M (getGo M Vs c (xs.drop i) (F.drop i) p (w, b)).1 (getGo M Vs c (xs.drop i) (F.drop i) p (w, b)).2 K' := by
  obtain ⟨⟨nl, cl, sz, rfl, hs⟩, hlen, hx⟩ := hl
  obtain ⟨⟨nl1, c01, sz1, rfl, hs1⟩, hlen1, hx1⟩ := hS
  obtain ⟨⟨nl2, c02, sz2, rfl, hs2⟩, hlen2, hx2⟩ := hF
  obtain ⟨⟨nl3, c3, sz3, rfl, hs3⟩, hlen3, hx3⟩ := hV
  obtain ⟨⟨nl5, c5, sz5, rfl, hs5⟩, hlen5, hx5⟩ := hcv
  have htn : ∀ H k, frz H k 3 true (AV.agg [.imm nl1 c01 sz1 (S.map I), .imm nl2 c02 sz2 (F.map specV), .imm nl cl sz (xs.map lvV), .imm nl3 c3 sz3 (Vs.map I)]) = .agg [.imm nl1 c01 sz1 (S.map I), .imm nl2 c02 sz2 (F.map specV), .imm nl cl sz (xs.map lvV), .imm nl3 c3 sz3 (Vs.map I)] := fun H k => by simp
  have hcvf : ∀ H k, frz H k 3 true (AV.imm nl5 c5 sz5 (c.map I)) = AV.imm nl5 c5 sz5 (c.map I) := fun H k => by simp
  intro j
  induction j with
  | zero =>
    intro i hij K w b p M0 b0 cw n hG hW
    have hi : i = xs.length := by omega
    subst hi
    rw [List.drop_eq_nil_of_le (Nat.le_refl _)] at hW ⊢
    have hFn : F.drop xs.length = [] := List.drop_eq_nil_of_le (by omega)
    rw [hFn] at hW ⊢
    obtain ⟨rfl, hp⟩ := hW.nil
    have hszv := sz_of hs3 hp
    subst hszv
    obtain ⟨hl, hN, o0, o1, o2, o3, o4, o5⟩ := id hG
    apply gdown_call
    repeat first | refine AWp.seq ?_ | refine AWp.block ?_
    refine AWp.ops ?_
    simp [o0]
    refine AWp.cond (b := true) (by simp) (fun _ => ?_) (fun h => by cases h)
    repeat first | refine AWp.seq ?_ | refine AWp.block ?_
    refine AWp.ops ?_
    simp [o0, hp, o2, o3]
    refine AWp.ret ?_
    simp
    refine retOk.of rfl ⟨rfl, ?_⟩
    have := hG.put (w := Vs[p]) (d := true)
    simpa [getGo, hp] using this
  | succ j ih =>
    intro i hij K w b p M0 b0 cw n hG hW
    have hi : i < xs.length := by omega
    have hiF : i < F.length := by omega
    have hne : ¬ i = xs.length := by omega
    obtain ⟨hl, hN, o0, o1, o2, o3, o4, o5⟩ := id hG
    have hsz4 := sz4_of hs hi
    have hsz3 := sz3_of hs2 hiF
    subst hsz4 hsz3
    have hgs := lv_get hi
    have hgF := spec_get hiF
    have hok := hx xs[i] (List.getElem_mem hi)
    rw [List.drop_eq_getElem_cons hi, List.drop_eq_getElem_cons hiF] at hW ⊢
    simp only [getGo]
    generalize xs[i] = x at hgs hok hW
    generalize F[i] = sp at hgF hW
    obtain ⟨lv, px, qx⟩ := x
    obtain ⟨k, mo, z⟩ := sp
    simp only at hgs hok hW hgF
    obtain ⟨⟨hm0, hm1⟩, hchk, hk4, -, M1, -, hkids⟩ := hW.step hS0
    have hna := hW.hn
    have hpn := hW.hp
    simp only at hm0 hm1 hchk hk4 hkids
    obtain ⟨m, rfl⟩ : ∃ m : Nat, mo = m := ⟨mo.toNat, by omega⟩
    rw [Int.toNat_natCast] at hm1 hk4
    obtain ⟨hcl, hcb⟩ := hc
    have hmc : m < c.length := by omega
    have hsz5 := sz_of hs5 hmc
    subst hsz5
    have hmM : m < M.length := by omega
    obtain ⟨was, hwas⟩ : ∃ was, was = c[m] := ⟨_, rfl⟩
    have hwasD : c.getD m 0 = was := by rw [hwas]; simp [hmc]
    have hw0 := hcb m hm1
    rw [hwasD] at hw0
    have hwr : was ≤ 9223372036854775807 := by rw [hwas]; exact (hx5 _ (List.getElem_mem hmc)).2
    obtain ⟨blk, hblk⟩ : ∃ blk, blk = M[m].2 := ⟨_, rfl⟩
    have hblkD : (M.getD m (false, 0)).2 = blk := by rw [hblk]; simp [hmM]
    have hg4 := mcells_get1 M m hmM
    rw [← hblk] at hg4
    obtain ⟨want, hwant⟩ : ∃ want, want = wantF M (k, (m : Int), z) c := ⟨_, rfl⟩
    have hwf : want = if k = 4 then was % blk else if 0 < blk then was / blk else was := by rw [hwant]; simp only [wantF, Int.toNat_natCast, hwasD, hblkD]
    rw [← hwant]
    obtain ⟨SO, hSO⟩ : ∃ SO : AObj, SO = ⟨43, 3, [.agg [I k, I m, I z]], true, none⟩ := ⟨_, rfl⟩
    obtain ⟨K1, hK1⟩ : ∃ K1, K1 = frzH (K ++ [SO]) N 3 := ⟨_, rfl⟩
    have hG1 : GInv N (.agg [.imm nl1 c01 sz1 (S.map I), .imm nl2 c02 3 (F.map specV), .imm nl cl 4 (xs.map lvV), .imm nl3 c3 sz3 (Vs.map I)]) (.imm nl5 c5 1 (c.map I)) M w b K1 := by rw [hK1]; exact hG.frz _ htn hcvf
    have gK : ∀ o, (K ++ [o])[N]? = some o := fun o => by rw [← hl]; simp
    have sK : ∀ o o', (K ++ [o]).set N o' = K ++ [o'] := fun o o' => by rw [← hl]; simp
    apply gdown_call
    rw [hl]
    repeat first | refine AWp.seq ?_ | refine AWp.block ?_
    refine AWp.ops ?_
    simp [o0]
    have hneI : ¬ (i : Int) = xs.length := by omega
    have l0 : 0 < N := by omega
    have l1 : 1 < N := by omega
    have l2 : 2 < N := by omega
    have l3 : 3 < N := by omega
    have l4 : 4 < N := by omega
    have l5 : 5 < N := by omega
    have hm4 : (m : Int) < 4 := by omega
    refine AWp.cond (b := false) (by simp [hneI]) (fun h => by cases h) (fun _ => ?_)
    refine AWp.skip ?_
    simp only [qSeq]
    refine AWp.cut [I i, I p, .ptr 0 1 0 0, .ptr 2 1 0 0, .ptr 3 1 0 0, .ptr 1 1 0 0, .ptr 4 1 0 0, .ptr 5 1 0 0, .und, .und, .ipt (.agg [I k, I m, I z]) 0, .und, .und, .und, .und, .und, .und, .und, .und, .und, .und, .und, .und, .und, .und, .und, .und, .und, .und, .und, .und, .und, .und, .und, .und, .und, .und, .und, .und, .und, .und, .und, .und, .und, .und, .und, .und, .und, .und, .und, .und, .und, .und, .und, .und, .und, .und, .und, .und, .und, .und, .und, .und, .und, .und, .und, .und, .und, .und, .und, .und, .und, .und, .und] K1 ?_ ?_
    ·
      repeat first | refine AWp.seq ?_ | refine AWp.block ?_
      refine AWp.ops ?_
      simp [o0, hgF, hl, gK, sK]
      exact ((Weak.slots [0, 1, 2, 3, 4, 5, 6, 7, 10]).trans (Weak.freeze N 3 (Nat.le_refl _))).to (by simp [l0, l1, l2, l3, l4, l5, gK]) (by rw [hK1, hSO])
    obtain ⟨hl1, -, p0, p1, p2, p3, p4, p5⟩ := id hG1
    clear hK1 hG o0 o1 o2 o3 o4 o5 gK sK hl
    repeat first | refine AWp.seq ?_ | refine AWp.block ?_
    refine AWp.ops ?_
    simp [p1, hmc, ← hwas]
    refine AWp.cut [I i, I p, .ptr 0 1 0 0, .ptr 2 1 0 0, .ptr 3 1 0 0, .ptr 1 1 0 0, .ptr 4 1 0 0, .ptr 5 1 0 0, .und, .und, .und, I want, .und, .und, .und, .und, .und, .und, .und, .und, .und, .und, .und, .und, .und, .und, .und, .und, .und, .und, .und, .und, .und, .und, .und, .und, .und, .und, .und, .und, .und, .und, .und, .und, .und, .und, .und, .und, .und, .und, .und, .und, .und, .und, .und, .und, .und, .und, .und, .und, .und, .und, .und, .und, .und, .und, .und, .und, .und, .und, .und, .und, .und, .und] K1 ?_ ?_
    ·
      repeat first | refine AWp.seq ?_ | refine AWp.block ?_
      refine AWp.ops ?_
      simp [p4, hm4, hg4]
      repeat first | refine AWp.seq ?_ | refine AWp.block ?_
      refine AWp.ops ?_
      simp
      by_cases k4 : k = 4
      · obtain ⟨-, g2, g3, -⟩ := hk4 k4
        rw [hblkD] at g3
        have hb0 : ¬ blk = 0 := by omega
        rw [if_pos k4] at hwf
        have d1 : was.tmod blk = was % blk := Int.tmod_eq_emod_of_nonneg hw0.1
        refine AWp.cond (b := true) (by simp [k4]) (fun _ => ?_) (fun h => by cases h)
        repeat first | refine AWp.seq ?_ | refine AWp.block ?_
        refine AWp.ops ?_
        simp [hb0, d1]
        exact (Weak.slots [0, 1, 2, 3, 4, 5, 6, 7, 11]).to (by simp [hwf]) rfl
      · rw [if_neg k4] at hwf
        refine AWp.cond (b := false) (by simp [k4]) (fun h => by cases h) (fun _ => ?_)
        repeat first | refine AWp.seq ?_ | refine AWp.block ?_
        refine AWp.ops ?_
        simp
        by_cases hb : 0 < blk
        · have hb0 : ¬ blk = 0 := by omega
          rw [if_pos hb] at hwf
          have q0 : 0 ≤ was / blk := Int.ediv_nonneg hw0.1 (by omega)
          have q1 : was / blk ≤ was := Int.ediv_le_self _ hw0.1
          have d2 : IntKind.i64.wrap (was.tdiv blk) = was / blk := by rw [Int.tdiv_eq_ediv_of_nonneg hw0.1]; exact wrap_i64 (by omega) (by omega)
          refine AWp.cond (b := true) (by simp [hb]) (fun _ => ?_) (fun h => by cases h)
          repeat first | refine AWp.seq ?_ | refine AWp.block ?_
          refine AWp.ops ?_
          simp [hb0, d2]
          exact (Weak.slots [0, 1, 2, 3, 4, 5, 6, 7, 11]).to (by simp [hwf]) rfl
        · rw [if_neg hb] at hwf
          refine AWp.cond (b := false) (by simp [hb]) (fun h => by cases h) (fun _ => ?_)
          refine AWp.skip ?_
          simp only [qSeq]
          exact (Weak.slots [0, 1, 2, 3, 4, 5, 6, 7, 11]).to (by simp [hwf]) rfl
    obtain ⟨Y, hY⟩ : ∃ Y, Y = kidsF lv p := ⟨_, rfl⟩
    rw [← hY] at hkids ⊢
    have hok' := hok
    obtain ⟨⟨⟨nlp, cpp, szp, rfl, _⟩, _⟩, ⟨⟨nlq, cqq, szq, rfl, _⟩, _⟩, _⟩ := hok'
    repeat first | refine AWp.seq ?_ | refine AWp.block ?_
    refine AWp.ops ?_
    simp [p0, hgs]
    refine ((kids_spec hok hna hchk hpn).pure (by simp) (by rintro r ⟨⟨_, _, _, rfl, _⟩, _⟩; simp) _).mono ?_
    rintro r H' ⟨rfl, hCh⟩
    rw [← hY] at hCh
    obtain ⟨⟨nly, cy, szy, rfl, hsy⟩, hyl⟩ := hCh
    simp
    obtain ⟨st, hst⟩ : ∃ st : Int × Bool → Int × Int → Int × Bool, st = fun s y => if y.1 = want then getGo M Vs c (xs.drop (i + 1)) (F.drop (i + 1)) y.2.toNat s else s := ⟨_, rfl⟩
    rw [← hst]
    obtain ⟨J, hJ⟩ : ∃ J : Nat → List AV → List AObj → Prop, J = fun a fr H => a ≤ Y.length ∧ (GInv N (.agg [.imm nl1 c01 sz1 (S.map I), .imm nl2 c02 3 (F.map specV), .imm nl cl 4 (xs.map lvV), .imm nl3 c3 sz3 (Vs.map I)]) (.imm nl5 c5 1 (c.map I)) M ((Y.take a).foldl st (w, b)).1 ((Y.take a).foldl st (w, b)).2 H) ∧
        fr = [I i, .und, .ptr 0 1 0 0, .ptr 2 1 0 0, .ptr 3 1 0 0, .ptr 1 1 0 0, .ptr 4 1 0 0, .ptr 5 1 0 0, .und, .und, .und, I want, .und, .und, .und, .und, .und, .und, .und, .und, .und, .und, .und, .und, .und, .und, .und, .und, .und, .und, .und, .und, .und, .und, .und, .und, .und, .und, .und, .und, .und, .und, .und, .und, .und, .und, .und, .und, .und, .und, .und, .und, .und, .und, .und, .und, .und, .imm nly cy szy (Y.map chV), I Y.length, I a, .und, .und, .und, .und, .und, .und, .und, .und, .und, .und, .und, .und, .und, .und] := ⟨_, rfl⟩
    refine AWp.block (AWp.loop J (fun a => Y.length - a) 0 (Weak.slots [0, 2, 3, 4, 5, 6, 7, 11, 57, 58, 59]) (by
      rw [hJ]
      exact ⟨by omega, by simpa using hG1, by simp⟩) ?_)
    intro a fr H hI
    rw [hJ] at hI
    obtain ⟨ha, hGa, rfl⟩ := hI
    repeat first | refine AWp.seq ?_ | refine AWp.block ?_
    refine AWp.ops ?_
    simp
    refine AWp.seq (AWp.cond (b := decide (a < Y.length)) (by simp) ?_ ?_)
    · intro hb
      have hb : a < Y.length := by simpa using hb
      have hszy := sz2_of hsy hb
      subst hszy
      have hgY := ch_get hb
      obtain ⟨hy0, -, -, hwy⟩ := hkids Y[a] (List.getElem_mem hb)
      have htk : (Y.take (a + 1)).foldl st (w, b) = st ((Y.take a).foldl st (w, b)) Y[a] := by
        rw [List.take_succ_eq_append_getElem hb, List.foldl_append]; rfl
      generalize Y[a] = y at hgY hy0 hwy htk
      obtain ⟨at_, bq⟩ := y
      simp only at hgY hy0 hwy htk
      obtain ⟨n', rfl⟩ : ∃ n' : Nat, bq = n' := ⟨bq.toNat, by omega⟩
      rw [Int.toNat_natCast] at hwy
      obtain ⟨s1, hs1'⟩ : ∃ s1, s1 = (Y.take a).foldl st (w, b) := ⟨_, rfl⟩
      rw [← hs1'] at hGa htk
      obtain ⟨CO, hCO⟩ : ∃ CO : AObj, CO = ⟨88, 2, [.agg [I at_, I n']], true, none⟩ := ⟨_, rfl⟩
      obtain ⟨K3, hK3⟩ : ∃ K3, K3 = frzH (H ++ [CO]) N 3 := ⟨_, rfl⟩
      have hHl := hGa.len
      have hw3 : GInv N (.agg [.imm nl1 c01 sz1 (S.map I), .imm nl2 c02 3 (F.map specV), .imm nl cl 4 (xs.map lvV), .imm nl3 c3 sz3 (Vs.map I)]) (.imm nl5 c5 1 (c.map I)) M s1.1 s1.2 K3 := by rw [hK3]; exact hGa.frz _ htn hcvf
      have gK : ∀ o, (H ++ [o])[N]? = some o := fun o => by rw [← hHl]; simp
      have sK : ∀ o o', (H ++ [o]).set N o' = H ++ [o'] := fun o o' => by rw [← hHl]; simp
      refine AWp.skip ?_
      simp only [qSeq]
      refine AWp.seq (AWp.block (AWp.cut [I i, .und, .ptr 0 1 0 0, .ptr 2 1 0 0, .ptr 3 1 0 0, .ptr 1 1 0 0, .ptr 4 1 0 0, .ptr 5 1 0 0, .und, .und, .und, I want, .und, .und, .ipt (.agg [I at_, I n']) 0, .und, .und, .und, .und, .und, .und, .und, .und, .und, .und, .und, .und, .und, .und, .und, .und, .und, .und, .und, .und, .und, .und, .und, .und, .und, .und, .und, .und, .und, .und, .und, .und, .und, .und, .und, .und, .und, .und, .und, .und, .und, .und, .imm nly cy 2 (Y.map chV), I Y.length, I a, .und, .und, .und, .und, .und, .und, .und, .und, .und, .und, .und, .und, .und, .und] K3 ?_ ?_))
      ·
        repeat first | refine AWp.seq ?_ | refine AWp.block ?_
        refine AWp.ops ?_
        simp [hgY, hHl, gK, sK]
        exact ((Weak.slots [0, 2, 3, 4, 5, 6, 7, 11, 14, 57, 58, 59]).trans (Weak.freeze N 3 (Nat.le_refl _))).to (by simp [l0, l1, l2, l3, l4, l5, gK]) (by rw [hK3, hCO])
      obtain ⟨-, -, q0, q1, q2, q3, q4, q5⟩ := id hw3
      have hwi := wrap_i64 (n := (i : Int) + 1) (by omega) (by omega)
      have hwa1 := wrap_i64 (n := (a : Int) + 1) (by omega) (by omega)
      repeat first | refine AWp.seq ?_ | refine AWp.block ?_
      refine AWp.ops ?_
      simp
      by_cases hat : at_ = want
      · refine AWp.cond (b := true) (by simp [hat]) (fun _ => ?_) (fun h => by cases h)
        have hst1 : st s1 (at_, (n' : Int)) = getGo M Vs c (xs.drop (i + 1)) (F.drop (i + 1)) n' s1 := by rw [hst]; simp [hat]
        rw [hst1] at htk
        repeat first | refine AWp.seq ?_ | refine AWp.block ?_
        refine AWp.ops ?_
        simp [q5, hwi]
        refine (ih (i + 1) (by omega) K3 s1.1 s1.2 n' _ _ _ _ hw3 hwy).mono ?_
        rintro r K5 ⟨rfl, hw5⟩
        simp
        repeat first | refine AWp.seq ?_ | refine AWp.block ?_
        refine AWp.ops ?_
        simp [hwa1]
        refine ⟨a + 1, _, _, Weak.slots [0, 2, 3, 4, 5, 6, 7, 11, 57, 58, 59], ?_, by omega⟩
        rw [hJ]
        refine ⟨by omega, ?_, by simp [hwa1]⟩
        rw [htk]
        exact hw5
      · refine AWp.cond (b := false) (by simp [hat]) (fun h => by cases h) (fun _ => ?_)
        have hst1 : st s1 (at_, (n' : Int)) = s1 := by rw [hst]; simp [hat]
        rw [hst1] at htk
        refine AWp.skip ?_
        simp only [qSeq, qBlock]
        repeat first | refine AWp.seq ?_ | refine AWp.block ?_
        refine AWp.ops ?_
        simp [hwa1]
        refine ⟨a + 1, _, _, Weak.slots [0, 2, 3, 4, 5, 6, 7, 11, 57, 58, 59], ?_, by omega⟩
        rw [hJ]
        refine ⟨by omega, ?_, by simp [hwa1]⟩
        rw [htk]
        exact hw3
    · intro hb
      have hb : ¬ a < Y.length := by simpa using hb
      rw [List.take_of_length_le (by omega)] at hGa
      refine AWp.exit ?_
      simp [qSeq, qBlock]
      exact ⟨[], .tup [], H, rfl, Weak.refl _ _ _, rfl, hGa⟩
end Go.Fw
namespace Go.Fw
open Go Go.RowKit Go.Proofs
set_option maxRecDepth 100000
set_option linter.unusedSimpArgs false
set_option linter.unusedVariables false
def sGet_15 : AC := (.seq (.par [[.o 38 (.ld 1 false (.t 4)), .o 39 (.ld 1 false (.t 5)), .on (.st 1 (.t 4) (.t 38)), .on (.st 1 (.t 5) (.t 39)), .m 6 (.i 0)], [.o 38 (.ld 1 false (.t 4)), .on (.st 1 (.t 4) (.t 38)), .o 39 (.ld 1 false (.t 5)), .on (.st 1 (.t 5) (.t 39)), .m 6 (.i 0)]]) .ret)
def sGet_14 : AC := (.seq (.ops [.o 36 (.ld 1 false (.t 12)), .c 37 false (.t 36) [(.i 0), (.i 0)]]) sGet_15)
def sGet_13 : AC := (.seq (.ops [.o 35 (.mkF (.func 51) [] [(.t 2), (.t 4), (.t 5), (.t 3), (.t 10), (.t 12)]), .on (.st 1 (.t 12) (.t 35))]) sGet_14)
def sGet_12 : AC := (.seq (.ops [.o 12 (.new 84 1 (.c (.sc .nilFunc)))]) sGet_13)
def sGet_11 : AC := (.seq (.ops [.o 28 (.fad 0 (.t 2)), .o 29 (.ld 1 false (.t 28)), .o 30 (.fad 1 (.t 2)), .o 31 (.ld 1 false (.t 30)), .c 32 false (.f 40) [(.t 29), (.t 31)], .m 27 (.t 32), .o 33 (.ext (.t 27) 0), .o 34 (.ext (.t 27) 1), .o 10 (.new 71 8 (.c (.agg [(.sc (.bool false)), (.sc (.int .i64 0)), (.sc (.bool false)), (.sc (.int .i64 0)), (.sc (.bool false)), (.sc (.int .i64 0)), (.sc (.bool false)), (.sc (.int .i64 0))]))), .on (.st 8 (.t 10) (.t 33)), .m 11 (.t 34)]) sGet_12)
def sGet_10 : AC := (.seq (.ops [.on (.st 1 (.t 4) (.i 0)), .on (.st 1 (.t 5) (.b false)), .m 6 (.i 3)]) .ret)
def sGet_9 : AC := (.cond (.t 26) sGet_10 .skip)
def sGet_8 : AC := (.seq (.ops [.m 25 (.t 9), .o 26 (.bin .neq (.t 25) (.i 0))]) sGet_9)
def sGet_7 : AC := (.seq (.ops [.o 19 (.fad 0 (.t 2)), .o 20 (.ld 1 false (.t 19)), .o 21 (.ld 1 false (.t 3)), .c 22 false (.f 21) [(.t 20), (.t 21)], .m 18 (.t 22), .o 23 (.ext (.t 18) 0), .o 24 (.ext (.t 18) 1), .m 8 (.t 23), .m 9 (.t 24)]) sGet_8)
def sGet_6 : AC := (.seq sGet_7 sGet_11)
def sGet_5 : AC := (.seq (.ops [.m 17 (.t 7), .on (.st 1 (.t 4) (.i 0)), .on (.st 1 (.t 5) (.b false)), .m 6 (.t 17)]) .ret)
def sGet_4 : AC := (.cond (.t 16) sGet_5 .skip)
def sGet_3 : AC := (.seq (.ops [.m 15 (.t 7), .o 16 (.bin .neq (.t 15) (.i 0))]) sGet_4)
def sGet_2 : AC := (.seq (.ops [.o 13 (.ld 4 true (.t 2)), .c 14 false (.f 11) [(.t 13)], .m 7 (.t 14)]) sGet_3)
def sGet_1 : AC := (.seq sGet_2 sGet_6)
def sGet_ac : AC := (.seq (.ops [.o 2 (.new 27 4 (.t 0)), .o 3 (.new 22 1 (.t 1)), .o 4 (.new 2 1 (.i 0)), .o 5 (.new 4 1 (.b false)), .m 6 (.i 0)]) sGet_1)
theorem sGet_call {args : List AV} {H : List AObj} {R : AV → List AObj → Prop} (h : AWp Try.prog [] H.length sGet_ac (bodyQ H.length [(.cell 4 1 false), (.cell 5 1 false), (.t 6)] R) (args ++ List.replicate (40 - args.length) .und) H) : ACalls Try.prog 22 args H R :=
  ACalls.of_fn Try.func22 rfl (by kernel_rfl) rfl Try.ntmps22 h
set_option maxHeartbeats 4000000 in
theorem sGet_spec {sh f l v cv : AV} {S Vs c : List Int} {F : List (Int × Int × Int)} {xs : List LvA} (hS : ISl sh S) (hF : Sp f F) (hl : Ls l xs) (hV : ISl v Vs) (hcv : ISl cv c) (hn : xs.length ≤ 1000) (hfn : F.length ≤ 1000) :
    ACalls Try.prog 22 [.agg [sh, f, l, v], cv] [] fun r H' => H' = [] ∧ r = .tup [I (getF S F xs Vs c).1.1, Bo (getF S F xs Vs c).1.2, I (getF S F xs Vs c).2] := by
  have hS' := hS
  have hF' := hF
  have hl' := hl
  have hV' := hV
  have hcv' := hcv
  obtain ⟨⟨nl, cl, sz, rfl, hs⟩, hlen, hx⟩ := hl
  obtain ⟨⟨nl1, c01, sz1, rfl, hs1⟩, hlen1, hx1⟩ := hS
  obtain ⟨⟨nl2, c02, sz2, rfl, hs2⟩, hlen2, hx2⟩ := hF
  obtain ⟨⟨nl3, c3, sz3, rfl, hs3⟩, hlen3, hx3⟩ := hV
  obtain ⟨⟨nl5, c5, sz5, rfl, hs5⟩, hlen5, hx5⟩ := hcv
  have base : ACalls Try.prog 22 [.agg [.imm nl1 c01 sz1 (S.map I), .imm nl2 c02 sz2 (F.map specV), .imm nl cl sz (xs.map lvV), .imm nl3 c3 sz3 (Vs.map I)], .imm nl5 c5 sz5 (c.map I)] [] fun r _ => r = .tup [I (getF S F xs Vs c).1.1, Bo (getF S F xs Vs c).1.2, I (getF S F xs Vs c).2] := by
    apply sGet_call
    repeat first | refine AWp.seq ?_ | refine AWp.block ?_
    refine AWp.ops ?_
    simp
    repeat first | refine AWp.seq ?_ | refine AWp.block ?_
    refine AWp.ops ?_
    simp
    refine ((sCheck_spec hS' hF' hl' hV' hn hfn).pure (by simp) (by rintro r rfl; simp) _).mono ?_
    rintro r H' ⟨rfl, rfl⟩
    simp
    repeat first | refine AWp.seq ?_ | refine AWp.block ?_
    refine AWp.ops ?_
    simp
    by_cases h : tnCheck S F xs Vs = 0
    case neg =>
      refine AWp.cond (b := true) (by simp [h]) (fun _ => ?_) (fun h => by cases h)
      repeat first | refine AWp.seq ?_ | refine AWp.block ?_
      refine AWp.ops ?_
      simp
      refine AWp.ret ?_
      simp
      refine retOk.of rfl ?_
      rw [getF, if_pos h]
      simp
    refine AWp.cond (b := false) (by simp [h]) (fun h => by cases h) (fun _ => ?_)
    refine AWp.skip ?_
    simp only [qSeq]
    repeat first | refine AWp.seq ?_ | refine AWp.block ?_
    refine AWp.ops ?_
    simp
    refine ((At_spec hS' hcv').pure (by simp) (by rintro r rfl; simp) _).mono ?_
    rintro r H' ⟨rfl, rfl⟩
    simp
    repeat first | refine AWp.seq ?_ | refine AWp.block ?_
    refine AWp.ops ?_
    simp
    by_cases ha : (atF S c).2 = 0
    case neg =>
      refine AWp.cond (b := true) (by simp [ha]) (fun _ => ?_) (fun h => by cases h)
      repeat first | refine AWp.seq ?_ | refine AWp.block ?_
      refine AWp.ops ?_
      simp
      refine AWp.ret ?_
      simp
      refine retOk.of rfl ?_
      rw [getF, if_neg (by omega), if_pos ha]
      simp
    refine AWp.cond (b := false) (by simp [ha]) (fun h => by cases h) (fun _ => ?_)
    refine AWp.skip ?_
    simp only [qSeq]
    have hin := atF_ins ha
    obtain ⟨hS0, M, hM, hmet, hway⟩ := tn_way hx1 h
    have h0 := (tnCheck_ok h).1
    have hS4 := cells_len (sizesF_ok h0 (fun s hs => (hx2 s hs).2.2.2)).1
    have hfl : F.length = xs.length := (tnCheck_ok h).2.1.symm
    repeat first | refine AWp.seq ?_ | refine AWp.block ?_
    refine AWp.ops ?_
    simp
    refine ((read_spec hS' hF' hS4).pure (by simp) (by rintro r ⟨M, ok, rfl, _⟩; simp [mcells_noRef]) _).mono ?_
    rintro r H' ⟨rfl, M', ok, rfl, hM4, hok1, hok2⟩
    obtain rfl : ok = true := by
      cases ok with
      | true => rfl
      | false => rw [hok2 rfl] at hM; cases hM
    obtain rfl : M' = M := by
      rw [hok1 rfl] at hM
      exact Option.some.inj hM
    have hM8 : (mcells M').length = 8 := by rw [mcells_len, hM4]
    have hone : (∀ x, x ∈ mcells M' → oneC x = true) = True := eq_true (mcells_one M')
    have hset := setAll_same (mcells M')
    have hset8 : ∀ a b c d e f g h : AV, setAll [a, b, c, d, e, f, g, h] 0 (mcells M') = mcells M' := by
      intro a b c d e f g h
      obtain ⟨m0, m1, m2, m3, rfl⟩ : ∃ m0 m1 m2 m3, M' = [m0, m1, m2, m3] := by
        match M', hM4 with
        | [m0, m1, m2, m3], _ => exact ⟨m0, m1, m2, m3, rfl⟩
      rfl
    simp [hM8, hone, hset8]
    repeat first | refine AWp.seq ?_ | refine AWp.block ?_
    refine AWp.ops ?_
    simp [hM8, hone, hset8]
    repeat first | refine AWp.seq ?_ | refine AWp.block ?_
    refine AWp.ops ?_
    simp
    repeat first | refine AWp.seq ?_ | refine AWp.block ?_
    refine AWp.ops ?_
    simp
    have hd := gdown_spec (N := 6) hS' hF' hl' hV' hfl hcv' hin hS0 hM4 hS4 xs.length 0 (by omega)
      [tnO (.agg [.imm nl1 c01 sz1 (S.map I), .imm nl2 c02 sz2 (F.map specV), .imm nl cl sz (xs.map lvV), .imm nl3 c3 sz3 (Vs.map I)]), ⟨22, 1, [.imm nl5 c5 sz5 (c.map I)], true, none⟩, ⟨2, 1, [I 0], true, none⟩, ⟨4, 1, [Bo false], true, none⟩,
        ⟨71, 8, [.agg (mcells M')], true, none⟩, ⟨84, 1, [.fn (.func 51) [] getCaps], true, none⟩] 0 false 0 _ _ _ _ ⟨rfl, rfl, rfl, rfl, rfl, rfl, rfl, rfl⟩ hway
    have hgo : getF S F xs Vs c = (getGo M' Vs c xs F 0 (0, false), 0) := by rw [getF, if_neg (by omega), if_neg (by omega), hM]; rfl
    rw [hgo]
    simp only [List.drop_zero] at hd
    generalize getGo M' Vs c xs F 0 (0, false) = res at hd
    obtain ⟨rv, rb⟩ := res
    simp at hd
    refine hd.mono ?_
    rintro r K' ⟨rfl, hG⟩
    obtain ⟨hKl, -, o0, o1, o2, o3, o4, o5⟩ := id hG
    simp
    refine AWp.seq (AWp.par ?_)
    intro l hl
    simp at hl
    have hs2 : ∀ o, (K'.set 2 o)[3]? = some ⟨4, 1, [Bo rb], true, none⟩ := fun o => by rw [List.getElem?_set_ne (by omega)]; exact o3
    rcases hl with rfl | rfl <;>
    · simp [o2, o3, hs2]
      have hp := hG.put (w := rv) (d := rb)
      have p2 := hp.o2
      have p3 := hp.o3
      refine AWp.ret ?_
      simp [qSeq, qBlock, bodyQ]
      refine retOk.of (vs := [I rv, Bo rb, I 0]) (by simp [p2, p3]) ?_
      simp
  refine (base.frozen 2).mono ?_
  rintro q' H' ⟨rfl, r, G, rfl, rfl⟩
  exact ⟨rfl, by simp⟩
end Go.Fw
namespace Go.Fw
open Go Go.RowKit Go.Proofs
set_option maxRecDepth 100000
set_option linter.unusedSimpArgs false
set_option linter.unusedVariables false
def IndexFunc64_10 : AC := (.seq (.ops [.m 11 (.t 1), .m 12 (.t 0), .m 13 (.t 5), .o 14 (.iad 1 (.t 12) (.t 13)), .o 15 (.ld 1 false (.t 14)), .c 16 false (.t 11) [(.t 15)]]) (.cond (.t 16) (.seq (.ops [.m 17 (.t 5), .m 4 (.t 17)]) .ret) .skip))
def IndexFunc64_9 : AC := (.seq (.ops [.m 10 (.t 8), .m 5 (.t 10)]) IndexFunc64_10)
def IndexFunc64_8 : AC := (.block 1 IndexFunc64_9)
def IndexFunc64_7 : AC := (.seq IndexFunc64_8 (.ops [.o 18 (.bin .add (.t 8) (.i 1)), .m 8 (.t 18)]))
def IndexFunc64_6 : AC := (.seq (.cond (.t 9) .skip (.exit 0)) IndexFunc64_7)
def IndexFunc64_5 : AC := (.seq (.ops [.o 9 (.bin .lss (.t 8) (.t 7))]) IndexFunc64_6)
def IndexFunc64_4 : AC := (.loop IndexFunc64_5)
def IndexFunc64_3 : AC := (.block 0 IndexFunc64_4)
def IndexFunc64_2 : AC := (.seq (.ops [.m 6 (.t 0), .o 7 (.len (.t 6)), .m 8 (.i 0)]) IndexFunc64_3)
def IndexFunc64_1 : AC := (.seq IndexFunc64_2 (.seq (.ops [.m 4 (.i (-1))]) .ret))
def IndexFunc64_ac : AC := (.seq (.ops [.m 4 (.i 0)]) IndexFunc64_1)
theorem IndexFunc64_call {args : List AV} {H : List AObj} {R : AV → List AObj → Prop} (h : AWp Try.prog [] H.length IndexFunc64_ac (bodyQ H.length [(.t 4)] R) (args ++ List.replicate (19 - args.length) .und) H) : ACalls Try.prog 78 args H R :=
  ACalls.of_fn Try.func78 rfl (by kernel_rfl) rfl Try.ntmps78 h
theorem IndexFunc64_gen {a : AV} {xs : List Int} {g : FuncId} {caps : List AV} {H0 : List AObj} {p : Int → Bool} (ha : ISl a xs) (hg : ∀ x ∈ xs, ACalls Try.prog g (I x :: caps) H0 fun r H' => H' = H0 ∧ r = Bo (p x)) :
    ACalls Try.prog 78 [a, .fn (.func g) [] caps] H0 fun r H' => H' = H0 ∧ ∃ n : Int, r = I n ∧ (0 ≤ n ↔ ∃ x ∈ xs, p x = true) := by
  obtain ⟨⟨nl, c, sz, rfl, hs⟩, hlen, hx⟩ := ha
  apply IndexFunc64_call
  refine AWp.seq (AWp.ops ?_)
  simp
  refine AWp.seq (AWp.seq (AWp.ops ?_))
  simp
  refine AWp.block (AWp.loop (fun (i : Nat) fr H => i ≤ xs.length ∧ (∀ x ∈ xs.take i, p x = false) ∧ H = H0 ∧ fr = [AV.imm nl c sz (xs.map I), .fn (.func g) [] caps, .und, .und, I 0, .und, .imm nl c sz (xs.map I), I xs.length, I i, .und, .und, .und, .und, .und, .und, .und, .und, .und, .und]) (fun i => xs.length - i) 0 (Weak.refl _ _ _) (by simp) ?_)
  rintro i fr H ⟨hi, hno, rfl, rfl⟩
  refine AWp.seq (AWp.ops ?_)
  simp
  refine AWp.seq (AWp.cond (b := decide (i < xs.length)) (by simp) ?_ ?_)
  · intro hb
    have hb : i < xs.length := by simpa using hb
    have hsz : sz = 1 := sz_of hs hb
    subst hsz
    refine AWp.skip ?_
    simp only [qSeq]
    refine AWp.seq (AWp.block (AWp.seq (AWp.ops ?_)))
    simp
    refine AWp.seq (AWp.ops ?_)
    simp [hb]
    refine (hg xs[i] (List.getElem_mem hb)).mono ?_
    rintro r H' ⟨rfl, rfl⟩
    simp
    refine AWp.cond (b := p xs[i]) (by simp) ?_ ?_
    · intro he
      refine AWp.seq (AWp.ops ?_)
      simp
      refine AWp.ret ?_
      simp
      refine retOk.of rfl ⟨rfl, i, by simp, ?_⟩
      simp
      exact ⟨xs[i], List.getElem_mem hb, he⟩
    · intro he
      refine AWp.skip ?_
      simp only [qSeq, qBlock]
      refine AWp.ops ?_
      simp
      refine ⟨i + 1, _, _, Weak.slots [0, 1, 4, 6, 7, 8], ⟨by omega, ?_, rfl, ?_⟩, by omega⟩
      · intro x hx
        rw [List.take_succ_eq_append_getElem hb] at hx
        rcases List.mem_append.1 hx with h | h
        · exact hno x h
        · simp at h; rw [h]; exact he
      · simp [wrap_i64 (n := (i : Int) + 1) (by omega) (by omega)]
  · intro hb
    have hb : ¬ i < xs.length := by simpa using hb
    refine AWp.exit ?_
    simp [qSeq, qBlock]
    refine AWp.seq (AWp.ops ?_)
    simp
    refine AWp.ret ?_
    simp
    refine retOk.of rfl ⟨rfl, -1, by simp, ?_⟩
    have : xs.take i = xs := List.take_of_length_le (by omega)
    rw [this] at hno
    simp
    exact hno
theorem IndexFunc64_spec {a : AV} {xs : List Int} {g : FuncId} {p : Int → Bool} (ha : ISl a xs) (hg : ∀ x ∈ xs, ACalls Try.prog g [I x] [] fun r H' => H' = [] ∧ r = Bo (p x)) :
    ACalls Try.prog 78 [a, .fn (.func g) [] []] [] fun r H' => H' = [] ∧ ∃ n : Int, r = I n ∧ (0 ≤ n ↔ ∃ x ∈ xs, p x = true) := IndexFunc64_gen ha hg
def ContainsFunc64_1 : AC := (.seq (.ops [.m 5 (.t 0), .m 6 (.t 1), .c 7 false (.f 78) [(.t 5), (.t 6)], .o 8 (.bin .geq (.t 7) (.i 0)), .m 4 (.t 8)]) .ret)
def ContainsFunc64_ac : AC := (.seq (.ops [.m 4 (.b false)]) ContainsFunc64_1)
theorem ContainsFunc64_call {args : List AV} {H : List AObj} {R : AV → List AObj → Prop} (h : AWp Try.prog [] H.length ContainsFunc64_ac (bodyQ H.length [(.t 4)] R) (args ++ List.replicate (9 - args.length) .und) H) : ACalls Try.prog 55 args H R :=
  ACalls.of_fn Try.func55 rfl (by kernel_rfl) rfl Try.ntmps55 h
theorem ContainsFunc64_gen {a : AV} {xs : List Int} {g : FuncId} {caps : List AV} {H0 : List AObj} {p : Int → Bool} (ha : ISl a xs) (hg : ∀ x ∈ xs, ACalls Try.prog g (I x :: caps) H0 fun r H' => H' = H0 ∧ r = Bo (p x)) :
    ACalls Try.prog 55 [a, .fn (.func g) [] caps] H0 fun r H' => H' = H0 ∧ r = Bo (xs.any p) := by
  apply ContainsFunc64_call
  refine AWp.seq (AWp.ops ?_)
  simp
  refine AWp.seq (AWp.ops ?_)
  simp
  refine (IndexFunc64_gen ha hg).mono ?_
  rintro r H' ⟨rfl, n, rfl, hn⟩
  simp
  refine AWp.ret ?_
  simp
  refine retOk.of rfl ⟨rfl, ?_⟩
  have e : decide (0 ≤ n) = xs.any p := by rw [Bool.eq_iff_iff]; simp [hn]
  simp [e]
theorem ContainsFunc64_spec {a : AV} {xs : List Int} {g : FuncId} {p : Int → Bool} (ha : ISl a xs) (hg : ∀ x ∈ xs, ACalls Try.prog g [I x] [] fun r H' => H' = [] ∧ r = Bo (p x)) :
    ACalls Try.prog 55 [a, .fn (.func g) [] []] [] fun r H' => H' = [] ∧ r = Bo (xs.any p) := ContainsFunc64_gen ha hg
end Go.Fw
