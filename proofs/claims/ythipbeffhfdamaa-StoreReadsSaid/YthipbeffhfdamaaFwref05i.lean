import Derived.Test.YthipbeffhfdamaaFwref04b
import Derived.Test.YthipbeffhfdamaaFwref05g
namespace Go.Fw
open Go Go.RowKit Go.Proofs
set_option maxRecDepth 100000
set_option linter.unusedSimpArgs false
set_option linter.unusedVariables false
def rcounts_18 : AC := (.seq (.ops [.m 32 (.t 5), .m 2 (.t 32), .m 3 (.i 0)]) .ret)
def rcounts_17 : AC := (.seq (.ops [.m 26 (.t 5), .m 27 (.t 8), .o 28 (.lit 1 [(.t 27)]), .o 29 (.app 3 1 8 (.t 26) (.t 28)), .m 5 (.t 29)]) (.ops [.m 30 (.t 8), .m 4 (.t 30)]))
def rcounts_16 : AC := (.seq (.ops [.m 25 (.t 9), .m 2 .z, .m 3 (.t 25)]) .ret)
def rcounts_15 : AC := (.cond (.t 24) rcounts_16 .skip)
def rcounts_14 : AC := (.seq (.ops [.m 23 (.t 9), .o 24 (.bin .neq (.t 23) (.i 0))]) rcounts_15)
def rcounts_13 : AC := (.seq rcounts_14 rcounts_17)
def rcounts_12 : AC := (.seq (.ops [.o 18 (.ld 4 true (.t 7)), .m 19 (.t 4), .c 20 false (.f 80) [(.t 18), (.t 19)], .m 17 (.t 20), .o 21 (.ext (.t 17) 0), .o 22 (.ext (.t 17) 1), .m 8 (.t 21), .m 9 (.t 22)]) rcounts_13)
def rcounts_11 : AC := (.seq (.ops [.o 15 (.iad 4 (.t 11) (.t 13)), .o 16 (.ld 4 true (.t 15)), .o 7 (.new 34 4 (.c (.agg [(.sc (.int .i64 0)), (.sc (.int .i64 0)), nil0, nil0]))), .on (.st 4 (.t 7) (.t 16))]) rcounts_12)
def rcounts_10 : AC := (.block 1 rcounts_11)
def rcounts_9 : AC := (.seq rcounts_10 (.ops [.o 31 (.bin .add (.t 13) (.i 1)), .m 13 (.t 31)]))
def rcounts_8 : AC := (.seq (.cond (.t 14) .skip (.exit 0)) rcounts_9)
def rcounts_7 : AC := (.seq (.ops [.o 14 (.bin .lss (.t 13) (.t 12))]) rcounts_8)
def rcounts_6 : AC := (.loop rcounts_7)
def rcounts_5 : AC := (.block 0 rcounts_6)
def rcounts_4 : AC := (.seq (.ops [.o 10 (.fad 2 (.t 1)), .o 11 (.ld 1 false (.t 10)), .o 12 (.len (.t 11)), .m 13 (.i 0)]) rcounts_5)
def rcounts_3 : AC := (.seq rcounts_4 rcounts_18)
def rcounts_2 : AC := (.seq (.ops [.m 5 .z]) rcounts_3)
def rcounts_1 : AC := (.seq (.ops [.m 4 (.i 1)]) rcounts_2)
def rcounts_ac : AC := (.seq (.ops [.o 1 (.new 27 4 (.t 0)), .m 2 .z, .m 3 (.i 0)]) rcounts_1)
theorem rcounts_call {args : List AV} {H : List AObj} {R : AV → List AObj → Prop} (h : AWp Try.prog [] H.length rcounts_ac (bodyQ H.length [(.t 2), (.t 3)] R) (args ++ List.replicate (33 - args.length) .und) H) : ACalls Try.prog 58 args H R :=
  ACalls.of_fn Try.func58 rfl (by kernel_rfl) rfl Try.ntmps58 h
set_option maxHeartbeats 4000000 in
theorem rcounts_spec {sh f l v : AV} {S V : List Int} {F : List (Int × Int × Int)} {xs : List LvA} (hS : ISl sh S) (hF : Sp f F) (hl : Ls l xs) (hV : ISl v V) (hn : xs.length ≤ 1000) (hsm : ∀ x ∈ xs, x.lv.pos.length ≤ 4611686018427387903 ∧ x.lv.crd.length ≤ 4611686018427387903) : ACalls Try.prog 58 [.agg [sh, f, l, v]] [] fun r H' => H' = [] ∧ ∃ o, r = .tup [o, I (cntF xs).2] ∧ ISl o (cntF xs).1 := by
  have hl' := hl
  obtain ⟨⟨nl, c, sz, rfl, hs⟩, hlen, hx⟩ := hl
  obtain ⟨⟨nl1, c1, sz1, rfl, hs1⟩, hlen1, hx1⟩ := hS
  obtain ⟨⟨nl2, c2, sz2, rfl, hs2⟩, hlen2, hx2⟩ := hF
  obtain ⟨⟨nl3, c3, sz3, rfl, hs3⟩, hlen3, hx3⟩ := hV
  have base : ACalls Try.prog 58 [.agg [.imm nl1 c1 sz1 (S.map I), .imm nl2 c2 sz2 (F.map specV), .imm nl c sz (xs.map lvV), .imm nl3 c3 sz3 (V.map I)]] [] fun r G => (r = .tup [.imm true none 0 [], I (cntF xs).2] ∧ (cntF xs).1 = []) ∨ ((cntF xs).2 = 0 ∧ InI (cntF xs).1 ∧ ∃ vr, (vr = some true → (cntF xs).1 = []) ∧ vr ≠ some false ∧ r = .tup [.slc 1 (cntF xs).1.length 0 (cntF xs).1.length none, I 0] ∧ G[1]? = some ⟨3, 1, (cntF xs).1.map I, true, vr⟩) := by
    apply rcounts_call
    repeat first | refine AWp.seq ?_ | refine AWp.block ?_
    refine AWp.ops ?_
    simp
    repeat first | refine AWp.seq ?_ | refine AWp.block ?_
    refine AWp.ops ?_
    simp
    repeat first | refine AWp.seq ?_ | refine AWp.block ?_
    refine AWp.ops ?_
    simp
    refine AWp.weak (Weak.own 5 3 1 (by omega) none 0 (by simp)) ?_
    simp
    repeat first | refine AWp.seq ?_ | refine AWp.block ?_
    refine AWp.ops ?_
    simp
    obtain ⟨J, hJ⟩ : ∃ J : Nat → List AV → List AObj → Prop, J = fun i fr H => i ≤ xs.length ∧ ∃ (ws : List Int) (vr : Option Bool) (n : Nat), (((ws.length = i ∧ ∀ w ∈ ws, 0 ≤ w ∧ w < 4611686018427387904) ∧ (vr = some true → ws = []) ∧ vr ≠ some false) ∧ n ≤ 1048576 ∧ cntGo xs 1 = (cntGo (xs.drop i) n).map (ws ++ ·)) ∧ H = [tnO (.agg [.imm nl1 c1 sz1 (S.map I), .imm nl2 c2 sz2 (F.map specV), .imm nl c sz (xs.map lvV), .imm nl3 c3 sz3 (V.map I)]), ⟨3, 1, ws.map I, true, vr⟩] ∧
      fr = [.und, .ptr 0 1 0 0, .und, .und, I n, .slc 1 ws.length 0 ws.length none, .und, .und, .und, .und, .und, .imm nl c sz (xs.map lvV), I xs.length, I i, .und, .und, .und, .und, .und, .und, .und, .und, .und, .und, .und, .und, .und, .und, .und, .und, .und, .und, .und] := ⟨_, rfl⟩
    refine AWp.block (AWp.loop J (fun i => xs.length - i) 0 (Weak.slots [1, 5, 4, 11, 12, 13]) (by rw [hJ]; exact ⟨by omega, [], some true, 1, ⟨⟨⟨rfl, by simp⟩, by simp, by simp⟩, by omega, exMap_nil _⟩, by simp, by simp⟩) ?_)
    intro i fr H hI
    rw [hJ] at hI
    obtain ⟨hi, ws, vr, n, hinv, rfl, rfl⟩ := hI
    repeat first | refine AWp.seq ?_ | refine AWp.block ?_
    refine AWp.ops ?_
    simp
    refine AWp.seq (AWp.cond (b := decide (i < xs.length)) (by simp <;> omega) ?_ ?_)
    ·
      intro hb
      have hb : i < xs.length := by simpa using hb
      refine AWp.skip ?_
      simp only [qSeq]
      obtain ⟨⟨⟨hwl, hwv⟩, hv1, hv2⟩, hn', hgo⟩ := hinv
      have hsz4 := sz4_of hs hb
      subst hsz4
      have hgs := lv_get hb
      have hok := hx xs[i] (List.getElem_mem hb)
      rw [List.drop_eq_getElem_cons hb] at hgo
      simp only [cntGo] at hgo
      have hsmx := hsm xs[i] (List.getElem_mem hb)
      generalize xs[i] = x at hgs hok hgo hsmx
      obtain ⟨lv, p, q⟩ := x
      simp only at hgs hok hgo hsmx
      have hok' := hok
      obtain ⟨⟨⟨nlp, cp, szp, rfl, _⟩, _⟩, ⟨⟨nlq, cq, szq, rfl, _⟩, _⟩, _⟩ := hok'
      repeat first | refine AWp.seq ?_ | refine AWp.block ?_
      refine AWp.ops ?_
      simp [hgs]
      repeat first | refine AWp.seq ?_ | refine AWp.block ?_
      refine AWp.ops ?_
      simp
      refine ((r4Below_spec hok hsmx hn').pure (by simp) (by rintro r rfl; simp) _).mono ?_
      rintro r H' ⟨rfl, rfl⟩
      simp
      repeat first | refine AWp.seq ?_ | refine AWp.block ?_
      refine AWp.ops ?_
      simp
      by_cases h : lvCheck lv n = 0
      · obtain ⟨b1, b2, b3, b4, b5, b6, b7⟩ := lvBelow_ok h
        rw [if_pos h] at hgo
        refine AWp.cond (b := false) (by simp [h]) (fun h => by cases h) (fun _ => ?_)
        have b1 : (ws.length + 1) * 8 ≤ 140737488355328 := by omega
        have b2 : ws.length + 1 ≤ 9223372036854775807 := by omega
        have hwi := wrap_i64 (n := (i : Int) + 1) (by omega) (by omega)
        refine AWp.skip ?_
        simp only [qSeq]
        repeat first | refine AWp.seq ?_ | refine AWp.block ?_
        refine AWp.ops ?_
        simp [b1, b2, elems, h]
        repeat first | refine AWp.seq ?_ | refine AWp.block ?_
        refine AWp.ops ?_
        simp
        repeat first | refine AWp.seq ?_ | refine AWp.block ?_
        refine AWp.ops ?_
        simp [hwi]
        obtain ⟨m, hm⟩ : ∃ m : Nat, lvBelow lv n = m := ⟨(lvBelow lv n).toNat, by omega⟩
        rw [hm, Int.toNat_natCast] at hgo
        refine ⟨i + 1, _, _, (Weak.slots [1, 4, 5, 11, 12, 13]).trans (Weak.freeze 2 2 (by simp)), ?_, by omega⟩
        rw [hJ]
        refine ⟨by omega, ws ++ [(m : Int)], none, m, ⟨⟨⟨by simp [hwl], fun w hw => ?_⟩, by simp, by simp⟩, by omega, ?_⟩, ?_, ?_⟩
        · rcases List.mem_append.1 hw with h | h
          · exact hwv w h
          · have : w = m := by simpa using h
            omega
        · rw [hgo]
          generalize cntGo (xs.drop (i + 1)) m = o
          cases o <;> simp [Except.map]
        · simp [frzH, hm]
        · simp [h, hm]
      · rw [if_neg h] at hgo
        refine AWp.cond (b := true) (by simp [h]) (fun _ => ?_) (fun h => by cases h)
        repeat first | refine AWp.seq ?_ | refine AWp.block ?_
        refine AWp.ops ?_
        simp
        refine AWp.ret ?_
        simp
        refine retOk.of rfl ?_
        left
        simp [cntF, hgo, Except.map]
    ·
      intro hb
      have hb : ¬ i < xs.length := by simpa using hb
      refine AWp.exit ?_
      simp [qSeq, qBlock]
      obtain ⟨⟨⟨hwl, hwv⟩, hv1, hv2⟩, hn', hgo⟩ := hinv
      rw [List.drop_eq_nil_of_le (by omega)] at hgo
      simp only [cntGo, Except.map, List.append_nil] at hgo
      have hW : cntF xs = (ws, 0) := by simp [cntF, hgo]
      repeat first | refine AWp.seq ?_ | refine AWp.block ?_
      refine AWp.ops ?_
      simp
      refine AWp.ret ?_
      simp
      refine retOk.of rfl ?_
      rw [hW]
      exact .inr ⟨rfl, ⟨by show ws.length ≤ _; omega, fun x hx => by have := hwv x hx; omega⟩, vr, hv1, hv2, by simp, by simp⟩
  refine (base.frozen 2).mono ?_
  rintro q H' ⟨rfl, r, G, ⟨rfl, h1⟩ | ⟨h0, h1, v, hv1, hv2, rfl, h2⟩, rfl⟩
  · exact ⟨rfl, _, by simp; rfl, by rw [h1]; exact ⟨⟨true, none, 0, rfl, by simp, by simp⟩, by simp, by simp⟩⟩
  · refine ⟨rfl, _, by simp [h0]; rfl, ?_⟩
    match v, hv1, hv2 with
    | some true, hv1, _ =>
      have h3 := hv1 rfl
      rw [h3]
      exact ⟨⟨true, none, 1, by simp [h2, h3], by simp, by simp⟩, by simp, by simp⟩
    | none, _, _ => exact ⟨⟨false, none, 1, by simp [h2], by simp, by simp⟩, h1⟩
    | some false, _, h => exact absurd rfl h
end Go.Fw
namespace Go.Fw
open Go Go.RowKit Go.Proofs
set_option maxRecDepth 100000
set_option linter.unusedSimpArgs false
set_option linter.unusedVariables false
def rrises_40 : AC := (.seq (.ops [.m 78 (.t 7), .o 79 (.un .not (.t 78))]) (.cond (.t 79) (.seq (.ops [.m 2 (.b false)]) .ret) .skip))
def rrises_39 : AC := (.seq (.ops [.o 65 (.fad 3 (.t 9)), .o 66 (.ld 1 false (.t 65)), .m 67 (.t 6), .o 68 (.bin .sub (.t 67) (.i 1)), .o 69 (.iad 1 (.t 66) (.t 68)), .o 70 (.ld 1 false (.t 69)), .o 71 (.fad 3 (.t 9)), .o 72 (.ld 1 false (.t 71)), .m 73 (.t 6), .o 74 (.iad 1 (.t 72) (.t 73)), .o 75 (.ld 1 false (.t 74)), .o 76 (.bin .lss (.t 70) (.t 75)), .m 7 (.t 76)]) (.exit 6))
def rrises_38 : AC := (.cond (.t 64) rrises_39 .skip)
def rrises_37 : AC := (.seq (.ops [.o 53 (.fad 3 (.t 9)), .o 54 (.ld 1 false (.t 53)), .m 55 (.t 6), .o 56 (.bin .sub (.t 55) (.i 1)), .o 57 (.iad 1 (.t 54) (.t 56)), .o 58 (.ld 1 false (.t 57)), .o 59 (.fad 3 (.t 9)), .o 60 (.ld 1 false (.t 59)), .m 61 (.t 6), .o 62 (.iad 1 (.t 60) (.t 61)), .o 63 (.ld 1 false (.t 62)), .o 64 (.bin .neq (.t 58) (.t 63))]) rrises_38)
def rrises_36 : AC := (.seq (.ops [.o 51 (.iad 4 (.t 47) (.t 49)), .o 52 (.ld 4 true (.t 51)), .o 9 (.new 34 4 (.c (.agg [(.sc (.int .i64 0)), (.sc (.int .i64 0)), nil0, nil0]))), .on (.st 4 (.t 9) (.t 52))]) rrises_37)
def rrises_35 : AC := (.block 7 rrises_36)
def rrises_34 : AC := (.seq rrises_35 (.ops [.o 77 (.bin .add (.t 49) (.i 1)), .m 49 (.t 77)]))
def rrises_33 : AC := (.seq (.cond (.t 50) .skip (.exit 6)) rrises_34)
def rrises_32 : AC := (.seq (.ops [.o 50 (.bin .lss (.t 49) (.t 48))]) rrises_33)
def rrises_31 : AC := (.loop rrises_32)
def rrises_30 : AC := (.block 6 rrises_31)
def rrises_29 : AC := (.seq (.ops [.o 44 (.fad 2 (.t 1)), .o 45 (.ld 1 false (.t 44)), .m 46 (.t 3), .o 47 (.sl 4 (.t 45) (some (.t 46)) none none), .o 48 (.len (.t 47)), .m 49 (.i 0)]) rrises_30)
def rrises_28 : AC := (.seq rrises_29 rrises_40)
def rrises_27 : AC := (.seq (.ops [.m 7 (.b false)]) rrises_28)
def rrises_26 : AC := (.block 5 rrises_27)
def rrises_25 : AC := (.seq rrises_26 (.ops [.m 42 (.t 6), .o 43 (.bin .add (.t 42) (.i 1)), .m 6 (.t 43)]))
def rrises_24 : AC := (.seq (.ops [.m 34 (.t 6), .o 35 (.fad 2 (.t 4)), .o 36 (.ld 1 false (.t 35)), .m 37 (.t 5), .o 38 (.bin .add (.t 37) (.i 1)), .o 39 (.iad 1 (.t 36) (.t 38)), .o 40 (.ld 1 false (.t 39)), .o 41 (.bin .lss (.t 34) (.t 40))]) (.cond (.t 41) .skip (.exit 4)))
def rrises_23 : AC := (.seq rrises_24 rrises_25)
def rrises_22 : AC := (.loop rrises_23)
def rrises_21 : AC := (.block 4 rrises_22)
def rrises_20 : AC := (.seq (.ops [.o 28 (.fad 2 (.t 4)), .o 29 (.ld 1 false (.t 28)), .m 30 (.t 5), .o 31 (.iad 1 (.t 29) (.t 30)), .o 32 (.ld 1 false (.t 31)), .o 33 (.bin .add (.t 32) (.i 1)), .m 6 (.t 33)]) rrises_21)
def rrises_19 : AC := (.seq (.ops [.m 27 (.t 25), .m 5 (.t 27)]) rrises_20)
def rrises_18 : AC := (.block 3 rrises_19)
def rrises_17 : AC := (.seq rrises_18 (.ops [.o 80 (.bin .add (.t 25) (.i 1)), .m 25 (.t 80)]))
def rrises_16 : AC := (.seq (.cond (.t 26) .skip (.exit 2)) rrises_17)
def rrises_15 : AC := (.seq (.ops [.o 26 (.bin .lss (.t 25) (.t 24))]) rrises_16)
def rrises_14 : AC := (.loop rrises_15)
def rrises_13 : AC := (.block 2 rrises_14)
def rrises_12 : AC := (.seq (.ops [.o 21 (.fad 2 (.t 4)), .o 22 (.ld 1 false (.t 21)), .o 23 (.len (.t 22)), .o 24 (.bin .sub (.t 23) (.i 1)), .m 25 (.i 0)]) rrises_13)
def rrises_11 : AC := (.seq (.ops [.o 18 (.fad 0 (.t 4)), .o 19 (.ld 1 false (.t 18)), .o 20 (.bin .neq (.t 19) (.i 2))]) (.cond (.t 20) (.exit 1) .skip))
def rrises_10 : AC := (.seq rrises_11 rrises_12)
def rrises_9 : AC := (.seq (.ops [.m 15 (.t 13), .o 16 (.iad 4 (.t 11) (.t 13)), .o 17 (.ld 4 true (.t 16)), .o 4 (.new 34 4 (.c (.agg [(.sc (.int .i64 0)), (.sc (.int .i64 0)), nil0, nil0]))), .m 3 (.t 15), .on (.st 4 (.t 4) (.t 17))]) rrises_10)
def rrises_8 : AC := (.block 1 rrises_9)
def rrises_7 : AC := (.seq rrises_8 (.ops [.o 81 (.bin .add (.t 13) (.i 1)), .m 13 (.t 81)]))
def rrises_6 : AC := (.seq (.cond (.t 14) .skip (.exit 0)) rrises_7)
def rrises_5 : AC := (.seq (.ops [.o 14 (.bin .lss (.t 13) (.t 12))]) rrises_6)
def rrises_4 : AC := (.loop rrises_5)
def rrises_3 : AC := (.block 0 rrises_4)
def rrises_2 : AC := (.seq (.ops [.o 10 (.fad 2 (.t 1)), .o 11 (.ld 1 false (.t 10)), .o 12 (.len (.t 11)), .m 13 (.i 0)]) rrises_3)
def rrises_1 : AC := (.seq rrises_2 (.seq (.ops [.m 2 (.b true)]) .ret))
def rrises_ac : AC := (.seq (.ops [.o 1 (.new 27 4 (.t 0)), .m 2 (.b false)]) rrises_1)
theorem rrises_call {args : List AV} {H : List AObj} {R : AV → List AObj → Prop} (h : AWp Try.prog [] H.length rrises_ac (bodyQ H.length [(.t 2)] R) (args ++ List.replicate (82 - args.length) .und) H) : ACalls Try.prog 59 args H R :=
  ACalls.of_fn Try.func59 rfl (by kernel_rfl) rfl Try.ntmps59 h
set_option maxHeartbeats 4000000 in
theorem rrises_spec {sh f l v : AV} {S V : List Int} {F : List (Int × Int × Int)} {xs : List LvA} (hS : ISl sh S) (hF : Sp f F) (hl : Ls l xs) (hV : ISl v V) (hok : RiseOk xs) :
    ACalls Try.prog 59 [.agg [sh, f, l, v]] [] fun r H' => H' = [] ∧ r = Bo (riseF xs) := by
  obtain ⟨⟨nl, c, sz, rfl, hs⟩, hlen, hx⟩ := hl
  obtain ⟨⟨nl1, c01, sz1, rfl, hs1⟩, hlen1, hx1⟩ := hS
  obtain ⟨⟨nl2, c02, sz2, rfl, hs2⟩, hlen2, hx2⟩ := hF
  obtain ⟨⟨nl3, c3, sz3, rfl, hs3⟩, hlen3, hx3⟩ := hV
  have base : ACalls Try.prog 59 [.agg [.imm nl1 c01 sz1 (S.map I), .imm nl2 c02 sz2 (F.map specV), .imm nl c sz (xs.map lvV), .imm nl3 c3 sz3 (V.map I)]] [] fun r H' => r = Bo (riseF xs) := by
    apply rrises_call
    repeat first | refine AWp.seq ?_ | refine AWp.block ?_
    refine AWp.ops ?_
    simp
    repeat first | refine AWp.seq ?_ | refine AWp.block ?_
    refine AWp.ops ?_
    simp
    obtain ⟨J, hJ⟩ : ∃ J : Nat → List AV → List AObj → Prop, J = fun i fr H => i ≤ xs.length ∧ (riseF xs = riseF (xs.drop i)) ∧ H = [tnO (.agg [.imm nl1 c01 sz1 (S.map I), .imm nl2 c02 sz2 (F.map specV), .imm nl c sz (xs.map lvV), .imm nl3 c3 sz3 (V.map I)])] ∧
      fr = [.und, .ptr 0 1 0 0, .und, .und, .und, .und, .und, .und, .und, .und, .und, .imm nl c sz (xs.map lvV), I xs.length, I i, .und, .und, .und, .und, .und, .und, .und, .und, .und, .und, .und, .und, .und, .und, .und, .und, .und, .und, .und, .und, .und, .und, .und, .und, .und, .und, .und, .und, .und, .und, .und, .und, .und, .und, .und, .und, .und, .und, .und, .und, .und, .und, .und, .und, .und, .und, .und, .und, .und, .und, .und, .und, .und, .und, .und, .und, .und, .und, .und, .und, .und, .und, .und, .und, .und, .und, .und, .und] := ⟨_, rfl⟩
    refine AWp.block (AWp.loop J (fun i => xs.length - i) 0 (Weak.slots [1, 11, 12, 13]) (by rw [hJ]; exact ⟨by omega, rfl, by simp, by simp⟩) ?_)
    intro i fr H hI
    rw [hJ] at hI
    obtain ⟨hi, hinv, rfl, rfl⟩ := hI
    repeat first | refine AWp.seq ?_ | refine AWp.block ?_
    refine AWp.ops ?_
    simp
    refine AWp.seq (AWp.cond (b := decide (i < xs.length)) (by simp <;> omega) ?_ ?_)
    ·
      intro hb
      have hb : i < xs.length := by simpa using hb
      refine AWp.skip ?_
      simp only [qSeq]
      have hsz4 := sz4_of hs hb
      subst hsz4
      have hgs := lv_get hb
      have hlok := hx xs[i] (List.getElem_mem hb)
      have hri := hok i hb
      have hinv0 := hinv
      rw [List.drop_eq_getElem_cons hb] at hinv
      simp only [riseF] at hinv
      have hyx : xs.drop i = xs[i] :: xs.drop (i + 1) := List.drop_eq_getElem_cons hb
      generalize xs[i] = x at hgs hlok hri hinv hyx
      obtain ⟨⟨k, z, ps, cs⟩, p, q⟩ := x
      simp only at hgs hlok hri hinv
      obtain ⟨⟨⟨nlp, cp, szp, rfl, hsp⟩, hlp, hxp⟩, ⟨⟨nlq, cq, szq, rfl, hsq⟩, _⟩, _⟩ := hlok
      simp only at hlp hsp
      have hwi0 := wrap_i64 (n := (i : Int) + 1) (by omega) (by omega)
      repeat first | refine AWp.seq ?_ | refine AWp.block ?_
      refine AWp.ops ?_
      simp [hgs]
      by_cases k2 : k = 2
      case neg =>
        rw [if_neg k2] at hinv
        repeat first | refine AWp.seq ?_ | refine AWp.block ?_
        refine AWp.ops ?_
        simp
        refine AWp.cond (b := true) (by simp [k2]) (fun _ => ?_) (fun h => by cases h)
        refine AWp.exit ?_
        simp [qSeq, qBlock]
        repeat first | refine AWp.seq ?_ | refine AWp.block ?_
        refine AWp.ops ?_
        simp
        refine ⟨i + 1, _, _, (Weak.slots [1, 11, 12, 13]).trans (Weak.freeze 1 3 (by simp)), ?_, by omega⟩
        rw [hJ]
        refine ⟨by omega, ?_, by simp [frzH], by simp [wrap_i64 (n := (i : Int) + 1) (by omega) (by omega)]⟩
        exact hinv
      rw [if_pos k2] at hinv
      obtain ⟨hall, ⟨N, hN, hP⟩, hm, hno⟩ := hri k2
      rw [← hyx] at hinv
      obtain ⟨ys, hys⟩ : ∃ ys, ys = xs.drop i := ⟨_, rfl⟩
      rw [← hys] at hinv hall
      have hsub : ∀ y ∈ ys, y ∈ xs := fun y hy => List.mem_of_mem_drop (by rw [hys] at hy; exact hy)
      obtain ⟨hpl, -, -, -⟩ := id hP
      have hszp := sz_of hsp (i := 0) (by omega)
      subst hszp
      have w1 := wrap_i64 (n := (N : Int)) (by omega) (by omega)
      repeat first | refine AWp.seq ?_ | refine AWp.block ?_
      refine AWp.ops ?_
      simp
      refine AWp.cond (b := false) (by simp [k2]) (fun h => by cases h) (fun _ => ?_)
      refine AWp.skip ?_
      simp only [qSeq]
      repeat first | refine AWp.seq ?_ | refine AWp.block ?_
      refine AWp.ops ?_
      simp [hpl, w1]
      obtain ⟨JK, hJK⟩ : ∃ J : Nat → List AV → List AObj → Prop, J = fun iK fr H => iK ≤ N ∧ (∀ p < iK, ∀ q < cs.length, ps.getD p 0 < (q : Int) → (q : Int) < ps.getD (p + 1) 0 → lessF ys q = true) ∧ H = [tnO (.agg [.imm nl1 c01 sz1 (S.map I), .imm nl2 c02 sz2 (F.map specV), .imm nl c 4 (xs.map lvV), .imm nl3 c3 sz3 (V.map I)]), lvO (.agg [I k, I z, .imm nlp cp 1 (ps.map I), .imm nlq cq szq (cs.map I)])] ∧
        fr = [.und, .ptr 0 1 0 0, .und, I i, .ptr 1 1 0 0, .und, .und, .und, .und, .und, .und, .imm nl c 4 (xs.map lvV), I xs.length, I i, .und, .und, .und, .und, .und, .und, .und, .und, .und, .und, I N, I iK, .und, .und, .und, .und, .und, .und, .und, .und, .und, .und, .und, .und, .und, .und, .und, .und, .und, .und, .und, .und, .und, .und, .und, .und, .und, .und, .und, .und, .und, .und, .und, .und, .und, .und, .und, .und, .und, .und, .und, .und, .und, .und, .und, .und, .und, .und, .und, .und, .und, .und, .und, .und, .und, .und, .und, .und] := ⟨_, rfl⟩
      refine AWp.block (AWp.loop JK (fun iK => N - iK) 0 (Weak.slots [1, 3, 4, 11, 12, 13, 24, 25]) (by rw [hJK]; exact ⟨by omega, fun p hp => by omega, by simp, by simp⟩) ?_)
      intro iK fr H hI
      rw [hJK] at hI
      obtain ⟨hiK, hinvK, rfl, rfl⟩ := hI
      repeat first | refine AWp.seq ?_ | refine AWp.block ?_
      refine AWp.ops ?_
      simp
      refine AWp.seq (AWp.cond (b := decide (iK < N)) (by simp <;> omega) ?_ ?_)
      ·
        intro hb
        have hb : iK < N := by simpa using hb
        refine AWp.skip ?_
        simp only [qSeq]
        obtain ⟨f, t, hf', ht', hft, htc⟩ := hP.at hb
        have hbp : iK < ps.length := by omega
        have hbp1 : iK + 1 < ps.length := by omega
        have ef : ps[iK] = f := by simpa [hbp] using hf'
        have et : ps[iK + 1] = t := by simpa [hbp1] using ht'
        have hwi := wrap_i64 (n := (iK : Int) + 1) (by omega) (by omega)
        have hwf := wrap_i64 (n := (f : Int) + 1) (by omega) (by omega)
        have gi : (0 : Int) ≤ (iK : Int) + 1 := by omega
        have gi2 : ((iK : Int) + 1).toNat = iK + 1 := by omega
        repeat first | refine AWp.seq ?_ | refine AWp.block ?_
        refine AWp.ops ?_
        simp
        repeat first | refine AWp.seq ?_ | refine AWp.block ?_
        refine AWp.ops ?_
        simp [hbp, ef, hwf]
        obtain ⟨J2, hJ2⟩ : ∃ J2 : Nat → List AV → List AObj → Prop, J2 = fun j fr H => (∀ q : Nat, f < q → q < f + 1 + j → q < cs.length → lessF ys q = true) ∧
          H = [tnO (.agg [.imm nl1 c01 sz1 (S.map I), .imm nl2 c02 sz2 (F.map specV), .imm nl c 4 (xs.map lvV), .imm nl3 c3 sz3 (V.map I)]), lvO (.agg [I k, I z, .imm nlp cp 1 (ps.map I), .imm nlq cq szq (cs.map I)])] ∧
          fr = [.und, .ptr 0 1 0 0, .und, I i, .ptr 1 1 0 0, I iK, I ((f + 1 + j : Nat) : Int), .und, .und, .und, .und, .imm nl c 4 (xs.map lvV), I xs.length, I i, .und, .und, .und, .und, .und, .und, .und, .und, .und, .und, I N, I iK, .und, .und, .und, .und, .und, .und, .und, .und, .und, .und, .und, .und, .und, .und, .und, .und, .und, .und, .und, .und, .und, .und, .und, .und, .und, .und, .und, .und, .und, .und, .und, .und, .und, .und, .und, .und, .und, .und, .und, .und, .und, .und, .und, .und, .und, .und, .und, .und, .und, .und, .und, .und, .und, .und, .und, .und] := ⟨_, rfl⟩
        refine AWp.block (AWp.loop J2 (fun j => t - j) 0 (Weak.slots [1, 3, 4, 5, 6, 11, 12, 13, 24, 25]) (by
          rw [hJ2]
          exact ⟨fun q h1 h2 => by omega, by simp [k2], by simp⟩) ?_)
        intro j fr H hI
        rw [hJ2] at hI
        obtain ⟨hin, rfl, rfl⟩ := hI
        obtain ⟨q, hq⟩ : ∃ q : Nat, q = f + 1 + j := ⟨_, rfl⟩
        rw [← hq] at hin ⊢
        repeat first | refine AWp.seq ?_ | refine AWp.block ?_
        refine AWp.ops ?_
        simp [hbp1, hwi, gi, gi2, et]
        refine AWp.cond (b := decide (q < t)) (by simp) ?_ ?_
        · intro h0
          have h0 : q < t := by simpa using h0
          have wq := wrap_i64 (n := (q : Int) + 1) (by omega) (by omega)
          have wq1 := wrap_i64 (n := (q : Int) - 1) (by omega) (by omega)
          have c1 : q < cs.length := by omega
          have g1 : (1 : Int) ≤ q := by omega
          have g2 : ((q : Int) - 1).toNat = q - 1 := by omega
          refine AWp.skip ?_
          simp only [qSeq]
          repeat first | refine AWp.seq ?_ | refine AWp.block ?_
          refine AWp.ops ?_
          simp
          refine AWp.cut [.und, .ptr 0 1 0 0, .und, I i, .ptr 1 1 0 0, I iK, I q, Bo (lessF ys q), .und, .und, .und, .imm nl c 4 (xs.map lvV), I xs.length, I i, .und, .und, .und, .und, .und, .und, .und, .und, .und, .und, I N, I iK, .und, .und, .und, .und, .und, .und, .und, .und, .und, .und, .und, .und, .und, .und, .und, .und, .und, .und, .und, .und, .und, .und, .und, .und, .und, .und, .und, .und, .und, .und, .und, .und, .und, .und, .und, .und, .und, .und, .und, .und, .und, .und, .und, .und, .und, .und, .und, .und, .und, .und, .und, .und, .und, .und, .und, .und] [tnO (.agg [.imm nl1 c01 sz1 (S.map I), .imm nl2 c02 sz2 (F.map specV), .imm nl c 4 (xs.map lvV), .imm nl3 c3 sz3 (V.map I)]), lvO (.agg [I k, I z, .imm nlp cp 1 (ps.map I), .imm nlq cq szq (cs.map I)])] ?_ ?_
          · have hi' : (i : Int) ≤ xs.length := by omega
            have hdr : List.drop i (xs.map lvV) = ys.map lvV := by rw [hys, List.map_drop]
            have hyl : xs.length - i = ys.length := by rw [hys, List.length_drop]
            have e2 : (if i = 0 then xs.map lvV else List.take ys.length (ys.map lvV)) = ys.map lvV := by
              split
              · rename_i h
                rw [hys, h]; rfl
              · exact List.take_of_length_le (by simp)
            obtain ⟨c', hc'⟩ : ∃ c', c' = Option.map (fun x => x - i) c := ⟨_, rfl⟩
            repeat first | refine AWp.seq ?_ | refine AWp.block ?_
            refine AWp.ops ?_
            simp [hi', hdr, hyl, e2, ← hc']
            obtain ⟨JL, hJL⟩ : ∃ J : Nat → List AV → List AObj → Prop, J = fun iL fr H => iL ≤ ys.length ∧ (lessF ys q = lessF (ys.drop iL) q) ∧ H = [tnO (.agg [.imm nl1 c01 sz1 (S.map I), .imm nl2 c02 sz2 (F.map specV), .imm nl c 4 (xs.map lvV), .imm nl3 c3 sz3 (V.map I)]), lvO (.agg [I k, I z, .imm nlp cp 1 (ps.map I), .imm nlq cq szq (cs.map I)])] ∧
              fr = [.und, .ptr 0 1 0 0, .und, I i, .ptr 1 1 0 0, I iK, I q, Bo false, .und, .und, .und, .imm nl c 4 (xs.map lvV), I xs.length, I i, .und, .und, .und, .und, .und, .und, .und, .und, .und, .und, I N, I iK, .und, .und, .und, .und, .und, .und, .und, .und, .und, .und, .und, .und, .und, .und, .und, .und, .und, .und, .und, .und, .und, .imm nl c' 4 (ys.map lvV), I ys.length, I iL, .und, .und, .und, .und, .und, .und, .und, .und, .und, .und, .und, .und, .und, .und, .und, .und, .und, .und, .und, .und, .und, .und, .und, .und, .und, .und, .und, .und, .und, .und, .und, .und] := ⟨_, rfl⟩
            refine AWp.block (AWp.loop JL (fun iL => ys.length - iL) 0 (Weak.slots [1, 3, 4, 5, 6, 7, 11, 12, 13, 24, 25, 47, 48, 49]) (by rw [hJL]; exact ⟨by omega, rfl, by simp, by simp⟩) ?_)
            intro iL fr H hI
            rw [hJL] at hI
            obtain ⟨hiL, hinvL, rfl, rfl⟩ := hI
            repeat first | refine AWp.seq ?_ | refine AWp.block ?_
            refine AWp.ops ?_
            simp
            refine AWp.seq (AWp.cond (b := decide (iL < ys.length)) (by simp <;> omega) ?_ ?_)
            ·
              intro hb
              have hb : iL < ys.length := by simpa using hb
              refine AWp.skip ?_
              simp only [qSeq]
              have hgL := lv_get hb
              have hokL := hx ys[iL] (hsub _ (List.getElem_mem hb))
              obtain ⟨hcl, hcr⟩ := hall ys[iL] (List.getElem_mem hb)
              rw [List.drop_eq_getElem_cons hb] at hinvL
              simp only [lessF] at hinvL
              generalize ys[iL] = y at hgL hokL hinvL hcl hcr
              obtain ⟨⟨ky, zy, psy, csy⟩, py, qy⟩ := y
              simp only at hgL hokL hinvL hcl hcr
              obtain ⟨⟨⟨nlpy, cpy, szpy, rfl, _⟩, _⟩, ⟨⟨nlqy, cqy, szqy, rfl, hsqy⟩, _⟩, _⟩ := hokL
              simp only at hsqy
              have b1 : q < csy.length := by omega
              have b2 : q - 1 < csy.length := by omega
              have hszq := sz_of hsqy b1
              subst hszq
              have q1 : csy.getD q 0 = csy[q] := by simp [b1]
              have q2 : csy.getD (q - 1) 0 = csy[q - 1] := by simp [b2]
              rw [q1, q2] at hinvL
              repeat first | refine AWp.seq ?_ | refine AWp.block ?_
              refine AWp.ops ?_
              simp [hgL]
              repeat first | refine AWp.seq ?_ | refine AWp.block ?_
              refine AWp.ops ?_
              simp [b1, b2, g1, g2, wq1]
              by_cases he : csy[q] = csy[q - 1]
              · rw [if_pos he] at hinvL
                refine AWp.cond (b := false) (by simp [he]) (fun h => by cases h) (fun _ => ?_)
                refine AWp.skip ?_
                simp only [qSeq, qBlock]
                repeat first | refine AWp.seq ?_ | refine AWp.block ?_
                refine AWp.ops ?_
                simp
                refine ⟨iL + 1, _, _, (Weak.slots [1, 3, 4, 5, 6, 7, 11, 12, 13, 24, 25, 47, 48, 49]).trans (Weak.freeze 2 3 (by simp)), ?_, by omega⟩
                rw [hJL]
                refine ⟨by omega, ?_, by simp [frzH], by simp [wrap_i64 (n := (iL : Int) + 1) (by omega) (by omega)]⟩
                exact hinvL
              · rw [if_neg he] at hinvL
                refine AWp.cond (b := true) (by simp; omega) (fun _ => ?_) (fun h => by cases h)
                repeat first | refine AWp.seq ?_ | refine AWp.block ?_
                refine AWp.ops ?_
                simp [b1, b2, g1, g2, wq1]
                refine AWp.exit ?_
                simp [qSeq, qBlock]
                exact ((Weak.slots [1, 3, 4, 5, 6, 7, 11, 12, 13, 24, 25]).trans (Weak.freeze 2 3 (by simp))).to (by simp [hinvL]) (by simp [frzH])
            ·
              intro hb
              have hb : ¬ iL < ys.length := by simpa using hb
              refine AWp.exit ?_
              simp [qSeq, qBlock]
              rw [List.drop_eq_nil_of_le (by omega)] at hinvL
              exact (Weak.slots [1, 3, 4, 5, 6, 7, 11, 12, 13, 24, 25]).to (by simp [hinvL, lessF]) (by simp)
          cases hls : lessF ys q with
          | false =>
            repeat first | refine AWp.seq ?_ | refine AWp.block ?_
            refine AWp.ops ?_
            simp
            refine AWp.cond (b := true) (by simp) (fun _ => ?_) (fun h => by cases h)
            repeat first | refine AWp.seq ?_ | refine AWp.block ?_
            refine AWp.ops ?_
            simp
            refine AWp.ret ?_
            simp
            refine retOk.of rfl ?_
            have : ¬ RiseT ys ps cs.length := fun hR => by
              have := hR iK (by omega) q c1 (by omega) (by omega)
              rw [hls] at this; cases this
            rw [hinv]
            simp [this]
          | true =>
            repeat first | refine AWp.seq ?_ | refine AWp.block ?_
            refine AWp.ops ?_
            simp
            refine AWp.cond (b := false) (by simp) (fun h => by cases h) (fun _ => ?_)
            refine AWp.skip ?_
            simp only [qSeq, qBlock]
            repeat first | refine AWp.seq ?_ | refine AWp.block ?_
            refine AWp.ops ?_
            simp [wq]
            refine ⟨j + 1, _, _, Weak.slots [1, 3, 4, 5, 6, 11, 12, 13, 24, 25], ?_, by omega⟩
            rw [hJ2]
            refine ⟨fun q' h1 h2 h3 => ?_, by simp, by simp; omega⟩
            by_cases e : q' = q
            · rw [e]; exact hls
            · exact hin q' h1 (by omega) h3
        · intro h0
          have h0 : ¬ q < t := by simpa using h0
          refine AWp.exit ?_
          simp [qSeq, qBlock]
          repeat first | refine AWp.seq ?_ | refine AWp.block ?_
          refine AWp.ops ?_
          simp
          refine ⟨iK + 1, _, _, Weak.slots [1, 3, 4, 11, 12, 13, 24, 25], ?_, by omega⟩
          rw [hJK]
          refine ⟨by omega, ?_, by simp, by simp [wrap_i64 (n := (iK : Int) + 1) (by omega) (by omega)]⟩
          intro p hp q' hq' h1 h2
          by_cases e : p = iK
          · subst e
            rw [hf'] at h1
            rw [ht'] at h2
            exact hin q' (by omega) (by omega) hq'
          · exact hinvK p (by omega) q' hq' h1 h2
      ·
        intro hb
        have hb : ¬ iK < N := by simpa using hb
        refine AWp.exit ?_
        simp [qSeq, qBlock]
        repeat first | refine AWp.seq ?_ | refine AWp.block ?_
        refine AWp.ops ?_
        simp [hwi0]
        have hT : RiseT ys ps cs.length := fun p hp => hinvK p (by omega)
        have hno' : riseF (xs.drop (i + 1)) = true := riseF_none fun y hy => by simpa using hno y hy
        refine ⟨i + 1, _, _, (Weak.slots [1, 11, 12, 13]).trans (Weak.freeze 1 3 (by simp)), ?_, by omega⟩
        rw [hJ]
        refine ⟨by omega, ?_, by simp [frzH], by simp⟩
        rw [hno', hinv]
        simp [hT]
    ·
      intro hb
      have hb : ¬ i < xs.length := by simpa using hb
      refine AWp.exit ?_
      simp [qSeq, qBlock]
      rw [List.drop_eq_nil_of_le (by omega)] at hinv
      repeat first | refine AWp.seq ?_ | refine AWp.block ?_
      refine AWp.ops ?_
      simp
      refine AWp.ret ?_
      simp
      refine retOk.of rfl ?_
      rw [hinv]; simp [riseF]
  refine (base.frozen 2).mono ?_
  rintro q H' ⟨rfl, r, G, rfl, rfl⟩
  exact ⟨rfl, by simp⟩
end Go.Fw
