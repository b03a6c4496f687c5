import Derived.Test.YthipbeffhfdamaaFwref05i
namespace Go.Fw
open Go Go.RowKit Go.Proofs
set_option maxRecDepth 100000
set_option linter.unusedSimpArgs false
set_option linter.unusedVariables false
def rCheck_24 : AC := (.seq (.ops [.o 71 (.fad 3 (.t 1)), .o 72 (.ld 1 false (.t 71)), .o 73 (.len (.t 72)), .m 74 (.t 8), .o 75 (.bin .neq (.t 73) (.t 74)), .m 76 (.t 75), .og 77 76 false (.ld 4 true (.t 1)), .cg 78 76 false false (.f 59) [(.t 77)], .og 79 76 false (.un .not (.t 78)), .o 80 (.pick (.t 76) (.b true) (.t 79))]) (.cond (.t 80) (.seq (.ops [.m 2 (.i 1)]) .ret) .skip))
def rCheck_23 : AC := (.seq rCheck_24 (.seq (.ops [.m 2 (.i 0)]) .ret))
def rCheck_22 : AC := (.cond (.t 64) (.ops [.m 65 (.t 7), .m 66 (.t 7), .o 67 (.len (.t 66)), .o 68 (.bin .sub (.t 67) (.i 1)), .o 69 (.iad 1 (.t 65) (.t 68)), .o 70 (.ld 1 false (.t 69)), .m 8 (.t 70)]) .skip)
def rCheck_21 : AC := (.seq (.ops [.m 62 (.t 7), .o 63 (.len (.t 62)), .o 64 (.bin .gtr (.t 63) (.i 0))]) rCheck_22)
def rCheck_20 : AC := (.seq rCheck_21 rCheck_23)
def rCheck_19 : AC := (.seq (.ops [.m 8 (.i 1)]) rCheck_20)
def rCheck_18 : AC := (.seq (.ops [.m 59 (.t 4), .o 60 (.bin .neq (.t 59) (.i 0))]) (.cond (.t 60) (.seq (.ops [.m 61 (.t 4), .m 2 (.t 61)]) .ret) .skip))
def rCheck_17 : AC := (.seq rCheck_18 rCheck_19)
def rCheck_16 : AC := (.seq (.ops [.o 55 (.ld 4 true (.t 1)), .c 56 false (.f 58) [(.t 55)], .m 54 (.t 56), .o 57 (.ext (.t 54) 0), .o 58 (.ext (.t 54) 1), .m 7 (.t 57), .m 4 (.t 58)]) rCheck_17)
def rCheck_15 : AC := (.seq (.ops [.o 35 (.fad 0 (.t 6)), .o 36 (.ld 1 false (.t 35)), .o 37 (.fad 1 (.t 1)), .o 38 (.ld 1 false (.t 37)), .m 39 (.t 5), .o 40 (.iad 3 (.t 38) (.t 39)), .o 41 (.fad 0 (.t 40)), .o 42 (.ld 1 false (.t 41)), .o 43 (.bin .neq (.t 36) (.t 42)), .m 44 (.t 43), .og 45 44 false (.fad 1 (.t 6)), .og 46 44 false (.ld 1 false (.t 45)), .mg 47 44 false (.t 3), .mg 48 44 false (.t 5), .og 49 44 false (.iad 1 (.t 47) (.t 48)), .og 50 44 false (.ld 1 false (.t 49)), .og 51 44 false (.bin .neq (.t 46) (.t 50)), .o 52 (.pick (.t 44) (.b true) (.t 51))]) (.cond (.t 52) (.seq (.ops [.m 2 (.i 1)]) .ret) .skip))
def rCheck_14 : AC := (.seq (.ops [.m 32 (.t 30), .o 33 (.iad 4 (.t 28) (.t 30)), .o 34 (.ld 4 true (.t 33)), .o 6 (.new 34 4 (.c (.agg [(.sc (.int .i64 0)), (.sc (.int .i64 0)), nil0, nil0]))), .m 5 (.t 32), .on (.st 4 (.t 6) (.t 34))]) rCheck_15)
def rCheck_13 : AC := (.block 1 rCheck_14)
def rCheck_12 : AC := (.seq rCheck_13 (.ops [.o 53 (.bin .add (.t 30) (.i 1)), .m 30 (.t 53)]))
def rCheck_11 : AC := (.seq (.cond (.t 31) .skip (.exit 0)) rCheck_12)
def rCheck_10 : AC := (.seq (.ops [.o 31 (.bin .lss (.t 30) (.t 29))]) rCheck_11)
def rCheck_9 : AC := (.loop rCheck_10)
def rCheck_8 : AC := (.block 0 rCheck_9)
def rCheck_7 : AC := (.seq (.ops [.o 27 (.fad 2 (.t 1)), .o 28 (.ld 1 false (.t 27)), .o 29 (.len (.t 28)), .m 30 (.i 0)]) rCheck_8)
def rCheck_6 : AC := (.seq rCheck_7 rCheck_16)
def rCheck_5 : AC := (.seq (.ops [.o 20 (.fad 2 (.t 1)), .o 21 (.ld 1 false (.t 20)), .o 22 (.len (.t 21)), .o 23 (.fad 1 (.t 1)), .o 24 (.ld 1 false (.t 23)), .o 25 (.len (.t 24)), .o 26 (.bin .neq (.t 22) (.t 25))]) (.cond (.t 26) (.seq (.ops [.m 2 (.i 1)]) .ret) .skip))
def rCheck_4 : AC := (.seq rCheck_5 rCheck_6)
def rCheck_3 : AC := (.seq (.ops [.m 17 (.t 4), .o 18 (.bin .neq (.t 17) (.i 0))]) (.cond (.t 18) (.seq (.ops [.m 19 (.t 4), .m 2 (.t 19)]) .ret) .skip))
def rCheck_2 : AC := (.seq rCheck_3 rCheck_4)
def rCheck_1 : AC := (.seq (.ops [.o 10 (.fad 0 (.t 1)), .o 11 (.ld 1 false (.t 10)), .o 12 (.fad 1 (.t 1)), .o 13 (.ld 1 false (.t 12)), .c 14 false (.f 14) [(.t 11), (.t 13)], .m 9 (.t 14), .o 15 (.ext (.t 9) 0), .o 16 (.ext (.t 9) 1), .m 3 (.t 15), .m 4 (.t 16)]) rCheck_2)
def rCheck_ac : AC := (.seq (.ops [.o 1 (.new 27 4 (.t 0)), .m 2 (.i 0)]) rCheck_1)
theorem rCheck_call {args : List AV} {H : List AObj} {R : AV → List AObj → Prop} (h : AWp Try.prog [] H.length rCheck_ac (bodyQ H.length [(.t 2)] R) (args ++ List.replicate (81 - args.length) .und) H) : ACalls Try.prog 26 args H R :=
  ACalls.of_fn Try.func26 rfl (by kernel_rfl) rfl Try.ntmps26 h
set_option maxHeartbeats 4000000 in
theorem rCheck_spec {sh f l v : AV} {S V : List Int} {F : List (Int × Int × Int)} {xs : List LvA} (hS : ISl sh S) (hF : Sp f F) (hl : Ls l xs) (hV : ISl v V) (hn : xs.length ≤ 1000) (hfn : F.length ≤ 1000) (hSn : S.length ≤ 1000) (hsm : ∀ x ∈ xs, x.lv.pos.length ≤ 4611686018427387903 ∧ x.lv.crd.length ≤ 4611686018427387903) :
    ACalls Try.prog 26 [.agg [sh, f, l, v]] [] fun r H' => H' = [] ∧ r = I (tnCheck S F xs V) := by
  have hS' := hS
  have hF' := hF
  have hl' := hl
  have hV' := hV
  obtain ⟨⟨nl, c, sz, rfl, hs⟩, hlen, hx⟩ := hl
  obtain ⟨⟨nl1, c01, sz1, rfl, hs1⟩, hlen1, hx1⟩ := hS
  obtain ⟨⟨nl2, c02, sz2, rfl, hs2⟩, hlen2, hx2⟩ := hF
  obtain ⟨⟨nl3, c3, sz3, rfl, hs3⟩, hlen3, hx3⟩ := hV
  have base : ACalls Try.prog 26 [.agg [.imm nl1 c01 sz1 (S.map I), .imm nl2 c02 sz2 (F.map specV), .imm nl c sz (xs.map lvV), .imm nl3 c3 sz3 (V.map I)]] [] fun r H' => r = I (tnCheck S F xs V) := by
    apply rCheck_call
    repeat first | refine AWp.seq ?_ | refine AWp.block ?_
    refine AWp.ops ?_
    simp
    repeat first | refine AWp.seq ?_ | refine AWp.block ?_
    refine AWp.ops ?_
    simp
    refine ((rSizes_spec hS' hF' hfn hSn).pure (by simp) (by rintro r ⟨o, rfl, ⟨⟨_, _, _, rfl, _⟩, _⟩⟩; simp) _).mono ?_
    rintro r H' ⟨rfl, o, rfl, hZ⟩
    simp
    have hsok := fun h0 => sizesF_ok (xs := S) (fs := F) h0 (fun s hs => (hx2 s hs).2.2.2)
    obtain ⟨Z, hZe⟩ : ∃ Z, Z = (sizesF S F).1 := ⟨_, rfl⟩
    rw [← hZe] at hZ hsok
    obtain ⟨⟨nlz, cz, szz, rfl, hsz⟩, hlz, hxz⟩ := hZ
    repeat first | refine AWp.seq ?_ | refine AWp.block ?_
    refine AWp.ops ?_
    simp
    refine AWp.cond (b := (sizesF S F).2 != 0) (by simp) ?_ ?_
    · intro h
      have h : (sizesF S F).2 ≠ 0 := by simpa using h
      repeat first | refine AWp.seq ?_ | refine AWp.block ?_
      refine AWp.ops ?_
      simp
      refine AWp.ret ?_
      simp
      refine retOk.of rfl ?_
      rw [tnCheck, if_pos h]; simp
    intro h0
    have h0 : (sizesF S F).2 = 0 := by simpa using h0
    obtain ⟨-, hzl, -, -⟩ := hsok h0
    refine AWp.skip ?_
    simp only [qSeq]
    repeat first | refine AWp.seq ?_ | refine AWp.block ?_
    refine AWp.ops ?_
    simp
    refine AWp.cond (b := (xs.length : Int) != F.length) (by simp) ?_ ?_
    · intro h
      have h : ¬ xs.length = F.length := by
        have : ¬ (xs.length : Int) = F.length := by simpa using h
        omega
      repeat first | refine AWp.seq ?_ | refine AWp.block ?_
      refine AWp.ops ?_
      simp
      refine AWp.ret ?_
      simp
      refine retOk.of rfl ?_
      rw [tnCheck, if_neg (by omega), if_pos h]; simp
    intro h1
    have h1 : xs.length = F.length := by
      have : (xs.length : Int) = F.length := by simpa using h1
      omega
    refine AWp.skip ?_
    simp only [qSeq]
    repeat first | refine AWp.seq ?_ | refine AWp.block ?_
    refine AWp.ops ?_
    simp
    have hret1 : fitF xs F Z = false → tnCheck S F xs V = 1 := by
      intro h
      rw [tnCheck, if_neg (by omega), if_neg (by omega), if_pos (by rw [← hZe]; exact h)]
    obtain ⟨J, hJ⟩ : ∃ J : Nat → List AV → List AObj → Prop, J = fun i fr H => i ≤ xs.length ∧ (fitF xs F Z = fitF (xs.drop i) (F.drop i) (Z.drop i)) ∧ H = [tnO (.agg [.imm nl1 c01 sz1 (S.map I), .imm nl2 c02 sz2 (F.map specV), .imm nl c sz (xs.map lvV), .imm nl3 c3 sz3 (V.map I)])] ∧
      fr = [.und, .ptr 0 1 0 0, .und, .imm nlz cz szz (Z.map I), .und, .und, .und, .und, .und, .und, .und, .und, .und, .und, .und, .und, .und, .und, .und, .und, .und, .und, .und, .und, .und, .und, .und, .und, .imm nl c sz (xs.map lvV), I xs.length, I i, .und, .und, .und, .und, .und, .und, .und, .und, .und, .und, .und, .und, .und, .und, .und, .und, .und, .und, .und, .und, .und, .und, .und, .und, .und, .und, .und, .und, .und, .und, .und, .und, .und, .und, .und, .und, .und, .und, .und, .und, .und, .und, .und, .und, .und, .und, .und, .und, .und, .und] := ⟨_, rfl⟩
    refine AWp.block (AWp.loop J (fun i => xs.length - i) 0 (Weak.slots [1, 3, 28, 29, 30]) (by rw [hJ]; exact ⟨by omega, rfl, by simp, by simp⟩) ?_)
    intro i fr H hI
    rw [hJ] at hI
    obtain ⟨hi, hinv, rfl, rfl⟩ := hI
    repeat first | refine AWp.seq ?_ | refine AWp.block ?_
    refine AWp.ops ?_
    simp
    refine AWp.seq (AWp.cond (b := decide (i < xs.length)) (by simp <;> omega) ?_ ?_)
    ·
      intro hb
      have hb : i < xs.length := by simpa using hb
      refine AWp.skip ?_
      simp only [qSeq]
      have hbF : i < F.length := by omega
      have hbZ : i < Z.length := by omega
      have hsz4 := sz4_of hs hb
      have hsz3 := sz3_of hs2 hbF
      have hsz1 := sz_of hsz hbZ
      subst hsz4 hsz3 hsz1
      have hgs := lv_get hb
      have hgF := spec_get hbF
      have hok := hx xs[i] (List.getElem_mem hb)
      rw [List.drop_eq_getElem_cons hb, List.drop_eq_getElem_cons hbF, List.drop_eq_getElem_cons hbZ] at hinv
      simp only [fitF] at hinv
      generalize xs[i] = x at hgs hok hinv
      generalize F[i] = sp at hgF hinv
      obtain ⟨lv, p, q⟩ := x
      obtain ⟨k, mo, z⟩ := sp
      simp only at hgs hok hinv hgF
      have hok' := hok
      obtain ⟨⟨⟨nlp, cp, szp, rfl, _⟩, _⟩, ⟨⟨nlq, cq, szq, rfl, _⟩, _⟩, _⟩ := hok'
      repeat first | refine AWp.seq ?_ | refine AWp.block ?_
      refine AWp.ops ?_
      simp [hgs]
      by_cases e1 : lv.k = k
      case neg =>
        have e1' : (lv.k == k) = false := by simp [e1]
        repeat first | refine AWp.seq ?_ | refine AWp.block ?_
        refine AWp.ops ?_
        simp [hgF, e1]
        refine AWp.cond (b := true) (by simp) (fun _ => ?_) (fun h => by cases h)
        repeat first | refine AWp.seq ?_ | refine AWp.block ?_
        refine AWp.ops ?_
        simp
        refine AWp.ret ?_
        simp
        refine retOk.of rfl ?_
        rw [hret1 (by rw [hinv]; simp [e1])]; simp
      by_cases e2 : lv.sz = Z[i]
      case neg =>
        repeat first | refine AWp.seq ?_ | refine AWp.block ?_
        refine AWp.ops ?_
        simp [hgF, e1, hbZ, e2]
        refine AWp.cond (b := true) (by simp [e2]) (fun _ => ?_) (fun h => by cases h)
        repeat first | refine AWp.seq ?_ | refine AWp.block ?_
        refine AWp.ops ?_
        simp
        refine AWp.ret ?_
        simp
        refine retOk.of rfl ?_
        rw [hret1 (by rw [hinv]; simp [e2])]; simp
      repeat first | refine AWp.seq ?_ | refine AWp.block ?_
      refine AWp.ops ?_
      simp [hgF, e1, hbZ, e2]
      refine AWp.cond (b := false) (by simp) (fun h => by cases h) (fun _ => ?_)
      refine AWp.skip ?_
      simp only [qSeq, qBlock]
      repeat first | refine AWp.seq ?_ | refine AWp.block ?_
      refine AWp.ops ?_
      simp
      refine ⟨i + 1, _, _, (Weak.slots [1, 3, 28, 29, 30]).trans (Weak.freeze 1 3 (by simp)), ?_, by omega⟩
      rw [hJ]
      refine ⟨by omega, ?_, by simp [frzH], by simp [wrap_i64 (n := (i : Int) + 1) (by omega) (by omega)]⟩
      rw [hinv]; simp [e1, e2]
    ·
      intro hb
      have hb : ¬ i < xs.length := by simpa using hb
      refine AWp.exit ?_
      simp [qSeq, qBlock]
      rw [List.drop_eq_nil_of_le (by omega)] at hinv
      have hfit : fitF xs F Z = true := by rw [hinv]; simp [fitF]
      have hfit' : ¬ fitF xs F (sizesF S F).1 = false := by rw [← hZe, hfit]; simp
      repeat first | refine AWp.seq ?_ | refine AWp.block ?_
      refine AWp.ops ?_
      simp
      refine ((rcounts_spec hS' hF' hl' hV' hn hsm).pure (by simp) (by rintro r ⟨o, rfl, ⟨⟨_, _, _, rfl, _⟩, _⟩⟩; simp) _).mono ?_
      rintro r H' ⟨rfl, o, rfl, hC⟩
      simp
      obtain ⟨N, hN⟩ : ∃ N, N = (cntF xs).1 := ⟨_, rfl⟩
      rw [← hN] at hC
      obtain ⟨⟨nlw, cw, szw, rfl, hsw⟩, hlw, hxw⟩ := hC
      repeat first | refine AWp.seq ?_ | refine AWp.block ?_
      refine AWp.ops ?_
      simp
      refine AWp.cond (b := (cntF xs).2 != 0) (by simp) ?_ ?_
      · intro h
        have h : (cntF xs).2 ≠ 0 := by simpa using h
        repeat first | refine AWp.seq ?_ | refine AWp.block ?_
        refine AWp.ops ?_
        simp
        refine AWp.ret ?_
        simp
        refine retOk.of rfl ?_
        rw [tnCheck, if_neg (by omega), if_neg (by omega), if_neg hfit', if_pos h]; simp
      intro h2
      have h2 : (cntF xs).2 = 0 := by simpa using h2
      have hok := rise_ok h0 h1 (by rw [← hZe]; exact hzl) (by rw [← hZe]; exact hfit) h2
      have hlen2 : N.length = xs.length := by rw [hN]; exact cntGo_len (cntF_ok h2)
      refine AWp.skip ?_
      simp only [qSeq]
      have hfin : ¬ (sizesF S F).2 ≠ 0 := by omega
      have hfin2 : ¬ xs.length ≠ F.length := by omega
      obtain ⟨la, hla⟩ : ∃ la, la = lastF N := ⟨_, rfl⟩
      have hres : tnCheck S F xs V = if (V.length : Int) ≠ la ∨ riseF xs = false then 1 else 0 := by
        rw [tnCheck, if_neg hfin, if_neg hfin2, if_neg hfit', if_neg (by omega), ← hN, ← hla]
      rw [hres]
      repeat first | refine AWp.seq ?_ | refine AWp.block ?_
      refine AWp.ops ?_
      simp
      refine AWp.cut [.und, .ptr 0 1 0 0, .und, .und, .und, .und, .und, .imm nlw cw szw (N.map I), I la, .und, .und, .und, .und, .und, .und, .und, .und, .und, .und, .und, .und, .und, .und, .und, .und, .und, .und, .und, .und, .und, .und, .und, .und, .und, .und, .und, .und, .und, .und, .und, .und, .und, .und, .und, .und, .und, .und, .und, .und, .und, .und, .und, .und, .und, .und, .und, .und, .und, .und, .und, .und, .und, .und, .und, .und, .und, .und, .und, .und, .und, .und, .und, .und, .und, .und, .und, .und, .und, .und, .und, .und] [tnO (.agg [.imm nl1 c01 sz1 (S.map I), .imm nl2 c02 sz2 (F.map specV), .imm nl c sz (xs.map lvV), .imm nl3 c3 sz3 (V.map I)])] ?_ ?_
      ·
        repeat first | refine AWp.seq ?_ | refine AWp.block ?_
        refine AWp.ops ?_
        simp
        by_cases hN0 : N = []
        · have hl1 : la = 1 := by rw [hla, hN0]; rfl
          refine AWp.cond (b := false) (by simp [hN0]) (fun h => by cases h) (fun _ => ?_)
          refine AWp.skip ?_
          simp only [qSeq]
          exact (Weak.slots [1, 7, 8]).to (by simp [hl1, hN0]) rfl
        · have hNp : 0 < N.length := List.length_pos_iff.2 hN0
          have hszw := sz_of hsw hNp
          subst hszw
          have b1 : N.length - 1 < N.length := by omega
          have w1 := wrap_i64 (n := (N.length : Int) - 1) (by omega) (by omega)
          have g1 : (1 : Int) ≤ N.length := by omega
          have g2 : ((N.length : Int) - 1).toNat = N.length - 1 := by omega
          have hg : la = N[N.length - 1] := by
            rw [hla, lastF, List.getD, List.getElem?_cons]
            rw [if_neg (by omega), List.getElem?_eq_getElem b1]
            rfl
          refine AWp.cond (b := true) (by simp [hNp]) (fun _ => ?_) (fun h => by cases h)
          repeat first | refine AWp.seq ?_ | refine AWp.block ?_
          refine AWp.ops ?_
          simp [b1, w1, g1, g2, hNp]
          exact (Weak.slots [1, 7, 8]).to (by simp [hg]) rfl
      have hsr := (rrises_spec hS' hF' hl' hV' hok).pure (by simp) (by rintro r rfl; simp) [tnO (.agg [.imm nl1 c01 sz1 (S.map I), .imm nl2 c02 sz2 (F.map specV), .imm nl c sz (xs.map lvV), .imm nl3 c3 sz3 (V.map I)])]
      by_cases hv : (V.length : Int) = la
      case neg =>
        repeat first | refine AWp.seq ?_ | refine AWp.block ?_
        refine AWp.ops ?_
        simp [hv]
        refine AWp.cond (b := true) (by simp) (fun _ => ?_) (fun h => by cases h)
        repeat first | refine AWp.seq ?_ | refine AWp.block ?_
        refine AWp.ops ?_
        simp
        refine AWp.ret ?_
        simp
        refine retOk.of rfl ?_
        simp [hv]
      repeat first | refine AWp.seq ?_ | refine AWp.block ?_
      refine AWp.ops ?_
      simp [hv]
      refine hsr.mono ?_
      rintro r H' ⟨rfl, rfl⟩
      simp
      cases hr : riseF xs with
      | false =>
        simp
        refine AWp.cond (b := true) (by simp) (fun _ => ?_) (fun h => by cases h)
        repeat first | refine AWp.seq ?_ | refine AWp.block ?_
        refine AWp.ops ?_
        simp
        refine AWp.ret ?_
        simp
        refine retOk.of rfl ?_
        simp
      | true =>
        simp
        refine AWp.cond (b := false) (by simp) (fun h => by cases h) (fun _ => ?_)
        refine AWp.skip ?_
        simp only [qSeq]
        repeat first | refine AWp.seq ?_ | refine AWp.block ?_
        refine AWp.ops ?_
        simp
        refine AWp.ret ?_
        simp
        refine retOk.of rfl ?_
        simp [hv]
  refine (base.frozen 2).mono ?_
  rintro q H' ⟨rfl, r, G, rfl, rfl⟩
  exact ⟨rfl, by simp⟩
def rCounts_6 : AC := (.seq (.ops [.o 10 (.ld 4 true (.t 1)), .c 11 false (.f 58) [(.t 10)], .o 12 (.ext (.t 11) 0), .o 13 (.ext (.t 11) 1), .m 2 (.t 12), .m 3 (.t 13)]) .ret)
def rCounts_5 : AC := (.seq (.ops [.m 9 (.t 4), .m 2 .z, .m 3 (.t 9)]) .ret)
def rCounts_4 : AC := (.cond (.t 8) rCounts_5 .skip)
def rCounts_3 : AC := (.seq (.ops [.m 7 (.t 4), .o 8 (.bin .neq (.t 7) (.i 0))]) rCounts_4)
def rCounts_2 : AC := (.seq (.ops [.o 5 (.ld 4 true (.t 1)), .c 6 false (.f 26) [(.t 5)], .m 4 (.t 6)]) rCounts_3)
def rCounts_1 : AC := (.seq rCounts_2 rCounts_6)
def rCounts_ac : AC := (.seq (.ops [.o 1 (.new 27 4 (.t 0)), .m 2 .z, .m 3 (.i 0)]) rCounts_1)
theorem rCounts_call {args : List AV} {H : List AObj} {R : AV → List AObj → Prop} (h : AWp Try.prog [] H.length rCounts_ac (bodyQ H.length [(.t 2), (.t 3)] R) (args ++ List.replicate (14 - args.length) .und) H) : ACalls Try.prog 32 args H R :=
  ACalls.of_fn Try.func32 rfl (by kernel_rfl) rfl Try.ntmps32 h
theorem rCounts_spec {sh f l v : AV} {S V : List Int} {F : List (Int × Int × Int)} {xs : List LvA} (hS : ISl sh S) (hF : Sp f F) (hl : Ls l xs) (hV : ISl v V) (hn : xs.length ≤ 1000) (hfn : F.length ≤ 1000) (hSn : S.length ≤ 1000) (hsm : ∀ x ∈ xs, x.lv.pos.length ≤ 4611686018427387903 ∧ x.lv.crd.length ≤ 4611686018427387903) :
    ACalls Try.prog 32 [.agg [sh, f, l, v]] [] fun r H' => H' = [] ∧ ∃ o, r = .tup [o, I (countsF S F xs V).2] ∧ ISl o (countsF S F xs V).1 := by
  have hS' := hS
  have hF' := hF
  have hl' := hl
  have hV' := hV
  obtain ⟨⟨nl, c, sz, rfl, hs⟩, hlen, hx⟩ := hl
  obtain ⟨⟨nl1, c01, sz1, rfl, hs1⟩, hlen1, hx1⟩ := hS
  obtain ⟨⟨nl2, c02, sz2, rfl, hs2⟩, hlen2, hx2⟩ := hF
  obtain ⟨⟨nl3, c3, sz3, rfl, hs3⟩, hlen3, hx3⟩ := hV
  have base : ACalls Try.prog 32 [.agg [.imm nl1 c01 sz1 (S.map I), .imm nl2 c02 sz2 (F.map specV), .imm nl c sz (xs.map lvV), .imm nl3 c3 sz3 (V.map I)]] [] fun r H' => ∃ o, r = .tup [o, I (countsF S F xs V).2] ∧ ISl o (countsF S F xs V).1 := by
    apply rCounts_call
    repeat first | refine AWp.seq ?_ | refine AWp.block ?_
    refine AWp.ops ?_
    simp
    repeat first | refine AWp.seq ?_ | refine AWp.block ?_
    refine AWp.ops ?_
    simp
    refine ((rCheck_spec hS' hF' hl' hV' hn hfn hSn hsm).pure (by simp) (by rintro r rfl; simp) _).mono ?_
    rintro r H' ⟨rfl, rfl⟩
    simp
    repeat first | refine AWp.seq ?_ | refine AWp.block ?_
    refine AWp.ops ?_
    simp
    by_cases h : tnCheck S F xs V = 0
    · refine AWp.cond (b := false) (by simp [h]) (fun h => by cases h) (fun _ => ?_)
      refine AWp.skip ?_
      simp only [qSeq]
      repeat first | refine AWp.seq ?_ | refine AWp.block ?_
      refine AWp.ops ?_
      simp
      refine ((rcounts_spec hS' hF' hl' hV' hn hsm).pure (by simp) (by rintro r ⟨o, rfl, ⟨⟨_, _, _, rfl, _⟩, _⟩⟩; simp) _).mono ?_
      rintro r H' ⟨rfl, o, rfl, hC⟩
      simp
      refine AWp.ret ?_
      simp
      refine retOk.of rfl ⟨o, ?_, ?_⟩
      · rw [countsF, if_neg (by omega), (tnCheck_ok h).2.2.2.1]; simp
      · rw [countsF, if_neg (by omega)]; exact hC
    · refine AWp.cond (b := true) (by simp [h]) (fun _ => ?_) (fun h => by cases h)
      repeat first | refine AWp.seq ?_ | refine AWp.block ?_
      refine AWp.ops ?_
      simp
      refine AWp.ret ?_
      simp
      refine retOk.of rfl ⟨.imm true none 0 [], ?_, ?_⟩
      · rw [countsF, if_pos h]; simp
      · rw [countsF, if_pos h]; exact ⟨⟨true, none, 0, rfl, by simp, by simp⟩, by simp, by simp⟩
  refine (base.frozen 2).mono ?_
  rintro q H' ⟨rfl, r, G, ⟨o, rfl, ho⟩, rfl⟩
  have ho' := ho
  obtain ⟨⟨nlz, cz, szz, rfl, hsz⟩, -⟩ := ho'
  exact ⟨rfl, _, by simp, ho⟩
end Go.Fw
