import Derived.Test.YtkfooghdpfhiaaaFwref05h
namespace Go.Fw
open Go Go.RowKit Go.Proofs
set_option maxRecDepth 100000
set_option linter.unusedSimpArgs false
set_option linter.unusedVariables false

def rrises_40 : AC := (.seq (.ops [⟨(some 78), none, (.k (.mov (.t 7)))⟩, ⟨(some 79), none, (.k (.un .not (.t 78)))⟩]) (.cond (.t 79) (.seq (.ops [⟨(some 2), none, (.k (.mov (.c (.sc (.bool false)))))⟩]) .ret) .skip))
def rrises_39 : AC := (.seq (.ops [⟨(some 65), none, (.k (.fad 3 (.t 9)))⟩, ⟨(some 66), none, (.k (.ld 1 false (.t 65)))⟩, ⟨(some 67), none, (.k (.mov (.t 6)))⟩, ⟨(some 68), none, (.k (.bin .sub (.t 67) (.c (.sc (.int .i64 1)))))⟩, ⟨(some 69), none, (.k (.iad 1 (.t 66) (.t 68)))⟩, ⟨(some 70), none, (.k (.ld 1 false (.t 69)))⟩, ⟨(some 71), none, (.k (.fad 3 (.t 9)))⟩, ⟨(some 72), none, (.k (.ld 1 false (.t 71)))⟩, ⟨(some 73), none, (.k (.mov (.t 6)))⟩, ⟨(some 74), none, (.k (.iad 1 (.t 72) (.t 73)))⟩, ⟨(some 75), none, (.k (.ld 1 false (.t 74)))⟩, ⟨(some 76), none, (.k (.bin .lss (.t 70) (.t 75)))⟩, ⟨(some 7), none, (.k (.mov (.t 76)))⟩]) (.exit 6))
def rrises_38 : AC := (.cond (.t 64) rrises_39 .skip)
def rrises_37 : AC := (.seq (.ops [⟨(some 53), none, (.k (.fad 3 (.t 9)))⟩, ⟨(some 54), none, (.k (.ld 1 false (.t 53)))⟩, ⟨(some 55), none, (.k (.mov (.t 6)))⟩, ⟨(some 56), none, (.k (.bin .sub (.t 55) (.c (.sc (.int .i64 1)))))⟩, ⟨(some 57), none, (.k (.iad 1 (.t 54) (.t 56)))⟩, ⟨(some 58), none, (.k (.ld 1 false (.t 57)))⟩, ⟨(some 59), none, (.k (.fad 3 (.t 9)))⟩, ⟨(some 60), none, (.k (.ld 1 false (.t 59)))⟩, ⟨(some 61), none, (.k (.mov (.t 6)))⟩, ⟨(some 62), none, (.k (.iad 1 (.t 60) (.t 61)))⟩, ⟨(some 63), none, (.k (.ld 1 false (.t 62)))⟩, ⟨(some 64), none, (.k (.bin .neq (.t 58) (.t 63)))⟩]) rrises_38)
def rrises_36 : AC := (.seq (.ops [⟨(some 51), none, (.k (.iad 4 (.t 47) (.t 49)))⟩, ⟨(some 52), none, (.k (.ld 4 true (.t 51)))⟩, ⟨(some 9), none, (.k (.new 97 4 (.c (.agg [(.sc (.int .i64 0)), (.sc (.int .i64 0)), (.imm true none 0 []), (.imm true none 0 [])]))))⟩, ⟨none, none, (.k (.st 4 (.t 9) (.t 52)))⟩]) rrises_37)
def rrises_35 : AC := (.block 7 rrises_36)
def rrises_34 : AC := (.seq rrises_35 (.ops [⟨(some 77), none, (.k (.bin .add (.t 49) (.c (.sc (.int .i64 1)))))⟩, ⟨(some 49), none, (.k (.mov (.t 77)))⟩]))
def rrises_33 : AC := (.seq (.cond (.t 50) .skip (.exit 6)) rrises_34)
def rrises_32 : AC := (.seq (.ops [⟨(some 50), none, (.k (.bin .lss (.t 49) (.t 48)))⟩]) rrises_33)
def rrises_31 : AC := (.loop rrises_32)
def rrises_30 : AC := (.block 6 rrises_31)
def rrises_29 : AC := (.seq (.ops [⟨(some 44), none, (.k (.fad 2 (.t 1)))⟩, ⟨(some 45), none, (.k (.ld 1 false (.t 44)))⟩, ⟨(some 46), none, (.k (.mov (.t 3)))⟩, ⟨(some 47), none, (.k (.sl 4 (.t 45) (some (.t 46)) none none))⟩, ⟨(some 48), none, (.k (.len (.t 47)))⟩, ⟨(some 49), none, (.k (.mov (.c (.sc (.int .i64 0)))))⟩]) rrises_30)
def rrises_28 : AC := (.seq rrises_29 rrises_40)
def rrises_27 : AC := (.seq (.ops [⟨(some 7), none, (.k (.mov (.c (.sc (.bool false)))))⟩]) rrises_28)
def rrises_26 : AC := (.block 5 rrises_27)
def rrises_25 : AC := (.seq rrises_26 (.ops [⟨(some 42), none, (.k (.mov (.t 6)))⟩, ⟨(some 43), none, (.k (.bin .add (.t 42) (.c (.sc (.int .i64 1)))))⟩, ⟨(some 6), none, (.k (.mov (.t 43)))⟩]))
def rrises_24 : AC := (.seq (.ops [⟨(some 34), none, (.k (.mov (.t 6)))⟩, ⟨(some 35), none, (.k (.fad 2 (.t 4)))⟩, ⟨(some 36), none, (.k (.ld 1 false (.t 35)))⟩, ⟨(some 37), none, (.k (.mov (.t 5)))⟩, ⟨(some 38), none, (.k (.bin .add (.t 37) (.c (.sc (.int .i64 1)))))⟩, ⟨(some 39), none, (.k (.iad 1 (.t 36) (.t 38)))⟩, ⟨(some 40), none, (.k (.ld 1 false (.t 39)))⟩, ⟨(some 41), none, (.k (.bin .lss (.t 34) (.t 40)))⟩]) (.cond (.t 41) .skip (.exit 4)))
def rrises_23 : AC := (.seq rrises_24 rrises_25)
def rrises_22 : AC := (.loop rrises_23)
def rrises_21 : AC := (.block 4 rrises_22)
def rrises_20 : AC := (.seq (.ops [⟨(some 28), none, (.k (.fad 2 (.t 4)))⟩, ⟨(some 29), none, (.k (.ld 1 false (.t 28)))⟩, ⟨(some 30), none, (.k (.mov (.t 5)))⟩, ⟨(some 31), none, (.k (.iad 1 (.t 29) (.t 30)))⟩, ⟨(some 32), none, (.k (.ld 1 false (.t 31)))⟩, ⟨(some 33), none, (.k (.bin .add (.t 32) (.c (.sc (.int .i64 1)))))⟩, ⟨(some 6), none, (.k (.mov (.t 33)))⟩]) rrises_21)
def rrises_19 : AC := (.seq (.ops [⟨(some 27), none, (.k (.mov (.t 25)))⟩, ⟨(some 5), none, (.k (.mov (.t 27)))⟩]) rrises_20)
def rrises_18 : AC := (.block 3 rrises_19)
def rrises_17 : AC := (.seq rrises_18 (.ops [⟨(some 80), none, (.k (.bin .add (.t 25) (.c (.sc (.int .i64 1)))))⟩, ⟨(some 25), none, (.k (.mov (.t 80)))⟩]))
def rrises_16 : AC := (.seq (.cond (.t 26) .skip (.exit 2)) rrises_17)
def rrises_15 : AC := (.seq (.ops [⟨(some 26), none, (.k (.bin .lss (.t 25) (.t 24)))⟩]) rrises_16)
def rrises_14 : AC := (.loop rrises_15)
def rrises_13 : AC := (.block 2 rrises_14)
def rrises_12 : AC := (.seq (.ops [⟨(some 21), none, (.k (.fad 2 (.t 4)))⟩, ⟨(some 22), none, (.k (.ld 1 false (.t 21)))⟩, ⟨(some 23), none, (.k (.len (.t 22)))⟩, ⟨(some 24), none, (.k (.bin .sub (.t 23) (.c (.sc (.int .i64 1)))))⟩, ⟨(some 25), none, (.k (.mov (.c (.sc (.int .i64 0)))))⟩]) rrises_13)
def rrises_11 : AC := (.seq (.ops [⟨(some 18), none, (.k (.fad 0 (.t 4)))⟩, ⟨(some 19), none, (.k (.ld 1 false (.t 18)))⟩, ⟨(some 20), none, (.k (.bin .neq (.t 19) (.c (.sc (.int .i64 2)))))⟩]) (.cond (.t 20) (.exit 1) .skip))
def rrises_10 : AC := (.seq rrises_11 rrises_12)
def rrises_9 : AC := (.seq (.ops [⟨(some 15), none, (.k (.mov (.t 13)))⟩, ⟨(some 16), none, (.k (.iad 4 (.t 11) (.t 13)))⟩, ⟨(some 17), none, (.k (.ld 4 true (.t 16)))⟩, ⟨(some 4), none, (.k (.new 97 4 (.c (.agg [(.sc (.int .i64 0)), (.sc (.int .i64 0)), (.imm true none 0 []), (.imm true none 0 [])]))))⟩, ⟨(some 3), none, (.k (.mov (.t 15)))⟩, ⟨none, none, (.k (.st 4 (.t 4) (.t 17)))⟩]) rrises_10)
def rrises_8 : AC := (.block 1 rrises_9)
def rrises_7 : AC := (.seq rrises_8 (.ops [⟨(some 81), none, (.k (.bin .add (.t 13) (.c (.sc (.int .i64 1)))))⟩, ⟨(some 13), none, (.k (.mov (.t 81)))⟩]))
def rrises_6 : AC := (.seq (.cond (.t 14) .skip (.exit 0)) rrises_7)
def rrises_5 : AC := (.seq (.ops [⟨(some 14), none, (.k (.bin .lss (.t 13) (.t 12)))⟩]) rrises_6)
def rrises_4 : AC := (.loop rrises_5)
def rrises_3 : AC := (.block 0 rrises_4)
def rrises_2 : AC := (.seq (.ops [⟨(some 10), none, (.k (.fad 2 (.t 1)))⟩, ⟨(some 11), none, (.k (.ld 1 false (.t 10)))⟩, ⟨(some 12), none, (.k (.len (.t 11)))⟩, ⟨(some 13), none, (.k (.mov (.c (.sc (.int .i64 0)))))⟩]) rrises_3)
def rrises_1 : AC := (.seq rrises_2 (.seq (.ops [⟨(some 2), none, (.k (.mov (.c (.sc (.bool true)))))⟩]) .ret))
def rrises_ac : AC := (.seq (.ops [⟨(some 1), none, (.k (.new 52 4 (.t 0)))⟩, ⟨(some 2), none, (.k (.mov (.c (.sc (.bool false)))))⟩]) rrises_1)
theorem rrises_call {args : List AV} {H : List AObj} {R : AV → List AObj → Prop} (h : AWp Try.prog [] H.length rrises_ac (bodyQ H.length [(.t 2)] R) (args ++ List.replicate (82 - args.length) .und) H) : ACalls Try.prog 90 args H R :=
  ACalls.of_fn Try.func90 rfl (by kernel_rfl) rfl Try.ntmps90 h

set_option maxHeartbeats 4000000 in
theorem rrises_spec {sh f l v : AV} {S V : List Int} {F : List (Int × Int × Int)} {xs : List LvA} (hS : ISl sh S) (hF : Sp f F) (hl : Ls l xs) (hV : ISl v V) (hok : RiseOk xs) :
    ACalls Try.prog 90 [.agg [sh, f, l, v]] [] fun r H' => H' = [] ∧ r = Bo (riseF xs) := by
  obtain ⟨⟨nl, c, sz, rfl, hs⟩, hlen, hx⟩ := hl
  obtain ⟨⟨nl1, c01, sz1, rfl, hs1⟩, hlen1, hx1⟩ := hS
  obtain ⟨⟨nl2, c02, sz2, rfl, hs2⟩, hlen2, hx2⟩ := hF
  obtain ⟨⟨nl3, c3, sz3, rfl, hs3⟩, hlen3, hx3⟩ := hV
  have base : ACalls Try.prog 90 [.agg [.imm nl1 c01 sz1 (S.map I), .imm nl2 c02 sz2 (F.map specV), .imm nl c sz (xs.map lvV), .imm nl3 c3 sz3 (V.map I)]] [] fun r H' => r = Bo (riseF xs) := by
    apply rrises_call
    first | refine AWp.seq (AWp.ops ?_) | refine AWp.seq (AWp.seq (AWp.ops ?_)) | refine AWp.ops ?_ | refine AWp.seq (AWp.block (AWp.seq (AWp.ops ?_))) | refine AWp.seq (AWp.seq (AWp.seq (AWp.ops ?_))) | refine AWp.block (AWp.seq (AWp.ops ?_)) | refine AWp.block (AWp.seq (AWp.seq (AWp.ops ?_))) | refine AWp.seq (AWp.block (AWp.seq (AWp.seq (AWp.ops ?_))))
    simp
    first | refine AWp.seq (AWp.ops ?_) | refine AWp.seq (AWp.seq (AWp.ops ?_)) | refine AWp.ops ?_ | refine AWp.seq (AWp.block (AWp.seq (AWp.ops ?_))) | refine AWp.seq (AWp.seq (AWp.seq (AWp.ops ?_))) | refine AWp.block (AWp.seq (AWp.ops ?_)) | refine AWp.block (AWp.seq (AWp.seq (AWp.ops ?_))) | refine AWp.seq (AWp.block (AWp.seq (AWp.seq (AWp.ops ?_))))
    simp
    obtain ⟨J, hJ⟩ : ∃ J : Nat → List AV → List AObj → Prop, J = fun i fr H => i ≤ xs.length ∧ (riseF xs = riseF (xs.drop i)) ∧ H = [tnO (.agg [.imm nl1 c01 sz1 (S.map I), .imm nl2 c02 sz2 (F.map specV), .imm nl c sz (xs.map lvV), .imm nl3 c3 sz3 (V.map I)])] ∧
      fr = [.und, .ptr 0 1 0 0, .und, .und, .und, .und, .und, .und, .und, .und, .und, .imm nl c sz (xs.map lvV), I xs.length, I i, .und, .und, .und, .und, .und, .und, .und, .und, .und, .und, .und, .und, .und, .und, .und, .und, .und, .und, .und, .und, .und, .und, .und, .und, .und, .und, .und, .und, .und, .und, .und, .und, .und, .und, .und, .und, .und, .und, .und, .und, .und, .und, .und, .und, .und, .und, .und, .und, .und, .und, .und, .und, .und, .und, .und, .und, .und, .und, .und, .und, .und, .und, .und, .und, .und, .und, .und, .und] := ⟨_, rfl⟩
    refine AWp.block (AWp.loop J (fun i => xs.length - i) 0 (Weak.slots [1, 11, 12, 13]) (by rw [hJ]; exact ⟨by omega, rfl, by simp, by simp⟩) ?_)
    intro i fr H hI
    rw [hJ] at hI
    obtain ⟨hi, hinv, rfl, rfl⟩ := hI
    first | refine AWp.seq (AWp.ops ?_) | refine AWp.seq (AWp.seq (AWp.ops ?_)) | refine AWp.ops ?_ | refine AWp.seq (AWp.block (AWp.seq (AWp.ops ?_))) | refine AWp.seq (AWp.seq (AWp.seq (AWp.ops ?_))) | refine AWp.block (AWp.seq (AWp.ops ?_)) | refine AWp.block (AWp.seq (AWp.seq (AWp.ops ?_))) | refine AWp.seq (AWp.block (AWp.seq (AWp.seq (AWp.ops ?_))))
    simp
    refine AWp.seq (AWp.cond (b := decide (i < xs.length)) (by simp <;> omega) ?_ ?_)
    ·
      intro hb
      have hb : i < xs.length := by simpa using hb
      refine AWp.skip ?_
      simp only [qSeq]
      have hsz4 := sz4_of hs hb
      subst hsz4
      have hgs := lv_get hb
      have hlok := hx xs[i] (List.getElem_mem hb)
      have hri := hok i hb
      have hinv0 := hinv
      rw [List.drop_eq_getElem_cons hb] at hinv
      simp only [riseF] at hinv
      have hyx : xs.drop i = xs[i] :: xs.drop (i + 1) := List.drop_eq_getElem_cons hb
      generalize xs[i] = x at hgs hlok hri hinv hyx
      obtain ⟨⟨k, z, ps, cs⟩, p, q⟩ := x
      simp only at hgs hlok hri hinv
      obtain ⟨⟨⟨nlp, cp, szp, rfl, hsp⟩, hlp, hxp⟩, ⟨⟨nlq, cq, szq, rfl, hsq⟩, _⟩, _⟩ := hlok
      simp only at hlp hsp
      have hwi0 := wrap_i64 (n := (i : Int) + 1) (by omega) (by omega)
      first | refine AWp.seq (AWp.ops ?_) | refine AWp.seq (AWp.seq (AWp.ops ?_)) | refine AWp.ops ?_ | refine AWp.seq (AWp.block (AWp.seq (AWp.ops ?_))) | refine AWp.seq (AWp.seq (AWp.seq (AWp.ops ?_))) | refine AWp.block (AWp.seq (AWp.ops ?_)) | refine AWp.block (AWp.seq (AWp.seq (AWp.ops ?_))) | refine AWp.seq (AWp.block (AWp.seq (AWp.seq (AWp.ops ?_))))
      simp [hgs]
      by_cases k2 : k = 2
      case neg =>
        rw [if_neg k2] at hinv
        first | refine AWp.seq (AWp.ops ?_) | refine AWp.seq (AWp.seq (AWp.ops ?_)) | refine AWp.ops ?_ | refine AWp.seq (AWp.block (AWp.seq (AWp.ops ?_))) | refine AWp.seq (AWp.seq (AWp.seq (AWp.ops ?_))) | refine AWp.block (AWp.seq (AWp.ops ?_)) | refine AWp.block (AWp.seq (AWp.seq (AWp.ops ?_))) | refine AWp.seq (AWp.block (AWp.seq (AWp.seq (AWp.ops ?_))))
        simp
        refine AWp.cond (b := true) (by simp [k2]) (fun _ => ?_) (fun h => by cases h)
        refine AWp.exit ?_
        simp [qSeq, qBlock]
        first | refine AWp.seq (AWp.ops ?_) | refine AWp.seq (AWp.seq (AWp.ops ?_)) | refine AWp.ops ?_ | refine AWp.seq (AWp.block (AWp.seq (AWp.ops ?_))) | refine AWp.seq (AWp.seq (AWp.seq (AWp.ops ?_))) | refine AWp.block (AWp.seq (AWp.ops ?_)) | refine AWp.block (AWp.seq (AWp.seq (AWp.ops ?_))) | refine AWp.seq (AWp.block (AWp.seq (AWp.seq (AWp.ops ?_))))
        simp
        refine ⟨i + 1, _, _, (Weak.slots [1, 11, 12, 13]).trans (Weak.freeze 1 3 (by simp)), ?_, by omega⟩
        rw [hJ]
        refine ⟨by omega, ?_, by simp [frzH], by simp [wrap_i64 (n := (i : Int) + 1) (by omega) (by omega)]⟩
        exact hinv
      rw [if_pos k2] at hinv
      obtain ⟨hall, ⟨N, hN, hP⟩, hm, hno⟩ := hri k2
      rw [← hyx] at hinv
      obtain ⟨ys, hys⟩ : ∃ ys, ys = xs.drop i := ⟨_, rfl⟩
      rw [← hys] at hinv hall
      have hsub : ∀ y ∈ ys, y ∈ xs := fun y hy => List.mem_of_mem_drop (by rw [hys] at hy; exact hy)
      obtain ⟨hpl, -, -, -⟩ := id hP
      have hszp := sz_of hsp (i := 0) (by omega)
      subst hszp
      have w1 := wrap_i64 (n := (N : Int)) (by omega) (by omega)
      first | refine AWp.seq (AWp.ops ?_) | refine AWp.seq (AWp.seq (AWp.ops ?_)) | refine AWp.ops ?_ | refine AWp.seq (AWp.block (AWp.seq (AWp.ops ?_))) | refine AWp.seq (AWp.seq (AWp.seq (AWp.ops ?_))) | refine AWp.block (AWp.seq (AWp.ops ?_)) | refine AWp.block (AWp.seq (AWp.seq (AWp.ops ?_))) | refine AWp.seq (AWp.block (AWp.seq (AWp.seq (AWp.ops ?_))))
      simp
      refine AWp.cond (b := false) (by simp [k2]) (fun h => by cases h) (fun _ => ?_)
      refine AWp.skip ?_
      simp only [qSeq]
      first | refine AWp.seq (AWp.ops ?_) | refine AWp.seq (AWp.seq (AWp.ops ?_)) | refine AWp.ops ?_ | refine AWp.seq (AWp.block (AWp.seq (AWp.ops ?_))) | refine AWp.seq (AWp.seq (AWp.seq (AWp.ops ?_))) | refine AWp.block (AWp.seq (AWp.ops ?_)) | refine AWp.block (AWp.seq (AWp.seq (AWp.ops ?_))) | refine AWp.seq (AWp.block (AWp.seq (AWp.seq (AWp.ops ?_))))
      simp [hpl, w1]
      obtain ⟨JK, hJK⟩ : ∃ J : Nat → List AV → List AObj → Prop, J = fun iK fr H => iK ≤ N ∧ (∀ p < iK, ∀ q < cs.length, ps.getD p 0 < (q : Int) → (q : Int) < ps.getD (p + 1) 0 → lessF ys q = true) ∧ H = [tnO (.agg [.imm nl1 c01 sz1 (S.map I), .imm nl2 c02 sz2 (F.map specV), .imm nl c 4 (xs.map lvV), .imm nl3 c3 sz3 (V.map I)]), lvO (.agg [I k, I z, .imm nlp cp 1 (ps.map I), .imm nlq cq szq (cs.map I)])] ∧
        fr = [.und, .ptr 0 1 0 0, .und, I i, .ptr 1 1 0 0, .und, .und, .und, .und, .und, .und, .imm nl c 4 (xs.map lvV), I xs.length, I i, .und, .und, .und, .und, .und, .und, .und, .und, .und, .und, I N, I iK, .und, .und, .und, .und, .und, .und, .und, .und, .und, .und, .und, .und, .und, .und, .und, .und, .und, .und, .und, .und, .und, .und, .und, .und, .und, .und, .und, .und, .und, .und, .und, .und, .und, .und, .und, .und, .und, .und, .und, .und, .und, .und, .und, .und, .und, .und, .und, .und, .und, .und, .und, .und, .und, .und, .und, .und] := ⟨_, rfl⟩
      refine AWp.block (AWp.loop JK (fun iK => N - iK) 0 (Weak.slots [1, 3, 4, 11, 12, 13, 24, 25]) (by rw [hJK]; exact ⟨by omega, fun p hp => by omega, by simp, by simp⟩) ?_)
      intro iK fr H hI
      rw [hJK] at hI
      obtain ⟨hiK, hinvK, rfl, rfl⟩ := hI
      first | refine AWp.seq (AWp.ops ?_) | refine AWp.seq (AWp.seq (AWp.ops ?_)) | refine AWp.ops ?_ | refine AWp.seq (AWp.block (AWp.seq (AWp.ops ?_))) | refine AWp.seq (AWp.seq (AWp.seq (AWp.ops ?_))) | refine AWp.block (AWp.seq (AWp.ops ?_)) | refine AWp.block (AWp.seq (AWp.seq (AWp.ops ?_))) | refine AWp.seq (AWp.block (AWp.seq (AWp.seq (AWp.ops ?_))))
      simp
      refine AWp.seq (AWp.cond (b := decide (iK < N)) (by simp <;> omega) ?_ ?_)
      ·
        intro hb
        have hb : iK < N := by simpa using hb
        refine AWp.skip ?_
        simp only [qSeq]
        obtain ⟨f, t, hf', ht', hft, htc⟩ := hP.at hb
        have hbp : iK < ps.length := by omega
        have hbp1 : iK + 1 < ps.length := by omega
        have ef : ps[iK] = f := by simpa [hbp] using hf'
        have et : ps[iK + 1] = t := by simpa [hbp1] using ht'
        have hwi := wrap_i64 (n := (iK : Int) + 1) (by omega) (by omega)
        have hwf := wrap_i64 (n := (f : Int) + 1) (by omega) (by omega)
        have gi : (0 : Int) ≤ (iK : Int) + 1 := by omega
        have gi2 : ((iK : Int) + 1).toNat = iK + 1 := by omega
        first | refine AWp.seq (AWp.ops ?_) | refine AWp.seq (AWp.seq (AWp.ops ?_)) | refine AWp.ops ?_ | refine AWp.seq (AWp.block (AWp.seq (AWp.ops ?_))) | refine AWp.seq (AWp.seq (AWp.seq (AWp.ops ?_))) | refine AWp.block (AWp.seq (AWp.ops ?_)) | refine AWp.block (AWp.seq (AWp.seq (AWp.ops ?_))) | refine AWp.seq (AWp.block (AWp.seq (AWp.seq (AWp.ops ?_))))
        simp
        first | refine AWp.seq (AWp.ops ?_) | refine AWp.seq (AWp.seq (AWp.ops ?_)) | refine AWp.ops ?_ | refine AWp.seq (AWp.block (AWp.seq (AWp.ops ?_))) | refine AWp.seq (AWp.seq (AWp.seq (AWp.ops ?_))) | refine AWp.block (AWp.seq (AWp.ops ?_)) | refine AWp.block (AWp.seq (AWp.seq (AWp.ops ?_))) | refine AWp.seq (AWp.block (AWp.seq (AWp.seq (AWp.ops ?_))))
        simp [hbp, ef, hwf]
        obtain ⟨J2, hJ2⟩ : ∃ J2 : Nat → List AV → List AObj → Prop, J2 = fun j fr H => (∀ q : Nat, f < q → q < f + 1 + j → q < cs.length → lessF ys q = true) ∧
          H = [tnO (.agg [.imm nl1 c01 sz1 (S.map I), .imm nl2 c02 sz2 (F.map specV), .imm nl c 4 (xs.map lvV), .imm nl3 c3 sz3 (V.map I)]), lvO (.agg [I k, I z, .imm nlp cp 1 (ps.map I), .imm nlq cq szq (cs.map I)])] ∧
          fr = [.und, .ptr 0 1 0 0, .und, I i, .ptr 1 1 0 0, I iK, I ((f + 1 + j : Nat) : Int), .und, .und, .und, .und, .imm nl c 4 (xs.map lvV), I xs.length, I i, .und, .und, .und, .und, .und, .und, .und, .und, .und, .und, I N, I iK, .und, .und, .und, .und, .und, .und, .und, .und, .und, .und, .und, .und, .und, .und, .und, .und, .und, .und, .und, .und, .und, .und, .und, .und, .und, .und, .und, .und, .und, .und, .und, .und, .und, .und, .und, .und, .und, .und, .und, .und, .und, .und, .und, .und, .und, .und, .und, .und, .und, .und, .und, .und, .und, .und, .und, .und] := ⟨_, rfl⟩
        refine AWp.block (AWp.loop J2 (fun j => t - j) 0 (Weak.slots [1, 3, 4, 5, 6, 11, 12, 13, 24, 25]) (by
          rw [hJ2]
          exact ⟨fun q h1 h2 => by omega, by simp [k2], by simp⟩) ?_)
        intro j fr H hI
        rw [hJ2] at hI
        obtain ⟨hin, rfl, rfl⟩ := hI
        obtain ⟨q, hq⟩ : ∃ q : Nat, q = f + 1 + j := ⟨_, rfl⟩
        rw [← hq] at hin ⊢
        first | refine AWp.seq (AWp.ops ?_) | refine AWp.seq (AWp.seq (AWp.ops ?_)) | refine AWp.ops ?_ | refine AWp.seq (AWp.block (AWp.seq (AWp.ops ?_))) | refine AWp.seq (AWp.seq (AWp.seq (AWp.ops ?_))) | refine AWp.block (AWp.seq (AWp.ops ?_)) | refine AWp.block (AWp.seq (AWp.seq (AWp.ops ?_))) | refine AWp.seq (AWp.block (AWp.seq (AWp.seq (AWp.ops ?_))))
        simp [hbp1, hwi, gi, gi2, et]
        refine AWp.cond (b := decide (q < t)) (by simp) ?_ ?_
        · intro h0
          have h0 : q < t := by simpa using h0
          have wq := wrap_i64 (n := (q : Int) + 1) (by omega) (by omega)
          have wq1 := wrap_i64 (n := (q : Int) - 1) (by omega) (by omega)
          have c1 : q < cs.length := by omega
          have g1 : (1 : Int) ≤ q := by omega
          have g2 : ((q : Int) - 1).toNat = q - 1 := by omega
          refine AWp.skip ?_
          simp only [qSeq]
          first | refine AWp.seq (AWp.ops ?_) | refine AWp.seq (AWp.seq (AWp.ops ?_)) | refine AWp.ops ?_ | refine AWp.seq (AWp.block (AWp.seq (AWp.ops ?_))) | refine AWp.seq (AWp.seq (AWp.seq (AWp.ops ?_))) | refine AWp.block (AWp.seq (AWp.ops ?_)) | refine AWp.block (AWp.seq (AWp.seq (AWp.ops ?_))) | refine AWp.seq (AWp.block (AWp.seq (AWp.seq (AWp.ops ?_))))
          simp
          refine AWp.cut [.und, .ptr 0 1 0 0, .und, I i, .ptr 1 1 0 0, I iK, I q, Bo (lessF ys q), .und, .und, .und, .imm nl c 4 (xs.map lvV), I xs.length, I i, .und, .und, .und, .und, .und, .und, .und, .und, .und, .und, I N, I iK, .und, .und, .und, .und, .und, .und, .und, .und, .und, .und, .und, .und, .und, .und, .und, .und, .und, .und, .und, .und, .und, .und, .und, .und, .und, .und, .und, .und, .und, .und, .und, .und, .und, .und, .und, .und, .und, .und, .und, .und, .und, .und, .und, .und, .und, .und, .und, .und, .und, .und, .und, .und, .und, .und, .und, .und] [tnO (.agg [.imm nl1 c01 sz1 (S.map I), .imm nl2 c02 sz2 (F.map specV), .imm nl c 4 (xs.map lvV), .imm nl3 c3 sz3 (V.map I)]), lvO (.agg [I k, I z, .imm nlp cp 1 (ps.map I), .imm nlq cq szq (cs.map I)])] ?_ ?_
          · have hi' : (i : Int) ≤ xs.length := by omega
            have hdr : List.drop i (xs.map lvV) = ys.map lvV := by rw [hys, List.map_drop]
            have hyl : xs.length - i = ys.length := by rw [hys, List.length_drop]
            have e2 : (if i = 0 then xs.map lvV else List.take ys.length (ys.map lvV)) = ys.map lvV := by
              split
              · rename_i h
                rw [hys, h]; rfl
              · exact List.take_of_length_le (by simp)
            obtain ⟨c', hc'⟩ : ∃ c', c' = Option.map (fun x => x - i) c := ⟨_, rfl⟩
            first | refine AWp.seq (AWp.ops ?_) | refine AWp.seq (AWp.seq (AWp.ops ?_)) | refine AWp.ops ?_ | refine AWp.seq (AWp.block (AWp.seq (AWp.ops ?_))) | refine AWp.seq (AWp.seq (AWp.seq (AWp.ops ?_))) | refine AWp.block (AWp.seq (AWp.ops ?_)) | refine AWp.block (AWp.seq (AWp.seq (AWp.ops ?_))) | refine AWp.seq (AWp.block (AWp.seq (AWp.seq (AWp.ops ?_))))
            simp [hi', hdr, hyl, e2, ← hc']
            obtain ⟨JL, hJL⟩ : ∃ J : Nat → List AV → List AObj → Prop, J = fun iL fr H => iL ≤ ys.length ∧ (lessF ys q = lessF (ys.drop iL) q) ∧ H = [tnO (.agg [.imm nl1 c01 sz1 (S.map I), .imm nl2 c02 sz2 (F.map specV), .imm nl c 4 (xs.map lvV), .imm nl3 c3 sz3 (V.map I)]), lvO (.agg [I k, I z, .imm nlp cp 1 (ps.map I), .imm nlq cq szq (cs.map I)])] ∧
              fr = [.und, .ptr 0 1 0 0, .und, I i, .ptr 1 1 0 0, I iK, I q, Bo false, .und, .und, .und, .imm nl c 4 (xs.map lvV), I xs.length, I i, .und, .und, .und, .und, .und, .und, .und, .und, .und, .und, I N, I iK, .und, .und, .und, .und, .und, .und, .und, .und, .und, .und, .und, .und, .und, .und, .und, .und, .und, .und, .und, .und, .und, .imm nl c' 4 (ys.map lvV), I ys.length, I iL, .und, .und, .und, .und, .und, .und, .und, .und, .und, .und, .und, .und, .und, .und, .und, .und, .und, .und, .und, .und, .und, .und, .und, .und, .und, .und, .und, .und, .und, .und, .und, .und] := ⟨_, rfl⟩
            refine AWp.block (AWp.loop JL (fun iL => ys.length - iL) 0 (Weak.slots [1, 3, 4, 5, 6, 7, 11, 12, 13, 24, 25, 47, 48, 49]) (by rw [hJL]; exact ⟨by omega, rfl, by simp, by simp⟩) ?_)
            intro iL fr H hI
            rw [hJL] at hI
            obtain ⟨hiL, hinvL, rfl, rfl⟩ := hI
            first | refine AWp.seq (AWp.ops ?_) | refine AWp.seq (AWp.seq (AWp.ops ?_)) | refine AWp.ops ?_ | refine AWp.seq (AWp.block (AWp.seq (AWp.ops ?_))) | refine AWp.seq (AWp.seq (AWp.seq (AWp.ops ?_))) | refine AWp.block (AWp.seq (AWp.ops ?_)) | refine AWp.block (AWp.seq (AWp.seq (AWp.ops ?_))) | refine AWp.seq (AWp.block (AWp.seq (AWp.seq (AWp.ops ?_))))
            simp
            refine AWp.seq (AWp.cond (b := decide (iL < ys.length)) (by simp <;> omega) ?_ ?_)
            ·
              intro hb
              have hb : iL < ys.length := by simpa using hb
              refine AWp.skip ?_
              simp only [qSeq]
              have hgL := lv_get hb
              have hokL := hx ys[iL] (hsub _ (List.getElem_mem hb))
              obtain ⟨hcl, hcr⟩ := hall ys[iL] (List.getElem_mem hb)
              rw [List.drop_eq_getElem_cons hb] at hinvL
              simp only [lessF] at hinvL
              generalize ys[iL] = y at hgL hokL hinvL hcl hcr
              obtain ⟨⟨ky, zy, psy, csy⟩, py, qy⟩ := y
              simp only at hgL hokL hinvL hcl hcr
              obtain ⟨⟨⟨nlpy, cpy, szpy, rfl, _⟩, _⟩, ⟨⟨nlqy, cqy, szqy, rfl, hsqy⟩, _⟩, _⟩ := hokL
              simp only at hsqy
              have b1 : q < csy.length := by omega
              have b2 : q - 1 < csy.length := by omega
              have hszq := sz_of hsqy b1
              subst hszq
              have q1 : csy.getD q 0 = csy[q] := by simp [b1]
              have q2 : csy.getD (q - 1) 0 = csy[q - 1] := by simp [b2]
              rw [q1, q2] at hinvL
              first | refine AWp.seq (AWp.ops ?_) | refine AWp.seq (AWp.seq (AWp.ops ?_)) | refine AWp.ops ?_ | refine AWp.seq (AWp.block (AWp.seq (AWp.ops ?_))) | refine AWp.seq (AWp.seq (AWp.seq (AWp.ops ?_))) | refine AWp.block (AWp.seq (AWp.ops ?_)) | refine AWp.block (AWp.seq (AWp.seq (AWp.ops ?_))) | refine AWp.seq (AWp.block (AWp.seq (AWp.seq (AWp.ops ?_))))
              simp [hgL]
              first | refine AWp.seq (AWp.ops ?_) | refine AWp.seq (AWp.seq (AWp.ops ?_)) | refine AWp.ops ?_ | refine AWp.seq (AWp.block (AWp.seq (AWp.ops ?_))) | refine AWp.seq (AWp.seq (AWp.seq (AWp.ops ?_))) | refine AWp.block (AWp.seq (AWp.ops ?_)) | refine AWp.block (AWp.seq (AWp.seq (AWp.ops ?_))) | refine AWp.seq (AWp.block (AWp.seq (AWp.seq (AWp.ops ?_))))
              simp [b1, b2, g1, g2, wq1]
              by_cases he : csy[q] = csy[q - 1]
              · rw [if_pos he] at hinvL
                refine AWp.cond (b := false) (by simp [he]) (fun h => by cases h) (fun _ => ?_)
                refine AWp.skip ?_
                simp only [qSeq, qBlock]
                first | refine AWp.seq (AWp.ops ?_) | refine AWp.seq (AWp.seq (AWp.ops ?_)) | refine AWp.ops ?_ | refine AWp.seq (AWp.block (AWp.seq (AWp.ops ?_))) | refine AWp.seq (AWp.seq (AWp.seq (AWp.ops ?_))) | refine AWp.block (AWp.seq (AWp.ops ?_)) | refine AWp.block (AWp.seq (AWp.seq (AWp.ops ?_))) | refine AWp.seq (AWp.block (AWp.seq (AWp.seq (AWp.ops ?_))))
                simp
                refine ⟨iL + 1, _, _, (Weak.slots [1, 3, 4, 5, 6, 7, 11, 12, 13, 24, 25, 47, 48, 49]).trans (Weak.freeze 2 3 (by simp)), ?_, by omega⟩
                rw [hJL]
                refine ⟨by omega, ?_, by simp [frzH], by simp [wrap_i64 (n := (iL : Int) + 1) (by omega) (by omega)]⟩
                exact hinvL
              · rw [if_neg he] at hinvL
                refine AWp.cond (b := true) (by simp; omega) (fun _ => ?_) (fun h => by cases h)
                first | refine AWp.seq (AWp.ops ?_) | refine AWp.seq (AWp.seq (AWp.ops ?_)) | refine AWp.ops ?_ | refine AWp.seq (AWp.block (AWp.seq (AWp.ops ?_))) | refine AWp.seq (AWp.seq (AWp.seq (AWp.ops ?_))) | refine AWp.block (AWp.seq (AWp.ops ?_)) | refine AWp.block (AWp.seq (AWp.seq (AWp.ops ?_))) | refine AWp.seq (AWp.block (AWp.seq (AWp.seq (AWp.ops ?_))))
                simp [b1, b2, g1, g2, wq1]
                refine AWp.exit ?_
                simp [qSeq, qBlock]
                exact ((Weak.slots [1, 3, 4, 5, 6, 7, 11, 12, 13, 24, 25]).trans (Weak.freeze 2 3 (by simp))).to (by simp [hinvL]) (by simp [frzH])
            ·
              intro hb
              have hb : ¬ iL < ys.length := by simpa using hb
              refine AWp.exit ?_
              simp [qSeq, qBlock]
              rw [List.drop_eq_nil_of_le (by omega)] at hinvL
              exact (Weak.slots [1, 3, 4, 5, 6, 7, 11, 12, 13, 24, 25]).to (by simp [hinvL, lessF]) (by simp)
          cases hls : lessF ys q with
          | false =>
            first | refine AWp.seq (AWp.ops ?_) | refine AWp.seq (AWp.seq (AWp.ops ?_)) | refine AWp.ops ?_ | refine AWp.seq (AWp.block (AWp.seq (AWp.ops ?_))) | refine AWp.seq (AWp.seq (AWp.seq (AWp.ops ?_))) | refine AWp.block (AWp.seq (AWp.ops ?_)) | refine AWp.block (AWp.seq (AWp.seq (AWp.ops ?_))) | refine AWp.seq (AWp.block (AWp.seq (AWp.seq (AWp.ops ?_))))
            simp
            refine AWp.cond (b := true) (by simp) (fun _ => ?_) (fun h => by cases h)
            first | refine AWp.seq (AWp.ops ?_) | refine AWp.seq (AWp.seq (AWp.ops ?_)) | refine AWp.ops ?_ | refine AWp.seq (AWp.block (AWp.seq (AWp.ops ?_))) | refine AWp.seq (AWp.seq (AWp.seq (AWp.ops ?_))) | refine AWp.block (AWp.seq (AWp.ops ?_)) | refine AWp.block (AWp.seq (AWp.seq (AWp.ops ?_))) | refine AWp.seq (AWp.block (AWp.seq (AWp.seq (AWp.ops ?_))))
            simp
            refine AWp.ret ?_
            simp
            refine retOk.of rfl ?_
            have : ¬ RiseT ys ps cs.length := fun hR => by
              have := hR iK (by omega) q c1 (by omega) (by omega)
              rw [hls] at this; cases this
            rw [hinv]
            simp [this]
          | true =>
            first | refine AWp.seq (AWp.ops ?_) | refine AWp.seq (AWp.seq (AWp.ops ?_)) | refine AWp.ops ?_ | refine AWp.seq (AWp.block (AWp.seq (AWp.ops ?_))) | refine AWp.seq (AWp.seq (AWp.seq (AWp.ops ?_))) | refine AWp.block (AWp.seq (AWp.ops ?_)) | refine AWp.block (AWp.seq (AWp.seq (AWp.ops ?_))) | refine AWp.seq (AWp.block (AWp.seq (AWp.seq (AWp.ops ?_))))
            simp
            refine AWp.cond (b := false) (by simp) (fun h => by cases h) (fun _ => ?_)
            refine AWp.skip ?_
            simp only [qSeq, qBlock]
            first | refine AWp.seq (AWp.ops ?_) | refine AWp.seq (AWp.seq (AWp.ops ?_)) | refine AWp.ops ?_ | refine AWp.seq (AWp.block (AWp.seq (AWp.ops ?_))) | refine AWp.seq (AWp.seq (AWp.seq (AWp.ops ?_))) | refine AWp.block (AWp.seq (AWp.ops ?_)) | refine AWp.block (AWp.seq (AWp.seq (AWp.ops ?_))) | refine AWp.seq (AWp.block (AWp.seq (AWp.seq (AWp.ops ?_))))
            simp [wq]
            refine ⟨j + 1, _, _, Weak.slots [1, 3, 4, 5, 6, 11, 12, 13, 24, 25], ?_, by omega⟩
            rw [hJ2]
            refine ⟨fun q' h1 h2 h3 => ?_, by simp, by simp; omega⟩
            by_cases e : q' = q
            · rw [e]; exact hls
            · exact hin q' h1 (by omega) h3
        · intro h0
          have h0 : ¬ q < t := by simpa using h0
          refine AWp.exit ?_
          simp [qSeq, qBlock]
          first | refine AWp.seq (AWp.ops ?_) | refine AWp.seq (AWp.seq (AWp.ops ?_)) | refine AWp.ops ?_ | refine AWp.seq (AWp.block (AWp.seq (AWp.ops ?_))) | refine AWp.seq (AWp.seq (AWp.seq (AWp.ops ?_))) | refine AWp.block (AWp.seq (AWp.ops ?_)) | refine AWp.block (AWp.seq (AWp.seq (AWp.ops ?_))) | refine AWp.seq (AWp.block (AWp.seq (AWp.seq (AWp.ops ?_))))
          simp
          refine ⟨iK + 1, _, _, Weak.slots [1, 3, 4, 11, 12, 13, 24, 25], ?_, by omega⟩
          rw [hJK]
          refine ⟨by omega, ?_, by simp, by simp [wrap_i64 (n := (iK : Int) + 1) (by omega) (by omega)]⟩
          intro p hp q' hq' h1 h2
          by_cases e : p = iK
          · subst e
            rw [hf'] at h1
            rw [ht'] at h2
            exact hin q' (by omega) (by omega) hq'
          · exact hinvK p (by omega) q' hq' h1 h2
      ·
        intro hb
        have hb : ¬ iK < N := by simpa using hb
        refine AWp.exit ?_
        simp [qSeq, qBlock]
        first | refine AWp.seq (AWp.ops ?_) | refine AWp.seq (AWp.seq (AWp.ops ?_)) | refine AWp.ops ?_ | refine AWp.seq (AWp.block (AWp.seq (AWp.ops ?_))) | refine AWp.seq (AWp.seq (AWp.seq (AWp.ops ?_))) | refine AWp.block (AWp.seq (AWp.ops ?_)) | refine AWp.block (AWp.seq (AWp.seq (AWp.ops ?_))) | refine AWp.seq (AWp.block (AWp.seq (AWp.seq (AWp.ops ?_))))
        simp [hwi0]
        have hT : RiseT ys ps cs.length := fun p hp => hinvK p (by omega)
        have hno' : riseF (xs.drop (i + 1)) = true := riseF_none fun y hy => by simpa using hno y hy
        refine ⟨i + 1, _, _, (Weak.slots [1, 11, 12, 13]).trans (Weak.freeze 1 3 (by simp)), ?_, by omega⟩
        rw [hJ]
        refine ⟨by omega, ?_, by simp [frzH], by simp⟩
        rw [hno', hinv]
        simp [hT]
    ·
      intro hb
      have hb : ¬ i < xs.length := by simpa using hb
      refine AWp.exit ?_
      simp [qSeq, qBlock]
      rw [List.drop_eq_nil_of_le (by omega)] at hinv
      first | refine AWp.seq (AWp.ops ?_) | refine AWp.seq (AWp.seq (AWp.ops ?_)) | refine AWp.ops ?_ | refine AWp.seq (AWp.block (AWp.seq (AWp.ops ?_))) | refine AWp.seq (AWp.seq (AWp.seq (AWp.ops ?_))) | refine AWp.block (AWp.seq (AWp.ops ?_)) | refine AWp.block (AWp.seq (AWp.seq (AWp.ops ?_))) | refine AWp.seq (AWp.block (AWp.seq (AWp.seq (AWp.ops ?_))))
      simp
      refine AWp.ret ?_
      simp
      refine retOk.of rfl ?_
      rw [hinv]; simp [riseF]
  refine (base.frozen 2).mono ?_
  rintro q H' ⟨rfl, r, G, rfl, rfl⟩
  exact ⟨rfl, by simp⟩
end Go.Fw
