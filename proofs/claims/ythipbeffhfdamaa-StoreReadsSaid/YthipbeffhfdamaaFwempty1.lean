import Derived.Test.YthipbeffhfdamaaFwstore7
import Derived.Test.YthipbeffhfdamaaFwslices64
namespace Go.Fw
open Go Go.RowKit Go.Proofs
set_option maxRecDepth 100000
set_option linter.unusedSimpArgs false
set_option linter.unusedVariables false
def notZero_1 : AC := (.seq (.ops [.m 3 (.t 0), .o 4 (.bin .neq (.t 3) (.i 0)), .m 2 (.t 4)]) .ret)
def notZero_ac : AC := (.seq (.ops [.m 2 (.b false)]) notZero_1)
theorem notZero_call {args : List AV} {H : List AObj} {R : AV → List AObj → Prop} (h : AWp Try.prog [] H.length notZero_ac (bodyQ H.length [(.t 2)] R) (args ++ List.replicate (5 - args.length) .und) H) : ACalls Try.prog 56 args H R :=
  ACalls.of_fn Try.func56 rfl (by kernel_rfl) rfl Try.ntmps56 h
theorem notZero_spec (x : Int) : ACalls Try.prog 56 [I x] [] fun r H' => H' = [] ∧ r = Bo (x != 0) := by
  apply notZero_call
  repeat first | refine AWp.seq ?_ | refine AWp.block ?_
  refine AWp.ops ?_
  simp
  repeat first | refine AWp.seq ?_ | refine AWp.block ?_
  refine AWp.ops ?_
  simp
  refine AWp.ret ?_
  simp
  refine retOk.of rfl ⟨rfl, rfl⟩
def emptyF (S : List Int) (F : List (Int × Int × Int)) (xs : List LvA) (Vs : List Int) : Bool × Int :=
  if tnCheck S F xs Vs ≠ 0 then (false, tnCheck S F xs Vs) else (!Vs.any (fun x => x != 0), 0)
def sEmpty_6 : AC := (.seq (.ops [.o 10 (.fad 3 (.t 1)), .o 11 (.ld 1 false (.t 10)), .c 12 false (.f 55) [(.t 11), (.f 56)], .o 13 (.un .not (.t 12)), .m 2 (.t 13), .m 3 (.i 0)]) .ret)
def sEmpty_5 : AC := (.seq (.ops [.m 9 (.t 4), .m 2 (.b false), .m 3 (.t 9)]) .ret)
def sEmpty_4 : AC := (.cond (.t 8) sEmpty_5 .skip)
def sEmpty_3 : AC := (.seq (.ops [.m 7 (.t 4), .o 8 (.bin .neq (.t 7) (.i 0))]) sEmpty_4)
def sEmpty_2 : AC := (.seq (.ops [.o 5 (.ld 4 true (.t 1)), .c 6 false (.f 11) [(.t 5)], .m 4 (.t 6)]) sEmpty_3)
def sEmpty_1 : AC := (.seq sEmpty_2 sEmpty_6)
def sEmpty_ac : AC := (.seq (.ops [.o 1 (.new 27 4 (.t 0)), .m 2 (.b false), .m 3 (.i 0)]) sEmpty_1)
theorem sEmpty_call {args : List AV} {H : List AObj} {R : AV → List AObj → Prop} (h : AWp Try.prog [] H.length sEmpty_ac (bodyQ H.length [(.t 2), (.t 3)] R) (args ++ List.replicate (14 - args.length) .und) H) : ACalls Try.prog 24 args H R :=
  ACalls.of_fn Try.func24 rfl (by kernel_rfl) rfl Try.ntmps24 h
theorem sEmpty_spec {sh f l v : AV} {S Vs : List Int} {F : List (Int × Int × Int)} {xs : List LvA} (hS : ISl sh S) (hF : Sp f F) (hl : Ls l xs) (hV : ISl v Vs) (hn : xs.length ≤ 1000) (hfn : F.length ≤ 1000) :
    ACalls Try.prog 24 [.agg [sh, f, l, v]] [] fun r H' => H' = [] ∧ r = .tup [Bo (emptyF S F xs Vs).1, I (emptyF S F xs Vs).2] := by
  have hS' := hS
  have hF' := hF
  have hl' := hl
  have hV' := hV
  obtain ⟨⟨nl, cl, sz, rfl, hs⟩, hlen, hx⟩ := hl
  obtain ⟨⟨nl1, c01, sz1, rfl, hs1⟩, hlen1, hx1⟩ := hS
  obtain ⟨⟨nl2, c02, sz2, rfl, hs2⟩, hlen2, hx2⟩ := hF
  obtain ⟨⟨nl3, c3, sz3, rfl, hs3⟩, hlen3, hx3⟩ := hV
  have base : ACalls Try.prog 24 [.agg [.imm nl1 c01 sz1 (S.map I), .imm nl2 c02 sz2 (F.map specV), .imm nl cl sz (xs.map lvV), .imm nl3 c3 sz3 (Vs.map I)]] [] fun r _ => r = .tup [Bo (emptyF S F xs Vs).1, I (emptyF S F xs Vs).2] := by
    apply sEmpty_call
    repeat first | refine AWp.seq ?_ | refine AWp.block ?_
    refine AWp.ops ?_
    simp
    repeat first | refine AWp.seq ?_ | refine AWp.block ?_
    refine AWp.ops ?_
    simp
    refine ((sCheck_spec hS' hF' hl' hV' hn hfn).pure (by simp) (by rintro r rfl; simp) _).mono ?_
    rintro r H' ⟨rfl, rfl⟩
    simp
    repeat first | refine AWp.seq ?_ | refine AWp.block ?_
    refine AWp.ops ?_
    simp
    by_cases h : tnCheck S F xs Vs = 0
    case neg =>
      refine AWp.cond (b := true) (by simp [h]) (fun _ => ?_) (fun h => by cases h)
      repeat first | refine AWp.seq ?_ | refine AWp.block ?_
      refine AWp.ops ?_
      simp
      refine AWp.ret ?_
      simp
      refine retOk.of rfl ?_
      rw [emptyF, if_pos h]
      simp
    refine AWp.cond (b := false) (by simp [h]) (fun h => by cases h) (fun _ => ?_)
    refine AWp.skip ?_
    simp only [qSeq]
    repeat first | refine AWp.seq ?_ | refine AWp.block ?_
    refine AWp.ops ?_
    simp
    refine ((ContainsFunc64_spec hV' (fun x _ => notZero_spec x)).pure (by simp) (by rintro r rfl; simp) _).mono ?_
    rintro r H' ⟨rfl, rfl⟩
    simp
    refine AWp.ret ?_
    simp
    refine retOk.of rfl ?_
    rw [emptyF, if_neg (by omega)]
    simp
  refine (base.frozen 2).mono ?_
  rintro q' H' ⟨rfl, r, G, rfl, rfl⟩
  exact ⟨rfl, by simp⟩
end Go.Fw
