import Derived.Test.YthipbeffhfdamaaFwstore6
namespace Go.Fw
open Go Go.RowKit Go.Proofs
set_option maxRecDepth 100000
set_option linter.unusedSimpArgs false
set_option linter.unusedVariables false

def countsF (S : List Int) (F : List (Int × Int × Int)) (xs : List LvA) (V : List Int) : List Int × Int :=
  if tnCheck S F xs V ≠ 0 then ([], tnCheck S F xs V) else ((cntF xs).1, 0)
theorem tnCheck_ok {S : List Int} {F : List (Int × Int × Int)} {xs : List LvA} {V : List Int} (h : tnCheck S F xs V = 0) :
    (sizesF S F).2 = 0 ∧ xs.length = F.length ∧ fitF xs F (sizesF S F).1 = true ∧ (cntF xs).2 = 0 ∧ (V.length : Int) = lastF (cntF xs).1 ∧ riseF xs = true := by
  unfold tnCheck at h
  split at h
  · exact absurd h ‹_›
  split at h
  · cases h
  split at h
  · cases h
  split at h
  · exact absurd h ‹_›
  split at h
  · cases h
  rename_i a b c d e
  refine ⟨by omega, by omega, by simpa using c, by omega, ?_, ?_⟩
  · by_cases h : (V.length : Int) = lastF (cntF xs).1
    · exact h
    · exact absurd (.inl h) e
  · cases h : riseF xs with
    | true => rfl
    | false => exact absurd (.inr h) e

def sCounts_6 : AC := (.seq (.ops [⟨(some 10), none, (.k (.ld 4 true (.t 1)))⟩, ⟨(some 11), none, (.call false (.c (.fn (.func 38) [] [])) [(.t 10)])⟩, ⟨(some 12), none, (.k (.ext (.t 11) 0))⟩, ⟨(some 13), none, (.k (.ext (.t 11) 1))⟩, ⟨(some 2), none, (.k (.mov (.t 12)))⟩, ⟨(some 3), none, (.k (.mov (.t 13)))⟩]) .ret)
def sCounts_5 : AC := (.seq (.ops [⟨(some 9), none, (.k (.mov (.t 4)))⟩, ⟨(some 2), none, (.k (.mov (.c (.imm true none 0 []))))⟩, ⟨(some 3), none, (.k (.mov (.t 9)))⟩]) .ret)
def sCounts_4 : AC := (.cond (.t 8) sCounts_5 .skip)
def sCounts_3 : AC := (.seq (.ops [⟨(some 7), none, (.k (.mov (.t 4)))⟩, ⟨(some 8), none, (.k (.bin .neq (.t 7) (.c (.sc (.int .i64 0)))))⟩]) sCounts_4)
def sCounts_2 : AC := (.seq (.ops [⟨(some 5), none, (.k (.ld 4 true (.t 1)))⟩, ⟨(some 6), none, (.call false (.c (.fn (.func 11) [] [])) [(.t 5)])⟩, ⟨(some 4), none, (.k (.mov (.t 6)))⟩]) sCounts_3)
def sCounts_1 : AC := (.seq sCounts_2 sCounts_6)
def sCounts_ac : AC := (.seq (.ops [⟨(some 1), none, (.k (.new 27 4 (.t 0)))⟩, ⟨(some 2), none, (.k (.mov (.c (.imm true none 0 []))))⟩, ⟨(some 3), none, (.k (.mov (.c (.sc (.int .i64 0)))))⟩]) sCounts_1)
theorem sCounts_call {args : List AV} {H : List AObj} {R : AV → List AObj → Prop} (h : AWp Try.prog [] H.length sCounts_ac (bodyQ H.length [(.t 2), (.t 3)] R) (args ++ List.replicate (14 - args.length) .und) H) : ACalls Try.prog 18 args H R :=
  ACalls.of_fn Try.func18 rfl (by kernel_rfl) rfl Try.ntmps18 h

theorem sCounts_spec {sh f l v : AV} {S V : List Int} {F : List (Int × Int × Int)} {xs : List LvA} (hS : ISl sh S) (hF : Sp f F) (hl : Ls l xs) (hV : ISl v V) (hn : xs.length ≤ 1000) (hfn : F.length ≤ 1000) :
    ACalls Try.prog 18 [.agg [sh, f, l, v]] [] fun r H' => H' = [] ∧ ∃ o, r = .tup [o, I (countsF S F xs V).2] ∧ ISl o (countsF S F xs V).1 := by
  have hS' := hS
  have hF' := hF
  have hl' := hl
  have hV' := hV
  obtain ⟨⟨nl, c, sz, rfl, hs⟩, hlen, hx⟩ := hl
  obtain ⟨⟨nl1, c01, sz1, rfl, hs1⟩, hlen1, hx1⟩ := hS
  obtain ⟨⟨nl2, c02, sz2, rfl, hs2⟩, hlen2, hx2⟩ := hF
  obtain ⟨⟨nl3, c3, sz3, rfl, hs3⟩, hlen3, hx3⟩ := hV
  have base : ACalls Try.prog 18 [.agg [.imm nl1 c01 sz1 (S.map I), .imm nl2 c02 sz2 (F.map specV), .imm nl c sz (xs.map lvV), .imm nl3 c3 sz3 (V.map I)]] [] fun r H' => ∃ o, r = .tup [o, I (countsF S F xs V).2] ∧ ISl o (countsF S F xs V).1 := by
    apply sCounts_call
    repeat first | refine AWp.seq ?_ | refine AWp.block ?_
    refine AWp.ops ?_
    simp
    repeat first | refine AWp.seq ?_ | refine AWp.block ?_
    refine AWp.ops ?_
    simp
    refine ((sCheck_spec hS' hF' hl' hV' hn hfn).pure (by simp) (by rintro r rfl; simp) _).mono ?_
    rintro r H' ⟨rfl, rfl⟩
    simp
    repeat first | refine AWp.seq ?_ | refine AWp.block ?_
    refine AWp.ops ?_
    simp
    by_cases h : tnCheck S F xs V = 0
    · refine AWp.cond (b := false) (by simp [h]) (fun h => by cases h) (fun _ => ?_)
      refine AWp.skip ?_
      simp only [qSeq]
      repeat first | refine AWp.seq ?_ | refine AWp.block ?_
      refine AWp.ops ?_
      simp
      refine ((counted_spec hS' hF' hl' hV' hn).pure (by simp) (by rintro r ⟨o, rfl, ⟨⟨_, _, _, rfl, _⟩, _⟩⟩; simp) _).mono ?_
      rintro r H' ⟨rfl, o, rfl, hC⟩
      simp
      refine AWp.ret ?_
      simp
      refine retOk.of rfl ⟨o, ?_, ?_⟩
      · rw [countsF, if_neg (by omega), (tnCheck_ok h).2.2.2.1]; simp
      · rw [countsF, if_neg (by omega)]; exact hC
    · refine AWp.cond (b := true) (by simp [h]) (fun _ => ?_) (fun h => by cases h)
      repeat first | refine AWp.seq ?_ | refine AWp.block ?_
      refine AWp.ops ?_
      simp
      refine AWp.ret ?_
      simp
      refine retOk.of rfl ⟨.imm true none 0 [], ?_, ?_⟩
      · rw [countsF, if_pos h]; simp
      · rw [countsF, if_pos h]; exact ⟨⟨true, none, 0, rfl, by simp, by simp⟩, by simp, by simp⟩
  refine (base.frozen 2).mono ?_
  rintro q H' ⟨rfl, r, G, ⟨o, rfl, ho⟩, rfl⟩
  have ho' := ho
  obtain ⟨⟨nlz, cz, szz, rfl, hsz⟩, -⟩ := ho'
  exact ⟨rfl, _, by simp, ho⟩

end Go.Fw
