import Derived.Test.YtkfooghdpfhiaaaFwstore6
namespace Go.Fw
open Go Go.RowKit Go.Proofs
set_option maxRecDepth 100000
set_option linter.unusedSimpArgs false
set_option linter.unusedVariables false

def countsF (S : List Int) (F : List (Int × Int × Int)) (xs : List LvA) (V : List Int) : List Int × Int :=
  if tnCheck S F xs V ≠ 0 then ([], tnCheck S F xs V) else ((cntF xs).1, 0)
theorem tnCheck_ok {S : List Int} {F : List (Int × Int × Int)} {xs : List LvA} {V : List Int} (h : tnCheck S F xs V = 0) :
    (sizesF S F).2 = 0 ∧ xs.length = F.length ∧ fitF xs F (sizesF S F).1 = true ∧ (cntF xs).2 = 0 ∧ (V.length : Int) = lastF (cntF xs).1 ∧ riseF xs = true := by
  unfold tnCheck at h
  split at h
  · exact absurd h ‹_›
  split at h
  · cases h
  split at h
  · cases h
  split at h
  · exact absurd h ‹_›
  split at h
  · cases h
  rename_i a b c d e
  refine ⟨by omega, by omega, by simpa using c, by omega, ?_, ?_⟩
  · by_cases h : (V.length : Int) = lastF (cntF xs).1
    · exact h
    · exact absurd (.inl h) e
  · cases h : riseF xs with
    | true => rfl
    | false => exact absurd (.inr h) e

def sCounts_6 : AC := (.seq (.ops [⟨(some 10), none, (.k (.ld 4 true (.t 1)))⟩, ⟨(some 11), none, (.call false (.c (.fn (.func 82) [] [])) [(.t 10)])⟩, ⟨(some 12), none, (.k (.ext (.t 11) 0))⟩, ⟨(some 13), none, (.k (.ext (.t 11) 1))⟩, ⟨(some 2), none, (.k (.mov (.t 12)))⟩, ⟨(some 3), none, (.k (.mov (.t 13)))⟩]) .ret)
def sCounts_5 : AC := (.seq (.ops [⟨(some 9), none, (.k (.mov (.t 4)))⟩, ⟨(some 2), none, (.k (.mov (.c (.imm true none 0 []))))⟩, ⟨(some 3), none, (.k (.mov (.t 9)))⟩]) .ret)
def sCounts_4 : AC := (.cond (.t 8) sCounts_5 .skip)
def sCounts_3 : AC := (.seq (.ops [⟨(some 7), none, (.k (.mov (.t 4)))⟩, ⟨(some 8), none, (.k (.bin .neq (.t 7) (.c (.sc (.int .i64 0)))))⟩]) sCounts_4)
def sCounts_2 : AC := (.seq (.ops [⟨(some 5), none, (.k (.ld 4 true (.t 1)))⟩, ⟨(some 6), none, (.call false (.c (.fn (.func 81) [] [])) [(.t 5)])⟩, ⟨(some 4), none, (.k (.mov (.t 6)))⟩]) sCounts_3)
def sCounts_1 : AC := (.seq sCounts_2 sCounts_6)
def sCounts_ac : AC := (.seq (.ops [⟨(some 1), none, (.k (.new 52 4 (.t 0)))⟩, ⟨(some 2), none, (.k (.mov (.c (.imm true none 0 []))))⟩, ⟨(some 3), none, (.k (.mov (.c (.sc (.int .i64 0)))))⟩]) sCounts_1)
theorem sCounts_call {args : List AV} {H : List AObj} {R : AV → List AObj → Prop} (h : AWp Try.prog [] H.length sCounts_ac (bodyQ H.length [(.t 2), (.t 3)] R) (args ++ List.replicate (14 - args.length) .und) H) : ACalls Try.prog 68 args H R :=
  ACalls.of_fn Try.func68 rfl (by kernel_rfl) rfl Try.ntmps68 h

theorem sCounts_spec {sh f l v : AV} {S V : List Int} {F : List (Int × Int × Int)} {xs : List LvA} (hS : ISl sh S) (hF : Sp f F) (hl : Ls l xs) (hV : ISl v V) (hn : xs.length ≤ 1000) (hfn : F.length ≤ 1000) :
    ACalls Try.prog 68 [.agg [sh, f, l, v]] [] fun r H' => H' = [] ∧ ∃ o, r = .tup [o, I (countsF S F xs V).2] ∧ ISl o (countsF S F xs V).1 := by
  have hS' := hS
  have hF' := hF
  have hl' := hl
  have hV' := hV
  obtain ⟨⟨nl, c, sz, rfl, hs⟩, hlen, hx⟩ := hl
  obtain ⟨⟨nl1, c01, sz1, rfl, hs1⟩, hlen1, hx1⟩ := hS
  obtain ⟨⟨nl2, c02, sz2, rfl, hs2⟩, hlen2, hx2⟩ := hF
  obtain ⟨⟨nl3, c3, sz3, rfl, hs3⟩, hlen3, hx3⟩ := hV
  have base : ACalls Try.prog 68 [.agg [.imm nl1 c01 sz1 (S.map I), .imm nl2 c02 sz2 (F.map specV), .imm nl c sz (xs.map lvV), .imm nl3 c3 sz3 (V.map I)]] [] fun r H' => ∃ o, r = .tup [o, I (countsF S F xs V).2] ∧ ISl o (countsF S F xs V).1 := by
    apply sCounts_call
    first | refine AWp.seq (AWp.ops ?_) | refine AWp.seq (AWp.seq (AWp.ops ?_)) | refine AWp.ops ?_ | refine AWp.seq (AWp.block (AWp.seq (AWp.ops ?_))) | refine AWp.seq (AWp.seq (AWp.seq (AWp.ops ?_))) | refine AWp.block (AWp.seq (AWp.ops ?_)) | refine AWp.block (AWp.seq (AWp.seq (AWp.ops ?_))) | refine AWp.seq (AWp.block (AWp.seq (AWp.seq (AWp.ops ?_))))
    simp
    first | refine AWp.seq (AWp.ops ?_) | refine AWp.seq (AWp.seq (AWp.ops ?_)) | refine AWp.ops ?_ | refine AWp.seq (AWp.block (AWp.seq (AWp.ops ?_))) | refine AWp.seq (AWp.seq (AWp.seq (AWp.ops ?_))) | refine AWp.block (AWp.seq (AWp.ops ?_)) | refine AWp.block (AWp.seq (AWp.seq (AWp.ops ?_))) | refine AWp.seq (AWp.block (AWp.seq (AWp.seq (AWp.ops ?_))))
    simp
    refine ((sCheck_spec hS' hF' hl' hV' hn hfn).pure (by simp) (by rintro r rfl; simp) _).mono ?_
    rintro r H' ⟨rfl, rfl⟩
    simp
    first | refine AWp.seq (AWp.ops ?_) | refine AWp.seq (AWp.seq (AWp.ops ?_)) | refine AWp.ops ?_ | refine AWp.seq (AWp.block (AWp.seq (AWp.ops ?_))) | refine AWp.seq (AWp.seq (AWp.seq (AWp.ops ?_))) | refine AWp.block (AWp.seq (AWp.ops ?_)) | refine AWp.block (AWp.seq (AWp.seq (AWp.ops ?_))) | refine AWp.seq (AWp.block (AWp.seq (AWp.seq (AWp.ops ?_))))
    simp
    by_cases h : tnCheck S F xs V = 0
    · refine AWp.cond (b := false) (by simp [h]) (fun h => by cases h) (fun _ => ?_)
      refine AWp.skip ?_
      simp only [qSeq]
      first | refine AWp.seq (AWp.ops ?_) | refine AWp.seq (AWp.seq (AWp.ops ?_)) | refine AWp.ops ?_ | refine AWp.seq (AWp.block (AWp.seq (AWp.ops ?_))) | refine AWp.seq (AWp.seq (AWp.seq (AWp.ops ?_))) | refine AWp.block (AWp.seq (AWp.ops ?_)) | refine AWp.block (AWp.seq (AWp.seq (AWp.ops ?_))) | refine AWp.seq (AWp.block (AWp.seq (AWp.seq (AWp.ops ?_))))
      simp
      refine ((counted_spec hS' hF' hl' hV' hn).pure (by simp) (by rintro r ⟨o, rfl, ⟨⟨_, _, _, rfl, _⟩, _⟩⟩; simp) _).mono ?_
      rintro r H' ⟨rfl, o, rfl, hC⟩
      simp
      refine AWp.ret ?_
      simp
      refine retOk.of rfl ⟨o, ?_, ?_⟩
      · rw [countsF, if_neg (by omega), (tnCheck_ok h).2.2.2.1]; simp
      · rw [countsF, if_neg (by omega)]; exact hC
    · refine AWp.cond (b := true) (by simp [h]) (fun _ => ?_) (fun h => by cases h)
      first | refine AWp.seq (AWp.ops ?_) | refine AWp.seq (AWp.seq (AWp.ops ?_)) | refine AWp.ops ?_ | refine AWp.seq (AWp.block (AWp.seq (AWp.ops ?_))) | refine AWp.seq (AWp.seq (AWp.seq (AWp.ops ?_))) | refine AWp.block (AWp.seq (AWp.ops ?_)) | refine AWp.block (AWp.seq (AWp.seq (AWp.ops ?_))) | refine AWp.seq (AWp.block (AWp.seq (AWp.seq (AWp.ops ?_))))
      simp
      refine AWp.ret ?_
      simp
      refine retOk.of rfl ⟨.imm true none 0 [], ?_, ?_⟩
      · rw [countsF, if_pos h]; simp
      · rw [countsF, if_pos h]; exact ⟨⟨true, none, 0, rfl, by simp, by simp⟩, by simp, by simp⟩
  refine (base.frozen 2).mono ?_
  rintro q H' ⟨rfl, r, G, ⟨o, rfl, ho⟩, rfl⟩
  have ho' := ho
  obtain ⟨⟨nlz, cz, szz, rfl, hsz⟩, -⟩ := ho'
  exact ⟨rfl, _, by simp, ho⟩

/-- What is told of a tensor's counts. -/
def CountR (nm : ByteArray) (c : List Int × Int) (r : AV) : Prop := ∃ o, r = .tup [.agg [.sc (.string (if c.2 = 0 then nm else ByteArray.empty)), o], I c.2] ∧ ISl o c.1

def zCounts_6 : AC := (.seq (.ops [⟨(some 17), none, (.k (.mov (.t 0)))⟩, ⟨(some 18), none, (.k (.mov (.t 6)))⟩, ⟨(some 19), none, (.k (.mk [(.sc (.string ⟨#[]⟩)), (.imm true none 0 [])] [(0, (1, (.t 17))), (1, (1, (.t 18)))]))⟩, ⟨none, none, (.k (.st 2 (.t 4) (.t 19)))⟩, ⟨(some 5), none, (.k (.mov (.c (.sc (.int .i64 0)))))⟩]) .ret)
def zCounts_5 : AC := (.seq (.ops [⟨(some 15), none, (.k (.mk [(.sc (.string ⟨#[]⟩)), (.imm true none 0 [])] []))⟩, ⟨(some 16), none, (.k (.mov (.t 7)))⟩, ⟨none, none, (.k (.st 2 (.t 4) (.t 15)))⟩, ⟨(some 5), none, (.k (.mov (.t 16)))⟩]) .ret)
def zCounts_4 : AC := (.cond (.t 14) zCounts_5 .skip)
def zCounts_3 : AC := (.seq (.ops [⟨(some 13), none, (.k (.mov (.t 7)))⟩, ⟨(some 14), none, (.k (.bin .neq (.t 13) (.c (.sc (.int .i64 0)))))⟩]) zCounts_4)
def zCounts_2 : AC := (.seq zCounts_3 zCounts_6)
def zCounts_1 : AC := (.seq (.ops [⟨(some 9), none, (.k (.ld 4 true (.t 3)))⟩, ⟨(some 10), none, (.call false (.c (.fn (.func 68) [] [])) [(.t 9)])⟩, ⟨(some 8), none, (.k (.mov (.t 10)))⟩, ⟨(some 11), none, (.k (.ext (.t 8) 0))⟩, ⟨(some 12), none, (.k (.ext (.t 8) 1))⟩, ⟨(some 6), none, (.k (.mov (.t 11)))⟩, ⟨(some 7), none, (.k (.mov (.t 12)))⟩]) zCounts_2)
def zCounts_ac : AC := (.seq (.ops [⟨(some 3), none, (.k (.new 52 4 (.t 1)))⟩, ⟨(some 4), none, (.k (.new 57 2 (.c (.agg [(.sc (.string ⟨#[]⟩)), (.imm true none 0 [])]))))⟩, ⟨(some 5), none, (.k (.mov (.c (.sc (.int .i64 0)))))⟩]) zCounts_1)
theorem zCounts_call {args : List AV} {H : List AObj} {R : AV → List AObj → Prop} (h : AWp Try.prog [] H.length zCounts_ac (bodyQ H.length [(.cell 4 2 true), (.t 5)] R) (args ++ List.replicate (20 - args.length) .und) H) : ACalls Try.prog 34 args H R :=
  ACalls.of_fn Try.func34 rfl (by kernel_rfl) rfl Try.ntmps34 h

theorem zCounts_spec {nm : ByteArray} {sh f l v : AV} {S V : List Int} {F : List (Int × Int × Int)} {xs : List LvA} (hS : ISl sh S) (hF : Sp f F) (hl : Ls l xs) (hV : ISl v V) (hn : xs.length ≤ 1000) (hfn : F.length ≤ 1000) :
    ACalls Try.prog 34 [.sc (.string nm), .agg [sh, f, l, v]] [] fun r H' => H' = [] ∧ CountR nm (countsF S F xs V) r := by
  have hS' := hS
  have hF' := hF
  have hl' := hl
  have hV' := hV
  obtain ⟨⟨nl, c, sz, rfl, hs⟩, hlen, hx⟩ := hl
  obtain ⟨⟨nl1, c01, sz1, rfl, hs1⟩, hlen1, hx1⟩ := hS
  obtain ⟨⟨nl2, c02, sz2, rfl, hs2⟩, hlen2, hx2⟩ := hF
  obtain ⟨⟨nl3, c3, sz3, rfl, hs3⟩, hlen3, hx3⟩ := hV
  have base : ACalls Try.prog 34 [.sc (.string nm), .agg [.imm nl1 c01 sz1 (S.map I), .imm nl2 c02 sz2 (F.map specV), .imm nl c sz (xs.map lvV), .imm nl3 c3 sz3 (V.map I)]] [] fun r H' => CountR nm (countsF S F xs V) r := by
    apply zCounts_call
    first | refine AWp.seq (AWp.ops ?_) | refine AWp.seq (AWp.seq (AWp.ops ?_)) | refine AWp.ops ?_ | refine AWp.seq (AWp.block (AWp.seq (AWp.ops ?_))) | refine AWp.seq (AWp.seq (AWp.seq (AWp.ops ?_))) | refine AWp.block (AWp.seq (AWp.ops ?_)) | refine AWp.block (AWp.seq (AWp.seq (AWp.ops ?_))) | refine AWp.seq (AWp.block (AWp.seq (AWp.seq (AWp.ops ?_))))
    simp
    first | refine AWp.seq (AWp.ops ?_) | refine AWp.seq (AWp.seq (AWp.ops ?_)) | refine AWp.ops ?_ | refine AWp.seq (AWp.block (AWp.seq (AWp.ops ?_))) | refine AWp.seq (AWp.seq (AWp.seq (AWp.ops ?_))) | refine AWp.block (AWp.seq (AWp.ops ?_)) | refine AWp.block (AWp.seq (AWp.seq (AWp.ops ?_))) | refine AWp.seq (AWp.block (AWp.seq (AWp.seq (AWp.ops ?_))))
    simp
    refine ((sCounts_spec hS' hF' hl' hV' hn hfn).pure (by simp) (by rintro r ⟨o, rfl, ⟨⟨_, _, _, rfl, _⟩, _⟩⟩; simp) _).mono ?_
    rintro r H' ⟨rfl, o, rfl, hC⟩
    simp
    have hC' := hC
    obtain ⟨⟨nlz, cz, szz, rfl, hsz⟩, -⟩ := hC'
    first | refine AWp.seq (AWp.ops ?_) | refine AWp.seq (AWp.seq (AWp.ops ?_)) | refine AWp.ops ?_ | refine AWp.seq (AWp.block (AWp.seq (AWp.ops ?_))) | refine AWp.seq (AWp.seq (AWp.seq (AWp.ops ?_))) | refine AWp.block (AWp.seq (AWp.ops ?_)) | refine AWp.block (AWp.seq (AWp.seq (AWp.ops ?_))) | refine AWp.seq (AWp.block (AWp.seq (AWp.seq (AWp.ops ?_))))
    simp
    by_cases h : (countsF S F xs V).2 = 0
    · refine AWp.cond (b := false) (by simp [h]) (fun h => by cases h) (fun _ => ?_)
      refine AWp.skip ?_
      simp only [qSeq]
      first | refine AWp.seq (AWp.ops ?_) | refine AWp.seq (AWp.seq (AWp.ops ?_)) | refine AWp.ops ?_ | refine AWp.seq (AWp.block (AWp.seq (AWp.ops ?_))) | refine AWp.seq (AWp.seq (AWp.seq (AWp.ops ?_))) | refine AWp.block (AWp.seq (AWp.ops ?_)) | refine AWp.block (AWp.seq (AWp.seq (AWp.ops ?_))) | refine AWp.seq (AWp.block (AWp.seq (AWp.seq (AWp.ops ?_))))
      simp
      refine AWp.ret ?_
      simp
      refine retOk.of rfl ⟨_, ?_, hC⟩
      rw [if_pos h, h]; simp
    · refine AWp.cond (b := true) (by simp [h]) (fun _ => ?_) (fun h => by cases h)
      first | refine AWp.seq (AWp.ops ?_) | refine AWp.seq (AWp.seq (AWp.ops ?_)) | refine AWp.ops ?_ | refine AWp.seq (AWp.block (AWp.seq (AWp.ops ?_))) | refine AWp.seq (AWp.seq (AWp.seq (AWp.ops ?_))) | refine AWp.block (AWp.seq (AWp.ops ?_)) | refine AWp.block (AWp.seq (AWp.seq (AWp.ops ?_))) | refine AWp.seq (AWp.block (AWp.seq (AWp.seq (AWp.ops ?_))))
      simp
      refine AWp.ret ?_
      simp
      refine retOk.of rfl ⟨.imm true none 0 [], ?_, ?_⟩
      · rw [if_neg h]; simp; rfl
      · have : (countsF S F xs V).1 = [] := by
          unfold countsF at h ⊢
          split
          · rfl
          · rw [if_neg (by assumption)] at h; exact absurd rfl h
        rw [this]; exact ⟨⟨true, none, 0, rfl, by simp, by simp⟩, by simp, by simp⟩
  refine (base.frozen 3).mono ?_
  rintro q H' ⟨rfl, r, G, ⟨o, rfl, ho⟩, rfl⟩
  have ho' := ho
  obtain ⟨⟨nlz, cz, szz, rfl, hsz⟩, -⟩ := ho'
  exact ⟨rfl, _, by simp, ho⟩
end Go.Fw
