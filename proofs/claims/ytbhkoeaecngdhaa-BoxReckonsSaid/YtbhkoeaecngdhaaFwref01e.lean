import Derived.Test.YtbhkoeaecngdhaaFwadd1
namespace Go.Fw
open Go Go.RowKit Go.Proofs
set_option maxRecDepth 100000
set_option linter.unusedSimpArgs false
set_option linter.unusedVariables false

def twoF (D E : List Int × List Int) : Int := if checkF D ≠ 0 then checkF D else if checkF E ≠ 0 then checkF E else if D.1 ≠ E.1 then 4 else 0
theorem twoF_ok {D E : List Int × List Int} (h : twoF D E = 0) : checkF D = 0 ∧ checkF E = 0 ∧ D.1 = E.1 := by
  unfold twoF at h
  by_cases h1 : checkF D = 0
  · rw [if_neg (by simpa using h1)] at h
    by_cases h2 : checkF E = 0
    · rw [if_neg (by simpa using h2)] at h
      by_cases h3 : D.1 = E.1
      · exact ⟨h1, h2, h3⟩
      · rw [if_pos h3] at h; simp at h
    · rw [if_pos h2] at h; exact absurd h h2
  · rw [if_pos h1] at h; exact absurd h h1
theorem bothF_two {op : Int → Int → Int} {D E : List Int × List Int} (h : twoF D E ≠ 0) : bothF op D E = (([], []), twoF D E) := by
  unfold twoF at h ⊢
  unfold bothF
  split
  · rfl
  · rename_i h1
    rw [if_neg h1] at h
    split
    · rfl
    · rename_i h2
      rw [if_neg h2] at h
      split
      · rfl
      · rename_i h3
        rw [if_neg h3] at h
        exact absurd rfl h

def rTwo_8 : AC := (.seq (.ops [⟨(some 17), none, (.k (.fad 0 (.t 2)))⟩, ⟨(some 18), none, (.k (.ld 1 false (.t 17)))⟩, ⟨(some 19), none, (.k (.fad 0 (.t 3)))⟩, ⟨(some 20), none, (.k (.ld 1 false (.t 19)))⟩, ⟨(some 21), none, (.call false (.c (.fn (.func 18) [] [])) [(.t 18), (.t 20)])⟩, ⟨(some 22), none, (.k (.un .not (.t 21)))⟩]) (.cond (.t 22) (.seq (.ops [⟨(some 4), none, (.k (.mov (.c (.sc (.int .i64 4)))))⟩]) .ret) .skip))
def rTwo_7 : AC := (.seq rTwo_8 (.seq (.ops [⟨(some 4), none, (.k (.mov (.c (.sc (.int .i64 0)))))⟩]) .ret))
def rTwo_6 : AC := (.seq (.ops [⟨(some 14), none, (.k (.mov (.t 6)))⟩, ⟨(some 15), none, (.k (.bin .neq (.t 14) (.c (.sc (.int .i64 0)))))⟩]) (.cond (.t 15) (.seq (.ops [⟨(some 16), none, (.k (.mov (.t 6)))⟩, ⟨(some 4), none, (.k (.mov (.t 16)))⟩]) .ret) .skip))
def rTwo_5 : AC := (.seq (.ops [⟨(some 12), none, (.k (.ld 2 true (.t 3)))⟩, ⟨(some 13), none, (.call false (.c (.fn (.func 26) [] [])) [(.t 12)])⟩, ⟨(some 6), none, (.k (.mov (.t 13)))⟩]) rTwo_6)
def rTwo_4 : AC := (.seq rTwo_5 rTwo_7)
def rTwo_3 : AC := (.seq (.ops [⟨(some 9), none, (.k (.mov (.t 5)))⟩, ⟨(some 10), none, (.k (.bin .neq (.t 9) (.c (.sc (.int .i64 0)))))⟩]) (.cond (.t 10) (.seq (.ops [⟨(some 11), none, (.k (.mov (.t 5)))⟩, ⟨(some 4), none, (.k (.mov (.t 11)))⟩]) .ret) .skip))
def rTwo_2 : AC := (.seq (.ops [⟨(some 7), none, (.k (.ld 2 true (.t 2)))⟩, ⟨(some 8), none, (.call false (.c (.fn (.func 26) [] [])) [(.t 7)])⟩, ⟨(some 5), none, (.k (.mov (.t 8)))⟩]) rTwo_3)
def rTwo_1 : AC := (.seq rTwo_2 rTwo_4)
def rTwo_ac : AC := (.seq (.ops [⟨(some 2), none, (.k (.new 35 2 (.t 0)))⟩, ⟨(some 3), none, (.k (.new 35 2 (.t 1)))⟩, ⟨(some 4), none, (.k (.mov (.c (.sc (.int .i64 0)))))⟩]) rTwo_1)
theorem rTwo_call {args : List AV} {H : List AObj} {R : AV → List AObj → Prop} (h : AWp Try.prog [] H.length rTwo_ac (bodyQ H.length [(.t 4)] R) (args ++ List.replicate (23 - args.length) .und) H) : ACalls Try.prog 56 args H R :=
  ACalls.of_fn Try.func56 rfl (by kernel_rfl) rfl Try.ntmps56 h

theorem rTwo_spec {d e : AV} {D E : List Int × List Int} (hd : Dn d D) (he : Dn e E) : ACalls Try.prog 56 [d, e] [] fun r H' => H' = [] ∧ r = I (twoF D E) := by
  have hd' := hd
  have he' := he
  obtain ⟨xS, xs⟩ := D
  obtain ⟨yS, ys⟩ := E
  obtain ⟨s1, v1, rfl, hs1, ⟨⟨nl2, c2, z2, rfl, hz2⟩, hr2⟩⟩ := hd
  obtain ⟨s2, v2, rfl, hs2, ⟨⟨nl4, c4, z4, rfl, hz4⟩, hr4⟩⟩ := he
  have hs1' := hs1
  have hs2' := hs2
  obtain ⟨⟨nl1, c1, z1, rfl, hz1⟩, hr1⟩ := hs1
  obtain ⟨⟨nl3, c3, z3, rfl, hz3⟩, hr3⟩ := hs2
  simp only at hs1' hs2'
  refine ACalls.res 0 ?_ (fun _ => rfl)
  apply rTwo_call
  first | refine AWp.seq (AWp.ops ?_) | refine AWp.seq (AWp.seq (AWp.ops ?_)) | refine AWp.ops ?_ | refine AWp.seq (AWp.block (AWp.seq (AWp.ops ?_))) | refine AWp.seq (AWp.seq (AWp.seq (AWp.ops ?_)))
  simp
  first | refine AWp.seq (AWp.ops ?_) | refine AWp.seq (AWp.seq (AWp.ops ?_)) | refine AWp.ops ?_ | refine AWp.seq (AWp.block (AWp.seq (AWp.ops ?_))) | refine AWp.seq (AWp.seq (AWp.seq (AWp.ops ?_)))
  simp
  refine ((rCheck_spec hd').pure (by simp) (by rintro r rfl; simp) _).mono ?_
  rintro r H' ⟨rfl, rfl⟩
  simp
  first | refine AWp.seq (AWp.ops ?_) | refine AWp.seq (AWp.seq (AWp.ops ?_)) | refine AWp.ops ?_ | refine AWp.seq (AWp.block (AWp.seq (AWp.ops ?_))) | refine AWp.seq (AWp.seq (AWp.seq (AWp.ops ?_)))
  simp
  refine AWp.cond (b := checkF (xS, xs) != 0) (by simp) ?_ ?_
  · intro h
    have h : checkF (xS, xs) ≠ 0 := by simpa using h
    first | refine AWp.seq (AWp.ops ?_) | refine AWp.seq (AWp.seq (AWp.ops ?_)) | refine AWp.ops ?_ | refine AWp.seq (AWp.block (AWp.seq (AWp.ops ?_))) | refine AWp.seq (AWp.seq (AWp.seq (AWp.ops ?_)))
    simp
    refine AWp.ret ?_
    simp
    refine retOk.of rfl ?_
    simp [twoF, h]
  intro h
  have h : checkF (xS, xs) = 0 := by simpa using h
  refine AWp.skip ?_
  simp only [qSeq]
  first | refine AWp.seq (AWp.ops ?_) | refine AWp.seq (AWp.seq (AWp.ops ?_)) | refine AWp.ops ?_ | refine AWp.seq (AWp.block (AWp.seq (AWp.ops ?_))) | refine AWp.seq (AWp.seq (AWp.seq (AWp.ops ?_)))
  simp
  refine ((rCheck_spec he').pure (by simp) (by rintro r rfl; simp) _).mono ?_
  rintro r H' ⟨rfl, rfl⟩
  simp
  first | refine AWp.seq (AWp.ops ?_) | refine AWp.seq (AWp.seq (AWp.ops ?_)) | refine AWp.ops ?_ | refine AWp.seq (AWp.block (AWp.seq (AWp.ops ?_))) | refine AWp.seq (AWp.seq (AWp.seq (AWp.ops ?_)))
  simp
  refine AWp.cond (b := checkF (yS, ys) != 0) (by simp) ?_ ?_
  · intro h2
    have h2 : checkF (yS, ys) ≠ 0 := by simpa using h2
    first | refine AWp.seq (AWp.ops ?_) | refine AWp.seq (AWp.seq (AWp.ops ?_)) | refine AWp.ops ?_ | refine AWp.seq (AWp.block (AWp.seq (AWp.ops ?_))) | refine AWp.seq (AWp.seq (AWp.seq (AWp.ops ?_)))
    simp
    refine AWp.ret ?_
    simp
    refine retOk.of rfl ?_
    simp [twoF, h, h2]
  intro h2
  have h2 : checkF (yS, ys) = 0 := by simpa using h2
  refine AWp.skip ?_
  simp only [qSeq]
  first | refine AWp.seq (AWp.ops ?_) | refine AWp.seq (AWp.seq (AWp.ops ?_)) | refine AWp.ops ?_ | refine AWp.seq (AWp.block (AWp.seq (AWp.ops ?_))) | refine AWp.seq (AWp.seq (AWp.seq (AWp.ops ?_)))
  simp
  refine ((rEqual_spec hs1' hs2').pure (by simp) (by rintro r rfl; simp) _).mono ?_
  rintro r H' ⟨rfl, rfl⟩
  simp
  by_cases h3 : xS = yS
  · subst h3
    simp
    refine AWp.cond (b := false) (by simp) (fun h => by cases h) (fun _ => ?_)
    refine AWp.skip ?_
    simp only [qSeq]
    first | refine AWp.seq (AWp.ops ?_) | refine AWp.seq (AWp.seq (AWp.ops ?_)) | refine AWp.ops ?_ | refine AWp.seq (AWp.block (AWp.seq (AWp.ops ?_))) | refine AWp.seq (AWp.seq (AWp.seq (AWp.ops ?_)))
    simp
    refine AWp.ret ?_
    simp
    refine retOk.of rfl ?_
    simp [twoF, h, h2]
  · simp [h3]
    refine AWp.cond (b := true) (by simp) (fun _ => ?_) (fun h => by cases h)
    first | refine AWp.seq (AWp.ops ?_) | refine AWp.seq (AWp.seq (AWp.ops ?_)) | refine AWp.ops ?_ | refine AWp.seq (AWp.block (AWp.seq (AWp.ops ?_))) | refine AWp.seq (AWp.seq (AWp.seq (AWp.ops ?_)))
    simp
    refine AWp.ret ?_
    simp
    refine retOk.of rfl ?_
    simp [twoF, h, h2, h3]

def rAdd_16 : AC := (.seq (.ops [⟨(some 45), none, (.k (.ld 2 true (.t 7)))⟩, ⟨(some 46), none, (.k (.mov (.t 8)))⟩, ⟨none, none, (.k (.st 2 (.t 4) (.t 45)))⟩, ⟨(some 5), none, (.k (.mov (.t 46)))⟩]) .ret)
def rAdd_15 : AC := (.seq (.ops [⟨(some 28), none, (.k (.mov (.t 26)))⟩, ⟨(some 9), none, (.k (.mov (.t 28)))⟩]) (.ops [⟨(some 29), none, (.k (.fad 1 (.t 7)))⟩, ⟨(some 30), none, (.k (.ld 1 false (.t 29)))⟩, ⟨(some 31), none, (.k (.mov (.t 9)))⟩, ⟨(some 32), none, (.k (.fad 1 (.t 2)))⟩, ⟨(some 33), none, (.k (.ld 1 false (.t 32)))⟩, ⟨(some 34), none, (.k (.mov (.t 9)))⟩, ⟨(some 35), none, (.k (.iad 1 (.t 33) (.t 34)))⟩, ⟨(some 36), none, (.k (.ld 1 false (.t 35)))⟩, ⟨(some 37), none, (.k (.fad 1 (.t 3)))⟩, ⟨(some 38), none, (.k (.ld 1 false (.t 37)))⟩, ⟨(some 39), none, (.k (.mov (.t 9)))⟩, ⟨(some 40), none, (.k (.iad 1 (.t 38) (.t 39)))⟩, ⟨(some 41), none, (.k (.ld 1 false (.t 40)))⟩, ⟨(some 42), none, (.k (.bin .add (.t 36) (.t 41)))⟩, ⟨(some 43), none, (.k (.iad 1 (.t 30) (.t 31)))⟩, ⟨none, none, (.k (.st 1 (.t 43) (.t 42)))⟩]))
def rAdd_14 : AC := (.block 1 rAdd_15)
def rAdd_13 : AC := (.seq rAdd_14 (.ops [⟨(some 44), none, (.k (.bin .add (.t 26) (.c (.sc (.int .i64 1)))))⟩, ⟨(some 26), none, (.k (.mov (.t 44)))⟩]))
def rAdd_12 : AC := (.seq (.cond (.t 27) .skip (.exit 0)) rAdd_13)
def rAdd_11 : AC := (.seq (.ops [⟨(some 27), none, (.k (.bin .lss (.t 26) (.t 25)))⟩]) rAdd_12)
def rAdd_10 : AC := (.loop rAdd_11)
def rAdd_9 : AC := (.block 0 rAdd_10)
def rAdd_8 : AC := (.seq (.ops [⟨(some 23), none, (.k (.fad 1 (.t 7)))⟩, ⟨(some 24), none, (.k (.ld 1 false (.t 23)))⟩, ⟨(some 25), none, (.k (.len (.t 24)))⟩, ⟨(some 26), none, (.k (.mov (.c (.sc (.int .i64 0)))))⟩]) rAdd_9)
def rAdd_7 : AC := (.seq rAdd_8 rAdd_16)
def rAdd_6 : AC := (.seq (.ops [⟨(some 18), none, (.k (.fad 0 (.t 2)))⟩, ⟨(some 19), none, (.k (.ld 1 false (.t 18)))⟩, ⟨(some 20), none, (.call false (.c (.fn (.func 21) [] [])) [(.t 19)])⟩, ⟨(some 17), none, (.k (.mov (.t 20)))⟩, ⟨(some 21), none, (.k (.ext (.t 17) 0))⟩, ⟨(some 22), none, (.k (.ext (.t 17) 1))⟩, ⟨(some 7), none, (.k (.new 35 2 (.c (.agg [(.imm true none 0 []), (.imm true none 0 [])]))))⟩, ⟨none, none, (.k (.st 2 (.t 7) (.t 21)))⟩, ⟨(some 8), none, (.k (.mov (.t 22)))⟩]) rAdd_7)
def rAdd_5 : AC := (.seq (.ops [⟨(some 15), none, (.k (.mk [(.imm true none 0 []), (.imm true none 0 [])] []))⟩, ⟨(some 16), none, (.k (.mov (.t 6)))⟩, ⟨none, none, (.k (.st 2 (.t 4) (.t 15)))⟩, ⟨(some 5), none, (.k (.mov (.t 16)))⟩]) .ret)
def rAdd_4 : AC := (.cond (.t 14) rAdd_5 .skip)
def rAdd_3 : AC := (.seq (.ops [⟨(some 13), none, (.k (.mov (.t 6)))⟩, ⟨(some 14), none, (.k (.bin .neq (.t 13) (.c (.sc (.int .i64 0)))))⟩]) rAdd_4)
def rAdd_2 : AC := (.seq (.ops [⟨(some 10), none, (.k (.ld 2 true (.t 2)))⟩, ⟨(some 11), none, (.k (.ld 2 true (.t 3)))⟩, ⟨(some 12), none, (.call false (.c (.fn (.func 56) [] [])) [(.t 10), (.t 11)])⟩, ⟨(some 6), none, (.k (.mov (.t 12)))⟩]) rAdd_3)
def rAdd_1 : AC := (.seq rAdd_2 rAdd_6)
def rAdd_ac : AC := (.seq (.ops [⟨(some 2), none, (.k (.new 35 2 (.t 0)))⟩, ⟨(some 3), none, (.k (.new 35 2 (.t 1)))⟩, ⟨(some 4), none, (.k (.new 35 2 (.c (.agg [(.imm true none 0 []), (.imm true none 0 [])]))))⟩, ⟨(some 5), none, (.k (.mov (.c (.sc (.int .i64 0)))))⟩]) rAdd_1)
theorem rAdd_call {args : List AV} {H : List AObj} {R : AV → List AObj → Prop} (h : AWp Try.prog [] H.length rAdd_ac (bodyQ H.length [(.cell 4 2 true), (.t 5)] R) (args ++ List.replicate (47 - args.length) .und) H) : ACalls Try.prog 35 args H R :=
  ACalls.of_fn Try.func35 rfl (by kernel_rfl) rfl Try.ntmps35 h

set_option maxHeartbeats 4000000 in
theorem rAdd_spec {d e : AV} {D E : List Int × List Int} (hd : Dn d D) (he : Dn e E) : ACalls Try.prog 35 [d, e] [] (denseR (bothF addW D E)) := by
  have hd' := hd
  have he' := he
  obtain ⟨xS, xs⟩ := D
  obtain ⟨yS, ys⟩ := E
  obtain ⟨s1, v1, rfl, hs1, ⟨⟨nl2, c2, z2, rfl, hz2⟩, hr2⟩⟩ := hd
  obtain ⟨s2, v2, rfl, hs2, ⟨⟨nl4, c4, z4, rfl, hz4⟩, hr4⟩⟩ := he
  have hs1' := hs1
  obtain ⟨⟨nl1, c1, z1, rfl, hz1⟩, hr1⟩ := hs1
  obtain ⟨⟨nl3, c3, z3, rfl, hz3⟩, hr3⟩ := hs2
  simp only at hz1 hz2 hz3 hz4 hr1 hr2 hr3 hr4 hs1'
  apply rAdd_call
  first | refine AWp.seq (AWp.ops ?_) | refine AWp.seq (AWp.seq (AWp.ops ?_)) | refine AWp.ops ?_ | refine AWp.seq (AWp.block (AWp.seq (AWp.ops ?_))) | refine AWp.seq (AWp.seq (AWp.seq (AWp.ops ?_)))
  simp
  first | refine AWp.seq (AWp.ops ?_) | refine AWp.seq (AWp.seq (AWp.ops ?_)) | refine AWp.ops ?_ | refine AWp.seq (AWp.block (AWp.seq (AWp.ops ?_))) | refine AWp.seq (AWp.seq (AWp.seq (AWp.ops ?_)))
  simp
  refine ((rTwo_spec hd' he').pure (by simp) (by rintro r rfl; simp) _).mono ?_
  rintro r H' ⟨rfl, rfl⟩
  simp
  first | refine AWp.seq (AWp.ops ?_) | refine AWp.seq (AWp.seq (AWp.ops ?_)) | refine AWp.ops ?_ | refine AWp.seq (AWp.block (AWp.seq (AWp.ops ?_))) | refine AWp.seq (AWp.seq (AWp.seq (AWp.ops ?_)))
  simp
  refine AWp.cond (b := twoF (xS, xs) (yS, ys) != 0) (by simp) ?_ ?_
  · intro h
    have h : twoF (xS, xs) (yS, ys) ≠ 0 := by simpa using h
    first | refine AWp.seq (AWp.ops ?_) | refine AWp.seq (AWp.seq (AWp.ops ?_)) | refine AWp.ops ?_ | refine AWp.seq (AWp.block (AWp.seq (AWp.ops ?_))) | refine AWp.seq (AWp.seq (AWp.seq (AWp.ops ?_)))
    simp
    refine AWp.ret ?_
    simp
    refine retOk.of rfl ?_
    rw [bothF_two h]
    exact .inl ⟨h, rfl, by simp⟩
  intro h
  have h : twoF (xS, xs) (yS, ys) = 0 := by simpa using h
  obtain ⟨hcD, hcE, hS⟩ := twoF_ok h
  simp only at hS
  subst hS
  obtain ⟨hbF, hll, hzF⟩ := bothF_ok (op := addW) hcD hcE rfl
  simp only at hbF hll hzF
  refine AWp.skip ?_
  simp only [qSeq]
  first | refine AWp.seq (AWp.ops ?_) | refine AWp.seq (AWp.seq (AWp.ops ?_)) | refine AWp.ops ?_ | refine AWp.seq (AWp.block (AWp.seq (AWp.ops ?_))) | refine AWp.seq (AWp.seq (AWp.seq (AWp.ops ?_)))
  simp
  refine (dense_at (rZero_dense hs1') (by simp) _).mono ?_
  rw [hzF]
  rintro r H' ⟨G, rfl, ⟨h, _⟩ | ⟨-, d, rfl, s, q, hq, rfl, hqo, hso⟩⟩
  · exact absurd rfl h
  simp at hq hqo hso
  obtain ⟨HH, hHH⟩ : ∃ HH, HH = denO (.agg [.imm nl1 c1 z1 (xS.map I), .imm nl2 c2 z2 (xs.map I)]) :: denO (.agg [.imm nl3 c3 z3 (xS.map I), .imm nl4 c4 z4 (ys.map I)]) :: denO nilD :: G := ⟨_, rfl⟩
  have f0 : HH[0]? = some (denO (.agg [.imm nl1 c1 z1 (xS.map I), .imm nl2 c2 z2 (xs.map I)])) := by rw [hHH]; rfl
  have f1 : HH[1]? = some (denO (.agg [.imm nl3 c3 z3 (xS.map I), .imm nl4 c4 z4 (ys.map I)])) := by rw [hHH]; rfl
  have f2 : HH[2]? = some (denO nilD) := by rw [hHH]; rfl
  have fq : HH[q]? = some (i64O (List.replicate xs.length 0)) := by rw [hHH]; simpa using hqo
  have fs : shapeOk 3 HH q s xS := by rw [hHH]; exact hso
  have hone := fs.one
  have hql := (List.getElem?_eq_some_iff.1 fq).1
  have hL : 3 ≤ HH.length := by rw [hHH]; simp
  simp [← hHH, hone]
  clear hHH hso hqo
  first | refine AWp.seq (AWp.ops ?_) | refine AWp.seq (AWp.seq (AWp.ops ?_)) | refine AWp.ops ?_ | refine AWp.seq (AWp.block (AWp.seq (AWp.ops ?_))) | refine AWp.seq (AWp.seq (AWp.seq (AWp.ops ?_)))
  simp [List.getElem?_append_left, hql, fq]
  obtain ⟨J, hJ⟩ : ∃ J : Nat → List AV → List AObj → Prop, J = fun i fr H => i ≤ xs.length ∧ ∃ (K : List AObj) (ws : List Int), (K[0]? = some (denO (.agg [.imm nl1 c1 z1 (xS.map I), .imm nl2 c2 z2 (xs.map I)])) ∧ K[1]? = some (denO (.agg [.imm nl3 c3 z3 (xS.map I), .imm nl4 c4 z4 (ys.map I)])) ∧ K[2]? = some (denO nilD) ∧ K[q]? = some (i64O ws) ∧ K[HH.length]? = some (denO (.agg [s, .slc q xs.length 0 xs.length none])) ∧ shapeOk 3 K q s xS ∧ ws.length = xs.length ∧ ∀ k, k < i → ws[k]? = (List.zipWith addW xs ys)[k]?) ∧ H = K ∧
    fr = [.und, .und, .ptr 0 1 0 0, .ptr 1 1 0 0, .ptr 2 1 0 0, I 0, .und, .ptr HH.length 1 0 0, I 0, .und, .und, .und, .und, .und, .und, .und, .und, .und, .und, .und, .und, .und, .und, .und, .und, I xs.length, I i, .und, .und, .und, .und, .und, .und, .und, .und, .und, .und, .und, .und, .und, .und, .und, .und, .und, .und, .und, .und] := ⟨_, rfl⟩
  refine AWp.block (AWp.loop J (fun i => xs.length - i) 0 (Weak.slots [2, 3, 4, 5, 7, 8, 25, 26]) (by rw [hJ]; exact ⟨by omega, HH ++ [denO (.agg [s, .slc q xs.length 0 xs.length none])], List.replicate xs.length 0, ⟨by rw [List.getElem?_append_left (by omega)]; exact f0, by rw [List.getElem?_append_left (by omega)]; exact f1, by rw [List.getElem?_append_left (by omega)]; exact f2, by rw [List.getElem?_append_left hql]; exact fq, by simp, fs.app _, by simp, by intro k h; omega⟩, by simp, by simp⟩) ?_)
  intro i fr H hI
  rw [hJ] at hI
  obtain ⟨hi, K, ws, hinv, rfl, rfl⟩ := hI
  first | refine AWp.seq (AWp.ops ?_) | refine AWp.seq (AWp.seq (AWp.ops ?_)) | refine AWp.ops ?_ | refine AWp.seq (AWp.block (AWp.seq (AWp.ops ?_))) | refine AWp.seq (AWp.seq (AWp.seq (AWp.ops ?_)))
  simp
  refine AWp.seq (AWp.cond (b := decide (i < xs.length)) (by simp <;> omega) ?_ ?_)
  ·
    intro hb
    have hb : i < xs.length := by simpa using hb
    refine AWp.skip ?_
    simp only [qSeq]
    obtain ⟨k0, k1, k2, kq, kp, ks, kl, kv⟩ := hinv
    have hb1 : i < ys.length := by omega
    have hb2 : i < ws.length := by omega
    have hsz := sz_of hz2 hb
    have hsz' := sz_of hz4 hb1
    subst hsz hsz'
    first | refine AWp.seq (AWp.ops ?_) | refine AWp.seq (AWp.seq (AWp.ops ?_)) | refine AWp.ops ?_ | refine AWp.seq (AWp.block (AWp.seq (AWp.ops ?_))) | refine AWp.seq (AWp.seq (AWp.seq (AWp.ops ?_)))
    simp
    first | refine AWp.seq (AWp.ops ?_) | refine AWp.seq (AWp.seq (AWp.ops ?_)) | refine AWp.ops ?_ | refine AWp.seq (AWp.block (AWp.seq (AWp.ops ?_))) | refine AWp.seq (AWp.seq (AWp.seq (AWp.ops ?_)))
    simp [kp, k0, k1, hb, hb1, kq, kl, hb2]
    first | refine AWp.seq (AWp.ops ?_) | refine AWp.seq (AWp.seq (AWp.ops ?_)) | refine AWp.ops ?_ | refine AWp.seq (AWp.block (AWp.seq (AWp.ops ?_))) | refine AWp.seq (AWp.seq (AWp.seq (AWp.ops ?_)))
    simp
    have hz : (List.zipWith addW xs ys)[i]? = some (addW xs[i] ys[i]) := by simp [List.getElem?_zipWith, hb, hb1]
    have hq2 := (List.getElem?_eq_some_iff.1 kq).1
    refine ⟨i + 1, _, _, Weak.slots [2, 3, 4, 5, 7, 8, 25, 26], ?_, by omega⟩
    rw [hJ]
    refine ⟨by omega, H.set q (i64O (ws.set i (addW xs[i] ys[i]))), ws.set i (addW xs[i] ys[i]), ?_, by simp [i64O, List.map_set], by simp [wrap_i64 (n := (i : Int) + 1) (by omega) (by omega)]⟩
    refine ⟨by rw [gs_ne (by omega)]; exact k0, by rw [gs_ne (by omega)]; exact k1, by rw [gs_ne (by omega)]; exact k2, gs_eq kq, by rw [gs_ne (by omega)]; exact kp, ks.set _, by simpa using kl, fun k hk => ?_⟩
    by_cases e : k = i
    · subst e
      rw [List.getElem?_set_self hb2, hz]
    · rw [List.getElem?_set_ne (by omega)]
      exact kv k (by omega)
  ·
    intro hb
    have hb : ¬ i < xs.length := by simpa using hb
    refine AWp.exit ?_
    simp [qSeq, qBlock]
    obtain ⟨k0, k1, k2, kq, kp, ks, kl, kv⟩ := hinv
    have hone' := ks.one
    have hw : ws = List.zipWith addW xs ys := by
      apply List.ext_getElem?
      intro k
      by_cases hk : k < i
      · exact kv k hk
      · rw [List.getElem?_eq_none (by omega), List.getElem?_eq_none (by simp; omega)]
    subst hw
    first | refine AWp.seq (AWp.ops ?_) | refine AWp.seq (AWp.seq (AWp.ops ?_)) | refine AWp.ops ?_ | refine AWp.seq (AWp.block (AWp.seq (AWp.ops ?_))) | refine AWp.seq (AWp.seq (AWp.seq (AWp.ops ?_)))
    simp [kp, k2, hone']
    refine AWp.ret ?_
    simp
    refine retOk.of (by simp [gs_eq k2]; rfl) ?_
    simp
    rw [hbF]
    refine .inr ⟨rfl, _, rfl, s, q, by omega, by simp [hll], ?_, (ks.set_lt 2 (by omega) _).mono (by omega)⟩
    rw [gs_ne (by omega)]
    exact kq

def rMul_16 : AC := (.seq (.ops [⟨(some 45), none, (.k (.ld 2 true (.t 7)))⟩, ⟨(some 46), none, (.k (.mov (.t 8)))⟩, ⟨none, none, (.k (.st 2 (.t 4) (.t 45)))⟩, ⟨(some 5), none, (.k (.mov (.t 46)))⟩]) .ret)
def rMul_15 : AC := (.seq (.ops [⟨(some 28), none, (.k (.mov (.t 26)))⟩, ⟨(some 9), none, (.k (.mov (.t 28)))⟩]) (.ops [⟨(some 29), none, (.k (.fad 1 (.t 7)))⟩, ⟨(some 30), none, (.k (.ld 1 false (.t 29)))⟩, ⟨(some 31), none, (.k (.mov (.t 9)))⟩, ⟨(some 32), none, (.k (.fad 1 (.t 2)))⟩, ⟨(some 33), none, (.k (.ld 1 false (.t 32)))⟩, ⟨(some 34), none, (.k (.mov (.t 9)))⟩, ⟨(some 35), none, (.k (.iad 1 (.t 33) (.t 34)))⟩, ⟨(some 36), none, (.k (.ld 1 false (.t 35)))⟩, ⟨(some 37), none, (.k (.fad 1 (.t 3)))⟩, ⟨(some 38), none, (.k (.ld 1 false (.t 37)))⟩, ⟨(some 39), none, (.k (.mov (.t 9)))⟩, ⟨(some 40), none, (.k (.iad 1 (.t 38) (.t 39)))⟩, ⟨(some 41), none, (.k (.ld 1 false (.t 40)))⟩, ⟨(some 42), none, (.k (.bin .mul (.t 36) (.t 41)))⟩, ⟨(some 43), none, (.k (.iad 1 (.t 30) (.t 31)))⟩, ⟨none, none, (.k (.st 1 (.t 43) (.t 42)))⟩]))
def rMul_14 : AC := (.block 1 rMul_15)
def rMul_13 : AC := (.seq rMul_14 (.ops [⟨(some 44), none, (.k (.bin .add (.t 26) (.c (.sc (.int .i64 1)))))⟩, ⟨(some 26), none, (.k (.mov (.t 44)))⟩]))
def rMul_12 : AC := (.seq (.cond (.t 27) .skip (.exit 0)) rMul_13)
def rMul_11 : AC := (.seq (.ops [⟨(some 27), none, (.k (.bin .lss (.t 26) (.t 25)))⟩]) rMul_12)
def rMul_10 : AC := (.loop rMul_11)
def rMul_9 : AC := (.block 0 rMul_10)
def rMul_8 : AC := (.seq (.ops [⟨(some 23), none, (.k (.fad 1 (.t 7)))⟩, ⟨(some 24), none, (.k (.ld 1 false (.t 23)))⟩, ⟨(some 25), none, (.k (.len (.t 24)))⟩, ⟨(some 26), none, (.k (.mov (.c (.sc (.int .i64 0)))))⟩]) rMul_9)
def rMul_7 : AC := (.seq rMul_8 rMul_16)
def rMul_6 : AC := (.seq (.ops [⟨(some 18), none, (.k (.fad 0 (.t 2)))⟩, ⟨(some 19), none, (.k (.ld 1 false (.t 18)))⟩, ⟨(some 20), none, (.call false (.c (.fn (.func 21) [] [])) [(.t 19)])⟩, ⟨(some 17), none, (.k (.mov (.t 20)))⟩, ⟨(some 21), none, (.k (.ext (.t 17) 0))⟩, ⟨(some 22), none, (.k (.ext (.t 17) 1))⟩, ⟨(some 7), none, (.k (.new 35 2 (.c (.agg [(.imm true none 0 []), (.imm true none 0 [])]))))⟩, ⟨none, none, (.k (.st 2 (.t 7) (.t 21)))⟩, ⟨(some 8), none, (.k (.mov (.t 22)))⟩]) rMul_7)
def rMul_5 : AC := (.seq (.ops [⟨(some 15), none, (.k (.mk [(.imm true none 0 []), (.imm true none 0 [])] []))⟩, ⟨(some 16), none, (.k (.mov (.t 6)))⟩, ⟨none, none, (.k (.st 2 (.t 4) (.t 15)))⟩, ⟨(some 5), none, (.k (.mov (.t 16)))⟩]) .ret)
def rMul_4 : AC := (.cond (.t 14) rMul_5 .skip)
def rMul_3 : AC := (.seq (.ops [⟨(some 13), none, (.k (.mov (.t 6)))⟩, ⟨(some 14), none, (.k (.bin .neq (.t 13) (.c (.sc (.int .i64 0)))))⟩]) rMul_4)
def rMul_2 : AC := (.seq (.ops [⟨(some 10), none, (.k (.ld 2 true (.t 2)))⟩, ⟨(some 11), none, (.k (.ld 2 true (.t 3)))⟩, ⟨(some 12), none, (.call false (.c (.fn (.func 56) [] [])) [(.t 10), (.t 11)])⟩, ⟨(some 6), none, (.k (.mov (.t 12)))⟩]) rMul_3)
def rMul_1 : AC := (.seq rMul_2 rMul_6)
def rMul_ac : AC := (.seq (.ops [⟨(some 2), none, (.k (.new 35 2 (.t 0)))⟩, ⟨(some 3), none, (.k (.new 35 2 (.t 1)))⟩, ⟨(some 4), none, (.k (.new 35 2 (.c (.agg [(.imm true none 0 []), (.imm true none 0 [])]))))⟩, ⟨(some 5), none, (.k (.mov (.c (.sc (.int .i64 0)))))⟩]) rMul_1)
theorem rMul_call {args : List AV} {H : List AObj} {R : AV → List AObj → Prop} (h : AWp Try.prog [] H.length rMul_ac (bodyQ H.length [(.cell 4 2 true), (.t 5)] R) (args ++ List.replicate (47 - args.length) .und) H) : ACalls Try.prog 36 args H R :=
  ACalls.of_fn Try.func36 rfl (by kernel_rfl) rfl Try.ntmps36 h

set_option maxHeartbeats 4000000 in
theorem rMul_spec {d e : AV} {D E : List Int × List Int} (hd : Dn d D) (he : Dn e E) : ACalls Try.prog 36 [d, e] [] (denseR (bothF mulW D E)) := by
  have hd' := hd
  have he' := he
  obtain ⟨xS, xs⟩ := D
  obtain ⟨yS, ys⟩ := E
  obtain ⟨s1, v1, rfl, hs1, ⟨⟨nl2, c2, z2, rfl, hz2⟩, hr2⟩⟩ := hd
  obtain ⟨s2, v2, rfl, hs2, ⟨⟨nl4, c4, z4, rfl, hz4⟩, hr4⟩⟩ := he
  have hs1' := hs1
  obtain ⟨⟨nl1, c1, z1, rfl, hz1⟩, hr1⟩ := hs1
  obtain ⟨⟨nl3, c3, z3, rfl, hz3⟩, hr3⟩ := hs2
  simp only at hz1 hz2 hz3 hz4 hr1 hr2 hr3 hr4 hs1'
  apply rMul_call
  first | refine AWp.seq (AWp.ops ?_) | refine AWp.seq (AWp.seq (AWp.ops ?_)) | refine AWp.ops ?_ | refine AWp.seq (AWp.block (AWp.seq (AWp.ops ?_))) | refine AWp.seq (AWp.seq (AWp.seq (AWp.ops ?_)))
  simp
  first | refine AWp.seq (AWp.ops ?_) | refine AWp.seq (AWp.seq (AWp.ops ?_)) | refine AWp.ops ?_ | refine AWp.seq (AWp.block (AWp.seq (AWp.ops ?_))) | refine AWp.seq (AWp.seq (AWp.seq (AWp.ops ?_)))
  simp
  refine ((rTwo_spec hd' he').pure (by simp) (by rintro r rfl; simp) _).mono ?_
  rintro r H' ⟨rfl, rfl⟩
  simp
  first | refine AWp.seq (AWp.ops ?_) | refine AWp.seq (AWp.seq (AWp.ops ?_)) | refine AWp.ops ?_ | refine AWp.seq (AWp.block (AWp.seq (AWp.ops ?_))) | refine AWp.seq (AWp.seq (AWp.seq (AWp.ops ?_)))
  simp
  refine AWp.cond (b := twoF (xS, xs) (yS, ys) != 0) (by simp) ?_ ?_
  · intro h
    have h : twoF (xS, xs) (yS, ys) ≠ 0 := by simpa using h
    first | refine AWp.seq (AWp.ops ?_) | refine AWp.seq (AWp.seq (AWp.ops ?_)) | refine AWp.ops ?_ | refine AWp.seq (AWp.block (AWp.seq (AWp.ops ?_))) | refine AWp.seq (AWp.seq (AWp.seq (AWp.ops ?_)))
    simp
    refine AWp.ret ?_
    simp
    refine retOk.of rfl ?_
    rw [bothF_two h]
    exact .inl ⟨h, rfl, by simp⟩
  intro h
  have h : twoF (xS, xs) (yS, ys) = 0 := by simpa using h
  obtain ⟨hcD, hcE, hS⟩ := twoF_ok h
  simp only at hS
  subst hS
  obtain ⟨hbF, hll, hzF⟩ := bothF_ok (op := mulW) hcD hcE rfl
  simp only at hbF hll hzF
  refine AWp.skip ?_
  simp only [qSeq]
  first | refine AWp.seq (AWp.ops ?_) | refine AWp.seq (AWp.seq (AWp.ops ?_)) | refine AWp.ops ?_ | refine AWp.seq (AWp.block (AWp.seq (AWp.ops ?_))) | refine AWp.seq (AWp.seq (AWp.seq (AWp.ops ?_)))
  simp
  refine (dense_at (rZero_dense hs1') (by simp) _).mono ?_
  rw [hzF]
  rintro r H' ⟨G, rfl, ⟨h, _⟩ | ⟨-, d, rfl, s, q, hq, rfl, hqo, hso⟩⟩
  · exact absurd rfl h
  simp at hq hqo hso
  obtain ⟨HH, hHH⟩ : ∃ HH, HH = denO (.agg [.imm nl1 c1 z1 (xS.map I), .imm nl2 c2 z2 (xs.map I)]) :: denO (.agg [.imm nl3 c3 z3 (xS.map I), .imm nl4 c4 z4 (ys.map I)]) :: denO nilD :: G := ⟨_, rfl⟩
  have f0 : HH[0]? = some (denO (.agg [.imm nl1 c1 z1 (xS.map I), .imm nl2 c2 z2 (xs.map I)])) := by rw [hHH]; rfl
  have f1 : HH[1]? = some (denO (.agg [.imm nl3 c3 z3 (xS.map I), .imm nl4 c4 z4 (ys.map I)])) := by rw [hHH]; rfl
  have f2 : HH[2]? = some (denO nilD) := by rw [hHH]; rfl
  have fq : HH[q]? = some (i64O (List.replicate xs.length 0)) := by rw [hHH]; simpa using hqo
  have fs : shapeOk 3 HH q s xS := by rw [hHH]; exact hso
  have hone := fs.one
  have hql := (List.getElem?_eq_some_iff.1 fq).1
  have hL : 3 ≤ HH.length := by rw [hHH]; simp
  simp [← hHH, hone]
  clear hHH hso hqo
  first | refine AWp.seq (AWp.ops ?_) | refine AWp.seq (AWp.seq (AWp.ops ?_)) | refine AWp.ops ?_ | refine AWp.seq (AWp.block (AWp.seq (AWp.ops ?_))) | refine AWp.seq (AWp.seq (AWp.seq (AWp.ops ?_)))
  simp [List.getElem?_append_left, hql, fq]
  obtain ⟨J, hJ⟩ : ∃ J : Nat → List AV → List AObj → Prop, J = fun i fr H => i ≤ xs.length ∧ ∃ (K : List AObj) (ws : List Int), (K[0]? = some (denO (.agg [.imm nl1 c1 z1 (xS.map I), .imm nl2 c2 z2 (xs.map I)])) ∧ K[1]? = some (denO (.agg [.imm nl3 c3 z3 (xS.map I), .imm nl4 c4 z4 (ys.map I)])) ∧ K[2]? = some (denO nilD) ∧ K[q]? = some (i64O ws) ∧ K[HH.length]? = some (denO (.agg [s, .slc q xs.length 0 xs.length none])) ∧ shapeOk 3 K q s xS ∧ ws.length = xs.length ∧ ∀ k, k < i → ws[k]? = (List.zipWith mulW xs ys)[k]?) ∧ H = K ∧
    fr = [.und, .und, .ptr 0 1 0 0, .ptr 1 1 0 0, .ptr 2 1 0 0, I 0, .und, .ptr HH.length 1 0 0, I 0, .und, .und, .und, .und, .und, .und, .und, .und, .und, .und, .und, .und, .und, .und, .und, .und, I xs.length, I i, .und, .und, .und, .und, .und, .und, .und, .und, .und, .und, .und, .und, .und, .und, .und, .und, .und, .und, .und, .und] := ⟨_, rfl⟩
  refine AWp.block (AWp.loop J (fun i => xs.length - i) 0 (Weak.slots [2, 3, 4, 5, 7, 8, 25, 26]) (by rw [hJ]; exact ⟨by omega, HH ++ [denO (.agg [s, .slc q xs.length 0 xs.length none])], List.replicate xs.length 0, ⟨by rw [List.getElem?_append_left (by omega)]; exact f0, by rw [List.getElem?_append_left (by omega)]; exact f1, by rw [List.getElem?_append_left (by omega)]; exact f2, by rw [List.getElem?_append_left hql]; exact fq, by simp, fs.app _, by simp, by intro k h; omega⟩, by simp, by simp⟩) ?_)
  intro i fr H hI
  rw [hJ] at hI
  obtain ⟨hi, K, ws, hinv, rfl, rfl⟩ := hI
  first | refine AWp.seq (AWp.ops ?_) | refine AWp.seq (AWp.seq (AWp.ops ?_)) | refine AWp.ops ?_ | refine AWp.seq (AWp.block (AWp.seq (AWp.ops ?_))) | refine AWp.seq (AWp.seq (AWp.seq (AWp.ops ?_)))
  simp
  refine AWp.seq (AWp.cond (b := decide (i < xs.length)) (by simp <;> omega) ?_ ?_)
  ·
    intro hb
    have hb : i < xs.length := by simpa using hb
    refine AWp.skip ?_
    simp only [qSeq]
    obtain ⟨k0, k1, k2, kq, kp, ks, kl, kv⟩ := hinv
    have hb1 : i < ys.length := by omega
    have hb2 : i < ws.length := by omega
    have hsz := sz_of hz2 hb
    have hsz' := sz_of hz4 hb1
    subst hsz hsz'
    first | refine AWp.seq (AWp.ops ?_) | refine AWp.seq (AWp.seq (AWp.ops ?_)) | refine AWp.ops ?_ | refine AWp.seq (AWp.block (AWp.seq (AWp.ops ?_))) | refine AWp.seq (AWp.seq (AWp.seq (AWp.ops ?_)))
    simp
    first | refine AWp.seq (AWp.ops ?_) | refine AWp.seq (AWp.seq (AWp.ops ?_)) | refine AWp.ops ?_ | refine AWp.seq (AWp.block (AWp.seq (AWp.ops ?_))) | refine AWp.seq (AWp.seq (AWp.seq (AWp.ops ?_)))
    simp [kp, k0, k1, hb, hb1, kq, kl, hb2]
    first | refine AWp.seq (AWp.ops ?_) | refine AWp.seq (AWp.seq (AWp.ops ?_)) | refine AWp.ops ?_ | refine AWp.seq (AWp.block (AWp.seq (AWp.ops ?_))) | refine AWp.seq (AWp.seq (AWp.seq (AWp.ops ?_)))
    simp
    have hz : (List.zipWith mulW xs ys)[i]? = some (mulW xs[i] ys[i]) := by simp [List.getElem?_zipWith, hb, hb1]
    have hq2 := (List.getElem?_eq_some_iff.1 kq).1
    refine ⟨i + 1, _, _, Weak.slots [2, 3, 4, 5, 7, 8, 25, 26], ?_, by omega⟩
    rw [hJ]
    refine ⟨by omega, H.set q (i64O (ws.set i (mulW xs[i] ys[i]))), ws.set i (mulW xs[i] ys[i]), ?_, by simp [i64O, List.map_set], by simp [wrap_i64 (n := (i : Int) + 1) (by omega) (by omega)]⟩
    refine ⟨by rw [gs_ne (by omega)]; exact k0, by rw [gs_ne (by omega)]; exact k1, by rw [gs_ne (by omega)]; exact k2, gs_eq kq, by rw [gs_ne (by omega)]; exact kp, ks.set _, by simpa using kl, fun k hk => ?_⟩
    by_cases e : k = i
    · subst e
      rw [List.getElem?_set_self hb2, hz]
    · rw [List.getElem?_set_ne (by omega)]
      exact kv k (by omega)
  ·
    intro hb
    have hb : ¬ i < xs.length := by simpa using hb
    refine AWp.exit ?_
    simp [qSeq, qBlock]
    obtain ⟨k0, k1, k2, kq, kp, ks, kl, kv⟩ := hinv
    have hone' := ks.one
    have hw : ws = List.zipWith mulW xs ys := by
      apply List.ext_getElem?
      intro k
      by_cases hk : k < i
      · exact kv k hk
      · rw [List.getElem?_eq_none (by omega), List.getElem?_eq_none (by simp; omega)]
    subst hw
    first | refine AWp.seq (AWp.ops ?_) | refine AWp.seq (AWp.seq (AWp.ops ?_)) | refine AWp.ops ?_ | refine AWp.seq (AWp.block (AWp.seq (AWp.ops ?_))) | refine AWp.seq (AWp.seq (AWp.seq (AWp.ops ?_)))
    simp [kp, k2, hone']
    refine AWp.ret ?_
    simp
    refine retOk.of (by simp [gs_eq k2]; rfl) ?_
    simp
    rw [hbF]
    refine .inr ⟨rfl, _, rfl, s, q, by omega, by simp [hll], ?_, (ks.set_lt 2 (by omega) _).mono (by omega)⟩
    rw [gs_ne (by omega)]
    exact kq

def rScale_16 : AC := (.seq (.ops [⟨(some 40), none, (.k (.ld 2 true (.t 7)))⟩, ⟨(some 41), none, (.k (.mov (.t 8)))⟩, ⟨none, none, (.k (.st 2 (.t 4) (.t 40)))⟩, ⟨(some 5), none, (.k (.mov (.t 41)))⟩]) .ret)
def rScale_15 : AC := (.seq (.ops [⟨(some 27), none, (.k (.mov (.t 25)))⟩, ⟨(some 9), none, (.k (.mov (.t 27)))⟩]) (.ops [⟨(some 28), none, (.k (.fad 1 (.t 7)))⟩, ⟨(some 29), none, (.k (.ld 1 false (.t 28)))⟩, ⟨(some 30), none, (.k (.mov (.t 9)))⟩, ⟨(some 31), none, (.k (.fad 1 (.t 2)))⟩, ⟨(some 32), none, (.k (.ld 1 false (.t 31)))⟩, ⟨(some 33), none, (.k (.mov (.t 9)))⟩, ⟨(some 34), none, (.k (.iad 1 (.t 32) (.t 33)))⟩, ⟨(some 35), none, (.k (.ld 1 false (.t 34)))⟩, ⟨(some 36), none, (.k (.mov (.t 1)))⟩, ⟨(some 37), none, (.k (.bin .mul (.t 35) (.t 36)))⟩, ⟨(some 38), none, (.k (.iad 1 (.t 29) (.t 30)))⟩, ⟨none, none, (.k (.st 1 (.t 38) (.t 37)))⟩]))
def rScale_14 : AC := (.block 1 rScale_15)
def rScale_13 : AC := (.seq rScale_14 (.ops [⟨(some 39), none, (.k (.bin .add (.t 25) (.c (.sc (.int .i64 1)))))⟩, ⟨(some 25), none, (.k (.mov (.t 39)))⟩]))
def rScale_12 : AC := (.seq (.cond (.t 26) .skip (.exit 0)) rScale_13)
def rScale_11 : AC := (.seq (.ops [⟨(some 26), none, (.k (.bin .lss (.t 25) (.t 24)))⟩]) rScale_12)
def rScale_10 : AC := (.loop rScale_11)
def rScale_9 : AC := (.block 0 rScale_10)
def rScale_8 : AC := (.seq (.ops [⟨(some 22), none, (.k (.fad 1 (.t 7)))⟩, ⟨(some 23), none, (.k (.ld 1 false (.t 22)))⟩, ⟨(some 24), none, (.k (.len (.t 23)))⟩, ⟨(some 25), none, (.k (.mov (.c (.sc (.int .i64 0)))))⟩]) rScale_9)
def rScale_7 : AC := (.seq rScale_8 rScale_16)
def rScale_6 : AC := (.seq (.ops [⟨(some 17), none, (.k (.fad 0 (.t 2)))⟩, ⟨(some 18), none, (.k (.ld 1 false (.t 17)))⟩, ⟨(some 19), none, (.call false (.c (.fn (.func 21) [] [])) [(.t 18)])⟩, ⟨(some 16), none, (.k (.mov (.t 19)))⟩, ⟨(some 20), none, (.k (.ext (.t 16) 0))⟩, ⟨(some 21), none, (.k (.ext (.t 16) 1))⟩, ⟨(some 7), none, (.k (.new 35 2 (.c (.agg [(.imm true none 0 []), (.imm true none 0 [])]))))⟩, ⟨none, none, (.k (.st 2 (.t 7) (.t 20)))⟩, ⟨(some 8), none, (.k (.mov (.t 21)))⟩]) rScale_7)
def rScale_5 : AC := (.seq (.ops [⟨(some 14), none, (.k (.mk [(.imm true none 0 []), (.imm true none 0 [])] []))⟩, ⟨(some 15), none, (.k (.mov (.t 6)))⟩, ⟨none, none, (.k (.st 2 (.t 4) (.t 14)))⟩, ⟨(some 5), none, (.k (.mov (.t 15)))⟩]) .ret)
def rScale_4 : AC := (.cond (.t 13) rScale_5 .skip)
def rScale_3 : AC := (.seq (.ops [⟨(some 12), none, (.k (.mov (.t 6)))⟩, ⟨(some 13), none, (.k (.bin .neq (.t 12) (.c (.sc (.int .i64 0)))))⟩]) rScale_4)
def rScale_2 : AC := (.seq (.ops [⟨(some 10), none, (.k (.ld 2 true (.t 2)))⟩, ⟨(some 11), none, (.call false (.c (.fn (.func 26) [] [])) [(.t 10)])⟩, ⟨(some 6), none, (.k (.mov (.t 11)))⟩]) rScale_3)
def rScale_1 : AC := (.seq rScale_2 rScale_6)
def rScale_ac : AC := (.seq (.ops [⟨(some 2), none, (.k (.new 35 2 (.t 0)))⟩, ⟨(some 4), none, (.k (.new 35 2 (.c (.agg [(.imm true none 0 []), (.imm true none 0 [])]))))⟩, ⟨(some 5), none, (.k (.mov (.c (.sc (.int .i64 0)))))⟩]) rScale_1)
theorem rScale_call {args : List AV} {H : List AObj} {R : AV → List AObj → Prop} (h : AWp Try.prog [] H.length rScale_ac (bodyQ H.length [(.cell 4 2 true), (.t 5)] R) (args ++ List.replicate (42 - args.length) .und) H) : ACalls Try.prog 37 args H R :=
  ACalls.of_fn Try.func37 rfl (by kernel_rfl) rfl Try.ntmps37 h

set_option maxHeartbeats 4000000 in
theorem rScale_spec {d : AV} {D : List Int × List Int} {by_ : Int} (hd : Dn d D) : ACalls Try.prog 37 [d, I by_] [] (denseR (bothF (fun x _ => mulW x by_) D D)) := by
  have hd' := hd
  obtain ⟨xS, xs⟩ := D
  obtain ⟨s1, v1, rfl, hs1, ⟨⟨nl2, c2, z2, rfl, hz2⟩, hr2⟩⟩ := hd
  have hs1' := hs1
  obtain ⟨⟨nl1, c1, z1, rfl, hz1⟩, hr1⟩ := hs1
  simp only at hz1 hz2 hr1 hr2 hs1'
  apply rScale_call
  first | refine AWp.seq (AWp.ops ?_) | refine AWp.seq (AWp.seq (AWp.ops ?_)) | refine AWp.ops ?_ | refine AWp.seq (AWp.block (AWp.seq (AWp.ops ?_))) | refine AWp.seq (AWp.seq (AWp.seq (AWp.ops ?_)))
  simp
  first | refine AWp.seq (AWp.ops ?_) | refine AWp.seq (AWp.seq (AWp.ops ?_)) | refine AWp.ops ?_ | refine AWp.seq (AWp.block (AWp.seq (AWp.ops ?_))) | refine AWp.seq (AWp.seq (AWp.seq (AWp.ops ?_)))
  simp
  refine ((rCheck_spec hd').pure (by simp) (by rintro r rfl; simp) _).mono ?_
  rintro r H' ⟨rfl, rfl⟩
  simp
  first | refine AWp.seq (AWp.ops ?_) | refine AWp.seq (AWp.seq (AWp.ops ?_)) | refine AWp.ops ?_ | refine AWp.seq (AWp.block (AWp.seq (AWp.ops ?_))) | refine AWp.seq (AWp.seq (AWp.seq (AWp.ops ?_)))
  simp
  refine AWp.cond (b := checkF (xS, xs) != 0) (by simp) ?_ ?_
  · intro h
    have h : checkF (xS, xs) ≠ 0 := by simpa using h
    first | refine AWp.seq (AWp.ops ?_) | refine AWp.seq (AWp.seq (AWp.ops ?_)) | refine AWp.ops ?_ | refine AWp.seq (AWp.block (AWp.seq (AWp.ops ?_))) | refine AWp.seq (AWp.seq (AWp.seq (AWp.ops ?_)))
    simp
    refine AWp.ret ?_
    simp
    refine retOk.of rfl ?_
    exact .inl (by simp [bothF, h])
  intro h
  have hcD : checkF (xS, xs) = 0 := by simpa using h
  obtain ⟨hbF, hll, hzF⟩ := bothF_ok (op := fun x _ => mulW x by_) hcD hcD rfl
  simp only at hbF hzF
  refine AWp.skip ?_
  simp only [qSeq]
  first | refine AWp.seq (AWp.ops ?_) | refine AWp.seq (AWp.seq (AWp.ops ?_)) | refine AWp.ops ?_ | refine AWp.seq (AWp.block (AWp.seq (AWp.ops ?_))) | refine AWp.seq (AWp.seq (AWp.seq (AWp.ops ?_)))
  simp
  refine (dense_at (rZero_dense hs1') (by simp) _).mono ?_
  rw [hzF]
  rintro r H' ⟨G, rfl, ⟨h, _⟩ | ⟨-, d, rfl, s, q, hq, rfl, hqo, hso⟩⟩
  · exact absurd rfl h
  simp at hq hqo hso
  obtain ⟨HH, hHH⟩ : ∃ HH, HH = denO (.agg [.imm nl1 c1 z1 (xS.map I), .imm nl2 c2 z2 (xs.map I)]) :: denO nilD :: G := ⟨_, rfl⟩
  have f0 : HH[0]? = some (denO (.agg [.imm nl1 c1 z1 (xS.map I), .imm nl2 c2 z2 (xs.map I)])) := by rw [hHH]; rfl
  have f2 : HH[1]? = some (denO nilD) := by rw [hHH]; rfl
  have fq : HH[q]? = some (i64O (List.replicate xs.length 0)) := by rw [hHH]; simpa using hqo
  have fs : shapeOk 2 HH q s xS := by rw [hHH]; exact hso
  have hone := fs.one
  have hql := (List.getElem?_eq_some_iff.1 fq).1
  have hL : 2 ≤ HH.length := by rw [hHH]; simp
  obtain ⟨zs, hzs⟩ : ∃ zs, zs = List.zipWith (fun x _ => mulW x by_) xs xs := ⟨_, rfl⟩
  have hzl : zs.length = xs.length := by rw [hzs]; simp
  have hze : ∀ i (h : i < xs.length), zs[i]? = some (mulW xs[i] by_) := by intro i h; rw [hzs, List.getElem?_zipWith]; simp [h]
  rw [← hzs] at hbF
  clear hzs
  simp [← hHH, hone]
  clear hHH hso hqo
  first | refine AWp.seq (AWp.ops ?_) | refine AWp.seq (AWp.seq (AWp.ops ?_)) | refine AWp.ops ?_ | refine AWp.seq (AWp.block (AWp.seq (AWp.ops ?_))) | refine AWp.seq (AWp.seq (AWp.seq (AWp.ops ?_)))
  simp [List.getElem?_append_left, hql, fq]
  obtain ⟨J, hJ⟩ : ∃ J : Nat → List AV → List AObj → Prop, J = fun i fr H => i ≤ xs.length ∧ ∃ (K : List AObj) (ws : List Int), (K[0]? = some (denO (.agg [.imm nl1 c1 z1 (xS.map I), .imm nl2 c2 z2 (xs.map I)])) ∧ K[1]? = some (denO nilD) ∧ K[q]? = some (i64O ws) ∧ K[HH.length]? = some (denO (.agg [s, .slc q xs.length 0 xs.length none])) ∧ shapeOk 2 K q s xS ∧ ws.length = xs.length ∧ ∀ k, k < i → ws[k]? = zs[k]?) ∧ H = K ∧
    fr = [.und, I by_, .ptr 0 1 0 0, .und, .ptr 1 1 0 0, I 0, .und, .ptr HH.length 1 0 0, I 0, .und, .und, .und, .und, .und, .und, .und, .und, .und, .und, .und, .und, .und, .und, .und, I xs.length, I i, .und, .und, .und, .und, .und, .und, .und, .und, .und, .und, .und, .und, .und, .und, .und, .und] := ⟨_, rfl⟩
  refine AWp.block (AWp.loop J (fun i => xs.length - i) 0 (Weak.slots [1, 2, 4, 5, 7, 8, 24, 25]) (by rw [hJ]; exact ⟨by omega, HH ++ [denO (.agg [s, .slc q xs.length 0 xs.length none])], List.replicate xs.length 0, ⟨by rw [List.getElem?_append_left (by omega)]; exact f0, by rw [List.getElem?_append_left (by omega)]; exact f2, by rw [List.getElem?_append_left hql]; exact fq, by simp, fs.app _, by simp, by intro k h; omega⟩, by simp, by simp⟩) ?_)
  intro i fr H hI
  rw [hJ] at hI
  obtain ⟨hi, K, ws, hinv, rfl, rfl⟩ := hI
  first | refine AWp.seq (AWp.ops ?_) | refine AWp.seq (AWp.seq (AWp.ops ?_)) | refine AWp.ops ?_ | refine AWp.seq (AWp.block (AWp.seq (AWp.ops ?_))) | refine AWp.seq (AWp.seq (AWp.seq (AWp.ops ?_)))
  simp
  refine AWp.seq (AWp.cond (b := decide (i < xs.length)) (by simp <;> omega) ?_ ?_)
  ·
    intro hb
    have hb : i < xs.length := by simpa using hb
    refine AWp.skip ?_
    simp only [qSeq]
    obtain ⟨k0, k2, kq, kp, ks, kl, kv⟩ := hinv
    have hb2 : i < ws.length := by omega
    have hsz := sz_of hz2 hb
    subst hsz
    first | refine AWp.seq (AWp.ops ?_) | refine AWp.seq (AWp.seq (AWp.ops ?_)) | refine AWp.ops ?_ | refine AWp.seq (AWp.block (AWp.seq (AWp.ops ?_))) | refine AWp.seq (AWp.seq (AWp.seq (AWp.ops ?_)))
    simp
    first | refine AWp.seq (AWp.ops ?_) | refine AWp.seq (AWp.seq (AWp.ops ?_)) | refine AWp.ops ?_ | refine AWp.seq (AWp.block (AWp.seq (AWp.ops ?_))) | refine AWp.seq (AWp.seq (AWp.seq (AWp.ops ?_)))
    simp [kp, k0, hb, kq, kl, hb2]
    first | refine AWp.seq (AWp.ops ?_) | refine AWp.seq (AWp.seq (AWp.ops ?_)) | refine AWp.ops ?_ | refine AWp.seq (AWp.block (AWp.seq (AWp.ops ?_))) | refine AWp.seq (AWp.seq (AWp.seq (AWp.ops ?_)))
    simp
    have hq2 := (List.getElem?_eq_some_iff.1 kq).1
    refine ⟨i + 1, _, _, Weak.slots [1, 2, 4, 5, 7, 8, 24, 25], ?_, by omega⟩
    rw [hJ]
    refine ⟨by omega, H.set q (i64O (ws.set i (mulW xs[i] by_))), ws.set i (mulW xs[i] by_), ?_, by simp [i64O, List.map_set], by simp [wrap_i64 (n := (i : Int) + 1) (by omega) (by omega)]⟩
    refine ⟨by rw [gs_ne (by omega)]; exact k0, by rw [gs_ne (by omega)]; exact k2, gs_eq kq, by rw [gs_ne (by omega)]; exact kp, ks.set _, by simpa using kl, fun k hk => ?_⟩
    by_cases e : k = i
    · subst e
      rw [List.getElem?_set_self hb2, hze]
    · rw [List.getElem?_set_ne (by omega)]
      exact kv k (by omega)
  ·
    intro hb
    have hb : ¬ i < xs.length := by simpa using hb
    refine AWp.exit ?_
    simp [qSeq, qBlock]
    obtain ⟨k0, k2, kq, kp, ks, kl, kv⟩ := hinv
    have hone' := ks.one
    have hw : ws = zs := by
      apply List.ext_getElem?
      intro k
      by_cases hk : k < i
      · exact kv k hk
      · rw [List.getElem?_eq_none (by omega), List.getElem?_eq_none (by omega)]
    subst hw
    first | refine AWp.seq (AWp.ops ?_) | refine AWp.seq (AWp.seq (AWp.ops ?_)) | refine AWp.ops ?_ | refine AWp.seq (AWp.block (AWp.seq (AWp.ops ?_))) | refine AWp.seq (AWp.seq (AWp.seq (AWp.ops ?_)))
    simp [kp, k2, hone']
    refine AWp.ret ?_
    simp
    refine retOk.of (by simp [gs_eq k2]; rfl) ?_
    simp
    rw [hbF]
    refine .inr ⟨rfl, _, rfl, s, q, by omega, by simp [hzl], ?_, (ks.set_lt 1 (by omega) _).mono (by omega)⟩
    rw [gs_ne (by omega)]
    exact kq
end Go.Fw
