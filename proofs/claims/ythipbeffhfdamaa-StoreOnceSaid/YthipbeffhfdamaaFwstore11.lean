import Derived.Test.YthipbeffhfdamaaFwstore10
namespace Go.Fw
open Go Go.RowKit Go.Proofs
set_option maxRecDepth 100000
set_option linter.unusedSimpArgs false
set_option linter.unusedVariables false

theorem atGo_ins : ∀ (xs cs : List Int) (n : Int), cs.length = xs.length → (atGo xs cs n).2 = 0 → ∀ i < xs.length, 0 ≤ cs.getD i 0 ∧ cs.getD i 0 < xs.getD i 0
  | [], cs, n, _, _, i, hi => by simp at hi
  | s :: r, [], n, h, _, _, _ => by simp at h
  | s :: r, c :: q, n, h, ha, i, hi => by
    simp only [atGo] at ha
    split at ha
    · simp at ha
    · rename_i hb
      cases i with
      | zero => simp only [List.getD_cons_zero]; omega
      | succ i => simpa using atGo_ins r q _ (by simpa using h) ha i (by simpa using hi)
theorem atF_ins {S c : List Int} (h : (atF S c).2 = 0) : InS S c := by
  unfold atF at h
  split at h
  · rename_i h1
    exact absurd h h1
  split at h
  · simp at h
  rename_i h2
  have hl : c.length = S.length := by
    by_cases e : c.length = S.length
    · exact e
    · exact absurd e h2
  exact ⟨hl, atGo_ins S c 0 hl h⟩

def sGet_15 : AC := (.seq (.par [[⟨(some 38), none, (.k (.ld 1 false (.t 4)))⟩, ⟨(some 39), none, (.k (.ld 1 false (.t 5)))⟩, ⟨none, none, (.k (.st 1 (.t 4) (.t 38)))⟩, ⟨none, none, (.k (.st 1 (.t 5) (.t 39)))⟩, ⟨(some 6), none, (.k (.mov (.c (.sc (.int .i64 0)))))⟩], [⟨(some 38), none, (.k (.ld 1 false (.t 4)))⟩, ⟨none, none, (.k (.st 1 (.t 4) (.t 38)))⟩, ⟨(some 39), none, (.k (.ld 1 false (.t 5)))⟩, ⟨none, none, (.k (.st 1 (.t 5) (.t 39)))⟩, ⟨(some 6), none, (.k (.mov (.c (.sc (.int .i64 0)))))⟩]]) .ret)
def sGet_14 : AC := (.seq (.ops [⟨(some 36), none, (.k (.ld 1 false (.t 12)))⟩, ⟨(some 37), none, (.call false (.t 36) [(.c (.sc (.int .i64 0))), (.c (.sc (.int .i64 0)))])⟩]) sGet_15)
def sGet_13 : AC := (.seq (.ops [⟨(some 35), none, (.k (.mkF (.func 51) [] [(.t 2), (.t 4), (.t 5), (.t 3), (.t 10), (.t 12)]))⟩, ⟨none, none, (.k (.st 1 (.t 12) (.t 35)))⟩]) sGet_14)
def sGet_12 : AC := (.seq (.ops [⟨(some 12), none, (.k (.new 84 1 (.c (.sc .nilFunc))))⟩]) sGet_13)
def sGet_11 : AC := (.seq (.ops [⟨(some 28), none, (.k (.fad 0 (.t 2)))⟩, ⟨(some 29), none, (.k (.ld 1 false (.t 28)))⟩, ⟨(some 30), none, (.k (.fad 1 (.t 2)))⟩, ⟨(some 31), none, (.k (.ld 1 false (.t 30)))⟩, ⟨(some 32), none, (.call false (.c (.fn (.func 40) [] [])) [(.t 29), (.t 31)])⟩, ⟨(some 27), none, (.k (.mov (.t 32)))⟩, ⟨(some 33), none, (.k (.ext (.t 27) 0))⟩, ⟨(some 34), none, (.k (.ext (.t 27) 1))⟩, ⟨(some 10), none, (.k (.new 71 8 (.c (.agg [(.sc (.bool false)), (.sc (.int .i64 0)), (.sc (.bool false)), (.sc (.int .i64 0)), (.sc (.bool false)), (.sc (.int .i64 0)), (.sc (.bool false)), (.sc (.int .i64 0))]))))⟩, ⟨none, none, (.k (.st 8 (.t 10) (.t 33)))⟩, ⟨(some 11), none, (.k (.mov (.t 34)))⟩]) sGet_12)
def sGet_10 : AC := (.seq (.ops [⟨none, none, (.k (.st 1 (.t 4) (.c (.sc (.int .i64 0)))))⟩, ⟨none, none, (.k (.st 1 (.t 5) (.c (.sc (.bool false)))))⟩, ⟨(some 6), none, (.k (.mov (.c (.sc (.int .i64 3)))))⟩]) .ret)
def sGet_9 : AC := (.cond (.t 26) sGet_10 .skip)
def sGet_8 : AC := (.seq (.ops [⟨(some 25), none, (.k (.mov (.t 9)))⟩, ⟨(some 26), none, (.k (.bin .neq (.t 25) (.c (.sc (.int .i64 0)))))⟩]) sGet_9)
def sGet_7 : AC := (.seq (.ops [⟨(some 19), none, (.k (.fad 0 (.t 2)))⟩, ⟨(some 20), none, (.k (.ld 1 false (.t 19)))⟩, ⟨(some 21), none, (.k (.ld 1 false (.t 3)))⟩, ⟨(some 22), none, (.call false (.c (.fn (.func 21) [] [])) [(.t 20), (.t 21)])⟩, ⟨(some 18), none, (.k (.mov (.t 22)))⟩, ⟨(some 23), none, (.k (.ext (.t 18) 0))⟩, ⟨(some 24), none, (.k (.ext (.t 18) 1))⟩, ⟨(some 8), none, (.k (.mov (.t 23)))⟩, ⟨(some 9), none, (.k (.mov (.t 24)))⟩]) sGet_8)
def sGet_6 : AC := (.seq sGet_7 sGet_11)
def sGet_5 : AC := (.seq (.ops [⟨(some 17), none, (.k (.mov (.t 7)))⟩, ⟨none, none, (.k (.st 1 (.t 4) (.c (.sc (.int .i64 0)))))⟩, ⟨none, none, (.k (.st 1 (.t 5) (.c (.sc (.bool false)))))⟩, ⟨(some 6), none, (.k (.mov (.t 17)))⟩]) .ret)
def sGet_4 : AC := (.cond (.t 16) sGet_5 .skip)
def sGet_3 : AC := (.seq (.ops [⟨(some 15), none, (.k (.mov (.t 7)))⟩, ⟨(some 16), none, (.k (.bin .neq (.t 15) (.c (.sc (.int .i64 0)))))⟩]) sGet_4)
def sGet_2 : AC := (.seq (.ops [⟨(some 13), none, (.k (.ld 4 true (.t 2)))⟩, ⟨(some 14), none, (.call false (.c (.fn (.func 11) [] [])) [(.t 13)])⟩, ⟨(some 7), none, (.k (.mov (.t 14)))⟩]) sGet_3)
def sGet_1 : AC := (.seq sGet_2 sGet_6)
def sGet_ac : AC := (.seq (.ops [⟨(some 2), none, (.k (.new 27 4 (.t 0)))⟩, ⟨(some 3), none, (.k (.new 22 1 (.t 1)))⟩, ⟨(some 4), none, (.k (.new 2 1 (.c (.sc (.int .i64 0)))))⟩, ⟨(some 5), none, (.k (.new 4 1 (.c (.sc (.bool false)))))⟩, ⟨(some 6), none, (.k (.mov (.c (.sc (.int .i64 0)))))⟩]) sGet_1)
theorem sGet_call {args : List AV} {H : List AObj} {R : AV → List AObj → Prop} (h : AWp Try.prog [] H.length sGet_ac (bodyQ H.length [(.cell 4 1 false), (.cell 5 1 false), (.t 6)] R) (args ++ List.replicate (40 - args.length) .und) H) : ACalls Try.prog 22 args H R :=
  ACalls.of_fn Try.func22 rfl (by kernel_rfl) rfl Try.ntmps22 h

set_option maxHeartbeats 4000000 in
theorem sGet_spec {sh f l v cv : AV} {S Vs c : List Int} {F : List (Int × Int × Int)} {xs : List LvA} (hS : ISl sh S) (hF : Sp f F) (hl : Ls l xs) (hV : ISl v Vs) (hcv : ISl cv c) (hn : xs.length ≤ 1000) (hfn : F.length ≤ 1000) :
    ACalls Try.prog 22 [.agg [sh, f, l, v], cv] [] fun r H' => H' = [] ∧ r = .tup [I (getF S F xs Vs c).1.1, Bo (getF S F xs Vs c).1.2, I (getF S F xs Vs c).2] := by
  have hS' := hS
  have hF' := hF
  have hl' := hl
  have hV' := hV
  have hcv' := hcv
  obtain ⟨⟨nl, cl, sz, rfl, hs⟩, hlen, hx⟩ := hl
  obtain ⟨⟨nl1, c01, sz1, rfl, hs1⟩, hlen1, hx1⟩ := hS
  obtain ⟨⟨nl2, c02, sz2, rfl, hs2⟩, hlen2, hx2⟩ := hF
  obtain ⟨⟨nl3, c3, sz3, rfl, hs3⟩, hlen3, hx3⟩ := hV
  obtain ⟨⟨nl5, c5, sz5, rfl, hs5⟩, hlen5, hx5⟩ := hcv
  have base : ACalls Try.prog 22 [.agg [.imm nl1 c01 sz1 (S.map I), .imm nl2 c02 sz2 (F.map specV), .imm nl cl sz (xs.map lvV), .imm nl3 c3 sz3 (Vs.map I)], .imm nl5 c5 sz5 (c.map I)] [] fun r _ => r = .tup [I (getF S F xs Vs c).1.1, Bo (getF S F xs Vs c).1.2, I (getF S F xs Vs c).2] := by
    apply sGet_call
    repeat first | refine AWp.seq ?_ | refine AWp.block ?_
    refine AWp.ops ?_
    simp
    repeat first | refine AWp.seq ?_ | refine AWp.block ?_
    refine AWp.ops ?_
    simp
    refine ((sCheck_spec hS' hF' hl' hV' hn hfn).pure (by simp) (by rintro r rfl; simp) _).mono ?_
    rintro r H' ⟨rfl, rfl⟩
    simp
    repeat first | refine AWp.seq ?_ | refine AWp.block ?_
    refine AWp.ops ?_
    simp
    by_cases h : tnCheck S F xs Vs = 0
    case neg =>
      refine AWp.cond (b := true) (by simp [h]) (fun _ => ?_) (fun h => by cases h)
      repeat first | refine AWp.seq ?_ | refine AWp.block ?_
      refine AWp.ops ?_
      simp
      refine AWp.ret ?_
      simp
      refine retOk.of rfl ?_
      rw [getF, if_pos h]
      simp
    refine AWp.cond (b := false) (by simp [h]) (fun h => by cases h) (fun _ => ?_)
    refine AWp.skip ?_
    simp only [qSeq]
    repeat first | refine AWp.seq ?_ | refine AWp.block ?_
    refine AWp.ops ?_
    simp
    refine ((At_spec hS' hcv').pure (by simp) (by rintro r rfl; simp) _).mono ?_
    rintro r H' ⟨rfl, rfl⟩
    simp
    repeat first | refine AWp.seq ?_ | refine AWp.block ?_
    refine AWp.ops ?_
    simp
    by_cases ha : (atF S c).2 = 0
    case neg =>
      refine AWp.cond (b := true) (by simp [ha]) (fun _ => ?_) (fun h => by cases h)
      repeat first | refine AWp.seq ?_ | refine AWp.block ?_
      refine AWp.ops ?_
      simp
      refine AWp.ret ?_
      simp
      refine retOk.of rfl ?_
      rw [getF, if_neg (by omega), if_pos ha]
      simp
    refine AWp.cond (b := false) (by simp [ha]) (fun h => by cases h) (fun _ => ?_)
    refine AWp.skip ?_
    simp only [qSeq]
    have hin := atF_ins ha
    obtain ⟨hS0, M, hM, hmet, hway⟩ := tn_way hx1 h
    have h0 := (tnCheck_ok h).1
    have hS4 := cells_len (sizesF_ok h0 (fun s hs => (hx2 s hs).2.2.2)).1
    have hfl : F.length = xs.length := (tnCheck_ok h).2.1.symm
    repeat first | refine AWp.seq ?_ | refine AWp.block ?_
    refine AWp.ops ?_
    simp
    refine ((read_spec hS' hF' hS4).pure (by simp) (by rintro r ⟨M, ok, rfl, _⟩; simp [mcells_noRef]) _).mono ?_
    rintro r H' ⟨rfl, M', ok, rfl, hM4, hok1, hok2⟩
    obtain rfl : ok = true := by
      cases ok with
      | true => rfl
      | false => rw [hok2 rfl] at hM; cases hM
    obtain rfl : M' = M := by
      rw [hok1 rfl] at hM
      exact Option.some.inj hM
    have hM8 : (mcells M').length = 8 := by rw [mcells_len, hM4]
    have hone : (∀ x, x ∈ mcells M' → oneC x = true) = True := eq_true (mcells_one M')
    have hset := setAll_same (mcells M')
    have hset8 : ∀ a b c d e f g h : AV, setAll [a, b, c, d, e, f, g, h] 0 (mcells M') = mcells M' := by
      intro a b c d e f g h
      obtain ⟨m0, m1, m2, m3, rfl⟩ : ∃ m0 m1 m2 m3, M' = [m0, m1, m2, m3] := by
        match M', hM4 with
        | [m0, m1, m2, m3], _ => exact ⟨m0, m1, m2, m3, rfl⟩
      rfl
    simp [hM8, hone, hset8]
    repeat first | refine AWp.seq ?_ | refine AWp.block ?_
    refine AWp.ops ?_
    simp [hM8, hone, hset8]
    repeat first | refine AWp.seq ?_ | refine AWp.block ?_
    refine AWp.ops ?_
    simp
    repeat first | refine AWp.seq ?_ | refine AWp.block ?_
    refine AWp.ops ?_
    simp
    have hd := gdown_spec (N := 6) hS' hF' hl' hV' hfl hcv' hin hS0 hM4 hS4 xs.length 0 (by omega)
      [tnO (.agg [.imm nl1 c01 sz1 (S.map I), .imm nl2 c02 sz2 (F.map specV), .imm nl cl sz (xs.map lvV), .imm nl3 c3 sz3 (Vs.map I)]), ⟨22, 1, [.imm nl5 c5 sz5 (c.map I)], true, none⟩, ⟨2, 1, [I 0], true, none⟩, ⟨4, 1, [Bo false], true, none⟩,
        ⟨71, 8, [.agg (mcells M')], true, none⟩, ⟨84, 1, [.fn (.func 51) [] getCaps], true, none⟩] 0 false 0 _ _ _ _ ⟨rfl, rfl, rfl, rfl, rfl, rfl, rfl, rfl⟩ hway
    have hgo : getF S F xs Vs c = (getGo M' Vs c xs F 0 (0, false), 0) := by rw [getF, if_neg (by omega), if_neg (by omega), hM]; rfl
    rw [hgo]
    simp only [List.drop_zero] at hd
    generalize getGo M' Vs c xs F 0 (0, false) = res at hd
    obtain ⟨rv, rb⟩ := res
    simp at hd
    refine hd.mono ?_
    rintro r K' ⟨rfl, hG⟩
    obtain ⟨hKl, -, o0, o1, o2, o3, o4, o5⟩ := id hG
    simp
    refine AWp.seq (AWp.par ?_)
    intro l hl
    simp at hl
    have hs2 : ∀ o, (K'.set 2 o)[3]? = some ⟨4, 1, [Bo rb], true, none⟩ := fun o => by rw [List.getElem?_set_ne (by omega)]; exact o3
    rcases hl with rfl | rfl <;>
    · simp [o2, o3, hs2]
      have hp := hG.put (w := rv) (d := rb)
      have p2 := hp.o2
      have p3 := hp.o3
      refine AWp.ret ?_
      simp [qSeq, qBlock, bodyQ]
      refine retOk.of (vs := [I rv, Bo rb, I 0]) (by simp [p2, p3]) ?_
      simp
  refine (base.frozen 2).mono ?_
  rintro q' H' ⟨rfl, r, G, rfl, rfl⟩
  exact ⟨rfl, by simp⟩
end Go.Fw
