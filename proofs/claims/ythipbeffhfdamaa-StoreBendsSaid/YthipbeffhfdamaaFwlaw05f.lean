import Derived.Test.YthipbeffhfdamaaFwlaw05e
namespace Go.Fw
open Go Go.RowKit Go.Proofs
set_option maxRecDepth 100000
set_option linter.unusedSimpArgs false
set_option linter.unusedVariables false

def StoreBends_25 : AC := (.seq (.ops [⟨(some 126), none, (.k (.mov (.t 7)))⟩, ⟨(some 127), none, (.k (.mov (.t 126)))⟩, ⟨(some 128), (some (127, true)), (.k (.ld 4 true (.t 8)))⟩, ⟨(some 129), (some (127, true)), (.call false (.c (.fn (.func 11) [] [])) [(.t 128)])⟩, ⟨(some 130), (some (127, true)), (.k (.bin .eql (.t 129) (.c (.sc (.int .i64 3)))))⟩, ⟨(some 131), none, (.k (.pick (.t 127) (.t 130) (.c (.sc (.bool false)))))⟩, ⟨(some 6), none, (.k (.mov (.t 131)))⟩]) .ret)
def StoreBends_24 : AC := (.seq (.ops [⟨(some 112), none, (.k (.fad 2 (.t 8)))⟩, ⟨(some 113), none, (.k (.ld 1 false (.t 112)))⟩, ⟨(some 114), none, (.k (.mov (.t 1)))⟩, ⟨(some 115), none, (.k (.iad 4 (.t 113) (.t 114)))⟩, ⟨(some 116), none, (.k (.fad 3 (.t 115)))⟩, ⟨(some 117), none, (.k (.ld 1 false (.t 116)))⟩, ⟨(some 118), none, (.k (.mov (.t 2)))⟩, ⟨(some 119), none, (.k (.fad 2 (.t 8)))⟩, ⟨(some 120), none, (.k (.ld 1 false (.t 119)))⟩, ⟨(some 121), none, (.k (.mov (.t 1)))⟩, ⟨(some 122), none, (.k (.iad 4 (.t 120) (.t 121)))⟩, ⟨(some 123), none, (.k (.fad 1 (.t 122)))⟩, ⟨(some 124), none, (.k (.ld 1 false (.t 123)))⟩, ⟨(some 125), none, (.k (.iad 1 (.t 117) (.t 118)))⟩, ⟨none, none, (.k (.st 1 (.t 125) (.t 124)))⟩]) StoreBends_25)
def StoreBends_23 : AC := (.seq (.ops [⟨(some 87), none, (.k (.mov (.t 2)))⟩, ⟨(some 88), none, (.k (.fad 2 (.t 8)))⟩, ⟨(some 89), none, (.k (.ld 1 false (.t 88)))⟩, ⟨(some 90), none, (.k (.mov (.t 1)))⟩, ⟨(some 91), none, (.k (.iad 4 (.t 89) (.t 90)))⟩, ⟨(some 92), none, (.k (.fad 3 (.t 91)))⟩, ⟨(some 93), none, (.k (.ld 1 false (.t 92)))⟩, ⟨(some 94), none, (.k (.len (.t 93)))⟩, ⟨(some 95), none, (.k (.bin .rem (.t 87) (.t 94)))⟩, ⟨(some 96), none, (.k (.fad 2 (.t 8)))⟩, ⟨(some 97), none, (.k (.ld 1 false (.t 96)))⟩, ⟨(some 98), none, (.k (.mov (.t 1)))⟩, ⟨(some 99), none, (.k (.iad 4 (.t 97) (.t 98)))⟩, ⟨(some 100), none, (.k (.fad 3 (.t 99)))⟩, ⟨(some 101), none, (.k (.ld 1 false (.t 100)))⟩, ⟨(some 102), none, (.k (.len (.t 101)))⟩, ⟨(some 103), none, (.k (.bin .add (.t 95) (.t 102)))⟩, ⟨(some 104), none, (.k (.fad 2 (.t 8)))⟩, ⟨(some 105), none, (.k (.ld 1 false (.t 104)))⟩, ⟨(some 106), none, (.k (.mov (.t 1)))⟩, ⟨(some 107), none, (.k (.iad 4 (.t 105) (.t 106)))⟩, ⟨(some 108), none, (.k (.fad 3 (.t 107)))⟩, ⟨(some 109), none, (.k (.ld 1 false (.t 108)))⟩, ⟨(some 110), none, (.k (.len (.t 109)))⟩, ⟨(some 111), none, (.k (.bin .rem (.t 103) (.t 110)))⟩, ⟨(some 2), none, (.k (.mov (.t 111)))⟩]) StoreBends_24)
def StoreBends_22 : AC := (.seq (.ops [⟨(some 78), none, (.k (.fad 2 (.t 8)))⟩, ⟨(some 79), none, (.k (.ld 1 false (.t 78)))⟩, ⟨(some 80), none, (.k (.mov (.t 1)))⟩, ⟨(some 81), none, (.k (.iad 4 (.t 79) (.t 80)))⟩, ⟨(some 82), none, (.k (.fad 3 (.t 81)))⟩, ⟨(some 83), none, (.k (.ld 1 false (.t 82)))⟩, ⟨(some 84), none, (.k (.len (.t 83)))⟩, ⟨(some 85), none, (.k (.bin .eql (.t 84) (.c (.sc (.int .i64 0)))))⟩]) (.cond (.t 85) (.seq (.ops [⟨(some 86), none, (.k (.mov (.t 7)))⟩, ⟨(some 6), none, (.k (.mov (.t 86)))⟩]) .ret) .skip))
def StoreBends_21 : AC := (.seq StoreBends_22 StoreBends_23)
def StoreBends_20 : AC := (.seq (.ops [⟨(some 76), none, (.k (.ld 4 true (.t 3)))⟩, ⟨(some 77), none, (.call false (.c (.fn (.func 12) [] [])) [(.t 76)])⟩, ⟨none, none, (.k (.st 4 (.t 8) (.t 77)))⟩]) StoreBends_21)
def StoreBends_19 : AC := (.seq (.ops [⟨(some 73), none, (.k (.ld 4 true (.t 8)))⟩, ⟨(some 74), none, (.call false (.c (.fn (.func 11) [] [])) [(.t 73)])⟩, ⟨(some 75), none, (.k (.bin .eql (.t 74) (.c (.sc (.int .i64 0)))))⟩]) (.cond (.t 75) (.seq (.ops [⟨(some 6), none, (.k (.mov (.c (.sc (.bool false)))))⟩]) .ret) .skip))
def StoreBends_18 : AC := (.seq StoreBends_19 StoreBends_20)
def StoreBends_17 : AC := (.seq (.ops [⟨(some 64), none, (.k (.fad 2 (.t 8)))⟩, ⟨(some 65), none, (.k (.ld 1 false (.t 64)))⟩, ⟨(some 66), none, (.k (.mov (.t 1)))⟩, ⟨(some 67), none, (.k (.iad 4 (.t 65) (.t 66)))⟩, ⟨(some 68), none, (.k (.fad 1 (.t 67)))⟩, ⟨(some 69), none, (.k (.ld 1 false (.t 68)))⟩, ⟨(some 70), none, (.k (.bin .add (.t 69) (.c (.sc (.int .i64 1)))))⟩, ⟨(some 71), none, (.k (.iad 4 (.t 65) (.t 66)))⟩, ⟨(some 72), none, (.k (.fad 1 (.t 71)))⟩, ⟨none, none, (.k (.st 1 (.t 72) (.t 70)))⟩]) StoreBends_18)
def StoreBends_16 : AC := (.seq (.ops [⟨(some 62), none, (.k (.ld 4 true (.t 3)))⟩, ⟨(some 63), none, (.call false (.c (.fn (.func 12) [] [])) [(.t 62)])⟩, ⟨none, none, (.k (.st 4 (.t 8) (.t 63)))⟩]) StoreBends_17)
def StoreBends_15 : AC := (.seq (.ops [⟨(some 49), none, (.k (.mov (.t 1)))⟩, ⟨(some 50), none, (.k (.fad 2 (.t 3)))⟩, ⟨(some 51), none, (.k (.ld 1 false (.t 50)))⟩, ⟨(some 52), none, (.k (.len (.t 51)))⟩, ⟨(some 53), none, (.k (.bin .rem (.t 49) (.t 52)))⟩, ⟨(some 54), none, (.k (.fad 2 (.t 3)))⟩, ⟨(some 55), none, (.k (.ld 1 false (.t 54)))⟩, ⟨(some 56), none, (.k (.len (.t 55)))⟩, ⟨(some 57), none, (.k (.bin .add (.t 53) (.t 56)))⟩, ⟨(some 58), none, (.k (.fad 2 (.t 3)))⟩, ⟨(some 59), none, (.k (.ld 1 false (.t 58)))⟩, ⟨(some 60), none, (.k (.len (.t 59)))⟩, ⟨(some 61), none, (.k (.bin .rem (.t 57) (.t 60)))⟩, ⟨(some 1), none, (.k (.mov (.t 61)))⟩]) StoreBends_16)
def StoreBends_14 : AC := (.seq (.ops [⟨(some 44), none, (.k (.fad 2 (.t 3)))⟩, ⟨(some 45), none, (.k (.ld 1 false (.t 44)))⟩, ⟨(some 46), none, (.k (.len (.t 45)))⟩, ⟨(some 47), none, (.k (.bin .eql (.t 46) (.c (.sc (.int .i64 0)))))⟩]) (.cond (.t 47) (.seq (.ops [⟨(some 48), none, (.k (.mov (.t 7)))⟩, ⟨(some 6), none, (.k (.mov (.t 48)))⟩]) .ret) .skip))
def StoreBends_13 : AC := (.seq StoreBends_14 StoreBends_15)
def StoreBends_12 : AC := (.seq (.ops [⟨(some 41), none, (.k (.ld 4 true (.t 8)))⟩, ⟨(some 42), none, (.call false (.c (.fn (.func 11) [] [])) [(.t 41)])⟩, ⟨(some 43), none, (.k (.bin .eql (.t 42) (.c (.sc (.int .i64 0)))))⟩]) (.cond (.t 43) (.seq (.ops [⟨(some 6), none, (.k (.mov (.c (.sc (.bool false)))))⟩]) .ret) .skip))
def StoreBends_11 : AC := (.seq (.ops [⟨(some 33), none, (.k (.fad 3 (.t 8)))⟩, ⟨(some 34), none, (.k (.ld 1 false (.t 33)))⟩, ⟨(some 35), none, (.k (.fad 3 (.t 3)))⟩, ⟨(some 36), none, (.k (.ld 1 false (.t 35)))⟩, ⟨(some 37), none, (.k (.len (.t 36)))⟩, ⟨(some 38), none, (.k (.bin .sub (.t 37) (.c (.sc (.int .i64 1)))))⟩, ⟨(some 39), none, (.k (.sl 1 (.t 34) none (some (.t 38)) none))⟩, ⟨(some 40), none, (.k (.fad 3 (.t 8)))⟩, ⟨none, none, (.k (.st 1 (.t 40) (.t 39)))⟩]) StoreBends_12)
def StoreBends_10 : AC := (.cond (.t 32) StoreBends_11 .skip)
def StoreBends_9 : AC := (.seq (.ops [⟨(some 29), none, (.k (.fad 3 (.t 3)))⟩, ⟨(some 30), none, (.k (.ld 1 false (.t 29)))⟩, ⟨(some 31), none, (.k (.len (.t 30)))⟩, ⟨(some 32), none, (.k (.bin .gtr (.t 31) (.c (.sc (.int .i64 0)))))⟩]) StoreBends_10)
def StoreBends_8 : AC := (.seq StoreBends_9 StoreBends_13)
def StoreBends_7 : AC := (.seq (.ops [⟨(some 26), none, (.k (.ld 4 true (.t 8)))⟩, ⟨(some 27), none, (.call false (.c (.fn (.func 11) [] [])) [(.t 26)])⟩, ⟨(some 28), none, (.k (.bin .eql (.t 27) (.c (.sc (.int .i64 0)))))⟩]) (.cond (.t 28) (.seq (.ops [⟨(some 6), none, (.k (.mov (.c (.sc (.bool false)))))⟩]) .ret) .skip))
def StoreBends_6 : AC := (.seq StoreBends_7 StoreBends_8)
def StoreBends_5 : AC := (.seq (.ops [⟨(some 21), none, (.k (.fad 3 (.t 8)))⟩, ⟨(some 22), none, (.k (.ld 1 false (.t 21)))⟩, ⟨(some 23), none, (.k (.lit 1 [(.c (.sc (.int .i64 0)))]))⟩, ⟨(some 24), none, (.k (.app 2 1 8 (.t 22) (.t 23)))⟩, ⟨(some 25), none, (.k (.fad 3 (.t 8)))⟩, ⟨none, none, (.k (.st 1 (.t 25) (.t 24)))⟩]) StoreBends_6)
def StoreBends_4 : AC := (.seq (.ops [⟨(some 19), none, (.k (.ld 4 true (.t 3)))⟩, ⟨(some 20), none, (.call false (.c (.fn (.func 12) [] [])) [(.t 19)])⟩, ⟨(some 8), none, (.k (.new 27 4 (.c (.agg [(.imm true none 0 []), (.imm true none 0 []), (.imm true none 0 []), (.imm true none 0 [])]))))⟩, ⟨none, none, (.k (.st 4 (.t 8) (.t 20)))⟩]) StoreBends_5)
def StoreBends_3 : AC := (.seq (.ops [⟨(some 10), none, (.k (.ld 4 true (.t 3)))⟩, ⟨(some 11), none, (.call false (.c (.fn (.func 10) [] [])) [(.t 10)])⟩, ⟨(some 12), none, (.k (.un .not (.t 11)))⟩, ⟨(some 13), none, (.k (.mov (.t 12)))⟩, ⟨(some 14), (some (13, false)), (.k (.ld 4 true (.t 3)))⟩, ⟨(some 15), (some (13, false)), (.call false (.c (.fn (.func 11) [] [])) [(.t 14)])⟩, ⟨(some 16), (some (13, false)), (.k (.bin .neq (.t 15) (.c (.sc (.int .i64 0)))))⟩, ⟨(some 17), none, (.k (.pick (.t 13) (.c (.sc (.bool true))) (.t 16)))⟩]) (.cond (.t 17) (.seq (.ops [⟨(some 18), none, (.k (.mov (.t 7)))⟩, ⟨(some 6), none, (.k (.mov (.t 18)))⟩]) .ret) .skip))
def StoreBends_2 : AC := (.seq StoreBends_3 StoreBends_4)
def StoreBends_1 : AC := (.seq (.ops [⟨(some 9), none, (.call false (.c (.fn (.func 9) [] [])) [])⟩, ⟨(some 7), none, (.k (.mov (.t 9)))⟩]) StoreBends_2)
def StoreBends_ac : AC := (.seq (.ops [⟨(some 3), none, (.k (.new 27 4 (.t 0)))⟩, ⟨(some 6), none, (.k (.mov (.c (.sc (.bool false)))))⟩]) StoreBends_1)
theorem StoreBends_call {args : List AV} {H : List AObj} {R : AV → List AObj → Prop} (h : AWp Try.prog [] H.length StoreBends_ac (bodyQ H.length [(.t 6)] R) (args ++ List.replicate (132 - args.length) .und) H) : ACalls Try.prog 3 args H R :=
  ACalls.of_fn Try.func3 rfl (by kernel_rfl) rfl Try.ntmps3 h

set_option maxHeartbeats 8000000 in
theorem StoreBends_spec {a : AV} {T : Tn} {i0 k0 : Int} (ha : Tns a T) (hi0 : i64r i0) (hk0 : i64r k0) : ACalls Try.prog 3 [a, I i0, I k0] [] fun r H' => H' = [] ∧ r = Bo true := by
  have ha' := ha
  obtain ⟨S, F, xs, Vs⟩ := T
  obtain ⟨sh, f, l, v, rfl, hS, hF, hl, hV⟩ := ha
  simp only at hS hF hl hV
  have hS' := hS
  have hF' := hF
  have hl' := hl
  have hV' := hV
  obtain ⟨⟨nl, cl, sz, rfl, hs⟩, hlen, hx⟩ := hl
  obtain ⟨⟨nl1, c01, sz1, rfl, hs1⟩, hlen1, hx1⟩ := hS
  obtain ⟨⟨nl2, c02, sz2, rfl, hs2⟩, hlen2, hx2⟩ := hF
  obtain ⟨⟨nl3, c3, sz3, rfl, hs3⟩, hlen3, hx3⟩ := hV
  obtain ⟨a, hA⟩ : ∃ a, a = AV.agg [.imm nl1 c01 sz1 (S.map I), .imm nl2 c02 sz2 (F.map specV), .imm nl cl sz (xs.map lvV), .imm nl3 c3 sz3 (Vs.map I)] := ⟨_, rfl⟩
  have base : ACalls Try.prog 3 [.agg [.imm nl1 c01 sz1 (S.map I), .imm nl2 c02 sz2 (F.map specV), .imm nl cl sz (xs.map lvV), .imm nl3 c3 sz3 (Vs.map I)], I i0, I k0] [] fun r H' => r = Bo true := by
    apply StoreBends_call
    repeat first | refine AWp.seq ?_ | refine AWp.block ?_
    refine AWp.ops ?_
    simp
    repeat first | refine AWp.seq ?_ | refine AWp.block ?_
    refine AWp.ops ?_
    simp
    refine (live05_spec.pure (by simp) (by rintro r rfl; simp) _).mono ?_
    rintro r H' ⟨rfl, rfl⟩
    simp
    repeat first | refine AWp.seq ?_ | refine AWp.block ?_
    refine AWp.ops ?_
    simp
    refine ((few_spec ha').pure (by simp) (by rintro r rfl; simp) _).mono ?_
    rintro r H' ⟨rfl, rfl⟩
    cases hfew : fewF ⟨S, F, xs, Vs⟩ with
    | false =>
      simp
      refine AWp.cond (b := true) (by simp) (fun _ => ?_) (fun h => by cases h)
      repeat first | refine AWp.seq ?_ | refine AWp.block ?_
      refine AWp.ops ?_
      simp
      refine AWp.ret ?_
      simp
      refine retOk.of rfl ?_
      simp
    | true =>
    have hfewT := hfew
    simp only [fewF, Bool.and_eq_true, decide_eq_true_eq, List.all_eq_true] at hfew
    obtain ⟨hf1, hf2⟩ := hfew
    simp
    refine ((sCheck_spec hS' hF' hl' hV' (by omega) (by omega)).pure (by simp) (by rintro r rfl; simp) _).mono ?_
    rintro r H' ⟨rfl, rfl⟩
    simp
    by_cases h : tnCheck S F xs Vs = 0
    case neg =>
      refine AWp.cond (b := true) (by simp [h]) (fun _ => ?_) (fun h => by cases h)
      repeat first | refine AWp.seq ?_ | refine AWp.block ?_
      refine AWp.ops ?_
      simp
      refine AWp.ret ?_
      simp
      refine retOk.of rfl ?_
      simp
    refine AWp.cond (b := false) (by simp [h]) (fun h => by cases h) (fun _ => ?_)
    have hrg : ∀ x ∈ xs, InI x.lv.pos ∧ InI x.lv.crd ∧ i64r x.lv.k ∧ i64r x.lv.sz := fun x hm => ⟨(hx x hm).pos.2, (hx x hm).crd.2, (hx x hm).rk, (hx x hm).rsz⟩
    have hZ : (sizesF S F).1.length = F.length := (sizesF_ok (xs := S) (fs := F) (tnCheck_ok h).1 (fun s hs => (hx2 s hs).2.2.2)).2.1
    refine AWp.skip ?_
    simp only [qSeq]
    repeat first | refine AWp.seq ?_ | refine AWp.block ?_
    refine AWp.ops ?_
    simp
    refine (Copy_own ha' xs.length [tnO (.agg [.imm nl1 c01 sz1 (S.map I), .imm nl2 c02 sz2 (F.map specV), .imm nl cl sz (xs.map lvV), .imm nl3 c3 sz3 (Vs.map I)])] (by simp) hfewT).mono ?_
    rintro r K ⟨o, lO, a2, sh, f, v, es, vr, hC, rfl⟩
    have hO := hC.own
    have h0 : K[0]? = some (tnO (.agg [.imm nl1 c01 sz1 (S.map I), .imm nl2 c02 sz2 (F.map specV), .imm nl cl sz (xs.map lvV), .imm nl3 c3 sz3 (Vs.map I)])) := by
      have := congrArg (fun L => L[0]?) hC.pre
      simpa using this
    have hKl : 1 < K.length := by
      obtain ⟨_, _, h⟩ := hC.o1
      have := (List.getElem?_eq_some_iff.1 h).1
      simp at this; omega
    simp only [List.length_singleton] at hO
    clear hC
    obtain ⟨x, hxx⟩ : ∃ x, x = K.length := ⟨_, rfl⟩
    have o1 := hO.rs.one
    have o2 := hO.rf.one
    have o3 := hO.rv.one
    simp [o1, o2, o3, ← hxx]
    have w1 : (Vs.length + 1) * 8 ≤ 140737488355328 := by omega
    have w2 : Vs.length + 1 ≤ 9223372036854775807 := by omega
    refine AWp.cutE (σ := AV × List AObj) (fun s => s.2[0]? = some (tnO a) ∧ s.2[x]? = some (tnO (.agg [sh, f, .slc lO xs.length 0 xs.length none, s.1])) ∧ OwnX 2 lO xs.length sh f s.1 S F (Vs ++ [0]) s.2 es xs vr)
      (fun s => [.und, I i0, I k0, .ptr 0 1 0 0, .und, .und, .und, Bo true, .ptr x 1 0 0, .und, .und, .und, .und, .und, .und, .und, .und, .und, .und, .und, .und, .und, .und, .und, .und, .und, .und, .und, .und, .und, .und, .und, .und, .und, .und, .und, .und, .und, .und, .und, .und, .und, .und, .und, .und, .und, .und, .und, .und, .und, .und, .und, .und, .und, .und, .und, .und, .und, .und, .und, .und, .und, .und, .und, .und, .und, .und, .und, .und, .und, .und, .und, .und, .und, .und, .und, .und, .und, .und, .und, .und, .und, .und, .und, .und, .und, .und, .und, .und, .und, .und, .und, .und, .und, .und, .und, .und, .und, .und, .und, .und, .und, .und, .und, .und, .und, .und, .und, .und, .und, .und, .und, .und, .und, .und, .und, .und, .und, .und, .und, .und, .und, .und, .und, .und, .und, .und, .und, .und, .und, .und, .und]) (fun s => s.2) ?_ ?_
    · have gx : ∀ y G, (K ++ y :: G)[x]? = some y := fun y G => by rw [List.getElem?_append_right (by omega), show x - K.length = 0 by omega]; rfl
      have sx : ∀ y y' G, (K ++ y :: G).set x y' = K ++ y' :: G := fun y y' G => by rw [List.set_append_right _ _ (by omega), show x - K.length = 0 by omega]; rfl
      rcases hO.rv with ⟨hv0, rfl⟩ | ⟨kv, hkv, rfl, hkv2⟩
      · have hV0 : Vs = [] := by simpa using hv0
        repeat first | refine AWp.seq ?_ | refine AWp.block ?_
        refine AWp.ops ?_
        simp [gx, sx, ← hxx, o1, o2]
        refine ⟨_, _, ⟨by rw [List.getElem?_append_left (by omega), h0, hA], gx _ _, hO.to (fun k ob _ _ _ hk => by rw [List.getElem?_append_left (List.getElem?_eq_some_iff.1 hk).1]; exact hk) ?_⟩, (Weak.slots [1, 2, 3, 7, 8]).to rfl rfl⟩
        exact .inr ⟨x + 1, by omega, by simp [hV0], by rw [List.getElem?_append_right (by omega)]; simp [hV0, hxx]⟩
      · have hkx := (List.getElem?_eq_some_iff.1 hkv2).1
        have gk : ∀ G, (K ++ G)[kv]? = some ⟨2, 1, Vs.map I, true, none⟩ := fun G => by rw [List.getElem?_append_left hkx]; exact hkv2
        have sk : ∀ y G, (K ++ G).set kv y = K.set kv y ++ G := fun y G => List.set_append_left _ _ hkx
        have gx2 : ∀ z y G, (K.set kv z ++ y :: G)[x]? = some y := fun z y G => by rw [List.getElem?_append_right (by simp; omega), show x - (K.set kv z).length = 0 by simp; omega]; rfl
        have sx2 : ∀ z y y' G, (K.set kv z ++ y :: G).set x y' = K.set kv z ++ y' :: G := fun z y y' G => by rw [List.set_append_right _ _ (by simp; omega), show x - (K.set kv z).length = 0 by simp; omega]; rfl
        repeat first | refine AWp.seq ?_ | refine AWp.block ?_
        refine AWp.ops ?_
        simp [gx, sx, ← hxx, o1, o2, gk, sk, gx2, sx2, w1, w2]
        refine ⟨_, _, ⟨by rw [List.getElem?_append_left (by simp; omega), gs_ne (by omega), h0, hA], gx2 _ _ _, hO.to (fun k ob _ hty _ hk => ?_) ?_⟩, (Weak.slots [1, 2, 3, 7, 8]).to rfl rfl⟩
        · rw [List.getElem?_append_left (by simp; exact (List.getElem?_eq_some_iff.1 hk).1), gs_ne]
          · exact hk
          · rintro rfl
            rw [hkv2] at hk
            rw [← Option.some.inj hk] at hty
            exact hty rfl
        · exact .inr ⟨kv, hkv, by simp, by rw [List.getElem?_append_left (by simp; omega), gs_eq hkv2]; simp⟩
    rintro ⟨v1, K1⟩ ⟨p1, p2, p3⟩
    simp only at p1 p2 p3 ⊢
    clear hO h0 hKl hxx o3 K
    have hxi : i64r 0 := by omega
    have hV1 : InI (Vs ++ [0]) := ⟨by simp; omega, fun y hy => by
      rcases List.mem_append.1 hy with h | h
      · exact hx3 y h
      · simp at h; omega⟩
    obtain ⟨kv, hkv, hv1, hkv2⟩ : ∃ kv, 2 ≤ kv ∧ v1 = .slc kv (Vs.length + 1) 0 (Vs.length + 1) none ∧ K1[kv]? = some ⟨2, 1, (Vs ++ [0]).map I, true, none⟩ := by
      rcases p3.rv with ⟨h, _⟩ | ⟨kv, h1, h2, h3⟩
      · simp at h
      · exact ⟨kv, h1, by simpa using h2, h3⟩
    have hR1 := p3.read ⟨hlen1, hx1⟩ ⟨hlen2, hx2⟩ hrg (by omega) (p3.rv.ints hV1 5)
    repeat first | refine AWp.seq ?_ | refine AWp.block ?_
    refine AWp.ops ?_
    simp [p2]
    refine (check_own hR1 (by omega) (by omega)).mono ?_
    rintro r H' ⟨hH', ys, hys, rfl⟩
    subst H'
    have hne := bends_v (W := Vs ++ [0]) h hys (by simp)
    simp
    refine AWp.cond (b := false) (by simp [hne]) (fun h => by cases h) (fun _ => ?_)
    clear hne hys hR1
    refine AWp.skip ?_
    simp only [qSeq]
    refine AWp.cutE (σ := AV × List AObj) (fun s => s.2[0]? = some (tnO a) ∧ s.2[x]? = some (tnO (.agg [sh, f, .slc lO xs.length 0 xs.length none, s.1])) ∧ x < s.2.length)
      (fun s => [.und, I i0, I k0, .ptr 0 1 0 0, .und, .und, .und, Bo true, .ptr x 1 0 0, .und, .und, .und, .und, .und, .und, .und, .und, .und, .und, .und, .und, .und, .und, .und, .und, .und, .und, .und, .und, .und, .und, .und, .und, .und, .und, .und, .und, .und, .und, .und, .und, .und, .und, .und, .und, .und, .und, .und, .und, .und, .und, .und, .und, .und, .und, .und, .und, .und, .und, .und, .und, .und, .und, .und, .und, .und, .und, .und, .und, .und, .und, .und, .und, .und, .und, .und, .und, .und, .und, .und, .und, .und, .und, .und, .und, .und, .und, .und, .und, .und, .und, .und, .und, .und, .und, .und, .und, .und, .und, .und, .und, .und, .und, .und, .und, .und, .und, .und, .und, .und, .und, .und, .und, .und, .und, .und, .und, .und, .und, .und, .und, .und, .und, .und, .und, .und, .und, .und, .und, .und, .und, .und]) (fun s => s.2) ?_ ?_
    · have hxl := (List.getElem?_eq_some_iff.1 p2).1
      repeat first | refine AWp.seq ?_ | refine AWp.block ?_
      refine AWp.ops ?_
      simp [p1, hA]
      by_cases hVn : Vs.length = 0
      · refine AWp.cond (b := false) (by simp [hVn]) (fun h => by cases h) (fun _ => ?_)
        refine AWp.skip ?_
        simp only [qSeq]
        exact ⟨_, _, ⟨by rw [p1, hA], p2, hxl⟩, (Weak.slots [1, 2, 3, 7, 8]).to rfl rfl⟩
      · have w3 := wrap_i64 (n := (Vs.length : Int) - 1) (by omega) (by omega)
        have g1 : (1 : Int) ≤ Vs.length := by omega
        have g2 : ((Vs.length : Int) - 1).toNat = Vs.length - 1 := by omega
        have g3 : (Vs.length : Int) - 1 ≤ (Vs.length : Int) + 1 := by omega
        have g4 : 0 < Vs.length := by omega
        refine AWp.cond (b := true) (by simp; omega) (fun _ => ?_) (fun h => by cases h)
        rw [hv1] at p2
        repeat first | refine AWp.seq ?_ | refine AWp.block ?_
        refine AWp.ops ?_
        simp [p1, p2, hA, hkv2, w3, g1, g2, g3, g4, o1, o2]
        have hgx : (K1.set x (tnO (.agg [sh, f, .slc lO xs.length 0 xs.length none, .slc kv (Vs.length + 1) 0 (Vs.length - 1) none])))[x]? = some (tnO (.agg [sh, f, .slc lO xs.length 0 xs.length none, .slc kv (Vs.length + 1) 0 (Vs.length - 1) none])) := gs_eq p2
        have hkx : x ≠ kv := by
          rintro rfl
          rw [p2] at hkv2
          simp at hkv2
        have hO2 : OwnX 2 lO xs.length sh f v1 S F (Vs ++ [0]) (K1.set x (tnO (.agg [sh, f, .slc lO xs.length 0 xs.length none, .slc kv (Vs.length + 1) 0 (Vs.length - 1) none]))) es xs vr := by
          refine p3.to (fun k ob _ _ hty hk => ?_) (p3.rv.set p2 (by simp) _)
          rw [gs_ne]
          · exact hk
          · rintro rfl
            rw [p2] at hk
            rw [← Option.some.inj hk] at hty
            exact hty rfl
        have hg0 : (K1.set x (tnO (.agg [sh, f, .slc lO xs.length 0 xs.length none, .slc kv (Vs.length + 1) 0 (Vs.length - 1) none])))[0]? = some (tnO a) := by
          have : x ≠ 0 := by
            rintro rfl
            rw [p1] at p2
            rw [hA] at p2
            simp at p2
          rw [gs_ne this, p1]
        have hgk : (K1.set x (tnO (.agg [sh, f, .slc lO xs.length 0 xs.length none, .slc kv (Vs.length + 1) 0 (Vs.length - 1) none])))[kv]? = some ⟨2, 1, (Vs ++ [0]).map I, true, none⟩ := by
          rw [gs_ne hkx]; exact hkv2
        have hxl2 : x < (K1.set x (tnO (.agg [sh, f, .slc lO xs.length 0 xs.length none, .slc kv (Vs.length + 1) 0 (Vs.length - 1) none]))).length := by simpa using hxl
        obtain ⟨K2, hK2⟩ : ∃ K2, K2 = K1.set x (tnO (.agg [sh, f, .slc lO xs.length 0 xs.length none, .slc kv (Vs.length + 1) 0 (Vs.length - 1) none])) := ⟨_, rfl⟩
        rw [← hK2] at hgx hO2 hg0 hgk hxl2 ⊢
        have hV2 : ISl (frz K2 0 6 false (.slc kv (Vs.length + 1) 0 (Vs.length - 1) none)) ((Vs ++ [0]).take (Vs.length - 1)) := by
          have e : frz K2 0 6 false (.slc kv (Vs.length + 1) 0 (Vs.length - 1) none) = .imm false none 1 (((Vs ++ [0]).take (Vs.length - 1)).map I) := by
            simp [hgk]
            omega
          rw [e]
          exact ISl.of _ (by simp; omega) (fun y hy => hV1.2 y (List.mem_of_mem_take hy))
        have hR2 := hO2.read ⟨hlen1, hx1⟩ ⟨hlen2, hx2⟩ hrg (by omega) hV2
        repeat first | refine AWp.seq ?_ | refine AWp.block ?_
        refine AWp.ops ?_
        simp [hgx]
        refine (check_own hR2 (by omega) (by omega)).mono ?_
        rintro r H' ⟨hH', ys, hys, rfl⟩
        subst H'
        have hne := bends_v (W := (Vs ++ [0]).take (Vs.length - 1)) h hys (by simp; omega)
        simp
        refine AWp.cond (b := false) (by simp [hne]) (fun h => by cases h) (fun _ => ?_)
        refine AWp.skip ?_
        simp only [qSeq]
        exact ⟨_, _, ⟨by rw [hg0, hA], hgx, hxl2⟩, (Weak.slots [1, 2, 3, 7, 8]).to rfl rfl⟩
    rintro ⟨v2, K2⟩ ⟨r1, r2, r3⟩
    simp only at r1 r2 r3 ⊢
    clear p1 p2 p3 hkv2 hkv hv1 K1
    repeat first | refine AWp.seq ?_ | refine AWp.block ?_
    refine AWp.ops ?_
    simp [r1, hA]
    by_cases hn0 : xs.length = 0
    · refine AWp.cond (b := true) (by simp [hn0]) (fun _ => ?_) (fun h => by cases h)
      repeat first | refine AWp.seq ?_ | refine AWp.block ?_
      refine AWp.ops ?_
      simp
      refine AWp.ret ?_
      simp
      refine retOk.of rfl ?_
      simp
    refine AWp.cond (b := false) (by simp [hn0]) (fun h => by cases h) (fun _ => ?_)
    obtain ⟨i, hi, hi2⟩ := mode_at (x := i0) (L := xs.length) (by omega) (by omega)
    refine AWp.skip ?_
    simp only [qSeq]
    clear o1 o2
    have hx0 : x ≠ 0 := by
      rintro rfl
      rw [r1] at r2
      rw [hA] at r2
      simp at r2
    have ha3 : ∀ K k, frz K k 3 true a = a := by intro K k; rw [hA]; simp
    obtain ⟨U, hU⟩ : ∃ U, U = AV.agg [.und, .und, .und, .und] := ⟨_, rfl⟩
    have clean : ∀ (K : List AObj) (y1 y2 y3 y4 : AV), K[0]? = some (tnO a) → K[x]? = some (tnO (.agg [y1, y2, y3, y4])) → ∃ K3 : List AObj, K3[0]? = some (tnO a) ∧ K3[x]? = some (tnO U) ∧ (∀ K' k, K3.map (fun o => { o with es := o.es.map (frz K' k 3 true) }) = K3) ∧ ∀ fr, Weak 0 fr K fr K3 := by
      intro K y1 y2 y3 y4 q1 q2
      refine ⟨deadH (fun i => i == 0 || i == x) (K.set x (tnO U)), ?_, ?_, ?_, fun fr => ?_⟩
      · rw [deadH_keep (by simp), gs_ne hx0]; exact q1
      · rw [deadH_keep (by simp), gs_eq q2]
      · exact dead_stable (by rw [gs_ne hx0]; exact q1) (gs_eq q2) ha3 (fun K' k => by rw [hU]; simp)
      · have := (Weak.blank (nb := 0) (fr := fr) q2).trans (Weak.dead (fun i => i == 0 || i == x))
        rw [hU]
        simpa [blankO, blankA] using this
    obtain ⟨K3, d0, dx, dst, dw⟩ := clean K2 _ _ _ _ r1 r2
    refine AWp.weak (dw _) ?_
    clear dw r1 r2 r3 K2
    have w1 : IntKind.i64.wrap ((i0.tmod xs.length) + xs.length) = i0.tmod xs.length + xs.length := by
      have h1 : i0.tmod xs.length < xs.length := Int.tmod_lt_of_pos _ (by omega)
      have h2 : -(xs.length : Int) < i0.tmod xs.length := by
        have := Int.tmod_lt_of_pos (-i0) (b := (xs.length : Int)) (by omega)
        rw [Int.neg_tmod] at this
        omega
      exact wrap_i64 (by omega) (by omega)
    repeat first | refine AWp.seq ?_ | refine AWp.block ?_
    refine AWp.ops ?_
    simp [d0, hA, hn0, hi2]
    have hxb := (List.getElem?_eq_some_iff.1 dx).1
    repeat first | refine AWp.seq ?_ | refine AWp.block ?_
    refine AWp.ops ?_
    simp [d0, hA]
    refine (Copy_own ha' xs.length K3 (fun K k _ => dst K k) hfewT).mono ?_
    rintro r K ⟨o, lO, a2, sh, f, v, es, vr, hC, rfl⟩
    have hO := hC.own
    have hpre : ∀ k, k < K3.length → K[k]? = K3[k]? := fun k hk => by
      rw [← hC.pre, List.getElem?_take, if_pos hk]
    have e0 : K[0]? = some (tnO a) := by rw [hpre 0 (by omega)]; exact d0
    have ex : K[x]? = some (tnO U) := by rw [hpre x hxb]; exact dx
    simp only at hO
    clear hC hpre
    have o1 := hO.rs.one
    have o2 := hO.rf.one
    have o3 := hO.rv.one
    rw [hU] at ex
    simp [ex, o1, o2, o3]
    obtain ⟨K5, hK5⟩ : ∃ K5, K5 = K.set x (tnO (.agg [sh, f, .slc lO xs.length 0 xs.length none, v])) := ⟨_, rfl⟩
    have hO5 : OwnX (K3.length + 1) lO xs.length sh f v S F Vs K5 es xs vr := by
      rw [hK5]
      refine hO.to (fun k ob hk _ hty hk2 => ?_) (hO.rv.set ex (by simp) _)
      rw [gs_ne (by omega)]; exact hk2
    have e05 : K5[0]? = some (tnO a) := by rw [hK5, gs_ne hx0]; exact e0
    have ex5 : K5[x]? = some (tnO (.agg [sh, f, .slc lO xs.length 0 xs.length none, v])) := by rw [hK5, gs_eq ex]
    rw [← hK5]
    clear hK5 hO e0 ex
    have hlo5 := hO5.lo
    have hel5 := hO5.lv.1
    obtain ⟨p, q, he5, -, -⟩ := hO5.lv.2 i hi
    have hvr : vr = none := by
      match vr, hO5.v1, hO5.v2 with
      | none, _, _ => rfl
      | some true, h, _ => have := h rfl; rw [this] at hel5; simp at hel5; omega
      | some false, _, h => exact absurd rfl h
    subst hvr
    have hie : i < es.length := by omega
    obtain ⟨ws, hws⟩ := wrap_succ (hrg xs[i] (List.getElem_mem hi)).2.2.2
    have he5' : es[i] = .agg [I xs[i].lv.k, I xs[i].lv.sz, p, q] := by rw [List.getElem?_eq_getElem hie] at he5; exact Option.some.inj he5
    repeat first | refine AWp.seq ?_ | refine AWp.block ?_
    refine AWp.ops ?_
    simp [ex5, hlo5, hel5, he5', hi, hie]
    have hlx : lO ≠ x := by
      rintro rfl
      rw [ex5] at hlo5
      simp at hlo5
    have hO6 := hO5.setL (hO5.lv.setsz hi he5 (IntKind.i64.wrap (xs[i].lv.sz + 1)))
    have ex6 : ∀ y, (K5.set lO y)[x]? = some (tnO (.agg [sh, f, .slc lO xs.length 0 xs.length none, v])) := fun y => by rw [gs_ne hlx]; exact ex5
    have e06 : ∀ y, (K5.set lO y)[0]? = some (tnO a) := fun y => by
      rw [gs_ne ?_]
      · exact e05
      · rintro rfl
        rw [e05] at hlo5
        simp at hlo5
    obtain ⟨xs', hxs'⟩ : ∃ xs', xs' = xs.set i ⟨{ xs[i].lv with sz := IntKind.i64.wrap (xs[i].lv.sz + 1) }, xs[i].p, xs[i].q⟩ := ⟨_, rfl⟩
    have hxl' : xs'.length = xs.length := by rw [hxs']; simp
    have hrg' : ∀ x ∈ xs', InI x.lv.pos ∧ InI x.lv.crd ∧ i64r x.lv.k ∧ i64r x.lv.sz := by
      intro y hy
      rw [hxs'] at hy
      rcases List.mem_or_eq_of_mem_set hy with hy | rfl
      · exact hrg y hy
      · have := hrg xs[i] (List.getElem_mem hi)
        exact ⟨this.1, this.2.1, this.2.2.1, ws⟩
    rw [← hxs'] at hO6
    have hR6 := hO6.read ⟨hlen1, hx1⟩ ⟨hlen2, hx2⟩ hrg' (by omega) (hO6.rv.ints ⟨hlen3, hx3⟩ 5)
    rw [hxl'] at hR6
    repeat first | refine AWp.seq ?_ | refine AWp.block ?_
    refine AWp.ops ?_
    simp [ex6]
    refine (check_own hR6 (by omega) (by omega)).mono ?_
    rintro r H' ⟨hH', ys, hys, rfl⟩
    subst H'
    have hyl : ys.length = xs.length := by
      have := congrArg List.length hys
      simp at this; omega
    have hne : tnCheck S F ys Vs ≠ 0 := by
      refine bends_z hZ h hi (by omega) ?_
      have e : (ys.map (·.lv))[i]? = (xs'.map (·.lv))[i]? := by rw [hys]
      rw [List.getElem?_map, List.getElem?_map, List.getElem?_eq_getElem (by omega), List.getElem?_eq_getElem (by omega)] at e
      simp only [Option.map_some, Option.some.injEq] at e
      rw [e]
      simp only [hxs', List.getElem_set_self]
      exact hws
    simp
    refine AWp.cond (b := false) (by simp [hne]) (fun h => by cases h) (fun _ => ?_)
    refine AWp.skip ?_
    simp only [qSeq]
    obtain ⟨K7, d07, dx7, dst7, dw7⟩ := clean _ _ _ _ _ (e06 _) (ex6 _)
    refine AWp.weak (dw7 _) ?_
    clear dw7 hR6 hO6 hO5 e06 ex6 e05 ex5 hlo5 he5 hel5
    repeat first | refine AWp.seq ?_ | refine AWp.block ?_
    refine AWp.ops ?_
    simp [d07, hA]
    have hxb := (List.getElem?_eq_some_iff.1 dx7).1
    refine (Copy_own ha' i K7 (fun K k _ => dst7 K k) hfewT).mono ?_
    rintro r K ⟨o, lO, a2, sh, f, v, es, vr, hC, rfl⟩
    have hO := hC.own
    have hpre : ∀ k, k < K7.length → K[k]? = K7[k]? := fun k hk => by
      rw [← hC.pre, List.getElem?_take, if_pos hk]
    have ex : K[x]? = some (tnO U) := by rw [hpre x hxb]; exact dx7
    simp only at hO
    clear hC hpre
    have o1 := hO.rs.one
    have o2 := hO.rf.one
    have o3 := hO.rv.one
    rw [hU] at ex
    simp [ex, o1, o2, o3]
    obtain ⟨K5, hK5⟩ : ∃ K5, K5 = K.set x (tnO (.agg [sh, f, .slc lO xs.length 0 xs.length none, v])) := ⟨_, rfl⟩
    have hO5 : OwnX (K7.length + 1) lO i sh f v S F Vs K5 es xs vr := by
      rw [hK5]
      refine hO.to (fun k ob hk _ hty hk2 => ?_) (hO.rv.set ex (by simp) _)
      rw [gs_ne (by omega)]; exact hk2
    have ex5 : K5[x]? = some (tnO (.agg [sh, f, .slc lO xs.length 0 xs.length none, v])) := by rw [hK5, gs_eq ex]
    rw [← hK5]
    clear hK5 hO ex
    have hlo5 := hO5.lo
    have hel5 := hO5.lv.1
    obtain ⟨p, q, he5, -, hq5⟩ := hO5.lv.2 i hi
    obtain ⟨dd, dd1, dd2, dd3⟩ := hq5 rfl
    have hvr : vr = none := by
      match vr, hO5.v1, hO5.v2 with
      | none, _, _ => rfl
      | some true, h, _ => have := h rfl; rw [this] at hel5; simp at hel5; omega
      | some false, _, h => exact absurd rfl h
    subst hvr
    have hie : i < es.length := by omega
    have he5' : es[i] = .agg [I xs[i].lv.k, I xs[i].lv.sz, p, q] := by rw [List.getElem?_eq_getElem hie] at he5; exact Option.some.inj he5
    rcases dd3 with ⟨hq0, rfl⟩ | ⟨kq, k1, rfl, k3⟩
    ·
      repeat first | refine AWp.seq ?_ | refine AWp.block ?_
      refine AWp.ops ?_
      simp [ex5, hlo5, hel5, he5', hi, hie]
      refine AWp.cond (b := true) (by simp) (fun _ => ?_) (fun h => by cases h)
      repeat first | refine AWp.seq ?_ | refine AWp.block ?_
      refine AWp.ops ?_
      simp
      refine AWp.ret ?_
      simp
      refine retOk.of rfl ?_
      simp
    obtain ⟨cs, hcs⟩ : ∃ cs, cs = xs[i].lv.crd := ⟨_, rfl⟩
    rw [← hcs] at k3 he5 he5'
    simp only [List.length_map] at he5 he5'
    have hcl : cs.length ≤ 3000 := by
      have := hf2 xs[i] (List.getElem_mem hi)
      rw [← hcs] at this
      omega
    by_cases hc0 : cs.length = 0
    ·
      repeat first | refine AWp.seq ?_ | refine AWp.block ?_
      refine AWp.ops ?_
      simp [ex5, hlo5, hel5, he5', hi, hie, hc0]
      refine AWp.cond (b := true) (by simp) (fun _ => ?_) (fun h => by cases h)
      repeat first | refine AWp.seq ?_ | refine AWp.block ?_
      refine AWp.ops ?_
      simp
      refine AWp.ret ?_
      simp
      refine retOk.of rfl ?_
      simp
    obtain ⟨m, hm, hm2⟩ := mode_at (x := k0) (L := cs.length) (by omega) (by omega)
    repeat first | refine AWp.seq ?_ | refine AWp.block ?_
    refine AWp.ops ?_
    simp [ex5, hlo5, hel5, he5', hi, hie, hc0]
    refine AWp.cond (b := false) (by simp [hc0]) (fun h => by cases h) (fun _ => ?_)
    refine AWp.skip ?_
    simp only [qSeq]
    repeat first | refine AWp.seq ?_ | refine AWp.block ?_
    refine AWp.ops ?_
    simp [ex5, hlo5, hel5, he5', hi, hie, hc0, hm2]
    repeat first | refine AWp.seq ?_ | refine AWp.block ?_
    refine AWp.ops ?_
    simp [ex5, hlo5, hel5, he5', hi, hie, hc0, hm2, hm, k3]
    have hne0 : xs[i].lv.crd ≠ [] := by rw [← hcs]; exact fun h => hc0 (by rw [h]; rfl)
    have hO6 := hO5.setC hi he5 hne0 (c' := cs.set m xs[i].lv.sz) (by simp [hcs])
    have hkx : kq ≠ x := by
      rintro rfl
      rw [ex5] at k3
      simp at k3
    have hset : (cs.map I).set m (AV.sc (Value.int IntKind.i64 xs[i].lv.sz)) = (cs.set m xs[i].lv.sz).map I := by rw [List.map_set]
    obtain ⟨xs', hxs'⟩ : ∃ xs', xs' = xs.set i ⟨{ xs[i].lv with crd := cs.set m xs[i].lv.sz }, xs[i].p, xs[i].q⟩ := ⟨_, rfl⟩
    have hxl' : xs'.length = xs.length := by rw [hxs']; simp
    have hri := hrg xs[i] (List.getElem_mem hi)
    have hrg' : ∀ x ∈ xs', InI x.lv.pos ∧ InI x.lv.crd ∧ i64r x.lv.k ∧ i64r x.lv.sz := by
      intro y hy
      rw [hxs'] at hy
      rcases List.mem_or_eq_of_mem_set hy with hy | rfl
      · exact hrg y hy
      · refine ⟨hri.1, ⟨by simp; omega, fun c hc => ?_⟩, hri.2.2.1, hri.2.2.2⟩
        rcases List.mem_or_eq_of_mem_set hc with hc | rfl
        · rw [hcs] at hc; exact hri.2.1.2 c hc
        · exact hri.2.2.2
    rw [← hxs'] at hO6
    have hR6 := hO6.read ⟨hlen1, hx1⟩ ⟨hlen2, hx2⟩ hrg' (by omega) (hO6.rv.ints ⟨hlen3, hx3⟩ 5)
    rw [hxl'] at hR6
    have ex6 : ∀ y, (K5.set kq y)[x]? = some (tnO (.agg [sh, f, .slc lO xs.length 0 xs.length none, v])) := fun y => by rw [gs_ne hkx]; exact ex5
    repeat first | refine AWp.seq ?_ | refine AWp.block ?_
    refine AWp.ops ?_
    simp [ex6]
    rw [hset]
    refine (check_own hR6 (by omega) (by omega)).mono ?_
    rintro r H' ⟨hH', ys, hys, rfl⟩
    have hyl : ys.length = xs.length := by
      have := congrArg List.length hys
      simp at this; omega
    have hyi : ∀ k (h : k < xs.length), ys[k].lv = (xs'[k]'(by omega)).lv := fun k h => by
      have e : (ys.map (·.lv))[k]? = (xs'.map (·.lv))[k]? := by rw [hys]
      rw [List.getElem?_map, List.getElem?_map, List.getElem?_eq_getElem (by omega), List.getElem?_eq_getElem (by omega)] at e
      simpa only [Option.map_some, Option.some.injEq] using e
    have h3 : tnCheck S F ys Vs = 3 := by
      refine bends_c hZ h hyl hi (fun k hk hki => ?_) ?_ ?_
      · rw [hyi k hk]; simp only [hxs', List.getElem_set_ne (Ne.symm hki)]
      · rw [hyi i hi]; simp only [hxs', List.getElem_set_self, true_and]
        simp [hcs]
      · rw [hyi i hi]; simp only [hxs', List.getElem_set_self]
        exact ⟨xs[i].lv.sz, List.mem_iff_getElem.2 ⟨m, by simp; omega, by simp⟩, Int.le_refl _⟩
    simp [h3]
    refine AWp.ret ?_
    simp
    refine retOk.of rfl ?_
    simp
  refine (base.frozen 2).mono ?_
  rintro q H' ⟨rfl, r, G, rfl, rfl⟩
  exact ⟨rfl, by simp⟩
end Go.Fw
