import Derived.Test.YtbhkoeaecngdhaaFwsum2
namespace Go.Fw
open Go Go.RowKit Go.Proofs
set_option maxRecDepth 100000
set_option linter.unusedSimpArgs false
set_option linter.unusedVariables false

def Sum_35 : AC := (.seq (.ops [⟨(some 98), none, (.k (.ld 2 true (.t 7)))⟩, ⟨none, none, (.k (.st 2 (.t 4) (.t 98)))⟩, ⟨(some 5), none, (.k (.mov (.c (.sc (.int .i64 0)))))⟩]) .ret)
def Sum_34 : AC := (.seq (.ops [⟨(some 78), none, (.k (.mov (.t 76)))⟩, ⟨(some 79), none, (.k (.iad 1 (.t 74) (.t 76)))⟩, ⟨(some 80), none, (.k (.ld 1 false (.t 79)))⟩, ⟨(some 13), none, (.k (.mov (.t 78)))⟩, ⟨(some 14), none, (.k (.mov (.t 80)))⟩]) (.ops [⟨(some 81), none, (.k (.fad 1 (.t 7)))⟩, ⟨(some 82), none, (.k (.ld 1 false (.t 81)))⟩, ⟨(some 83), none, (.k (.mov (.t 13)))⟩, ⟨(some 84), none, (.k (.mov (.t 12)))⟩, ⟨(some 85), none, (.k (.bin .quo (.t 83) (.t 84)))⟩, ⟨(some 86), none, (.k (.mov (.t 9)))⟩, ⟨(some 87), none, (.k (.bin .mul (.t 85) (.t 86)))⟩, ⟨(some 88), none, (.k (.mov (.t 13)))⟩, ⟨(some 89), none, (.k (.mov (.t 9)))⟩, ⟨(some 90), none, (.k (.bin .rem (.t 88) (.t 89)))⟩, ⟨(some 91), none, (.k (.bin .add (.t 87) (.t 90)))⟩, ⟨(some 92), none, (.k (.iad 1 (.t 82) (.t 91)))⟩, ⟨(some 93), none, (.k (.ld 1 false (.t 92)))⟩, ⟨(some 94), none, (.k (.mov (.t 14)))⟩, ⟨(some 95), none, (.k (.bin .add (.t 93) (.t 94)))⟩, ⟨(some 96), none, (.k (.iad 1 (.t 82) (.t 91)))⟩, ⟨none, none, (.k (.st 1 (.t 96) (.t 95)))⟩]))
def Sum_33 : AC := (.block 3 Sum_34)
def Sum_32 : AC := (.seq Sum_33 (.ops [⟨(some 97), none, (.k (.bin .add (.t 76) (.c (.sc (.int .i64 1)))))⟩, ⟨(some 76), none, (.k (.mov (.t 97)))⟩]))
def Sum_31 : AC := (.seq (.cond (.t 77) .skip (.exit 2)) Sum_32)
def Sum_30 : AC := (.seq (.ops [⟨(some 77), none, (.k (.bin .lss (.t 76) (.t 75)))⟩]) Sum_31)
def Sum_29 : AC := (.loop Sum_30)
def Sum_28 : AC := (.block 2 Sum_29)
def Sum_27 : AC := (.seq (.ops [⟨(some 73), none, (.k (.fad 1 (.t 2)))⟩, ⟨(some 74), none, (.k (.ld 1 false (.t 73)))⟩, ⟨(some 75), none, (.k (.len (.t 74)))⟩, ⟨(some 76), none, (.k (.mov (.c (.sc (.int .i64 0)))))⟩]) Sum_28)
def Sum_26 : AC := (.seq Sum_27 Sum_35)
def Sum_25 : AC := (.seq (.ops [⟨(some 66), none, (.k (.mov (.t 9)))⟩, ⟨(some 67), none, (.k (.fad 0 (.t 2)))⟩, ⟨(some 68), none, (.k (.ld 1 false (.t 67)))⟩, ⟨(some 69), none, (.k (.mov (.t 1)))⟩, ⟨(some 70), none, (.k (.iad 1 (.t 68) (.t 69)))⟩, ⟨(some 71), none, (.k (.ld 1 false (.t 70)))⟩, ⟨(some 72), none, (.k (.bin .mul (.t 66) (.t 71)))⟩, ⟨(some 12), none, (.k (.mov (.t 72)))⟩]) Sum_26)
def Sum_24 : AC := (.seq (.ops [⟨(some 60), none, (.k (.iad 1 (.t 56) (.t 58)))⟩, ⟨(some 61), none, (.k (.ld 1 false (.t 60)))⟩, ⟨(some 11), none, (.k (.mov (.t 61)))⟩]) (.ops [⟨(some 62), none, (.k (.mov (.t 9)))⟩, ⟨(some 63), none, (.k (.mov (.t 11)))⟩, ⟨(some 64), none, (.k (.bin .mul (.t 62) (.t 63)))⟩, ⟨(some 9), none, (.k (.mov (.t 64)))⟩]))
def Sum_23 : AC := (.block 1 Sum_24)
def Sum_22 : AC := (.seq Sum_23 (.ops [⟨(some 65), none, (.k (.bin .add (.t 58) (.c (.sc (.int .i64 1)))))⟩, ⟨(some 58), none, (.k (.mov (.t 65)))⟩]))
def Sum_21 : AC := (.seq (.cond (.t 59) .skip (.exit 0)) Sum_22)
def Sum_20 : AC := (.seq (.ops [⟨(some 59), none, (.k (.bin .lss (.t 58) (.t 57)))⟩]) Sum_21)
def Sum_19 : AC := (.loop Sum_20)
def Sum_18 : AC := (.block 0 Sum_19)
def Sum_17 : AC := (.seq (.ops [⟨(some 52), none, (.k (.fad 0 (.t 2)))⟩, ⟨(some 53), none, (.k (.ld 1 false (.t 52)))⟩, ⟨(some 54), none, (.k (.mov (.t 1)))⟩, ⟨(some 55), none, (.k (.bin .add (.t 54) (.c (.sc (.int .i64 1)))))⟩, ⟨(some 56), none, (.k (.sl 1 (.t 53) (some (.t 55)) none none))⟩, ⟨(some 57), none, (.k (.len (.t 56)))⟩, ⟨(some 58), none, (.k (.mov (.c (.sc (.int .i64 0)))))⟩]) Sum_18)
def Sum_16 : AC := (.seq Sum_17 Sum_25)
def Sum_15 : AC := (.seq (.ops [⟨(some 9), none, (.k (.mov (.c (.sc (.int .i64 1)))))⟩]) Sum_16)
def Sum_14 : AC := (.seq (.ops [⟨(some 50), none, (.k (.ld 2 true (.t 7)))⟩, ⟨(some 51), none, (.k (.mov (.t 8)))⟩, ⟨none, none, (.k (.st 2 (.t 4) (.t 50)))⟩, ⟨(some 5), none, (.k (.mov (.t 51)))⟩]) .ret)
def Sum_13 : AC := (.cond (.t 49) Sum_14 .skip)
def Sum_12 : AC := (.seq (.ops [⟨(some 42), none, (.k (.mov (.t 8)))⟩, ⟨(some 43), none, (.k (.bin .neq (.t 42) (.c (.sc (.int .i64 0)))))⟩, ⟨(some 44), none, (.k (.mov (.t 43)))⟩, ⟨(some 45), (some (44, false)), (.k (.fad 1 (.t 2)))⟩, ⟨(some 46), (some (44, false)), (.k (.ld 1 false (.t 45)))⟩, ⟨(some 47), (some (44, false)), (.k (.len (.t 46)))⟩, ⟨(some 48), (some (44, false)), (.k (.bin .eql (.t 47) (.c (.sc (.int .i64 0)))))⟩, ⟨(some 49), none, (.k (.pick (.t 44) (.c (.sc (.bool true))) (.t 48)))⟩]) Sum_13)
def Sum_11 : AC := (.seq Sum_12 Sum_15)
def Sum_10 : AC := (.seq (.ops [⟨(some 32), none, (.k (.fad 0 (.t 2)))⟩, ⟨(some 33), none, (.k (.ld 1 false (.t 32)))⟩, ⟨(some 34), none, (.call false (.c (.fn (.func 48) [] [])) [(.t 33)])⟩, ⟨(some 35), none, (.k (.mov (.t 1)))⟩, ⟨(some 36), none, (.k (.mov (.t 1)))⟩, ⟨(some 37), none, (.k (.bin .add (.t 36) (.c (.sc (.int .i64 1)))))⟩, ⟨(some 38), none, (.call false (.c (.fn (.func 55) [] [])) [(.t 34), (.t 35), (.t 37)])⟩, ⟨(some 39), none, (.call false (.c (.fn (.func 20) [] [])) [(.t 38)])⟩, ⟨(some 31), none, (.k (.mov (.t 39)))⟩, ⟨(some 40), none, (.k (.ext (.t 31) 0))⟩, ⟨(some 41), none, (.k (.ext (.t 31) 1))⟩, ⟨(some 7), none, (.k (.new 35 2 (.c (.agg [(.imm true none 0 []), (.imm true none 0 [])]))))⟩, ⟨none, none, (.k (.st 2 (.t 7) (.t 40)))⟩, ⟨(some 8), none, (.k (.mov (.t 41)))⟩]) Sum_11)
def Sum_9 : AC := (.seq (.ops [⟨(some 30), none, (.k (.mk [(.imm true none 0 []), (.imm true none 0 [])] []))⟩, ⟨none, none, (.k (.st 2 (.t 4) (.t 30)))⟩, ⟨(some 5), none, (.k (.mov (.c (.sc (.int .i64 3)))))⟩]) .ret)
def Sum_8 : AC := (.cond (.t 29) Sum_9 .skip)
def Sum_7 : AC := (.seq (.ops [⟨(some 21), none, (.k (.mov (.t 1)))⟩, ⟨(some 22), none, (.k (.bin .lss (.t 21) (.c (.sc (.int .i64 0)))))⟩, ⟨(some 23), none, (.k (.mov (.t 22)))⟩, ⟨(some 24), (some (23, false)), (.k (.mov (.t 1)))⟩, ⟨(some 25), (some (23, false)), (.k (.fad 0 (.t 2)))⟩, ⟨(some 26), (some (23, false)), (.k (.ld 1 false (.t 25)))⟩, ⟨(some 27), (some (23, false)), (.k (.len (.t 26)))⟩, ⟨(some 28), (some (23, false)), (.k (.bin .geq (.t 24) (.t 27)))⟩, ⟨(some 29), none, (.k (.pick (.t 23) (.c (.sc (.bool true))) (.t 28)))⟩]) Sum_8)
def Sum_6 : AC := (.seq Sum_7 Sum_10)
def Sum_5 : AC := (.seq (.ops [⟨(some 19), none, (.k (.mk [(.imm true none 0 []), (.imm true none 0 [])] []))⟩, ⟨(some 20), none, (.k (.mov (.t 6)))⟩, ⟨none, none, (.k (.st 2 (.t 4) (.t 19)))⟩, ⟨(some 5), none, (.k (.mov (.t 20)))⟩]) .ret)
def Sum_4 : AC := (.cond (.t 18) Sum_5 .skip)
def Sum_3 : AC := (.seq (.ops [⟨(some 17), none, (.k (.mov (.t 6)))⟩, ⟨(some 18), none, (.k (.bin .neq (.t 17) (.c (.sc (.int .i64 0)))))⟩]) Sum_4)
def Sum_2 : AC := (.seq (.ops [⟨(some 15), none, (.k (.ld 2 true (.t 2)))⟩, ⟨(some 16), none, (.call false (.c (.fn (.func 25) [] [])) [(.t 15)])⟩, ⟨(some 6), none, (.k (.mov (.t 16)))⟩]) Sum_3)
def Sum_1 : AC := (.seq Sum_2 Sum_6)
def Sum_ac : AC := (.seq (.ops [⟨(some 2), none, (.k (.new 35 2 (.t 0)))⟩, ⟨(some 4), none, (.k (.new 35 2 (.c (.agg [(.imm true none 0 []), (.imm true none 0 [])]))))⟩, ⟨(some 5), none, (.k (.mov (.c (.sc (.int .i64 0)))))⟩]) Sum_1)
theorem Sum_call {args : List AV} {H : List AObj} {R : AV → List AObj → Prop} (h : AWp Try.prog [] H.length Sum_ac (bodyQ H.length [(.cell 4 2 true), (.t 5)] R) (args ++ List.replicate (99 - args.length) .und) H) : ACalls Try.prog 34 args H R :=
  ACalls.of_fn Try.func34 rfl (by kernel_rfl) rfl Try.ntmps34 h

set_option maxHeartbeats 4000000 in
theorem Sum_spec {d : AV} {D : List Int × List Int} {mode : Int} (hd : Dn d D) : ACalls Try.prog 34 [d, I mode] [] (denseR (sumF D mode)) := by
  have hd' := hd
  obtain ⟨S, vs⟩ := D
  obtain ⟨s1, v1, rfl, hs1, ⟨⟨nl2, c2, z2, rfl, hz2⟩, hr2⟩⟩ := hd
  have hs1' := hs1
  obtain ⟨⟨nl1, c1, z1, rfl, hz1⟩, hr1⟩ := hs1
  simp only at hz1 hz2 hr1 hr2 hs1'
  apply Sum_call
  first | refine AWp.seq (AWp.ops ?_) | refine AWp.seq (AWp.seq (AWp.ops ?_)) | refine AWp.ops ?_ | refine AWp.seq (AWp.block (AWp.seq (AWp.ops ?_))) | refine AWp.seq (AWp.seq (AWp.seq (AWp.ops ?_)))
  simp
  first | refine AWp.seq (AWp.ops ?_) | refine AWp.seq (AWp.seq (AWp.ops ?_)) | refine AWp.ops ?_ | refine AWp.seq (AWp.block (AWp.seq (AWp.ops ?_))) | refine AWp.seq (AWp.seq (AWp.seq (AWp.ops ?_)))
  simp
  refine ((bCheck_spec hd').pure (by simp) (by rintro r rfl; simp) _).mono ?_
  rintro r H' ⟨rfl, rfl⟩
  simp
  first | refine AWp.seq (AWp.ops ?_) | refine AWp.seq (AWp.seq (AWp.ops ?_)) | refine AWp.ops ?_ | refine AWp.seq (AWp.block (AWp.seq (AWp.ops ?_))) | refine AWp.seq (AWp.seq (AWp.seq (AWp.ops ?_)))
  simp
  refine AWp.cond (b := checkF (S, vs) != 0) (by simp) ?_ ?_
  · intro h
    have h : checkF (S, vs) ≠ 0 := by simpa using h
    first | refine AWp.seq (AWp.ops ?_) | refine AWp.seq (AWp.seq (AWp.ops ?_)) | refine AWp.ops ?_ | refine AWp.seq (AWp.block (AWp.seq (AWp.ops ?_))) | refine AWp.seq (AWp.seq (AWp.seq (AWp.ops ?_)))
    simp
    refine AWp.ret ?_
    simp
    refine retOk.of rfl ?_
    exact .inl (by simp [sumF, h])
  intro hc
  have hc : checkF (S, vs) = 0 := by simpa using hc
  refine AWp.skip ?_
  simp only [qSeq]
  first | refine AWp.seq (AWp.ops ?_) | refine AWp.seq (AWp.seq (AWp.ops ?_)) | refine AWp.ops ?_ | refine AWp.seq (AWp.block (AWp.seq (AWp.ops ?_))) | refine AWp.seq (AWp.seq (AWp.seq (AWp.ops ?_)))
  simp
  by_cases hm0 : mode < 0
  · simp [hm0, Int.not_le.2 hm0]
    refine AWp.cond (b := true) (by simp) (fun _ => ?_) (fun h => by cases h)
    first | refine AWp.seq (AWp.ops ?_) | refine AWp.seq (AWp.seq (AWp.ops ?_)) | refine AWp.ops ?_ | refine AWp.seq (AWp.block (AWp.seq (AWp.ops ?_))) | refine AWp.seq (AWp.seq (AWp.seq (AWp.ops ?_)))
    simp
    refine AWp.ret ?_
    simp
    refine retOk.of rfl ?_
    exact .inl (by simp [sumF, hc, hm0])
  by_cases hm1 : (S.length : Int) ≤ mode
  · simp [hm0, Int.not_lt.1 hm0, hm1]
    refine AWp.cond (b := true) (by simp [hm1]) (fun _ => ?_) (fun h => by cases h)
    first | refine AWp.seq (AWp.ops ?_) | refine AWp.seq (AWp.seq (AWp.ops ?_)) | refine AWp.ops ?_ | refine AWp.seq (AWp.block (AWp.seq (AWp.ops ?_))) | refine AWp.seq (AWp.seq (AWp.seq (AWp.ops ?_)))
    simp
    refine AWp.ret ?_
    simp
    refine retOk.of rfl ?_
    exact .inl (by simp [sumF, hc, hm0, hm1])
  simp [hm0, Int.not_lt.1 hm0, hm1]
  refine AWp.cond (b := false) (by simp <;> omega) (fun h => by cases h) (fun _ => ?_)
  refine AWp.skip ?_
  simp only [qSeq]
  obtain ⟨m, rfl⟩ : ∃ m : Nat, mode = m := ⟨mode.toNat, by omega⟩
  have hm : m < S.length := by omega
  have hS4 : S.length ≤ 4 := (laid_ok (check_laid hc).1).1
  have hw := wrap_i64 (n := (m : Int) + 1) (by omega) (by omega)
  have hSne : S ≠ [] := by rintro rfl; simp at hm
  first | refine AWp.seq (AWp.ops ?_) | refine AWp.seq (AWp.seq (AWp.ops ?_)) | refine AWp.ops ?_ | refine AWp.seq (AWp.block (AWp.seq (AWp.ops ?_))) | refine AWp.seq (AWp.seq (AWp.seq (AWp.ops ?_)))
  simp
  refine ((Clone_spec (c := c1) hz1 (by omega)).anywhere (by simp) 4 _).mono ?_
  rintro q H' ⟨r, G, hr, rfl, rfl⟩
  unfold cloneR at hr
  rw [if_neg (by intro e; exact hSne (hz1.1 e)), if_neg hSne] at hr
  obtain ⟨rfl, rfl⟩ := hr
  simp [hw]
  refine (Delete_spec (i := 2) (xs := S) (m := m) (by simp) hm (by omega)).mono ?_
  rintro r H' ⟨rfl, rfl⟩
  simp
  obtain ⟨E, hE⟩ : ∃ E, E = S.eraseIdx m := ⟨_, rfl⟩
  have hEl : E.length = S.length - 1 := by rw [hE, List.length_eraseIdx, if_pos hm]
  have iE : ISl (.imm false none 1 (E.map I)) E := ISl.of _ (by omega) fun x hx => hr1.2 x (List.mem_of_mem_eraseIdx (hE ▸ hx))
  rw [← hE]
  refine (dense_lent 3 (F := zeroF E) ?_).mono ?_
  · have hl1 : E.length + 1 = S.length := by omega
    have ht : List.take (S.length - 1) (E.map I ++ [I 0]) = E.map I := by
      rw [List.take_append_of_le_length (by simp; omega), List.take_of_length_le (by simp; omega)]
    have e : ∀ H, H[2]? = some (intO (E ++ [0])) → [AV.slc 2 S.length 0 (S.length - 1) none].map (frz H 0 3 false) = [.imm false none 1 (E.map I)] := by
      intro H h2
      have h3 : S.length - 1 ≤ S.length := by omega
      have h4 : ¬ S.length - 1 = S.length := by omega
      simp [h2, hl1, h4, ht]
    rw [e _ (by simp)]
    exact Zero_dense iE
  rintro q H' ⟨G, rfl, hcase⟩
  obtain ⟨HH, hHH⟩ : ∃ HH, HH = denO (.agg [.imm nl1 c1 z1 (S.map I), .imm nl2 c2 z2 (vs.map I)]) :: denO nilD :: intO (E ++ [0]) :: G := ⟨_, rfl⟩
  have f0 : HH[0]? = some (denO (.agg [.imm nl1 c1 z1 (S.map I), .imm nl2 c2 z2 (vs.map I)])) := by rw [hHH]; rfl
  have f1 : HH[1]? = some (denO nilD) := by rw [hHH]; rfl
  have hL : 3 ≤ HH.length := by rw [hHH]; simp
  rcases hcase with ⟨h1, h2, rfl⟩ | ⟨h1, d, rfl, hown⟩
  · simp [← hHH]
    refine AWp.weak (Weak.slots [2, 4, 5, 7, 8]) ?_
    obtain ⟨K, hK⟩ : ∃ K, K = HH ++ [denO nilD] := ⟨_, rfl⟩
    have k0 : K[0]? = some (denO (.agg [.imm nl1 c1 z1 (S.map I), .imm nl2 c2 z2 (vs.map I)])) := by rw [hK, List.getElem?_append_left (by omega)]; exact f0
    have k1 : K[1]? = some (denO nilD) := by rw [hK, List.getElem?_append_left (by omega)]; exact f1
    have kp : K[HH.length]? = some (denO nilD) := by rw [hK]; simp
    simp [← hK]
    first | refine AWp.seq (AWp.ops ?_) | refine AWp.seq (AWp.seq (AWp.ops ?_)) | refine AWp.ops ?_ | refine AWp.seq (AWp.block (AWp.seq (AWp.ops ?_))) | refine AWp.seq (AWp.seq (AWp.seq (AWp.ops ?_)))
    simp [k0, k1, kp, h1]
    refine AWp.cond (b := true) (by simp) (fun _ => ?_) (fun h => by cases h)
    first | refine AWp.seq (AWp.ops ?_) | refine AWp.seq (AWp.seq (AWp.ops ?_)) | refine AWp.ops ?_ | refine AWp.seq (AWp.block (AWp.seq (AWp.ops ?_))) | refine AWp.seq (AWp.seq (AWp.seq (AWp.ops ?_)))
    simp [k0, k1, kp, h1]
    refine AWp.ret ?_
    simp
    refine retOk.of (by simp [gs_eq k1]; rfl) ?_
    have e : sumF (S, vs) m = (([], []), (zeroF E).2) := by simp [sumF, hc, hm0, Int.not_le.2 (show (m : Int) < S.length by omega), ← hE, h1]
    rw [e]
    exact .inl ⟨h1, rfl, rfl⟩
  obtain ⟨s, q, hq, rfl, hqo, hso⟩ := hown
  have hone := hso.one
  obtain ⟨l1, l2⟩ := zeroF_ok h1
  simp [← hHH, hone]
  obtain ⟨M, hM⟩ : ∃ M, M = (laidF E).1.toNat := ⟨_, rfl⟩
  have hML : (zeroF E).1.2 = List.replicate M 0 := by rw [l2, hM]
  have hMl : (zeroF E).1.2.length = M := by rw [hML]; simp
  have hE1 : (zeroF E).1.1 = E := by rw [l2]
  rw [hMl]
  rw [hML] at hqo
  rw [hE1] at hso
  refine AWp.weak (Weak.slots [1, 2, 4, 5, 7, 8]) ?_
  obtain ⟨K, hK⟩ : ∃ K, K = HH ++ [denO (.agg [s, .slc q M 0 M none])] := ⟨_, rfl⟩
  have k0 : K[0]? = some (denO (.agg [.imm nl1 c1 z1 (S.map I), .imm nl2 c2 z2 (vs.map I)])) := by rw [hK, List.getElem?_append_left (by omega)]; exact f0
  have k1 : K[1]? = some (denO nilD) := by rw [hK, List.getElem?_append_left (by omega)]; exact f1
  have kp : K[HH.length]? = some (denO (.agg [s, .slc q M 0 M none])) := by rw [hK]; simp
  have hqo : HH[q]? = some (i64O (List.replicate M 0)) := by rw [hHH]; exact hqo
  have hql := (List.getElem?_eq_some_iff.1 hqo).1
  have kq : K[q]? = some (i64O (List.replicate M 0)) := by rw [hK, List.getElem?_append_left hql]; exact hqo
  have hso : shapeOk 3 HH q s E := by rw [hHH]; exact hso
  have ks : shapeOk 3 K q s E := by rw [hK]; exact hso.app _
  have hq3 : 3 ≤ q := hq
  simp [← hK]
  clear hK hHH hMl
  have fin : ∀ ws : List Int, ws = binV (idxF (prd (S.drop (m + 1))).toNat (S.getD m 0).toNat) vs M → sumF (S, vs) m = ((E, ws), 0) := by
    intro ws hws
    simp [sumF, hc, hm0, Int.not_le.2 (show (m : Int) < S.length by omega), ← hE, h1, hws, hM]
  by_cases hv : vs = []
  · have hv0 : vs.length = 0 := by rw [hv]; rfl
    first | refine AWp.seq (AWp.ops ?_) | refine AWp.seq (AWp.seq (AWp.ops ?_)) | refine AWp.ops ?_ | refine AWp.seq (AWp.block (AWp.seq (AWp.ops ?_))) | refine AWp.seq (AWp.seq (AWp.seq (AWp.ops ?_)))
    simp [k0, k1, kp, hv0]
    refine AWp.cond (b := true) (by simp) (fun _ => ?_) (fun h => by cases h)
    first | refine AWp.seq (AWp.ops ?_) | refine AWp.seq (AWp.seq (AWp.ops ?_)) | refine AWp.ops ?_ | refine AWp.seq (AWp.block (AWp.seq (AWp.ops ?_))) | refine AWp.seq (AWp.seq (AWp.seq (AWp.ops ?_)))
    simp [k0, k1, kp, hone]
    refine AWp.ret ?_
    simp
    refine retOk.of (by simp [gs_eq k1]; rfl) ?_
    rw [fin (List.replicate M 0) (by rw [hv, binV_nil])]
    refine .inr ⟨rfl, _, rfl, s, q, by omega, by simp, ?_, (ks.set_lt 1 (by omega) _).mono (by omega)⟩
    rw [gs_ne (by omega)]
    exact kq
  have hv0 : ¬ vs.length = 0 := by simpa using hv
  obtain ⟨pre, s0, far, hpre, hs0, hfar, hSm, hP, hT, hN, hN2, hSx, hlE, hzE, -⟩ := sum_dims hc hv hm
  first | refine AWp.seq (AWp.ops ?_) | refine AWp.seq (AWp.seq (AWp.ops ?_)) | refine AWp.ops ?_ | refine AWp.seq (AWp.block (AWp.seq (AWp.ops ?_))) | refine AWp.seq (AWp.seq (AWp.seq (AWp.ops ?_)))
  simp [k0, k1, kp, hv0]
  refine AWp.cond (b := false) (by simp [hv]) (fun h => by cases h) (fun _ => ?_)
  refine AWp.skip ?_
  simp only [qSeq]
  first | refine AWp.seq (AWp.ops ?_) | refine AWp.seq (AWp.seq (AWp.ops ?_)) | refine AWp.ops ?_ | refine AWp.seq (AWp.block (AWp.seq (AWp.ops ?_))) | refine AWp.seq (AWp.seq (AWp.seq (AWp.ops ?_)))
  simp
  obtain ⟨T, hTd⟩ : ∃ T, T = S.drop (m + 1) := ⟨_, rfl⟩
  have hTl : T.length = S.length - (m + 1) := by rw [hTd]; simp
  have b1 : (0 : Int) ≤ (m : Int) + 1 := by omega
  have b2 : (m : Int) + 1 ≤ S.length := by omega
  have b3 : List.take (S.length - (m + 1)) (List.drop (m + 1) (List.map I S)) = T.map I := by
    rw [← List.map_drop, ← hTd, List.take_of_length_le (by simp [hTl])]
  have hz11 : z1 = 1 := sz_of hz1 hm
  subst hz11
  have e1 : nl1 = true ∨ 1 = 1 := .inr rfl
  have hTS : ∀ x ∈ T, 1 ≤ x := fun x hx => hSx x (List.mem_of_mem_drop (hTd ▸ hx))
  have hTf : prd T = far := by rw [hTd]; exact hT
  have hpart : ∀ i, prd (T.take i) ≤ far ∧ 1 ≤ prd (T.take i) := by
    intro i
    have h1 := prd_pos (xs := T.take i) fun x hx => hTS x (List.mem_of_mem_take hx)
    have h2 := prd_pos (xs := T.drop i) fun x hx => hTS x (List.mem_of_mem_drop hx)
    have h3 : prd T = prd (T.take i) * prd (T.drop i) := by rw [← prd_append, List.take_append_drop]
    have h4 : prd (T.take i) * 1 ≤ prd (T.take i) * prd (T.drop i) := Int.mul_le_mul_of_nonneg_left h2 (by omega)
    omega
  have hfs : far ≤ pre * (s0 * far) := by
    have h1 : 1 * far ≤ s0 * far := Nat.mul_le_mul_right _ hs0
    have h2 : 1 * (s0 * far) ≤ pre * (s0 * far) := Nat.mul_le_mul_right _ hpre
    omega
  refine AWp.cut [.und, I m, .ptr 0 1 0 0, .und, .ptr 1 1 0 0, I 0, .und, .ptr HH.length 1 0 0, I 0, I far, .und, .und, .und, .und, .und, .und, .und, .und, .und, .und, .und, .und, .und, .und, .und, .und, .und, .und, .und, .und, .und, .und, .und, .und, .und, .und, .und, .und, .und, .und, .und, .und, .und, .und, .und, .und, .und, .und, .und, .und, .und, .und, .und, .und, .und, .und, .und, .und, .und, .und, .und, .und, .und, .und, .und, .und, .und, .und, .und, .und, .und, .und, .und, .und, .und, .und, .und, .und, .und, .und, .und, .und, .und, .und, .und, .und, .und, .und, .und, .und, .und, .und, .und, .und, .und, .und, .und, .und, .und] K ?_ ?_
  · have b4 : ¬ (m : Int) + 1 = 0 := by omega
    first | refine AWp.seq (AWp.ops ?_) | refine AWp.seq (AWp.seq (AWp.ops ?_)) | refine AWp.ops ?_ | refine AWp.seq (AWp.block (AWp.seq (AWp.ops ?_))) | refine AWp.seq (AWp.seq (AWp.seq (AWp.ops ?_)))
    simp [k0, hw, b1, b2, b3, b4, e1]
    obtain ⟨J, hJ⟩ : ∃ J : Nat → List AV → List AObj → Prop, J = fun i fr H => i ≤ T.length ∧ ∃ (g : Int), (g = prd (T.take i)) ∧ H = K ∧
      fr = [.und, I m, .ptr 0 1 0 0, .und, .ptr 1 1 0 0, I 0, .und, .ptr HH.length 1 0 0, I 0, I g, .und, .und, .und, .und, .und, .und, .und, .und, .und, .und, .und, .und, .und, .und, .und, .und, .und, .und, .und, .und, .und, .und, .und, .und, .und, .und, .und, .und, .und, .und, .und, .und, .und, .und, .und, .und, .und, .und, .und, .und, .und, .und, .und, .und, .und, .und, AV.imm nl1 (Option.map (fun x => x - (m + 1)) c1) 1 (T.map I), I T.length, I i, .und, .und, .und, .und, .und, .und, .und, .und, .und, .und, .und, .und, .und, .und, .und, .und, .und, .und, .und, .und, .und, .und, .und, .und, .und, .und, .und, .und, .und, .und, .und, .und, .und, .und, .und, .und, .und, .und, .und, .und] := ⟨_, rfl⟩
    refine AWp.block (AWp.loop J (fun i => T.length - i) 0 (Weak.slots [1, 2, 4, 5, 7, 8, 9, 56, 57, 58]) (by rw [hJ]; exact ⟨by omega, 1, rfl, by simp, by simp⟩) ?_)
    intro i fr H hI
    rw [hJ] at hI
    obtain ⟨hi, g, hinv, rfl, rfl⟩ := hI
    first | refine AWp.seq (AWp.ops ?_) | refine AWp.seq (AWp.seq (AWp.ops ?_)) | refine AWp.ops ?_ | refine AWp.seq (AWp.block (AWp.seq (AWp.ops ?_))) | refine AWp.seq (AWp.seq (AWp.seq (AWp.ops ?_)))
    simp
    refine AWp.seq (AWp.cond (b := decide (i < T.length)) (by simp <;> omega) ?_ ?_)
    ·
      intro hb
      have hb : i < T.length := by simpa using hb
      refine AWp.skip ?_
      simp only [qSeq]
      first | refine AWp.seq (AWp.ops ?_) | refine AWp.seq (AWp.seq (AWp.ops ?_)) | refine AWp.ops ?_ | refine AWp.seq (AWp.block (AWp.seq (AWp.ops ?_))) | refine AWp.seq (AWp.seq (AWp.seq (AWp.ops ?_)))
      simp [hb]
      first | refine AWp.seq (AWp.ops ?_) | refine AWp.seq (AWp.seq (AWp.ops ?_)) | refine AWp.ops ?_ | refine AWp.seq (AWp.block (AWp.seq (AWp.ops ?_))) | refine AWp.seq (AWp.seq (AWp.seq (AWp.ops ?_)))
      simp
      have hg : IntKind.i64.wrap (g * T[i]) = prd (T.take (i + 1)) := by
        have e : prd (T.take (i + 1)) = g * T[i] := by rw [List.take_succ_eq_append_getElem hb, prd_append, hinv]; simp [prd]
        have := hpart (i + 1)
        rw [← e]
        exact wrap_i64 (by omega) (by omega)
      simp [hg]
      first | refine AWp.seq (AWp.ops ?_) | refine AWp.seq (AWp.seq (AWp.ops ?_)) | refine AWp.ops ?_ | refine AWp.seq (AWp.block (AWp.seq (AWp.ops ?_))) | refine AWp.seq (AWp.seq (AWp.seq (AWp.ops ?_)))
      simp
      refine ⟨i + 1, _, _, Weak.slots [1, 2, 4, 5, 7, 8, 9, 56, 57, 58], ?_, by omega⟩
      rw [hJ]
      refine ⟨by omega, prd (T.take (i + 1)), ?_, by simp, by simp [wrap_i64 (n := (i : Int) + 1) (by omega) (by omega)]⟩
      rfl
    ·
      intro hb
      have hb : ¬ i < T.length := by simpa using hb
      refine AWp.exit ?_
      simp [qSeq, qBlock]
      refine (Weak.slots [1, 2, 4, 5, 7, 8, 9]).to ?_ rfl
      have e : T.take i = T := List.take_of_length_le (by omega)
      simp [hinv, e, hTf]
  obtain ⟨L, hLd⟩ : ∃ L, L = far * s0 := ⟨_, rfl⟩
  have hL1 : 0 < L := by rw [hLd]; exact Nat.mul_pos hfar hs0
  have hLN : L ≤ 65536 := by
    have h1 : 1 * (s0 * far) ≤ pre * (s0 * far) := Nat.mul_le_mul_right _ hpre
    rw [hLd, Nat.mul_comm]; omega
  have hwL : IntKind.i64.wrap ((far : Int) * (s0 : Int)) = (L : Int) := by
    rw [← Int.natCast_mul, ← hLd]
    exact wrap_i64 (by omega) (by omega)
  have hMp : M = pre * far := by rw [hM, hE, hlE]; simp only [Int.toNat_natCast]
  have hMb : M ≤ 65536 := by
    have h1 : 1 * far ≤ s0 * far := Nat.mul_le_mul_right _ hs0
    have h2 : pre * far ≤ pre * (s0 * far) := Nat.mul_le_mul_left _ (by omega)
    omega
  first | refine AWp.seq (AWp.ops ?_) | refine AWp.seq (AWp.seq (AWp.ops ?_)) | refine AWp.ops ?_ | refine AWp.seq (AWp.block (AWp.seq (AWp.ops ?_))) | refine AWp.seq (AWp.seq (AWp.seq (AWp.ops ?_)))
  simp [k0, hm, hSm, hwL]
  refine AWp.weak (Weak.slots [2, 4, 5, 7, 9, 12]) ?_
  simp
  first | refine AWp.seq (AWp.ops ?_) | refine AWp.seq (AWp.seq (AWp.ops ?_)) | refine AWp.ops ?_ | refine AWp.seq (AWp.block (AWp.seq (AWp.ops ?_))) | refine AWp.seq (AWp.seq (AWp.seq (AWp.ops ?_)))
  simp [k0]
  obtain ⟨J, hJ⟩ : ∃ J : Nat → List AV → List AObj → Prop, J = fun i fr H => i ≤ vs.length ∧ ∃ (K2 : List AObj) (ws : List Int), (K2[0]? = some (denO (.agg [.imm nl1 c1 1 (S.map I), .imm nl2 c2 z2 (vs.map I)])) ∧ K2[1]? = some (denO nilD) ∧ K2[q]? = some (i64O ws) ∧ K2[HH.length]? = some (denO (.agg [s, .slc q M 0 M none])) ∧ shapeOk 3 K2 q s E ∧ ws = binV (idxF far s0) (vs.take i) M) ∧ H = K2 ∧
    fr = [.und, .und, .ptr 0 1 0 0, .und, .ptr 1 1 0 0, I 0, .und, .ptr HH.length 1 0 0, .und, I far, .und, .und, I L, .und, .und, .und, .und, .und, .und, .und, .und, .und, .und, .und, .und, .und, .und, .und, .und, .und, .und, .und, .und, .und, .und, .und, .und, .und, .und, .und, .und, .und, .und, .und, .und, .und, .und, .und, .und, .und, .und, .und, .und, .und, .und, .und, .und, .und, .und, .und, .und, .und, .und, .und, .und, .und, .und, .und, .und, .und, .und, .und, .und, .und, .imm nl2 c2 z2 (vs.map I), I vs.length, I i, .und, .und, .und, .und, .und, .und, .und, .und, .und, .und, .und, .und, .und, .und, .und, .und, .und, .und, .und, .und, .und, .und] := ⟨_, rfl⟩
  refine AWp.block (AWp.loop J (fun i => vs.length - i) 0 (Weak.slots [2, 4, 5, 7, 9, 12, 74, 75, 76]) (by rw [hJ]; exact ⟨by omega, K, List.replicate M 0, ⟨k0, k1, kq, kp, ks, by rw [List.take_zero, binV_nil]⟩, by simp, by simp⟩) ?_)
  intro i fr H hI
  rw [hJ] at hI
  obtain ⟨hi, K2, ws, hinv, rfl, rfl⟩ := hI
  first | refine AWp.seq (AWp.ops ?_) | refine AWp.seq (AWp.seq (AWp.ops ?_)) | refine AWp.ops ?_ | refine AWp.seq (AWp.block (AWp.seq (AWp.ops ?_))) | refine AWp.seq (AWp.seq (AWp.seq (AWp.ops ?_)))
  simp
  refine AWp.seq (AWp.cond (b := decide (i < vs.length)) (by simp <;> omega) ?_ ?_)
  ·
    intro hb
    have hb : i < vs.length := by simpa using hb
    refine AWp.skip ?_
    simp only [qSeq]
    obtain ⟨k0, k1, kq, kp, ks, hws⟩ := hinv
    have hsz := sz_of hz2 hb
    subst hsz
    have hwl : ws.length = M := by rw [hws, binV_len]
    obtain ⟨Y, hY⟩ : ∃ Y, Y = idxF far s0 i := ⟨_, rfl⟩
    have hYM : Y < M := by rw [hY, hMp]; exact idx_lt' (by omega) hfar hs0
    have hYw : Y < ws.length := by omega
    obtain ⟨Q, hQ⟩ : ∃ Q, Q = i / L := ⟨_, rfl⟩
    obtain ⟨R, hR⟩ : ∃ R, R = i % far := ⟨_, rfl⟩
    obtain ⟨X, hX⟩ : ∃ X, X = Q * far := ⟨_, rfl⟩
    have hXY : X + R = Y := by rw [hY, hX, hQ, hR, hLd]; rfl
    have hQi : Q ≤ i := by rw [hQ]; exact Nat.div_le_self _ _
    have d1 : ¬ L = 0 := by omega
    have d1' : ¬ far = 0 := by omega
    have d2 : IntKind.i64.wrap ((i : Int).tdiv L) = (Q : Int) := by
      rw [← Int.ofNat_tdiv, ← hQ]; exact wrap_i64 (by omega) (by omega)
    have d2' : IntKind.i64.wrap ((i : Int) / L) = (Q : Int) := by
      rw [← Int.natCast_ediv, ← hQ]; exact wrap_i64 (by omega) (by omega)
    have d3 : IntKind.i64.wrap ((Q : Int) * far) = (X : Int) := by
      rw [← Int.natCast_mul, ← hX]; exact wrap_i64 (by omega) (by omega)
    have d4 : (i : Int).tmod far = (R : Int) := by rw [← Int.ofNat_tmod, ← hR]
    have d5 : IntKind.i64.wrap ((X : Int) + R) = (Y : Int) := by
      rw [← Int.natCast_add, hXY]; exact wrap_i64 (by omega) (by omega)
    first | refine AWp.seq (AWp.ops ?_) | refine AWp.seq (AWp.seq (AWp.ops ?_)) | refine AWp.ops ?_ | refine AWp.seq (AWp.block (AWp.seq (AWp.ops ?_))) | refine AWp.seq (AWp.seq (AWp.seq (AWp.ops ?_)))
    simp [hb]
    first | refine AWp.seq (AWp.ops ?_) | refine AWp.seq (AWp.seq (AWp.ops ?_)) | refine AWp.ops ?_ | refine AWp.seq (AWp.block (AWp.seq (AWp.ops ?_))) | refine AWp.seq (AWp.seq (AWp.seq (AWp.ops ?_)))
    simp [kp, kq, k0, d1, d1', d2, d2', d3, d4, d5, hwl, hYM, hYw]
    first | refine AWp.seq (AWp.ops ?_) | refine AWp.seq (AWp.seq (AWp.ops ?_)) | refine AWp.ops ?_ | refine AWp.seq (AWp.block (AWp.seq (AWp.ops ?_))) | refine AWp.seq (AWp.seq (AWp.seq (AWp.ops ?_)))
    simp
    have hq2 := (List.getElem?_eq_some_iff.1 kq).1
    have hpq : q ≠ HH.length := by omega
    refine ⟨i + 1, _, _, Weak.slots [2, 4, 5, 7, 9, 12, 74, 75, 76], ?_, by omega⟩
    rw [hJ]
    refine ⟨by omega, H.set q (i64O (ws.set Y (IntKind.i64.wrap (ws[Y] + vs[i])))), ws.set Y (IntKind.i64.wrap (ws[Y] + vs[i])), ?_, by simp [i64O, List.map_set], by simp [wrap_i64 (n := (i : Int) + 1) (by omega) (by omega)]⟩
    refine ⟨by rw [gs_ne (by omega)]; exact k0, by rw [gs_ne (by omega)]; exact k1, gs_eq kq, by rw [gs_ne hpq]; exact kp, ks.set _, ?_⟩
    have hwY : ws[Y] = IntKind.i64.wrap (bins (idxF far s0) (vs.take i) 0 Y) := by subst hws; exact binV_get _ _ _ _ hYw
    rw [hwY, hws, hY]
    exact binV_step (idxF far s0) vs M i hb (by omega)
  ·
    intro hb
    have hb : ¬ i < vs.length := by simpa using hb
    refine AWp.exit ?_
    simp [qSeq, qBlock]
    obtain ⟨k0, k1, kq, kp, ks, hws⟩ := hinv
    have hone' := ks.one
    first | refine AWp.seq (AWp.ops ?_) | refine AWp.seq (AWp.seq (AWp.ops ?_)) | refine AWp.ops ?_ | refine AWp.seq (AWp.block (AWp.seq (AWp.ops ?_))) | refine AWp.seq (AWp.seq (AWp.seq (AWp.ops ?_)))
    simp [kp, k1, hone']
    refine AWp.ret ?_
    simp
    refine retOk.of (by simp [gs_eq k1]; rfl) ?_
    have e : vs.take i = vs := List.take_of_length_le (by omega)
    rw [fin ws (by rw [hws, e, hT]; simp [hm, hSm])]
    refine .inr ⟨rfl, _, rfl, s, q, by omega, by simp [hws, binV_len], ?_, (ks.set_lt 1 (by omega) _).mono (by omega)⟩
    rw [gs_ne (by omega)]
    exact kq
end Go.Fw
