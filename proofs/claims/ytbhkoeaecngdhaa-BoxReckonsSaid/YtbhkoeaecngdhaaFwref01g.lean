import Derived.Test.YtbhkoeaecngdhaaFwref01f
namespace Go.Fw
open Go Go.RowKit Go.Proofs
set_option maxRecDepth 100000
set_option linter.unusedSimpArgs false
set_option linter.unusedVariables false

theorem ISl.noRef {a : AV} {xs : List Int} (h : ISl a xs) : noRef a = true := by
  obtain ⟨⟨_, _, _, rfl, _⟩, _⟩ := h
  rfl
theorem ISl.frz {a : AV} {xs : List Int} (h : ISl a xs) (G : List AObj) (k n : Nat) (b : Bool) : frz G k n b a = a := by
  obtain ⟨⟨_, _, _, rfl, _⟩, _⟩ := h
  exact frz_imm' _ _ _ _
theorem shapeOk.isl {b : Nat} {H : List AObj} {j n : Nat} {s : AV} {xs : List Int} (h : shapeOk b H j s xs) (hx : InR xs) : ISl (Go.Fw.frz H 0 (n + 1) false s) xs := by
  rcases h with ⟨h0, nl, c, sz, rfl, hs⟩ | ⟨k, _, _, rfl, hG⟩
  · exact ⟨⟨nl, c, sz, by simp [h0], ⟨fun _ => h0, hs⟩⟩, hx⟩
  · refine ⟨⟨false, none, 1, ?_, by simp, by simp⟩, hx⟩
    simp [hG]

theorem numGo_idx {S vs : List Int} {m i : Nat} {pre s far : Nat} (hm : m < S.length) (hx : ∀ x ∈ S, 1 ≤ x) (hP : prd (S.take m) = (pre : Int)) (hs : S[m] = (s : Int)) (hT : prd (S.drop (m + 1)) = (far : Int)) (hi : i < pre * (s * far)) (hN2 : pre * (s * far) ≤ 65536) (hfar : 0 < far) (hs0 : 0 < s) :
    numGo (S.eraseIdx m) ((placeF S i).eraseIdx m) 0 = (idxF far s i : Nat) := by
  obtain ⟨p1, p2⟩ := prd_split hm
  rw [hP, hT] at p2
  rw [hP, hs, hT] at p1
  have hle : pre * far ≤ pre * (s * far) := Nat.mul_le_mul_left _ (by
    have : 1 * far ≤ s * far := Nat.mul_le_mul_right _ (by omega)
    omega)
  have e2 : prd (S.eraseIdx m) = ((pre * far : Nat) : Int) := by rw [p2]; simp
  have e1 : prd S = ((pre * (s * far) : Nat) : Int) := by rw [p1]; simp
  rw [numGo_erase m S 0 i hm hx (by omega) (by omega) (by rw [e2]; omega), hs, hT, e1, Int.emod_eq_of_lt (by omega) (by omega), Int.zero_mul, Int.zero_add]
  unfold idxF
  rw [Nat.mul_comm far s]
  simp

def rSum_24 : AC := (.seq (.ops [⟨(some 64), none, (.k (.ld 2 true (.t 7)))⟩, ⟨none, none, (.k (.st 2 (.t 4) (.t 64)))⟩, ⟨(some 5), none, (.k (.mov (.c (.sc (.int .i64 0)))))⟩]) .ret)
def rSum_23 : AC := (.seq (.ops [⟨(some 44), none, (.k (.mov (.t 42)))⟩, ⟨(some 45), none, (.k (.iad 1 (.t 40) (.t 42)))⟩, ⟨(some 46), none, (.k (.ld 1 false (.t 45)))⟩, ⟨(some 9), none, (.k (.mov (.t 44)))⟩, ⟨(some 10), none, (.k (.mov (.t 46)))⟩]) (.ops [⟨(some 47), none, (.k (.fad 1 (.t 7)))⟩, ⟨(some 48), none, (.k (.ld 1 false (.t 47)))⟩, ⟨(some 49), none, (.k (.fad 0 (.t 7)))⟩, ⟨(some 50), none, (.k (.ld 1 false (.t 49)))⟩, ⟨(some 51), none, (.k (.fad 0 (.t 2)))⟩, ⟨(some 52), none, (.k (.ld 1 false (.t 51)))⟩, ⟨(some 53), none, (.k (.mov (.t 9)))⟩, ⟨(some 55), none, (.k (.mov (.t 1)))⟩, ⟨(some 60), none, (.k (.mov (.t 10)))⟩, ⟨(some 54), none, (.call true (.c (.fn (.func 46) [] [])) [(.t 52), (.t 53)])⟩, ⟨(some 56), none, (.call true (.c (.fn (.func 57) [] [])) [(.t 54), (.t 55)])⟩, ⟨(some 57), none, (.call true (.c (.fn (.func 44) [] [])) [(.t 50), (.t 56)])⟩, ⟨(some 58), none, (.k (.iad 1 (.t 48) (.t 57)))⟩, ⟨(some 59), none, (.k (.ld 1 false (.t 58)))⟩, ⟨(some 61), none, (.k (.bin .add (.t 59) (.t 60)))⟩, ⟨(some 62), none, (.k (.iad 1 (.t 48) (.t 57)))⟩, ⟨none, none, (.k (.st 1 (.t 62) (.t 61)))⟩]))
def rSum_22 : AC := (.block 1 rSum_23)
def rSum_21 : AC := (.seq rSum_22 (.ops [⟨(some 63), none, (.k (.bin .add (.t 42) (.c (.sc (.int .i64 1)))))⟩, ⟨(some 42), none, (.k (.mov (.t 63)))⟩]))
def rSum_20 : AC := (.seq (.cond (.t 43) .skip (.exit 0)) rSum_21)
def rSum_19 : AC := (.seq (.ops [⟨(some 43), none, (.k (.bin .lss (.t 42) (.t 41)))⟩]) rSum_20)
def rSum_18 : AC := (.loop rSum_19)
def rSum_17 : AC := (.block 0 rSum_18)
def rSum_16 : AC := (.seq (.ops [⟨(some 39), none, (.k (.fad 1 (.t 2)))⟩, ⟨(some 40), none, (.k (.ld 1 false (.t 39)))⟩, ⟨(some 41), none, (.k (.len (.t 40)))⟩, ⟨(some 42), none, (.k (.mov (.c (.sc (.int .i64 0)))))⟩]) rSum_17)
def rSum_15 : AC := (.seq rSum_16 rSum_24)
def rSum_14 : AC := (.seq (.ops [⟨(some 37), none, (.k (.mk [(.imm true none 0 []), (.imm true none 0 [])] []))⟩, ⟨(some 38), none, (.k (.mov (.t 8)))⟩, ⟨none, none, (.k (.st 2 (.t 4) (.t 37)))⟩, ⟨(some 5), none, (.k (.mov (.t 38)))⟩]) .ret)
def rSum_13 : AC := (.cond (.t 36) rSum_14 .skip)
def rSum_12 : AC := (.seq (.ops [⟨(some 35), none, (.k (.mov (.t 8)))⟩, ⟨(some 36), none, (.k (.bin .neq (.t 35) (.c (.sc (.int .i64 0)))))⟩]) rSum_13)
def rSum_11 : AC := (.seq rSum_12 rSum_15)
def rSum_10 : AC := (.seq (.ops [⟨(some 28), none, (.k (.fad 0 (.t 2)))⟩, ⟨(some 29), none, (.k (.ld 1 false (.t 28)))⟩, ⟨(some 30), none, (.k (.mov (.t 1)))⟩, ⟨(some 31), none, (.call false (.c (.fn (.func 57) [] [])) [(.t 29), (.t 30)])⟩, ⟨(some 32), none, (.call false (.c (.fn (.func 21) [] [])) [(.t 31)])⟩, ⟨(some 27), none, (.k (.mov (.t 32)))⟩, ⟨(some 33), none, (.k (.ext (.t 27) 0))⟩, ⟨(some 34), none, (.k (.ext (.t 27) 1))⟩, ⟨(some 7), none, (.k (.new 35 2 (.c (.agg [(.imm true none 0 []), (.imm true none 0 [])]))))⟩, ⟨none, none, (.k (.st 2 (.t 7) (.t 33)))⟩, ⟨(some 8), none, (.k (.mov (.t 34)))⟩]) rSum_11)
def rSum_9 : AC := (.seq (.ops [⟨(some 26), none, (.k (.mk [(.imm true none 0 []), (.imm true none 0 [])] []))⟩, ⟨none, none, (.k (.st 2 (.t 4) (.t 26)))⟩, ⟨(some 5), none, (.k (.mov (.c (.sc (.int .i64 3)))))⟩]) .ret)
def rSum_8 : AC := (.cond (.t 25) rSum_9 .skip)
def rSum_7 : AC := (.seq (.ops [⟨(some 17), none, (.k (.mov (.t 1)))⟩, ⟨(some 18), none, (.k (.bin .lss (.t 17) (.c (.sc (.int .i64 0)))))⟩, ⟨(some 19), none, (.k (.mov (.t 18)))⟩, ⟨(some 20), (some (19, false)), (.k (.mov (.t 1)))⟩, ⟨(some 21), (some (19, false)), (.k (.fad 0 (.t 2)))⟩, ⟨(some 22), (some (19, false)), (.k (.ld 1 false (.t 21)))⟩, ⟨(some 23), (some (19, false)), (.k (.len (.t 22)))⟩, ⟨(some 24), (some (19, false)), (.k (.bin .geq (.t 20) (.t 23)))⟩, ⟨(some 25), none, (.k (.pick (.t 19) (.c (.sc (.bool true))) (.t 24)))⟩]) rSum_8)
def rSum_6 : AC := (.seq rSum_7 rSum_10)
def rSum_5 : AC := (.seq (.ops [⟨(some 15), none, (.k (.mk [(.imm true none 0 []), (.imm true none 0 [])] []))⟩, ⟨(some 16), none, (.k (.mov (.t 6)))⟩, ⟨none, none, (.k (.st 2 (.t 4) (.t 15)))⟩, ⟨(some 5), none, (.k (.mov (.t 16)))⟩]) .ret)
def rSum_4 : AC := (.cond (.t 14) rSum_5 .skip)
def rSum_3 : AC := (.seq (.ops [⟨(some 13), none, (.k (.mov (.t 6)))⟩, ⟨(some 14), none, (.k (.bin .neq (.t 13) (.c (.sc (.int .i64 0)))))⟩]) rSum_4)
def rSum_2 : AC := (.seq (.ops [⟨(some 11), none, (.k (.ld 2 true (.t 2)))⟩, ⟨(some 12), none, (.call false (.c (.fn (.func 26) [] [])) [(.t 11)])⟩, ⟨(some 6), none, (.k (.mov (.t 12)))⟩]) rSum_3)
def rSum_1 : AC := (.seq rSum_2 rSum_6)
def rSum_ac : AC := (.seq (.ops [⟨(some 2), none, (.k (.new 35 2 (.t 0)))⟩, ⟨(some 4), none, (.k (.new 35 2 (.c (.agg [(.imm true none 0 []), (.imm true none 0 [])]))))⟩, ⟨(some 5), none, (.k (.mov (.c (.sc (.int .i64 0)))))⟩]) rSum_1)
theorem rSum_call {args : List AV} {H : List AObj} {R : AV → List AObj → Prop} (h : AWp Try.prog [] H.length rSum_ac (bodyQ H.length [(.cell 4 2 true), (.t 5)] R) (args ++ List.replicate (65 - args.length) .und) H) : ACalls Try.prog 38 args H R :=
  ACalls.of_fn Try.func38 rfl (by kernel_rfl) rfl Try.ntmps38 h

set_option maxHeartbeats 4000000 in
theorem rSum_spec {d : AV} {D : List Int × List Int} {mode : Int} (hd : Dn d D) : ACalls Try.prog 38 [d, I mode] [] (denseR (sumF D mode)) := by
  have hd' := hd
  obtain ⟨S, vs⟩ := D
  obtain ⟨s1, v1, rfl, hs1, ⟨⟨nl2, c2, z2, rfl, hz2⟩, hr2⟩⟩ := hd
  have hs1' := hs1
  obtain ⟨⟨nl1, c1, z1, rfl, hz1⟩, hr1⟩ := hs1
  simp only at hz1 hz2 hr1 hr2 hs1'
  apply rSum_call
  first | refine AWp.seq (AWp.ops ?_) | refine AWp.seq (AWp.seq (AWp.ops ?_)) | refine AWp.ops ?_ | refine AWp.seq (AWp.block (AWp.seq (AWp.ops ?_))) | refine AWp.seq (AWp.seq (AWp.seq (AWp.ops ?_)))
  simp
  first | refine AWp.seq (AWp.ops ?_) | refine AWp.seq (AWp.seq (AWp.ops ?_)) | refine AWp.ops ?_ | refine AWp.seq (AWp.block (AWp.seq (AWp.ops ?_))) | refine AWp.seq (AWp.seq (AWp.seq (AWp.ops ?_)))
  simp
  refine ((rCheck_spec hd').pure (by simp) (by rintro r rfl; simp) _).mono ?_
  rintro r H' ⟨rfl, rfl⟩
  simp
  first | refine AWp.seq (AWp.ops ?_) | refine AWp.seq (AWp.seq (AWp.ops ?_)) | refine AWp.ops ?_ | refine AWp.seq (AWp.block (AWp.seq (AWp.ops ?_))) | refine AWp.seq (AWp.seq (AWp.seq (AWp.ops ?_)))
  simp
  refine AWp.cond (b := checkF (S, vs) != 0) (by simp) ?_ ?_
  · intro h
    have h : checkF (S, vs) ≠ 0 := by simpa using h
    first | refine AWp.seq (AWp.ops ?_) | refine AWp.seq (AWp.seq (AWp.ops ?_)) | refine AWp.ops ?_ | refine AWp.seq (AWp.block (AWp.seq (AWp.ops ?_))) | refine AWp.seq (AWp.seq (AWp.seq (AWp.ops ?_)))
    simp
    refine AWp.ret ?_
    simp
    refine retOk.of rfl ?_
    exact .inl (by simp [sumF, h])
  intro hc
  have hc : checkF (S, vs) = 0 := by simpa using hc
  refine AWp.skip ?_
  simp only [qSeq]
  first | refine AWp.seq (AWp.ops ?_) | refine AWp.seq (AWp.seq (AWp.ops ?_)) | refine AWp.ops ?_ | refine AWp.seq (AWp.block (AWp.seq (AWp.ops ?_))) | refine AWp.seq (AWp.seq (AWp.seq (AWp.ops ?_)))
  simp
  by_cases hm0 : mode < 0
  · simp [hm0, Int.not_le.2 hm0]
    refine AWp.cond (b := true) (by simp) (fun _ => ?_) (fun h => by cases h)
    first | refine AWp.seq (AWp.ops ?_) | refine AWp.seq (AWp.seq (AWp.ops ?_)) | refine AWp.ops ?_ | refine AWp.seq (AWp.block (AWp.seq (AWp.ops ?_))) | refine AWp.seq (AWp.seq (AWp.seq (AWp.ops ?_)))
    simp
    refine AWp.ret ?_
    simp
    refine retOk.of rfl ?_
    exact .inl (by simp [sumF, hc, hm0])
  by_cases hm1 : (S.length : Int) ≤ mode
  · simp [hm0, Int.not_lt.1 hm0, hm1]
    refine AWp.cond (b := true) (by simp [hm1]) (fun _ => ?_) (fun h => by cases h)
    first | refine AWp.seq (AWp.ops ?_) | refine AWp.seq (AWp.seq (AWp.ops ?_)) | refine AWp.ops ?_ | refine AWp.seq (AWp.block (AWp.seq (AWp.ops ?_))) | refine AWp.seq (AWp.seq (AWp.seq (AWp.ops ?_)))
    simp
    refine AWp.ret ?_
    simp
    refine retOk.of rfl ?_
    exact .inl (by simp [sumF, hc, hm0, hm1])
  simp [hm0, Int.not_lt.1 hm0, hm1]
  refine AWp.cond (b := false) (by simp <;> omega) (fun h => by cases h) (fun _ => ?_)
  refine AWp.skip ?_
  simp only [qSeq]
  obtain ⟨m, rfl⟩ : ∃ m : Nat, mode = m := ⟨mode.toNat, by omega⟩
  have hm : m < S.length := by omega
  have hS4 : S.length ≤ 4 := (laid_ok (check_laid hc).1).1
  obtain ⟨E, hE⟩ : ∃ E, E = S.eraseIdx m := ⟨_, rfl⟩
  have hEl : E.length = S.length - 1 := by rw [hE, List.length_eraseIdx, if_pos hm]
  have hEr : InR E := ⟨by omega, fun x hx => hr1.2 x (List.mem_of_mem_eraseIdx (hE ▸ hx))⟩
  first | refine AWp.seq (AWp.ops ?_) | refine AWp.seq (AWp.seq (AWp.ops ?_)) | refine AWp.ops ?_ | refine AWp.seq (AWp.block (AWp.seq (AWp.ops ?_))) | refine AWp.seq (AWp.seq (AWp.seq (AWp.ops ?_)))
  simp
  refine ((rWithout_spec (m := m) hs1' (by omega)).pure (by simp) (by rintro r h; exact h.noRef) _).mono ?_
  rintro aE H' ⟨rfl, iE⟩
  rw [← hE] at iE
  simp
  refine (dense_at (rZero_dense iE) (by simp [iE.noRef]) _).mono ?_
  rintro q H' ⟨G, rfl, hcase⟩
  obtain ⟨HH, hHH⟩ : ∃ HH, HH = denO (.agg [.imm nl1 c1 z1 (S.map I), .imm nl2 c2 z2 (vs.map I)]) :: denO nilD :: G := ⟨_, rfl⟩
  have f0 : HH[0]? = some (denO (.agg [.imm nl1 c1 z1 (S.map I), .imm nl2 c2 z2 (vs.map I)])) := by rw [hHH]; rfl
  have f1 : HH[1]? = some (denO nilD) := by rw [hHH]; rfl
  have hL : 2 ≤ HH.length := by rw [hHH]; simp
  rcases hcase with ⟨h1, h2, rfl⟩ | ⟨h1, d, rfl, hown⟩
  · simp [← hHH]
    refine AWp.weak (Weak.slots [2, 4, 5, 7, 8]) ?_
    obtain ⟨K, hK⟩ : ∃ K, K = HH ++ [denO nilD] := ⟨_, rfl⟩
    have k1 : K[1]? = some (denO nilD) := by rw [hK, List.getElem?_append_left (by omega)]; exact f1
    simp [← hK]
    first | refine AWp.seq (AWp.ops ?_) | refine AWp.seq (AWp.seq (AWp.ops ?_)) | refine AWp.ops ?_ | refine AWp.seq (AWp.block (AWp.seq (AWp.ops ?_))) | refine AWp.seq (AWp.seq (AWp.seq (AWp.ops ?_)))
    simp [h1]
    refine AWp.cond (b := true) (by simp [h1]) (fun _ => ?_) (fun h => by cases h)
    first | refine AWp.seq (AWp.ops ?_) | refine AWp.seq (AWp.seq (AWp.ops ?_)) | refine AWp.ops ?_ | refine AWp.seq (AWp.block (AWp.seq (AWp.ops ?_))) | refine AWp.seq (AWp.seq (AWp.seq (AWp.ops ?_)))
    simp [k1, h1]
    refine AWp.ret ?_
    simp
    refine retOk.of (by simp [gs_eq k1]; rfl) ?_
    have e : sumF (S, vs) m = (([], []), (zeroF E).2) := by simp [sumF, hc, hm0, Int.not_le.2 (show (m : Int) < S.length by omega), ← hE, h1]
    rw [e]
    exact .inl ⟨h1, rfl, rfl⟩
  obtain ⟨s, q, hq, rfl, hqo, hso⟩ := hown
  have hone := hso.one
  obtain ⟨l1, l2⟩ := zeroF_ok h1
  simp [← hHH, hone]
  obtain ⟨M, hM⟩ : ∃ M, M = (laidF E).1.toNat := ⟨_, rfl⟩
  have hML : (zeroF E).1.2 = List.replicate M 0 := by rw [l2, hM]
  have hMl : (zeroF E).1.2.length = M := by rw [hML]; simp
  have hE1 : (zeroF E).1.1 = E := by rw [l2]
  rw [hMl]
  rw [hML] at hqo
  rw [hE1] at hso
  refine AWp.weak (Weak.slots [1, 2, 4, 5, 7, 8]) ?_
  obtain ⟨K, hK⟩ : ∃ K, K = HH ++ [denO (.agg [s, .slc q M 0 M none])] := ⟨_, rfl⟩
  have k0 : K[0]? = some (denO (.agg [.imm nl1 c1 z1 (S.map I), .imm nl2 c2 z2 (vs.map I)])) := by rw [hK, List.getElem?_append_left (by omega)]; exact f0
  have k1 : K[1]? = some (denO nilD) := by rw [hK, List.getElem?_append_left (by omega)]; exact f1
  have kp : K[HH.length]? = some (denO (.agg [s, .slc q M 0 M none])) := by rw [hK]; simp
  have hqo : HH[q]? = some (i64O (List.replicate M 0)) := by rw [hHH]; exact hqo
  have hql := (List.getElem?_eq_some_iff.1 hqo).1
  have kq : K[q]? = some (i64O (List.replicate M 0)) := by rw [hK, List.getElem?_append_left hql]; exact hqo
  have hso : shapeOk 2 HH q s E := by rw [hHH]; exact hso
  have ks : shapeOk 2 K q s E := by rw [hK]; exact hso.app _
  have hq3 : 2 ≤ q := hq
  simp [← hK]
  clear hK hHH hMl
  have fin : ∀ ws : List Int, ws = binV (idxF (prd (S.drop (m + 1))).toNat (S.getD m 0).toNat) vs M → sumF (S, vs) m = ((E, ws), 0) := by
    intro ws hws
    simp [sumF, hc, hm0, Int.not_le.2 (show (m : Int) < S.length by omega), ← hE, h1, hws, hM]
  first | refine AWp.seq (AWp.ops ?_) | refine AWp.seq (AWp.seq (AWp.ops ?_)) | refine AWp.ops ?_ | refine AWp.seq (AWp.block (AWp.seq (AWp.ops ?_))) | refine AWp.seq (AWp.seq (AWp.seq (AWp.ops ?_)))
  simp [k0, k1, kp]
  refine AWp.cond (b := false) (by simp) (fun h => by cases h) (fun _ => ?_)
  refine AWp.skip ?_
  simp only [qSeq]
  first | refine AWp.seq (AWp.ops ?_) | refine AWp.seq (AWp.seq (AWp.ops ?_)) | refine AWp.ops ?_ | refine AWp.seq (AWp.block (AWp.seq (AWp.ops ?_))) | refine AWp.seq (AWp.seq (AWp.seq (AWp.ops ?_)))
  simp [k0]
  obtain ⟨J, hJ⟩ : ∃ J : Nat → List AV → List AObj → Prop, J = fun i fr H => i ≤ vs.length ∧ ∃ (K2 : List AObj) (ws : List Int), (K2[0]? = some (denO (.agg [.imm nl1 c1 z1 (S.map I), .imm nl2 c2 z2 (vs.map I)])) ∧ K2[1]? = some (denO nilD) ∧ K2[q]? = some (i64O ws) ∧ K2[HH.length]? = some (denO (.agg [s, .slc q M 0 M none])) ∧ shapeOk 2 K2 q s E ∧ ws = binV (idxF (prd (S.drop (m + 1))).toNat (S.getD m 0).toNat) (vs.take i) M) ∧ H = K2 ∧
    fr = [.und, I m, .ptr 0 1 0 0, .und, .ptr 1 1 0 0, I 0, .und, .ptr HH.length 1 0 0, .und, .und, .und, .und, .und, .und, .und, .und, .und, .und, .und, .und, .und, .und, .und, .und, .und, .und, .und, .und, .und, .und, .und, .und, .und, .und, .und, .und, .und, .und, .und, .und, .imm nl2 c2 z2 (vs.map I), I vs.length, I i, .und, .und, .und, .und, .und, .und, .und, .und, .und, .und, .und, .und, .und, .und, .und, .und, .und, .und, .und, .und, .und, .und] := ⟨_, rfl⟩
  refine AWp.block (AWp.loop J (fun i => vs.length - i) 0 (Weak.slots [1, 2, 4, 5, 7, 40, 41, 42]) (by rw [hJ]; exact ⟨by omega, K, List.replicate M 0, ⟨k0, k1, kq, kp, ks, by rw [List.take_zero, binV_nil]⟩, by simp, by simp⟩) ?_)
  intro i fr H hI
  rw [hJ] at hI
  obtain ⟨hi, K2, ws, hinv, rfl, rfl⟩ := hI
  first | refine AWp.seq (AWp.ops ?_) | refine AWp.seq (AWp.seq (AWp.ops ?_)) | refine AWp.ops ?_ | refine AWp.seq (AWp.block (AWp.seq (AWp.ops ?_))) | refine AWp.seq (AWp.seq (AWp.seq (AWp.ops ?_)))
  simp
  refine AWp.seq (AWp.cond (b := decide (i < vs.length)) (by simp <;> omega) ?_ ?_)
  ·
    intro hb
    have hb : i < vs.length := by simpa using hb
    refine AWp.skip ?_
    simp only [qSeq]
    obtain ⟨k0, k1, kq, kp, ks, hws⟩ := hinv
    have hsz := sz_of hz2 hb
    subst hsz
    have hv : vs ≠ [] := by rintro rfl; simp at hb
    obtain ⟨pre, s0, far, hpre, hs0, hfar, hSm, hP, hT, hN, hN2, hSx, hlE, hzE, -⟩ := sum_dims hc hv hm
    have hf : idxF (prd (S.drop (m + 1))).toNat (S.getD m 0).toNat = idxF far s0 := by
      have : S.getD m 0 = S[m] := by simp [hm]
      rw [this, hSm, hT]
      simp
    rw [hf] at hws
    have hMp : M = pre * far := by rw [hM, hE, hlE]; simp only [Int.toNat_natCast]
    have hwl : ws.length = M := by rw [hws, binV_len]
    have hvl : vs.length ≤ 65536 := by omega
    obtain ⟨Y, hY⟩ : ∃ Y, Y = idxF far s0 i := ⟨_, rfl⟩
    have hYM : Y < M := by rw [hY, hMp]; exact idx_lt' (by omega) hfar hs0
    have hYw : Y < ws.length := by omega
    have hnum := numGo_idx (vs := vs) hm hSx hP hSm hT (i := i) (by omega) hN2 hfar hs0
    rw [← hY, ← hE] at hnum
    first | refine AWp.seq (AWp.ops ?_) | refine AWp.seq (AWp.seq (AWp.ops ?_)) | refine AWp.ops ?_ | refine AWp.seq (AWp.block (AWp.seq (AWp.ops ?_))) | refine AWp.seq (AWp.seq (AWp.seq (AWp.ops ?_)))
    simp [hb]
    first | refine AWp.seq (AWp.ops ?_) | refine AWp.seq (AWp.seq (AWp.ops ?_)) | refine AWp.ops ?_ | refine AWp.seq (AWp.block (AWp.seq (AWp.ops ?_))) | refine AWp.seq (AWp.seq (AWp.seq (AWp.ops ?_)))
    simp [kp, kq, k0]
    refine ((rPlace_spec (n := (i : Int)) hs1' hSx (by omega) (by omega) (by omega)).pure (by simp) (by rintro r h; exact h.noRef) _).mono ?_
    rintro aP H' ⟨rfl, iP⟩
    simp
    refine ((rWithout_spec (m := m) iP (by rw [placeF_len]; omega)).pure (by simp [iP.noRef]) (by rintro r h; exact h.noRef) _).mono ?_
    rintro aC H' ⟨rfl, iC⟩
    simp
    have hlc : ((placeF S i).eraseIdx m).length = E.length := by rw [hEl, List.length_eraseIdx, placeF_len, if_pos hm]
    refine (ACalls.pureLent 1 (R := fun r => r = I Y) ?_ (by rintro r rfl s; rfl)).mono ?_
    · have := rNumber_spec (ks.isl (n := 0) hEr) iC hlc
      rw [hnum] at this
      simpa [iC.frz] using this
    rintro r H' ⟨rfl, rfl⟩
    simp [kp, kq, k0, hwl, hYM, hYw]
    first | refine AWp.seq (AWp.ops ?_) | refine AWp.seq (AWp.seq (AWp.ops ?_)) | refine AWp.ops ?_ | refine AWp.seq (AWp.block (AWp.seq (AWp.ops ?_))) | refine AWp.seq (AWp.seq (AWp.seq (AWp.ops ?_)))
    simp
    have hq2 := (List.getElem?_eq_some_iff.1 kq).1
    have hpq : q ≠ HH.length := by omega
    refine ⟨i + 1, _, _, Weak.slots [1, 2, 4, 5, 7, 40, 41, 42], ?_, by omega⟩
    rw [hJ]
    refine ⟨by omega, H'.set q (i64O (ws.set Y (IntKind.i64.wrap (ws[Y] + vs[i])))), ws.set Y (IntKind.i64.wrap (ws[Y] + vs[i])), ?_, by simp [i64O, List.map_set], by simp [wrap_i64 (n := (i : Int) + 1) (by omega) (by omega)]⟩
    refine ⟨by rw [gs_ne (by omega)]; exact k0, by rw [gs_ne (by omega)]; exact k1, gs_eq kq, by rw [gs_ne hpq]; exact kp, ks.set _, ?_⟩
    have hwY : ws[Y] = IntKind.i64.wrap (bins (idxF far s0) (vs.take i) 0 Y) := by subst hws; exact binV_get _ _ _ _ hYw
    rw [hwY, hws, hY, hf]
    exact binV_step (idxF far s0) vs M i hb (by omega)
  ·
    intro hb
    have hb : ¬ i < vs.length := by simpa using hb
    refine AWp.exit ?_
    simp [qSeq, qBlock]
    obtain ⟨k0, k1, kq, kp, ks, hws⟩ := hinv
    have hone' := ks.one
    first | refine AWp.seq (AWp.ops ?_) | refine AWp.seq (AWp.seq (AWp.ops ?_)) | refine AWp.ops ?_ | refine AWp.seq (AWp.block (AWp.seq (AWp.ops ?_))) | refine AWp.seq (AWp.seq (AWp.seq (AWp.ops ?_)))
    simp [kp, k1, hone']
    refine AWp.ret ?_
    simp
    refine retOk.of (by simp [gs_eq k1]; rfl) ?_
    have e : vs.take i = vs := List.take_of_length_le (by omega)
    rw [fin ws (by rw [hws, e])]
    refine .inr ⟨rfl, _, rfl, s, q, by omega, by simp [hws, binV_len], ?_, (ks.set_lt 1 (by omega) _).mono (by omega)⟩
    rw [gs_ne (by omega)]
    exact kq
end Go.Fw
