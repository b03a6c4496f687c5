import Derived.Test.YtgdkdojjfijipaaFwcoo9
import Derived.Test.YtgdkdojjfijipaaFwcoo10
namespace Go.Fw
open Go Go.RowKit Go.Proofs
set_option maxRecDepth 100000
set_option linter.unusedSimpArgs false
set_option linter.unusedVariables false

theorem cmpO_zero : ∀ {O a c : List Int}, cmpO O a c = 0 → ∀ m ∈ O, a.getD m.toNat 0 = c.getD m.toNat 0
  | [], _, _, _, m, hm => by simp at hm
  | n :: O, a, c, h, m, hm => by
    simp only [cmpO] at h
    split at h
    · omega
    · split at h
      · omega
      · rcases List.mem_cons.1 hm with rfl | hm
        · omega
        · exact cmpO_zero h m hm
theorem tells_of {X : List Int × List (List Int × Int)} {O : List Int} (h : (orderF X O).2 = 0) : Tells (orderF X O).1 X.2 := by
  intro x hx y hy h0
  obtain ⟨hc, hp⟩ := orderF_ok h
  obtain ⟨_, _, _, hat⟩ := cooCheck_len hc
  have lx := atF_len (hat x hx)
  have ly := atF_len (hat y hy)
  apply List.ext_getElem (by omega)
  intro k h1 h2
  have := cmpO_zero h0 (k : Int) (hp.mem_iff.2 (List.mem_map.2 ⟨k, List.mem_range.2 (by rw [← lx]; exact h1), rfl⟩))
  simpa [List.getD, h1, h2] using this
theorem cooCheck_sub {S : List Int} {E E' : List (List Int × Int)} (h : cooCheck S E = 0) (hl : E'.length ≤ E.length) (hs : ∀ x ∈ E', ∃ t ∈ E, t.1 = x.1) : cooCheck S E' = 0 := by
  obtain ⟨h1, h2, h3, h4⟩ := cooCheck_len h
  unfold cooCheck
  rw [if_neg (by simpa using h3), if_neg (by omega), if_neg]
  rw [List.any_eq_true]
  rintro ⟨x, hx, hx2⟩
  obtain ⟨t, ht, e⟩ := hs x hx
  have := h4 t ht
  rw [e] at this
  simp [this] at hx2
theorem joinL_le (W : List (List Int × Int)) : (joinL W).length ≤ W.length := by
  have := joinL_len W W.length (Nat.le_refl _)
  rwa [List.take_length] at this
theorem orderF_sub {S : List Int} {E E' : List (List Int × Int)} {O : List Int} (h : cooCheck S E = 0) (h' : cooCheck S E' = 0) : orderF (S, E') O = orderF (S, E) O := by
  simp only [orderF, h, h']
/-- Joined by an order, and what is joined may be. -/
theorem joinF_ok {X : List Int × List (List Int × Int)} {O : List Int} (h : (joinF X O).2 = 0) : (orderF X O).2 = 0 ∧ joinF X O = ((X.1, joinL (X.2.mergeSort (leO (orderF X O).1))), 0) ∧ cooCheck X.1 X.2 = 0 ∧ cooCheck X.1 (joinL (X.2.mergeSort (leO (orderF X O).1))) = 0 := by
  have h1 : (orderF X O).2 = 0 := by
    simp only [joinF, sortF] at h
    split at h
    · exact h
    · rename_i h1; omega
  have hs : sortF X O = ((X.1, X.2.mergeSort (leO (orderF X O).1)), 0) := by rw [sortF, if_neg (by omega)]
  have hc := (orderF_ok h1).1
  refine ⟨h1, by rw [joinF, hs], hc, cooCheck_sub hc ?_ ?_⟩
  · have := joinL_le (X.2.mergeSort (leO (orderF X O).1))
    rw [List.length_mergeSort] at this
    exact this
  · intro x hx
    obtain ⟨t, ht, e⟩ := joinL_mem hx
    exact ⟨t, List.mem_mergeSort.1 ht, e.symm⟩
theorem sortF_ok {X : List Int × List (List Int × Int)} {O : List Int} (h : (orderF X O).2 = 0) : sortF X O = ((X.1, X.2.mergeSort (leO (orderF X O).1)), 0) := by rw [sortF, if_neg (by omega)]
theorem sortF_joinF {X : List Int × List (List Int × Int)} {A B : List Int} (hA : (joinF X A).2 = 0) (hB : (joinF X B).2 = 0) : sortF (joinF X A).1 B = ((joinF X B).1, 0) := by
  obtain ⟨a1, a2, a3, a4⟩ := joinF_ok hA
  obtain ⟨b1, b2, b3, b4⟩ := joinF_ok hB
  rw [a2, b2]
  simp only
  have ho : orderF (X.1, joinL (X.2.mergeSort (leO (orderF X A).1))) B = orderF X B := orderF_sub a3 a4
  rw [sortF_ok (by rw [ho]; exact b1), ho]
  simp only
  rw [sort_joined (tells_of a1) (tells_of b1)]
theorem joinF_check {X : List Int × List (List Int × Int)} {A : List Int} (hA : (joinF X A).2 = 0) : cooCheck (joinF X A).1.1 (joinF X A).1.2 = 0 := by
  obtain ⟨a1, a2, a3, a4⟩ := joinF_ok hA
  rw [a2]; exact a4
theorem sortF_len (X : List Int × List (List Int × Int)) (O : List Int) : (sortF X O).1.2.length ≤ X.2.length := by
  unfold sortF
  split
  · simp
  · simp
theorem joinF_len (X : List Int × List (List Int × Int)) (O : List Int) : (joinF X O).1.2.length ≤ X.2.length :=
  Nat.le_trans (joinL_le _) (sortF_len X O)

def CooOrders_10 : AC := (.seq (.ops [⟨(some 63), none, (.k (.mov (.t 7)))⟩, ⟨(some 64), none, (.k (.mov (.t 63)))⟩, ⟨(some 65), (some (64, true)), (.k (.mov (.t 13)))⟩, ⟨(some 66), (some (64, true)), (.k (.bin .eql (.t 65) (.c (.sc (.int .i64 0)))))⟩, ⟨(some 67), none, (.k (.pick (.t 64) (.t 66) (.c (.sc (.bool false)))))⟩, ⟨(some 68), none, (.k (.mov (.t 67)))⟩, ⟨(some 69), (some (68, true)), (.k (.mov (.t 15)))⟩, ⟨(some 70), (some (68, true)), (.k (.bin .eql (.t 69) (.c (.sc (.int .i64 0)))))⟩, ⟨(some 71), none, (.k (.pick (.t 68) (.t 70) (.c (.sc (.bool false)))))⟩, ⟨(some 72), none, (.k (.mov (.t 71)))⟩, ⟨(some 73), (some (72, true)), (.k (.ld 2 true (.t 12)))⟩, ⟨(some 74), (some (72, true)), (.k (.ld 2 true (.t 10)))⟩, ⟨(some 75), (some (72, true)), (.call false (.c (.fn (.func 19) [] [])) [(.t 73), (.t 74)])⟩, ⟨(some 76), none, (.k (.pick (.t 72) (.t 75) (.c (.sc (.bool false)))))⟩, ⟨(some 77), none, (.k (.mov (.t 76)))⟩, ⟨(some 78), (some (77, true)), (.k (.ld 2 true (.t 14)))⟩, ⟨(some 79), (some (77, true)), (.k (.ld 2 true (.t 8)))⟩, ⟨(some 80), (some (77, true)), (.call false (.c (.fn (.func 19) [] [])) [(.t 78), (.t 79)])⟩, ⟨(some 81), none, (.k (.pick (.t 77) (.t 80) (.c (.sc (.bool false)))))⟩, ⟨(some 6), none, (.k (.mov (.t 81)))⟩]) .ret)
def CooOrders_9 : AC := (.seq (.ops [⟨(some 58), none, (.k (.ld 2 true (.t 10)))⟩, ⟨(some 59), none, (.k (.mov (.t 1)))⟩, ⟨(some 60), none, (.call false (.c (.fn (.func 15) [] [])) [(.t 58), (.t 59)])⟩, ⟨(some 57), none, (.k (.mov (.t 60)))⟩, ⟨(some 61), none, (.k (.ext (.t 57) 0))⟩, ⟨(some 62), none, (.k (.ext (.t 57) 1))⟩, ⟨(some 14), none, (.k (.new 25 2 (.c (.agg [(.imm true none 0 []), (.imm true none 0 [])]))))⟩, ⟨none, none, (.k (.st 2 (.t 14) (.t 61)))⟩, ⟨(some 15), none, (.k (.mov (.t 62)))⟩]) CooOrders_10)
def CooOrders_8 : AC := (.seq (.ops [⟨(some 52), none, (.k (.ld 2 true (.t 8)))⟩, ⟨(some 53), none, (.k (.mov (.t 2)))⟩, ⟨(some 54), none, (.call false (.c (.fn (.func 15) [] [])) [(.t 52), (.t 53)])⟩, ⟨(some 51), none, (.k (.mov (.t 54)))⟩, ⟨(some 55), none, (.k (.ext (.t 51) 0))⟩, ⟨(some 56), none, (.k (.ext (.t 51) 1))⟩, ⟨(some 12), none, (.k (.new 25 2 (.c (.agg [(.imm true none 0 []), (.imm true none 0 [])]))))⟩, ⟨none, none, (.k (.st 2 (.t 12) (.t 55)))⟩, ⟨(some 13), none, (.k (.mov (.t 56)))⟩]) CooOrders_9)
def CooOrders_7 : AC := (.seq (.ops [⟨(some 44), none, (.k (.mov (.t 9)))⟩, ⟨(some 45), none, (.k (.bin .neq (.t 44) (.c (.sc (.int .i64 0)))))⟩, ⟨(some 46), none, (.k (.mov (.t 45)))⟩, ⟨(some 47), (some (46, false)), (.k (.mov (.t 11)))⟩, ⟨(some 48), (some (46, false)), (.k (.bin .neq (.t 47) (.c (.sc (.int .i64 0)))))⟩, ⟨(some 49), none, (.k (.pick (.t 46) (.c (.sc (.bool true))) (.t 48)))⟩]) (.cond (.t 49) (.seq (.ops [⟨(some 50), none, (.k (.mov (.t 7)))⟩, ⟨(some 6), none, (.k (.mov (.t 50)))⟩]) .ret) .skip))
def CooOrders_6 : AC := (.seq CooOrders_7 CooOrders_8)
def CooOrders_5 : AC := (.seq (.ops [⟨(some 39), none, (.k (.ld 2 true (.t 3)))⟩, ⟨(some 40), none, (.k (.mov (.t 2)))⟩, ⟨(some 41), none, (.call false (.c (.fn (.func 16) [] [])) [(.t 39), (.t 40)])⟩, ⟨(some 38), none, (.k (.mov (.t 41)))⟩, ⟨(some 42), none, (.k (.ext (.t 38) 0))⟩, ⟨(some 43), none, (.k (.ext (.t 38) 1))⟩, ⟨(some 10), none, (.k (.new 25 2 (.c (.agg [(.imm true none 0 []), (.imm true none 0 [])]))))⟩, ⟨none, none, (.k (.st 2 (.t 10) (.t 42)))⟩, ⟨(some 11), none, (.k (.mov (.t 43)))⟩]) CooOrders_6)
def CooOrders_4 : AC := (.seq (.ops [⟨(some 33), none, (.k (.ld 2 true (.t 3)))⟩, ⟨(some 34), none, (.k (.mov (.t 1)))⟩, ⟨(some 35), none, (.call false (.c (.fn (.func 16) [] [])) [(.t 33), (.t 34)])⟩, ⟨(some 32), none, (.k (.mov (.t 35)))⟩, ⟨(some 36), none, (.k (.ext (.t 32) 0))⟩, ⟨(some 37), none, (.k (.ext (.t 32) 1))⟩, ⟨(some 8), none, (.k (.new 25 2 (.c (.agg [(.imm true none 0 []), (.imm true none 0 [])]))))⟩, ⟨none, none, (.k (.st 2 (.t 8) (.t 36)))⟩, ⟨(some 9), none, (.k (.mov (.t 37)))⟩]) CooOrders_5)
def CooOrders_3 : AC := (.seq (.ops [⟨(some 17), none, (.k (.ld 2 true (.t 3)))⟩, ⟨(some 18), none, (.k (.lit 2 [(.t 17)]))⟩, ⟨(some 19), none, (.call false (.c (.fn (.func 12) [] [])) [(.t 18)])⟩, ⟨(some 20), none, (.k (.un .not (.t 19)))⟩, ⟨(some 21), none, (.k (.mov (.t 20)))⟩, ⟨(some 22), (some (21, false)), (.k (.mov (.t 1)))⟩, ⟨(some 23), (some (21, false)), (.k (.len (.t 22)))⟩, ⟨(some 24), (some (21, false)), (.k (.bin .gtr (.t 23) (.c (.sc (.int .i64 20)))))⟩, ⟨(some 25), none, (.k (.pick (.t 21) (.c (.sc (.bool true))) (.t 24)))⟩, ⟨(some 26), none, (.k (.mov (.t 25)))⟩, ⟨(some 27), (some (26, false)), (.k (.mov (.t 2)))⟩, ⟨(some 28), (some (26, false)), (.k (.len (.t 27)))⟩, ⟨(some 29), (some (26, false)), (.k (.bin .gtr (.t 28) (.c (.sc (.int .i64 20)))))⟩, ⟨(some 30), none, (.k (.pick (.t 26) (.c (.sc (.bool true))) (.t 29)))⟩]) (.cond (.t 30) (.seq (.ops [⟨(some 31), none, (.k (.mov (.t 7)))⟩, ⟨(some 6), none, (.k (.mov (.t 31)))⟩]) .ret) .skip))
def CooOrders_2 : AC := (.seq CooOrders_3 CooOrders_4)
def CooOrders_1 : AC := (.seq (.ops [⟨(some 16), none, (.call false (.c (.fn (.func 11) [] [])) [])⟩, ⟨(some 7), none, (.k (.mov (.t 16)))⟩]) CooOrders_2)
def CooOrders_ac : AC := (.seq (.ops [⟨(some 3), none, (.k (.new 25 2 (.t 0)))⟩, ⟨(some 6), none, (.k (.mov (.c (.sc (.bool false)))))⟩]) CooOrders_1)
theorem CooOrders_call {args : List AV} {H : List AObj} {R : AV → List AObj → Prop} (h : AWp Try.prog [] H.length CooOrders_ac (bodyQ H.length [(.t 6)] R) (args ++ List.replicate (82 - args.length) .und) H) : ACalls Try.prog 5 args H R :=
  ACalls.of_fn Try.func5 rfl (by kernel_rfl) rfl Try.ntmps5 h

set_option maxHeartbeats 4000000 in
theorem CooOrders_spec {x a b : AV} {X : List Int × List (List Int × Int)} {A B : List Int} (hx : Coo x X) (hX : InX X) (hXl : X.2.length ≤ 9223372036854775807) (ha : ISl a A) (hb : ISl b B) : ACalls Try.prog 5 [x, a, b] [] fun r H' => H' = [] ∧ r = Bo true := by
  have hx' := hx
  have ha' := ha
  have hb' := hb
  obtain ⟨s, e, rfl, ⟨⟨n1, c1, z1, rfl, hs1⟩, hl1, hx1⟩, ⟨n2, c2, z2, es, rfl, h21, h22, h23⟩⟩ := hx
  obtain ⟨⟨n3, c3, z3, rfl, hs3⟩, hl3, hx3⟩ := ha
  obtain ⟨⟨n4, c4, z4, rfl, hs4⟩, hl4, hx4⟩ := hb
  have base : ACalls Try.prog 5 [.agg [.imm n1 c1 z1 (X.1.map I), .imm n2 c2 z2 es], .imm n3 c3 z3 (A.map I), .imm n4 c4 z4 (B.map I)] [] fun r H' => r = Bo true := by
    apply CooOrders_call
    repeat first | refine AWp.seq ?_ | refine AWp.block ?_
    refine AWp.ops ?_
    simp
    repeat first | refine AWp.seq ?_ | refine AWp.block ?_
    refine AWp.ops ?_
    simp
    refine (live02_spec.pure (by simp) (by rintro r rfl; simp) _).mono ?_
    rintro r H' ⟨rfl, rfl⟩
    simp
    repeat first | refine AWp.seq ?_ | refine AWp.block ?_
    refine AWp.ops ?_
    simp
    have hf := few2_spec (nl := false) (c := some 1) (sz := 2) (zs := [(.agg [.imm n1 c1 z1 (X.1.map I), .imm n2 c2 z2 es], X)]) (by simp; exact ⟨hx', hXl⟩) (by simp) (by simp) (by simp)
    simp only [List.map_cons, List.map_nil] at hf
    refine (hf.pure (by simp) (by rintro r rfl; simp) _).mono ?_
    rintro r H' ⟨rfl, rfl⟩
    simp only [List.all_cons, List.all_nil, Bool.and_true]
    cases hfew : fewX X with
    | false =>
      simp
      refine AWp.cond (b := true) (by simp) (fun _ => ?_) (fun h => by cases h)
      repeat first | refine AWp.seq ?_ | refine AWp.block ?_
      refine AWp.ops ?_
      simp
      refine AWp.ret ?_
      simp
      refine retOk.of rfl ?_
      simp
    | true =>
    simp only [fewX, Bool.and_eq_true, decide_eq_true_eq, List.all_eq_true] at hfew
    obtain ⟨hf1, hf2⟩ := hfew
    by_cases hA : 20 < A.length
    · have g : (20 : Int) < A.length := by omega
      simp [g]
      refine AWp.cond (b := true) (by simp) (fun _ => ?_) (fun h => by cases h)
      repeat first | refine AWp.seq ?_ | refine AWp.block ?_
      refine AWp.ops ?_
      simp
      refine AWp.ret ?_
      simp
      refine retOk.of rfl ?_
      simp
    have gA : ¬ (20 : Int) < A.length := by omega
    by_cases hB : 20 < B.length
    · have g : (20 : Int) < B.length := by omega
      simp [gA, g]
      refine AWp.cond (b := true) (by simp [g]) (fun _ => ?_) (fun h => by cases h)
      repeat first | refine AWp.seq ?_ | refine AWp.block ?_
      refine AWp.ops ?_
      simp
      refine AWp.ret ?_
      simp
      refine retOk.of rfl ?_
      simp
    have gB : ¬ (20 : Int) < B.length := by omega
    simp [gA, gB]
    refine AWp.cond (b := false) (by simp [gB]) (fun h => by cases h) (fun _ => ?_)
    refine AWp.skip ?_
    simp only [qSeq]
    repeat first | refine AWp.seq ?_ | refine AWp.block ?_
    refine AWp.ops ?_
    simp
    have jA := coo_pure (cJoin_spec hx' ha' (by omega) hX (by omega)) (joinF_in hX)
    have jB := coo_pure (cJoin_spec hx' hb' (by omega) hX (by omega)) (joinF_in hX)
    refine (jA.pure (by simp) (by rintro r ⟨y, rfl, hy⟩; simp [hy.noRef]) _).mono ?_
    rintro r H' ⟨rfl, y, rfl, hy⟩
    have hy' := hy
    obtain ⟨s5, e5, rfl, ⟨⟨n5, c5, z5, rfl, hs5⟩, hl5, hx5⟩, ⟨n6, c6, z6, es6, rfl, h61, h62, h63⟩⟩ := hy
    simp
    repeat first | refine AWp.seq ?_ | refine AWp.block ?_
    refine AWp.ops ?_
    simp
    refine (jB.pure (by simp) (by rintro r ⟨y, rfl, hy⟩; simp [hy.noRef]) _).mono ?_
    rintro r H' ⟨rfl, w, rfl, hw⟩
    have hw' := hw
    obtain ⟨s7, e7, rfl, ⟨⟨n7, c7, z7, rfl, hs7⟩, hl7, hx7⟩, ⟨n8, c8, z8, es8, rfl, h81, h82, h83⟩⟩ := hw
    simp
    by_cases hA0 : (joinF X A).2 = 0
    case neg =>
      repeat first | refine AWp.seq ?_ | refine AWp.block ?_
      refine AWp.ops ?_
      simp [hA0]
      refine AWp.cond (b := true) (by simp) (fun _ => ?_) (fun h => by cases h)
      repeat first | refine AWp.seq ?_ | refine AWp.block ?_
      refine AWp.ops ?_
      simp
      refine AWp.ret ?_
      simp
      refine retOk.of rfl ?_
      simp
    by_cases hB0 : (joinF X B).2 = 0
    case neg =>
      repeat first | refine AWp.seq ?_ | refine AWp.block ?_
      refine AWp.ops ?_
      simp [hA0, hB0]
      refine AWp.cond (b := true) (by simp [hB0]) (fun _ => ?_) (fun h => by cases h)
      repeat first | refine AWp.seq ?_ | refine AWp.block ?_
      refine AWp.ops ?_
      simp
      refine AWp.ret ?_
      simp
      refine retOk.of rfl ?_
      simp
    repeat first | refine AWp.seq ?_ | refine AWp.block ?_
    refine AWp.ops ?_
    simp [hA0, hB0]
    refine AWp.cond (b := false) (by simp [hB0]) (fun h => by cases h) (fun _ => ?_)
    have lA := joinF_len X A
    have lB := joinF_len X B
    have sB := coo_pure (cSort_spec hy' hb' (by omega) (joinF_in hX)) (sortF_in (joinF_in hX))
    have sA := coo_pure (cSort_spec hw' ha' (by omega) (joinF_in hX)) (sortF_in (joinF_in hX))
    rw [sortF_joinF hA0 hB0] at sB
    rw [sortF_joinF hB0 hA0] at sA
    refine AWp.skip ?_
    simp only [qSeq]
    repeat first | refine AWp.seq ?_ | refine AWp.block ?_
    refine AWp.ops ?_
    simp
    refine (sB.pure (by simp) (by rintro r ⟨y, rfl, hy⟩; simp [hy.noRef]) _).mono ?_
    rintro r H' ⟨rfl, p, rfl, hp⟩
    have hp' := hp
    obtain ⟨s9, e9, rfl, ⟨⟨n9, c9, z9, rfl, hs9⟩, hl9, hx9⟩, ⟨n10, c10, z10, es10, rfl, h101, h102, h103⟩⟩ := hp
    simp
    repeat first | refine AWp.seq ?_ | refine AWp.block ?_
    refine AWp.ops ?_
    simp
    refine (sA.pure (by simp) (by rintro r ⟨y, rfl, hy⟩; simp [hy.noRef]) _).mono ?_
    rintro r H' ⟨rfl, q, rfl, hq⟩
    have hq' := hq
    obtain ⟨s11, e11, rfl, ⟨⟨n11, c11, z11, rfl, hs11⟩, hl11, hx11⟩, ⟨n12, c12, z12, es12, rfl, h121, h122, h123⟩⟩ := hq
    simp
    repeat first | refine AWp.seq ?_ | refine AWp.block ?_
    refine AWp.ops ?_
    simp
    simp only at hp' hq'
    have m1 := cSame_spec hp' hw' (by omega) (by omega)
    have m2 := cSame_spec hq' hy' (by omega) (by omega)
    have e1 := joinF_check hB0
    have e2 := joinF_check hA0
    simp only [e1, e2, and_self, decide_true] at m1 m2
    refine (m1.pure (by simp) (by rintro r rfl; simp) _).mono ?_
    rintro r H' ⟨rfl, rfl⟩
    simp
    refine (m2.pure (by simp) (by rintro r rfl; simp) _).mono ?_
    rintro r H' ⟨rfl, rfl⟩
    simp
    refine AWp.ret ?_
    simp
    refine retOk.of rfl ?_
    simp
  refine (base.frozen 2).mono ?_
  rintro q H' ⟨rfl, r, G, rfl, rfl⟩
  exact ⟨rfl, by simp⟩
end Go.Fw
