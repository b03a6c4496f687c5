/- MergeJoins. -/
import Derived.Test.YtkfooghdpfhiaaaFwlaw07j
import Derived.Test.YtkfooghdpfhiaaaFwlaw07l
namespace Go.Fw
open Go Go.RowKit Go.Proofs
set_option maxRecDepth 100000
set_option linter.unusedSimpArgs false
set_option linter.unusedVariables false

@[simp] theorem fz_Is {H : List AObj} {k n : Nat} {b : Bool} : (fz H k n b ∘ Is) = Is := by funext l; exact fz_imm _ _ _ _
theorem lists_one (A : List (List Int)) : allOneCell 1 (A.map Is) = true := by
  simp only [allOneCell, List.all_eq_true, List.mem_map]
  rintro _ ⟨l, _, rfl⟩
  rfl
def lJoins_c93 : AC := (.seq (.ops [.m 93 (.t 14), .c 94 false (.f 22) [(.t 93)], .m 92 (.t 94), .o 95 (.ext (.t 92) 0), .o 96 (.ext (.t 92) 1), .m 15 (.t 95), .m 16 (.t 96)]) (.seq (.ops [.m 98 (.t 6), .m 99 (.t 8), .o 100 (.lit 1 [(.t 98), (.t 99)]), .c 101 false (.f 22) [(.t 100)], .m 97 (.t 101), .o 102 (.ext (.t 97) 0), .o 103 (.ext (.t 97) 1), .m 17 (.t 102), .m 18 (.t 103)]) (.seq (.ops [.m 105 (.t 14), .c 106 false (.f 24) [(.t 105)], .m 104 (.t 106), .o 107 (.ext (.t 104) 0), .o 108 (.ext (.t 104) 1), .m 19 (.t 107), .m 20 (.t 108)]) (.seq (.ops [.m 110 (.t 10), .m 111 (.t 12), .o 112 (.lit 1 [(.t 110), (.t 111)]), .c 113 false (.f 24) [(.t 112)], .m 109 (.t 113), .o 114 (.ext (.t 109) 0), .o 115 (.ext (.t 109) 1), .m 21 (.t 114), .m 22 (.t 115)]) (.seq (.ops [.m 116 (.t 5), .m 117 (.t 116), .mg 118 117 true (.t 16), .og 119 117 true (.bin .eql (.t 118) (.i 0)), .o 120 (.pick (.t 117) (.t 119) (.b false)), .m 121 (.t 120), .mg 122 121 true (.t 18), .og 123 121 true (.bin .eql (.t 122) (.i 0)), .o 124 (.pick (.t 121) (.t 123) (.b false)), .m 125 (.t 124), .mg 126 125 true (.t 20), .og 127 125 true (.bin .eql (.t 126) (.i 0)), .o 128 (.pick (.t 125) (.t 127) (.b false)), .m 129 (.t 128), .mg 130 129 true (.t 22), .og 131 129 true (.bin .eql (.t 130) (.i 0)), .o 132 (.pick (.t 129) (.t 131) (.b false)), .m 133 (.t 132), .mg 134 133 true (.t 15), .mg 135 133 true (.t 17), .cg 136 133 true false (.f 27) [(.t 134), (.t 135)], .o 137 (.pick (.t 133) (.t 136) (.b false)), .m 138 (.t 137), .mg 139 138 true (.t 19), .mg 140 138 true (.t 21), .cg 141 138 true false (.f 27) [(.t 139), (.t 140)], .o 142 (.pick (.t 138) (.t 141) (.b false)), .m 143 (.t 142), .mg 144 143 true (.t 15), .cg 145 143 true false (.f 20) [(.t 144)], .o 146 (.pick (.t 143) (.t 145) (.b false)), .m 147 (.t 146), .mg 148 147 true (.t 19), .cg 149 147 true false (.f 20) [(.t 148)], .o 150 (.pick (.t 147) (.t 149) (.b false)), .m 4 (.t 150)]) .ret)))))
def lJoins_ac : AC := (.seq (.ops [.m 4 (.b false)]) (.seq (.ops [.c 23 false (.f 14) [], .m 5 (.t 23)]) (.seq (.seq (.ops [.m 24 (.t 0), .c 25 false (.f 15) [(.t 24)], .o 26 (.un .not (.t 25)), .m 27 (.t 26), .mg 28 27 false (.t 1), .cg 29 27 false false (.f 15) [(.t 28)], .og 30 27 false (.un .not (.t 29)), .o 31 (.pick (.t 27) (.b true) (.t 30)), .m 32 (.t 31), .mg 33 32 false (.t 0), .og 34 32 false (.len (.t 33)), .og 35 32 false (.bin .eql (.t 34) (.i 0)), .o 36 (.pick (.t 32) (.b true) (.t 35)), .m 37 (.t 36), .mg 38 37 false (.t 1), .og 39 37 false (.len (.t 38)), .og 40 37 false (.bin .eql (.t 39) (.i 0)), .o 41 (.pick (.t 37) (.b true) (.t 40))]) (.cond (.t 41) (.seq (.ops [.m 42 (.t 5), .m 4 (.t 42)]) .ret) .skip)) (.seq (.ops [.m 44 (.t 0), .c 45 false (.f 22) [(.t 44)], .m 43 (.t 45), .o 46 (.ext (.t 43) 0), .o 47 (.ext (.t 43) 1), .m 6 (.t 46), .m 7 (.t 47)]) (.seq (.ops [.m 49 (.t 1), .c 50 false (.f 22) [(.t 49)], .m 48 (.t 50), .o 51 (.ext (.t 48) 0), .o 52 (.ext (.t 48) 1), .m 8 (.t 51), .m 9 (.t 52)]) (.seq (.ops [.m 54 (.t 0), .c 55 false (.f 24) [(.t 54)], .m 53 (.t 55), .o 56 (.ext (.t 53) 0), .o 57 (.ext (.t 53) 1), .m 10 (.t 56), .m 11 (.t 57)]) (.seq (.ops [.m 59 (.t 1), .c 60 false (.f 24) [(.t 59)], .m 58 (.t 60), .o 61 (.ext (.t 58) 0), .o 62 (.ext (.t 58) 1), .m 12 (.t 61), .m 13 (.t 62)]) (.seq (.seq (.ops [.m 63 (.t 7), .o 64 (.bin .neq (.t 63) (.i 0)), .m 65 (.t 64), .mg 66 65 false (.t 9), .og 67 65 false (.bin .neq (.t 66) (.i 0)), .o 68 (.pick (.t 65) (.b true) (.t 67)), .m 69 (.t 68), .mg 70 69 false (.t 11), .og 71 69 false (.bin .neq (.t 70) (.i 0)), .o 72 (.pick (.t 69) (.b true) (.t 71)), .m 73 (.t 72), .mg 74 73 false (.t 13), .og 75 73 false (.bin .neq (.t 74) (.i 0)), .o 76 (.pick (.t 73) (.b true) (.t 75))]) (.cond (.t 76) (.seq (.ops [.m 77 (.t 5), .m 78 (.t 77), .mg 79 78 true (.t 7), .mg 80 78 true (.t 11), .og 81 78 true (.bin .eql (.t 79) (.t 80)), .o 82 (.pick (.t 78) (.t 81) (.b false)), .m 83 (.t 82), .mg 84 83 true (.t 9), .mg 85 83 true (.t 13), .og 86 83 true (.bin .eql (.t 84) (.t 85)), .o 87 (.pick (.t 83) (.t 86) (.b false)), .m 4 (.t 87)]) .ret) .skip)) (.seq (.ops [.m 88 (.t 0), .o 89 (.app 22 1 24 .z (.t 88)), .m 90 (.t 1), .o 91 (.app 22 1 24 (.t 89) (.t 90)), .m 14 (.t 91)]) (.here lJoins_c93))))))))))
theorem lJoins_w {args : List AV} {H : List AObj} {R : AV → List AObj → Prop} (h : wp Try.prog [] H.length lJoins_ac (bodyW [(.t 4)] (Nr R .mk)) (args ++ List.replicate (151 - args.length) .und) H) : ACalls Try.prog 8 args H R :=
  ACalls.of_wp Try.func8 rfl (by kernel_rfl) rfl Try.ntmps8 h
set_option maxHeartbeats 4000000 in
theorem lJoins_p (A B : List (List Int)) (hA : A.length ≤ 140737488351232) (hAl : ∀ l ∈ A, OkI l) (hB : B.length ≤ 140737488351232) (hBl : ∀ l ∈ B, OkI l) : Pu Try.prog 8 [Ls A, Ls B] (Bo true) := by
  refine Pu.of 4 (lJoins_w ?_)
  simp (disch := omega) [ar, -List.take_append_getElem, lJoins_ac]
  refine Pu.c live7_p ?_
  simp (disch := omega) [ar, -List.take_append_getElem]
  refine Pu.c (few7_p A hA fun l h => (hAl l h).1) ?_
  cases h0 : fewF A
  · simp (disch := omega) [ar, -List.take_append_getElem]
  simp (disch := omega) [ar, -List.take_append_getElem]
  refine Pu.c (few7_p B hB fun l h => (hBl l h).1) ?_
  cases h1 : fewF B
  · simp (disch := omega) [ar, -List.take_append_getElem]
  simp (disch := omega) [ar, -List.take_append_getElem]
  obtain ⟨hn, hF⟩ := few_of h0
  obtain ⟨hm, hG⟩ := few_of h1
  by_cases hA0 : A = []
  · simp (disch := omega) [ar, -List.take_append_getElem, hA0]
  by_cases hB0 : B = []
  · simp (disch := omega) [ar, -List.take_append_getElem, hA0, hB0]
  simp (disch := omega) [ar, -List.take_append_getElem, hA0, hB0]
  refine Pu.c (mUnion_p A (by omega) (by omega)) ?_
  simp (disch := omega) [ar, -List.take_append_getElem]
  refine Pu.c (mUnion_p B (by omega) (by omega)) ?_
  simp (disch := omega) [ar, -List.take_append_getElem]
  refine Pu.c (mBoth_p A (by omega) (by omega)) ?_
  simp (disch := omega) [ar, -List.take_append_getElem]
  refine Pu.c (mBoth_p B (by omega) (by omega)) ?_
  simp (disch := omega) [ar, -List.take_append_getElem]
  have good : ∀ {C : List (List Int)}, (∀ l ∈ C, Rise l) → unionF C = (uni C.flatten, 0) ∧ bothF C = (interF C, 0) := fun h => ⟨if_pos h, if_pos h⟩
  have bad : ∀ {C : List (List Int)}, ¬ (∀ l ∈ C, Rise l) → unionF C = ([], 1) ∧ bothF C = ([], 1) := fun h => ⟨if_neg h, if_neg h⟩
  by_cases hrA : ∀ l ∈ A, Rise l
  · by_cases hrB : ∀ l ∈ B, Rise l
    · have la := unionF_len (A := A)
      have lb := unionF_len (A := B)
      have lc := bothF_len (A := A)
      have ld := bothF_len (A := B)
      obtain ⟨hu, hb⟩ := good hrA
      obtain ⟨hv, hc⟩ := good hrB
      rw [hu] at la
      rw [hv] at lb
      rw [hb] at lc
      rw [hc] at ld
      simp only at la lb lc ld
      have hrC : ∀ l ∈ A ++ B, Rise l := fun l h => by
        rcases List.mem_append.1 h with h | h
        · exact hrA l h
        · exact hrB l h
      obtain ⟨hw, hd⟩ := good hrC
      have hll : A.length + B.length = (A ++ B).length := by simp
      have hlf : (A ++ B).flatten.length = A.flatten.length + B.flatten.length := by simp
      have hx : unionF [uni A.flatten, uni B.flatten] = (uni (A ++ B).flatten, 0) := by
        rw [(good (C := [uni A.flatten, uni B.flatten]) (by simp [rise_uni])).1, uni_two]
      have hy : bothF [interF A, interF B] = (interF (A ++ B), 0) := by
        rw [(good (C := [interF A, interF B]) (by simp [inter_rise])).2, inter_two hA0 hB0]
      have lw := unionF_len (A := A ++ B)
      have lz := bothF_len (A := A ++ B)
      rw [hw] at lw
      rw [hd] at lz
      simp only at lw lz
      simp (disch := omega) [ar, -List.take_append_getElem, hu, hv, hb, hc, lists_one, hA0, hB0]
      rw [← List.map_append, hll]
      have hC1 := inter_rise (A ++ B)
      generalize A ++ B = C at hll hlf hw hd hx hy lw lz hrC hC1 ⊢
      clear hAl hBl hA0 hB0 hrA hrB hrC good bad
      refine Hr.next 0 (fr' := fm 151 [(5, Bo true), (6, Is (uni A.flatten)), (8, Is (uni B.flatten)), (10, Is (interF A)), (12, Is (interF B)), (14, Ls C)]) (H' := []) (by simp) ?_
      simp (disch := omega) [ar, -List.take_append_getElem, lJoins_c93]
      refine Pu.c (mUnion_p C (by omega) (by omega)) ?_
      simp (disch := omega) [ar, -List.take_append_getElem, hw]
      refine Pu.c (mUnion_p [uni A.flatten, uni B.flatten] (by simp) (by simp; omega)) ?_
      simp (disch := omega) [ar, -List.take_append_getElem, hx]
      refine Pu.c (mBoth_p C (by omega) (by omega)) ?_
      simp (disch := omega) [ar, -List.take_append_getElem, hd]
      refine Pu.c (mBoth_p [interF A, interF B] (by simp) (by simp; omega)) ?_
      simp (disch := omega) [ar, -List.take_append_getElem, hy]
      refine Pu.c (rEqual_p (uni C.flatten) (uni C.flatten) (by omega) (by omega)) ?_
      simp (disch := omega) [ar, -List.take_append_getElem]
      refine Pu.c (rEqual_p (interF C) (interF C) (by omega) (by omega)) ?_
      simp (disch := omega) [ar, -List.take_append_getElem]
      refine Pu.c (pRises_p (uni C.flatten) (by omega)) ?_
      simp (disch := omega) [ar, -List.take_append_getElem, rise_uni]
      refine Pu.c (pRises_p (interF C) (by omega)) ?_
      simp (disch := omega) [ar, -List.take_append_getElem, hC1]
    · obtain ⟨hu, hb⟩ := good hrA
      obtain ⟨hv, hc⟩ := bad hrB
      simp (disch := omega) [ar, -List.take_append_getElem, hu, hv, hb, hc]
  · by_cases hrB : ∀ l ∈ B, Rise l
    · obtain ⟨hu, hb⟩ := bad hrA
      obtain ⟨hv, hc⟩ := good hrB
      simp (disch := omega) [ar, -List.take_append_getElem, hu, hv, hb, hc]
    · obtain ⟨hu, hb⟩ := bad hrA
      obtain ⟨hv, hc⟩ := bad hrB
      simp (disch := omega) [ar, -List.take_append_getElem, hu, hv, hb, hc]
end Go.Fw
