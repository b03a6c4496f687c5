/- MergeLists. -/
import Derived.Test.YtkfooghdpfhiaaaFwlaw07a
import Derived.Test.YtkfooghdpfhiaaaFwargsM
namespace Go.Fw
open Go Go.RowKit Go.Proofs
set_option maxRecDepth 100000
set_option linter.unusedSimpArgs false
set_option linter.unusedVariables false

theorem few_of {A : List (List Int)} (h : fewF A = true) : A.length ≤ 50 ∧ A.flatten.length ≤ 500 := by
  simpa [fewF] using h
theorem bothF_len {A : List (List Int)} : (bothF A).1.length ≤ A.flatten.length := by
  unfold bothF
  split
  · exact Nat.le_trans (List.length_filter_le _ _) (uni_len _)
  · simp
theorem walkF_in {A : List (List Int)} (h : A.length ≤ 1000000) : ∀ s ∈ (walkF A).1, s.2.length ≤ 1000000000 := by
  intro st hst
  unfold walkF at hst
  split at hst
  · rw [stops_len hst]; omega
  · simp at hst
def lLists_1 : AC := (.seq (.ops [.o 29 (.bin .lss (.t 28) (.t 27))]) (.seq (.cond (.t 29) .skip (.exit 0)) (.seq (.block 1 (.seq (.ops [.o 30 (.iad 1 (.t 26) (.t 28)), .o 31 (.ld 1 false (.t 30)), .m 6 (.t 31)]) (.seq (.ops [.m 32 (.t 4), .m 33 (.t 6), .o 34 (.app 3 1 8 .z (.t 33)), .o 35 (.litO 22 1 [(.t 34)]), .o 36 (.app 22 1 24 (.t 32) (.t 35)), .m 4 (.t 36)]) (.seq (.ops [.m 37 (.t 6), .c 38 false (.f 20) [(.t 37)], .m 39 (.t 6), .c 40 false (.f 21) [(.t 39)], .o 41 (.beq true (.t 38) (.t 40))]) (.cond (.t 41) (.seq (.ops [.m 2 (.b false)]) .ret) .skip))))) (.ops [.o 42 (.bin .add (.t 28) (.i 1)), .m 28 (.t 42)]))))
def lLists_2 : AC := (.seq (.ops [.o 76 (.bin .lss (.t 75) (.t 74))]) (.seq (.cond (.t 76) .skip (.exit 2)) (.seq (.block 3 (.seq (.ops [.m 77 (.t 75), .o 78 (.iad 1 (.t 73) (.t 75)), .o 79 (.ld 1 false (.t 78)), .m 19 (.t 77), .m 20 (.t 79)]) (.seq (.ops [.m 80 (.t 20), .m 81 (.t 4), .m 82 (.t 19), .o 83 (.iad 1 (.t 81) (.t 82)), .o 84 (.ld 1 false (.t 83)), .c 85 false (.f 27) [(.t 80), (.t 84)], .o 86 (.un .not (.t 85))]) (.cond (.t 86) (.seq (.ops [.m 2 (.b false)]) .ret) .skip)))) (.ops [.o 87 (.bin .add (.t 75) (.i 1)), .m 75 (.t 87)]))))
def lLists_ac : AC := (.seq (.ops [.m 2 (.b false)]) (.seq (.ops [.c 21 false (.f 14) [], .m 3 (.t 21)]) (.seq (.seq (.ops [.m 22 (.t 0), .c 23 false (.f 15) [(.t 22)], .o 24 (.un .not (.t 23))]) (.cond (.t 24) (.seq (.ops [.m 25 (.t 3), .m 2 (.t 25)]) .ret) .skip)) (.seq (.ops [.m 4 .z]) (.seq (.seq (.ops [.m 26 (.t 0), .o 27 (.len (.t 26)), .m 28 (.i 0)]) (.block 0 (.loop lLists_1))) (.seq (.ops [.m 44 (.t 0), .c 45 false (.f 22) [(.t 44)], .m 43 (.t 45), .o 46 (.ext (.t 43) 0), .o 47 (.ext (.t 43) 1), .m 7 (.t 46), .m 8 (.t 47)]) (.seq (.ops [.m 49 (.t 0), .c 50 false (.f 23) [(.t 49)], .m 48 (.t 50), .o 51 (.ext (.t 48) 0), .o 52 (.ext (.t 48) 1), .m 9 (.t 51), .m 10 (.t 52)]) (.seq (.ops [.m 54 (.t 0), .c 55 false (.f 24) [(.t 54)], .m 53 (.t 55), .o 56 (.ext (.t 53) 0), .o 57 (.ext (.t 53) 1), .m 11 (.t 56), .m 12 (.t 57)]) (.seq (.ops [.m 59 (.t 0), .c 60 false (.f 25) [(.t 59)], .m 58 (.t 60), .o 61 (.ext (.t 58) 0), .o 62 (.ext (.t 58) 1), .m 13 (.t 61), .m 14 (.t 62)]) (.seq (.ops [.m 64 (.t 0), .c 65 false (.f 16) [(.t 64)], .m 63 (.t 65), .o 66 (.ext (.t 63) 0), .o 67 (.ext (.t 63) 1), .m 15 (.t 66), .m 16 (.t 67)]) (.seq (.ops [.m 69 (.t 0), .c 70 false (.f 26) [(.t 69)], .m 68 (.t 70), .o 71 (.ext (.t 68) 0), .o 72 (.ext (.t 68) 1), .m 17 (.t 71), .m 18 (.t 72)]) (.seq (.seq (.ops [.m 73 (.t 0), .o 74 (.len (.t 73)), .m 75 (.i 0)]) (.block 2 (.loop lLists_2))) (.seq (.ops [.m 88 (.t 3), .m 89 (.t 88), .mg 90 89 true (.t 7), .mg 91 89 true (.t 9), .cg 92 89 true false (.f 27) [(.t 90), (.t 91)], .o 93 (.pick (.t 89) (.t 92) (.b false)), .m 94 (.t 93), .mg 95 94 true (.t 8), .mg 96 94 true (.t 10), .og 97 94 true (.bin .eql (.t 95) (.t 96)), .o 98 (.pick (.t 94) (.t 97) (.b false)), .m 99 (.t 98), .mg 100 99 true (.t 11), .mg 101 99 true (.t 13), .cg 102 99 true false (.f 27) [(.t 100), (.t 101)], .o 103 (.pick (.t 99) (.t 102) (.b false)), .m 104 (.t 103), .mg 105 104 true (.t 12), .mg 106 104 true (.t 14), .og 107 104 true (.bin .eql (.t 105) (.t 106)), .o 108 (.pick (.t 104) (.t 107) (.b false)), .m 109 (.t 108), .mg 110 109 true (.t 15), .mg 111 109 true (.t 17), .cg 112 109 true false (.f 28) [(.t 110), (.t 111)], .o 113 (.pick (.t 109) (.t 112) (.b false)), .m 114 (.t 113), .mg 115 114 true (.t 16), .mg 116 114 true (.t 18), .og 117 114 true (.bin .eql (.t 115) (.t 116)), .o 118 (.pick (.t 114) (.t 117) (.b false)), .m 2 (.t 118)]) .ret)))))))))))))
theorem lLists_w {args : List AV} {H : List AObj} {R : AV → List AObj → Prop} (h : wp Try.prog [35] H.length lLists_ac (bodyW [(.t 2)] (Nr R .mk)) (args ++ List.replicate (119 - args.length) .und) H) : ACalls Try.prog 7 args H R :=
  ACalls.of_wp Try.func7 rfl (by kernel_rfl) rfl Try.ntmps7 h
set_option maxHeartbeats 4000000 in
theorem lLists_p (A : List (List Int)) (hA : A.length ≤ 140737488351232) (hAl : ∀ l ∈ A, OkI l) : Pu Try.prog 7 [Ls A] (Bo true) := by
  refine Pu.of 4 (lLists_w ?_)
  simp (disch := omega) [ar, -List.take_append_getElem, lLists_ac]
  refine Pu.c live7_p ?_
  simp (disch := omega) [ar, -List.take_append_getElem]
  refine Pu.c (few7_p A hA fun l h => (hAl l h).1) ?_
  simp (disch := omega) [ar, -List.take_append_getElem]
  (first | refine Cnd.sp (fun h0 => ?_) fun h0 => ?_ | refine Gd.sp (fun h0 => ?_) fun h0 => ?_) <;> (try simp at h0) <;> (try simp (disch := omega) [ar, -List.take_append_getElem, h0])
  obtain ⟨hn, hF⟩ := few_of h0
  obtain ⟨V, hV⟩ : ∃ V, V = A.map Is := ⟨_, rfl⟩
  have hVl : V.length = A.length := by rw [hV]; simp
  have hVi : ∀ i (h : i < A.length), V[i]'(by omega) = Is A[i] := fun i h => by simp [hV]
  have hone : ∀ i, allOneCell 1 (V.take i) = true := fun i => by
    simp only [allOneCell, List.all_eq_true]
    intro x hx
    have hx := List.mem_of_mem_take hx
    rw [hV] at hx
    obtain ⟨st, _, rfl⟩ := List.mem_map.1 hx
    rfl
  have hfz : ∀ i H k n b, (V.take i).map (fz H k n b) = V.take i := fun i H k n b => by
    conv => rhs; rw [← List.map_id (V.take i)]
    apply List.map_congr_left
    intro x hx
    have hx := List.mem_of_mem_take hx
    rw [hV] at hx
    obtain ⟨st, _, rfl⟩ := List.mem_map.1 hx
    simp
  refine Lp.to 1 [(4, 22, 1)] A.length (fun j => True) (fun j => fm 119 [(0, Ls A), (3, Bo true), (4, .slc 0 (V.take j).length 0 (V.take j).length none), (26, Ls A), (27, I A.length), (28, I j)])
    (fun j => [ow 22 1 (V.take j)]) ⟨trivial, by simp [ow]⟩ fun i hi _ => ?_
  simp (disch := omega) [ar, -List.take_append_getElem, lLists_1]
  (first | refine Cnd.sp (fun h1 => ?_) fun h1 => ?_ | refine Gd.sp (fun h1 => ?_) fun h1 => ?_) <;> (try simp at h1) <;> (try simp (disch := omega) [ar, -List.take_append_getElem, h1])
  · have hil : i < A.length := by omega
    have hll := ll_len hil (by omega)
    obtain ⟨l, hl⟩ : ∃ l, A[i] = l := ⟨_, rfl⟩
    have e : V.take (i + 1) = V.take i ++ [Is l] := by rw [List.take_succ_eq_append_getElem (by omega), hVi i hil, hl]
    have hl2 : (V.take i).length = i := by simp; omega
    have honei := hone i
    have hfzi := hfz i
    have hl3 : min i V.length = i := by omega
    rw [hl] at hll
    rw [e]
    generalize V.take i = K at hl2 honei hfzi ⊢
    have h1l : allOneCell 1 (l.map I) = true := by simp [allOneCell, okEl, cellsOf, oneC]
    clear hone hfz hVi hV e
    by_cases hz : l = []
    · subst hz
      simp (disch := omega) [ar, -List.take_append_getElem, hl, hl3, elems, live?, hl2, honei]
      refine Pu.c (pRises_p [] (by simp)) ?_
      simp (disch := omega) [ar, -List.take_append_getElem, hl]
      refine Pu.c (rRises_p [] (by simp)) ?_
      simp (disch := omega) [ar, -List.take_append_getElem, hfzi, hl2]
    · simp (disch := omega) [ar, -List.take_append_getElem, hl, hl3, elems, live?, hl2, honei, hz, h1l]
      refine Pu.c (pRises_p l (by omega)) ?_
      simp (disch := omega) [ar, -List.take_append_getElem, hl]
      refine Pu.c (rRises_p l (by omega)) ?_
      simp (disch := omega) [ar, -List.take_append_getElem, hfzi, hl2]
  · have h2 : i = A.length := by omega
    subst h2
    have hVt : V.take A.length = V := List.take_of_length_le (by omega)
    have hone' : allOneCell 1 V = true := by have := hone A.length; rw [hVt] at this; exact this
    clear hone hi h1 hfz hVt
    have hu := unionF_len (A := A)
    have hb := bothF_len (A := A)
    have hw := walkF_len (A := A)
    have hwi := walkF_in (A := A) (by omega)
    refine Pu.c (mUnion_p A (by omega) (by omega)) ?_
    simp (disch := omega) [ar, -List.take_append_getElem]
    refine Pu.c (rUnion_p A (by omega) (by omega)) ?_
    simp (disch := omega) [ar, -List.take_append_getElem]
    refine Pu.c (mBoth_p A (by omega) (by omega)) ?_
    simp (disch := omega) [ar, -List.take_append_getElem]
    refine Pu.c (rBoth_p A (by omega) (by omega)) ?_
    simp (disch := omega) [ar, -List.take_append_getElem]
    refine Pu.c (mwalk_p A (by omega) (by omega)) ?_
    simp (disch := omega) [ar, -List.take_append_getElem]
    refine Pu.c (rWalk_p A (by omega) (by omega)) ?_
    simp (disch := omega) [ar, -List.take_append_getElem]
    generalize unionF A = uf at hu ⊢
    generalize bothF A = bf at hb ⊢
    generalize walkF A = wf at hw hwi ⊢
    obtain ⟨ul, ue⟩ := uf
    obtain ⟨bl, be⟩ := bf
    obtain ⟨wl, we⟩ := wf
    simp only at hu hb hw hwi ⊢
    refine Lp.op (σ := Nat) (fun j => j ≤ A.length) (fun j => A.length - j) (fun j => fm 119 [(0, Ls A), (3, Bo true), (4, .slc 0 A.length 0 A.length none), (7, Is ul), (8, I ue), (9, Is ul), (10, I ue), (11, Is bl), (12, I be), (13, Is bl), (14, I be), (15, Ss wl), (16, I we), (17, Ss wl), (18, I we), (73, Ls A), (74, I A.length), (75, I j)])
      (fun j => [ow 22 1 V]) 0 ⟨Nat.zero_le _, by simp, rfl⟩ ?_
    intro i hi
    have hVne : i < A.length → ¬ V = [] := fun h e => by rw [e] at hVl; simp at hVl; omega
    simp (disch := omega) [ar, -List.take_append_getElem, lLists_2]
    (first | refine Cnd.sp (fun h1 => ?_) fun h1 => ?_ | refine Gd.sp (fun h1 => ?_) fun h1 => ?_) <;> (try simp at h1) <;> (try simp (disch := omega) [ar, -List.take_append_getElem, h1])
    · have hil : i < A.length := by omega
      have hVne := hVne hil
      have hVi := hVi i hil
      have hll := ll_len hil (by omega)
      simp (disch := omega) [ar, -List.take_append_getElem, hVl, hVne, hVi]
      refine Pu.c (rEqual_p A[i] A[i] (by omega) (by omega)) ?_
      simp (disch := omega) [ar, -List.take_append_getElem]
      exact ⟨i + 1, by omega, by omega, by omega⟩
    · have h2 : i = A.length := by omega
      subst h2
      refine Pu.c (rEqual_p ul ul (by omega) (by omega)) ?_
      simp (disch := omega) [ar, -List.take_append_getElem]
      refine Pu.c (rEqual_p bl bl (by omega) (by omega)) ?_
      simp (disch := omega) [ar, -List.take_append_getElem]
      refine Pu.c (rSame_p wl wl (by omega) (by omega) hwi hwi) ?_
      simp (disch := omega) [ar, -List.take_append_getElem]
end Go.Fw
