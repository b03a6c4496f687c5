/- MergeWhole. -/
import Derived.Test.YtkfooghdpfhiaaaFwlaw07l
namespace Go.Fw
open Go Go.RowKit Go.Proofs
set_option maxRecDepth 100000
set_option linter.unusedSimpArgs false
set_option linter.unusedVariables false

/-- How many of a list's numbers are among the first m of all. -/
def cntW (U : List Int) (m : Nat) (l : List Int) : Nat := (l.filter fun x => decide (x ∈ U.take m)).length
theorem cnt_zero {U l : List Int} : cntW U 0 l = 0 := by simp [cntW]
theorem cnt_all {U l : List Int} (h : ∀ x ∈ l, x ∈ U) : cntW U U.length l = l.length := by
  rw [cntW, List.take_of_length_le (Nat.le_refl _), List.filter_eq_self.2 (by simpa using h)]
/-- In order, what is there of the first m is the list's beginning. -/
theorem cnt_next {U l : List Int} (hU : Rise U) (hl : Rise l) (hs : ∀ x ∈ l, x ∈ U) {m : Nat} (hm : m < U.length) :
    (U[m] ∈ l → ∃ h : cntW U m l < l.length, l[cntW U m l] = U[m] ∧ whr U[m] l = cntW U m l ∧ cntW U (m + 1) l = cntW U m l + 1) ∧ (U[m] ∉ l → cntW U (m + 1) l = cntW U m l) := by
  have hlt : ∀ x ∈ l, (x ∈ U.take m ↔ x < U[m]) := fun x hx => by
    constructor
    · intro h
      rw [List.mem_take_iff_getElem] at h
      obtain ⟨c, hc, rfl⟩ := h
      exact (List.pairwise_iff_getElem.1 hU) c m (by omega) hm (by omega)
    · intro h
      obtain ⟨c, hc, rfl⟩ := List.mem_iff_getElem.1 (hs x hx)
      rw [List.mem_take_iff_getElem]
      refine ⟨c, ?_, rfl⟩
      have : ¬ m ≤ c := fun hmc => by
        by_cases e : m = c
        · subst e; omega
        · have := (List.pairwise_iff_getElem.1 hU) m c hm hc (by omega); omega
      omega
  have hc : cntW U m l = (l.filter fun x => decide (x < U[m])).length := by
    rw [cntW]; congr 1; exact List.filter_congr fun x hx => by rw [Bool.eq_iff_iff]; simpa using hlt x hx
  have hc1 : cntW U (m + 1) l = (l.filter fun x => decide (x ≤ U[m])).length := by
    rw [cntW]; congr 1
    refine List.filter_congr fun x hx => ?_
    rw [Bool.eq_iff_iff]
    simp only [decide_eq_true_eq]
    rw [List.take_succ_eq_append_getElem hm, List.mem_append, List.mem_singleton, hlt x hx]; omega
  rw [hc, hc1]
  generalize U[m] = v
  clear hc hc1 hlt hm hU hs
  have key : (v ∈ l → ∃ h : (l.filter fun x => decide (x < v)).length < l.length, l[(l.filter fun x => decide (x < v)).length] = v ∧ (l.filter fun x => decide (x ≤ v)).length = (l.filter fun x => decide (x < v)).length + 1) ∧ (v ∉ l → (l.filter fun x => decide (x ≤ v)).length = (l.filter fun x => decide (x < v)).length) := by
    induction l with
    | nil => simp
    | cons y l ih =>
      obtain ⟨h1, h2⟩ := List.pairwise_cons.1 hl
      obtain ⟨i1, i2⟩ := ih h2
      refine ⟨fun hv => ?_, fun hv => ?_⟩
      · rcases List.mem_cons.1 hv with rfl | hv
        · have e1 : l.filter (fun x => decide (x < v)) = [] := by
            rw [List.filter_eq_nil_iff]; intro x hx; have := h1 x hx; simp; omega
          have e2 : l.filter (fun x => decide (x ≤ v)) = [] := by
            rw [List.filter_eq_nil_iff]; intro x hx; have := h1 x hx; simp; omega
          simp [List.filter_cons, e1, e2]
        · obtain ⟨g1, g2, g3⟩ := i1 hv
          have hy := h1 v hv
          have e1 : (y :: l).filter (fun x => decide (x < v)) = y :: l.filter (fun x => decide (x < v)) := List.filter_cons_of_pos (by simpa using hy)
          have e2 : (y :: l).filter (fun x => decide (x ≤ v)) = y :: l.filter (fun x => decide (x ≤ v)) := List.filter_cons_of_pos (by simp; omega)
          simp only [e1, e2, List.length_cons]
          exact ⟨by omega, by simpa using g2, by omega⟩
      · have hv1 : v ∉ l := fun h => hv (by simp [h])
        have hne : y ≠ v := fun e => hv (by simp [e])
        have i3 := i2 hv1
        by_cases hy : y < v
        · rw [List.filter_cons_of_pos (by simp; omega), List.filter_cons_of_pos (by simpa using hy)]; simp [i3]
        · rw [List.filter_cons_of_neg (by simp; omega), List.filter_cons_of_neg (by simpa using hy)]; exact i3
  refine ⟨fun hv => ?_, key.2⟩
  obtain ⟨g1, g2, g3⟩ := key.1 hv
  refine ⟨g1, g2, whr_found g1 g2 fun hm => ?_, g3⟩
  rw [List.mem_take_iff_getElem] at hm
  obtain ⟨c, hc, hce⟩ := hm
  have := (List.pairwise_iff_getElem.1 hl) c _ (by omega) g1 (by omega)
  rw [hce, g2] at this
  omega
/-- How far each list is, where the stop m is looked at up to list k. -/
def nxF (A : List (List Int)) (U : List Int) (m k : Nat) : List Int := (List.range A.length).map fun j => ((if j < k then cntW U (m + 1) (A.getD j []) else cntW U m (A.getD j []) : Nat) : Int)
section
variable {A : List (List Int)} {U : List Int} {m k : Nat}
@[simp] theorem nxF_len : (nxF A U m k).length = A.length := by simp [nxF]
theorem nxF_get (h : k < A.length) : (nxF A U m k)[k]'(by simpa using h) = cntW U m A[k] := by simp [nxF, List.getD, h]
theorem nxF_set (h : k < A.length) (e : cntW U (m + 1) A[k] = cntW U m A[k] + 1) : (nxF A U m k).set k ((cntW U m A[k] : Int) + 1) = nxF A U m (k + 1) := by
  apply List.ext_getElem (by simp)
  intro i h1 h2
  simp at h2
  rw [List.getElem_set]
  by_cases ei : k = i
  · subst ei; rw [if_pos rfl]; simp [nxF, List.getD, h, e]
  · rw [if_neg ei]
    simp only [nxF, List.getElem_map, List.getElem_range]
    by_cases hi : i < k
    · rw [if_pos hi, if_pos (by omega)]
    · rw [if_neg hi, if_neg (by omega)]
theorem nxF_same (h : k < A.length) (e : cntW U (m + 1) A[k] = cntW U m A[k]) : nxF A U m (k + 1) = nxF A U m k := by
  apply List.ext_getElem (by simp)
  intro i h1 h2
  simp at h2
  simp only [nxF, List.getElem_map, List.getElem_range]
  by_cases hi : i < k
  · rw [if_pos hi, if_pos (by omega)]
  · by_cases ei : i = k
    · subst ei; rw [if_pos (by omega), if_neg hi]; simp [List.getD, h, e]
    · rw [if_neg hi, if_neg (by omega)]
theorem nxF_next : nxF A U m A.length = nxF A U (m + 1) 0 := by
  apply List.map_congr_left
  intro j hj
  simp at hj
  rw [if_pos hj, if_neg (by omega)]
theorem nxF_zero : nxF A U 0 0 = List.replicate A.length 0 := by
  simp [nxF, cnt_zero, List.map_const']
end
def lWhole_2 : AC := (.seq (.ops [.o 71 (.bin .lss (.t 70) (.t 69))]) (.seq (.cond (.t 71) .skip (.exit 2)) (.seq (.block 3 (.seq (.ops [.m 72 (.t 70), .o 73 (.iad 1 (.t 68) (.t 70)), .o 74 (.ld 1 false (.t 73)), .m 10 (.t 72), .m 11 (.t 74)]) (.seq (.seq (.ops [.m 75 (.t 11), .o 76 (.bin .lss (.t 75) (.i 0))]) (.cond (.t 76) (.exit 3) .skip)) (.seq (.ops [.m 9 (.b true)]) (.seq (.seq (.ops [.m 77 (.t 11), .m 78 (.t 6), .m 79 (.t 10), .o 80 (.iad 1 (.t 78) (.t 79)), .o 81 (.ld 1 false (.t 80)), .o 82 (.bin .neq (.t 77) (.t 81)), .m 83 (.t 82), .mg 84 83 false (.t 11), .mg 85 83 false (.t 0), .mg 86 83 false (.t 10), .og 87 83 false (.iad 1 (.t 85) (.t 86)), .og 88 83 false (.ld 1 false (.t 87)), .og 89 83 false (.len (.t 88)), .og 90 83 false (.bin .geq (.t 84) (.t 89)), .o 91 (.pick (.t 83) (.b true) (.t 90)), .m 92 (.t 91), .mg 93 92 false (.t 0), .mg 94 92 false (.t 10), .og 95 92 false (.iad 1 (.t 93) (.t 94)), .og 96 92 false (.ld 1 false (.t 95)), .mg 97 92 false (.t 11), .og 98 92 false (.iad 1 (.t 96) (.t 97)), .og 99 92 false (.ld 1 false (.t 98)), .og 100 92 false (.fad 0 (.t 8)), .og 101 92 false (.ld 1 false (.t 100)), .og 102 92 false (.bin .neq (.t 99) (.t 101)), .o 103 (.pick (.t 92) (.b true) (.t 102))]) (.cond (.t 103) (.seq (.ops [.m 2 (.b false)]) .ret) .skip)) (.ops [.m 104 (.t 6), .m 105 (.t 10), .o 106 (.iad 1 (.t 104) (.t 105)), .o 107 (.ld 1 false (.t 106)), .o 108 (.bin .add (.t 107) (.i 1)), .o 109 (.iad 1 (.t 104) (.t 105)), .on (.st 1 (.t 109) (.t 108))])))))) (.ops [.o 110 (.bin .add (.t 70) (.i 1)), .m 70 (.t 110)]))))
def lWhole_1 : AC := (.seq (.ops [.o 42 (.bin .lss (.t 41) (.t 40))]) (.seq (.cond (.t 42) .skip (.exit 0)) (.seq (.block 1 (.seq (.ops [.m 43 (.t 41), .o 44 (.iad 2 (.t 39) (.t 41)), .o 45 (.ld 2 true (.t 44)), .o 8 (.new 37 2 (.c (.agg [(.sc (.int .i64 0)), nil0]))), .m 7 (.t 43), .on (.st 2 (.t 8) (.t 45))]) (.seq (.seq (.ops [.m 46 (.t 7), .o 47 (.bin .gtr (.t 46) (.i 0)), .m 48 (.t 47), .mg 49 48 true (.t 4), .mg 50 48 true (.t 7), .og 51 48 true (.bin .sub (.t 50) (.i 1)), .og 52 48 true (.iad 2 (.t 49) (.t 51)), .og 53 48 true (.fad 0 (.t 52)), .og 54 48 true (.ld 1 false (.t 53)), .og 55 48 true (.fad 0 (.t 8)), .og 56 48 true (.ld 1 false (.t 55)), .og 57 48 true (.bin .geq (.t 54) (.t 56)), .o 58 (.pick (.t 48) (.t 57) (.b false)), .m 59 (.t 58), .og 60 59 false (.fad 1 (.t 8)), .og 61 59 false (.ld 1 false (.t 60)), .og 62 59 false (.len (.t 61)), .mg 63 59 false (.t 0), .og 64 59 false (.len (.t 63)), .og 65 59 false (.bin .neq (.t 62) (.t 64)), .o 66 (.pick (.t 59) (.b true) (.t 65))]) (.cond (.t 66) (.seq (.ops [.m 2 (.b false)]) .ret) .skip)) (.seq (.ops [.m 9 (.b false)]) (.seq (.seq (.ops [.o 67 (.fad 1 (.t 8)), .o 68 (.ld 1 false (.t 67)), .o 69 (.len (.t 68)), .m 70 (.i 0)]) (.block 2 (.loop lWhole_2))) (.seq (.ops [.m 111 (.t 9), .o 112 (.un .not (.t 111))]) (.cond (.t 112) (.seq (.ops [.m 2 (.b false)]) .ret) .skip))))))) (.ops [.o 113 (.bin .add (.t 41) (.i 1)), .m 41 (.t 113)]))))
def lWhole_3 : AC := (.seq (.ops [.o 117 (.bin .lss (.t 116) (.t 115))]) (.seq (.cond (.t 117) .skip (.exit 4)) (.seq (.block 5 (.seq (.ops [.m 118 (.t 116), .o 119 (.iad 1 (.t 114) (.t 116)), .o 120 (.ld 1 false (.t 119)), .m 12 (.t 118), .m 13 (.t 120)]) (.seq (.ops [.m 121 (.t 6), .m 122 (.t 12), .o 123 (.iad 1 (.t 121) (.t 122)), .o 124 (.ld 1 false (.t 123)), .m 125 (.t 13), .o 126 (.len (.t 125)), .o 127 (.bin .neq (.t 124) (.t 126))]) (.cond (.t 127) (.seq (.ops [.m 2 (.b false)]) .ret) .skip)))) (.ops [.o 128 (.bin .add (.t 116) (.i 1)), .m 116 (.t 128)]))))
def lWhole_ac : AC := (.seq (.ops [.m 2 (.b false)]) (.seq (.ops [.c 14 false (.f 14) [], .m 3 (.t 14)]) (.seq (.seq (.ops [.m 15 (.t 0), .c 16 false (.f 15) [(.t 15)], .o 17 (.un .not (.t 16))]) (.cond (.t 17) (.seq (.ops [.m 18 (.t 3), .m 2 (.t 18)]) .ret) .skip)) (.seq (.ops [.m 20 (.t 0), .c 21 false (.f 16) [(.t 20)], .m 19 (.t 21), .o 22 (.ext (.t 19) 0), .o 23 (.ext (.t 19) 1), .m 4 (.t 22), .m 5 (.t 23)]) (.seq (.seq (.ops [.m 24 (.t 5), .o 25 (.bin .neq (.t 24) (.i 0))]) (.cond (.t 25) (.seq (.ops [.m 26 (.t 3), .m 27 (.t 26), .mg 28 27 true (.t 5), .og 29 27 true (.bin .eql (.t 28) (.i 1)), .o 30 (.pick (.t 27) (.t 29) (.b false)), .m 31 (.t 30), .mg 32 31 true (.t 4), .og 33 31 true (.len (.t 32)), .og 34 31 true (.bin .eql (.t 33) (.i 0)), .o 35 (.pick (.t 31) (.t 34) (.b false)), .m 2 (.t 35)]) .ret) .skip)) (.seq (.ops [.m 36 (.t 0), .o 37 (.len (.t 36)), .o 38 (.mkS 3 1 8 (.sc (.int .i64 0)) (.t 37) (.t 37)), .m 6 (.t 38)]) (.seq (.seq (.ops [.m 39 (.t 4), .o 40 (.len (.t 39)), .m 41 (.i 0)]) (.block 0 (.loop lWhole_1))) (.seq (.seq (.ops [.m 114 (.t 0), .o 115 (.len (.t 114)), .m 116 (.i 0)]) (.block 4 (.loop lWhole_3))) (.seq (.ops [.m 129 (.t 3), .m 2 (.t 129)]) .ret)))))))))
theorem lWhole_w {args : List AV} {H : List AObj} {R : AV → List AObj → Prop} (h : wp Try.prog [] H.length lWhole_ac (bodyW [(.t 2)] (Nr R .mk)) (args ++ List.replicate (130 - args.length) .und) H) : ACalls Try.prog 4 args H R :=
  ACalls.of_wp Try.func4 rfl (by kernel_rfl) rfl Try.ntmps4 h
set_option maxHeartbeats 4000000 in
theorem lWhole_p (A : List (List Int)) (hA : A.length ≤ 140737488351232) (hAl : ∀ l ∈ A, OkI l) : Pu Try.prog 4 [Ls A] (Bo true) := by
  refine Pu.of 4 (lWhole_w ?_)
  simp (disch := omega) [ar, -List.take_append_getElem, lWhole_ac]
  refine Pu.c live7_p ?_
  simp (disch := omega) [ar, -List.take_append_getElem]
  refine Pu.c (few7_p A hA fun l h => (hAl l h).1) ?_
  cases h0 : fewF A
  · simp (disch := omega) [ar, -List.take_append_getElem]
  simp (disch := omega) [ar, -List.take_append_getElem]
  obtain ⟨hn, hF⟩ := few_of h0
  refine Pu.c (mwalk_p A (by omega) (by omega)) ?_
  clear hAl hA h0
  by_cases hr : ∀ l ∈ A, Rise l
  rotate_left
  · have e : walkF A = ([], 1) := if_neg hr
    simp (disch := omega) [ar, -List.take_append_getElem, e]
  have e : walkF A = (stops A, 0) := if_pos hr
  have hSl := walkF_len (A := A)
  rw [e] at hSl ⊢
  simp only at hSl ⊢
  obtain ⟨U, hU⟩ : ∃ U, uni A.flatten = U := ⟨_, rfl⟩
  obtain ⟨S, hS⟩ : ∃ S, stops A = S := ⟨_, rfl⟩
  have hUr : Rise U := by rw [← hU]; exact rise_uni _
  have hSU : S.length = U.length := by rw [← hS, stops, List.length_map, hU]
  have hSi : ∀ m (h : m < S.length), S[m] = (U[m]'(by omega), A.map (whr (U[m]'(by omega)))) := fun m h => by
    subst hS; subst hU; simp [stops]
  have hsub : ∀ k (h : k < A.length), ∀ x ∈ A[k], x ∈ U := fun k h x hx => by
    rw [← hU, mem_uni, List.mem_flatten]; exact ⟨_, List.getElem_mem h, hx⟩
  have hnext : ∀ m (hm : m < U.length) k (hk : k < A.length), _ := fun m hm k hk => cnt_next (m := m) hUr (hr _ (List.getElem_mem hk)) (hsub k hk) hm
  have hsome : ∀ m (hm : m < U.length), ∃ k, ∃ h : k < A.length, U[m] ∈ A[k] := fun m hm => by
    have h1 : U[m] ∈ uni A.flatten := by rw [hU]; exact List.getElem_mem hm
    rw [mem_uni, List.mem_flatten] at h1
    obtain ⟨l, hl, hx⟩ := h1
    obtain ⟨k, hk, rfl⟩ := List.mem_iff_getElem.1 hl
    exact ⟨k, hk, hx⟩
  have hcl : ∀ k (h : k < A.length), cntW U U.length A[k] = A[k].length := fun k h => cnt_all (hsub k h)
  rw [hS] at hSl ⊢
  clear hU hS e
  simp (disch := omega) [ar, -List.take_append_getElem]
  refine Lp.to 1 [] S.length (fun m => True) (fun m => fm 130 [(0, Ls A), (3, Bo true), (4, Ss S), (6, .slc 0 A.length 0 A.length none), (39, Ss S), (40, I S.length), (41, I m)]) (fun m => [ob 3 1 ((nxF A U m 0).map I)]) ⟨trivial, by simp [nxF_zero]⟩ fun m hm _ => ?_
  simp (disch := omega) [ar, -List.take_append_getElem, lWhole_1]
  (first | refine Cnd.sp (fun h1 => ?_) fun h1 => ?_ | refine Gd.sp (fun h1 => ?_) fun h1 => ?_) <;> (try simp at h1) <;> (try simp (disch := omega) [ar, -List.take_append_getElem, h1])
  · have hmS : m < S.length := by omega
    have hmU : m < U.length := by omega
    obtain ⟨v, hv⟩ : ∃ v, U[m] = v := ⟨_, rfl⟩
    obtain ⟨R, hR⟩ : ∃ R, A.map (whr v) = R := ⟨_, rfl⟩
    have hSm : S[m] = (v, R) := by rw [hSi m hmS, hv, hR]
    have hRl : R.length = A.length := by rw [← hR]; simp
    have hRi : ∀ k (h : k < A.length), R[k]'(by omega) = whr v A[k] := fun k h => by simp [← hR]
    have hnx := hnext m hmU
    have hsm := hsome m hmU
    rw [hv] at hsm
    simp only [hv] at hnx
    have hprev : ∀ p (h : p < S.length), m = p + 1 → ¬ v ≤ S[p].1 := fun p hp e => by
      subst e
      rw [hSi p hp, ← hv]
      have := hUr.adj p hmU
      simp only; omega
    obtain ⟨f, hf0, hfs, hfN⟩ : ∃ f : Nat → Bool, f 0 = false ∧ (∀ k (h : k < A.length), f (k + 1) = (f k || decide (v ∈ A[k]))) ∧ f A.length = true := by
      refine ⟨fun k => (A.take k).any fun l => decide (v ∈ l), by simp, fun k h => ?_, ?_⟩
      · simp only []
        rw [List.take_succ_eq_append_getElem h]; simp [-List.take_append_getElem]
      · obtain ⟨k, hk, hvk⟩ := hsm
        simp only [List.take_length, List.any_eq_true]
        exact ⟨_, List.getElem_mem hk, by simpa using hvk⟩
    clear hSi hnext hsome hcl hsm
    have fin : ∀ (x1 x2 x5 x10 x11 x12 x13 x14 x15 x16 x17 x18 x19 x20 x21 x22 x23 x24 x25 x26 x27 x28 x29 x30 x31 x32 x33 x34 x35 x36 x37 x38 x42 x43 x44 x45 x46 x47 x48 x49 x50 x51 x52 x53 x54 x55 x56 x57 x58 x59 x60 x61 x62 x63 x64 x65 x66 x67 : AV), ∀ (Q : Exit → List AV → List AObj → Prop) b, Q (.exit 2) (fm 130 [(0, Ls A), (3, Bo true), (4, Ss S), (6, .slc 0 A.length 0 A.length none), (8, .ptr 1 1 0 0), (9, Bo true), (39, Ss S), (40, I S.length), (41, I m), (68, Is R), (69, I A.length), (70, I A.length), (71, Bo false)]) [ob 3 1 ((nxF A U m A.length).map I), bx 37 2 (stopV (v, R))] →
        Lp Try.prog [] 0 (.loop lWhole_2) Q b ([Ls A, x1, x2, Bo true, Ss S, x5, .slc 0 A.length 0 A.length none, I m, .ptr 1 1 0 0, Bo false, x10, x11, x12, x13, x14, x15, x16, x17, x18, x19, x20, x21, x22, x23, x24, x25, x26, x27, x28, x29, x30, x31, x32, x33, x34, x35, x36, x37, x38, Ss S, I S.length, I m, x42, x43, x44, x45, x46, x47, x48, x49, x50, x51, x52, x53, x54, x55, x56, x57, x58, x59, x60, x61, x62, x63, x64, x65, x66, .ptr 1 1 0 1, Is R, I A.length, I 0, .und, .und, .und, .und, .und, .und, .und, .und, .und, .und, .und, .und, .und, .und, .und, .und, .und, .und, .und, .und, .und, .und, .und, .und, .und, .und, .und, .und, .und, .und, .und, .und, .und, .und, .und, .und, .und, .und, .und, .und, .und, .und, .und, .und, .und, .und, .und, .und, .und, .und, .und, .und, .und, .und, .und, .und, .und, .und, .und]) [ob 3 1 ((nxF A U m 0).map I), bx 37 2 (stopV (v, R))] := by
      intro x1 x2 x5 x10 x11 x12 x13 x14 x15 x16 x17 x18 x19 x20 x21 x22 x23 x24 x25 x26 x27 x28 x29 x30 x31 x32 x33 x34 x35 x36 x37 x38 x42 x43 x44 x45 x46 x47 x48 x49 x50 x51 x52 x53 x54 x55 x56 x57 x58 x59 x60 x61 x62 x63 x64 x65 x66 x67 Q b hQ
      refine Lp.op (σ := Nat) (fun k => k ≤ A.length) (fun k => A.length - k) (fun k => fm 130 [(0, Ls A), (3, Bo true), (4, Ss S), (6, .slc 0 A.length 0 A.length none), (8, .ptr 1 1 0 0), (9, Bo (f k)), (39, Ss S), (40, I S.length), (41, I m), (68, Is R), (69, I A.length), (70, I k)])
        (fun k => [ob 3 1 ((nxF A U m k).map I), bx 37 2 (stopV (v, R))]) 0 ⟨Nat.zero_le _, by simp [hf0], by simp⟩ ?_
      intro k hk
      simp (disch := omega) [ar, -List.take_append_getElem, lWhole_2]
      (first | refine Cnd.sp (fun h2 => ?_) fun h2 => ?_ | refine Gd.sp (fun h2 => ?_) fun h2 => ?_) <;> (try simp at h2) <;> (try simp (disch := omega) [ar, -List.take_append_getElem, h2])
      · have hkA : k < A.length := by omega
        have hkR : k < R.length := by omega
        have hRk := hRi k hkA
        obtain ⟨n1, n2⟩ := hnx k hkA
        have hgk := nxF_get (U := U) (m := m) hkA
        have hnl : (nxF A U m k).length = A.length := by simp
        have hany := hfs k hkA
        have hlk := ll_len hkA (by omega)
        by_cases hvk : v ∈ A[k]
        · obtain ⟨g1, g2, g3, g4⟩ := n1 hvk
          have hse := nxF_set hkA g4
          rw [g3] at hRk
          simp (disch := omega) [ar, -List.take_append_getElem, hRk, hgk, g1, g2]
          refine ⟨k + 1, by omega, by omega, ?_⟩
          rw [hany, ← hse, List.map_set]
          simp [hvk]
        · have g4 := n2 hvk
          have hse := nxF_same hkA g4
          rw [whr_none hvk] at hRk
          simp (disch := omega) [ar, -List.take_append_getElem, hRk]
          refine ⟨k + 1, by omega, by omega, ?_⟩
          rw [hany, hse]
          simp [hvk]
      · have hkN : k = A.length := by omega
        subst hkN
        simpa [hfN] using hQ
    cases m with
    | zero =>
      simp (disch := omega) [ar, -List.take_append_getElem, hSm, hRl]
      refine fin _ _ _ _ _ _ _ _ _ _ _ _ _ _ _ _ _ _ _ _ _ _ _ _ _ _ _ _ _ _ _ _ _ _ _ _ _ _ _ _ _ _ _ _ _ _ _ _ _ _ _ _ _ _ _ _ _ .und _ _ ?_
      rw [nxF_next]
      simp (disch := omega) [ar, -List.take_append_getElem]
    | succ p =>
      have hp := hprev p (by omega) rfl
      simp (disch := omega) [ar, -List.take_append_getElem, hSm, hRl, hp]
      refine fin _ _ _ _ _ _ _ _ _ _ _ _ _ _ _ _ _ _ _ _ _ _ _ _ _ _ _ _ _ _ _ _ _ _ _ _ _ _ _ _ _ _ _ _ _ _ _ _ _ _ _ _ _ _ _ _ _ .und _ _ ?_
      rw [nxF_next]
      simp (disch := omega) [ar, -List.take_append_getElem]
  · have hmN : m = S.length := by omega
    subst hmN
    rw [hSU]
    refine Lp.op (σ := Nat) (fun k => k ≤ A.length) (fun k => A.length - k) (fun k => fm 130 [(3, Bo true), (6, .slc 0 A.length 0 A.length none), (114, Ls A), (115, I A.length), (116, I k)]) (fun k => [ob 3 1 ((nxF A U U.length 0).map I)]) 0 ⟨Nat.zero_le _, by simp, rfl⟩ ?_
    intro k hk
    simp (disch := omega) [ar, -List.take_append_getElem, lWhole_3]
    (first | refine Cnd.sp (fun h2 => ?_) fun h2 => ?_ | refine Gd.sp (fun h2 => ?_) fun h2 => ?_) <;> (try simp at h2) <;> (try simp (disch := omega) [ar, -List.take_append_getElem, h2])
    · have hkA : k < A.length := by omega
      have hgk := nxF_get (U := U) (m := U.length) hkA
      have hnl : (nxF A U U.length 0).length = A.length := by simp
      have hg0 : (nxF A U U.length 0)[k]'(by omega) = A[k].length := by
        simp only [nxF, List.getElem_map, List.getElem_range]
        rw [if_neg (by omega), show A.getD k [] = A[k] by simp [List.getD, hkA], hcl k hkA]
      clear hgk
      simp (disch := omega) [ar, -List.take_append_getElem, hg0]
      exact ⟨k + 1, by omega, by omega, by omega⟩
end Go.Fw
