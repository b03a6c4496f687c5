/- MergeLeast. -/
import Derived.Test.YtkfooghdpfhiaaaFwlaw07l
import Derived.Test.YtkfooghdpfhiaaaFwY4
namespace Go.Fw
open Go Go.RowKit Go.Proofs
set_option maxRecDepth 100000
set_option linter.unusedSimpArgs false
set_option linter.unusedVariables false

theorem Wks.repl {a b : AV} (h : Wk a b) : ∀ n, Wks (List.replicate n a) (List.replicate n b)
  | 0 => rfl
  | n + 1 => ⟨h, Wks.repl h n⟩
def mn (a b : Int) : Int := if b < a then b else a
theorem mn_le (a b : Int) : mn a b ≤ a ∧ mn a b ≤ b ∧ (mn a b = a ∨ mn a b = b) := by
  unfold mn; split <;> omega
/-- The least of a list that is not empty. -/
def minF (l : List Int) : Int := l.foldl mn (l.headD 0)
theorem minF_le {l : List Int} {a : Int} : l.foldl mn a ≤ a ∧ (∀ x ∈ l, l.foldl mn a ≤ x) ∧ (l.foldl mn a = a ∨ l.foldl mn a ∈ l) := by
  induction l generalizing a with
  | nil => simp
  | cons y l ih =>
    simp only [List.foldl_cons]
    obtain ⟨h1, h2, h3⟩ := ih (a := mn a y)
    obtain ⟨g1, g2, g3⟩ := mn_le a y
    refine ⟨by omega, fun x hx => ?_, ?_⟩
    · rcases List.mem_cons.1 hx with rfl | hx
      · omega
      · exact h2 x hx
    · rcases h3 with h3 | h3
      · rw [h3]
        rcases g3 with g3 | g3
        · exact .inl g3
        · exact .inr (by rw [g3]; simp)
      · exact .inr (by simp [h3])
theorem minF_mem {l : List Int} (h : l ≠ []) : minF l ∈ l ∧ ∀ x ∈ l, minF l ≤ x := by
  obtain ⟨y, l', rfl⟩ := List.exists_cons_of_ne_nil h
  obtain ⟨h1, h2, h3⟩ := minF_le (l := y :: l') (a := y)
  refine ⟨?_, fun x hx => h2 x hx⟩
  rcases h3 with h3 | h3
  · simp only [minF, List.headD_cons, h3]; simp
  · exact h3
def sMin_1 : AC := (.seq (.seq (.ops [.m 12 (.t 4), .m 13 (.t 0), .o 14 (.len (.t 13)), .o 15 (.bin .lss (.t 12) (.t 14))]) (.cond (.t 15) .skip (.exit 0))) (.seq (.block 1 (.ops [.m 18 (.t 3), .m 19 (.t 0), .m 20 (.t 4), .o 21 (.iad 1 (.t 19) (.t 20)), .o 22 (.ld 1 false (.t 21)), .o 23 (.mm false (.t 18) (.t 22)), .m 3 (.t 23)])) (.ops [.m 16 (.t 4), .o 17 (.bin .add (.t 16) (.i 1)), .m 4 (.t 17)])))
def sMin_ac : AC := (.seq (.ops [.m 2 (.i 0)]) (.seq (.seq (.ops [.m 5 (.t 0), .o 6 (.len (.t 5)), .o 7 (.bin .lss (.t 6) (.i 1))]) (.cond (.t 7) (.ops [.o 8 (.mkI 9 (.c (.sc (.string ⟨#[115, 108, 105, 99, 101, 115, 46, 77, 105, 110, 58, 32, 101, 109, 112, 116, 121, 32, 108, 105, 115, 116]⟩)))), .on .pan]) .skip)) (.seq (.ops [.m 9 (.t 0), .o 10 (.iad 1 (.t 9) (.i 0)), .o 11 (.ld 1 false (.t 10)), .m 3 (.t 11)]) (.seq (.seq (.ops [.m 4 (.i 1)]) (.block 0 (.loop sMin_1))) (.seq (.ops [.m 24 (.t 3), .m 2 (.t 24)]) .ret)))))
theorem sMin_w {args : List AV} {H : List AObj} {R : AV → List AObj → Prop} (h : wp Try.prog [] H.length sMin_ac (bodyW [(.t 2)] (Nr R .mk)) (args ++ List.replicate (25 - args.length) .und) H) : ACalls Try.prog 49 args H R :=
  ACalls.of_wp Try.func49 rfl (by kernel_rfl) rfl Try.ntmps49 h
theorem sMin_p (l : List Int) (h0 : l ≠ []) (hl : l.length ≤ 1000000000) : Pu Try.prog 49 [Is l] (I (minF l)) := by
  refine Pu.of 4 (sMin_w ?_)
  have h1 : 0 < l.length := List.length_pos_iff.2 h0
  have h2 : ¬ l.length < 1 := by omega
  obtain ⟨M, hM⟩ : ∃ M : Nat → Int, M = fun i => (l.take i).foldl mn (l.headD 0) := ⟨_, rfl⟩
  have hg : ∀ i (h : i < l.length), M (i + 1) = if l[i] < M i then l[i] else M i := fun i h => by
    simp only [hM]; rw [List.take_succ_eq_append_getElem h, List.foldl_append]; rfl
  have h3 : M 1 = l[0] := by
    subst hM
    obtain ⟨y, l', rfl⟩ := List.exists_cons_of_ne_nil h0
    simp [mn]
  have hE : minF l = M l.length := by simp only [hM, List.take_length]; rfl
  clear hM
  simp (disch := omega) [ar, -List.take_append_getElem, sMin_ac, h0]
  refine Lp.to 0 [] (l.length - 1) (fun i => True) (fun i => fm 25 [(0, Is l), (3, I (M (i + 1))), (4, I ((i : Int) + 1))]) (fun _ => []) ⟨trivial, by simp [h3]⟩ fun i hi _ => ?_
  simp (disch := omega) [ar, -List.take_append_getElem, sMin_1]
  (first | refine Cnd.sp (fun h4 => ?_) fun h4 => ?_ | refine Gd.sp (fun h4 => ?_) fun h4 => ?_) <;> (try simp at h4) <;> (try simp (disch := omega) [ar, -List.take_append_getElem, h4])
  · have h5 : i + 1 < l.length := by omega
    have h6 := hg (i + 1) h5
    simp (disch := omega) [ar, -List.take_append_getElem, h6]
  · have h5 : l.length = i + 1 := by omega
    rw [hE, h5]
def mLeast_ac : AC := (.seq (.ops [.m 2 (.i 0), .m 3 (.b false)]) (.seq (.seq (.ops [.m 4 (.t 0), .o 5 (.len (.t 4)), .o 6 (.bin .eql (.t 5) (.i 0))]) (.cond (.t 6) (.seq (.ops [.m 2 (.i 0), .m 3 (.b false)]) .ret) .skip)) (.seq (.ops [.m 7 (.t 0), .m 8 (.t 0), .c 9 false (.f 49) [(.t 8)], .c 10 false (.f 48) [(.t 7), (.t 9)], .m 2 (.t 10), .m 3 (.b true)]) .ret)))
theorem mLeast_w {args : List AV} {H : List AObj} {R : AV → List AObj → Prop} (h : wp Try.prog [] H.length mLeast_ac (bodyW [(.t 2), (.t 3)] (Nr R .mk)) (args ++ List.replicate (11 - args.length) .und) H) : ACalls Try.prog 19 args H R :=
  ACalls.of_wp Try.func19 rfl (by kernel_rfl) rfl Try.ntmps19 h
theorem mLeast_p (l : List Int) (hl : l.length ≤ 1000000000) : Pu Try.prog 19 [Is l] (.tup [I (if l = [] then 0 else whr (minF l) l), Bo (decide (l ≠ []))]) := by
  refine Pu.of 4 (mLeast_w ?_)
  simp (disch := omega) [ar, -List.take_append_getElem, mLeast_ac]
  (first | refine Cnd.sp (fun h0 => ?_) fun h0 => ?_ | refine Gd.sp (fun h0 => ?_) fun h0 => ?_) <;> (try simp at h0) <;> (try simp (disch := omega) [ar, -List.take_append_getElem, h0])
  refine Pu.c (sMin_p l h0 hl) ?_
  simp (disch := omega) [ar, -List.take_append_getElem]
  refine Pu.c (sIndex_p l (minF l) hl) ?_
  simp (disch := omega) [ar, -List.take_append_getElem, h0]
theorem next_none {n k : Nat} (hk : k < n) : nextF (List.replicate n []) (List.range k) = some k := by
  have hw : ∀ j, may (List.replicate n []) (List.range k) j = decide (k ≤ j) := fun j => by
    have e : (List.replicate n ([] : List Int)).getD j [] = [] := by
      simp only [List.getD, List.getElem?_replicate]; split <;> rfl
    simp only [may, wt, e]; simp
  rw [nextF, List.length_replicate, show n = k + (n - k) by omega, List.range_add, List.find?_append]
  have e1 : (List.range k).find? (may (List.replicate (k + (n - k)) []) (List.range k)) = none := by
    rw [List.find?_eq_none, show k + (n - k) = n by omega]
    intro j hj
    rw [hw]
    simp at hj ⊢; omega
  rw [e1, show n - k = (n - k - 1) + 1 by omega, List.range_succ_eq_map]
  rw [show k + (n - k - 1 + 1) = n by omega]
  simp [hw]
theorem ordF_none (n : Nat) : ordF (List.replicate n []) = ((List.range n).map fun (k : Nat) => (k : Int), 0) := by
  have hin : inA (List.replicate n []) := fun l hl x hx => by
    rw [List.eq_of_mem_replicate hl] at hx; simp at hx
  have h : ∀ m k, k + m = n → OrdR (List.replicate n []) (List.range k) (List.range n) := by
    intro m
    induction m with
    | zero =>
      intro k e
      obtain rfl : k = n := by omega
      refine .done ?_
      rw [nextF, List.find?_eq_none]
      intro j hj
      simp at hj
      simp [may, hj]
    | succ m ih =>
      intro k e
      refine .step (next_none (by omega)) ?_
      rw [← List.range_succ]
      exact ih (k + 1) (by omega)
  have := (ordL_spec (List.replicate n [])).det (h n 0 (by omega))
  rw [ordF, if_pos hin, this]
  simp
def lLeast_1 : AC := (.seq (.ops [.o 49 (.bin .lss (.t 48) (.t 47))]) (.seq (.cond (.t 49) .skip (.exit 0)) (.seq (.block 1 (.seq (.ops [.m 50 (.t 48), .o 51 (.iad 1 (.t 46) (.t 48)), .o 52 (.ld 1 false (.t 51)), .m 6 (.t 50), .m 7 (.t 52)]) (.seq (.ops [.m 53 (.t 7), .m 54 (.t 0), .m 55 (.t 4), .o 56 (.iad 1 (.t 54) (.t 55)), .o 57 (.ld 1 false (.t 56)), .o 58 (.bin .lss (.t 53) (.t 57)), .m 59 (.t 58), .mg 60 59 false (.t 6), .mg 61 59 false (.t 4), .og 62 59 false (.bin .lss (.t 60) (.t 61)), .mg 63 59 false (.t 62), .mg 64 63 true (.t 7), .mg 65 63 true (.t 0), .mg 66 63 true (.t 4), .og 67 63 true (.iad 1 (.t 65) (.t 66)), .og 68 63 true (.ld 1 false (.t 67)), .og 69 63 true (.bin .eql (.t 64) (.t 68)), .og 70 59 false (.pick (.t 63) (.t 69) (.b false)), .o 71 (.pick (.t 59) (.b true) (.t 70))]) (.cond (.t 71) (.seq (.ops [.m 2 (.b false)]) .ret) .skip)))) (.ops [.o 72 (.bin .add (.t 48) (.i 1)), .m 48 (.t 72)]))))
def lLeast_2 : AC := (.seq (.ops [.o 83 (.bin .lss (.t 82) (.t 81))]) (.seq (.cond (.t 83) .skip (.exit 2)) (.seq (.block 3 (.seq (.ops [.m 84 (.t 82), .o 85 (.iad 1 (.t 80) (.t 82)), .o 86 (.ld 1 false (.t 85)), .m 10 (.t 84), .m 11 (.t 86)]) (.seq (.ops [.m 87 (.t 11), .m 88 (.t 10), .o 89 (.bin .neq (.t 87) (.t 88))]) (.cond (.t 89) (.seq (.ops [.m 2 (.b false)]) .ret) .skip)))) (.ops [.o 90 (.bin .add (.t 82) (.i 1)), .m 82 (.t 90)]))))
def lLeast_ac : AC := (.seq (.ops [.m 2 (.b false)]) (.seq (.ops [.c 12 false (.f 14) [], .m 3 (.t 12)]) (.seq (.seq (.ops [.m 13 (.t 0), .o 14 (.len (.t 13)), .o 15 (.bin .gtr (.t 14) (.i 300))]) (.cond (.t 15) (.seq (.ops [.m 16 (.t 3), .m 2 (.t 16)]) .ret) .skip)) (.seq (.ops [.m 18 (.t 0), .c 19 false (.f 19) [(.t 18)], .m 17 (.t 19), .o 20 (.ext (.t 17) 0), .o 21 (.ext (.t 17) 1), .m 4 (.t 20), .m 5 (.t 21)]) (.seq (.seq (.ops [.m 22 (.t 0), .o 23 (.len (.t 22)), .o 24 (.bin .eql (.t 23) (.i 0))]) (.cond (.t 24) (.seq (.ops [.m 25 (.t 3), .m 26 (.t 25), .mg 27 26 true (.t 5), .og 28 26 true (.un .not (.t 27)), .o 29 (.pick (.t 26) (.t 28) (.b false)), .m 30 (.t 29), .mg 31 30 true (.t 4), .og 32 30 true (.bin .eql (.t 31) (.i 0)), .o 33 (.pick (.t 30) (.t 32) (.b false)), .m 2 (.t 33)]) .ret) .skip)) (.seq (.seq (.ops [.m 34 (.t 5), .o 35 (.un .not (.t 34)), .m 36 (.t 35), .mg 37 36 false (.t 4), .og 38 36 false (.bin .lss (.t 37) (.i 0)), .o 39 (.pick (.t 36) (.b true) (.t 38)), .m 40 (.t 39), .mg 41 40 false (.t 4), .mg 42 40 false (.t 0), .og 43 40 false (.len (.t 42)), .og 44 40 false (.bin .geq (.t 41) (.t 43)), .o 45 (.pick (.t 40) (.b true) (.t 44))]) (.cond (.t 45) (.seq (.ops [.m 2 (.b false)]) .ret) .skip)) (.seq (.seq (.ops [.m 46 (.t 0), .o 47 (.len (.t 46)), .m 48 (.i 0)]) (.block 0 (.loop lLeast_1))) (.seq (.ops [.m 74 (.t 0), .o 75 (.len (.t 74)), .o 76 (.mkS 22 1 24 nil0 (.t 75) (.t 75)), .c 77 false (.f 17) [(.t 76)], .m 73 (.t 77), .o 78 (.ext (.t 73) 0), .o 79 (.ext (.t 73) 1), .m 8 (.t 78), .m 9 (.t 79)]) (.seq (.seq (.ops [.m 80 (.t 8), .o 81 (.len (.t 80)), .m 82 (.i 0)]) (.block 2 (.loop lLeast_2))) (.seq (.ops [.m 91 (.t 3), .m 92 (.t 91), .mg 93 92 true (.t 9), .og 94 92 true (.bin .eql (.t 93) (.i 0)), .o 95 (.pick (.t 92) (.t 94) (.b false)), .m 96 (.t 95), .mg 97 96 true (.t 8), .og 98 96 true (.len (.t 97)), .mg 99 96 true (.t 0), .og 100 96 true (.len (.t 99)), .og 101 96 true (.bin .eql (.t 98) (.t 100)), .o 102 (.pick (.t 96) (.t 101) (.b false)), .m 2 (.t 102)]) .ret))))))))))
theorem lLeast_w {args : List AV} {H : List AObj} {R : AV → List AObj → Prop} (h : wp Try.prog [] H.length lLeast_ac (bodyW [(.t 2)] (Nr R .mk)) (args ++ List.replicate (103 - args.length) .und) H) : ACalls Try.prog 6 args H R :=
  ACalls.of_wp Try.func6 rfl (by kernel_rfl) rfl Try.ntmps6 h
set_option maxHeartbeats 4000000 in
theorem lLeast_p (l : List Int) (hl : OkI l) : Pu Try.prog 6 [Is l] (Bo true) := by
  refine Pu.of 4 (lLeast_w ?_)
  obtain ⟨hl1, -⟩ := hl
  simp (disch := omega) [ar, -List.take_append_getElem, lLeast_ac]
  refine Pu.c live7_p ?_
  simp (disch := omega) [ar, -List.take_append_getElem]
  (first | refine Cnd.sp (fun h0 => ?_) fun h0 => ?_ | refine Gd.sp (fun h0 => ?_) fun h0 => ?_) <;> (try simp at h0) <;> (try simp (disch := omega) [ar, -List.take_append_getElem, h0])
  refine Pu.c (mLeast_p l (by omega)) ?_
  simp (disch := omega) [ar, -List.take_append_getElem]
  by_cases hz : l = []
  · simp (disch := omega) [ar, -List.take_append_getElem, hz]
  have hlp := List.length_pos_iff.2 hz
  obtain ⟨hm, hle⟩ := minF_mem hz
  generalize minF l = mv at hm hle ⊢
  obtain ⟨q, hq, hqe⟩ : ∃ q : Nat, whr mv l = q ∧ ∃ h : q < l.length, l[q] = mv ∧ ∀ j (hj : j < q), l[j] ≠ mv := by
    refine ⟨l.idxOf mv, if_pos hm, List.idxOf_lt_length_of_mem hm, List.getElem_idxOf _, fun j hj e => ?_⟩
    have := List.not_of_lt_findIdx (p := (· == mv)) (xs := l) (i := j) (by rw [List.idxOf] at hj; exact hj)
    simp [e] at this
  obtain ⟨hql, hqv, hqn⟩ := hqe
  simp (disch := omega) [ar, -List.take_append_getElem, hz, hq]
  refine Lp.to 0 [] l.length (fun i => True) (fun i => fm 103 [(0, Is l), (3, Bo true), (4, I q), (5, Bo true), (46, Is l), (47, I l.length), (48, I i)]) (fun _ => []) ⟨trivial, by simp⟩ fun i hi _ => ?_
  simp (disch := omega) [ar, -List.take_append_getElem, lLeast_1]
  (first | refine Cnd.sp (fun h1 => ?_) fun h1 => ?_ | refine Gd.sp (fun h1 => ?_) fun h1 => ?_) <;> (try simp at h1) <;> (try simp (disch := omega) [ar, -List.take_append_getElem, h1])
  · have hil : i < l.length := by omega
    have h2 := hle l[i] (List.getElem_mem hil)
    have h3 : ¬ l[i] < l[q] := by rw [hqv]; omega
    have h4 : i < q → ¬ l[i] = l[q] := fun h => by rw [hqv]; exact hqn i h
    simp (disch := omega) [ar, -List.take_append_getElem, h3]
    by_cases h5 : i < q
    · simp (disch := omega) [ar, -List.take_append_getElem, h5, h4 h5]
    · simp (disch := omega) [ar, -List.take_append_getElem, h5]
  · refine Pu.d (args' := [Ls (List.replicate l.length [])]) 0 4 (mord_p (List.replicate l.length []) (by simp; omega) (by simp)) ?_ ?_
    · rw [ordF_none]
      obtain ⟨o, ho⟩ : ∃ o, o = (List.range l.length).map fun (k : Nat) => (k : Int) := ⟨_, rfl⟩
      have hol : o.length = l.length := by rw [ho]; simp
      have hoi : ∀ i (h : i < o.length), o[i] = (i : Int) := fun i h => by simp [ho]
      rw [← ho]
      clear ho
      simp (disch := omega) [ar, -List.take_append_getElem]
      refine Lp.to 0 [] o.length (fun i => True) (fun i => fm 103 [(0, Is l), (3, Bo true), (8, Is o), (9, I 0), (80, Is o), (81, I o.length), (82, I i)]) (fun _ => []) ⟨trivial, by simp⟩ fun i hi _ => ?_
      simp (disch := omega) [ar, -List.take_append_getElem, lLeast_2]
      (first | refine Cnd.sp (fun h2 => ?_) fun h2 => ?_ | refine Gd.sp (fun h2 => ?_) fun h2 => ?_) <;> (try simp at h2) <;> (try simp (disch := omega) [ar, -List.take_append_getElem, h2])
      · have h3 : i < o.length := by omega
        have h4 := hoi i h3
        simp (disch := omega) [ar, -List.take_append_getElem, h4]
    · intro hv
      simp [frz, live?]
      exact .inl (Wks.repl (by simp) _)
end Go.Fw
