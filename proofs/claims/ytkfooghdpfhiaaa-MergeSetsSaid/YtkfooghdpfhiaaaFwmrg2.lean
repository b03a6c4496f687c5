/- The document's Union. -/
import Derived.Test.YtkfooghdpfhiaaaFwmrg1
namespace Go.Fw
open Go Go.RowKit Go.Proofs
set_option maxRecDepth 100000
set_option linter.unusedSimpArgs false
set_option linter.unusedVariables false

theorem uni_snoc (L : List Int) (n : Int) : uni (L ++ [n]) = insr n (uni L) :=
  uni_eq (rise_uni L).insr fun x => by rw [mem_insr, mem_uni]; simp [or_comm]
theorem insr_in {n : Int} {U : List Int} (hr : Rise U) (h : n ∈ U) : insr n U = U :=
  hr.insr.ext hr fun x => by rw [mem_insr]; constructor; (rintro (rfl | h1); exact h; exact h1); exact .inr
theorem insr_out {n : Int} {U : List Int} (hr : Rise U) (h : n ∉ U) : U.filter (fun m => decide (m < n)) ++ [n] ++ U.filter (fun m => decide (n < m)) = insr n U := by
  refine Rise.ext ?_ hr.insr fun x => ?_
  · refine List.pairwise_append.2 ⟨List.pairwise_append.2 ⟨hr.filter _, by simp, fun x hx y hy => ?_⟩, hr.filter _, fun x hx y hy => ?_⟩
    · rw [List.mem_singleton.1 hy]; simpa using (List.mem_filter.1 hx).2
    · have h2 : n < y := by simpa using (List.mem_filter.1 hy).2
      rcases List.mem_append.1 hx with h1 | h1
      · have h3 : x < n := by simpa using (List.mem_filter.1 h1).2
        omega
      · rw [List.mem_singleton.1 h1]; exact h2
  · rw [mem_insr]
    simp only [List.mem_append, List.mem_filter, List.mem_singleton, decide_eq_true_eq]
    constructor
    · rintro ((h1 | h1) | h1)
      · exact .inr h1.1
      · exact .inl h1
      · exact .inr h1.1
    · rintro (h1 | h1)
      · exact .inl (.inr h1)
      · rcases Int.lt_trichotomy x n with h2 | h2 | h2
        · exact .inl (.inl ⟨h1, h2⟩)
        · subst h2; exact absurd h1 h
        · exact .inr ⟨h1, h2⟩
def rEqual_1 : AC := (.seq (.ops [.o 14 (.bin .lss (.t 13) (.t 12))]) (.seq (.cond (.t 14) .skip (.exit 0)) (.seq (.block 1 (.seq (.ops [.m 15 (.t 13), .m 5 (.t 15)]) (.seq (.ops [.m 16 (.t 0), .m 17 (.t 5), .o 18 (.iad 1 (.t 16) (.t 17)), .o 19 (.ld 1 false (.t 18)), .m 20 (.t 1), .m 21 (.t 5), .o 22 (.iad 1 (.t 20) (.t 21)), .o 23 (.ld 1 false (.t 22)), .o 24 (.bin .neq (.t 19) (.t 23))]) (.cond (.t 24) (.seq (.ops [.m 4 (.b false)]) .ret) .skip)))) (.ops [.o 25 (.bin .add (.t 13) (.i 1)), .m 13 (.t 25)]))))
def rEqual_ac : AC := (.seq (.ops [.m 4 (.b false)]) (.seq (.seq (.ops [.m 6 (.t 0), .o 7 (.len (.t 6)), .m 8 (.t 1), .o 9 (.len (.t 8)), .o 10 (.bin .neq (.t 7) (.t 9))]) (.cond (.t 10) (.seq (.ops [.m 4 (.b false)]) .ret) .skip)) (.seq (.seq (.ops [.m 11 (.t 0), .o 12 (.len (.t 11)), .m 13 (.i 0)]) (.block 0 (.loop rEqual_1))) (.seq (.ops [.m 4 (.b true)]) .ret))))
theorem rEqual_w {args : List AV} {H : List AObj} {R : AV → List AObj → Prop} (h : wp Try.prog [] H.length rEqual_ac (bodyW [(.t 4)] (Nr R .mk)) (args ++ List.replicate (26 - args.length) .und) H) : ACalls Try.prog 27 args H R :=
  ACalls.of_wp Try.func27 rfl (by kernel_rfl) rfl Try.ntmps27 h
theorem rEqual_p (a b : List Int) (ha : a.length ≤ 1000000000) (hb : b.length ≤ 1000000000) : Pu Try.prog 27 [Is a, Is b] (Bo (decide (a = b))) := by
  refine Pu.of 4 (rEqual_w ?_)
  simp (disch := omega) [ar, -List.take_append_getElem, rEqual_ac]
  (first | refine Cnd.sp (fun h1 => ?_) fun h1 => ?_ | refine Gd.sp (fun h1 => ?_) fun h1 => ?_) <;> (try simp at h1) <;> (try simp (disch := omega) [ar, -List.take_append_getElem, h1])
  · intro e; subst e; exact h1 rfl
  · refine Lp.to 0 [] a.length (fun i => a.take i = b.take i) (fun i => fm 26 [(0, Is a), (1, Is b), (11, Is a), (12, I a.length), (13, I i)]) (fun _ => []) ⟨by simp, by simp [h1]⟩ fun i hi hJ => ?_
    simp (disch := omega) [ar, -List.take_append_getElem, rEqual_1]
    (first | refine Cnd.sp (fun h2 => ?_) fun h2 => ?_ | refine Gd.sp (fun h2 => ?_) fun h2 => ?_) <;> (try simp at h2) <;> (try simp (disch := omega) [ar, -List.take_append_getElem, h2])
    · have h3 : i < b.length := by omega
      have h4 : i < a.length := by omega
      (first | refine Cnd.sp (fun h5 => ?_) fun h5 => ?_ | refine Gd.sp (fun h5 => ?_) fun h5 => ?_) <;> (try simp at h5) <;> (try simp (disch := omega) [ar, -List.take_append_getElem, h5])
      · intro e; subst e; exact h5 rfl
      · exact hJ
    · rw [List.take_of_length_le (by omega), List.take_of_length_le (by omega)] at hJ; exact hJ
def rAll_1 : AC := (.seq (.ops [.o 8 (.bin .lss (.t 7) (.t 6))]) (.seq (.cond (.t 8) .skip (.exit 0)) (.seq (.block 1 (.seq (.ops [.o 9 (.iad 1 (.t 5) (.t 7)), .o 10 (.ld 1 false (.t 9)), .m 4 (.t 10)]) (.seq (.ops [.m 11 (.t 4), .c 12 false (.f 21) [(.t 11)], .o 13 (.un .not (.t 12))]) (.cond (.t 13) (.seq (.ops [.m 2 (.b false)]) .ret) .skip)))) (.ops [.o 14 (.bin .add (.t 7) (.i 1)), .m 7 (.t 14)]))))
def rAll_ac : AC := (.seq (.ops [.m 2 (.b false)]) (.seq (.seq (.ops [.m 5 (.t 0), .o 6 (.len (.t 5)), .m 7 (.i 0)]) (.block 0 (.loop rAll_1))) (.seq (.ops [.m 2 (.b true)]) .ret)))
theorem rAll_w {args : List AV} {H : List AObj} {R : AV → List AObj → Prop} (h : wp Try.prog [] H.length rAll_ac (bodyW [(.t 2)] (Nr R .mk)) (args ++ List.replicate (15 - args.length) .und) H) : ACalls Try.prog 52 args H R :=
  ACalls.of_wp Try.func52 rfl (by kernel_rfl) rfl Try.ntmps52 h
theorem rAll_p (A : List (List Int)) (hn : A.length ≤ 1000000) (hF : A.flatten.length ≤ 1000000) : Pu Try.prog 52 [Ls A] (Bo (decide (∀ l ∈ A, Rise l))) := by
  refine Pu.of 4 (rAll_w ?_)
  simp (disch := omega) [ar, -List.take_append_getElem, rAll_ac]
  refine Lp.to 0 [] A.length (fun i => ∀ l ∈ A.take i, Rise l) (fun i => fm 15 [(5, Ls A), (6, I A.length), (7, I i)]) (fun _ => []) ⟨by simp, by simp⟩ fun i hi hr => ?_
  simp (disch := omega) [ar, -List.take_append_getElem, rAll_1]
  (first | refine Cnd.sp (fun h1 => ?_) fun h1 => ?_ | refine Gd.sp (fun h1 => ?_) fun h1 => ?_) <;> (try simp at h1) <;> (try simp (disch := omega) [ar, -List.take_append_getElem, h1])
  · have hil : i < A.length := by omega
    have hlA : A[i] ∈ A := List.getElem_mem hil
    have hll : A[i].length ≤ 1000000 := by have := (List.sublist_flatten_of_mem hlA).length_le; omega
    refine Pu.c (rRises_p A[i] (by omega)) ?_
    simp (disch := omega) [ar, -List.take_append_getElem]
    (first | refine Cnd.sp (fun h2 => ?_) fun h2 => ?_ | refine Gd.sp (fun h2 => ?_) fun h2 => ?_) <;> (try simp at h2) <;> (try simp (disch := omega) [ar, -List.take_append_getElem, h2])
    · exact ⟨A[i], hlA, h2⟩
    · intro x hx
      rcases hx with h | h
      · exact hr x h
      · rw [h]; exact h2
  · obtain rfl : i = A.length := by omega
    intro l hl
    exact hr l (by rw [List.take_of_length_le (Nat.le_refl _)]; exact hl)
theorem flatn_at {A : List (List Int)} {i : Nat} (h : i < A.length) : (A.take i).flatten.length + A[i].length ≤ A.flatten.length := by
  have e : A = A.take i ++ A[i] :: A.drop (i + 1) := by simp
  have e2 : A.flatten.length = (A.take i ++ A[i] :: A.drop (i + 1)).flatten.length := congrArg (fun L => L.flatten.length) e
  rw [List.flatten_append, List.flatten_cons, List.length_append, List.length_append] at e2
  omega
def rUnion_3 : AC := (.seq (.ops [.o 36 (.bin .lss (.t 35) (.t 34))]) (.seq (.cond (.t 36) .skip (.exit 4)) (.seq (.block 5 (.seq (.ops [.o 37 (.iad 1 (.t 33) (.t 35)), .o 38 (.ld 1 false (.t 37)), .m 11 (.t 38)]) (.seq (.ops [.m 39 (.t 11), .m 40 (.t 8), .o 41 (.bin .lss (.t 39) (.t 40))]) (.cond (.t 41) (.ops [.m 42 (.t 9), .m 43 (.t 11), .o 44 (.lit 1 [(.t 43)]), .o 45 (.app 3 1 8 (.t 42) (.t 44)), .m 9 (.t 45)]) .skip)))) (.ops [.o 46 (.bin .add (.t 35) (.i 1)), .m 35 (.t 46)]))))
def rUnion_4 : AC := (.seq (.ops [.o 54 (.bin .lss (.t 53) (.t 52))]) (.seq (.cond (.t 54) .skip (.exit 6)) (.seq (.block 7 (.seq (.ops [.o 55 (.iad 1 (.t 51) (.t 53)), .o 56 (.ld 1 false (.t 55)), .m 13 (.t 56)]) (.seq (.ops [.m 57 (.t 13), .m 58 (.t 8), .o 59 (.bin .gtr (.t 57) (.t 58))]) (.cond (.t 59) (.ops [.m 60 (.t 9), .m 61 (.t 13), .o 62 (.lit 1 [(.t 61)]), .o 63 (.app 3 1 8 (.t 60) (.t 62)), .m 9 (.t 63)]) .skip)))) (.ops [.o 64 (.bin .add (.t 53) (.i 1)), .m 53 (.t 64)]))))
def rUnion_2 : AC := (.seq (.ops [.o 26 (.bin .lss (.t 25) (.t 24))]) (.seq (.cond (.t 26) .skip (.exit 2)) (.seq (.block 3 (.seq (.ops [.o 27 (.iad 1 (.t 23) (.t 25)), .o 28 (.ld 1 false (.t 27)), .m 8 (.t 28)]) (.seq (.seq (.ops [.m 29 (.t 4), .m 30 (.t 8), .c 31 false (.f 53) [(.t 29), (.t 30)], .o 32 (.bin .geq (.t 31) (.i 0))]) (.cond (.t 32) (.exit 3) .skip)) (.seq (.ops [.m 9 .z]) (.seq (.seq (.ops [.m 33 (.t 4), .o 34 (.len (.t 33)), .m 35 (.i 0)]) (.block 4 (.loop rUnion_3))) (.seq (.ops [.m 47 (.t 9), .m 48 (.t 8), .o 49 (.lit 1 [(.t 48)]), .o 50 (.app 3 1 8 (.t 47) (.t 49)), .m 9 (.t 50)]) (.seq (.seq (.ops [.m 51 (.t 4), .o 52 (.len (.t 51)), .m 53 (.i 0)]) (.block 6 (.loop rUnion_4))) (.ops [.m 65 (.t 9), .m 4 (.t 65)])))))))) (.ops [.o 66 (.bin .add (.t 25) (.i 1)), .m 25 (.t 66)]))))
def rUnion_1 : AC := (.seq (.ops [.o 20 (.bin .lss (.t 19) (.t 18))]) (.seq (.cond (.t 20) .skip (.exit 0)) (.seq (.block 1 (.seq (.ops [.o 21 (.iad 1 (.t 17) (.t 19)), .o 22 (.ld 1 false (.t 21)), .m 6 (.t 22)]) (.seq (.ops [.m 23 (.t 6), .o 24 (.len (.t 23)), .m 25 (.i 0)]) (.block 2 (.loop rUnion_2))))) (.ops [.o 67 (.bin .add (.t 19) (.i 1)), .m 19 (.t 67)]))))
def rUnion_ac : AC := (.seq (.ops [.m 2 .z, .m 3 (.i 0)]) (.seq (.seq (.ops [.m 14 (.t 0), .c 15 false (.f 52) [(.t 14)], .o 16 (.un .not (.t 15))]) (.cond (.t 16) (.seq (.ops [.m 2 .z, .m 3 (.i 1)]) .ret) .skip)) (.seq (.ops [.m 4 .z]) (.seq (.seq (.ops [.m 17 (.t 0), .o 18 (.len (.t 17)), .m 19 (.i 0)]) (.block 0 (.loop rUnion_1))) (.seq (.ops [.m 68 (.t 4), .m 2 (.t 68), .m 3 (.i 0)]) .ret)))))
theorem rUnion_w {args : List AV} {H : List AObj} {R : AV → List AObj → Prop} (h : wp Try.prog [] H.length rUnion_ac (bodyW [(.t 2), (.t 3)] (Nr R .mk)) (args ++ List.replicate (69 - args.length) .und) H) : ACalls Try.prog 23 args H R :=
  ACalls.of_wp Try.func23 rfl (by kernel_rfl) rfl Try.ntmps23 h
set_option maxHeartbeats 2000000 in
theorem rUnion_p (A : List (List Int)) (hn : A.length ≤ 1000000) (hF : A.flatten.length ≤ 1000000) : Pu Try.prog 23 [Ls A] (.tup [Is (unionF A).1, I (unionF A).2]) := by
  refine Pu.of 4 (rUnion_w ?_)
  simp (disch := omega) [ar, -List.take_append_getElem, rUnion_ac]
  refine Pu.c (rAll_p A hn hF) ?_
  simp (disch := omega) [ar, -List.take_append_getElem]
  (first | refine Cnd.sp (fun h0 => ?_) fun h0 => ?_ | refine Gd.sp (fun h0 => ?_) fun h0 => ?_) <;> (try simp at h0) <;> (try simp (disch := omega) [ar, -List.take_append_getElem, h0])
  · have e : unionF A = ([], 1) := if_neg (by simpa using h0)
    simp [e]
  have e0 : unionF A = (uni A.flatten, 0) := if_pos h0
  refine Lp.to 0 [] A.length (fun i => True) (fun i => fm 69 [(0, Ls A), (4, Is (uni (A.take i).flatten)), (17, Ls A), (18, I A.length), (19, I i)]) (fun _ => []) ⟨trivial, by simp [uni]⟩ fun i hi _ => ?_
  simp (disch := omega) [ar, -List.take_append_getElem, rUnion_1]
  (first | refine Cnd.sp (fun h1 => ?_) fun h1 => ?_ | refine Gd.sp (fun h1 => ?_) fun h1 => ?_) <;> (try simp at h1) <;> (try simp (disch := omega) [ar, -List.take_append_getElem, h1])
  · have hil : i < A.length := by omega
    have hlA : A[i] ∈ A := List.getElem_mem hil
    have hll : (A.take i).flatten.length + A[i].length ≤ 1000000 := by have := flatn_at hil; omega
    obtain ⟨l, hl⟩ : ∃ l, A[i] = l := ⟨_, rfl⟩
    obtain ⟨B, hB⟩ : ∃ B, (A.take i).flatten = B := ⟨_, rfl⟩
    have hBl : (A.take (i + 1)).flatten = B ++ l := by rw [List.take_succ_eq_append_getElem hil]; simp [hB, hl]
    rw [hl, hB] at hll
    rw [hBl, hB]
    simp (disch := omega) [ar, -List.take_append_getElem, hl]
    refine Lp.to 0 [] l.length (fun m => True) (fun m => fm 69 [(0, Ls A), (4, Is (uni (B ++ l.take m))), (17, Ls A), (18, I A.length), (19, I i), (23, Is l), (24, I l.length), (25, I m)]) (fun _ => []) ⟨trivial, by simp⟩ fun m hm _ => ?_
    simp (disch := omega) [ar, -List.take_append_getElem, rUnion_2]
    (first | refine Cnd.sp (fun h2 => ?_) fun h2 => ?_ | refine Gd.sp (fun h2 => ?_) fun h2 => ?_) <;> (try simp at h2) <;> (try simp (disch := omega) [ar, -List.take_append_getElem, h2])
    · have hml : m < l.length := by omega
      obtain ⟨n, hnn⟩ : ∃ n, l[m] = n := ⟨_, rfl⟩
      obtain ⟨U, hU⟩ : ∃ U, uni (B ++ l.take m) = U := ⟨_, rfl⟩
      have hr : Rise U := by rw [← hU]; exact rise_uni _
      have hUl : U.length ≤ 1000000 := by
        rw [← hU]; have := uni_len (B ++ l.take m); simp at this; omega
      have hU2 : uni (B ++ l.take (m + 1)) = insr n U := by
        rw [List.take_succ_eq_append_getElem hml, hnn, ← List.append_assoc, uni_snoc, hU]
      rw [hU2, hU]
      simp (disch := omega) [ar, -List.take_append_getElem, hnn]
      refine Pu.c (rWhere_p U n (by omega)) ?_
      simp (disch := omega) [ar, -List.take_append_getElem, hnn]
      (first | refine Cnd.sp (fun h3 => ?_) fun h3 => ?_ | refine Gd.sp (fun h3 => ?_) fun h3 => ?_) <;> (try simp at h3) <;> (try simp (disch := omega) [ar, -List.take_append_getElem, h3])
      · have h4 := insr_in hr (whr_neg.1 h3)
        simp (disch := omega) [ar, -List.take_append_getElem, h4]
      · have h3' : n ∉ U := fun h => by have := whr_neg.2 h; omega
        have h4 := insr_out hr h3'
        obtain ⟨U1, hU1⟩ : ∃ U1, U.filter (fun m => decide (m < n)) = U1 := ⟨_, rfl⟩
        have hU1l : U1.length ≤ U.length := by rw [← hU1]; exact List.length_filter_le _ _
        refine Lp.to 1 [(9, 3, 1)] U.length (fun j => True) (fun j => fm 69 [(0, Ls A), (4, Is U), (8, I n), (9, .slc 0 ((U.take j).filter (fun m => decide (m < n))).length 0 ((U.take j).filter (fun m => decide (m < n))).length none), (17, Ls A), (18, I A.length), (19, I i), (23, Is l), (24, I l.length), (25, I m), (33, Is U), (34, I U.length), (35, I j)])
          (fun j => [ow 3 1 (((U.take j).filter (fun m => decide (m < n))).map I)]) ⟨trivial, by simp [ow]⟩ fun j hj _ => ?_
        simp (disch := omega) [ar, -List.take_append_getElem, rUnion_3]
        (first | refine Cnd.sp (fun h5 => ?_) fun h5 => ?_ | refine Gd.sp (fun h5 => ?_) fun h5 => ?_) <;> (try simp at h5) <;> (try simp (disch := omega) [ar, -List.take_append_getElem, h5])
        · have hjl : j < U.length := by omega
          have e : (U.take (j + 1)).filter (fun m => decide (m < n)) = (U.take j).filter (fun m => decide (m < n)) ++ if U[j] < n then [U[j]] else [] := by
            rw [List.take_succ_eq_append_getElem hjl, List.filter_append, List.filter_cons, List.filter_nil]; simp
          have hl2 := List.length_filter_le (fun m => decide (m < n)) (U.take j)
          rw [List.length_take] at hl2
          rw [e]
          generalize (U.take j).filter (fun m => decide (m < n)) = K at hl2 ⊢
          have hone : allOneCell 1 (K.map I) = true := by simp [allOneCell, okEl, cellsOf, oneC]
          (first | refine Cnd.sp (fun h6 => ?_) fun h6 => ?_ | refine Gd.sp (fun h6 => ?_) fun h6 => ?_) <;> (try simp at h6) <;> (try simp (disch := omega) [ar, -List.take_append_getElem, h6, hone])
        · simp (disch := omega) [ar, -List.take_append_getElem, hU1]
          refine Lp.to 1 [] U.length (fun j => True) (fun j => fm 69 [(0, Ls A), (8, I n), (9, .slc 0 (U1 ++ [n] ++ (U.take j).filter (fun m => decide (n < m))).length 0 (U1 ++ [n] ++ (U.take j).filter (fun m => decide (n < m))).length none), (17, Ls A), (18, I A.length), (19, I i), (23, Is l), (24, I l.length), (25, I m), (51, Is U), (52, I U.length), (53, I j)])
            (fun j => [ow 3 1 ((U1 ++ [n] ++ (U.take j).filter (fun m => decide (n < m))).map I)]) ⟨trivial, by simp [ow]⟩ fun q hq _ => ?_
          simp (disch := omega) [ar, -List.take_append_getElem, rUnion_4]
          (first | refine Cnd.sp (fun h7 => ?_) fun h7 => ?_ | refine Gd.sp (fun h7 => ?_) fun h7 => ?_) <;> (try simp at h7) <;> (try simp (disch := omega) [ar, -List.take_append_getElem, h7])
          · have hjl : q < U.length := by omega
            have e : (U.take (q + 1)).filter (fun m => decide (n < m)) = (U.take q).filter (fun m => decide (n < m)) ++ if n < U[q] then [U[q]] else [] := by
              rw [List.take_succ_eq_append_getElem hjl, List.filter_append, List.filter_cons, List.filter_nil]; simp
            have hl2 := List.length_filter_le (fun m => decide (n < m)) (U.take q)
            rw [List.length_take] at hl2
            rw [e]
            generalize (U.take q).filter (fun m => decide (n < m)) = K at hl2 ⊢
            have hone : allOneCell 1 (U1.map I ++ I n :: K.map I) = true := by simp [allOneCell, okEl, cellsOf, oneC]
            (first | refine Cnd.sp (fun h6 => ?_) fun h6 => ?_ | refine Gd.sp (fun h6 => ?_) fun h6 => ?_) <;> (try simp at h6) <;> (try simp (disch := omega) [ar, -List.take_append_getElem, h6, hone])
          · rw [← h4, hU1]
            simp
  · have h5 : i = A.length := by omega
    subst h5
    simp [e0]
end Go.Fw
