/- The document's Both and Walk; whether stops are the same. -/
import Derived.Test.YtkfooghdpfhiaaaFwmrg2
namespace Go.Fw
open Go Go.RowKit Go.Proofs
set_option maxRecDepth 100000
set_option linter.unusedSimpArgs false
set_option linter.unusedVariables false

theorem unionF_len {A : List (List Int)} : (unionF A).1.length ≤ A.flatten.length := by
  unfold unionF
  split
  · exact uni_len _
  · simp
theorem unionF_bad {A : List (List Int)} (h : (unionF A).2 ≠ 0) : unionF A = ([], 1) ∧ bothF A = ([], 1) ∧ walkF A = ([], 1) := by
  unfold unionF at h
  split at h
  · exact absurd rfl h
  · rename_i hr; exact ⟨if_neg hr, if_neg hr, if_neg hr⟩
theorem unionF_good {A : List (List Int)} (h : (unionF A).2 = 0) : unionF A = (uni A.flatten, 0) ∧ bothF A = ((uni A.flatten).filter (fun n => A.all fun l => decide (n ∈ l)), 0) ∧ walkF A = (stops A, 0) := by
  unfold unionF at h
  split at h
  · rename_i hr; exact ⟨if_pos hr, if_pos hr, if_pos hr⟩
  · simp at h
theorem all_take {α : Type} {l : List α} {i : Nat} {p : α → Bool} (h : i < l.length) : (l.take (i + 1)).all p = ((l.take i).all p && p l[i]) := by
  rw [List.take_succ_eq_append_getElem h]; simp [-List.take_append_getElem]
theorem ll_len {A : List (List Int)} {i : Nat} (h : i < A.length) (hF : A.flatten.length ≤ 1000000) : A[i].length ≤ 1000000 := by
  have := (List.sublist_flatten_of_mem (List.getElem_mem h)).length_le; omega
def rBoth_2 : AC := (.seq (.ops [.o 29 (.bin .lss (.t 28) (.t 27))]) (.seq (.cond (.t 29) .skip (.exit 2)) (.seq (.block 3 (.seq (.ops [.o 30 (.iad 1 (.t 26) (.t 28)), .o 31 (.ld 1 false (.t 30)), .m 11 (.t 31)]) (.ops [.m 32 (.t 9), .m 33 (.t 32), .mg 34 33 true (.t 11), .mg 35 33 true (.t 8), .cg 36 33 true false (.f 53) [(.t 34), (.t 35)], .og 37 33 true (.bin .geq (.t 36) (.i 0)), .o 38 (.pick (.t 33) (.t 37) (.b false)), .m 9 (.t 38)]))) (.ops [.o 39 (.bin .add (.t 28) (.i 1)), .m 28 (.t 39)]))))
def rBoth_1 : AC := (.seq (.ops [.o 23 (.bin .lss (.t 22) (.t 21))]) (.seq (.cond (.t 23) .skip (.exit 0)) (.seq (.block 1 (.seq (.ops [.o 24 (.iad 1 (.t 20) (.t 22)), .o 25 (.ld 1 false (.t 24)), .m 8 (.t 25)]) (.seq (.ops [.m 9 (.b true)]) (.seq (.seq (.ops [.m 26 (.t 0), .o 27 (.len (.t 26)), .m 28 (.i 0)]) (.block 2 (.loop rBoth_2))) (.seq (.ops [.m 40 (.t 9)]) (.cond (.t 40) (.ops [.m 41 (.t 6), .m 42 (.t 8), .o 43 (.lit 1 [(.t 42)]), .o 44 (.app 3 1 8 (.t 41) (.t 43)), .m 6 (.t 44)]) .skip)))))) (.ops [.o 45 (.bin .add (.t 22) (.i 1)), .m 22 (.t 45)]))))
def rBoth_ac : AC := (.seq (.ops [.m 2 .z, .m 3 (.i 0)]) (.seq (.ops [.m 13 (.t 0), .c 14 false (.f 23) [(.t 13)], .m 12 (.t 14), .o 15 (.ext (.t 12) 0), .o 16 (.ext (.t 12) 1), .m 4 (.t 15), .m 5 (.t 16)]) (.seq (.seq (.ops [.m 17 (.t 5), .o 18 (.bin .neq (.t 17) (.i 0))]) (.cond (.t 18) (.seq (.ops [.m 19 (.t 5), .m 2 .z, .m 3 (.t 19)]) .ret) .skip)) (.seq (.ops [.m 6 .z]) (.seq (.seq (.ops [.m 20 (.t 4), .o 21 (.len (.t 20)), .m 22 (.i 0)]) (.block 0 (.loop rBoth_1))) (.seq (.ops [.m 46 (.t 6), .m 2 (.t 46), .m 3 (.i 0)]) .ret))))))
theorem rBoth_w {args : List AV} {H : List AObj} {R : AV → List AObj → Prop} (h : wp Try.prog [] H.length rBoth_ac (bodyW [(.t 2), (.t 3)] (Nr R .mk)) (args ++ List.replicate (47 - args.length) .und) H) : ACalls Try.prog 25 args H R :=
  ACalls.of_wp Try.func25 rfl (by kernel_rfl) rfl Try.ntmps25 h
set_option maxHeartbeats 2000000 in
theorem rBoth_p (A : List (List Int)) (hn : A.length ≤ 1000000) (hF : A.flatten.length ≤ 1000000) : Pu Try.prog 25 [Ls A] (.tup [Is (bothF A).1, I (bothF A).2]) := by
  refine Pu.of 4 (rBoth_w ?_)
  simp (disch := omega) [ar, -List.take_append_getElem, rBoth_ac]
  refine Pu.c (rUnion_p A hn hF) ?_
  simp (disch := omega) [ar, -List.take_append_getElem]
  (first | refine Cnd.sp (fun h0 => ?_) fun h0 => ?_ | refine Gd.sp (fun h0 => ?_) fun h0 => ?_) <;> (try simp at h0) <;> (try simp (disch := omega) [ar, -List.take_append_getElem, h0])
  · obtain ⟨e1, e2, _⟩ := unionF_bad (by simpa using h0)
    simp [e1, e2]
  obtain ⟨e1, e2, _⟩ := unionF_good h0
  have hl := unionF_len (A := A)
  rw [e1] at hl
  obtain ⟨U, hU⟩ : ∃ U, uni A.flatten = U := ⟨_, rfl⟩
  rw [hU] at hl e2
  simp only at hl
  obtain ⟨p, hp⟩ : ∃ p : Int → Bool, (fun n => A.all fun l => decide (n ∈ l)) = p := ⟨_, rfl⟩
  rw [hp] at e2
  have hu1 : (unionF A).1 = U := by rw [e1, hU]
  simp (disch := omega) [ar, -List.take_append_getElem, hu1]
  refine Lp.to 1 [(6, 3, 1)] U.length (fun j => True) (fun j => fm 47 [(0, Ls A), (6, .slc 0 ((U.take j).filter p).length 0 ((U.take j).filter p).length none), (20, Is U), (21, I U.length), (22, I j)])
    (fun j => [ow 3 1 (((U.take j).filter p).map I)]) ⟨trivial, by simp [ow]⟩ fun i hi _ => ?_
  simp (disch := omega) [ar, -List.take_append_getElem, rBoth_1]
  (first | refine Cnd.sp (fun h1 => ?_) fun h1 => ?_ | refine Gd.sp (fun h1 => ?_) fun h1 => ?_) <;> (try simp at h1) <;> (try simp (disch := omega) [ar, -List.take_append_getElem, h1])
  · have hil : i < U.length := by omega
    have e : (U.take (i + 1)).filter p = (U.take i).filter p ++ if p U[i] then [U[i]] else [] := by
      rw [List.take_succ_eq_append_getElem hil, List.filter_append, List.filter_cons, List.filter_nil]
    have hl2 := List.length_filter_le p (U.take i)
    rw [List.length_take] at hl2
    rw [e]
    generalize (U.take i).filter p = K at hl2 ⊢
    have hone : allOneCell 1 (K.map I) = true := by simp [allOneCell, okEl, cellsOf, oneC]
    obtain ⟨n, hnn⟩ : ∃ n, U[i] = n := ⟨_, rfl⟩
    have hpn : p n = A.all fun l => decide (n ∈ l) := by rw [← hp]
    rw [hnn]
    refine Lp.to 1 [] A.length (fun m => True) (fun m => fm 47 [(0, Ls A), (6, .slc 0 K.length 0 K.length none), (8, I n), (9, Bo ((A.take m).all fun l => decide (n ∈ l))), (20, Is U), (21, I U.length), (22, I i), (26, Ls A), (27, I A.length), (28, I m)])
      (fun m => [ow 3 1 (K.map I)]) ⟨trivial, by simp⟩ fun m hm _ => ?_
    simp (disch := omega) [ar, -List.take_append_getElem, rBoth_2]
    (first | refine Cnd.sp (fun h2 => ?_) fun h2 => ?_ | refine Gd.sp (fun h2 => ?_) fun h2 => ?_) <;> (try simp at h2) <;> (try simp (disch := omega) [ar, -List.take_append_getElem, h2])
    · have hml : m < A.length := by omega
      have hml2 := ll_len hml hF
      have h4 := all_take (p := fun l => decide (n ∈ l)) hml
      rw [h4]
      generalize ((A.take m).all fun l => decide (n ∈ l)) = b
      cases b
      · simp (disch := omega) [ar, -List.take_append_getElem]
      · simp (disch := omega) [ar, -List.take_append_getElem]
        refine Pu.c (rWhere_p A[m] n (by omega)) ?_
        simp (disch := omega) [ar, -List.take_append_getElem, whr_neg]
    · rw [← hpn]
      clear hpn
      cases p n
      · simp (disch := omega) [ar, -List.take_append_getElem]
      · simp (disch := omega) [ar, -List.take_append_getElem, hone]
  · have h5 : i = U.length := by omega
    subst h5
    simp (disch := omega) [ar, -List.take_append_getElem, e2]
end Go.Fw
