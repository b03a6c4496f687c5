/- What is looked for in lists; picking out of stops. -/
import Derived.Test.YtkfooghdpfhiaaaFwwlk3
namespace Go.Fw
open Go Go.RowKit Go.Proofs
set_option maxRecDepth 100000
set_option linter.unusedSimpArgs false
set_option linter.unusedVariables false

@[simp] theorem fz_If {α : Type} {H : List AObj} {k n : Nat} {b : Bool} (f : α → Int) : (fz H k n b ∘ fun x => I (f x)) = fun x => I (f x) := by funext x; exact fz_sc _
def rWhere_1 : AC := (.seq (.ops [.o 10 (.bin .lss (.t 9) (.t 8))]) (.seq (.cond (.t 10) .skip (.exit 0)) (.seq (.block 1 (.seq (.ops [.m 11 (.t 9), .o 12 (.iad 1 (.t 7) (.t 9)), .o 13 (.ld 1 false (.t 12)), .m 5 (.t 11), .m 6 (.t 13)]) (.seq (.ops [.m 14 (.t 6), .m 15 (.t 1), .o 16 (.bin .eql (.t 14) (.t 15))]) (.cond (.t 16) (.seq (.ops [.m 17 (.t 5), .m 4 (.t 17)]) .ret) .skip)))) (.ops [.o 18 (.bin .add (.t 9) (.i 1)), .m 9 (.t 18)]))))
def rWhere_ac : AC := (.seq (.ops [.m 4 (.i 0)]) (.seq (.seq (.ops [.m 7 (.t 0), .o 8 (.len (.t 7)), .m 9 (.i 0)]) (.block 0 (.loop rWhere_1))) (.seq (.ops [.m 4 (.i (-1))]) .ret)))
theorem rWhere_w {args : List AV} {H : List AObj} {R : AV → List AObj → Prop} (h : wp Try.prog [] H.length rWhere_ac (bodyW [(.t 4)] (Nr R .mk)) (args ++ List.replicate (19 - args.length) .und) H) : ACalls Try.prog 53 args H R :=
  ACalls.of_wp Try.func53 rfl (by kernel_rfl) rfl Try.ntmps53 h
theorem rWhere_p (l : List Int) (n : Int) (hl : l.length ≤ 1000000000) : Pu Try.prog 53 [Is l, I n] (I (whr n l)) := by
  refine Pu.of 4 (rWhere_w ?_)
  simp (disch := omega) [ar, -List.take_append_getElem, rWhere_ac]
  refine Lp.to 0 [] l.length (fun i => n ∉ l.take i) (fun i => fm 19 [(1, I n), (7, Is l), (8, I l.length), (9, I i)]) (fun _ => []) ⟨by simp, by simp⟩ fun i hi hJ => ?_
  simp (disch := omega) [ar, -List.take_append_getElem, rWhere_1]
  (first | refine Cnd.sp (fun h1 => ?_) fun h1 => ?_ | refine Gd.sp (fun h1 => ?_) fun h1 => ?_) <;> (try simp at h1) <;> (try simp (disch := omega) [ar, -List.take_append_getElem, h1])
  · have h3 : i < l.length := by omega
    (first | refine Cnd.sp (fun h4 => ?_) fun h4 => ?_ | refine Gd.sp (fun h4 => ?_) fun h4 => ?_) <;> (try simp at h4) <;> (try simp (disch := omega) [ar, -List.take_append_getElem, h4])
    · exact whr_found h3 h4 hJ
    · exact hJ
  · exact whr_none (by rw [List.take_of_length_le (by omega)] at hJ; exact hJ)
def sIndex_1 : AC := (.seq (.ops [.o 9 (.bin .lss (.t 8) (.t 7))]) (.seq (.cond (.t 9) .skip (.exit 0)) (.seq (.block 1 (.seq (.ops [.m 10 (.t 8), .m 5 (.t 10)]) (.seq (.ops [.m 11 (.t 1), .m 12 (.t 0), .m 13 (.t 5), .o 14 (.iad 1 (.t 12) (.t 13)), .o 15 (.ld 1 false (.t 14)), .o 16 (.bin .eql (.t 11) (.t 15))]) (.cond (.t 16) (.seq (.ops [.m 17 (.t 5), .m 4 (.t 17)]) .ret) .skip)))) (.ops [.o 18 (.bin .add (.t 8) (.i 1)), .m 8 (.t 18)]))))
def sIndex_ac : AC := (.seq (.ops [.m 4 (.i 0)]) (.seq (.seq (.ops [.m 6 (.t 0), .o 7 (.len (.t 6)), .m 8 (.i 0)]) (.block 0 (.loop sIndex_1))) (.seq (.ops [.m 4 (.i (-1))]) .ret)))
theorem sIndex_w {args : List AV} {H : List AObj} {R : AV → List AObj → Prop} (h : wp Try.prog [] H.length sIndex_ac (bodyW [(.t 4)] (Nr R .mk)) (args ++ List.replicate (19 - args.length) .und) H) : ACalls Try.prog 48 args H R :=
  ACalls.of_wp Try.func48 rfl (by kernel_rfl) rfl Try.ntmps48 h
theorem sIndex_p (l : List Int) (n : Int) (hl : l.length ≤ 1000000000) : Pu Try.prog 48 [Is l, I n] (I (whr n l)) := by
  refine Pu.of 4 (sIndex_w ?_)
  simp (disch := omega) [ar, -List.take_append_getElem, sIndex_ac]
  refine Lp.to 0 [] l.length (fun i => n ∉ l.take i) (fun i => fm 19 [(0, Is l), (1, I n), (7, I l.length), (8, I i)]) (fun _ => []) ⟨by simp, by simp⟩ fun i hi hJ => ?_
  simp (disch := omega) [ar, -List.take_append_getElem, sIndex_1]
  (first | refine Cnd.sp (fun h1 => ?_) fun h1 => ?_ | refine Gd.sp (fun h1 => ?_) fun h1 => ?_) <;> (try simp at h1) <;> (try simp (disch := omega) [ar, -List.take_append_getElem, h1])
  · have h3 : i < l.length := by omega
    (first | refine Cnd.sp (fun h4 => ?_) fun h4 => ?_ | refine Gd.sp (fun h4 => ?_) fun h4 => ?_) <;> (try simp at h4) <;> (try simp (disch := omega) [ar, -List.take_append_getElem, h4])
    · subst h4; exact whr_found h3 rfl hJ
    · exact hJ
  · exact whr_none (by rw [List.take_of_length_le (by omega)] at hJ; exact hJ)
def sContains_ac : AC := (.seq (.ops [.m 4 (.b false)]) (.seq (.ops [.m 5 (.t 0), .m 6 (.t 1), .c 7 false (.f 48) [(.t 5), (.t 6)], .o 8 (.bin .geq (.t 7) (.i 0)), .m 4 (.t 8)]) .ret))
theorem sContains_w {args : List AV} {H : List AObj} {R : AV → List AObj → Prop} (h : wp Try.prog [] H.length sContains_ac (bodyW [(.t 4)] (Nr R .mk)) (args ++ List.replicate (9 - args.length) .und) H) : ACalls Try.prog 55 args H R :=
  ACalls.of_wp Try.func55 rfl (by kernel_rfl) rfl Try.ntmps55 h
theorem sContains_p (l : List Int) (n : Int) (hl : l.length ≤ 1000000000) : Pu Try.prog 55 [Is l, I n] (Bo (decide (n ∈ l))) := by
  refine Pu.of 4 (sContains_w ?_)
  simp (disch := omega) [ar, -List.take_append_getElem, sContains_ac]
  refine Pu.c (sIndex_p l n hl) ?_
  simp (disch := omega) [ar, -List.take_append_getElem]
  exact whr_neg.symm
def mUnion1_ac : AC := (.seq (.ops [.o 1 (.new 37 2 (.t 0)), .m 2 (.b false)]) (.seq (.ops [.m 2 (.b true)]) .ret))
theorem mUnion1_w {args : List AV} {H : List AObj} {R : AV → List AObj → Prop} (h : wp Try.prog [] H.length mUnion1_ac (bodyW [(.t 2)] (Nr R .mk)) (args ++ List.replicate (3 - args.length) .und) H) : ACalls Try.prog 51 args H R :=
  ACalls.of_wp Try.func51 rfl (by kernel_rfl) rfl Try.ntmps51 h
theorem mUnion1_p (st : Int × List Int) : Pu Try.prog 51 [stopV st] (Bo true) := by
  refine Pu.of 4 (mUnion1_w ?_)
  simp (disch := omega) [ar, -List.take_append_getElem, mUnion1_ac]
def mBoth1_ac : AC := (.seq (.ops [.o 1 (.new 37 2 (.t 0)), .m 2 (.b false)]) (.seq (.ops [.o 3 (.fad 1 (.t 1)), .o 4 (.ld 1 false (.t 3)), .c 5 false (.f 55) [(.t 4), (.i (-1))], .o 6 (.un .not (.t 5)), .m 2 (.t 6)]) .ret))
theorem mBoth1_w {args : List AV} {H : List AObj} {R : AV → List AObj → Prop} (h : wp Try.prog [] H.length mBoth1_ac (bodyW [(.t 2)] (Nr R .mk)) (args ++ List.replicate (7 - args.length) .und) H) : ACalls Try.prog 54 args H R :=
  ACalls.of_wp Try.func54 rfl (by kernel_rfl) rfl Try.ntmps54 h
theorem mBoth1_p (st : Int × List Int) (h : st.2.length ≤ 1000000000) : Pu Try.prog 54 [stopV st] (Bo (decide (-1 ∉ st.2))) := by
  refine Pu.of 4 (mBoth1_w ?_)
  simp (disch := omega) [ar, -List.take_append_getElem, mBoth1_ac]
  refine Pu.c (sContains_p st.2 (-1) h) ?_
  simp (disch := omega) [ar, -List.take_append_getElem]
def mAt_1 : AC := (.seq (.ops [.o 11 (.bin .lss (.t 10) (.t 9))]) (.seq (.cond (.t 11) .skip (.exit 0)) (.seq (.block 1 (.seq (.ops [.o 12 (.iad 2 (.t 8) (.t 10)), .o 13 (.ld 2 true (.t 12)), .o 7 (.new 37 2 (.c (.agg [(.sc (.int .i64 0)), nil0]))), .on (.st 2 (.t 7) (.t 13))]) (.seq (.ops [.m 14 (.t 1), .o 15 (.ld 2 true (.t 7)), .c 16 false (.t 14) [(.t 15)]]) (.cond (.t 16) (.ops [.m 17 (.t 5), .o 18 (.fad 0 (.t 7)), .o 19 (.ld 1 false (.t 18)), .o 20 (.lit 1 [(.t 19)]), .o 21 (.app 3 1 8 (.t 17) (.t 20)), .m 5 (.t 21)]) .skip)))) (.ops [.o 22 (.bin .add (.t 10) (.i 1)), .m 10 (.t 22)]))))
def mAt_ac : AC := (.seq (.ops [.m 4 .z]) (.seq (.ops [.m 5 .z]) (.seq (.seq (.ops [.m 8 (.t 0), .o 9 (.len (.t 8)), .m 10 (.i 0)]) (.block 0 (.loop mAt_1))) (.seq (.ops [.m 23 (.t 5), .m 4 (.t 23)]) .ret))))
theorem mAt_w {args : List AV} {H : List AObj} {R : AV → List AObj → Prop} (h : wp Try.prog [] H.length mAt_ac (bodyW [(.t 4)] (Nr R .mk)) (args ++ List.replicate (24 - args.length) .und) H) : ACalls Try.prog 50 args H R :=
  ACalls.of_wp Try.func50 rfl (by kernel_rfl) rfl Try.ntmps50 h
theorem mAt_p (S : List (Int × List Int)) (g : FuncId) (p : Int × List Int → Bool) (hS : S.length ≤ 1000000) (hg : ∀ st ∈ S, Pu Try.prog g [stopV st] (Bo (p st))) : Pu Try.prog 50 [Ss S, .fn (.func g) [] []] (Is ((S.filter p).map (·.1))) := by
  refine Pu.of 4 (mAt_w ?_)
  simp (disch := omega) [ar, -List.take_append_getElem, mAt_ac]
  refine Lp.to 1 [(5, 3, 1)] S.length (fun i => True) (fun i => fm 24 [(1, .fn (.func g) [] []), (5, .slc 0 ((S.take i).filter p).length 0 ((S.take i).filter p).length none), (8, Ss S), (9, I S.length), (10, I i)]) (fun i => [ow 3 1 (((S.take i).filter p).map fun st => I st.1)]) ⟨trivial, by simp [ow]⟩ fun i hi _ => ?_
  simp (disch := omega) [ar, -List.take_append_getElem, mAt_1]
  (first | refine Cnd.sp (fun h1 => ?_) fun h1 => ?_ | refine Gd.sp (fun h1 => ?_) fun h1 => ?_) <;> (try simp at h1) <;> (try simp (disch := omega) [ar, -List.take_append_getElem, h1])
  · have h3 : i < S.length := by omega
    refine Pu.c (hg S[i] (List.getElem_mem h3)) ?_
    have e : (S.take (i + 1)).filter p = (S.take i).filter p ++ if p S[i] then [S[i]] else [] := by
      rw [List.take_succ_eq_append_getElem h3, List.filter_append, List.filter_cons, List.filter_nil]
    have hl := List.length_filter_le p (S.take i)
    rw [List.length_take] at hl
    obtain ⟨L, hL⟩ : ∃ L, L = (S.take i).filter p := ⟨_, rfl⟩
    have hone : allOneCell 1 (L.map fun st => I st.1) = true := by simp [allOneCell, okEl, cellsOf, oneC]
    rw [e]
    rw [← hL] at hl ⊢
    cases hp : p S[i]
    · simp (disch := omega) [ar, -List.take_append_getElem]
    · simp (disch := omega) [ar, -List.take_append_getElem, hone]
  · obtain rfl : S.length = i := by omega
    exact .inl (Wks.refl _)
def unionF (A : List (List Int)) : List Int × Int := if ∀ l ∈ A, Rise l then (uni A.flatten, 0) else ([], 1)
def bothF (A : List (List Int)) : List Int × Int := if ∀ l ∈ A, Rise l then ((uni A.flatten).filter (fun n => A.all fun l => decide (n ∈ l)), 0) else ([], 1)
theorem walkF_len {A : List (List Int)} : (walkF A).1.length ≤ A.flatten.length := by
  unfold walkF
  split
  · simp only [stops, List.length_map]; exact uni_len _
  · simp
theorem stops_all {A : List (List Int)} : ((stops A).filter (fun _ => true)).map (·.1) = uni A.flatten := by
  rw [List.filter_eq_self.2 (by simp), stops_fst]
theorem stops_both {A : List (List Int)} : ((stops A).filter (fun st => decide (-1 ∉ st.2))).map (·.1) = (uni A.flatten).filter (fun n => A.all fun l => decide (n ∈ l)) := by
  simp only [stops, List.filter_map, List.map_map]
  have e : ((fun st : Int × List Int => st.1) ∘ fun n => (n, A.map (whr n))) = id := by funext n; rfl
  rw [e, List.map_id]
  apply List.filter_congr
  intro n _
  simp only [Function.comp]
  rw [Bool.eq_iff_iff]
  simp only [decide_eq_true_eq, List.all_eq_true, List.mem_map, not_exists, not_and]
  constructor
  · intro h l hl
    refine Classical.byContradiction fun hn => h l hl (whr_none hn)
  · intro h l hl e
    have := whr_neg.2 (h l hl)
    omega
def mUnion_ac : AC := (.seq (.ops [.m 2 .z, .m 3 (.i 0)]) (.seq (.ops [.m 7 (.t 0), .c 8 false (.f 16) [(.t 7)], .m 6 (.t 8), .o 9 (.ext (.t 6) 0), .o 10 (.ext (.t 6) 1), .m 4 (.t 9), .m 5 (.t 10)]) (.seq (.ops [.m 11 (.t 4), .c 12 false (.f 50) [(.t 11), (.f 51)], .m 13 (.t 5), .m 2 (.t 12), .m 3 (.t 13)]) .ret)))
theorem mUnion_w {args : List AV} {H : List AObj} {R : AV → List AObj → Prop} (h : wp Try.prog [] H.length mUnion_ac (bodyW [(.t 2), (.t 3)] (Nr R .mk)) (args ++ List.replicate (14 - args.length) .und) H) : ACalls Try.prog 22 args H R :=
  ACalls.of_wp Try.func22 rfl (by kernel_rfl) rfl Try.ntmps22 h
theorem mUnion_p (A : List (List Int)) (hn : A.length ≤ 1000000) (hF : A.flatten.length ≤ 1000000) : Pu Try.prog 22 [Ls A] (.tup [Is (unionF A).1, I (unionF A).2]) := by
  refine Pu.of 4 (mUnion_w ?_)
  simp (disch := omega) [ar, -List.take_append_getElem, mUnion_ac]
  refine Pu.c (mwalk_p A hn hF) ?_
  have hl := walkF_len (A := A)
  simp (disch := omega) [ar, -List.take_append_getElem]
  have e : ((walkF A).1.filter (fun _ => true)).map (·.1) = (unionF A).1 ∧ (walkF A).2 = (unionF A).2 := by
    unfold walkF unionF
    split
    · exact ⟨stops_all, rfl⟩
    · exact ⟨rfl, rfl⟩
  have h := mAt_p (walkF A).1 _ (fun _ => true) (by omega) fun st _ => mUnion1_p st
  rw [e.1] at h
  refine Pu.c h ?_
  simp (disch := omega) [ar, -List.take_append_getElem, e.2]
def mBoth_ac : AC := (.seq (.ops [.m 2 .z, .m 3 (.i 0)]) (.seq (.ops [.m 7 (.t 0), .c 8 false (.f 16) [(.t 7)], .m 6 (.t 8), .o 9 (.ext (.t 6) 0), .o 10 (.ext (.t 6) 1), .m 4 (.t 9), .m 5 (.t 10)]) (.seq (.ops [.m 11 (.t 4), .c 12 false (.f 50) [(.t 11), (.f 54)], .m 13 (.t 5), .m 2 (.t 12), .m 3 (.t 13)]) .ret)))
theorem mBoth_w {args : List AV} {H : List AObj} {R : AV → List AObj → Prop} (h : wp Try.prog [] H.length mBoth_ac (bodyW [(.t 2), (.t 3)] (Nr R .mk)) (args ++ List.replicate (14 - args.length) .und) H) : ACalls Try.prog 24 args H R :=
  ACalls.of_wp Try.func24 rfl (by kernel_rfl) rfl Try.ntmps24 h
theorem mBoth_p (A : List (List Int)) (hn : A.length ≤ 1000000) (hF : A.flatten.length ≤ 1000000) : Pu Try.prog 24 [Ls A] (.tup [Is (bothF A).1, I (bothF A).2]) := by
  refine Pu.of 4 (mBoth_w ?_)
  simp (disch := omega) [ar, -List.take_append_getElem, mBoth_ac]
  refine Pu.c (mwalk_p A hn hF) ?_
  have hl := walkF_len (A := A)
  have hs : ∀ st ∈ (walkF A).1, st.2.length ≤ 1000000000 := by
    intro st hst
    unfold walkF at hst
    split at hst
    · rw [stops_len hst]; omega
    · simp at hst
  simp (disch := omega) [ar, -List.take_append_getElem]
  have e : ((walkF A).1.filter (fun st => decide (-1 ∉ st.2))).map (·.1) = (bothF A).1 ∧ (walkF A).2 = (bothF A).2 := by
    unfold walkF bothF
    split
    · exact ⟨stops_both, rfl⟩
    · exact ⟨rfl, rfl⟩
  have h := mAt_p (walkF A).1 _ (fun st => decide (-1 ∉ st.2)) (by omega) fun st hst => mBoth1_p st (hs st hst)
  rw [e.1] at h
  refine Pu.c h ?_
  simp (disch := omega) [ar, -List.take_append_getElem, e.2]
end Go.Fw
