/- The laws' common part: the examples, and what is few. -/
import Derived.Test.YtkfooghdpfhiaaaFwmrg4
import Derived.Test.YtkfooghdpfhiaaaFword1
namespace Go.Fw
open Go Go.RowKit Go.Proofs
set_option maxRecDepth 100000
set_option linter.unusedSimpArgs false
set_option linter.unusedVariables false

theorem live_walk : walkF [[1, 3], [3]] = ([(1, [0, -1]), (3, [1, 0])], 0) := by decide
theorem live_ord : ordF [[2], [], [1]] = ([1, 2, 0], 0) := by
  have hin : inA [[2], [], [1]] := by decide
  have h : OrdR [[2], [], [1]] [] [1, 2, 0] := .step (k := 1) (by decide) (.step (k := 2) (by decide) (.step (k := 0) (by decide) (.done (by decide))))
  have := (ordL_spec [[2], [], [1]]).det h
  rw [ordF, if_pos hin, this]
  rfl
def live7_ac : AC := (.seq (.ops [.m 0 (.b false)]) (.seq (.ops [.o 6 (.lit 1 [(.i 1), (.i 3)]), .o 7 (.lit 1 [(.i 3)]), .o 8 (.lit 1 [(.t 6), (.t 7)]), .c 9 false (.f 16) [(.t 8)], .m 5 (.t 9), .o 10 (.ext (.t 5) 0), .o 11 (.ext (.t 5) 1), .m 1 (.t 10), .m 2 (.t 11)]) (.seq (.ops [.o 13 (.lit 1 [(.i 2)]), .o 14 (.lit 1 [(.i 1)]), .o 15 (.lit 1 [(.t 13), .z, (.t 14)]), .c 16 false (.f 17) [(.t 15)], .m 12 (.t 16), .o 17 (.ext (.t 12) 0), .o 18 (.ext (.t 12) 1), .m 3 (.t 17), .m 4 (.t 18)]) (.seq (.ops [.m 19 (.t 2), .o 20 (.bin .eql (.t 19) (.i 0)), .m 21 (.t 20), .mg 22 21 true (.t 1), .og 23 21 true (.lit 1 [(.i 0), (.i (-1))]), .og 24 21 true (.mk [(.sc (.int .i64 0)), nil0] [(0, (1, (.i 1))), (1, (1, (.t 23)))]), .og 25 21 true (.lit 1 [(.i 1), (.i 0)]), .og 26 21 true (.mk [(.sc (.int .i64 0)), nil0] [(0, (1, (.i 3))), (1, (1, (.t 25)))]), .og 27 21 true (.lit 2 [(.t 24), (.t 26)]), .cg 28 21 true false (.f 28) [(.t 22), (.t 27)], .o 29 (.pick (.t 21) (.t 28) (.b false)), .m 30 (.t 29), .mg 31 30 true (.t 4), .og 32 30 true (.bin .eql (.t 31) (.i 0)), .o 33 (.pick (.t 30) (.t 32) (.b false)), .m 34 (.t 33), .mg 35 34 true (.t 3), .og 36 34 true (.lit 1 [(.i 1), (.i 2), (.i 0)]), .cg 37 34 true false (.f 27) [(.t 35), (.t 36)], .o 38 (.pick (.t 34) (.t 37) (.b false)), .m 0 (.t 38)]) .ret))))
theorem live7_w {args : List AV} {H : List AObj} {R : AV → List AObj → Prop} (h : wp Try.prog [] H.length live7_ac (bodyW [(.t 0)] (Nr R .mk)) (args ++ List.replicate (39 - args.length) .und) H) : ACalls Try.prog 14 args H R :=
  ACalls.of_wp Try.func14 rfl (by kernel_rfl) rfl Try.ntmps14 h
set_option maxHeartbeats 2000000 in
theorem live7_p : Pu Try.prog 14 [] (Bo true) := by
  refine Pu.of 4 (live7_w ?_)
  simp (disch := omega) [ar, -List.take_append_getElem, live7_ac]
  have h1 := mwalk_p [[1, 3], [3]] (by decide) (by decide)
  rw [live_walk] at h1
  refine Pu.c h1 ?_
  simp (disch := omega) [ar, -List.take_append_getElem]
  have h2 := mord_p [[2], [], [1]] (by decide) (by decide)
  rw [live_ord] at h2
  refine Pu.c h2 ?_
  simp (disch := omega) [ar, -List.take_append_getElem]
  refine Pu.c (rSame_p [(1, [0, -1]), (3, [1, 0])] [(1, [0, -1]), (3, [1, 0])] (by decide) (by decide) (by decide) (by decide)) ?_
  simp (disch := omega) [ar, -List.take_append_getElem]
  refine Pu.c (rEqual_p [1, 2, 0] [1, 2, 0] (by decide) (by decide)) ?_
  simp (disch := omega) [ar, -List.take_append_getElem]
/-- How many in all, as the program counts. -/
def wsum : List (List Int) → Int → Int
  | [], n => n
  | l :: A, n => wsum A (IntKind.i64.wrap (n + l.length))
theorem wsum_snoc (A : List (List Int)) (l : List Int) (n : Int) : wsum (A ++ [l]) n = IntKind.i64.wrap (wsum A n + l.length) := by
  induction A generalizing n with
  | nil => rfl
  | cons x A ih => simp only [List.cons_append, wsum, ih]
theorem wsum_eq (A : List (List Int)) (n : Nat) (hl : ∀ l ∈ A, l.length ≤ 140737488351232) (hA : n + A.length * 140737488351232 ≤ 9223372036854775807) : wsum A n = (n + A.flatten.length : Nat) := by
  induction A generalizing n with
  | nil => simp [wsum]
  | cons x A ih =>
    have hx := hl x (by simp)
    simp only [List.length_cons] at hA
    rw [wsum, wrap_i64 (by omega) (by omega)]
    have := ih (n + x.length) (fun l h => hl l (by simp [h])) (by omega)
    rw [show ((n : Int) + x.length) = ((n + x.length : Nat) : Int) by omega, this, List.flatten_cons, List.length_append]
    omega
def fewF (A : List (List Int)) : Bool := decide (A.length ≤ 50) && decide (A.flatten.length ≤ 500)
def few7_1 : AC := (.seq (.ops [.o 9 (.bin .lss (.t 8) (.t 7))]) (.seq (.cond (.t 9) .skip (.exit 0)) (.seq (.block 1 (.seq (.ops [.o 10 (.iad 1 (.t 6) (.t 8)), .o 11 (.ld 1 false (.t 10)), .m 5 (.t 11)]) (.ops [.m 12 (.t 3), .m 13 (.t 5), .o 14 (.len (.t 13)), .o 15 (.bin .add (.t 12) (.t 14)), .m 3 (.t 15)]))) (.ops [.o 16 (.bin .add (.t 8) (.i 1)), .m 8 (.t 16)]))))
def few7_ac : AC := (.seq (.ops [.m 2 (.b false)]) (.seq (.ops [.m 3 (.i 0)]) (.seq (.seq (.ops [.m 6 (.t 0), .o 7 (.len (.t 6)), .m 8 (.i 0)]) (.block 0 (.loop few7_1))) (.seq (.ops [.m 17 (.t 0), .o 18 (.len (.t 17)), .o 19 (.bin .leq (.t 18) (.i 50)), .m 20 (.t 19), .mg 21 20 true (.t 3), .og 22 20 true (.bin .leq (.t 21) (.i 500)), .o 23 (.pick (.t 20) (.t 22) (.b false)), .m 2 (.t 23)]) .ret))))
theorem few7_w {args : List AV} {H : List AObj} {R : AV → List AObj → Prop} (h : wp Try.prog [] H.length few7_ac (bodyW [(.t 2)] (Nr R .mk)) (args ++ List.replicate (24 - args.length) .und) H) : ACalls Try.prog 15 args H R :=
  ACalls.of_wp Try.func15 rfl (by kernel_rfl) rfl Try.ntmps15 h
theorem few7_p (A : List (List Int)) (hA : A.length ≤ 140737488351232) (hl : ∀ l ∈ A, l.length ≤ 140737488351232) : Pu Try.prog 15 [Ls A] (Bo (fewF A)) := by
  refine Pu.of 4 (few7_w ?_)
  simp (disch := omega) [ar, -List.take_append_getElem, few7_ac]
  refine Lp.to 0 [] A.length (fun i => True) (fun i => fm 24 [(0, Ls A), (3, I (wsum (A.take i) 0)), (6, Ls A), (7, I A.length), (8, I i)]) (fun _ => []) ⟨trivial, by simp [wsum]⟩ fun i hi _ => ?_
  simp (disch := omega) [ar, -List.take_append_getElem, few7_1]
  (first | refine Cnd.sp (fun h1 => ?_) fun h1 => ?_ | refine Gd.sp (fun h1 => ?_) fun h1 => ?_) <;> (try simp at h1) <;> (try simp (disch := omega) [ar, -List.take_append_getElem, h1])
  · have h2 : i < A.length := by omega
    exact wsum_snoc _ _ _
  · have e : i = A.length := by omega
    subst e
    have e1 : fewF A = (decide ((A.length : Int) ≤ 50) && decide (wsum A 0 ≤ 500)) := by
      unfold fewF
      by_cases h : A.length ≤ 50
      · have := wsum_eq A 0 hl (by omega)
        simp only [Nat.zero_add, Int.natCast_zero] at this
        rw [this]
        have e2 : ((A.flatten.length : Int) ≤ 500) = (A.flatten.length ≤ 500) := by apply propext; omega
        have e3 : ((A.length : Int) ≤ 50) = (A.length ≤ 50) := by apply propext; omega
        simp only [e2, e3]
      · have h2 : ¬ (A.length : Int) ≤ 50 := by omega
        simp [h, h2]
    by_cases h2 : (A.length : Int) ≤ 50
    · simp only [h2, decide_true, Bool.true_and] at e1
      simp (disch := omega) [ar, -List.take_append_getElem, h2, e1]
    · simp only [h2, decide_false, Bool.false_and] at e1
      simp (disch := omega) [ar, -List.take_append_getElem, h2, e1]
end Go.Fw
