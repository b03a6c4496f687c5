/- The document's: whether laid-out tensors, lists, levels, tensors are the same; Empty, Same. -/
import Derived.Test.YthipbeffhfdamaaFwupk1
import Derived.Test.YthipbeffhfdamaaFwrefe
namespace Go.Fw
open Go Go.RowKit Go.Proofs
set_option maxRecDepth 100000
set_option linter.unusedSimpArgs false
set_option linter.unusedVariables false
theorem rEqualT_p {a b : List Int} (ha : InI a) (hb : InI b) : Pu Try.prog 15 [Is a, Is b] (Bo (decide (a = b))) := Pu.mk (rEqual_spec (Is_sl ha) (Is_sl hb))
def rDnEq_1 : AC := (.seq (.ops [.o 25 (.bin .lss (.t 24) (.t 23))]) (.seq (.cond (.t 25) .skip (.exit 0)) (.seq (.block 1 (.seq (.ops [.m 26 (.t 24), .m 5 (.t 26)]) (.seq (.ops [.o 27 (.fad 1 (.t 2)), .o 28 (.ld 1 false (.t 27)), .m 29 (.t 5), .o 30 (.iad 1 (.t 28) (.t 29)), .o 31 (.ld 1 false (.t 30)), .o 32 (.fad 1 (.t 3)), .o 33 (.ld 1 false (.t 32)), .m 34 (.t 5), .o 35 (.iad 1 (.t 33) (.t 34)), .o 36 (.ld 1 false (.t 35)), .o 37 (.bin .neq (.t 31) (.t 36))]) (.cond (.t 37) (.seq (.ops [.m 4 (.b false)]) .ret) .skip)))) (.ops [.o 38 (.bin .add (.t 24) (.i 1)), .m 24 (.t 38)]))))
def rDnEq_ac : AC := (.seq (.ops [.o 2 (.new 57 2 (.t 0)), .o 3 (.new 57 2 (.t 1)), .m 4 (.b false)]) (.seq (.seq (.ops [.o 6 (.fad 0 (.t 2)), .o 7 (.ld 1 false (.t 6)), .o 8 (.fad 0 (.t 3)), .o 9 (.ld 1 false (.t 8)), .c 10 false (.f 15) [(.t 7), (.t 9)], .o 11 (.un .not (.t 10)), .m 12 (.t 11), .og 13 12 false (.fad 1 (.t 2)), .og 14 12 false (.ld 1 false (.t 13)), .og 15 12 false (.len (.t 14)), .og 16 12 false (.fad 1 (.t 3)), .og 17 12 false (.ld 1 false (.t 16)), .og 18 12 false (.len (.t 17)), .og 19 12 false (.bin .neq (.t 15) (.t 18)), .o 20 (.pick (.t 12) (.b true) (.t 19))]) (.cond (.t 20) (.seq (.ops [.m 4 (.b false)]) .ret) .skip)) (.seq (.seq (.ops [.o 21 (.fad 1 (.t 2)), .o 22 (.ld 1 false (.t 21)), .o 23 (.len (.t 22)), .m 24 (.i 0)]) (.block 0 (.loop rDnEq_1))) (.seq (.ops [.m 4 (.b true)]) .ret))))
theorem rDnEq_w {args : List AV} {H : List AObj} {R : AV → List AObj → Prop} (h : wp Try.prog [] H.length rDnEq_ac (bodyW [(.t 4)] (Nr R .mk)) (args ++ List.replicate (39 - args.length) .und) H) : ACalls Try.prog 35 args H R :=
  ACalls.of_wp Try.func35 rfl (by kernel_rfl) rfl Try.ntmps35 h
theorem rDnEq_p {D E : List Int × List Int} (h1 : InI D.1) (h2 : InI E.1) (h3 : InI D.2) (h4 : InI E.2) : Pu Try.prog 35 [dnW D, dnW E] (Bo (decide (D = E))) := by
  refine Pu.of 4 (rDnEq_w ?_)
  obtain ⟨S, V⟩ := D
  obtain ⟨T, W⟩ := E
  have l3 := h3.1
  have l4 := h4.1
  have hq := rEqualT_p h1 h2
  simp only at l3 l4 hq
  clear h1 h2 h3 h4
  simp (disch := omega) [ar, -List.take_append_getElem, rDnEq_ac]
  refine Pu.c hq ?_
  by_cases hST : S = T
  case neg =>
    simp (disch := omega) [ar, -List.take_append_getElem, hST]
  subst hST
  simp (disch := omega) [ar, -List.take_append_getElem]
  (first | refine Cnd.sp (fun h3 => ?_) fun h3 => ?_ | refine Gd.sp (fun h3 => ?_) fun h3 => ?_) <;> (try simp at h3) <;> (try simp (disch := omega) [ar, -List.take_append_getElem, h3])
  · intro e; subst e; exact h3 rfl
  · refine Lp.to 2 [] V.length (fun i => V.take i = W.take i) (fun i => fm 39 [(2, .ptr 0 1 0 0), (3, .ptr 1 1 0 0), (4, Bo false), (23, I V.length), (24, I i)]) (fun _ => [bx 57 2 (dnW (S, V)), bx 57 2 (dnW (S, W))]) ⟨by simp, by simp [h3]⟩ fun i hi hJ => ?_
    simp (disch := omega) [ar, -List.take_append_getElem, rDnEq_1]
    (first | refine Cnd.sp (fun h4 => ?_) fun h4 => ?_ | refine Gd.sp (fun h4 => ?_) fun h4 => ?_) <;> (try simp at h4) <;> (try simp (disch := omega) [ar, -List.take_append_getElem, h4])
    · have h5 : i < W.length := by omega
      have h6 : i < V.length := by omega
      (first | refine Cnd.sp (fun h9 => ?_) fun h9 => ?_ | refine Gd.sp (fun h9 => ?_) fun h9 => ?_) <;> (try simp at h9) <;> (try simp (disch := omega) [ar, -List.take_append_getElem, h9])
      · intro e; subst e; exact h9 rfl
      · first | exact hJ | exact ⟨hJ, h9⟩
    · rw [List.take_of_length_le (by omega), List.take_of_length_le (by omega)] at hJ; exact hJ
abbrev tV (t : List Int × Int) : AV := .agg [Is t.1, I t.2]
abbrev eV (E : List (List Int × Int)) : AV := .imm false none 2 (E.map tV)
abbrev cooV (X : List Int × List (List Int × Int)) : AV := .agg [Is X.1, eV X.2]
abbrev InX (X : List Int × List (List Int × Int)) : Prop := InI X.1 ∧ ∀ w ∈ X.2, InI w.1
def rCoEq_1 : AC := (.seq (.ops [.o 26 (.bin .lss (.t 25) (.t 24))]) (.seq (.cond (.t 26) .skip (.exit 0)) (.seq (.block 1 (.seq (.ops [.m 27 (.t 25), .o 28 (.iad 2 (.t 23) (.t 25)), .o 29 (.ld 2 true (.t 28)), .o 6 (.new 52 2 (.c (.agg [nil0, (.sc (.int .i64 0))]))), .m 5 (.t 27), .on (.st 2 (.t 6) (.t 29))]) (.seq (.ops [.o 30 (.fad 1 (.t 6)), .o 31 (.ld 1 false (.t 30)), .o 32 (.fad 1 (.t 3)), .o 33 (.ld 1 false (.t 32)), .m 34 (.t 5), .o 35 (.iad 2 (.t 33) (.t 34)), .o 36 (.fad 1 (.t 35)), .o 37 (.ld 1 false (.t 36)), .o 38 (.bin .neq (.t 31) (.t 37)), .m 39 (.t 38), .og 40 39 false (.fad 0 (.t 6)), .og 41 39 false (.ld 1 false (.t 40)), .og 42 39 false (.fad 1 (.t 3)), .og 43 39 false (.ld 1 false (.t 42)), .mg 44 39 false (.t 5), .og 45 39 false (.iad 2 (.t 43) (.t 44)), .og 46 39 false (.fad 0 (.t 45)), .og 47 39 false (.ld 1 false (.t 46)), .cg 48 39 false true (.f 15) [(.t 41), (.t 47)], .og 49 39 false (.un .not (.t 48)), .o 50 (.pick (.t 39) (.b true) (.t 49))]) (.cond (.t 50) (.seq (.ops [.m 4 (.b false)]) .ret) .skip)))) (.ops [.o 51 (.bin .add (.t 25) (.i 1)), .m 25 (.t 51)]))))
def rCoEq_ac : AC := (.seq (.ops [.o 2 (.new 48 2 (.t 0)), .o 3 (.new 48 2 (.t 1)), .m 4 (.b false)]) (.seq (.seq (.ops [.o 7 (.fad 0 (.t 2)), .o 8 (.ld 1 false (.t 7)), .o 9 (.fad 0 (.t 3)), .o 10 (.ld 1 false (.t 9)), .c 11 false (.f 15) [(.t 8), (.t 10)], .o 12 (.un .not (.t 11)), .m 13 (.t 12), .og 14 13 false (.fad 1 (.t 2)), .og 15 13 false (.ld 1 false (.t 14)), .og 16 13 false (.len (.t 15)), .og 17 13 false (.fad 1 (.t 3)), .og 18 13 false (.ld 1 false (.t 17)), .og 19 13 false (.len (.t 18)), .og 20 13 false (.bin .neq (.t 16) (.t 19)), .o 21 (.pick (.t 13) (.b true) (.t 20))]) (.cond (.t 21) (.seq (.ops [.m 4 (.b false)]) .ret) .skip)) (.seq (.seq (.ops [.o 22 (.fad 1 (.t 2)), .o 23 (.ld 1 false (.t 22)), .o 24 (.len (.t 23)), .m 25 (.i 0)]) (.block 0 (.loop rCoEq_1))) (.seq (.ops [.m 4 (.b true)]) .ret))))
theorem rCoEq_w {args : List AV} {H : List AObj} {R : AV → List AObj → Prop} (h : wp Try.prog [] H.length rCoEq_ac (bodyW [(.t 4)] (Nr R .mk)) (args ++ List.replicate (52 - args.length) .und) H) : ACalls Try.prog 34 args H R :=
  ACalls.of_wp Try.func34 rfl (by kernel_rfl) rfl Try.ntmps34 h
set_option maxHeartbeats 1000000 in
theorem rCoEq_p {X Y : List Int × List (List Int × Int)} (hX : InX X) (hY : InX Y) (hXl : X.2.length ≤ 1000000000) (hYl : Y.2.length ≤ 1000000000) : Pu Try.prog 34 [cooV X, cooV Y] (Bo (decide (X = Y))) := by
  refine Pu.of 4 (rCoEq_w ?_)
  obtain ⟨S, V⟩ := X
  obtain ⟨T, W⟩ := Y
  have hq := rEqualT_p hX.1 hY.1
  have hX2 := hX.2
  have hY2 := hY.2
  simp only at hXl hYl hq hX2 hY2
  clear hX hY
  simp (disch := omega) [ar, -List.take_append_getElem, rCoEq_ac]
  refine Pu.c hq ?_
  by_cases hST : S = T
  case neg =>
    simp (disch := omega) [ar, -List.take_append_getElem, hST]
  subst hST
  simp (disch := omega) [ar, -List.take_append_getElem]
  (first | refine Cnd.sp (fun h3 => ?_) fun h3 => ?_ | refine Gd.sp (fun h3 => ?_) fun h3 => ?_) <;> (try simp at h3) <;> (try simp (disch := omega) [ar, -List.take_append_getElem, h3])
  · intro e; subst e; exact h3 rfl
  · refine Lp.to 2 [] V.length (fun i => V.take i = W.take i) (fun i => fm 52 [(2, .ptr 0 1 0 0), (3, .ptr 1 1 0 0), (4, Bo false), (23, eV V), (24, I V.length), (25, I i)]) (fun _ => [bx 48 2 (cooV (S, V)), bx 48 2 (cooV (S, W))]) ⟨by simp, by simp [h3]⟩ fun i hi hJ => ?_
    simp (disch := omega) [ar, -List.take_append_getElem, rCoEq_1]
    (first | refine Cnd.sp (fun h4 => ?_) fun h4 => ?_ | refine Gd.sp (fun h4 => ?_) fun h4 => ?_) <;> (try simp at h4) <;> (try simp (disch := omega) [ar, -List.take_append_getElem, h4])
    · have h5 : i < W.length := by omega
      have h6 : i < V.length := by omega
      (first | refine Cnd.sp (fun h9 => ?_) fun h9 => ?_ | refine Gd.sp (fun h9 => ?_) fun h9 => ?_) <;> (try simp at h9) <;> (try simp (disch := omega) [ar, -List.take_append_getElem, h9])
      · intro e; subst e; exact h9 rfl
      · refine Pu.c (rEqualT_p (hX2 _ (List.getElem_mem h6)) (hY2 _ (List.getElem_mem h5))) ?_
        simp (disch := omega) [ar, -List.take_append_getElem]
        (first | refine Cnd.sp (fun h10 => ?_) fun h10 => ?_ | refine Gd.sp (fun h10 => ?_) fun h10 => ?_) <;> (try simp at h10) <;> (try simp (disch := omega) [ar, -List.take_append_getElem, h10])
        · intro e; subst e; exact h10 rfl
        · first | exact hJ | exact ⟨hJ, Prod.ext h10 h9⟩
    · rw [List.take_of_length_le (by omega), List.take_of_length_le (by omega)] at hJ; exact hJ
def r4Same_ac : AC := (.seq (.ops [.o 2 (.new 34 4 (.t 0)), .o 3 (.new 34 4 (.t 1)), .m 4 (.b false)]) (.seq (.ops [.o 5 (.fad 0 (.t 2)), .o 6 (.ld 1 false (.t 5)), .o 7 (.fad 0 (.t 3)), .o 8 (.ld 1 false (.t 7)), .o 9 (.bin .eql (.t 6) (.t 8)), .m 10 (.t 9), .og 11 10 true (.fad 1 (.t 2)), .og 12 10 true (.ld 1 false (.t 11)), .og 13 10 true (.fad 1 (.t 3)), .og 14 10 true (.ld 1 false (.t 13)), .og 15 10 true (.bin .eql (.t 12) (.t 14)), .o 16 (.pick (.t 10) (.t 15) (.b false)), .m 17 (.t 16), .og 18 17 true (.fad 2 (.t 2)), .og 19 17 true (.ld 1 false (.t 18)), .og 20 17 true (.fad 2 (.t 3)), .og 21 17 true (.ld 1 false (.t 20)), .cg 22 17 true false (.f 15) [(.t 19), (.t 21)], .o 23 (.pick (.t 17) (.t 22) (.b false)), .m 24 (.t 23), .og 25 24 true (.fad 3 (.t 2)), .og 26 24 true (.ld 1 false (.t 25)), .og 27 24 true (.fad 3 (.t 3)), .og 28 24 true (.ld 1 false (.t 27)), .cg 29 24 true false (.f 15) [(.t 26), (.t 28)], .o 30 (.pick (.t 24) (.t 29) (.b false)), .m 4 (.t 30)]) .ret))
theorem r4Same_w {args : List AV} {H : List AObj} {R : AV → List AObj → Prop} (h : wp Try.prog [] H.length r4Same_ac (bodyW [(.t 4)] (Nr R .mk)) (args ++ List.replicate (31 - args.length) .und) H) : ACalls Try.prog 68 args H R :=
  ACalls.of_wp Try.func68 rfl (by kernel_rfl) rfl Try.ntmps68 h
theorem r4Same_p (x y : Lv) (hx : InI x.pos ∧ InI x.crd) (hy : InI y.pos ∧ InI y.crd) : Pu Try.prog 68 [lvW x, lvW y] (Bo (decide (x = y))) := by
  refine Pu.of 4 (r4Same_w ?_)
  obtain ⟨k, z, ps, cs⟩ := x
  obtain ⟨k', z', ps', cs'⟩ := y
  have q1 := rEqualT_p hx.1 hy.1
  have q2 := rEqualT_p hx.2 hy.2
  simp only at q1 q2
  clear hx hy
  by_cases h1 : k = k'
  case neg =>
    simp (disch := omega) [ar, -List.take_append_getElem, r4Same_ac, h1]
  subst h1
  by_cases h2 : z = z'
  case neg =>
    simp (disch := omega) [ar, -List.take_append_getElem, r4Same_ac, h2]
  subst h2
  simp (disch := omega) [ar, -List.take_append_getElem, r4Same_ac]
  refine Pu.c q1 ?_
  by_cases h3 : ps = ps'
  case neg =>
    simp (disch := omega) [ar, -List.take_append_getElem, h3]
  subst h3
  simp (disch := omega) [ar, -List.take_append_getElem]
  refine Pu.c q2 ?_
  simp (disch := omega) [ar, -List.take_append_getElem]
def rEmp_1 : AC := (.seq (.ops [.o 16 (.bin .lss (.t 15) (.t 14))]) (.seq (.cond (.t 16) .skip (.exit 0)) (.seq (.block 1 (.seq (.ops [.o 17 (.iad 1 (.t 13) (.t 15)), .o 18 (.ld 1 false (.t 17)), .m 6 (.t 18)]) (.seq (.ops [.m 19 (.t 6), .o 20 (.bin .neq (.t 19) (.i 0))]) (.cond (.t 20) (.seq (.ops [.m 2 (.b false), .m 3 (.i 0)]) .ret) .skip)))) (.ops [.o 21 (.bin .add (.t 15) (.i 1)), .m 15 (.t 21)]))))
def rEmp_ac : AC := (.seq (.ops [.o 1 (.new 27 4 (.t 0)), .m 2 (.b false), .m 3 (.i 0)]) (.seq (.seq (.ops [.o 7 (.ld 4 true (.t 1)), .c 8 false (.f 26) [(.t 7)], .m 4 (.t 8)]) (.seq (.ops [.m 9 (.t 4), .o 10 (.bin .neq (.t 9) (.i 0))]) (.cond (.t 10) (.seq (.ops [.m 11 (.t 4), .m 2 (.b false), .m 3 (.t 11)]) .ret) .skip))) (.seq (.seq (.ops [.o 12 (.fad 3 (.t 1)), .o 13 (.ld 1 false (.t 12)), .o 14 (.len (.t 13)), .m 15 (.i 0)]) (.block 0 (.loop rEmp_1))) (.seq (.ops [.m 2 (.b true), .m 3 (.i 0)]) .ret))))
theorem rEmp_w {args : List AV} {H : List AObj} {R : AV → List AObj → Prop} (h : wp Try.prog [] H.length rEmp_ac (bodyW [(.t 2), (.t 3)] (Nr R .mk)) (args ++ List.replicate (22 - args.length) .und) H) : ACalls Try.prog 33 args H R :=
  ACalls.of_wp Try.func33 rfl (by kernel_rfl) rfl Try.ntmps33 h
section
variable {S : List Int} {F : List (Int × Int × Int)} {L : List Lv} {V : List Int}
theorem rEmp_p (h : TnOk S F L V) (k : Few S F L V) : Pu Try.prog 33 [tnW S F L V] (.tup [Bo (empP S F L V).1, I (empP S F L V).2]) := by
  refine Pu.of 4 (rEmp_w ?_)
  have hc := rtCheck_p h k
  have hV := h.v.1
  clear h k
  simp (disch := omega) [ar, -List.take_append_getElem, rEmp_ac]
  refine Pu.c hc ?_
  by_cases h0 : tnC S F L V = 0
  case neg =>
    have e : empP S F L V = (false, tnC S F L V) := by rw [empP, emptyF, if_pos h0]
    rw [e]
    simp (disch := omega) [ar, -List.take_append_getElem, h0]
  have e : empP S F L V = (!V.any (fun x => x != 0), 0) := by rw [empP, emptyF, if_neg (by simpa using h0)]
  rw [e]
  simp (disch := omega) [ar, -List.take_append_getElem, h0]
  refine Lp.to 1 [] V.length (fun i => (V.take i).any (fun x => x != 0) = false) (fun i => fm 22 [(1, .ptr 0 1 0 0), (2, Bo false), (3, I 0), (13, Is V), (14, I V.length), (15, I i)]) (fun _ => [bx 27 4 (tnW S F L V)]) ⟨by simp, by simp⟩ fun i hi hJ => ?_
  simp (disch := omega) [ar, -List.take_append_getElem, rEmp_1]
  (first | refine Cnd.sp (fun h4 => ?_) fun h4 => ?_ | refine Gd.sp (fun h4 => ?_) fun h4 => ?_) <;> (try simp at h4) <;> (try simp (disch := omega) [ar, -List.take_append_getElem, h4])
  · have h6 : i < V.length := by omega
    (first | refine Cnd.sp (fun h9 => ?_) fun h9 => ?_ | refine Gd.sp (fun h9 => ?_) fun h9 => ?_) <;> (try simp at h9) <;> (try simp (disch := omega) [ar, -List.take_append_getElem, h9])
    · exact ⟨V[i], List.getElem_mem h6, h9⟩
    · simpa using hJ
  · rw [List.take_of_length_le (by omega)] at hJ
    simpa using hJ
end
end Go.Fw
