/- Whether lists, levels, tensors are the same. -/
import Derived.Test.YthipbeffhfdamaaFwrp04
import Derived.Test.YthipbeffhfdamaaFwrefe
namespace Go.Fw
open Go Go.RowKit Go.Proofs
set_option maxRecDepth 100000
set_option linter.unusedSimpArgs false
set_option linter.unusedVariables false
def sEqI_1 : AC := (.seq (.ops [.o 14 (.bin .lss (.t 13) (.t 12))]) (.seq (.cond (.t 14) .skip (.exit 0)) (.seq (.block 1 (.seq (.ops [.m 15 (.t 13), .m 5 (.t 15)]) (.seq (.ops [.m 16 (.t 0), .m 17 (.t 5), .o 18 (.iad 1 (.t 16) (.t 17)), .o 19 (.ld 1 false (.t 18)), .m 20 (.t 1), .m 21 (.t 5), .o 22 (.iad 1 (.t 20) (.t 21)), .o 23 (.ld 1 false (.t 22)), .o 24 (.bin .neq (.t 19) (.t 23))]) (.cond (.t 24) (.seq (.ops [.m 4 (.b false)]) .ret) .skip)))) (.ops [.o 25 (.bin .add (.t 13) (.i 1)), .m 13 (.t 25)]))))
def sEqI_ac : AC := (.seq (.ops [.m 4 (.b false)]) (.seq (.seq (.ops [.m 6 (.t 0), .o 7 (.len (.t 6)), .m 8 (.t 1), .o 9 (.len (.t 8)), .o 10 (.bin .neq (.t 7) (.t 9))]) (.cond (.t 10) (.seq (.ops [.m 4 (.b false)]) .ret) .skip)) (.seq (.seq (.ops [.m 11 (.t 0), .o 12 (.len (.t 11)), .m 13 (.i 0)]) (.block 0 (.loop sEqI_1))) (.seq (.ops [.m 4 (.b true)]) .ret))))
theorem sEqI_w {args : List AV} {H : List AObj} {R : AV → List AObj → Prop} (h : wp Try.prog [] H.length sEqI_ac (bodyW [(.t 4)] (Nr R .mk)) (args ++ List.replicate (26 - args.length) .und) H) : ACalls Try.prog 60 args H R :=
  ACalls.of_wp Try.func60 rfl (by kernel_rfl) rfl Try.ntmps60 h
theorem sEqI_p (a b : List Int) (ha : a.length ≤ 1000000000) (hb : b.length ≤ 1000000000) : Pu Try.prog 60 [Is a, Is b] (Bo (decide (a = b))) := by
  refine Pu.of 4 (sEqI_w ?_)
  simp (disch := omega) [ar, -List.take_append_getElem, sEqI_ac]
  (first | refine Cnd.sp (fun h3 => ?_) fun h3 => ?_ | refine Gd.sp (fun h3 => ?_) fun h3 => ?_) <;> (try simp at h3) <;> (try simp (disch := omega) [ar, -List.take_append_getElem, h3])
  · intro e; subst e; exact h3 rfl
  · refine Lp.to 0 [] a.length (fun i => a.take i = b.take i) (fun i => fm 26 [(0, Is a), (1, Is b), (11, Is a), (12, I a.length), (13, I i)]) (fun _ => []) ⟨by simp, by simp [h3]⟩ fun i hi hJ => ?_
    simp (disch := omega) [ar, -List.take_append_getElem, sEqI_1]
    (first | refine Cnd.sp (fun h4 => ?_) fun h4 => ?_ | refine Gd.sp (fun h4 => ?_) fun h4 => ?_) <;> (try simp at h4) <;> (try simp (disch := omega) [ar, -List.take_append_getElem, h4])
    · have h5 : i < b.length := by omega
      have h6 : i < a.length := by omega
      (first | refine Cnd.sp (fun h9 => ?_) fun h9 => ?_ | refine Gd.sp (fun h9 => ?_) fun h9 => ?_) <;> (try simp at h9) <;> (try simp (disch := omega) [ar, -List.take_append_getElem, h9])
      · intro e; subst e; exact h9 rfl
      · first | exact hJ | exact ⟨hJ, h9⟩
    · rw [List.take_of_length_le (by omega), List.take_of_length_le (by omega)] at hJ; exact hJ
def sEqL_1 : AC := (.seq (.ops [.o 14 (.bin .lss (.t 13) (.t 12))]) (.seq (.cond (.t 14) .skip (.exit 0)) (.seq (.block 1 (.seq (.ops [.m 15 (.t 13), .m 5 (.t 15)]) (.seq (.ops [.m 16 (.t 0), .m 17 (.t 5), .o 18 (.iad 1 (.t 16) (.t 17)), .o 19 (.ld 1 false (.t 18)), .m 20 (.t 1), .m 21 (.t 5), .o 22 (.iad 1 (.t 20) (.t 21)), .o 23 (.ld 1 false (.t 22)), .o 24 (.bin .neq (.t 19) (.t 23))]) (.cond (.t 24) (.seq (.ops [.m 4 (.b false)]) .ret) .skip)))) (.ops [.o 25 (.bin .add (.t 13) (.i 1)), .m 13 (.t 25)]))))
def sEqL_ac : AC := (.seq (.ops [.m 4 (.b false)]) (.seq (.seq (.ops [.m 6 (.t 0), .o 7 (.len (.t 6)), .m 8 (.t 1), .o 9 (.len (.t 8)), .o 10 (.bin .neq (.t 7) (.t 9))]) (.cond (.t 10) (.seq (.ops [.m 4 (.b false)]) .ret) .skip)) (.seq (.seq (.ops [.m 11 (.t 0), .o 12 (.len (.t 11)), .m 13 (.i 0)]) (.block 0 (.loop sEqL_1))) (.seq (.ops [.m 4 (.b true)]) .ret))))
theorem sEqL_w {args : List AV} {H : List AObj} {R : AV → List AObj → Prop} (h : wp Try.prog [] H.length sEqL_ac (bodyW [(.t 4)] (Nr R .mk)) (args ++ List.replicate (26 - args.length) .und) H) : ACalls Try.prog 62 args H R :=
  ACalls.of_wp Try.func62 rfl (by kernel_rfl) rfl Try.ntmps62 h
theorem sEqL_p (a b : List Int) (ha : a.length ≤ 1000000000) (hb : b.length ≤ 1000000000) : Pu Try.prog 62 [Is a, Is b] (Bo (decide (a = b))) := by
  refine Pu.of 4 (sEqL_w ?_)
  simp (disch := omega) [ar, -List.take_append_getElem, sEqL_ac]
  (first | refine Cnd.sp (fun h3 => ?_) fun h3 => ?_ | refine Gd.sp (fun h3 => ?_) fun h3 => ?_) <;> (try simp at h3) <;> (try simp (disch := omega) [ar, -List.take_append_getElem, h3])
  · intro e; subst e; exact h3 rfl
  · refine Lp.to 0 [] a.length (fun i => a.take i = b.take i) (fun i => fm 26 [(0, Is a), (1, Is b), (11, Is a), (12, I a.length), (13, I i)]) (fun _ => []) ⟨by simp, by simp [h3]⟩ fun i hi hJ => ?_
    simp (disch := omega) [ar, -List.take_append_getElem, sEqL_1]
    (first | refine Cnd.sp (fun h4 => ?_) fun h4 => ?_ | refine Gd.sp (fun h4 => ?_) fun h4 => ?_) <;> (try simp at h4) <;> (try simp (disch := omega) [ar, -List.take_append_getElem, h4])
    · have h5 : i < b.length := by omega
      have h6 : i < a.length := by omega
      (first | refine Cnd.sp (fun h9 => ?_) fun h9 => ?_ | refine Gd.sp (fun h9 => ?_) fun h9 => ?_) <;> (try simp at h9) <;> (try simp (disch := omega) [ar, -List.take_append_getElem, h9])
      · intro e; subst e; exact h9 rfl
      · first | exact hJ | exact ⟨hJ, h9⟩
    · rw [List.take_of_length_le (by omega), List.take_of_length_le (by omega)] at hJ; exact hJ
def sEqS_1 : AC := (.seq (.ops [.o 14 (.bin .lss (.t 13) (.t 12))]) (.seq (.cond (.t 14) .skip (.exit 0)) (.seq (.block 1 (.seq (.ops [.m 15 (.t 13), .m 5 (.t 15)]) (.seq (.ops [.m 16 (.t 0), .m 17 (.t 5), .o 18 (.iad 3 (.t 16) (.t 17)), .o 19 (.ld 3 true (.t 18)), .m 20 (.t 1), .m 21 (.t 5), .o 22 (.iad 3 (.t 20) (.t 21)), .o 23 (.ld 3 true (.t 22)), .o 24 (.aeq true [0, 0, 0] (.t 19) (.t 23))]) (.cond (.t 24) (.seq (.ops [.m 4 (.b false)]) .ret) .skip)))) (.ops [.o 25 (.bin .add (.t 13) (.i 1)), .m 13 (.t 25)]))))
def sEqS_ac : AC := (.seq (.ops [.m 4 (.b false)]) (.seq (.seq (.ops [.m 6 (.t 0), .o 7 (.len (.t 6)), .m 8 (.t 1), .o 9 (.len (.t 8)), .o 10 (.bin .neq (.t 7) (.t 9))]) (.cond (.t 10) (.seq (.ops [.m 4 (.b false)]) .ret) .skip)) (.seq (.seq (.ops [.m 11 (.t 0), .o 12 (.len (.t 11)), .m 13 (.i 0)]) (.block 0 (.loop sEqS_1))) (.seq (.ops [.m 4 (.b true)]) .ret))))
theorem sEqS_w {args : List AV} {H : List AObj} {R : AV → List AObj → Prop} (h : wp Try.prog [] H.length sEqS_ac (bodyW [(.t 4)] (Nr R .mk)) (args ++ List.replicate (26 - args.length) .und) H) : ACalls Try.prog 61 args H R :=
  ACalls.of_wp Try.func61 rfl (by kernel_rfl) rfl Try.ntmps61 h
theorem sEqS_p (a b : List (Int × Int × Int)) (ha : a.length ≤ 1000000000) (hb : b.length ≤ 1000000000) : Pu Try.prog 61 [fW a, fW b] (Bo (decide (a = b))) := by
  refine Pu.of 4 (sEqS_w ?_)
  simp (disch := omega) [ar, -List.take_append_getElem, sEqS_ac]
  (first | refine Cnd.sp (fun h3 => ?_) fun h3 => ?_ | refine Gd.sp (fun h3 => ?_) fun h3 => ?_) <;> (try simp at h3) <;> (try simp (disch := omega) [ar, -List.take_append_getElem, h3])
  · intro e; subst e; exact h3 rfl
  · refine Lp.to 0 [] a.length (fun i => a.take i = b.take i) (fun i => fm 26 [(0, fW a), (1, fW b), (11, fW a), (12, I a.length), (13, I i)]) (fun _ => []) ⟨by simp, by simp [h3]⟩ fun i hi hJ => ?_
    simp (disch := omega) [ar, -List.take_append_getElem, sEqS_1]
    (first | refine Cnd.sp (fun h4 => ?_) fun h4 => ?_ | refine Gd.sp (fun h4 => ?_) fun h4 => ?_) <;> (try simp at h4) <;> (try simp (disch := omega) [ar, -List.take_append_getElem, h4])
    · have h5 : i < b.length := by omega
      have h6 : i < a.length := by omega
      obtain ⟨⟨x1, x2, x3⟩, hga⟩ : ∃ x, a[i] = x := ⟨_, rfl⟩
      obtain ⟨⟨y1, y2, y3⟩, hgb⟩ : ∃ x, b[i] = x := ⟨_, rfl⟩
      simp (disch := omega) [ar, -List.take_append_getElem, hga, hgb, aeqS]
      (first | refine Cnd.sp (fun h9 => ?_) fun h9 => ?_ | refine Gd.sp (fun h9 => ?_) fun h9 => ?_) <;> (try simp at h9) <;> (try simp (disch := omega) [ar, -List.take_append_getElem, h9])
      · intro e
        subst e
        rw [hga] at hgb
        simp at hgb
        omega
      · obtain ⟨rfl, rfl, rfl⟩ := h9
        exact ⟨hJ, by rw [hga, hgb]⟩
    · rw [List.take_of_length_le (by omega), List.take_of_length_le (by omega)] at hJ; exact hJ
def lvSame_ac : AC := (.seq (.ops [.o 2 (.new 34 4 (.t 0)), .o 3 (.new 34 4 (.t 1)), .m 4 (.b false)]) (.seq (.ops [.o 5 (.fad 0 (.t 2)), .o 6 (.ld 1 false (.t 5)), .o 7 (.fad 1 (.t 2)), .o 8 (.ld 1 false (.t 7)), .o 9 (.mk [(.sc (.int .i64 0)), (.sc (.int .i64 0))] [(0, (1, (.t 6))), (1, (1, (.t 8)))]), .o 10 (.fad 0 (.t 3)), .o 11 (.ld 1 false (.t 10)), .o 12 (.fad 1 (.t 3)), .o 13 (.ld 1 false (.t 12)), .o 14 (.mk [(.sc (.int .i64 0)), (.sc (.int .i64 0))] [(0, (1, (.t 11))), (1, (1, (.t 13)))]), .o 15 (.aeq false [0, 0] (.t 9) (.t 14)), .m 16 (.t 15), .og 17 16 true (.fad 2 (.t 2)), .og 18 16 true (.ld 1 false (.t 17)), .og 19 16 true (.fad 2 (.t 3)), .og 20 16 true (.ld 1 false (.t 19)), .cg 21 16 true false (.f 60) [(.t 18), (.t 20)], .o 22 (.pick (.t 16) (.t 21) (.b false)), .m 23 (.t 22), .og 24 23 true (.fad 3 (.t 2)), .og 25 23 true (.ld 1 false (.t 24)), .og 26 23 true (.fad 3 (.t 3)), .og 27 23 true (.ld 1 false (.t 26)), .cg 28 23 true false (.f 60) [(.t 25), (.t 27)], .o 29 (.pick (.t 23) (.t 28) (.b false)), .m 4 (.t 29)]) .ret))
theorem lvSame_w {args : List AV} {H : List AObj} {R : AV → List AObj → Prop} (h : wp Try.prog [] H.length lvSame_ac (bodyW [(.t 4)] (Nr R .mk)) (args ++ List.replicate (30 - args.length) .und) H) : ACalls Try.prog 64 args H R :=
  ACalls.of_wp Try.func64 rfl (by kernel_rfl) rfl Try.ntmps64 h
theorem lvSame_p (x y : Lv) (hx : x.pos.length ≤ 1000000000 ∧ x.crd.length ≤ 1000000000) (hy : y.pos.length ≤ 1000000000 ∧ y.crd.length ≤ 1000000000) : Pu Try.prog 64 [lvW x, lvW y] (Bo (decide (x = y))) := by
  refine Pu.of 4 (lvSame_w ?_)
  obtain ⟨k, z, ps, cs⟩ := x
  obtain ⟨k', z', ps', cs'⟩ := y
  simp only at hx hy
  by_cases h1 : k = k' ∧ z = z'
  · obtain ⟨rfl, rfl⟩ := h1
    simp (disch := omega) [ar, -List.take_append_getElem, lvSame_ac, aeqS]
    refine Pu.c (sEqI_p ps ps' hx.1 hy.1) ?_
    by_cases h2 : ps = ps'
    · subst h2
      simp (disch := omega) [ar, -List.take_append_getElem]
      refine Pu.c (sEqI_p cs cs' hx.2 hy.2) ?_
      simp (disch := omega) [ar, -List.take_append_getElem]
    · simp (disch := omega) [ar, -List.take_append_getElem, h2]
  · have hf : (decide (k = k') && decide (z = z')) = false := by simpa using h1
    have hne : ¬ (k = k' ∧ z = z' ∧ ps = ps' ∧ cs = cs') := fun h => h1 ⟨h.1, h.2.1⟩
    simp (disch := omega) [ar, -List.take_append_getElem, lvSame_ac, aeqS, hf]
    exact fun a b => absurd ⟨a, b⟩ h1
abbrev lW (L : List Lv) : AV := .imm false none 4 (L.map lvW)
def sEqF_1 : AC := (.seq (.ops [.o 18 (.bin .lss (.t 17) (.t 16))]) (.seq (.cond (.t 18) .skip (.exit 0)) (.seq (.block 1 (.seq (.ops [.m 19 (.t 17), .o 20 (.iad 4 (.t 15) (.t 17)), .o 21 (.ld 4 true (.t 20)), .o 8 (.new 34 4 (.c (.agg [(.sc (.int .i64 0)), (.sc (.int .i64 0)), nil0, nil0]))), .m 7 (.t 19), .on (.st 4 (.t 8) (.t 21))]) (.seq (.ops [.m 22 (.t 1), .m 23 (.t 7), .o 24 (.iad 4 (.t 22) (.t 23)), .o 25 (.ld 4 true (.t 24)), .o 9 (.new 34 4 (.c (.agg [(.sc (.int .i64 0)), (.sc (.int .i64 0)), nil0, nil0]))), .on (.st 4 (.t 9) (.t 25))]) (.seq (.ops [.m 26 (.t 2), .o 27 (.ld 4 true (.t 8)), .o 28 (.ld 4 true (.t 9)), .c 29 false (.t 26) [(.t 27), (.t 28)], .o 30 (.un .not (.t 29))]) (.cond (.t 30) (.seq (.ops [.m 6 (.b false)]) .ret) .skip))))) (.ops [.o 31 (.bin .add (.t 17) (.i 1)), .m 17 (.t 31)]))))
def sEqF_ac : AC := (.seq (.ops [.m 6 (.b false)]) (.seq (.seq (.ops [.m 10 (.t 0), .o 11 (.len (.t 10)), .m 12 (.t 1), .o 13 (.len (.t 12)), .o 14 (.bin .neq (.t 11) (.t 13))]) (.cond (.t 14) (.seq (.ops [.m 6 (.b false)]) .ret) .skip)) (.seq (.seq (.ops [.m 15 (.t 0), .o 16 (.len (.t 15)), .m 17 (.i 0)]) (.block 0 (.loop sEqF_1))) (.seq (.ops [.m 6 (.b true)]) .ret))))
theorem sEqF_w {args : List AV} {H : List AObj} {R : AV → List AObj → Prop} (h : wp Try.prog [] H.length sEqF_ac (bodyW [(.t 6)] (Nr R .mk)) (args ++ List.replicate (32 - args.length) .und) H) : ACalls Try.prog 63 args H R :=
  ACalls.of_wp Try.func63 rfl (by kernel_rfl) rfl Try.ntmps63 h
theorem sEqF_p (a b : List Lv) (ha : a.length ≤ 1000000000) (hb : b.length ≤ 1000000000) (hal : ∀ x ∈ a, x.pos.length ≤ 1000000000 ∧ x.crd.length ≤ 1000000000) (hbl : ∀ x ∈ b, x.pos.length ≤ 1000000000 ∧ x.crd.length ≤ 1000000000) :
    Pu Try.prog 63 [lW a, lW b, .fn (.func 64) [] []] (Bo (decide (a = b))) := by
  refine Pu.of 4 (sEqF_w ?_)
  simp (disch := omega) [ar, -List.take_append_getElem, sEqF_ac]
  (first | refine Cnd.sp (fun h3 => ?_) fun h3 => ?_ | refine Gd.sp (fun h3 => ?_) fun h3 => ?_) <;> (try simp at h3) <;> (try simp (disch := omega) [ar, -List.take_append_getElem, h3])
  · intro e; subst e; exact h3 rfl
  · refine Lp.to 0 [] a.length (fun i => a.take i = b.take i) (fun i => fm 32 [(0, lW a), (1, lW b), (2, .fn (.func 64) [] []), (15, lW a), (16, I a.length), (17, I i)]) (fun _ => []) ⟨by simp, by simp [h3]⟩ fun i hi hJ => ?_
    simp (disch := omega) [ar, -List.take_append_getElem, sEqF_1]
    (first | refine Cnd.sp (fun h4 => ?_) fun h4 => ?_ | refine Gd.sp (fun h4 => ?_) fun h4 => ?_) <;> (try simp at h4) <;> (try simp (disch := omega) [ar, -List.take_append_getElem, h4])
    · have h5 : i < b.length := by omega
      have h6 : i < a.length := by omega
      refine Pu.c (lvSame_p a[i] b[i] (hal _ (List.getElem_mem h6)) (hbl _ (List.getElem_mem h5))) ?_
      simp (disch := omega) [ar, -List.take_append_getElem]
      (first | refine Cnd.sp (fun h9 => ?_) fun h9 => ?_ | refine Gd.sp (fun h9 => ?_) fun h9 => ?_) <;> (try simp at h9) <;> (try simp (disch := omega) [ar, -List.take_append_getElem, h9])
      · intro e; subst e; exact h9 rfl
      · first | exact hJ | exact ⟨hJ, h9⟩
    · rw [List.take_of_length_le (by omega), List.take_of_length_le (by omega)] at hJ; exact hJ
def sSm_ac : AC := (.seq (.ops [.o 2 (.new 27 4 (.t 0)), .o 3 (.new 27 4 (.t 1)), .m 4 (.b false)]) (.seq (.ops [.o 5 (.fad 0 (.t 2)), .o 6 (.ld 1 false (.t 5)), .o 7 (.fad 0 (.t 3)), .o 8 (.ld 1 false (.t 7)), .c 9 false (.f 60) [(.t 6), (.t 8)], .m 10 (.t 9), .og 11 10 true (.fad 1 (.t 2)), .og 12 10 true (.ld 1 false (.t 11)), .og 13 10 true (.fad 1 (.t 3)), .og 14 10 true (.ld 1 false (.t 13)), .cg 15 10 true false (.f 61) [(.t 12), (.t 14)], .o 16 (.pick (.t 10) (.t 15) (.b false)), .m 17 (.t 16), .og 18 17 true (.fad 3 (.t 2)), .og 19 17 true (.ld 1 false (.t 18)), .og 20 17 true (.fad 3 (.t 3)), .og 21 17 true (.ld 1 false (.t 20)), .cg 22 17 true false (.f 62) [(.t 19), (.t 21)], .o 23 (.pick (.t 17) (.t 22) (.b false)), .m 24 (.t 23), .og 25 24 true (.fad 2 (.t 2)), .og 26 24 true (.ld 1 false (.t 25)), .og 27 24 true (.fad 2 (.t 3)), .og 28 24 true (.ld 1 false (.t 27)), .cg 29 24 true false (.f 63) [(.t 26), (.t 28), (.f 64)], .o 30 (.pick (.t 24) (.t 29) (.b false)), .m 31 (.t 30), .og 32 31 true (.ld 4 true (.t 2)), .cg 33 31 true false (.f 11) [(.t 32)], .og 34 31 true (.bin .eql (.t 33) (.i 0)), .o 35 (.pick (.t 31) (.t 34) (.b false)), .m 4 (.t 35)]) .ret))
theorem sSm_w {args : List AV} {H : List AObj} {R : AV → List AObj → Prop} (h : wp Try.prog [] H.length sSm_ac (bodyW [(.t 4)] (Nr R .mk)) (args ++ List.replicate (36 - args.length) .und) H) : ACalls Try.prog 27 args H R :=
  ACalls.of_wp Try.func27 rfl (by kernel_rfl) rfl Try.ntmps27 h
section
variable {S T : List Int} {F G : List (Int × Int × Int)} {L M : List Lv} {V W : List Int}
theorem sSm_p (h : TnOk S F L V) (k : Few S F L V) (k' : Few T G M W) :
    Pu Try.prog 27 [tnW S F L V, tnW T G M W] (Bo (decide (S = T ∧ F = G ∧ V = W ∧ L = M ∧ tnC S F L V = 0))) := by
  refine Pu.of 4 (sSm_w ?_)
  have q1 := sEqI_p S T (by have := k.s; omega) (by have := k'.s; omega)
  have q2 := sEqS_p F G (by have := k.f; omega) (by have := k'.f; omega)
  have q3 := sEqL_p V W (by have := k.v; omega) (by have := k'.v; omega)
  have q4 := sEqF_p L M (by have := k.l; omega) (by have := k'.l; omega) (fun x hx => by have := k.c x hx; omega) (fun x hx => by have := k'.c x hx; omega)
  have q5 := sCheck_p h k
  clear h k k'
  simp (disch := omega) [ar, -List.take_append_getElem, sSm_ac]
  refine Pu.c q1 ?_
  by_cases e1 : S = T
  case neg =>
    simp (disch := omega) [ar, -List.take_append_getElem, e1]
  subst e1
  simp (disch := omega) [ar, -List.take_append_getElem]
  refine Pu.c q2 ?_
  by_cases e2 : F = G
  case neg =>
    simp (disch := omega) [ar, -List.take_append_getElem, e2]
  subst e2
  simp (disch := omega) [ar, -List.take_append_getElem]
  refine Pu.c q3 ?_
  by_cases e3 : V = W
  case neg =>
    simp (disch := omega) [ar, -List.take_append_getElem, e3]
  subst e3
  simp (disch := omega) [ar, -List.take_append_getElem]
  refine Pu.c q4 ?_
  by_cases e4 : L = M
  case neg =>
    simp (disch := omega) [ar, -List.take_append_getElem, e4]
  subst e4
  simp (disch := omega) [ar, -List.take_append_getElem]
  refine Pu.c q5 ?_
  simp (disch := omega) [ar, -List.take_append_getElem]
end
end Go.Fw
