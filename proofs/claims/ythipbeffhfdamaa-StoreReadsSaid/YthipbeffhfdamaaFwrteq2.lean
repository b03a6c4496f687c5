/- The document's Equals and Same of tensors. -/
import Derived.Test.YthipbeffhfdamaaFwrteq1
namespace Go.Fw
open Go Go.RowKit Go.Proofs
set_option maxRecDepth 100000
set_option linter.unusedSimpArgs false
set_option linter.unusedVariables false
theorem specV_eq (x : Int × Int × Int) : specV x = .agg [I x.1, I x.2.1, I x.2.2] := rfl
abbrev tnX (S : List Int) (F : List (Int × Int × Int)) (L : List Lv) (V : List Int) (T : List Int) (G : List (Int × Int × Int)) (M : List Lv) (W : List Int) : List AObj := [bx 27 4 (tnW S F L V), bx 27 4 (tnW T G M W)]
def rTeq_1 : AC := (.seq (.ops [.o 41 (.bin .lss (.t 40) (.t 39))]) (.seq (.cond (.t 41) .skip (.exit 0)) (.seq (.block 1 (.seq (.ops [.m 42 (.t 40), .m 5 (.t 42)]) (.seq (.ops [.o 43 (.fad 1 (.t 2)), .o 44 (.ld 1 false (.t 43)), .m 45 (.t 5), .o 46 (.iad 3 (.t 44) (.t 45)), .o 47 (.ld 3 true (.t 46)), .o 48 (.fad 1 (.t 3)), .o 49 (.ld 1 false (.t 48)), .m 50 (.t 5), .o 51 (.iad 3 (.t 49) (.t 50)), .o 52 (.ld 3 true (.t 51)), .o 53 (.aeq true [0, 0, 0] (.t 47) (.t 52))]) (.cond (.t 53) (.seq (.ops [.m 4 (.b false)]) .ret) .skip)))) (.ops [.o 54 (.bin .add (.t 40) (.i 1)), .m 40 (.t 54)]))))
def rTeq_2 : AC := (.seq (.ops [.o 59 (.bin .lss (.t 58) (.t 57))]) (.seq (.cond (.t 59) .skip (.exit 2)) (.seq (.block 3 (.seq (.ops [.m 60 (.t 58), .m 6 (.t 60)]) (.seq (.ops [.o 61 (.fad 2 (.t 2)), .o 62 (.ld 1 false (.t 61)), .m 63 (.t 6), .o 64 (.iad 4 (.t 62) (.t 63)), .o 65 (.ld 4 true (.t 64)), .o 66 (.fad 2 (.t 3)), .o 67 (.ld 1 false (.t 66)), .m 68 (.t 6), .o 69 (.iad 4 (.t 67) (.t 68)), .o 70 (.ld 4 true (.t 69)), .c 71 true (.f 68) [(.t 65), (.t 70)], .o 72 (.un .not (.t 71))]) (.cond (.t 72) (.seq (.ops [.m 4 (.b false)]) .ret) .skip)))) (.ops [.o 73 (.bin .add (.t 58) (.i 1)), .m 58 (.t 73)]))))
def rTeq_ac : AC := (.seq (.ops [.o 2 (.new 27 4 (.t 0)), .o 3 (.new 27 4 (.t 1)), .m 4 (.b false)]) (.seq (.seq (.ops [.o 7 (.fad 0 (.t 2)), .o 8 (.ld 1 false (.t 7)), .o 9 (.fad 3 (.t 2)), .o 10 (.ld 1 false (.t 9)), .o 11 (.mk [nil0, nil0] [(0, (1, (.t 8))), (1, (1, (.t 10)))]), .o 12 (.fad 0 (.t 3)), .o 13 (.ld 1 false (.t 12)), .o 14 (.fad 3 (.t 3)), .o 15 (.ld 1 false (.t 14)), .o 16 (.mk [nil0, nil0] [(0, (1, (.t 13))), (1, (1, (.t 15)))]), .c 17 false (.f 35) [(.t 11), (.t 16)], .o 18 (.un .not (.t 17)), .m 19 (.t 18), .og 20 19 false (.fad 1 (.t 2)), .og 21 19 false (.ld 1 false (.t 20)), .og 22 19 false (.len (.t 21)), .og 23 19 false (.fad 1 (.t 3)), .og 24 19 false (.ld 1 false (.t 23)), .og 25 19 false (.len (.t 24)), .og 26 19 false (.bin .neq (.t 22) (.t 25)), .o 27 (.pick (.t 19) (.b true) (.t 26)), .m 28 (.t 27), .og 29 28 false (.fad 2 (.t 2)), .og 30 28 false (.ld 1 false (.t 29)), .og 31 28 false (.len (.t 30)), .og 32 28 false (.fad 2 (.t 3)), .og 33 28 false (.ld 1 false (.t 32)), .og 34 28 false (.len (.t 33)), .og 35 28 false (.bin .neq (.t 31) (.t 34)), .o 36 (.pick (.t 28) (.b true) (.t 35))]) (.cond (.t 36) (.seq (.ops [.m 4 (.b false)]) .ret) .skip)) (.seq (.seq (.ops [.o 37 (.fad 1 (.t 2)), .o 38 (.ld 1 false (.t 37)), .o 39 (.len (.t 38)), .m 40 (.i 0)]) (.block 0 (.loop rTeq_1))) (.seq (.seq (.ops [.o 55 (.fad 2 (.t 2)), .o 56 (.ld 1 false (.t 55)), .o 57 (.len (.t 56)), .m 58 (.i 0)]) (.block 2 (.loop rTeq_2))) (.seq (.ops [.m 4 (.b true)]) .ret)))))
theorem rTeq_w {args : List AV} {H : List AObj} {R : AV → List AObj → Prop} (h : wp Try.prog [] H.length rTeq_ac (bodyW [(.t 4)] (Nr R .mk)) (args ++ List.replicate (74 - args.length) .und) H) : ACalls Try.prog 36 args H R :=
  ACalls.of_wp Try.func36 rfl (by kernel_rfl) rfl Try.ntmps36 h
section
variable {S T : List Int} {F G : List (Int × Int × Int)} {L M : List Lv} {V W : List Int}
set_option maxHeartbeats 2000000 in
theorem rTeq_p (h : TnOk S F L V) (k : TnOk T G M W) (hF : F.length ≤ 1000) (hL : L.length ≤ 1000) :
    Pu Try.prog 36 [tnW S F L V, tnW T G M W] (Bo (decide (S = T ∧ F = G ∧ V = W ∧ L = M))) := by
  refine Pu.of 4 (rTeq_w ?_)
  have q1 := rDnEq_p (D := (S, V)) (E := (T, W)) h.s k.s h.v k.v
  have hLx : ∀ x ∈ L, InI x.pos ∧ InI x.crd := fun x hx => ⟨(h.l.2 x hx).1, (h.l.2 x hx).2.1⟩
  have hMx : ∀ x ∈ M, InI x.pos ∧ InI x.crd := fun x hx => ⟨(k.l.2 x hx).1, (k.l.2 x hx).2.1⟩
  clear h k
  simp only [Prod.mk.injEq] at q1
  simp (disch := omega) [ar, -List.take_append_getElem, rTeq_ac]
  refine Pu.c q1 ?_
  by_cases e1 : S = T ∧ V = W
  case neg =>
    have e2 : ¬ (S = T ∧ F = G ∧ V = W ∧ L = M) := fun h => e1 ⟨h.1, h.2.2.1⟩
    have e3 : decide (S = T ∧ V = W) = false := by simpa using e1
    have e4 : decide (S = T ∧ F = G ∧ V = W ∧ L = M) = false := by simpa using e2
    rw [e4]
    simp (disch := omega) [ar, -List.take_append_getElem, e3, -Bool.decide_and]
  obtain ⟨rfl, rfl⟩ := e1
  by_cases e5 : F.length = G.length
  case neg =>
    have e6 : ¬ (F.length : Int) = G.length := by omega
    have e7 : ¬ F = G := fun e => e5 (by rw [e])
    simp (disch := omega) [ar, -List.take_append_getElem, e6, e7]
  by_cases e8 : L.length = M.length
  case neg =>
    have e6 : ¬ (L.length : Int) = M.length := by omega
    have e7 : ¬ L = M := fun e => e8 (by rw [e])
    simp (disch := omega) [ar, -List.take_append_getElem, e5, e6, e7]
  simp (disch := omega) [ar, -List.take_append_getElem, e5, e8]
  refine Lp.to 2 [] F.length (fun i => F.take i = G.take i) (fun i => fm 74 [(2, .ptr 0 1 0 0), (3, .ptr 1 1 0 0), (4, Bo false), (39, I F.length), (40, I i)]) (fun _ => tnX S F L V S G M V) ⟨by simp, by simp [e5]⟩ fun i hi hJ => ?_
  simp (disch := omega) [ar, -List.take_append_getElem, rTeq_1]
  (first | refine Cnd.sp (fun h4 => ?_) fun h4 => ?_ | refine Gd.sp (fun h4 => ?_) fun h4 => ?_) <;> (try simp at h4) <;> (try simp (disch := omega) [ar, -List.take_append_getElem, h4])
  · have h5 : i < G.length := by omega
    have h6 : i < F.length := by omega
    obtain ⟨⟨x1, x2, x3⟩, hga⟩ : ∃ x, F[i] = x := ⟨_, rfl⟩
    obtain ⟨⟨y1, y2, y3⟩, hgb⟩ : ∃ x, G[i] = x := ⟨_, rfl⟩
    simp (disch := omega) [ar, -List.take_append_getElem, hga, hgb, aeqS]
    (first | refine Cnd.sp (fun h9 => ?_) fun h9 => ?_ | refine Gd.sp (fun h9 => ?_) fun h9 => ?_) <;> (try simp at h9) <;> (try simp (disch := omega) [ar, -List.take_append_getElem, h9])
    · intro e
      subst e
      rw [hga] at hgb
      simp at hgb
      omega
    · obtain ⟨rfl, rfl, rfl⟩ := h9
      exact ⟨hJ, by rw [hga, hgb]⟩
  rw [List.take_of_length_le (by omega), List.take_of_length_le (by omega)] at hJ
  subst hJ
  clear hi h4
  refine Lp.to 2 [] L.length (fun i => L.take i = M.take i) (fun i => fm 74 [(2, .ptr 0 1 0 0), (3, .ptr 1 1 0 0), (4, Bo false), (57, I L.length), (58, I i)]) (fun _ => tnX S F L V S F M V) ⟨by simp, by simp [e8]⟩ fun i hi hJ => ?_
  simp (disch := omega) [ar, -List.take_append_getElem, rTeq_2]
  (first | refine Cnd.sp (fun h4 => ?_) fun h4 => ?_ | refine Gd.sp (fun h4 => ?_) fun h4 => ?_) <;> (try simp at h4) <;> (try simp (disch := omega) [ar, -List.take_append_getElem, h4])
  · have h5 : i < M.length := by omega
    have h6 : i < L.length := by omega
    refine Pu.c (r4Same_p L[i] M[i] (hLx _ (List.getElem_mem h6)) (hMx _ (List.getElem_mem h5))) ?_
    simp (disch := omega) [ar, -List.take_append_getElem]
    (first | refine Cnd.sp (fun h9 => ?_) fun h9 => ?_ | refine Gd.sp (fun h9 => ?_) fun h9 => ?_) <;> (try simp at h9) <;> (try simp (disch := omega) [ar, -List.take_append_getElem, h9])
    · intro e; subst e; exact h9 rfl
    · first | exact hJ | exact ⟨hJ, h9⟩
  · rw [List.take_of_length_le (by omega), List.take_of_length_le (by omega)] at hJ
    exact hJ
def rTsm_ac : AC := (.seq (.ops [.o 2 (.new 27 4 (.t 0)), .o 3 (.new 27 4 (.t 1)), .m 4 (.b false)]) (.seq (.ops [.o 5 (.ld 4 true (.t 2)), .c 6 false (.f 26) [(.t 5)], .o 7 (.bin .eql (.t 6) (.i 0)), .m 8 (.t 7), .og 9 8 true (.ld 4 true (.t 3)), .cg 10 8 true false (.f 26) [(.t 9)], .og 11 8 true (.bin .eql (.t 10) (.i 0)), .o 12 (.pick (.t 8) (.t 11) (.b false)), .m 13 (.t 12), .og 14 13 true (.ld 4 true (.t 2)), .og 15 13 true (.ld 4 true (.t 3)), .cg 16 13 true false (.f 36) [(.t 14), (.t 15)], .o 17 (.pick (.t 13) (.t 16) (.b false)), .m 4 (.t 17)]) .ret))
theorem rTsm_w {args : List AV} {H : List AObj} {R : AV → List AObj → Prop} (h : wp Try.prog [] H.length rTsm_ac (bodyW [(.t 4)] (Nr R .mk)) (args ++ List.replicate (18 - args.length) .und) H) : ACalls Try.prog 28 args H R :=
  ACalls.of_wp Try.func28 rfl (by kernel_rfl) rfl Try.ntmps28 h
theorem rTsm_p (h : TnOk S F L V) (k : TnOk T G M W) (hf : Few S F L V) (kf : Few T G M W) :
    Pu Try.prog 28 [tnW S F L V, tnW T G M W] (Bo (decide (S = T ∧ F = G ∧ V = W ∧ L = M ∧ tnC S F L V = 0))) := by
  refine Pu.of 4 (rTsm_w ?_)
  have q1 := rtCheck_p h hf
  have q2 := rtCheck_p k kf
  have q3 := rTeq_p h k (by have := hf.f; omega) (by have := hf.l; omega)
  clear h k hf kf
  simp (disch := omega) [ar, -List.take_append_getElem, rTsm_ac]
  refine Pu.c q1 ?_
  by_cases h1 : tnC S F L V = 0
  case neg =>
    simp (disch := omega) [ar, -List.take_append_getElem, h1]
  simp (disch := omega) [ar, -List.take_append_getElem, h1]
  refine Pu.c q2 ?_
  by_cases h2 : tnC T G M W = 0
  case neg =>
    have : ¬ (S = T ∧ F = G ∧ V = W ∧ L = M) := by
      rintro ⟨rfl, rfl, rfl, rfl⟩
      exact h2 h1
    have e : decide (S = T ∧ F = G ∧ V = W ∧ L = M) = false := by simpa using this
    have e2 : decide (S = T ∧ F = G ∧ V = W ∧ L = M ∧ tnC S F L V = 0) = false := by simp only [decide_eq_false_iff_not]; exact fun h => this ⟨h.1, h.2.1, h.2.2.1, h.2.2.2.1⟩
    simp (disch := omega) [ar, -List.take_append_getElem, h1, h2]
    exact fun a b c d => this ⟨a, b, c, d⟩
  simp (disch := omega) [ar, -List.take_append_getElem, h2]
  refine Pu.c q3 ?_
  simp (disch := omega) [ar, -List.take_append_getElem, h1]
end
end Go.Fw
