/- The document's Read. -/
import Derived.Test.YthipbeffhfdamaaFwupk1
import Derived.Test.YthipbeffhfdamaaFwrteq1
import Derived.Test.YthipbeffhfdamaaFwrdo1
import Derived.Test.YthipbeffhfdamaaFwzr05
namespace Go.Fw
open Go Go.RowKit Go.Proofs
set_option maxRecDepth 100000
set_option linter.unusedSimpArgs false
set_option linter.unusedVariables false
section
variable {P : Program} {own : List Nat} {nb : Nat} {a : AC} {Q : Exit → List AV → List AObj → Prop} {fr : List AV} {H : List AObj}
theorem Lp.stw {σ : Type} {b : Blk1 (.loop a) Q} (k : Nat) (J : σ → Prop) (μ : σ → Nat) (F : σ → List AV) (G : σ → List AObj) (s0 : σ) (h0 : J s0) (hw : Weak nb fr H (F s0) (G s0))
    (step : ∀ s, J s → wp P own nb a (qSeq (Nx (fun fr' H' => ∃ s', J s' ∧ μ s' < μ s ∧ wkN nb k 8 fr' H' (F s') (G s')) .mk) Q) (F s) (G s)) : Lp P own nb (.loop a) Q b fr H := by
  refine Lp.on J μ F G s0 hw h0 fun s hs => wp.mono (fun e fr H hq => ?_) (step s hs)
  cases e with
  | normal => obtain ⟨s', h1, h2, h3⟩ := hq; exact ⟨s', h1, h2, Weak.next k 8 h3⟩
  | _ => exact hq
end
theorem I_one (W : List Int) : allOneCell 1 (W.map I) = true := by simp [allOneCell, okEl, cellsOf, oneC]
theorem tV_one (W : List (List Int × Int)) : allOneCell 2 (W.map tV) = true := by simp [allOneCell, okEl, cellsOf, oneC]
@[simp] theorem fz_tV {H : List AObj} {k n : Nat} {b : Bool} : fz H k (n + 1) b ∘ tV = tV := by funext t; simp [fz]
theorem entP_snoc (S : List Int) (F : List (Int × Int × Int)) (L : List Lv) (V : List Int) {i : Nat} (h : i < V.length) : (entP S F L V).take (i + 1) = (entP S F L V).take i ++ [(plcF S F L i, V[i])] := by
  rw [List.take_succ_eq_append_getElem (by simpa using h)]
  simp [entP, h]
theorem rcnt_p {S : List Int} {F : List (Int × Int × Int)} {L : List Lv} {V : List Int} (h : TnOk S F L V) (k : Few S F L V) (hc : tnC S F L V = 0) {ws : List Int} (hw : cntP S F L V = (ws, 0)) : Pu Try.prog 58 [tnW S F L V] (.tup [Is ws, I 0]) := by
  have e : cntF (L.map toA) = (ws, 0) := by
    have hck : tnCheck S F (L.map toA) V = 0 := hc
    have h4 := (tnCheck_ok hck).2.2.2.1
    rw [cntP, countsF, if_neg (by omega)] at hw
    exact Prod.ext (congrArg (·.1) hw) h4
  have := rcounts_spec (V := V) (Is_sl h.s) h.sp h.ls (Is_sl h.v) (by have := k.l; simp; omega) (fun x hx => by
    obtain ⟨y, hy, rfl⟩ := List.mem_map.1 hx
    have := k.c y hy
    simp only [toA_lv]
    omega)
  rw [e] at this
  refine (this.mono ?_).pu
  rintro r H' ⟨hH, o, rfl, ho⟩
  exact ⟨hH, by simp [ho.wk]⟩
def rRd_1 : AC := (.seq (.ops [.o 33 (.bin .lss (.t 32) (.t 31))]) (.seq (.cond (.t 33) .skip (.exit 0)) (.seq (.block 1 (.seq (.ops [.m 34 (.t 32), .o 35 (.iad 1 (.t 30) (.t 32)), .o 36 (.ld 1 false (.t 35)), .m 9 (.t 34), .m 10 (.t 36)]) (.ops [.o 37 (.fad 1 (.t 8)), .o 38 (.ld 1 false (.t 37)), .o 39 (.ld 4 true (.t 1)), .m 40 (.t 7), .m 41 (.t 9), .m 43 (.t 10), .c 42 true (.f 65) [(.t 39), (.t 40), (.t 41)], .o 44 (.mk [nil0, (.sc (.int .i64 0))] [(0, (1, (.t 42))), (1, (1, (.t 43)))]), .o 45 (.lit 2 [(.t 44)]), .o 46 (.app 52 2 32 (.t 38) (.t 45)), .o 47 (.fad 1 (.t 8)), .on (.st 1 (.t 47) (.t 46))]))) (.ops [.o 48 (.bin .add (.t 32) (.i 1)), .m 32 (.t 48)]))))
def rRd_c25 : AC := (.seq (.ops [.o 25 (.fad 0 (.t 1)), .o 26 (.ld 1 false (.t 25)), .o 27 (.app 3 1 8 .z (.t 26)), .o 28 (.mk [nil0, nil0] [(0, (1, (.t 27)))]), .o 8 (.new 48 2 (.c (.agg [nil0, nil0]))), .on (.st 2 (.t 8) (.t 28))]) (.seq (.seq (.ops [.o 29 (.fad 3 (.t 1)), .o 30 (.ld 1 false (.t 29)), .o 31 (.len (.t 30)), .m 32 (.i 0)]) (.block 0 (.loop rRd_1))) (.seq (.ops [.o 49 (.ld 2 true (.t 8)), .on (.st 2 (.t 2) (.t 49)), .m 3 (.i 0)]) .ret)))
def rRd_ac : AC := (.seq (.ops [.o 1 (.new 27 4 (.t 0)), .o 2 (.new 48 2 (.c (.agg [nil0, nil0]))), .m 3 (.i 0)]) (.seq (.seq (.ops [.o 11 (.ld 4 true (.t 1)), .c 12 false (.f 26) [(.t 11)], .m 4 (.t 12)]) (.seq (.ops [.m 13 (.t 4), .o 14 (.bin .neq (.t 13) (.i 0))]) (.cond (.t 14) (.seq (.ops [.o 15 (.mk [nil0, nil0] []), .m 16 (.t 4), .on (.st 2 (.t 2) (.t 15)), .m 3 (.t 16)]) .ret) .skip))) (.seq (.ops [.o 18 (.ld 4 true (.t 1)), .c 19 false (.f 58) [(.t 18)], .m 17 (.t 19), .o 20 (.ext (.t 17) 0), .o 21 (.ext (.t 17) 1), .m 5 (.t 20), .m 6 (.t 21)]) (.seq (.ops [.o 22 (.lit 1 [(.i 1)]), .m 23 (.t 5), .o 24 (.app 3 1 8 (.t 22) (.t 23)), .m 7 (.t 24)]) (.here rRd_c25)))))
theorem rRd_w {args : List AV} {H : List AObj} {R : AV → List AObj → Prop} (h : wp Try.prog [] H.length rRd_ac (bodyW [(.cell 2 2 true), (.t 3)] (Nr R .mk)) (args ++ List.replicate (50 - args.length) .und) H) : ACalls Try.prog 29 args H R :=
  ACalls.of_wp Try.func29 rfl (by kernel_rfl) rfl Try.ntmps29 h
section
variable {S : List Int} {F : List (Int × Int × Int)} {L : List Lv} {V : List Int}
set_option maxHeartbeats 2000000 in
theorem rRd_p (h : TnOk S F L V) (k : Few S F L V) : Pu Try.prog 29 [tnW S F L V] (.tup [cooV (lstP S F L V).1, I (lstP S F L V).2]) := by
  refine Pu.of 6 (rRd_w ?_)
  have hc := rtCheck_p h k
  simp (disch := omega) [ar, -List.take_append_getElem, rRd_ac]
  refine Pu.c hc ?_
  clear hc
  by_cases h0 : tnC S F L V = 0
  case neg =>
    have e : lstP S F L V = (([], []), tnC S F L V) := by rw [lstP, if_pos h0]
    rw [e]
    simp (disch := omega) [ar, -List.take_append_getElem, h0]
  have e : lstP S F L V = ((S, entP S F L V), 0) := by rw [lstP, if_neg (by simpa using h0)]
  rw [e]
  clear e
  obtain ⟨ws, hws, hwl, hup⟩ := up_ok h k h0
  have hcnt := rcnt_p h k h0 hws
  have hm := h.modes h0
  have hpl : ∀ i, i < V.length → Pu Try.prog 65 [tnW S F L V, Is (1 :: ws), I i] (Is (plcF S F L i)) := fun i hi => rPl_p hm.1 (by have := k.l; omega) (h.lvf k) hm.2 (by have := k.s; omega) (hup i hi)
  have hV : V.length ≤ 3000 := k.v
  have hSl : S.length ≤ 20 := k.s
  have hwl2 : ws.length ≤ 1000 := by have := k.l; omega
  clear hup hws hm h k hwl
  have hI1 := I_one ws
  simp (disch := omega) [ar, -List.take_append_getElem, h0]
  refine Pu.c hcnt ?_
  have key : wp Try.prog [] 0 rRd_c25 (bodyW [.cell 2 2 true, .t 3] (Nr (fun q G => Wk (fz G 0 6 false q) (.tup [cooV (S, entP S F L V), I 0])) .mk))
      (fm 50 [(1, .ptr 0 1 0 0), (2, .ptr 1 1 0 0), (3, I 0), (7, Is (1 :: ws))]) [bx 27 4 (tnW S F L V), bx 48 2 (.agg [nil0, nil0])] := by
    have hS1 := I_one S
    by_cases hS0 : S = []
    · subst hS0
      simp (disch := omega) [ar, -List.take_append_getElem, rRd_c25, elems]
      refine Lp.stw (σ := Nat) 4 (fun i => i ≤ V.length) (fun i => V.length - i) (fun i => fm 50 [(1, .ptr 0 1 0 0), (2, .ptr 1 1 0 0), (3, I 0), (7, Is (1 :: ws)), (8, .ptr 2 1 0 0), (30, Is V), (31, I V.length), (32, I i)])
        (fun i => [bx 27 4 (tnW [] F L V), bx 48 2 (.agg [nil0, nil0])] ++ [bx 48 2 (.agg [nil0, .slc 3 i 0 i none]), ow 52 2 (((entP [] F L V).take i).map tV)]) 0 (Nat.zero_le _) ?_ ?_
      · refine (Weak.ownAt 2 0 1 52 2 (by omega) (o := bx 48 2 (.agg [nil0, nil0])) (e0 := .agg [nil0, nil0]) (e1 := .agg [nil0, .slc 3 0 0 0 none]) (c := none) (sz' := 0) rfl rfl rfl rfl (by simp [cellsOf])).trans (Weak.le (by simp) ?_)
        simp [leH.refl]
      intro i hi
      have hEl : ((entP [] F L V).take i).length = i := by rw [List.length_take, entP_len]; omega
      have hEn : ∀ h : i < V.length, (entP [] F L V).take (i + 1) = (entP [] F L V).take i ++ [(plcF [] F L i, V[i])] := fun h => entP_snoc [] F L V h
      have hEe : i = V.length → (entP [] F L V).take i = entP [] F L V := fun h => List.take_of_length_le (by rw [entP_len]; omega)
      generalize (entP [] F L V).take i = A at hEl hEn hEe ⊢
      simp (disch := omega) [ar, -List.take_append_getElem, rRd_1]
      (first | refine Cnd.sp (fun h1 => ?_) fun h1 => ?_ | refine Gd.sp (fun h1 => ?_) fun h1 => ?_) <;> (try simp at h1) <;> (try simp (disch := omega) [ar, -List.take_append_getElem, h1])
      · have hi2 : i < V.length := by omega
        have hEn := hEn hi2
        clear hEe
        have hA1 := tV_one A
        have hA2 : ∀ (H : List AObj) (k n : Nat) (b : Bool), (A.map tV).map (fz H k (n + 1) b) = A.map tV := fun H k n b => by rw [List.map_map, fz_tV]
        refine Pu.c (hpl i hi2) ?_
        generalize hj : (entP [] F L V).take (i + 1) = N at hEn
        generalize hAV : A.map tV = AV at hA1 hA2 ⊢
        have hAVl : AV.length = i := by rw [← hAV]; simpa using hEl
        simp (disch := omega) [ar, -List.take_append_getElem, hA1, hAVl]
        refine ⟨i + 1, by omega, by omega, by omega, ?_⟩
        have hT : List.take (i + 1) ((entP [] F L V).map tV) = AV ++ [tV (plcF [] F L i, V[i])] := by rw [← List.map_take, hj, hEn, List.map_append, hAV]; rfl
        have hne : ¬ entP [] F L V = [] := fun e => by
          have := entP_len [] F L V
          rw [e] at this
          simp at this
          omega
        simp [hT, hne, hA2, ow]
      · have h2 : i = V.length := by omega
        rw [hEe h2]
        subst h2
        simp (disch := omega) [ar, -List.take_append_getElem]
        try (simp [← entP_len [] F L V])
    · simp (disch := omega) [ar, -List.take_append_getElem, rRd_c25, elems, hS0, hS1]
      refine Lp.stw (σ := Nat) 5 (fun i => i ≤ V.length) (fun i => V.length - i) (fun i => fm 50 [(1, .ptr 0 1 0 0), (2, .ptr 1 1 0 0), (3, I 0), (7, Is (1 :: ws)), (8, .ptr 3 1 0 0), (30, Is V), (31, I V.length), (32, I i)])
        (fun i => [bx 27 4 (tnW S F L V), bx 48 2 (.agg [nil0, nil0]), ow 3 1 (S.map I)] ++ [bx 48 2 (.agg [.slc 2 S.length 0 S.length none, .slc 4 i 0 i none]), ow 52 2 (((entP S F L V).take i).map tV)]) 0 (Nat.zero_le _) ?_ ?_
      · refine (Weak.ownAt 3 0 1 52 2 (by omega) (o := bx 48 2 (.agg [.slc 2 S.length 0 S.length none, nil0])) (e0 := .agg [.slc 2 S.length 0 S.length none, nil0]) (e1 := .agg [.slc 2 S.length 0 S.length none, .slc 4 0 0 0 none]) (c := none) (sz' := 0) rfl rfl rfl rfl (by simp [cellsOf])).trans (Weak.le (by simp) ?_)
        simp [leH.refl, hS0, ow]
      intro i hi
      have hEl : ((entP S F L V).take i).length = i := by rw [List.length_take, entP_len]; omega
      have hEn : ∀ h : i < V.length, (entP S F L V).take (i + 1) = (entP S F L V).take i ++ [(plcF S F L i, V[i])] := fun h => entP_snoc S F L V h
      have hEe : i = V.length → (entP S F L V).take i = entP S F L V := fun h => List.take_of_length_le (by rw [entP_len]; omega)
      generalize (entP S F L V).take i = A at hEl hEn hEe ⊢
      simp (disch := omega) [ar, -List.take_append_getElem, rRd_1]
      (first | refine Cnd.sp (fun h1 => ?_) fun h1 => ?_ | refine Gd.sp (fun h1 => ?_) fun h1 => ?_) <;> (try simp at h1) <;> (try simp (disch := omega) [ar, -List.take_append_getElem, h1])
      · have hi2 : i < V.length := by omega
        have hEn := hEn hi2
        clear hEe
        have hA1 := tV_one A
        have hA2 : ∀ (H : List AObj) (k n : Nat) (b : Bool), (A.map tV).map (fz H k (n + 1) b) = A.map tV := fun H k n b => by rw [List.map_map, fz_tV]
        refine Pu.c (hpl i hi2) ?_
        generalize hj : (entP S F L V).take (i + 1) = N at hEn
        generalize hAV : A.map tV = AV at hA1 hA2 ⊢
        have hAVl : AV.length = i := by rw [← hAV]; simpa using hEl
        simp (disch := omega) [ar, -List.take_append_getElem, hA1, hAVl]
        refine ⟨i + 1, by omega, by omega, by omega, ?_⟩
        have hT : List.take (i + 1) ((entP S F L V).map tV) = AV ++ [tV (plcF S F L i, V[i])] := by rw [← List.map_take, hj, hEn, List.map_append, hAV]; rfl
        have hne : ¬ entP S F L V = [] := fun e => by
          have := entP_len S F L V
          rw [e] at this
          simp at this
          omega
        simp [hT, hne, hA2, ow]
      · have h2 : i = V.length := by omega
        rw [hEe h2]
        subst h2
        simp (disch := omega) [ar, -List.take_append_getElem]
        try (simp [← entP_len S F L V])
  by_cases hw0 : ws = []
  · subst hw0
    simp (disch := omega) [ar, -List.take_append_getElem, elems]
    exact Hr.next 2 (by simp) key
  · simp (disch := omega) [ar, -List.take_append_getElem, elems, hw0, hI1]
    exact Hr.next 2 (by simp [show 1 + ws.length = ws.length + 1 by omega]) key
end
end Go.Fw
/- The document's Dense and Get. -/
namespace Go.Fw
open Go Go.RowKit Go.Proofs
set_option maxRecDepth 100000
set_option linter.unusedSimpArgs false
set_option linter.unusedVariables false
theorem rAtT_p {S c : List Int} (hS : InI S) (hc : InI c) : Pu Try.prog 67 [Is S, Is c] (.tup [I (atF S c).1, I (atF S c).2]) := Pu.mk (rAt_spec (Is_sl hS) (Is_sl hc))
def rGt_1 : AC := (.seq (.ops [.o 34 (.bin .lss (.t 33) (.t 32))]) (.seq (.cond (.t 34) .skip (.exit 0)) (.seq (.block 1 (.seq (.ops [.o 35 (.iad 2 (.t 31) (.t 33)), .o 36 (.ld 2 true (.t 35)), .o 12 (.new 52 2 (.c (.agg [nil0, (.sc (.int .i64 0))]))), .on (.st 2 (.t 12) (.t 36))]) (.seq (.ops [.o 37 (.fad 0 (.t 12)), .o 38 (.ld 1 false (.t 37)), .m 39 (.t 1), .c 40 false (.f 15) [(.t 38), (.t 39)]]) (.cond (.t 40) (.seq (.ops [.o 41 (.fad 1 (.t 12)), .o 42 (.ld 1 false (.t 41)), .m 4 (.t 42), .m 5 (.b true), .m 6 (.i 0)]) .ret) .skip)))) (.ops [.o 43 (.bin .add (.t 33) (.i 1)), .m 33 (.t 43)]))))
def rGt_ac : AC := (.seq (.ops [.o 2 (.new 27 4 (.t 0)), .m 4 (.i 0), .m 5 (.b false), .m 6 (.i 0)]) (.seq (.ops [.o 14 (.ld 4 true (.t 2)), .c 15 false (.f 29) [(.t 14)], .m 13 (.t 15), .o 16 (.ext (.t 13) 0), .o 17 (.ext (.t 13) 1), .o 7 (.new 48 2 (.c (.agg [nil0, nil0]))), .on (.st 2 (.t 7) (.t 16)), .m 8 (.t 17)]) (.seq (.seq (.ops [.m 18 (.t 8), .o 19 (.bin .neq (.t 18) (.i 0))]) (.cond (.t 19) (.seq (.ops [.m 20 (.t 8), .m 4 (.i 0), .m 5 (.b false), .m 6 (.t 20)]) .ret) .skip)) (.seq (.seq (.ops [.o 22 (.fad 0 (.t 2)), .o 23 (.ld 1 false (.t 22)), .m 24 (.t 1), .c 25 false (.f 67) [(.t 23), (.t 24)], .m 21 (.t 25), .o 26 (.ext (.t 21) 0), .o 27 (.ext (.t 21) 1), .m 9 (.t 26), .m 10 (.t 27)]) (.seq (.ops [.m 28 (.t 10), .o 29 (.bin .neq (.t 28) (.i 0))]) (.cond (.t 29) (.seq (.ops [.m 4 (.i 0), .m 5 (.b false), .m 6 (.i 3)]) .ret) .skip))) (.seq (.seq (.ops [.o 30 (.fad 1 (.t 7)), .o 31 (.ld 1 false (.t 30)), .o 32 (.len (.t 31)), .m 33 (.i 0)]) (.block 0 (.loop rGt_1))) (.seq (.ops [.m 4 (.i 0), .m 5 (.b false), .m 6 (.i 0)]) .ret))))))
theorem rGt_w {args : List AV} {H : List AObj} {R : AV → List AObj → Prop} (h : wp Try.prog [] H.length rGt_ac (bodyW [(.t 4), (.t 5), (.t 6)] (Nr R .mk)) (args ++ List.replicate (44 - args.length) .und) H) : ACalls Try.prog 31 args H R :=
  ACalls.of_wp Try.func31 rfl (by kernel_rfl) rfl Try.ntmps31 h
section
variable {S : List Int} {F : List (Int × Int × Int)} {L : List Lv} {V : List Int}
theorem entP_in (h : TnOk S F L V) (hc : tnC S F L V = 0) : ∀ t ∈ entP S F L V, InI t.1 ∧ (atF S t.1).2 = 0 ∧ 0 ≤ (atF S t.1).1 ∧ (atF S t.1).1 < (cells S).1 := fun t ht => by
  have hck : tnCheck S F (L.map toA) V = 0 := hc
  obtain ⟨w1, w2, w3⟩ := tn_walk h.s.2 hck
  have e := walk_plc h.s.2 hck
  rw [toA_map] at e
  obtain ⟨j, hj, rfl⟩ := List.mem_map.1 ht
  have hm : (plcF S F L j, j) ∈ walkL (L.map toA) F (List.replicate S.length 0) 0 := by rw [e]; exact List.mem_map.2 ⟨j, hj, rfl⟩
  obtain ⟨hi, -⟩ := w3 _ hm
  have h1 := (tnCheck_ok hck).1
  have hcl := (sizesF_ok h1 (fun s hs => (h.f.2 s hs).2.2.2)).1
  obtain ⟨a1, a2, a3⟩ := at_in hcl hi
  refine ⟨⟨by rw [hi.1]; exact h.s.1, fun x hx => ?_⟩, a1, a2, a3⟩
  obtain ⟨i, hil, rfl⟩ := List.mem_iff_getElem.1 hx
  simp only at hil
  have h2 := hi.2 i (by rw [← hi.1]; exact hil)
  have e1 : (plcF S F L j).getD i 0 = (plcF S F L j)[i] := by simp [hil]
  have hiS : i < S.length := by have := hi.1; simp only at this; omega
  have e2 : S.getD i 0 = S[i] := by simp [hiS]
  have := h.s.2 S[i] (List.getElem_mem hiS)
  simp only at h2
  rw [e1, e2] at h2
  simp only at hil ⊢
  omega
theorem firstF_skip (E : List (List Int × Int)) (c : List Int) (i : Nat) (h : i < E.length) (hn : ∀ t ∈ E.take i, t.1 ≠ c) (hi : E[i].1 = c) : firstF E c = (E[i].2, true) := by
  have e : E.find? (fun e => decide (e.1 = c)) = some E[i] := by
    rw [List.find?_eq_some_iff_getElem]
    refine ⟨by simpa using hi, i, h, rfl, fun j hj => ?_⟩
    have := hn E[j] (List.mem_take_iff_getElem.2 ⟨j, by omega, rfl⟩)
    simpa using this
  rw [firstF, e]
theorem firstF_none (E : List (List Int × Int)) (c : List Int) (hn : ∀ t ∈ E, t.1 ≠ c) : firstF E c = (0, false) := by
  have e : E.find? (fun e => decide (e.1 = c)) = none := by
    rw [List.find?_eq_none]
    intro t ht
    simpa using hn t ht
  rw [firstF, e]
set_option maxHeartbeats 1000000 in
theorem rGt_p (h : TnOk S F L V) (k : Few S F L V) {c : List Int} (hc : InI c) : Pu Try.prog 31 [tnW S F L V, Is c] (.tup [I (getP S F L V c).1.1, Bo (getP S F L V c).1.2, I (getP S F L V c).2]) := by
  refine Pu.of 6 (rGt_w ?_)
  have hr := rRd_p h k
  have hat := rAtT_p h.s hc
  have hin := fun h0 => entP_in h (V := V) h0
  have hEl := entP_len S F L V
  have hV := k.v
  clear h k
  simp (disch := omega) [ar, -List.take_append_getElem, rGt_ac]
  refine Pu.c hr ?_
  clear hr
  by_cases h0 : tnC S F L V = 0
  case neg =>
    have e : lstP S F L V = (([], []), tnC S F L V) := by rw [lstP, if_pos h0]
    have e2 : getP S F L V c = ((0, false), tnC S F L V) := by rw [getP, if_pos h0]
    rw [e2]
    simp (disch := omega) [ar, -List.take_append_getElem, e, h0]
  have e : lstP S F L V = ((S, entP S F L V), 0) := by rw [lstP, if_neg (by simpa using h0)]
  have hin := fun t ht => (hin h0 t ht).1
  simp (disch := omega) [ar, -List.take_append_getElem, e]
  refine Pu.c hat ?_
  by_cases h1 : (atF S c).2 = 0
  case neg =>
    have e2 : getP S F L V c = ((0, false), 3) := by rw [getP, if_neg (by omega), if_pos h1]
    rw [e2]
    simp (disch := omega) [ar, -List.take_append_getElem, h1]
  have e2 : getP S F L V c = (firstF (entP S F L V) c, 0) := by rw [getP, if_neg (by omega), if_neg (by omega)]
  rw [e2]
  clear e e2 hat
  generalize entP S F L V = E at hin hEl ⊢
  simp (disch := omega) [ar, -List.take_append_getElem, h1]
  refine Lp.to 2 [] E.length (fun i => ∀ t ∈ E.take i, t.1 ≠ c) (fun i => fm 44 [(1, Is c), (2, .ptr 0 1 0 0), (4, I 0), (5, Bo false), (6, I 0), (7, .ptr 1 1 0 0), (31, eV E), (32, I E.length), (33, I i)]) (fun _ => [bx 27 4 (tnW S F L V), bx 48 2 (cooV (S, E))]) ⟨by simp, by simp⟩ fun i hi hJ => ?_
  simp (disch := omega) [ar, -List.take_append_getElem, rGt_1]
  (first | refine Cnd.sp (fun h4 => ?_) fun h4 => ?_ | refine Gd.sp (fun h4 => ?_) fun h4 => ?_) <;> (try simp at h4) <;> (try simp (disch := omega) [ar, -List.take_append_getElem, h4])
  · have h6 : i < E.length := by omega
    refine Pu.c (rEqualT_p (hin _ (List.getElem_mem h6)) hc) ?_
    by_cases h9 : E[i].1 = c
    · simp (disch := omega) [ar, -List.take_append_getElem, h9]
      rw [firstF_skip E c i h6 hJ h9]
      simp
    · simp (disch := omega) [ar, -List.take_append_getElem, h9]
      intro a b hab
      rcases hab with hab | hab
      · exact hJ _ hab
      · rw [← hab] at h9; exact h9
  · rw [List.take_of_length_le (by omega)] at hJ
    rw [firstF_none E c hJ]
    simp
end
end Go.Fw
