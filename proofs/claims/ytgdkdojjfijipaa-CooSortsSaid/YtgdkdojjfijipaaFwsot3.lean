/- The document's Trim, and Plain. -/
import Derived.Test.YtgdkdojjfijipaaFwsot2
namespace Go.Fw
open Go Go.RowKit Go.Proofs
set_option maxRecDepth 100000
set_option linter.unusedSimpArgs false
set_option linter.unusedVariables false
def nz (t : List Int × Int) : Bool := !decide (t.2 = 0)
def rTrim_1 : AC := (.seq (.ops [.o 22 (.bin .lss (.t 21) (.t 20))]) (.seq (.cond (.t 22) .skip (.exit 0)) (.seq (.block 1 (.seq (.ops [.o 23 (.iad 2 (.t 19) (.t 21)), .o 24 (.ld 2 true (.t 23)), .o 7 (.new 38 2 (.c (.agg [nil0, (.sc (.int .i64 0))]))), .on (.st 2 (.t 7) (.t 24))]) (.seq (.ops [.o 25 (.fad 1 (.t 7)), .o 26 (.ld 1 false (.t 25)), .o 27 (.bin .neq (.t 26) (.i 0))]) (.cond (.t 27) (.ops [.o 28 (.fad 1 (.t 5)), .o 29 (.ld 1 false (.t 28)), .o 30 (.ld 2 true (.t 7)), .c 31 true (.f 52) [(.t 30)], .o 32 (.lit 2 [(.t 31)]), .o 33 (.app 38 2 32 (.t 29) (.t 32)), .o 34 (.fad 1 (.t 5)), .on (.st 1 (.t 34) (.t 33))]) .skip)))) (.ops [.o 35 (.bin .add (.t 21) (.i 1)), .m 21 (.t 35)]))))
def rTrim_ac : AC := (.seq (.ops [.o 1 (.new 25 2 (.t 0)), .o 2 (.new 25 2 (.c (.agg [nil0, nil0]))), .m 3 (.i 0)]) (.seq (.seq (.ops [.o 8 (.ld 2 true (.t 1)), .c 9 false (.f 28) [(.t 8)], .m 4 (.t 9)]) (.seq (.ops [.m 10 (.t 4), .o 11 (.bin .neq (.t 10) (.i 0))]) (.cond (.t 11) (.seq (.ops [.o 12 (.mk [nil0, nil0] []), .m 13 (.t 4), .on (.st 2 (.t 2) (.t 12)), .m 3 (.t 13)]) .ret) .skip))) (.seq (.ops [.o 14 (.fad 0 (.t 1)), .o 15 (.ld 1 false (.t 14)), .o 16 (.app 3 1 8 .z (.t 15)), .o 17 (.mk [nil0, nil0] [(0, (1, (.t 16)))]), .o 5 (.new 25 2 (.c (.agg [nil0, nil0]))), .on (.st 2 (.t 5) (.t 17))]) (.seq (.seq (.ops [.o 18 (.fad 1 (.t 1)), .o 19 (.ld 1 false (.t 18)), .o 20 (.len (.t 19)), .m 21 (.i 0)]) (.block 0 (.loop rTrim_1))) (.seq (.ops [.o 36 (.ld 2 true (.t 5)), .on (.st 2 (.t 2) (.t 36)), .m 3 (.i 0)]) .ret)))))
theorem rTrim_w {args : List AV} {H : List AObj} {R : AV → List AObj → Prop} (h : wp Try.prog [] H.length rTrim_ac (bodyW [(.cell 2 2 true), (.t 3)] (Nr R .mk)) (args ++ List.replicate (37 - args.length) .und) H) : ACalls Try.prog 24 args H R :=
  ACalls.of_wp Try.func24 rfl (by kernel_rfl) rfl Try.ntmps24 h
set_option maxHeartbeats 2000000 in
theorem rTrim_p {X : List Int × List (List Int × Int)} (hX : InX X) : Pu Try.prog 24 [cooV X] (.tup [cooV (trimF X).1, I (trimF X).2]) := by
  refine Pu.of 6 (rTrim_w ?_)
  have hc := rcCheck_p hX
  obtain ⟨S, E⟩ := X
  simp (disch := omega) [ar, -List.take_append_getElem, rTrim_ac]
  refine Pu.c hc ?_
  clear hc
  by_cases hk : cooCheck S E = 0
  case neg =>
    have e : trimF (S, E) = (([], []), cooCheck S E) := by rw [trimF, if_pos hk]
    simp (disch := omega) [ar, -List.take_append_getElem, hk, e]
  have e : trimF (S, E) = ((S, E.filter nz), 0) := by rw [trimF, if_neg (by simpa using hk)]; rfl
  obtain ⟨hS4, hE6, hcs, hat⟩ := cooCheck_len hk
  have hi2 : ∀ t ∈ E, t.1.length ≤ 1000000 := fun t ht => by have := atF_len (hat t ht); omega
  have hE : E.length ≤ 1000000 := by omega
  clear hat hX
  rw [e]
  clear e
  have hS1 := I_one S
  by_cases h0 : S = []
  · subst h0
    simp (disch := omega) [ar, -List.take_append_getElem, hk, elems]
    refine Lp.stw (σ := Nat) 4 (fun i => i ≤ E.length) (fun i => E.length - i) (fun i => fm 37 [(2, .ptr 1 1 0 0), (3, I 0), (5, .ptr 2 1 0 0), (19, eV E), (20, I E.length), (21, I i)])
      (fun i => [bx 25 2 (cooV ([], E)), bx 25 2 (.agg [nil0, nil0])] ++ [bx 25 2 (.agg [nil0, .slc 3 ((E.take i).filter nz).length 0 ((E.take i).filter nz).length none]), ow 38 2 (((E.take i).filter nz).map tV)]) 0 (Nat.zero_le _) ?_ ?_
    · refine (Weak.ownAt 2 0 1 38 2 (by omega) (o := bx 25 2 (.agg [nil0, nil0])) (e0 := .agg [nil0, nil0]) (e1 := .agg [nil0, .slc 3 0 0 0 none]) (c := none) (sz' := 0) rfl rfl rfl rfl (by simp [cellsOf])).trans (Weak.le (by simp) ?_)
      simp [leH.refl]
    intro i hi
    have hAl := List.length_filter_le nz (E.take i)
    have hAn : ∀ h : i < E.length, (E.take (i + 1)).filter nz = (E.take i).filter nz ++ if E[i].2 = 0 then [] else [E[i]] := fun h => by
      rw [List.take_succ_eq_append_getElem h, List.filter_append, List.filter_cons, List.filter_nil]
      by_cases h0 : E[i].2 = 0 <;> simp [nz, h0]
    have hAe : i = E.length → (E.take i).filter nz = E.filter nz := fun h => by rw [List.take_of_length_le (by omega)]
    rw [List.length_take] at hAl
    generalize (E.take i).filter nz = A at hAl hAn hAe ⊢
    simp (disch := omega) [ar, -List.take_append_getElem, rTrim_1]
    (first | refine Cnd.sp (fun h1 => ?_) fun h1 => ?_ | refine Gd.sp (fun h1 => ?_) fun h1 => ?_) <;> (try simp at h1) <;> (try simp (disch := omega) [ar, -List.take_append_getElem, h1])
    · have hAn := hAn h1
      have hti := hi2 _ (List.getElem_mem h1)
      clear hAe
      generalize hj : (E.take (i + 1)).filter nz = N at hAn
      generalize E[i] = t at hAn hti ⊢
      have hA1 := tV_one A
      have hA2 := tV_fz A
      by_cases h0t : t.2 = 0
      · rw [if_pos h0t, List.append_nil] at hAn
        simp (disch := omega) [ar, -List.take_append_getElem, h0t]
        refine ⟨i + 1, by omega, by omega, by omega, ?_⟩
        rw [hj, hAn]
        simp [hA2]
      · rw [if_neg h0t] at hAn
        simp (disch := omega) [ar, -List.take_append_getElem, h0t]
        refine Pu.c (rOwn_p t hti) ?_
        generalize hAV : A.map tV = AV at hA1 hA2 ⊢
        have hAVl : AV.length = A.length := by rw [← hAV]; simp
        simp (disch := omega) [ar, -List.take_append_getElem, hA1, hAVl]
        refine ⟨i + 1, by omega, by omega, by omega, ?_⟩
        rw [hj, hAn]
        simp [hAV, hA2, ow]
        exact ⟨t.1, t.2, by rw [← List.mem_filter, hj, hAn]; simp⟩
    · have h2 : i = E.length := by omega
      rw [hAe h2]
      simp (disch := omega) [ar, -List.take_append_getElem]
  · simp (disch := omega) [ar, -List.take_append_getElem, hk, elems, h0, hS1]
    refine Lp.stw (σ := Nat) 5 (fun i => i ≤ E.length) (fun i => E.length - i) (fun i => fm 37 [(2, .ptr 1 1 0 0), (3, I 0), (5, .ptr 3 1 0 0), (19, eV E), (20, I E.length), (21, I i)])
      (fun i => [bx 25 2 (cooV (S, E)), bx 25 2 (.agg [nil0, nil0]), ow 3 1 (S.map I)] ++ [bx 25 2 (.agg [.slc 2 S.length 0 S.length none, .slc 4 ((E.take i).filter nz).length 0 ((E.take i).filter nz).length none]), ow 38 2 (((E.take i).filter nz).map tV)]) 0 (Nat.zero_le _) ?_ ?_
    · refine (Weak.ownAt 3 0 1 38 2 (by omega) (o := bx 25 2 (.agg [.slc 2 S.length 0 S.length none, nil0])) (e0 := .agg [.slc 2 S.length 0 S.length none, nil0]) (e1 := .agg [.slc 2 S.length 0 S.length none, .slc 4 0 0 0 none]) (c := none) (sz' := 0) rfl rfl rfl rfl (by simp [cellsOf])).trans (Weak.le (by simp) ?_)
      simp [leH.refl, h0, ow]
    intro i hi
    have hAl := List.length_filter_le nz (E.take i)
    have hAn : ∀ h : i < E.length, (E.take (i + 1)).filter nz = (E.take i).filter nz ++ if E[i].2 = 0 then [] else [E[i]] := fun h => by
      rw [List.take_succ_eq_append_getElem h, List.filter_append, List.filter_cons, List.filter_nil]
      by_cases h0 : E[i].2 = 0 <;> simp [nz, h0]
    have hAe : i = E.length → (E.take i).filter nz = E.filter nz := fun h => by rw [List.take_of_length_le (by omega)]
    rw [List.length_take] at hAl
    generalize (E.take i).filter nz = A at hAl hAn hAe ⊢
    simp (disch := omega) [ar, -List.take_append_getElem, rTrim_1]
    (first | refine Cnd.sp (fun h1 => ?_) fun h1 => ?_ | refine Gd.sp (fun h1 => ?_) fun h1 => ?_) <;> (try simp at h1) <;> (try simp (disch := omega) [ar, -List.take_append_getElem, h1])
    · have hAn := hAn h1
      have hti := hi2 _ (List.getElem_mem h1)
      clear hAe
      generalize hj : (E.take (i + 1)).filter nz = N at hAn
      generalize E[i] = t at hAn hti ⊢
      have hA1 := tV_one A
      have hA2 := tV_fz A
      by_cases h0t : t.2 = 0
      · rw [if_pos h0t, List.append_nil] at hAn
        simp (disch := omega) [ar, -List.take_append_getElem, h0t]
        refine ⟨i + 1, by omega, by omega, by omega, ?_⟩
        rw [hj, hAn]
        simp [hA2]
      · rw [if_neg h0t] at hAn
        simp (disch := omega) [ar, -List.take_append_getElem, h0t]
        refine Pu.c (rOwn_p t hti) ?_
        generalize hAV : A.map tV = AV at hA1 hA2 ⊢
        have hAVl : AV.length = A.length := by rw [← hAV]; simp
        simp (disch := omega) [ar, -List.take_append_getElem, hA1, hAVl]
        refine ⟨i + 1, by omega, by omega, by omega, ?_⟩
        rw [hj, hAn]
        simp [hAV, hA2, ow]
        exact ⟨t.1, t.2, by rw [← List.mem_filter, hj, hAn]; simp⟩
    · have h2 : i = E.length := by omega
      rw [hAe h2]
      simp (disch := omega) [ar, -List.take_append_getElem]
def rPlain_ac : AC := (.seq (.ops [.o 1 (.new 25 2 (.t 0)), .o 2 (.new 25 2 (.c (.agg [nil0, nil0]))), .m 3 (.i 0)]) (.seq (.ops [.o 7 (.ld 2 true (.t 1)), .c 8 false (.f 22) [(.t 7), .z], .m 6 (.t 8), .o 9 (.ext (.t 6) 0), .o 10 (.ext (.t 6) 1), .o 4 (.new 25 2 (.c (.agg [nil0, nil0]))), .on (.st 2 (.t 4) (.t 9)), .m 5 (.t 10)]) (.seq (.seq (.ops [.m 11 (.t 5), .o 12 (.bin .neq (.t 11) (.i 0))]) (.cond (.t 12) (.seq (.ops [.o 13 (.mk [nil0, nil0] []), .m 14 (.t 5), .on (.st 2 (.t 2) (.t 13)), .m 3 (.t 14)]) .ret) .skip)) (.seq (.ops [.o 15 (.ld 2 true (.t 4)), .c 16 false (.f 24) [(.t 15)], .o 17 (.ext (.t 16) 0), .o 18 (.ext (.t 16) 1), .on (.st 2 (.t 2) (.t 17)), .m 3 (.t 18)]) .ret))))
theorem rPlain_w {args : List AV} {H : List AObj} {R : AV → List AObj → Prop} (h : wp Try.prog [] H.length rPlain_ac (bodyW [(.cell 2 2 true), (.t 3)] (Nr R .mk)) (args ++ List.replicate (19 - args.length) .und) H) : ACalls Try.prog 26 args H R :=
  ACalls.of_wp Try.func26 rfl (by kernel_rfl) rfl Try.ntmps26 h
theorem rPlain_p {X : List Int × List (List Int × Int)} (hX : InX X) (hE : X.2.length ≤ 1000000) : Pu Try.prog 26 [cooV X] (.tup [cooV (plainF X).1, I (plainF X).2]) := by
  refine Pu.of 6 (rPlain_w ?_)
  have hj := rJoin_p (O := []) hX ⟨by simp, by simp⟩ (by simp) hE
  have hin := joinF_in (O := []) hX
  have e : plainF X = if (joinF X []).2 ≠ 0 then (([], []), (joinF X []).2) else trimF (joinF X []).1 := rfl
  simp (disch := omega) [ar, -List.take_append_getElem, rPlain_ac]
  refine Pu.c hj ?_
  rw [e]
  clear hj e
  generalize joinF X [] = F at hin ⊢
  obtain ⟨Y, er⟩ := F
  by_cases h0 : er = 0
  case neg =>
    simp (disch := omega) [ar, -List.take_append_getElem, h0]
  subst h0
  have ht := rTrim_p hin
  simp (disch := omega) [ar, -List.take_append_getElem]
  refine Pu.c ht ?_
  simp (disch := omega) [ar, -List.take_append_getElem]
end Go.Fw
