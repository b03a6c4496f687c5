/- The document's Sort, Join, Trim, Plain. -/
import Derived.Test.YtgdkdojjfijipaaFwsot1
import Derived.Test.YtgdkdojjfijipaaFwcoo14
import Derived.Test.YtgdkdojjfijipaaFwref02c
import Derived.Test.YtgdkdojjfijipaaFwcoo11
namespace Go.Fw
open Go Go.RowKit Go.Proofs
set_option maxRecDepth 100000
set_option linter.unusedSimpArgs false
set_option linter.unusedVariables false
theorem rcCheck_p {X : List Int × List (List Int × Int)} (hX : InX X) : Pu Try.prog 28 [cooV X] (I (cooCheck X.1 X.2)) := Pu.mk (rcCheck_spec (cooV_coo hX))
theorem ACalls.pu {P : Program} {f : FuncId} {args : List AV} {v : AV} (h : ACalls P f args [] fun r H' => H' = [] ∧ Wk r v) : Pu P f args v := h.wk fun r H' hr => ⟨v, hr.2, hr.1, rfl⟩
theorem rOrder_p {O : List Int} {n : Nat} (hO : InI O) (hl : O.length ≤ 1000000) (hn : n ≤ 1000) : Pu Try.prog 17 [I n, Is O] (.tup [Is (rOrd n O).1, Bo (rOrd n O).2]) := by
  refine ((rOrder_spec (Is_sl hO.1 hO) hl hn).mono ?_).pu
  rintro r H' ⟨h, q, rfl, hq⟩
  exact ⟨h, by simp [hq.wk]⟩
theorem orderF_in {X : List Int × List (List Int × Int)} {O : List Int} (h : (orderF X O).2 = 0) (hS : X.1.length ≤ 4) : InI (orderF X O).1 := by
  have hp := (orderF_ok h).2
  refine ⟨?_, fun x hx => ?_⟩
  · have := hp.length_eq; simp at this; omega
  · have := orderF_rng h x hx
    omega
def rSort_ac : AC := (.seq (.ops [.o 2 (.new 25 2 (.t 0)), .o 4 (.new 25 2 (.c (.agg [nil0, nil0]))), .m 5 (.i 0)]) (.seq (.seq (.ops [.o 10 (.ld 2 true (.t 2)), .c 11 false (.f 28) [(.t 10)], .m 6 (.t 11)]) (.seq (.ops [.m 12 (.t 6), .o 13 (.bin .neq (.t 12) (.i 0))]) (.cond (.t 13) (.seq (.ops [.o 14 (.mk [nil0, nil0] []), .m 15 (.t 6), .on (.st 2 (.t 4) (.t 14)), .m 5 (.t 15)]) .ret) .skip))) (.seq (.ops [.o 17 (.fad 0 (.t 2)), .o 18 (.ld 1 false (.t 17)), .o 19 (.len (.t 18)), .m 20 (.t 1), .c 21 false (.f 17) [(.t 19), (.t 20)], .m 16 (.t 21), .o 22 (.ext (.t 16) 0), .o 23 (.ext (.t 16) 1), .m 7 (.t 22), .m 8 (.t 23)]) (.seq (.seq (.ops [.m 24 (.t 8), .o 25 (.un .not (.t 24))]) (.cond (.t 25) (.seq (.ops [.o 26 (.mk [nil0, nil0] []), .on (.st 2 (.t 4) (.t 26)), .m 5 (.i 1)]) .ret) .skip)) (.seq (.ops [.o 27 (.ld 2 true (.t 2)), .c 28 false (.f 20) [(.t 27)], .o 9 (.new 25 2 (.c (.agg [nil0, nil0]))), .on (.st 2 (.t 9) (.t 28))]) (.seq (.ops [.o 29 (.fad 1 (.t 9)), .o 30 (.ld 1 false (.t 29)), .m 31 (.t 7), .c 32 false (.f 53) [(.t 30), (.t 31)], .o 33 (.fad 1 (.t 9)), .on (.st 1 (.t 33) (.t 32))]) (.seq (.ops [.o 34 (.ld 2 true (.t 9)), .on (.st 2 (.t 4) (.t 34)), .m 5 (.i 0)]) .ret)))))))
theorem rSort_w {args : List AV} {H : List AObj} {R : AV → List AObj → Prop} (h : wp Try.prog [] H.length rSort_ac (bodyW [(.cell 4 2 true), (.t 5)] (Nr R .mk)) (args ++ List.replicate (35 - args.length) .und) H) : ACalls Try.prog 21 args H R :=
  ACalls.of_wp Try.func21 rfl (by kernel_rfl) rfl Try.ntmps21 h
set_option maxHeartbeats 1000000 in
theorem rSort_p {X : List Int × List (List Int × Int)} {O : List Int} (hX : InX X) (hO : InI O) (hl : O.length ≤ 1000) : Pu Try.prog 21 [cooV X, Is O] (.tup [cooV (sortF X O).1, I (sortF X O).2]) := by
  refine Pu.of 6 (rSort_w ?_)
  obtain ⟨S, E⟩ := X
  have hc := rcCheck_p hX
  simp (disch := omega) [ar, -List.take_append_getElem, rSort_ac]
  refine Pu.c hc ?_
  by_cases hk : cooCheck S E = 0
  case neg =>
    have e : sortF (S, E) O = (([], []), cooCheck S E) := by
      have e1 : orderF (S, E) O = ([], cooCheck S E) := by rw [orderF, if_pos hk]
      rw [sortF, e1, if_pos hk]
    simp (disch := omega) [ar, -List.take_append_getElem, hk, e]
  obtain ⟨hS4, hE6, hcs, hat⟩ := cooCheck_len hk
  obtain ⟨e1, e2, e3⟩ := rOrd_eq (X := (S, E)) (O := O) hk
  simp (disch := omega) [ar, -List.take_append_getElem, hk]
  refine Pu.c (rOrder_p (n := S.length) hO (by omega) (by omega)) ?_
  simp only at e1 e2 e3
  by_cases ho : (orderF (S, E) O).2 = 0
  case neg =>
    have e : sortF (S, E) O = (([], []), 1) := by rw [sortF, if_pos ho, (e3 ho).1]
    simp (disch := omega) [ar, -List.take_append_getElem, e1, ho, e]
  have hrng := orderF_rng ho
  have hin := orderF_in ho hS4
  have hpl := (orderF_ok ho).2.length_eq
  have e : sortF (S, E) O = ((S, E.mergeSort (leO (orderF (S, E) O).1)), 0) := by rw [sortF, if_neg (by omega)]
  rw [e]
  simp (disch := omega) [ar, -List.take_append_getElem, e1, ho, e2 ho]
  refine Pu.c (rCopy_p (S, E) (by show S.length ≤ _; omega) (by show E.length ≤ _; omega) (fun t ht => by have := atF_len (hat t ht); omega)) ?_
  simp (disch := omega) [ar, -List.take_append_getElem]
  refine Pu.c (rSorted_p _ hin (by simp at hpl; omega) E.length E (Nat.le_refl _) (by omega) hX.2 (fun t ht m hm => by have := atF_len (hat t ht); have := hrng m hm; simp only at this; omega)) ?_
  simp (disch := omega) [ar, -List.take_append_getElem]
theorem sortF_many (X : List Int × List (List Int × Int)) (O : List Int) : (sortF X O).1.2.length ≤ 65536 ∧ InX X → InX (sortF X O).1 := fun h => sortF_in h.2
theorem tV_fz (A : List (List Int × Int)) (H : List AObj) (k n : Nat) (b : Bool) : (A.map tV).map (fz H k (n + 1) b) = A.map tV := by rw [List.map_map, fz_tV]
theorem rEqualC_p {a b : List Int} (ha : InI a) (hb : InI b) : Pu Try.prog 41 [Is a, Is b] (Bo (decide (a = b))) := Pu.mk (rEqual_spec (Is_sl ha.1 ha) (Is_sl hb.1 hb))
def rJoin_1 : AC := (.seq (.ops [.o 29 (.bin .lss (.t 28) (.t 27))]) (.seq (.cond (.t 29) .skip (.exit 0)) (.seq (.block 1 (.seq (.ops [.o 30 (.iad 2 (.t 26) (.t 28)), .o 31 (.ld 2 true (.t 30)), .o 10 (.new 38 2 (.c (.agg [nil0, (.sc (.int .i64 0))]))), .on (.st 2 (.t 10) (.t 31))]) (.seq (.ops [.o 32 (.fad 1 (.t 8)), .o 33 (.ld 1 false (.t 32)), .o 34 (.len (.t 33)), .m 11 (.t 34)]) (.seq (.ops [.m 35 (.t 11), .o 36 (.bin .gtr (.t 35) (.i 0)), .m 37 (.t 36), .og 38 37 true (.fad 1 (.t 8)), .og 39 37 true (.ld 1 false (.t 38)), .mg 40 37 true (.t 11), .og 41 37 true (.bin .sub (.t 40) (.i 1)), .og 42 37 true (.iad 2 (.t 39) (.t 41)), .og 43 37 true (.fad 0 (.t 42)), .og 44 37 true (.ld 1 false (.t 43)), .og 45 37 true (.fad 0 (.t 10)), .og 46 37 true (.ld 1 false (.t 45)), .cg 47 37 true true (.f 41) [(.t 44), (.t 46)], .o 48 (.pick (.t 37) (.t 47) (.b false))]) (.cond (.t 48) (.ops [.o 49 (.fad 1 (.t 8)), .o 50 (.ld 1 false (.t 49)), .m 51 (.t 11), .o 52 (.bin .sub (.t 51) (.i 1)), .o 53 (.iad 2 (.t 50) (.t 52)), .o 54 (.fad 1 (.t 53)), .o 55 (.ld 1 false (.t 54)), .o 56 (.fad 1 (.t 10)), .o 57 (.ld 1 false (.t 56)), .o 58 (.bin .add (.t 55) (.t 57)), .o 59 (.iad 2 (.t 50) (.t 52)), .o 60 (.fad 1 (.t 59)), .on (.st 1 (.t 60) (.t 58))]) (.ops [.o 61 (.fad 1 (.t 8)), .o 62 (.ld 1 false (.t 61)), .o 63 (.ld 2 true (.t 10)), .o 64 (.lit 2 [(.t 63)]), .o 65 (.app 38 2 32 (.t 62) (.t 64)), .o 66 (.fad 1 (.t 8)), .on (.st 1 (.t 66) (.t 65))])))))) (.ops [.o 67 (.bin .add (.t 28) (.i 1)), .m 28 (.t 67)]))))
def rJoin_ac : AC := (.seq (.ops [.o 2 (.new 25 2 (.t 0)), .o 4 (.new 25 2 (.c (.agg [nil0, nil0]))), .m 5 (.i 0)]) (.seq (.ops [.o 13 (.ld 2 true (.t 2)), .m 14 (.t 1), .c 15 false (.f 21) [(.t 13), (.t 14)], .m 12 (.t 15), .o 16 (.ext (.t 12) 0), .o 17 (.ext (.t 12) 1), .o 6 (.new 25 2 (.c (.agg [nil0, nil0]))), .on (.st 2 (.t 6) (.t 16)), .m 7 (.t 17)]) (.seq (.seq (.ops [.m 18 (.t 7), .o 19 (.bin .neq (.t 18) (.i 0))]) (.cond (.t 19) (.seq (.ops [.o 20 (.mk [nil0, nil0] []), .m 21 (.t 7), .on (.st 2 (.t 4) (.t 20)), .m 5 (.t 21)]) .ret) .skip)) (.seq (.ops [.o 22 (.fad 0 (.t 6)), .o 23 (.ld 1 false (.t 22)), .o 24 (.mk [nil0, nil0] [(0, (1, (.t 23)))]), .o 8 (.new 25 2 (.c (.agg [nil0, nil0]))), .on (.st 2 (.t 8) (.t 24))]) (.seq (.seq (.ops [.o 25 (.fad 1 (.t 6)), .o 26 (.ld 1 false (.t 25)), .o 27 (.len (.t 26)), .m 28 (.i 0)]) (.block 0 (.loop rJoin_1))) (.seq (.ops [.o 68 (.ld 2 true (.t 8)), .on (.st 2 (.t 4) (.t 68)), .m 5 (.i 0)]) .ret))))))
theorem rJoin_w {args : List AV} {H : List AObj} {R : AV → List AObj → Prop} (h : wp Try.prog [] H.length rJoin_ac (bodyW [(.cell 4 2 true), (.t 5)] (Nr R .mk)) (args ++ List.replicate (69 - args.length) .und) H) : ACalls Try.prog 22 args H R :=
  ACalls.of_wp Try.func22 rfl (by kernel_rfl) rfl Try.ntmps22 h
set_option maxHeartbeats 2000000 in
theorem rJoin_p {X : List Int × List (List Int × Int)} {O : List Int} (hX : InX X) (hO : InI O) (hl : O.length ≤ 1000) (hE : X.2.length ≤ 1000000) : Pu Try.prog 22 [cooV X, Is O] (.tup [cooV (joinF X O).1, I (joinF X O).2]) := by
  refine Pu.of 6 (rJoin_w ?_)
  have hs := rSort_p hX hO hl
  have hin := sortF_in (O := O) hX
  have hsl : (sortF X O).1.2.length ≤ 1000000 := by
    unfold sortF; split
    · simp
    · simpa using hE
  simp (disch := omega) [ar, -List.take_append_getElem, rJoin_ac]
  refine Pu.c hs ?_
  rw [joinF]
  have hbad : (sortF X O).2 ≠ 0 → (sortF X O).1 = ([], []) := fun h => by
    unfold sortF at h ⊢; split
    · rfl
    · rename_i h1; rw [if_neg h1] at h; simp at h
  generalize sortF X O = F at hs hin hsl hbad ⊢
  obtain ⟨⟨S, E⟩, er⟩ := F
  simp only at hs hin hsl hbad ⊢
  clear hs
  by_cases h0 : er = 0
  case neg =>
    have := hbad h0
    simp only [Prod.mk.injEq] at this
    obtain ⟨rfl, rfl⟩ := this
    simp (disch := omega) [ar, -List.take_append_getElem, h0]
  subst h0
  clear hbad
  simp (disch := omega) [ar, -List.take_append_getElem]
  refine Lp.stw (σ := Nat) 5 (fun i => i ≤ E.length) (fun i => E.length - i) (fun i => fm 69 [(4, .ptr 1 1 0 0), (5, I 0), (8, .ptr 3 1 0 0), (26, eV E), (27, I E.length), (28, I i)])
    (fun i => [bx 25 2 (cooV X), bx 25 2 (.agg [nil0, nil0]), bx 25 2 (cooV (S, E)), bx 25 2 (.agg [Is S, .slc 4 (joinL (E.take i)).length 0 (joinL (E.take i)).length none]), ow 38 2 ((joinL (E.take i)).map tV)]) 0 (Nat.zero_le _) ?_ ?_
  · refine (Weak.ownAt 3 0 1 38 2 (by omega) (o := bx 25 2 (.agg [Is S, nil0])) (e0 := .agg [Is S, nil0]) (e1 := .agg [Is S, .slc 4 0 0 0 none]) (c := none) (sz' := 0) rfl rfl rfl rfl (by simp [cellsOf])).trans (Weak.le (by simp) ?_)
    simp [leH.refl]
  intro i hi
  have hAi : ∀ t ∈ joinL (E.take i), InI t.1 := fun t ht => by
    obtain ⟨u, hu, e⟩ := joinL_mem ht
    rw [e]; exact hin.2 u (List.mem_of_mem_take hu)
  have hAl := joinL_len E i hi
  have hAn : ∀ h : i < E.length, joinL (E.take (i + 1)) = joinS (joinL (E.take i)) E[i] := fun h => by rw [List.take_succ_eq_append_getElem h, joinL_snoc]
  have hAe : i = E.length → joinL (E.take i) = joinL E := fun h => by rw [List.take_of_length_le (by omega)]
  generalize joinL (E.take i) = A at hAi hAl hAn hAe ⊢
  simp (disch := omega) [ar, -List.take_append_getElem, rJoin_1]
  (first | refine Cnd.sp (fun h1 => ?_) fun h1 => ?_ | refine Gd.sp (fun h1 => ?_) fun h1 => ?_) <;> (try simp at h1) <;> (try simp (disch := omega) [ar, -List.take_append_getElem, h1])
  · have hAn := hAn h1
    have hti := hin.2 _ (List.getElem_mem h1)
    clear hAe
    generalize hj : joinL (E.take (i + 1)) = N at hAn
    generalize E[i] = t at hAn hti ⊢
    have hA1 := tV_one A
    rcases List.eq_nil_or_concat A with rfl | ⟨B, z, rfl⟩
    · rw [joinS_nil] at hAn
      simp (disch := omega) [ar, -List.take_append_getElem]
      refine ⟨i + 1, by omega, by omega, by omega, ?_⟩
      rw [hj, hAn]
      simp
    · have hB1 := tV_one B
      have hB2 := tV_fz B
      rw [List.concat_eq_append] at hA1 hAl hAn hAi ⊢
      have hzi := hAi z (by simp)
      simp only [List.length_append, List.length_singleton, List.map_append, List.map_cons, List.map_nil] at hA1 hAl ⊢
      have hBl : (B.map tV).length = B.length := by simp
      have hBs : B ++ [z] ≠ [] := by simp
      have eq1 : z.1 = t.1 → joinS (B ++ [z]) t = B ++ [(z.1, IntKind.i64.wrap (z.2 + t.2))] := fun h => by
        have := joinS_eq (A := B ++ [z]) (t := t) (by simp) (by simpa using h)
        rw [this]; simp
      have eq2 : z.1 ≠ t.1 → joinS (B ++ [z]) t = B ++ [z] ++ [t] := fun h => joinS_ne (A := B ++ [z]) (t := t) (by simp) (by simpa using h)
      generalize hBV : B.map tV = BV at hA1 hB1 hB2 hBl ⊢
      have hg : (BV ++ [tV z])[B.length]? = some (tV z) := by rw [← hBl]; simp
      have hst : ∀ x, (BV ++ [tV z]).set B.length x = BV ++ [x] := fun x => by rw [← hBl]; simp
      clear hAi
      simp (disch := omega) [ar, -List.take_append_getElem, hBl, hg]
      refine Pu.c (rEqualC_p hzi hti) ?_
      simp (disch := omega) [ar, -List.take_append_getElem]
      (first | refine Cnd.sp (fun h5 => ?_) fun h5 => ?_ | refine Gd.sp (fun h5 => ?_) fun h5 => ?_) <;> (try simp at h5) <;> (try simp (disch := omega) [ar, -List.take_append_getElem, h5])
      · simp (disch := omega) [ar, -List.take_append_getElem, hBl, hg, hst]
        refine ⟨i + 1, by omega, by omega, by omega, ?_⟩
        rw [hj, hAn, eq1 h5]
        simp [hBV, hB2, ow, h5]
      · simp (disch := omega) [ar, -List.take_append_getElem, hBl, hB1]
        refine ⟨i + 1, by omega, by omega, by omega, ?_⟩
        rw [hj, hAn, eq2 h5]
        simp [hBV, hB2, ow]
  · have h2 : i = E.length := by omega
    rw [hAe h2]
    simp (disch := omega) [ar, -List.take_append_getElem]
end Go.Fw
