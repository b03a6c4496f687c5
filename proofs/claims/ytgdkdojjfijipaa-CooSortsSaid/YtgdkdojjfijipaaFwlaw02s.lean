/- CooSorts: the phases. -/
import Derived.Test.YtgdkdojjfijipaaFwlaw02r
import Derived.Test.YtgdkdojjfijipaaFwargsC
namespace Go.Fw
open Go Go.RowKit Go.Proofs
set_option maxRecDepth 100000
set_option linter.unusedSimpArgs false
set_option linter.unusedVariables false
theorem cCheck_p {X : List Int × List (List Int × Int)} (hX : InX X) : Pu Try.prog 13 [cooV X] (I (cooCheck X.1 X.2)) := Pu.mk (cCheck_spec (cooV_coo hX))
theorem cSame_p {X Y : List Int × List (List Int × Int)} (hX : InX X) (hY : InX Y) (hXl : X.2.length ≤ 1000000) (hYl : Y.2.length ≤ 1000000) : Pu Try.prog 19 [cooV X, cooV Y] (Bo (decide (X.1 = Y.1 ∧ cooCheck X.1 X.2 = 0 ∧ X.2 = Y.2))) :=
  Pu.mk (cSame_spec (cooV_coo hX) (cooV_coo hY) (by omega) (by omega))
def rcSame_ac : AC := (.seq (.ops [.o 2 (.new 25 2 (.t 0)), .o 3 (.new 25 2 (.t 1)), .m 4 (.b false)]) (.seq (.ops [.o 5 (.ld 2 true (.t 2)), .c 6 false (.f 28) [(.t 5)], .o 7 (.bin .eql (.t 6) (.i 0)), .m 8 (.t 7), .og 9 8 true (.ld 2 true (.t 3)), .cg 10 8 true false (.f 28) [(.t 9)], .og 11 8 true (.bin .eql (.t 10) (.i 0)), .o 12 (.pick (.t 8) (.t 11) (.b false)), .m 13 (.t 12), .og 14 13 true (.ld 2 true (.t 2)), .og 15 13 true (.ld 2 true (.t 3)), .cg 16 13 true false (.f 27) [(.t 14), (.t 15)], .o 17 (.pick (.t 13) (.t 16) (.b false)), .m 4 (.t 17)]) .ret))
theorem rcSame_w {args : List AV} {H : List AObj} {R : AV → List AObj → Prop} (h : wp Try.prog [] H.length rcSame_ac (bodyW [(.t 4)] (Nr R .mk)) (args ++ List.replicate (18 - args.length) .und) H) : ACalls Try.prog 29 args H R :=
  ACalls.of_wp Try.func29 rfl (by kernel_rfl) rfl Try.ntmps29 h
theorem rcSame_p {X Y : List Int × List (List Int × Int)} (hX : InX X) (hY : InX Y) (hXl : X.2.length ≤ 1000000) (hYl : Y.2.length ≤ 1000000) : Pu Try.prog 29 [cooV X, cooV Y] (Bo (decide (X.1 = Y.1 ∧ cooCheck X.1 X.2 = 0 ∧ X.2 = Y.2))) := by
  refine Pu.of 4 (rcSame_w ?_)
  simp (disch := omega) [ar, -List.take_append_getElem, rcSame_ac]
  refine Pu.c (rcCheck_p hX) ?_
  by_cases h1 : cooCheck X.1 X.2 = 0
  · simp (disch := omega) [ar, -List.take_append_getElem, h1]
    refine Pu.c (rcCheck_p hY) ?_
    by_cases h2 : cooCheck Y.1 Y.2 = 0
    · simp (disch := omega) [ar, -List.take_append_getElem, h2]
      refine Pu.c (rcEqC hX hY hXl hYl) ?_
      simp (disch := omega) [ar, -List.take_append_getElem, h1, Prod.ext_iff]
    · simp (disch := omega) [ar, -List.take_append_getElem, h2]
      intro e1 e2
      rw [← e1, ← e2] at h2
      exact h2 h1
  · simp (disch := omega) [ar, -List.take_append_getElem, h1]
theorem eq_lent {K : List AObj} {r : AV} {F : List Int × List (List Int × Int)} (h : CooO 3 K r F) (hF : InX F) : Wks ([r, cooV F].map (frz K 0 8 false)) [cooV F, cooV F] := by
  simp only [List.map_cons, List.map_nil, Wks]
  exact ⟨(h.read hF 4).wk, by simp, trivial⟩
theorem all_len (X : List Int × List (List Int × Int)) (O : List Int) : (sortF X O).1.2.length ≤ X.2.length ∧ (joinF X O).1.2.length ≤ X.2.length ∧ (trimF X).1.2.length ≤ X.2.length ∧ (plainF X).1.2.length ≤ X.2.length := by
  have h1 : ∀ O, (sortF X O).1.2.length ≤ X.2.length := fun O => by
    unfold sortF; split
    · simp
    · simp
  have h2 : ∀ O, (joinF X O).1.2.length ≤ X.2.length := fun O => by
    have := joinL_len (sortF X O).1.2 (sortF X O).1.2.length (Nat.le_refl _)
    rw [List.take_length] at this
    exact Nat.le_trans this (h1 O)
  have h3 : ∀ X, (trimF X).1.2.length ≤ X.2.length := fun X => by
    unfold trimF; split
    · simp
    · exact List.length_filter_le _ _
  refine ⟨h1 O, h2 O, h3 X, ?_⟩
  unfold plainF; split
  · simp
  · exact Nat.le_trans (h3 _) (h2 [])
set_option maxHeartbeats 2000000 in
theorem ph87 {X Y : List Int × List (List Int × Int)} {O : List Int} (hX : InX X) (hY : InX Y) (hO : InI O) (hXl : X.2.length ≤ 2000) (hYl : Y.2.length ≤ 2000) (hOl : O.length ≤ 20) {K : List AObj} {pa pb pc pd pp pq pr ps : Nat}
    (h0 : Im K 0 X) (h1 : Im K 1 Y) (h2 : Im K 2 X) (ha : Ow K pa (sortF X O).1) (hb : Im K pb (sortF X O).1) (hc : Ow K pc (joinF X O).1) (hd : Im K pd (joinF X O).1) (hp : Ow K pp (trimF X).1) (hq : Im K pq (trimF X).1) (hr : Ow K pr (plainF X).1) (hs : Im K ps (plainF X).1) :
    wp Try.prog [149] 0 lSorts_c87 (bodyW [.t 6] (Nr (fun q G => Wk (fz G 0 4 false q) (Bo true)) .mk)) (fm 200 [(2, Is O), (3, .ptr 0 1 0 0), (4, .ptr 1 1 0 0), (7, Bo true), (8, .ptr 2 1 0 0), (9, .ptr pa 1 0 0), (10, I (sortF X O).2), (11, .ptr pb 1 0 0), (12, I (sortF X O).2), (13, .ptr pc 1 0 0), (14, I (joinF X O).2), (15, .ptr pd 1 0 0), (16, I (joinF X O).2),
      (17, .ptr pp 1 0 0), (18, I (trimF X).2), (19, .ptr pq 1 0 0), (20, I (trimF X).2), (21, .ptr pr 1 0 0), (22, I (plainF X).2), (23, .ptr ps 1 0 0), (24, I (plainF X).2)]) K := by
  have iS := sortF_in (O := O) hX
  have iJ := joinF_in (O := O) hX
  have iT := trimF_in hX
  have iP := plainF_in hX
  obtain ⟨lS, lJ, lT, lP⟩ := all_len X O
  have hca : Fine (sortF X O).1 := ⟨by omega, fun w hw => (iS.2 w hw).1⟩
  have hcc : Fine (joinF X O).1 := ⟨by omega, fun w hw => (iJ.2 w hw).1⟩
  have hcp : Fine (trimF X).1 := ⟨by omega, fun w hw => (iT.2 w hw).1⟩
  have hcr : Fine (plainF X).1 := ⟨by omega, fun w hw => (iP.2 w hw).1⟩
  have fa := ha
  have fc := hc
  have fp := hp
  have fr := hr
  obtain ⟨ra, ka, oa⟩ := ha
  obtain ⟨rc, kc, oc⟩ := hc
  obtain ⟨rp, kp, op⟩ := hp
  obtain ⟨rr, kr, or⟩ := hr
  obtain ⟨sa, ea, rfl, -, -⟩ := oa.one
  obtain ⟨sc, ec, rfl, -, -⟩ := oc.one
  obtain ⟨sp, ep, rfl, -, -⟩ := op.one
  obtain ⟨sr, er, rfl, -, -⟩ := or.one
  have g0 := h0
  have g1 := h1
  unfold Im at g0 g1 hb hd hq hs
  have last := ph145 hX hXl hca hcc hcp hcr h0 h2 fa fc fp fr
  clear h0 h1 h2 fa fc fp fr hca hcc hcp hcr
  generalize sortF X O = FS at *
  generalize joinF X O = FJ at *
  generalize trimF X = FT at *
  generalize plainF X = FP at *
  simp (disch := omega) [ar, -List.take_append_getElem, lSorts_c87, ka, hb]
  refine Pu.l 8 (rcEqC iS iS (by omega) (by omega)) ?_ (fun _ => eq_lent oa iS)
  simp (disch := omega) [ar, -List.take_append_getElem, kc, hd]
  refine Pu.l 8 (rcEqC iJ iJ (by omega) (by omega)) ?_ (fun _ => eq_lent oc iJ)
  simp (disch := omega) [ar, -List.take_append_getElem, kp, hq]
  refine Pu.l 8 (rcEqC iT iT (by omega) (by omega)) ?_ (fun _ => eq_lent op iT)
  simp (disch := omega) [ar, -List.take_append_getElem, kr, hs]
  refine Pu.l 8 (rcEqC iP iP (by omega) (by omega)) ?_ (fun _ => eq_lent or iP)
  simp (disch := omega) [ar, -List.take_append_getElem, g0]
  refine Pu.c (cCheck_p hX) ?_
  simp (disch := omega) [ar, -List.take_append_getElem, g0]
  refine Pu.c (rcCheck_p hX) ?_
  simp (disch := omega) [ar, -List.take_append_getElem, g0, g1]
  refine Pu.c (cSame_p hX hY (by omega) (by omega)) ?_
  simp (disch := omega) [ar, -List.take_append_getElem, g0, g1]
  refine Pu.c (rcSame_p hX hY (by omega) (by omega)) ?_
  simp (disch := omega) [ar, -List.take_append_getElem]
  refine Hr.w (Weak.le (by simp) (leH.refl _)) last
set_option maxHeartbeats 1000000 in
theorem ph83 {X Y : List Int × List (List Int × Int)} {O : List Int} (hX : InX X) (hY : InX Y) (hO : InI O) (hXl : X.2.length ≤ 2000) (hYl : Y.2.length ≤ 2000) (hOl : O.length ≤ 20) {K : List AObj} {pa pb pc pd pp pq pr : Nat} (h0 : Im K 0 X) (h1 : Im K 1 Y) (h2 : Im K 2 X) (ha : Ow K pa (sortF X O).1) (hb : Im K pb (sortF X O).1) (hc : Ow K pc (joinF X O).1) (hd : Im K pd (joinF X O).1) (hp : Ow K pp (trimF X).1) (hq : Im K pq (trimF X).1) (hr : Ow K pr (plainF X).1) : wp Try.prog [149] 0 lSorts_c83 (bodyW [.t 6] (Nr (fun q G => Wk (fz G 0 4 false q) (Bo true)) .mk)) (fm 200 [(2, Is O), (3, .ptr 0 1 0 0), (4, .ptr 1 1 0 0), (7, Bo true), (8, .ptr 2 1 0 0), (9, .ptr pa 1 0 0), (10, I (sortF X O).2), (11, .ptr pb 1 0 0), (12, I (sortF X O).2), (13, .ptr pc 1 0 0), (14, I (joinF X O).2), (15, .ptr pd 1 0 0), (16, I (joinF X O).2), (17, .ptr pp 1 0 0), (18, I (trimF X).2), (19, .ptr pq 1 0 0), (20, I (trimF X).2), (21, .ptr pr 1 0 0), (22, I (plainF X).2)]) K := by
  have g0 := h0
  unfold Im at g0
  simp (disch := omega) [ar, -List.take_append_getElem, lSorts_c83, g0]
  refine Pu.c (rPlain_p hX (by omega)) ?_
  have e1 := gcc K
  have e2 := scc K
  simp (disch := omega) [ar, -List.take_append_getElem, e1, e2]
  refine Hr.w (Weak.le (by simp) (leH.refl _)) (ph87 hX hY hO hXl hYl hOl (h0.app _) (h1.app _) (h2.app _) (ha.app _) (hb.app _) (hc.app _) (hd.app _) (hp.app _) (hq.app _) (hr.app _) (gcc K _))
set_option maxHeartbeats 1000000 in
theorem ph78 {X Y : List Int × List (List Int × Int)} {O : List Int} (hX : InX X) (hY : InX Y) (hO : InI O) (hXl : X.2.length ≤ 2000) (hYl : Y.2.length ≤ 2000) (hOl : O.length ≤ 20) {K : List AObj} {pa pb pc pd pp pq : Nat} (h0 : Im K 0 X) (h1 : Im K 1 Y) (h2 : Im K 2 X) (ha : Ow K pa (sortF X O).1) (hb : Im K pb (sortF X O).1) (hc : Ow K pc (joinF X O).1) (hd : Im K pd (joinF X O).1) (hp : Ow K pp (trimF X).1) (hq : Im K pq (trimF X).1) : wp Try.prog [149] 0 lSorts_c78 (bodyW [.t 6] (Nr (fun q G => Wk (fz G 0 4 false q) (Bo true)) .mk)) (fm 200 [(2, Is O), (3, .ptr 0 1 0 0), (4, .ptr 1 1 0 0), (7, Bo true), (8, .ptr 2 1 0 0), (9, .ptr pa 1 0 0), (10, I (sortF X O).2), (11, .ptr pb 1 0 0), (12, I (sortF X O).2), (13, .ptr pc 1 0 0), (14, I (joinF X O).2), (15, .ptr pd 1 0 0), (16, I (joinF X O).2), (17, .ptr pp 1 0 0), (18, I (trimF X).2), (19, .ptr pq 1 0 0), (20, I (trimF X).2)]) K := by
  have g0 := h0
  unfold Im at g0
  simp (disch := omega) [ar, -List.take_append_getElem, lSorts_c78, g0]
  refine (coo_at (cPlain_spec (cooV_coo hX) hX (by omega)) (by simp) K).c ?_
  rintro r H' ⟨G, x, rfl, rfl, hx⟩
  obtain ⟨s, e, rfl, os, oe⟩ := hx.one
  have k3 : 3 ≤ K.length := h2.lt
  replace h0 := h0.app G
  replace h1 := h1.app G
  replace h2 := h2.app G
  replace ha := ha.app G
  replace hb := hb.app G
  replace hc := hc.app G
  replace hd := hd.app G
  replace hp := hp.app G
  replace hq := hq.app G
  replace hx := hx.to k3 (fun k c _ h => h) (fun k es _ h => h)
  clear g0
  generalize K ++ G = K at *
  have e1 := gcc K
  have e2 := scc K
  simp (disch := omega) [ar, -List.take_append_getElem, os, oe, e1, e2]
  refine Hr.w (Weak.le (by simp) (leH.refl _)) (ph83 hX hY hO hXl hYl hOl (h0.app _) (h1.app _) (h2.app _) (ha.app _) (hb.app _) (hc.app _) (hd.app _) (hp.app _) (hq.app _) ⟨_, gcc K _, hx.to (by omega) (fun k c hk h => gap h) (fun k es hk h => gap h)⟩)
set_option maxHeartbeats 1000000 in
theorem ph73 {X Y : List Int × List (List Int × Int)} {O : List Int} (hX : InX X) (hY : InX Y) (hO : InI O) (hXl : X.2.length ≤ 2000) (hYl : Y.2.length ≤ 2000) (hOl : O.length ≤ 20) {K : List AObj} {pa pb pc pd pp : Nat} (h0 : Im K 0 X) (h1 : Im K 1 Y) (h2 : Im K 2 X) (ha : Ow K pa (sortF X O).1) (hb : Im K pb (sortF X O).1) (hc : Ow K pc (joinF X O).1) (hd : Im K pd (joinF X O).1) (hp : Ow K pp (trimF X).1) : wp Try.prog [149] 0 lSorts_c73 (bodyW [.t 6] (Nr (fun q G => Wk (fz G 0 4 false q) (Bo true)) .mk)) (fm 200 [(2, Is O), (3, .ptr 0 1 0 0), (4, .ptr 1 1 0 0), (7, Bo true), (8, .ptr 2 1 0 0), (9, .ptr pa 1 0 0), (10, I (sortF X O).2), (11, .ptr pb 1 0 0), (12, I (sortF X O).2), (13, .ptr pc 1 0 0), (14, I (joinF X O).2), (15, .ptr pd 1 0 0), (16, I (joinF X O).2), (17, .ptr pp 1 0 0), (18, I (trimF X).2)]) K := by
  have g0 := h0
  unfold Im at g0
  simp (disch := omega) [ar, -List.take_append_getElem, lSorts_c73, g0]
  refine Pu.c (rTrim_p hX) ?_
  have e1 := gcc K
  have e2 := scc K
  simp (disch := omega) [ar, -List.take_append_getElem, e1, e2]
  refine Hr.w (Weak.le (by simp) (leH.refl _)) (ph78 hX hY hO hXl hYl hOl (h0.app _) (h1.app _) (h2.app _) (ha.app _) (hb.app _) (hc.app _) (hd.app _) (hp.app _) (gcc K _))
set_option maxHeartbeats 1000000 in
theorem ph68 {X Y : List Int × List (List Int × Int)} {O : List Int} (hX : InX X) (hY : InX Y) (hO : InI O) (hXl : X.2.length ≤ 2000) (hYl : Y.2.length ≤ 2000) (hOl : O.length ≤ 20) {K : List AObj} {pa pb pc pd : Nat} (h0 : Im K 0 X) (h1 : Im K 1 Y) (h2 : Im K 2 X) (ha : Ow K pa (sortF X O).1) (hb : Im K pb (sortF X O).1) (hc : Ow K pc (joinF X O).1) (hd : Im K pd (joinF X O).1) : wp Try.prog [149] 0 lSorts_c68 (bodyW [.t 6] (Nr (fun q G => Wk (fz G 0 4 false q) (Bo true)) .mk)) (fm 200 [(2, Is O), (3, .ptr 0 1 0 0), (4, .ptr 1 1 0 0), (7, Bo true), (8, .ptr 2 1 0 0), (9, .ptr pa 1 0 0), (10, I (sortF X O).2), (11, .ptr pb 1 0 0), (12, I (sortF X O).2), (13, .ptr pc 1 0 0), (14, I (joinF X O).2), (15, .ptr pd 1 0 0), (16, I (joinF X O).2)]) K := by
  have g0 := h0
  unfold Im at g0
  simp (disch := omega) [ar, -List.take_append_getElem, lSorts_c68, g0]
  refine (coo_at (cTrim_spec (cooV_coo hX) hX) (by simp) K).c ?_
  rintro r H' ⟨G, x, rfl, rfl, hx⟩
  obtain ⟨s, e, rfl, os, oe⟩ := hx.one
  have k3 : 3 ≤ K.length := h2.lt
  replace h0 := h0.app G
  replace h1 := h1.app G
  replace h2 := h2.app G
  replace ha := ha.app G
  replace hb := hb.app G
  replace hc := hc.app G
  replace hd := hd.app G
  replace hx := hx.to k3 (fun k c _ h => h) (fun k es _ h => h)
  clear g0
  generalize K ++ G = K at *
  have e1 := gcc K
  have e2 := scc K
  simp (disch := omega) [ar, -List.take_append_getElem, os, oe, e1, e2]
  refine Hr.w (Weak.le (by simp) (leH.refl _)) (ph73 hX hY hO hXl hYl hOl (h0.app _) (h1.app _) (h2.app _) (ha.app _) (hb.app _) (hc.app _) (hd.app _) ⟨_, gcc K _, hx.to (by omega) (fun k c hk h => gap h) (fun k es hk h => gap h)⟩)
set_option maxHeartbeats 1000000 in
theorem ph62 {X Y : List Int × List (List Int × Int)} {O : List Int} (hX : InX X) (hY : InX Y) (hO : InI O) (hXl : X.2.length ≤ 2000) (hYl : Y.2.length ≤ 2000) (hOl : O.length ≤ 20) {K : List AObj} {pa pb pc : Nat} (h0 : Im K 0 X) (h1 : Im K 1 Y) (h2 : Im K 2 X) (ha : Ow K pa (sortF X O).1) (hb : Im K pb (sortF X O).1) (hc : Ow K pc (joinF X O).1) : wp Try.prog [149] 0 lSorts_c62 (bodyW [.t 6] (Nr (fun q G => Wk (fz G 0 4 false q) (Bo true)) .mk)) (fm 200 [(2, Is O), (3, .ptr 0 1 0 0), (4, .ptr 1 1 0 0), (7, Bo true), (8, .ptr 2 1 0 0), (9, .ptr pa 1 0 0), (10, I (sortF X O).2), (11, .ptr pb 1 0 0), (12, I (sortF X O).2), (13, .ptr pc 1 0 0), (14, I (joinF X O).2)]) K := by
  have g0 := h0
  unfold Im at g0
  simp (disch := omega) [ar, -List.take_append_getElem, lSorts_c62, g0]
  refine Pu.c (rJoin_p hX hO (by omega) (by omega)) ?_
  have e1 := gcc K
  have e2 := scc K
  simp (disch := omega) [ar, -List.take_append_getElem, e1, e2]
  refine Hr.w (Weak.le (by simp) (leH.refl _)) (ph68 hX hY hO hXl hYl hOl (h0.app _) (h1.app _) (h2.app _) (ha.app _) (hb.app _) (hc.app _) (gcc K _))
set_option maxHeartbeats 1000000 in
theorem ph56 {X Y : List Int × List (List Int × Int)} {O : List Int} (hX : InX X) (hY : InX Y) (hO : InI O) (hXl : X.2.length ≤ 2000) (hYl : Y.2.length ≤ 2000) (hOl : O.length ≤ 20) {K : List AObj} {pa pb : Nat} (h0 : Im K 0 X) (h1 : Im K 1 Y) (h2 : Im K 2 X) (ha : Ow K pa (sortF X O).1) (hb : Im K pb (sortF X O).1) : wp Try.prog [149] 0 lSorts_c56 (bodyW [.t 6] (Nr (fun q G => Wk (fz G 0 4 false q) (Bo true)) .mk)) (fm 200 [(2, Is O), (3, .ptr 0 1 0 0), (4, .ptr 1 1 0 0), (7, Bo true), (8, .ptr 2 1 0 0), (9, .ptr pa 1 0 0), (10, I (sortF X O).2), (11, .ptr pb 1 0 0), (12, I (sortF X O).2)]) K := by
  have g0 := h0
  unfold Im at g0
  simp (disch := omega) [ar, -List.take_append_getElem, lSorts_c56, g0]
  refine (coo_at (cJoin_spec (cooV_coo hX) (Is_sl hO.1 hO) (by omega) hX (by omega)) (by simp) K).c ?_
  rintro r H' ⟨G, x, rfl, rfl, hx⟩
  obtain ⟨s, e, rfl, os, oe⟩ := hx.one
  have k3 : 3 ≤ K.length := h2.lt
  replace h0 := h0.app G
  replace h1 := h1.app G
  replace h2 := h2.app G
  replace ha := ha.app G
  replace hb := hb.app G
  replace hx := hx.to k3 (fun k c _ h => h) (fun k es _ h => h)
  clear g0
  generalize K ++ G = K at *
  have e1 := gcc K
  have e2 := scc K
  simp (disch := omega) [ar, -List.take_append_getElem, os, oe, e1, e2]
  refine Hr.w (Weak.le (by simp) (leH.refl _)) (ph62 hX hY hO hXl hYl hOl (h0.app _) (h1.app _) (h2.app _) (ha.app _) (hb.app _) ⟨_, gcc K _, hx.to (by omega) (fun k c hk h => gap h) (fun k es hk h => gap h)⟩)
set_option maxHeartbeats 1000000 in
theorem ph50 {X Y : List Int × List (List Int × Int)} {O : List Int} (hX : InX X) (hY : InX Y) (hO : InI O) (hXl : X.2.length ≤ 2000) (hYl : Y.2.length ≤ 2000) (hOl : O.length ≤ 20) {K : List AObj} {pa : Nat} (h0 : Im K 0 X) (h1 : Im K 1 Y) (h2 : Im K 2 X) (ha : Ow K pa (sortF X O).1) : wp Try.prog [149] 0 lSorts_c50 (bodyW [.t 6] (Nr (fun q G => Wk (fz G 0 4 false q) (Bo true)) .mk)) (fm 200 [(2, Is O), (3, .ptr 0 1 0 0), (4, .ptr 1 1 0 0), (7, Bo true), (8, .ptr 2 1 0 0), (9, .ptr pa 1 0 0), (10, I (sortF X O).2)]) K := by
  have g0 := h0
  unfold Im at g0
  simp (disch := omega) [ar, -List.take_append_getElem, lSorts_c50, g0]
  refine Pu.c (rSort_p hX hO (by omega)) ?_
  have e1 := gcc K
  have e2 := scc K
  simp (disch := omega) [ar, -List.take_append_getElem, e1, e2]
  refine Hr.w (Weak.le (by simp) (leH.refl _)) (ph56 hX hY hO hXl hYl hOl (h0.app _) (h1.app _) (h2.app _) (ha.app _) (gcc K _))
set_option maxHeartbeats 1000000 in
theorem ph44 {X Y : List Int × List (List Int × Int)} {O : List Int} (hX : InX X) (hY : InX Y) (hO : InI O) (hXl : X.2.length ≤ 2000) (hYl : Y.2.length ≤ 2000) (hOl : O.length ≤ 20) {K : List AObj} (h0 : Im K 0 X) (h1 : Im K 1 Y) (h2 : Im K 2 X) : wp Try.prog [149] 0 lSorts_c44 (bodyW [.t 6] (Nr (fun q G => Wk (fz G 0 4 false q) (Bo true)) .mk)) (fm 200 [(2, Is O), (3, .ptr 0 1 0 0), (4, .ptr 1 1 0 0), (7, Bo true), (8, .ptr 2 1 0 0)]) K := by
  have g0 := h0
  unfold Im at g0
  simp (disch := omega) [ar, -List.take_append_getElem, lSorts_c44, g0]
  refine (coo_at (cSort_spec (cooV_coo hX) (Is_sl hO.1 hO) (by omega) hX) (by simp) K).c ?_
  rintro r H' ⟨G, x, rfl, rfl, hx⟩
  obtain ⟨s, e, rfl, os, oe⟩ := hx.one
  have k3 : 3 ≤ K.length := h2.lt
  replace h0 := h0.app G
  replace h1 := h1.app G
  replace h2 := h2.app G
  replace hx := hx.to k3 (fun k c _ h => h) (fun k es _ h => h)
  clear g0
  generalize K ++ G = K at *
  have e1 := gcc K
  have e2 := scc K
  simp (disch := omega) [ar, -List.take_append_getElem, os, oe, e1, e2]
  refine Hr.w (Weak.le (by simp) (leH.refl _)) (ph50 hX hY hO hXl hYl hOl (h0.app _) (h1.app _) (h2.app _) ⟨_, gcc K _, hx.to (by omega) (fun k c hk h => gap h) (fun k es hk h => gap h)⟩)
theorem live02_p : Pu Try.prog 11 [] (Bo true) := Pu.mk live02_spec
theorem few2_p {X Y : List Int × List (List Int × Int)} (hX : InX X) (hY : InX Y) (hXl : X.2.length ≤ 9223372036854775807) (hYl : Y.2.length ≤ 9223372036854775807) : Pu Try.prog 12 [.imm false none 2 [cooV X, cooV Y]] (Bo (fewX X && fewX Y)) := by
  have h := few2_spec (nl := false) (c := none) (sz := 2) (zs := [(cooV X, X), (cooV Y, Y)]) (by simp; exact ⟨⟨cooV_coo hX, hXl⟩, cooV_coo hY, hYl⟩) (by simp) (by simp) (by simp)
  simp only [List.map_cons, List.map_nil, List.all_cons, List.all_nil, Bool.and_true] at h
  exact Pu.mk h
set_option maxHeartbeats 1000000 in
theorem lSorts_p {X Y : List Int × List (List Int × Int)} {O : List Int} (hX : InX X) (hY : InX Y) (hO : InI O) (hXl : X.2.length ≤ 9223372036854775807) (hYl : Y.2.length ≤ 9223372036854775807) : Pu Try.prog 6 [cooV X, cooV Y, Is O] (Bo true) := by
  refine Pu.of 4 (lSorts_w ?_)
  simp (disch := omega) [ar, -List.take_append_getElem, lSorts_ac]
  refine Pu.c live02_p ?_
  simp (disch := omega) [ar, -List.take_append_getElem]
  refine Pu.c (few2_p hX hY hXl hYl) ?_
  by_cases hf : (fewX X && fewX Y) = true
  case neg =>
    have hf : (fewX X && fewX Y) = false := by simpa using hf
    simp (disch := omega) [ar, -List.take_append_getElem, hf]
  have hf2 := hf
  simp only [fewX, Bool.and_eq_true, decide_eq_true_eq, List.all_eq_true] at hf2
  obtain ⟨⟨hf1, hf3⟩, hf4, hf5⟩ := hf2
  by_cases hOl : O.length ≤ 20
  case neg =>
    have g : (20 : Int) < O.length := by omega
    simp (disch := omega) [ar, -List.take_append_getElem, hf, g]
  simp (disch := omega) [ar, -List.take_append_getElem, hf]
  refine Pu.c (rCopy_p X (by omega) (by omega) (fun t ht => by have := hf3 t ht; omega)) ?_
  simp (disch := omega) [ar, -List.take_append_getElem]
  refine Hr.w (Weak.le (by simp) (leH.refl _)) (ph44 hX hY hO (by omega) (by omega) hOl rfl rfl rfl)
end Go.Fw
