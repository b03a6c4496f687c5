/- StoreReads: the phases. -/
import Derived.Test.YthipbeffhfdamaaFwlaw05r
namespace Go.Fw
open Go Go.RowKit Go.Proofs
set_option maxRecDepth 100000
set_option linter.unusedSimpArgs false
set_option linter.unusedVariables false
theorem rowG.shift {K : List AObj} {a : AV} {c : List Int} (h : rowG 0 K a c) (H : List AObj) (n n' : Nat) : rowG H.length (H ++ shH H.length false n K) (shv H.length false (n' + 1) a) c := by
  rcases h with ⟨rfl, rfl⟩ | ⟨k, _, rfl, h3⟩
  · exact .inl ⟨rfl, by simp⟩
  · refine .inr ⟨k + H.length, by omega, by simp, ?_⟩
    rw [shH_get h3 H rfl]
    simp
theorem CooG.shift {K : List AObj} {r : AV} {X : List Int × List (List Int × Int)} (h : CooG 0 K r X) (H : List AObj) (n n' : Nat) : CooG H.length (H ++ shH H.length false (n + 2) K) (shv H.length false (n' + 2) r) X := by
  obtain ⟨sh, ea, rfl, hs, he⟩ := h
  refine ⟨shv H.length false (n' + 1) sh, shv H.length false (n' + 1) ea, by simp, ?_, ?_⟩
  · rcases hs with rfl | ⟨h1, rfl⟩
    · exact .inl (by simp)
    · exact .inr ⟨h1, by simp⟩
  · rcases he with ⟨h1, rfl⟩ | ⟨e, es, _, rfl, h3, h4⟩
    · exact .inl ⟨h1, by simp⟩
    · refine .inr ⟨e + H.length, es.map (shv H.length false (n + 2)), by omega, by simp, ?_, by simpa using h4.1, fun i hi => ?_⟩
      · rw [shH_get h3 H rfl]
        simp [ow]
      · obtain ⟨a, g1, g2⟩ := h4.2 i hi
        exact ⟨shv H.length false (n + 1) a, by rw [List.getElem?_map, g1]; simp, g2.shift H (n + 2) n⟩
theorem CooG.to {b b' : Nat} {K K' : List AObj} {r : AV} {X : List Int × List (List Int × Int)} (h : CooG b K r X) (hb : b' ≤ b) (f : ∀ k o, b ≤ k → K[k]? = some o → K'[k]? = some o) : CooG b' K' r X := by
  obtain ⟨sh, ea, rfl, hs, he⟩ := h
  refine ⟨sh, ea, rfl, hs, ?_⟩
  rcases he with h | ⟨e, es, h1, h2, h3, h4⟩
  · exact .inl h
  · exact .inr ⟨e, es, by omega, h2, f _ _ h1 h3, h4.to hb f⟩
theorem CooG.one {b : Nat} {K : List AObj} {r : AV} {X : List Int × List (List Int × Int)} (h : CooG b K r X) : ∃ s e, r = .agg [s, e] ∧ oneC s = true ∧ oneC e = true := by
  obtain ⟨sh, ea, rfl, hs, he⟩ := h
  refine ⟨sh, ea, rfl, ?_, ?_⟩
  · rcases hs with rfl | ⟨_, rfl⟩ <;> rfl
  · rcases he with ⟨_, rfl⟩ | ⟨_, _, _, rfl, _⟩ <;> rfl
theorem rowG.read {b : Nat} {K : List AObj} {a : AV} {c : List Int} (h : rowG b K a c) (n : Nat) : Wk (frz K 0 (n + 1) false a) (Is c) := by
  rcases h with ⟨rfl, rfl⟩ | ⟨k, _, rfl, h3⟩
  · simp
  · simp [h3]
theorem CooG.read {b : Nat} {K : List AObj} {r : AV} {X : List Int × List (List Int × Int)} (h : CooG b K r X) (n : Nat) : Wk (frz K 0 (n + 4) false r) (cooV X) := by
  obtain ⟨sh, ea, rfl, hs, he⟩ := h
  have h1 : Wk (frz K 0 (n + 3) false sh) (Is X.1) := by
    rcases hs with rfl | ⟨h1, rfl⟩
    · simp
    · rw [h1]; simp
  have h2 : Wk (frz K 0 (n + 3) false ea) (eV X.2) := by
    rcases he with ⟨h1, rfl⟩ | ⟨e, es, _, rfl, h3, h4⟩
    · rw [h1]; simp
    · have hw : ∀ (es : List AV) (W : List (List Int × Int)), EntsG b K es W → Wks (es.map (frz K 0 (n + 2) false)) (W.map tV) := by
        intro es
        induction es with
        | nil => intro W h; have := h.1; obtain rfl : W = [] := List.length_eq_zero_iff.1 (by simpa using this.symm); rfl
        | cons x es ih =>
          intro W h
          cases W with
          | nil => have := h.1; simp at this
          | cons w W =>
            obtain ⟨a, g1, g2⟩ := h.2 0 (by simp)
            simp at g1
            subst g1
            simp only [List.getElem_cons_zero] at g2
            simp only [List.map_cons, Wks]
            refine ⟨by simp [g2.read n], ih W ⟨by have := h.1; simpa using this, fun i hi => ?_⟩⟩
            have := h.2 (i + 1) (by simpa using hi)
            simpa using this
      have := hw es X.2 h4
      have hl := h4.1
      by_cases h0 : X.2 = []
      · rw [h0] at hl
        obtain rfl : es = [] := List.length_eq_zero_iff.1 (by simpa using hl)
        rw [h0]
        simp [h3]
      · have hes : es ≠ [] := by rintro rfl; exact h0 (List.length_eq_zero_iff.1 (by simpa using hl.symm))
        simp only [ow, hes, if_false] at h3
        simp [h3, hl, this]
  simp only [frz_agg, List.map_cons, List.map_nil, Wk, Wks, h1, h2, true_and]
theorem eqg_lent {K : List AObj} {r : AV} {F : List Int × List (List Int × Int)} (h : CooG 3 K r F) : Wks ([r, cooV F].map (frz K 0 8 false)) [cooV F, cooV F] := by
  simp only [List.map_cons, List.map_nil, Wks]
  exact ⟨h.read 4, by simp, trivial⟩
def OwG (K : List AObj) (p : Nat) (F : List Int × List (List Int × Int)) : Prop := ∃ r, K[p]? = some ⟨48, 2, [r], true, none⟩ ∧ CooG 3 K r F
theorem OwG.app {K : List AObj} {p : Nat} {F : List Int × List (List Int × Int)} (h : OwG K p F) (G : List AObj) : OwG (K ++ G) p F := let ⟨r, h1, h2⟩ := h; ⟨r, gap h1, h2.to (Nat.le_refl _) fun _ _ _ h => gap h⟩
section
variable {S T c : List Int} {F E : List (Int × Int × Int)} {L M : List Lv} {V W : List Int}
theorem lstP_in (h : TnOk S F L V) : InX (lstP S F L V).1 := by
  unfold lstP
  split
  · exact ⟨⟨by simp, by simp⟩, by simp⟩
  · rename_i h0
    exact ⟨h.s, fun w hw => (entP_in h (by omega) w hw).1⟩
theorem lstP_len (S : List Int) (F : List (Int × Int × Int)) (L : List Lv) (V : List Int) : (lstP S F L V).1.2.length ≤ V.length := by
  unfold lstP
  split
  · simp
  · simp
theorem denP_in (h : TnOk S F L V) : InI (denP S F L V).1.1 ∧ InI (denP S F L V).1.2 := by
  unfold denP
  split
  · exact ⟨⟨by simp, by simp⟩, by simp, by simp⟩
  split
  · exact ⟨⟨by simp, by simp⟩, by simp, by simp⟩
  · rename_i h1 h2
    refine ⟨h.s, ?_⟩
    have hz := zero_len (by omega : (zeroF S).2 = 0)
    have hE : ∀ t ∈ entP S F L V, -9223372036854775808 ≤ t.2 ∧ t.2 ≤ 9223372036854775807 := fun t ht => by
      obtain ⟨j, hj, rfl⟩ := List.mem_map.1 ht
      have hj : j < V.length := by simpa using hj
      have e : V.getD j 0 = V[j] := by simp [hj]
      simp only [e]
      exact h.v.2 _ (List.getElem_mem hj)
    have hZ : ∀ x ∈ (zeroF S).1.2, -9223372036854775808 ≤ x ∧ x ≤ 9223372036854775807 := fun x hx => by
      rw [hz.2.2.2] at hx
      have := List.eq_of_mem_replicate hx
      omega
    refine ⟨?_, ?_⟩
    · rw [sets_len]
      have h3 := hz.2.2.1
      rcases Int.lt_or_le 0 (cells S).1 with h5 | h5
      · have := cells_lt hz.1 h5; omega
      · omega
    · generalize entP S F L V = A at hE
      generalize (zeroF S).1.2 = Z at hZ
      clear hz h1 h2
      induction A generalizing Z with
      | nil => exact hZ
      | cons t A ih =>
        rw [List.foldl_cons]
        refine ih (fun t ht => hE t (by simp [ht])) _ fun x hx => ?_
        rcases List.mem_or_eq_of_mem_set hx with h | rfl
        · exact hZ x h
        · exact hE t (by simp)
theorem cntP_in (h : TnOk S F L V) (k : Few S F L V) : InI (cntP S F L V).1 := by
  by_cases h0 : tnC S F L V = 0
  · obtain ⟨ws, hws, hwl, -⟩ := up_ok h k h0
    rw [hws]
    have hck : tnCheck S F (L.map toA) V = 0 := h0
    obtain ⟨-, M, -, -, hway⟩ := tn_way h.s.2 hck
    obtain ⟨w2, hw2, -⟩ := hway.hc
    have : w2 = ws := by
      rw [cntP, countsF, if_neg (by omega), cntF, hw2] at hws
      exact congrArg (·.1) hws
    subst this
    refine ⟨by have := k.l; show w2.length ≤ _; omega, fun x hx => ?_⟩
    have := cntGo_nonneg hw2 x hx
    omega
  · rw [cntP, countsF, if_pos h0]
    exact ⟨by simp, by simp⟩
set_option maxHeartbeats 2000000 in
theorem pr118 (hT : TnOk S F L V) (hf : fewW S F L V = true) (hO : TnOk T E M W) (hg : fewW T E M W = true) (hc : InI c) (hcl : c.length ≤ 20) {K : List AObj} {pa pb pc pd : Nat} (h0 : K[0]? = some (tnB S F L V)) (h1 : K[1]? = some (tnB T E M W)) (h2 : K[2]? = some (tnB S F L V)) (ha : OwG K pa (lstP S F L V).1) (hb : K[pb]? = some ⟨48, 2, [cooV (lstP S F L V).1], true, none⟩) (hd : K[pc]? = some ⟨57, 2, [dnW (denP S F L V).1], true, none⟩) (he : K[pd]? = some ⟨57, 2, [dnW (denP S F L V).1], true, none⟩) :
    wp Try.prog [] 0 lRd_c118 Qr (fm 209 [(2, Is c), (3, .ptr 0 1 0 0), (4, .ptr 1 1 0 0), (7, Bo true), (8, .ptr 2 1 0 0), (9, .ptr pa 1 0 0), (10, I (lstP S F L V).2), (11, .ptr pb 1 0 0), (12, I (lstP S F L V).2), (13, .ptr pc 1 0 0), (14, I (denP S F L V).2), (15, .ptr pd 1 0 0), (16, I (denP S F L V).2), (17, I (getP S F L V c).1.1), (18, Bo (getP S F L V c).1.2), (19, I (getP S F L V c).2), (20, I (getP S F L V c).1.1), (21, Bo (getP S F L V c).1.2), (22, I (getP S F L V c).2), (23, Is (cntP S F L V).1), (24, I (cntP S F L V).2), (25, Is (cntP S F L V).1), (26, I (cntP S F L V).2), (27, Bo (empP S F L V).1), (28, I (empP S F L V).2), (29, Bo (empP S F L V).1), (30, I (empP S F L V).2)]) K := by
  have hX := lstP_in hT
  have hXl := lstP_len S F L V
  have k := few_iff hf
  have hVl := k.v
  have hD := denP_in hT
  have hN := cntP_in hT k
  have fa := ha
  obtain ⟨r, ka, oa⟩ := ha
  obtain ⟨sa, ea, rfl, -, -⟩ := oa.one
  have last := pr174 hT k hX (by omega) h0 h2 ka oa
  have q1 := rCoEq_p hX hX (by omega) (by omega)
  have q2 := rDnEq_p (D := (denP S F L V).1) (E := (denP S F L V).1) hD.1 hD.1 hD.2 hD.2
  have q3 := rEqualT_p hN hN
  simp only [decide_true] at q1 q2 q3
  have q4 := eqg_lent oa
  clear hX hXl hVl hD hN hT hf hO hg hc hcl h0 h1 h2 oa fa k
  generalize lstP S F L V = FL at *
  generalize denP S F L V = FD at *
  generalize getP S F L V c = FG at *
  generalize cntP S F L V = FN at *
  generalize empP S F L V = FE at *
  simp (disch := omega) [ar, -List.take_append_getElem, lRd_c118, ka, hb]
  refine Pu.l 8 q1 ?_ (fun _ => q4)
  simp (disch := omega) [ar, -List.take_append_getElem, hd, he]
  refine Pu.c q2 ?_
  simp (disch := omega) [ar, -List.take_append_getElem]
  refine Pu.c q3 ?_
  simp (disch := omega) [ar, -List.take_append_getElem]
  exact Hr.w (Weak.le (by simp) (leH.refl _)) last
set_option maxHeartbeats 2000000 in
theorem pr85 (hT : TnOk S F L V) (hf : fewW S F L V = true) (hO : TnOk T E M W) (hg : fewW T E M W = true) (hc : InI c) (hcl : c.length ≤ 20) {K : List AObj} {pa pb pc pd : Nat} (h0 : K[0]? = some (tnB S F L V)) (h1 : K[1]? = some (tnB T E M W)) (h2 : K[2]? = some (tnB S F L V)) (ha : OwG K pa (lstP S F L V).1) (hb : K[pb]? = some ⟨48, 2, [cooV (lstP S F L V).1], true, none⟩) (hd : K[pc]? = some ⟨57, 2, [dnW (denP S F L V).1], true, none⟩) (he : K[pd]? = some ⟨57, 2, [dnW (denP S F L V).1], true, none⟩) :
    wp Try.prog [] 0 lRd_c85 Qr (fm 209 [(2, Is c), (3, .ptr 0 1 0 0), (4, .ptr 1 1 0 0), (7, Bo true), (8, .ptr 2 1 0 0), (9, .ptr pa 1 0 0), (10, I (lstP S F L V).2), (11, .ptr pb 1 0 0), (12, I (lstP S F L V).2), (13, .ptr pc 1 0 0), (14, I (denP S F L V).2), (15, .ptr pd 1 0 0), (16, I (denP S F L V).2)]) K := by
  have k := few_iff hf
  have last := pr118 hT hf hO hg hc hcl h0 h1 h2 ha hb hd he
  have q1 := sGet_p hT k hc
  have q2 := rGt_p hT k hc
  have q3 := sCounts_p hT k
  have q4 := rCounts_p hT k
  have q5 := sEmpty_p hT k
  have q6 := rEmp_p hT k
  clear hT hf hO hg hc hcl h1 h2 ha hb hd he k
  simp (disch := omega) [ar, -List.take_append_getElem, lRd_c85, h0]
  refine Pu.c q1 ?_
  simp (disch := omega) [ar, -List.take_append_getElem, h0]
  refine Pu.c q2 ?_
  simp (disch := omega) [ar, -List.take_append_getElem, h0]
  refine Pu.c q3 ?_
  simp (disch := omega) [ar, -List.take_append_getElem, h0]
  refine Pu.c q4 ?_
  simp (disch := omega) [ar, -List.take_append_getElem, h0]
  refine Pu.c q5 ?_
  simp (disch := omega) [ar, -List.take_append_getElem, h0]
  refine Pu.c q6 ?_
  simp (disch := omega) [ar, -List.take_append_getElem]
  exact Hr.w (Weak.le (by simp) (leH.refl _)) last
set_option maxHeartbeats 2000000 in
theorem pr80 (hT : TnOk S F L V) (hf : fewW S F L V = true) (hO : TnOk T E M W) (hg : fewW T E M W = true) (hc : InI c) (hcl : c.length ≤ 20) {K : List AObj} {pa pb pc : Nat} (h0 : K[0]? = some (tnB S F L V)) (h1 : K[1]? = some (tnB T E M W)) (h2 : K[2]? = some (tnB S F L V)) (ha : OwG K pa (lstP S F L V).1) (hb : K[pb]? = some ⟨48, 2, [cooV (lstP S F L V).1], true, none⟩) (hd : K[pc]? = some ⟨57, 2, [dnW (denP S F L V).1], true, none⟩) :
    wp Try.prog [] 0 lRd_c80 Qr (fm 209 [(2, Is c), (3, .ptr 0 1 0 0), (4, .ptr 1 1 0 0), (7, Bo true), (8, .ptr 2 1 0 0), (9, .ptr pa 1 0 0), (10, I (lstP S F L V).2), (11, .ptr pb 1 0 0), (12, I (lstP S F L V).2), (13, .ptr pc 1 0 0), (14, I (denP S F L V).2)]) K := by
  have k := few_iff hf
  have q1 := rDs_p hT k
  have g1 := gcc K
  have g2 := scc K
  simp (disch := omega) [ar, -List.take_append_getElem, lRd_c80, h0]
  refine Pu.c q1 ?_
  simp (disch := omega) [ar, -List.take_append_getElem, g1, g2]
  exact Hr.w (Weak.le (by simp) (leH.refl _)) (pr85 hT hf hO hg hc hcl (gap h0) (gap h1) (gap h2) (ha.app _) (gap hb) (gap hd) (g1 _))
set_option maxHeartbeats 2000000 in
theorem pr75 (hT : TnOk S F L V) (hf : fewW S F L V = true) (hO : TnOk T E M W) (hg : fewW T E M W = true) (hc : InI c) (hcl : c.length ≤ 20) {K : List AObj} {pa pb : Nat} (h0 : K[0]? = some (tnB S F L V)) (h1 : K[1]? = some (tnB T E M W)) (h2 : K[2]? = some (tnB S F L V)) (ha : OwG K pa (lstP S F L V).1) (hb : K[pb]? = some ⟨48, 2, [cooV (lstP S F L V).1], true, none⟩) :
    wp Try.prog [] 0 lRd_c75 Qr (fm 209 [(2, Is c), (3, .ptr 0 1 0 0), (4, .ptr 1 1 0 0), (7, Bo true), (8, .ptr 2 1 0 0), (9, .ptr pa 1 0 0), (10, I (lstP S F L V).2), (11, .ptr pb 1 0 0), (12, I (lstP S F L V).2)]) K := by
  have k := few_iff hf
  have q1 := sDense_p hT k
  have g1 := gcc K
  have g2 := scc K
  simp (disch := omega) [ar, -List.take_append_getElem, lRd_c75, h0]
  refine Pu.c q1 ?_
  simp (disch := omega) [ar, -List.take_append_getElem, g1, g2]
  exact Hr.w (Weak.le (by simp) (leH.refl _)) (pr80 hT hf hO hg hc hcl (gap h0) (gap h1) (gap h2) (ha.app _) (gap hb) (g1 _))
set_option maxHeartbeats 2000000 in
theorem pr70 (hT : TnOk S F L V) (hf : fewW S F L V = true) (hO : TnOk T E M W) (hg : fewW T E M W = true) (hc : InI c) (hcl : c.length ≤ 20) {K : List AObj} {pa : Nat} (h0 : K[0]? = some (tnB S F L V)) (h1 : K[1]? = some (tnB T E M W)) (h2 : K[2]? = some (tnB S F L V)) (ha : OwG K pa (lstP S F L V).1) :
    wp Try.prog [] 0 lRd_c70 Qr (fm 209 [(2, Is c), (3, .ptr 0 1 0 0), (4, .ptr 1 1 0 0), (7, Bo true), (8, .ptr 2 1 0 0), (9, .ptr pa 1 0 0), (10, I (lstP S F L V).2)]) K := by
  have k := few_iff hf
  have q1 := rRd_p hT k
  have g1 := gcc K
  have g2 := scc K
  simp (disch := omega) [ar, -List.take_append_getElem, lRd_c70, h0]
  refine Pu.c q1 ?_
  simp (disch := omega) [ar, -List.take_append_getElem, g1, g2]
  exact Hr.w (Weak.le (by simp) (leH.refl _)) (pr75 hT hf hO hg hc hcl (gap h0) (gap h1) (gap h2) (ha.app _) (g1 _))
set_option maxHeartbeats 2000000 in
theorem pr65 (hT : TnOk S F L V) (hf : fewW S F L V = true) (hO : TnOk T E M W) (hg : fewW T E M W = true) (hc : InI c) (hcl : c.length ≤ 20) {K : List AObj} (h0 : K[0]? = some (tnB S F L V)) (h1 : K[1]? = some (tnB T E M W)) (h2 : K[2]? = some (tnB S F L V)) :
    wp Try.prog [] 0 lRd_c65 Qr (fm 209 [(2, Is c), (3, .ptr 0 1 0 0), (4, .ptr 1 1 0 0), (7, Bo true), (8, .ptr 2 1 0 0)]) K := by
  have k := few_iff hf
  have q1 := rdo_p hT k
  simp (disch := omega) [ar, -List.take_append_getElem, lRd_c65, h0]
  refine ((q1.anywhere (by simp) 8 K).mono ?_ : ACalls Try.prog 20 [tnW S F L V] K fun q H' => ∃ G x, H' = K ++ G ∧ q = .tup [x, I (lstP S F L V).2] ∧ CooG K.length (K ++ G) x (lstP S F L V).1).c ?_
  · rintro q H' ⟨r, G, ⟨x, rfl, hx⟩, rfl, rfl⟩
    exact ⟨_, _, rfl, by simp, hx.shift K 6 5⟩
  rintro r H' ⟨G, x, rfl, rfl, hx⟩
  obtain ⟨s, e, rfl, os, oe⟩ := hx.one
  have k3 : 3 ≤ K.length := by have := (List.getElem?_eq_some_iff.1 h2).1; omega
  replace h0 : (K ++ G)[0]? = _ := gap h0
  replace h1 : (K ++ G)[1]? = _ := gap h1
  replace h2 : (K ++ G)[2]? = _ := gap h2
  replace hx := hx.to k3 (fun k o _ h => h)
  clear k3 q1
  generalize K ++ G = K at *
  have g1 := gcc K
  have g2 := scc K
  simp (disch := omega) [ar, -List.take_append_getElem, os, oe, g1, g2]
  exact Hr.w (Weak.le (by simp) (leH.refl _)) (pr70 hT hf hO hg hc hcl (gap h0) (gap h1) (gap h2) ⟨_, g1 _, hx.to (by omega) (fun k o hk h => gap h)⟩)
theorem live05_p : Pu Try.prog 9 [] (Bo true) := Pu.mk live05_spec
set_option maxHeartbeats 2000000 in
theorem lRd_p (hT : TnOk S F L V) (hO : TnOk T E M W) (hc : InI c) : Pu Try.prog 8 [tnW S F L V, tnW T E M W, Is c] (Bo true) := by
  refine Pu.of 4 (lRd_w ?_)
  simp (disch := omega) [ar, -List.take_append_getElem, lRd_ac]
  refine Pu.c live05_p ?_
  simp (disch := omega) [ar, -List.take_append_getElem]
  refine Pu.c (few_p hT) ?_
  by_cases hf : fewW S F L V = true
  case neg =>
    have hf : fewW S F L V = false := by simpa using hf
    simp (disch := omega) [ar, -List.take_append_getElem, hf]
  simp (disch := omega) [ar, -List.take_append_getElem, hf]
  refine Pu.c (few_p hO) ?_
  by_cases hg : fewW T E M W = true
  case neg =>
    have hg : fewW T E M W = false := by simpa using hg
    simp (disch := omega) [ar, -List.take_append_getElem, hg]
  by_cases hcl : c.length ≤ 20
  case neg =>
    have g : (20 : Int) < c.length := by omega
    simp (disch := omega) [ar, -List.take_append_getElem, hg, g]
  have k1 := few_iff hf
  have k2 := few_iff hg
  have q1 := sCheck_p hT k1
  have q2 := rtCheck_p hT k1
  have q3 := sSm_p hT k1 k2
  have q4 := rTsm_p hT hO k1 k2
  have q5 := rCpy_p hT hf
  have last := pr65 hT hf hO hg hc hcl (K := [tnB S F L V, tnB T E M W, tnB S F L V]) rfl rfl rfl
  simp (disch := omega) [ar, -List.take_append_getElem, hg]
  refine Pu.c q5 ?_
  simp (disch := omega) [ar, -List.take_append_getElem]
  refine Hr.w (Weak.refl _ _ _) ?_
  simp (disch := omega) [ar, -List.take_append_getElem, lRd_c50]
  refine Pu.c q1 ?_
  simp (disch := omega) [ar, -List.take_append_getElem]
  refine Pu.c q2 ?_
  simp (disch := omega) [ar, -List.take_append_getElem]
  refine Pu.c q3 ?_
  simp (disch := omega) [ar, -List.take_append_getElem]
  refine Pu.c q4 ?_
  simp (disch := omega) [ar, -List.take_append_getElem]
  exact Hr.w (Weak.le (by simp) (leH.refl _)) last
end
end Go.Fw
