/- CooSorts: the last phase. -/
import Derived.Test.YtgdkdojjfijipaaFwsot3
import Derived.Test.YtgdkdojjfijipaaFwcoo9
import Derived.Test.YtgdkdojjfijipaaFwloop02
namespace Go.Fw
open Go Go.RowKit Go.Proofs
set_option maxRecDepth 100000
set_option linter.unusedSimpArgs false
set_option linter.unusedVariables false
def lSorts_3 : AC := (.seq (.ops [.o 178 (.bin .lss (.t 177) (.t 176))]) (.seq (.cond (.t 178) .skip (.exit 4)) (.seq (.block 5 (.seq (.ops [.m 179 (.t 177), .m 28 (.t 179)]) (.ops [.o 180 (.fad 1 (.t 26)), .o 181 (.ld 1 false (.t 180)), .m 182 (.t 27), .o 183 (.iad 2 (.t 181) (.t 182)), .o 184 (.fad 0 (.t 183)), .o 185 (.ld 1 false (.t 184)), .m 186 (.t 28), .o 187 (.iad 1 (.t 185) (.t 186)), .o 188 (.ld 1 false (.t 187)), .o 189 (.bin .add (.t 188) (.i 1)), .o 190 (.iad 1 (.t 185) (.t 186)), .on (.st 1 (.t 190) (.t 189))]))) (.ops [.o 191 (.bin .add (.t 177) (.i 1)), .m 177 (.t 191)]))))
def lSorts_2 : AC := (.seq (.ops [.o 159 (.bin .lss (.t 158) (.t 157))]) (.seq (.cond (.t 159) .skip (.exit 2)) (.seq (.block 3 (.seq (.ops [.m 160 (.t 158), .m 27 (.t 160)]) (.seq (.ops [.o 161 (.fad 1 (.t 26)), .o 162 (.ld 1 false (.t 161)), .m 163 (.t 27), .o 164 (.iad 2 (.t 162) (.t 163)), .o 165 (.fad 1 (.t 164)), .o 166 (.ld 1 false (.t 165)), .o 167 (.bin .add (.t 166) (.i 1)), .o 168 (.iad 2 (.t 162) (.t 163)), .o 169 (.fad 1 (.t 168)), .on (.st 1 (.t 169) (.t 167))]) (.seq (.ops [.o 170 (.fad 1 (.t 26)), .o 171 (.ld 1 false (.t 170)), .m 172 (.t 27), .o 173 (.iad 2 (.t 171) (.t 172)), .o 174 (.fad 0 (.t 173)), .o 175 (.ld 1 false (.t 174)), .o 176 (.len (.t 175)), .m 177 (.i 0)]) (.block 4 (.loop lSorts_3)))))) (.ops [.o 192 (.bin .add (.t 158) (.i 1)), .m 158 (.t 192)]))))
def lSorts_1 : AC := (.seq (.ops [.o 152 (.bin .lss (.t 151) (.t 150))]) (.seq (.cond (.t 152) .skip (.exit 0)) (.seq (.block 1 (.seq (.ops [.o 153 (.iad 2 (.t 149) (.t 151)), .o 154 (.ld 2 true (.t 153)), .o 26 (.new 25 2 (.c (.agg [nil0, nil0]))), .on (.st 2 (.t 26) (.t 154))]) (.seq (.ops [.o 155 (.fad 1 (.t 26)), .o 156 (.ld 1 false (.t 155)), .o 157 (.len (.t 156)), .m 158 (.i 0)]) (.block 2 (.loop lSorts_2))))) (.ops [.o 193 (.bin .add (.t 151) (.i 1)), .m 151 (.t 193)]))))
def lSorts_c145 : AC := (.seq (.seq (.ops [.o 145 (.ld 2 true (.t 9)), .o 146 (.ld 2 true (.t 13)), .o 147 (.ld 2 true (.t 17)), .o 148 (.ld 2 true (.t 21)), .o 149 (.litO 25 2 [(.t 145), (.t 146), (.t 147), (.t 148)]), .o 150 (.len (.t 149)), .m 151 (.i 0)]) (.block 0 (.loop lSorts_1))) (.seq (.ops [.m 194 (.t 7), .m 195 (.t 194), .og 196 195 true (.ld 2 true (.t 3)), .og 197 195 true (.ld 2 true (.t 8)), .cg 198 195 true false (.f 27) [(.t 196), (.t 197)], .o 199 (.pick (.t 195) (.t 198) (.b false)), .m 6 (.t 199)]) .ret))
def lSorts_c87 : AC := (.seq (.seq (.ops [.o 87 (.ld 2 true (.t 9)), .o 88 (.ld 2 true (.t 11)), .c 89 true (.f 27) [(.t 87), (.t 88)], .o 90 (.un .not (.t 89)), .m 91 (.t 90), .mg 92 91 false (.t 10), .mg 93 91 false (.t 12), .og 94 91 false (.bin .neq (.t 92) (.t 93)), .o 95 (.pick (.t 91) (.b true) (.t 94)), .m 96 (.t 95), .og 97 96 false (.ld 2 true (.t 13)), .og 98 96 false (.ld 2 true (.t 15)), .cg 99 96 false true (.f 27) [(.t 97), (.t 98)], .og 100 96 false (.un .not (.t 99)), .o 101 (.pick (.t 96) (.b true) (.t 100)), .m 102 (.t 101), .mg 103 102 false (.t 14), .mg 104 102 false (.t 16), .og 105 102 false (.bin .neq (.t 103) (.t 104)), .o 106 (.pick (.t 102) (.b true) (.t 105)), .m 107 (.t 106), .og 108 107 false (.ld 2 true (.t 17)), .og 109 107 false (.ld 2 true (.t 19)), .cg 110 107 false true (.f 27) [(.t 108), (.t 109)], .og 111 107 false (.un .not (.t 110)), .o 112 (.pick (.t 107) (.b true) (.t 111)), .m 113 (.t 112), .mg 114 113 false (.t 18), .mg 115 113 false (.t 20), .og 116 113 false (.bin .neq (.t 114) (.t 115)), .o 117 (.pick (.t 113) (.b true) (.t 116)), .m 118 (.t 117), .og 119 118 false (.ld 2 true (.t 21)), .og 120 118 false (.ld 2 true (.t 23)), .cg 121 118 false true (.f 27) [(.t 119), (.t 120)], .og 122 118 false (.un .not (.t 121)), .o 123 (.pick (.t 118) (.b true) (.t 122)), .m 124 (.t 123), .mg 125 124 false (.t 22), .mg 126 124 false (.t 24), .og 127 124 false (.bin .neq (.t 125) (.t 126)), .o 128 (.pick (.t 124) (.b true) (.t 127)), .m 129 (.t 128), .og 130 129 false (.ld 2 true (.t 3)), .og 132 129 false (.ld 2 true (.t 3)), .cg 131 129 false true (.f 13) [(.t 130)], .cg 133 129 false true (.f 28) [(.t 132)], .og 134 129 false (.bin .neq (.t 131) (.t 133)), .o 135 (.pick (.t 129) (.b true) (.t 134)), .m 136 (.t 135), .og 137 136 false (.ld 2 true (.t 3)), .og 138 136 false (.ld 2 true (.t 4)), .og 140 136 false (.ld 2 true (.t 3)), .og 141 136 false (.ld 2 true (.t 4)), .cg 139 136 false true (.f 19) [(.t 137), (.t 138)], .cg 142 136 false true (.f 29) [(.t 140), (.t 141)], .og 143 136 false (.beq true (.t 139) (.t 142)), .o 144 (.pick (.t 136) (.b true) (.t 143))]) (.cond (.t 144) (.seq (.ops [.m 6 (.b false)]) .ret) .skip)) (.here lSorts_c145))
def lSorts_c83 : AC := (.seq (.ops [.o 83 (.ld 2 true (.t 3)), .c 84 false (.f 26) [(.t 83)], .m 82 (.t 84), .o 85 (.ext (.t 82) 0), .o 86 (.ext (.t 82) 1), .o 23 (.new 25 2 (.c (.agg [nil0, nil0]))), .on (.st 2 (.t 23) (.t 85)), .m 24 (.t 86)]) (.here lSorts_c87))
def lSorts_c78 : AC := (.seq (.ops [.o 78 (.ld 2 true (.t 3)), .c 79 false (.f 25) [(.t 78)], .m 77 (.t 79), .o 80 (.ext (.t 77) 0), .o 81 (.ext (.t 77) 1), .o 21 (.new 25 2 (.c (.agg [nil0, nil0]))), .on (.st 2 (.t 21) (.t 80)), .m 22 (.t 81)]) (.here lSorts_c83))
def lSorts_c73 : AC := (.seq (.ops [.o 73 (.ld 2 true (.t 3)), .c 74 false (.f 24) [(.t 73)], .m 72 (.t 74), .o 75 (.ext (.t 72) 0), .o 76 (.ext (.t 72) 1), .o 19 (.new 25 2 (.c (.agg [nil0, nil0]))), .on (.st 2 (.t 19) (.t 75)), .m 20 (.t 76)]) (.here lSorts_c78))
def lSorts_c68 : AC := (.seq (.ops [.o 68 (.ld 2 true (.t 3)), .c 69 false (.f 23) [(.t 68)], .m 67 (.t 69), .o 70 (.ext (.t 67) 0), .o 71 (.ext (.t 67) 1), .o 17 (.new 25 2 (.c (.agg [nil0, nil0]))), .on (.st 2 (.t 17) (.t 70)), .m 18 (.t 71)]) (.here lSorts_c73))
def lSorts_c62 : AC := (.seq (.ops [.o 62 (.ld 2 true (.t 3)), .m 63 (.t 2), .c 64 false (.f 22) [(.t 62), (.t 63)], .m 61 (.t 64), .o 65 (.ext (.t 61) 0), .o 66 (.ext (.t 61) 1), .o 15 (.new 25 2 (.c (.agg [nil0, nil0]))), .on (.st 2 (.t 15) (.t 65)), .m 16 (.t 66)]) (.here lSorts_c68))
def lSorts_c56 : AC := (.seq (.ops [.o 56 (.ld 2 true (.t 3)), .m 57 (.t 2), .c 58 false (.f 16) [(.t 56), (.t 57)], .m 55 (.t 58), .o 59 (.ext (.t 55) 0), .o 60 (.ext (.t 55) 1), .o 13 (.new 25 2 (.c (.agg [nil0, nil0]))), .on (.st 2 (.t 13) (.t 59)), .m 14 (.t 60)]) (.here lSorts_c62))
def lSorts_c50 : AC := (.seq (.ops [.o 50 (.ld 2 true (.t 3)), .m 51 (.t 2), .c 52 false (.f 21) [(.t 50), (.t 51)], .m 49 (.t 52), .o 53 (.ext (.t 49) 0), .o 54 (.ext (.t 49) 1), .o 11 (.new 25 2 (.c (.agg [nil0, nil0]))), .on (.st 2 (.t 11) (.t 53)), .m 12 (.t 54)]) (.here lSorts_c56))
def lSorts_c44 : AC := (.seq (.ops [.o 44 (.ld 2 true (.t 3)), .m 45 (.t 2), .c 46 false (.f 15) [(.t 44), (.t 45)], .m 43 (.t 46), .o 47 (.ext (.t 43) 0), .o 48 (.ext (.t 43) 1), .o 9 (.new 25 2 (.c (.agg [nil0, nil0]))), .on (.st 2 (.t 9) (.t 47)), .m 10 (.t 48)]) (.here lSorts_c50))
def lSorts_ac : AC := (.seq (.ops [.o 3 (.new 25 2 (.t 0)), .o 4 (.new 25 2 (.t 1)), .m 6 (.b false)]) (.seq (.ops [.c 29 false (.f 11) [], .m 7 (.t 29)]) (.seq (.seq (.ops [.o 30 (.ld 2 true (.t 3)), .o 31 (.ld 2 true (.t 4)), .o 32 (.lit 2 [(.t 30), (.t 31)]), .c 33 false (.f 12) [(.t 32)], .o 34 (.un .not (.t 33)), .m 35 (.t 34), .mg 36 35 false (.t 2), .og 37 35 false (.len (.t 36)), .og 38 35 false (.bin .gtr (.t 37) (.i 20)), .o 39 (.pick (.t 35) (.b true) (.t 38))]) (.cond (.t 39) (.seq (.ops [.m 40 (.t 7), .m 6 (.t 40)]) .ret) .skip)) (.seq (.ops [.o 41 (.ld 2 true (.t 3)), .c 42 false (.f 20) [(.t 41)], .o 8 (.new 25 2 (.c (.agg [nil0, nil0]))), .on (.st 2 (.t 8) (.t 42))]) (.here lSorts_c44)))))
theorem lSorts_w {args : List AV} {H : List AObj} {R : AV → List AObj → Prop} (h : wp Try.prog [149] H.length lSorts_ac (bodyW [(.t 6)] (Nr R .mk)) (args ++ List.replicate (200 - args.length) .und) H) : ACalls Try.prog 6 args H R :=
  ACalls.of_wp Try.func6 rfl (by kernel_rfl) rfl Try.ntmps6 h
/-- A box that holds an own list; one that holds a plain list. -/
def Ow (K : List AObj) (p : Nat) (F : List Int × List (List Int × Int)) : Prop := ∃ r, K[p]? = some (bx 25 2 r) ∧ CooO 3 K r F
def Im (K : List AObj) (p : Nat) (F : List Int × List (List Int × Int)) : Prop := K[p]? = some (bx 25 2 (cooV F))
section
variable {K : List AObj} {p : Nat} {F : List Int × List (List Int × Int)}
theorem gap {G : List AObj} {o : AObj} (h : K[p]? = some o) : (K ++ G)[p]? = some o := by rw [List.getElem?_append_left (List.getElem?_eq_some_iff.1 h).1]; exact h
theorem gcc (K : List AObj) (o : AObj) : (K ++ [o])[K.length]? = some o := by simp
theorem scc (K : List AObj) (o x : AObj) : (K ++ [o]).set K.length x = K ++ [x] := by simp
theorem Im.app (h : Im K p F) (G : List AObj) : Im (K ++ G) p F := gap h
theorem Im.lt (h : Im K p F) : p < K.length := (List.getElem?_eq_some_iff.1 h).1
theorem Ow.app (h : Ow K p F) (G : List AObj) : Ow (K ++ G) p F := let ⟨r, h1, h2⟩ := h; ⟨r, gap h1, h2.to (Nat.le_refl _) (fun _ _ _ h => gap h) fun _ _ _ h => gap h⟩
theorem bx_one (L : List AV) (h : ∀ r ∈ L, ∃ F, CooO 3 K r F) : allOneCell 2 L = true := by
  rw [allOneCell, List.all_eq_true]
  intro r hr
  obtain ⟨F, hF⟩ := h r hr
  obtain ⟨s, e, rfl, h1, h2⟩ := hF.one
  simp [okEl, h1, h2]
end
theorem rcEqC {X Y : List Int × List (List Int × Int)} (hX : InX X) (hY : InX Y) (hXl : X.2.length ≤ 1000000) (hYl : Y.2.length ≤ 1000000) : Pu Try.prog 27 [cooV X, cooV Y] (Bo (decide (X = Y))) :=
  Pu.mk (rcEquals_spec (cooV_coo hX) (cooV_coo hY) (by omega) (by omega))
/-- Short enough. -/
def Fine (X : List Int × List (List Int × Int)) : Prop := X.2.length ≤ 1000000 ∧ ∀ w ∈ X.2, w.1.length ≤ 9223372036854775807
set_option maxHeartbeats 4000000 in
theorem ph145 {X A B C D : List Int × List (List Int × Int)} (hX : InX X) (hXl : X.2.length ≤ 2000) (hA : Fine A) (hB : Fine B) (hC : Fine C) (hD : Fine D) {K : List AObj} {pa pc pp pr : Nat}
    (h0 : Im K 0 X) (h2 : Im K 2 X) (ha : Ow K pa A) (hc : Ow K pc B) (hp : Ow K pp C) (hr : Ow K pr D) :
    wp Try.prog [149] 0 lSorts_c145 (bodyW [.t 6] (Nr (fun q G => Wk (fz G 0 4 false q) (Bo true)) .mk)) (fm 200 [(3, .ptr 0 1 0 0), (7, Bo true), (8, .ptr 2 1 0 0), (9, .ptr pa 1 0 0), (13, .ptr pc 1 0 0), (17, .ptr pp 1 0 0), (21, .ptr pr 1 0 0)]) K := by
  obtain ⟨ra, ka, oa⟩ := ha
  obtain ⟨rc, kc, oc⟩ := hc
  obtain ⟨rp, kp, op⟩ := hp
  obtain ⟨rr, kr, or⟩ := hr
  have hL : ∀ r ∈ [ra, rc, rp, rr], ∃ F, Fine F ∧ CooO 3 K r F := by
    intro r hr
    simp at hr
    rcases hr with rfl | rfl | rfl | rfl
    · exact ⟨_, hA, oa⟩
    · exact ⟨_, hB, oc⟩
    · exact ⟨_, hC, op⟩
    · exact ⟨_, hD, or⟩
  have h1L := bx_one _ fun r hr => let ⟨F, _, h⟩ := hL r hr; ⟨F, h⟩
  obtain ⟨sa, ea, rfl, -, -⟩ := oa.one
  obtain ⟨sc, ec, rfl, -, -⟩ := oc.one
  obtain ⟨sp, ep, rfl, -, -⟩ := op.one
  obtain ⟨sr, er, rfl, -, -⟩ := or.one
  clear oa oc op or
  simp (disch := omega) [ar, -List.take_append_getElem, lSorts_c145, ka, kc, kp, kr, h1L]
  clear ka kc kp kr
  generalize hLe : [AV.agg [sa, ea], .agg [sc, ec], .agg [sp, ep], .agg [sr, er]] = L at hL h1L ⊢
  have hLl : L.length = 4 := by rw [← hLe]; rfl
  clear hLe
  have hk := gcc K ⟨25, 2, L, true, none⟩
  replace h0 := h0.app [⟨25, 2, L, true, none⟩]
  replace h2 := h2.app [⟨25, 2, L, true, none⟩]
  replace hL : ∀ r ∈ L, ∃ F, Fine F ∧ CooO 3 (K ++ [⟨25, 2, L, true, none⟩]) r F := fun r hr => let ⟨F, hf, h⟩ := hL r hr; ⟨F, hf, h.to (Nat.le_refl _) (fun _ _ _ h => gap h) fun _ _ _ h => gap h⟩
  generalize K.length = N at *
  generalize K ++ [⟨25, 2, L, true, none⟩] = K at *
  have goal : ∀ s : Nat × List AObj, s.1 ≤ 4 ∧ Inv K s.2 → True := fun _ _ => trivial
  clear goal
  refine Lp.op (σ := Nat × List AObj) (fun s => s.1 ≤ 4 ∧ Inv K s.2) (fun s => 4 - s.1) (fun s => fm 200 [(3, .ptr 0 1 0 0), (7, Bo true), (8, .ptr 2 1 0 0), (149, .slc N 4 0 4 none), (150, I 4), (151, I s.1)]) (fun s => s.2) (0, K) ⟨⟨by simp, Inv.refl _⟩, by simp, rfl⟩ ?_
  rintro ⟨i, H⟩ ⟨hi, hI⟩
  simp only at hi hI ⊢
  have hkH := hI.box hk
  simp (disch := omega) [ar, -List.take_append_getElem, lSorts_1, hkH, hLl]
  (first | refine Cnd.sp (fun h3 => ?_) fun h3 => ?_ | refine Gd.sp (fun h3 => ?_) fun h3 => ?_) <;> (try simp at h3) <;> (try simp (disch := omega) [ar, -List.take_append_getElem, h3])
  rotate_left
  · have g0 := hI.box (show K[0]? = some ⟨25, 2, [cooV X], true, none⟩ from h0)
    have g2 := hI.box (show K[2]? = some ⟨25, 2, [cooV X], true, none⟩ from h2)
    clear h0 h2 hk hkH h1L hL hI
    simp (disch := omega) [ar, -List.take_append_getElem, g0, g2]
    refine Pu.c (rcEqC hX hX (by omega) (by omega)) ?_
    simp (disch := omega) [ar, -List.take_append_getElem]
  have h3' : i < L.length := by omega
  have hLi := hL L[i] (List.getElem_mem h3')
  obtain ⟨r, hLg⟩ : ∃ r, L[i] = r := ⟨_, rfl⟩
  rw [hLg] at hLi
  obtain ⟨F, ⟨hF1, hF2⟩, s, e, rfl, hs, he⟩ := hLi
  have hs1 := hs.one
  clear hs h0 h2 hk h1L hL
  have e1 := gcc H
  have e2 := scc H
  simp (disch := omega) [ar, -List.take_append_getElem, hkH, hLl, hLg, e1, e2]
  have hq : (H ++ [⟨25, 2, [.agg [s, e]], true, none⟩])[H.length]? = some ⟨25, 2, [.agg [s, e]], true, none⟩ := gcc H _
  replace hI := hI.app [⟨25, 2, [.agg [s, e]], true, none⟩]
  clear hkH hLg e1 e2
  obtain ⟨q, hqe⟩ : ∃ q, q = H.length := ⟨_, rfl⟩
  obtain ⟨H1, hH1⟩ : ∃ H1, H1 = H ++ [⟨25, 2, [.agg [s, e]], true, none⟩] := ⟨_, rfl⟩
  rw [← hH1, ← hqe] at hq ⊢
  rw [← hH1] at hI
  clear hH1 hqe H
  obtain ⟨H, rfl⟩ : ∃ H, H = H1 := ⟨_, rfl⟩
  simp (disch := omega) [ar, -List.take_append_getElem, hs1, hq]
  rcases he with ⟨_, rfl⟩ | ⟨idx, es, hb, rfl, hWl, hes, -, hEO⟩
  · simp (disch := omega) [ar, -List.take_append_getElem, hq]
    refine Lp.op (σ := Unit) (fun _ => True) (fun _ => 0) (fun _ => fm 200 [(3, .ptr 0 1 0 0), (7, Bo true), (8, .ptr 2 1 0 0), (149, .slc N 4 0 4 none), (150, I 4), (151, I i), (157, I 0), (158, I 0)]) (fun _ => H) () ⟨trivial, by simp, rfl⟩ ?_
    intro _ _
    simp (disch := omega) [ar, -List.take_append_getElem, lSorts_2]
    exact ⟨i + 1, H, ⟨by omega, hI⟩, by omega, by simp, rfl⟩
  simp (disch := omega) [ar, -List.take_append_getElem, hq]
  obtain ⟨n, hn⟩ : ∃ n, n = F.2.length := ⟨_, rfl⟩
  have hEO' : ∀ j, j < n → ∃ (a : AV) (v : Int) (c : List Int), es[j]? = some (.agg [a, I v]) ∧ rowC 3 K a c ∧ c.length ≤ 9223372036854775807 := fun j hj => by
    obtain ⟨a, h1, h2⟩ := hEO j (by omega)
    rw [List.getElem?_take, if_pos (by omega)] at h1
    exact ⟨a, _, _, h1, h2, hF2 _ (List.getElem_mem _)⟩
  clear hEO hF2
  rw [← hn] at hq hWl ⊢
  have hqH := hq
  obtain ⟨K2, hK2⟩ : ∃ K2, K2 = H := ⟨_, rfl⟩
  rw [← hK2] at hq hI
  refine Lp.op (σ := Nat × List AObj) (fun s => s.1 ≤ n ∧ Inv K2 s.2) (fun s => n - s.1) (fun s => fm 200 [(3, .ptr 0 1 0 0), (7, Bo true), (8, .ptr 2 1 0 0), (26, .ptr q 1 0 0), (149, .slc N 4 0 4 none), (150, I 4), (151, I i), (157, I n), (158, I s.1)]) (fun s => s.2) (0, H) ⟨⟨by simp, by rw [hK2]; exact Inv.refl _⟩, by simp, rfl⟩ ?_
  clear hK2 hqH
  rintro ⟨j, H2⟩ ⟨hj, hI2⟩
  simp only at hj hI2 ⊢
  simp (disch := omega) [ar, -List.take_append_getElem, lSorts_2]
  (first | refine Cnd.sp (fun h4 => ?_) fun h4 => ?_ | refine Gd.sp (fun h4 => ?_) fun h4 => ?_) <;> (try simp at h4) <;> (try simp (disch := omega) [ar, -List.take_append_getElem, h4])
  rotate_left
  · have := hI.trans hI2
    exact ⟨i + 1, H2, ⟨by omega, this⟩, by omega, by simp, rfl⟩
  have g4 : j < n := by omega
  obtain ⟨a, v0, c, hej0, hac, hcl⟩ := hEO' j g4
  have hq2 := hI2.box hq
  obtain ⟨es2, he2, hel2, hej2⟩ := (hI.trans hI2).ens hes
  obtain ⟨v1, hej2⟩ := hej2 j a v0 hej0
  have hj2 : j < es2.length := by omega
  have hej3 : es2[j] = .agg [a, I v1] := by rw [List.getElem?_eq_getElem hj2] at hej2; exact Option.some.inj hej2
  have ha1 := hac.one
  simp (disch := omega) [ar, -List.take_append_getElem, hq2, he2, hel2, hej2, hej3, ha1]
  obtain ⟨H3, hH3⟩ : ∃ H3, H3 = H2.set idx (⟨38, 2, es2.set j (.agg [a, I (IntKind.i64.wrap (v1 + 1))]), true, none⟩ : AObj) := ⟨_, rfl⟩
  have hI3 : Inv K2 H3 := by rw [hH3]; exact hI2.set he2 (Sim.ens hej2 _)
  rw [← hH3]
  clear hH3 hej3 hej2 hel2 he2 hq2 hI2 hj2
  have key : ∀ H3, Inv K2 H3 → H3[q]? = some ⟨25, 2, [.agg [s, .slc idx es.length 0 n none]], true, none⟩ ∧ ∃ es2, H3[idx]? = some (ensO es2) ∧ es2.length = es.length ∧ ∃ v1, es2[j]? = some (.agg [a, I v1]) ∧ ∃ h : j < es2.length, es2[j] = .agg [a, I v1] := fun H3 hI3 => by
    obtain ⟨es2, he2, hel2, hej2⟩ := (hI.trans hI3).ens hes
    obtain ⟨v1, hej2⟩ := hej2 j a v0 hej0
    have hj2 : j < es2.length := by omega
    have hej3 : es2[j] = .agg [a, I v1] := by rw [List.getElem?_eq_getElem hj2] at hej2; exact Option.some.inj hej2
    exact ⟨hI3.box hq, es2, he2, hel2, v1, hej2, hj2, hej3⟩
  obtain ⟨hq3, es3, he3, hel3, v3, hej3, hj3, hej4⟩ := key H3 hI3
  simp (disch := omega) [ar, -List.take_append_getElem, hq3, he3, hel3, hej3, hej4]
  clear hq3 he3 hel3 hej3 hej4
  have zero : a = .imm true none 0 [] ∨ a = .imm false none 1 [] ∨ ∃ k, a = .slc k c.length 0 c.length none ∧ K[k]? = some (intOb c) := by
    rcases hac with ⟨_, h | h⟩ | ⟨k, _, h1, h2⟩
    · exact .inl h
    · exact .inr (.inl h)
    · exact .inr (.inr ⟨k, h1, h2⟩)
  rcases zero with rfl | rfl | ⟨k, rfl, hkc⟩
  · simp (disch := omega) [ar, -List.take_append_getElem]
    refine Lp.op (σ := Unit) (fun _ => True) (fun _ => 0) (fun _ => fm 200 [(3, .ptr 0 1 0 0), (7, Bo true), (8, .ptr 2 1 0 0), (26, .ptr q 1 0 0), (27, I j), (149, .slc N 4 0 4 none), (150, I 4), (151, I i), (157, I n), (158, I j), (176, I 0), (177, I 0)]) (fun _ => H3) () ⟨trivial, by simp, rfl⟩ ?_
    intro _ _
    simp (disch := omega) [ar, -List.take_append_getElem, lSorts_3]
    exact ⟨j + 1, H3, ⟨by omega, hI3⟩, by omega, by simp, rfl⟩
  · simp (disch := omega) [ar, -List.take_append_getElem]
    refine Lp.op (σ := Unit) (fun _ => True) (fun _ => 0) (fun _ => fm 200 [(3, .ptr 0 1 0 0), (7, Bo true), (8, .ptr 2 1 0 0), (26, .ptr q 1 0 0), (27, I j), (149, .slc N 4 0 4 none), (150, I 4), (151, I i), (157, I n), (158, I j), (176, I 0), (177, I 0)]) (fun _ => H3) () ⟨trivial, by simp, rfl⟩ ?_
    intro _ _
    simp (disch := omega) [ar, -List.take_append_getElem, lSorts_3]
    exact ⟨j + 1, H3, ⟨by omega, hI3⟩, by omega, by simp, rfl⟩
  · simp (disch := omega) [ar, -List.take_append_getElem]
    refine Lp.op (σ := Nat × List AObj) (fun s => s.1 ≤ c.length ∧ Inv K2 s.2) (fun s => c.length - s.1) (fun s => fm 200 [(3, .ptr 0 1 0 0), (7, Bo true), (8, .ptr 2 1 0 0), (26, .ptr q 1 0 0), (27, I j), (149, .slc N 4 0 4 none), (150, I 4), (151, I i), (157, I n), (158, I j), (176, I c.length), (177, I s.1)]) (fun s => s.2) (0, H3) ⟨⟨by simp, hI3⟩, by simp, rfl⟩ ?_
    clear hI3 hj3 hej0 hac H3
    rintro ⟨m, H4⟩ ⟨hm, hI4⟩
    simp only at hm hI4 ⊢
    simp (disch := omega) [ar, -List.take_append_getElem, lSorts_3]
    (first | refine Cnd.sp (fun h5 => ?_) fun h5 => ?_ | refine Gd.sp (fun h5 => ?_) fun h5 => ?_) <;> (try simp at h5) <;> (try simp (disch := omega) [ar, -List.take_append_getElem, h5])
    rotate_left
    · exact ⟨j + 1, H4, ⟨by omega, hI4⟩, by omega, by simp, rfl⟩
    have h6 : m < c.length := by omega
    obtain ⟨hq4, es4, he4, hel4, v4, hej4, hj4, hej5⟩ := key H4 hI4
    obtain ⟨c4, hc4, hcl4⟩ := (hI.trans hI4).int hkc
    have hm4 : m < c4.length := by omega
    clear key
    simp (disch := omega) [ar, -List.take_append_getElem, hq4, he4, hel4, hej4, hej5, hc4, hcl4]
    exact ⟨m + 1, _, ⟨by omega, hI4.set hc4 (Sim.int c4 m _)⟩, by omega, by simp, rfl⟩
end Go.Fw
