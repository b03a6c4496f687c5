/- StoreReads: the last phase. -/
import Derived.Test.YthipbeffhfdamaaFwrrd3
import Derived.Test.YthipbeffhfdamaaFwrteq2
import Derived.Test.YthipbeffhfdamaaFwssm1
import Derived.Test.YthipbeffhfdamaaFwcpy1
namespace Go.Fw
open Go Go.RowKit Go.Proofs
set_option maxRecDepth 100000
set_option linter.unusedSimpArgs false
set_option linter.unusedVariables false
def Sim2 (o o' : AObj) : Prop := o' = o ∨ ∃ c c' : List Int, o = ⟨3, 1, c.map I, true, none⟩ ∧ o' = ⟨3, 1, c'.map I, true, none⟩ ∧ c'.length = c.length
theorem Sim2.trans {o o' o2 : AObj} (h : Sim2 o o') (k : Sim2 o' o2) : Sim2 o o2 := by
  rcases h with rfl | ⟨c, c', rfl, rfl, hl⟩
  · exact k
  · rcases k with rfl | ⟨d, d', h1, rfl, hl2⟩
    · exact .inr ⟨c, c', rfl, rfl, hl⟩
    · have : (c'.map I).length = (d.map I).length := by
        have := congrArg AObj.es h1
        simp only at this
        rw [this]
      simp at this
      exact .inr ⟨c, d', rfl, rfl, by omega⟩
def Inv2 (K H : List AObj) : Prop := ∀ (k : Nat) (o : AObj), K[k]? = some o → ∃ o', H[k]? = some o' ∧ Sim2 o o'
section
variable {K H : List AObj}
theorem Inv2.refl (K : List AObj) : Inv2 K K := fun k o h => ⟨o, h, .inl rfl⟩
theorem Inv2.set (h : Inv2 K H) {k : Nat} {o o' : AObj} (hk : H[k]? = some o) (hs : Sim2 o o') : Inv2 K (H.set k o') := fun i x hi => by
  obtain ⟨y, h1, h2⟩ := h i x hi
  by_cases e : k = i
  · subst e
    rw [hk] at h1
    cases h1
    exact ⟨o', by rw [List.getElem?_set_self (List.getElem?_eq_some_iff.1 hk).1], h2.trans hs⟩
  · exact ⟨y, by rw [List.getElem?_set_ne e]; exact h1, h2⟩
theorem Inv2.same (h : Inv2 K H) {k : Nat} {o : AObj} (hk : K[k]? = some o) (ht : o.ty ≠ 3) : H[k]? = some o := by
  obtain ⟨o', h1, h2⟩ := h k _ hk
  rcases h2 with rfl | ⟨c, c', e, _⟩
  · exact h1
  · rw [e] at ht; exact absurd rfl ht
theorem Inv2.int (h : Inv2 K H) {k : Nat} {c : List Int} (hk : K[k]? = some ⟨3, 1, c.map I, true, none⟩) : ∃ c' : List Int, H[k]? = some ⟨3, 1, c'.map I, true, none⟩ ∧ c'.length = c.length := by
  obtain ⟨o', h1, h2⟩ := h k _ hk
  rcases h2 with rfl | ⟨d, d', e, rfl, hl⟩
  · exact ⟨c, h1, rfl⟩
  · have : c.map I = d.map I := congrArg AObj.es e
    have := congrArg List.length this
    simp at this
    exact ⟨d', h1, by omega⟩
theorem Sim2.int (c : List Int) (k : Nat) (w : Int) : Sim2 ⟨3, 1, c.map I, true, none⟩ ⟨3, 1, (c.map I).set k (I w), true, none⟩ :=
  .inr ⟨c, c.set k w, rfl, by simp [List.map_set], by simp⟩
end
def lRd_2 : AC := (.seq (.ops [.o 188 (.bin .lss (.t 187) (.t 186))]) (.seq (.cond (.t 188) .skip (.exit 2)) (.seq (.block 3 (.seq (.ops [.m 189 (.t 187), .m 32 (.t 189)]) (.ops [.o 190 (.fad 1 (.t 9)), .o 191 (.ld 1 false (.t 190)), .m 192 (.t 31), .o 193 (.iad 2 (.t 191) (.t 192)), .o 194 (.fad 0 (.t 193)), .o 195 (.ld 1 false (.t 194)), .m 196 (.t 32), .o 197 (.iad 1 (.t 195) (.t 196)), .o 198 (.ld 1 false (.t 197)), .o 199 (.bin .add (.t 198) (.i 1)), .o 200 (.iad 1 (.t 195) (.t 196)), .on (.st 1 (.t 200) (.t 199))]))) (.ops [.o 201 (.bin .add (.t 187) (.i 1)), .m 187 (.t 201)]))))
def lRd_1 : AC := (.seq (.ops [.o 178 (.bin .lss (.t 177) (.t 176))]) (.seq (.cond (.t 178) .skip (.exit 0)) (.seq (.block 1 (.seq (.ops [.m 179 (.t 177), .m 31 (.t 179)]) (.seq (.ops [.o 180 (.fad 1 (.t 9)), .o 181 (.ld 1 false (.t 180)), .m 182 (.t 31), .o 183 (.iad 2 (.t 181) (.t 182)), .o 184 (.fad 0 (.t 183)), .o 185 (.ld 1 false (.t 184)), .o 186 (.len (.t 185)), .m 187 (.i 0)]) (.block 2 (.loop lRd_2))))) (.ops [.o 202 (.bin .add (.t 177) (.i 1)), .m 177 (.t 202)]))))
def lRd_c174 : AC := (.seq (.seq (.ops [.o 174 (.fad 1 (.t 9)), .o 175 (.ld 1 false (.t 174)), .o 176 (.len (.t 175)), .m 177 (.i 0)]) (.block 0 (.loop lRd_1))) (.seq (.ops [.m 203 (.t 7), .m 204 (.t 203), .og 205 204 true (.ld 4 true (.t 3)), .og 206 204 true (.ld 4 true (.t 8)), .cg 207 204 true false (.f 36) [(.t 205), (.t 206)], .o 208 (.pick (.t 204) (.t 207) (.b false)), .m 6 (.t 208)]) .ret))
def lRd_c118 : AC := (.seq (.seq (.ops [.o 118 (.ld 2 true (.t 9)), .o 119 (.ld 2 true (.t 11)), .c 120 false (.f 34) [(.t 118), (.t 119)], .o 121 (.un .not (.t 120)), .m 122 (.t 121), .mg 123 122 false (.t 10), .mg 124 122 false (.t 12), .og 125 122 false (.bin .neq (.t 123) (.t 124)), .o 126 (.pick (.t 122) (.b true) (.t 125)), .m 127 (.t 126), .og 128 127 false (.ld 2 true (.t 13)), .og 129 127 false (.ld 2 true (.t 15)), .cg 130 127 false false (.f 35) [(.t 128), (.t 129)], .og 131 127 false (.un .not (.t 130)), .o 132 (.pick (.t 127) (.b true) (.t 131)), .m 133 (.t 132), .mg 134 133 false (.t 14), .mg 135 133 false (.t 16), .og 136 133 false (.bin .neq (.t 134) (.t 135)), .o 137 (.pick (.t 133) (.b true) (.t 136)), .m 138 (.t 137), .mg 139 138 false (.t 17), .mg 140 138 false (.t 20), .og 141 138 false (.bin .neq (.t 139) (.t 140)), .o 142 (.pick (.t 138) (.b true) (.t 141)), .m 143 (.t 142), .mg 144 143 false (.t 18), .mg 145 143 false (.t 21), .og 146 143 false (.beq true (.t 144) (.t 145)), .o 147 (.pick (.t 143) (.b true) (.t 146)), .m 148 (.t 147), .mg 149 148 false (.t 19), .mg 150 148 false (.t 22), .og 151 148 false (.bin .neq (.t 149) (.t 150)), .o 152 (.pick (.t 148) (.b true) (.t 151)), .m 153 (.t 152), .mg 154 153 false (.t 23), .mg 155 153 false (.t 25), .cg 156 153 false false (.f 15) [(.t 154), (.t 155)], .og 157 153 false (.un .not (.t 156)), .o 158 (.pick (.t 153) (.b true) (.t 157)), .m 159 (.t 158), .mg 160 159 false (.t 24), .mg 161 159 false (.t 26), .og 162 159 false (.bin .neq (.t 160) (.t 161)), .o 163 (.pick (.t 159) (.b true) (.t 162)), .m 164 (.t 163), .mg 165 164 false (.t 27), .mg 166 164 false (.t 29), .og 167 164 false (.beq true (.t 165) (.t 166)), .o 168 (.pick (.t 164) (.b true) (.t 167)), .m 169 (.t 168), .mg 170 169 false (.t 28), .mg 171 169 false (.t 30), .og 172 169 false (.bin .neq (.t 170) (.t 171)), .o 173 (.pick (.t 169) (.b true) (.t 172))]) (.cond (.t 173) (.seq (.ops [.m 6 (.b false)]) .ret) .skip)) (.here lRd_c174))
def lRd_c85 : AC := (.seq (.ops [.o 85 (.ld 4 true (.t 3)), .m 86 (.t 2), .c 87 false (.f 22) [(.t 85), (.t 86)], .m 84 (.t 87), .o 88 (.ext (.t 84) 0), .o 89 (.ext (.t 84) 1), .o 90 (.ext (.t 84) 2), .m 17 (.t 88), .m 18 (.t 89), .m 19 (.t 90)]) (.seq (.ops [.o 92 (.ld 4 true (.t 3)), .m 93 (.t 2), .c 94 false (.f 31) [(.t 92), (.t 93)], .m 91 (.t 94), .o 95 (.ext (.t 91) 0), .o 96 (.ext (.t 91) 1), .o 97 (.ext (.t 91) 2), .m 20 (.t 95), .m 21 (.t 96), .m 22 (.t 97)]) (.seq (.ops [.o 99 (.ld 4 true (.t 3)), .c 100 false (.f 18) [(.t 99)], .m 98 (.t 100), .o 101 (.ext (.t 98) 0), .o 102 (.ext (.t 98) 1), .m 23 (.t 101), .m 24 (.t 102)]) (.seq (.ops [.o 104 (.ld 4 true (.t 3)), .c 105 false (.f 32) [(.t 104)], .m 103 (.t 105), .o 106 (.ext (.t 103) 0), .o 107 (.ext (.t 103) 1), .m 25 (.t 106), .m 26 (.t 107)]) (.seq (.ops [.o 109 (.ld 4 true (.t 3)), .c 110 false (.f 24) [(.t 109)], .m 108 (.t 110), .o 111 (.ext (.t 108) 0), .o 112 (.ext (.t 108) 1), .m 27 (.t 111), .m 28 (.t 112)]) (.seq (.ops [.o 114 (.ld 4 true (.t 3)), .c 115 false (.f 33) [(.t 114)], .m 113 (.t 115), .o 116 (.ext (.t 113) 0), .o 117 (.ext (.t 113) 1), .m 29 (.t 116), .m 30 (.t 117)]) (.here lRd_c118)))))))
def lRd_c80 : AC := (.seq (.ops [.o 80 (.ld 4 true (.t 3)), .c 81 false (.f 30) [(.t 80)], .m 79 (.t 81), .o 82 (.ext (.t 79) 0), .o 83 (.ext (.t 79) 1), .o 15 (.new 57 2 (.c (.agg [nil0, nil0]))), .on (.st 2 (.t 15) (.t 82)), .m 16 (.t 83)]) (.here lRd_c85))
def lRd_c75 : AC := (.seq (.ops [.o 75 (.ld 4 true (.t 3)), .c 76 false (.f 23) [(.t 75)], .m 74 (.t 76), .o 77 (.ext (.t 74) 0), .o 78 (.ext (.t 74) 1), .o 13 (.new 57 2 (.c (.agg [nil0, nil0]))), .on (.st 2 (.t 13) (.t 77)), .m 14 (.t 78)]) (.here lRd_c80))
def lRd_c70 : AC := (.seq (.ops [.o 70 (.ld 4 true (.t 3)), .c 71 false (.f 29) [(.t 70)], .m 69 (.t 71), .o 72 (.ext (.t 69) 0), .o 73 (.ext (.t 69) 1), .o 11 (.new 48 2 (.c (.agg [nil0, nil0]))), .on (.st 2 (.t 11) (.t 72)), .m 12 (.t 73)]) (.here lRd_c75))
def lRd_c65 : AC := (.seq (.ops [.o 65 (.ld 4 true (.t 3)), .c 66 false (.f 20) [(.t 65)], .m 64 (.t 66), .o 67 (.ext (.t 64) 0), .o 68 (.ext (.t 64) 1), .o 9 (.new 48 2 (.c (.agg [nil0, nil0]))), .on (.st 2 (.t 9) (.t 67)), .m 10 (.t 68)]) (.here lRd_c70))
def lRd_c50 : AC := (.seq (.seq (.ops [.o 50 (.ld 4 true (.t 3)), .o 52 (.ld 4 true (.t 3)), .c 51 true (.f 11) [(.t 50)], .c 53 true (.f 26) [(.t 52)], .o 54 (.bin .neq (.t 51) (.t 53)), .m 55 (.t 54), .og 56 55 false (.ld 4 true (.t 3)), .og 57 55 false (.ld 4 true (.t 4)), .og 59 55 false (.ld 4 true (.t 3)), .og 60 55 false (.ld 4 true (.t 4)), .cg 58 55 false true (.f 27) [(.t 56), (.t 57)], .cg 61 55 false true (.f 28) [(.t 59), (.t 60)], .og 62 55 false (.beq true (.t 58) (.t 61)), .o 63 (.pick (.t 55) (.b true) (.t 62))]) (.cond (.t 63) (.seq (.ops [.m 6 (.b false)]) .ret) .skip)) (.here lRd_c65))
def lRd_ac : AC := (.seq (.ops [.o 3 (.new 27 4 (.t 0)), .o 4 (.new 27 4 (.t 1)), .m 6 (.b false)]) (.seq (.ops [.c 33 false (.f 9) [], .m 7 (.t 33)]) (.seq (.seq (.ops [.o 34 (.ld 4 true (.t 3)), .c 35 false (.f 10) [(.t 34)], .o 36 (.un .not (.t 35)), .m 37 (.t 36), .og 38 37 false (.ld 4 true (.t 4)), .cg 39 37 false false (.f 10) [(.t 38)], .og 40 37 false (.un .not (.t 39)), .o 41 (.pick (.t 37) (.b true) (.t 40)), .m 42 (.t 41), .mg 43 42 false (.t 2), .og 44 42 false (.len (.t 43)), .og 45 42 false (.bin .gtr (.t 44) (.i 20)), .o 46 (.pick (.t 42) (.b true) (.t 45))]) (.cond (.t 46) (.seq (.ops [.m 47 (.t 7), .m 6 (.t 47)]) .ret) .skip)) (.seq (.ops [.o 48 (.ld 4 true (.t 3)), .c 49 false (.f 12) [(.t 48)], .o 8 (.new 27 4 (.c (.agg [nil0, nil0, nil0, nil0]))), .on (.st 4 (.t 8) (.t 49))]) (.here lRd_c50)))))
theorem lRd_w {args : List AV} {H : List AObj} {R : AV → List AObj → Prop} (h : wp Try.prog [] H.length lRd_ac (bodyW [(.t 6)] (Nr R .mk)) (args ++ List.replicate (209 - args.length) .und) H) : ACalls Try.prog 8 args H R :=
  ACalls.of_wp Try.func8 rfl (by kernel_rfl) rfl Try.ntmps8 h
abbrev Qr : Exit → List AV → List AObj → Prop := bodyW [.t 6] (Nr (fun q G => Wk (fz G 0 4 false q) (Bo true)) .mk)
abbrev tnB (S : List Int) (F : List (Int × Int × Int)) (L : List Lv) (V : List Int) : AObj := ⟨27, 4, [tnW S F L V], true, none⟩
section
variable {S : List Int} {F : List (Int × Int × Int)} {L : List Lv} {V : List Int}
set_option maxHeartbeats 4000000 in
theorem pr174 (hT : TnOk S F L V) (hF : Few S F L V) {X : List Int × List (List Int × Int)} (hX : InX X) (hXl : X.2.length ≤ 1000000) {K : List AObj} {pa : Nat} {r : AV} (h0 : K[0]? = some (tnB S F L V)) (h2 : K[2]? = some (tnB S F L V)) (ha : K[pa]? = some ⟨48, 2, [r], true, none⟩) (hr : CooG 3 K r X) :
    wp Try.prog [] 0 lRd_c174 Qr (fm 209 [(3, .ptr 0 1 0 0), (7, Bo true), (8, .ptr 2 1 0 0), (9, .ptr pa 1 0 0)]) K := by
  have heq := rTeq_p hT hT (by have := hF.f; omega) (by have := hF.l; omega)
  simp only [and_self, decide_true] at heq
  clear hT hF
  obtain ⟨sh, ea, rfl, -, he⟩ := hr
  obtain ⟨n, hn⟩ : ∃ n, n = X.2.length := ⟨_, rfl⟩
  have hea : (n = 0 ∧ ea = nil0) ∨ ∃ e es, ea = .slc e n 0 n none ∧ K[e]? = some (ow 52 2 es) ∧ es.length = n ∧ ∀ i (h : i < n), ∃ (a : AV) (v : Int) (c : List Int), es[i]? = some (.agg [a, I v]) ∧ rowG 3 K a c ∧ c.length ≤ 9223372036854775807 := by
    rcases he with ⟨h1, h2⟩ | ⟨e, es, h1, h2, h3, h4⟩
    · exact .inl ⟨by rw [hn, h1]; rfl, h2⟩
    · refine .inr ⟨e, es, by rw [hn]; exact h2, h3, by rw [hn]; exact h4.1, fun i hi => ?_⟩
      obtain ⟨a, g1, g2⟩ := h4.2 i (by omega)
      exact ⟨a, _, _, g1, g2, (hX.2 _ (List.getElem_mem _)).1⟩
  have hnl : n ≤ 1000000 := by omega
  clear he hX hXl hn
  rcases hea with ⟨rfl, rfl⟩ | ⟨e, es, rfl, hes, hel, hEO⟩
  · simp (disch := omega) [ar, -List.take_append_getElem, lRd_c174, ha]
    refine Lp.op (σ := Unit) (fun _ => True) (fun _ => 0) (fun _ => fm 209 [(3, .ptr 0 1 0 0), (7, Bo true), (8, .ptr 2 1 0 0), (176, I 0), (177, I 0)]) (fun _ => K) () ⟨trivial, by simp, rfl⟩ ?_
    intro _ _
    simp (disch := omega) [ar, -List.take_append_getElem, lRd_1, h0, h2]
    refine Pu.c heq ?_
    simp (disch := omega) [ar, -List.take_append_getElem]
  simp (disch := omega) [ar, -List.take_append_getElem, lRd_c174, ha]
  refine Lp.op (σ := Nat × List AObj) (fun s => s.1 ≤ n ∧ Inv2 K s.2) (fun s => n - s.1) (fun s => fm 209 [(3, .ptr 0 1 0 0), (7, Bo true), (8, .ptr 2 1 0 0), (9, .ptr pa 1 0 0), (176, I n), (177, I s.1)]) (fun s => s.2) (0, K) ⟨⟨by simp, Inv2.refl _⟩, by simp, rfl⟩ ?_
  rintro ⟨i, H⟩ ⟨hi, hI⟩
  simp only at hi hI ⊢
  have b0 := hI.same h0 (by simp)
  have b2 := hI.same h2 (by simp)
  clear h0 h2
  simp (disch := omega) [ar, -List.take_append_getElem, lRd_1]
  (first | refine Cnd.sp (fun h3 => ?_) fun h3 => ?_ | refine Gd.sp (fun h3 => ?_) fun h3 => ?_) <;> (try simp at h3) <;> (try simp (disch := omega) [ar, -List.take_append_getElem, h3])
  rotate_left
  · clear hI hEO hes ha
    simp (disch := omega) [ar, -List.take_append_getElem, b0, b2]
    refine Pu.c heq ?_
    simp (disch := omega) [ar, -List.take_append_getElem]
  clear b0 b2 heq
  have h3' : i < n := by omega
  obtain ⟨a, v, c, hei, hac, hcl⟩ := hEO i h3'
  have hie : i < es.length := by omega
  have hne : es ≠ [] := by rintro rfl; simp at hie
  have hei2 : es[i] = .agg [a, I v] := by rw [List.getElem?_eq_getElem hie] at hei; exact Option.some.inj hei
  have key : ∀ H, Inv2 K H → H[pa]? = some ⟨48, 2, [.agg [sh, .slc e n 0 n none]], true, none⟩ ∧ H[e]? = some ⟨52, 2, es, true, none⟩ := fun H hI => ⟨hI.same ha (by simp), by have := hI.same hes (by simp); simpa [ow, hne] using this⟩
  have ha1 := hac.one
  obtain ⟨k1, k2⟩ := key H hI
  clear hEO hes ha
  simp (disch := omega) [ar, -List.take_append_getElem, k1, k2, hel, hei, hei2]
  clear k1 k2
  rcases hac with ⟨rfl, rfl⟩ | ⟨k, _, rfl, hkc⟩
  · simp (disch := omega) [ar, -List.take_append_getElem]
    refine Lp.op (σ := Unit) (fun _ => True) (fun _ => 0) (fun _ => fm 209 [(3, .ptr 0 1 0 0), (7, Bo true), (8, .ptr 2 1 0 0), (9, .ptr pa 1 0 0), (176, I n), (177, I i), (186, I 0), (187, I 0)]) (fun _ => H) () ⟨trivial, by simp, rfl⟩ ?_
    intro _ _
    simp (disch := omega) [ar, -List.take_append_getElem, lRd_2]
    exact ⟨i + 1, H, ⟨by omega, hI⟩, by omega, by simp, rfl⟩
  simp (disch := omega) [ar, -List.take_append_getElem]
  refine Lp.op (σ := Nat × List AObj) (fun s => s.1 ≤ c.length ∧ Inv2 K s.2) (fun s => c.length - s.1) (fun s => fm 209 [(3, .ptr 0 1 0 0), (7, Bo true), (8, .ptr 2 1 0 0), (9, .ptr pa 1 0 0), (31, I i), (176, I n), (177, I i), (186, I c.length), (187, I s.1)]) (fun s => s.2) (0, H) ⟨⟨by simp, hI⟩, by simp, rfl⟩ ?_
  clear hI
  rintro ⟨m, H4⟩ ⟨hm, hI4⟩
  simp only at hm hI4 ⊢
  simp (disch := omega) [ar, -List.take_append_getElem, lRd_2]
  (first | refine Cnd.sp (fun h5 => ?_) fun h5 => ?_ | refine Gd.sp (fun h5 => ?_) fun h5 => ?_) <;> (try simp at h5) <;> (try simp (disch := omega) [ar, -List.take_append_getElem, h5])
  rotate_left
  · exact ⟨i + 1, H4, ⟨by omega, hI4⟩, by omega, by simp, rfl⟩
  have h6 : m < c.length := by omega
  obtain ⟨q1, q2⟩ := key H4 hI4
  obtain ⟨c4, hc4, hcl4⟩ := hI4.int hkc
  have hm4 : m < c4.length := by omega
  clear key
  simp (disch := omega) [ar, -List.take_append_getElem, q1, q2, hel, hei, hei2, hc4, hcl4]
  exact ⟨m + 1, _, ⟨by omega, hI4.set hc4 (Sim2.int c4 m _)⟩, by omega, by simp, rfl⟩
end
end Go.Fw
