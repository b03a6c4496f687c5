/- MergeSets. -/
import Derived.Test.YtkfooghdpfhiaaaFwlaw07p
import Derived.Test.YtkfooghdpfhiaaaFwlaw07j
namespace Go.Fw
open Go Go.RowKit Go.Proofs
set_option maxRecDepth 100000
set_option linter.unusedSimpArgs false
set_option linter.unusedVariables false

def everyF (n : Nat) : List Int := (List.range n).map fun (k : Nat) => (k : Int)
theorem pick_none {S : List (Int × List Int)} : pickF S [] = [] := by
  rw [pickF, List.filter_eq_nil_iff]; intro st _; simp [pickB]
theorem stops_val {A : List (List Int)} {st : Int × List Int} (h : st ∈ stops A) : ∀ x ∈ st.2, x < 0 → x = -1 := by
  obtain ⟨n, _, rfl⟩ := List.mem_map.1 h
  intro x hx hn
  obtain ⟨l, _, rfl⟩ := List.mem_map.1 hx
  unfold whr at hn ⊢
  split at hn
  · omega
  · rename_i h2; rw [if_neg h2]
theorem pick_all (A : List (List Int)) : (pickF (stops A) [everyF A.length]).map (·.1) = interF A := by
  have e : pickF (stops A) [everyF A.length] = (stops A).filter (fun st => decide (-1 ∉ st.2)) := by
    refine List.filter_congr fun st hst => ?_
    have hl := stops_len hst
    have hv := stops_val hst
    rw [Bool.eq_iff_iff]
    simp only [pickB, List.any_cons, List.any_nil, Bool.or_false, Bool.not_eq_true', List.any_eq_false, decide_eq_true_eq]
    constructor
    · intro h hm
      obtain ⟨k, hk, hke⟩ := List.mem_iff_getElem.1 hm
      refine h (k : Int) (List.mem_map.2 ⟨k, by simp; omega, rfl⟩) ?_
      simp [List.getD, hk, hke]
    · intro h i hi
      obtain ⟨k, hk, rfl⟩ := List.mem_map.1 hi
      simp at hk
      have hk2 : k < st.2.length := by omega
      intro hlt
      simp [List.getD, hk2] at hlt
      exact h (hv _ (List.getElem_mem hk2) hlt ▸ List.getElem_mem hk2)
  rw [e, stops_both]; rfl
theorem pick_one {A : List (List Int)} (hr : ∀ l ∈ A, Rise l) {q : Nat} (hq : q < A.length) : pickF (stops A) [[(q : Int)]] = A[q].map fun n => (n, A.map (whr n)) := by
  have e : (uni A.flatten).filter (fun n => decide (n ∈ A[q])) = A[q] := by
    refine Rise.ext ((rise_uni _).filter _) (hr _ (List.getElem_mem hq)) fun x => ?_
    simp only [List.mem_filter, mem_uni, List.mem_flatten, decide_eq_true_eq]
    exact ⟨fun h => h.2, fun h => ⟨⟨_, List.getElem_mem hq, h⟩, h⟩⟩
  conv => rhs; rw [← e]
  rw [pickF, stops, List.filter_map]
  congr 1
  refine List.filter_congr fun n _ => ?_
  rw [Bool.eq_iff_iff]
  simp only [Function.comp, pickB, List.any_cons, List.any_nil, Bool.or_false, Bool.not_eq_true', decide_eq_false_iff_not, decide_eq_true_eq]
  simp only [List.getD, Int.toNat_natCast, List.getElem?_map, List.getElem?_eq_getElem hq, Option.map_some, Option.getD_some]
  rw [← whr_neg]; omega
theorem whr_self {l : List Int} (h : Rise l) {i : Nat} (hi : i < l.length) : whr l[i] l = i := whr_found hi rfl fun hm => by
  rw [List.mem_take_iff_getElem] at hm
  obtain ⟨c, hc, hce⟩ := hm
  have := (List.pairwise_iff_getElem.1 h) c i (by omega) hi (by omega)
  omega
theorem modN (k : Int) (n : Nat) (h : 0 < n) : ∃ q : Nat, q < n ∧ (k.tmod n + n).tmod n = q ∧ -(n : Int) < k.tmod n ∧ k.tmod n < n := by
  have h1 := Int.tmod_lt_of_pos k (show (0 : Int) < n by omega)
  have h2 : -(n : Int) < k.tmod n := by
    rcases Int.le_total 0 k with h | h
    · have := Int.tmod_nonneg (n : Int) h; omega
    · have h3 : (-k).tmod n < n := Int.tmod_lt_of_pos (-k) (by omega)
      rw [Int.neg_tmod] at h3; omega
  refine ⟨((k.tmod n + n).tmod n).toNat, ?_, ?_, h2, h1⟩
  · have h3 := Int.tmod_lt_of_pos (k.tmod n + n) (show (0 : Int) < n by omega)
    omega
  · have := Int.tmod_nonneg (n : Int) (show 0 ≤ k.tmod n + n by omega)
    omega
def lSets_1 : AC := (.seq (.ops [.o 47 (.bin .lss (.t 46) (.t 45))]) (.seq (.cond (.t 47) .skip (.exit 0)) (.seq (.block 1 (.seq (.ops [.m 48 (.t 46), .m 9 (.t 48)]) (.ops [.m 49 (.t 8), .m 50 (.t 9), .o 51 (.lit 1 [(.t 50)]), .o 52 (.app 3 1 8 (.t 49) (.t 51)), .m 8 (.t 52)]))) (.ops [.o 53 (.bin .add (.t 46) (.i 1)), .m 46 (.t 53)]))))
def lSets_2 : AC := (.seq (.ops [.o 162 (.bin .lss (.t 161) (.t 160))]) (.seq (.cond (.t 162) .skip (.exit 2)) (.seq (.block 3 (.seq (.ops [.m 163 (.t 161), .o 164 (.iad 2 (.t 159) (.t 161)), .o 165 (.ld 2 true (.t 164)), .o 23 (.new 37 2 (.c (.agg [(.sc (.int .i64 0)), nil0]))), .m 22 (.t 163), .on (.st 2 (.t 23) (.t 165))]) (.seq (.ops [.o 166 (.fad 0 (.t 23)), .o 167 (.ld 1 false (.t 166)), .m 168 (.t 12), .m 169 (.t 22), .o 170 (.iad 1 (.t 168) (.t 169)), .o 171 (.ld 1 false (.t 170)), .o 172 (.bin .neq (.t 167) (.t 171))]) (.cond (.t 172) (.seq (.ops [.m 4 (.b false)]) .ret) .skip)))) (.ops [.o 173 (.bin .add (.t 161) (.i 1)), .m 161 (.t 173)]))))
def lSets_3 : AC := (.seq (.ops [.o 177 (.bin .lss (.t 176) (.t 175))]) (.seq (.cond (.t 177) .skip (.exit 4)) (.seq (.block 5 (.seq (.ops [.m 178 (.t 176), .o 179 (.iad 2 (.t 174) (.t 176)), .o 180 (.ld 2 true (.t 179)), .o 25 (.new 37 2 (.c (.agg [(.sc (.int .i64 0)), nil0]))), .m 24 (.t 178), .on (.st 2 (.t 25) (.t 180))]) (.seq (.ops [.o 181 (.fad 0 (.t 25)), .o 182 (.ld 1 false (.t 181)), .m 183 (.t 0), .m 184 (.t 1), .o 185 (.iad 1 (.t 183) (.t 184)), .o 186 (.ld 1 false (.t 185)), .m 187 (.t 24), .o 188 (.iad 1 (.t 186) (.t 187)), .o 189 (.ld 1 false (.t 188)), .o 190 (.bin .neq (.t 182) (.t 189)), .m 191 (.t 190), .mg 192 191 false (.t 1), .og 193 191 false (.fad 1 (.t 25)), .og 194 191 false (.ld 1 false (.t 193)), .og 195 191 false (.len (.t 194)), .og 196 191 false (.bin .geq (.t 192) (.t 195)), .o 197 (.pick (.t 191) (.b true) (.t 196)), .m 198 (.t 197), .og 199 198 false (.fad 1 (.t 25)), .og 200 198 false (.ld 1 false (.t 199)), .mg 201 198 false (.t 1), .og 202 198 false (.iad 1 (.t 200) (.t 201)), .og 203 198 false (.ld 1 false (.t 202)), .mg 204 198 false (.t 24), .og 205 198 false (.bin .neq (.t 203) (.t 204)), .o 206 (.pick (.t 198) (.b true) (.t 205))]) (.cond (.t 206) (.seq (.ops [.m 4 (.b false)]) .ret) .skip)))) (.ops [.o 207 (.bin .add (.t 176) (.i 1)), .m 176 (.t 207)]))))
def lSets_c115 : AC := (.seq (.seq (.ops [.m 115 (.t 11), .o 116 (.bin .neq (.t 115) (.i 0)), .m 117 (.t 116), .mg 118 117 false (.t 13), .og 119 117 false (.bin .neq (.t 118) (.i 0)), .o 120 (.pick (.t 117) (.b true) (.t 119)), .m 121 (.t 120), .mg 122 121 false (.t 15), .og 123 121 false (.bin .neq (.t 122) (.i 0)), .o 124 (.pick (.t 121) (.b true) (.t 123)), .m 125 (.t 124), .mg 126 125 false (.t 17), .og 127 125 false (.bin .neq (.t 126) (.i 0)), .o 128 (.pick (.t 125) (.b true) (.t 127)), .m 129 (.t 128), .mg 130 129 false (.t 19), .og 131 129 false (.bin .neq (.t 130) (.i 0)), .o 132 (.pick (.t 129) (.b true) (.t 131)), .m 133 (.t 132), .mg 134 133 false (.t 21), .og 135 133 false (.bin .neq (.t 134) (.i 0)), .o 136 (.pick (.t 133) (.b true) (.t 135)), .m 137 (.t 136), .mg 138 137 false (.t 16), .og 139 137 false (.len (.t 138)), .og 140 137 false (.bin .gtr (.t 139) (.i 0)), .o 141 (.pick (.t 137) (.b true) (.t 140)), .m 142 (.t 141), .mg 143 142 false (.t 10), .og 144 142 false (.len (.t 143)), .mg 145 142 false (.t 12), .og 146 142 false (.len (.t 145)), .og 147 142 false (.bin .neq (.t 144) (.t 146)), .o 148 (.pick (.t 142) (.b true) (.t 147)), .m 149 (.t 148), .mg 150 149 false (.t 14), .og 151 149 false (.len (.t 150)), .mg 152 149 false (.t 0), .mg 153 149 false (.t 1), .og 154 149 false (.iad 1 (.t 152) (.t 153)), .og 155 149 false (.ld 1 false (.t 154)), .og 156 149 false (.len (.t 155)), .og 157 149 false (.bin .neq (.t 151) (.t 156)), .o 158 (.pick (.t 149) (.b true) (.t 157))]) (.cond (.t 158) (.seq (.ops [.m 4 (.b false)]) .ret) .skip)) (.seq (.seq (.ops [.m 159 (.t 10), .o 160 (.len (.t 159)), .m 161 (.i 0)]) (.block 2 (.loop lSets_2))) (.seq (.seq (.ops [.m 174 (.t 14), .o 175 (.len (.t 174)), .m 176 (.i 0)]) (.block 4 (.loop lSets_3))) (.seq (.ops [.m 208 (.t 5), .m 209 (.t 208), .mg 210 209 true (.t 18), .mg 211 209 true (.t 0), .mg 212 209 true (.t 1), .og 213 209 true (.iad 1 (.t 211) (.t 212)), .og 214 209 true (.ld 1 false (.t 213)), .cg 215 209 true false (.f 27) [(.t 210), (.t 214)], .o 216 (.pick (.t 209) (.t 215) (.b false)), .m 217 (.t 216), .mg 218 217 true (.t 20), .mg 219 217 true (.t 0), .mg 220 217 true (.t 1), .og 221 217 true (.iad 1 (.t 219) (.t 220)), .og 222 217 true (.ld 1 false (.t 221)), .cg 223 217 true false (.f 27) [(.t 218), (.t 222)], .o 224 (.pick (.t 217) (.t 223) (.b false)), .m 4 (.t 224)]) .ret))))
def lSets_c54 : AC := (.seq (.ops [.m 54 (.t 1), .m 55 (.t 0), .o 56 (.len (.t 55)), .o 57 (.bin .rem (.t 54) (.t 56)), .m 58 (.t 0), .o 59 (.len (.t 58)), .o 60 (.bin .add (.t 57) (.t 59)), .m 61 (.t 0), .o 62 (.len (.t 61)), .o 63 (.bin .rem (.t 60) (.t 62)), .m 1 (.t 63)]) (.seq (.ops [.m 65 (.t 6), .m 66 (.t 8), .o 67 (.lit 1 [(.t 66)]), .c 68 false (.f 29) [(.t 65), (.t 67)], .m 64 (.t 68), .o 69 (.ext (.t 64) 0), .o 70 (.ext (.t 64) 1), .m 10 (.t 69), .m 11 (.t 70)]) (.seq (.ops [.m 72 (.t 0), .c 73 false (.f 24) [(.t 72)], .m 71 (.t 73), .o 74 (.ext (.t 71) 0), .o 75 (.ext (.t 71) 1), .m 12 (.t 74), .m 13 (.t 75)]) (.seq (.ops [.m 77 (.t 6), .m 78 (.t 1), .o 79 (.lit 1 [(.t 78)]), .o 80 (.lit 1 [(.t 79)]), .c 81 false (.f 29) [(.t 77), (.t 80)], .m 76 (.t 81), .o 82 (.ext (.t 76) 0), .o 83 (.ext (.t 76) 1), .m 14 (.t 82), .m 15 (.t 83)]) (.seq (.ops [.m 85 (.t 6), .c 86 false (.f 29) [(.t 85), .z], .m 84 (.t 86), .o 87 (.ext (.t 84) 0), .o 88 (.ext (.t 84) 1), .m 16 (.t 87), .m 17 (.t 88)]) (.seq (.ops [.m 90 (.t 0), .m 91 (.t 1), .o 92 (.iad 1 (.t 90) (.t 91)), .o 93 (.ld 1 false (.t 92)), .m 94 (.t 0), .m 95 (.t 1), .o 96 (.iad 1 (.t 94) (.t 95)), .o 97 (.ld 1 false (.t 96)), .o 98 (.lit 1 [(.t 93), (.t 97)]), .c 99 true (.f 22) [(.t 98)], .m 89 (.t 99), .o 100 (.ext (.t 89) 0), .o 101 (.ext (.t 89) 1), .m 18 (.t 100), .m 19 (.t 101)]) (.seq (.ops [.m 103 (.t 0), .m 104 (.t 1), .o 105 (.iad 1 (.t 103) (.t 104)), .o 106 (.ld 1 false (.t 105)), .m 107 (.t 0), .m 108 (.t 1), .o 109 (.iad 1 (.t 107) (.t 108)), .o 110 (.ld 1 false (.t 109)), .o 111 (.lit 1 [(.t 106), (.t 110)]), .c 112 true (.f 24) [(.t 111)], .m 102 (.t 112), .o 113 (.ext (.t 102) 0), .o 114 (.ext (.t 102) 1), .m 20 (.t 113), .m 21 (.t 114)]) (.here lSets_c115))))))))
def lSets_ac : AC := (.seq (.ops [.m 4 (.b false)]) (.seq (.ops [.c 26 false (.f 14) [], .m 5 (.t 26)]) (.seq (.seq (.ops [.m 27 (.t 0), .c 28 false (.f 15) [(.t 27)], .o 29 (.un .not (.t 28)), .m 30 (.t 29), .mg 31 30 false (.t 0), .og 32 30 false (.len (.t 31)), .og 33 30 false (.bin .eql (.t 32) (.i 0)), .o 34 (.pick (.t 30) (.b true) (.t 33))]) (.cond (.t 34) (.seq (.ops [.m 35 (.t 5), .m 4 (.t 35)]) .ret) .skip)) (.seq (.ops [.m 37 (.t 0), .c 38 false (.f 16) [(.t 37)], .m 36 (.t 38), .o 39 (.ext (.t 36) 0), .o 40 (.ext (.t 36) 1), .m 6 (.t 39), .m 7 (.t 40)]) (.seq (.seq (.ops [.m 41 (.t 7), .o 42 (.bin .neq (.t 41) (.i 0))]) (.cond (.t 42) (.seq (.ops [.m 43 (.t 5), .m 4 (.t 43)]) .ret) .skip)) (.seq (.ops [.m 8 .z]) (.seq (.seq (.ops [.m 44 (.t 0), .o 45 (.len (.t 44)), .m 46 (.i 0)]) (.block 0 (.loop lSets_1))) (.here lSets_c54))))))))
theorem lSets_w {args : List AV} {H : List AObj} {R : AV → List AObj → Prop} (h : wp Try.prog [] H.length lSets_ac (bodyW [(.t 4)] (Nr R .mk)) (args ++ List.replicate (225 - args.length) .und) H) : ACalls Try.prog 9 args H R :=
  ACalls.of_wp Try.func9 rfl (by kernel_rfl) rfl Try.ntmps9 h
set_option maxHeartbeats 4000000 in
theorem lSets_t {A : List (List Int)} {q : Nat} {l b : List Int} {a c : List (Int × List Int)} {Q : Exit → List AV → List AObj → Prop} (hq : q < A.length) (hl : A[q] = l) (hN : A.length ≤ 50) (hll : l.length ≤ 1000000) (hbl : b.length ≤ 1000000)
    (hal : a.length = b.length) (hcl : c.length = l.length) (hai : ∀ i (h : i < a.length), a[i].1 = b[i]'(by omega))
    (hci : ∀ i (h : i < c.length), c[i].1 = l[i]'(by omega) ∧ c[i].2.length = A.length ∧ ∀ (h2 : q < c[i].2.length), c[i].2[q] = i) (hQ : ∀ fr, fr.getD 4 .und = Bo true → Q .ret fr []) :
    wp Try.prog [] 0 lSets_c115 Q (fm 225 [(0, Ls A), (1, I q), (5, Bo true), (10, Ss a), (11, I 0), (12, Is b), (13, I 0), (14, Ss c), (15, I 0), (16, Ss []), (17, I 0), (18, Is l), (19, I 0), (20, Is l), (21, I 0)]) [] := by
  simp (disch := omega) [ar, -List.take_append_getElem, lSets_c115, hl, hal, hcl]
  refine Lp.to 0 [] a.length (fun i => True) (fun i => fm 225 [(0, Ls A), (1, I q), (5, Bo true), (10, Ss a), (12, Is b), (14, Ss c), (18, Is l), (20, Is l), (159, Ss a), (160, I a.length), (161, I i)]) (fun _ => []) ⟨trivial, by simp [hal]⟩ fun i hi _ => ?_
  simp (disch := omega) [ar, -List.take_append_getElem, lSets_2]
  (first | refine Cnd.sp (fun h1 => ?_) fun h1 => ?_ | refine Gd.sp (fun h1 => ?_) fun h1 => ?_) <;> (try simp at h1) <;> (try simp (disch := omega) [ar, -List.take_append_getElem, h1])
  · have h2 : i < a.length := by omega
    have h3 : i < b.length := by omega
    have h4 := hai i h2
    simp (disch := omega) [ar, -List.take_append_getElem, h4]
  · clear hai
    refine Lp.to 0 [] c.length (fun i => True) (fun i => fm 225 [(0, Ls A), (1, I q), (5, Bo true), (14, Ss c), (18, Is l), (20, Is l), (174, Ss c), (175, I c.length), (176, I i)]) (fun _ => []) ⟨trivial, by simp [hcl]⟩ fun i hi _ => ?_
    simp (disch := omega) [ar, -List.take_append_getElem, lSets_3]
    (first | refine Cnd.sp (fun h1 => ?_) fun h1 => ?_ | refine Gd.sp (fun h1 => ?_) fun h1 => ?_) <;> (try simp at h1) <;> (try simp (disch := omega) [ar, -List.take_append_getElem, h1])
    · have h2 : i < c.length := by omega
      have h3 : i < l.length := by omega
      obtain ⟨g1, g2, g3⟩ := hci i h2
      have g4 : q < c[i].2.length := by omega
      have g5 := g3 g4
      simp (disch := omega) [ar, -List.take_append_getElem, g1, g2, g5, hl]
    · simp (disch := omega) [ar, -List.take_append_getElem, hl]
      refine Pu.c (rEqual_p l l (by omega) (by omega)) ?_
      simp (disch := omega) [ar, -List.take_append_getElem, hl]
      refine Pu.c (rEqual_p l l (by omega) (by omega)) ?_
      simp (disch := omega) [ar, -List.take_append_getElem]
      exact hQ _ rfl
end Go.Fw
