import Derived.Test.YtbhkoeaecngdhaaFwlaw01e
import Derived.Test.YtbhkoeaecngdhaaFwlaw01i
namespace Go.Fw
open Go Go.RowKit Go.Proofs
set_option maxRecDepth 100000
set_option linter.unusedSimpArgs false
set_option linter.unusedVariables false

theorem Sum_ok {d : AV} {S l : List Int} {m : Nat} (hd : Dn d (S, l)) (hc : checkF (S, l) = 0) (hm : m < S.length) (hz : (zeroF (S.eraseIdx m)).2 = 0) :
    ACalls Try.prog 34 [d, I m] [] fun r H' => H' = [] ∧ ∃ x, r = .tup [x, I 0] ∧ ∃ l', l' = binV (fS S m) l (mS S m) ∧ Dn x (S.eraseIdx m, l') := by
  obtain ⟨r1, r2⟩ := sumF_inR (D := (S, l)) hd.inR.1 m
  refine (dense_pure (Sum_spec (mode := m) hd) r1 r2).mono ?_
  rintro r H' ⟨rfl, x, rfl, hx⟩
  rw [sum_ok hc hm hz] at hx ⊢
  exact ⟨rfl, x, rfl, _, rfl, hx⟩
theorem Sum_bad {d : AV} {S l : List Int} {m : Nat} (hd : Dn d (S, l)) (hc : checkF (S, l) = 0) (hm : m < S.length) (hz : (zeroF (S.eraseIdx m)).2 ≠ 0) :
    ACalls Try.prog 34 [d, I m] [] fun r H' => H' = [] ∧ ∃ x, r = .tup [x, I 2] ∧ ∃ D, Dn x D := by
  obtain ⟨r1, r2⟩ := sumF_inR (D := (S, l)) hd.inR.1 m
  refine (dense_pure (Sum_spec (mode := m) hd) r1 r2).mono ?_
  rintro r H' ⟨rfl, x, rfl, hx⟩
  have e : (sumF (S, l) m).2 = 2 := by
    rcases sum_total hc hm with h | ⟨h, _⟩
    · exact h
    · rw [sum_err hc hm] at h; exact absurd h hz
  rw [e]
  exact ⟨rfl, x, rfl, _, hx⟩
theorem Add_ok {d e : AV} {S l1 l2 : List Int} (hd : Dn d (S, l1)) (he : Dn e (S, l2)) (hc : checkF (S, l1) = 0) (hl : l2.length = l1.length) :
    ACalls Try.prog 30 [d, e] [] fun r H' => H' = [] ∧ ∃ x, r = .tup [x, I 0] ∧ ∃ l', l' = List.zipWith addW l1 l2 ∧ Dn x (S, l') := by
  refine (Add_spec hd he).mono ?_
  rintro r H' ⟨rfl, x, rfl, hx⟩
  rw [both_ok hc hl] at hx ⊢
  exact ⟨rfl, x, rfl, _, rfl, hx⟩
theorem Scale_ok {d : AV} {S l : List Int} {by_ : Int} (hd : Dn d (S, l)) (hc : checkF (S, l) = 0) :
    ACalls Try.prog 33 [d, I by_] [] fun r H' => H' = [] ∧ ∃ x, r = .tup [x, I 0] ∧ ∃ l', l' = List.zipWith (fun x _ => mulW x by_) l l ∧ Dn x (S, l') := by
  refine (Scale_spec (by_ := by_) hd).mono ?_
  rintro r H' ⟨rfl, x, rfl, hx⟩
  rw [both_ok hc rfl] at hx ⊢
  exact ⟨rfl, x, rfl, _, rfl, hx⟩
def BoxSums_32 : AC := (.seq (.ops [⟨(some 203), none, (.k (.mov (.t 11)))⟩, ⟨(some 204), none, (.k (.mov (.t 203)))⟩, ⟨(some 205), (some (204, true)), (.k (.mov (.t 22)))⟩, ⟨(some 206), (some (204, true)), (.k (.bin .eql (.t 205) (.c (.sc (.int .i64 0)))))⟩, ⟨(some 207), none, (.k (.pick (.t 204) (.t 206) (.c (.sc (.bool false)))))⟩, ⟨(some 208), none, (.k (.mov (.t 207)))⟩, ⟨(some 209), (some (208, true)), (.k (.mov (.t 24)))⟩, ⟨(some 210), (some (208, true)), (.k (.bin .eql (.t 209) (.c (.sc (.int .i64 0)))))⟩, ⟨(some 211), none, (.k (.pick (.t 208) (.t 210) (.c (.sc (.bool false)))))⟩, ⟨(some 212), none, (.k (.mov (.t 211)))⟩, ⟨(some 213), (some (212, true)), (.k (.mov (.t 26)))⟩, ⟨(some 214), (some (212, true)), (.k (.bin .eql (.t 213) (.c (.sc (.int .i64 0)))))⟩, ⟨(some 215), none, (.k (.pick (.t 212) (.t 214) (.c (.sc (.bool false)))))⟩, ⟨(some 216), none, (.k (.mov (.t 215)))⟩, ⟨(some 217), (some (216, true)), (.k (.mov (.t 28)))⟩, ⟨(some 218), (some (216, true)), (.k (.bin .eql (.t 217) (.c (.sc (.int .i64 0)))))⟩, ⟨(some 219), none, (.k (.pick (.t 216) (.t 218) (.c (.sc (.bool false)))))⟩, ⟨(some 220), none, (.k (.mov (.t 219)))⟩, ⟨(some 221), (some (220, true)), (.k (.mov (.t 32)))⟩, ⟨(some 222), (some (220, true)), (.k (.bin .eql (.t 221) (.c (.sc (.int .i64 0)))))⟩, ⟨(some 223), none, (.k (.pick (.t 220) (.t 222) (.c (.sc (.bool false)))))⟩, ⟨(some 224), none, (.k (.mov (.t 223)))⟩, ⟨(some 225), (some (224, true)), (.k (.mov (.t 34)))⟩, ⟨(some 226), (some (224, true)), (.k (.bin .eql (.t 225) (.c (.sc (.int .i64 0)))))⟩, ⟨(some 227), none, (.k (.pick (.t 224) (.t 226) (.c (.sc (.bool false)))))⟩, ⟨(some 228), none, (.k (.mov (.t 227)))⟩, ⟨(some 229), (some (228, true)), (.k (.ld 2 true (.t 21)))⟩, ⟨(some 230), (some (228, true)), (.k (.ld 2 true (.t 27)))⟩, ⟨(some 231), (some (228, true)), (.call false (.c (.fn (.func 27) [] [])) [(.t 229), (.t 230)])⟩, ⟨(some 232), none, (.k (.pick (.t 228) (.t 231) (.c (.sc (.bool false)))))⟩, ⟨(some 233), none, (.k (.mov (.t 232)))⟩, ⟨(some 234), (some (233, true)), (.k (.ld 2 true (.t 31)))⟩, ⟨(some 235), (some (233, true)), (.k (.ld 2 true (.t 33)))⟩, ⟨(some 236), (some (233, true)), (.call false (.c (.fn (.func 27) [] [])) [(.t 234), (.t 235)])⟩, ⟨(some 237), none, (.k (.pick (.t 233) (.t 236) (.c (.sc (.bool false)))))⟩, ⟨(some 10), none, (.k (.mov (.t 237)))⟩]) .ret)
def BoxSums_31 : AC := (.seq (.ops [⟨(some 197), none, (.k (.mov (.t 20)))⟩, ⟨(some 198), none, (.k (.bin .neq (.t 197) (.c (.sc (.int .i64 0)))))⟩, ⟨(some 199), none, (.k (.mov (.t 198)))⟩, ⟨(some 200), (some (199, false)), (.k (.mov (.t 30)))⟩, ⟨(some 201), (some (199, false)), (.k (.bin .neq (.t 200) (.c (.sc (.int .i64 0)))))⟩, ⟨(some 202), none, (.k (.pick (.t 199) (.c (.sc (.bool true))) (.t 201)))⟩]) (.cond (.t 202) (.seq (.ops [⟨(some 10), none, (.k (.mov (.c (.sc (.bool false)))))⟩]) .ret) .skip))
def BoxSums_30 : AC := (.seq BoxSums_31 BoxSums_32)
def BoxSums_29 : AC := (.seq (.ops [⟨(some 192), none, (.k (.ld 2 true (.t 23)))⟩, ⟨(some 193), none, (.k (.mov (.t 2)))⟩, ⟨(some 194), none, (.call false (.c (.fn (.func 33) [] [])) [(.t 192), (.t 193)])⟩, ⟨(some 191), none, (.k (.mov (.t 194)))⟩, ⟨(some 195), none, (.k (.ext (.t 191) 0))⟩, ⟨(some 196), none, (.k (.ext (.t 191) 1))⟩, ⟨(some 33), none, (.k (.new 35 2 (.c (.agg [(.imm true none 0 []), (.imm true none 0 [])]))))⟩, ⟨none, none, (.k (.st 2 (.t 33) (.t 195)))⟩, ⟨(some 34), none, (.k (.mov (.t 196)))⟩]) BoxSums_30)
def BoxSums_28 : AC := (.seq (.ops [⟨(some 186), none, (.k (.ld 2 true (.t 29)))⟩, ⟨(some 187), none, (.k (.mov (.t 3)))⟩, ⟨(some 188), none, (.call false (.c (.fn (.func 34) [] [])) [(.t 186), (.t 187)])⟩, ⟨(some 185), none, (.k (.mov (.t 188)))⟩, ⟨(some 189), none, (.k (.ext (.t 185) 0))⟩, ⟨(some 190), none, (.k (.ext (.t 185) 1))⟩, ⟨(some 31), none, (.k (.new 35 2 (.c (.agg [(.imm true none 0 []), (.imm true none 0 [])]))))⟩, ⟨none, none, (.k (.st 2 (.t 31) (.t 189)))⟩, ⟨(some 32), none, (.k (.mov (.t 190)))⟩]) BoxSums_29)
def BoxSums_27 : AC := (.seq (.ops [⟨(some 180), none, (.k (.ld 2 true (.t 5)))⟩, ⟨(some 181), none, (.k (.mov (.t 2)))⟩, ⟨(some 182), none, (.call false (.c (.fn (.func 33) [] [])) [(.t 180), (.t 181)])⟩, ⟨(some 179), none, (.k (.mov (.t 182)))⟩, ⟨(some 183), none, (.k (.ext (.t 179) 0))⟩, ⟨(some 184), none, (.k (.ext (.t 179) 1))⟩, ⟨(some 29), none, (.k (.new 35 2 (.c (.agg [(.imm true none 0 []), (.imm true none 0 [])]))))⟩, ⟨none, none, (.k (.st 2 (.t 29) (.t 183)))⟩, ⟨(some 30), none, (.k (.mov (.t 184)))⟩]) BoxSums_28)
def BoxSums_26 : AC := (.seq (.ops [⟨(some 174), none, (.k (.ld 2 true (.t 23)))⟩, ⟨(some 175), none, (.k (.ld 2 true (.t 25)))⟩, ⟨(some 176), none, (.call false (.c (.fn (.func 30) [] [])) [(.t 174), (.t 175)])⟩, ⟨(some 173), none, (.k (.mov (.t 176)))⟩, ⟨(some 177), none, (.k (.ext (.t 173) 0))⟩, ⟨(some 178), none, (.k (.ext (.t 173) 1))⟩, ⟨(some 27), none, (.k (.new 35 2 (.c (.agg [(.imm true none 0 []), (.imm true none 0 [])]))))⟩, ⟨none, none, (.k (.st 2 (.t 27) (.t 177)))⟩, ⟨(some 28), none, (.k (.mov (.t 178)))⟩]) BoxSums_27)
def BoxSums_25 : AC := (.seq (.ops [⟨(some 168), none, (.k (.ld 2 true (.t 6)))⟩, ⟨(some 169), none, (.k (.mov (.t 3)))⟩, ⟨(some 170), none, (.call false (.c (.fn (.func 34) [] [])) [(.t 168), (.t 169)])⟩, ⟨(some 167), none, (.k (.mov (.t 170)))⟩, ⟨(some 171), none, (.k (.ext (.t 167) 0))⟩, ⟨(some 172), none, (.k (.ext (.t 167) 1))⟩, ⟨(some 25), none, (.k (.new 35 2 (.c (.agg [(.imm true none 0 []), (.imm true none 0 [])]))))⟩, ⟨none, none, (.k (.st 2 (.t 25) (.t 171)))⟩, ⟨(some 26), none, (.k (.mov (.t 172)))⟩]) BoxSums_26)
def BoxSums_24 : AC := (.seq (.ops [⟨(some 162), none, (.k (.ld 2 true (.t 5)))⟩, ⟨(some 163), none, (.k (.mov (.t 3)))⟩, ⟨(some 164), none, (.call false (.c (.fn (.func 34) [] [])) [(.t 162), (.t 163)])⟩, ⟨(some 161), none, (.k (.mov (.t 164)))⟩, ⟨(some 165), none, (.k (.ext (.t 161) 0))⟩, ⟨(some 166), none, (.k (.ext (.t 161) 1))⟩, ⟨(some 23), none, (.k (.new 35 2 (.c (.agg [(.imm true none 0 []), (.imm true none 0 [])]))))⟩, ⟨none, none, (.k (.st 2 (.t 23) (.t 165)))⟩, ⟨(some 24), none, (.k (.mov (.t 166)))⟩]) BoxSums_25)
def BoxSums_23 : AC := (.seq (.ops [⟨(some 156), none, (.k (.ld 2 true (.t 19)))⟩, ⟨(some 157), none, (.k (.mov (.t 3)))⟩, ⟨(some 158), none, (.call false (.c (.fn (.func 34) [] [])) [(.t 156), (.t 157)])⟩, ⟨(some 155), none, (.k (.mov (.t 158)))⟩, ⟨(some 159), none, (.k (.ext (.t 155) 0))⟩, ⟨(some 160), none, (.k (.ext (.t 155) 1))⟩, ⟨(some 21), none, (.k (.new 35 2 (.c (.agg [(.imm true none 0 []), (.imm true none 0 [])]))))⟩, ⟨none, none, (.k (.st 2 (.t 21) (.t 159)))⟩, ⟨(some 22), none, (.k (.mov (.t 160)))⟩]) BoxSums_24)
def BoxSums_22 : AC := (.seq (.ops [⟨(some 150), none, (.k (.ld 2 true (.t 5)))⟩, ⟨(some 151), none, (.k (.ld 2 true (.t 6)))⟩, ⟨(some 152), none, (.call false (.c (.fn (.func 30) [] [])) [(.t 150), (.t 151)])⟩, ⟨(some 149), none, (.k (.mov (.t 152)))⟩, ⟨(some 153), none, (.k (.ext (.t 149) 0))⟩, ⟨(some 154), none, (.k (.ext (.t 149) 1))⟩, ⟨(some 19), none, (.k (.new 35 2 (.c (.agg [(.imm true none 0 []), (.imm true none 0 [])]))))⟩, ⟨none, none, (.k (.st 2 (.t 19) (.t 153)))⟩, ⟨(some 20), none, (.k (.mov (.t 154)))⟩]) BoxSums_23)
def BoxSums_21 : AC := (.seq (.ops [⟨(some 136), none, (.k (.mov (.t 16)))⟩, ⟨(some 137), none, (.k (.mov (.t 18)))⟩, ⟨(some 138), none, (.k (.bin .neq (.t 136) (.t 137)))⟩, ⟨(some 139), none, (.k (.mov (.t 138)))⟩, ⟨(some 140), (some (139, false)), (.k (.mov (.t 16)))⟩, ⟨(some 141), (some (139, false)), (.k (.bin .eql (.t 140) (.c (.sc (.int .i64 0)))))⟩, ⟨(some 142), (some (139, false)), (.k (.mov (.t 141)))⟩, ⟨(some 143), (some (142, true)), (.k (.ld 2 true (.t 15)))⟩, ⟨(some 144), (some (142, true)), (.k (.ld 2 true (.t 17)))⟩, ⟨(some 145), (some (142, true)), (.call false (.c (.fn (.func 27) [] [])) [(.t 143), (.t 144)])⟩, ⟨(some 146), (some (142, true)), (.k (.un .not (.t 145)))⟩, ⟨(some 147), (some (139, false)), (.k (.pick (.t 142) (.t 146) (.c (.sc (.bool false)))))⟩, ⟨(some 148), none, (.k (.pick (.t 139) (.c (.sc (.bool true))) (.t 147)))⟩]) (.cond (.t 148) (.seq (.ops [⟨(some 10), none, (.k (.mov (.c (.sc (.bool false)))))⟩]) .ret) .skip))
def BoxSums_20 : AC := (.seq BoxSums_21 BoxSums_22)
def BoxSums_19 : AC := (.seq (.ops [⟨(some 130), none, (.k (.ld 2 true (.t 17)))⟩, ⟨(some 131), none, (.k (.mov (.t 14)))⟩, ⟨(some 132), none, (.k (.bin .sub (.t 131) (.c (.sc (.int .i64 1)))))⟩, ⟨(some 133), none, (.call false (.c (.fn (.func 34) [] [])) [(.t 130), (.t 132)])⟩, ⟨(some 129), none, (.k (.mov (.t 133)))⟩, ⟨(some 134), none, (.k (.ext (.t 129) 0))⟩, ⟨(some 135), none, (.k (.ext (.t 129) 1))⟩, ⟨none, none, (.k (.st 2 (.t 17) (.t 134)))⟩, ⟨(some 18), none, (.k (.mov (.t 135)))⟩]) BoxSums_20)
def BoxSums_18 : AC := (.seq (.ops [⟨(some 124), none, (.k (.ld 2 true (.t 15)))⟩, ⟨(some 125), none, (.k (.mov (.t 13)))⟩, ⟨(some 126), none, (.call false (.c (.fn (.func 34) [] [])) [(.t 124), (.t 125)])⟩, ⟨(some 123), none, (.k (.mov (.t 126)))⟩, ⟨(some 127), none, (.k (.ext (.t 123) 0))⟩, ⟨(some 128), none, (.k (.ext (.t 123) 1))⟩, ⟨none, none, (.k (.st 2 (.t 15) (.t 127)))⟩, ⟨(some 16), none, (.k (.mov (.t 128)))⟩]) BoxSums_19)
def BoxSums_17 : AC := (.seq (.ops [⟨(some 114), none, (.k (.mov (.t 11)))⟩, ⟨(some 115), none, (.k (.mov (.t 114)))⟩, ⟨(some 116), (some (115, true)), (.k (.mov (.t 16)))⟩, ⟨(some 117), (some (115, true)), (.k (.bin .eql (.t 116) (.c (.sc (.int .i64 2)))))⟩, ⟨(some 118), (some (115, true)), (.k (.mov (.t 117)))⟩, ⟨(some 119), (some (118, false)), (.k (.mov (.t 18)))⟩, ⟨(some 120), (some (118, false)), (.k (.bin .eql (.t 119) (.c (.sc (.int .i64 2)))))⟩, ⟨(some 121), (some (115, true)), (.k (.pick (.t 118) (.c (.sc (.bool true))) (.t 120)))⟩, ⟨(some 122), none, (.k (.pick (.t 115) (.t 121) (.c (.sc (.bool false)))))⟩, ⟨(some 10), none, (.k (.mov (.t 122)))⟩]) .ret)
def BoxSums_16 : AC := (.cond (.t 113) BoxSums_17 .skip)
def BoxSums_15 : AC := (.seq (.ops [⟨(some 108), none, (.k (.mov (.t 16)))⟩, ⟨(some 109), none, (.k (.bin .neq (.t 108) (.c (.sc (.int .i64 0)))))⟩, ⟨(some 110), none, (.k (.mov (.t 109)))⟩, ⟨(some 111), (some (110, false)), (.k (.mov (.t 18)))⟩, ⟨(some 112), (some (110, false)), (.k (.bin .neq (.t 111) (.c (.sc (.int .i64 0)))))⟩, ⟨(some 113), none, (.k (.pick (.t 110) (.c (.sc (.bool true))) (.t 112)))⟩]) BoxSums_16)
def BoxSums_14 : AC := (.seq BoxSums_15 BoxSums_18)
def BoxSums_13 : AC := (.seq (.ops [⟨(some 103), none, (.k (.ld 2 true (.t 5)))⟩, ⟨(some 104), none, (.k (.mov (.t 13)))⟩, ⟨(some 105), none, (.call false (.c (.fn (.func 34) [] [])) [(.t 103), (.t 104)])⟩, ⟨(some 102), none, (.k (.mov (.t 105)))⟩, ⟨(some 106), none, (.k (.ext (.t 102) 0))⟩, ⟨(some 107), none, (.k (.ext (.t 102) 1))⟩, ⟨(some 17), none, (.k (.new 35 2 (.c (.agg [(.imm true none 0 []), (.imm true none 0 [])]))))⟩, ⟨none, none, (.k (.st 2 (.t 17) (.t 106)))⟩, ⟨(some 18), none, (.k (.mov (.t 107)))⟩]) BoxSums_14)
def BoxSums_12 : AC := (.seq (.ops [⟨(some 97), none, (.k (.ld 2 true (.t 5)))⟩, ⟨(some 98), none, (.k (.mov (.t 14)))⟩, ⟨(some 99), none, (.call false (.c (.fn (.func 34) [] [])) [(.t 97), (.t 98)])⟩, ⟨(some 96), none, (.k (.mov (.t 99)))⟩, ⟨(some 100), none, (.k (.ext (.t 96) 0))⟩, ⟨(some 101), none, (.k (.ext (.t 96) 1))⟩, ⟨(some 15), none, (.k (.new 35 2 (.c (.agg [(.imm true none 0 []), (.imm true none 0 [])]))))⟩, ⟨none, none, (.k (.st 2 (.t 15) (.t 100)))⟩, ⟨(some 16), none, (.k (.mov (.t 101)))⟩]) BoxSums_13)
def BoxSums_11 : AC := (.seq (.ops [⟨(some 93), none, (.k (.mov (.t 3)))⟩, ⟨(some 94), none, (.k (.mov (.t 4)))⟩, ⟨(some 95), none, (.k (.mm true (.t 93) (.t 94)))⟩, ⟨(some 14), none, (.k (.mov (.t 95)))⟩]) BoxSums_12)
def BoxSums_10 : AC := (.seq (.ops [⟨(some 90), none, (.k (.mov (.t 3)))⟩, ⟨(some 91), none, (.k (.mov (.t 4)))⟩, ⟨(some 92), none, (.k (.mm false (.t 90) (.t 91)))⟩, ⟨(some 13), none, (.k (.mov (.t 92)))⟩]) BoxSums_11)
def BoxSums_9 : AC := (.cond (.t 85) (.ops [⟨(some 86), none, (.k (.mov (.t 3)))⟩, ⟨(some 87), none, (.k (.bin .add (.t 86) (.c (.sc (.int .i64 1)))))⟩, ⟨(some 88), none, (.k (.mov (.t 12)))⟩, ⟨(some 89), none, (.k (.bin .rem (.t 87) (.t 88)))⟩, ⟨(some 4), none, (.k (.mov (.t 89)))⟩]) .skip)
def BoxSums_8 : AC := (.seq (.ops [⟨(some 83), none, (.k (.mov (.t 3)))⟩, ⟨(some 84), none, (.k (.mov (.t 4)))⟩, ⟨(some 85), none, (.k (.bin .eql (.t 83) (.t 84)))⟩]) BoxSums_9)
def BoxSums_7 : AC := (.seq BoxSums_8 BoxSums_10)
def BoxSums_6 : AC := (.seq (.ops [⟨(some 76), none, (.k (.mov (.t 4)))⟩, ⟨(some 77), none, (.k (.mov (.t 12)))⟩, ⟨(some 78), none, (.k (.bin .rem (.t 76) (.t 77)))⟩, ⟨(some 79), none, (.k (.mov (.t 12)))⟩, ⟨(some 80), none, (.k (.bin .add (.t 78) (.t 79)))⟩, ⟨(some 81), none, (.k (.mov (.t 12)))⟩, ⟨(some 82), none, (.k (.bin .rem (.t 80) (.t 81)))⟩, ⟨(some 4), none, (.k (.mov (.t 82)))⟩]) BoxSums_7)
def BoxSums_5 : AC := (.seq (.ops [⟨(some 69), none, (.k (.mov (.t 3)))⟩, ⟨(some 70), none, (.k (.mov (.t 12)))⟩, ⟨(some 71), none, (.k (.bin .rem (.t 69) (.t 70)))⟩, ⟨(some 72), none, (.k (.mov (.t 12)))⟩, ⟨(some 73), none, (.k (.bin .add (.t 71) (.t 72)))⟩, ⟨(some 74), none, (.k (.mov (.t 12)))⟩, ⟨(some 75), none, (.k (.bin .rem (.t 73) (.t 74)))⟩, ⟨(some 3), none, (.k (.mov (.t 75)))⟩]) BoxSums_6)
def BoxSums_4 : AC := (.seq (.ops [⟨(some 66), none, (.k (.fad 0 (.t 5)))⟩, ⟨(some 67), none, (.k (.ld 1 false (.t 66)))⟩, ⟨(some 68), none, (.k (.len (.t 67)))⟩, ⟨(some 12), none, (.k (.mov (.t 68)))⟩]) BoxSums_5)
def BoxSums_3 : AC := (.seq (.ops [⟨(some 36), none, (.k (.ld 2 true (.t 5)))⟩, ⟨(some 37), none, (.k (.ld 2 true (.t 6)))⟩, ⟨(some 38), none, (.k (.lit 2 [(.t 36), (.t 37)]))⟩, ⟨(some 39), none, (.call false (.c (.fn (.func 19) [] [])) [(.t 38)])⟩, ⟨(some 40), none, (.k (.un .not (.t 39)))⟩, ⟨(some 41), none, (.k (.mov (.t 40)))⟩, ⟨(some 42), (some (41, false)), (.k (.ld 2 true (.t 5)))⟩, ⟨(some 43), (some (41, false)), (.call false (.c (.fn (.func 25) [] [])) [(.t 42)])⟩, ⟨(some 44), (some (41, false)), (.k (.bin .neq (.t 43) (.c (.sc (.int .i64 0)))))⟩, ⟨(some 45), none, (.k (.pick (.t 41) (.c (.sc (.bool true))) (.t 44)))⟩, ⟨(some 46), none, (.k (.mov (.t 45)))⟩, ⟨(some 47), (some (46, false)), (.k (.ld 2 true (.t 6)))⟩, ⟨(some 48), (some (46, false)), (.call false (.c (.fn (.func 25) [] [])) [(.t 47)])⟩, ⟨(some 49), (some (46, false)), (.k (.bin .neq (.t 48) (.c (.sc (.int .i64 0)))))⟩, ⟨(some 50), none, (.k (.pick (.t 46) (.c (.sc (.bool true))) (.t 49)))⟩, ⟨(some 51), none, (.k (.mov (.t 50)))⟩, ⟨(some 52), (some (51, false)), (.k (.fad 0 (.t 5)))⟩, ⟨(some 53), (some (51, false)), (.k (.ld 1 false (.t 52)))⟩, ⟨(some 54), (some (51, false)), (.k (.fad 0 (.t 6)))⟩, ⟨(some 55), (some (51, false)), (.k (.ld 1 false (.t 54)))⟩, ⟨(some 56), (some (51, false)), (.call false (.c (.fn (.func 18) [] [])) [(.t 53), (.t 55)])⟩, ⟨(some 57), (some (51, false)), (.k (.un .not (.t 56)))⟩, ⟨(some 58), none, (.k (.pick (.t 51) (.c (.sc (.bool true))) (.t 57)))⟩, ⟨(some 59), none, (.k (.mov (.t 58)))⟩, ⟨(some 60), (some (59, false)), (.k (.fad 0 (.t 5)))⟩, ⟨(some 61), (some (59, false)), (.k (.ld 1 false (.t 60)))⟩, ⟨(some 62), (some (59, false)), (.k (.len (.t 61)))⟩, ⟨(some 63), (some (59, false)), (.k (.bin .lss (.t 62) (.c (.sc (.int .i64 2)))))⟩, ⟨(some 64), none, (.k (.pick (.t 59) (.c (.sc (.bool true))) (.t 63)))⟩]) (.cond (.t 64) (.seq (.ops [⟨(some 65), none, (.k (.mov (.t 11)))⟩, ⟨(some 10), none, (.k (.mov (.t 65)))⟩]) .ret) .skip))
def BoxSums_2 : AC := (.seq BoxSums_3 BoxSums_4)
def BoxSums_1 : AC := (.seq (.ops [⟨(some 35), none, (.call false (.c (.fn (.func 11) [] [])) [])⟩, ⟨(some 11), none, (.k (.mov (.t 35)))⟩]) BoxSums_2)
def BoxSums_ac : AC := (.seq (.ops [⟨(some 5), none, (.k (.new 35 2 (.t 0)))⟩, ⟨(some 6), none, (.k (.new 35 2 (.t 1)))⟩, ⟨(some 10), none, (.k (.mov (.c (.sc (.bool false)))))⟩]) BoxSums_1)
theorem BoxSums_call {args : List AV} {H : List AObj} {R : AV → List AObj → Prop} (h : AWp Try.prog [] H.length BoxSums_ac (bodyQ H.length [(.t 10)] R) (args ++ List.replicate (238 - args.length) .und) H) : ACalls Try.prog 10 args H R :=
  ACalls.of_fn Try.func10 rfl (by kernel_rfl) rfl Try.ntmps10 h

set_option maxHeartbeats 8000000 in
theorem BoxSums_spec {a b : AV} {A B : List Int × List Int} {by_ mode other : Int} (ha : Dn a A) (hb : Dn b B) (hm9 : -9223372036854775808 ≤ mode ∧ mode ≤ 9223372036854775807) (ho9 : -9223372036854775808 ≤ other ∧ other ≤ 9223372036854775807) :
    ACalls Try.prog 10 [a, b, I by_, I mode, I other] [] fun r H' => H' = [] ∧ r = Bo true := by
  have ha' := ha
  have hb' := hb
  obtain ⟨S, vs⟩ := A
  obtain ⟨bS, ys⟩ := B
  obtain ⟨s1, v1, rfl, hS, ⟨⟨nl2, c2, z2, rfl, hz2⟩, hr2⟩⟩ := ha
  obtain ⟨s2, v2, rfl, hbS, ⟨⟨nl4, c4, z4, rfl, hz4⟩, hr4⟩⟩ := hb
  have hS' := hS
  have hbS' := hbS
  obtain ⟨⟨nl1, c1, z1, rfl, hz1⟩, hr1⟩ := hS
  obtain ⟨⟨nl3, c3, z3, rfl, hz3⟩, hr3⟩ := hbS
  simp only at hz1 hr1 hz2 hr2 hz3 hr3 hz4 hr4 hS' hbS'
  refine ACalls.res 0 ?_ (fun _ => rfl)
  apply BoxSums_call
  first | refine AWp.seq (AWp.ops ?_) | refine AWp.seq (AWp.seq (AWp.ops ?_)) | refine AWp.ops ?_ | refine AWp.seq (AWp.block (AWp.seq (AWp.ops ?_))) | refine AWp.seq (AWp.seq (AWp.seq (AWp.ops ?_)))
  simp
  first | refine AWp.seq (AWp.ops ?_) | refine AWp.seq (AWp.seq (AWp.ops ?_)) | refine AWp.ops ?_ | refine AWp.seq (AWp.block (AWp.seq (AWp.ops ?_))) | refine AWp.seq (AWp.seq (AWp.seq (AWp.ops ?_)))
  simp
  refine (live_spec.pure (by simp) (by rintro r rfl; simp) _).mono ?_
  rintro r H' ⟨rfl, rfl⟩
  simp
  first | refine AWp.seq (AWp.ops ?_) | refine AWp.seq (AWp.seq (AWp.ops ?_)) | refine AWp.ops ?_ | refine AWp.seq (AWp.block (AWp.seq (AWp.ops ?_))) | refine AWp.seq (AWp.seq (AWp.seq (AWp.ops ?_)))
  simp
  refine ((few_spec (.cons ha' (.cons hb' .nil)) (by simp)).pure (by simp) (by rintro r rfl; simp) _).mono ?_
  rintro r H' ⟨rfl, rfl⟩
  by_cases h1 : [(S, vs), (bS, ys)].all fewB = true
  case neg =>
    have h1 : [(S, vs), (bS, ys)].all fewB = false := by simpa only [Bool.not_eq_true] using h1
    simp only [h1]
    simp
    refine AWp.cond (b := true) (by simp) (fun _ => ?_) (fun h => by cases h)
    first | refine AWp.seq (AWp.ops ?_) | refine AWp.seq (AWp.seq (AWp.ops ?_)) | refine AWp.ops ?_ | refine AWp.seq (AWp.block (AWp.seq (AWp.ops ?_))) | refine AWp.seq (AWp.seq (AWp.seq (AWp.ops ?_)))
    simp
    refine AWp.ret ?_
    simp
    refine retOk.of rfl ?_
    rfl
  simp only [h1]
  simp
  refine ((bCheck_spec ha').pure (by simp) (by rintro r rfl; simp) _).mono ?_
  rintro r H' ⟨rfl, rfl⟩
  by_cases hc : checkF (S, vs) = 0
  case neg =>
    simp [hc]
    refine AWp.cond (b := true) (by simp) (fun _ => ?_) (fun h => by cases h)
    first | refine AWp.seq (AWp.ops ?_) | refine AWp.seq (AWp.seq (AWp.ops ?_)) | refine AWp.ops ?_ | refine AWp.seq (AWp.block (AWp.seq (AWp.ops ?_))) | refine AWp.seq (AWp.seq (AWp.seq (AWp.ops ?_)))
    simp
    refine AWp.ret ?_
    simp
    refine retOk.of rfl ?_
    rfl
  simp [hc]
  refine ((bCheck_spec hb').pure (by simp) (by rintro r rfl; simp) _).mono ?_
  rintro r H' ⟨rfl, rfl⟩
  by_cases hc2 : checkF (bS, ys) = 0
  case neg =>
    simp [hc2]
    refine AWp.cond (b := true) (by simp) (fun _ => ?_) (fun h => by cases h)
    first | refine AWp.seq (AWp.ops ?_) | refine AWp.seq (AWp.seq (AWp.ops ?_)) | refine AWp.ops ?_ | refine AWp.seq (AWp.block (AWp.seq (AWp.ops ?_))) | refine AWp.seq (AWp.seq (AWp.seq (AWp.ops ?_)))
    simp
    refine AWp.ret ?_
    simp
    refine retOk.of rfl ?_
    rfl
  simp [hc2]
  refine ((rEqual_spec hS' hbS').pure (by simp) (by rintro r rfl; simp) _).mono ?_
  rintro r H' ⟨rfl, rfl⟩
  by_cases hSS : S = bS
  case neg =>
    simp [hSS]
    refine AWp.cond (b := true) (by simp) (fun _ => ?_) (fun h => by cases h)
    first | refine AWp.seq (AWp.ops ?_) | refine AWp.seq (AWp.seq (AWp.ops ?_)) | refine AWp.ops ?_ | refine AWp.seq (AWp.block (AWp.seq (AWp.ops ?_))) | refine AWp.seq (AWp.seq (AWp.seq (AWp.ops ?_)))
    simp
    refine AWp.ret ?_
    simp
    refine retOk.of rfl ?_
    rfl
  subst hSS
  by_cases hrk : S.length < 2
  · have g : (S.length : Int) < 2 := by omega
    simp [g]
    refine AWp.cond (b := true) (by simp [g]) (fun _ => ?_) (fun h => by cases h)
    first | refine AWp.seq (AWp.ops ?_) | refine AWp.seq (AWp.seq (AWp.ops ?_)) | refine AWp.ops ?_ | refine AWp.seq (AWp.block (AWp.seq (AWp.ops ?_))) | refine AWp.seq (AWp.seq (AWp.seq (AWp.ops ?_)))
    simp
    refine AWp.ret ?_
    simp
    refine retOk.of rfl ?_
    rfl
  have g : ¬ (S.length : Int) < 2 := by omega
  simp [g]
  refine AWp.cond (b := false) (by simp <;> omega) (fun h => by cases h) (fun _ => ?_)
  refine AWp.skip ?_
  simp only [qSeq]
  have hS4 : S.length ≤ 4 := (laid_ok (check_laid hc).1).1
  refine AWp.weak (Weak.slots [2, 3, 4, 5, 6, 10, 11]) ?_
  simp
  have hLp : 0 < S.length := by omega
  have hLne : ¬ S.length = 0 := by omega
  have hLne' : ¬ S = [] := by rintro rfl; simp at hLp
  obtain ⟨m, hm, hme⟩ := mode_range (x := mode) hLp (by omega)
  obtain ⟨o0, ho0, hoe⟩ := mode_range (x := other) hLp (by omega)
  first | refine AWp.seq (AWp.ops ?_) | refine AWp.seq (AWp.seq (AWp.ops ?_)) | refine AWp.ops ?_ | refine AWp.seq (AWp.block (AWp.seq (AWp.ops ?_))) | refine AWp.seq (AWp.seq (AWp.seq (AWp.ops ?_)))
  simp
  first | refine AWp.seq (AWp.ops ?_) | refine AWp.seq (AWp.seq (AWp.ops ?_)) | refine AWp.ops ?_ | refine AWp.seq (AWp.block (AWp.seq (AWp.ops ?_))) | refine AWp.seq (AWp.seq (AWp.seq (AWp.ops ?_)))
  simp [hme, hLne, hLne']
  first | refine AWp.seq (AWp.ops ?_) | refine AWp.seq (AWp.seq (AWp.ops ?_)) | refine AWp.ops ?_ | refine AWp.seq (AWp.block (AWp.seq (AWp.ops ?_))) | refine AWp.seq (AWp.seq (AWp.seq (AWp.ops ?_)))
  simp [hoe, hLne, hLne']
  refine AWp.cutE (σ := Nat) (fun o => o < S.length ∧ o ≠ m) (fun o => [.und, .und, I by_, I m, I o, .ptr 0 1 0 0, .ptr 1 1 0 0, .und, .und, .und, Bo false, Bo true, .und, .und, .und, .und, .und, .und, .und, .und, .und, .und, .und, .und, .und, .und, .und, .und, .und, .und, .und, .und, .und, .und, .und, .und, .und, .und, .und, .und, .und, .und, .und, .und, .und, .und, .und, .und, .und, .und, .und, .und, .und, .und, .und, .und, .und, .und, .und, .und, .und, .und, .und, .und, .und, .und, .und, .und, .und, .und, .und, .und, .und, .und, .und, .und, .und, .und, .und, .und, .und, .und, .und, .und, .und, .und, .und, .und, .und, .und, .und, .und, .und, .und, .und, .und, .und, .und, .und, .und, .und, .und, .und, .und, .und, .und, .und, .und, .und, .und, .und, .und, .und, .und, .und, .und, .und, .und, .und, .und, .und, .und, .und, .und, .und, .und, .und, .und, .und, .und, .und, .und, .und, .und, .und, .und, .und, .und, .und, .und, .und, .und, .und, .und, .und, .und, .und, .und, .und, .und, .und, .und, .und, .und, .und, .und, .und, .und, .und, .und, .und, .und, .und, .und, .und, .und, .und, .und, .und, .und, .und, .und, .und, .und, .und, .und, .und, .und, .und, .und, .und, .und, .und, .und, .und, .und, .und, .und, .und, .und, .und, .und, .und, .und, .und, .und, .und, .und, .und, .und, .und, .und, .und, .und, .und, .und, .und, .und, .und, .und, .und, .und, .und, .und, .und, .und, .und, .und, .und, .und, .und, .und, .und, .und, .und, .und, .und, .und, .und, .und, .und, .und, .und, .und, .und, .und, .und, .und]) (fun _ => [denO (.agg [.imm nl1 c1 z1 (S.map I), .imm nl2 c2 z2 (vs.map I)]), denO (.agg [.imm nl3 c3 z3 (S.map I), .imm nl4 c4 z4 (ys.map I)])]) ?_ ?_
  ·
    first | refine AWp.seq (AWp.ops ?_) | refine AWp.seq (AWp.seq (AWp.ops ?_)) | refine AWp.ops ?_ | refine AWp.seq (AWp.block (AWp.seq (AWp.ops ?_))) | refine AWp.seq (AWp.seq (AWp.seq (AWp.ops ?_)))
    simp
    by_cases hmo : m = o0
    · subst hmo
      simp
      refine AWp.cond (b := true) (by simp) (fun _ => ?_) (fun h => by cases h)
      have hw1 := wrap_i64 (n := (m : Int) + 1) (by omega) (by omega)
      have hr1' : ((m : Int) + 1).tmod S.length = (((m + 1) % S.length : Nat) : Int) := by
        rw [Int.ofNat_tmod]; simp
      obtain ⟨o, ho⟩ : ∃ o, o = (m + 1) % S.length := ⟨_, rfl⟩
      rw [← ho] at hr1'
      first | refine AWp.seq (AWp.ops ?_) | refine AWp.seq (AWp.seq (AWp.ops ?_)) | refine AWp.ops ?_ | refine AWp.seq (AWp.block (AWp.seq (AWp.ops ?_))) | refine AWp.seq (AWp.seq (AWp.seq (AWp.ops ?_)))
      simp [hw1, hr1', hLne, hLne']
      refine ⟨o, ⟨by rw [ho]; exact Nat.mod_lt _ hLp, ?_⟩, (Weak.slots [2, 3, 4, 5, 6, 10, 11]).to (by simp) rfl⟩
      by_cases hl : m + 1 = S.length
      · rw [hl, Nat.mod_self] at ho; omega
      · rw [Nat.mod_eq_of_lt (by omega)] at ho; omega
    · have hmo' : ¬ (m : Int) = o0 := by omega
      refine AWp.cond (b := false) (by simp; omega) (fun h => by cases h) (fun _ => ?_)
      refine AWp.skip ?_
      simp only [qSeq]
      exact ⟨o0, ⟨ho0, by omega⟩, (Weak.slots [2, 3, 4, 5, 6, 10, 11]).to (by simp) rfl⟩
  rintro o ⟨ho, hom⟩
  obtain ⟨lo, hi, hlh, hhi, hlo1, hhi1, hmm⟩ : ∃ lo hi : Nat, lo < hi ∧ hi < S.length ∧ (if (o : Int) < m then (o : Int) else m) = lo ∧ (if (m : Int) < o then (o : Int) else m) = hi ∧ (m = lo ∨ m = hi) := by
    rcases Nat.lt_or_gt_of_ne hom with h | h
    · exact ⟨o, m, h, hm, by rw [if_pos (by omega)], by rw [if_neg (by omega)], .inr rfl⟩
    · exact ⟨m, o, h, ho, by rw [if_neg (by omega)], by rw [if_pos (by omega)], .inl rfl⟩
  obtain ⟨hsw1, hsw2⟩ := sum_swap hlh hhi hc
  have hlo2 : (if o < m then (o : Int) else m) = lo := by rw [← hlo1]; simp
  have hhi2 : (if m < o then (o : Int) else m) = hi := by rw [← hhi1]; simp
  first | refine AWp.seq (AWp.ops ?_) | refine AWp.seq (AWp.seq (AWp.ops ?_)) | refine AWp.ops ?_ | refine AWp.seq (AWp.block (AWp.seq (AWp.ops ?_))) | refine AWp.seq (AWp.seq (AWp.seq (AWp.ops ?_)))
  simp [hlo1, hlo2]
  first | refine AWp.seq (AWp.ops ?_) | refine AWp.seq (AWp.seq (AWp.ops ?_)) | refine AWp.ops ?_ | refine AWp.seq (AWp.block (AWp.seq (AWp.ops ?_))) | refine AWp.seq (AWp.seq (AWp.seq (AWp.ops ?_)))
  simp [hhi1, hhi2]
  refine AWp.weak (Weak.slots [2, 3, 5, 6, 10, 11, 13, 14]) ?_
  simp
  first | refine AWp.seq (AWp.ops ?_) | refine AWp.seq (AWp.seq (AWp.ops ?_)) | refine AWp.ops ?_ | refine AWp.seq (AWp.block (AWp.seq (AWp.ops ?_))) | refine AWp.seq (AWp.seq (AWp.seq (AWp.ops ?_)))
  simp
  by_cases zh : (zeroF (S.eraseIdx hi)).2 = 0
  case neg =>
    refine ((Sum_bad ha' hc hhi zh).pure (by simp) (by rintro r ⟨x, rfl, D, h⟩; simp [h.noRef]) _).mono ?_
    rintro r H' ⟨rfl, x, rfl, D, hx⟩
    obtain ⟨s3, v3, rfl, ⟨⟨_, _, _, rfl, _⟩, _⟩, ⟨⟨_, _, _, rfl, _⟩, _⟩⟩ := hx
    simp
    first | refine AWp.seq (AWp.ops ?_) | refine AWp.seq (AWp.seq (AWp.ops ?_)) | refine AWp.ops ?_ | refine AWp.seq (AWp.block (AWp.seq (AWp.ops ?_))) | refine AWp.seq (AWp.seq (AWp.seq (AWp.ops ?_)))
    simp
    have hlo' : lo < S.length := by omega
    obtain ⟨r1, r2⟩ := sumF_inR (D := (S, vs)) ha'.inR.1 lo
    refine ((dense_pure (Sum_spec (mode := lo) ha') r1 r2).pure (by simp) (by rintro r ⟨d, rfl, h⟩; simp [h.noRef]) _).mono ?_
    rintro r H' ⟨rfl, x, rfl, hx⟩
    obtain ⟨s3, v3, rfl, ⟨⟨_, _, _, rfl, _⟩, _⟩, ⟨⟨_, _, _, rfl, _⟩, _⟩⟩ := hx
    simp
    first | refine AWp.seq (AWp.ops ?_) | refine AWp.seq (AWp.seq (AWp.ops ?_)) | refine AWp.ops ?_ | refine AWp.seq (AWp.block (AWp.seq (AWp.ops ?_))) | refine AWp.seq (AWp.seq (AWp.seq (AWp.ops ?_)))
    simp
    refine AWp.cond (b := true) (by simp) (fun _ => ?_) (fun h => by cases h)
    first | refine AWp.seq (AWp.ops ?_) | refine AWp.seq (AWp.seq (AWp.ops ?_)) | refine AWp.ops ?_ | refine AWp.seq (AWp.block (AWp.seq (AWp.ops ?_))) | refine AWp.seq (AWp.seq (AWp.seq (AWp.ops ?_)))
    simp
    refine AWp.ret ?_
    simp
    refine retOk.of rfl ?_
    rfl
  refine ((Sum_ok ha' hc hhi zh).pure (by simp) (by rintro r ⟨x, rfl, D, _, h⟩; simp [h.noRef]) _).mono ?_
  rintro r H' ⟨rfl, x, rfl, lx, hlx, dx⟩
  have dx' := dx
  obtain ⟨s3, v3, rfl, ⟨⟨nl5, c5, z5, rfl, _⟩, _⟩, ⟨⟨nl6, c6, z6, rfl, _⟩, _⟩⟩ := dx
  simp
  first | refine AWp.seq (AWp.ops ?_) | refine AWp.seq (AWp.seq (AWp.ops ?_)) | refine AWp.ops ?_ | refine AWp.seq (AWp.block (AWp.seq (AWp.ops ?_))) | refine AWp.seq (AWp.seq (AWp.seq (AWp.ops ?_)))
  simp
  by_cases zl : (zeroF (S.eraseIdx lo)).2 = 0
  case neg =>
    refine ((Sum_bad ha' hc (by omega) zl).pure (by simp) (by rintro r ⟨x, rfl, D, h⟩; simp [h.noRef]) _).mono ?_
    rintro r H' ⟨rfl, x, rfl, D, hx⟩
    obtain ⟨s3, v3, rfl, ⟨⟨_, _, _, rfl, _⟩, _⟩, ⟨⟨_, _, _, rfl, _⟩, _⟩⟩ := hx
    simp
    first | refine AWp.seq (AWp.ops ?_) | refine AWp.seq (AWp.seq (AWp.ops ?_)) | refine AWp.ops ?_ | refine AWp.seq (AWp.block (AWp.seq (AWp.ops ?_))) | refine AWp.seq (AWp.seq (AWp.seq (AWp.ops ?_)))
    simp
    refine AWp.cond (b := true) (by simp) (fun _ => ?_) (fun h => by cases h)
    first | refine AWp.seq (AWp.ops ?_) | refine AWp.seq (AWp.seq (AWp.ops ?_)) | refine AWp.ops ?_ | refine AWp.seq (AWp.block (AWp.seq (AWp.ops ?_))) | refine AWp.seq (AWp.seq (AWp.seq (AWp.ops ?_)))
    simp
    refine AWp.ret ?_
    simp
    refine retOk.of rfl ?_
    rfl
  refine ((Sum_ok ha' hc (by omega) zl).pure (by simp) (by rintro r ⟨x, rfl, D, _, h⟩; simp [h.noRef]) _).mono ?_
  rintro r H' ⟨rfl, y, rfl, ly, hly, dy⟩
  have dy' := dy
  obtain ⟨s4, v4, rfl, ⟨⟨nl7, c7, z7, rfl, _⟩, _⟩, ⟨⟨nl8, c8, z8, rfl, _⟩, _⟩⟩ := dy
  simp
  have cx : checkF (S.eraseIdx hi, lx) = 0 := by rw [hlx]; exact sum_check zh
  have cy : checkF (S.eraseIdx lo, ly) = 0 := by rw [hly]; exact sum_check zl
  have lEh : lo < (S.eraseIdx hi).length := by rw [List.length_eraseIdx, if_pos hhi]; omega
  have lEl : hi - 1 < (S.eraseIdx lo).length := by rw [List.length_eraseIdx, if_pos (by omega)]; omega
  first | refine AWp.seq (AWp.ops ?_) | refine AWp.seq (AWp.seq (AWp.ops ?_)) | refine AWp.ops ?_ | refine AWp.seq (AWp.block (AWp.seq (AWp.ops ?_))) | refine AWp.seq (AWp.seq (AWp.seq (AWp.ops ?_)))
  simp
  refine AWp.cond (b := false) (by simp) (fun h => by cases h) (fun _ => ?_)
  refine AWp.skip ?_
  simp only [qSeq]
  refine AWp.weak (Weak.slots [2, 3, 5, 6, 10, 11, 13, 14, 15, 16, 17, 18]) ?_
  simp
  have hwh : IntKind.i64.wrap ((hi : Int) - 1) = ((hi - 1 : Nat) : Int) := by rw [wrap_i64 (by omega) (by omega)]; omega
  obtain ⟨h1n, hh1n⟩ : ∃ h1n, h1n = hi - 1 := ⟨_, rfl⟩
  rw [← hh1n] at hwh lEl hsw1 hsw2
  have hz12 : (zeroF ((S.eraseIdx lo).eraseIdx h1n)).2 = (zeroF ((S.eraseIdx hi).eraseIdx lo)).2 := by rw [hsw1]
  obtain ⟨F, hF⟩ : ∃ F, F = sumF (S.eraseIdx hi, lx) lo := ⟨_, rfl⟩
  obtain ⟨G, hG⟩ : ∃ G, G = sumF (S.eraseIdx lo, ly) h1n := ⟨_, rfl⟩
  obtain ⟨e, he⟩ : ∃ e, e = (zeroF ((S.eraseIdx hi).eraseIdx lo)).2 := ⟨_, rfl⟩
  have hFe : F.2 = e := by rw [hF, he, sum_err cx lEh]
  have hGe : G.2 = e := by rw [hG, he, sum_err cy lEl, hz12]
  obtain ⟨rF1, rF2⟩ := sumF_inR (D := (S.eraseIdx hi, lx)) dx'.inR.1 lo
  obtain ⟨rG1, rG2⟩ := sumF_inR (D := (S.eraseIdx lo, ly)) dy'.inR.1 h1n
  have sF := dense_pure (Sum_spec (mode := lo) dx') rF1 rF2
  have sG := dense_pure (Sum_spec (mode := h1n) dy') rG1 rG2
  rw [← hF, hFe] at sF
  rw [← hG, hGe] at sG
  have same : e = 0 → F.1 = G.1 ∧ checkF F.1 = 0 := by
    intro e0
    rw [e0] at he
    have zx : (zeroF ((S.eraseIdx hi).eraseIdx lo)).2 = 0 := he.symm
    have zy : (zeroF ((S.eraseIdx lo).eraseIdx h1n)).2 = 0 := by rw [hz12]; exact zx
    rw [hF, hG, sum_ok cx lEh zx, sum_ok cy lEl zy, hlx, hly]
    exact ⟨by rw [hsw1, hsw2 zh zl], sum_check zx⟩
  clear hF hG
  first | refine AWp.seq (AWp.ops ?_) | refine AWp.seq (AWp.seq (AWp.ops ?_)) | refine AWp.ops ?_ | refine AWp.seq (AWp.block (AWp.seq (AWp.ops ?_))) | refine AWp.seq (AWp.seq (AWp.seq (AWp.ops ?_)))
  simp
  refine (sF.pure (by simp) (by rintro r ⟨d, rfl, h⟩; simp [h.noRef]) _).mono ?_
  rintro r H' ⟨rfl, x, rfl, dX⟩
  have dX' := dX
  obtain ⟨s3, v3, rfl, ⟨⟨nl9, c9, z9, rfl, _⟩, _⟩, ⟨⟨nl10, c10, z10, rfl, _⟩, _⟩⟩ := dX
  simp
  first | refine AWp.seq (AWp.ops ?_) | refine AWp.seq (AWp.seq (AWp.ops ?_)) | refine AWp.ops ?_ | refine AWp.seq (AWp.block (AWp.seq (AWp.ops ?_))) | refine AWp.seq (AWp.seq (AWp.seq (AWp.ops ?_)))
  simp [hwh]
  refine (sG.pure (by simp) (by rintro r ⟨d, rfl, h⟩; simp [h.noRef]) _).mono ?_
  rintro r H' ⟨rfl, y, rfl, dY⟩
  have dY' := dY
  obtain ⟨s4, v4, rfl, ⟨⟨nl11, c11, z11, rfl, _⟩, _⟩, ⟨⟨nl12, c12, z12, rfl, _⟩, _⟩⟩ := dY
  simp
  refine AWp.weak (Weak.slots [2, 3, 5, 6, 10, 11, 15, 16, 17, 18]) ?_
  simp
  refine AWp.cut [.und, .und, I by_, I m, .und, .ptr 0 1 0 0, .ptr 1 1 0 0, .und, .und, .und, Bo false, Bo true, .und, .und, .und, .und, .und, .und, .und, .und, .und, .und, .und, .und, .und, .und, .und, .und, .und, .und, .und, .und, .und, .und, .und, .und, .und, .und, .und, .und, .und, .und, .und, .und, .und, .und, .und, .und, .und, .und, .und, .und, .und, .und, .und, .und, .und, .und, .und, .und, .und, .und, .und, .und, .und, .und, .und, .und, .und, .und, .und, .und, .und, .und, .und, .und, .und, .und, .und, .und, .und, .und, .und, .und, .und, .und, .und, .und, .und, .und, .und, .und, .und, .und, .und, .und, .und, .und, .und, .und, .und, .und, .und, .und, .und, .und, .und, .und, .und, .und, .und, .und, .und, .und, .und, .und, .und, .und, .und, .und, .und, .und, .und, .und, .und, .und, .und, .und, .und, .und, .und, .und, .und, .und, .und, .und, .und, .und, .und, .und, .und, .und, .und, .und, .und, .und, .und, .und, .und, .und, .und, .und, .und, .und, .und, .und, .und, .und, .und, .und, .und, .und, .und, .und, .und, .und, .und, .und, .und, .und, .und, .und, .und, .und, .und, .und, .und, .und, .und, .und, .und, .und, .und, .und, .und, .und, .und, .und, .und, .und, .und, .und, .und, .und, .und, .und, .und, .und, .und, .und, .und, .und, .und, .und, .und, .und, .und, .und, .und, .und, .und, .und, .und, .und, .und, .und, .und, .und, .und, .und, .und, .und, .und, .und, .und, .und, .und, .und, .und, .und, .und, .und, .und, .und, .und, .und, .und, .und] [denO (.agg [.imm nl1 c1 z1 (S.map I), .imm nl2 c2 z2 (vs.map I)]), denO (.agg [.imm nl3 c3 z3 (S.map I), .imm nl4 c4 z4 (ys.map I)])] ?_ ?_
  ·
    first | refine AWp.seq (AWp.ops ?_) | refine AWp.seq (AWp.seq (AWp.ops ?_)) | refine AWp.ops ?_ | refine AWp.seq (AWp.block (AWp.seq (AWp.ops ?_))) | refine AWp.seq (AWp.seq (AWp.seq (AWp.ops ?_)))
    simp
    by_cases e0 : e = 0
    · obtain ⟨w1, w2⟩ := same e0
      subst e0
      simp
      have hss := bSame_spec dX' dY'
      rw [decide_eq_true (⟨w2, w1⟩ : checkF F.1 = 0 ∧ F.1 = G.1)] at hss
      refine (hss.pure (by simp) (by rintro r rfl; rfl) _).mono ?_
      rintro r H' ⟨rfl, rfl⟩
      simp
      refine AWp.cond (b := false) (by simp) (fun h => by cases h) (fun _ => ?_)
      refine AWp.skip ?_
      simp only [qSeq]
      exact ((Weak.slots [2, 3, 5, 6, 10, 11]).trans (Weak.freeze 2 2 (by simp))).to (by simp) (by simp [frzH])
    · simp [e0]
      refine AWp.cond (b := false) (by simp) (fun h => by cases h) (fun _ => ?_)
      refine AWp.skip ?_
      simp only [qSeq]
      exact ((Weak.slots [2, 3, 5, 6, 10, 11]).trans (Weak.freeze 2 2 (by simp))).to (by simp) (by simp [frzH])
  clear same sF sG dX' dY' dx' dy' hFe hGe rF1 rF2 rG1 rG2 cx cy hlx hly hsw2
  have zm : (zeroF (S.eraseIdx m)).2 = 0 := by rcases hmm with rfl | rfl <;> assumption
  have hyl : ys.length = vs.length := by
    have q1 := (check_laid hc).2.1
    have q2 := (check_laid hc2).2.1
    simp only at q1 q2
    omega
  first | refine AWp.seq (AWp.ops ?_) | refine AWp.seq (AWp.seq (AWp.ops ?_)) | refine AWp.ops ?_ | refine AWp.seq (AWp.block (AWp.seq (AWp.ops ?_))) | refine AWp.seq (AWp.seq (AWp.seq (AWp.ops ?_)))
  simp
  refine ((Add_ok ha' hb' hc hyl).pure (by simp) (by rintro r ⟨x, rfl, D, _, h⟩; simp [h.noRef]) _).mono ?_
  rintro r H' ⟨rfl, x, rfl, ls, hls, ds⟩
  have ds' := ds
  obtain ⟨_, _, rfl, ⟨⟨_, _, _, rfl, _⟩, _⟩, ⟨⟨_, _, _, rfl, _⟩, _⟩⟩ := ds
  simp
  have cs : checkF (S, ls) = 0 := check_len hc (by rw [hls]; simp; omega)
  first | refine AWp.seq (AWp.ops ?_) | refine AWp.seq (AWp.seq (AWp.ops ?_)) | refine AWp.ops ?_ | refine AWp.seq (AWp.block (AWp.seq (AWp.ops ?_))) | refine AWp.seq (AWp.seq (AWp.seq (AWp.ops ?_)))
  simp
  refine ((Sum_ok ds' cs hm zm).pure (by simp) (by rintro r ⟨x, rfl, D, _, h⟩; simp [h.noRef]) _).mono ?_
  rintro r H' ⟨rfl, x, rfl, lt, hlt, dt⟩
  have dt' := dt
  obtain ⟨_, _, rfl, ⟨⟨_, _, _, rfl, _⟩, _⟩, ⟨⟨_, _, _, rfl, _⟩, _⟩⟩ := dt
  simp
  have ct : checkF (S.eraseIdx m, lt) = 0 := by rw [hlt]; exact sum_check zm
  first | refine AWp.seq (AWp.ops ?_) | refine AWp.seq (AWp.seq (AWp.ops ?_)) | refine AWp.ops ?_ | refine AWp.seq (AWp.block (AWp.seq (AWp.ops ?_))) | refine AWp.seq (AWp.seq (AWp.seq (AWp.ops ?_)))
  simp
  refine ((Sum_ok ha' hc hm zm).pure (by simp) (by rintro r ⟨x, rfl, D, _, h⟩; simp [h.noRef]) _).mono ?_
  rintro r H' ⟨rfl, x, rfl, lp, hlp, dp⟩
  have dp' := dp
  obtain ⟨_, _, rfl, ⟨⟨_, _, _, rfl, _⟩, _⟩, ⟨⟨_, _, _, rfl, _⟩, _⟩⟩ := dp
  simp
  have cp : checkF (S.eraseIdx m, lp) = 0 := by rw [hlp]; exact sum_check zm
  first | refine AWp.seq (AWp.ops ?_) | refine AWp.seq (AWp.seq (AWp.ops ?_)) | refine AWp.ops ?_ | refine AWp.seq (AWp.block (AWp.seq (AWp.ops ?_))) | refine AWp.seq (AWp.seq (AWp.seq (AWp.ops ?_)))
  simp
  refine ((Sum_ok hb' hc2 hm zm).pure (by simp) (by rintro r ⟨x, rfl, D, _, h⟩; simp [h.noRef]) _).mono ?_
  rintro r H' ⟨rfl, x, rfl, lq, hlq, dq⟩
  have dq' := dq
  obtain ⟨_, _, rfl, ⟨⟨_, _, _, rfl, _⟩, _⟩, ⟨⟨_, _, _, rfl, _⟩, _⟩⟩ := dq
  simp
  first | refine AWp.seq (AWp.ops ?_) | refine AWp.seq (AWp.seq (AWp.ops ?_)) | refine AWp.ops ?_ | refine AWp.seq (AWp.block (AWp.seq (AWp.ops ?_))) | refine AWp.seq (AWp.seq (AWp.seq (AWp.ops ?_)))
  simp
  refine ((Add_ok dp' dq' cp (by rw [hlp, hlq, binV_len, binV_len])).pure (by simp) (by rintro r ⟨x, rfl, D, _, h⟩; simp [h.noRef]) _).mono ?_
  rintro r H' ⟨rfl, x, rfl, lr, hlr, dr⟩
  have dr' := dr
  obtain ⟨_, _, rfl, ⟨⟨_, _, _, rfl, _⟩, _⟩, ⟨⟨_, _, _, rfl, _⟩, _⟩⟩ := dr
  simp
  first | refine AWp.seq (AWp.ops ?_) | refine AWp.seq (AWp.seq (AWp.ops ?_)) | refine AWp.ops ?_ | refine AWp.seq (AWp.block (AWp.seq (AWp.ops ?_))) | refine AWp.seq (AWp.seq (AWp.seq (AWp.ops ?_)))
  simp
  refine ((Scale_ok (by_ := by_) ha' hc).pure (by simp) (by rintro r ⟨x, rfl, D, _, h⟩; simp [h.noRef]) _).mono ?_
  rintro r H' ⟨rfl, x, rfl, lu, hlu, du⟩
  have du' := du
  obtain ⟨_, _, rfl, ⟨⟨_, _, _, rfl, _⟩, _⟩, ⟨⟨_, _, _, rfl, _⟩, _⟩⟩ := du
  simp
  have cu : checkF (S, lu) = 0 := check_len hc (by rw [hlu]; simp)
  first | refine AWp.seq (AWp.ops ?_) | refine AWp.seq (AWp.seq (AWp.ops ?_)) | refine AWp.ops ?_ | refine AWp.seq (AWp.block (AWp.seq (AWp.ops ?_))) | refine AWp.seq (AWp.seq (AWp.seq (AWp.ops ?_)))
  simp
  refine ((Sum_ok du' cu hm zm).pure (by simp) (by rintro r ⟨x, rfl, D, _, h⟩; simp [h.noRef]) _).mono ?_
  rintro r H' ⟨rfl, x, rfl, lv, hlv, dv⟩
  have dv' := dv
  obtain ⟨_, _, rfl, ⟨⟨_, _, _, rfl, _⟩, _⟩, ⟨⟨_, _, _, rfl, _⟩, _⟩⟩ := dv
  simp
  have cv : checkF (S.eraseIdx m, lv) = 0 := by rw [hlv]; exact sum_check zm
  first | refine AWp.seq (AWp.ops ?_) | refine AWp.seq (AWp.seq (AWp.ops ?_)) | refine AWp.ops ?_ | refine AWp.seq (AWp.block (AWp.seq (AWp.ops ?_))) | refine AWp.seq (AWp.seq (AWp.seq (AWp.ops ?_)))
  simp
  refine ((Scale_ok (by_ := by_) dp' cp).pure (by simp) (by rintro r ⟨x, rfl, D, _, h⟩; simp [h.noRef]) _).mono ?_
  rintro r H' ⟨rfl, x, rfl, lw, hlw, dw⟩
  have dw' := dw
  obtain ⟨_, _, rfl, ⟨⟨_, _, _, rfl, _⟩, _⟩, ⟨⟨_, _, _, rfl, _⟩, _⟩⟩ := dw
  simp
  first | refine AWp.seq (AWp.ops ?_) | refine AWp.seq (AWp.seq (AWp.ops ?_)) | refine AWp.ops ?_ | refine AWp.seq (AWp.block (AWp.seq (AWp.ops ?_))) | refine AWp.seq (AWp.seq (AWp.seq (AWp.ops ?_)))
  simp
  refine AWp.cond (b := false) (by simp) (fun h => by cases h) (fun _ => ?_)
  refine AWp.skip ?_
  simp only [qSeq]
  first | refine AWp.seq (AWp.ops ?_) | refine AWp.seq (AWp.seq (AWp.ops ?_)) | refine AWp.ops ?_ | refine AWp.seq (AWp.block (AWp.seq (AWp.ops ?_))) | refine AWp.seq (AWp.seq (AWp.seq (AWp.ops ?_)))
  simp
  refine ((Same_ok dt' dr' ct (by rw [hlt, hls, hlr, hlp, hlq, binV_add hyl.symm])).pure (by simp) (by rintro r rfl; rfl) _).mono ?_
  rintro r H' ⟨rfl, rfl⟩
  simp
  refine ((Same_ok dv' dw' cv (by rw [hlv, hlu, hlw, hlp, binV_mul])).pure (by simp) (by rintro r rfl; rfl) _).mono ?_
  rintro r H' ⟨rfl, rfl⟩
  simp
  refine AWp.ret ?_
  simp
  refine retOk.of rfl ?_
  rfl
end Go.Fw
