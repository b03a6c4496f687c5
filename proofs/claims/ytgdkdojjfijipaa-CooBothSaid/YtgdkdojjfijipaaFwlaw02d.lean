import Derived.Test.YtgdkdojjfijipaaFwcoo9
import Derived.Test.YtgdkdojjfijipaaFwcoo17
import Derived.Test.YtgdkdojjfijipaaFwrowo1
namespace Go.Fw
open Go Go.RowKit Go.Proofs
set_option maxRecDepth 100000
set_option linter.unusedSimpArgs false
set_option linter.unusedVariables false

theorem Dn.two {d : AV} {D : List Int × List Int} (h : Dn d D) : ∃ x y, d = .agg [x, y] ∧ oneC x = true ∧ oneC y = true := by
  obtain ⟨s, v, rfl, ⟨⟨_, _, _, rfl, _⟩, _⟩, ⟨⟨_, _, _, rfl, _⟩, _⟩⟩ := h
  exact ⟨_, _, rfl, rfl, rfl⟩
theorem ownD.app {b : Nat} {G : List AObj} {d : AV} {D : List Int × List Int} (h : ownD b G d D) (Z : List AObj) : ownD b (G ++ Z) d D := by
  obtain ⟨s, j, h1, rfl, h2, h3⟩ := h
  exact ⟨s, j, h1, rfl, by rw [List.getElem?_append_left (List.getElem?_eq_some_iff.1 h2).1]; exact h2, h3.app Z⟩
/-- A list whose entries stand in an object of the call's own. -/
theorem rowO.coo {b : Nat} {K : List AObj} {a s : AV} {S : List Int} {es : List AV} {E : List (List Int × Int)} (h : rowO b K a 38 2 es) (hs : ISl s S) (hE : Ents es E) (n : Nat) : Coo (Go.Fw.frz K 0 (n + 4) false (.agg [s, a])) (S, E) := by
  obtain ⟨⟨n1, c1, z1, rfl, hs1⟩, hl1, hx1⟩ := hs
  rcases h.read (n + 2) with ⟨h1, h2⟩ | h2
  · refine ⟨_, _, by simp only [frz_agg, List.map_cons, List.map_nil, h2]; rfl, ?_, ?_⟩
    · simp; exact ⟨⟨n1, c1, z1, rfl, hs1⟩, hl1, hx1⟩
    · subst h1
      have : E = [] := List.length_eq_zero_iff.1 (by simpa using hE.1.symm)
      subst this
      exact EnL.nil
  · refine ⟨_, _, by simp only [frz_agg, List.map_cons, List.map_nil, h2]; rfl, ?_, ?_⟩
    · simp; exact ⟨⟨n1, c1, z1, rfl, hs1⟩, hl1, hx1⟩
    · refine ⟨false, none, 2, _, rfl, by simp, by simp, ?_⟩
      rw [hE.frz]; exact hE

def CooBoth_25 : AC := (.seq (.ops [⟨(some 123), none, (.k (.mov (.t 5)))⟩, ⟨(some 124), none, (.k (.mov (.t 123)))⟩, ⟨(some 125), (some (124, true)), (.k (.mov (.t 19)))⟩, ⟨(some 126), (some (124, true)), (.k (.bin .eql (.t 125) (.c (.sc (.int .i64 0)))))⟩, ⟨(some 127), none, (.k (.pick (.t 124) (.t 126) (.c (.sc (.bool false)))))⟩, ⟨(some 128), none, (.k (.mov (.t 127)))⟩, ⟨(some 129), (some (128, true)), (.k (.fad 1 (.t 18)))⟩, ⟨(some 130), (some (128, true)), (.k (.ld 1 false (.t 129)))⟩, ⟨(some 131), (some (128, true)), (.k (.len (.t 130)))⟩, ⟨(some 132), (some (128, true)), (.k (.bin .eql (.t 131) (.c (.sc (.int .i64 0)))))⟩, ⟨(some 133), none, (.k (.pick (.t 128) (.t 132) (.c (.sc (.bool false)))))⟩, ⟨(some 4), none, (.k (.mov (.t 133)))⟩]) .ret)
def CooBoth_24 : AC := (.seq (.ops [⟨(some 119), none, (.k (.ld 2 true (.t 15)))⟩, ⟨(some 120), none, (.call false (.c (.fn (.func 25) [] [])) [(.t 119)])⟩, ⟨(some 118), none, (.k (.mov (.t 120)))⟩, ⟨(some 121), none, (.k (.ext (.t 118) 0))⟩, ⟨(some 122), none, (.k (.ext (.t 118) 1))⟩, ⟨(some 18), none, (.k (.new 25 2 (.c (.agg [(.imm true none 0 []), (.imm true none 0 [])]))))⟩, ⟨none, none, (.k (.st 2 (.t 18) (.t 121)))⟩, ⟨(some 19), none, (.k (.mov (.t 122)))⟩]) CooBoth_25)
def CooBoth_23 : AC := (.seq (.ops [⟨(some 104), none, (.k (.iad 2 (.t 100) (.t 102)))⟩, ⟨(some 105), none, (.k (.ld 2 true (.t 104)))⟩, ⟨(some 17), none, (.k (.new 38 2 (.c (.agg [(.imm true none 0 []), (.sc (.int .i64 0))]))))⟩, ⟨none, none, (.k (.st 2 (.t 17) (.t 105)))⟩]) (.ops [⟨(some 106), none, (.k (.fad 1 (.t 15)))⟩, ⟨(some 107), none, (.k (.ld 1 false (.t 106)))⟩, ⟨(some 108), none, (.k (.fad 0 (.t 17)))⟩, ⟨(some 109), none, (.k (.ld 1 false (.t 108)))⟩, ⟨(some 110), none, (.k (.fad 1 (.t 17)))⟩, ⟨(some 111), none, (.k (.ld 1 false (.t 110)))⟩, ⟨(some 112), none, (.k (.un .neg (.t 111)))⟩, ⟨(some 113), none, (.k (.mk [(.imm true none 0 []), (.sc (.int .i64 0))] [(0, (1, (.t 109))), (1, (1, (.t 112)))]))⟩, ⟨(some 114), none, (.k (.lit 2 [(.t 113)]))⟩, ⟨(some 115), none, (.k (.app 38 2 32 (.t 107) (.t 114)))⟩, ⟨(some 116), none, (.k (.fad 1 (.t 15)))⟩, ⟨none, none, (.k (.st 1 (.t 116) (.t 115)))⟩]))
def CooBoth_22 : AC := (.block 1 CooBoth_23)
def CooBoth_21 : AC := (.seq CooBoth_22 (.ops [⟨(some 117), none, (.k (.bin .add (.t 102) (.c (.sc (.int .i64 1)))))⟩, ⟨(some 102), none, (.k (.mov (.t 117)))⟩]))
def CooBoth_20 : AC := (.seq (.cond (.t 103) .skip (.exit 0)) CooBoth_21)
def CooBoth_19 : AC := (.seq (.ops [⟨(some 103), none, (.k (.bin .lss (.t 102) (.t 101)))⟩]) CooBoth_20)
def CooBoth_18 : AC := (.loop CooBoth_19)
def CooBoth_17 : AC := (.block 0 CooBoth_18)
def CooBoth_16 : AC := (.seq (.ops [⟨(some 99), none, (.k (.fad 1 (.t 2)))⟩, ⟨(some 100), none, (.k (.ld 1 false (.t 99)))⟩, ⟨(some 101), none, (.k (.len (.t 100)))⟩, ⟨(some 102), none, (.k (.mov (.c (.sc (.int .i64 0)))))⟩]) CooBoth_17)
def CooBoth_15 : AC := (.seq CooBoth_16 CooBoth_24)
def CooBoth_14 : AC := (.seq (.par [[⟨(some 93), none, (.k (.fad 0 (.t 2)))⟩, ⟨(some 94), none, (.k (.ld 1 false (.t 93)))⟩, ⟨(some 95), none, (.k (.fad 1 (.t 2)))⟩, ⟨(some 96), none, (.k (.ld 1 false (.t 95)))⟩, ⟨(some 97), none, (.k (.app 38 2 32 (.c (.imm true none 0 [])) (.t 96)))⟩, ⟨(some 98), none, (.k (.mk [(.imm true none 0 []), (.imm true none 0 [])] [(0, (1, (.t 94))), (1, (1, (.t 97)))]))⟩, ⟨(some 15), none, (.k (.new 25 2 (.c (.agg [(.imm true none 0 []), (.imm true none 0 [])]))))⟩, ⟨none, none, (.k (.st 2 (.t 15) (.t 98)))⟩], [⟨(some 93), none, (.k (.fad 0 (.t 2)))⟩, ⟨(some 94), none, (.k (.ld 1 false (.t 93)))⟩, ⟨(some 95), none, (.k (.fad 1 (.t 2)))⟩, ⟨(some 96), none, (.k (.ld 1 false (.t 95)))⟩, ⟨(some 97), none, (.k (.app 38 2 32 (.c (.imm true none 0 [])) (.t 96)))⟩, ⟨(some 15), none, (.k (.new 25 2 (.c (.agg [(.imm true none 0 []), (.imm true none 0 [])]))))⟩, ⟨(some 98), none, (.k (.mk [(.imm true none 0 []), (.imm true none 0 [])] [(0, (1, (.t 94))), (1, (1, (.t 97)))]))⟩, ⟨none, none, (.k (.st 2 (.t 15) (.t 98)))⟩], [⟨(some 93), none, (.k (.fad 0 (.t 2)))⟩, ⟨(some 94), none, (.k (.ld 1 false (.t 93)))⟩, ⟨(some 95), none, (.k (.fad 1 (.t 2)))⟩, ⟨(some 96), none, (.k (.ld 1 false (.t 95)))⟩, ⟨(some 15), none, (.k (.new 25 2 (.c (.agg [(.imm true none 0 []), (.imm true none 0 [])]))))⟩, ⟨(some 97), none, (.k (.app 38 2 32 (.c (.imm true none 0 [])) (.t 96)))⟩, ⟨(some 98), none, (.k (.mk [(.imm true none 0 []), (.imm true none 0 [])] [(0, (1, (.t 94))), (1, (1, (.t 97)))]))⟩, ⟨none, none, (.k (.st 2 (.t 15) (.t 98)))⟩]]) CooBoth_15)
def CooBoth_13 : AC := (.seq (.ops [⟨(some 81), none, (.k (.mov (.t 12)))⟩, ⟨(some 82), none, (.k (.bin .neq (.t 81) (.c (.sc (.int .i64 0)))))⟩, ⟨(some 83), none, (.k (.mov (.t 82)))⟩, ⟨(some 84), (some (83, false)), (.k (.mov (.t 14)))⟩, ⟨(some 85), (some (83, false)), (.k (.bin .neq (.t 84) (.c (.sc (.int .i64 0)))))⟩, ⟨(some 86), none, (.k (.pick (.t 83) (.c (.sc (.bool true))) (.t 85)))⟩, ⟨(some 87), none, (.k (.mov (.t 86)))⟩, ⟨(some 88), (some (87, false)), (.k (.ld 2 true (.t 11)))⟩, ⟨(some 89), (some (87, false)), (.k (.ld 2 true (.t 13)))⟩, ⟨(some 90), (some (87, false)), (.call false (.c (.fn (.func 34) [] [])) [(.t 88), (.t 89)])⟩, ⟨(some 91), (some (87, false)), (.k (.un .not (.t 90)))⟩, ⟨(some 92), none, (.k (.pick (.t 87) (.c (.sc (.bool true))) (.t 91)))⟩]) (.cond (.t 92) (.seq (.ops [⟨(some 4), none, (.k (.mov (.c (.sc (.bool false)))))⟩]) .ret) .skip))
def CooBoth_12 : AC := (.seq (.ops [⟨(some 76), none, (.k (.ld 2 true (.t 6)))⟩, ⟨(some 77), none, (.k (.ld 2 true (.t 8)))⟩, ⟨(some 78), none, (.call false (.c (.fn (.func 33) [] [])) [(.t 76), (.t 77)])⟩, ⟨(some 75), none, (.k (.mov (.t 78)))⟩, ⟨(some 79), none, (.k (.ext (.t 75) 0))⟩, ⟨(some 80), none, (.k (.ext (.t 75) 1))⟩, ⟨(some 13), none, (.k (.new 49 2 (.c (.agg [(.imm true none 0 []), (.imm true none 0 [])]))))⟩, ⟨none, none, (.k (.st 2 (.t 13) (.t 79)))⟩, ⟨(some 14), none, (.k (.mov (.t 80)))⟩]) CooBoth_13)
def CooBoth_11 : AC := (.seq (.ops [⟨(some 71), none, (.k (.ld 2 true (.t 10)))⟩, ⟨(some 72), none, (.call false (.c (.fn (.func 31) [] [])) [(.t 71)])⟩, ⟨(some 70), none, (.k (.mov (.t 72)))⟩, ⟨(some 73), none, (.k (.ext (.t 70) 0))⟩, ⟨(some 74), none, (.k (.ext (.t 70) 1))⟩, ⟨(some 11), none, (.k (.new 49 2 (.c (.agg [(.imm true none 0 []), (.imm true none 0 [])]))))⟩, ⟨none, none, (.k (.st 2 (.t 11) (.t 73)))⟩, ⟨(some 12), none, (.k (.mov (.t 74)))⟩]) CooBoth_12)
def CooBoth_10 : AC := (.cond (.t 69) CooBoth_11 .skip)
def CooBoth_9 : AC := (.seq (.ops [⟨(some 64), none, (.k (.mov (.t 7)))⟩, ⟨(some 65), none, (.k (.bin .eql (.t 64) (.c (.sc (.int .i64 0)))))⟩, ⟨(some 66), none, (.k (.mov (.t 65)))⟩, ⟨(some 67), (some (66, true)), (.k (.mov (.t 9)))⟩, ⟨(some 68), (some (66, true)), (.k (.bin .eql (.t 67) (.c (.sc (.int .i64 0)))))⟩, ⟨(some 69), none, (.k (.pick (.t 66) (.t 68) (.c (.sc (.bool false)))))⟩]) CooBoth_10)
def CooBoth_8 : AC := (.seq CooBoth_9 CooBoth_14)
def CooBoth_7 : AC := (.seq (.par [[⟨(some 55), none, (.k (.fad 0 (.t 2)))⟩, ⟨(some 57), none, (.k (.fad 1 (.t 2)))⟩, ⟨(some 58), none, (.k (.ld 1 false (.t 57)))⟩, ⟨(some 60), none, (.k (.fad 1 (.t 3)))⟩, ⟨(some 61), none, (.k (.ld 1 false (.t 60)))⟩, ⟨(some 56), none, (.k (.ld 1 false (.t 55)))⟩, ⟨(some 59), none, (.k (.app 38 2 32 (.c (.imm true none 0 [])) (.t 58)))⟩, ⟨(some 62), none, (.k (.app 38 2 32 (.t 59) (.t 61)))⟩, ⟨(some 63), none, (.k (.mk [(.imm true none 0 []), (.imm true none 0 [])] [(0, (1, (.t 56))), (1, (1, (.t 62)))]))⟩, ⟨(some 10), none, (.k (.new 25 2 (.c (.agg [(.imm true none 0 []), (.imm true none 0 [])]))))⟩, ⟨none, none, (.k (.st 2 (.t 10) (.t 63)))⟩], [⟨(some 55), none, (.k (.fad 0 (.t 2)))⟩, ⟨(some 57), none, (.k (.fad 1 (.t 2)))⟩, ⟨(some 58), none, (.k (.ld 1 false (.t 57)))⟩, ⟨(some 60), none, (.k (.fad 1 (.t 3)))⟩, ⟨(some 61), none, (.k (.ld 1 false (.t 60)))⟩, ⟨(some 56), none, (.k (.ld 1 false (.t 55)))⟩, ⟨(some 59), none, (.k (.app 38 2 32 (.c (.imm true none 0 [])) (.t 58)))⟩, ⟨(some 62), none, (.k (.app 38 2 32 (.t 59) (.t 61)))⟩, ⟨(some 10), none, (.k (.new 25 2 (.c (.agg [(.imm true none 0 []), (.imm true none 0 [])]))))⟩, ⟨(some 63), none, (.k (.mk [(.imm true none 0 []), (.imm true none 0 [])] [(0, (1, (.t 56))), (1, (1, (.t 62)))]))⟩, ⟨none, none, (.k (.st 2 (.t 10) (.t 63)))⟩], [⟨(some 55), none, (.k (.fad 0 (.t 2)))⟩, ⟨(some 57), none, (.k (.fad 1 (.t 2)))⟩, ⟨(some 58), none, (.k (.ld 1 false (.t 57)))⟩, ⟨(some 60), none, (.k (.fad 1 (.t 3)))⟩, ⟨(some 61), none, (.k (.ld 1 false (.t 60)))⟩, ⟨(some 56), none, (.k (.ld 1 false (.t 55)))⟩, ⟨(some 59), none, (.k (.app 38 2 32 (.c (.imm true none 0 [])) (.t 58)))⟩, ⟨(some 10), none, (.k (.new 25 2 (.c (.agg [(.imm true none 0 []), (.imm true none 0 [])]))))⟩, ⟨(some 62), none, (.k (.app 38 2 32 (.t 59) (.t 61)))⟩, ⟨(some 63), none, (.k (.mk [(.imm true none 0 []), (.imm true none 0 [])] [(0, (1, (.t 56))), (1, (1, (.t 62)))]))⟩, ⟨none, none, (.k (.st 2 (.t 10) (.t 63)))⟩], [⟨(some 55), none, (.k (.fad 0 (.t 2)))⟩, ⟨(some 57), none, (.k (.fad 1 (.t 2)))⟩, ⟨(some 58), none, (.k (.ld 1 false (.t 57)))⟩, ⟨(some 60), none, (.k (.fad 1 (.t 3)))⟩, ⟨(some 61), none, (.k (.ld 1 false (.t 60)))⟩, ⟨(some 56), none, (.k (.ld 1 false (.t 55)))⟩, ⟨(some 10), none, (.k (.new 25 2 (.c (.agg [(.imm true none 0 []), (.imm true none 0 [])]))))⟩, ⟨(some 59), none, (.k (.app 38 2 32 (.c (.imm true none 0 [])) (.t 58)))⟩, ⟨(some 62), none, (.k (.app 38 2 32 (.t 59) (.t 61)))⟩, ⟨(some 63), none, (.k (.mk [(.imm true none 0 []), (.imm true none 0 [])] [(0, (1, (.t 56))), (1, (1, (.t 62)))]))⟩, ⟨none, none, (.k (.st 2 (.t 10) (.t 63)))⟩], [⟨(some 55), none, (.k (.fad 0 (.t 2)))⟩, ⟨(some 57), none, (.k (.fad 1 (.t 2)))⟩, ⟨(some 58), none, (.k (.ld 1 false (.t 57)))⟩, ⟨(some 60), none, (.k (.fad 1 (.t 3)))⟩, ⟨(some 61), none, (.k (.ld 1 false (.t 60)))⟩, ⟨(some 59), none, (.k (.app 38 2 32 (.c (.imm true none 0 [])) (.t 58)))⟩, ⟨(some 56), none, (.k (.ld 1 false (.t 55)))⟩, ⟨(some 62), none, (.k (.app 38 2 32 (.t 59) (.t 61)))⟩, ⟨(some 63), none, (.k (.mk [(.imm true none 0 []), (.imm true none 0 [])] [(0, (1, (.t 56))), (1, (1, (.t 62)))]))⟩, ⟨(some 10), none, (.k (.new 25 2 (.c (.agg [(.imm true none 0 []), (.imm true none 0 [])]))))⟩, ⟨none, none, (.k (.st 2 (.t 10) (.t 63)))⟩], [⟨(some 55), none, (.k (.fad 0 (.t 2)))⟩, ⟨(some 57), none, (.k (.fad 1 (.t 2)))⟩, ⟨(some 58), none, (.k (.ld 1 false (.t 57)))⟩, ⟨(some 60), none, (.k (.fad 1 (.t 3)))⟩, ⟨(some 61), none, (.k (.ld 1 false (.t 60)))⟩, ⟨(some 59), none, (.k (.app 38 2 32 (.c (.imm true none 0 [])) (.t 58)))⟩, ⟨(some 56), none, (.k (.ld 1 false (.t 55)))⟩, ⟨(some 62), none, (.k (.app 38 2 32 (.t 59) (.t 61)))⟩, ⟨(some 10), none, (.k (.new 25 2 (.c (.agg [(.imm true none 0 []), (.imm true none 0 [])]))))⟩, ⟨(some 63), none, (.k (.mk [(.imm true none 0 []), (.imm true none 0 [])] [(0, (1, (.t 56))), (1, (1, (.t 62)))]))⟩, ⟨none, none, (.k (.st 2 (.t 10) (.t 63)))⟩], [⟨(some 55), none, (.k (.fad 0 (.t 2)))⟩, ⟨(some 57), none, (.k (.fad 1 (.t 2)))⟩, ⟨(some 58), none, (.k (.ld 1 false (.t 57)))⟩, ⟨(some 60), none, (.k (.fad 1 (.t 3)))⟩, ⟨(some 61), none, (.k (.ld 1 false (.t 60)))⟩, ⟨(some 59), none, (.k (.app 38 2 32 (.c (.imm true none 0 [])) (.t 58)))⟩, ⟨(some 56), none, (.k (.ld 1 false (.t 55)))⟩, ⟨(some 10), none, (.k (.new 25 2 (.c (.agg [(.imm true none 0 []), (.imm true none 0 [])]))))⟩, ⟨(some 62), none, (.k (.app 38 2 32 (.t 59) (.t 61)))⟩, ⟨(some 63), none, (.k (.mk [(.imm true none 0 []), (.imm true none 0 [])] [(0, (1, (.t 56))), (1, (1, (.t 62)))]))⟩, ⟨none, none, (.k (.st 2 (.t 10) (.t 63)))⟩], [⟨(some 55), none, (.k (.fad 0 (.t 2)))⟩, ⟨(some 57), none, (.k (.fad 1 (.t 2)))⟩, ⟨(some 58), none, (.k (.ld 1 false (.t 57)))⟩, ⟨(some 60), none, (.k (.fad 1 (.t 3)))⟩, ⟨(some 61), none, (.k (.ld 1 false (.t 60)))⟩, ⟨(some 59), none, (.k (.app 38 2 32 (.c (.imm true none 0 [])) (.t 58)))⟩, ⟨(some 62), none, (.k (.app 38 2 32 (.t 59) (.t 61)))⟩, ⟨(some 56), none, (.k (.ld 1 false (.t 55)))⟩, ⟨(some 63), none, (.k (.mk [(.imm true none 0 []), (.imm true none 0 [])] [(0, (1, (.t 56))), (1, (1, (.t 62)))]))⟩, ⟨(some 10), none, (.k (.new 25 2 (.c (.agg [(.imm true none 0 []), (.imm true none 0 [])]))))⟩, ⟨none, none, (.k (.st 2 (.t 10) (.t 63)))⟩], [⟨(some 55), none, (.k (.fad 0 (.t 2)))⟩, ⟨(some 57), none, (.k (.fad 1 (.t 2)))⟩, ⟨(some 58), none, (.k (.ld 1 false (.t 57)))⟩, ⟨(some 60), none, (.k (.fad 1 (.t 3)))⟩, ⟨(some 61), none, (.k (.ld 1 false (.t 60)))⟩, ⟨(some 59), none, (.k (.app 38 2 32 (.c (.imm true none 0 [])) (.t 58)))⟩, ⟨(some 62), none, (.k (.app 38 2 32 (.t 59) (.t 61)))⟩, ⟨(some 56), none, (.k (.ld 1 false (.t 55)))⟩, ⟨(some 10), none, (.k (.new 25 2 (.c (.agg [(.imm true none 0 []), (.imm true none 0 [])]))))⟩, ⟨(some 63), none, (.k (.mk [(.imm true none 0 []), (.imm true none 0 [])] [(0, (1, (.t 56))), (1, (1, (.t 62)))]))⟩, ⟨none, none, (.k (.st 2 (.t 10) (.t 63)))⟩], [⟨(some 55), none, (.k (.fad 0 (.t 2)))⟩, ⟨(some 57), none, (.k (.fad 1 (.t 2)))⟩, ⟨(some 58), none, (.k (.ld 1 false (.t 57)))⟩, ⟨(some 60), none, (.k (.fad 1 (.t 3)))⟩, ⟨(some 61), none, (.k (.ld 1 false (.t 60)))⟩, ⟨(some 59), none, (.k (.app 38 2 32 (.c (.imm true none 0 [])) (.t 58)))⟩, ⟨(some 62), none, (.k (.app 38 2 32 (.t 59) (.t 61)))⟩, ⟨(some 10), none, (.k (.new 25 2 (.c (.agg [(.imm true none 0 []), (.imm true none 0 [])]))))⟩, ⟨(some 56), none, (.k (.ld 1 false (.t 55)))⟩, ⟨(some 63), none, (.k (.mk [(.imm true none 0 []), (.imm true none 0 [])] [(0, (1, (.t 56))), (1, (1, (.t 62)))]))⟩, ⟨none, none, (.k (.st 2 (.t 10) (.t 63)))⟩], [⟨(some 55), none, (.k (.fad 0 (.t 2)))⟩, ⟨(some 57), none, (.k (.fad 1 (.t 2)))⟩, ⟨(some 58), none, (.k (.ld 1 false (.t 57)))⟩, ⟨(some 60), none, (.k (.fad 1 (.t 3)))⟩, ⟨(some 61), none, (.k (.ld 1 false (.t 60)))⟩, ⟨(some 59), none, (.k (.app 38 2 32 (.c (.imm true none 0 [])) (.t 58)))⟩, ⟨(some 10), none, (.k (.new 25 2 (.c (.agg [(.imm true none 0 []), (.imm true none 0 [])]))))⟩, ⟨(some 56), none, (.k (.ld 1 false (.t 55)))⟩, ⟨(some 62), none, (.k (.app 38 2 32 (.t 59) (.t 61)))⟩, ⟨(some 63), none, (.k (.mk [(.imm true none 0 []), (.imm true none 0 [])] [(0, (1, (.t 56))), (1, (1, (.t 62)))]))⟩, ⟨none, none, (.k (.st 2 (.t 10) (.t 63)))⟩], [⟨(some 55), none, (.k (.fad 0 (.t 2)))⟩, ⟨(some 57), none, (.k (.fad 1 (.t 2)))⟩, ⟨(some 58), none, (.k (.ld 1 false (.t 57)))⟩, ⟨(some 60), none, (.k (.fad 1 (.t 3)))⟩, ⟨(some 61), none, (.k (.ld 1 false (.t 60)))⟩, ⟨(some 59), none, (.k (.app 38 2 32 (.c (.imm true none 0 [])) (.t 58)))⟩, ⟨(some 10), none, (.k (.new 25 2 (.c (.agg [(.imm true none 0 []), (.imm true none 0 [])]))))⟩, ⟨(some 62), none, (.k (.app 38 2 32 (.t 59) (.t 61)))⟩, ⟨(some 56), none, (.k (.ld 1 false (.t 55)))⟩, ⟨(some 63), none, (.k (.mk [(.imm true none 0 []), (.imm true none 0 [])] [(0, (1, (.t 56))), (1, (1, (.t 62)))]))⟩, ⟨none, none, (.k (.st 2 (.t 10) (.t 63)))⟩], [⟨(some 55), none, (.k (.fad 0 (.t 2)))⟩, ⟨(some 57), none, (.k (.fad 1 (.t 2)))⟩, ⟨(some 58), none, (.k (.ld 1 false (.t 57)))⟩, ⟨(some 60), none, (.k (.fad 1 (.t 3)))⟩, ⟨(some 61), none, (.k (.ld 1 false (.t 60)))⟩, ⟨(some 10), none, (.k (.new 25 2 (.c (.agg [(.imm true none 0 []), (.imm true none 0 [])]))))⟩, ⟨(some 56), none, (.k (.ld 1 false (.t 55)))⟩, ⟨(some 59), none, (.k (.app 38 2 32 (.c (.imm true none 0 [])) (.t 58)))⟩, ⟨(some 62), none, (.k (.app 38 2 32 (.t 59) (.t 61)))⟩, ⟨(some 63), none, (.k (.mk [(.imm true none 0 []), (.imm true none 0 [])] [(0, (1, (.t 56))), (1, (1, (.t 62)))]))⟩, ⟨none, none, (.k (.st 2 (.t 10) (.t 63)))⟩], [⟨(some 55), none, (.k (.fad 0 (.t 2)))⟩, ⟨(some 57), none, (.k (.fad 1 (.t 2)))⟩, ⟨(some 58), none, (.k (.ld 1 false (.t 57)))⟩, ⟨(some 60), none, (.k (.fad 1 (.t 3)))⟩, ⟨(some 61), none, (.k (.ld 1 false (.t 60)))⟩, ⟨(some 10), none, (.k (.new 25 2 (.c (.agg [(.imm true none 0 []), (.imm true none 0 [])]))))⟩, ⟨(some 59), none, (.k (.app 38 2 32 (.c (.imm true none 0 [])) (.t 58)))⟩, ⟨(some 56), none, (.k (.ld 1 false (.t 55)))⟩, ⟨(some 62), none, (.k (.app 38 2 32 (.t 59) (.t 61)))⟩, ⟨(some 63), none, (.k (.mk [(.imm true none 0 []), (.imm true none 0 [])] [(0, (1, (.t 56))), (1, (1, (.t 62)))]))⟩, ⟨none, none, (.k (.st 2 (.t 10) (.t 63)))⟩], [⟨(some 55), none, (.k (.fad 0 (.t 2)))⟩, ⟨(some 57), none, (.k (.fad 1 (.t 2)))⟩, ⟨(some 58), none, (.k (.ld 1 false (.t 57)))⟩, ⟨(some 60), none, (.k (.fad 1 (.t 3)))⟩, ⟨(some 61), none, (.k (.ld 1 false (.t 60)))⟩, ⟨(some 10), none, (.k (.new 25 2 (.c (.agg [(.imm true none 0 []), (.imm true none 0 [])]))))⟩, ⟨(some 59), none, (.k (.app 38 2 32 (.c (.imm true none 0 [])) (.t 58)))⟩, ⟨(some 62), none, (.k (.app 38 2 32 (.t 59) (.t 61)))⟩, ⟨(some 56), none, (.k (.ld 1 false (.t 55)))⟩, ⟨(some 63), none, (.k (.mk [(.imm true none 0 []), (.imm true none 0 [])] [(0, (1, (.t 56))), (1, (1, (.t 62)))]))⟩, ⟨none, none, (.k (.st 2 (.t 10) (.t 63)))⟩]]) CooBoth_8)
def CooBoth_6 : AC := (.seq (.ops [⟨(some 51), none, (.k (.ld 2 true (.t 3)))⟩, ⟨(some 52), none, (.call false (.c (.fn (.func 31) [] [])) [(.t 51)])⟩, ⟨(some 50), none, (.k (.mov (.t 52)))⟩, ⟨(some 53), none, (.k (.ext (.t 50) 0))⟩, ⟨(some 54), none, (.k (.ext (.t 50) 1))⟩, ⟨(some 8), none, (.k (.new 49 2 (.c (.agg [(.imm true none 0 []), (.imm true none 0 [])]))))⟩, ⟨none, none, (.k (.st 2 (.t 8) (.t 53)))⟩, ⟨(some 9), none, (.k (.mov (.t 54)))⟩]) CooBoth_7)
def CooBoth_5 : AC := (.seq (.ops [⟨(some 46), none, (.k (.ld 2 true (.t 2)))⟩, ⟨(some 47), none, (.call false (.c (.fn (.func 31) [] [])) [(.t 46)])⟩, ⟨(some 45), none, (.k (.mov (.t 47)))⟩, ⟨(some 48), none, (.k (.ext (.t 45) 0))⟩, ⟨(some 49), none, (.k (.ext (.t 45) 1))⟩, ⟨(some 6), none, (.k (.new 49 2 (.c (.agg [(.imm true none 0 []), (.imm true none 0 [])]))))⟩, ⟨none, none, (.k (.st 2 (.t 6) (.t 48)))⟩, ⟨(some 7), none, (.k (.mov (.t 49)))⟩]) CooBoth_6)
def CooBoth_4 : AC := (.seq (.ops [⟨(some 42), none, (.k (.fad 0 (.t 2)))⟩, ⟨(some 43), none, (.k (.ld 1 false (.t 42)))⟩, ⟨(some 44), none, (.k (.fad 0 (.t 3)))⟩, ⟨none, none, (.k (.st 1 (.t 44) (.t 43)))⟩]) CooBoth_5)
def CooBoth_3 : AC := (.seq (.ops [⟨(some 21), none, (.k (.ld 2 true (.t 2)))⟩, ⟨(some 22), none, (.k (.ld 2 true (.t 3)))⟩, ⟨(some 23), none, (.k (.lit 2 [(.t 21), (.t 22)]))⟩, ⟨(some 24), none, (.call false (.c (.fn (.func 12) [] [])) [(.t 23)])⟩, ⟨(some 25), none, (.k (.un .not (.t 24)))⟩, ⟨(some 26), none, (.k (.mov (.t 25)))⟩, ⟨(some 27), (some (26, false)), (.k (.ld 2 true (.t 2)))⟩, ⟨(some 28), (some (26, false)), (.call false (.c (.fn (.func 13) [] [])) [(.t 27)])⟩, ⟨(some 29), (some (26, false)), (.k (.bin .neq (.t 28) (.c (.sc (.int .i64 0)))))⟩, ⟨(some 30), none, (.k (.pick (.t 26) (.c (.sc (.bool true))) (.t 29)))⟩, ⟨(some 31), none, (.k (.mov (.t 30)))⟩, ⟨(some 32), (some (31, false)), (.k (.fad 1 (.t 2)))⟩, ⟨(some 33), (some (31, false)), (.k (.ld 1 false (.t 32)))⟩, ⟨(some 34), (some (31, false)), (.k (.len (.t 33)))⟩, ⟨(some 35), (some (31, false)), (.k (.fad 1 (.t 3)))⟩, ⟨(some 36), (some (31, false)), (.k (.ld 1 false (.t 35)))⟩, ⟨(some 37), (some (31, false)), (.k (.len (.t 36)))⟩, ⟨(some 38), (some (31, false)), (.k (.bin .add (.t 34) (.t 37)))⟩, ⟨(some 39), (some (31, false)), (.k (.bin .gtr (.t 38) (.c (.sc (.int .i64 3000)))))⟩, ⟨(some 40), none, (.k (.pick (.t 31) (.c (.sc (.bool true))) (.t 39)))⟩]) (.cond (.t 40) (.seq (.ops [⟨(some 41), none, (.k (.mov (.t 5)))⟩, ⟨(some 4), none, (.k (.mov (.t 41)))⟩]) .ret) .skip))
def CooBoth_2 : AC := (.seq CooBoth_3 CooBoth_4)
def CooBoth_1 : AC := (.seq (.ops [⟨(some 20), none, (.call false (.c (.fn (.func 11) [] [])) [])⟩, ⟨(some 5), none, (.k (.mov (.t 20)))⟩]) CooBoth_2)
def CooBoth_ac : AC := (.seq (.ops [⟨(some 2), none, (.k (.new 25 2 (.t 0)))⟩, ⟨(some 3), none, (.k (.new 25 2 (.t 1)))⟩, ⟨(some 4), none, (.k (.mov (.c (.sc (.bool false)))))⟩]) CooBoth_1)
theorem CooBoth_call {args : List AV} {H : List AObj} {R : AV → List AObj → Prop} (h : AWp Try.prog [] H.length CooBoth_ac (bodyQ H.length [(.t 4)] R) (args ++ List.replicate (134 - args.length) .und) H) : ACalls Try.prog 8 args H R :=
  ACalls.of_fn Try.func8 rfl (by kernel_rfl) rfl Try.ntmps8 h

set_option maxHeartbeats 8000000 in
theorem CooBoth_spec {x y : AV} {X Y : List Int × List (List Int × Int)} (hx : Coo x X) (hy : Coo y Y) (hXl : X.2.length ≤ 9223372036854775807) (hYl : Y.2.length ≤ 9223372036854775807) (hI : InI X.1)
    (hv : ∀ t ∈ X.2, -9223372036854775808 ≤ t.2 ∧ t.2 ≤ 9223372036854775807) : ACalls Try.prog 8 [x, y] [] fun r H' => H' = [] ∧ r = Bo true := by
  have hx' := hx
  have hy' := hy
  obtain ⟨S, E⟩ := X
  obtain ⟨T, D⟩ := Y
  obtain ⟨s, e, rfl, hS, hE⟩ := hx
  obtain ⟨t, d, rfl, hT, hD⟩ := hy
  simp only at hS hE hXl hI hv hT hD hYl
  have hS' := hS
  have hcy : Coo (.agg [s, d]) (S, D) := ⟨_, _, rfl, hS, hD⟩
  obtain ⟨⟨n1, c1, z1, rfl, hs1⟩, hl1, hx1⟩ := hS
  obtain ⟨n2, c2, z2, es, rfl, h21, h22, h23⟩ := hE
  obtain ⟨⟨n3, c3, z3, rfl, hs3⟩, hl3, hx3⟩ := hT
  obtain ⟨n4, c4, z4, ds, rfl, h41, h42, h43⟩ := hD
  have hel := h23.1
  have hdl := h43.1
  have base : ACalls Try.prog 8 [.agg [.imm n1 c1 z1 (S.map I), .imm n2 c2 z2 es], .agg [.imm n3 c3 z3 (T.map I), .imm n4 c4 z4 ds]] [] fun r H' => r = Bo true := by
    apply CooBoth_call
    repeat first | refine AWp.seq ?_ | refine AWp.block ?_
    refine AWp.ops ?_
    simp
    repeat first | refine AWp.seq ?_ | refine AWp.block ?_
    refine AWp.ops ?_
    simp
    refine (live02_spec.pure (by simp) (by rintro r rfl; simp) _).mono ?_
    rintro r H' ⟨rfl, rfl⟩
    simp
    repeat first | refine AWp.seq ?_ | refine AWp.block ?_
    refine AWp.ops ?_
    simp
    have hf := few2_spec (nl := false) (c := some 2) (sz := 2) (zs := [(.agg [.imm n1 c1 z1 (S.map I), .imm n2 c2 z2 es], (S, E)), (.agg [.imm n3 c3 z3 (T.map I), .imm n4 c4 z4 ds], (T, D))]) (by simp; exact ⟨⟨hx', hXl⟩, hy', hYl⟩) (by simp) (by simp) (by simp)
    simp only [List.map_cons, List.map_nil] at hf
    refine (hf.pure (by simp) (by rintro r rfl; simp) _).mono ?_
    rintro r H' ⟨rfl, rfl⟩
    simp only [List.all_cons, List.all_nil, Bool.and_true]
    cases hfew : (fewX (S, E) && fewX (T, D)) with
    | false =>
      simp
      refine AWp.cond (b := true) (by simp) (fun _ => ?_) (fun h => by cases h)
      repeat first | refine AWp.seq ?_ | refine AWp.block ?_
      refine AWp.ops ?_
      simp
      refine AWp.ret ?_
      simp
      refine retOk.of rfl ?_
      simp
    | true =>
    simp only [fewX, Bool.and_eq_true, decide_eq_true_eq, List.all_eq_true] at hfew
    obtain ⟨⟨hf1, hf2⟩, hf3, hf4⟩ := hfew
    simp
    refine ((cCheck_spec hx').pure (by simp) (by rintro r rfl; simp) _).mono ?_
    rintro r H' ⟨rfl, rfl⟩
    by_cases hck : cooCheck S E = 0
    case neg =>
      simp [hck]
      refine AWp.cond (b := true) (by simp) (fun _ => ?_) (fun h => by cases h)
      repeat first | refine AWp.seq ?_ | refine AWp.block ?_
      refine AWp.ops ?_
      simp
      refine AWp.ret ?_
      simp
      refine retOk.of rfl ?_
      simp
    have wa := wrap_i64 (n := (es.length : Int) + ds.length) (by omega) (by omega)
    by_cases hbig : (3000 : Int) < (es.length : Int) + ds.length
    · simp [hck, wa, hbig]
      refine AWp.cond (b := true) (by simp) (fun _ => ?_) (fun h => by cases h)
      repeat first | refine AWp.seq ?_ | refine AWp.block ?_
      refine AWp.ops ?_
      simp
      refine AWp.ret ?_
      simp
      refine retOk.of rfl ?_
      simp
    simp [hck, wa, hbig]
    refine AWp.cond (b := false) (by simp) (fun h => by cases h) (fun _ => ?_)
    refine AWp.skip ?_
    simp only [qSeq]
    repeat first | refine AWp.seq ?_ | refine AWp.block ?_
    refine AWp.ops ?_
    simp
    repeat first | refine AWp.seq ?_ | refine AWp.block ?_
    refine AWp.ops ?_
    simp
    refine ((cDense_pure hx' hI).pure (by simp) (by rintro r ⟨d, rfl, hd⟩; have := hd.noRef; simp [this]) _).mono ?_
    rintro r H' ⟨rfl, d1, rfl, hd1⟩
    obtain ⟨u1, u2, hu, hu1, hu2⟩ := hd1.two
    subst hu
    simp [hu1, hu2]
    repeat first | refine AWp.seq ?_ | refine AWp.block ?_
    refine AWp.ops ?_
    simp
    refine ((cDense_pure hcy hI).pure (by simp) (by rintro r ⟨d, rfl, hd⟩; have := hd.noRef; simp [this]) _).mono ?_
    rintro r H' ⟨rfl, d2, rfl, hd2⟩
    obtain ⟨v1, v2, hv0, hv1, hv2⟩ := hd2.two
    subst hv0
    simp [hv1, hv2]
    have q1 := h23.one
    have q2 := h43.one
    have b1 : (es.length : Int) * 32 ≤ 281474976710656 := by omega
    have b2 : (es.length : Int) ≤ 9223372036854775807 := by omega
    have b3 : (ds.length : Int) * 32 ≤ 281474976710656 := by omega
    have b4 : (ds.length : Int) ≤ 9223372036854775807 := by omega
    have b5 : es.length ≤ 9223372036854775807 := by omega
    have b6 : ds.length ≤ 9223372036854775807 := by omega
    have b9 : es.length * 32 ≤ 140737488355328 := by omega
    have b10 : ds.length * 32 ≤ 140737488355328 := by omega
    have b7 : (es.length + ds.length) * 32 ≤ 140737488355328 := by omega
    have b8 : es.length + ds.length ≤ 9223372036854775807 := by omega
    have hdd := (h23.append h43)
    have q3 : ∀ H, elems 2 H (.imm n2 c2 z2 es) = some es := fun H => by
      cases n2 with
      | true => have : es = [] := List.length_eq_zero_iff.1 (by rw [hel, h21 rfl]; rfl); subst this; simp [elems]
      | false => simp [elems, h22 rfl]
    have q4 : ∀ H, elems 2 H (.imm n4 c4 z4 ds) = some ds := fun H => by
      cases n4 with
      | true => have : ds = [] := List.length_eq_zero_iff.1 (by rw [hdl, h41 rfl]; rfl); subst this; simp [elems]
      | false => simp [elems, h42 rfl]
    obtain ⟨A0, hA0⟩ : ∃ A, A = AV.agg [.imm n1 c1 z1 (S.map I), .imm n2 c2 z2 es] := ⟨_, rfl⟩
    refine AWp.cutE (σ := Nat × AV × List AObj) (fun q => 3 < q.1 ∧ q.2.2[0]? = some (cooO A0) ∧ q.2.2[2]? = some (denO (.agg [u1, u2])) ∧ q.2.2[3]? = some (denO (.agg [v1, v2])) ∧ q.2.2[q.1]? = some (cooO (.agg [.imm n1 c1 z1 (S.map I), q.2.1])) ∧ rowO 4 q.2.2 q.2.1 38 2 (es ++ ds))
      (fun q => [.und, .und, .ptr 0 1 0 0, .ptr 1 1 0 0, .und, Bo true, .ptr 2 1 0 0, I (cdF (S, E)).2, .ptr 3 1 0 0, I (cdF (S, D)).2, .ptr q.1 1 0 0, .und, .und, .und, .und, .und, .und, .und, .und, .und, .und, .und, .und, .und, .und, .und, .und, .und, .und, .und, .und, .und, .und, .und, .und, .und, .und, .und, .und, .und, .und, .und, .und, .und, .und, .und, .und, .und, .und, .und, .und, .und, .und, .und, .und, .und, .und, .und, .und, .und, .und, .und, .und, .und, .und, .und, .und, .und, .und, .und, .und, .und, .und, .und, .und, .und, .und, .und, .und, .und, .und, .und, .und, .und, .und, .und, .und, .und, .und, .und, .und, .und, .und, .und, .und, .und, .und, .und, .und, .und, .und, .und, .und, .und, .und, .und, .und, .und, .und, .und, .und, .und, .und, .und, .und, .und, .und, .und, .und, .und, .und, .und, .und, .und, .und, .und, .und, .und, .und, .und, .und, .und, .und, .und]) (fun q => q.2.2) ?_ ?_
    · refine AWp.par ?_
      intro l hll
      simp at hll
      have hr0 : ∀ (b : Nat) (K : List AObj) (ty sz : Nat) (es : List AV), es = [] → rowO b K (.imm true none 0 []) ty sz es := fun b K ty sz es h => .inl ⟨h, rfl⟩
      have hr1 : ∀ (b : Nat) (K : List AObj) (k ty sz L : Nat) (es : List AV), b ≤ k → L = es.length → K[k]? = some ⟨ty, sz, es, true, none⟩ → rowO b K (.slc k L 0 L none) ty sz es := fun b K k ty sz L es h1 h2 h3 => by subst h2; exact .inr ⟨k, h1, rfl, h3⟩
      rcases Classical.em (es = []) with hE0 | hE0 <;> rcases Classical.em (ds = []) with hD0 | hD0 <;> (first | replace hE0 : (es = []) = True := eq_true hE0 | replace hE0 : (es = []) = False := eq_false hE0) <;> (first | replace hD0 : (ds = []) = True := eq_true hD0 | replace hD0 : (ds = []) = False := eq_false hD0)
      all_goals
        rcases hll with rfl | rfl | rfl | rfl | rfl | rfl | rfl | rfl | rfl | rfl | rfl | rfl | rfl | rfl | rfl <;>
        · simp [hA0, hE0, hD0, q3, q4, q1, q2, b1, b2, b3, b4, b5, b6, b7, b8, b9, b10]
          first
            | exact ⟨_, _, _, And.symm ⟨(Weak.slots [2, 3, 5, 6, 7, 8, 9, 10]).to rfl rfl, by omega, rfl, rfl, rfl, rfl, hr0 _ _ _ _ _ (by simp [hE0, hD0])⟩⟩
            | exact ⟨_, _, _, And.symm ⟨(Weak.slots [2, 3, 5, 6, 7, 8, 9, 10]).to rfl rfl, by omega, rfl, rfl, rfl, rfl, hr1 _ _ _ _ _ _ _ (by omega) (by simp [hE0, hD0]) rfl⟩⟩
            | exact ⟨_, _, _, And.symm ⟨(Weak.slots [2, 3, 5, 6, 7, 8, 9, 10]).to rfl rfl, by omega, rfl, rfl, rfl, rfl, hr1 _ _ _ _ _ _ _ (by omega) (by simp [hE0, hD0]) (by simp [hE0, hD0])⟩⟩
    rintro ⟨p, a, K⟩ ⟨hp, k0, k2, k3, kp, hr⟩
    simp only at hp k0 k2 k3 kp hr ⊢
    refine AWp.cutE (σ := List AObj) (fun q => q[0]? = some (cooO A0)) (fun q => [.und, .und, .ptr 0 1 0 0, .und, .und, Bo true, .und, .und, .und, .und, .und, .und, .und, .und, .und, .und, .und, .und, .und, .und, .und, .und, .und, .und, .und, .und, .und, .und, .und, .und, .und, .und, .und, .und, .und, .und, .und, .und, .und, .und, .und, .und, .und, .und, .und, .und, .und, .und, .und, .und, .und, .und, .und, .und, .und, .und, .und, .und, .und, .und, .und, .und, .und, .und, .und, .und, .und, .und, .und, .und, .und, .und, .und, .und, .und, .und, .und, .und, .und, .und, .und, .und, .und, .und, .und, .und, .und, .und, .und, .und, .und, .und, .und, .und, .und, .und, .und, .und, .und, .und, .und, .und, .und, .und, .und, .und, .und, .und, .und, .und, .und, .und, .und, .und, .und, .und, .und, .und, .und, .und, .und, .und, .und, .und, .und, .und, .und, .und, .und, .und, .und, .und, .und, .und]) (fun q => q) ?_ ?_
    · by_cases hEe : (cdF (S, E)).2 = 0
      case neg =>
        repeat first | refine AWp.seq ?_ | refine AWp.block ?_
        refine AWp.ops ?_
        simp [hEe]
        refine AWp.cond (b := false) (by simp) (fun h => by cases h) (fun _ => ?_)
        refine AWp.skip ?_
        simp only [qSeq]
        exact ⟨_, k0, (Weak.slots [2, 5]).to rfl rfl⟩
      by_cases hDe : (cdF (S, D)).2 = 0
      case neg =>
        repeat first | refine AWp.seq ?_ | refine AWp.block ?_
        refine AWp.ops ?_
        simp [hEe, hDe]
        refine AWp.cond (b := false) (by simp [hDe]) (fun h => by cases h) (fun _ => ?_)
        refine AWp.skip ?_
        simp only [qSeq]
        exact ⟨_, k0, (Weak.slots [2, 5]).to rfl rfl⟩
      obtain ⟨l1, l2, l3, l4⟩ := cdF_app hEe hDe (by omega)
      repeat first | refine AWp.seq ?_ | refine AWp.block ?_
      refine AWp.ops ?_
      simp [hEe, hDe]
      refine AWp.cond (b := true) (by simp) (fun _ => ?_) (fun h => by cases h)
      have hone := hr.one
      obtain ⟨f1, f2⟩ := cdF_in (X := (S, E ++ D)) hI
      repeat first | refine AWp.seq ?_ | refine AWp.block ?_
      refine AWp.ops ?_
      simp [kp]
      refine (dense_lent 8 (F := cdF (S, E ++ D)) (by simpa using cDense_spec (hr.coo hS' hdd 4))).mono ?_
      rintro r H' ⟨G, rfl, ⟨h, _⟩ | ⟨_, d3, rfl, hd3⟩⟩
      · exact absurd l1 h
      obtain ⟨K1, hK1⟩ : ∃ K1, K1 = K ++ G := ⟨_, rfl⟩
      rw [← hK1] at hd3 ⊢
      have gR : ∀ r o, K[r]? = some o → K1[r]? = some o := fun r o h => by rw [hK1, List.getElem?_append_left (List.getElem?_eq_some_iff.1 h).1]; exact h
      replace k0 := gR _ _ k0
      replace k2 := gR _ _ k2
      replace k3 := gR _ _ k3
      have hd3' := hd3
      obtain ⟨s3, j3, hj3, rfl, hj3', hs3'⟩ := hd3'
      have hs3o := hs3'.one
      clear kp gR hr
      obtain ⟨m, hm⟩ : ∃ m, m = K1.length := ⟨_, rfl⟩
      have hm3 : 3 < m := by rw [hm]; exact (List.getElem?_eq_some_iff.1 k3).1
      have gR : ∀ G r, r < m → (K1 ++ G)[r]? = K1[r]? := fun G r hr => List.getElem?_append_left (by omega)
      have gL : ∀ x G, (K1 ++ x :: G)[m]? = some x := fun x G => by rw [List.getElem?_append_right (by omega), show m - K1.length = 0 by omega]; rfl
      have gL1 : ∀ x y G, (K1 ++ x :: y :: G)[m + 1]? = some y := fun x y G => by rw [List.getElem?_append_right (by omega), show m + 1 - K1.length = 1 by omega]; rfl
      have sL : ∀ x y G, (K1 ++ x :: G).set m y = K1 ++ y :: G := fun x y G => by rw [List.set_append_right _ _ (by omega), show m - K1.length = 0 by omega]; rfl
      have sL1 : ∀ x y z G, (K1 ++ x :: y :: G).set (m + 1) z = K1 ++ x :: z :: G := fun x y z G => by rw [List.set_append_right _ _ (by omega), show m + 1 - K1.length = 1 by omega]; rfl
      have g2 : ∀ G, (K1 ++ G)[2]? = some (denO (.agg [u1, u2])) := fun G => by rw [gR _ _ (by omega)]; exact k2
      have g3 : ∀ G, (K1 ++ G)[3]? = some (denO (.agg [v1, v2])) := fun G => by rw [gR _ _ (by omega)]; exact k3
      simp [hs3o, ← hm]
      repeat first | refine AWp.seq ?_ | refine AWp.block ?_
      refine AWp.ops ?_
      simp [gL, sL, g2, g3]
      refine ((Add_spec hd1 hd2).pure (by have a1 := hd1.noRef; have a2 := hd2.noRef; simp at a1 a2; simp [a1, a2]) (by rintro r ⟨d, rfl, hd⟩; have := hd.noRef; simp [this]) _).mono ?_
      rintro r H' ⟨rfl, d4, rfl, hd4⟩
      obtain ⟨w1, w2, hw, hw1, hw2⟩ := hd4.two
      rw [l3]
      rw [← l4] at hd4
      subst hw
      simp [hw1, hw2]
      repeat first | refine AWp.seq ?_ | refine AWp.block ?_
      refine AWp.ops ?_
      simp [gL, gL1, sL, sL1, ← hm]
      refine ACalls.mono (ACalls.pureLent 8 (R := fun r => r = Bo true) ?_ (by rintro r rfl s; simp)) ?_
      · have hz := (hd3.app [denO (.agg [s3, .slc j3 (cdF (S, E ++ D)).1.2.length 0 (cdF (S, E ++ D)).1.2.length none]), denO (.agg [w1, w2])]).frz f1 f2
        have := bSame_spec hz hd4
        rw [show (decide (checkF (cdF (S, E ++ D)).1 = 0 ∧ (cdF (S, E ++ D)).1 = (cdF (S, E ++ D)).1)) = true by simp [l2]] at this
        simpa [hd4.frz] using this
      rintro r H' ⟨hH', rfl⟩
      subst H'
      simp
      refine AWp.cond (b := false) (by simp) (fun h => by cases h) (fun _ => ?_)
      refine AWp.skip ?_
      simp only [qSeq]
      exact ⟨_, by rw [gR _ _ (by omega)]; exact k0, (Weak.slots [2, 5]).to rfl rfl⟩
    rintro K2 k0'
    clear hr kp k3 k2 k0
    clear K
    obtain ⟨m, hm⟩ : ∃ m, m = K2.length := ⟨_, rfl⟩
    have hm0 : 0 < m := by rw [hm]; exact (List.getElem?_eq_some_iff.1 k0').1
    have gR : ∀ G r, r < m → (K2 ++ G)[r]? = K2[r]? := fun G r hr => List.getElem?_append_left (by omega)
    have g0 : ∀ G, (K2 ++ G)[0]? = some (cooO A0) := fun G => by rw [gR _ _ hm0]; exact k0'
    have gL : ∀ x G, (K2 ++ x :: G)[m]? = some x := fun x G => by rw [List.getElem?_append_right (by omega), show m - K2.length = 0 by omega]; rfl
    have gL1 : ∀ x y G, (K2 ++ x :: y :: G)[m + 1]? = some y := fun x y G => by rw [List.getElem?_append_right (by omega), show m + 1 - K2.length = 1 by omega]; rfl
    have sL : ∀ x y G, (K2 ++ x :: G).set m y = K2 ++ y :: G := fun x y G => by rw [List.set_append_right _ _ (by omega), show m - K2.length = 0 by omega]; rfl
    have sL1 : ∀ x y z G, (K2 ++ x :: y :: G).set (m + 1) z = K2 ++ x :: z :: G := fun x y z G => by rw [List.set_append_right _ _ (by omega), show m + 1 - K2.length = 1 by omega]; rfl
    refine AWp.cutE (σ := Nat × AV × List AObj) (fun q => 0 < q.1 ∧ q.2.2[0]? = some (cooO A0) ∧ q.2.2[q.1]? = some (cooO (.agg [.imm n1 c1 z1 (S.map I), q.2.1])) ∧ rowO 1 q.2.2 q.2.1 38 2 es)
      (fun q => [.und, .und, .ptr 0 1 0 0, .und, .und, Bo true, .und, .und, .und, .und, .und, .und, .und, .und, .und, .ptr q.1 1 0 0, .und, .und, .und, .und, .und, .und, .und, .und, .und, .und, .und, .und, .und, .und, .und, .und, .und, .und, .und, .und, .und, .und, .und, .und, .und, .und, .und, .und, .und, .und, .und, .und, .und, .und, .und, .und, .und, .und, .und, .und, .und, .und, .und, .und, .und, .und, .und, .und, .und, .und, .und, .und, .und, .und, .und, .und, .und, .und, .und, .und, .und, .und, .und, .und, .und, .und, .und, .und, .und, .und, .und, .und, .und, .und, .und, .und, .und, .und, .und, .und, .und, .und, .und, .und, .und, .und, .und, .und, .und, .und, .und, .und, .und, .und, .und, .und, .und, .und, .und, .und, .und, .und, .und, .und, .und, .und, .und, .und, .und, .und, .und, .und, .und, .und, .und, .und, .und, .und]) (fun q => q.2.2) ?_ ?_
    · refine AWp.par ?_
      intro l hll
      simp at hll
      have hr0 : ∀ (b : Nat) (K : List AObj) (ty sz : Nat) (es : List AV), es = [] → rowO b K (.imm true none 0 []) ty sz es := fun b K ty sz es h => .inl ⟨h, rfl⟩
      have hr1 : ∀ (b : Nat) (K : List AObj) (k ty sz L : Nat) (es : List AV), b ≤ k → L = es.length → K[k]? = some ⟨ty, sz, es, true, none⟩ → rowO b K (.slc k L 0 L none) ty sz es := fun b K k ty sz L es h1 h2 h3 => by subst h2; exact .inr ⟨k, h1, rfl, h3⟩
      rw [hA0] at k0' g0
      rcases Classical.em (es = []) with hE0 | hE0 <;> (first | replace hE0 : (es = []) = True := eq_true hE0 | replace hE0 : (es = []) = False := eq_false hE0)
      all_goals
        rcases hll with rfl | rfl | rfl <;>
        · simp [hA0, hE0, q3, q1, b1, b2, b5, b9, k0', g0, gL, gL1, sL, sL1, ← hm]
          first
            | exact ⟨_, _, _, And.symm ⟨(Weak.slots [2, 5, 15]).to rfl rfl, by omega, g0 _, gL _ _, hr0 _ _ _ _ _ (by simp [hE0])⟩⟩
            | exact ⟨_, _, _, And.symm ⟨(Weak.slots [2, 5, 15]).to rfl rfl, by omega, g0 _, gL _ _, hr1 _ _ _ _ _ _ _ (by omega) rfl (gL1 _ _ _)⟩⟩
            | exact ⟨_, _, _, And.symm ⟨(Weak.slots [2, 5, 15]).to rfl rfl, by omega, g0 _, gL1 _ _ _, hr1 _ _ _ _ _ _ _ (by omega) rfl (gL _ _)⟩⟩
            | trace_state; sorry
    rintro ⟨p, a, K⟩ ⟨hp, k0, kp, hr⟩
    simp only at hp k0 kp hr ⊢
    clear g0 gR gL gL1 sL sL1 k0' hm0 hm m
    clear K2
    have k0A := k0
    rw [hA0] at k0
    repeat first | refine AWp.seq ?_ | refine AWp.block ?_
    refine AWp.ops ?_
    simp [k0]
    obtain ⟨J, hJ⟩ : ∃ J : Nat → List AV → List AObj → Prop, J = fun i fr H => i ≤ es.length ∧ ∃ (K : List AObj) (a : AV), (K[0]? = some (cooO A0) ∧ K[p]? = some (cooO (.agg [.imm n1 c1 z1 (S.map I), a])) ∧ ∃ fs, Ents fs (E ++ oppL (E.take i)) ∧ rowO 1 K a 38 2 fs) ∧ H = K ∧
      fr = [.und, .und, .ptr 0 1 0 0, .und, .und, Bo true, .und, .und, .und, .und, .und, .und, .und, .und, .und, .ptr p 1 0 0, .und, .und, .und, .und, .und, .und, .und, .und, .und, .und, .und, .und, .und, .und, .und, .und, .und, .und, .und, .und, .und, .und, .und, .und, .und, .und, .und, .und, .und, .und, .und, .und, .und, .und, .und, .und, .und, .und, .und, .und, .und, .und, .und, .und, .und, .und, .und, .und, .und, .und, .und, .und, .und, .und, .und, .und, .und, .und, .und, .und, .und, .und, .und, .und, .und, .und, .und, .und, .und, .und, .und, .und, .und, .und, .und, .und, .und, .und, .und, .und, .und, .und, .und, .und, .imm n2 c2 z2 es, I es.length, I i, .und, .und, .und, .und, .und, .und, .und, .und, .und, .und, .und, .und, .und, .und, .und, .und, .und, .und, .und, .und, .und, .und, .und, .und, .und, .und, .und, .und, .und, .und, .und] := ⟨_, rfl⟩
    refine AWp.block (AWp.loop J (fun i => es.length - i) 0 (Weak.slots [2, 5, 15, 100, 101, 102]) (by rw [hJ]; exact ⟨by omega, K, a, ⟨k0A, kp, es, by simpa [oppL] using h23, hr⟩, by simp, by simp⟩) ?_)
    intro i fr H hI
    rw [hJ] at hI
    obtain ⟨hi, K, a, hinv, rfl, rfl⟩ := hI
    repeat first | refine AWp.seq ?_ | refine AWp.block ?_
    refine AWp.ops ?_
    simp
    refine AWp.seq (AWp.cond (b := decide (i < es.length)) (by simp <;> omega) ?_ ?_)
    ·
      intro hb
      have hb : i < es.length := by simpa using hb
      refine AWp.skip ?_
      simp only [qSeq]
      clear k0 k0A kp hr
      obtain ⟨m0, mp, fs, hfs, hr⟩ := hinv
      have hbE : i < E.length := by omega
      obtain ⟨ai, hai, hai2⟩ := h23.get hbE
      have hxt : E.take (i + 1) = E.take i ++ [E[i]] := List.take_succ_eq_append_getElem hbE
      have hfl := hfs.1
      simp [oppL] at hfl
      generalize E[i] = t at hai hai2 hxt
      obtain ⟨c, v⟩ := t
      simp only at hai hai2
      have hai2' := hai2
      obtain ⟨⟨n5, c5, z5, rfl, hs5⟩, hl5, hx5⟩ := hai2
      obtain ⟨_, hai'⟩ := List.getElem?_eq_some_iff.1 hai
      have hn2 : n2 = false := by
        cases n2 with
        | false => rfl
        | true => have := h21 rfl; rw [this] at hbE; simp at hbE
      have hz2 := h22 hn2
      subst hn2 hz2
      have hwi := wrap_i64 (n := (i : Int) + 1) (by omega) (by omega)
      rcases hr with ⟨h, _⟩ | ⟨k, hk, rfl, hkK⟩
      · rw [h] at hfl; simp at hfl; omega
      obtain ⟨m, hm⟩ : ∃ m, m = H.length := ⟨_, rfl⟩
      have hpm : p < m := by rw [hm]; exact (List.getElem?_eq_some_iff.1 mp).1
      have hkm : k < m := by rw [hm]; exact (List.getElem?_eq_some_iff.1 hkK).1
      have hkp : k ≠ p := by
        rintro rfl
        rw [hkK] at mp
        simp at mp
      have gR : ∀ G r, r < m → (H ++ G)[r]? = H[r]? := fun G r hr => List.getElem?_append_left (by omega)
      have gL : ∀ x G, (H ++ x :: G)[m]? = some x := fun x G => by rw [List.getElem?_append_right (by omega), show m - H.length = 0 by omega]; rfl
      have sL : ∀ x y G, (H ++ x :: G).set m y = H ++ y :: G := fun x y G => by rw [List.set_append_right _ _ (by omega), show m - H.length = 0 by omega]; rfl
      have gp : ∀ G, (H ++ G)[p]? = some (cooO (.agg [.imm n1 c1 z1 (S.map I), .slc k fs.length 0 fs.length none])) := fun G => by rw [gR _ _ hpm]; exact mp
      have gk : ∀ G, (H ++ G)[k]? = some (ensO fs) := fun G => by rw [gR _ _ hkm]; exact hkK
      have w5 : (fs.length + 1) * 32 ≤ 140737488355328 := by omega
      have w6 : fs.length + 1 ≤ 9223372036854775807 := by omega
      have hone := hfs.one
      repeat first | refine AWp.seq ?_ | refine AWp.block ?_
      refine AWp.ops ?_
      simp [hai, hai', hb, ← hm, gL, sL]
      have gp2 : ∀ G x, ((H ++ G).set k x)[p]? = some (cooO (.agg [.imm n1 c1 z1 (S.map I), .slc k fs.length 0 fs.length none])) := fun G x => by rw [gs_ne hkp]; exact gp G
      repeat first | refine AWp.seq ?_ | refine AWp.block ?_
      refine AWp.ops ?_
      simp [gL, gp, gp2, gk, w5, w6, hone]
      repeat first | refine AWp.seq ?_ | refine AWp.block ?_
      refine AWp.ops ?_
      simp [hwi]
      refine ⟨i + 1, _, _, Weak.slots [2, 5, 15, 100, 101, 102], ?_, by omega⟩
      rw [hJ]
      have hsn := hfs.snoc (v := IntKind.i64.wrap (-v)) hai2'
      have ex : E ++ oppL (E.take (i + 1)) = E ++ oppL (E.take i) ++ [(c, IntKind.i64.wrap (-v))] := by rw [hxt]; simp [oppL]
      refine ⟨by omega, _, _, ⟨by rw [gs_ne (by omega), gs_ne (by omega), gR _ _ (by omega)]; exact m0, gs_eq (gp2 _ _), _, by rw [ex]; exact hsn, .inr ⟨k, hk, ?_, ?_⟩⟩, rfl, by simp⟩
      · simp
      · rw [gs_ne (Ne.symm hkp), gs_eq (gk _)]
    ·
      intro hb
      have hb : ¬ i < es.length := by simpa using hb
      refine AWp.exit ?_
      simp [qSeq, qBlock]
      clear k0 k0A kp hr
      obtain ⟨m0, mp, fs, hfs, hr⟩ := hinv
      rw [List.take_of_length_le (by omega)] at hfs
      have hone := hr.one
      have hEI : ∀ w ∈ E, InI w.1 := fun w hw => by
        obtain ⟨i, hi, rfl⟩ := List.getElem_of_mem hw
        obtain ⟨a, _, h⟩ := h23.get hi
        exact h.2
      have hFI : ∀ w ∈ E ++ oppL E, InI w.1 := fun w hw => by
        rcases List.mem_append.1 hw with h | h
        · exact hEI w h
        · obtain ⟨t, ht, rfl⟩ := List.mem_map.1 h
          exact hEI t ht
      repeat first | refine AWp.seq ?_ | refine AWp.block ?_
      refine AWp.ops ?_
      simp [mp]
      refine (coo_lent 8 (F := plainF (S, E ++ oppL E)) (by simpa using cPlain_spec (hr.coo hS' hfs 4) ⟨hI, hFI⟩ (by simp [oppL]; omega))).mono ?_
      rintro r H' ⟨G, x, rfl, rfl, hx⟩
      rw [plain_opp hck (by omega) hv] at hx ⊢
      obtain ⟨s, e, rfl, hs, he⟩ := hx
      obtain ⟨K1, hK1⟩ : ∃ K1, K1 = H ++ G := ⟨_, rfl⟩
      rw [← hK1] at hs he ⊢
      have hs1 := hs.one
      have gL : ∀ x G, (K1 ++ x :: G)[K1.length]? = some x := fun x G => by rw [List.getElem?_append_right (by omega), show K1.length - K1.length = 0 by omega]; rfl
      have sL : ∀ x y G, (K1 ++ x :: G).set K1.length y = K1 ++ y :: G := fun x y G => by rw [List.set_append_right _ _ (by omega), show K1.length - K1.length = 0 by omega]; rfl
      rcases he with ⟨_, rfl⟩ | ⟨k, es9, _, rfl, _⟩
      · simp [hs1]
        repeat first | refine AWp.seq ?_ | refine AWp.block ?_
        refine AWp.ops ?_
        simp [gL, sL]
        refine AWp.ret ?_
        simp
        refine retOk.of rfl ?_
        simp
      · simp [hs1]
        repeat first | refine AWp.seq ?_ | refine AWp.block ?_
        refine AWp.ops ?_
        simp [gL, sL]
        refine AWp.ret ?_
        simp
        refine retOk.of rfl ?_
        simp
  refine (base.frozen 2).mono ?_
  rintro q H' ⟨rfl, r, G, rfl, rfl⟩
  exact ⟨rfl, by simp⟩
end Go.Fw
