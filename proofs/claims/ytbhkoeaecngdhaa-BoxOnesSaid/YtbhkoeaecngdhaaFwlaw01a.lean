import Derived.Test.YtbhkoeaecngdhaaFwbox4
namespace Go.Fw
open Go Go.RowKit Go.Proofs
set_option maxRecDepth 100000
set_option maxHeartbeats 4000000

/-! ### Plain laws -/
theorem mulAll_one : ∀ (P S : List Int) (n : Int), n < 4611686018427387904 → mulAll (P ++ 1 :: S) n = mulAll (P ++ S) n
  | [], S, n, h => by
    simp only [List.nil_append, mulAll]
    rw [if_neg (by omega), Int.mul_one]
  | x :: P, S, n, h => by
    simp only [List.cons_append, mulAll]
    split
    · rfl
    · exact mulAll_one P S _ (by omega)

theorem cells_one {P S : List Int} (h : (P ++ S).length ≤ 3) : cells (P ++ 1 :: S) = cells (P ++ S) := by
  have h1 : ¬ (P ++ 1 :: S).length > 4 := by simp at h ⊢; omega
  have h2 : ¬ (P ++ S).length > 4 := by omega
  have h3 : ((P ++ 1 :: S).any fun x => decide (x < 0)) = (P ++ S).any fun x => decide (x < 0) := by simp
  have h4 : (0 ∈ P ++ 1 :: S) ↔ 0 ∈ P ++ S := by simp
  simp only [cells, h1, h2, h3, h4, mulAll_one P S 1 (by omega)]

theorem wrap_range (x : Int) : -9223372036854775808 ≤ IntKind.i64.wrap x ∧ IntKind.i64.wrap x ≤ 9223372036854775807 := by
  have e : IntKind.i64.wrap x = if (x % 18446744073709551616) ≥ 9223372036854775808 then x % 18446744073709551616 - 18446744073709551616 else x % 18446744073709551616 := by
    unfold IntKind.wrap
    simp [IntKind.bits, IntKind.signed]
  rw [e]
  split <;> omega

theorem atGo_one : ∀ (P S P' S' : List Int) (n : Int), P.length = P'.length → -9223372036854775808 ≤ n ∧ n ≤ 9223372036854775807 → atGo (P ++ 1 :: S) (P' ++ 0 :: S') n = atGo (P ++ S) (P' ++ S') n
  | [], S, [], S', n, _, h => by
    simp only [List.nil_append, atGo]
    rw [if_neg (by omega), Int.mul_one, Int.add_zero, wrap_i64 h.1 h.2, wrap_i64 h.1 h.2]
  | x :: P, S, y :: P', S', n, hl, h => by
    simp only [List.cons_append, atGo]
    split
    · rfl
    · exact atGo_one P S P' S' _ (by simpa using hl) (wrap_range _)
  | [], _, _ :: _, _, _, hl, _ => by simp at hl
  | _ :: _, _, [], _, _, hl, _ => by simp at hl

theorem atF_one {P S P' S' : List Int} (h : (P ++ S).length ≤ 3) (hl : P.length = P'.length) : atF (P ++ 1 :: S) (P' ++ 0 :: S') = atF (P ++ S) (P' ++ S') := by
  have e : ((P' ++ 0 :: S').length ≠ (P ++ 1 :: S).length) ↔ ((P' ++ S').length ≠ (P ++ S).length) := by simp; omega
  simp only [atF, cells_one h, e, atGo_one P S P' S' 0 hl (by omega)]

def prodI (xs : List Int) : Int := xs.foldr (· * ·) 1
theorem prodI_append (xs ys : List Int) : prodI (xs ++ ys) = prodI xs * prodI ys := by
  induction xs with
  | nil => simp [prodI]
  | cons x xs ih => simp only [prodI, List.cons_append, List.foldr_cons] at ih ⊢; rw [ih, Int.mul_assoc]
theorem prodI_reverse (xs : List Int) : prodI xs.reverse = prodI xs := by
  induction xs with
  | nil => rfl
  | cons x xs ih =>
    rw [List.reverse_cons, prodI_append, ih]
    simp [prodI, Int.mul_comm]
theorem prodI_pos : ∀ (xs : List Int), (∀ x ∈ xs, 1 ≤ x) → 1 ≤ prodI xs
  | [], _ => by simp [prodI]
  | x :: xs, h => by
    have h1 := prodI_pos xs fun y hy => h y (by simp [hy])
    have h2 := h x (by simp)
    have : 1 * 1 ≤ x * prodI xs := Int.mul_le_mul h2 h1 (by omega) (by omega)
    simpa [prodI] using this
theorem mulAll_prod : ∀ (xs : List Int) (n : Int), (∀ x ∈ xs, 1 ≤ x) → 1 ≤ n → n < 4611686018427387904 → mulAll xs n = if n * prodI xs ≥ 4611686018427387904 then (0, 2) else (n * prodI xs, 0)
  | [], n, _, h1, h2 => by simp only [mulAll, prodI, List.foldr_nil, Int.mul_one]; rw [if_neg (by omega)]
  | x :: xs, n, hx, h1, h2 => by
    have hp := prodI_pos xs fun y hy => hx y (by simp [hy])
    have hx1 := hx x (by simp)
    have e : n * prodI (x :: xs) = n * x * prodI xs := by simp only [prodI, List.foldr_cons]; rw [Int.mul_assoc]
    have hnx : 1 * 1 ≤ n * x := Int.mul_le_mul h1 hx1 (by omega) (by omega)
    simp only [mulAll]
    split
    · rename_i h
      have : n * x * 1 ≤ n * x * prodI xs := Int.mul_le_mul_of_nonneg_left hp (by omega)
      rw [e, if_pos (by omega)]
    · rw [mulAll_prod xs (n * x) (fun y hy => hx y (by simp [hy])) (by omega) (by omega), e]

theorem cells_reverse (xs : List Int) : cells xs.reverse = cells xs := by
  simp only [cells, List.length_reverse, List.any_reverse, List.mem_reverse]
  split
  · rfl
  · rename_i h
    split
    · rfl
    · rename_i h0
      have hx : ∀ x ∈ xs, 1 ≤ x := by
        intro x hx
        have h1 : ¬ (xs.any fun x => decide (x < 0)) = true := fun e => h (.inr e)
        simp at h1
        have := h1 x hx
        have : x ≠ 0 := fun e => h0 (by rw [← e]; exact hx)
        omega
      rw [mulAll_prod _ 1 (by simpa using hx) (by omega) (by omega), mulAll_prod _ 1 hx (by omega) (by omega), prodI_reverse]

def BoxOnes_22 : AC := (.seq (.ops [⟨(some 113), none, (.k (.mov (.t 7)))⟩, ⟨(some 114), none, (.k (.mov (.t 113)))⟩, ⟨(some 115), (some (114, true)), (.k (.mov (.t 10)))⟩, ⟨(some 116), (some (114, true)), (.k (.mov (.t 12)))⟩, ⟨(some 117), (some (114, true)), (.k (.bin .eql (.t 115) (.t 116)))⟩, ⟨(some 118), none, (.k (.pick (.t 114) (.t 117) (.c (.sc (.bool false)))))⟩, ⟨(some 119), none, (.k (.mov (.t 118)))⟩, ⟨(some 120), (some (119, true)), (.k (.mov (.t 11)))⟩, ⟨(some 121), (some (119, true)), (.k (.mov (.t 13)))⟩, ⟨(some 122), (some (119, true)), (.k (.bin .eql (.t 120) (.t 121)))⟩, ⟨(some 123), none, (.k (.pick (.t 119) (.t 122) (.c (.sc (.bool false)))))⟩, ⟨(some 124), none, (.k (.mov (.t 123)))⟩, ⟨(some 125), (some (124, true)), (.k (.mov (.t 14)))⟩, ⟨(some 126), (some (124, true)), (.k (.mov (.t 16)))⟩, ⟨(some 127), (some (124, true)), (.k (.bin .eql (.t 125) (.t 126)))⟩, ⟨(some 128), none, (.k (.pick (.t 124) (.t 127) (.c (.sc (.bool false)))))⟩, ⟨(some 129), none, (.k (.mov (.t 128)))⟩, ⟨(some 130), (some (129, true)), (.k (.mov (.t 15)))⟩, ⟨(some 131), (some (129, true)), (.k (.mov (.t 17)))⟩, ⟨(some 132), (some (129, true)), (.k (.bin .eql (.t 130) (.t 131)))⟩, ⟨(some 133), none, (.k (.pick (.t 129) (.t 132) (.c (.sc (.bool false)))))⟩, ⟨(some 134), none, (.k (.mov (.t 133)))⟩, ⟨(some 135), (some (134, true)), (.k (.mov (.t 20)))⟩, ⟨(some 136), (some (134, true)), (.k (.mov (.t 10)))⟩, ⟨(some 137), (some (134, true)), (.k (.bin .eql (.t 135) (.t 136)))⟩, ⟨(some 138), none, (.k (.pick (.t 134) (.t 137) (.c (.sc (.bool false)))))⟩, ⟨(some 139), none, (.k (.mov (.t 138)))⟩, ⟨(some 140), (some (139, true)), (.k (.mov (.t 21)))⟩, ⟨(some 141), (some (139, true)), (.k (.mov (.t 11)))⟩, ⟨(some 142), (some (139, true)), (.k (.bin .eql (.t 140) (.t 141)))⟩, ⟨(some 143), none, (.k (.pick (.t 139) (.t 142) (.c (.sc (.bool false)))))⟩, ⟨(some 6), none, (.k (.mov (.t 143)))⟩]) .ret)
def BoxOnes_21 : AC := (.seq (.ops [⟨(some 109), none, (.k (.mov (.t 18)))⟩, ⟨(some 110), none, (.call false (.c (.fn (.func 12) [] [])) [(.t 109)])⟩, ⟨(some 108), none, (.k (.mov (.t 110)))⟩, ⟨(some 111), none, (.k (.ext (.t 108) 0))⟩, ⟨(some 112), none, (.k (.ext (.t 108) 1))⟩, ⟨(some 20), none, (.k (.mov (.t 111)))⟩, ⟨(some 21), none, (.k (.mov (.t 112)))⟩]) BoxOnes_22)
def BoxOnes_20 : AC := (.seq (.ops [⟨(some 95), none, (.k (.mov (.t 93)))⟩, ⟨(some 19), none, (.k (.mov (.t 95)))⟩]) (.ops [⟨(some 96), none, (.k (.mov (.t 18)))⟩, ⟨(some 97), none, (.k (.mov (.t 19)))⟩, ⟨(some 98), none, (.k (.mov (.t 0)))⟩, ⟨(some 99), none, (.k (.mov (.t 0)))⟩, ⟨(some 100), none, (.k (.len (.t 99)))⟩, ⟨(some 101), none, (.k (.bin .sub (.t 100) (.c (.sc (.int .i64 1)))))⟩, ⟨(some 102), none, (.k (.mov (.t 19)))⟩, ⟨(some 103), none, (.k (.bin .sub (.t 101) (.t 102)))⟩, ⟨(some 104), none, (.k (.iad 1 (.t 98) (.t 103)))⟩, ⟨(some 105), none, (.k (.ld 1 false (.t 104)))⟩, ⟨(some 106), none, (.k (.iad 1 (.t 96) (.t 97)))⟩, ⟨none, none, (.k (.st 1 (.t 106) (.t 105)))⟩]))
def BoxOnes_19 : AC := (.block 1 BoxOnes_20)
def BoxOnes_18 : AC := (.seq BoxOnes_19 (.ops [⟨(some 107), none, (.k (.bin .add (.t 93) (.c (.sc (.int .i64 1)))))⟩, ⟨(some 93), none, (.k (.mov (.t 107)))⟩]))
def BoxOnes_17 : AC := (.seq (.cond (.t 94) .skip (.exit 0)) BoxOnes_18)
def BoxOnes_16 : AC := (.seq (.ops [⟨(some 94), none, (.k (.bin .lss (.t 93) (.t 92)))⟩]) BoxOnes_17)
def BoxOnes_15 : AC := (.loop BoxOnes_16)
def BoxOnes_14 : AC := (.block 0 BoxOnes_15)
def BoxOnes_13 : AC := (.seq (.ops [⟨(some 91), none, (.k (.mov (.t 18)))⟩, ⟨(some 92), none, (.k (.len (.t 91)))⟩, ⟨(some 93), none, (.k (.mov (.c (.sc (.int .i64 0)))))⟩]) BoxOnes_14)
def BoxOnes_12 : AC := (.seq BoxOnes_13 BoxOnes_21)
def BoxOnes_11 : AC := (.seq (.ops [⟨(some 89), none, (.k (.mov (.t 0)))⟩, ⟨(some 90), none, (.k (.app 3 1 8 (.c (.imm true none 0 [])) (.t 89)))⟩, ⟨(some 18), none, (.k (.mov (.t 90)))⟩]) BoxOnes_12)
def BoxOnes_10 : AC := (.seq (.ops [⟨(some 84), none, (.k (.mov (.t 8)))⟩, ⟨(some 85), none, (.k (.mov (.t 9)))⟩, ⟨(some 86), none, (.call false (.c (.fn (.func 13) [] [])) [(.t 84), (.t 85)])⟩, ⟨(some 83), none, (.k (.mov (.t 86)))⟩, ⟨(some 87), none, (.k (.ext (.t 83) 0))⟩, ⟨(some 88), none, (.k (.ext (.t 83) 1))⟩, ⟨(some 16), none, (.k (.mov (.t 87)))⟩, ⟨(some 17), none, (.k (.mov (.t 88)))⟩]) BoxOnes_11)
def BoxOnes_9 : AC := (.seq (.ops [⟨(some 78), none, (.k (.mov (.t 0)))⟩, ⟨(some 79), none, (.k (.mov (.t 1)))⟩, ⟨(some 80), none, (.call false (.c (.fn (.func 13) [] [])) [(.t 78), (.t 79)])⟩, ⟨(some 77), none, (.k (.mov (.t 80)))⟩, ⟨(some 81), none, (.k (.ext (.t 77) 0))⟩, ⟨(some 82), none, (.k (.ext (.t 77) 1))⟩, ⟨(some 14), none, (.k (.mov (.t 81)))⟩, ⟨(some 15), none, (.k (.mov (.t 82)))⟩]) BoxOnes_10)
def BoxOnes_8 : AC := (.seq (.ops [⟨(some 73), none, (.k (.mov (.t 8)))⟩, ⟨(some 74), none, (.call false (.c (.fn (.func 12) [] [])) [(.t 73)])⟩, ⟨(some 72), none, (.k (.mov (.t 74)))⟩, ⟨(some 75), none, (.k (.ext (.t 72) 0))⟩, ⟨(some 76), none, (.k (.ext (.t 72) 1))⟩, ⟨(some 12), none, (.k (.mov (.t 75)))⟩, ⟨(some 13), none, (.k (.mov (.t 76)))⟩]) BoxOnes_9)
def BoxOnes_7 : AC := (.seq (.ops [⟨(some 68), none, (.k (.mov (.t 0)))⟩, ⟨(some 69), none, (.call false (.c (.fn (.func 12) [] [])) [(.t 68)])⟩, ⟨(some 67), none, (.k (.mov (.t 69)))⟩, ⟨(some 70), none, (.k (.ext (.t 67) 0))⟩, ⟨(some 71), none, (.k (.ext (.t 67) 1))⟩, ⟨(some 10), none, (.k (.mov (.t 70)))⟩, ⟨(some 11), none, (.k (.mov (.t 71)))⟩]) BoxOnes_8)
def BoxOnes_6 : AC := (.seq (.par [[⟨(some 57), none, (.k (.mov (.t 1)))⟩, ⟨(some 58), none, (.k (.mov (.t 2)))⟩, ⟨(some 59), none, (.k (.sl 1 (.t 57) none (some (.t 58)) none))⟩, ⟨(some 61), none, (.k (.lit 1 [(.c (.sc (.int .i64 0)))]))⟩, ⟨(some 63), none, (.k (.mov (.t 1)))⟩, ⟨(some 64), none, (.k (.mov (.t 2)))⟩, ⟨(some 60), none, (.k (.app 3 1 8 (.c (.imm true none 0 [])) (.t 59)))⟩, ⟨(some 62), none, (.k (.app 3 1 8 (.t 60) (.t 61)))⟩, ⟨(some 65), none, (.k (.sl 1 (.t 63) (some (.t 64)) none none))⟩, ⟨(some 66), none, (.k (.app 3 1 8 (.t 62) (.t 65)))⟩, ⟨(some 9), none, (.k (.mov (.t 66)))⟩], [⟨(some 57), none, (.k (.mov (.t 1)))⟩, ⟨(some 58), none, (.k (.mov (.t 2)))⟩, ⟨(some 59), none, (.k (.sl 1 (.t 57) none (some (.t 58)) none))⟩, ⟨(some 61), none, (.k (.lit 1 [(.c (.sc (.int .i64 0)))]))⟩, ⟨(some 63), none, (.k (.mov (.t 1)))⟩, ⟨(some 64), none, (.k (.mov (.t 2)))⟩, ⟨(some 60), none, (.k (.app 3 1 8 (.c (.imm true none 0 [])) (.t 59)))⟩, ⟨(some 65), none, (.k (.sl 1 (.t 63) (some (.t 64)) none none))⟩, ⟨(some 62), none, (.k (.app 3 1 8 (.t 60) (.t 61)))⟩, ⟨(some 66), none, (.k (.app 3 1 8 (.t 62) (.t 65)))⟩, ⟨(some 9), none, (.k (.mov (.t 66)))⟩], [⟨(some 57), none, (.k (.mov (.t 1)))⟩, ⟨(some 58), none, (.k (.mov (.t 2)))⟩, ⟨(some 59), none, (.k (.sl 1 (.t 57) none (some (.t 58)) none))⟩, ⟨(some 61), none, (.k (.lit 1 [(.c (.sc (.int .i64 0)))]))⟩, ⟨(some 63), none, (.k (.mov (.t 1)))⟩, ⟨(some 64), none, (.k (.mov (.t 2)))⟩, ⟨(some 65), none, (.k (.sl 1 (.t 63) (some (.t 64)) none none))⟩, ⟨(some 60), none, (.k (.app 3 1 8 (.c (.imm true none 0 [])) (.t 59)))⟩, ⟨(some 62), none, (.k (.app 3 1 8 (.t 60) (.t 61)))⟩, ⟨(some 66), none, (.k (.app 3 1 8 (.t 62) (.t 65)))⟩, ⟨(some 9), none, (.k (.mov (.t 66)))⟩]]) BoxOnes_7)
def BoxOnes_5 : AC := (.seq (.par [[⟨(some 47), none, (.k (.mov (.t 0)))⟩, ⟨(some 48), none, (.k (.mov (.t 2)))⟩, ⟨(some 49), none, (.k (.sl 1 (.t 47) none (some (.t 48)) none))⟩, ⟨(some 51), none, (.k (.lit 1 [(.c (.sc (.int .i64 1)))]))⟩, ⟨(some 53), none, (.k (.mov (.t 0)))⟩, ⟨(some 54), none, (.k (.mov (.t 2)))⟩, ⟨(some 50), none, (.k (.app 3 1 8 (.c (.imm true none 0 [])) (.t 49)))⟩, ⟨(some 52), none, (.k (.app 3 1 8 (.t 50) (.t 51)))⟩, ⟨(some 55), none, (.k (.sl 1 (.t 53) (some (.t 54)) none none))⟩, ⟨(some 56), none, (.k (.app 3 1 8 (.t 52) (.t 55)))⟩, ⟨(some 8), none, (.k (.mov (.t 56)))⟩], [⟨(some 47), none, (.k (.mov (.t 0)))⟩, ⟨(some 48), none, (.k (.mov (.t 2)))⟩, ⟨(some 49), none, (.k (.sl 1 (.t 47) none (some (.t 48)) none))⟩, ⟨(some 51), none, (.k (.lit 1 [(.c (.sc (.int .i64 1)))]))⟩, ⟨(some 53), none, (.k (.mov (.t 0)))⟩, ⟨(some 54), none, (.k (.mov (.t 2)))⟩, ⟨(some 50), none, (.k (.app 3 1 8 (.c (.imm true none 0 [])) (.t 49)))⟩, ⟨(some 55), none, (.k (.sl 1 (.t 53) (some (.t 54)) none none))⟩, ⟨(some 52), none, (.k (.app 3 1 8 (.t 50) (.t 51)))⟩, ⟨(some 56), none, (.k (.app 3 1 8 (.t 52) (.t 55)))⟩, ⟨(some 8), none, (.k (.mov (.t 56)))⟩], [⟨(some 47), none, (.k (.mov (.t 0)))⟩, ⟨(some 48), none, (.k (.mov (.t 2)))⟩, ⟨(some 49), none, (.k (.sl 1 (.t 47) none (some (.t 48)) none))⟩, ⟨(some 51), none, (.k (.lit 1 [(.c (.sc (.int .i64 1)))]))⟩, ⟨(some 53), none, (.k (.mov (.t 0)))⟩, ⟨(some 54), none, (.k (.mov (.t 2)))⟩, ⟨(some 55), none, (.k (.sl 1 (.t 53) (some (.t 54)) none none))⟩, ⟨(some 50), none, (.k (.app 3 1 8 (.c (.imm true none 0 [])) (.t 49)))⟩, ⟨(some 52), none, (.k (.app 3 1 8 (.t 50) (.t 51)))⟩, ⟨(some 56), none, (.k (.app 3 1 8 (.t 52) (.t 55)))⟩, ⟨(some 8), none, (.k (.mov (.t 56)))⟩]]) BoxOnes_6)
def BoxOnes_4 : AC := (.seq (.ops [⟨(some 34), none, (.k (.mov (.t 2)))⟩, ⟨(some 35), none, (.k (.mov (.t 0)))⟩, ⟨(some 36), none, (.k (.len (.t 35)))⟩, ⟨(some 37), none, (.k (.bin .add (.t 36) (.c (.sc (.int .i64 1)))))⟩, ⟨(some 38), none, (.k (.bin .rem (.t 34) (.t 37)))⟩, ⟨(some 39), none, (.k (.mov (.t 0)))⟩, ⟨(some 40), none, (.k (.len (.t 39)))⟩, ⟨(some 41), none, (.k (.bin .add (.t 38) (.t 40)))⟩, ⟨(some 42), none, (.k (.bin .add (.t 41) (.c (.sc (.int .i64 1)))))⟩, ⟨(some 43), none, (.k (.mov (.t 0)))⟩, ⟨(some 44), none, (.k (.len (.t 43)))⟩, ⟨(some 45), none, (.k (.bin .add (.t 44) (.c (.sc (.int .i64 1)))))⟩, ⟨(some 46), none, (.k (.bin .rem (.t 42) (.t 45)))⟩, ⟨(some 2), none, (.k (.mov (.t 46)))⟩]) BoxOnes_5)
def BoxOnes_3 : AC := (.seq (.ops [⟨(some 23), none, (.k (.mov (.t 0)))⟩, ⟨(some 24), none, (.k (.len (.t 23)))⟩, ⟨(some 25), none, (.k (.bin .geq (.t 24) (.c (.sc (.int .i64 4)))))⟩, ⟨(some 26), none, (.k (.mov (.t 25)))⟩, ⟨(some 27), (some (26, false)), (.k (.mov (.t 1)))⟩, ⟨(some 28), (some (26, false)), (.k (.len (.t 27)))⟩, ⟨(some 29), (some (26, false)), (.k (.mov (.t 0)))⟩, ⟨(some 30), (some (26, false)), (.k (.len (.t 29)))⟩, ⟨(some 31), (some (26, false)), (.k (.bin .neq (.t 28) (.t 30)))⟩, ⟨(some 32), none, (.k (.pick (.t 26) (.c (.sc (.bool true))) (.t 31)))⟩]) (.cond (.t 32) (.seq (.ops [⟨(some 33), none, (.k (.mov (.t 7)))⟩, ⟨(some 6), none, (.k (.mov (.t 33)))⟩]) .ret) .skip))
def BoxOnes_2 : AC := (.seq BoxOnes_3 BoxOnes_4)
def BoxOnes_1 : AC := (.seq (.ops [⟨(some 22), none, (.call false (.c (.fn (.func 11) [] [])) [])⟩, ⟨(some 7), none, (.k (.mov (.t 22)))⟩]) BoxOnes_2)
def BoxOnes_ac : AC := (.seq (.ops [⟨(some 6), none, (.k (.mov (.c (.sc (.bool false)))))⟩]) BoxOnes_1)
theorem BoxOnes_call {args : List AV} {H : List AObj} {R : AV → List AObj → Prop} (h : AWp Try.prog [] H.length BoxOnes_ac (bodyQ H.length [(.t 6)] R) (args ++ List.replicate (144 - args.length) .und) H) : ACalls Try.prog 3 args H R :=
  ACalls.of_fn Try.func3 rfl (by kernel_rfl) rfl Try.ntmps3 h

theorem BoxOnes_spec {a b : AV} {xs cs : List Int} {at_ : Int} (ha : ISl a xs) (hb : ISl b cs) :
    ACalls Try.prog 3 [a, b, I at_] [] fun r G => G = [] ∧ r = Bo true := by
  have base : ACalls Try.prog 3 [a, b, I at_] [] fun r _ => r = Bo true := by
    have ha' := ha
    have hb' := hb
    obtain ⟨⟨nl, c, sz, rfl, hs⟩, hlen, hx⟩ := ha
    obtain ⟨⟨nl', c', sz', rfl, hs'⟩, hlen', hx'⟩ := hb
    have hns : nl = true ∨ sz = 1 := by cases nl <;> simp [hs.2]
    have hns' : nl' = true ∨ sz' = 1 := by cases nl' <;> simp [hs'.2]
    apply BoxOnes_call
    refine AWp.seq (AWp.ops ?_)
    simp
    refine AWp.seq (AWp.ops ?_)
    simp
    refine live_spec.mono ?_
    rintro r H' ⟨rfl, rfl⟩
    refine AWp.seq (AWp.seq (AWp.ops ?_))
    by_cases h4 : (4 : Int) ≤ xs.length
    · simp [h4]
      refine AWp.cond (b := true) (by simp) (fun _ => ?_) (fun h => by cases h)
      refine AWp.seq (AWp.ops ?_)
      simp
      refine AWp.ret ?_
      simp
      exact retOk.of rfl rfl
    simp [h4]
    refine AWp.cond (b := (cs.length : Int) != xs.length) (by simp) ?_ ?_
    · intro _
      refine AWp.seq (AWp.ops ?_)
      simp
      refine AWp.ret ?_
      simp
      exact retOk.of rfl rfl
    intro hl
    have hl : cs.length = xs.length := by
      have : (cs.length : Int) = xs.length := by simpa using hl
      omega
    refine AWp.skip ?_
    simp only [qSeq]
    have hl4 : xs.length ≤ 3 := by omega
    have t1 := Int.tmod_lt_of_pos at_ (b := (xs.length : Int) + 1) (by omega)
    have t2 := Int.lt_tmod_of_pos at_ (b := (xs.length : Int) + 1) (by omega)
    have m0 : ¬ (xs.length : Int) + 1 = 0 := by omega
    have w1 := wrap_i64 (n := (xs.length : Int) + 1) (by omega) (by omega)
    have w2 := wrap_i64 (n := at_.tmod ((xs.length : Int) + 1) + xs.length) (by omega) (by omega)
    have w3 := wrap_i64 (n := at_.tmod ((xs.length : Int) + 1) + xs.length + 1) (by omega) (by omega)
    obtain ⟨k, hk, hkl⟩ : ∃ k : Nat, (at_.tmod ((xs.length : Int) + 1) + xs.length + 1).tmod ((xs.length : Int) + 1) = k ∧ k ≤ xs.length := by
      rw [Int.tmod_eq_emod_of_nonneg (by omega)]
      have u1 := Int.emod_nonneg (at_.tmod ((xs.length : Int) + 1) + xs.length + 1) m0
      have u2 := Int.emod_lt_of_pos (at_.tmod ((xs.length : Int) + 1) + xs.length + 1) (b := (xs.length : Int) + 1) (by omega)
      exact ⟨_, (Int.toNat_of_nonneg u1).symm, by omega⟩
    refine AWp.seq (AWp.ops ?_)
    simp [w1, m0, w2, w3, hk]
    obtain ⟨Pre, hPre⟩ : ∃ P, P = xs.take k := ⟨_, rfl⟩
    obtain ⟨Suf, hSuf⟩ : ∃ S, S = xs.drop k := ⟨_, rfl⟩
    have e1 : (if (k : Int) = xs.length then xs.map I else (xs.map I).take k) = Pre.map I := by
      rw [hPre]
      split
      · rw [List.take_of_length_le (by omega)]
      · rw [List.map_take]
    have e2 : (if k = 0 then xs.map I else ((xs.map I).drop k).take (xs.length - k)) = Suf.map I := by
      rw [hSuf]
      split
      · rename_i h; subst h; simp
      · rw [List.map_drop, List.take_of_length_le (by simp)]
    obtain ⟨More, hMore⟩ : ∃ M, M = Pre ++ 1 :: Suf := ⟨_, rfl⟩
    have hPl : Pre.length ≤ 3 := by rw [hPre]; simp; omega
    have hSl : Suf.length ≤ 3 := by rw [hSuf]; simp; omega
    refine AWp.cut [AV.imm nl c sz (xs.map I), AV.imm nl' c' sz' (cs.map I), I k, .und, .und, .und, Bo false, Bo true, AV.imm false none 1 (More.map I), .und, .und, .und, .und, .und, .und, .und, .und, .und, .und, .und, .und, .und, .und, .und, .und, .und, .und, .und, .und, .und, .und, .und, .und, .und, .und, .und, .und, .und, .und, .und, .und, .und, .und, .und, .und, .und, .und, .und, .und, .und, .und, .und, .und, .und, .und, .und, .und, .und, .und, .und, .und, .und, .und, .und, .und, .und, .und, .und, .und, .und, .und, .und, .und, .und, .und, .und, .und, .und, .und, .und, .und, .und, .und, .und, .und, .und, .und, .und, .und, .und, .und, .und, .und, .und, .und, .und, .und, .und, .und, .und, .und, .und, .und, .und, .und, .und, .und, .und, .und, .und, .und, .und, .und, .und, .und, .und, .und, .und, .und, .und, .und, .und, .und, .und, .und, .und, .und, .und, .und, .und, .und, .und, .und, .und, .und, .und, .und, .und, .und, .und, .und, .und, .und, .und] [] ?_ ?_
    · refine AWp.par ?_
      have d1 : (k : Int) ≤ xs.length := by omega
      have f1 : Pre.length * 8 ≤ 140737488355328 ∧ Pre.length ≤ 9223372036854775807 := by omega
      have f2 : (Pre.length + 1) * 8 ≤ 140737488355328 ∧ Pre.length ≤ 9223372036854775806 := by omega
      have f3 : (Pre.length + 1 + Suf.length) * 8 ≤ 140737488355328 ∧ Pre.length + 1 + Suf.length ≤ 9223372036854775807 := by omega
      have f4 : (1 + Suf.length) * 8 ≤ 140737488355328 ∧ 1 + Suf.length ≤ 9223372036854775807 := by omega
      have l1 : Pre.length + (Suf.length + 1) = Pre.length + 1 + Suf.length := by omega
      have l2 : Suf.length + 1 = 1 + Suf.length := by omega
      by_cases hP : Pre = [] <;> by_cases hS : Suf = []
      · subst hP hS
        simp [hns, d1, e1, e2, elems_imm hns]
        exact ((Weak.freeze 0 8 (by simp)).trans (Weak.slots [0, 1, 2, 6, 7, 8])).to (by simp [hMore]) (by simp [frzH])
      · subst hP
        simp [hns, d1, e1, e2, elems_imm hns, hS, f4]
        exact ((Weak.freeze 0 8 (by simp)).trans (Weak.slots [0, 1, 2, 6, 7, 8])).to (by simp [l2, hMore]) (by simp [frzH])
      · subst hS
        simp [hns, d1, e1, e2, elems_imm hns, hP, f1, f2]
        exact ((Weak.freeze 0 8 (by simp)).trans (Weak.slots [0, 1, 2, 6, 7, 8])).to (by simp [hMore]) (by simp [frzH])
      · simp [hns, d1, e1, e2, elems_imm hns, hP, hS, f1, f2, f3]
        exact ((Weak.freeze 0 8 (by simp)).trans (Weak.slots [0, 1, 2, 6, 7, 8])).to (by simp [l1, hMore]) (by simp [frzH])
    obtain ⟨Pre', hPre'⟩ : ∃ P, P = cs.take k := ⟨_, rfl⟩
    obtain ⟨Suf', hSuf'⟩ : ∃ S, S = cs.drop k := ⟨_, rfl⟩
    have e1' : (if (k : Int) = cs.length then cs.map I else (cs.map I).take k) = Pre'.map I := by
      rw [hPre']
      split
      · rw [List.take_of_length_le (by omega)]
      · rw [List.map_take]
    have e2' : (if k = 0 then cs.map I else ((cs.map I).drop k).take (cs.length - k)) = Suf'.map I := by
      rw [hSuf']
      split
      · rename_i h; subst h; simp
      · rw [List.map_drop, List.take_of_length_le (by simp)]
    obtain ⟨Place, hPlace⟩ : ∃ M, M = Pre' ++ 0 :: Suf' := ⟨_, rfl⟩
    have hPl' : Pre'.length ≤ 3 := by rw [hPre']; simp; omega
    have hSl' : Suf'.length ≤ 3 := by rw [hSuf']; simp; omega
    refine AWp.cut [AV.imm nl c sz (xs.map I), AV.imm nl' c' sz' (cs.map I), I k, .und, .und, .und, Bo false, Bo true, AV.imm false none 1 (More.map I), AV.imm false none 1 (Place.map I), .und, .und, .und, .und, .und, .und, .und, .und, .und, .und, .und, .und, .und, .und, .und, .und, .und, .und, .und, .und, .und, .und, .und, .und, .und, .und, .und, .und, .und, .und, .und, .und, .und, .und, .und, .und, .und, .und, .und, .und, .und, .und, .und, .und, .und, .und, .und, .und, .und, .und, .und, .und, .und, .und, .und, .und, .und, .und, .und, .und, .und, .und, .und, .und, .und, .und, .und, .und, .und, .und, .und, .und, .und, .und, .und, .und, .und, .und, .und, .und, .und, .und, .und, .und, .und, .und, .und, .und, .und, .und, .und, .und, .und, .und, .und, .und, .und, .und, .und, .und, .und, .und, .und, .und, .und, .und, .und, .und, .und, .und, .und, .und, .und, .und, .und, .und, .und, .und, .und, .und, .und, .und, .und, .und, .und, .und, .und, .und, .und, .und, .und, .und, .und, .und] [] ?_ ?_
    · refine AWp.par ?_
      have d1 : (k : Int) ≤ cs.length := by omega
      have f1 : Pre'.length * 8 ≤ 140737488355328 ∧ Pre'.length ≤ 9223372036854775807 := by omega
      have f2 : (Pre'.length + 1) * 8 ≤ 140737488355328 ∧ Pre'.length ≤ 9223372036854775806 := by omega
      have f3 : (Pre'.length + 1 + Suf'.length) * 8 ≤ 140737488355328 ∧ Pre'.length + 1 + Suf'.length ≤ 9223372036854775807 := by omega
      have f4 : (1 + Suf'.length) * 8 ≤ 140737488355328 ∧ 1 + Suf'.length ≤ 9223372036854775807 := by omega
      have l1 : Pre'.length + (Suf'.length + 1) = Pre'.length + 1 + Suf'.length := by omega
      have l2 : Suf'.length + 1 = 1 + Suf'.length := by omega
      by_cases hP : Pre' = [] <;> by_cases hS : Suf' = []
      · subst hP hS
        simp [hns', d1, e1', e2', elems_imm hns']
        exact ((Weak.freeze 0 8 (by simp)).trans (Weak.slots [0, 1, 2, 6, 7, 8, 9])).to (by simp [hPlace]) (by simp [frzH])
      · subst hP
        simp [hns', d1, e1', e2', elems_imm hns', hS, f4]
        exact ((Weak.freeze 0 8 (by simp)).trans (Weak.slots [0, 1, 2, 6, 7, 8, 9])).to (by simp [l2, hPlace]) (by simp [frzH])
      · subst hS
        simp [hns', d1, e1', e2', elems_imm hns', hP, f1, f2]
        exact ((Weak.freeze 0 8 (by simp)).trans (Weak.slots [0, 1, 2, 6, 7, 8, 9])).to (by simp [hPlace]) (by simp [frzH])
      · simp [hns', d1, e1', e2', elems_imm hns', hP, hS, f1, f2, f3]
        exact ((Weak.freeze 0 8 (by simp)).trans (Weak.slots [0, 1, 2, 6, 7, 8, 9])).to (by simp [l1, hPlace]) (by simp [frzH])
    have hmore : ISl (AV.imm false none 1 (More.map I)) More := by
      refine ISl.of _ (by rw [hMore]; simp; omega) ?_
      intro x hm
      rw [hMore] at hm
      rw [hPre, hSuf] at hm
      simp at hm
      rcases hm with h | rfl | h
      · exact hx x (List.mem_of_mem_take h)
      · omega
      · exact hx x (List.mem_of_mem_drop h)
    have hplace : ISl (AV.imm false none 1 (Place.map I)) Place := by
      refine ISl.of _ (by rw [hPlace]; simp; omega) ?_
      intro x hm
      rw [hPlace] at hm
      rw [hPre', hSuf'] at hm
      simp at hm
      rcases hm with h | rfl | h
      · exact hx' x (List.mem_of_mem_take h)
      · omega
      · exact hx' x (List.mem_of_mem_drop h)
    refine AWp.seq (AWp.ops ?_)
    simp
    refine (Cells_spec ha').mono ?_
    rintro r H' ⟨rfl, rfl⟩
    simp
    refine AWp.seq (AWp.ops ?_)
    simp
    refine (Cells_spec hmore).mono ?_
    rintro r H' ⟨rfl, rfl⟩
    simp
    refine AWp.seq (AWp.ops ?_)
    simp
    refine (At_spec ha' hb').mono ?_
    rintro r H' ⟨rfl, rfl⟩
    simp
    refine AWp.seq (AWp.ops ?_)
    simp
    refine (At_spec hmore hplace).mono ?_
    rintro r H' ⟨rfl, rfl⟩
    simp
    obtain ⟨rev, hrev⟩ : ∃ r : AV, r = if xs = [] then .imm true none 0 [] else .imm false none 1 (xs.reverse.map I) := ⟨_, rfl⟩
    have hrevI : ISl rev xs.reverse := by
      rw [hrev]
      split
      · rename_i h; subst h; exact ISl.nil
      · exact ISl.of _ (by simp; omega) (fun x h => hx x (by simpa using h))
    refine AWp.cut2 [.und, .und, .und, .und, .und, .und, .und, Bo true, .und, .und, I (cells xs).1, I (cells xs).2, I (cells More).1, I (cells More).2, I (atF xs cs).1, I (atF xs cs).2, I (atF More Place).1, I (atF More Place).2, rev, .und, .und, .und, .und, .und, .und, .und, .und, .und, .und, .und, .und, .und, .und, .und, .und, .und, .und, .und, .und, .und, .und, .und, .und, .und, .und, .und, .und, .und, .und, .und, .und, .und, .und, .und, .und, .und, .und, .und, .und, .und, .und, .und, .und, .und, .und, .und, .und, .und, .und, .und, .und, .und, .und, .und, .und, .und, .und, .und, .und, .und, .und, .und, .und, .und, .und, .und, .und, .und, .und, .und, .und, .und, .und, .und, .und, .und, .und, .und, .und, .und, .und, .und, .und, .und, .und, .und, .und, .und, .und, .und, .und, .und, .und, .und, .und, .und, .und, .und, .und, .und, .und, .und, .und, .und, .und, .und, .und, .und, .und, .und, .und, .und, .und, .und, .und, .und, .und, .und, .und, .und, .und, .und, .und, .und] [] ?_ ?_
    · refine AWp.ops ?_
      by_cases hx0 : xs = []
      · subst hx0
        simp [elems_imm hns]
        refine AWp.seq (AWp.ops ?_)
        simp
        refine AWp.block (AWp.loop (fun (_ : Unit) f h => f = _ ∧ h = []) (fun _ => 0) () (Weak.refl _ _ _) ⟨rfl, rfl⟩ ?_)
        rintro _ fr H ⟨rfl, rfl⟩
        refine AWp.seq (AWp.ops ?_)
        simp
        refine AWp.seq (AWp.cond (b := false) (by simp) (fun h => by cases h) (fun _ => ?_))
        refine AWp.exit ?_
        simp [qSeq, qBlock]
        exact (Weak.slots [7, 10, 11, 12, 13, 14, 15, 16, 17, 18]).to (by simp [hrev]) rfl
      · have f1 : xs.length * 8 ≤ 140737488355328 ∧ xs.length ≤ 9223372036854775807 := by omega
        have hnl : nl = false := by
          cases nl with
          | false => rfl
          | true => exact absurd (hs.1 rfl) hx0
        have hsz := hs.2 hnl
        subst hnl hsz
        simp [hx0, f1]
        rw [if_neg hx0] at hrev
        refine AWp.seq (AWp.ops ?_)
        simp
        obtain ⟨J, hJ⟩ : ∃ J : Nat → List AV → List AObj → Prop, J = fun i fr H => i ≤ xs.length ∧ (∃ es : List Int, es = xs.reverse.take i ++ xs.drop i ∧ H = [⟨3, 1, es.map I, true, none⟩]) ∧
          fr = [AV.imm false c 1 (xs.map I), .und, .und, .und, .und, .und, .und, Bo true, .und, .und, I (cells xs).1, I (cells xs).2, I (cells More).1, I (cells More).2, I (atF xs cs).1, I (atF xs cs).2, I (atF More Place).1, I (atF More Place).2, AV.slc 0 xs.length 0 xs.length none, .und, .und, .und, .und, .und, .und, .und, .und, .und, .und, .und, .und, .und, .und, .und, .und, .und, .und, .und, .und, .und, .und, .und, .und, .und, .und, .und, .und, .und, .und, .und, .und, .und, .und, .und, .und, .und, .und, .und, .und, .und, .und, .und, .und, .und, .und, .und, .und, .und, .und, .und, .und, .und, .und, .und, .und, .und, .und, .und, .und, .und, .und, .und, .und, .und, .und, .und, .und, .und, .und, .und, .und, AV.slc 0 xs.length 0 xs.length none, I xs.length, I i, .und, .und, .und, .und, .und, .und, .und, .und, .und, .und, .und, .und, .und, .und, .und, .und, .und, .und, .und, .und, .und, .und, .und, .und, .und, .und, .und, .und, .und, .und, .und, .und, .und, .und, .und, .und, .und, .und, .und, .und, .und, .und, .und, .und, .und, .und, .und, .und, .und, .und] := ⟨_, rfl⟩
        refine AWp.block (AWp.loop J (fun i => xs.length - i) 0 (Weak.slots [0, 7, 10, 11, 12, 13, 14, 15, 16, 17, 18, 91, 92, 93]) (by rw [hJ]; exact ⟨by omega, ⟨xs, by simp, rfl⟩, by simp⟩) ?_)
        intro i fr H hI
        rw [hJ] at hI
        obtain ⟨hi, ⟨es, hes, rfl⟩, rfl⟩ := hI
        have hel : es.length = xs.length := by rw [hes]; simp; omega
        refine AWp.seq (AWp.ops ?_)
        simp
        refine AWp.seq (AWp.cond (b := decide (i < xs.length)) (by simp) ?_ ?_)
        · intro hb
          have hb : i < xs.length := by simpa using hb
          refine AWp.skip ?_
          simp only [qSeq]
          refine AWp.seq (AWp.block (AWp.seq (AWp.ops ?_)))
          simp
          refine AWp.ops ?_
          have q1 := wrap_i64 (n := (xs.length : Int) - 1) (by omega) (by omega)
          obtain ⟨j, hj, hj'⟩ : ∃ j : Nat, (xs.length : Int) - 1 - i = j ∧ j < xs.length := ⟨xs.length - 1 - i, by omega, by omega⟩
          have q3 := wrap_i64 (n := (j : Int)) (by omega) (by omega)
          simp [q1, q3, hj, hj', hb, hel]
          refine AWp.ops ?_
          simp
          refine ⟨i + 1, _, _, Weak.slots [0, 7, 10, 11, 12, 13, 14, 15, 16, 17, 18, 91, 92, 93], ?_, by omega⟩
          rw [hJ]
          refine ⟨by omega, ⟨es.set i xs[j], ?_, by simp [List.map_set]⟩, ?_⟩
          · have hji : j = xs.length - 1 - i := by omega
            have hir : i < xs.reverse.length := by simp; omega
            rw [hes, List.take_succ_eq_append_getElem hir, List.drop_eq_getElem_cons hb]
            rw [List.set_append_right _ _ (by simp; omega)]
            have hz : i - min i xs.length = 0 := by omega
            simp [hji, hz]
            rw [List.drop_eq_getElem_cons hb]
            rfl
          · simp [wrap_i64 (n := (i : Int) + 1) (by omega) (by omega)]
        · intro hb
          have hb : ¬ i < xs.length := by simpa using hb
          refine AWp.exit ?_
          simp [qSeq, qBlock]
          have hil : i = xs.length := by omega
          subst hil
          have hes' : es = xs.reverse := by rw [hes, List.take_of_length_le (by simp)]; simp
          subst hes'
          exact ((Weak.freeze 0 8 (by simp)).trans (Weak.slots [7, 10, 11, 12, 13, 14, 15, 16, 17, 18])).to (by simp [hrev]) (by simp [frzH])
    have hcat : Pre ++ Suf = xs := by rw [hPre, hSuf, List.take_append_drop]
    have hcat' : Pre' ++ Suf' = cs := by rw [hPre', hSuf', List.take_append_drop]
    have g1 : cells More = cells xs := by rw [hMore, cells_one (by rw [hcat]; exact hl4), hcat]
    have g2 : atF More Place = atF xs cs := by rw [hMore, hPlace, atF_one (by rw [hcat]; exact hl4) (by rw [hPre, hPre']; simp; omega), hcat, hcat']
    have g3 := cells_reverse xs
    rw [g1, g2]
    refine AWp.seq (AWp.ops ?_)
    simp
    refine (Cells_spec hrevI).mono ?_
    rintro r H' ⟨rfl, rfl⟩
    rw [g3]
    simp
    refine AWp.seq (AWp.ops ?_)
    simp
    refine AWp.ret ?_
    simp
    exact retOk.of rfl rfl
  refine (base.frozen 1).mono ?_
  rintro q H' ⟨rfl, r, G, rfl, rfl⟩
  exact ⟨rfl, rfl⟩
end Go.Fw
