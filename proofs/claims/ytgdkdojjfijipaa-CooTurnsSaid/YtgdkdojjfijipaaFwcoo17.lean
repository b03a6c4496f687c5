import Derived.Test.YtgdkdojjfijipaaFwX
import Derived.Test.YtgdkdojjfijipaaFwcoo9
import Derived.Test.YtgdkdojjfijipaaFwref02d
import Derived.Test.YtgdkdojjfijipaaFwinj1
import Derived.Test.YtgdkdojjfijipaaFwcoo15
import Derived.Test.YtgdkdojjfijipaaFwadd0
import Derived.Test.YtgdkdojjfijipaaFwlaw02a
import Derived.Test.YtgdkdojjfijipaaFwrowo1
namespace Go.Fw
open Go
theorem mode_at {x : Int} {L : Nat} (hL : 0 < L) (hL2 : L ≤ 1000000) : ∃ m : Nat, m < L ∧ (IntKind.i64.wrap (x.tmod L + L)).tmod L = (m : Int) := by
  have h1 : x.tmod L < L := Int.tmod_lt_of_pos _ (by omega)
  have h2 : -(L : Int) < x.tmod L := by
    have := Int.tmod_lt_of_pos (-x) (b := (L : Int)) (by omega)
    rw [Int.neg_tmod] at this
    omega
  rw [wrap_i64 (by omega) (by omega), Int.tmod_eq_emod_of_nonneg (by omega)]
  exact ⟨((x.tmod L + L) % L).toNat, by have := Int.emod_lt_of_pos (x.tmod L + L) (b := (L : Int)) (by omega); have := Int.emod_nonneg (x.tmod L + L) (b := (L : Int)) (by omega); omega, by have := Int.emod_nonneg (x.tmod L + L) (b := (L : Int)) (by omega); omega⟩
theorem mode_at1 {x : Int} {L : Nat} (hL2 : L ≤ 1000000) : ∃ m : Nat, m ≤ L ∧ (IntKind.i64.wrap (IntKind.i64.wrap (x.tmod ((L : Int) + 1) + L) + 1)).tmod ((L : Int) + 1) = (m : Int) := by
  have h1 : x.tmod ((L : Int) + 1) < (L : Int) + 1 := Int.tmod_lt_of_pos _ (by omega)
  have h2 : -((L : Int) + 1) < x.tmod ((L : Int) + 1) := by
    have := Int.tmod_lt_of_pos (-x) (b := (L : Int) + 1) (by omega)
    rw [Int.neg_tmod] at this
    omega
  rw [wrap_i64 (n := x.tmod ((L : Int) + 1) + L) (by omega) (by omega), wrap_i64 (by omega) (by omega), Int.tmod_eq_emod_of_nonneg (by omega)]
  have h3 := Int.emod_lt_of_pos (x.tmod ((L : Int) + 1) + L + 1) (b := (L : Int) + 1) (by omega)
  have h4 := Int.emod_nonneg (x.tmod ((L : Int) + 1) + L + 1) (b := (L : Int) + 1) (by omega)
  exact ⟨((x.tmod ((L : Int) + 1) + L + 1) % ((L : Int) + 1)).toNat, by omega, by omega⟩
end Go.Fw
namespace Go.Fw
open Go Go.RowKit Go.Proofs
set_option maxRecDepth 100000
set_option linter.unusedSimpArgs false
set_option linter.unusedVariables false

theorem cooCheck_part {S : List Int} {E E' : List (List Int × Int)} (h : cooCheck S E = 0) (hl : E'.length ≤ E.length) (hs : ∀ x ∈ E', x ∈ E) : cooCheck S E' = 0 := by
  unfold cooCheck at h ⊢
  split at h
  · rename_i h1; exact absurd h h1
  rename_i h1
  rw [if_neg h1]
  split at h
  · cases h
  rename_i h2
  rw [if_neg (by omega)]
  split at h
  · cases h
  rename_i h3
  rw [if_neg]
  intro h4
  apply h3
  rw [List.any_eq_true] at h4 ⊢
  obtain ⟨x, hx, h5⟩ := h4
  exact ⟨x, hs x hx, h5⟩
theorem cntAt_app (m : Nat) (E D : List (List Int × Int)) (i : Int) : cntAt m (E ++ D) i = cntAt m E i + cntAt m D i := by
  simp [cntAt, List.filter_append]
theorem cnt_all {n m : Nat} : ∀ {E : List (List Int × Int)}, (∀ t ∈ E, ∃ k : Nat, k < n ∧ t.1.getD m 0 = k) → ((List.range n).map fun (i : Nat) => cntAt m E (i : Int)).sum = E.length
  | [], _ => by
    have : ((List.range n).map fun (i : Nat) => cntAt m [] (i : Int)) = List.replicate n 0 := by
      apply List.ext_getElem (by simp)
      intro i h1 h2
      simp [cntAt]
    rw [this]; simp
  | t :: E, h => by
    obtain ⟨k, hk, hk2⟩ := h t (by simp)
    have ih := cnt_all (n := n) (m := m) (E := E) fun u hu => h u (by simp [hu])
    have e : ((List.range n).map fun (i : Nat) => cntAt m (t :: E) (i : Int)) = ((List.range n).map fun (i : Nat) => cntAt m E (i : Int)).zipWith (· + ·) ((List.range n).map fun (i : Nat) => if i = k then 1 else 0) := by
      apply List.ext_getElem (by simp)
      intro i h1 h2
      simp only [List.getElem_map, List.getElem_range, List.getElem_zipWith]
      rw [show t :: E = [t] ++ E from rfl, cntAt_app, Nat.add_comm]
      congr 1
      simp only [cntAt]
      by_cases e : i = k
      · subst e
        rw [if_pos rfl, List.filter_cons_of_pos (by simpa using hk2)]; rfl
      · rw [if_neg e, List.filter_cons_of_neg (by rw [hk2]; simp; omega)]; rfl
    have hz : ∀ (a b : List Nat), a.length = b.length → (a.zipWith (· + ·) b).sum = a.sum + b.sum := by
      intro a
      induction a with
      | nil => intro b hb; have : b = [] := List.length_eq_zero_iff.1 (by simpa using hb.symm); subst this; rfl
      | cons x a ih => intro b hb; cases b with
        | nil => simp at hb
        | cons y b => simp [ih b (by simpa using hb)]; omega
    have h1 : ∀ n, k < n → ((List.range n).map fun (i : Nat) => if i = k then 1 else 0).sum = 1 := by
      intro n
      induction n with
      | zero => intro h; omega
      | succ n ihn =>
        intro h
        rw [List.range_succ, List.map_append, List.sum_append]
        by_cases e : k = n
        · subst e
          have : ((List.range k).map fun (i : Nat) => if i = k then 1 else 0) = List.replicate k 0 := by
            apply List.ext_getElem (by simp)
            intro i h1 h2
            simp at h1
            simp; omega
          rw [this]; simp
        · rw [ihn (by omega)]
          simp; omega
    rw [e, hz _ _ (by simp), ih, h1 n hk]
    simp
theorem sum_take {l : List Nat} {i : Nat} (h : i < l.length) : (l.take (i + 1)).sum = (l.take i).sum + l[i] := by
  rw [List.take_succ_eq_append_getElem h, List.sum_append]; simp

def CooCounts_27 : AC := (.seq (.ops [⟨(some 152), none, (.k (.mov (.t 7)))⟩, ⟨(some 153), none, (.k (.mov (.t 152)))⟩, ⟨(some 154), (some (153, true)), (.k (.mov (.t 14)))⟩, ⟨(some 155), (some (153, true)), (.k (.fad 1 (.t 3)))⟩, ⟨(some 156), (some (153, true)), (.k (.ld 1 false (.t 155)))⟩, ⟨(some 157), (some (153, true)), (.k (.len (.t 156)))⟩, ⟨(some 158), (some (153, true)), (.k (.bin .eql (.t 154) (.t 157)))⟩, ⟨(some 159), none, (.k (.pick (.t 153) (.t 158) (.c (.sc (.bool false)))))⟩, ⟨(some 6), none, (.k (.mov (.t 159)))⟩]) .ret)
def CooCounts_26 : AC := (.seq (.ops [⟨(some 137), none, (.k (.mov (.t 16)))⟩, ⟨(some 138), none, (.k (.mov (.t 10)))⟩, ⟨(some 139), none, (.k (.mov (.t 15)))⟩, ⟨(some 140), none, (.k (.iad 1 (.t 138) (.t 139)))⟩, ⟨(some 141), none, (.k (.ld 1 false (.t 140)))⟩, ⟨(some 142), none, (.k (.mov (.t 12)))⟩, ⟨(some 143), none, (.k (.mov (.t 15)))⟩, ⟨(some 144), none, (.k (.iad 1 (.t 142) (.t 143)))⟩, ⟨(some 145), none, (.k (.ld 1 false (.t 144)))⟩, ⟨(some 146), none, (.k (.bin .add (.t 141) (.t 145)))⟩, ⟨(some 147), none, (.k (.bin .neq (.t 137) (.t 146)))⟩]) (.cond (.t 147) (.seq (.ops [⟨(some 6), none, (.k (.mov (.c (.sc (.bool false)))))⟩]) .ret) .skip))
def CooCounts_25 : AC := (.seq CooCounts_26 (.ops [⟨(some 148), none, (.k (.mov (.t 14)))⟩, ⟨(some 149), none, (.k (.mov (.t 16)))⟩, ⟨(some 150), none, (.k (.bin .add (.t 148) (.t 149)))⟩, ⟨(some 14), none, (.k (.mov (.t 150)))⟩]))
def CooCounts_24 : AC := (.seq (.ops [⟨(some 134), none, (.k (.mov (.t 132)))⟩, ⟨(some 135), none, (.k (.iad 1 (.t 130) (.t 132)))⟩, ⟨(some 136), none, (.k (.ld 1 false (.t 135)))⟩, ⟨(some 15), none, (.k (.mov (.t 134)))⟩, ⟨(some 16), none, (.k (.mov (.t 136)))⟩]) CooCounts_25)
def CooCounts_23 : AC := (.block 1 CooCounts_24)
def CooCounts_22 : AC := (.seq CooCounts_23 (.ops [⟨(some 151), none, (.k (.bin .add (.t 132) (.c (.sc (.int .i64 1)))))⟩, ⟨(some 132), none, (.k (.mov (.t 151)))⟩]))
def CooCounts_21 : AC := (.seq (.cond (.t 133) .skip (.exit 0)) CooCounts_22)
def CooCounts_20 : AC := (.seq (.ops [⟨(some 133), none, (.k (.bin .lss (.t 132) (.t 131)))⟩]) CooCounts_21)
def CooCounts_19 : AC := (.loop CooCounts_20)
def CooCounts_18 : AC := (.block 0 CooCounts_19)
def CooCounts_17 : AC := (.seq (.ops [⟨(some 130), none, (.k (.mov (.t 8)))⟩, ⟨(some 131), none, (.k (.len (.t 130)))⟩, ⟨(some 132), none, (.k (.mov (.c (.sc (.int .i64 0)))))⟩]) CooCounts_18)
def CooCounts_16 : AC := (.seq CooCounts_17 CooCounts_27)
def CooCounts_15 : AC := (.seq (.ops [⟨(some 14), none, (.k (.mov (.c (.sc (.int .i64 0)))))⟩]) CooCounts_16)
def CooCounts_14 : AC := (.seq (.ops [⟨(some 100), none, (.k (.mov (.t 11)))⟩, ⟨(some 101), none, (.k (.bin .neq (.t 100) (.c (.sc (.int .i64 0)))))⟩, ⟨(some 102), none, (.k (.mov (.t 101)))⟩, ⟨(some 103), (some (102, false)), (.k (.mov (.t 13)))⟩, ⟨(some 104), (some (102, false)), (.k (.bin .neq (.t 103) (.c (.sc (.int .i64 0)))))⟩, ⟨(some 105), none, (.k (.pick (.t 102) (.c (.sc (.bool true))) (.t 104)))⟩, ⟨(some 106), none, (.k (.mov (.t 105)))⟩, ⟨(some 107), (some (106, false)), (.k (.mov (.t 8)))⟩, ⟨(some 108), (some (106, false)), (.k (.len (.t 107)))⟩, ⟨(some 109), (some (106, false)), (.k (.fad 0 (.t 3)))⟩, ⟨(some 110), (some (106, false)), (.k (.ld 1 false (.t 109)))⟩, ⟨(some 111), (some (106, false)), (.k (.mov (.t 2)))⟩, ⟨(some 112), (some (106, false)), (.k (.iad 1 (.t 110) (.t 111)))⟩, ⟨(some 113), (some (106, false)), (.k (.ld 1 false (.t 112)))⟩, ⟨(some 114), (some (106, false)), (.k (.bin .neq (.t 108) (.t 113)))⟩, ⟨(some 115), none, (.k (.pick (.t 106) (.c (.sc (.bool true))) (.t 114)))⟩, ⟨(some 116), none, (.k (.mov (.t 115)))⟩, ⟨(some 117), (some (116, false)), (.k (.mov (.t 10)))⟩, ⟨(some 118), (some (116, false)), (.k (.len (.t 117)))⟩, ⟨(some 119), (some (116, false)), (.k (.mov (.t 8)))⟩, ⟨(some 120), (some (116, false)), (.k (.len (.t 119)))⟩, ⟨(some 121), (some (116, false)), (.k (.bin .neq (.t 118) (.t 120)))⟩, ⟨(some 122), none, (.k (.pick (.t 116) (.c (.sc (.bool true))) (.t 121)))⟩, ⟨(some 123), none, (.k (.mov (.t 122)))⟩, ⟨(some 124), (some (123, false)), (.k (.mov (.t 12)))⟩, ⟨(some 125), (some (123, false)), (.k (.len (.t 124)))⟩, ⟨(some 126), (some (123, false)), (.k (.mov (.t 8)))⟩, ⟨(some 127), (some (123, false)), (.k (.len (.t 126)))⟩, ⟨(some 128), (some (123, false)), (.k (.bin .neq (.t 125) (.t 127)))⟩, ⟨(some 129), none, (.k (.pick (.t 123) (.c (.sc (.bool true))) (.t 128)))⟩]) (.cond (.t 129) (.seq (.ops [⟨(some 6), none, (.k (.mov (.c (.sc (.bool false)))))⟩]) .ret) .skip))
def CooCounts_13 : AC := (.seq CooCounts_14 CooCounts_15)
def CooCounts_12 : AC := (.seq (.ops [⟨(some 89), none, (.k (.fad 0 (.t 3)))⟩, ⟨(some 90), none, (.k (.ld 1 false (.t 89)))⟩, ⟨(some 91), none, (.k (.fad 1 (.t 3)))⟩, ⟨(some 92), none, (.k (.ld 1 false (.t 91)))⟩, ⟨(some 93), none, (.k (.mov (.t 1)))⟩, ⟨(some 94), none, (.k (.sl 2 (.t 92) (some (.t 93)) none none))⟩, ⟨(some 95), none, (.k (.mk [(.imm true none 0 []), (.imm true none 0 [])] [(0, (1, (.t 90))), (1, (1, (.t 94)))]))⟩, ⟨(some 96), none, (.k (.mov (.t 2)))⟩, ⟨(some 97), none, (.call true (.c (.fn (.func 14) [] [])) [(.t 95), (.t 96)])⟩, ⟨(some 88), none, (.k (.mov (.t 97)))⟩, ⟨(some 98), none, (.k (.ext (.t 88) 0))⟩, ⟨(some 99), none, (.k (.ext (.t 88) 1))⟩, ⟨(some 12), none, (.k (.mov (.t 98)))⟩, ⟨(some 13), none, (.k (.mov (.t 99)))⟩]) CooCounts_13)
def CooCounts_11 : AC := (.seq (.ops [⟨(some 77), none, (.k (.fad 0 (.t 3)))⟩, ⟨(some 78), none, (.k (.ld 1 false (.t 77)))⟩, ⟨(some 79), none, (.k (.fad 1 (.t 3)))⟩, ⟨(some 80), none, (.k (.ld 1 false (.t 79)))⟩, ⟨(some 81), none, (.k (.mov (.t 1)))⟩, ⟨(some 82), none, (.k (.sl 2 (.t 80) none (some (.t 81)) none))⟩, ⟨(some 83), none, (.k (.mk [(.imm true none 0 []), (.imm true none 0 [])] [(0, (1, (.t 78))), (1, (1, (.t 82)))]))⟩, ⟨(some 84), none, (.k (.mov (.t 2)))⟩, ⟨(some 85), none, (.call true (.c (.fn (.func 14) [] [])) [(.t 83), (.t 84)])⟩, ⟨(some 76), none, (.k (.mov (.t 85)))⟩, ⟨(some 86), none, (.k (.ext (.t 76) 0))⟩, ⟨(some 87), none, (.k (.ext (.t 76) 1))⟩, ⟨(some 10), none, (.k (.mov (.t 86)))⟩, ⟨(some 11), none, (.k (.mov (.t 87)))⟩]) CooCounts_12)
def CooCounts_10 : AC := (.seq (.ops [⟨(some 71), none, (.k (.mov (.t 7)))⟩, ⟨(some 72), none, (.k (.mov (.t 71)))⟩, ⟨(some 73), (some (72, true)), (.k (.mov (.t 9)))⟩, ⟨(some 74), (some (72, true)), (.k (.bin .eql (.t 73) (.c (.sc (.int .i64 2)))))⟩, ⟨(some 75), none, (.k (.pick (.t 72) (.t 74) (.c (.sc (.bool false)))))⟩, ⟨(some 6), none, (.k (.mov (.t 75)))⟩]) .ret)
def CooCounts_9 : AC := (.cond (.t 70) CooCounts_10 .skip)
def CooCounts_8 : AC := (.seq (.ops [⟨(some 69), none, (.k (.mov (.t 9)))⟩, ⟨(some 70), none, (.k (.bin .neq (.t 69) (.c (.sc (.int .i64 0)))))⟩]) CooCounts_9)
def CooCounts_7 : AC := (.seq CooCounts_8 CooCounts_11)
def CooCounts_6 : AC := (.seq (.ops [⟨(some 64), none, (.k (.ld 2 true (.t 3)))⟩, ⟨(some 65), none, (.k (.mov (.t 2)))⟩, ⟨(some 66), none, (.call false (.c (.fn (.func 14) [] [])) [(.t 64), (.t 65)])⟩, ⟨(some 63), none, (.k (.mov (.t 66)))⟩, ⟨(some 67), none, (.k (.ext (.t 63) 0))⟩, ⟨(some 68), none, (.k (.ext (.t 63) 1))⟩, ⟨(some 8), none, (.k (.mov (.t 67)))⟩, ⟨(some 9), none, (.k (.mov (.t 68)))⟩]) CooCounts_7)
def CooCounts_5 : AC := (.seq (.ops [⟨(some 47), none, (.k (.mov (.t 1)))⟩, ⟨(some 48), none, (.k (.fad 1 (.t 3)))⟩, ⟨(some 49), none, (.k (.ld 1 false (.t 48)))⟩, ⟨(some 50), none, (.k (.len (.t 49)))⟩, ⟨(some 51), none, (.k (.bin .add (.t 50) (.c (.sc (.int .i64 1)))))⟩, ⟨(some 52), none, (.k (.bin .rem (.t 47) (.t 51)))⟩, ⟨(some 53), none, (.k (.fad 1 (.t 3)))⟩, ⟨(some 54), none, (.k (.ld 1 false (.t 53)))⟩, ⟨(some 55), none, (.k (.len (.t 54)))⟩, ⟨(some 56), none, (.k (.bin .add (.t 52) (.t 55)))⟩, ⟨(some 57), none, (.k (.bin .add (.t 56) (.c (.sc (.int .i64 1)))))⟩, ⟨(some 58), none, (.k (.fad 1 (.t 3)))⟩, ⟨(some 59), none, (.k (.ld 1 false (.t 58)))⟩, ⟨(some 60), none, (.k (.len (.t 59)))⟩, ⟨(some 61), none, (.k (.bin .add (.t 60) (.c (.sc (.int .i64 1)))))⟩, ⟨(some 62), none, (.k (.bin .rem (.t 57) (.t 61)))⟩, ⟨(some 1), none, (.k (.mov (.t 62)))⟩]) CooCounts_6)
def CooCounts_4 : AC := (.seq (.ops [⟨(some 34), none, (.k (.mov (.t 2)))⟩, ⟨(some 35), none, (.k (.fad 0 (.t 3)))⟩, ⟨(some 36), none, (.k (.ld 1 false (.t 35)))⟩, ⟨(some 37), none, (.k (.len (.t 36)))⟩, ⟨(some 38), none, (.k (.bin .rem (.t 34) (.t 37)))⟩, ⟨(some 39), none, (.k (.fad 0 (.t 3)))⟩, ⟨(some 40), none, (.k (.ld 1 false (.t 39)))⟩, ⟨(some 41), none, (.k (.len (.t 40)))⟩, ⟨(some 42), none, (.k (.bin .add (.t 38) (.t 41)))⟩, ⟨(some 43), none, (.k (.fad 0 (.t 3)))⟩, ⟨(some 44), none, (.k (.ld 1 false (.t 43)))⟩, ⟨(some 45), none, (.k (.len (.t 44)))⟩, ⟨(some 46), none, (.k (.bin .rem (.t 42) (.t 45)))⟩, ⟨(some 2), none, (.k (.mov (.t 46)))⟩]) CooCounts_5)
def CooCounts_3 : AC := (.seq (.ops [⟨(some 18), none, (.k (.ld 2 true (.t 3)))⟩, ⟨(some 19), none, (.k (.lit 2 [(.t 18)]))⟩, ⟨(some 20), none, (.call false (.c (.fn (.func 12) [] [])) [(.t 19)])⟩, ⟨(some 21), none, (.k (.un .not (.t 20)))⟩, ⟨(some 22), none, (.k (.mov (.t 21)))⟩, ⟨(some 23), (some (22, false)), (.k (.ld 2 true (.t 3)))⟩, ⟨(some 24), (some (22, false)), (.call false (.c (.fn (.func 13) [] [])) [(.t 23)])⟩, ⟨(some 25), (some (22, false)), (.k (.bin .neq (.t 24) (.c (.sc (.int .i64 0)))))⟩, ⟨(some 26), none, (.k (.pick (.t 22) (.c (.sc (.bool true))) (.t 25)))⟩, ⟨(some 27), none, (.k (.mov (.t 26)))⟩, ⟨(some 28), (some (27, false)), (.k (.fad 0 (.t 3)))⟩, ⟨(some 29), (some (27, false)), (.k (.ld 1 false (.t 28)))⟩, ⟨(some 30), (some (27, false)), (.k (.len (.t 29)))⟩, ⟨(some 31), (some (27, false)), (.k (.bin .eql (.t 30) (.c (.sc (.int .i64 0)))))⟩, ⟨(some 32), none, (.k (.pick (.t 27) (.c (.sc (.bool true))) (.t 31)))⟩]) (.cond (.t 32) (.seq (.ops [⟨(some 33), none, (.k (.mov (.t 7)))⟩, ⟨(some 6), none, (.k (.mov (.t 33)))⟩]) .ret) .skip))
def CooCounts_2 : AC := (.seq CooCounts_3 CooCounts_4)
def CooCounts_1 : AC := (.seq (.ops [⟨(some 17), none, (.call false (.c (.fn (.func 11) [] [])) [])⟩, ⟨(some 7), none, (.k (.mov (.t 17)))⟩]) CooCounts_2)
def CooCounts_ac : AC := (.seq (.ops [⟨(some 3), none, (.k (.new 25 2 (.t 0)))⟩, ⟨(some 6), none, (.k (.mov (.c (.sc (.bool false)))))⟩]) CooCounts_1)
theorem CooCounts_call {args : List AV} {H : List AObj} {R : AV → List AObj → Prop} (h : AWp Try.prog [] H.length CooCounts_ac (bodyQ H.length [(.t 6)] R) (args ++ List.replicate (160 - args.length) .und) H) : ACalls Try.prog 3 args H R :=
  ACalls.of_fn Try.func3 rfl (by kernel_rfl) rfl Try.ntmps3 h

set_option maxHeartbeats 8000000 in
theorem CooCounts_spec {x : AV} {X : List Int × List (List Int × Int)} {k0 m0 : Int} (hx : Coo x X) (hXl : X.2.length ≤ 9223372036854775807) : ACalls Try.prog 3 [x, I k0, I m0] [] fun r H' => H' = [] ∧ r = Bo true := by
  have hx' := hx
  obtain ⟨S, E⟩ := X
  obtain ⟨s, e, rfl, hS, hE⟩ := hx
  simp only at hS hE hXl
  have hS' := hS
  have hE' := hE
  obtain ⟨⟨n1, c1, z1, rfl, hs1⟩, hl1, hx1⟩ := hS
  obtain ⟨n2, c2, z2, es, rfl, h21, h22, h23⟩ := hE
  have hel := h23.1
  have base : ACalls Try.prog 3 [.agg [.imm n1 c1 z1 (S.map I), .imm n2 c2 z2 es], I k0, I m0] [] fun r H' => r = Bo true := by
    apply CooCounts_call
    repeat first | refine AWp.seq ?_ | refine AWp.block ?_
    refine AWp.ops ?_
    simp
    repeat first | refine AWp.seq ?_ | refine AWp.block ?_
    refine AWp.ops ?_
    simp
    refine (live02_spec.pure (by simp) (by rintro r rfl; simp) _).mono ?_
    rintro r H' ⟨rfl, rfl⟩
    simp
    repeat first | refine AWp.seq ?_ | refine AWp.block ?_
    refine AWp.ops ?_
    simp
    have hf := few2_spec (nl := false) (c := some 1) (sz := 2) (zs := [(.agg [.imm n1 c1 z1 (S.map I), .imm n2 c2 z2 es], (S, E))]) (by simp; exact ⟨hx', hXl⟩) (by simp) (by simp) (by simp)
    simp only [List.map_cons, List.map_nil] at hf
    refine (hf.pure (by simp) (by rintro r rfl; simp) _).mono ?_
    rintro r H' ⟨rfl, rfl⟩
    simp only [List.all_cons, List.all_nil, Bool.and_true]
    cases hfew : fewX (S, E) with
    | false =>
      simp
      refine AWp.cond (b := true) (by simp) (fun _ => ?_) (fun h => by cases h)
      repeat first | refine AWp.seq ?_ | refine AWp.block ?_
      refine AWp.ops ?_
      simp
      refine AWp.ret ?_
      simp
      refine retOk.of rfl ?_
      simp
    | true =>
    simp only [fewX, Bool.and_eq_true, decide_eq_true_eq, List.all_eq_true] at hfew
    obtain ⟨hf1, hf2⟩ := hfew
    simp
    refine ((cCheck_spec hx').pure (by simp) (by rintro r rfl; simp) _).mono ?_
    rintro r H' ⟨rfl, rfl⟩
    by_cases hck : cooCheck S E = 0
    case neg =>
      simp [hck]
      refine AWp.cond (b := true) (by simp) (fun _ => ?_) (fun h => by cases h)
      repeat first | refine AWp.seq ?_ | refine AWp.block ?_
      refine AWp.ops ?_
      simp
      refine AWp.ret ?_
      simp
      refine retOk.of rfl ?_
      simp
    by_cases hS0 : S.length = 0
    · simp [hck, hS0]
      refine AWp.cond (b := true) (by simp) (fun _ => ?_) (fun h => by cases h)
      repeat first | refine AWp.seq ?_ | refine AWp.block ?_
      refine AWp.ops ?_
      simp
      refine AWp.ret ?_
      simp
      refine retOk.of rfl ?_
      simp
    simp [hck, hS0]
    refine AWp.cond (b := false) (by simp [hck, hS0]) (fun h => by cases h) (fun _ => ?_)
    obtain ⟨hS4, hE6, hcs⟩ := cooCheck_dims hck
    have hin := cooCheck_rng hck
    obtain ⟨m, hm, hm2⟩ := mode_at (x := m0) (L := S.length) (by omega) (by omega)
    obtain ⟨k, hk, hk2⟩ := mode_at1 (x := k0) (L := E.length) (by omega)
    have hsz1 := sz_of hs1 hm
    subst hsz1
    have g0 : ¬ (S.length : Int) = 0 := by omega
    have g1 : ¬ (es.length : Int) + 1 = 0 := by omega
    have w1 := wrap_i64 (n := (es.length : Int) + 1) (by omega) (by omega)
    rw [← hel] at hk2
    refine AWp.skip ?_
    simp only [qSeq]
    repeat first | refine AWp.seq ?_ | refine AWp.block ?_
    refine AWp.ops ?_
    simp [g0, hS0, hm2]
    repeat first | refine AWp.seq ?_ | refine AWp.block ?_
    refine AWp.ops ?_
    simp [g1, w1, hk2]
    repeat first | refine AWp.seq ?_ | refine AWp.block ?_
    refine AWp.ops ?_
    simp
    have hSm : S.getD m 0 = S[m] := by simp [hm]
    have cf : ∀ E', cooCheck S E' = 0 → countF (S, E') m = if S[m] > 65536 then ([], 2) else (countL S[m].toNat m E', 0) := fun E' h => by
      rw [countF, if_neg (by simpa using h), if_neg (by simp; omega)]
      simp only [Int.toNat_natCast, hSm]
    have cE := cCount_spec (mode := (m : Int)) hx'
    rw [cf E hck] at cE
    refine (cE.pure (by simp) (by rintro r ⟨y, rfl, ⟨⟨_, _, _, rfl, _⟩, _⟩⟩; simp) _).mono ?_
    by_cases hbig : S[m] > 65536
    · rw [if_pos hbig]
      rintro r H' ⟨rfl, q, rfl, hq⟩
      obtain ⟨⟨n5, c5, z5, rfl, hs5⟩, hl5, hx5⟩ := hq
      simp
      repeat first | refine AWp.seq ?_ | refine AWp.block ?_
      refine AWp.ops ?_
      simp
      refine AWp.cond (b := true) (by simp) (fun _ => ?_) (fun h => by cases h)
      repeat first | refine AWp.seq ?_ | refine AWp.block ?_
      refine AWp.ops ?_
      simp
      refine AWp.ret ?_
      simp
      refine retOk.of rfl ?_
      simp
    rw [if_neg hbig]
    rintro r H' ⟨rfl, q, rfl, hq⟩
    obtain ⟨⟨n5, c5, z5, rfl, hs5⟩, hl5, hx5⟩ := hq
    simp
    repeat first | refine AWp.seq ?_ | refine AWp.block ?_
    refine AWp.ops ?_
    simp
    refine AWp.cond (b := false) (by simp) (fun h => by cases h) (fun _ => ?_)
    refine AWp.skip ?_
    simp only [qSeq]
    have hkE : k ≤ es.length := by omega
    have b2 : (k : Int) ≤ es.length := by omega
    have hno : n2 = true ∨ z2 = 2 := by
      cases n2 with
      | true => exact .inl rfl
      | false => exact .inr (h22 rfl)
    have hck1 : cooCheck S (E.take k) = 0 := cooCheck_part hck (by simp; omega) fun x h => List.mem_of_mem_take h
    have hck2 : cooCheck S (E.drop k) = 0 := cooCheck_part hck (by simp) fun x h => List.mem_of_mem_drop h
    have e1 : (if (k : Int) = (es.length : Int) then es else es.take k) = es.take k := by
      split
      · rw [List.take_of_length_le (by omega)]
      · rfl
    have e2 : (if k = 0 then es else (es.drop k).take (es.length - k)) = es.drop k := by
      split
      · rename_i h; subst h; rfl
      · rw [List.take_of_length_le (by simp)]
    have e2' : (if k = 0 then es else es.drop k) = es.drop k := by
      split
      · rename_i h; subst h; rfl
      · rfl
    have coA : ∀ c, Coo (.agg [.imm n1 c1 1 (S.map I), .imm n2 c z2 (es.take k)]) (S, E.take k) := fun c => ⟨_, _, rfl, hS', n2, c, z2, _, rfl, fun h => by simp [h21 h], h22, h23.take k⟩
    have coB : ∀ c, Coo (.agg [.imm n1 c1 1 (S.map I), .imm n2 c z2 (es.drop k)]) (S, E.drop k) := fun c => ⟨_, _, rfl, hS', n2, c, z2, _, rfl, fun h => by simp [h21 h], h22, h23.drop k⟩
    have cA := fun c => cCount_spec (mode := (m : Int)) (coA c)
    have cB := fun c => cCount_spec (mode := (m : Int)) (coB c)
    rw [cf _ hck1, if_neg hbig] at cA
    rw [cf _ hck2, if_neg hbig] at cB
    repeat first | refine AWp.seq ?_ | refine AWp.block ?_
    refine AWp.ops ?_
    simp [b2, hkE, hno, e1]
    refine ((cA _).pure (by simp) (by rintro r ⟨y, rfl, ⟨⟨_, _, _, rfl, _⟩, _⟩⟩; simp) _).mono ?_
    rintro r H' ⟨rfl, q, rfl, hq⟩
    obtain ⟨⟨n6, c6, z6, rfl, hs6⟩, hl6, hx6⟩ := hq
    simp
    have e3 : (if (k : Int) = 0 then es else (es.drop k).take (es.length - k)) = es.drop k := by
      by_cases h : k = 0
      · subst h; simp
      · rw [if_neg (by omega), List.take_of_length_le (by simp)]
    have e3' : (if (k : Int) = 0 then es else es.drop k) = es.drop k := by
      rw [← e2']; by_cases h : k = 0 <;> simp [h]
    repeat first | refine AWp.seq ?_ | refine AWp.block ?_
    refine AWp.ops ?_
    simp [b2, hkE, hno, e2, e2', e3, e3']
    refine ((cB _).pure (by simp) (by rintro r ⟨y, rfl, ⟨⟨_, _, _, rfl, _⟩, _⟩⟩; simp) _).mono ?_
    rintro r H' ⟨rfl, q, rfl, hq⟩
    obtain ⟨⟨n7, c7, z7, rfl, hs7⟩, hl7, hx7⟩ := hq
    simp
    have hnn : 0 ≤ S[m] := cells_nn hcs S[m] (List.getElem_mem hm)
    obtain ⟨n, hn⟩ : ∃ n : Nat, S[m] = n := ⟨S[m].toNat, by omega⟩
    simp only [hn, Int.toNat_natCast] at hs5 hs6 hs7 hl5 hl6 hl7 hx5 hx6 hx7 ⊢
    repeat first | refine AWp.seq ?_ | refine AWp.block ?_
    refine AWp.ops ?_
    simp [hm, hn]
    refine AWp.cond (b := false) (by simp) (fun h => by cases h) (fun _ => ?_)
    refine AWp.skip ?_
    simp only [qSeq]
    repeat first | refine AWp.seq ?_ | refine AWp.block ?_
    refine AWp.ops ?_
    simp
    repeat first | refine AWp.seq ?_ | refine AWp.block ?_
    refine AWp.ops ?_
    simp
    obtain ⟨N, hN⟩ : ∃ N : List Nat, N = (List.range n).map fun (i : Nat) => cntAt m E (i : Int) := ⟨_, rfl⟩
    have hNl : N.length = n := by rw [hN]; simp
    have hNs : N.sum = E.length := by
      rw [hN]
      refine cnt_all fun t ht => ?_
      have := (hin t ht).2 m hm
      rw [hSm, hn] at this
      exact ⟨(t.1.getD m 0).toNat, by omega, by omega⟩
    have hNle : ∀ i, (N.take i).sum ≤ N.sum := fun i => by
      conv => rhs; rw [← List.take_append_drop i N, List.sum_append]
      omega
    have hz5 : ∀ {nl : Bool} {sz : Nat} {l : List Int}, (nl = true → l = []) ∧ (nl = false → sz = 1) → 0 < l.length → sz = 1 := fun h hp => sz_of h hp
    obtain ⟨J, hJ⟩ : ∃ J : Nat → List AV → List AObj → Prop, J = fun i fr H => i ≤ n ∧ (True) ∧ H = [cooO (.agg [.imm n1 c1 1 (S.map I), .imm n2 c2 z2 es])] ∧
      fr = [.und, .und, .und, .ptr 0 1 0 0, .und, .und, .und, Bo true, .imm n5 c5 z5 ((countL n m E).map I), .und, .imm n6 c6 z6 ((countL n m (E.take k)).map I), .und, .imm n7 c7 z7 ((countL n m (E.drop k)).map I), .und, I (N.take i).sum, .und, .und, .und, .und, .und, .und, .und, .und, .und, .und, .und, .und, .und, .und, .und, .und, .und, .und, .und, .und, .und, .und, .und, .und, .und, .und, .und, .und, .und, .und, .und, .und, .und, .und, .und, .und, .und, .und, .und, .und, .und, .und, .und, .und, .und, .und, .und, .und, .und, .und, .und, .und, .und, .und, .und, .und, .und, .und, .und, .und, .und, .und, .und, .und, .und, .und, .und, .und, .und, .und, .und, .und, .und, .und, .und, .und, .und, .und, .und, .und, .und, .und, .und, .und, .und, .und, .und, .und, .und, .und, .und, .und, .und, .und, .und, .und, .und, .und, .und, .und, .und, .und, .und, .und, .und, .und, .und, .und, .und, .und, .und, .und, .und, .und, .und, .imm n5 c5 z5 ((countL n m E).map I), I n, I i, .und, .und, .und, .und, .und, .und, .und, .und, .und, .und, .und, .und, .und, .und, .und, .und, .und, .und, .und, .und, .und, .und, .und, .und, .und, .und, .und] := ⟨_, rfl⟩
    refine AWp.block (AWp.loop J (fun i => n - i) 0 (Weak.slots [3, 7, 8, 10, 12, 14, 130, 131, 132]) (by rw [hJ]; exact ⟨by omega, trivial, by simp, by simp⟩) ?_)
    intro i fr H hI
    rw [hJ] at hI
    obtain ⟨hi, hinv, rfl, rfl⟩ := hI
    repeat first | refine AWp.seq ?_ | refine AWp.block ?_
    refine AWp.ops ?_
    simp
    refine AWp.seq (AWp.cond (b := decide (i < n)) (by simp <;> omega) ?_ ?_)
    ·
      intro hb
      have hb : i < n := by simpa using hb
      refine AWp.skip ?_
      simp only [qSeq]
      have q5 := sz_of hs5 (i := i) (by simpa using hb)
      have q6 := sz_of hs6 (i := i) (by simpa using hb)
      have q7 := sz_of hs7 (i := i) (by simpa using hb)
      subst q5 q6 q7
      have t5 : ∀ D, i < (countL n m D).length := fun D => by simpa using hb
      have g5 : ∀ D, (countL n m D)[i]'(t5 D) = cntAt m D (i : Int) := fun D => countL_get (t5 D)
      have hsplit : cntAt m (E.take k) (i : Int) + cntAt m (E.drop k) (i : Int) = cntAt m E (i : Int) := by
        rw [← cntAt_app, List.take_append_drop]
      have l1 := cntAt_le m E (i : Int)
      have wa := wrap_i64 (n := (cntAt m (E.take k) (i : Int) : Int) + cntAt m (E.drop k) (i : Int)) (by omega) (by omega)
      have wc := wrap_i64 (n := (cntAt m E (i : Int) : Int)) (by omega) (by omega)
      have hwi := wrap_i64 (n := (i : Int) + 1) (by omega) (by omega)
      have hNi : N[i]'(by omega) = cntAt m E (i : Int) := by simp [hN]
      have hst : (N.take (i + 1)).sum = (N.take i).sum + cntAt m E (i : Int) := by rw [sum_take (by omega), hNi]
      have h6 := hNle (i + 1)
      have ws := wrap_i64 (n := ((N.take i).sum : Int) + cntAt m E (i : Int)) (by omega) (by omega)
      have hsI : (cntAt m (E.take k) (i : Int) : Int) + cntAt m (E.drop k) (i : Int) = cntAt m E (i : Int) := by omega
      obtain ⟨P5, hP5⟩ : ∃ P, P = countL n m E := ⟨_, rfl⟩
      obtain ⟨P6, hP6⟩ : ∃ P, P = countL n m (E.take k) := ⟨_, rfl⟩
      obtain ⟨P7, hP7⟩ : ∃ P, P = countL n m (E.drop k) := ⟨_, rfl⟩
      have r5 := t5 E
      have r6 := t5 (E.take k)
      have r7 := t5 (E.drop k)
      have v5 := g5 E
      have v6 := g5 (E.take k)
      have v7 := g5 (E.drop k)
      simp only [← hP5, ← hP6, ← hP7] at r5 r6 r7 v5 v6 v7 ⊢
      repeat first | refine AWp.seq ?_ | refine AWp.block ?_
      refine AWp.ops ?_
      simp [r5, v5]
      repeat first | refine AWp.seq ?_ | refine AWp.block ?_
      refine AWp.ops ?_
      simp [r6, r7, v6, v7, hsI, wc]
      refine AWp.cond (b := false) (by simp) (fun h => by cases h) (fun _ => ?_)
      refine AWp.skip ?_
      simp only [qSeq]
      repeat first | refine AWp.seq ?_ | refine AWp.block ?_
      refine AWp.ops ?_
      simp [ws]
      repeat first | refine AWp.seq ?_ | refine AWp.block ?_
      refine AWp.ops ?_
      simp [hwi]
      refine ⟨i + 1, _, _, Weak.slots [3, 7, 8, 10, 12, 14, 130, 131, 132], ?_, by omega⟩
      rw [hJ]
      exact ⟨by omega, trivial, rfl, by simp [hst, hP5, hP6, hP7]⟩
    ·
      intro hb
      have hb : ¬ i < n := by simpa using hb
      refine AWp.exit ?_
      simp [qSeq, qBlock]
      have hNt : (N.take i).sum = E.length := by rw [List.take_of_length_le (by omega), hNs]
      repeat first | refine AWp.seq ?_ | refine AWp.block ?_
      refine AWp.ops ?_
      simp [hNt]
      refine AWp.ret ?_
      simp
      refine retOk.of rfl ?_
      simp [hel]
  refine (base.frozen 2).mono ?_
  rintro q H' ⟨rfl, r, G, rfl, rfl⟩
  exact ⟨rfl, by simp⟩
end Go.Fw
namespace Go.Fw
open Go Go.RowKit Go.Proofs
set_option maxRecDepth 100000
set_option linter.unusedSimpArgs false
set_option linter.unusedVariables false

theorem wrapB (n : Int) : IntKind.i64.wrap n = n.bmod 18446744073709551616 := by
  have e : IntKind.i64.wrap n = if (n % 18446744073709551616) ≥ 9223372036854775808 then n % 18446744073709551616 - 18446744073709551616 else n % 18446744073709551616 := by
    unfold IntKind.wrap
    simp [IntKind.bits, IntKind.signed]
  rw [e, Int.bmod_def]
  simp only [show (((18446744073709551616 : Nat) : Int) + 1) / 2 = 9223372036854775808 by decide, show ((18446744073709551616 : Nat) : Int) = 18446744073709551616 from rfl]
  split <;> split <;> omega
def posL (S : List Int) (p : Nat) (E : List (List Int × Int)) : List (List Int × Int) := E.filter fun t => decide ((atF S t.1).1.toNat = p)
def sumV (E : List (List Int × Int)) : Int := (E.map (·.2)).sum
@[simp] theorem sumV_nil : sumV [] = 0 := rfl
@[simp] theorem sumV_cons (t : List Int × Int) (E : List (List Int × Int)) : sumV (t :: E) = t.2 + sumV E := by simp [sumV]
theorem sumV_app (E D : List (List Int × Int)) : sumV (E ++ D) = sumV E + sumV D := by simp [sumV]
theorem posL_app (S : List Int) (p : Nat) (E D : List (List Int × Int)) : posL S p (E ++ D) = posL S p E ++ posL S p D := by simp [posL]
theorem foldl_addE_get {S : List Int} {p : Nat} : ∀ (E : List (List Int × Int)) (vs : List Int), p < vs.length → -9223372036854775808 ≤ vs.getD p 0 ∧ vs.getD p 0 ≤ 9223372036854775807 → (E.foldl (addE S) vs).getD p 0 = IntKind.i64.wrap (vs.getD p 0 + sumV (posL S p E))
  | [], vs, _, h => by
    simp only [List.foldl_nil, posL, List.filter_nil, sumV_nil, Int.add_zero]
    exact (wrap_i64 h.1 h.2).symm
  | t :: E, vs, hp, h => by
    rw [List.foldl_cons]
    by_cases e : (atF S t.1).1.toNat = p
    · have e1 : (addE S vs t).getD p 0 = IntKind.i64.wrap (vs.getD p 0 + t.2) := by
        simp only [addE, e]
        rw [List.getD_eq_getElem?_getD, List.getElem?_set_self hp]
        rfl
      rw [foldl_addE_get E _ (by simpa [addE] using hp) (by rw [e1]; exact wrap_rng _), e1]
      have e2 : posL S p (t :: E) = t :: posL S p E := by simp [posL, e]
      rw [e2, sumV_cons, wrapB, wrapB, wrapB, Int.bmod_add_bmod, Int.add_assoc]
    · have e1 : (addE S vs t).getD p 0 = vs.getD p 0 := by
        simp only [addE]
        rw [List.getD_eq_getElem?_getD, List.getElem?_set_ne e, List.getD_eq_getElem?_getD]
      rw [foldl_addE_get E _ (by simpa [addE] using hp) (by rw [e1]; exact h), e1]
      have e2 : posL S p (t :: E) = posL S p E := by simp [posL, e]
      rw [e2]
theorem zeroF_laid {S : List Int} (h : (zeroF S).2 = 0) : (laidF S).2 = 0 ∧ (laidF S).1 = (cells S).1 := by
  unfold zeroF at h
  split at h
  · rename_i h1; exact absurd h h1
  rename_i h1
  have h2 : (laidF S).2 = 0 := by omega
  refine ⟨h2, ?_⟩
  unfold laidF at h2 ⊢
  split at h2
  · simp at h2
  · rename_i h3; rw [if_neg h3]
theorem cdF_ok {X : List Int × List (List Int × Int)} (h : (cdF X).2 = 0) : cooCheck X.1 X.2 = 0 ∧ (zeroF X.1).2 = 0 ∧ (cdF X).1.1 = X.1 ∧ checkF (cdF X).1 = 0 ∧ ∃ n : Nat, (cells X.1).1 = n ∧ n ≤ 65536 ∧ (cdF X).1.2.length = n ∧ ∀ p < n, (cdF X).1.2.getD p 0 = IntKind.i64.wrap (sumV (posL X.1 p X.2)) := by
  unfold cdF at h ⊢
  split at h
  · rename_i h1; exact absurd h h1
  rename_i h1
  rw [if_neg h1]
  split at h
  · rename_i h2; exact absurd h h2
  rename_i h2
  rw [if_neg h2]
  have h3 : (zeroF X.1).2 = 0 := by omega
  obtain ⟨_, hc, n, hn, hn2, hz⟩ := zeroF_ok h3
  obtain ⟨l1, l2⟩ := zeroF_laid h3
  refine ⟨by omega, h3, rfl, ?_, n, hn, hn2, ?_, fun p hp => ?_⟩
  · unfold checkF
    simp only [foldl_addE_len, hz, List.length_replicate]
    rw [if_neg (by omega), if_neg (by omega)]
  · simp [foldl_addE_len, hz]
  · simp only [hz]
    rw [foldl_addE_get _ _ (by simpa using hp) (by simp [hp])]
    simp [hp]
theorem cdF_of {X : List Int × List (List Int × Int)} (h : cooCheck X.1 X.2 = 0) (hz : (zeroF X.1).2 = 0) : (cdF X).2 = 0 := by
  unfold cdF
  rw [if_neg (by omega), if_neg (by omega)]
theorem cooCheck_app {S : List Int} {E D : List (List Int × Int)} (hE : cooCheck S E = 0) (hD : cooCheck S D = 0) (hl : E.length + D.length ≤ 65536) : cooCheck S (E ++ D) = 0 := by
  obtain ⟨_, _, h3, h4⟩ := cooCheck_len hE
  obtain ⟨_, _, _, h5⟩ := cooCheck_len hD
  unfold cooCheck
  rw [if_neg (by omega), if_neg (by simp; omega), if_neg]
  simp only [List.any_eq_true, decide_eq_true_eq, not_exists, not_and, List.mem_append]
  intro t ht
  rcases ht with ht | ht
  · have := h4 t ht; omega
  · have := h5 t ht; omega
theorem cdF_app {S : List Int} {E D : List (List Int × Int)} (hE : (cdF (S, E)).2 = 0) (hD : (cdF (S, D)).2 = 0) (hl : E.length + D.length ≤ 65536) :
    (cdF (S, E ++ D)).2 = 0 ∧ checkF (cdF (S, E ++ D)).1 = 0 ∧ (bothF addW (cdF (S, E)).1 (cdF (S, D)).1).2 = 0 ∧ (cdF (S, E ++ D)).1 = (bothF addW (cdF (S, E)).1 (cdF (S, D)).1).1 := by
  obtain ⟨c1, z1, s1, k1, n, hn, hn2, l1, v1⟩ := cdF_ok hE
  obtain ⟨c2, z2, s2, k2, n', hn', hn2', l2, v2⟩ := cdF_ok hD
  simp only at c1 c2 z1 z2 s1 s2 hn hn' v1 v2
  have en : n' = n := by omega
  subst en
  have h3 := cdF_of (X := (S, E ++ D)) (cooCheck_app c1 c2 hl) z1
  obtain ⟨c3, z3, s3, k3, n3, hn3, _, l3, v3⟩ := cdF_ok h3
  simp only at s3 hn3 v3
  have en : n3 = n' := by omega
  subst en
  obtain ⟨hb, _, _⟩ := bothF_ok (op := addW) k1 k2 (by rw [s1, s2])
  refine ⟨h3, k3, by rw [hb], ?_⟩
  rw [hb]
  refine Prod.ext (by rw [s3, s1]) ?_
  apply List.ext_getElem (by simp [l1, l2, l3])
  intro p h1 h2
  have e1 := v1 p (by omega)
  have e2 := v2 p (by omega)
  have e3 := v3 p (by omega)
  have g1 : p < (cdF (S, E)).1.2.length := by omega
  have g2 : p < (cdF (S, D)).1.2.length := by omega
  simp only [List.getD_eq_getElem?_getD, List.getElem?_eq_getElem g1, List.getElem?_eq_getElem g2, List.getElem?_eq_getElem h1, Option.getD_some] at e1 e2 e3
  simp only [List.getElem_zipWith, e1, e2, e3, addW, posL_app, sumV_app, wrapB, Int.bmod_add_bmod, Int.add_bmod_bmod]
theorem jv_sum : ∀ {l : List (List Int × Int)}, l ≠ [] → (∀ t ∈ l, -9223372036854775808 ≤ t.2 ∧ t.2 ≤ 9223372036854775807) → jv l = IntKind.i64.wrap (sumV l)
  | [], h, _ => absurd rfl h
  | t :: r, _, hv => by
    have h0 := hv t (by simp)
    have : ∀ (r : List (List Int × Int)) (a : Int), -9223372036854775808 ≤ a ∧ a ≤ 9223372036854775807 → r.foldl (fun s u => IntKind.i64.wrap (s + u.2)) a = IntKind.i64.wrap (a + sumV r) := by
      intro r
      induction r with
      | nil => intro a ha; simp; exact (wrap_i64 ha.1 ha.2).symm
      | cons u r ih =>
        intro a ha
        rw [List.foldl_cons, ih _ (wrap_rng _), sumV_cons, wrapB, wrapB, wrapB, Int.bmod_add_bmod, Int.add_assoc]
    rw [jv, this r _ h0, sumV_cons]
def oppL (E : List (List Int × Int)) : List (List Int × Int) := E.map fun t => (t.1, IntKind.i64.wrap (-t.2))
theorem sum_opp (E : List (List Int × Int)) : (sumV E + sumV (oppL E)).bmod 18446744073709551616 = 0 := by
  induction E with
  | nil => simp [oppL]
  | cons t E ih =>
    have e : sumV (t :: E) + sumV (oppL (t :: E)) = (t.2 + IntKind.i64.wrap (-t.2)) + (sumV E + sumV (oppL E)) := by
      simp only [oppL, List.map_cons, sumV_cons]; omega
    rw [e, ← Int.add_bmod_bmod, ih, Int.add_zero, wrapB, Int.add_bmod_bmod]
    simp [show t.2 + -t.2 = 0 by omega]
theorem atP_opp (E : List (List Int × Int)) (c : List Int) : atP (oppL E) c = oppL (atP E c) := by
  simp only [atP, oppL, List.filter_map]
  rfl
theorem plain_opp {S : List Int} {E : List (List Int × Int)} (hc : cooCheck S E = 0) (hl : E.length + E.length ≤ 65536) (hv : ∀ t ∈ E, -9223372036854775808 ≤ t.2 ∧ t.2 ≤ 9223372036854775807) :
    plainF (S, E ++ oppL E) = ((S, []), 0) := by
  have hc2 : cooCheck S (oppL E) = 0 := cooCheck_sub hc (by simp [oppL]) fun x hx => by
    obtain ⟨t, ht, rfl⟩ := List.mem_map.1 hx
    exact ⟨t, ht, rfl⟩
  have hc3 := cooCheck_app hc hc2 (by simpa [oppL] using hl)
  have ho : (orderF (S, E ++ oppL E) []).2 = 0 := by
    unfold orderF
    simp only
    rw [if_neg (by omega)]
    simp
  have hj : (joinF (S, E ++ oppL E) []).2 = 0 := by rw [joinF, sortF_ok ho]
  obtain ⟨_, h2, _, h4⟩ := joinF_ok hj
  simp only at h2 h4
  unfold plainF
  rw [if_neg (by omega), h2]
  unfold trimF
  simp only
  rw [if_neg (by omega)]
  have : (joinL ((E ++ oppL E).mergeSort (leO (orderF (S, E ++ oppL E) []).1))).filter (fun t => !decide (t.2 = 0)) = [] := by
    rw [List.filter_eq_nil_iff]
    intro x hx
    obtain ⟨⟨t, ht, e⟩, hx2⟩ := ((joined_sort (tells_of ho)).2 x).1 hx
    have hval : ∀ t ∈ atP (E ++ oppL E) x.1, -9223372036854775808 ≤ t.2 ∧ t.2 ≤ 9223372036854775807 := by
      intro t ht
      have := (List.mem_filter.1 ht).1
      rcases List.mem_append.1 this with h | h
      · exact hv t h
      · obtain ⟨u, _, rfl⟩ := List.mem_map.1 h
        exact wrap_rng _
    rw [jv_sum (atP_ne.2 ⟨t, ht, e⟩) hval] at hx2
    have e2 : atP (E ++ oppL E) x.1 = atP E x.1 ++ oppL (atP E x.1) := by rw [← atP_opp]; simp [atP]
    rw [e2, sumV_app, wrapB, sum_opp] at hx2
    simp [hx2]
  rw [this]
theorem Dn.two {d : AV} {D : List Int × List Int} (h : Dn d D) : ∃ x y, d = .agg [x, y] ∧ oneC x = true ∧ oneC y = true := by
  obtain ⟨s, v, rfl, ⟨⟨_, _, _, rfl, _⟩, _⟩, ⟨⟨_, _, _, rfl, _⟩, _⟩⟩ := h
  exact ⟨_, _, rfl, rfl, rfl⟩
theorem ownD.app {b : Nat} {G : List AObj} {d : AV} {D : List Int × List Int} (h : ownD b G d D) (Z : List AObj) : ownD b (G ++ Z) d D := by
  obtain ⟨s, j, h1, rfl, h2, h3⟩ := h
  exact ⟨s, j, h1, rfl, by rw [List.getElem?_append_left (List.getElem?_eq_some_iff.1 h2).1]; exact h2, h3.app Z⟩
/-- A list whose entries stand in an object of the call's own. -/
theorem rowO.coo {b : Nat} {K : List AObj} {a s : AV} {S : List Int} {es : List AV} {E : List (List Int × Int)} (h : rowO b K a 38 2 es) (hs : ISl s S) (hE : Ents es E) (n : Nat) : Coo (Go.Fw.frz K 0 (n + 4) false (.agg [s, a])) (S, E) := by
  obtain ⟨⟨n1, c1, z1, rfl, hs1⟩, hl1, hx1⟩ := hs
  rcases h.read (n + 2) with ⟨h1, h2⟩ | h2
  · refine ⟨_, _, by simp only [frz_agg, List.map_cons, List.map_nil, h2]; rfl, ?_, ?_⟩
    · simp; exact ⟨⟨n1, c1, z1, rfl, hs1⟩, hl1, hx1⟩
    · subst h1
      have : E = [] := List.length_eq_zero_iff.1 (by simpa using hE.1.symm)
      subst this
      exact EnL.nil
  · refine ⟨_, _, by simp only [frz_agg, List.map_cons, List.map_nil, h2]; rfl, ?_, ?_⟩
    · simp; exact ⟨⟨n1, c1, z1, rfl, hs1⟩, hl1, hx1⟩
    · refine ⟨false, none, 2, _, rfl, by simp, by simp, ?_⟩
      rw [hE.frz]; exact hE
end Go.Fw
