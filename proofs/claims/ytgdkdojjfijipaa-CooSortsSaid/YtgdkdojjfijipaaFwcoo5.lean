import Derived.Test.YtgdkdojjfijipaaFwento1
import Derived.Test.YtgdkdojjfijipaaFwmsort1
namespace Go.Fw
open Go Go.RowKit Go.Proofs
set_option maxRecDepth 100000
set_option linter.unusedSimpArgs false
set_option linter.unusedVariables false

/-- Heaps in which only two objects may be others. -/
def Two (e d : Nat) (H K : List AObj) : Prop := ∀ k o, k < H.length → k ≠ e → k ≠ d → H[k]? = some o → K[k]? = some o
theorem Two.set {e d : Nat} {H K : List AObj} (h : Two e d H K) {i : Nat} (hi : i = e ∨ i = d) (o : AObj) : Two e d H (K.set i o) := fun k o' hk h1 h2 h3 => by
  rw [gs_ne (by rcases hi with rfl | rfl <;> omega)]; exact h k o' hk h1 h2 h3
theorem fst_one {zs : List (AV × (List Int × Int))} (h : ∀ z ∈ zs, okEl 2 z.1 = true) : allOneCell 2 (zs.map (·.1)) = true := by
  rw [allOneCell, List.all_eq_true]
  intro x hx
  obtain ⟨z, hz, rfl⟩ := List.mem_map.1 hx
  exact h z hz

def merge_30 : AC := (.seq (.ops [⟨(some 81), none, (.k (.mov (.t 5)))⟩, ⟨(some 82), none, (.k (.mov (.t 12)))⟩, ⟨(some 83), none, (.k (.mov (.t 0)))⟩, ⟨(some 84), none, (.k (.mov (.t 11)))⟩, ⟨(some 85), none, (.k (.iad 2 (.t 83) (.t 84)))⟩, ⟨(some 86), none, (.k (.ld 2 true (.t 85)))⟩, ⟨(some 87), none, (.k (.iad 2 (.t 81) (.t 82)))⟩, ⟨none, none, (.k (.st 2 (.t 87) (.t 86)))⟩]) (.ops [⟨(some 88), none, (.k (.mov (.t 11)))⟩, ⟨(some 89), none, (.k (.bin .add (.t 88) (.c (.sc (.int .i64 1)))))⟩, ⟨(some 11), none, (.k (.mov (.t 89)))⟩]))
def merge_29 : AC := (.seq (.ops [⟨(some 72), none, (.k (.mov (.t 5)))⟩, ⟨(some 73), none, (.k (.mov (.t 12)))⟩, ⟨(some 74), none, (.k (.mov (.t 0)))⟩, ⟨(some 75), none, (.k (.mov (.t 10)))⟩, ⟨(some 76), none, (.k (.iad 2 (.t 74) (.t 75)))⟩, ⟨(some 77), none, (.k (.ld 2 true (.t 76)))⟩, ⟨(some 78), none, (.k (.iad 2 (.t 72) (.t 73)))⟩, ⟨none, none, (.k (.st 2 (.t 78) (.t 77)))⟩]) (.ops [⟨(some 79), none, (.k (.mov (.t 10)))⟩, ⟨(some 80), none, (.k (.bin .add (.t 79) (.c (.sc (.int .i64 1)))))⟩, ⟨(some 10), none, (.k (.mov (.t 80)))⟩]))
def merge_28 : AC := (.cond (.t 71) merge_29 merge_30)
def merge_27 : AC := (.seq (.ops [⟨(some 51), none, (.k (.mov (.t 10)))⟩, ⟨(some 52), none, (.k (.mov (.t 8)))⟩, ⟨(some 53), none, (.k (.bin .lss (.t 51) (.t 52)))⟩, ⟨(some 54), none, (.k (.mov (.t 53)))⟩, ⟨(some 55), (some (54, true)), (.k (.mov (.t 11)))⟩, ⟨(some 56), (some (54, true)), (.k (.mov (.t 9)))⟩, ⟨(some 57), (some (54, true)), (.k (.bin .eql (.t 55) (.t 56)))⟩, ⟨(some 58), (some (54, true)), (.k (.mov (.t 57)))⟩, ⟨(some 59), (some (58, false)), (.k (.mov (.t 1)))⟩, ⟨(some 60), (some (58, false)), (.k (.mov (.t 0)))⟩, ⟨(some 61), (some (58, false)), (.k (.mov (.t 10)))⟩, ⟨(some 62), (some (58, false)), (.k (.iad 2 (.t 60) (.t 61)))⟩, ⟨(some 63), (some (58, false)), (.k (.ld 2 true (.t 62)))⟩, ⟨(some 64), (some (58, false)), (.k (.mov (.t 0)))⟩, ⟨(some 65), (some (58, false)), (.k (.mov (.t 11)))⟩, ⟨(some 66), (some (58, false)), (.k (.iad 2 (.t 64) (.t 65)))⟩, ⟨(some 67), (some (58, false)), (.k (.ld 2 true (.t 66)))⟩, ⟨(some 68), (some (58, false)), (.call true (.t 59) [(.t 63), (.t 67)])⟩, ⟨(some 69), (some (58, false)), (.k (.bin .leq (.t 68) (.c (.sc (.int .i64 0)))))⟩, ⟨(some 70), (some (54, true)), (.k (.pick (.t 58) (.c (.sc (.bool true))) (.t 69)))⟩, ⟨(some 71), none, (.k (.pick (.t 54) (.t 70) (.c (.sc (.bool false)))))⟩]) merge_28)
def merge_26 : AC := (.block 5 merge_27)
def merge_25 : AC := (.seq merge_26 (.ops [⟨(some 49), none, (.k (.mov (.t 12)))⟩, ⟨(some 50), none, (.k (.bin .add (.t 49) (.c (.sc (.int .i64 1)))))⟩, ⟨(some 12), none, (.k (.mov (.t 50)))⟩]))
def merge_24 : AC := (.seq (.ops [⟨(some 46), none, (.k (.mov (.t 12)))⟩, ⟨(some 47), none, (.k (.mov (.t 9)))⟩, ⟨(some 48), none, (.k (.bin .lss (.t 46) (.t 47)))⟩]) (.cond (.t 48) .skip (.exit 4)))
def merge_23 : AC := (.seq merge_24 merge_25)
def merge_22 : AC := (.loop merge_23)
def merge_21 : AC := (.block 4 merge_22)
def merge_20 : AC := (.seq (.ops [⟨(some 45), none, (.k (.mov (.t 7)))⟩, ⟨(some 12), none, (.k (.mov (.t 45)))⟩]) merge_21)
def merge_19 : AC := (.seq (.ops [⟨(some 43), none, (.k (.mov (.t 7)))⟩, ⟨(some 44), none, (.k (.mov (.t 8)))⟩, ⟨(some 10), none, (.k (.mov (.t 43)))⟩, ⟨(some 11), none, (.k (.mov (.t 44)))⟩]) merge_20)
def merge_18 : AC := (.seq (.ops [⟨(some 30), none, (.k (.mov (.t 7)))⟩, ⟨(some 31), none, (.k (.mov (.t 6)))⟩, ⟨(some 32), none, (.k (.bin .add (.t 30) (.t 31)))⟩, ⟨(some 33), none, (.k (.mov (.t 0)))⟩, ⟨(some 34), none, (.k (.len (.t 33)))⟩, ⟨(some 35), none, (.k (.mm false (.t 32) (.t 34)))⟩, ⟨(some 36), none, (.k (.mov (.t 7)))⟩, ⟨(some 37), none, (.k (.mov (.t 6)))⟩, ⟨(some 38), none, (.k (.bin .mul (.c (.sc (.int .i64 2))) (.t 37)))⟩, ⟨(some 39), none, (.k (.bin .add (.t 36) (.t 38)))⟩, ⟨(some 40), none, (.k (.mov (.t 0)))⟩, ⟨(some 41), none, (.k (.len (.t 40)))⟩, ⟨(some 42), none, (.k (.mm false (.t 39) (.t 41)))⟩, ⟨(some 8), none, (.k (.mov (.t 35)))⟩, ⟨(some 9), none, (.k (.mov (.t 42)))⟩]) merge_19)
def merge_17 : AC := (.block 3 merge_18)
def merge_16 : AC := (.seq merge_17 (.ops [⟨(some 26), none, (.k (.mov (.t 7)))⟩, ⟨(some 27), none, (.k (.mov (.t 6)))⟩, ⟨(some 28), none, (.k (.bin .mul (.c (.sc (.int .i64 2))) (.t 27)))⟩, ⟨(some 29), none, (.k (.bin .add (.t 26) (.t 28)))⟩, ⟨(some 7), none, (.k (.mov (.t 29)))⟩]))
def merge_15 : AC := (.seq (.ops [⟨(some 22), none, (.k (.mov (.t 7)))⟩, ⟨(some 23), none, (.k (.mov (.t 0)))⟩, ⟨(some 24), none, (.k (.len (.t 23)))⟩, ⟨(some 25), none, (.k (.bin .lss (.t 22) (.t 24)))⟩]) (.cond (.t 25) .skip (.exit 2)))
def merge_14 : AC := (.seq merge_15 merge_16)
def merge_13 : AC := (.loop merge_14)
def merge_12 : AC := (.block 2 merge_13)
def merge_11 : AC := (.seq (.ops [⟨(some 7), none, (.k (.mov (.c (.sc (.int .i64 0)))))⟩]) merge_12)
def merge_10 : AC := (.seq merge_11 (.ops [⟨(some 90), none, (.k (.mov (.t 5)))⟩, ⟨(some 91), none, (.k (.mov (.t 0)))⟩, ⟨(some 0), none, (.k (.mov (.t 90)))⟩, ⟨(some 5), none, (.k (.mov (.t 91)))⟩]))
def merge_9 : AC := (.block 1 merge_10)
def merge_8 : AC := (.seq merge_9 (.ops [⟨(some 20), none, (.k (.mov (.t 6)))⟩, ⟨(some 21), none, (.k (.bin .mul (.t 20) (.c (.sc (.int .i64 2)))))⟩, ⟨(some 6), none, (.k (.mov (.t 21)))⟩]))
def merge_7 : AC := (.seq (.ops [⟨(some 16), none, (.k (.mov (.t 6)))⟩, ⟨(some 17), none, (.k (.mov (.t 0)))⟩, ⟨(some 18), none, (.k (.len (.t 17)))⟩, ⟨(some 19), none, (.k (.bin .lss (.t 16) (.t 18)))⟩]) (.cond (.t 19) .skip (.exit 0)))
def merge_6 : AC := (.seq merge_7 merge_8)
def merge_5 : AC := (.loop merge_6)
def merge_4 : AC := (.block 0 merge_5)
def merge_3 : AC := (.seq (.ops [⟨(some 6), none, (.k (.mov (.c (.sc (.int .i64 1)))))⟩]) merge_4)
def merge_2 : AC := (.seq merge_3 (.seq (.ops [⟨(some 92), none, (.k (.mov (.t 0)))⟩, ⟨(some 4), none, (.k (.mov (.t 92)))⟩]) .ret))
def merge_1 : AC := (.seq (.ops [⟨(some 13), none, (.k (.mov (.t 0)))⟩, ⟨(some 14), none, (.k (.len (.t 13)))⟩, ⟨(some 15), none, (.k (.mkS 38 2 32 (.agg [(.imm true none 0 []), (.sc (.int .i64 0))]) (.t 14) (.t 14)))⟩, ⟨(some 5), none, (.k (.mov (.t 15)))⟩]) merge_2)
def merge_ac : AC := (.seq (.ops [⟨(some 4), none, (.k (.mov (.c (.imm true none 0 []))))⟩]) merge_1)
theorem merge_call {args : List AV} {H : List AObj} {R : AV → List AObj → Prop} (h : AWp Try.prog [] H.length merge_ac (bodyQ H.length [(.t 4)] R) (args ++ List.replicate (93 - args.length) .und) H) : ACalls Try.prog 46 args H R :=
  ACalls.of_fn Try.func46 rfl (by kernel_rfl) rfl Try.ntmps46 h

set_option maxHeartbeats 16000000 in
theorem merge_spec {H : List AObj} {e : Nat} {zs : List (AV × (List Int × Int))} {g : FuncId} {caps : List AV} {cmp : AV × (List Int × Int) → AV × (List Int × Int) → Int}
    (he : H[e]? = some (ensO (zs.map (·.1)))) (hok : ∀ z ∈ zs, ∃ a v, z.1 = .agg [a, I v] ∧ oneC a = true)
    (hg : ∀ K, Two e H.length H K → ∀ x ∈ zs, ∀ y ∈ zs, ACalls Try.prog g (x.1 :: y.1 :: caps) K fun r K' => K' = K ∧ r = I (cmp x y))
    (ht : ∀ a b c, decide (cmp a b ≤ 0) = true → decide (cmp b c ≤ 0) = true → decide (cmp a c ≤ 0) = true) (htot : ∀ a b, (decide (cmp a b ≤ 0) || decide (cmp b a ≤ 0)) = true)
    (hn : zs.length ≤ 1000000) :
    ACalls Try.prog 46 [.slc e zs.length 0 zs.length none, .fn (.func g) [] caps] H fun r K => ∃ p, r = .slc p zs.length 0 zs.length none ∧ (p = e ∨ p = H.length) ∧ K[p]? = some (ensO ((zs.mergeSort fun a b => decide (cmp a b ≤ 0)).map (·.1))) ∧ Two e H.length H K := by
  obtain ⟨n, hnn⟩ : ∃ n, n = zs.length := ⟨_, rfl⟩
  obtain ⟨d, hd⟩ : ∃ d, d = H.length := ⟨_, rfl⟩
  obtain ⟨le, hle⟩ : ∃ le : AV × (List Int × Int) → AV × (List Int × Int) → Bool, le = fun a b => decide (cmp a b ≤ 0) := ⟨_, rfl⟩
  have ht' : ∀ a b c, le a b = true → le b c = true → le a c = true := by rw [hle]; exact ht
  have htot' : ∀ a b, (le a b || le b a) = true := by rw [hle]; exact htot
  rw [← hle, ← hnn, ← hd]
  rw [← hnn] at hn
  rw [← hd] at hg
  have hel := (List.getElem?_eq_some_iff.1 he).1
  have hed : e ≠ d := by omega
  have m1 : (n : Int) * 32 ≤ 281474976710656 := by omega
  have m2 : (n : Int) ≤ 9223372036854775807 := by omega
  apply merge_call
  rw [← hd]
  repeat first | refine AWp.seq ?_ | refine AWp.block ?_
  refine AWp.ops ?_
  simp
  repeat first | refine AWp.seq ?_ | refine AWp.block ?_
  refine AWp.ops ?_
  simp [m1, m2, ← hd]
  obtain ⟨K0, hK0⟩ : ∃ K0, K0 = H ++ [⟨38, 2, List.replicate n (.agg [.imm true none 0 [], I 0]), true, none⟩] := ⟨_, rfl⟩
  obtain ⟨B0, hB0⟩ : ∃ B0 : List (AV × (List Int × Int)), B0 = List.replicate n (.agg [.imm true none 0 [], I 0], ([], 0)) := ⟨_, rfl⟩
  have k0d : K0[d]? = some (ensO (B0.map (·.1))) := by rw [hK0, List.getElem?_append_right (by omega), hB0]; simp [hd]
  have k0e : K0[e]? = some (ensO (zs.map (·.1))) := by rw [hK0, List.getElem?_append_left (by omega)]; exact he
  have k0t : Two e d H K0 := fun k o hk _ _ h => by rw [hK0, List.getElem?_append_left hk]; exact h
  rw [← hK0]
  clear hK0
  repeat first | refine AWp.seq ?_ | refine AWp.block ?_
  refine AWp.ops ?_
  simp
  have okL : ∀ z : AV × (List Int × Int), (∃ a v, z.1 = .agg [a, I v] ∧ oneC a = true) → okEl 2 z.1 = true := by
    rintro z ⟨a, v, h, ha⟩
    rw [h]; simp [ha]
  obtain ⟨J, hJ⟩ : ∃ J : Nat → List AV → List AObj → Prop, J = fun run fr K => (0 < run ∧ run ≤ 2 * n + 1) ∧ ∃ p q B, (p = e ∧ q = d ∨ p = d ∧ q = e) ∧ B.length = n ∧ (∀ z ∈ B, ∃ a v, z.1 = .agg [a, I v] ∧ oneC a = true) ∧
      K[p]? = some (ensO ((sortRuns le run zs).map (·.1))) ∧ K[q]? = some (ensO ((B : List (AV × (List Int × Int))).map (·.1))) ∧ Two e d H K ∧
      fr = [.slc p n 0 n none, .fn (.func g) [] caps, .und, .und, .und, .slc q n 0 n none, I run, .und, .und, .und, .und, .und, .und, .und, .und, .und, .und, .und, .und, .und, .und, .und, .und, .und, .und, .und, .und, .und, .und, .und, .und, .und, .und, .und, .und, .und, .und, .und, .und, .und, .und, .und, .und, .und, .und, .und, .und, .und, .und, .und, .und, .und, .und, .und, .und, .und, .und, .und, .und, .und, .und, .und, .und, .und, .und, .und, .und, .und, .und, .und, .und, .und, .und, .und, .und, .und, .und, .und, .und, .und, .und, .und, .und, .und, .und, .und, .und, .und, .und, .und, .und, .und, .und] := ⟨_, rfl⟩
  refine AWp.block (AWp.loop J (fun run => n - run) 1 (Weak.slots [0, 1, 5, 6]) (by
    rw [hJ]
    refine ⟨⟨by omega, by omega⟩, e, d, B0, .inl ⟨rfl, rfl⟩, by rw [hB0]; simp, ?_, by rw [sortRuns_one]; exact k0e, k0d, k0t, by simp⟩
    intro z hz
    rw [hB0] at hz
    obtain ⟨_, rfl⟩ := List.mem_replicate.1 hz
    exact ⟨_, _, rfl, rfl⟩) ?_)
  intro run fr K hI
  rw [hJ] at hI
  obtain ⟨⟨hr0, hr1⟩, p, q, B1, hpq, hB1, hBok1, kp, kq1, kt1, rfl⟩ := hI
  obtain ⟨A, hA⟩ : ∃ A, A = sortRuns le run zs := ⟨_, rfl⟩
  have hAl : A.length = n := by rw [hA, sortRuns_len hr0 _ (Nat.le_refl _), hnn]
  have hAm : ∀ z ∈ A, z ∈ zs := fun z hz => sortRuns_mem _ (Nat.le_refl _) z (by rw [← hA]; exact hz)
  have hAok : ∀ z ∈ A, ∃ a v, z.1 = .agg [a, I v] ∧ oneC a = true := fun z hz => hok z (hAm z hz)
  rw [← hA] at kp
  have hpq' : p ≠ q := by rcases hpq with ⟨rfl, rfl⟩ | ⟨rfl, rfl⟩ <;> omega
  have hq2 : q = e ∨ q = d := by rcases hpq with ⟨_, h⟩ | ⟨_, h⟩ <;> omega
  repeat first | refine AWp.seq ?_ | refine AWp.block ?_
  refine AWp.ops ?_
  simp
  by_cases hrn : run < n
  case neg =>
    refine AWp.cond (b := false) (by simp; omega) (fun h => by cases h) (fun _ => ?_)
    refine AWp.exit ?_
    simp [qSeq, qBlock]
    repeat first | refine AWp.seq ?_ | refine AWp.block ?_
    refine AWp.ops ?_
    simp
    refine AWp.ret ?_
    simp
    refine retOk.of rfl ⟨p, by simp, by rcases hpq with ⟨h, _⟩ | ⟨h, _⟩ <;> omega, ?_, kt1⟩
    rw [kp, hA, sortRuns_le (by omega)]
  refine AWp.cond (b := true) (by simp; exact hrn) (fun _ => ?_) (fun h => by cases h)
  refine AWp.skip ?_
  simp only [qSeq]
  repeat first | refine AWp.seq ?_ | refine AWp.block ?_
  refine AWp.ops ?_
  simp
  have hw2 := wrap_i64 (n := 2 * (run : Int)) (by omega) (by omega)
  obtain ⟨J2, hJ2⟩ : ∃ J2 : Nat → List AV → List AObj → Prop, J2 = fun j fr K => j * (2 * run) ≤ n + 2 * run ∧ ∃ B, B.length = n ∧ (∀ z ∈ B, ∃ a v, z.1 = .agg [a, I v] ∧ oneC a = true) ∧
      K[p]? = some (ensO (A.map (·.1))) ∧ K[q]? = some (ensO ((B : List (AV × (List Int × Int))).map (·.1))) ∧ Two e d H K ∧ B.take (j * (2 * run)) = sortRuns le (2 * run) (zs.take (j * (2 * run))) ∧
      fr = [.slc p n 0 n none, .fn (.func g) [] caps, .und, .und, .und, .slc q n 0 n none, I run, I ((j * (2 * run) : Nat) : Int), .und, .und, .und, .und, .und, .und, .und, .und, .und, .und, .und, .und, .und, .und, .und, .und, .und, .und, .und, .und, .und, .und, .und, .und, .und, .und, .und, .und, .und, .und, .und, .und, .und, .und, .und, .und, .und, .und, .und, .und, .und, .und, .und, .und, .und, .und, .und, .und, .und, .und, .und, .und, .und, .und, .und, .und, .und, .und, .und, .und, .und, .und, .und, .und, .und, .und, .und, .und, .und, .und, .und, .und, .und, .und, .und, .und, .und, .und, .und, .und, .und, .und, .und, .und, .und] := ⟨_, rfl⟩
  refine AWp.block (AWp.loop J2 (fun j => n - j * (2 * run)) 0 (Weak.slots [0, 1, 5, 6, 7]) (by
    rw [hJ2]
    refine ⟨by omega, B1, hB1, hBok1, kp, kq1, kt1, by simp [sortRuns_nil], by simp⟩) ?_)
  intro j fr K hI
  rw [hJ2] at hI
  obtain ⟨hj1, B2, hB2, hBok2, kp2, kq2, kt2, hB2t, rfl⟩ := hI
  obtain ⟨fm, hfm⟩ : ∃ fm, fm = j * (2 * run) := ⟨_, rfl⟩
  rw [← hfm] at hj1 hB2t ⊢
  repeat first | refine AWp.seq ?_ | refine AWp.block ?_
  refine AWp.ops ?_
  simp
  by_cases hfn : fm < n
  case neg =>
    refine AWp.cond (b := false) (by simp; omega) (fun h => by cases h) (fun _ => ?_)
    refine AWp.exit ?_
    simp [qSeq, qBlock]
    have hBs : B2 = sortRuns le (2 * run) zs := by
      rw [List.take_of_length_le (by omega), List.take_of_length_le (by omega)] at hB2t
      exact hB2t
    repeat first | refine AWp.seq ?_ | refine AWp.block ?_
    refine AWp.ops ?_
    simp
    repeat first | refine AWp.seq ?_ | refine AWp.block ?_
    refine AWp.ops ?_
    simp [show IntKind.i64.wrap ((run : Int) * 2) = ((run * 2 : Nat) : Int) from by rw [wrap_i64 (by omega) (by omega)]; omega]
    refine ⟨2 * run, _, _, Weak.slots [0, 1, 5, 6], ?_, by omega⟩
    rw [hJ]
    refine ⟨⟨by omega, by omega⟩, q, p, A, by rcases hpq with ⟨a, b⟩ | ⟨a, b⟩ <;> simp [a, b], hAl, hAok, by rw [← hBs]; exact kq2, kp2, kt2, by simp; omega⟩
  refine AWp.cond (b := true) (by simp; exact hfn) (fun _ => ?_) (fun h => by cases h)
  refine AWp.skip ?_
  simp only [qSeq]
  obtain ⟨X, hX⟩ : ∃ X, X = (A.drop fm).take run := ⟨_, rfl⟩
  obtain ⟨Y, hY⟩ : ∃ Y, Y = (A.drop (fm + run)).take run := ⟨_, rfl⟩
  have hXl : X.length = min run (n - fm) := by rw [hX]; simp [hAl]
  have hYl : Y.length = min run (n - (fm + run)) := by rw [hY]; simp [hAl]
  have w1 := wrap_i64 (n := (fm : Int) + run) (by omega) (by omega)
  have w2 := wrap_i64 (n := (fm : Int) + 2 * run) (by omega) (by omega)
  obtain ⟨mid, hmid⟩ : ∃ mid, mid = fm + X.length := ⟨_, rfl⟩
  obtain ⟨to, hto⟩ : ∃ to, to = mid + Y.length := ⟨_, rfl⟩
  have e1 : (if (n : Int) < fm + run then (n : Int) else fm + run) = mid := by split <;> omega
  have e2 : (if (n : Int) < fm + 2 * run then (n : Int) else fm + 2 * run) = to := by split <;> omega
  repeat first | refine AWp.seq ?_ | refine AWp.block ?_
  refine AWp.ops ?_
  simp [w1, w2, hw2, e1, e2]
  repeat first | refine AWp.seq ?_ | refine AWp.block ?_
  refine AWp.ops ?_
  simp
  repeat first | refine AWp.seq ?_ | refine AWp.block ?_
  refine AWp.ops ?_
  simp
  have hfr : fm + run ≤ n → X.length = run := fun h => by omega
  have hXA : ∀ i (h : i < X.length), (A.map (·.1))[fm + i]? = some X[i].1 := fun i h => by
    have : A[fm + i]? = some X[i] := by
      simp only [hX, List.getElem_take, List.getElem_drop]
      rw [List.getElem?_eq_getElem]
    rw [List.getElem?_map, this]; rfl
  have hYA : ∀ i (h : i < Y.length), (A.map (·.1))[mid + i]? = some Y[i].1 := fun i h => by
    have hm : mid = fm + run := by omega
    have : A[mid + i]? = some Y[i] := by
      simp only [hY, hm, List.getElem_take, List.getElem_drop]
      rw [List.getElem?_eq_getElem]
    rw [List.getElem?_map, this]; rfl
  have hXm : ∀ z ∈ X, z ∈ zs := fun z hz => hAm z (by rw [hX] at hz; exact List.mem_of_mem_drop (List.mem_of_mem_take hz))
  have hYm : ∀ z ∈ Y, z ∈ zs := fun z hz => hAm z (by rw [hY] at hz; exact List.mem_of_mem_drop (List.mem_of_mem_take hz))
  obtain ⟨J3, hJ3⟩ : ∃ J3 : Nat × Nat → List AV → List AObj → Prop, J3 = fun ij fr K => (ij.1 ≤ X.length ∧ ij.2 ≤ Y.length) ∧ ∃ B, B.length = n ∧ (∀ z ∈ B, ∃ a v, z.1 = .agg [a, I v] ∧ oneC a = true) ∧
      K[p]? = some (ensO (A.map (·.1))) ∧ K[q]? = some (ensO ((B : List (AV × (List Int × Int))).map (·.1))) ∧ Two e d H K ∧ B.take (fm + ij.1 + ij.2) ++ List.merge (X.drop ij.1) (Y.drop ij.2) le = B2.take fm ++ List.merge X Y le ∧
      fr = [.slc p n 0 n none, .fn (.func g) [] caps, .und, .und, .und, .slc q n 0 n none, I run, I fm, I mid, I to, I ((fm + ij.1 : Nat) : Int), I ((mid + ij.2 : Nat) : Int), I ((fm + ij.1 + ij.2 : Nat) : Int), .und, .und, .und, .und, .und, .und, .und, .und, .und, .und, .und, .und, .und, .und, .und, .und, .und, .und, .und, .und, .und, .und, .und, .und, .und, .und, .und, .und, .und, .und, .und, .und, .und, .und, .und, .und, .und, .und, .und, .und, .und, .und, .und, .und, .und, .und, .und, .und, .und, .und, .und, .und, .und, .und, .und, .und, .und, .und, .und, .und, .und, .und, .und, .und, .und, .und, .und, .und, .und, .und, .und, .und, .und, .und, .und, .und, .und, .und, .und, .und] := ⟨_, rfl⟩
  have h03 : J3 (0, 0) [.slc p n 0 n none, .fn (.func g) [] caps, .und, .und, .und, .slc q n 0 n none, I run, I fm, I mid, I to, I fm, I mid, I fm, .und, .und, .und, .und, .und, .und, .und, .und, .und, .und, .und, .und, .und, .und, .und, .und, .und, .und, .und, .und, .und, .und, .und, .und, .und, .und, .und, .und, .und, .und, .und, .und, .und, .und, .und, .und, .und, .und, .und, .und, .und, .und, .und, .und, .und, .und, .und, .und, .und, .und, .und, .und, .und, .und, .und, .und, .und, .und, .und, .und, .und, .und, .und, .und, .und, .und, .und, .und, .und, .und, .und, .und, .und, .und, .und, .und, .und, .und, .und, .und] K := by
    rw [hJ3]
    exact ⟨⟨by simp, by simp⟩, B2, hB2, hBok2, kp2, kq2, kt2, by simp, by simp⟩
  refine AWp.block ?_
  refine AWp.loop J3 (fun ij => X.length + Y.length - ij.1 - ij.2) (0, 0) ((Weak.slots [0, 1, 5, 6, 7, 8, 9, 10, 11, 12]).to (by simp) rfl) h03 ?_
  rintro ⟨i, k⟩ fr K hI
  rw [hJ3] at hI
  obtain ⟨⟨hi1, hk1⟩, B, hB, hBok, kp3, kq3, kt3, hBt, rfl⟩ := hI
  simp only at hi1 hk1 hBt
  obtain ⟨at', hat⟩ : ∃ at', at' = fm + i + k := ⟨_, rfl⟩
  rw [← hat] at hBt ⊢
  repeat first | refine AWp.seq ?_ | refine AWp.block ?_
  refine AWp.ops ?_
  simp
  by_cases hend : at' < to
  case neg =>
    refine AWp.cond (b := false) (by simp; omega) (fun h => by cases h) (fun _ => ?_)
    refine AWp.exit ?_
    simp [qSeq, qBlock]
    have hi2 : i = X.length := by omega
    have hk2 : k = Y.length := by omega
    rw [List.drop_eq_nil_of_le (by omega), List.drop_eq_nil_of_le (by omega)] at hBt
    simp only [List.merge_right, List.append_nil] at hBt
    have hto2 : at' = to := by omega
    repeat first | refine AWp.seq ?_ | refine AWp.block ?_
    refine AWp.ops ?_
    simp [hw2, w2]
    refine ⟨j + 1, _, _, Weak.slots [0, 1, 5, 6, 7], ?_, by rw [Nat.succ_mul]; omega⟩
    rw [hJ2]
    have hsm : (j + 1) * (2 * run) = fm + 2 * run := by rw [Nat.succ_mul]; omega
    refine ⟨by omega, B, hB, hBok, kp3, kq3, kt3, ?_, by simp [hsm]⟩
    rw [hsm, hB2t] at *
    have hch := sortRuns_twice ht' htot' hr0 j zs
    rw [← hfm, ← hA, ← hX, ← hY] at hch
    rw [hch] at hBt
    have hsn := sortRuns_snoc (le := le) (r := 2 * run) (by omega) j zs (by rw [← hfm]; omega)
    rw [← hfm] at hsn
    rw [hsn, ← hBt]
    by_cases hcl : fm + 2 * run ≤ n
    · congr 1; omega
    · rw [List.take_of_length_le (by omega), List.take_of_length_le (by omega)]
  refine AWp.cond (b := true) (by simp; exact hend) (fun _ => ?_) (fun h => by cases h)
  refine AWp.skip ?_
  simp only [qSeq]
  have hbn : at' < n := by omega
  have hw3 := wrap_i64 (n := (at' : Int) + 1) (by omega) (by omega)
  obtain ⟨eA, heA⟩ : ∃ eA, eA = A.map (·.1) := ⟨_, rfl⟩
  obtain ⟨eB, heB⟩ : ∃ eB, eB = B.map (·.1) := ⟨_, rfl⟩
  have hlB : eB.length = n := by simp [heB, hB]
  have hlA : eA.length = n := by simp [heA, hAl]
  obtain ⟨ao, vo, hbo, hbo2⟩ := hBok B[at'] (List.getElem_mem (by omega))
  have gB : eB[at']? = some (.agg [ao, I vo]) := by rw [heB, List.getElem?_map, List.getElem?_eq_getElem (by omega)]; simp [hbo]
  obtain ⟨_, gB'⟩ := List.getElem?_eq_some_iff.1 gB
  have step : ∀ (z : AV × (List Int × Int)) (i' k' : Nat), (∃ a v, z.1 = .agg [a, I v] ∧ oneC a = true) → i' ≤ X.length → k' ≤ Y.length → i' + k' = i + k + 1 → List.merge (X.drop i) (Y.drop k) le = z :: List.merge (X.drop i') (Y.drop k') le →
      J3 (i', k') [.slc p n 0 n none, .fn (.func g) [] caps, .und, .und, .und, .slc q n 0 n none, I run, I fm, I mid, I to, I ((fm + i' : Nat) : Int), I ((mid + k' : Nat) : Int), I ((at' + 1 : Nat) : Int), .und, .und, .und, .und, .und, .und, .und, .und, .und, .und, .und, .und, .und, .und, .und, .und, .und, .und, .und, .und, .und, .und, .und, .und, .und, .und, .und, .und, .und, .und, .und, .und, .und, .und, .und, .und, .und, .und, .und, .und, .und, .und, .und, .und, .und, .und, .und, .und, .und, .und, .und, .und, .und, .und, .und, .und, .und, .und, .und, .und, .und, .und, .und, .und, .und, .und, .und, .und, .und, .und, .und, .und, .und, .und, .und, .und, .und, .und, .und, .und] (K.set q (ensO ((B.map (·.1)).set at' z.1))) ∧
      X.length + Y.length - i' - k' < X.length + Y.length - i - k := by
    intro z i' k' hz hi' hk' hik hm
    refine ⟨?_, by omega⟩
    rw [hJ3]
    refine ⟨⟨hi', hk'⟩, B.set at' z, by simpa using hB, ?_, by rw [gs_ne (by omega)]; exact kp3, by rw [gs_eq kq3, List.map_set], kt3.set hq2 _, ?_, by simp; omega⟩
    · intro w hw
      rcases List.mem_or_eq_of_mem_set hw with hw | rfl
      · exact hBok w hw
      · exact hz
    · rw [← hBt, hm, show fm + i' + k' = at' + 1 by omega, List.take_succ_eq_append_getElem (by simp; omega), List.take_set_of_le (by omega)]
      simp
  rw [← heA] at kp3
  rw [← heB] at kq3
  by_cases ca : i < X.length
  · have hzX := hXA i ca
    have hokX := hok X[i] (hXm _ (List.getElem_mem ca))
    have hmX : X[i] ∈ zs := hXm _ (List.getElem_mem ca)
    have hxa : fm + i < n := by omega
    have g3 : ((fm : Int) + i).toNat = fm + i := by omega
    have g4 : 0 ≤ (fm : Int) + i := by omega
    have g5 : (fm : Int) + i < n := by omega
    have g1 : (fm : Int) + i < mid := by omega
    have wa := wrap_i64 (n := (fm : Int) + i + 1) (by omega) (by omega)
    obtain ⟨xa, xv, hxe, hxo⟩ := hokX
    have hdX : X.drop i = X[i] :: X.drop (i + 1) := List.drop_eq_getElem_cons ca
    have hleft : ∀ (Y' : List (AV × (List Int × Int))), (Y' = [] ∨ ∃ y t, Y' = y :: t ∧ le X[i] y = true) → List.merge (X.drop i) Y' le = X[i] :: List.merge (X.drop (i + 1)) Y' le := by
      rintro Y' (rfl | ⟨y, t, rfl, hl⟩)
      · rw [hdX, List.merge_right, List.merge_right]
      · rw [hdX, List.cons_merge_cons, if_pos hl]
    have gX : eA[fm + i]? = some (.agg [xa, I xv]) := by rw [heA, hzX, hxe]
    obtain ⟨_, gX'⟩ := List.getElem?_eq_some_iff.1 gX
    have fin : ∀ (hm : List.merge (X.drop i) (Y.drop k) le = X[i] :: List.merge (X.drop (i + 1)) (Y.drop k) le), ∃ s' fr'' H'', Weak d [.slc p n 0 n none, .fn (.func g) [] caps, .und, .und, .und, .slc q n 0 n none, I run, I fm, I mid, I to, I ((fm : Int) + i + 1), I ((mid : Int) + k), I ((at' : Int) + 1), .und, .und, .und, .und, .und, .und, .und, .und, .und, .und, .und, .und, .und, .und, .und, .und, .und, .und, .und, .und, .und, .und, .und, .und, .und, .und, .und, .und, .und, .und, .und, .und, .und, .und, .und, .und, .und, .und, .und, .und, .und, .und, .und, .und, .und, .und, .und, .und, .und, .und, .und, .und, .und, .und, .und, .und, .und, .und, .und, .und, .und, .und, .und, .und, .und, .und, .und, .und, .und, .und, .und, .und, .und, .und, .und, .und, .und, .und, .und, .und] (K.set q ⟨38, 2, eB.set at' (.agg [xa, I xv]), true, none⟩) fr'' H'' ∧ J3 s' fr'' H'' ∧ X.length + Y.length - s'.1 - s'.2 < X.length + Y.length - i - k := by
      intro hm
      obtain ⟨h1, h2⟩ := step X[i] (i + 1) k (hok _ hmX) (by omega) hk1 (by omega) hm
      refine ⟨(i + 1, k), _, _, (Weak.refl _ _ _).to ?_ ?_, h1, h2⟩
      · simp; omega
      · rw [← heB, hxe]
    by_cases cb : k = Y.length
    · have g2 : (mid : Int) + k = to := by omega
      repeat first | refine AWp.seq ?_ | refine AWp.block ?_
      refine AWp.ops ?_
      simp [g1, g2]
      refine AWp.cond (b := true) (by simp) (fun _ => ?_) (fun h => by cases h)
      repeat first | refine AWp.seq ?_ | refine AWp.block ?_
      refine AWp.ops ?_
      simp [g1, g2, g3, g4, g5, kp3, kq3, hlA, hlB, gX, gB, hbn, hxa, hxo, gX', gB']
      repeat first | refine AWp.seq ?_ | refine AWp.block ?_
      refine AWp.ops ?_
      simp [wa]
      repeat first | refine AWp.seq ?_ | refine AWp.block ?_
      refine AWp.ops ?_
      simp [hw3]
      obtain ⟨s', fr'', H'', q1, q2, q3⟩ := fin (hleft _ (.inl (List.drop_eq_nil_of_le (by omega))))
      exact ⟨s'.1, s'.2, fr'', H'', (((Weak.slots [0, 1, 5, 6, 7, 8, 9, 10, 11, 12]).to (by simp [g2]) rfl)).trans q1, q2, q3⟩
    · have cb' : k < Y.length := by omega
      have hmY : Y[k] ∈ zs := hYm _ (List.getElem_mem cb')
      obtain ⟨ya, yv, hye, hyo⟩ := hok Y[k] hmY
      have gY : eA[mid + k]? = some (.agg [ya, I yv]) := by rw [heA, hYA k cb', hye]
      obtain ⟨_, gY'⟩ := List.getElem?_eq_some_iff.1 gY
      have g2 : ¬ (mid : Int) + k = to := by omega
      have g6 : ((mid : Int) + k).toNat = mid + k := by omega
      have g7 : 0 ≤ (mid : Int) + k := by omega
      have g8 : (mid : Int) + k < n := by omega
      have wb := wrap_i64 (n := (mid : Int) + k + 1) (by omega) (by omega)
      have hdY : Y.drop k = Y[k] :: Y.drop (k + 1) := List.drop_eq_getElem_cons cb'
      have hcall := hg K kt3 X[i] hmX Y[k] hmY
      rw [hxe, hye] at hcall
      repeat first | refine AWp.seq ?_ | refine AWp.block ?_
      refine AWp.ops ?_
      simp [g1, g2, g3, g4, g5, g6, g7, g8, kp3, hlA, gX, gY, gX', gY', gB']
      refine hcall.mono ?_
      rintro r K' ⟨hK', rfl⟩
      subst K'
      simp [g1, g2]
      by_cases hc : cmp X[i] Y[k] ≤ 0
      · refine AWp.cond (b := true) (by simp [hc]) (fun _ => ?_) (fun h => by cases h)
        repeat first | refine AWp.seq ?_ | refine AWp.block ?_
        refine AWp.ops ?_
        simp [g1, g2, g3, g4, g5, kp3, kq3, hlA, hlB, gX, gB, hbn, hxa, hxo, gX', gY', gB']
        repeat first | refine AWp.seq ?_ | refine AWp.block ?_
        refine AWp.ops ?_
        simp [wa]
        repeat first | refine AWp.seq ?_ | refine AWp.block ?_
        refine AWp.ops ?_
        simp [hw3]
        obtain ⟨s', fr'', H'', q1, q2, q3⟩ := fin (hleft _ (.inr ⟨_, _, hdY, by rw [hle]; simpa using hc⟩))
        exact ⟨s'.1, s'.2, fr'', H'', (((Weak.slots [0, 1, 5, 6, 7, 8, 9, 10, 11, 12]).to (by simp) rfl)).trans q1, q2, q3⟩
      · refine AWp.cond (b := false) (by simp [hc]) (fun h => by cases h) (fun _ => ?_)
        have hright : List.merge (X.drop i) (Y.drop k) le = Y[k] :: List.merge (X.drop i) (Y.drop (k + 1)) le := by
          rw [hdX, hdY, List.cons_merge_cons, if_neg (by rw [hle]; simpa using hc)]
        obtain ⟨h1, h2⟩ := step Y[k] i (k + 1) (hok _ hmY) hi1 (by omega) (by omega) hright
        repeat first | refine AWp.seq ?_ | refine AWp.block ?_
        refine AWp.ops ?_
        simp [g1, g2, g6, g7, g8, kp3, kq3, hlA, hlB, gY, gB, hbn, hyo, gX', gY', gB']
        repeat first | refine AWp.seq ?_ | refine AWp.block ?_
        refine AWp.ops ?_
        simp [wb]
        repeat first | refine AWp.seq ?_ | refine AWp.block ?_
        refine AWp.ops ?_
        simp [hw3]
        refine ⟨i, k + 1, _, _, (Weak.slots [0, 1, 5, 6, 7, 8, 9, 10, 11, 12]).to ?_ ?_, h1, h2⟩
        · simp; omega
        · rw [← heB, hye]
  · have cb' : k < Y.length := by omega
    have hmY : Y[k] ∈ zs := hYm _ (List.getElem_mem cb')
    obtain ⟨ya, yv, hye, hyo⟩ := hok Y[k] hmY
    have gY : eA[mid + k]? = some (.agg [ya, I yv]) := by rw [heA, hYA k cb', hye]
    obtain ⟨_, gY'⟩ := List.getElem?_eq_some_iff.1 gY
    have g1 : ¬ (fm : Int) + i < mid := by omega
    have g1' : (mid : Int) ≤ (fm : Int) + i := by omega
    have g6 : ((mid : Int) + k).toNat = mid + k := by omega
    have g7 : 0 ≤ (mid : Int) + k := by omega
    have g8 : (mid : Int) + k < n := by omega
    have wb := wrap_i64 (n := (mid : Int) + k + 1) (by omega) (by omega)
    have hdY : Y.drop k = Y[k] :: Y.drop (k + 1) := List.drop_eq_getElem_cons cb'
    have hright : List.merge (X.drop i) (Y.drop k) le = Y[k] :: List.merge (X.drop i) (Y.drop (k + 1)) le := by
      rw [List.drop_eq_nil_of_le (by omega), hdY]; simp
    obtain ⟨h1, h2⟩ := step Y[k] i (k + 1) (hok _ hmY) hi1 (by omega) (by omega) hright
    repeat first | refine AWp.seq ?_ | refine AWp.block ?_
    refine AWp.ops ?_
    simp [g1, g1']
    refine AWp.cond (b := false) (by simp) (fun h => by cases h) (fun _ => ?_)
    repeat first | refine AWp.seq ?_ | refine AWp.block ?_
    refine AWp.ops ?_
    simp [g1, g6, g7, g8, kp3, kq3, hlA, hlB, gY, gB, hbn, hyo, gY', gB']
    repeat first | refine AWp.seq ?_ | refine AWp.block ?_
    refine AWp.ops ?_
    simp [wb]
    repeat first | refine AWp.seq ?_ | refine AWp.block ?_
    refine AWp.ops ?_
    simp [hw3]
    refine ⟨i, k + 1, _, _, (Weak.slots [0, 1, 5, 6, 7, 8, 9, 10, 11, 12]).to ?_ ?_, h1, h2⟩
    · simp; omega
    · rw [← heB, hye]
end Go.Fw
