import Derived.Test.YtkfooghdpfhiaaaFwturn1
namespace Go.Fw
open Go Go.RowKit Go.Proofs
set_option maxRecDepth 100000
set_option linter.unusedSimpArgs false
set_option linter.unusedVariables false

def ovf (n : Nat) : Nat := if 4611686018427387904 ≤ n then 0 else n
theorem ovf_lt (n : Nat) : ovf n < 4611686018427387904 := by unfold ovf; split <;> omega
def turnS : List Nat → Nat → Nat
  | [], _ => 0
  | m :: r, a => 24 * m + 24 * a + turnS r m
def lastN : List Nat → Nat → Nat
  | [], a => a
  | m :: r, _ => lastN r m
/-- How much storing anew takes. -/
def turnF (rank : Int) (xs : List Int) : Int × Int × Int :=
  if rank < 0 ∨ 4 < rank ∨ xs.any (fun x => decide (x < 0)) = true then (0, 0, 1)
  else if 4611686018427387904 ≤ 64 + turnS (xs.map Int.toNat) 1 + 8 * (rank.toNat + 1) * lastN (xs.map Int.toNat) 1 then (0, 0, 2)
  else (((64 + turnS (xs.map Int.toNat) 1 + 8 * (rank.toNat + 1) * lastN (xs.map Int.toNat) 1 : Nat) : Int), (((rank.toNat + 1) * lastN (xs.map Int.toNat) 1 : Nat) : Int), 0)

theorem times1 {ov : Bool} {x y : Nat} (hx : x < 9223372036854775808) (hy : y < 9223372036854775808) :
    ACalls Try.prog 39 [.ptr 0 1 0 0, I x, I y] [talO ov] fun r H' => r = I (ovf (x * y)) ∧ H' = [talO (ov || decide (4611686018427387904 ≤ x * y))] := by
  refine (times_spec (H := [talO ov]) (p := 0) (ov := ov) rfl hx hy).mono ?_
  rintro r H' ⟨h1, h2⟩
  unfold ovf
  by_cases h : 4611686018427387904 ≤ x * y
  · obtain ⟨rfl, rfl⟩ := h1 h
    simp [h]
  · obtain ⟨rfl, rfl⟩ := h2 (by omega)
    simp [h]
theorem plus1 {ov : Bool} {x y : Nat} (hx : x < 4611686018427387904) (hy : y < 4611686018427387904) :
    ACalls Try.prog 66 [.ptr 0 1 0 0, I x, I y] [talO ov] fun r H' => r = I (ovf (x + y)) ∧ H' = [talO (ov || decide (4611686018427387904 ≤ x + y))] := by
  refine (tplus_spec (H := [talO ov]) (p := 0) (ov := ov) rfl hx hy).mono ?_
  rintro r H' ⟨h1, h2⟩
  unfold ovf
  by_cases h : 4611686018427387904 ≤ x + y
  · obtain ⟨rfl, rfl⟩ := h1 h
    simp [h]
  · obtain ⟨rfl, rfl⟩ := h2 (by omega)
    simp [h]
theorem turn_step {ov : Bool} {f a m K : Nat} {r : List Nat} (h1 : ov = false → f + turnS (m :: r) a = K) (h2 : ov = true → 4611686018427387904 ≤ K) :
    ((ov || decide (4611686018427387904 ≤ 24 * m) || decide (4611686018427387904 ≤ 24 * a) || decide (4611686018427387904 ≤ ovf (24 * m) + ovf (24 * a)) || decide (4611686018427387904 ≤ f + ovf (ovf (24 * m) + ovf (24 * a)))) = false → ovf (f + ovf (ovf (24 * m) + ovf (24 * a))) + turnS r m = K) ∧
    ((ov || decide (4611686018427387904 ≤ 24 * m) || decide (4611686018427387904 ≤ 24 * a) || decide (4611686018427387904 ≤ ovf (24 * m) + ovf (24 * a)) || decide (4611686018427387904 ≤ f + ovf (ovf (24 * m) + ovf (24 * a)))) = true → 4611686018427387904 ≤ K) := by
  cases ov with
  | true => exact ⟨fun h => by simp at h, fun _ => h2 rfl⟩
  | false =>
    have h1 := h1 rfl
    simp only [turnS] at h1
    by_cases c1 : 4611686018427387904 ≤ 24 * m
    · exact ⟨fun h => by simp [c1] at h, fun _ => by omega⟩
    by_cases c2 : 4611686018427387904 ≤ 24 * a
    · exact ⟨fun h => by simp [c2] at h, fun _ => by omega⟩
    have e1 : ovf (24 * m) = 24 * m := by simp [ovf, c1]
    have e2 : ovf (24 * a) = 24 * a := by simp [ovf, c2]
    rw [e1, e2]
    by_cases c3 : 4611686018427387904 ≤ 24 * m + 24 * a
    · exact ⟨fun h => by simp [c3] at h, fun _ => by omega⟩
    have e3 : ovf (24 * m + 24 * a) = 24 * m + 24 * a := by simp [ovf, c3]
    rw [e3]
    by_cases c4 : 4611686018427387904 ≤ f + (24 * m + 24 * a)
    · exact ⟨fun h => by simp [c4] at h, fun _ => by omega⟩
    have e4 : ovf (f + (24 * m + 24 * a)) = f + (24 * m + 24 * a) := by simp [ovf, c4]
    rw [e4]
    exact ⟨fun _ => by omega, fun h => by simp [c1, c2, c3, c4] at h⟩

def turn1_1 : AC := (.seq (.ops [⟨(some 3), none, (.k (.mov (.t 0)))⟩, ⟨(some 4), none, (.k (.bin .lss (.t 3) (.c (.sc (.int .i64 0)))))⟩, ⟨(some 2), none, (.k (.mov (.t 4)))⟩]) .ret)
def turn1_ac : AC := (.seq (.ops [⟨(some 2), none, (.k (.mov (.c (.sc (.bool false)))))⟩]) turn1_1)
theorem turn1_call {args : List AV} {H : List AObj} {R : AV → List AObj → Prop} (h : AWp Try.prog [] H.length turn1_ac (bodyQ H.length [(.t 2)] R) (args ++ List.replicate (5 - args.length) .und) H) : ACalls Try.prog 65 args H R :=
  ACalls.of_fn Try.func65 rfl (by kernel_rfl) rfl Try.ntmps65 h

theorem turn1_spec (x : Int) : ACalls Try.prog 65 [I x] [] fun r H' => H' = [] ∧ r = Bo (decide (x < 0)) := by
  apply turn1_call
  first | refine AWp.seq (AWp.ops ?_) | refine AWp.seq (AWp.seq (AWp.ops ?_)) | refine AWp.ops ?_ | refine AWp.seq (AWp.block (AWp.seq (AWp.ops ?_))) | refine AWp.seq (AWp.seq (AWp.seq (AWp.ops ?_))) | refine AWp.block (AWp.seq (AWp.ops ?_)) | refine AWp.block (AWp.seq (AWp.seq (AWp.ops ?_))) | refine AWp.seq (AWp.block (AWp.seq (AWp.seq (AWp.ops ?_))))
  simp
  first | refine AWp.seq (AWp.ops ?_) | refine AWp.seq (AWp.seq (AWp.ops ?_)) | refine AWp.ops ?_ | refine AWp.seq (AWp.block (AWp.seq (AWp.ops ?_))) | refine AWp.seq (AWp.seq (AWp.seq (AWp.ops ?_))) | refine AWp.block (AWp.seq (AWp.ops ?_)) | refine AWp.block (AWp.seq (AWp.seq (AWp.ops ?_))) | refine AWp.seq (AWp.block (AWp.seq (AWp.seq (AWp.ops ?_))))
  simp
  refine AWp.ret ?_
  simp
  refine retOk.of rfl ⟨rfl, by simp⟩

def zTurn_23 : AC := (.seq (.ops [⟨(some 62), none, (.k (.mov (.t 8)))⟩, ⟨(some 63), none, (.k (.mov (.t 12)))⟩, ⟨(some 4), none, (.k (.mov (.t 62)))⟩, ⟨(some 5), none, (.k (.mov (.t 63)))⟩, ⟨(some 6), none, (.k (.mov (.c (.sc (.int .i64 0)))))⟩]) .ret)
def zTurn_22 : AC := (.seq (.ops [⟨(some 4), none, (.k (.mov (.c (.sc (.int .i64 0)))))⟩, ⟨(some 5), none, (.k (.mov (.c (.sc (.int .i64 0)))))⟩, ⟨(some 6), none, (.k (.mov (.c (.sc (.int .i64 2)))))⟩]) .ret)
def zTurn_21 : AC := (.cond (.t 61) zTurn_22 .skip)
def zTurn_20 : AC := (.seq (.ops [⟨(some 58), none, (.k (.mov (.t 7)))⟩, ⟨(some 59), none, (.k (.nck (.t 58)))⟩, ⟨(some 60), none, (.k (.fad 0 (.t 59)))⟩, ⟨(some 61), none, (.k (.ld 1 false (.t 60)))⟩]) zTurn_21)
def zTurn_19 : AC := (.seq zTurn_20 zTurn_23)
def zTurn_18 : AC := (.seq (.ops [⟨(some 53), none, (.k (.mov (.t 7)))⟩, ⟨(some 54), none, (.k (.mov (.t 0)))⟩, ⟨(some 55), none, (.k (.bin .add (.t 54) (.c (.sc (.int .i64 1)))))⟩, ⟨(some 56), none, (.k (.mov (.t 9)))⟩, ⟨(some 57), none, (.call false (.c (.fn (.func 39) [] [])) [(.t 53), (.t 55), (.t 56)])⟩, ⟨(some 12), none, (.k (.mov (.t 57)))⟩]) zTurn_19)
def zTurn_17 : AC := (.seq (.ops [⟨(some 44), none, (.k (.mov (.t 7)))⟩, ⟨(some 45), none, (.k (.mov (.t 8)))⟩, ⟨(some 46), none, (.k (.mov (.t 7)))⟩, ⟨(some 47), none, (.k (.mov (.t 0)))⟩, ⟨(some 48), none, (.k (.bin .add (.t 47) (.c (.sc (.int .i64 1)))))⟩, ⟨(some 49), none, (.k (.bin .mul (.c (.sc (.int .i64 8))) (.t 48)))⟩, ⟨(some 50), none, (.k (.mov (.t 9)))⟩, ⟨(some 51), none, (.call false (.c (.fn (.func 39) [] [])) [(.t 46), (.t 49), (.t 50)])⟩, ⟨(some 52), none, (.call false (.c (.fn (.func 66) [] [])) [(.t 44), (.t 45), (.t 51)])⟩, ⟨(some 8), none, (.k (.mov (.t 52)))⟩]) zTurn_18)
def zTurn_16 : AC := (.seq (.ops [⟨(some 31), none, (.k (.mov (.t 7)))⟩, ⟨(some 32), none, (.k (.mov (.t 8)))⟩, ⟨(some 33), none, (.k (.mov (.t 7)))⟩, ⟨(some 34), none, (.k (.mov (.t 7)))⟩, ⟨(some 35), none, (.k (.mov (.t 11)))⟩, ⟨(some 36), none, (.call false (.c (.fn (.func 39) [] [])) [(.t 34), (.c (.sc (.int .i64 24))), (.t 35)])⟩, ⟨(some 37), none, (.k (.mov (.t 7)))⟩, ⟨(some 38), none, (.k (.mov (.t 9)))⟩, ⟨(some 39), none, (.call false (.c (.fn (.func 39) [] [])) [(.t 37), (.c (.sc (.int .i64 24))), (.t 38)])⟩, ⟨(some 40), none, (.call false (.c (.fn (.func 66) [] [])) [(.t 33), (.t 36), (.t 39)])⟩, ⟨(some 41), none, (.call false (.c (.fn (.func 66) [] [])) [(.t 31), (.t 32), (.t 40)])⟩, ⟨(some 8), none, (.k (.mov (.t 41)))⟩]) (.ops [⟨(some 42), none, (.k (.mov (.t 11)))⟩, ⟨(some 9), none, (.k (.mov (.t 42)))⟩]))
def zTurn_15 : AC := (.seq (.ops [⟨(some 29), none, (.k (.iad 1 (.t 25) (.t 27)))⟩, ⟨(some 30), none, (.k (.ld 1 false (.t 29)))⟩, ⟨(some 11), none, (.k (.mov (.t 30)))⟩]) zTurn_16)
def zTurn_14 : AC := (.block 1 zTurn_15)
def zTurn_13 : AC := (.seq zTurn_14 (.ops [⟨(some 43), none, (.k (.bin .add (.t 27) (.c (.sc (.int .i64 1)))))⟩, ⟨(some 27), none, (.k (.mov (.t 43)))⟩]))
def zTurn_12 : AC := (.seq (.cond (.t 28) .skip (.exit 0)) zTurn_13)
def zTurn_11 : AC := (.seq (.ops [⟨(some 28), none, (.k (.bin .lss (.t 27) (.t 26)))⟩]) zTurn_12)
def zTurn_10 : AC := (.loop zTurn_11)
def zTurn_9 : AC := (.block 0 zTurn_10)
def zTurn_8 : AC := (.seq (.ops [⟨(some 25), none, (.k (.mov (.t 1)))⟩, ⟨(some 26), none, (.k (.len (.t 25)))⟩, ⟨(some 27), none, (.k (.mov (.c (.sc (.int .i64 0)))))⟩]) zTurn_9)
def zTurn_7 : AC := (.seq zTurn_8 zTurn_17)
def zTurn_6 : AC := (.seq (.ops [⟨(some 8), none, (.k (.mov (.c (.sc (.int .i64 64)))))⟩, ⟨(some 9), none, (.k (.mov (.c (.sc (.int .i64 1)))))⟩]) zTurn_7)
def zTurn_5 : AC := (.seq (.ops [⟨(some 23), none, (.k (.mk [(.sc (.bool false))] []))⟩, ⟨(some 24), none, (.k (.new 65 1 (.t 23)))⟩, ⟨(some 7), none, (.k (.mov (.t 24)))⟩]) zTurn_6)
def zTurn_4 : AC := (.seq (.ops [⟨(some 4), none, (.k (.mov (.c (.sc (.int .i64 0)))))⟩, ⟨(some 5), none, (.k (.mov (.c (.sc (.int .i64 0)))))⟩, ⟨(some 6), none, (.k (.mov (.c (.sc (.int .i64 1)))))⟩]) .ret)
def zTurn_3 : AC := (.cond (.t 22) zTurn_4 .skip)
def zTurn_2 : AC := (.seq (.ops [⟨(some 13), none, (.k (.mov (.t 0)))⟩, ⟨(some 14), none, (.k (.bin .lss (.t 13) (.c (.sc (.int .i64 0)))))⟩, ⟨(some 15), none, (.k (.mov (.t 14)))⟩, ⟨(some 16), (some (15, false)), (.k (.mov (.t 0)))⟩, ⟨(some 17), (some (15, false)), (.k (.bin .gtr (.t 16) (.c (.sc (.int .i64 4)))))⟩, ⟨(some 18), none, (.k (.pick (.t 15) (.c (.sc (.bool true))) (.t 17)))⟩, ⟨(some 19), none, (.k (.mov (.t 18)))⟩, ⟨(some 20), (some (19, false)), (.k (.mov (.t 1)))⟩, ⟨(some 21), (some (19, false)), (.call false (.c (.fn (.func 56) [] [])) [(.t 20), (.c (.fn (.func 65) [] []))])⟩, ⟨(some 22), none, (.k (.pick (.t 19) (.c (.sc (.bool true))) (.t 21)))⟩]) zTurn_3)
def zTurn_1 : AC := (.seq zTurn_2 zTurn_5)
def zTurn_ac : AC := (.seq (.ops [⟨(some 4), none, (.k (.mov (.c (.sc (.int .i64 0)))))⟩, ⟨(some 5), none, (.k (.mov (.c (.sc (.int .i64 0)))))⟩, ⟨(some 6), none, (.k (.mov (.c (.sc (.int .i64 0)))))⟩]) zTurn_1)
theorem zTurn_call {args : List AV} {H : List AObj} {R : AV → List AObj → Prop} (h : AWp Try.prog [] H.length zTurn_ac (bodyQ H.length [(.t 4), (.t 5), (.t 6)] R) (args ++ List.replicate (64 - args.length) .und) H) : ACalls Try.prog 32 args H R :=
  ACalls.of_fn Try.func32 rfl (by kernel_rfl) rfl Try.ntmps32 h

set_option maxHeartbeats 2000000 in
theorem zTurn_spec {a : AV} {xs : List Int} (ha : ISl a xs) {rank : Int} (hr : -9223372036854775808 ≤ rank ∧ rank ≤ 9223372036854775807) : ACalls Try.prog 32 [I rank, a] [] fun r H' => H' = [] ∧ r = .tup [I (turnF rank xs).1, I (turnF rank xs).2.1, I (turnF rank xs).2.2] := by
  have ha' := ha
  obtain ⟨⟨nl, c, sz, rfl, hs⟩, hlen, hx⟩ := ha
  have base : ACalls Try.prog 32 [I rank, .imm nl c sz (xs.map I)] [] fun r H' => r = .tup [I (turnF rank xs).1, I (turnF rank xs).2.1, I (turnF rank xs).2.2] := by
    apply zTurn_call
    first | refine AWp.seq (AWp.ops ?_) | refine AWp.seq (AWp.seq (AWp.ops ?_)) | refine AWp.ops ?_ | refine AWp.seq (AWp.block (AWp.seq (AWp.ops ?_))) | refine AWp.seq (AWp.seq (AWp.seq (AWp.ops ?_))) | refine AWp.block (AWp.seq (AWp.ops ?_)) | refine AWp.block (AWp.seq (AWp.seq (AWp.ops ?_))) | refine AWp.seq (AWp.block (AWp.seq (AWp.seq (AWp.ops ?_))))
    simp
    obtain ⟨ng, hng⟩ : ∃ ng, ng = xs.any (fun x => decide (x < 0)) := ⟨_, rfl⟩
    obtain ⟨bad, hbad⟩ : ∃ bad, bad = decide (rank < 0 ∨ 4 < rank ∨ ng = true) := ⟨_, rfl⟩
    refine AWp.seq (AWp.cut [I rank, .imm nl c sz (xs.map I), .und, .und, .und, .und, .und, .und, .und, .und, .und, .und, .und, .und, .und, .und, .und, .und, .und, .und, .und, .und, Bo bad, .und, .und, .und, .und, .und, .und, .und, .und, .und, .und, .und, .und, .und, .und, .und, .und, .und, .und, .und, .und, .und, .und, .und, .und, .und, .und, .und, .und, .und, .und, .und, .und, .und, .und, .und, .und, .und, .und, .und, .und, .und] [] ?_ ?_)
    · by_cases r0 : rank < 0
      ·
        first | refine AWp.seq (AWp.ops ?_) | refine AWp.seq (AWp.seq (AWp.ops ?_)) | refine AWp.ops ?_ | refine AWp.seq (AWp.block (AWp.seq (AWp.ops ?_))) | refine AWp.seq (AWp.seq (AWp.seq (AWp.ops ?_))) | refine AWp.block (AWp.seq (AWp.ops ?_)) | refine AWp.block (AWp.seq (AWp.seq (AWp.ops ?_))) | refine AWp.seq (AWp.block (AWp.seq (AWp.seq (AWp.ops ?_))))
        simp [r0]
        exact (Weak.slots [0, 1, 22]).to (by simp [hbad, r0]) rfl
      by_cases r1 : 4 < rank
      ·
        first | refine AWp.seq (AWp.ops ?_) | refine AWp.seq (AWp.seq (AWp.ops ?_)) | refine AWp.ops ?_ | refine AWp.seq (AWp.block (AWp.seq (AWp.ops ?_))) | refine AWp.seq (AWp.seq (AWp.seq (AWp.ops ?_))) | refine AWp.block (AWp.seq (AWp.ops ?_)) | refine AWp.block (AWp.seq (AWp.seq (AWp.ops ?_))) | refine AWp.seq (AWp.block (AWp.seq (AWp.seq (AWp.ops ?_))))
        simp [r0, r1]
        exact (Weak.slots [0, 1, 22]).to (by simp [hbad, r1]) rfl
      first | refine AWp.seq (AWp.ops ?_) | refine AWp.seq (AWp.seq (AWp.ops ?_)) | refine AWp.ops ?_ | refine AWp.seq (AWp.block (AWp.seq (AWp.ops ?_))) | refine AWp.seq (AWp.seq (AWp.seq (AWp.ops ?_))) | refine AWp.block (AWp.seq (AWp.ops ?_)) | refine AWp.block (AWp.seq (AWp.seq (AWp.ops ?_))) | refine AWp.seq (AWp.block (AWp.seq (AWp.seq (AWp.ops ?_))))
      simp [r0, r1]
      refine (ContainsFunc_spec ha' (fun x _ => turn1_spec x)).mono ?_
      rintro r H' ⟨rfl, rfl⟩
      rw [← hng]
      simp
      exact (Weak.slots [0, 1, 22]).to (by simp [hbad, r0, r1]) rfl
    refine AWp.cond (b := bad) (by simp) ?_ ?_
    · intro h
      have h : rank < 0 ∨ 4 < rank ∨ xs.any (fun x => decide (x < 0)) = true := by simpa only [hbad, hng, decide_eq_true_eq] using h
      first | refine AWp.seq (AWp.ops ?_) | refine AWp.seq (AWp.seq (AWp.ops ?_)) | refine AWp.ops ?_ | refine AWp.seq (AWp.block (AWp.seq (AWp.ops ?_))) | refine AWp.seq (AWp.seq (AWp.seq (AWp.ops ?_))) | refine AWp.block (AWp.seq (AWp.ops ?_)) | refine AWp.block (AWp.seq (AWp.seq (AWp.ops ?_))) | refine AWp.seq (AWp.block (AWp.seq (AWp.seq (AWp.ops ?_))))
      simp
      refine AWp.ret ?_
      simp
      refine retOk.of rfl ?_
      rw [turnF, if_pos h]; simp
    intro h
    have hg : ¬ (rank < 0 ∨ 4 < rank ∨ xs.any (fun x => decide (x < 0)) = true) := by simpa only [hbad, hng, decide_eq_false_iff_not] using h
    have hpos : ∀ x ∈ xs, 0 ≤ x := by
      intro x hm
      have : xs.any (fun x => decide (x < 0)) = false := by
        cases h : xs.any (fun x => decide (x < 0)) with
        | false => rfl
        | true => exact absurd (.inr (.inr h)) hg
      have := List.any_eq_false.1 this x hm
      simpa using this
    obtain ⟨k, hk⟩ : ∃ k : Nat, rank = k := ⟨rank.toNat, by omega⟩
    have hk4 : k ≤ 4 := by omega
    obtain ⟨ns, hns⟩ : ∃ ns : List Nat, ns = xs.map Int.toNat := ⟨_, rfl⟩
    have hnl : ns.length = xs.length := by rw [hns]; simp
    have hng : ∀ i (h : i < xs.length), xs[i] = (ns[i]'(by omega) : Nat) := by
      intro i h
      have := hpos xs[i] (List.getElem_mem h)
      simp only [hns, List.getElem_map]
      omega
    subst hk
    have hT : turnF k xs = if 4611686018427387904 ≤ 64 + turnS ns 1 + 8 * (k + 1) * lastN ns 1 then (0, 0, 2) else (((64 + turnS ns 1 + 8 * (k + 1) * lastN ns 1 : Nat) : Int), (((k + 1) * lastN ns 1 : Nat) : Int), 0) := by
      rw [turnF, if_neg hg, Int.toNat_natCast, ← hns]
    obtain ⟨S, hS⟩ : ∃ S, S = turnS ns 1 := ⟨_, rfl⟩
    obtain ⟨L, hL⟩ : ∃ L, L = lastN ns 1 := ⟨_, rfl⟩
    rw [← hS, ← hL] at hT
    obtain ⟨CC, hCC⟩ : ∃ CC, CC = (k + 1) * L := ⟨_, rfl⟩
    obtain ⟨TT, hTT⟩ : ∃ TT, TT = 64 + S + 8 * (k + 1) * L := ⟨_, rfl⟩
    rw [← hCC, ← hTT] at hT
    rw [Nat.mul_assoc, ← hCC] at hTT
    rw [hT]
    refine AWp.skip ?_
    simp only [qSeq]
    first | refine AWp.seq (AWp.ops ?_) | refine AWp.seq (AWp.seq (AWp.ops ?_)) | refine AWp.ops ?_ | refine AWp.seq (AWp.block (AWp.seq (AWp.ops ?_))) | refine AWp.seq (AWp.seq (AWp.seq (AWp.ops ?_))) | refine AWp.block (AWp.seq (AWp.ops ?_)) | refine AWp.block (AWp.seq (AWp.seq (AWp.ops ?_))) | refine AWp.seq (AWp.block (AWp.seq (AWp.seq (AWp.ops ?_))))
    simp
    first | refine AWp.seq (AWp.ops ?_) | refine AWp.seq (AWp.seq (AWp.ops ?_)) | refine AWp.ops ?_ | refine AWp.seq (AWp.block (AWp.seq (AWp.ops ?_))) | refine AWp.seq (AWp.seq (AWp.seq (AWp.ops ?_))) | refine AWp.block (AWp.seq (AWp.ops ?_)) | refine AWp.block (AWp.seq (AWp.seq (AWp.ops ?_))) | refine AWp.seq (AWp.block (AWp.seq (AWp.seq (AWp.ops ?_))))
    simp
    first | refine AWp.seq (AWp.ops ?_) | refine AWp.seq (AWp.seq (AWp.ops ?_)) | refine AWp.ops ?_ | refine AWp.seq (AWp.block (AWp.seq (AWp.ops ?_))) | refine AWp.seq (AWp.seq (AWp.seq (AWp.ops ?_))) | refine AWp.block (AWp.seq (AWp.ops ?_)) | refine AWp.block (AWp.seq (AWp.seq (AWp.ops ?_))) | refine AWp.seq (AWp.block (AWp.seq (AWp.seq (AWp.ops ?_))))
    simp
    obtain ⟨J, hJ⟩ : ∃ J : Nat → List AV → List AObj → Prop, J = fun i fr H => i ≤ xs.length ∧ ∃ (ov : Bool) (f a : Nat), ((f < 4611686018427387904 ∧ a < 9223372036854775808) ∧ ((ov = false → f + turnS (ns.drop i) a = 64 + S) ∧ (ov = true → 4611686018427387904 ≤ 64 + S)) ∧ lastN (ns.drop i) a = L) ∧ H = [talO ov] ∧
      fr = [I k, .und, .und, .und, .und, .und, .und, .ptr 0 1 0 0, I f, I a, .und, .und, .und, .und, .und, .und, .und, .und, .und, .und, .und, .und, .und, .und, .und, .imm nl c sz (xs.map I), I xs.length, I i, .und, .und, .und, .und, .und, .und, .und, .und, .und, .und, .und, .und, .und, .und, .und, .und, .und, .und, .und, .und, .und, .und, .und, .und, .und, .und, .und, .und, .und, .und, .und, .und, .und, .und, .und, .und] := ⟨_, rfl⟩
    refine AWp.block (AWp.loop J (fun i => xs.length - i) 0 (Weak.slots [0, 7, 8, 9, 25, 26, 27]) (by rw [hJ]; exact ⟨by omega, false, 64, 1, ⟨⟨by omega, by omega⟩, ⟨fun _ => by rw [hS]; rfl, fun h => by cases h⟩, hL.symm⟩, by simp, by simp⟩) ?_)
    intro i fr H hI
    rw [hJ] at hI
    obtain ⟨hi, ov, f, a, hinv, rfl, rfl⟩ := hI
    first | refine AWp.seq (AWp.ops ?_) | refine AWp.seq (AWp.seq (AWp.ops ?_)) | refine AWp.ops ?_ | refine AWp.seq (AWp.block (AWp.seq (AWp.ops ?_))) | refine AWp.seq (AWp.seq (AWp.seq (AWp.ops ?_))) | refine AWp.block (AWp.seq (AWp.ops ?_)) | refine AWp.block (AWp.seq (AWp.seq (AWp.ops ?_))) | refine AWp.seq (AWp.block (AWp.seq (AWp.seq (AWp.ops ?_))))
    simp
    refine AWp.seq (AWp.cond (b := decide (i < xs.length)) (by simp <;> omega) ?_ ?_)
    ·
      intro hb
      have hb : i < xs.length := by simpa using hb
      refine AWp.skip ?_
      simp only [qSeq]
      obtain ⟨⟨hf, ha⟩, ⟨i1, i2⟩, i3⟩ := hinv
      have hbn : i < ns.length := by omega
      have hsz := sz_of hs hb
      subst hsz
      have hxi := hng i hb
      have hxr := hx xs[i] (List.getElem_mem hb)
      rw [List.drop_eq_getElem_cons hbn] at i1 i3
      generalize ns[i] = m at hxi i1 i3
      first | refine AWp.seq (AWp.ops ?_) | refine AWp.seq (AWp.seq (AWp.ops ?_)) | refine AWp.ops ?_ | refine AWp.seq (AWp.block (AWp.seq (AWp.ops ?_))) | refine AWp.seq (AWp.seq (AWp.seq (AWp.ops ?_))) | refine AWp.block (AWp.seq (AWp.ops ?_)) | refine AWp.block (AWp.seq (AWp.seq (AWp.ops ?_))) | refine AWp.seq (AWp.block (AWp.seq (AWp.seq (AWp.ops ?_))))
      simp [hb, hxi]
      first | refine AWp.seq (AWp.ops ?_) | refine AWp.seq (AWp.seq (AWp.ops ?_)) | refine AWp.ops ?_ | refine AWp.seq (AWp.block (AWp.seq (AWp.ops ?_))) | refine AWp.seq (AWp.seq (AWp.seq (AWp.ops ?_))) | refine AWp.block (AWp.seq (AWp.ops ?_)) | refine AWp.block (AWp.seq (AWp.seq (AWp.ops ?_))) | refine AWp.seq (AWp.block (AWp.seq (AWp.seq (AWp.ops ?_))))
      simp
      refine (times1 (ov := ov) (x := 24) (y := m) (by omega) (by omega)).mono ?_
      rintro r H' ⟨rfl, rfl⟩
      simp
      refine (times1 (x := 24) (y := a) (by omega) (by omega)).mono ?_
      rintro r H' ⟨rfl, rfl⟩
      simp
      refine (plus1 (ovf_lt _) (ovf_lt _)).mono ?_
      rintro r H' ⟨rfl, rfl⟩
      simp
      refine (plus1 hf (ovf_lt _)).mono ?_
      rintro r H' ⟨rfl, rfl⟩
      simp
      first | refine AWp.seq (AWp.ops ?_) | refine AWp.seq (AWp.seq (AWp.ops ?_)) | refine AWp.ops ?_ | refine AWp.seq (AWp.block (AWp.seq (AWp.ops ?_))) | refine AWp.seq (AWp.seq (AWp.seq (AWp.ops ?_))) | refine AWp.block (AWp.seq (AWp.ops ?_)) | refine AWp.block (AWp.seq (AWp.seq (AWp.ops ?_))) | refine AWp.seq (AWp.block (AWp.seq (AWp.seq (AWp.ops ?_))))
      simp
      first | refine AWp.seq (AWp.ops ?_) | refine AWp.seq (AWp.seq (AWp.ops ?_)) | refine AWp.ops ?_ | refine AWp.seq (AWp.block (AWp.seq (AWp.ops ?_))) | refine AWp.seq (AWp.seq (AWp.seq (AWp.ops ?_))) | refine AWp.block (AWp.seq (AWp.ops ?_)) | refine AWp.block (AWp.seq (AWp.seq (AWp.ops ?_))) | refine AWp.seq (AWp.block (AWp.seq (AWp.seq (AWp.ops ?_))))
      simp
      obtain ⟨s1, s2⟩ := turn_step i1 i2
      refine ⟨i + 1, _, _, Weak.slots [0, 7, 8, 9, 25, 26, 27], ?_, by omega⟩
      rw [hJ]
      exact ⟨by omega, _, _, m, ⟨⟨ovf_lt _, by omega⟩, ⟨s1, s2⟩, i3⟩, by simp, by simp [wrap_i64 (n := (i : Int) + 1) (by omega) (by omega)]⟩
    ·
      intro hb
      have hb : ¬ i < xs.length := by simpa using hb
      refine AWp.exit ?_
      simp [qSeq, qBlock]
      obtain ⟨⟨hf, ha⟩, ⟨i1, i2⟩, i3⟩ := hinv
      rw [List.drop_eq_nil_of_le (by omega)] at i1 i3
      simp only [turnS, lastN, Nat.add_zero] at i1 i3
      subst i3
      have w1 := wrap_i64 (n := (k : Int) + 1) (by omega) (by omega)
      have w2 := wrap_i64 (n := 8 * ((k : Int) + 1)) (by omega) (by omega)
      have e1 : 8 * ((k : Int) + 1) = ((8 * (k + 1) : Nat) : Int) := by omega
      have e2 : (k : Int) + 1 = ((k + 1 : Nat) : Int) := by omega
      first | refine AWp.seq (AWp.ops ?_) | refine AWp.seq (AWp.seq (AWp.ops ?_)) | refine AWp.ops ?_ | refine AWp.seq (AWp.block (AWp.seq (AWp.ops ?_))) | refine AWp.seq (AWp.seq (AWp.seq (AWp.ops ?_))) | refine AWp.block (AWp.seq (AWp.ops ?_)) | refine AWp.block (AWp.seq (AWp.seq (AWp.ops ?_))) | refine AWp.seq (AWp.block (AWp.seq (AWp.seq (AWp.ops ?_))))
      simp [w1, w2]
      rw [e1]
      refine (times1 (x := 8 * (k + 1)) (y := a) (by omega) ha).mono ?_
      rintro r H' ⟨rfl, rfl⟩
      simp
      refine (plus1 hf (ovf_lt _)).mono ?_
      rintro r H' ⟨rfl, rfl⟩
      simp
      first | refine AWp.seq (AWp.ops ?_) | refine AWp.seq (AWp.seq (AWp.ops ?_)) | refine AWp.ops ?_ | refine AWp.seq (AWp.block (AWp.seq (AWp.ops ?_))) | refine AWp.seq (AWp.seq (AWp.seq (AWp.ops ?_))) | refine AWp.block (AWp.seq (AWp.ops ?_)) | refine AWp.block (AWp.seq (AWp.seq (AWp.ops ?_))) | refine AWp.seq (AWp.block (AWp.seq (AWp.seq (AWp.ops ?_))))
      simp [w1]
      rw [e2]
      refine (times1 (x := k + 1) (y := a) (by omega) ha).mono ?_
      rintro r H' ⟨rfl, rfl⟩
      simp
      rw [Nat.mul_assoc, ← hCC]
      have fin : ∀ ov', ov' = (ov || decide (4611686018427387904 ≤ 8 * CC) || decide (4611686018427387904 ≤ f + ovf (8 * CC)) || decide (4611686018427387904 ≤ CC)) →
          (ov' = true → 4611686018427387904 ≤ TT) ∧ (ov' = false → ¬ 4611686018427387904 ≤ TT ∧ ovf (f + ovf (8 * CC)) = TT ∧ ovf CC = CC) := by
        intro ov' he
        cases ov with
        | true => exact ⟨fun _ => by have := i2 rfl; omega, fun h => by rw [h] at he; simp at he⟩
        | false =>
          have i1 := i1 rfl
          by_cases c1 : 4611686018427387904 ≤ 8 * CC
          · exact ⟨fun _ => by omega, fun h => by rw [h] at he; simp [c1] at he⟩
          have e1 : ovf (8 * CC) = 8 * CC := by simp [ovf, c1]
          rw [e1] at he ⊢
          by_cases c2 : 4611686018427387904 ≤ f + 8 * CC
          · exact ⟨fun _ => by omega, fun h => by rw [h] at he; simp [c2] at he⟩
          have e2 : ovf (f + 8 * CC) = f + 8 * CC := by simp [ovf, c2]
          have c3 : ¬ 4611686018427387904 ≤ CC := by omega
          have e3 : ovf CC = CC := by simp [ovf, c3]
          rw [e2, e3]
          exact ⟨fun h => by rw [h] at he; simp [c1, c2, c3] at he, fun _ => ⟨by omega, by omega, rfl⟩⟩
      generalize hov : (ov || decide (4611686018427387904 ≤ 8 * CC) || decide (4611686018427387904 ≤ f + ovf (8 * CC)) || decide (4611686018427387904 ≤ CC)) = ov'
      obtain ⟨f1, f2⟩ := fin ov' hov.symm
      first | refine AWp.seq (AWp.ops ?_) | refine AWp.seq (AWp.seq (AWp.ops ?_)) | refine AWp.ops ?_ | refine AWp.seq (AWp.block (AWp.seq (AWp.ops ?_))) | refine AWp.seq (AWp.seq (AWp.seq (AWp.ops ?_))) | refine AWp.block (AWp.seq (AWp.ops ?_)) | refine AWp.block (AWp.seq (AWp.seq (AWp.ops ?_))) | refine AWp.seq (AWp.block (AWp.seq (AWp.seq (AWp.ops ?_))))
      simp
      cases ov' with
      | true =>
        have := f1 rfl
        refine AWp.cond (b := true) (by simp) (fun _ => ?_) (fun h => by cases h)
        first | refine AWp.seq (AWp.ops ?_) | refine AWp.seq (AWp.seq (AWp.ops ?_)) | refine AWp.ops ?_ | refine AWp.seq (AWp.block (AWp.seq (AWp.ops ?_))) | refine AWp.seq (AWp.seq (AWp.seq (AWp.ops ?_))) | refine AWp.block (AWp.seq (AWp.ops ?_)) | refine AWp.block (AWp.seq (AWp.seq (AWp.ops ?_))) | refine AWp.seq (AWp.block (AWp.seq (AWp.seq (AWp.ops ?_))))
        simp
        refine AWp.ret ?_
        simp
        refine retOk.of rfl ?_
        simp [this]
      | false =>
        obtain ⟨g1, g2, g3⟩ := f2 rfl
        rw [g2, g3]
        refine AWp.cond (b := false) (by simp) (fun h => by cases h) (fun _ => ?_)
        refine AWp.skip ?_
        simp only [qSeq]
        first | refine AWp.seq (AWp.ops ?_) | refine AWp.seq (AWp.seq (AWp.ops ?_)) | refine AWp.ops ?_ | refine AWp.seq (AWp.block (AWp.seq (AWp.ops ?_))) | refine AWp.seq (AWp.seq (AWp.seq (AWp.ops ?_))) | refine AWp.block (AWp.seq (AWp.ops ?_)) | refine AWp.block (AWp.seq (AWp.seq (AWp.ops ?_))) | refine AWp.seq (AWp.block (AWp.seq (AWp.seq (AWp.ops ?_))))
        simp
        refine AWp.ret ?_
        simp
        refine retOk.of rfl ?_
        simp [g1]
  refine (base.frozen 2).mono ?_
  rintro q H' ⟨rfl, r, G, rfl, rfl⟩
  exact ⟨rfl, by simp⟩
end Go.Fw
