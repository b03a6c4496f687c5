import Derived.Test.YtgdkdojjfijipaaFwslices
import Derived.Test.YtgdkdojjfijipaaFwmul0
namespace Go.Fw
open Go Go.RowKit Go.Proofs
set_option maxRecDepth 100000
set_option linter.unusedSimpArgs false
set_option linter.unusedVariables false

def neg_1 : AC := (.seq (.ops [⟨(some 3), none, (.k (.mov (.t 0)))⟩, ⟨(some 4), none, (.k (.bin .lss (.t 3) (.c (.sc (.int .i64 0)))))⟩, ⟨(some 2), none, (.k (.mov (.t 4)))⟩]) .ret)
def neg_ac : AC := (.seq (.ops [⟨(some 2), none, (.k (.mov (.c (.sc (.bool false)))))⟩]) neg_1)
theorem neg_call {args : List AV} {H : List AObj} {R : AV → List AObj → Prop} (h : AWp Try.prog [] H.length neg_ac (bodyQ H.length [(.t 2)] R) (args ++ List.replicate (5 - args.length) .und) H) : ACalls Try.prog 70 args H R :=
  ACalls.of_fn Try.func70 rfl (by kernel_rfl) rfl Try.ntmps70 h

theorem neg_spec (x : Int) : ACalls Try.prog 70 [I x] [] fun r H' => H' = [] ∧ r = Bo (decide (x < 0)) := by
  apply neg_call
  repeat first | refine AWp.seq ?_ | refine AWp.block ?_
  refine AWp.ops ?_
  simp
  repeat first | refine AWp.seq ?_ | refine AWp.block ?_
  refine AWp.ops ?_
  simp
  refine AWp.ret ?_
  simp
  exact retOk.of rfl ⟨rfl, rfl⟩

/-! ### Cells -/
def mulAll : List Int → Int → Int × Int
  | [], n => (n, 0)
  | s :: r, n => if n * s ≥ 4611686018427387904 then (0, 2) else mulAll r (n * s)
def cells (xs : List Int) : Int × Int :=
  if xs.length > 4 ∨ xs.any (fun x => decide (x < 0)) = true then (0, 1) else if 0 ∈ xs then (0, 0) else mulAll xs 1

def Cells_21 : AC := (.seq (.ops [⟨(some 39), none, (.k (.mov (.t 4)))⟩, ⟨(some 40), none, (.k (.cvi .i64 (.t 39)))⟩, ⟨(some 2), none, (.k (.mov (.t 40)))⟩, ⟨(some 3), none, (.k (.mov (.c (.sc (.int .i64 0)))))⟩]) .ret)
def Cells_20 : AC := (.cond (.t 36) (.seq (.ops [⟨(some 2), none, (.k (.mov (.c (.sc (.int .i64 0)))))⟩, ⟨(some 3), none, (.k (.mov (.c (.sc (.int .i64 2)))))⟩]) .ret) .skip)
def Cells_19 : AC := (.seq (.ops [⟨(some 31), none, (.k (.mov (.t 7)))⟩, ⟨(some 32), none, (.k (.bin .gtr (.t 31) (.c (.sc (.int .u64 0)))))⟩, ⟨(some 33), none, (.k (.mov (.t 32)))⟩, ⟨(some 34), (some (33, false)), (.k (.mov (.t 8)))⟩, ⟨(some 35), (some (33, false)), (.k (.bin .geq (.t 34) (.c (.sc (.int .u64 4611686018427387904)))))⟩, ⟨(some 36), none, (.k (.pick (.t 33) (.c (.sc (.bool true))) (.t 35)))⟩]) Cells_20)
def Cells_18 : AC := (.seq Cells_19 (.ops [⟨(some 37), none, (.k (.mov (.t 8)))⟩, ⟨(some 4), none, (.k (.mov (.t 37)))⟩]))
def Cells_17 : AC := (.seq (.ops [⟨(some 25), none, (.k (.mov (.t 4)))⟩, ⟨(some 26), none, (.k (.mov (.t 6)))⟩, ⟨(some 27), none, (.k (.cvi .u64 (.t 26)))⟩, ⟨(some 28), none, (.call false (.c (.fn (.func 72) [] [])) [(.t 25), (.t 27)])⟩, ⟨(some 24), none, (.k (.mov (.t 28)))⟩, ⟨(some 29), none, (.k (.ext (.t 24) 0))⟩, ⟨(some 30), none, (.k (.ext (.t 24) 1))⟩, ⟨(some 7), none, (.k (.mov (.t 29)))⟩, ⟨(some 8), none, (.k (.mov (.t 30)))⟩]) Cells_18)
def Cells_16 : AC := (.seq (.ops [⟨(some 22), none, (.k (.iad 1 (.t 18) (.t 20)))⟩, ⟨(some 23), none, (.k (.ld 1 false (.t 22)))⟩, ⟨(some 6), none, (.k (.mov (.t 23)))⟩]) Cells_17)
def Cells_15 : AC := (.block 1 Cells_16)
def Cells_14 : AC := (.seq Cells_15 (.ops [⟨(some 38), none, (.k (.bin .add (.t 20) (.c (.sc (.int .i64 1)))))⟩, ⟨(some 20), none, (.k (.mov (.t 38)))⟩]))
def Cells_13 : AC := (.seq (.cond (.t 21) .skip (.exit 0)) Cells_14)
def Cells_12 : AC := (.seq (.ops [⟨(some 21), none, (.k (.bin .lss (.t 20) (.t 19)))⟩]) Cells_13)
def Cells_11 : AC := (.loop Cells_12)
def Cells_10 : AC := (.block 0 Cells_11)
def Cells_9 : AC := (.seq (.ops [⟨(some 18), none, (.k (.mov (.t 0)))⟩, ⟨(some 19), none, (.k (.len (.t 18)))⟩, ⟨(some 20), none, (.k (.mov (.c (.sc (.int .i64 0)))))⟩]) Cells_10)
def Cells_8 : AC := (.seq Cells_9 Cells_21)
def Cells_7 : AC := (.seq (.ops [⟨(some 4), none, (.k (.mov (.c (.sc (.int .u64 1)))))⟩]) Cells_8)
def Cells_6 : AC := (.cond (.t 17) (.seq (.ops [⟨(some 2), none, (.k (.mov (.c (.sc (.int .i64 0)))))⟩, ⟨(some 3), none, (.k (.mov (.c (.sc (.int .i64 0)))))⟩]) .ret) .skip)
def Cells_5 : AC := (.seq (.ops [⟨(some 16), none, (.k (.mov (.t 0)))⟩, ⟨(some 17), none, (.call false (.c (.fn (.func 71) [] [])) [(.t 16), (.c (.sc (.int .i64 0)))])⟩]) Cells_6)
def Cells_4 : AC := (.seq Cells_5 Cells_7)
def Cells_3 : AC := (.cond (.t 15) (.seq (.ops [⟨(some 2), none, (.k (.mov (.c (.sc (.int .i64 0)))))⟩, ⟨(some 3), none, (.k (.mov (.c (.sc (.int .i64 1)))))⟩]) .ret) .skip)
def Cells_2 : AC := (.seq (.ops [⟨(some 9), none, (.k (.mov (.t 0)))⟩, ⟨(some 10), none, (.k (.len (.t 9)))⟩, ⟨(some 11), none, (.k (.bin .gtr (.t 10) (.c (.sc (.int .i64 4)))))⟩, ⟨(some 12), none, (.k (.mov (.t 11)))⟩, ⟨(some 13), (some (12, false)), (.k (.mov (.t 0)))⟩, ⟨(some 14), (some (12, false)), (.call false (.c (.fn (.func 69) [] [])) [(.t 13), (.c (.fn (.func 70) [] []))])⟩, ⟨(some 15), none, (.k (.pick (.t 12) (.c (.sc (.bool true))) (.t 14)))⟩]) Cells_3)
def Cells_1 : AC := (.seq Cells_2 Cells_4)
def Cells_ac : AC := (.seq (.ops [⟨(some 2), none, (.k (.mov (.c (.sc (.int .i64 0)))))⟩, ⟨(some 3), none, (.k (.mov (.c (.sc (.int .i64 0)))))⟩]) Cells_1)
theorem Cells_call {args : List AV} {H : List AObj} {R : AV → List AObj → Prop} (h : AWp Try.prog [] H.length Cells_ac (bodyQ H.length [(.t 2), (.t 3)] R) (args ++ List.replicate (41 - args.length) .und) H) : ACalls Try.prog 42 args H R :=
  ACalls.of_fn Try.func42 rfl (by kernel_rfl) rfl Try.ntmps42 h

theorem Cells_spec {a : AV} {xs : List Int} (ha : ISl a xs) : ACalls Try.prog 42 [a] [] fun r H' => H' = [] ∧ r = .tup [I (cells xs).1, I (cells xs).2] := by
  have ha' := ha
  obtain ⟨⟨nl, c, sz, rfl, hs⟩, hlen, hx⟩ := ha
  apply Cells_call
  repeat first | refine AWp.seq ?_ | refine AWp.block ?_
  refine AWp.ops ?_
  simp
  refine AWp.seq (AWp.seq (AWp.ops ?_))
  rcases Int.lt_or_le 4 (xs.length : Int) with h4 | h4
  · simp [h4]
    refine AWp.cond (b := true) (by simp) (fun _ => ?_) (fun h => by cases h)
    repeat first | refine AWp.seq ?_ | refine AWp.block ?_
    refine AWp.ops ?_
    simp
    refine AWp.ret ?_
    simp
    refine retOk.of rfl ⟨rfl, ?_⟩
    have : xs.length > 4 := by omega
    simp [cells, this]
  simp [Int.not_lt.2 h4]
  refine (ContainsFunc_spec (p := fun x => decide (x < 0)) ha' fun x _ => neg_spec x).mono ?_
  rintro r H' ⟨rfl, rfl⟩
  simp
  refine AWp.cond (b := xs.any fun x => decide (x < 0)) (by simp) ?_ ?_
  · intro h
    repeat first | refine AWp.seq ?_ | refine AWp.block ?_
    refine AWp.ops ?_
    simp
    refine AWp.ret ?_
    simp
    refine retOk.of rfl ⟨rfl, ?_⟩
    simp only [cells, h, or_true, if_true]; simp
  intro hn
  refine AWp.skip ?_
  simp only [qSeq]
  have hpos : ∀ x ∈ xs, 0 ≤ x := by simpa using hn
  have hc : cells xs = if 0 ∈ xs then (0, 0) else mulAll xs 1 := by
    unfold cells
    rw [if_neg]
    rintro (h | h)
    · omega
    · rw [hn] at h; cases h
  rw [hc]
  refine AWp.seq (AWp.seq (AWp.ops ?_))
  simp
  refine (Contains_spec ha').mono ?_
  rintro r H' ⟨rfl, rfl⟩
  simp
  refine AWp.cond (b := decide (0 ∈ xs)) (by simp) ?_ ?_
  · intro h
    have h : 0 ∈ xs := by simpa using h
    repeat first | refine AWp.seq ?_ | refine AWp.block ?_
    refine AWp.ops ?_
    simp
    refine AWp.ret ?_
    simp
    refine retOk.of rfl ⟨rfl, ?_⟩
    simp [h]
  intro h0
  have h0 : ¬ 0 ∈ xs := by simpa using h0
  refine AWp.skip ?_
  simp only [qSeq]
  rw [if_neg h0]
  repeat first | refine AWp.seq ?_ | refine AWp.block ?_
  refine AWp.ops ?_
  simp
  repeat first | refine AWp.seq ?_ | refine AWp.block ?_
  refine AWp.ops ?_
  simp
  refine AWp.block (AWp.loop (fun (i : Nat) fr H => i ≤ xs.length ∧ H = [] ∧ ∃ N : Nat, 1 ≤ N ∧ N < 4611686018427387904 ∧ mulAll xs 1 = mulAll (xs.drop i) N ∧
    fr = [AV.imm nl c sz (xs.map I), .und, I 0, I 0, U N, .und, .und, .und, .und, .und, .und, .und, .und, .und, .und, .und, .und, .und, AV.imm nl c sz (xs.map I), I xs.length, I i, .und, .und, .und, .und, .und, .und, .und, .und, .und, .und, .und, .und, .und, .und, .und, .und, .und, .und, .und, .und]) (fun i => xs.length - i) 0 (Weak.slots [0, 2, 3, 4, 18, 19, 20]) ⟨by omega, rfl, 1, by omega, by omega, rfl, by simp⟩ ?_)
  rintro i fr H ⟨hi, rfl, N, hN1, hN2, hm, rfl⟩
  repeat first | refine AWp.seq ?_ | refine AWp.block ?_
  refine AWp.ops ?_
  simp
  refine AWp.seq (AWp.cond (b := decide (i < xs.length)) (by simp) ?_ ?_)
  · intro hb
    have hb : i < xs.length := by simpa using hb
    have hsz : sz = 1 := sz_of hs hb
    subst hsz
    refine AWp.skip ?_
    simp only [qSeq]
    refine AWp.seq (AWp.block (AWp.seq (AWp.ops ?_)))
    simp [hb]
    have hxi := hx xs[i] (List.getElem_mem hb)
    have hxp := hpos xs[i] (List.getElem_mem hb)
    have hx0 : xs[i] ≠ 0 := fun e => h0 (by rw [← e]; exact List.getElem_mem hb)
    obtain ⟨S, hS⟩ : ∃ S : Nat, xs[i] = (S : Int) := ⟨xs[i].toNat, by omega⟩
    rw [List.drop_eq_getElem_cons hb] at hm
    rw [hS] at hm hxi hxp hx0
    simp only [hS]
    refine AWp.seq (AWp.ops ?_)
    simp [wrap_u64 (n := (S : Int)) (by omega) (by omega)]
    refine (Mul64_spec N S (by omega) (by omega)).mono ?_
    rintro r H' ⟨rfl, rfl⟩
    simp
    have wS : N * S % 18446744073709551616 < 18446744073709551616 := by omega
    refine AWp.seq (AWp.seq (AWp.ops ?_))
    have bad : N * S ≥ 4611686018427387904 → (0, 2) = mulAll xs 1 := by
      intro h
      rw [hm]
      simp only [mulAll]
      rw [if_pos (by rw [← Int.natCast_mul]; omega)]
    rcases Nat.eq_zero_or_pos (N * S / 18446744073709551616) with hhi | hhi
    · have hz : ¬ (0 : Int) < ((N * S / 18446744073709551616 : Nat) : Int) := by omega
      have hz' : ((N * S / 18446744073709551616 : Nat) : Int) ≤ 0 := by omega
      have hlo : N * S % 18446744073709551616 = N * S := by omega
      simp only [hlo, hhi]
      simp
      refine AWp.cond (b := decide (4611686018427387904 ≤ (N : Int) * S)) (by simp) ?_ ?_
      · intro h
        have h : 4611686018427387904 ≤ (N : Int) * S := by simpa using h
        repeat first | refine AWp.seq ?_ | refine AWp.block ?_
        refine AWp.ops ?_
        simp
        refine AWp.ret ?_
        simp
        refine retOk.of rfl ⟨rfl, ?_⟩
        rw [← bad (by rw [← Int.natCast_mul] at h; omega)]
        simp
      intro h
      have h : ¬ 4611686018427387904 ≤ (N : Int) * S := by simpa using h
      have h' : N * S < 4611686018427387904 := by rw [← Int.natCast_mul] at h; omega
      refine AWp.skip ?_
      simp only [qSeq]
      refine AWp.ops ?_
      simp
      refine AWp.ops ?_
      simp
      have hpos : 1 ≤ N * S := Nat.mul_pos (by omega) (by omega)
      refine ⟨i + 1, _, _, Weak.slots [0, 2, 3, 4, 18, 19, 20], ⟨by omega, rfl, N * S, hpos, h', ?_, ?_⟩, by omega⟩
      · rw [hm]
        simp only [mulAll]
        rw [if_neg (by omega), Int.natCast_mul]
      · simp [wrap_i64 (n := (i : Int) + 1) (by omega) (by omega)]
    · have hz : (0 : Int) < ((N * S / 18446744073709551616 : Nat) : Int) := by omega
      have hz' : (0 : Int) < (N : Int) * S / 18446744073709551616 := by rw [← Int.natCast_mul]; omega
      simp [hz']
      refine AWp.cond (b := true) (by simp) (fun _ => ?_) (fun h => by cases h)
      repeat first | refine AWp.seq ?_ | refine AWp.block ?_
      refine AWp.ops ?_
      simp
      refine AWp.ret ?_
      simp
      refine retOk.of rfl ⟨rfl, ?_⟩
      rw [← bad (by omega)]
      simp
  · intro hb
    have hb : ¬ i < xs.length := by simpa using hb
    refine AWp.exit ?_
    simp [qSeq, qBlock]
    repeat first | refine AWp.seq ?_ | refine AWp.block ?_
    refine AWp.ops ?_
    simp
    refine AWp.ret ?_
    simp
    refine retOk.of rfl ⟨rfl, ?_⟩
    rw [hm, List.drop_eq_nil_of_le (by omega)]
    simp [mulAll]
    exact wrap_i64 (by omega) (by omega)
end Go.Fw
