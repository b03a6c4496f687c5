import Derived.Test.YthipbeffhfdamaaFwlevel2
namespace Go.Fw
open Go Go.RowKit Go.Proofs
set_option maxRecDepth 100000
set_option linter.unusedSimpArgs false
set_option linter.unusedVariables false

theorem sorted_le {xs : List Int} (h : Sorted xs) : ∀ (d i : Nat), i + d < xs.length → xs.getD i 0 ≤ xs.getD (i + d) 0
  | 0, i, _ => Int.le_refl _
  | d + 1, i, hb => Int.le_trans (sorted_le h d i (by omega)) (h (i + d) (by omega))
/-- Whether places of one's children rise. -/
def RiseSeg (cs : List Int) (lst f t : Int) : Prop := ∀ q < cs.length, f < (q : Int) → (q : Int) < t → cs.getD (q - 1) 0 + lst ≤ cs.getD q 0
instance (cs : List Int) (lst f t : Int) : Decidable (RiseSeg cs lst f t) := by unfold RiseSeg; infer_instance
def Rise (ps cs : List Int) (lst : Int) : Prop := ∀ p < ps.length - 1, RiseSeg cs lst (ps.getD p 0) (ps.getD (p + 1) 0)
instance (ps cs : List Int) (lst : Int) : Decidable (Rise ps cs lst) := by unfold Rise; infer_instance
def lvRise (l : Lv) : Bool := if l.k = 1 then decide (Rise l.pos l.crd 1) else if l.k = 2 then decide (Rise l.pos l.crd 0) else true
/-- Positions of a level with lists. -/
structure PosOk (ps : List Int) (m n : Nat) : Prop where
  len : ps.length = n + 1
  zero : ps.getD 0 0 = 0
  last : ps.getD n 0 = m
  sorted : Sorted ps
theorem PosOk.at {ps : List Int} {m n : Nat} (h : PosOk ps m n) {i : Nat} (hi : i < n) : ∃ f t : Nat, ps.getD i 0 = f ∧ ps.getD (i + 1) 0 = t ∧ f ≤ t ∧ t ≤ m := by
  obtain ⟨hl, h0, h1, h2⟩ := h
  have a1 := sorted_le h2 i 0 (by omega)
  have a2 := h2 i (by omega)
  have a3 := sorted_le h2 (n - (i + 1)) (i + 1) (by omega)
  rw [show i + 1 + (n - (i + 1)) = n by omega, h1] at a3
  rw [Nat.zero_add, h0] at a1
  exact ⟨(ps.getD i 0).toNat, (ps.getD (i + 1) 0).toNat, by omega, by omega, by omega, by omega⟩

def lrising_28 : AC := (.seq (.ops [⟨(some 45), none, (.k (.mov (.t 6)))⟩, ⟨(some 46), none, (.k (.mov (.t 7)))⟩, ⟨(some 47), none, (.k (.iad 1 (.t 45) (.t 46)))⟩, ⟨(some 48), none, (.k (.ld 1 false (.t 47)))⟩, ⟨(some 49), none, (.k (.mov (.t 6)))⟩, ⟨(some 50), none, (.k (.mov (.t 7)))⟩, ⟨(some 51), none, (.k (.bin .sub (.t 50) (.c (.sc (.int .i64 1)))))⟩, ⟨(some 52), none, (.k (.iad 1 (.t 49) (.t 51)))⟩, ⟨(some 53), none, (.k (.ld 1 false (.t 52)))⟩, ⟨(some 54), none, (.k (.bin .sub (.t 48) (.t 53)))⟩, ⟨(some 55), none, (.k (.mov (.t 3)))⟩, ⟨(some 56), none, (.k (.bin .lss (.t 54) (.t 55)))⟩]) (.cond (.t 56) (.seq (.ops [⟨(some 2), none, (.k (.mov (.c (.sc (.bool false)))))⟩]) .ret) .skip))
def lrising_27 : AC := (.block 4 lrising_28)
def lrising_26 : AC := (.seq lrising_27 (.ops [⟨(some 43), none, (.k (.mov (.t 7)))⟩, ⟨(some 44), none, (.k (.bin .add (.t 43) (.c (.sc (.int .i64 1)))))⟩, ⟨(some 7), none, (.k (.mov (.t 44)))⟩]))
def lrising_25 : AC := (.seq (.ops [⟨(some 39), none, (.k (.mov (.t 7)))⟩, ⟨(some 40), none, (.k (.mov (.t 6)))⟩, ⟨(some 41), none, (.k (.len (.t 40)))⟩, ⟨(some 42), none, (.k (.bin .lss (.t 39) (.t 41)))⟩]) (.cond (.t 42) .skip (.exit 3)))
def lrising_24 : AC := (.seq lrising_25 lrising_26)
def lrising_23 : AC := (.loop lrising_24)
def lrising_22 : AC := (.block 3 lrising_23)
def lrising_21 : AC := (.seq (.ops [⟨(some 7), none, (.k (.mov (.c (.sc (.int .i64 1)))))⟩]) lrising_22)
def lrising_20 : AC := (.seq (.ops [⟨(some 29), none, (.k (.fad 3 (.t 1)))⟩, ⟨(some 30), none, (.k (.ld 1 false (.t 29)))⟩, ⟨(some 31), none, (.k (.mov (.t 5)))⟩, ⟨(some 32), none, (.k (.fad 2 (.t 1)))⟩, ⟨(some 33), none, (.k (.ld 1 false (.t 32)))⟩, ⟨(some 34), none, (.k (.mov (.t 4)))⟩, ⟨(some 35), none, (.k (.bin .add (.t 34) (.c (.sc (.int .i64 1)))))⟩, ⟨(some 36), none, (.k (.iad 1 (.t 33) (.t 35)))⟩, ⟨(some 37), none, (.k (.ld 1 false (.t 36)))⟩, ⟨(some 38), none, (.k (.sl 1 (.t 30) (some (.t 31)) (some (.t 37)) none))⟩, ⟨(some 6), none, (.k (.mov (.t 38)))⟩]) lrising_21)
def lrising_19 : AC := (.seq (.ops [⟨(some 26), none, (.k (.mov (.t 24)))⟩, ⟨(some 27), none, (.k (.iad 1 (.t 22) (.t 24)))⟩, ⟨(some 28), none, (.k (.ld 1 false (.t 27)))⟩, ⟨(some 4), none, (.k (.mov (.t 26)))⟩, ⟨(some 5), none, (.k (.mov (.t 28)))⟩]) lrising_20)
def lrising_18 : AC := (.block 2 lrising_19)
def lrising_17 : AC := (.seq lrising_18 (.ops [⟨(some 57), none, (.k (.bin .add (.t 24) (.c (.sc (.int .i64 1)))))⟩, ⟨(some 24), none, (.k (.mov (.t 57)))⟩]))
def lrising_16 : AC := (.seq (.cond (.t 25) .skip (.exit 1)) lrising_17)
def lrising_15 : AC := (.seq (.ops [⟨(some 25), none, (.k (.bin .lss (.t 24) (.t 23)))⟩]) lrising_16)
def lrising_14 : AC := (.loop lrising_15)
def lrising_13 : AC := (.block 1 lrising_14)
def lrising_12 : AC := (.seq (.ops [⟨(some 16), none, (.k (.fad 2 (.t 1)))⟩, ⟨(some 17), none, (.k (.ld 1 false (.t 16)))⟩, ⟨(some 18), none, (.k (.fad 2 (.t 1)))⟩, ⟨(some 19), none, (.k (.ld 1 false (.t 18)))⟩, ⟨(some 20), none, (.k (.len (.t 19)))⟩, ⟨(some 21), none, (.k (.bin .sub (.t 20) (.c (.sc (.int .i64 1)))))⟩, ⟨(some 22), none, (.k (.sl 1 (.t 17) none (some (.t 21)) none))⟩, ⟨(some 23), none, (.k (.len (.t 22)))⟩, ⟨(some 24), none, (.k (.mov (.c (.sc (.int .i64 0)))))⟩]) lrising_13)
def lrising_11 : AC := (.seq lrising_12 (.seq (.ops [⟨(some 2), none, (.k (.mov (.c (.sc (.bool true)))))⟩]) .ret))
def lrising_10 : AC := (.seq (.ops [⟨(some 14), none, (.k (.bin .eql (.t 9) (.c (.sc (.int .i64 0)))))⟩, ⟨(some 12), none, (.k (.mov (.t 14)))⟩]) (.cond (.t 12) .skip (.ops [⟨(some 15), none, (.k (.bin .eql (.t 9) (.c (.sc (.int .i64 4)))))⟩, ⟨(some 12), none, (.k (.mov (.t 15)))⟩])))
def lrising_9 : AC := (.cond (.t 12) .skip lrising_10)
def lrising_8 : AC := (.seq (.ops [⟨(some 13), none, (.k (.bin .eql (.t 9) (.c (.sc (.int .i64 3)))))⟩, ⟨(some 12), none, (.k (.mov (.t 13)))⟩]) lrising_9)
def lrising_7 : AC := (.seq lrising_8 (.cond (.t 12) (.seq (.ops [⟨(some 2), none, (.k (.mov (.c (.sc (.bool true)))))⟩]) .ret) .skip))
def lrising_6 : AC := (.cond (.t 10) (.ops [⟨(some 3), none, (.k (.mov (.c (.sc (.int .i64 0)))))⟩]) lrising_7)
def lrising_5 : AC := (.seq (.ops [⟨(some 11), none, (.k (.bin .eql (.t 9) (.c (.sc (.int .i64 2)))))⟩, ⟨(some 10), none, (.k (.mov (.t 11)))⟩]) lrising_6)
def lrising_4 : AC := (.block 0 lrising_5)
def lrising_3 : AC := (.seq (.ops [⟨(some 8), none, (.k (.fad 0 (.t 1)))⟩, ⟨(some 9), none, (.k (.ld 1 false (.t 8)))⟩]) lrising_4)
def lrising_2 : AC := (.seq lrising_3 lrising_11)
def lrising_1 : AC := (.seq (.ops [⟨(some 3), none, (.k (.mov (.c (.sc (.int .i64 1)))))⟩]) lrising_2)
def lrising_ac : AC := (.seq (.ops [⟨(some 1), none, (.k (.new 34 4 (.t 0)))⟩, ⟨(some 2), none, (.k (.mov (.c (.sc (.bool false)))))⟩]) lrising_1)
theorem lrising_call {args : List AV} {H : List AObj} {R : AV → List AObj → Prop} (h : AWp Try.prog [] H.length lrising_ac (bodyQ H.length [(.t 2)] R) (args ++ List.replicate (58 - args.length) .und) H) : ACalls Try.prog 91 args H R :=
  ACalls.of_fn Try.func91 rfl (by kernel_rfl) rfl Try.ntmps91 h

set_option maxHeartbeats 2000000 in
theorem lrising_spec {l : Lv} {p c : AV} (hl : LvOk l p c) {n : Nat} (hn : n ≤ 1048576) (hf : lvFormed l n = true) (hr : ∀ x ∈ l.crd, 0 ≤ x ∧ x < 4294967296) : ACalls Try.prog 91 [.agg [I l.k, I l.sz, p, c]] [] fun r H' => H' = [] ∧ r = Bo (lvRise l) := by
  obtain ⟨k, z, ps, cs⟩ := l
  obtain ⟨h1, h2, h3, h4⟩ := hl
  simp only at h1 h2 h3 h4 hr
  obtain ⟨⟨nl, cp, sz, rfl, hs⟩, hlen, hx⟩ := h1
  obtain ⟨⟨nl', cp', sz', rfl, hs'⟩, hlen', hx'⟩ := h2
  simp only
  have base : ACalls Try.prog 91 [.agg [I k, I z, .imm nl cp sz (ps.map I), .imm nl' cp' sz' (cs.map I)]] [] fun r H' => r = Bo (lvRise ⟨k, z, ps, cs⟩) := by
    apply lrising_call
    repeat first | refine AWp.seq ?_ | refine AWp.block ?_
    refine AWp.ops ?_
    simp
    repeat first | refine AWp.seq ?_ | refine AWp.block ?_
    refine AWp.ops ?_
    simp
    obtain ⟨lst, hlst⟩ : ∃ lst : Int, lst = if k = 2 then 0 else 1 := ⟨_, rfl⟩
    by_cases h12 : k = 1 ∨ k = 2
    case neg =>
      refine AWp.seq (AWp.seq (AWp.ops ?_))
      simp
      have hk : k = 4 ∨ k = 0 ∨ k = 3 := by
        by_cases a4 : k = 4
        · omega
        by_cases a0 : k = 0
        · omega
        by_cases a3 : k = 3
        · omega
        simp only [lvFormed] at hf
        rw [if_neg a4, if_neg a0, if_neg a3, if_neg h12] at hf
        cases hf
      have e : lvRise ⟨k, z, ps, cs⟩ = true := by
        simp only [lvRise]
        rw [if_neg (by omega), if_neg (by omega)]
      have k2 : ¬ k = 2 := by omega
      refine AWp.block (AWp.seq (AWp.ops ?_))
      simp
      refine AWp.cond (b := false) (by simp [k2]) (fun h => by cases h) (fun _ => ?_)
      repeat first | refine AWp.seq ?_ | refine AWp.block ?_
      refine AWp.ops ?_
      simp
      by_cases k3 : k = 3
      · refine AWp.cond (b := true) (by simp [k3]) (fun _ => ?_) (fun h => by cases h)
        refine AWp.skip ?_
        simp only [qSeq]
        refine AWp.cond (b := true) (by simp [k3]) (fun _ => ?_) (fun h => by cases h)
        repeat first | refine AWp.seq ?_ | refine AWp.block ?_
        refine AWp.ops ?_
        simp
        refine AWp.ret ?_
        simp
        refine retOk.of rfl ?_
        rw [e]; simp
      refine AWp.cond (b := false) (by simp [k3]) (fun h => by cases h) (fun _ => ?_)
      repeat first | refine AWp.seq ?_ | refine AWp.block ?_
      refine AWp.ops ?_
      simp
      by_cases k0 : k = 0
      · refine AWp.cond (b := true) (by simp [k0]) (fun _ => ?_) (fun h => by cases h)
        refine AWp.skip ?_
        simp only [qSeq]
        refine AWp.cond (b := true) (by simp [k0]) (fun _ => ?_) (fun h => by cases h)
        repeat first | refine AWp.seq ?_ | refine AWp.block ?_
        refine AWp.ops ?_
        simp
        refine AWp.ret ?_
        simp
        refine retOk.of rfl ?_
        rw [e]; simp
      refine AWp.cond (b := false) (by simp [k0]) (fun h => by cases h) (fun _ => ?_)
      have k4 : k = 4 := by omega
      repeat first | refine AWp.seq ?_ | refine AWp.block ?_
      refine AWp.ops ?_
      simp
      refine AWp.cond (b := true) (by simp [k4]) (fun _ => ?_) (fun h => by cases h)
      repeat first | refine AWp.seq ?_ | refine AWp.block ?_
      refine AWp.ops ?_
      simp
      refine AWp.ret ?_
      simp
      refine retOk.of rfl ?_
      rw [e]; simp
    have hP : PosOk ps cs.length n := by
      simp only [lvFormed] at hf
      rw [if_neg (by omega), if_neg (by omega), if_neg (by omega), if_pos h12] at hf
      have hf := of_decide_eq_true hf
      exact ⟨hf.1, hf.2.1, hf.2.2.1, hf.2.2.2⟩
    have hR : lvRise ⟨k, z, ps, cs⟩ = decide (Rise ps cs lst) := by
      simp only [lvRise, hlst]
      rcases h12 with h | h <;> simp [h]
    rw [hR]
    refine AWp.cut [.und, .ptr 0 1 0 0, .und, I lst, .und, .und, .und, .und, .und, .und, .und, .und, .und, .und, .und, .und, .und, .und, .und, .und, .und, .und, .und, .und, .und, .und, .und, .und, .und, .und, .und, .und, .und, .und, .und, .und, .und, .und, .und, .und, .und, .und, .und, .und, .und, .und, .und, .und, .und, .und, .und, .und, .und, .und, .und, .und, .und, .und] [lvO (.agg [I k, I z, .imm nl cp sz (ps.map I), .imm nl' cp' sz' (cs.map I)])] ?_ ?_
    ·
      repeat first | refine AWp.seq ?_ | refine AWp.block ?_
      refine AWp.ops ?_
      simp
      refine AWp.block (AWp.seq (AWp.ops ?_))
      simp
      by_cases k2 : k = 2
      · refine AWp.cond (b := true) (by simp [k2]) (fun _ => ?_) (fun h => by cases h)
        repeat first | refine AWp.seq ?_ | refine AWp.block ?_
        refine AWp.ops ?_
        simp
        exact (Weak.slots [1, 3]).to (by simp [hlst, k2]) rfl
      have k1 : k = 1 := by omega
      refine AWp.cond (b := false) (by simp [k2]) (fun h => by cases h) (fun _ => ?_)
      repeat first | refine AWp.seq ?_ | refine AWp.block ?_
      refine AWp.ops ?_
      simp
      refine AWp.cond (b := false) (by simp [k1]) (fun h => by cases h) (fun _ => ?_)
      repeat first | refine AWp.seq ?_ | refine AWp.block ?_
      refine AWp.ops ?_
      simp
      refine AWp.cond (b := false) (by simp [k1]) (fun h => by cases h) (fun _ => ?_)
      repeat first | refine AWp.seq ?_ | refine AWp.block ?_
      refine AWp.ops ?_
      simp
      refine AWp.cond (b := false) (by simp [k1]) (fun h => by cases h) (fun _ => ?_)
      refine AWp.skip ?_
      simp only [qSeq, qBlock]
      exact (Weak.slots [1, 3]).to (by simp [hlst, k2]) rfl
    obtain ⟨hpl, hp0, hp1, hp2⟩ := hP
    have hP : PosOk ps cs.length n := ⟨hpl, hp0, hp1, hp2⟩
    have hsz := sz_of hs (i := 0) (by omega)
    subst hsz
    have hw1 := wrap_i64 (n := (ps.length : Int) - 1) (by omega) (by omega)
    have g1 : (ps.length : Int) - 1 = n := by omega
    have hnp : n ≤ ps.length := by omega
    have g2 : min n (n + 1) = n := by omega
    rw [g1] at hw1
    have g3 : (n : Int) ≤ (n : Int) + 1 := by omega
    have g4 : ¬ (n : Int) = (n : Int) + 1 := by omega
    repeat first | refine AWp.seq ?_ | refine AWp.block ?_
    refine AWp.ops ?_
    simp [hw1, g1, hnp, hpl, g3, g4]
    obtain ⟨J, hJ⟩ : ∃ J : Nat → List AV → List AObj → Prop, J = fun i fr H => i ≤ n ∧ (∀ p < i, RiseSeg cs lst (ps.getD p 0) (ps.getD (p + 1) 0)) ∧ H = [lvO (.agg [I k, I z, .imm nl cp 1 (ps.map I), .imm nl' cp' sz' (cs.map I)])] ∧
      fr = [.und, .ptr 0 1 0 0, .und, I lst, .und, .und, .und, .und, .und, .und, .und, .und, .und, .und, .und, .und, .und, .und, .und, .und, .und, .und, .imm nl cp 1 (List.take n (ps.map I)), I n, I i, .und, .und, .und, .und, .und, .und, .und, .und, .und, .und, .und, .und, .und, .und, .und, .und, .und, .und, .und, .und, .und, .und, .und, .und, .und, .und, .und, .und, .und, .und, .und, .und, .und] := ⟨_, rfl⟩
    refine AWp.block (AWp.loop J (fun i => n - i) 0 (Weak.slots [1, 3, 22, 23, 24]) (by rw [hJ]; exact ⟨by omega, fun p hp => by omega, by simp, by simp⟩) ?_)
    intro i fr H hI
    rw [hJ] at hI
    obtain ⟨hi, hinv, rfl, rfl⟩ := hI
    repeat first | refine AWp.seq ?_ | refine AWp.block ?_
    refine AWp.ops ?_
    simp
    refine AWp.seq (AWp.cond (b := decide (i < n)) (by simp <;> omega) ?_ ?_)
    ·
      intro hb
      have hb : i < n := by simpa using hb
      refine AWp.skip ?_
      simp only [qSeq]
      obtain ⟨f, t, hf', ht', hft, htc⟩ := hP.at hb
      have hbp : i < ps.length := by omega
      have hbp1 : i + 1 < ps.length := by omega
      have ef : ps[i] = f := by simpa [hbp] using hf'
      have et : ps[i + 1] = t := by simpa [hbp1] using ht'
      have hwi := wrap_i64 (n := (i : Int) + 1) (by omega) (by omega)
      have gi : (0 : Int) ≤ (i : Int) + 1 := by omega
      have gi2 : ((i : Int) + 1).toNat = i + 1 := by omega
      have c1 : (f : Int) ≤ t := by omega
      have c2 : (t : Int) ≤ cs.length := by omega
      repeat first | refine AWp.seq ?_ | refine AWp.block ?_
      refine AWp.ops ?_
      simp [hb, hbp, ef]
      have gz : (nl' = true ∨ sz' = 1) = True := eq_true (by
        cases nl' with
        | true => exact .inl rfl
        | false => exact .inr (hs'.2 rfl))
      have hpart : (if f = 0 ∧ (t : Int) = cs.length then List.map I cs else List.take (t - f) (List.drop f (List.map I cs))) = ((cs.drop f).take (t - f)).map I := by
        split
        · rename_i h
          obtain ⟨rfl, h⟩ := h
          have : t = cs.length := by omega
          subst this
          simp
        · simp
      obtain ⟨pt, hpt⟩ : ∃ pt, pt = (cs.drop f).take (t - f) := ⟨_, rfl⟩
      have hptl : pt.length = t - f := by rw [hpt]; simp; omega
      have hptg : ∀ q, q < t - f → pt.getD q 0 = cs.getD (f + q) 0 := by
        intro q hq
        rw [hpt, List.getD, List.getD, List.getElem?_take, if_pos hq, List.getElem?_drop]
      have hptr : ∀ x ∈ pt, 0 ≤ x ∧ x < 4294967296 := by
        intro x hx
        rw [hpt] at hx
        exact hr x (List.mem_of_mem_drop (List.mem_of_mem_take hx))
      rw [← hpt] at hpart
      obtain ⟨cp2, hcp2⟩ : ∃ cp2, cp2 = Option.map (fun x => x - f) cp' := ⟨_, rfl⟩
      repeat first | refine AWp.seq ?_ | refine AWp.block ?_
      refine AWp.ops ?_
      simp [hb, hbp, hwi, gi, gi2, hbp1, et, c1, c2, gz, hpart, ← hcp2]
      repeat first | refine AWp.seq ?_ | refine AWp.block ?_
      refine AWp.ops ?_
      simp
      obtain ⟨J2, hJ2⟩ : ∃ J2 : Nat → List AV → List AObj → Prop, J2 = fun j fr H => (∀ q : Nat, q < j + 1 → 0 < q → q < pt.length → pt.getD (q - 1) 0 + lst ≤ pt.getD q 0) ∧
        H = [lvO (.agg [I k, I z, .imm nl cp 1 (ps.map I), .imm nl' cp' sz' (cs.map I)])] ∧
        fr = [.und, .ptr 0 1 0 0, .und, I lst, .und, .und, .imm nl' cp2 sz' (pt.map I), I ((j : Int) + 1), .und, .und, .und, .und, .und, .und, .und, .und, .und, .und, .und, .und, .und, .und, .imm nl cp 1 (List.take n (ps.map I)), I n, I i, .und, .und, .und, .und, .und, .und, .und, .und, .und, .und, .und, .und, .und, .und, .und, .und, .und, .und, .und, .und, .und, .und, .und, .und, .und, .und, .und, .und, .und, .und, .und, .und, .und] := ⟨_, rfl⟩
      refine AWp.block (AWp.loop J2 (fun j => pt.length - j) 0 (Weak.slots [1, 3, 6, 7, 22, 23, 24]) (by
        rw [hJ2]
        exact ⟨fun q h1 h2 h3 => by omega, by simp, by simp⟩) ?_)
      intro j fr H hI
      rw [hJ2] at hI
      obtain ⟨hin, rfl, rfl⟩ := hI
      repeat first | refine AWp.seq ?_ | refine AWp.block ?_
      refine AWp.ops ?_
      simp
      refine AWp.cond (b := decide (j + 1 < pt.length)) (by simp; omega) ?_ ?_
      · intro h0
        have h0 : j + 1 < pt.length := by simpa using h0
        have h0' : j < pt.length := by omega
        have hsz' : nl' = true ∨ sz' = 1 := of_eq_true gz
        have gj : (0 : Int) ≤ (j : Int) + 1 := by omega
        have gj2 : ((j : Int) + 1).toNat = j + 1 := by omega
        have wj := wrap_i64 (n := (j : Int)) (by omega) (by omega)
        have wj2 := wrap_i64 (n := (j : Int) + 1 + 1) (by omega) (by omega)
        have r1 := hptr pt[j] (List.getElem_mem h0')
        have r2 := hptr pt[j + 1] (List.getElem_mem h0)
        have wd := wrap_i64 (n := pt[j + 1] - pt[j]) (by omega) (by omega)
        refine AWp.skip ?_
        simp only [qSeq]
        have hszc := sz_of hs' (i := 0) (by omega)
        repeat first | refine AWp.seq ?_ | refine AWp.block ?_
        refine AWp.ops ?_
        simp [h0, h0', hszc, gj, gj2, wj, wd]
        refine AWp.cond (b := decide (pt[j + 1] - pt[j] < lst)) (by simp) ?_ ?_
        · intro h
          have h : pt[j + 1] - pt[j] < lst := by simpa using h
          repeat first | refine AWp.seq ?_ | refine AWp.block ?_
          refine AWp.ops ?_
          simp
          refine AWp.ret ?_
          simp
          refine retOk.of rfl ?_
          have : ¬ Rise ps cs lst := by
            intro hR
            have e := hR i (by omega) (f + (j + 1)) (by omega) (by rw [hf']; omega) (by rw [ht']; omega)
            have e1 := hptg j (by omega)
            have e2 := hptg (j + 1) (by omega)
            simp only [show f + (j + 1) - 1 = f + j by omega, ← e1, ← e2] at e
            simp [h0, h0'] at e
            omega
          simp [this]
        · intro h
          have h : ¬ pt[j + 1] - pt[j] < lst := by simpa using h
          refine AWp.skip ?_
          simp only [qSeq, qBlock]
          repeat first | refine AWp.seq ?_ | refine AWp.block ?_
          refine AWp.ops ?_
          simp [wj2]
          refine ⟨j + 1, _, _, Weak.slots [1, 3, 6, 7, 22, 23, 24], ?_, by omega⟩
          rw [hJ2]
          refine ⟨fun q h1 h2 h3 => ?_, by simp [hszc], by simp [wj2, hszc]⟩
          by_cases e : q = j + 1
          · subst e
            simp [h0, h0']
            omega
          · exact hin q (by omega) h2 h3
      · intro h0
        have h0 : ¬ j + 1 < pt.length := by simpa using h0
        refine AWp.exit ?_
        simp [qSeq, qBlock]
        repeat first | refine AWp.seq ?_ | refine AWp.block ?_
        refine AWp.ops ?_
        simp
        refine ⟨i + 1, _, _, Weak.slots [1, 3, 22, 23, 24], ?_, by omega⟩
        rw [hJ]
        refine ⟨by omega, ?_, by simp, by simp [wrap_i64 (n := (i : Int) + 1) (by omega) (by omega)]⟩
        intro p hp q hq h1 h2
        by_cases e : p = i
        · subst e
          rw [hf'] at h1
          rw [ht'] at h2
          have e1 := hptg (q - f) (by omega)
          have e2 := hptg (q - f - 1) (by omega)
          have := hin (q - f) (by omega) (by omega) (by omega)
          rw [e1, e2] at this
          rwa [show f + (q - f) = q by omega, show f + (q - f - 1) = q - 1 by omega] at this
        · exact hinv p (by omega) q hq h1 h2
    ·
      intro hb
      have hb : ¬ i < n := by simpa using hb
      refine AWp.exit ?_
      simp [qSeq, qBlock]
      repeat first | refine AWp.seq ?_ | refine AWp.block ?_
      refine AWp.ops ?_
      simp
      refine AWp.ret ?_
      simp
      refine retOk.of rfl ?_
      have : Rise ps cs lst := fun p hp => hinv p (by omega)
      simp [this]
  refine (base.frozen 2).mono ?_
  rintro q H' ⟨rfl, r, G, rfl, rfl⟩
  exact ⟨rfl, by simp⟩
end Go.Fw
