import Derived.Test.YthipbeffhfdamaaFwlevel2
namespace Go.Fw
open Go Go.RowKit Go.Proofs
set_option maxRecDepth 100000
set_option linter.unusedSimpArgs false
set_option linter.unusedVariables false
theorem sorted_le {xs : List Int} (h : Sorted xs) : ∀ (d i : Nat), i + d < xs.length → xs.getD i 0 ≤ xs.getD (i + d) 0
  | 0, i, _ => Int.le_refl _
  | d + 1, i, hb => Int.le_trans (sorted_le h d i (by omega)) (h (i + d) (by omega))
def RiseSeg (cs : List Int) (lst f t : Int) : Prop := ∀ q < cs.length, f < (q : Int) → (q : Int) < t → cs.getD (q - 1) 0 + lst ≤ cs.getD q 0
instance (cs : List Int) (lst f t : Int) : Decidable (RiseSeg cs lst f t) := by unfold RiseSeg; infer_instance
def Rise (ps cs : List Int) (lst : Int) : Prop := ∀ p < ps.length - 1, RiseSeg cs lst (ps.getD p 0) (ps.getD (p + 1) 0)
instance (ps cs : List Int) (lst : Int) : Decidable (Rise ps cs lst) := by unfold Rise; infer_instance
def lvRise (l : Lv) : Bool := if l.k = 1 then decide (Rise l.pos l.crd 1) else if l.k = 2 then decide (Rise l.pos l.crd 0) else true
structure PosOk (ps : List Int) (m n : Nat) : Prop where
  len : ps.length = n + 1
  zero : ps.getD 0 0 = 0
  last : ps.getD n 0 = m
  sorted : Sorted ps
theorem PosOk.at {ps : List Int} {m n : Nat} (h : PosOk ps m n) {i : Nat} (hi : i < n) : ∃ f t : Nat, ps.getD i 0 = f ∧ ps.getD (i + 1) 0 = t ∧ f ≤ t ∧ t ≤ m := by
  obtain ⟨hl, h0, h1, h2⟩ := h
  have a1 := sorted_le h2 i 0 (by omega)
  have a2 := h2 i (by omega)
  have a3 := sorted_le h2 (n - (i + 1)) (i + 1) (by omega)
  rw [show i + 1 + (n - (i + 1)) = n by omega, h1] at a3
  rw [Nat.zero_add, h0] at a1
  exact ⟨(ps.getD i 0).toNat, (ps.getD (i + 1) 0).toNat, by omega, by omega, by omega, by omega⟩
def lrising_28 : AC := (.seq (.ops [.m 45 (.t 6), .m 46 (.t 7), .o 47 (.iad 1 (.t 45) (.t 46)), .o 48 (.ld 1 false (.t 47)), .m 49 (.t 6), .m 50 (.t 7), .o 51 (.bin .sub (.t 50) (.i 1)), .o 52 (.iad 1 (.t 49) (.t 51)), .o 53 (.ld 1 false (.t 52)), .o 54 (.bin .sub (.t 48) (.t 53)), .m 55 (.t 3), .o 56 (.bin .lss (.t 54) (.t 55))]) (.cond (.t 56) (.seq (.ops [.m 2 (.b false)]) .ret) .skip))
def lrising_27 : AC := (.block 4 lrising_28)
def lrising_26 : AC := (.seq lrising_27 (.ops [.m 43 (.t 7), .o 44 (.bin .add (.t 43) (.i 1)), .m 7 (.t 44)]))
def lrising_25 : AC := (.seq (.ops [.m 39 (.t 7), .m 40 (.t 6), .o 41 (.len (.t 40)), .o 42 (.bin .lss (.t 39) (.t 41))]) (.cond (.t 42) .skip (.exit 3)))
def lrising_24 : AC := (.seq lrising_25 lrising_26)
def lrising_23 : AC := (.loop lrising_24)
def lrising_22 : AC := (.block 3 lrising_23)
def lrising_21 : AC := (.seq (.ops [.m 7 (.i 1)]) lrising_22)
def lrising_20 : AC := (.seq (.ops [.o 29 (.fad 3 (.t 1)), .o 30 (.ld 1 false (.t 29)), .m 31 (.t 5), .o 32 (.fad 2 (.t 1)), .o 33 (.ld 1 false (.t 32)), .m 34 (.t 4), .o 35 (.bin .add (.t 34) (.i 1)), .o 36 (.iad 1 (.t 33) (.t 35)), .o 37 (.ld 1 false (.t 36)), .o 38 (.sl 1 (.t 30) (some (.t 31)) (some (.t 37)) none), .m 6 (.t 38)]) lrising_21)
def lrising_19 : AC := (.seq (.ops [.m 26 (.t 24), .o 27 (.iad 1 (.t 22) (.t 24)), .o 28 (.ld 1 false (.t 27)), .m 4 (.t 26), .m 5 (.t 28)]) lrising_20)
def lrising_18 : AC := (.block 2 lrising_19)
def lrising_17 : AC := (.seq lrising_18 (.ops [.o 57 (.bin .add (.t 24) (.i 1)), .m 24 (.t 57)]))
def lrising_16 : AC := (.seq (.cond (.t 25) .skip (.exit 1)) lrising_17)
def lrising_15 : AC := (.seq (.ops [.o 25 (.bin .lss (.t 24) (.t 23))]) lrising_16)
def lrising_14 : AC := (.loop lrising_15)
def lrising_13 : AC := (.block 1 lrising_14)
def lrising_12 : AC := (.seq (.ops [.o 16 (.fad 2 (.t 1)), .o 17 (.ld 1 false (.t 16)), .o 18 (.fad 2 (.t 1)), .o 19 (.ld 1 false (.t 18)), .o 20 (.len (.t 19)), .o 21 (.bin .sub (.t 20) (.i 1)), .o 22 (.sl 1 (.t 17) none (some (.t 21)) none), .o 23 (.len (.t 22)), .m 24 (.i 0)]) lrising_13)
def lrising_11 : AC := (.seq lrising_12 (.seq (.ops [.m 2 (.b true)]) .ret))
def lrising_10 : AC := (.seq (.ops [.o 14 (.bin .eql (.t 9) (.i 0)), .m 12 (.t 14)]) (.cond (.t 12) .skip (.ops [.o 15 (.bin .eql (.t 9) (.i 4)), .m 12 (.t 15)])))
def lrising_9 : AC := (.cond (.t 12) .skip lrising_10)
def lrising_8 : AC := (.seq (.ops [.o 13 (.bin .eql (.t 9) (.i 3)), .m 12 (.t 13)]) lrising_9)
def lrising_7 : AC := (.seq lrising_8 (.cond (.t 12) (.seq (.ops [.m 2 (.b true)]) .ret) .skip))
def lrising_6 : AC := (.cond (.t 10) (.ops [.m 3 (.i 0)]) lrising_7)
def lrising_5 : AC := (.seq (.ops [.o 11 (.bin .eql (.t 9) (.i 2)), .m 10 (.t 11)]) lrising_6)
def lrising_4 : AC := (.block 0 lrising_5)
def lrising_3 : AC := (.seq (.ops [.o 8 (.fad 0 (.t 1)), .o 9 (.ld 1 false (.t 8))]) lrising_4)
def lrising_2 : AC := (.seq lrising_3 lrising_11)
def lrising_1 : AC := (.seq (.ops [.m 3 (.i 1)]) lrising_2)
def lrising_ac : AC := (.seq (.ops [.o 1 (.new 34 4 (.t 0)), .m 2 (.b false)]) lrising_1)
theorem lrising_call {args : List AV} {H : List AObj} {R : AV → List AObj → Prop} (h : AWp Try.prog [] H.length lrising_ac (bodyQ H.length [(.t 2)] R) (args ++ List.replicate (58 - args.length) .und) H) : ACalls Try.prog 91 args H R :=
  ACalls.of_fn Try.func91 rfl (by kernel_rfl) rfl Try.ntmps91 h
set_option maxHeartbeats 2000000 in
theorem lrising_spec {l : Lv} {p c : AV} (hl : LvOk l p c) {n : Nat} (hn : n ≤ 1048576) (hf : lvFormed l n = true) (hr : ∀ x ∈ l.crd, 0 ≤ x ∧ x < 4294967296) : ACalls Try.prog 91 [.agg [I l.k, I l.sz, p, c]] [] fun r H' => H' = [] ∧ r = Bo (lvRise l) := by
  obtain ⟨k, z, ps, cs⟩ := l
  obtain ⟨h1, h2, h3, h4⟩ := hl
  simp only at h1 h2 h3 h4 hr
  obtain ⟨⟨nl, cp, sz, rfl, hs⟩, hlen, hx⟩ := h1
  obtain ⟨⟨nl', cp', sz', rfl, hs'⟩, hlen', hx'⟩ := h2
  simp only
  have base : ACalls Try.prog 91 [.agg [I k, I z, .imm nl cp sz (ps.map I), .imm nl' cp' sz' (cs.map I)]] [] fun r H' => r = Bo (lvRise ⟨k, z, ps, cs⟩) := by
    apply lrising_call
    repeat first | refine AWp.seq ?_ | refine AWp.block ?_
    refine AWp.ops ?_
    simp
    repeat first | refine AWp.seq ?_ | refine AWp.block ?_
    refine AWp.ops ?_
    simp
    obtain ⟨lst, hlst⟩ : ∃ lst : Int, lst = if k = 2 then 0 else 1 := ⟨_, rfl⟩
    by_cases h12 : k = 1 ∨ k = 2
    case neg =>
      refine AWp.seq (AWp.seq (AWp.ops ?_))
      simp
      have hk : k = 4 ∨ k = 0 ∨ k = 3 := by
        by_cases a4 : k = 4
        · omega
        by_cases a0 : k = 0
        · omega
        by_cases a3 : k = 3
        · omega
        simp only [lvFormed] at hf
        rw [if_neg a4, if_neg a0, if_neg a3, if_neg h12] at hf
        cases hf
      have e : lvRise ⟨k, z, ps, cs⟩ = true := by
        simp only [lvRise]
        rw [if_neg (by omega), if_neg (by omega)]
      have k2 : ¬ k = 2 := by omega
      refine AWp.block (AWp.seq (AWp.ops ?_))
      simp
      refine AWp.cond (b := false) (by simp [k2]) (fun h => by cases h) (fun _ => ?_)
      repeat first | refine AWp.seq ?_ | refine AWp.block ?_
      refine AWp.ops ?_
      simp
      by_cases k3 : k = 3
      · refine AWp.cond (b := true) (by simp [k3]) (fun _ => ?_) (fun h => by cases h)
        refine AWp.skip ?_
        simp only [qSeq]
        refine AWp.cond (b := true) (by simp [k3]) (fun _ => ?_) (fun h => by cases h)
        repeat first | refine AWp.seq ?_ | refine AWp.block ?_
        refine AWp.ops ?_
        simp
        refine AWp.ret ?_
        simp
        refine retOk.of rfl ?_
        rw [e]; simp
      refine AWp.cond (b := false) (by simp [k3]) (fun h => by cases h) (fun _ => ?_)
      repeat first | refine AWp.seq ?_ | refine AWp.block ?_
      refine AWp.ops ?_
      simp
      by_cases k0 : k = 0
      · refine AWp.cond (b := true) (by simp [k0]) (fun _ => ?_) (fun h => by cases h)
        refine AWp.skip ?_
        simp only [qSeq]
        refine AWp.cond (b := true) (by simp [k0]) (fun _ => ?_) (fun h => by cases h)
        repeat first | refine AWp.seq ?_ | refine AWp.block ?_
        refine AWp.ops ?_
        simp
        refine AWp.ret ?_
        simp
        refine retOk.of rfl ?_
        rw [e]; simp
      refine AWp.cond (b := false) (by simp [k0]) (fun h => by cases h) (fun _ => ?_)
      have k4 : k = 4 := by omega
      repeat first | refine AWp.seq ?_ | refine AWp.block ?_
      refine AWp.ops ?_
      simp
      refine AWp.cond (b := true) (by simp [k4]) (fun _ => ?_) (fun h => by cases h)
      repeat first | refine AWp.seq ?_ | refine AWp.block ?_
      refine AWp.ops ?_
      simp
      refine AWp.ret ?_
      simp
      refine retOk.of rfl ?_
      rw [e]; simp
    have hP : PosOk ps cs.length n := by
      simp only [lvFormed] at hf
      rw [if_neg (by omega), if_neg (by omega), if_neg (by omega), if_pos h12] at hf
      have hf := of_decide_eq_true hf
      exact ⟨hf.1, hf.2.1, hf.2.2.1, hf.2.2.2⟩
    have hR : lvRise ⟨k, z, ps, cs⟩ = decide (Rise ps cs lst) := by
      simp only [lvRise, hlst]
      rcases h12 with h | h <;> simp [h]
    rw [hR]
    refine AWp.cut [.und, .ptr 0 1 0 0, .und, I lst, .und, .und, .und, .und, .und, .und, .und, .und, .und, .und, .und, .und, .und, .und, .und, .und, .und, .und, .und, .und, .und, .und, .und, .und, .und, .und, .und, .und, .und, .und, .und, .und, .und, .und, .und, .und, .und, .und, .und, .und, .und, .und, .und, .und, .und, .und, .und, .und, .und, .und, .und, .und, .und, .und] [lvO (.agg [I k, I z, .imm nl cp sz (ps.map I), .imm nl' cp' sz' (cs.map I)])] ?_ ?_
    ·
      repeat first | refine AWp.seq ?_ | refine AWp.block ?_
      refine AWp.ops ?_
      simp
      refine AWp.block (AWp.seq (AWp.ops ?_))
      simp
      by_cases k2 : k = 2
      · refine AWp.cond (b := true) (by simp [k2]) (fun _ => ?_) (fun h => by cases h)
        repeat first | refine AWp.seq ?_ | refine AWp.block ?_
        refine AWp.ops ?_
        simp
        exact (Weak.slots [1, 3]).to (by simp [hlst, k2]) rfl
      have k1 : k = 1 := by omega
      refine AWp.cond (b := false) (by simp [k2]) (fun h => by cases h) (fun _ => ?_)
      repeat first | refine AWp.seq ?_ | refine AWp.block ?_
      refine AWp.ops ?_
      simp
      refine AWp.cond (b := false) (by simp [k1]) (fun h => by cases h) (fun _ => ?_)
      repeat first | refine AWp.seq ?_ | refine AWp.block ?_
      refine AWp.ops ?_
      simp
      refine AWp.cond (b := false) (by simp [k1]) (fun h => by cases h) (fun _ => ?_)
      repeat first | refine AWp.seq ?_ | refine AWp.block ?_
      refine AWp.ops ?_
      simp
      refine AWp.cond (b := false) (by simp [k1]) (fun h => by cases h) (fun _ => ?_)
      refine AWp.skip ?_
      simp only [qSeq, qBlock]
      exact (Weak.slots [1, 3]).to (by simp [hlst, k2]) rfl
    obtain ⟨hpl, hp0, hp1, hp2⟩ := hP
    have hP : PosOk ps cs.length n := ⟨hpl, hp0, hp1, hp2⟩
    have hsz := sz_of hs (i := 0) (by omega)
    subst hsz
    have hw1 := wrap_i64 (n := (ps.length : Int) - 1) (by omega) (by omega)
    have g1 : (ps.length : Int) - 1 = n := by omega
    have hnp : n ≤ ps.length := by omega
    have g2 : min n (n + 1) = n := by omega
    rw [g1] at hw1
    have g3 : (n : Int) ≤ (n : Int) + 1 := by omega
    have g4 : ¬ (n : Int) = (n : Int) + 1 := by omega
    repeat first | refine AWp.seq ?_ | refine AWp.block ?_
    refine AWp.ops ?_
    simp [hw1, g1, hnp, hpl, g3, g4]
    obtain ⟨J, hJ⟩ : ∃ J : Nat → List AV → List AObj → Prop, J = fun i fr H => i ≤ n ∧ (∀ p < i, RiseSeg cs lst (ps.getD p 0) (ps.getD (p + 1) 0)) ∧ H = [lvO (.agg [I k, I z, .imm nl cp 1 (ps.map I), .imm nl' cp' sz' (cs.map I)])] ∧
      fr = [.und, .ptr 0 1 0 0, .und, I lst, .und, .und, .und, .und, .und, .und, .und, .und, .und, .und, .und, .und, .und, .und, .und, .und, .und, .und, .imm nl cp 1 (List.take n (ps.map I)), I n, I i, .und, .und, .und, .und, .und, .und, .und, .und, .und, .und, .und, .und, .und, .und, .und, .und, .und, .und, .und, .und, .und, .und, .und, .und, .und, .und, .und, .und, .und, .und, .und, .und, .und] := ⟨_, rfl⟩
    refine AWp.block (AWp.loop J (fun i => n - i) 0 (Weak.slots [1, 3, 22, 23, 24]) (by rw [hJ]; exact ⟨by omega, fun p hp => by omega, by simp, by simp⟩) ?_)
    intro i fr H hI
    rw [hJ] at hI
    obtain ⟨hi, hinv, rfl, rfl⟩ := hI
    repeat first | refine AWp.seq ?_ | refine AWp.block ?_
    refine AWp.ops ?_
    simp
    refine AWp.seq (AWp.cond (b := decide (i < n)) (by simp <;> omega) ?_ ?_)
    ·
      intro hb
      have hb : i < n := by simpa using hb
      refine AWp.skip ?_
      simp only [qSeq]
      obtain ⟨f, t, hf', ht', hft, htc⟩ := hP.at hb
      have hbp : i < ps.length := by omega
      have hbp1 : i + 1 < ps.length := by omega
      have ef : ps[i] = f := by simpa [hbp] using hf'
      have et : ps[i + 1] = t := by simpa [hbp1] using ht'
      have hwi := wrap_i64 (n := (i : Int) + 1) (by omega) (by omega)
      have gi : (0 : Int) ≤ (i : Int) + 1 := by omega
      have gi2 : ((i : Int) + 1).toNat = i + 1 := by omega
      have c1 : (f : Int) ≤ t := by omega
      have c2 : (t : Int) ≤ cs.length := by omega
      repeat first | refine AWp.seq ?_ | refine AWp.block ?_
      refine AWp.ops ?_
      simp [hb, hbp, ef]
      have gz : (nl' = true ∨ sz' = 1) = True := eq_true (by
        cases nl' with
        | true => exact .inl rfl
        | false => exact .inr (hs'.2 rfl))
      have hpart : (if f = 0 ∧ (t : Int) = cs.length then List.map I cs else List.take (t - f) (List.drop f (List.map I cs))) = ((cs.drop f).take (t - f)).map I := by
        split
        · rename_i h
          obtain ⟨rfl, h⟩ := h
          have : t = cs.length := by omega
          subst this
          simp
        · simp
      obtain ⟨pt, hpt⟩ : ∃ pt, pt = (cs.drop f).take (t - f) := ⟨_, rfl⟩
      have hptl : pt.length = t - f := by rw [hpt]; simp; omega
      have hptg : ∀ q, q < t - f → pt.getD q 0 = cs.getD (f + q) 0 := by
        intro q hq
        rw [hpt, List.getD, List.getD, List.getElem?_take, if_pos hq, List.getElem?_drop]
      have hptr : ∀ x ∈ pt, 0 ≤ x ∧ x < 4294967296 := by
        intro x hx
        rw [hpt] at hx
        exact hr x (List.mem_of_mem_drop (List.mem_of_mem_take hx))
      rw [← hpt] at hpart
      obtain ⟨cp2, hcp2⟩ : ∃ cp2, cp2 = Option.map (fun x => x - f) cp' := ⟨_, rfl⟩
      repeat first | refine AWp.seq ?_ | refine AWp.block ?_
      refine AWp.ops ?_
      simp [hb, hbp, hwi, gi, gi2, hbp1, et, c1, c2, gz, hpart, ← hcp2]
      repeat first | refine AWp.seq ?_ | refine AWp.block ?_
      refine AWp.ops ?_
      simp
      obtain ⟨J2, hJ2⟩ : ∃ J2 : Nat → List AV → List AObj → Prop, J2 = fun j fr H => (∀ q : Nat, q < j + 1 → 0 < q → q < pt.length → pt.getD (q - 1) 0 + lst ≤ pt.getD q 0) ∧
        H = [lvO (.agg [I k, I z, .imm nl cp 1 (ps.map I), .imm nl' cp' sz' (cs.map I)])] ∧
        fr = [.und, .ptr 0 1 0 0, .und, I lst, .und, .und, .imm nl' cp2 sz' (pt.map I), I ((j : Int) + 1), .und, .und, .und, .und, .und, .und, .und, .und, .und, .und, .und, .und, .und, .und, .imm nl cp 1 (List.take n (ps.map I)), I n, I i, .und, .und, .und, .und, .und, .und, .und, .und, .und, .und, .und, .und, .und, .und, .und, .und, .und, .und, .und, .und, .und, .und, .und, .und, .und, .und, .und, .und, .und, .und, .und, .und, .und] := ⟨_, rfl⟩
      refine AWp.block (AWp.loop J2 (fun j => pt.length - j) 0 (Weak.slots [1, 3, 6, 7, 22, 23, 24]) (by
        rw [hJ2]
        exact ⟨fun q h1 h2 h3 => by omega, by simp, by simp⟩) ?_)
      intro j fr H hI
      rw [hJ2] at hI
      obtain ⟨hin, rfl, rfl⟩ := hI
      repeat first | refine AWp.seq ?_ | refine AWp.block ?_
      refine AWp.ops ?_
      simp
      refine AWp.cond (b := decide (j + 1 < pt.length)) (by simp; omega) ?_ ?_
      · intro h0
        have h0 : j + 1 < pt.length := by simpa using h0
        have h0' : j < pt.length := by omega
        have hsz' : nl' = true ∨ sz' = 1 := of_eq_true gz
        have gj : (0 : Int) ≤ (j : Int) + 1 := by omega
        have gj2 : ((j : Int) + 1).toNat = j + 1 := by omega
        have wj := wrap_i64 (n := (j : Int)) (by omega) (by omega)
        have wj2 := wrap_i64 (n := (j : Int) + 1 + 1) (by omega) (by omega)
        have r1 := hptr pt[j] (List.getElem_mem h0')
        have r2 := hptr pt[j + 1] (List.getElem_mem h0)
        have wd := wrap_i64 (n := pt[j + 1] - pt[j]) (by omega) (by omega)
        refine AWp.skip ?_
        simp only [qSeq]
        have hszc := sz_of hs' (i := 0) (by omega)
        repeat first | refine AWp.seq ?_ | refine AWp.block ?_
        refine AWp.ops ?_
        simp [h0, h0', hszc, gj, gj2, wj, wd]
        refine AWp.cond (b := decide (pt[j + 1] - pt[j] < lst)) (by simp) ?_ ?_
        · intro h
          have h : pt[j + 1] - pt[j] < lst := by simpa using h
          repeat first | refine AWp.seq ?_ | refine AWp.block ?_
          refine AWp.ops ?_
          simp
          refine AWp.ret ?_
          simp
          refine retOk.of rfl ?_
          have : ¬ Rise ps cs lst := by
            intro hR
            have e := hR i (by omega) (f + (j + 1)) (by omega) (by rw [hf']; omega) (by rw [ht']; omega)
            have e1 := hptg j (by omega)
            have e2 := hptg (j + 1) (by omega)
            simp only [show f + (j + 1) - 1 = f + j by omega, ← e1, ← e2] at e
            simp [h0, h0'] at e
            omega
          simp [this]
        · intro h
          have h : ¬ pt[j + 1] - pt[j] < lst := by simpa using h
          refine AWp.skip ?_
          simp only [qSeq, qBlock]
          repeat first | refine AWp.seq ?_ | refine AWp.block ?_
          refine AWp.ops ?_
          simp [wj2]
          refine ⟨j + 1, _, _, Weak.slots [1, 3, 6, 7, 22, 23, 24], ?_, by omega⟩
          rw [hJ2]
          refine ⟨fun q h1 h2 h3 => ?_, by simp [hszc], by simp [wj2, hszc]⟩
          by_cases e : q = j + 1
          · subst e
            simp [h0, h0']
            omega
          · exact hin q (by omega) h2 h3
      · intro h0
        have h0 : ¬ j + 1 < pt.length := by simpa using h0
        refine AWp.exit ?_
        simp [qSeq, qBlock]
        repeat first | refine AWp.seq ?_ | refine AWp.block ?_
        refine AWp.ops ?_
        simp
        refine ⟨i + 1, _, _, Weak.slots [1, 3, 22, 23, 24], ?_, by omega⟩
        rw [hJ]
        refine ⟨by omega, ?_, by simp, by simp [wrap_i64 (n := (i : Int) + 1) (by omega) (by omega)]⟩
        intro p hp q hq h1 h2
        by_cases e : p = i
        · subst e
          rw [hf'] at h1
          rw [ht'] at h2
          have e1 := hptg (q - f) (by omega)
          have e2 := hptg (q - f - 1) (by omega)
          have := hin (q - f) (by omega) (by omega) (by omega)
          rw [e1, e2] at this
          rwa [show f + (q - f) = q by omega, show f + (q - f - 1) = q - 1 by omega] at this
        · exact hinv p (by omega) q hq h1 h2
    ·
      intro hb
      have hb : ¬ i < n := by simpa using hb
      refine AWp.exit ?_
      simp [qSeq, qBlock]
      repeat first | refine AWp.seq ?_ | refine AWp.block ?_
      refine AWp.ops ?_
      simp
      refine AWp.ret ?_
      simp
      refine retOk.of rfl ?_
      have : Rise ps cs lst := fun p hp => hinv p (by omega)
      simp [this]
  refine (base.frozen 2).mono ?_
  rintro q H' ⟨rfl, r, G, rfl, rfl⟩
  exact ⟨rfl, by simp⟩
end Go.Fw
namespace Go.Fw
open Go Go.RowKit Go.Proofs
set_option maxRecDepth 100000
set_option linter.unusedSimpArgs false
set_option linter.unusedVariables false
def lvOut (l : Lv) (c : Int) : Bool := decide (c < 0 ∨ l.sz ≤ c)
def lCheck1_1 : AC := (.seq (.ops [.m 4 (.t 0), .o 5 (.bin .lss (.t 4) (.i 0)), .m 6 (.t 5), .mg 7 6 false (.t 0), .og 8 6 false (.fad 1 (.t 1)), .og 9 6 false (.ld 1 false (.t 8)), .og 10 6 false (.bin .geq (.t 7) (.t 9)), .o 11 (.pick (.t 6) (.b true) (.t 10)), .m 3 (.t 11)]) .ret)
def lCheck1_ac : AC := (.seq (.ops [.m 3 (.b false)]) lCheck1_1)
theorem lCheck1_call {args : List AV} {H : List AObj} {R : AV → List AObj → Prop} (h : AWp Try.prog [] H.length lCheck1_ac (bodyQ H.length [(.t 3)] R) (args ++ List.replicate (12 - args.length) .und) H) : ACalls Try.prog 90 args H R :=
  ACalls.of_fn Try.func90 rfl (by kernel_rfl) rfl Try.ntmps90 h
theorem lCheck1_spec (k z : Int) (p c : AV) (x : Int) (l : Lv) (hl : l.sz = z) : ACalls Try.prog 90 [I x, .ptr 0 1 0 0] [lvO (.agg [I k, I z, p, c])] fun r H' => H' = [lvO (.agg [I k, I z, p, c])] ∧ r = Bo (lvOut l x) := by
  apply lCheck1_call
  repeat first | refine AWp.seq ?_ | refine AWp.block ?_
  refine AWp.ops ?_
  simp
  by_cases h : x < 0
  ·
    repeat first | refine AWp.seq ?_ | refine AWp.block ?_
    refine AWp.ops ?_
    simp [h]
    refine AWp.ret ?_
    simp
    refine retOk.of rfl ⟨rfl, ?_⟩
    simp [lvOut, h]
  ·
    repeat first | refine AWp.seq ?_ | refine AWp.block ?_
    refine AWp.ops ?_
    simp [h]
    refine AWp.ret ?_
    simp
    refine retOk.of rfl ⟨rfl, ?_⟩
    simp [lvOut, h, hl]
def lvCheck (l : Lv) (n : Nat) : Int :=
  if l.sz < 0 ∨ 2147483648 < l.sz ∨ lvFormed l n = false then 1
  else if 65536 < l.crd.length ∨ 1048576 < lvBelow l n then 2
  else if l.crd.any (lvOut l) = true then 3
  else if lvRise l = false then 1 else 0
def lCheck_9 : AC := (.seq (.ops [.o 45 (.ld 4 true (.t 2)), .c 46 false (.f 91) [(.t 45)], .o 47 (.un .not (.t 46)), .m 44 (.t 47)]) (.cond (.t 44) (.seq (.ops [.m 4 (.i 1)]) .ret) .skip))
def lCheck_8 : AC := (.cond (.t 39) (.seq (.ops [.m 4 (.i 3)]) .ret) lCheck_9)
def lCheck_7 : AC := (.seq (.ops [.o 40 (.fad 3 (.t 2)), .o 41 (.ld 1 false (.t 40)), .o 42 (.mkF (.func 90) [] [(.t 2)]), .c 43 false (.f 44) [(.t 41), (.t 42)], .m 39 (.t 43)]) lCheck_8)
def lCheck_6 : AC := (.cond (.t 28) (.seq (.ops [.m 4 (.i 2)]) .ret) lCheck_7)
def lCheck_5 : AC := (.seq (.ops [.o 29 (.fad 3 (.t 2)), .o 30 (.ld 1 false (.t 29)), .o 31 (.len (.t 30)), .o 32 (.bin .gtr (.t 31) (.i 65536)), .m 33 (.t 32), .og 34 33 false (.ld 4 true (.t 2)), .mg 35 33 false (.t 1), .cg 36 33 false false (.f 85) [(.t 34), (.t 35)], .og 37 33 false (.bin .gtr (.t 36) (.i 1048576)), .o 38 (.pick (.t 33) (.b true) (.t 37)), .m 28 (.t 38)]) lCheck_6)
def lCheck_4 : AC := (.cond (.t 5) (.seq (.ops [.m 4 (.i 1)]) .ret) lCheck_5)
def lCheck_3 : AC := (.seq (.ops [.m 6 (.t 1), .o 7 (.bin .lss (.t 6) (.i 0)), .m 8 (.t 7), .mg 9 8 false (.t 1), .og 10 8 false (.bin .gtr (.t 9) (.i 1048576)), .o 11 (.pick (.t 8) (.b true) (.t 10)), .m 12 (.t 11), .og 13 12 false (.fad 1 (.t 2)), .og 14 12 false (.ld 1 false (.t 13)), .og 15 12 false (.bin .lss (.t 14) (.i 0)), .o 16 (.pick (.t 12) (.b true) (.t 15)), .m 17 (.t 16), .og 18 17 false (.fad 1 (.t 2)), .og 19 17 false (.ld 1 false (.t 18)), .og 20 17 false (.bin .gtr (.t 19) (.i 2147483648)), .o 21 (.pick (.t 17) (.b true) (.t 20)), .m 22 (.t 21), .og 23 22 false (.ld 4 true (.t 2)), .mg 24 22 false (.t 1), .cg 25 22 false false (.f 89) [(.t 23), (.t 24)], .og 26 22 false (.un .not (.t 25)), .o 27 (.pick (.t 22) (.b true) (.t 26)), .m 5 (.t 27)]) lCheck_4)
def lCheck_2 : AC := (.block 0 lCheck_3)
def lCheck_1 : AC := (.seq lCheck_2 (.seq (.ops [.m 4 (.i 0)]) .ret))
def lCheck_ac : AC := (.seq (.ops [.o 2 (.new 34 4 (.t 0)), .m 4 (.i 0)]) lCheck_1)
theorem lCheck_call {args : List AV} {H : List AObj} {R : AV → List AObj → Prop} (h : AWp Try.prog [] H.length lCheck_ac (bodyQ H.length [(.t 4)] R) (args ++ List.replicate (48 - args.length) .und) H) : ACalls Try.prog 84 args H R :=
  ACalls.of_fn Try.func84 rfl (by kernel_rfl) rfl Try.ntmps84 h
set_option maxHeartbeats 2000000 in
theorem lCheck_spec {l : Lv} {p c : AV} (hl : LvOk l p c) {n : Nat} (hn : n ≤ 1048576) : ACalls Try.prog 84 [.agg [I l.k, I l.sz, p, c], I n] [] fun r H' => H' = [] ∧ r = I (lvCheck l n) := by
  have hl' := hl
  obtain ⟨h1, h2, h3, h4⟩ := hl
  have h2' := h2
  obtain ⟨⟨nl, cp, sz, rfl, hs⟩, hlen, hx⟩ := h1
  obtain ⟨⟨nl', cp', sz', rfl, hs'⟩, hlen', hx'⟩ := h2
  have base : ACalls Try.prog 84 [.agg [I l.k, I l.sz, .imm nl cp sz (l.pos.map I), .imm nl' cp' sz' (l.crd.map I)], I n] [] fun r H' => r = I (lvCheck l n) := by
    apply lCheck_call
    obtain ⟨bad, hbad⟩ : ∃ bad, bad = decide (l.sz < 0 ∨ 2147483648 < l.sz ∨ lvFormed l n = false) := ⟨_, rfl⟩
    repeat first | refine AWp.seq ?_ | refine AWp.block ?_
    refine AWp.ops ?_
    simp
    refine AWp.seq (AWp.block (AWp.cut [.und, I n, .ptr 0 1 0 0, .und, .und, Bo bad, .und, .und, .und, .und, .und, .und, .und, .und, .und, .und, .und, .und, .und, .und, .und, .und, .und, .und, .und, .und, .und, .und, .und, .und, .und, .und, .und, .und, .und, .und, .und, .und, .und, .und, .und, .und, .und, .und, .und, .und, .und, .und] [lvO (.agg [I l.k, I l.sz, .imm nl cp sz (l.pos.map I), .imm nl' cp' sz' (l.crd.map I)])] ?_ ?_))
    · have g0 : ¬ (n : Int) < 0 := by omega
      have g1 : ¬ 1048576 < (n : Int) := by omega
      by_cases z0 : l.sz < 0
      ·
        repeat first | refine AWp.seq ?_ | refine AWp.block ?_
        refine AWp.ops ?_
        simp [g0, g1, z0]
        exact (Weak.slots [1, 2, 5]).to (by simp [hbad, z0]) rfl
      by_cases z1 : 2147483648 < l.sz
      ·
        repeat first | refine AWp.seq ?_ | refine AWp.block ?_
        refine AWp.ops ?_
        simp [g0, g1, z0, z1]
        exact (Weak.slots [1, 2, 5]).to (by simp [hbad, z1]) rfl
      repeat first | refine AWp.seq ?_ | refine AWp.block ?_
      refine AWp.ops ?_
      simp [g0, g1, z0, z1]
      refine ((formed_spec hl' hn).pure (by simp) (by rintro r rfl; simp) _).mono ?_
      rintro r H' ⟨rfl, rfl⟩
      simp
      exact (Weak.slots [1, 2, 5]).to (by simp [hbad, z0, z1]) rfl
    refine AWp.cond (b := bad) (by simp) ?_ ?_
    · intro h
      have h : l.sz < 0 ∨ 2147483648 < l.sz ∨ lvFormed l n = false := by simpa only [hbad, decide_eq_true_eq] using h
      repeat first | refine AWp.seq ?_ | refine AWp.block ?_
      refine AWp.ops ?_
      simp
      refine AWp.ret ?_
      simp
      refine retOk.of rfl ?_
      rw [lvCheck, if_pos h]; simp
    intro h
    have hb : ¬ (l.sz < 0 ∨ 2147483648 < l.sz ∨ lvFormed l n = false) := by simpa only [hbad, decide_eq_false_iff_not] using h
    have z0 : 0 ≤ l.sz := by omega
    have z1 : l.sz ≤ 2147483648 := by omega
    have hf : lvFormed l n = true := by
      cases e : lvFormed l n with
      | true => rfl
      | false => exact absurd (.inr (.inr e)) hb
    obtain ⟨lg, hlg⟩ : ∃ lg, lg = decide (65536 < l.crd.length ∨ 1048576 < lvBelow l n) := ⟨_, rfl⟩
    refine AWp.cut [.und, I n, .ptr 0 1 0 0, .und, .und, .und, .und, .und, .und, .und, .und, .und, .und, .und, .und, .und, .und, .und, .und, .und, .und, .und, .und, .und, .und, .und, .und, .und, Bo lg, .und, .und, .und, .und, .und, .und, .und, .und, .und, .und, .und, .und, .und, .und, .und, .und, .und, .und, .und] [lvO (.agg [I l.k, I l.sz, .imm nl cp sz (l.pos.map I), .imm nl' cp' sz' (l.crd.map I)])] ?_ ?_
    · by_cases c1 : 65536 < l.crd.length
      · have c1' : 65536 < (l.crd.length : Int) := by omega
        repeat first | refine AWp.seq ?_ | refine AWp.block ?_
        refine AWp.ops ?_
        simp [c1']
        exact (Weak.slots [1, 2, 28]).to (by simp [hlg, c1]) rfl
      · have c1' : ¬ 65536 < (l.crd.length : Int) := by omega
        repeat first | refine AWp.seq ?_ | refine AWp.block ?_
        refine AWp.ops ?_
        simp [c1']
        refine ((below_spec hl' (n := n) ⟨by omega, by omega⟩ ⟨z0, z1⟩).pure (by simp) (by rintro r rfl; simp) _).mono ?_
        rintro r H' ⟨rfl, rfl⟩
        simp
        exact (Weak.slots [1, 2, 28]).to (by simp [hlg, c1]) rfl
    refine AWp.cond (b := lg) (by simp) ?_ ?_
    · intro h
      have h : 65536 < l.crd.length ∨ 1048576 < lvBelow l n := by simpa only [hlg, decide_eq_true_eq] using h
      repeat first | refine AWp.seq ?_ | refine AWp.block ?_
      refine AWp.ops ?_
      simp
      refine AWp.ret ?_
      simp
      refine retOk.of rfl ?_
      rw [lvCheck, if_neg hb, if_pos h]; simp
    intro h
    have hg : ¬ (65536 < l.crd.length ∨ 1048576 < lvBelow l n) := by simpa only [hlg, decide_eq_false_iff_not] using h
    repeat first | refine AWp.seq ?_ | refine AWp.block ?_
    refine AWp.ops ?_
    simp
    refine (ContainsFunc_gen h2' (caps := [.ptr 0 1 0 0]) (p := lvOut l) (fun x _ => lCheck1_spec _ _ _ _ x l rfl)).mono ?_
    rintro r H' ⟨rfl, rfl⟩
    simp
    refine AWp.cond (b := l.crd.any (lvOut l)) (by simp) ?_ ?_
    · intro h
      repeat first | refine AWp.seq ?_ | refine AWp.block ?_
      refine AWp.ops ?_
      simp
      refine AWp.ret ?_
      simp
      refine retOk.of rfl ?_
      rw [lvCheck, if_neg hb, if_neg hg, if_pos h]; simp
    intro ho
    have hr : ∀ x ∈ l.crd, 0 ≤ x ∧ x < 4294967296 := by
      intro x hx
      have := List.any_eq_false.1 ho x hx
      simp [lvOut] at this
      omega
    repeat first | refine AWp.seq ?_ | refine AWp.block ?_
    refine AWp.ops ?_
    simp
    refine ((lrising_spec hl' hn hf hr).pure (by simp) (by rintro r rfl; simp) _).mono ?_
    rintro r H' ⟨rfl, rfl⟩
    simp
    refine AWp.cond (b := !lvRise l) (by simp) ?_ ?_
    · intro h
      repeat first | refine AWp.seq ?_ | refine AWp.block ?_
      refine AWp.ops ?_
      simp
      refine AWp.ret ?_
      simp
      refine retOk.of rfl ?_
      rw [lvCheck, if_neg hb, if_neg hg, if_neg (by simp [ho]), if_pos (by simpa using h)]; simp
    intro h
    refine AWp.skip ?_
    simp only [qSeq, qBlock]
    repeat first | refine AWp.seq ?_ | refine AWp.block ?_
    refine AWp.ops ?_
    simp
    refine AWp.ret ?_
    simp
    refine retOk.of rfl ?_
    rw [lvCheck, if_neg hb, if_neg hg, if_neg (by simp [ho]), if_neg (by simpa using h)]; simp
  refine (base.frozen 2).mono ?_
  rintro q H' ⟨rfl, r, G, rfl, rfl⟩
  exact ⟨rfl, by simp⟩
theorem lvBelow_ok {l : Lv} {n : Nat} (h : lvCheck l n = 0) : 0 ≤ l.sz ∧ l.sz ≤ 2147483648 ∧ lvFormed l n = true ∧ l.crd.length ≤ 65536 ∧ 0 ≤ lvBelow l n ∧ lvBelow l n ≤ 1048576 ∧ (∀ x ∈ l.crd, 0 ≤ x ∧ x < l.sz) ∧ lvRise l = true := by
  unfold lvCheck at h
  split at h
  · cases h
  split at h
  · cases h
  split at h
  · cases h
  split at h
  · cases h
  rename_i a b c d
  have z0 : 0 ≤ l.sz := by omega
  refine ⟨by omega, by omega, ?_, by omega, ?_, by omega, fun x hx => ?_, by simpa using d⟩
  · cases e : lvFormed l n with
    | true => rfl
    | false => exact absurd (.inr (.inr e)) a
  · unfold lvBelow
    split
    · exact Int.mul_nonneg (by omega) z0
    · omega
  · have := List.any_eq_false.1 (by simpa only [Bool.not_eq_true] using c) x hx
    simp [lvOut] at this
    omega
def lBelow_6 : AC := (.seq (.ops [.o 13 (.ld 4 true (.t 2)), .m 14 (.t 1), .c 15 false (.f 85) [(.t 13), (.t 14)], .m 4 (.t 15), .m 5 (.i 0)]) .ret)
def lBelow_5 : AC := (.seq (.ops [.m 12 (.t 6), .m 4 (.i 0), .m 5 (.t 12)]) .ret)
def lBelow_4 : AC := (.cond (.t 11) lBelow_5 .skip)
def lBelow_3 : AC := (.seq (.ops [.m 10 (.t 6), .o 11 (.bin .neq (.t 10) (.i 0))]) lBelow_4)
def lBelow_2 : AC := (.seq (.ops [.o 7 (.ld 4 true (.t 2)), .m 8 (.t 1), .c 9 false (.f 84) [(.t 7), (.t 8)], .m 6 (.t 9)]) lBelow_3)
def lBelow_1 : AC := (.seq lBelow_2 lBelow_6)
def lBelow_ac : AC := (.seq (.ops [.o 2 (.new 34 4 (.t 0)), .m 4 (.i 0), .m 5 (.i 0)]) lBelow_1)
theorem lBelow_call {args : List AV} {H : List AObj} {R : AV → List AObj → Prop} (h : AWp Try.prog [] H.length lBelow_ac (bodyQ H.length [(.t 4), (.t 5)] R) (args ++ List.replicate (16 - args.length) .und) H) : ACalls Try.prog 69 args H R :=
  ACalls.of_fn Try.func69 rfl (by kernel_rfl) rfl Try.ntmps69 h
theorem lBelow_spec {l : Lv} {p c : AV} (hl : LvOk l p c) {n : Nat} (hn : n ≤ 1048576) : ACalls Try.prog 69 [.agg [I l.k, I l.sz, p, c], I n] [] fun r H' => H' = [] ∧ r = .tup [I (if lvCheck l n = 0 then lvBelow l n else 0), I (lvCheck l n)] := by
  have hl' := hl
  obtain ⟨h1, h2, h3, h4⟩ := hl
  obtain ⟨⟨nl, cp, sz, rfl, hs⟩, hlen, hx⟩ := h1
  obtain ⟨⟨nl', cp', sz', rfl, hs'⟩, hlen', hx'⟩ := h2
  have base : ACalls Try.prog 69 [.agg [I l.k, I l.sz, .imm nl cp sz (l.pos.map I), .imm nl' cp' sz' (l.crd.map I)], I n] [] fun r H' => r = .tup [I (if lvCheck l n = 0 then lvBelow l n else 0), I (lvCheck l n)] := by
    apply lBelow_call
    repeat first | refine AWp.seq ?_ | refine AWp.block ?_
    refine AWp.ops ?_
    simp
    repeat first | refine AWp.seq ?_ | refine AWp.block ?_
    refine AWp.ops ?_
    simp
    refine ((lCheck_spec hl' hn).pure (by simp) (by rintro r rfl; simp) _).mono ?_
    rintro r H' ⟨rfl, rfl⟩
    simp
    repeat first | refine AWp.seq ?_ | refine AWp.block ?_
    refine AWp.ops ?_
    simp
    by_cases h : lvCheck l n = 0
    · refine AWp.cond (b := false) (by simp [h]) (fun h => by cases h) (fun _ => ?_)
      obtain ⟨b1, b2, -⟩ := lvBelow_ok h
      refine AWp.skip ?_
      simp only [qSeq]
      repeat first | refine AWp.seq ?_ | refine AWp.block ?_
      refine AWp.ops ?_
      simp
      refine ((below_spec hl' (n := n) ⟨by omega, by omega⟩ ⟨b1, b2⟩).pure (by simp) (by rintro r rfl; simp) _).mono ?_
      rintro r H' ⟨rfl, rfl⟩
      simp
      refine AWp.ret ?_
      simp
      refine retOk.of rfl ?_
      simp [h]
    · refine AWp.cond (b := true) (by simp [h]) (fun _ => ?_) (fun h => by cases h)
      repeat first | refine AWp.seq ?_ | refine AWp.block ?_
      refine AWp.ops ?_
      simp
      refine AWp.ret ?_
      simp
      refine retOk.of rfl ?_
      simp [h]
  refine (base.frozen 2).mono ?_
  rintro q H' ⟨rfl, r, G, rfl, rfl⟩
  exact ⟨rfl, by simp⟩
end Go.Fw
namespace Go.Fw
open Go Go.RowKit Go.Proofs
set_option maxRecDepth 100000
set_option linter.unusedSimpArgs false
set_option linter.unusedVariables false
structure LvA where
  lv : Lv
  p : AV
  q : AV
def lvV (x : LvA) : AV := .agg [I x.lv.k, I x.lv.sz, x.p, x.q]
def Ls (a : AV) (xs : List LvA) : Prop :=
  (∃ nl c sz, a = .imm nl c sz (xs.map lvV) ∧ ((nl = true → xs = []) ∧ (nl = false → sz = 4))) ∧ xs.length ≤ 9223372036854775807 ∧ ∀ x ∈ xs, LvOk x.lv x.p x.q
theorem sz4_of {nl : Bool} {xs : List LvA} {sz i : Nat} (hs : (nl = true → xs = []) ∧ (nl = false → sz = 4)) (h : i < xs.length) : sz = 4 := by
  cases nl with
  | true => have := hs.1 rfl; subst this; simp at h
  | false => exact hs.2 rfl
theorem lv_get {xs : List LvA} {i : Nat} (h : i < xs.length) : (xs.map lvV)[i]? = some (.agg [I xs[i].lv.k, I xs[i].lv.sz, xs[i].p, xs[i].q]) := by
  rw [List.getElem?_map, List.getElem?_eq_getElem h]; rfl
abbrev tnO (a : AV) : AObj := ⟨27, 4, [a], true, none⟩
def cntGo : List LvA → Nat → Except Int (List Int)
  | [], _ => .ok []
  | x :: r, n => if lvCheck x.lv n = 0 then (cntGo r (lvBelow x.lv n).toNat).map (lvBelow x.lv n :: ·) else .error (lvCheck x.lv n)
def cntF (xs : List LvA) : List Int × Int :=
  match cntGo xs 1 with
  | .ok l => (l, 0)
  | .error e => ([], e)
theorem lvCheck_range (l : Lv) (n : Nat) : 0 ≤ lvCheck l n ∧ lvCheck l n ≤ 3 := by
  unfold lvCheck
  split
  · omega
  split
  · omega
  split
  · omega
  split <;> omega
theorem exMap_nil (o : Except Int (List Int)) : o = o.map ([] ++ ·) := by cases o <;> simp [Except.map]
def counted_16 : AC := (.seq (.ops [.m 28 (.t 2), .m 2 (.t 28), .m 3 (.i 0)]) .ret)
def counted_15 : AC := (.seq (.ops [.m 22 (.t 3), .m 2 .z, .m 3 (.t 22)]) .ret)
def counted_14 : AC := (.cond (.t 21) counted_15 .skip)
def counted_13 : AC := (.seq (.ops [.m 20 (.t 3), .o 21 (.bin .neq (.t 20) (.i 0))]) counted_14)
def counted_12 : AC := (.seq (.ops [.o 15 (.ld 4 true (.t 6)), .m 16 (.t 4), .c 17 false (.f 69) [(.t 15), (.t 16)], .m 14 (.t 17), .o 18 (.ext (.t 14) 0), .o 19 (.ext (.t 14) 1), .m 4 (.t 18), .m 3 (.t 19)]) counted_13)
def counted_11 : AC := (.seq counted_12 (.ops [.m 23 (.t 2), .m 24 (.t 4), .o 25 (.lit 1 [(.t 24)]), .o 26 (.app 3 1 8 (.t 23) (.t 25)), .m 2 (.t 26)]))
def counted_10 : AC := (.seq (.ops [.o 12 (.iad 4 (.t 8) (.t 10)), .o 13 (.ld 4 true (.t 12)), .o 6 (.new 34 4 (.c (.agg [(.sc (.int .i64 0)), (.sc (.int .i64 0)), nil0, nil0]))), .on (.st 4 (.t 6) (.t 13))]) counted_11)
def counted_9 : AC := (.block 1 counted_10)
def counted_8 : AC := (.seq counted_9 (.ops [.o 27 (.bin .add (.t 10) (.i 1)), .m 10 (.t 27)]))
def counted_7 : AC := (.seq (.cond (.t 11) .skip (.exit 0)) counted_8)
def counted_6 : AC := (.seq (.ops [.o 11 (.bin .lss (.t 10) (.t 9))]) counted_7)
def counted_5 : AC := (.loop counted_6)
def counted_4 : AC := (.block 0 counted_5)
def counted_3 : AC := (.seq (.ops [.o 7 (.fad 2 (.t 1)), .o 8 (.ld 1 false (.t 7)), .o 9 (.len (.t 8)), .m 10 (.i 0)]) counted_4)
def counted_2 : AC := (.seq counted_3 counted_16)
def counted_1 : AC := (.seq (.ops [.m 4 (.i 1)]) counted_2)
def counted_ac : AC := (.seq (.ops [.o 1 (.new 27 4 (.t 0)), .m 2 .z, .m 3 (.i 0)]) counted_1)
theorem counted_call {args : List AV} {H : List AObj} {R : AV → List AObj → Prop} (h : AWp Try.prog [] H.length counted_ac (bodyQ H.length [(.t 2), (.t 3)] R) (args ++ List.replicate (29 - args.length) .und) H) : ACalls Try.prog 38 args H R :=
  ACalls.of_fn Try.func38 rfl (by kernel_rfl) rfl Try.ntmps38 h
set_option maxHeartbeats 4000000 in
theorem counted_spec {sh f l v : AV} {S V : List Int} {F : List (Int × Int × Int)} {xs : List LvA} (hS : ISl sh S) (hF : Sp f F) (hl : Ls l xs) (hV : ISl v V) (hn : xs.length ≤ 1000) : ACalls Try.prog 38 [.agg [sh, f, l, v]] [] fun r H' => H' = [] ∧ ∃ o, r = .tup [o, I (cntF xs).2] ∧ ISl o (cntF xs).1 := by
  have hl' := hl
  obtain ⟨⟨nl, c, sz, rfl, hs⟩, hlen, hx⟩ := hl
  obtain ⟨⟨nl1, c1, sz1, rfl, hs1⟩, hlen1, hx1⟩ := hS
  obtain ⟨⟨nl2, c2, sz2, rfl, hs2⟩, hlen2, hx2⟩ := hF
  obtain ⟨⟨nl3, c3, sz3, rfl, hs3⟩, hlen3, hx3⟩ := hV
  have base : ACalls Try.prog 38 [.agg [.imm nl1 c1 sz1 (S.map I), .imm nl2 c2 sz2 (F.map specV), .imm nl c sz (xs.map lvV), .imm nl3 c3 sz3 (V.map I)]] [] fun r G => (r = .tup [.imm true none 0 [], I (cntF xs).2] ∧ (cntF xs).1 = []) ∨ ((cntF xs).2 = 0 ∧ InI (cntF xs).1 ∧ ∃ vr, (vr = some true → (cntF xs).1 = []) ∧ vr ≠ some false ∧ r = .tup [.slc 1 (cntF xs).1.length 0 (cntF xs).1.length none, I 0] ∧ G[1]? = some ⟨3, 1, (cntF xs).1.map I, true, vr⟩) := by
    apply counted_call
    repeat first | refine AWp.seq ?_ | refine AWp.block ?_
    refine AWp.ops ?_
    simp
    refine AWp.weak (Weak.own 2 3 1 (by omega) none 0 (by simp)) ?_
    simp
    repeat first | refine AWp.seq ?_ | refine AWp.block ?_
    refine AWp.ops ?_
    simp
    repeat first | refine AWp.seq ?_ | refine AWp.block ?_
    refine AWp.ops ?_
    simp
    obtain ⟨J, hJ⟩ : ∃ J : Nat → List AV → List AObj → Prop, J = fun i fr H => i ≤ xs.length ∧ ∃ (ws : List Int) (vr : Option Bool) (n : Nat), (((ws.length = i ∧ ∀ w ∈ ws, 0 ≤ w ∧ w < 4611686018427387904) ∧ (vr = some true → ws = []) ∧ vr ≠ some false) ∧ n ≤ 1048576 ∧ cntGo xs 1 = (cntGo (xs.drop i) n).map (ws ++ ·)) ∧ H = [tnO (.agg [.imm nl1 c1 sz1 (S.map I), .imm nl2 c2 sz2 (F.map specV), .imm nl c sz (xs.map lvV), .imm nl3 c3 sz3 (V.map I)]), ⟨3, 1, ws.map I, true, vr⟩] ∧
      fr = [.und, .ptr 0 1 0 0, .slc 1 ws.length 0 ws.length none, I 0, I n, .und, .und, .und, .imm nl c sz (xs.map lvV), I xs.length, I i, .und, .und, .und, .und, .und, .und, .und, .und, .und, .und, .und, .und, .und, .und, .und, .und, .und, .und] := ⟨_, rfl⟩
    refine AWp.block (AWp.loop J (fun i => xs.length - i) 0 (Weak.slots [1, 2, 3, 4, 8, 9, 10]) (by rw [hJ]; exact ⟨by omega, [], some true, 1, ⟨⟨⟨rfl, by simp⟩, by simp, by simp⟩, by omega, exMap_nil _⟩, by simp, by simp⟩) ?_)
    intro i fr H hI
    rw [hJ] at hI
    obtain ⟨hi, ws, vr, n, hinv, rfl, rfl⟩ := hI
    repeat first | refine AWp.seq ?_ | refine AWp.block ?_
    refine AWp.ops ?_
    simp
    refine AWp.seq (AWp.cond (b := decide (i < xs.length)) (by simp <;> omega) ?_ ?_)
    ·
      intro hb
      have hb : i < xs.length := by simpa using hb
      refine AWp.skip ?_
      simp only [qSeq]
      obtain ⟨⟨⟨hwl, hwv⟩, hv1, hv2⟩, hn', hgo⟩ := hinv
      have hsz4 := sz4_of hs hb
      subst hsz4
      have hgs := lv_get hb
      have hok := hx xs[i] (List.getElem_mem hb)
      rw [List.drop_eq_getElem_cons hb] at hgo
      simp only [cntGo] at hgo
      generalize xs[i] = x at hgs hok hgo
      obtain ⟨lv, p, q⟩ := x
      simp only at hgs hok hgo
      have hok' := hok
      obtain ⟨⟨⟨nlp, cp, szp, rfl, _⟩, _⟩, ⟨⟨nlq, cq, szq, rfl, _⟩, _⟩, _⟩ := hok'
      repeat first | refine AWp.seq ?_ | refine AWp.block ?_
      refine AWp.ops ?_
      simp [hgs]
      repeat first | refine AWp.seq ?_ | refine AWp.block ?_
      refine AWp.ops ?_
      simp
      refine ((lBelow_spec hok hn').pure (by simp) (by rintro r rfl; simp) _).mono ?_
      rintro r H' ⟨rfl, rfl⟩
      simp
      repeat first | refine AWp.seq ?_ | refine AWp.block ?_
      refine AWp.ops ?_
      simp
      by_cases h : lvCheck lv n = 0
      · obtain ⟨b1, b2, b3, b4, b5, b6, b7⟩ := lvBelow_ok h
        rw [if_pos h] at hgo
        refine AWp.cond (b := false) (by simp [h]) (fun h => by cases h) (fun _ => ?_)
        have b1 : (ws.length + 1) * 8 ≤ 140737488355328 := by omega
        have b2 : ws.length + 1 ≤ 9223372036854775807 := by omega
        have hwi := wrap_i64 (n := (i : Int) + 1) (by omega) (by omega)
        refine AWp.skip ?_
        simp only [qSeq]
        repeat first | refine AWp.seq ?_ | refine AWp.block ?_
        refine AWp.ops ?_
        simp [b1, b2, elems, h]
        repeat first | refine AWp.seq ?_ | refine AWp.block ?_
        refine AWp.ops ?_
        simp [hwi]
        obtain ⟨m, hm⟩ : ∃ m : Nat, lvBelow lv n = m := ⟨(lvBelow lv n).toNat, by omega⟩
        rw [hm, Int.toNat_natCast] at hgo
        refine ⟨i + 1, _, _, (Weak.slots [1, 2, 3, 4, 8, 9, 10]).trans (Weak.freeze 2 2 (by simp)), ?_, by omega⟩
        rw [hJ]
        refine ⟨by omega, ws ++ [(m : Int)], none, m, ⟨⟨⟨by simp [hwl], fun w hw => ?_⟩, by simp, by simp⟩, by omega, ?_⟩, ?_, ?_⟩
        · rcases List.mem_append.1 hw with h | h
          · exact hwv w h
          · have : w = m := by simpa using h
            omega
        · rw [hgo]
          generalize cntGo (xs.drop (i + 1)) m = o
          cases o <;> simp [Except.map]
        · simp [frzH, hm]
        · simp [h, hm]
      · rw [if_neg h] at hgo
        refine AWp.cond (b := true) (by simp [h]) (fun _ => ?_) (fun h => by cases h)
        repeat first | refine AWp.seq ?_ | refine AWp.block ?_
        refine AWp.ops ?_
        simp
        refine AWp.ret ?_
        simp
        refine retOk.of rfl ?_
        left
        simp [cntF, hgo, Except.map]
    ·
      intro hb
      have hb : ¬ i < xs.length := by simpa using hb
      refine AWp.exit ?_
      simp [qSeq, qBlock]
      obtain ⟨⟨⟨hwl, hwv⟩, hv1, hv2⟩, hn', hgo⟩ := hinv
      rw [List.drop_eq_nil_of_le (by omega)] at hgo
      simp only [cntGo, Except.map, List.append_nil] at hgo
      have hW : cntF xs = (ws, 0) := by simp [cntF, hgo]
      repeat first | refine AWp.seq ?_ | refine AWp.block ?_
      refine AWp.ops ?_
      simp
      refine AWp.ret ?_
      simp
      refine retOk.of rfl ?_
      rw [hW]
      exact .inr ⟨rfl, ⟨by show ws.length ≤ _; omega, fun x hx => by have := hwv x hx; omega⟩, vr, hv1, hv2, by simp, by simp⟩
  refine (base.frozen 2).mono ?_
  rintro q H' ⟨rfl, r, G, ⟨rfl, h1⟩ | ⟨h0, h1, v, hv1, hv2, rfl, h2⟩, rfl⟩
  · exact ⟨rfl, _, by simp; rfl, by rw [h1]; exact ⟨⟨true, none, 0, rfl, by simp, by simp⟩, by simp, by simp⟩⟩
  · refine ⟨rfl, _, by simp [h0]; rfl, ?_⟩
    match v, hv1, hv2 with
    | some true, hv1, _ =>
      have h3 := hv1 rfl
      rw [h3]
      exact ⟨⟨true, none, 1, by simp [h2, h3], by simp, by simp⟩, by simp, by simp⟩
    | none, _, _ => exact ⟨⟨false, none, 1, by simp [h2], by simp, by simp⟩, h1⟩
    | some false, _, h => exact absurd rfl h
end Go.Fw
namespace Go.Fw
open Go Go.RowKit Go.Proofs
set_option maxRecDepth 100000
set_option linter.unusedSimpArgs false
set_option linter.unusedVariables false
def IdxL_10 : AC := (.seq (.ops [.m 11 (.t 1), .m 12 (.t 0), .m 13 (.t 5), .o 14 (.iad 4 (.t 12) (.t 13)), .o 15 (.ld 4 true (.t 14)), .c 16 false (.t 11) [(.t 15)]]) (.cond (.t 16) (.seq (.ops [.m 17 (.t 5), .m 4 (.t 17)]) .ret) .skip))
def IdxL_9 : AC := (.seq (.ops [.m 10 (.t 8), .m 5 (.t 10)]) IdxL_10)
def IdxL_8 : AC := (.block 1 IdxL_9)
def IdxL_7 : AC := (.seq IdxL_8 (.ops [.o 18 (.bin .add (.t 8) (.i 1)), .m 8 (.t 18)]))
def IdxL_6 : AC := (.seq (.cond (.t 9) .skip (.exit 0)) IdxL_7)
def IdxL_5 : AC := (.seq (.ops [.o 9 (.bin .lss (.t 8) (.t 7))]) IdxL_6)
def IdxL_4 : AC := (.loop IdxL_5)
def IdxL_3 : AC := (.block 0 IdxL_4)
def IdxL_2 : AC := (.seq (.ops [.m 6 (.t 0), .o 7 (.len (.t 6)), .m 8 (.i 0)]) IdxL_3)
def IdxL_1 : AC := (.seq IdxL_2 (.seq (.ops [.m 4 (.i (-1))]) .ret))
def IdxL_ac : AC := (.seq (.ops [.m 4 (.i 0)]) IdxL_1)
theorem IdxL_call {args : List AV} {H : List AObj} {R : AV → List AObj → Prop} (h : AWp Try.prog [] H.length IdxL_ac (bodyQ H.length [(.t 4)] R) (args ++ List.replicate (19 - args.length) .und) H) : ACalls Try.prog 70 args H R :=
  ACalls.of_fn Try.func70 rfl (by kernel_rfl) rfl Try.ntmps70 h
theorem IdxL_spec {a : AV} {xs : List LvA} {g : FuncId} {p : LvA → Bool} (ha : Ls a xs) (hg : ∀ x ∈ xs, ACalls Try.prog g [lvV x] [] fun r H' => H' = [] ∧ r = Bo (p x)) :
    ACalls Try.prog 70 [a, .fn (.func g) [] []] [] fun r H' => H' = [] ∧ ∃ n : Int, r = I n ∧ ((n = -1 ∧ ∀ x ∈ xs, p x = false) ∨ ∃ i, ∃ h : i < xs.length, n = i ∧ p xs[i] = true ∧ ∀ x ∈ xs.take i, p x = false) := by
  obtain ⟨⟨nl, c, sz, rfl, hs⟩, hlen, hx⟩ := ha
  apply IdxL_call
  repeat first | refine AWp.seq ?_ | refine AWp.block ?_
  refine AWp.ops ?_
  simp
  repeat first | refine AWp.seq ?_ | refine AWp.block ?_
  refine AWp.ops ?_
  simp
  obtain ⟨J, hJ⟩ : ∃ J : Nat → List AV → List AObj → Prop, J = fun i fr H => i ≤ xs.length ∧ (∀ x ∈ xs.take i, p x = false) ∧ H = [] ∧
    fr = [.imm nl c sz (xs.map lvV), .fn (.func g) [] [], .und, .und, .und, .und, .imm nl c sz (xs.map lvV), I xs.length, I i, .und, .und, .und, .und, .und, .und, .und, .und, .und, .und] := ⟨_, rfl⟩
  refine AWp.block (AWp.loop J (fun i => xs.length - i) 0 (Weak.slots [0, 1, 6, 7, 8]) (by rw [hJ]; exact ⟨by omega, by simp, by simp, by simp⟩) ?_)
  intro i fr H hI
  rw [hJ] at hI
  obtain ⟨hi, hinv, rfl, rfl⟩ := hI
  repeat first | refine AWp.seq ?_ | refine AWp.block ?_
  refine AWp.ops ?_
  simp
  refine AWp.seq (AWp.cond (b := decide (i < xs.length)) (by simp <;> omega) ?_ ?_)
  ·
    intro hb
    have hb : i < xs.length := by simpa using hb
    refine AWp.skip ?_
    simp only [qSeq]
    have hsz4 := sz4_of hs hb
    subst hsz4
    have hgs := lv_get hb
    repeat first | refine AWp.seq ?_ | refine AWp.block ?_
    refine AWp.ops ?_
    simp
    repeat first | refine AWp.seq ?_ | refine AWp.block ?_
    refine AWp.ops ?_
    simp [hgs]
    refine (hg xs[i] (List.getElem_mem hb)).mono ?_
    rintro r H' ⟨rfl, rfl⟩
    simp
    refine AWp.cond (b := p xs[i]) (by simp) ?_ ?_
    · intro he
      repeat first | refine AWp.seq ?_ | refine AWp.block ?_
      refine AWp.ops ?_
      simp
      refine AWp.ret ?_
      simp
      refine retOk.of rfl ⟨rfl, i, by simp, .inr ⟨i, rfl, ⟨hb, he⟩, hinv⟩⟩
    · intro he
      refine AWp.skip ?_
      simp only [qSeq, qBlock]
      repeat first | refine AWp.seq ?_ | refine AWp.block ?_
      refine AWp.ops ?_
      simp
      refine ⟨i + 1, _, _, Weak.slots [0, 1, 6, 7, 8], ?_, by omega⟩
      rw [hJ]
      refine ⟨by omega, ?_, by simp, by simp [wrap_i64 (n := (i : Int) + 1) (by omega) (by omega)]⟩
      intro x hx
      rw [List.take_succ_eq_append_getElem hb] at hx
      rcases List.mem_append.1 hx with h | h
      · exact hinv x h
      · simp at h; rw [h]; exact he
  ·
    intro hb
    have hb : ¬ i < xs.length := by simpa using hb
    refine AWp.exit ?_
    simp [qSeq, qBlock]
    repeat first | refine AWp.seq ?_ | refine AWp.block ?_
    refine AWp.ops ?_
    simp
    refine AWp.ret ?_
    simp
    refine retOk.of rfl ⟨rfl, -1, by simp, .inl ⟨rfl, ?_⟩⟩
    have : xs.take i = xs := List.take_of_length_le (by omega)
    rw [this] at hinv
    exact hinv
def srising1_1 : AC := (.seq (.ops [.o 3 (.fad 0 (.t 1)), .o 4 (.ld 1 false (.t 3)), .o 5 (.bin .eql (.t 4) (.i 2)), .m 2 (.t 5)]) .ret)
def srising1_ac : AC := (.seq (.ops [.o 1 (.new 34 4 (.t 0)), .m 2 (.b false)]) srising1_1)
theorem srising1_call {args : List AV} {H : List AObj} {R : AV → List AObj → Prop} (h : AWp Try.prog [] H.length srising1_ac (bodyQ H.length [(.t 2)] R) (args ++ List.replicate (6 - args.length) .und) H) : ACalls Try.prog 71 args H R :=
  ACalls.of_fn Try.func71 rfl (by kernel_rfl) rfl Try.ntmps71 h
theorem srising1_spec {x : LvA} (hx : LvOk x.lv x.p x.q) : ACalls Try.prog 71 [lvV x] [] fun r H' => H' = [] ∧ r = Bo (decide (x.lv.k = 2)) := by
  obtain ⟨lv, p, q⟩ := x
  simp only at hx
  obtain ⟨⟨⟨nlp, cp, szp, rfl, _⟩, _⟩, ⟨⟨nlq, cq, szq, rfl, _⟩, _⟩, _⟩ := hx
  have base : ACalls Try.prog 71 [lvV ⟨lv, .imm nlp cp szp (lv.pos.map I), .imm nlq cq szq (lv.crd.map I)⟩] [] fun r H' => r = Bo (decide (lv.k = 2)) := by
    apply srising1_call
    simp only [lvV]
    repeat first | refine AWp.seq ?_ | refine AWp.block ?_
    refine AWp.ops ?_
    simp
    repeat first | refine AWp.seq ?_ | refine AWp.block ?_
    refine AWp.ops ?_
    simp
    refine AWp.ret ?_
    simp
    refine retOk.of rfl ?_
    by_cases h : lv.k = 2 <;> simp [h]
  refine (base.frozen 2).mono ?_
  rintro q H' ⟨rfl, r, G, rfl, rfl⟩
  exact ⟨rfl, by simp⟩
def lessF : List LvA → Nat → Bool
  | [], _ => false
  | x :: r, n => if x.lv.crd.getD n 0 = x.lv.crd.getD (n - 1) 0 then lessF r n else decide (x.lv.crd.getD (n - 1) 0 < x.lv.crd.getD n 0)
def srising2_13 : AC := (.seq (.ops [.m 31 (.t 7), .o 32 (.bin .gtr (.t 31) (.i 0)), .m 4 (.t 32)]) .ret)
def srising2_12 : AC := (.cond (.t 30) srising2_13 .skip)
def srising2_11 : AC := (.seq (.ops [.m 29 (.t 7), .o 30 (.bin .neq (.t 29) (.i 0))]) srising2_12)
def srising2_10 : AC := (.seq (.ops [.o 17 (.fad 3 (.t 6)), .o 18 (.ld 1 false (.t 17)), .m 19 (.t 0), .o 20 (.iad 1 (.t 18) (.t 19)), .o 21 (.ld 1 false (.t 20)), .o 22 (.fad 3 (.t 6)), .o 23 (.ld 1 false (.t 22)), .m 24 (.t 0), .o 25 (.bin .sub (.t 24) (.i 1)), .o 26 (.iad 1 (.t 23) (.t 25)), .o 27 (.ld 1 false (.t 26)), .o 28 (.bin .sub (.t 21) (.t 27)), .m 7 (.t 28)]) srising2_11)
def srising2_9 : AC := (.seq (.ops [.o 15 (.iad 4 (.t 11) (.t 13)), .o 16 (.ld 4 true (.t 15)), .o 6 (.new 34 4 (.c (.agg [(.sc (.int .i64 0)), (.sc (.int .i64 0)), nil0, nil0]))), .on (.st 4 (.t 6) (.t 16))]) srising2_10)
def srising2_8 : AC := (.block 1 srising2_9)
def srising2_7 : AC := (.seq srising2_8 (.ops [.o 33 (.bin .add (.t 13) (.i 1)), .m 13 (.t 33)]))
def srising2_6 : AC := (.seq (.cond (.t 14) .skip (.exit 0)) srising2_7)
def srising2_5 : AC := (.seq (.ops [.o 14 (.bin .lss (.t 13) (.t 12))]) srising2_6)
def srising2_4 : AC := (.loop srising2_5)
def srising2_3 : AC := (.block 0 srising2_4)
def srising2_2 : AC := (.seq (.ops [.o 8 (.fad 2 (.t 1)), .o 9 (.ld 1 false (.t 8)), .o 10 (.ld 1 false (.t 2)), .o 11 (.sl 4 (.t 9) (some (.t 10)) none none), .o 12 (.len (.t 11)), .m 13 (.i 0)]) srising2_3)
def srising2_1 : AC := (.seq srising2_2 (.seq (.ops [.m 4 (.b false)]) .ret))
def srising2_ac : AC := (.seq (.ops [.m 4 (.b false)]) srising2_1)
theorem srising2_call {args : List AV} {H : List AObj} {R : AV → List AObj → Prop} (h : AWp Try.prog [] H.length srising2_ac (bodyQ H.length [(.t 4)] R) (args ++ List.replicate (34 - args.length) .und) H) : ACalls Try.prog 72 args H R :=
  ACalls.of_fn Try.func72 rfl (by kernel_rfl) rfl Try.ntmps72 h
set_option maxHeartbeats 2000000 in
theorem srising2_spec {sh f l v : AV} {S V : List Int} {F : List (Int × Int × Int)} {xs : List LvA} (hS : ISl sh S) (hF : Sp f F) (hl : Ls l xs) (hV : ISl v V) {i n m : Nat} (hi : i < xs.length) (hn : 0 < n) (hm : n < m) (hmb : m ≤ 1048576)
    (hc : ∀ x ∈ xs.drop i, x.lv.crd.length = m ∧ ∀ c ∈ x.lv.crd, 0 ≤ c ∧ c < 4294967296) :
    ACalls Try.prog 72 [I n, .ipt (.agg [sh, f, l, v]) 0, .ipt (I i) 0] [] fun r H' => H' = [] ∧ r = Bo (lessF (xs.drop i) n) := by
  obtain ⟨⟨nl, c, sz, rfl, hs⟩, hlen, hx⟩ := hl
  obtain ⟨⟨nl1, c1, sz1, rfl, hs1⟩, hlen1, hx1⟩ := hS
  obtain ⟨⟨nl2, c2, sz2, rfl, hs2⟩, hlen2, hx2⟩ := hF
  obtain ⟨⟨nl3, c3, sz3, rfl, hs3⟩, hlen3, hx3⟩ := hV
  have hsz4 := sz4_of hs hi
  subst hsz4
  have hxd : ∀ x ∈ xs.drop i, LvOk x.lv x.p x.q := fun x hm => hx x (List.mem_of_mem_drop hm)
  obtain ⟨ys, hys⟩ : ∃ ys, ys = xs.drop i := ⟨_, rfl⟩
  have hdr : List.drop i (xs.map lvV) = ys.map lvV := by rw [hys, List.map_drop]
  have hyl : xs.length - i = ys.length := by rw [hys, List.length_drop]
  have hyn : 0 < ys.length := by omega
  rw [← hys] at hc hxd ⊢
  have base : ACalls Try.prog 72 [I n, .ipt (.agg [.imm nl1 c1 sz1 (S.map I), .imm nl2 c2 sz2 (F.map specV), .imm nl c 4 (xs.map lvV), .imm nl3 c3 sz3 (V.map I)]) 0, .ipt (I i) 0] [] fun r H' => r = Bo (lessF ys n) := by
    apply srising2_call
    have e1 : (i : Int) ≤ xs.length := by omega
    have e2 : (if i = 0 then xs.map lvV else List.take ys.length (ys.map lvV)) = ys.map lvV := by
      split
      · rename_i h
        rw [hys, h]; rfl
      · exact List.take_of_length_le (by simp)
    repeat first | refine AWp.seq ?_ | refine AWp.block ?_
    refine AWp.ops ?_
    simp
    repeat first | refine AWp.seq ?_ | refine AWp.block ?_
    refine AWp.ops ?_
    simp [e1, hdr, hyl, e2]
    obtain ⟨c', hc'⟩ : ∃ c', c' = Option.map (fun x => x - i) c := ⟨_, rfl⟩
    rw [← hc']
    obtain ⟨J, hJ⟩ : ∃ J : Nat → List AV → List AObj → Prop, J = fun i fr H => i ≤ ys.length ∧ (lessF ys n = lessF (ys.drop i) n) ∧ H = [] ∧
      fr = [I n, .und, .und, .und, .und, .und, .und, .und, .und, .und, .und, .imm nl c' 4 (ys.map lvV), I ys.length, I i, .und, .und, .und, .und, .und, .und, .und, .und, .und, .und, .und, .und, .und, .und, .und, .und, .und, .und, .und, .und] := ⟨_, rfl⟩
    refine AWp.block (AWp.loop J (fun i => ys.length - i) 0 (Weak.slots [0, 11, 12, 13]) (by rw [hJ]; exact ⟨by omega, rfl, by simp, by simp⟩) ?_)
    intro i fr H hI
    rw [hJ] at hI
    obtain ⟨hi, hinv, rfl, rfl⟩ := hI
    repeat first | refine AWp.seq ?_ | refine AWp.block ?_
    refine AWp.ops ?_
    simp
    refine AWp.seq (AWp.cond (b := decide (i < ys.length)) (by simp <;> omega) ?_ ?_)
    ·
      intro hb
      have hb : i < ys.length := by simpa using hb
      refine AWp.skip ?_
      simp only [qSeq]
      have hgs := lv_get hb
      have hok := hxd ys[i] (List.getElem_mem hb)
      obtain ⟨hcl, hcr⟩ := hc ys[i] (List.getElem_mem hb)
      rw [List.drop_eq_getElem_cons hb] at hinv
      simp only [lessF] at hinv
      generalize ys[i] = x at hgs hok hinv hcl hcr
      obtain ⟨lv, p, q⟩ := x
      simp only at hgs hok hinv hcl hcr
      obtain ⟨⟨⟨nlp, cp, szp, rfl, _⟩, _⟩, ⟨⟨nlq, cq, szq, rfl, hsq⟩, _⟩, _⟩ := hok
      have b1 : n < lv.crd.length := by omega
      have b2 : n - 1 < lv.crd.length := by omega
      have hszq := sz_of hsq b1
      subst hszq
      have g1 : (1 : Int) ≤ (n : Int) := by omega
      have g2 : ((n : Int) - 1).toNat = n - 1 := by omega
      have w1 := wrap_i64 (n := (n : Int) - 1) (by omega) (by omega)
      have r1 := hcr lv.crd[n] (List.getElem_mem b1)
      have r2 := hcr lv.crd[n - 1] (List.getElem_mem b2)
      have w2 := wrap_i64 (n := lv.crd[n] - lv.crd[n - 1]) (by omega) (by omega)
      have q1 : lv.crd.getD n 0 = lv.crd[n] := by simp [b1]
      have q2 : lv.crd.getD (n - 1) 0 = lv.crd[n - 1] := by simp [b2]
      rw [q1, q2] at hinv
      repeat first | refine AWp.seq ?_ | refine AWp.block ?_
      refine AWp.ops ?_
      simp [hgs]
      repeat first | refine AWp.seq ?_ | refine AWp.block ?_
      refine AWp.ops ?_
      simp [b1, b2, g1, g2, w1, w2]
      repeat first | refine AWp.seq ?_ | refine AWp.block ?_
      refine AWp.ops ?_
      simp
      by_cases he : lv.crd[n] = lv.crd[n - 1]
      · rw [if_pos he] at hinv
        refine AWp.cond (b := false) (by simp [he]) (fun h => by cases h) (fun _ => ?_)
        refine AWp.skip ?_
        simp only [qSeq, qBlock]
        repeat first | refine AWp.seq ?_ | refine AWp.block ?_
        refine AWp.ops ?_
        simp
        refine ⟨i + 1, _, _, (Weak.slots [0, 11, 12, 13]).trans (Weak.freeze 0 3 (by simp)), ?_, by omega⟩
        rw [hJ]
        refine ⟨by omega, ?_, by simp [frzH], by simp [wrap_i64 (n := (i : Int) + 1) (by omega) (by omega)]⟩
        exact hinv
      · rw [if_neg he] at hinv
        refine AWp.cond (b := true) (by simp; omega) (fun _ => ?_) (fun h => by cases h)
        repeat first | refine AWp.seq ?_ | refine AWp.block ?_
        refine AWp.ops ?_
        simp
        refine AWp.ret ?_
        simp
        refine retOk.of rfl ?_
        rw [hinv]
        simp
    ·
      intro hb
      have hb : ¬ i < ys.length := by simpa using hb
      refine AWp.exit ?_
      simp [qSeq, qBlock]
      rw [List.drop_eq_nil_of_le (by omega)] at hinv
      repeat first | refine AWp.seq ?_ | refine AWp.block ?_
      refine AWp.ops ?_
      simp
      refine AWp.ret ?_
      simp
      refine retOk.of rfl ?_
      rw [hinv]; simp [lessF]
  refine (base.frozen 2).mono ?_
  rintro q H' ⟨rfl, r, G, rfl, rfl⟩
  exact ⟨rfl, by simp⟩
end Go.Fw
