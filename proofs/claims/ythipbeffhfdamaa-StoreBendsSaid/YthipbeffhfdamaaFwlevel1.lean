import Derived.Test.YthipbeffhfdamaaFwstore2
namespace Go.Fw
open Go Go.RowKit Go.Proofs
set_option maxRecDepth 100000
set_option linter.unusedSimpArgs false
set_option linter.unusedVariables false

def isNaN_1 : AC := (.seq (.ops [⟨(some 3), none, (.k (.mov (.t 0)))⟩, ⟨(some 4), none, (.k (.mov (.t 0)))⟩, ⟨(some 5), none, (.k (.bin .neq (.t 3) (.t 4)))⟩, ⟨(some 2), none, (.k (.mov (.t 5)))⟩]) .ret)
def isNaN_ac : AC := (.seq (.ops [⟨(some 2), none, (.k (.mov (.c (.sc (.bool false)))))⟩]) isNaN_1)
theorem isNaN_call {args : List AV} {H : List AObj} {R : AV → List AObj → Prop} (h : AWp Try.prog [] H.length isNaN_ac (bodyQ H.length [(.t 2)] R) (args ++ List.replicate (6 - args.length) .und) H) : ACalls Try.prog 96 args H R :=
  ACalls.of_fn Try.func96 rfl (by kernel_rfl) rfl Try.ntmps96 h

theorem isNaN_spec (x : Int) : ACalls Try.prog 96 [I x] [] fun r H' => H' = [] ∧ r = Bo false := by
  apply isNaN_call
  repeat first | refine AWp.seq ?_ | refine AWp.block ?_
  refine AWp.ops ?_
  simp
  repeat first | refine AWp.seq ?_ | refine AWp.block ?_
  refine AWp.ops ?_
  simp
  refine AWp.ret ?_
  simp
  refine retOk.of rfl ⟨rfl, by simp⟩

def cLess_1 : AC := (.seq (.ops [⟨(some 5), none, (.k (.mov (.t 0)))⟩, ⟨(some 6), none, (.call false (.c (.fn (.func 96) [] [])) [(.t 5)])⟩, ⟨(some 7), none, (.k (.mov (.t 6)))⟩, ⟨(some 8), (some (7, true)), (.k (.mov (.t 1)))⟩, ⟨(some 9), (some (7, true)), (.call false (.c (.fn (.func 96) [] [])) [(.t 8)])⟩, ⟨(some 10), (some (7, true)), (.k (.un .not (.t 9)))⟩, ⟨(some 11), none, (.k (.pick (.t 7) (.t 10) (.c (.sc (.bool false)))))⟩, ⟨(some 12), none, (.k (.mov (.t 11)))⟩, ⟨(some 13), (some (12, false)), (.k (.mov (.t 0)))⟩, ⟨(some 14), (some (12, false)), (.k (.mov (.t 1)))⟩, ⟨(some 15), (some (12, false)), (.k (.bin .lss (.t 13) (.t 14)))⟩, ⟨(some 16), none, (.k (.pick (.t 12) (.c (.sc (.bool true))) (.t 15)))⟩, ⟨(some 4), none, (.k (.mov (.t 16)))⟩]) .ret)
def cLess_ac : AC := (.seq (.ops [⟨(some 4), none, (.k (.mov (.c (.sc (.bool false)))))⟩]) cLess_1)
theorem cLess_call {args : List AV} {H : List AObj} {R : AV → List AObj → Prop} (h : AWp Try.prog [] H.length cLess_ac (bodyQ H.length [(.t 4)] R) (args ++ List.replicate (17 - args.length) .und) H) : ACalls Try.prog 95 args H R :=
  ACalls.of_fn Try.func95 rfl (by kernel_rfl) rfl Try.ntmps95 h

theorem cLess_spec (x y : Int) : ACalls Try.prog 95 [I x, I y] [] fun r H' => H' = [] ∧ r = Bo (decide (x < y)) := by
  apply cLess_call
  repeat first | refine AWp.seq ?_ | refine AWp.block ?_
  refine AWp.ops ?_
  simp
  repeat first | refine AWp.seq ?_ | refine AWp.block ?_
  refine AWp.ops ?_
  simp
  refine (isNaN_spec x).mono ?_
  rintro r H' ⟨rfl, rfl⟩
  simp
  refine AWp.ret ?_
  simp
  refine retOk.of rfl ⟨rfl, by simp⟩

/-- Whether each number is no less than the one ahead. -/
def Sorted (xs : List Int) : Prop := ∀ k, k + 1 < xs.length → xs.getD k 0 ≤ xs.getD (k + 1) 0
instance (xs : List Int) : Decidable (Sorted xs) := decidable_of_iff (∀ k < xs.length - 1, xs.getD k 0 ≤ xs.getD (k + 1) 0) ⟨fun h k hk => h k (by omega), fun h k hk => h k (by omega)⟩

def IsSorted_9 : AC := (.seq (.ops [⟨(some 11), none, (.k (.mov (.t 0)))⟩, ⟨(some 12), none, (.k (.mov (.t 3)))⟩, ⟨(some 13), none, (.k (.iad 1 (.t 11) (.t 12)))⟩, ⟨(some 14), none, (.k (.ld 1 false (.t 13)))⟩, ⟨(some 15), none, (.k (.mov (.t 0)))⟩, ⟨(some 16), none, (.k (.mov (.t 3)))⟩, ⟨(some 17), none, (.k (.bin .sub (.t 16) (.c (.sc (.int .i64 1)))))⟩, ⟨(some 18), none, (.k (.iad 1 (.t 15) (.t 17)))⟩, ⟨(some 19), none, (.k (.ld 1 false (.t 18)))⟩, ⟨(some 20), none, (.call true (.c (.fn (.func 95) [] [])) [(.t 14), (.t 19)])⟩]) (.cond (.t 20) (.seq (.ops [⟨(some 2), none, (.k (.mov (.c (.sc (.bool false)))))⟩]) .ret) .skip))
def IsSorted_8 : AC := (.block 1 IsSorted_9)
def IsSorted_7 : AC := (.seq IsSorted_8 (.ops [⟨(some 9), none, (.k (.mov (.t 3)))⟩, ⟨(some 10), none, (.k (.bin .sub (.t 9) (.c (.sc (.int .i64 1)))))⟩, ⟨(some 3), none, (.k (.mov (.t 10)))⟩]))
def IsSorted_6 : AC := (.seq (.ops [⟨(some 7), none, (.k (.mov (.t 3)))⟩, ⟨(some 8), none, (.k (.bin .gtr (.t 7) (.c (.sc (.int .i64 0)))))⟩]) (.cond (.t 8) .skip (.exit 0)))
def IsSorted_5 : AC := (.seq IsSorted_6 IsSorted_7)
def IsSorted_4 : AC := (.loop IsSorted_5)
def IsSorted_3 : AC := (.block 0 IsSorted_4)
def IsSorted_2 : AC := (.seq (.ops [⟨(some 4), none, (.k (.mov (.t 0)))⟩, ⟨(some 5), none, (.k (.len (.t 4)))⟩, ⟨(some 6), none, (.k (.bin .sub (.t 5) (.c (.sc (.int .i64 1)))))⟩, ⟨(some 3), none, (.k (.mov (.t 6)))⟩]) IsSorted_3)
def IsSorted_1 : AC := (.seq IsSorted_2 (.seq (.ops [⟨(some 2), none, (.k (.mov (.c (.sc (.bool true)))))⟩]) .ret))
def IsSorted_ac : AC := (.seq (.ops [⟨(some 2), none, (.k (.mov (.c (.sc (.bool false)))))⟩]) IsSorted_1)
theorem IsSorted_call {args : List AV} {H : List AObj} {R : AV → List AObj → Prop} (h : AWp Try.prog [] H.length IsSorted_ac (bodyQ H.length [(.t 2)] R) (args ++ List.replicate (21 - args.length) .und) H) : ACalls Try.prog 94 args H R :=
  ACalls.of_fn Try.func94 rfl (by kernel_rfl) rfl Try.ntmps94 h

theorem IsSorted_spec {a : AV} {xs : List Int} (ha : ISl a xs) : ACalls Try.prog 94 [a] [] fun r H' => H' = [] ∧ r = Bo (decide (Sorted xs)) := by
  obtain ⟨⟨nl, c, sz, rfl, hs⟩, hlen, hx⟩ := ha
  apply IsSorted_call
  repeat first | refine AWp.seq ?_ | refine AWp.block ?_
  refine AWp.ops ?_
  simp
  have hw1 : IntKind.i64.wrap ((xs.length : Int) - 1) = (xs.length : Int) - 1 := wrap_i64 (by omega) (by omega)
  repeat first | refine AWp.seq ?_ | refine AWp.block ?_
  refine AWp.ops ?_
  simp [hw1]
  obtain ⟨J, hJ⟩ : ∃ J : Nat → List AV → List AObj → Prop, J = fun j fr H => j ≤ xs.length ∧ H = [] ∧ (∀ k : Nat, j ≤ k + 1 → k + 1 < xs.length → xs.getD k 0 ≤ xs.getD (k + 1) 0) ∧
    fr = [.imm nl c sz (xs.map I), .und, .und, I ((j : Int) - 1), .und, .und, .und, .und, .und, .und, .und, .und, .und, .und, .und, .und, .und, .und, .und, .und, .und] := ⟨_, rfl⟩
  refine AWp.block (AWp.loop J (fun j => j) xs.length (Weak.slots [0, 3]) (by
    rw [hJ]
    exact ⟨by omega, rfl, fun k h1 h2 => by omega, by simp⟩) ?_)
  intro j fr H hI
  rw [hJ] at hI
  obtain ⟨hj, rfl, hinv, rfl⟩ := hI
  repeat first | refine AWp.seq ?_ | refine AWp.block ?_
  refine AWp.ops ?_
  simp
  refine AWp.cond (b := decide (1 < j)) (by simp; omega) ?_ ?_
  · intro h0
    have h0 : 1 < j := by simpa using h0
    obtain ⟨i, rfl⟩ : ∃ i, j = i + 2 := ⟨j - 2, by omega⟩
    have hb : i + 1 < xs.length := by omega
    have hb0 : i < xs.length := by omega
    have hsz := sz_of hs hb
    subst hsz
    have e1 : ((i + 2 : Nat) : Int) - 1 = (i : Int) + 1 := by omega
    have e2 : IntKind.i64.wrap (i : Int) = (i : Int) := wrap_i64 (by omega) (by omega)
    have g1 : (0 : Int) ≤ (i : Int) + 1 := by omega
    have g2 : ((i : Int) + 1).toNat = i + 1 := by omega
    refine AWp.skip ?_
    simp only [qSeq]
    rw [e1]
    repeat first | refine AWp.seq ?_ | refine AWp.block ?_
    refine AWp.ops ?_
    simp [hb, hb0, e2, g1, g2]
    refine (cLess_spec xs[i + 1] xs[i]).mono ?_
    rintro r H' ⟨rfl, rfl⟩
    simp
    refine AWp.cond (b := decide (xs[i + 1] < xs[i])) (by simp) ?_ ?_
    · intro h
      have h : xs[i + 1] < xs[i] := by simpa using h
      repeat first | refine AWp.seq ?_ | refine AWp.block ?_
      refine AWp.ops ?_
      simp
      refine AWp.ret ?_
      simp
      refine retOk.of rfl ⟨rfl, ?_⟩
      have : ¬ Sorted xs := fun hs => by
        have := hs i hb
        simp [hb, hb0] at this
        omega
      simp [this]
    · intro h
      have h : xs[i] ≤ xs[i + 1] := by simpa using h
      refine AWp.skip ?_
      simp only [qSeq, qBlock]
      repeat first | refine AWp.seq ?_ | refine AWp.block ?_
      refine AWp.ops ?_
      simp [e2, g1, g2]
      refine ⟨i + 1, _, _, Weak.slots [0, 3], ?_, by omega⟩
      rw [hJ]
      refine ⟨by omega, rfl, fun k h1 h2 => ?_, by simp⟩
      by_cases e : k = i
      · subst e
        simp [hb, hb0]
        exact h
      · exact hinv k (by omega) h2
  · intro h0
    have h0 : ¬ 1 < j := by simpa using h0
    refine AWp.exit ?_
    simp [qSeq, qBlock]
    repeat first | refine AWp.seq ?_ | refine AWp.block ?_
    refine AWp.ops ?_
    simp
    refine AWp.ret ?_
    simp
    refine retOk.of rfl ⟨rfl, ?_⟩
    have : Sorted xs := fun k hk => hinv k (by omega) hk
    simp [this]

/-- Levels. -/
structure Lv where
  k : Int
  sz : Int
  pos : List Int
  crd : List Int
abbrev i64r (n : Int) : Prop := -9223372036854775808 ≤ n ∧ n ≤ 9223372036854775807
/-- Cells of a level. -/
def lvC (l : Lv) (p c : AV) : List AV := [I l.k, I l.sz, p, c]
structure LvOk (l : Lv) (p c : AV) : Prop where
  pos : ISl p l.pos
  crd : ISl c l.crd
  rk : i64r l.k
  rsz : i64r l.sz
abbrev lvO (a : AV) : AObj := ⟨34, 4, [a], true, none⟩

def lvWhole (l : Lv) : Bool := decide (l.k = 0 ∨ l.k = 4)

def Whole_1 : AC := (.seq (.ops [⟨(some 3), none, (.k (.fad 0 (.t 1)))⟩, ⟨(some 4), none, (.k (.ld 1 false (.t 3)))⟩, ⟨(some 5), none, (.k (.bin .eql (.t 4) (.c (.sc (.int .i64 0)))))⟩, ⟨(some 6), none, (.k (.mov (.t 5)))⟩, ⟨(some 7), (some (6, false)), (.k (.fad 0 (.t 1)))⟩, ⟨(some 8), (some (6, false)), (.k (.ld 1 false (.t 7)))⟩, ⟨(some 9), (some (6, false)), (.k (.bin .eql (.t 8) (.c (.sc (.int .i64 4)))))⟩, ⟨(some 10), none, (.k (.pick (.t 6) (.c (.sc (.bool true))) (.t 9)))⟩, ⟨(some 2), none, (.k (.mov (.t 10)))⟩]) .ret)
def Whole_ac : AC := (.seq (.ops [⟨(some 1), none, (.k (.new 34 4 (.t 0)))⟩, ⟨(some 2), none, (.k (.mov (.c (.sc (.bool false)))))⟩]) Whole_1)
theorem Whole_call {args : List AV} {H : List AObj} {R : AV → List AObj → Prop} (h : AWp Try.prog [] H.length Whole_ac (bodyQ H.length [(.t 2)] R) (args ++ List.replicate (11 - args.length) .und) H) : ACalls Try.prog 92 args H R :=
  ACalls.of_fn Try.func92 rfl (by kernel_rfl) rfl Try.ntmps92 h

theorem Whole_spec {l : Lv} {p c : AV} (hl : LvOk l p c) : ACalls Try.prog 92 [.agg [I l.k, I l.sz, p, c]] [] fun r H' => H' = [] ∧ r = Bo (lvWhole l) := by
  obtain ⟨h1, h2, h3, h4⟩ := hl
  obtain ⟨⟨nl, cp, sz, rfl, hs⟩, hlen, hx⟩ := h1
  obtain ⟨⟨nl', cp', sz', rfl, hs'⟩, hlen', hx'⟩ := h2
  have base : ACalls Try.prog 92 [.agg [I l.k, I l.sz, .imm nl cp sz (l.pos.map I), .imm nl' cp' sz' (l.crd.map I)]] [] fun r H' => r = Bo (lvWhole l) := by
    apply Whole_call
    repeat first | refine AWp.seq ?_ | refine AWp.block ?_
    refine AWp.ops ?_
    simp
    by_cases h0 : l.k = 0
    ·
      repeat first | refine AWp.seq ?_ | refine AWp.block ?_
      refine AWp.ops ?_
      simp [h0]
      refine AWp.ret ?_
      simp
      refine retOk.of rfl ?_
      simp [lvWhole, h0]
    ·
      repeat first | refine AWp.seq ?_ | refine AWp.block ?_
      refine AWp.ops ?_
      simp [h0]
      refine AWp.ret ?_
      simp
      refine retOk.of rfl ?_
      by_cases h4 : l.k = 4 <;> simp [lvWhole, h0, h4]
  refine (base.frozen 2).mono ?_
  rintro q H' ⟨rfl, r, G, rfl, rfl⟩
  exact ⟨rfl, by simp⟩

def lvBelow (l : Lv) (n : Int) : Int := if l.k = 0 ∨ l.k = 4 then n * l.sz else l.crd.length

def below_5 : AC := (.seq (.ops [⟨(some 11), none, (.k (.fad 3 (.t 2)))⟩, ⟨(some 12), none, (.k (.ld 1 false (.t 11)))⟩, ⟨(some 13), none, (.k (.len (.t 12)))⟩, ⟨(some 4), none, (.k (.mov (.t 13)))⟩]) .ret)
def below_4 : AC := (.seq (.ops [⟨(some 7), none, (.k (.mov (.t 1)))⟩, ⟨(some 8), none, (.k (.fad 1 (.t 2)))⟩, ⟨(some 9), none, (.k (.ld 1 false (.t 8)))⟩, ⟨(some 10), none, (.k (.bin .mul (.t 7) (.t 9)))⟩, ⟨(some 4), none, (.k (.mov (.t 10)))⟩]) .ret)
def below_3 : AC := (.cond (.t 6) below_4 .skip)
def below_2 : AC := (.seq (.ops [⟨(some 5), none, (.k (.ld 4 true (.t 2)))⟩, ⟨(some 6), none, (.call false (.c (.fn (.func 92) [] [])) [(.t 5)])⟩]) below_3)
def below_1 : AC := (.seq below_2 below_5)
def below_ac : AC := (.seq (.ops [⟨(some 2), none, (.k (.new 34 4 (.t 0)))⟩, ⟨(some 4), none, (.k (.mov (.c (.sc (.int .i64 0)))))⟩]) below_1)
theorem below_call {args : List AV} {H : List AObj} {R : AV → List AObj → Prop} (h : AWp Try.prog [] H.length below_ac (bodyQ H.length [(.t 4)] R) (args ++ List.replicate (14 - args.length) .und) H) : ACalls Try.prog 85 args H R :=
  ACalls.of_fn Try.func85 rfl (by kernel_rfl) rfl Try.ntmps85 h

theorem below_spec {l : Lv} {p c : AV} (hl : LvOk l p c) {n : Int} (hn : 0 ≤ n ∧ n ≤ 1048576) (hz : 0 ≤ l.sz ∧ l.sz ≤ 2147483648) : ACalls Try.prog 85 [.agg [I l.k, I l.sz, p, c], I n] [] fun r H' => H' = [] ∧ r = I (lvBelow l n) := by
  have hl' := hl
  obtain ⟨h1, h2, h3, h4⟩ := hl
  obtain ⟨⟨nl, cp, sz, rfl, hs⟩, hlen, hx⟩ := h1
  obtain ⟨⟨nl', cp', sz', rfl, hs'⟩, hlen', hx'⟩ := h2
  have base : ACalls Try.prog 85 [.agg [I l.k, I l.sz, .imm nl cp sz (l.pos.map I), .imm nl' cp' sz' (l.crd.map I)], I n] [] fun r H' => r = I (lvBelow l n) := by
    apply below_call
    repeat first | refine AWp.seq ?_ | refine AWp.block ?_
    refine AWp.ops ?_
    simp
    repeat first | refine AWp.seq ?_ | refine AWp.block ?_
    refine AWp.ops ?_
    simp
    refine ((Whole_spec hl').pure (by simp) (by rintro r rfl; simp) _).mono ?_
    rintro r H' ⟨rfl, rfl⟩
    simp
    have hb : n * l.sz ≤ 1048576 * 2147483648 := Int.mul_le_mul hn.2 hz.2 hz.1 (by omega)
    have hb0 : 0 ≤ n * l.sz := Int.mul_nonneg hn.1 hz.1
    have hw := wrap_i64 (n := n * l.sz) (by omega) (by omega)
    refine AWp.cond (b := lvWhole l) (by simp) ?_ ?_
    · intro h
      repeat first | refine AWp.seq ?_ | refine AWp.block ?_
      refine AWp.ops ?_
      simp [hw]
      refine AWp.ret ?_
      simp
      refine retOk.of rfl ?_
      have h : l.k = 0 ∨ l.k = 4 := by simpa [lvWhole] using h
      rw [lvBelow, if_pos h]; simp
    · intro h
      have h : ¬ (l.k = 0 ∨ l.k = 4) := by simpa only [lvWhole, decide_eq_false_iff_not] using h
      refine AWp.skip ?_
      simp only [qSeq]
      repeat first | refine AWp.seq ?_ | refine AWp.block ?_
      refine AWp.ops ?_
      simp
      refine AWp.ret ?_
      simp
      refine retOk.of rfl ?_
      rw [lvBelow, if_neg h]; simp
  refine (base.frozen 2).mono ?_
  rintro q H' ⟨rfl, r, G, rfl, rfl⟩
  exact ⟨rfl, by simp⟩
end Go.Fw
