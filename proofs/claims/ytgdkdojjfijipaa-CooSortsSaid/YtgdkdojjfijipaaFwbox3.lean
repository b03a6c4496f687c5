import Derived.Test.YtgdkdojjfijipaaFwbox2
import Derived.Test.YtgdkdojjfijipaaFwemp1
namespace Go.Fw
open Go Go.RowKit Go.Proofs
set_option maxRecDepth 100000
set_option linter.unusedSimpArgs false
set_option linter.unusedVariables false

theorem mulAll_nonneg : ∀ (xs : List Int) (n : Int), (∀ x ∈ xs, 0 ≤ x) → 0 ≤ n → 0 ≤ (mulAll xs n).1
  | [], n, _, h => h
  | s :: r, n, hx, h => by
    simp only [mulAll]
    split
    · simp
    · exact mulAll_nonneg r _ (fun x hx' => hx x (by simp [hx'])) (Int.mul_nonneg h (hx s (by simp)))
theorem mulAll_err : ∀ (xs : List Int) (n : Int), (mulAll xs n).2 ≠ 0 → (mulAll xs n).1 = 0
  | [], n, h => by simp [mulAll] at h
  | s :: r, n, h => by
    simp only [mulAll] at h ⊢
    split
    · rfl
    · rename_i hc
      rw [if_neg hc] at h
      exact mulAll_err r _ h
theorem cells_err {xs : List Int} (h : (cells xs).2 ≠ 0) : (cells xs).1 = 0 := by
  unfold cells at *
  split
  · rfl
  · rename_i h1
    rw [if_neg h1] at h
    split
    · rfl
    · rename_i h2
      rw [if_neg h2] at h
      exact mulAll_err _ _ h
theorem cells_nonneg (xs : List Int) : 0 ≤ (cells xs).1 := by
  unfold cells
  split
  · simp
  · rename_i h1
    split
    · simp
    · refine mulAll_nonneg _ _ (fun x hx => ?_) (by omega)
      have : ¬ (xs.any fun x => decide (x < 0)) = true := fun h => h1 (.inr h)
      simp at this
      exact this x hx
theorem cells_len {xs : List Int} (h : (cells xs).2 = 0) : xs.length ≤ 4 := by
  unfold cells at h
  split at h
  · simp at h
  · rename_i h1
    have : ¬ xs.length > 4 := fun h => h1 (.inl h)
    omega

def laid_5 : AC := (.seq (.ops [⟨(some 17), none, (.k (.mov (.t 4)))⟩, ⟨(some 18), none, (.k (.mov (.t 5)))⟩, ⟨(some 2), none, (.k (.mov (.t 17)))⟩, ⟨(some 3), none, (.k (.mov (.t 18)))⟩]) .ret)
def laid_4 : AC := (.cond (.t 16) (.seq (.ops [⟨(some 2), none, (.k (.mov (.c (.sc (.int .i64 0)))))⟩, ⟨(some 3), none, (.k (.mov (.c (.sc (.int .i64 2)))))⟩]) .ret) .skip)
def laid_3 : AC := (.seq (.ops [⟨(some 11), none, (.k (.mov (.t 5)))⟩, ⟨(some 12), none, (.k (.bin .eql (.t 11) (.c (.sc (.int .i64 0)))))⟩, ⟨(some 13), none, (.k (.mov (.t 12)))⟩, ⟨(some 14), (some (13, true)), (.k (.mov (.t 4)))⟩, ⟨(some 15), (some (13, true)), (.k (.bin .gtr (.t 14) (.c (.sc (.int .i64 65536)))))⟩, ⟨(some 16), none, (.k (.pick (.t 13) (.t 15) (.c (.sc (.bool false)))))⟩]) laid_4)
def laid_2 : AC := (.seq laid_3 laid_5)
def laid_1 : AC := (.seq (.ops [⟨(some 7), none, (.k (.mov (.t 0)))⟩, ⟨(some 8), none, (.call false (.c (.fn (.func 42) [] [])) [(.t 7)])⟩, ⟨(some 6), none, (.k (.mov (.t 8)))⟩, ⟨(some 9), none, (.k (.ext (.t 6) 0))⟩, ⟨(some 10), none, (.k (.ext (.t 6) 1))⟩, ⟨(some 4), none, (.k (.mov (.t 9)))⟩, ⟨(some 5), none, (.k (.mov (.t 10)))⟩]) laid_2)
def laid_ac : AC := (.seq (.ops [⟨(some 2), none, (.k (.mov (.c (.sc (.int .i64 0)))))⟩, ⟨(some 3), none, (.k (.mov (.c (.sc (.int .i64 0)))))⟩]) laid_1)
theorem laid_call {args : List AV} {H : List AObj} {R : AV → List AObj → Prop} (h : AWp Try.prog [] H.length laid_ac (bodyQ H.length [(.t 2), (.t 3)] R) (args ++ List.replicate (19 - args.length) .und) H) : ACalls Try.prog 80 args H R :=
  ACalls.of_fn Try.func80 rfl (by kernel_rfl) rfl Try.ntmps80 h

def laidF (xs : List Int) : Int × Int := if (cells xs).2 = 0 ∧ (cells xs).1 > 65536 then (0, 2) else cells xs

theorem laid_spec {a : AV} {xs : List Int} (ha : ISl a xs) : ACalls Try.prog 80 [a] [] fun r H' => H' = [] ∧ r = .tup [I (laidF xs).1, I (laidF xs).2] := by
  apply laid_call
  repeat first | refine AWp.seq ?_ | refine AWp.block ?_
  refine AWp.ops ?_
  simp
  repeat first | refine AWp.seq ?_ | refine AWp.block ?_
  refine AWp.ops ?_
  simp
  refine (Cells_spec ha).mono ?_
  rintro r H' ⟨rfl, rfl⟩
  simp
  refine AWp.seq (AWp.seq (AWp.ops ?_))
  by_cases h0 : (cells xs).2 = 0
  · simp [h0]
    refine AWp.cond (b := decide (65536 < (cells xs).1)) (by simp) ?_ ?_
    · intro h
      have h : 65536 < (cells xs).1 := by simpa using h
      repeat first | refine AWp.seq ?_ | refine AWp.block ?_
      refine AWp.ops ?_
      simp
      refine AWp.ret ?_
      simp
      refine retOk.of rfl ⟨rfl, ?_⟩
      simp [laidF, h0, h]
    · intro h
      have h : ¬ 65536 < (cells xs).1 := by simpa using h
      refine AWp.skip ?_
      simp only [qSeq]
      repeat first | refine AWp.seq ?_ | refine AWp.block ?_
      refine AWp.ops ?_
      simp
      refine AWp.ret ?_
      simp
      refine retOk.of rfl ⟨rfl, ?_⟩
      simp [laidF, h0, h]
  · simp [h0]
    refine AWp.cond (b := false) (by simp) (fun h => by cases h) (fun _ => ?_)
    refine AWp.skip ?_
    simp only [qSeq]
    repeat first | refine AWp.seq ?_ | refine AWp.block ?_
    refine AWp.ops ?_
    simp
    refine AWp.ret ?_
    simp
    refine retOk.of rfl ⟨rfl, ?_⟩
    simp [laidF, h0]

theorem laid_err {xs : List Int} (h : (laidF xs).2 ≠ 0) : (laidF xs).1 = 0 := by
  unfold laidF at *
  split
  · rfl
  · rename_i h1
    rw [if_neg h1] at h
    exact cells_err h
theorem laid_ok {xs : List Int} (h : (laidF xs).2 = 0) : xs.length ≤ 4 ∧ ∃ n : Nat, (laidF xs).1 = n ∧ n ≤ 65536 := by
  unfold laidF at *
  split at h
  · simp at h
  · rename_i h1
    rw [if_neg h1]
    have := cells_nonneg xs
    exact ⟨cells_len h, (cells xs).1.toNat, by omega, by omega⟩

def Clone_ac : AC := (.seq (.ops [.m 2 .z]) (.seq (.seq (.ops [.m 3 (.t 0), .o 4 (.nileq false (.t 3))]) (.cond (.t 4) (.seq (.ops [.m 2 .z]) .ret) .skip)) (.seq (.ops [.o 5 (.lit 1 []), .m 6 (.t 0), .o 7 (.app 3 1 8 (.t 5) (.t 6)), .m 2 (.t 7)]) .ret)))
theorem Clone_w {args : List AV} {H : List AObj} {R : AV → List AObj → Prop} (h : wp Try.prog [] H.length Clone_ac (bodyW [(.t 2)] (Nr R .mk)) (args ++ List.replicate (8 - args.length) .und) H) : ACalls Try.prog 65 args H R :=
  ACalls.of_wp Try.func65 rfl (by kernel_rfl) rfl Try.ntmps65 h
theorem Clone_none {c : Option Nat} : Pu Try.prog 65 [.imm false c 1 []] (.imm false none 1 []) := by
  refine ACalls.empty1 (ty := 3) 4 ?_ (fun k => ?_) ?_
  · refine ACalls.argsWk (args' := [.imm true none 1 []]) ?_ (by simp)
    refine Clone_w ?_
    simp (disch := omega) [ar, -List.take_append_getElem, Clone_ac]
  · refine Clone_w ?_
    simp (disch := omega) [ar, -List.take_append_getElem, Clone_ac, elems]
  · refine Clone_w ?_
    simp (disch := omega) [ar, -List.take_append_getElem, Clone_ac, live?, elems]
def cloneR (nl : Bool) (xs : List Int) (r : AV) (G : List AObj) : Prop :=
  if nl = true then r = .imm true none 0 [] ∧ G = [] else if xs = [] then r = .imm false none 1 [] ∧ G = [] else
    r = .slc 0 xs.length 0 xs.length none ∧ G = [⟨3, 1, xs.map I, true, none⟩]

theorem Clone_spec {nl : Bool} {c : Option Nat} {sz : Nat} {xs : List Int} (hs : (nl = true → xs = []) ∧ (nl = false → sz = 1)) (hl : xs.length ≤ 1000000) :
    ACalls Try.prog 65 [.imm nl c sz (xs.map I)] [] fun r H' => cloneR nl xs r H' := by
  cases nl with
  | true =>
    have := hs.1 rfl; subst this
    refine Clone_w ?_
    simp (disch := omega) [ar, -List.take_append_getElem, Clone_ac, cloneR]
  | false =>
    have := hs.2 rfl; subst this
    by_cases hx : xs = []
    · subst hx
      exact ACalls.mono Clone_none fun r G h => by simp [cloneR, h.1, h.2]
    · refine Clone_w ?_
      have h1 : allOneCell 1 (xs.map I) = true := by simp [allOneCell, okEl, cellsOf, oneC]
      simp (disch := omega) [ar, -List.take_append_getElem, Clone_ac, cloneR, hx, elems, h1]

def Zero_6 : AC := (.seq (.par [[⟨(some 15), none, (.k (.mov (.t 0)))⟩, ⟨(some 17), none, (.k (.mov (.t 4)))⟩, ⟨(some 16), none, (.call true (.c (.fn (.func 65) [] [])) [(.t 15)])⟩, ⟨(some 18), none, (.k (.mkS 2 1 8 (.sc (.int .i64 0)) (.t 17) (.t 17)))⟩, ⟨(some 19), none, (.k (.mk [(.imm true none 0 []), (.imm true none 0 [])] [(0, (1, (.t 16))), (1, (1, (.t 18)))]))⟩, ⟨none, none, (.k (.st 2 (.t 2) (.t 19)))⟩, ⟨(some 3), none, (.k (.mov (.c (.sc (.int .i64 0)))))⟩], [⟨(some 15), none, (.k (.mov (.t 0)))⟩, ⟨(some 17), none, (.k (.mov (.t 4)))⟩, ⟨(some 18), none, (.k (.mkS 2 1 8 (.sc (.int .i64 0)) (.t 17) (.t 17)))⟩, ⟨(some 16), none, (.call true (.c (.fn (.func 65) [] [])) [(.t 15)])⟩, ⟨(some 19), none, (.k (.mk [(.imm true none 0 []), (.imm true none 0 [])] [(0, (1, (.t 16))), (1, (1, (.t 18)))]))⟩, ⟨none, none, (.k (.st 2 (.t 2) (.t 19)))⟩, ⟨(some 3), none, (.k (.mov (.c (.sc (.int .i64 0)))))⟩]]) .ret)
def Zero_5 : AC := (.seq (.ops [⟨(some 13), none, (.k (.mk [(.imm true none 0 []), (.imm true none 0 [])] []))⟩, ⟨(some 14), none, (.k (.mov (.t 5)))⟩, ⟨none, none, (.k (.st 2 (.t 2) (.t 13)))⟩, ⟨(some 3), none, (.k (.mov (.t 14)))⟩]) .ret)
def Zero_4 : AC := (.cond (.t 12) Zero_5 .skip)
def Zero_3 : AC := (.seq (.ops [⟨(some 11), none, (.k (.mov (.t 5)))⟩, ⟨(some 12), none, (.k (.bin .neq (.t 11) (.c (.sc (.int .i64 0)))))⟩]) Zero_4)
def Zero_2 : AC := (.seq Zero_3 Zero_6)
def Zero_1 : AC := (.seq (.ops [⟨(some 7), none, (.k (.mov (.t 0)))⟩, ⟨(some 8), none, (.call false (.c (.fn (.func 80) [] [])) [(.t 7)])⟩, ⟨(some 6), none, (.k (.mov (.t 8)))⟩, ⟨(some 9), none, (.k (.ext (.t 6) 0))⟩, ⟨(some 10), none, (.k (.ext (.t 6) 1))⟩, ⟨(some 4), none, (.k (.mov (.t 9)))⟩, ⟨(some 5), none, (.k (.mov (.t 10)))⟩]) Zero_2)
def Zero_ac : AC := (.seq (.ops [⟨(some 2), none, (.k (.new 49 2 (.c (.agg [(.imm true none 0 []), (.imm true none 0 [])]))))⟩, ⟨(some 3), none, (.k (.mov (.c (.sc (.int .i64 0)))))⟩]) Zero_1)
theorem Zero_call {args : List AV} {H : List AObj} {R : AV → List AObj → Prop} (h : AWp Try.prog [] H.length Zero_ac (bodyQ H.length [(.cell 2 2 true), (.t 3)] R) (args ++ List.replicate (20 - args.length) .und) H) : ACalls Try.prog 59 args H R :=
  ACalls.of_fn Try.func59 rfl (by kernel_rfl) rfl Try.ntmps59 h

/-- What Zero returns, where its objects lie. -/
def zeroR (xs : List Int) (r : AV) (G : List AObj) : Prop :=
  ∃ e : Int, (e ≠ 0 ∧ laidF xs = (0, e) ∧ r = .tup [.agg [.imm true none 0 [], .imm true none 0 []], I e]) ∨
    (e = 0 ∧ (laidF xs).2 = 0 ∧ ∃ s j n, (laidF xs).1 = (n : Nat) ∧ r = .tup [.agg [s, .slc j n 0 n none], I 0] ∧ G[j]? = some ⟨2, 1, List.replicate n (I 0), true, none⟩ ∧
      ((xs = [] ∧ ∃ nl c sz, s = .imm nl c sz [] ∧ (nl = false → sz = 1)) ∨ ∃ k, k ≠ j ∧ s = .slc k xs.length 0 xs.length none ∧ G[k]? = some ⟨3, 1, xs.map I, true, none⟩))

theorem Zero_spec {a : AV} {xs : List Int} (ha : ISl a xs) : ACalls Try.prog 59 [a] [] fun r G => zeroR xs r G := by
  have ha' := ha
  obtain ⟨⟨nl, c, sz, rfl, hs⟩, hlen, hx⟩ := ha
  apply Zero_call
  repeat first | refine AWp.seq ?_ | refine AWp.block ?_
  refine AWp.ops ?_
  simp
  repeat first | refine AWp.seq ?_ | refine AWp.block ?_
  refine AWp.ops ?_
  simp
  refine ((laid_spec ha').pure (by simp) (by rintro r rfl; simp) _).mono ?_
  rintro r H' ⟨rfl, rfl⟩
  simp
  refine AWp.seq (AWp.seq (AWp.ops ?_))
  simp
  refine AWp.cond (b := (laidF xs).2 != 0) (by simp) ?_ ?_
  · intro h
    have h : (laidF xs).2 ≠ 0 := by simpa using h
    repeat first | refine AWp.seq ?_ | refine AWp.block ?_
    refine AWp.ops ?_
    simp
    refine AWp.ret ?_
    simp
    refine retOk.of rfl ?_
    refine ⟨(laidF xs).2, .inl ⟨h, by rw [← laid_err h], by simp⟩⟩
  intro h
  have h : (laidF xs).2 = 0 := by simpa using h
  obtain ⟨hxl, n, hn, hn'⟩ := laid_ok h
  refine AWp.skip ?_
  simp only [qSeq]
  refine AWp.seq (AWp.par ?_)
  have b1 : (n : Int) * 8 ≤ 281474976710656 := by omega
  have b2 : (n : Int) ≤ 9223372036854775807 := by omega
  simp [hn]
  refine ⟨?_, ?_⟩
  · refine ((Clone_spec (c := c) hs (by omega)).anywhere (by simp) 4 _).mono ?_
    rintro r H' ⟨r, G, hr, rfl, rfl⟩
    refine ⟨fun _ => ⟨_, rfl⟩, ?_⟩
    unfold cloneR at hr
    split at hr
    · rename_i hnl
      have hx0 := hs.1 hnl
      subst hx0
      obtain ⟨rfl, rfl⟩ := hr
      simp [b1, b2]
      refine AWp.ret ?_
      simp
      exact retOk.of rfl ⟨0, .inr ⟨rfl, h, _, 1, n, hn, by simp; rfl, by simp, .inl ⟨rfl, true, none, 0, by simp, by simp⟩⟩⟩
    · split at hr
      · rename_i hx0
        subst hx0
        obtain ⟨rfl, rfl⟩ := hr
        simp [b1, b2]
        refine AWp.ret ?_
        simp
        exact retOk.of rfl ⟨0, .inr ⟨rfl, h, _, 1, n, hn, by simp; rfl, by simp, .inl ⟨rfl, false, none, 1, by simp, by simp⟩⟩⟩
      · obtain ⟨rfl, rfl⟩ := hr
        simp [b1, b2]
        refine AWp.ret ?_
        simp
        exact retOk.of rfl ⟨0, .inr ⟨rfl, h, _, 2, n, hn, by simp, by simp, .inr ⟨1, by omega, rfl, by simp⟩⟩⟩
  · simp [b1, b2]
    refine ((Clone_spec (c := c) hs (by omega)).anywhere (by simp) 4 _).mono ?_
    rintro r H' ⟨r, G, hr, rfl, rfl⟩
    refine ⟨fun _ => ⟨_, rfl⟩, ?_⟩
    unfold cloneR at hr
    split at hr
    · rename_i hnl
      have hx0 := hs.1 hnl
      subst hx0
      obtain ⟨rfl, rfl⟩ := hr
      simp
      refine AWp.ret ?_
      simp
      exact retOk.of rfl ⟨0, .inr ⟨rfl, h, _, 1, n, hn, by simp; rfl, by simp, .inl ⟨rfl, true, none, 0, by simp, by simp⟩⟩⟩
    · split at hr
      · rename_i hx0
        subst hx0
        obtain ⟨rfl, rfl⟩ := hr
        simp
        refine AWp.ret ?_
        simp
        exact retOk.of rfl ⟨0, .inr ⟨rfl, h, _, 1, n, hn, by simp; rfl, by simp, .inl ⟨rfl, false, none, 1, by simp, by simp⟩⟩⟩
      · obtain ⟨rfl, rfl⟩ := hr
        simp
        refine AWp.ret ?_
        simp
        exact retOk.of rfl ⟨0, .inr ⟨rfl, h, _, 1, n, hn, by simp, by simp, .inr ⟨2, by omega, rfl, by simp⟩⟩⟩
end Go.Fw
