/- A slice that is empty, and may be nil: the cases. -/
import Derived.Test.YthipbeffhfdamaaFwY4
import Derived.Test.YthipbeffhfdamaaFwbox2
namespace Go.Fw
open Go Go.RowKit
theorem ACalls.empty1 {P : Program} {f : FuncId} {c : Option Nat} {sz ty : Nat} {r : AV} (n : Nat)
    (h1 : ACalls P f [.imm true none sz []] [] fun q G => Wk (fz G 0 n false q) r)
    (h2 : ∀ k, ACalls P f [.imm false (some (k + 1)) sz []] [] fun q G => Wk (fz G 0 n false q) r)
    (h3 : ACalls P f [.slc 0 0 0 0 none] [⟨ty, 1, [], true, some false⟩] fun q G => Wk (fz G 0 n false q) r) :
    Pu P f [.imm false c sz []] r := by
  refine ⟨h1.1, fun B w0 m w vs rl hvs => ?_⟩
  have fin : ∀ {H : List AObj} {args : List AV}, ACalls P f args H (fun q G => Wk (fz G 0 n false q) r) → Rel B w0 m H w → Tr m [] w m H w → RVs w m H args vs →
      Calls P f vs w fun e w' => ∃ v r1 m' H', e = .returned v ∧ Tr m [] w m' H' w' ∧ Rel B w0 m' H' w' ∧ RV w' m' H' r1 v ∧ H' = [] ∧ r1 = r := by
    intro H args h rl t0 hv
    refine (h.2 B w0 m w vs rl hv).mono ?_
    rintro e w' ⟨v, q, m', H', e1, t, r', hq, hR⟩
    refine ⟨v, r, m', [], e1, ?_, ?_, ?_, rfl, rfl⟩
    · simpa [frzH] using frz_tr (t0.trans t) n (k := 0) (Nat.le_refl _)
    · simpa [frzH] using frz_rel r' 0 n
    · have h1 := frz_ri (k := 0) (nn := n) r' n hq
      exact Wk.rv (.ri (Wk.ri h1 (Wk_fz r'.virt n false q))) hR
  obtain ⟨hs, hv⟩ := hvs
  have hs1 : vs.size = 1 := by simpa using hs.symm
  have hv0 := hv 0 (by simp) (by omega)
  simp only [List.getElem_cons_zero] at hv0
  have one : ∀ {H : List AObj} {a : AV}, RV w m H a vs[0] → RVs w m H [a] vs := fun h => ⟨by simp [hs1], fun j hj _ => by
    have : j = 0 := by simp at hj; omega
    subst this; exact h⟩
  generalize hx : vs[0] = x at hv0 one
  cases hv0 with
  | ri h =>
    cases h with
    | nilx _ _ hc => exact fin h1 rl (Tr.refl _ _ _) (one (.ri (.nil _ _)))
    | @imm ad nn cap _ _ _ cv hn hcap hc hcell hsz hrv =>
      have hn0 : nn = 0 := by simpa using hn.symm
      subst hn0
      cases cap with
      | succ k => exact fin (h2 k) rl (Tr.refl _ _ _) (one (.ri (.imm cv rfl (by omega) (fun k h => by simpa using h.symm) hcell hsz hrv)))
      | zero =>
        have nr : ∀ i, ¬ Real [(⟨ty, 1, [], true, some false⟩ : AObj)] i := by
          rintro i ⟨o, ho, _, hv⟩
          cases i with
          | zero => simp at ho; subst ho; simp at hv
          | succ i => simp at ho
        have get : ∀ {i : Nat} {o : AObj}, [(⟨ty, 1, [], true, some false⟩ : AObj)][i]? = some o → o = ⟨ty, 1, [], true, some false⟩ := by
          intro i o ho
          cases i with
          | zero => simpa using ho.symm
          | succ i => simp at ho
        have rl' : Rel B w0 m [⟨ty, 1, [], true, some false⟩] w := by
          refine ⟨rl.below, rl.hB, fun i o ho => ?_, fun i o ho _ => ?_, fun i h => absurd h (nr i), fun i o ho _ hv => ?_, fun i i' h _ _ => absurd h (nr i), rl.xlt⟩
          · rw [get ho]; exact Nat.one_pos
          · rw [get ho]
          · rw [get ho] at hv; simp at hv
        have t : Tr m [] w m [⟨ty, 1, [], true, some false⟩] w :=
          ⟨Nat.le_refl _, by simp, fun _ _ _ => rfl, fun b _ hn hw => by
            rcases hw with h | ⟨i, hr, _⟩
            · exact hn (.inl h)
            · exact nr i hr, fun i o o' ho => by simp at ho, rfl⟩
        exact fin h3 rl' t (one (.slc _ rfl (Nat.le_refl _) fun _ _ => by simp [SlcOk]))
end Go.Fw
namespace Go.Fw
open Go Go.RowKit Go.Proofs
set_option maxRecDepth 100000
set_option linter.unusedSimpArgs false
set_option linter.unusedVariables false
theorem mulAll_nonneg : ∀ (xs : List Int) (n : Int), (∀ x ∈ xs, 0 ≤ x) → 0 ≤ n → 0 ≤ (mulAll xs n).1
  | [], n, _, h => h
  | s :: r, n, hx, h => by
    simp only [mulAll]
    split
    · simp
    · exact mulAll_nonneg r _ (fun x hx' => hx x (by simp [hx'])) (Int.mul_nonneg h (hx s (by simp)))
theorem mulAll_err : ∀ (xs : List Int) (n : Int), (mulAll xs n).2 ≠ 0 → (mulAll xs n).1 = 0
  | [], n, h => by simp [mulAll] at h
  | s :: r, n, h => by
    simp only [mulAll] at h ⊢
    split
    · rfl
    · rename_i hc
      rw [if_neg hc] at h
      exact mulAll_err r _ h
theorem cells_err {xs : List Int} (h : (cells xs).2 ≠ 0) : (cells xs).1 = 0 := by
  unfold cells at *
  split
  · rfl
  · rename_i h1
    rw [if_neg h1] at h
    split
    · rfl
    · rename_i h2
      rw [if_neg h2] at h
      exact mulAll_err _ _ h
theorem cells_nonneg (xs : List Int) : 0 ≤ (cells xs).1 := by
  unfold cells
  split
  · simp
  · rename_i h1
    split
    · simp
    · refine mulAll_nonneg _ _ (fun x hx => ?_) (by omega)
      have : ¬ (xs.any fun x => decide (x < 0)) = true := fun h => h1 (.inr h)
      simp at this
      exact this x hx
theorem cells_len {xs : List Int} (h : (cells xs).2 = 0) : xs.length ≤ 4 := by
  unfold cells at h
  split at h
  · simp at h
  · rename_i h1
    have : ¬ xs.length > 4 := fun h => h1 (.inl h)
    omega
def laid_5 : AC := (.seq (.ops [.m 17 (.t 4), .m 18 (.t 5), .m 2 (.t 17), .m 3 (.t 18)]) .ret)
def laid_4 : AC := (.cond (.t 16) (.seq (.ops [.m 2 (.i 0), .m 3 (.i 2)]) .ret) .skip)
def laid_3 : AC := (.seq (.ops [.m 11 (.t 5), .o 12 (.bin .eql (.t 11) (.i 0)), .m 13 (.t 12), .mg 14 13 true (.t 4), .og 15 13 true (.bin .gtr (.t 14) (.i 65536)), .o 16 (.pick (.t 13) (.t 15) (.b false))]) laid_4)
def laid_2 : AC := (.seq laid_3 laid_5)
def laid_1 : AC := (.seq (.ops [.m 7 (.t 0), .c 8 false (.f 19) [(.t 7)], .m 6 (.t 8), .o 9 (.ext (.t 6) 0), .o 10 (.ext (.t 6) 1), .m 4 (.t 9), .m 5 (.t 10)]) laid_2)
def laid_ac : AC := (.seq (.ops [.m 2 (.i 0), .m 3 (.i 0)]) laid_1)
theorem laid_call {args : List AV} {H : List AObj} {R : AV → List AObj → Prop} (h : AWp Try.prog [] H.length laid_ac (bodyQ H.length [(.t 2), (.t 3)] R) (args ++ List.replicate (19 - args.length) .und) H) : ACalls Try.prog 77 args H R :=
  ACalls.of_fn Try.func77 rfl (by kernel_rfl) rfl Try.ntmps77 h
def laidF (xs : List Int) : Int × Int := if (cells xs).2 = 0 ∧ (cells xs).1 > 65536 then (0, 2) else cells xs
theorem laid_spec {a : AV} {xs : List Int} (ha : ISl a xs) : ACalls Try.prog 77 [a] [] fun r H' => H' = [] ∧ r = .tup [I (laidF xs).1, I (laidF xs).2] := by
  apply laid_call
  repeat first | refine AWp.seq ?_ | refine AWp.block ?_
  refine AWp.ops ?_
  simp
  repeat first | refine AWp.seq ?_ | refine AWp.block ?_
  refine AWp.ops ?_
  simp
  refine (Cells_spec ha).mono ?_
  rintro r H' ⟨rfl, rfl⟩
  simp
  refine AWp.seq (AWp.seq (AWp.ops ?_))
  by_cases h0 : (cells xs).2 = 0
  · simp [h0]
    refine AWp.cond (b := decide (65536 < (cells xs).1)) (by simp) ?_ ?_
    · intro h
      have h : 65536 < (cells xs).1 := by simpa using h
      repeat first | refine AWp.seq ?_ | refine AWp.block ?_
      refine AWp.ops ?_
      simp
      refine AWp.ret ?_
      simp
      refine retOk.of rfl ⟨rfl, ?_⟩
      simp [laidF, h0, h]
    · intro h
      have h : ¬ 65536 < (cells xs).1 := by simpa using h
      refine AWp.skip ?_
      simp only [qSeq]
      repeat first | refine AWp.seq ?_ | refine AWp.block ?_
      refine AWp.ops ?_
      simp
      refine AWp.ret ?_
      simp
      refine retOk.of rfl ⟨rfl, ?_⟩
      simp [laidF, h0, h]
  · simp [h0]
    refine AWp.cond (b := false) (by simp) (fun h => by cases h) (fun _ => ?_)
    refine AWp.skip ?_
    simp only [qSeq]
    repeat first | refine AWp.seq ?_ | refine AWp.block ?_
    refine AWp.ops ?_
    simp
    refine AWp.ret ?_
    simp
    refine retOk.of rfl ⟨rfl, ?_⟩
    simp [laidF, h0]
theorem laid_err {xs : List Int} (h : (laidF xs).2 ≠ 0) : (laidF xs).1 = 0 := by
  unfold laidF at *
  split
  · rfl
  · rename_i h1
    rw [if_neg h1] at h
    exact cells_err h
theorem laid_ok {xs : List Int} (h : (laidF xs).2 = 0) : xs.length ≤ 4 ∧ ∃ n : Nat, (laidF xs).1 = n ∧ n ≤ 65536 := by
  unfold laidF at *
  split at h
  · simp at h
  · rename_i h1
    rw [if_neg h1]
    have := cells_nonneg xs
    exact ⟨cells_len h, (cells xs).1.toNat, by omega, by omega⟩
def Clone_ac : AC := (.seq (.ops [.m 2 .z]) (.seq (.seq (.ops [.m 3 (.t 0), .o 4 (.nileq false (.t 3))]) (.cond (.t 4) (.seq (.ops [.m 2 .z]) .ret) .skip)) (.seq (.ops [.o 5 (.lit 1 []), .m 6 (.t 0), .o 7 (.app 3 1 8 (.t 5) (.t 6)), .m 2 (.t 7)]) .ret)))
theorem Clone_w {args : List AV} {H : List AObj} {R : AV → List AObj → Prop} (h : wp Try.prog [] H.length Clone_ac (bodyW [(.t 2)] (Nr R .mk)) (args ++ List.replicate (8 - args.length) .und) H) : ACalls Try.prog 48 args H R :=
  ACalls.of_wp Try.func48 rfl (by kernel_rfl) rfl Try.ntmps48 h
theorem Clone_none {c : Option Nat} : Pu Try.prog 48 [.imm false c 1 []] (.imm false none 1 []) := by
  refine ACalls.empty1 (ty := 3) 4 ?_ (fun k => ?_) ?_
  · refine ACalls.argsWk (args' := [.imm true none 1 []]) ?_ (by simp)
    refine Clone_w ?_
    simp (disch := omega) [ar, -List.take_append_getElem, Clone_ac]
  · refine Clone_w ?_
    simp (disch := omega) [ar, -List.take_append_getElem, Clone_ac, elems]
  · refine Clone_w ?_
    simp (disch := omega) [ar, -List.take_append_getElem, Clone_ac, live?, elems]
def cloneR (nl : Bool) (xs : List Int) (r : AV) (G : List AObj) : Prop :=
  if nl = true then r = .imm true none 0 [] ∧ G = [] else if xs = [] then r = .imm false none 1 [] ∧ G = [] else
    r = .slc 0 xs.length 0 xs.length none ∧ G = [⟨3, 1, xs.map I, true, none⟩]
theorem Clone_spec {nl : Bool} {c : Option Nat} {sz : Nat} {xs : List Int} (hs : (nl = true → xs = []) ∧ (nl = false → sz = 1)) (hl : xs.length ≤ 1000000) :
    ACalls Try.prog 48 [.imm nl c sz (xs.map I)] [] fun r H' => cloneR nl xs r H' := by
  cases nl with
  | true =>
    have := hs.1 rfl; subst this
    refine Clone_w ?_
    simp (disch := omega) [ar, -List.take_append_getElem, Clone_ac, cloneR]
  | false =>
    have := hs.2 rfl; subst this
    by_cases hx : xs = []
    · subst hx
      exact ACalls.mono Clone_none fun r G h => by simp [cloneR, h.1, h.2]
    · refine Clone_w ?_
      have h1 : allOneCell 1 (xs.map I) = true := by simp [allOneCell, okEl, cellsOf, oneC]
      simp (disch := omega) [ar, -List.take_append_getElem, Clone_ac, cloneR, hx, elems, h1]
def Zero_6 : AC := (.seq (.par [[.m 15 (.t 0), .m 17 (.t 4), .c 16 true (.f 48) [(.t 15)], .o 18 (.mkS 2 1 8 (.sc (.int .i64 0)) (.t 17) (.t 17)), .o 19 (.mk [nil0, nil0] [(0, (1, (.t 16))), (1, (1, (.t 18)))]), .on (.st 2 (.t 2) (.t 19)), .m 3 (.i 0)], [.m 15 (.t 0), .m 17 (.t 4), .o 18 (.mkS 2 1 8 (.sc (.int .i64 0)) (.t 17) (.t 17)), .c 16 true (.f 48) [(.t 15)], .o 19 (.mk [nil0, nil0] [(0, (1, (.t 16))), (1, (1, (.t 18)))]), .on (.st 2 (.t 2) (.t 19)), .m 3 (.i 0)]]) .ret)
def Zero_5 : AC := (.seq (.ops [.o 13 (.mk [nil0, nil0] []), .m 14 (.t 5), .on (.st 2 (.t 2) (.t 13)), .m 3 (.t 14)]) .ret)
def Zero_4 : AC := (.cond (.t 12) Zero_5 .skip)
def Zero_3 : AC := (.seq (.ops [.m 11 (.t 5), .o 12 (.bin .neq (.t 11) (.i 0))]) Zero_4)
def Zero_2 : AC := (.seq Zero_3 Zero_6)
def Zero_1 : AC := (.seq (.ops [.m 7 (.t 0), .c 8 false (.f 77) [(.t 7)], .m 6 (.t 8), .o 9 (.ext (.t 6) 0), .o 10 (.ext (.t 6) 1), .m 4 (.t 9), .m 5 (.t 10)]) Zero_2)
def Zero_ac : AC := (.seq (.ops [.o 2 (.new 57 2 (.c (.agg [nil0, nil0]))), .m 3 (.i 0)]) Zero_1)
theorem Zero_call {args : List AV} {H : List AObj} {R : AV → List AObj → Prop} (h : AWp Try.prog [] H.length Zero_ac (bodyQ H.length [(.cell 2 2 true), (.t 3)] R) (args ++ List.replicate (20 - args.length) .und) H) : ACalls Try.prog 53 args H R :=
  ACalls.of_fn Try.func53 rfl (by kernel_rfl) rfl Try.ntmps53 h
def zeroR (xs : List Int) (r : AV) (G : List AObj) : Prop :=
  ∃ e : Int, (e ≠ 0 ∧ laidF xs = (0, e) ∧ r = .tup [.agg [.imm true none 0 [], .imm true none 0 []], I e]) ∨
    (e = 0 ∧ (laidF xs).2 = 0 ∧ ∃ s j n, (laidF xs).1 = (n : Nat) ∧ r = .tup [.agg [s, .slc j n 0 n none], I 0] ∧ G[j]? = some ⟨2, 1, List.replicate n (I 0), true, none⟩ ∧
      ((xs = [] ∧ ∃ nl c sz, s = .imm nl c sz [] ∧ (nl = false → sz = 1)) ∨ ∃ k, k ≠ j ∧ s = .slc k xs.length 0 xs.length none ∧ G[k]? = some ⟨3, 1, xs.map I, true, none⟩))
theorem Zero_spec {a : AV} {xs : List Int} (ha : ISl a xs) : ACalls Try.prog 53 [a] [] fun r G => zeroR xs r G := by
  have ha' := ha
  obtain ⟨⟨nl, c, sz, rfl, hs⟩, hlen, hx⟩ := ha
  apply Zero_call
  repeat first | refine AWp.seq ?_ | refine AWp.block ?_
  refine AWp.ops ?_
  simp
  repeat first | refine AWp.seq ?_ | refine AWp.block ?_
  refine AWp.ops ?_
  simp
  refine ((laid_spec ha').pure (by simp) (by rintro r rfl; simp) _).mono ?_
  rintro r H' ⟨rfl, rfl⟩
  simp
  refine AWp.seq (AWp.seq (AWp.ops ?_))
  simp
  refine AWp.cond (b := (laidF xs).2 != 0) (by simp) ?_ ?_
  · intro h
    have h : (laidF xs).2 ≠ 0 := by simpa using h
    repeat first | refine AWp.seq ?_ | refine AWp.block ?_
    refine AWp.ops ?_
    simp
    refine AWp.ret ?_
    simp
    refine retOk.of rfl ?_
    refine ⟨(laidF xs).2, .inl ⟨h, by rw [← laid_err h], by simp⟩⟩
  intro h
  have h : (laidF xs).2 = 0 := by simpa using h
  obtain ⟨hxl, n, hn, hn'⟩ := laid_ok h
  refine AWp.skip ?_
  simp only [qSeq]
  refine AWp.seq (AWp.par ?_)
  have b1 : (n : Int) * 8 ≤ 281474976710656 := by omega
  have b2 : (n : Int) ≤ 9223372036854775807 := by omega
  simp [hn]
  refine ⟨?_, ?_⟩
  · refine ((Clone_spec (c := c) hs (by omega)).anywhere (by simp) 4 _).mono ?_
    rintro r H' ⟨r, G, hr, rfl, rfl⟩
    refine ⟨fun _ => ⟨_, rfl⟩, ?_⟩
    unfold cloneR at hr
    split at hr
    · rename_i hnl
      have hx0 := hs.1 hnl
      subst hx0
      obtain ⟨rfl, rfl⟩ := hr
      simp [b1, b2]
      refine AWp.ret ?_
      simp
      exact retOk.of rfl ⟨0, .inr ⟨rfl, h, _, 1, n, hn, by simp; rfl, by simp, .inl ⟨rfl, true, none, 0, by simp, by simp⟩⟩⟩
    · split at hr
      · rename_i hx0
        subst hx0
        obtain ⟨rfl, rfl⟩ := hr
        simp [b1, b2]
        refine AWp.ret ?_
        simp
        exact retOk.of rfl ⟨0, .inr ⟨rfl, h, _, 1, n, hn, by simp; rfl, by simp, .inl ⟨rfl, false, none, 1, by simp, by simp⟩⟩⟩
      · obtain ⟨rfl, rfl⟩ := hr
        simp [b1, b2]
        refine AWp.ret ?_
        simp
        exact retOk.of rfl ⟨0, .inr ⟨rfl, h, _, 2, n, hn, by simp, by simp, .inr ⟨1, by omega, rfl, by simp⟩⟩⟩
  · simp [b1, b2]
    refine ((Clone_spec (c := c) hs (by omega)).anywhere (by simp) 4 _).mono ?_
    rintro r H' ⟨r, G, hr, rfl, rfl⟩
    refine ⟨fun _ => ⟨_, rfl⟩, ?_⟩
    unfold cloneR at hr
    split at hr
    · rename_i hnl
      have hx0 := hs.1 hnl
      subst hx0
      obtain ⟨rfl, rfl⟩ := hr
      simp
      refine AWp.ret ?_
      simp
      exact retOk.of rfl ⟨0, .inr ⟨rfl, h, _, 1, n, hn, by simp; rfl, by simp, .inl ⟨rfl, true, none, 0, by simp, by simp⟩⟩⟩
    · split at hr
      · rename_i hx0
        subst hx0
        obtain ⟨rfl, rfl⟩ := hr
        simp
        refine AWp.ret ?_
        simp
        exact retOk.of rfl ⟨0, .inr ⟨rfl, h, _, 1, n, hn, by simp; rfl, by simp, .inl ⟨rfl, false, none, 1, by simp, by simp⟩⟩⟩
      · obtain ⟨rfl, rfl⟩ := hr
        simp
        refine AWp.ret ?_
        simp
        exact retOk.of rfl ⟨0, .inr ⟨rfl, h, _, 1, n, hn, by simp, by simp, .inr ⟨2, by omega, rfl, by simp⟩⟩⟩
end Go.Fw
namespace Go.Fw
open Go Go.RowKit Go.Proofs
set_option maxRecDepth 100000
set_option linter.unusedSimpArgs false
set_option linter.unusedVariables false
theorem ISl.of {xs : List Int} (c : Option Nat) (h1 : xs.length ≤ 9223372036854775807) (h2 : ∀ x ∈ xs, -9223372036854775808 ≤ x ∧ x ≤ 9223372036854775807) : ISl (.imm false c 1 (xs.map I)) xs :=
  ⟨⟨false, c, 1, rfl, by simp, by simp⟩, h1, h2⟩
theorem ISl.nil : ISl (.imm true none 0 []) [] := ⟨⟨true, none, 0, rfl, by simp, by simp⟩, by simp, by simp⟩
def Dn (d : AV) (D : List Int × List Int) : Prop := ∃ s v, d = .agg [s, v] ∧ ISl s D.1 ∧ ISl v D.2
def zeroF (xs : List Int) : (List Int × List Int) × Int :=
  if (laidF xs).2 ≠ 0 then (([], []), (laidF xs).2) else ((xs, List.replicate (laidF xs).1.toNat 0), 0)
theorem map_replicate_I (n : Nat) : List.replicate n (I 0) = (List.replicate n (0 : Int)).map I := by simp
theorem Zero_pure {a : AV} {xs : List Int} (ha : ISl a xs) : ACalls Try.prog 53 [a] [] fun r H' => H' = [] ∧ ∃ d, r = .tup [d, I (zeroF xs).2] ∧ Dn d (zeroF xs).1 := by
  refine ((Zero_spec ha).frozen 8).mono ?_
  rintro q H' ⟨rfl, r, G, ⟨e, ⟨h1, h2, rfl⟩ | ⟨rfl, h2, s, j, n, hn, rfl, hj, hs⟩⟩, rfl⟩
  · refine ⟨rfl, _, by simp [zeroF, h2, h1]; rfl, ?_⟩
    simp only [zeroF, h2]
    rw [if_pos h1]
    exact ⟨_, _, rfl, ISl.nil, ISl.nil⟩
  · obtain ⟨hl, n', hn', hb⟩ := laid_ok h2
    have hnn : n' = n := by omega
    subst hnn
    refine ⟨rfl, _, by simp [zeroF, h2]; rfl, ?_⟩
    have ez : (zeroF xs).1 = (xs, List.replicate n' 0) := by simp [zeroF, h2, hn]
    rw [ez]
    refine ⟨_, _, rfl, ?_, ?_⟩
    · rcases hs with ⟨h0, nl, c, sz, rfl, hs⟩ | ⟨k, hk, rfl, hG⟩
      · exact ⟨⟨nl, c, sz, by simp [h0], ⟨fun _ => h0, hs⟩⟩, ha.2⟩
      · refine ⟨⟨false, none, 1, ?_, by simp, by simp⟩, ha.2⟩
        simp [hG]
    · refine ⟨⟨false, none, 1, ?_, by simp, by simp⟩, by simp; omega, ?_⟩
      · simp [hj]
      · intro x hx
        simp at hx
        omega
theorem mulAll_ge : ∀ (xs : List Int) (m : Int), (∀ x ∈ xs, 1 ≤ x) → 1 ≤ m → m < 4611686018427387904 → (mulAll xs m).2 = 0 → m ≤ (mulAll xs m).1 ∧ (mulAll xs m).1 < 4611686018427387904
  | [], m, _, _, h2, _ => by simp [mulAll, h2]
  | s :: r, m, hx, h1, h2, h => by
    simp only [mulAll] at h ⊢
    by_cases hc : m * s ≥ 4611686018427387904
    · rw [if_pos hc] at h; simp at h
    · rw [if_neg hc] at h ⊢
      have hs := hx s (by simp)
      have hm : m * 1 ≤ m * s := Int.mul_le_mul_of_nonneg_left hs (by omega)
      have := mulAll_ge r (m * s) (fun x h => hx x (by simp [h])) (by omega) (by omega) h
      omega
theorem atGo_lt : ∀ (xs cs : List Int) (n m : Int), (∀ x ∈ xs, 1 ≤ x) → 1 ≤ m → m < 4611686018427387904 → (mulAll xs m).2 = 0 → 0 ≤ n → n < m → cs.length = xs.length → (atGo xs cs n).2 = 0 →
    0 ≤ (atGo xs cs n).1 ∧ (atGo xs cs n).1 < (mulAll xs m).1
  | [], [], n, m, _, _, _, _, h0, h1, _, _ => by simp [atGo, mulAll, h0, h1]
  | [], c :: q, n, m, _, _, _, _, _, _, hl, _ => by simp at hl
  | s :: r, [], n, m, _, _, _, _, _, _, hl, _ => by simp at hl
  | s :: r, c :: q, n, m, hx, hm1, hm2, h, h0, h1, hl, ha => by
    simp only [mulAll] at h ⊢
    simp only [atGo] at ha ⊢
    by_cases hc : m * s ≥ 4611686018427387904
    · rw [if_pos hc] at h; simp at h
    · rw [if_neg hc] at h ⊢
      by_cases hb : c < 0 ∨ s ≤ c
      · rw [if_pos hb] at ha; simp at ha
      · rw [if_neg hb] at ha ⊢
        have hs := hx s (by simp)
        have hm : m * 1 ≤ m * s := Int.mul_le_mul_of_nonneg_left hs (by omega)
        have e1 : n * s ≤ (m - 1) * s := Int.mul_le_mul_of_nonneg_right (by omega) (by omega)
        have e2 : 0 ≤ n * s := Int.mul_nonneg h0 (by omega)
        rw [Int.sub_mul] at e1
        have w1 := wrap_i64 (n := n * s) (by omega) (by omega)
        have w2 := wrap_i64 (n := n * s + c) (by omega) (by omega)
        rw [w1, w2] at ha ⊢
        exact atGo_lt r q _ _ (fun x h => hx x (by simp [h])) (by omega) (by omega) h (by omega) (by omega) (by simpa using hl) ha
theorem atGo_zero : ∀ (xs cs : List Int) (n : Int), cs.length = xs.length → 0 ∈ xs → (atGo xs cs n).2 ≠ 0
  | [], cs, n, _, h => by simp at h
  | s :: r, [], n, hl, _ => by simp at hl
  | s :: r, c :: q, n, hl, h => by
    simp only [atGo]
    by_cases hb : c < 0 ∨ s ≤ c
    · rw [if_pos hb]; simp
    · rw [if_neg hb]
      have hs : s ≠ 0 := by omega
      rcases List.mem_cons.1 h with h | h
      · exact absurd h.symm hs
      · exact atGo_zero r q _ (by simpa using hl) h
theorem atF_lt {xs cs : List Int} (h : (cells xs).2 = 0) (ha : (atF xs cs).2 = 0) : 0 ≤ (atF xs cs).1 ∧ (atF xs cs).1 < (cells xs).1 := by
  unfold atF at *
  rw [if_neg (by simpa using h)] at *
  by_cases hl : cs.length = xs.length
  · rw [if_neg (by simpa using hl)] at *
    by_cases h0 : 0 ∈ xs
    · exact absurd ha (atGo_zero xs cs 0 hl h0)
    · unfold cells at *
      split at h
      · simp at h
      · rename_i h1
        rw [if_neg h1, if_neg h0] at *
        have hx : ∀ x ∈ xs, 1 ≤ x := by
          intro x hx
          have : ¬ (xs.any fun x => decide (x < 0)) = true := fun h => h1 (.inr h)
          simp at this
          have := this x hx
          have : x ≠ 0 := by rintro rfl; exact h0 hx
          omega
        exact atGo_lt xs cs 0 1 hx (by omega) (by omega) h (by omega) (by omega) hl ha
  · rw [if_pos hl] at ha; simp at ha
end Go.Fw
namespace Go.Fw
open Go Go.RowKit Go.Proofs
set_option maxRecDepth 100000
set_option linter.unusedSimpArgs false
set_option linter.unusedVariables false
abbrev InR (xs : List Int) : Prop := xs.length ≤ 9223372036854775807 ∧ ∀ x ∈ xs, -9223372036854775808 ≤ x ∧ x ≤ 9223372036854775807
abbrev nilD : AV := .agg [.imm true none 0 [], .imm true none 0 []]
abbrev i64O (vs : List Int) : AObj := ⟨2, 1, vs.map I, true, none⟩
abbrev denO (d : AV) : AObj := ⟨57, 2, [d], true, none⟩
def shapeOk (b : Nat) (H : List AObj) (j : Nat) (s : AV) (xs : List Int) : Prop :=
  (xs = [] ∧ ∃ nl c sz, s = .imm nl c sz [] ∧ (nl = false → sz = 1)) ∨ ∃ k, b ≤ k ∧ k ≠ j ∧ s = .slc k xs.length 0 xs.length none ∧ H[k]? = some ⟨3, 1, xs.map I, true, none⟩
def ownD (b : Nat) (H : List AObj) (d : AV) (D : List Int × List Int) : Prop :=
  ∃ s j, b ≤ j ∧ d = .agg [s, .slc j D.2.length 0 D.2.length none] ∧ H[j]? = some (i64O D.2) ∧ shapeOk b H j s D.1
theorem ownD.frz {b : Nat} {G : List AObj} {d : AV} {D : List Int × List Int} (h : ownD b G d D) (hx : InR D.1) (hv : InR D.2) : Dn (frz G 0 8 false d) D := by
  obtain ⟨s, j, _, rfl, hj, hs⟩ := h
  refine ⟨_, _, by simp; exact ⟨rfl, rfl⟩, ?_, ?_⟩
  · rcases hs with ⟨h0, nl, c, sz, rfl, hs⟩ | ⟨k, _, _, rfl, hG⟩
    · exact ⟨⟨nl, c, sz, by simp [h0], ⟨fun _ => h0, hs⟩⟩, hx⟩
    · refine ⟨⟨false, none, 1, ?_, by simp, by simp⟩, hx⟩
      simp [hG]
  · refine ⟨⟨false, none, 1, ?_, by simp, by simp⟩, hv⟩
    simp [hj]
theorem ownD.tail {A A' G : List AObj} {b : Nat} {d : AV} {D : List Int × List Int} (h : ownD A.length (A ++ G) d D) (hl : A.length = A'.length) (hb : b ≤ A.length) : ownD b (A' ++ G) d D := by
  obtain ⟨s, j, hj, rfl, hjo, hs⟩ := h
  have get : ∀ k, A.length ≤ k → (A' ++ G)[k]? = (A ++ G)[k]? := by
    intro k hk
    rw [List.getElem?_append_right (by omega), List.getElem?_append_right hk, hl]
  refine ⟨s, j, by omega, rfl, by rw [get j hj]; exact hjo, ?_⟩
  rcases hs with h | ⟨k, h1, h2, h3, h4⟩
  · exact .inl h
  · exact .inr ⟨k, by omega, h2, h3, by rw [get k h1]; exact h4⟩
def denseR (F : (List Int × List Int) × Int) (r : AV) (G : List AObj) : Prop :=
  (F.2 ≠ 0 ∧ F.1 = ([], []) ∧ r = .tup [nilD, I F.2]) ∨ (F.2 = 0 ∧ ∃ d, r = .tup [d, I 0] ∧ ownD 0 G d F.1)
theorem dense_pure {P : Program} {f : FuncId} {args : List AV} {F : (List Int × List Int) × Int} (h : ACalls P f args [] (denseR F)) (hx : InR F.1.1) (hv : InR F.1.2) :
    ACalls P f args [] fun r H' => H' = [] ∧ ∃ d, r = .tup [d, I F.2] ∧ Dn d F.1 := by
  refine (h.frozen 9).mono ?_
  rintro q H' ⟨rfl, r, G, ⟨h1, h2, rfl⟩ | ⟨h1, d, rfl, hd⟩, rfl⟩
  · refine ⟨rfl, nilD, by simp, ?_⟩
    rw [h2]
    exact ⟨_, _, rfl, ISl.nil, ISl.nil⟩
  · refine ⟨rfl, _, by simp [h1]; rfl, ?_⟩
    exact hd.frz hx hv
theorem shH_get {s n : Nat} {fl : Bool} {G : List AObj} {i : Nat} {o : AObj} (h : G[i]? = some o) (H : List AObj) (hs : s = H.length) : (H ++ shH s fl n G)[i + s]? = some { o with es := o.es.map (shv s fl n) } := by
  subst hs
  rw [List.getElem?_append_right (by omega), show i + H.length - H.length = i by omega, shH, List.getElem?_map, h]; rfl
@[simp] theorem shv_I {s n : Nat} {fl : Bool} : shv s fl n ∘ I = I := by
  funext x; cases n <;> rfl
theorem dense_at {P : Program} {f : FuncId} {args : List AV} {F : (List Int × List Int) × Int} (h : ACalls P f args [] (denseR F)) (hno : noRefs args = true) (H : List AObj) :
    ACalls P f args H fun q H' => ∃ G, H' = H ++ G ∧ ((F.2 ≠ 0 ∧ F.1 = ([], []) ∧ q = .tup [nilD, I F.2]) ∨ (F.2 = 0 ∧ ∃ d, q = .tup [d, I 0] ∧ ownD H.length (H ++ G) d F.1)) := by
  refine (h.anywhere hno 8 H).mono ?_
  rintro q H' ⟨r, G, hr, rfl, rfl⟩
  refine ⟨_, rfl, ?_⟩
  rcases hr with ⟨h1, h2, rfl⟩ | ⟨h1, d, rfl, s, j, _, rfl, hj, hs⟩
  · exact .inl ⟨h1, h2, by simp [shv]⟩
  · refine .inr ⟨h1, _, by simp [shv]; rfl, shv H.length false 6 s, j + H.length, by omega, by simp [shv], ?_, ?_⟩
    · rw [shH_get hj H rfl]
      simp
    · rcases hs with ⟨h0, nl, c, sz, rfl, hs⟩ | ⟨k, _, hk, rfl, hG⟩
      · exact .inl ⟨h0, nl, c, sz, by simp [shv], hs⟩
      · refine .inr ⟨k + H.length, by omega, by omega, by simp [shv], ?_⟩
        rw [shH_get hG H rfl]
        simp
theorem dense_lent {P : Program} {f : FuncId} {args : List AV} {F : (List Int × List Int) × Int} (n' : Nat) {H : List AObj} (h : ACalls P f (args.map (frz H 0 n' false)) [] (denseR F)) :
    ACalls P f args H fun q H' => ∃ G, H' = H ++ G ∧ ((F.2 ≠ 0 ∧ F.1 = ([], []) ∧ q = .tup [nilD, I F.2]) ∨ (F.2 = 0 ∧ ∃ d, q = .tup [d, I 0] ∧ ownD H.length (H ++ G) d F.1)) := by
  refine (h.lent 8 n').mono ?_
  rintro q H' ⟨r, G, hr, rfl, rfl⟩
  refine ⟨_, rfl, ?_⟩
  rcases hr with ⟨h1, h2, rfl⟩ | ⟨h1, d, rfl, s, j, _, rfl, hj, hs⟩
  · exact .inl ⟨h1, h2, by simp [shv]⟩
  · refine .inr ⟨h1, _, by simp [shv]; rfl, shv H.length true 6 s, j + H.length, by omega, by simp [shv], ?_, ?_⟩
    · rw [shH_get hj H rfl]
      simp
    · rcases hs with ⟨h0, nl, c, sz, rfl, hs⟩ | ⟨k, _, hk, rfl, hG⟩
      · exact .inl ⟨h0, nl, c, sz, by simp [shv], hs⟩
      · refine .inr ⟨k + H.length, by omega, by omega, by simp [shv], ?_⟩
        rw [shH_get hG H rfl]
        simp
theorem zeroR.dense {xs : List Int} {r : AV} {G : List AObj} (h : zeroR xs r G) : denseR (zeroF xs) r G := by
  obtain ⟨e, ⟨h1, h2, rfl⟩ | ⟨rfl, h2, s, j, n, hn, rfl, hj, hs⟩⟩ := h
  · refine .inl ⟨?_, ?_, ?_⟩ <;> simp [zeroF, h2, h1]
  · have ez : zeroF xs = ((xs, List.replicate n 0), 0) := by simp [zeroF, h2, hn]
    rw [ez]
    refine .inr ⟨rfl, _, rfl, s, j, by omega, by simp, by simp [hj], ?_⟩
    rcases hs with h | ⟨k, h1, h2, h3⟩
    · exact .inl h
    · exact .inr ⟨k, by omega, h1, h2, h3⟩
theorem Zero_dense {a : AV} {xs : List Int} (ha : ISl a xs) : ACalls Try.prog 53 [a] [] (denseR (zeroF xs)) := (Zero_spec ha).mono fun _ _ h => h.dense
theorem gs_ne {K : List AObj} {q k : Nat} {o : AObj} (h : q ≠ k) : (K.set q o)[k]? = K[k]? := List.getElem?_set_ne h
theorem gs_eq {K : List AObj} {q : Nat} {o o0 : AObj} (h : K[q]? = some o0) : (K.set q o)[q]? = some o := List.getElem?_set_self (List.getElem?_eq_some_iff.1 h).1
theorem shapeOk.one {b : Nat} {H : List AObj} {j : Nat} {s : AV} {xs : List Int} (h : shapeOk b H j s xs) : oneC s = true := by
  rcases h with ⟨_, _, _, _, rfl, _⟩ | ⟨_, _, _, rfl, _⟩ <;> rfl
theorem shapeOk.set {b : Nat} {H : List AObj} {j : Nat} {s : AV} {xs : List Int} (h : shapeOk b H j s xs) (o : AObj) : shapeOk b (H.set j o) j s xs := by
  rcases h with h | ⟨k, h1, h2, h3, h4⟩
  · exact .inl h
  · exact .inr ⟨k, h1, h2, h3, by rw [gs_ne (by omega)]; exact h4⟩
theorem shapeOk.set_lt {b : Nat} {H : List AObj} {j : Nat} {s : AV} {xs : List Int} (h : shapeOk b H j s xs) (i : Nat) (hi : i < b) (o : AObj) : shapeOk b (H.set i o) j s xs := by
  rcases h with h | ⟨k, h1, h2, h3, h4⟩
  · exact .inl h
  · exact .inr ⟨k, h1, h2, h3, by rw [gs_ne (by omega)]; exact h4⟩
theorem shapeOk.app {b : Nat} {H : List AObj} {j : Nat} {s : AV} {xs : List Int} (h : shapeOk b H j s xs) (G : List AObj) : shapeOk b (H ++ G) j s xs := by
  rcases h with h | ⟨k, h1, h2, h3, h4⟩
  · exact .inl h
  · exact .inr ⟨k, h1, h2, h3, by rw [List.getElem?_append_left (List.getElem?_eq_some_iff.1 h4).1]; exact h4⟩
theorem shapeOk.mono {b b' : Nat} {H : List AObj} {j : Nat} {s : AV} {xs : List Int} (h : shapeOk b H j s xs) (hb : b' ≤ b) : shapeOk b' H j s xs := by
  rcases h with h | ⟨k, h1, h2, h3, h4⟩
  · exact .inl h
  · exact .inr ⟨k, by omega, h2, h3, h4⟩
end Go.Fw
