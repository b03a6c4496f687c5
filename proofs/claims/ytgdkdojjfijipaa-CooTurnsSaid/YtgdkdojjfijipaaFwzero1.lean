import Derived.Test.YtgdkdojjfijipaaFwbox1
namespace Go.Fw
open Go Go.RowKit Go.Proofs
set_option maxRecDepth 100000
set_option linter.unusedSimpArgs false
set_option linter.unusedVariables false

def atGo : List Int → List Int → Int → Int × Int
  | s :: r, c :: q, n => if c < 0 ∨ s ≤ c then (0, 3) else atGo r q (IntKind.i64.wrap (IntKind.i64.wrap (n * s) + c))
  | _, _, n => (n, 0)
def atF (xs cs : List Int) : Int × Int :=
  if (cells xs).2 ≠ 0 then (0, (cells xs).2) else if cs.length ≠ xs.length then (0, 3) else atGo xs cs 0

def At_22 : AC := (.seq (.ops [⟨(some 53), none, (.k (.mov (.t 8)))⟩, ⟨(some 4), none, (.k (.mov (.t 53)))⟩, ⟨(some 5), none, (.k (.mov (.c (.sc (.int .i64 0)))))⟩]) .ret)
def At_21 : AC := (.cond (.t 43) (.seq (.ops [⟨(some 4), none, (.k (.mov (.c (.sc (.int .i64 0)))))⟩, ⟨(some 5), none, (.k (.mov (.c (.sc (.int .i64 3)))))⟩]) .ret) .skip)
def At_20 : AC := (.seq (.ops [⟨(some 31), none, (.k (.mov (.t 1)))⟩, ⟨(some 32), none, (.k (.mov (.t 9)))⟩, ⟨(some 33), none, (.k (.iad 1 (.t 31) (.t 32)))⟩, ⟨(some 34), none, (.k (.ld 1 false (.t 33)))⟩, ⟨(some 35), none, (.k (.bin .lss (.t 34) (.c (.sc (.int .i64 0)))))⟩, ⟨(some 36), none, (.k (.mov (.t 35)))⟩, ⟨(some 37), (some (36, false)), (.k (.mov (.t 1)))⟩, ⟨(some 38), (some (36, false)), (.k (.mov (.t 9)))⟩, ⟨(some 39), (some (36, false)), (.k (.iad 1 (.t 37) (.t 38)))⟩, ⟨(some 40), (some (36, false)), (.k (.ld 1 false (.t 39)))⟩, ⟨(some 41), (some (36, false)), (.k (.mov (.t 10)))⟩, ⟨(some 42), (some (36, false)), (.k (.bin .geq (.t 40) (.t 41)))⟩, ⟨(some 43), none, (.k (.pick (.t 36) (.c (.sc (.bool true))) (.t 42)))⟩]) At_21)
def At_19 : AC := (.seq At_20 (.ops [⟨(some 44), none, (.k (.mov (.t 8)))⟩, ⟨(some 45), none, (.k (.mov (.t 10)))⟩, ⟨(some 46), none, (.k (.bin .mul (.t 44) (.t 45)))⟩, ⟨(some 47), none, (.k (.mov (.t 1)))⟩, ⟨(some 48), none, (.k (.mov (.t 9)))⟩, ⟨(some 49), none, (.k (.iad 1 (.t 47) (.t 48)))⟩, ⟨(some 50), none, (.k (.ld 1 false (.t 49)))⟩, ⟨(some 51), none, (.k (.bin .add (.t 46) (.t 50)))⟩, ⟨(some 8), none, (.k (.mov (.t 51)))⟩]))
def At_18 : AC := (.seq (.ops [⟨(some 28), none, (.k (.mov (.t 26)))⟩, ⟨(some 29), none, (.k (.iad 1 (.t 24) (.t 26)))⟩, ⟨(some 30), none, (.k (.ld 1 false (.t 29)))⟩, ⟨(some 9), none, (.k (.mov (.t 28)))⟩, ⟨(some 10), none, (.k (.mov (.t 30)))⟩]) At_19)
def At_17 : AC := (.block 1 At_18)
def At_16 : AC := (.seq At_17 (.ops [⟨(some 52), none, (.k (.bin .add (.t 26) (.c (.sc (.int .i64 1)))))⟩, ⟨(some 26), none, (.k (.mov (.t 52)))⟩]))
def At_15 : AC := (.seq (.cond (.t 27) .skip (.exit 0)) At_16)
def At_14 : AC := (.seq (.ops [⟨(some 27), none, (.k (.bin .lss (.t 26) (.t 25)))⟩]) At_15)
def At_13 : AC := (.loop At_14)
def At_12 : AC := (.block 0 At_13)
def At_11 : AC := (.seq (.ops [⟨(some 24), none, (.k (.mov (.t 0)))⟩, ⟨(some 25), none, (.k (.len (.t 24)))⟩, ⟨(some 26), none, (.k (.mov (.c (.sc (.int .i64 0)))))⟩]) At_12)
def At_10 : AC := (.seq At_11 At_22)
def At_9 : AC := (.seq (.ops [⟨(some 8), none, (.k (.mov (.c (.sc (.int .i64 0)))))⟩]) At_10)
def At_8 : AC := (.cond (.t 23) (.seq (.ops [⟨(some 4), none, (.k (.mov (.c (.sc (.int .i64 0)))))⟩, ⟨(some 5), none, (.k (.mov (.c (.sc (.int .i64 3)))))⟩]) .ret) .skip)
def At_7 : AC := (.seq (.ops [⟨(some 19), none, (.k (.mov (.t 1)))⟩, ⟨(some 20), none, (.k (.len (.t 19)))⟩, ⟨(some 21), none, (.k (.mov (.t 0)))⟩, ⟨(some 22), none, (.k (.len (.t 21)))⟩, ⟨(some 23), none, (.k (.bin .neq (.t 20) (.t 22)))⟩]) At_8)
def At_6 : AC := (.seq At_7 At_9)
def At_5 : AC := (.seq (.ops [⟨(some 18), none, (.k (.mov (.t 7)))⟩, ⟨(some 4), none, (.k (.mov (.c (.sc (.int .i64 0)))))⟩, ⟨(some 5), none, (.k (.mov (.t 18)))⟩]) .ret)
def At_4 : AC := (.cond (.t 17) At_5 .skip)
def At_3 : AC := (.seq (.ops [⟨(some 16), none, (.k (.mov (.t 7)))⟩, ⟨(some 17), none, (.k (.bin .neq (.t 16) (.c (.sc (.int .i64 0)))))⟩]) At_4)
def At_2 : AC := (.seq (.ops [⟨(some 12), none, (.k (.mov (.t 0)))⟩, ⟨(some 13), none, (.call false (.c (.fn (.func 42) [] [])) [(.t 12)])⟩, ⟨(some 11), none, (.k (.mov (.t 13)))⟩, ⟨(some 14), none, (.k (.ext (.t 11) 0))⟩, ⟨(some 15), none, (.k (.ext (.t 11) 1))⟩, ⟨(some 6), none, (.k (.mov (.t 14)))⟩, ⟨(some 7), none, (.k (.mov (.t 15)))⟩]) At_3)
def At_1 : AC := (.seq At_2 At_6)
def At_ac : AC := (.seq (.ops [⟨(some 4), none, (.k (.mov (.c (.sc (.int .i64 0)))))⟩, ⟨(some 5), none, (.k (.mov (.c (.sc (.int .i64 0)))))⟩]) At_1)
theorem At_call {args : List AV} {H : List AObj} {R : AV → List AObj → Prop} (h : AWp Try.prog [] H.length At_ac (bodyQ H.length [(.t 4), (.t 5)] R) (args ++ List.replicate (54 - args.length) .und) H) : ACalls Try.prog 43 args H R :=
  ACalls.of_fn Try.func43 rfl (by kernel_rfl) rfl Try.ntmps43 h

theorem At_spec {a b : AV} {xs cs : List Int} (ha : ISl a xs) (hb : ISl b cs) : ACalls Try.prog 43 [a, b] [] fun r H' => H' = [] ∧ r = .tup [I (atF xs cs).1, I (atF xs cs).2] := by
  have ha' := ha
  obtain ⟨⟨nl, c, sz, rfl, hs⟩, hlen, hx⟩ := ha
  obtain ⟨⟨nl', c', sz', rfl, hs'⟩, hlen', hx'⟩ := hb
  apply At_call
  repeat first | refine AWp.seq ?_ | refine AWp.block ?_
  refine AWp.ops ?_
  simp
  refine AWp.seq (AWp.seq (AWp.ops ?_))
  simp
  refine (Cells_spec ha').mono ?_
  rintro r H' ⟨rfl, rfl⟩
  simp
  repeat first | refine AWp.seq ?_ | refine AWp.block ?_
  refine AWp.ops ?_
  simp
  refine AWp.cond (b := (cells xs).2 != 0) (by simp) ?_ ?_
  · intro h
    repeat first | refine AWp.seq ?_ | refine AWp.block ?_
    refine AWp.ops ?_
    simp
    refine AWp.ret ?_
    simp
    refine retOk.of rfl ⟨rfl, ?_⟩
    have h : (cells xs).2 ≠ 0 := by simpa using h
    simp [atF, h]
  intro h
  have h : (cells xs).2 = 0 := by simpa using h
  refine AWp.skip ?_
  simp only [qSeq]
  refine AWp.seq (AWp.seq (AWp.ops ?_))
  simp
  refine AWp.cond (b := (cs.length : Int) != xs.length) (by simp) ?_ ?_
  · intro hl
    repeat first | refine AWp.seq ?_ | refine AWp.block ?_
    refine AWp.ops ?_
    simp
    refine AWp.ret ?_
    simp
    refine retOk.of rfl ⟨rfl, ?_⟩
    have hl : cs.length ≠ xs.length := by have : ¬ (cs.length : Int) = xs.length := by simpa using hl
                                          omega
    simp [atF, h, hl]
  intro hl
  have hl : cs.length = xs.length := by have : (cs.length : Int) = xs.length := by simpa using hl
                                        omega
  have hf : atF xs cs = atGo xs cs 0 := by simp [atF, h, hl]
  rw [hf]
  refine AWp.skip ?_
  simp only [qSeq]
  repeat first | refine AWp.seq ?_ | refine AWp.block ?_
  refine AWp.ops ?_
  simp
  repeat first | refine AWp.seq ?_ | refine AWp.block ?_
  refine AWp.ops ?_
  simp
  refine AWp.block (AWp.loop (fun (i : Nat) fr H => i ≤ xs.length ∧ H = [] ∧ ∃ n : Int, atGo xs cs 0 = atGo (xs.drop i) (cs.drop i) n ∧
    fr = [AV.imm nl c sz (xs.map I), AV.imm nl' c' sz' (cs.map I), .und, .und, I 0, I 0, .und, .und, I n, .und, .und, .und, .und, .und, .und, .und, .und, .und, .und, .und, .und, .und, .und, .und, AV.imm nl c sz (xs.map I), I xs.length, I i, .und, .und, .und, .und, .und, .und, .und, .und, .und, .und, .und, .und, .und, .und, .und, .und, .und, .und, .und, .und, .und, .und, .und, .und, .und, .und, .und]) (fun i => xs.length - i) 0 (Weak.slots [0, 1, 4, 5, 8, 24, 25, 26]) ⟨by omega, rfl, 0, rfl, by simp⟩ ?_)
  rintro i fr H ⟨hi, rfl, n, hm, rfl⟩
  repeat first | refine AWp.seq ?_ | refine AWp.block ?_
  refine AWp.ops ?_
  simp
  refine AWp.seq (AWp.cond (b := decide (i < xs.length)) (by simp) ?_ ?_)
  · intro hb
    have hb : i < xs.length := by simpa using hb
    have hb' : i < cs.length := by omega
    have hsz : sz = 1 := sz_of hs hb
    have hsz' : sz' = 1 := sz_of hs' hb'
    subst hsz hsz'
    refine AWp.skip ?_
    simp only [qSeq]
    refine AWp.seq (AWp.block (AWp.seq (AWp.ops ?_)))
    simp [hb]
    rw [List.drop_eq_getElem_cons hb, List.drop_eq_getElem_cons hb'] at hm
    have bad : cs[i] < 0 ∨ xs[i] ≤ cs[i] → (0, 3) = atGo xs cs 0 := by
      intro h
      rw [hm]
      simp only [atGo]
      rw [if_pos h]
    refine AWp.seq (AWp.seq (AWp.ops ?_))
    by_cases hc : cs[i] < 0 ∨ xs[i] ≤ cs[i]
    · rcases Int.lt_or_le cs[i] 0 with h1 | h1
      · simp [hb', h1]
        refine AWp.cond (b := true) (by simp) (fun _ => ?_) (fun h => by cases h)
        repeat first | refine AWp.seq ?_ | refine AWp.block ?_
        refine AWp.ops ?_
        simp
        refine AWp.ret ?_
        simp
        refine retOk.of rfl ⟨rfl, ?_⟩
        rw [← bad hc]; simp
      · have h2 : xs[i] ≤ cs[i] := by omega
        simp [hb', Int.not_lt.2 h1, h2]
        refine AWp.cond (b := true) (by simp) (fun _ => ?_) (fun h => by cases h)
        repeat first | refine AWp.seq ?_ | refine AWp.block ?_
        refine AWp.ops ?_
        simp
        refine AWp.ret ?_
        simp
        refine retOk.of rfl ⟨rfl, ?_⟩
        rw [← bad hc]; simp
    · have h1 : ¬ cs[i] < 0 := by omega
      have h2 : ¬ xs[i] ≤ cs[i] := by omega
      simp [hb', h1, h2]
      refine AWp.cond (b := false) (by simp) (fun h => by cases h) (fun _ => ?_)
      refine AWp.skip ?_
      simp only [qSeq]
      refine AWp.ops ?_
      simp [hb']
      refine AWp.ops ?_
      simp
      refine ⟨i + 1, _, _, Weak.slots [0, 1, 4, 5, 8, 24, 25, 26], ⟨by omega, rfl, IntKind.i64.wrap (IntKind.i64.wrap (n * xs[i]) + cs[i]), ?_, ?_⟩, by omega⟩
      · rw [hm]
        simp only [atGo]
        rw [if_neg hc]
      · simp [wrap_i64 (n := (i : Int) + 1) (by omega) (by omega)]
  · intro hb
    have hb : ¬ i < xs.length := by simpa using hb
    refine AWp.exit ?_
    simp [qSeq, qBlock]
    repeat first | refine AWp.seq ?_ | refine AWp.block ?_
    refine AWp.ops ?_
    simp
    refine AWp.ret ?_
    simp
    refine retOk.of rfl ⟨rfl, ?_⟩
    rw [hm, List.drop_eq_nil_of_le (by omega)]
    simp [atGo]
end Go.Fw
namespace Go.Fw
open Go Go.RowKit Go.Proofs
set_option maxRecDepth 100000
set_option linter.unusedSimpArgs false
set_option linter.unusedVariables false

theorem mulAll_nonneg : ∀ (xs : List Int) (n : Int), (∀ x ∈ xs, 0 ≤ x) → 0 ≤ n → 0 ≤ (mulAll xs n).1
  | [], n, _, h => h
  | s :: r, n, hx, h => by
    simp only [mulAll]
    split
    · simp
    · exact mulAll_nonneg r _ (fun x hx' => hx x (by simp [hx'])) (Int.mul_nonneg h (hx s (by simp)))
theorem mulAll_err : ∀ (xs : List Int) (n : Int), (mulAll xs n).2 ≠ 0 → (mulAll xs n).1 = 0
  | [], n, h => by simp [mulAll] at h
  | s :: r, n, h => by
    simp only [mulAll] at h ⊢
    split
    · rfl
    · rename_i hc
      rw [if_neg hc] at h
      exact mulAll_err r _ h
theorem cells_err {xs : List Int} (h : (cells xs).2 ≠ 0) : (cells xs).1 = 0 := by
  unfold cells at *
  split
  · rfl
  · rename_i h1
    rw [if_neg h1] at h
    split
    · rfl
    · rename_i h2
      rw [if_neg h2] at h
      exact mulAll_err _ _ h
theorem cells_nonneg (xs : List Int) : 0 ≤ (cells xs).1 := by
  unfold cells
  split
  · simp
  · rename_i h1
    split
    · simp
    · refine mulAll_nonneg _ _ (fun x hx => ?_) (by omega)
      have : ¬ (xs.any fun x => decide (x < 0)) = true := fun h => h1 (.inr h)
      simp at this
      exact this x hx
theorem cells_len {xs : List Int} (h : (cells xs).2 = 0) : xs.length ≤ 4 := by
  unfold cells at h
  split at h
  · simp at h
  · rename_i h1
    have : ¬ xs.length > 4 := fun h => h1 (.inl h)
    omega

def laid_5 : AC := (.seq (.ops [⟨(some 17), none, (.k (.mov (.t 4)))⟩, ⟨(some 18), none, (.k (.mov (.t 5)))⟩, ⟨(some 2), none, (.k (.mov (.t 17)))⟩, ⟨(some 3), none, (.k (.mov (.t 18)))⟩]) .ret)
def laid_4 : AC := (.cond (.t 16) (.seq (.ops [⟨(some 2), none, (.k (.mov (.c (.sc (.int .i64 0)))))⟩, ⟨(some 3), none, (.k (.mov (.c (.sc (.int .i64 2)))))⟩]) .ret) .skip)
def laid_3 : AC := (.seq (.ops [⟨(some 11), none, (.k (.mov (.t 5)))⟩, ⟨(some 12), none, (.k (.bin .eql (.t 11) (.c (.sc (.int .i64 0)))))⟩, ⟨(some 13), none, (.k (.mov (.t 12)))⟩, ⟨(some 14), (some (13, true)), (.k (.mov (.t 4)))⟩, ⟨(some 15), (some (13, true)), (.k (.bin .gtr (.t 14) (.c (.sc (.int .i64 65536)))))⟩, ⟨(some 16), none, (.k (.pick (.t 13) (.t 15) (.c (.sc (.bool false)))))⟩]) laid_4)
def laid_2 : AC := (.seq laid_3 laid_5)
def laid_1 : AC := (.seq (.ops [⟨(some 7), none, (.k (.mov (.t 0)))⟩, ⟨(some 8), none, (.call false (.c (.fn (.func 42) [] [])) [(.t 7)])⟩, ⟨(some 6), none, (.k (.mov (.t 8)))⟩, ⟨(some 9), none, (.k (.ext (.t 6) 0))⟩, ⟨(some 10), none, (.k (.ext (.t 6) 1))⟩, ⟨(some 4), none, (.k (.mov (.t 9)))⟩, ⟨(some 5), none, (.k (.mov (.t 10)))⟩]) laid_2)
def laid_ac : AC := (.seq (.ops [⟨(some 2), none, (.k (.mov (.c (.sc (.int .i64 0)))))⟩, ⟨(some 3), none, (.k (.mov (.c (.sc (.int .i64 0)))))⟩]) laid_1)
theorem laid_call {args : List AV} {H : List AObj} {R : AV → List AObj → Prop} (h : AWp Try.prog [] H.length laid_ac (bodyQ H.length [(.t 2), (.t 3)] R) (args ++ List.replicate (19 - args.length) .und) H) : ACalls Try.prog 80 args H R :=
  ACalls.of_fn Try.func80 rfl (by kernel_rfl) rfl Try.ntmps80 h

def laidF (xs : List Int) : Int × Int := if (cells xs).2 = 0 ∧ (cells xs).1 > 65536 then (0, 2) else cells xs

theorem laid_spec {a : AV} {xs : List Int} (ha : ISl a xs) : ACalls Try.prog 80 [a] [] fun r H' => H' = [] ∧ r = .tup [I (laidF xs).1, I (laidF xs).2] := by
  apply laid_call
  repeat first | refine AWp.seq ?_ | refine AWp.block ?_
  refine AWp.ops ?_
  simp
  repeat first | refine AWp.seq ?_ | refine AWp.block ?_
  refine AWp.ops ?_
  simp
  refine (Cells_spec ha).mono ?_
  rintro r H' ⟨rfl, rfl⟩
  simp
  refine AWp.seq (AWp.seq (AWp.ops ?_))
  by_cases h0 : (cells xs).2 = 0
  · simp [h0]
    refine AWp.cond (b := decide (65536 < (cells xs).1)) (by simp) ?_ ?_
    · intro h
      have h : 65536 < (cells xs).1 := by simpa using h
      repeat first | refine AWp.seq ?_ | refine AWp.block ?_
      refine AWp.ops ?_
      simp
      refine AWp.ret ?_
      simp
      refine retOk.of rfl ⟨rfl, ?_⟩
      simp [laidF, h0, h]
    · intro h
      have h : ¬ 65536 < (cells xs).1 := by simpa using h
      refine AWp.skip ?_
      simp only [qSeq]
      repeat first | refine AWp.seq ?_ | refine AWp.block ?_
      refine AWp.ops ?_
      simp
      refine AWp.ret ?_
      simp
      refine retOk.of rfl ⟨rfl, ?_⟩
      simp [laidF, h0, h]
  · simp [h0]
    refine AWp.cond (b := false) (by simp) (fun h => by cases h) (fun _ => ?_)
    refine AWp.skip ?_
    simp only [qSeq]
    repeat first | refine AWp.seq ?_ | refine AWp.block ?_
    refine AWp.ops ?_
    simp
    refine AWp.ret ?_
    simp
    refine retOk.of rfl ⟨rfl, ?_⟩
    simp [laidF, h0]

theorem laid_err {xs : List Int} (h : (laidF xs).2 ≠ 0) : (laidF xs).1 = 0 := by
  unfold laidF at *
  split
  · rfl
  · rename_i h1
    rw [if_neg h1] at h
    exact cells_err h
theorem laid_ok {xs : List Int} (h : (laidF xs).2 = 0) : xs.length ≤ 4 ∧ ∃ n : Nat, (laidF xs).1 = n ∧ n ≤ 65536 := by
  unfold laidF at *
  split at h
  · simp at h
  · rename_i h1
    rw [if_neg h1]
    have := cells_nonneg xs
    exact ⟨cells_len h, (cells xs).1.toNat, by omega, by omega⟩

def Clone_3 : AC := (.seq (.ops [⟨(some 5), none, (.k (.lit 1 []))⟩, ⟨(some 6), none, (.k (.mov (.t 0)))⟩, ⟨(some 7), none, (.k (.app 3 1 8 (.t 5) (.t 6)))⟩, ⟨(some 2), none, (.k (.mov (.t 7)))⟩]) .ret)
def Clone_2 : AC := (.seq (.ops [⟨(some 3), none, (.k (.mov (.t 0)))⟩, ⟨(some 4), none, (.k (.nileq false (.t 3)))⟩]) (.cond (.t 4) (.seq (.ops [⟨(some 2), none, (.k (.mov (.c (.imm true none 0 []))))⟩]) .ret) .skip))
def Clone_1 : AC := (.seq Clone_2 Clone_3)
def Clone_ac : AC := (.seq (.ops [⟨(some 2), none, (.k (.mov (.c (.imm true none 0 []))))⟩]) Clone_1)
theorem Clone_call {args : List AV} {H : List AObj} {R : AV → List AObj → Prop} (h : AWp Try.prog [] H.length Clone_ac (bodyQ H.length [(.t 2)] R) (args ++ List.replicate (8 - args.length) .und) H) : ACalls Try.prog 65 args H R :=
  ACalls.of_fn Try.func65 rfl (by kernel_rfl) rfl Try.ntmps65 h

def cloneR (nl : Bool) (xs : List Int) (r : AV) (G : List AObj) : Prop :=
  if nl = true then r = .imm true none 0 [] ∧ G = [] else if xs = [] then r = .imm false (some 0) 1 [] ∧ G = [] else
    r = .slc 0 xs.length 0 xs.length none ∧ G = [⟨3, 1, xs.map I, true, none⟩]

theorem Clone_spec {nl : Bool} {c : Option Nat} {sz : Nat} {xs : List Int} (hs : (nl = true → xs = []) ∧ (nl = false → sz = 1)) (hl : xs.length ≤ 1000000) :
    ACalls Try.prog 65 [.imm nl c sz (xs.map I)] [] fun r H' => cloneR nl xs r H' := by
  apply Clone_call
  repeat first | refine AWp.seq ?_ | refine AWp.block ?_
  refine AWp.ops ?_
  simp
  refine AWp.seq (AWp.seq (AWp.ops ?_))
  simp
  refine AWp.cond (b := nl) (by simp) ?_ ?_
  · intro h
    repeat first | refine AWp.seq ?_ | refine AWp.block ?_
    refine AWp.ops ?_
    simp
    refine AWp.ret ?_
    simp
    refine retOk.of rfl ?_
    simp [cloneR, h]
  · intro h
    refine AWp.skip ?_
    simp only [qSeq]
    refine AWp.seq (AWp.ops ?_)
    simp [elems_of [] hs]
    by_cases hx : xs = []
    · simp [hx]
      refine AWp.ret ?_
      simp
      refine retOk.of rfl ?_
      simp [cloneR, h]
    · have h1 : xs.length * 8 ≤ 140737488355328 := by omega
      have h2 : xs.length ≤ 9223372036854775807 := by omega
      simp [hx, h1, h2]
      refine AWp.ret ?_
      simp
      refine retOk.of rfl ?_
      simp [cloneR, h, hx]

def Zero_6 : AC := (.seq (.par [[⟨(some 15), none, (.k (.mov (.t 0)))⟩, ⟨(some 17), none, (.k (.mov (.t 4)))⟩, ⟨(some 16), none, (.call true (.c (.fn (.func 65) [] [])) [(.t 15)])⟩, ⟨(some 18), none, (.k (.mkS 2 1 8 (.sc (.int .i64 0)) (.t 17) (.t 17)))⟩, ⟨(some 19), none, (.k (.mk [(.imm true none 0 []), (.imm true none 0 [])] [(0, (1, (.t 16))), (1, (1, (.t 18)))]))⟩, ⟨none, none, (.k (.st 2 (.t 2) (.t 19)))⟩, ⟨(some 3), none, (.k (.mov (.c (.sc (.int .i64 0)))))⟩], [⟨(some 15), none, (.k (.mov (.t 0)))⟩, ⟨(some 17), none, (.k (.mov (.t 4)))⟩, ⟨(some 18), none, (.k (.mkS 2 1 8 (.sc (.int .i64 0)) (.t 17) (.t 17)))⟩, ⟨(some 16), none, (.call true (.c (.fn (.func 65) [] [])) [(.t 15)])⟩, ⟨(some 19), none, (.k (.mk [(.imm true none 0 []), (.imm true none 0 [])] [(0, (1, (.t 16))), (1, (1, (.t 18)))]))⟩, ⟨none, none, (.k (.st 2 (.t 2) (.t 19)))⟩, ⟨(some 3), none, (.k (.mov (.c (.sc (.int .i64 0)))))⟩]]) .ret)
def Zero_5 : AC := (.seq (.ops [⟨(some 13), none, (.k (.mk [(.imm true none 0 []), (.imm true none 0 [])] []))⟩, ⟨(some 14), none, (.k (.mov (.t 5)))⟩, ⟨none, none, (.k (.st 2 (.t 2) (.t 13)))⟩, ⟨(some 3), none, (.k (.mov (.t 14)))⟩]) .ret)
def Zero_4 : AC := (.cond (.t 12) Zero_5 .skip)
def Zero_3 : AC := (.seq (.ops [⟨(some 11), none, (.k (.mov (.t 5)))⟩, ⟨(some 12), none, (.k (.bin .neq (.t 11) (.c (.sc (.int .i64 0)))))⟩]) Zero_4)
def Zero_2 : AC := (.seq Zero_3 Zero_6)
def Zero_1 : AC := (.seq (.ops [⟨(some 7), none, (.k (.mov (.t 0)))⟩, ⟨(some 8), none, (.call false (.c (.fn (.func 80) [] [])) [(.t 7)])⟩, ⟨(some 6), none, (.k (.mov (.t 8)))⟩, ⟨(some 9), none, (.k (.ext (.t 6) 0))⟩, ⟨(some 10), none, (.k (.ext (.t 6) 1))⟩, ⟨(some 4), none, (.k (.mov (.t 9)))⟩, ⟨(some 5), none, (.k (.mov (.t 10)))⟩]) Zero_2)
def Zero_ac : AC := (.seq (.ops [⟨(some 2), none, (.k (.new 49 2 (.c (.agg [(.imm true none 0 []), (.imm true none 0 [])]))))⟩, ⟨(some 3), none, (.k (.mov (.c (.sc (.int .i64 0)))))⟩]) Zero_1)
theorem Zero_call {args : List AV} {H : List AObj} {R : AV → List AObj → Prop} (h : AWp Try.prog [] H.length Zero_ac (bodyQ H.length [(.cell 2 2 true), (.t 3)] R) (args ++ List.replicate (20 - args.length) .und) H) : ACalls Try.prog 59 args H R :=
  ACalls.of_fn Try.func59 rfl (by kernel_rfl) rfl Try.ntmps59 h

/-- What Zero returns, where its objects lie. -/
def zeroR (xs : List Int) (r : AV) (G : List AObj) : Prop :=
  ∃ e : Int, (e ≠ 0 ∧ laidF xs = (0, e) ∧ r = .tup [.agg [.imm true none 0 [], .imm true none 0 []], I e]) ∨
    (e = 0 ∧ (laidF xs).2 = 0 ∧ ∃ s j n, (laidF xs).1 = (n : Nat) ∧ r = .tup [.agg [s, .slc j n 0 n none], I 0] ∧ G[j]? = some ⟨2, 1, List.replicate n (I 0), true, none⟩ ∧
      ((xs = [] ∧ ∃ nl c sz, s = .imm nl c sz [] ∧ (nl = false → sz = 1)) ∨ ∃ k, k ≠ j ∧ s = .slc k xs.length 0 xs.length none ∧ G[k]? = some ⟨3, 1, xs.map I, true, none⟩))

theorem Zero_spec {a : AV} {xs : List Int} (ha : ISl a xs) : ACalls Try.prog 59 [a] [] fun r G => zeroR xs r G := by
  have ha' := ha
  obtain ⟨⟨nl, c, sz, rfl, hs⟩, hlen, hx⟩ := ha
  apply Zero_call
  repeat first | refine AWp.seq ?_ | refine AWp.block ?_
  refine AWp.ops ?_
  simp
  repeat first | refine AWp.seq ?_ | refine AWp.block ?_
  refine AWp.ops ?_
  simp
  refine ((laid_spec ha').pure (by simp) (by rintro r rfl; simp) _).mono ?_
  rintro r H' ⟨rfl, rfl⟩
  simp
  refine AWp.seq (AWp.seq (AWp.ops ?_))
  simp
  refine AWp.cond (b := (laidF xs).2 != 0) (by simp) ?_ ?_
  · intro h
    have h : (laidF xs).2 ≠ 0 := by simpa using h
    repeat first | refine AWp.seq ?_ | refine AWp.block ?_
    refine AWp.ops ?_
    simp
    refine AWp.ret ?_
    simp
    refine retOk.of rfl ?_
    refine ⟨(laidF xs).2, .inl ⟨h, by rw [← laid_err h], by simp⟩⟩
  intro h
  have h : (laidF xs).2 = 0 := by simpa using h
  obtain ⟨hxl, n, hn, hn'⟩ := laid_ok h
  refine AWp.skip ?_
  simp only [qSeq]
  refine AWp.seq (AWp.par ?_)
  have b1 : (n : Int) * 8 ≤ 281474976710656 := by omega
  have b2 : (n : Int) ≤ 9223372036854775807 := by omega
  simp [hn]
  refine ⟨?_, ?_⟩
  · refine ((Clone_spec (c := c) hs (by omega)).anywhere (by simp) 4 _).mono ?_
    rintro r H' ⟨r, G, hr, rfl, rfl⟩
    refine ⟨fun _ => ⟨_, rfl⟩, ?_⟩
    unfold cloneR at hr
    split at hr
    · rename_i hnl
      have hx0 := hs.1 hnl
      subst hx0
      obtain ⟨rfl, rfl⟩ := hr
      simp [b1, b2]
      refine AWp.ret ?_
      simp
      exact retOk.of rfl ⟨0, .inr ⟨rfl, h, _, 1, n, hn, by simp; rfl, by simp, .inl ⟨rfl, true, none, 0, by simp, by simp⟩⟩⟩
    · split at hr
      · rename_i hx0
        subst hx0
        obtain ⟨rfl, rfl⟩ := hr
        simp [b1, b2]
        refine AWp.ret ?_
        simp
        exact retOk.of rfl ⟨0, .inr ⟨rfl, h, _, 1, n, hn, by simp; rfl, by simp, .inl ⟨rfl, false, some 0, 1, by simp, by simp⟩⟩⟩
      · obtain ⟨rfl, rfl⟩ := hr
        simp [b1, b2]
        refine AWp.ret ?_
        simp
        exact retOk.of rfl ⟨0, .inr ⟨rfl, h, _, 2, n, hn, by simp, by simp, .inr ⟨1, by omega, rfl, by simp⟩⟩⟩
  · simp [b1, b2]
    refine ((Clone_spec (c := c) hs (by omega)).anywhere (by simp) 4 _).mono ?_
    rintro r H' ⟨r, G, hr, rfl, rfl⟩
    refine ⟨fun _ => ⟨_, rfl⟩, ?_⟩
    unfold cloneR at hr
    split at hr
    · rename_i hnl
      have hx0 := hs.1 hnl
      subst hx0
      obtain ⟨rfl, rfl⟩ := hr
      simp
      refine AWp.ret ?_
      simp
      exact retOk.of rfl ⟨0, .inr ⟨rfl, h, _, 1, n, hn, by simp; rfl, by simp, .inl ⟨rfl, true, none, 0, by simp, by simp⟩⟩⟩
    · split at hr
      · rename_i hx0
        subst hx0
        obtain ⟨rfl, rfl⟩ := hr
        simp
        refine AWp.ret ?_
        simp
        exact retOk.of rfl ⟨0, .inr ⟨rfl, h, _, 1, n, hn, by simp; rfl, by simp, .inl ⟨rfl, false, some 0, 1, by simp, by simp⟩⟩⟩
      · obtain ⟨rfl, rfl⟩ := hr
        simp
        refine AWp.ret ?_
        simp
        exact retOk.of rfl ⟨0, .inr ⟨rfl, h, _, 1, n, hn, by simp, by simp, .inr ⟨2, by omega, rfl, by simp⟩⟩⟩
end Go.Fw
namespace Go.Fw
open Go Go.RowKit Go.Proofs
set_option maxRecDepth 100000
set_option linter.unusedSimpArgs false
set_option linter.unusedVariables false

theorem ISl.of {xs : List Int} (c : Option Nat) (h1 : xs.length ≤ 9223372036854775807) (h2 : ∀ x ∈ xs, -9223372036854775808 ≤ x ∧ x ≤ 9223372036854775807) : ISl (.imm false c 1 (xs.map I)) xs :=
  ⟨⟨false, c, 1, rfl, by simp, by simp⟩, h1, h2⟩

theorem ISl.nil : ISl (.imm true none 0 []) [] := ⟨⟨true, none, 0, rfl, by simp, by simp⟩, by simp, by simp⟩

/-- A tensor: its shape, its numbers. -/
def Dn (d : AV) (D : List Int × List Int) : Prop := ∃ s v, d = .agg [s, v] ∧ ISl s D.1 ∧ ISl v D.2

def zeroF (xs : List Int) : (List Int × List Int) × Int :=
  if (laidF xs).2 ≠ 0 then (([], []), (laidF xs).2) else ((xs, List.replicate (laidF xs).1.toNat 0), 0)

theorem map_replicate_I (n : Nat) : List.replicate n (I 0) = (List.replicate n (0 : Int)).map I := by simp

theorem Zero_pure {a : AV} {xs : List Int} (ha : ISl a xs) : ACalls Try.prog 59 [a] [] fun r H' => H' = [] ∧ ∃ d, r = .tup [d, I (zeroF xs).2] ∧ Dn d (zeroF xs).1 := by
  refine ((Zero_spec ha).frozen 8).mono ?_
  rintro q H' ⟨rfl, r, G, ⟨e, ⟨h1, h2, rfl⟩ | ⟨rfl, h2, s, j, n, hn, rfl, hj, hs⟩⟩, rfl⟩
  · refine ⟨rfl, _, by simp [zeroF, h2, h1]; rfl, ?_⟩
    simp only [zeroF, h2]
    rw [if_pos h1]
    exact ⟨_, _, rfl, ISl.nil, ISl.nil⟩
  · obtain ⟨hl, n', hn', hb⟩ := laid_ok h2
    have hnn : n' = n := by omega
    subst hnn
    refine ⟨rfl, _, by simp [zeroF, h2]; rfl, ?_⟩
    have ez : (zeroF xs).1 = (xs, List.replicate n' 0) := by simp [zeroF, h2, hn]
    rw [ez]
    refine ⟨_, _, rfl, ?_, ?_⟩
    · rcases hs with ⟨h0, nl, c, sz, rfl, hs⟩ | ⟨k, hk, rfl, hG⟩
      · exact ⟨⟨nl, c, sz, by simp [h0], ⟨fun _ => h0, hs⟩⟩, ha.2⟩
      · refine ⟨⟨false, none, 1, ?_, by simp, by simp⟩, ha.2⟩
        simp [hG]
    · refine ⟨⟨false, none, 1, ?_, by simp, by simp⟩, by simp; omega, ?_⟩
      · simp [hj]
      · intro x hx
        simp at hx
        omega

theorem mulAll_ge : ∀ (xs : List Int) (m : Int), (∀ x ∈ xs, 1 ≤ x) → 1 ≤ m → m < 4611686018427387904 → (mulAll xs m).2 = 0 → m ≤ (mulAll xs m).1 ∧ (mulAll xs m).1 < 4611686018427387904
  | [], m, _, _, h2, _ => by simp [mulAll, h2]
  | s :: r, m, hx, h1, h2, h => by
    simp only [mulAll] at h ⊢
    by_cases hc : m * s ≥ 4611686018427387904
    · rw [if_pos hc] at h; simp at h
    · rw [if_neg hc] at h ⊢
      have hs := hx s (by simp)
      have hm : m * 1 ≤ m * s := Int.mul_le_mul_of_nonneg_left hs (by omega)
      have := mulAll_ge r (m * s) (fun x h => hx x (by simp [h])) (by omega) (by omega) h
      omega

theorem atGo_lt : ∀ (xs cs : List Int) (n m : Int), (∀ x ∈ xs, 1 ≤ x) → 1 ≤ m → m < 4611686018427387904 → (mulAll xs m).2 = 0 → 0 ≤ n → n < m → cs.length = xs.length → (atGo xs cs n).2 = 0 →
    0 ≤ (atGo xs cs n).1 ∧ (atGo xs cs n).1 < (mulAll xs m).1
  | [], [], n, m, _, _, _, _, h0, h1, _, _ => by simp [atGo, mulAll, h0, h1]
  | [], c :: q, n, m, _, _, _, _, _, _, hl, _ => by simp at hl
  | s :: r, [], n, m, _, _, _, _, _, _, hl, _ => by simp at hl
  | s :: r, c :: q, n, m, hx, hm1, hm2, h, h0, h1, hl, ha => by
    simp only [mulAll] at h ⊢
    simp only [atGo] at ha ⊢
    by_cases hc : m * s ≥ 4611686018427387904
    · rw [if_pos hc] at h; simp at h
    · rw [if_neg hc] at h ⊢
      by_cases hb : c < 0 ∨ s ≤ c
      · rw [if_pos hb] at ha; simp at ha
      · rw [if_neg hb] at ha ⊢
        have hs := hx s (by simp)
        have hm : m * 1 ≤ m * s := Int.mul_le_mul_of_nonneg_left hs (by omega)
        have e1 : n * s ≤ (m - 1) * s := Int.mul_le_mul_of_nonneg_right (by omega) (by omega)
        have e2 : 0 ≤ n * s := Int.mul_nonneg h0 (by omega)
        rw [Int.sub_mul] at e1
        have w1 := wrap_i64 (n := n * s) (by omega) (by omega)
        have w2 := wrap_i64 (n := n * s + c) (by omega) (by omega)
        rw [w1, w2] at ha ⊢
        exact atGo_lt r q _ _ (fun x h => hx x (by simp [h])) (by omega) (by omega) h (by omega) (by omega) (by simpa using hl) ha
theorem atGo_zero : ∀ (xs cs : List Int) (n : Int), cs.length = xs.length → 0 ∈ xs → (atGo xs cs n).2 ≠ 0
  | [], cs, n, _, h => by simp at h
  | s :: r, [], n, hl, _ => by simp at hl
  | s :: r, c :: q, n, hl, h => by
    simp only [atGo]
    by_cases hb : c < 0 ∨ s ≤ c
    · rw [if_pos hb]; simp
    · rw [if_neg hb]
      have hs : s ≠ 0 := by omega
      rcases List.mem_cons.1 h with h | h
      · exact absurd h.symm hs
      · exact atGo_zero r q _ (by simpa using hl) h
theorem atF_lt {xs cs : List Int} (h : (cells xs).2 = 0) (ha : (atF xs cs).2 = 0) : 0 ≤ (atF xs cs).1 ∧ (atF xs cs).1 < (cells xs).1 := by
  unfold atF at *
  rw [if_neg (by simpa using h)] at *
  by_cases hl : cs.length = xs.length
  · rw [if_neg (by simpa using hl)] at *
    by_cases h0 : 0 ∈ xs
    · exact absurd ha (atGo_zero xs cs 0 hl h0)
    · unfold cells at *
      split at h
      · simp at h
      · rename_i h1
        rw [if_neg h1, if_neg h0] at *
        have hx : ∀ x ∈ xs, 1 ≤ x := by
          intro x hx
          have : ¬ (xs.any fun x => decide (x < 0)) = true := fun h => h1 (.inr h)
          simp at this
          have := this x hx
          have : x ≠ 0 := by rintro rfl; exact h0 hx
          omega
        exact atGo_lt xs cs 0 1 hx (by omega) (by omega) h (by omega) (by omega) hl ha
  · rw [if_pos hl] at ha; simp at ha

end Go.Fw
