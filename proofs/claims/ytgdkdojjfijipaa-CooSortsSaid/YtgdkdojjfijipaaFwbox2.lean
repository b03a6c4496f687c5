import Derived.Test.YtgdkdojjfijipaaFwbox1
namespace Go.Fw
open Go Go.RowKit Go.Proofs
set_option maxRecDepth 100000
set_option linter.unusedSimpArgs false
set_option linter.unusedVariables false

def atGo : List Int → List Int → Int → Int × Int
  | s :: r, c :: q, n => if c < 0 ∨ s ≤ c then (0, 3) else atGo r q (IntKind.i64.wrap (IntKind.i64.wrap (n * s) + c))
  | _, _, n => (n, 0)
def atF (xs cs : List Int) : Int × Int :=
  if (cells xs).2 ≠ 0 then (0, (cells xs).2) else if cs.length ≠ xs.length then (0, 3) else atGo xs cs 0

def At_22 : AC := (.seq (.ops [⟨(some 53), none, (.k (.mov (.t 8)))⟩, ⟨(some 4), none, (.k (.mov (.t 53)))⟩, ⟨(some 5), none, (.k (.mov (.c (.sc (.int .i64 0)))))⟩]) .ret)
def At_21 : AC := (.cond (.t 43) (.seq (.ops [⟨(some 4), none, (.k (.mov (.c (.sc (.int .i64 0)))))⟩, ⟨(some 5), none, (.k (.mov (.c (.sc (.int .i64 3)))))⟩]) .ret) .skip)
def At_20 : AC := (.seq (.ops [⟨(some 31), none, (.k (.mov (.t 1)))⟩, ⟨(some 32), none, (.k (.mov (.t 9)))⟩, ⟨(some 33), none, (.k (.iad 1 (.t 31) (.t 32)))⟩, ⟨(some 34), none, (.k (.ld 1 false (.t 33)))⟩, ⟨(some 35), none, (.k (.bin .lss (.t 34) (.c (.sc (.int .i64 0)))))⟩, ⟨(some 36), none, (.k (.mov (.t 35)))⟩, ⟨(some 37), (some (36, false)), (.k (.mov (.t 1)))⟩, ⟨(some 38), (some (36, false)), (.k (.mov (.t 9)))⟩, ⟨(some 39), (some (36, false)), (.k (.iad 1 (.t 37) (.t 38)))⟩, ⟨(some 40), (some (36, false)), (.k (.ld 1 false (.t 39)))⟩, ⟨(some 41), (some (36, false)), (.k (.mov (.t 10)))⟩, ⟨(some 42), (some (36, false)), (.k (.bin .geq (.t 40) (.t 41)))⟩, ⟨(some 43), none, (.k (.pick (.t 36) (.c (.sc (.bool true))) (.t 42)))⟩]) At_21)
def At_19 : AC := (.seq At_20 (.ops [⟨(some 44), none, (.k (.mov (.t 8)))⟩, ⟨(some 45), none, (.k (.mov (.t 10)))⟩, ⟨(some 46), none, (.k (.bin .mul (.t 44) (.t 45)))⟩, ⟨(some 47), none, (.k (.mov (.t 1)))⟩, ⟨(some 48), none, (.k (.mov (.t 9)))⟩, ⟨(some 49), none, (.k (.iad 1 (.t 47) (.t 48)))⟩, ⟨(some 50), none, (.k (.ld 1 false (.t 49)))⟩, ⟨(some 51), none, (.k (.bin .add (.t 46) (.t 50)))⟩, ⟨(some 8), none, (.k (.mov (.t 51)))⟩]))
def At_18 : AC := (.seq (.ops [⟨(some 28), none, (.k (.mov (.t 26)))⟩, ⟨(some 29), none, (.k (.iad 1 (.t 24) (.t 26)))⟩, ⟨(some 30), none, (.k (.ld 1 false (.t 29)))⟩, ⟨(some 9), none, (.k (.mov (.t 28)))⟩, ⟨(some 10), none, (.k (.mov (.t 30)))⟩]) At_19)
def At_17 : AC := (.block 1 At_18)
def At_16 : AC := (.seq At_17 (.ops [⟨(some 52), none, (.k (.bin .add (.t 26) (.c (.sc (.int .i64 1)))))⟩, ⟨(some 26), none, (.k (.mov (.t 52)))⟩]))
def At_15 : AC := (.seq (.cond (.t 27) .skip (.exit 0)) At_16)
def At_14 : AC := (.seq (.ops [⟨(some 27), none, (.k (.bin .lss (.t 26) (.t 25)))⟩]) At_15)
def At_13 : AC := (.loop At_14)
def At_12 : AC := (.block 0 At_13)
def At_11 : AC := (.seq (.ops [⟨(some 24), none, (.k (.mov (.t 0)))⟩, ⟨(some 25), none, (.k (.len (.t 24)))⟩, ⟨(some 26), none, (.k (.mov (.c (.sc (.int .i64 0)))))⟩]) At_12)
def At_10 : AC := (.seq At_11 At_22)
def At_9 : AC := (.seq (.ops [⟨(some 8), none, (.k (.mov (.c (.sc (.int .i64 0)))))⟩]) At_10)
def At_8 : AC := (.cond (.t 23) (.seq (.ops [⟨(some 4), none, (.k (.mov (.c (.sc (.int .i64 0)))))⟩, ⟨(some 5), none, (.k (.mov (.c (.sc (.int .i64 3)))))⟩]) .ret) .skip)
def At_7 : AC := (.seq (.ops [⟨(some 19), none, (.k (.mov (.t 1)))⟩, ⟨(some 20), none, (.k (.len (.t 19)))⟩, ⟨(some 21), none, (.k (.mov (.t 0)))⟩, ⟨(some 22), none, (.k (.len (.t 21)))⟩, ⟨(some 23), none, (.k (.bin .neq (.t 20) (.t 22)))⟩]) At_8)
def At_6 : AC := (.seq At_7 At_9)
def At_5 : AC := (.seq (.ops [⟨(some 18), none, (.k (.mov (.t 7)))⟩, ⟨(some 4), none, (.k (.mov (.c (.sc (.int .i64 0)))))⟩, ⟨(some 5), none, (.k (.mov (.t 18)))⟩]) .ret)
def At_4 : AC := (.cond (.t 17) At_5 .skip)
def At_3 : AC := (.seq (.ops [⟨(some 16), none, (.k (.mov (.t 7)))⟩, ⟨(some 17), none, (.k (.bin .neq (.t 16) (.c (.sc (.int .i64 0)))))⟩]) At_4)
def At_2 : AC := (.seq (.ops [⟨(some 12), none, (.k (.mov (.t 0)))⟩, ⟨(some 13), none, (.call false (.c (.fn (.func 42) [] [])) [(.t 12)])⟩, ⟨(some 11), none, (.k (.mov (.t 13)))⟩, ⟨(some 14), none, (.k (.ext (.t 11) 0))⟩, ⟨(some 15), none, (.k (.ext (.t 11) 1))⟩, ⟨(some 6), none, (.k (.mov (.t 14)))⟩, ⟨(some 7), none, (.k (.mov (.t 15)))⟩]) At_3)
def At_1 : AC := (.seq At_2 At_6)
def At_ac : AC := (.seq (.ops [⟨(some 4), none, (.k (.mov (.c (.sc (.int .i64 0)))))⟩, ⟨(some 5), none, (.k (.mov (.c (.sc (.int .i64 0)))))⟩]) At_1)
theorem At_call {args : List AV} {H : List AObj} {R : AV → List AObj → Prop} (h : AWp Try.prog [] H.length At_ac (bodyQ H.length [(.t 4), (.t 5)] R) (args ++ List.replicate (54 - args.length) .und) H) : ACalls Try.prog 43 args H R :=
  ACalls.of_fn Try.func43 rfl (by kernel_rfl) rfl Try.ntmps43 h

theorem At_spec {a b : AV} {xs cs : List Int} (ha : ISl a xs) (hb : ISl b cs) : ACalls Try.prog 43 [a, b] [] fun r H' => H' = [] ∧ r = .tup [I (atF xs cs).1, I (atF xs cs).2] := by
  have ha' := ha
  obtain ⟨⟨nl, c, sz, rfl, hs⟩, hlen, hx⟩ := ha
  obtain ⟨⟨nl', c', sz', rfl, hs'⟩, hlen', hx'⟩ := hb
  apply At_call
  repeat first | refine AWp.seq ?_ | refine AWp.block ?_
  refine AWp.ops ?_
  simp
  refine AWp.seq (AWp.seq (AWp.ops ?_))
  simp
  refine (Cells_spec ha').mono ?_
  rintro r H' ⟨rfl, rfl⟩
  simp
  repeat first | refine AWp.seq ?_ | refine AWp.block ?_
  refine AWp.ops ?_
  simp
  refine AWp.cond (b := (cells xs).2 != 0) (by simp) ?_ ?_
  · intro h
    repeat first | refine AWp.seq ?_ | refine AWp.block ?_
    refine AWp.ops ?_
    simp
    refine AWp.ret ?_
    simp
    refine retOk.of rfl ⟨rfl, ?_⟩
    have h : (cells xs).2 ≠ 0 := by simpa using h
    simp [atF, h]
  intro h
  have h : (cells xs).2 = 0 := by simpa using h
  refine AWp.skip ?_
  simp only [qSeq]
  refine AWp.seq (AWp.seq (AWp.ops ?_))
  simp
  refine AWp.cond (b := (cs.length : Int) != xs.length) (by simp) ?_ ?_
  · intro hl
    repeat first | refine AWp.seq ?_ | refine AWp.block ?_
    refine AWp.ops ?_
    simp
    refine AWp.ret ?_
    simp
    refine retOk.of rfl ⟨rfl, ?_⟩
    have hl : cs.length ≠ xs.length := by have : ¬ (cs.length : Int) = xs.length := by simpa using hl
                                          omega
    simp [atF, h, hl]
  intro hl
  have hl : cs.length = xs.length := by have : (cs.length : Int) = xs.length := by simpa using hl
                                        omega
  have hf : atF xs cs = atGo xs cs 0 := by simp [atF, h, hl]
  rw [hf]
  refine AWp.skip ?_
  simp only [qSeq]
  repeat first | refine AWp.seq ?_ | refine AWp.block ?_
  refine AWp.ops ?_
  simp
  repeat first | refine AWp.seq ?_ | refine AWp.block ?_
  refine AWp.ops ?_
  simp
  refine AWp.block (AWp.loop (fun (i : Nat) fr H => i ≤ xs.length ∧ H = [] ∧ ∃ n : Int, atGo xs cs 0 = atGo (xs.drop i) (cs.drop i) n ∧
    fr = [AV.imm nl c sz (xs.map I), AV.imm nl' c' sz' (cs.map I), .und, .und, I 0, I 0, .und, .und, I n, .und, .und, .und, .und, .und, .und, .und, .und, .und, .und, .und, .und, .und, .und, .und, AV.imm nl c sz (xs.map I), I xs.length, I i, .und, .und, .und, .und, .und, .und, .und, .und, .und, .und, .und, .und, .und, .und, .und, .und, .und, .und, .und, .und, .und, .und, .und, .und, .und, .und, .und]) (fun i => xs.length - i) 0 (Weak.slots [0, 1, 4, 5, 8, 24, 25, 26]) ⟨by omega, rfl, 0, rfl, by simp⟩ ?_)
  rintro i fr H ⟨hi, rfl, n, hm, rfl⟩
  repeat first | refine AWp.seq ?_ | refine AWp.block ?_
  refine AWp.ops ?_
  simp
  refine AWp.seq (AWp.cond (b := decide (i < xs.length)) (by simp) ?_ ?_)
  · intro hb
    have hb : i < xs.length := by simpa using hb
    have hb' : i < cs.length := by omega
    have hsz : sz = 1 := sz_of hs hb
    have hsz' : sz' = 1 := sz_of hs' hb'
    subst hsz hsz'
    refine AWp.skip ?_
    simp only [qSeq]
    refine AWp.seq (AWp.block (AWp.seq (AWp.ops ?_)))
    simp [hb]
    rw [List.drop_eq_getElem_cons hb, List.drop_eq_getElem_cons hb'] at hm
    have bad : cs[i] < 0 ∨ xs[i] ≤ cs[i] → (0, 3) = atGo xs cs 0 := by
      intro h
      rw [hm]
      simp only [atGo]
      rw [if_pos h]
    refine AWp.seq (AWp.seq (AWp.ops ?_))
    by_cases hc : cs[i] < 0 ∨ xs[i] ≤ cs[i]
    · rcases Int.lt_or_le cs[i] 0 with h1 | h1
      · simp [hb', h1]
        refine AWp.cond (b := true) (by simp) (fun _ => ?_) (fun h => by cases h)
        repeat first | refine AWp.seq ?_ | refine AWp.block ?_
        refine AWp.ops ?_
        simp
        refine AWp.ret ?_
        simp
        refine retOk.of rfl ⟨rfl, ?_⟩
        rw [← bad hc]; simp
      · have h2 : xs[i] ≤ cs[i] := by omega
        simp [hb', Int.not_lt.2 h1, h2]
        refine AWp.cond (b := true) (by simp) (fun _ => ?_) (fun h => by cases h)
        repeat first | refine AWp.seq ?_ | refine AWp.block ?_
        refine AWp.ops ?_
        simp
        refine AWp.ret ?_
        simp
        refine retOk.of rfl ⟨rfl, ?_⟩
        rw [← bad hc]; simp
    · have h1 : ¬ cs[i] < 0 := by omega
      have h2 : ¬ xs[i] ≤ cs[i] := by omega
      simp [hb', h1, h2]
      refine AWp.cond (b := false) (by simp) (fun h => by cases h) (fun _ => ?_)
      refine AWp.skip ?_
      simp only [qSeq]
      refine AWp.ops ?_
      simp [hb']
      refine AWp.ops ?_
      simp
      refine ⟨i + 1, _, _, Weak.slots [0, 1, 4, 5, 8, 24, 25, 26], ⟨by omega, rfl, IntKind.i64.wrap (IntKind.i64.wrap (n * xs[i]) + cs[i]), ?_, ?_⟩, by omega⟩
      · rw [hm]
        simp only [atGo]
        rw [if_neg hc]
      · simp [wrap_i64 (n := (i : Int) + 1) (by omega) (by omega)]
  · intro hb
    have hb : ¬ i < xs.length := by simpa using hb
    refine AWp.exit ?_
    simp [qSeq, qBlock]
    repeat first | refine AWp.seq ?_ | refine AWp.block ?_
    refine AWp.ops ?_
    simp
    refine AWp.ret ?_
    simp
    refine retOk.of rfl ⟨rfl, ?_⟩
    rw [hm, List.drop_eq_nil_of_le (by omega)]
    simp [atGo]
end Go.Fw
