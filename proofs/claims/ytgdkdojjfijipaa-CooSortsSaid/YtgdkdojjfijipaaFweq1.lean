import Derived.Test.YtgdkdojjfijipaaFwX
import Derived.Test.YtgdkdojjfijipaaFwslices
namespace Go.Fw
open Go Go.RowKit Go.Proofs
set_option maxRecDepth 100000
set_option linter.unusedSimpArgs false
set_option linter.unusedVariables false

def sEqual_12 : AC := (.seq (.ops [⟨(some 16), none, (.k (.mov (.t 0)))⟩, ⟨(some 17), none, (.k (.mov (.t 5)))⟩, ⟨(some 18), none, (.k (.iad 1 (.t 16) (.t 17)))⟩, ⟨(some 19), none, (.k (.ld 1 false (.t 18)))⟩, ⟨(some 20), none, (.k (.mov (.t 1)))⟩, ⟨(some 21), none, (.k (.mov (.t 5)))⟩, ⟨(some 22), none, (.k (.iad 1 (.t 20) (.t 21)))⟩, ⟨(some 23), none, (.k (.ld 1 false (.t 22)))⟩, ⟨(some 24), none, (.k (.bin .neq (.t 19) (.t 23)))⟩]) (.cond (.t 24) (.seq (.ops [⟨(some 4), none, (.k (.mov (.c (.sc (.bool false)))))⟩]) .ret) .skip))
def sEqual_11 : AC := (.seq (.ops [⟨(some 15), none, (.k (.mov (.t 13)))⟩, ⟨(some 5), none, (.k (.mov (.t 15)))⟩]) sEqual_12)
def sEqual_10 : AC := (.block 1 sEqual_11)
def sEqual_9 : AC := (.seq sEqual_10 (.ops [⟨(some 25), none, (.k (.bin .add (.t 13) (.c (.sc (.int .i64 1)))))⟩, ⟨(some 13), none, (.k (.mov (.t 25)))⟩]))
def sEqual_8 : AC := (.seq (.cond (.t 14) .skip (.exit 0)) sEqual_9)
def sEqual_7 : AC := (.seq (.ops [⟨(some 14), none, (.k (.bin .lss (.t 13) (.t 12)))⟩]) sEqual_8)
def sEqual_6 : AC := (.loop sEqual_7)
def sEqual_5 : AC := (.block 0 sEqual_6)
def sEqual_4 : AC := (.seq (.ops [⟨(some 11), none, (.k (.mov (.t 0)))⟩, ⟨(some 12), none, (.k (.len (.t 11)))⟩, ⟨(some 13), none, (.k (.mov (.c (.sc (.int .i64 0)))))⟩]) sEqual_5)
def sEqual_3 : AC := (.seq sEqual_4 (.seq (.ops [⟨(some 4), none, (.k (.mov (.c (.sc (.bool true)))))⟩]) .ret))
def sEqual_2 : AC := (.seq (.ops [⟨(some 6), none, (.k (.mov (.t 0)))⟩, ⟨(some 7), none, (.k (.len (.t 6)))⟩, ⟨(some 8), none, (.k (.mov (.t 1)))⟩, ⟨(some 9), none, (.k (.len (.t 8)))⟩, ⟨(some 10), none, (.k (.bin .neq (.t 7) (.t 9)))⟩]) (.cond (.t 10) (.seq (.ops [⟨(some 4), none, (.k (.mov (.c (.sc (.bool false)))))⟩]) .ret) .skip))
def sEqual_1 : AC := (.seq sEqual_2 sEqual_3)
def sEqual_ac : AC := (.seq (.ops [⟨(some 4), none, (.k (.mov (.c (.sc (.bool false)))))⟩]) sEqual_1)
theorem sEqual_call {args : List AV} {H : List AObj} {R : AV → List AObj → Prop} (h : AWp Try.prog [] H.length sEqual_ac (bodyQ H.length [(.t 4)] R) (args ++ List.replicate (26 - args.length) .und) H) : ACalls Try.prog 49 args H R :=
  ACalls.of_fn Try.func49 rfl (by kernel_rfl) rfl Try.ntmps49 h

theorem sEqual_spec {a b : AV} {xs ys : List Int} (ha : ISl a xs) (hb : ISl b ys) : ACalls Try.prog 49 [a, b] [] fun r H' => H' = [] ∧ r = Bo (decide (xs = ys)) := by
  obtain ⟨⟨nl, c, sz, rfl, hs⟩, hlen, hx⟩ := ha
  obtain ⟨⟨nl', c', sz', rfl, hs'⟩, hlen', hx'⟩ := hb
  apply sEqual_call
  repeat first | refine AWp.seq ?_ | refine AWp.block ?_
  refine AWp.ops ?_
  simp
  repeat first | refine AWp.seq ?_ | refine AWp.block ?_
  refine AWp.ops ?_
  simp
  refine AWp.cond (b := (xs.length : Int) != ys.length) (by simp) ?_ ?_
  · intro h
    repeat first | refine AWp.seq ?_ | refine AWp.block ?_
    refine AWp.ops ?_
    simp
    refine AWp.ret ?_
    simp
    refine retOk.of rfl ⟨rfl, ?_⟩
    have h : ¬ (xs.length : Int) = ys.length := by simpa using h
    have : xs ≠ ys := fun e => h (by rw [e])
    simp [this]
  intro h
  have hl : xs.length = ys.length := by
    have : (xs.length : Int) = ys.length := by simpa using h
    omega
  refine AWp.skip ?_
  simp only [qSeq]
  repeat first | refine AWp.seq ?_ | refine AWp.block ?_
  refine AWp.ops ?_
  simp
  obtain ⟨J, hJ⟩ : ∃ J : Nat → List AV → List AObj → Prop, J = fun i fr H => i ≤ xs.length ∧ (xs.take i = ys.take i) ∧ H = [] ∧
    fr = [AV.imm nl c sz (xs.map I), AV.imm nl' c' sz' (ys.map I), .und, .und, Bo false, .und, .und, .und, .und, .und, .und, .und, I xs.length, I i, .und, .und, .und, .und, .und, .und, .und, .und, .und, .und, .und, .und] := ⟨_, rfl⟩
  refine AWp.block (AWp.loop J (fun i => xs.length - i) 0 (Weak.slots [0, 1, 4, 12, 13]) (by rw [hJ]; exact ⟨by omega, rfl, by simp, by simp⟩) ?_)
  intro i fr H hI
  rw [hJ] at hI
  obtain ⟨hi, hinv, rfl, rfl⟩ := hI
  repeat first | refine AWp.seq ?_ | refine AWp.block ?_
  refine AWp.ops ?_
  simp
  refine AWp.seq (AWp.cond (b := decide (i < xs.length)) (by simp <;> omega) ?_ ?_)
  ·
    intro hb
    have hb : i < xs.length := by simpa using hb
    refine AWp.skip ?_
    simp only [qSeq]
    have hb' : i < ys.length := by omega
    have hsz := sz_of hs hb
    have hsz' := sz_of hs' hb'
    subst hsz hsz'
    refine AWp.seq (AWp.block (AWp.seq (AWp.ops ?_)))
    simp
    repeat first | refine AWp.seq ?_ | refine AWp.block ?_
    refine AWp.ops ?_
    simp [hb, hb']
    refine AWp.cond (b := xs[i] != ys[i]) (by simp) ?_ ?_
    · intro he
      have he : ¬ xs[i] = ys[i] := by simpa using he
      repeat first | refine AWp.seq ?_ | refine AWp.block ?_
      refine AWp.ops ?_
      simp
      refine AWp.ret ?_
      simp
      refine retOk.of rfl ⟨rfl, ?_⟩
      have : xs ≠ ys := by rintro rfl; exact he rfl
      simp [this]
    · intro he
      have he : xs[i] = ys[i] := by simpa using he
      refine AWp.skip ?_
      simp only [qSeq, qBlock]
      refine AWp.ops ?_
      simp
      refine ⟨i + 1, _, _, Weak.slots [0, 1, 4, 12, 13], ?_, by omega⟩
      rw [hJ]
      refine ⟨by omega, ?_, by simp, by simp [wrap_i64 (n := (i : Int) + 1) (by omega) (by omega)]⟩
      rw [List.take_succ_eq_append_getElem hb, List.take_succ_eq_append_getElem hb', hinv, he]
  ·
    intro hb
    have hb : ¬ i < xs.length := by simpa using hb
    refine AWp.exit ?_
    simp [qSeq, qBlock]
    repeat first | refine AWp.seq ?_ | refine AWp.block ?_
    refine AWp.ops ?_
    simp
    refine AWp.ret ?_
    simp
    refine retOk.of rfl ⟨rfl, ?_⟩
    rw [List.take_of_length_le (by omega), List.take_of_length_le (by omega)] at hinv
    simp [hinv]

end Go.Fw
