import Derived.Test.YthipbeffhfdamaaFwX
import Derived.Test.YthipbeffhfdamaaFwbox1
namespace Go.Fw
open Go Go.RowKit Go.Proofs
set_option maxRecDepth 100000
set_option linter.unusedSimpArgs false
set_option linter.unusedVariables false
def rEqual_12 : AC := (.seq (.ops [.m 16 (.t 0), .m 17 (.t 5), .o 18 (.iad 1 (.t 16) (.t 17)), .o 19 (.ld 1 false (.t 18)), .m 20 (.t 1), .m 21 (.t 5), .o 22 (.iad 1 (.t 20) (.t 21)), .o 23 (.ld 1 false (.t 22)), .o 24 (.bin .neq (.t 19) (.t 23))]) (.cond (.t 24) (.seq (.ops [.m 4 (.b false)]) .ret) .skip))
def rEqual_11 : AC := (.seq (.ops [.m 15 (.t 13), .m 5 (.t 15)]) rEqual_12)
def rEqual_10 : AC := (.block 1 rEqual_11)
def rEqual_9 : AC := (.seq rEqual_10 (.ops [.o 25 (.bin .add (.t 13) (.i 1)), .m 13 (.t 25)]))
def rEqual_8 : AC := (.seq (.cond (.t 14) .skip (.exit 0)) rEqual_9)
def rEqual_7 : AC := (.seq (.ops [.o 14 (.bin .lss (.t 13) (.t 12))]) rEqual_8)
def rEqual_6 : AC := (.loop rEqual_7)
def rEqual_5 : AC := (.block 0 rEqual_6)
def rEqual_4 : AC := (.seq (.ops [.m 11 (.t 0), .o 12 (.len (.t 11)), .m 13 (.i 0)]) rEqual_5)
def rEqual_3 : AC := (.seq rEqual_4 (.seq (.ops [.m 4 (.b true)]) .ret))
def rEqual_2 : AC := (.seq (.ops [.m 6 (.t 0), .o 7 (.len (.t 6)), .m 8 (.t 1), .o 9 (.len (.t 8)), .o 10 (.bin .neq (.t 7) (.t 9))]) (.cond (.t 10) (.seq (.ops [.m 4 (.b false)]) .ret) .skip))
def rEqual_1 : AC := (.seq rEqual_2 rEqual_3)
def rEqual_ac : AC := (.seq (.ops [.m 4 (.b false)]) rEqual_1)
theorem rEqual_call {args : List AV} {H : List AObj} {R : AV → List AObj → Prop} (h : AWp Try.prog [] H.length rEqual_ac (bodyQ H.length [(.t 4)] R) (args ++ List.replicate (26 - args.length) .und) H) : ACalls Try.prog 15 args H R :=
  ACalls.of_fn Try.func15 rfl (by kernel_rfl) rfl Try.ntmps15 h
theorem rEqual_spec {a b : AV} {xs ys : List Int} (ha : ISl a xs) (hb : ISl b ys) : ACalls Try.prog 15 [a, b] [] fun r H' => H' = [] ∧ r = Bo (decide (xs = ys)) := by
  obtain ⟨⟨nl, c, sz, rfl, hs⟩, hlen, hx⟩ := ha
  obtain ⟨⟨nl', c', sz', rfl, hs'⟩, hlen', hx'⟩ := hb
  apply rEqual_call
  repeat first | refine AWp.seq ?_ | refine AWp.block ?_
  refine AWp.ops ?_
  simp
  repeat first | refine AWp.seq ?_ | refine AWp.block ?_
  refine AWp.ops ?_
  simp
  refine AWp.cond (b := (xs.length : Int) != ys.length) (by simp) ?_ ?_
  · intro h
    repeat first | refine AWp.seq ?_ | refine AWp.block ?_
    refine AWp.ops ?_
    simp
    refine AWp.ret ?_
    simp
    refine retOk.of rfl ⟨rfl, ?_⟩
    have h : ¬ (xs.length : Int) = ys.length := by simpa using h
    have : xs ≠ ys := fun e => h (by rw [e])
    simp [this]
  intro h
  have hl : xs.length = ys.length := by
    have : (xs.length : Int) = ys.length := by simpa using h
    omega
  refine AWp.skip ?_
  simp only [qSeq]
  repeat first | refine AWp.seq ?_ | refine AWp.block ?_
  refine AWp.ops ?_
  simp
  obtain ⟨J, hJ⟩ : ∃ J : Nat → List AV → List AObj → Prop, J = fun i fr H => i ≤ xs.length ∧ (xs.take i = ys.take i) ∧ H = [] ∧
    fr = [AV.imm nl c sz (xs.map I), AV.imm nl' c' sz' (ys.map I), .und, .und, Bo false, .und, .und, .und, .und, .und, .und, .und, I xs.length, I i, .und, .und, .und, .und, .und, .und, .und, .und, .und, .und, .und, .und] := ⟨_, rfl⟩
  refine AWp.block (AWp.loop J (fun i => xs.length - i) 0 (Weak.slots [0, 1, 4, 12, 13]) (by rw [hJ]; exact ⟨by omega, rfl, by simp, by simp⟩) ?_)
  intro i fr H hI
  rw [hJ] at hI
  obtain ⟨hi, hinv, rfl, rfl⟩ := hI
  repeat first | refine AWp.seq ?_ | refine AWp.block ?_
  refine AWp.ops ?_
  simp
  refine AWp.seq (AWp.cond (b := decide (i < xs.length)) (by simp <;> omega) ?_ ?_)
  ·
    intro hb
    have hb : i < xs.length := by simpa using hb
    refine AWp.skip ?_
    simp only [qSeq]
    have hb' : i < ys.length := by omega
    have hsz := sz_of hs hb
    have hsz' := sz_of hs' hb'
    subst hsz hsz'
    refine AWp.seq (AWp.block (AWp.seq (AWp.ops ?_)))
    simp
    repeat first | refine AWp.seq ?_ | refine AWp.block ?_
    refine AWp.ops ?_
    simp [hb, hb']
    refine AWp.cond (b := xs[i] != ys[i]) (by simp) ?_ ?_
    · intro he
      have he : ¬ xs[i] = ys[i] := by simpa using he
      repeat first | refine AWp.seq ?_ | refine AWp.block ?_
      refine AWp.ops ?_
      simp
      refine AWp.ret ?_
      simp
      refine retOk.of rfl ⟨rfl, ?_⟩
      have : xs ≠ ys := by rintro rfl; exact he rfl
      simp [this]
    · intro he
      have he : xs[i] = ys[i] := by simpa using he
      refine AWp.skip ?_
      simp only [qSeq, qBlock]
      refine AWp.ops ?_
      simp
      refine ⟨i + 1, _, _, Weak.slots [0, 1, 4, 12, 13], ?_, by omega⟩
      rw [hJ]
      refine ⟨by omega, ?_, by simp, by simp [wrap_i64 (n := (i : Int) + 1) (by omega) (by omega)]⟩
      rw [List.take_succ_eq_append_getElem hb, List.take_succ_eq_append_getElem hb', hinv, he]
  ·
    intro hb
    have hb : ¬ i < xs.length := by simpa using hb
    refine AWp.exit ?_
    simp [qSeq, qBlock]
    repeat first | refine AWp.seq ?_ | refine AWp.block ?_
    refine AWp.ops ?_
    simp
    refine AWp.ret ?_
    simp
    refine retOk.of rfl ⟨rfl, ?_⟩
    rw [List.take_of_length_le (by omega), List.take_of_length_le (by omega)] at hinv
    simp [hinv]
end Go.Fw
