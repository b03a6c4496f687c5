import Derived.Test.YthipbeffhfdamaaFwstore2
namespace Go.Fw
open Go Go.RowKit Go.Proofs
set_option maxRecDepth 100000
set_option linter.unusedSimpArgs false
set_option linter.unusedVariables false

def blockF : List (Int × Int × Int) → Int → Int
  | [], _ => 0
  | s :: r, mo => if s.2.1 = mo ∧ s.1 = 4 then s.2.2 else blockF r mo

def rBlock_11 : AC := (.cond (.t 21) (.seq (.ops [⟨(some 22), none, (.k (.fad 2 (.t 6)))⟩, ⟨(some 23), none, (.k (.ld 1 false (.t 22)))⟩, ⟨(some 4), none, (.k (.mov (.t 23)))⟩]) .ret) .skip)
def rBlock_10 : AC := (.seq (.ops [⟨(some 13), none, (.k (.fad 1 (.t 6)))⟩, ⟨(some 14), none, (.k (.ld 1 false (.t 13)))⟩, ⟨(some 15), none, (.k (.mov (.t 1)))⟩, ⟨(some 16), none, (.k (.bin .eql (.t 14) (.t 15)))⟩, ⟨(some 17), none, (.k (.mov (.t 16)))⟩, ⟨(some 18), (some (17, true)), (.k (.fad 0 (.t 6)))⟩, ⟨(some 19), (some (17, true)), (.k (.ld 1 false (.t 18)))⟩, ⟨(some 20), (some (17, true)), (.k (.bin .eql (.t 19) (.c (.sc (.int .i64 4)))))⟩, ⟨(some 21), none, (.k (.pick (.t 17) (.t 20) (.c (.sc (.bool false)))))⟩]) rBlock_11)
def rBlock_9 : AC := (.seq (.ops [⟨(some 11), none, (.k (.iad 3 (.t 7) (.t 9)))⟩, ⟨(some 12), none, (.k (.ld 3 true (.t 11)))⟩, ⟨(some 6), none, (.k (.new 43 3 (.c (.agg [(.sc (.int .i64 0)), (.sc (.int .i64 0)), (.sc (.int .i64 0))]))))⟩, ⟨none, none, (.k (.st 3 (.t 6) (.t 12)))⟩]) rBlock_10)
def rBlock_8 : AC := (.block 1 rBlock_9)
def rBlock_7 : AC := (.seq rBlock_8 (.ops [⟨(some 24), none, (.k (.bin .add (.t 9) (.c (.sc (.int .i64 1)))))⟩, ⟨(some 9), none, (.k (.mov (.t 24)))⟩]))
def rBlock_6 : AC := (.seq (.cond (.t 10) .skip (.exit 0)) rBlock_7)
def rBlock_5 : AC := (.seq (.ops [⟨(some 10), none, (.k (.bin .lss (.t 9) (.t 8)))⟩]) rBlock_6)
def rBlock_4 : AC := (.loop rBlock_5)
def rBlock_3 : AC := (.block 0 rBlock_4)
def rBlock_2 : AC := (.seq (.ops [⟨(some 7), none, (.k (.mov (.t 0)))⟩, ⟨(some 8), none, (.k (.len (.t 7)))⟩, ⟨(some 9), none, (.k (.mov (.c (.sc (.int .i64 0)))))⟩]) rBlock_3)
def rBlock_1 : AC := (.seq rBlock_2 (.seq (.ops [⟨(some 4), none, (.k (.mov (.c (.sc (.int .i64 0)))))⟩]) .ret))
def rBlock_ac : AC := (.seq (.ops [⟨(some 4), none, (.k (.mov (.c (.sc (.int .i64 0)))))⟩]) rBlock_1)
theorem rBlock_call {args : List AV} {H : List AObj} {R : AV → List AObj → Prop} (h : AWp Try.prog [] H.length rBlock_ac (bodyQ H.length [(.t 4)] R) (args ++ List.replicate (25 - args.length) .und) H) : ACalls Try.prog 73 args H R :=
  ACalls.of_fn Try.func73 rfl (by kernel_rfl) rfl Try.ntmps73 h

theorem rBlock_spec {b : AV} {fs : List (Int × Int × Int)} {mode : Int} (hb : Sp b fs) (hf : fs.length ≤ 1000) : ACalls Try.prog 73 [b, I mode] [] fun r H' => H' = [] ∧ r = I (blockF fs mode) := by
  obtain ⟨⟨nl', c', sz', rfl, hs'⟩, hlen', hx'⟩ := hb
  have base : ACalls Try.prog 73 [.imm nl' c' sz' (fs.map specV), I mode] [] fun r _ => r = I (blockF fs mode) := by
    apply rBlock_call
    repeat first | refine AWp.seq ?_ | refine AWp.block ?_
    refine AWp.ops ?_
    simp
    repeat first | refine AWp.seq ?_ | refine AWp.block ?_
    refine AWp.ops ?_
    simp
    obtain ⟨J, hJ⟩ : ∃ J : Nat → List AV → List AObj → Prop, J = fun i fr H => i ≤ fs.length ∧ (blockF fs mode = blockF (fs.drop i) mode) ∧ H = [] ∧
      fr = [.und, I mode, .und, .und, I 0, .und, .und, .imm nl' c' sz' (fs.map specV), I fs.length, I i, .und, .und, .und, .und, .und, .und, .und, .und, .und, .und, .und, .und, .und, .und, .und] := ⟨_, rfl⟩
    refine AWp.block (AWp.loop J (fun i => fs.length - i) 0 (Weak.slots [1, 4, 7, 8, 9]) (by rw [hJ]; exact ⟨by omega, rfl, by simp, by simp⟩) ?_)
    intro i fr H hI
    rw [hJ] at hI
    obtain ⟨hi, hinv, rfl, rfl⟩ := hI
    repeat first | refine AWp.seq ?_ | refine AWp.block ?_
    refine AWp.ops ?_
    simp
    refine AWp.seq (AWp.cond (b := decide (i < fs.length)) (by simp <;> omega) ?_ ?_)
    ·
      intro hb
      have hb : i < fs.length := by simpa using hb
      refine AWp.skip ?_
      simp only [qSeq]
      have hsz3 := sz3_of hs' hb
      subst hsz3
      have hgs := spec_get hb
      rw [List.drop_eq_getElem_cons hb] at hinv
      simp only [blockF] at hinv
      generalize fs[i] = sp at hgs hinv
      obtain ⟨k, mo, z⟩ := sp
      simp only at hgs hinv
      repeat first | refine AWp.seq ?_ | refine AWp.block ?_
      refine AWp.ops ?_
      simp [hgs]
      repeat first | refine AWp.seq ?_ | refine AWp.block ?_
      refine AWp.ops ?_
      simp
      by_cases hm : mo = mode
      · subst hm
        by_cases hk : k = 4
        · simp [hk]
          refine AWp.cond (b := true) (by simp) (fun _ => ?_) (fun h => by cases h)
          repeat first | refine AWp.seq ?_ | refine AWp.block ?_
          refine AWp.ops ?_
          simp
          refine AWp.ret ?_
          simp
          refine retOk.of rfl ?_
          rw [hinv, if_pos ⟨rfl, hk⟩]
          simp
        · simp
          refine AWp.cond (b := false) (by simp [hk]) (fun h => by cases h) (fun _ => ?_)
          refine AWp.skip ?_
          simp only [qSeq, qBlock]
          repeat first | refine AWp.seq ?_ | refine AWp.block ?_
          refine AWp.ops ?_
          simp
          refine ⟨i + 1, _, _, (Weak.slots [1, 4, 7, 8, 9]).trans (Weak.freeze 0 2 (by simp)), ?_, by omega⟩
          rw [hJ]
          exact ⟨by omega, by rw [hinv, if_neg (by intro h; exact hk h.2)], by simp [frzH], by simp [wrap_i64 (n := (i : Int) + 1) (by omega) (by omega)]⟩
      · simp [hm]
        refine AWp.cond (b := false) (by simp) (fun h => by cases h) (fun _ => ?_)
        refine AWp.skip ?_
        simp only [qSeq, qBlock]
        repeat first | refine AWp.seq ?_ | refine AWp.block ?_
        refine AWp.ops ?_
        simp
        refine ⟨i + 1, _, _, (Weak.slots [1, 4, 7, 8, 9]).trans (Weak.freeze 0 2 (by simp)), ?_, by omega⟩
        rw [hJ]
        exact ⟨by omega, by rw [hinv, if_neg (by intro h; exact hm h.1)], by simp [frzH], by simp [wrap_i64 (n := (i : Int) + 1) (by omega) (by omega)]⟩
    ·
      intro hb
      have hb : ¬ i < fs.length := by simpa using hb
      refine AWp.exit ?_
      simp [qSeq, qBlock]
      repeat first | refine AWp.seq ?_ | refine AWp.block ?_
      refine AWp.ops ?_
      simp
      refine AWp.ret ?_
      simp
      refine retOk.of rfl ?_
      rw [hinv, List.drop_eq_nil_of_le (by omega)]
      rfl
  refine (base.frozen 1).mono ?_
  rintro q H' ⟨rfl, r, G, rfl, rfl⟩
  exact ⟨rfl, rfl⟩

def isStep (xs : List Int) (s : Int × Int × Int) (P B : List Int) (before : Int) : Option (List Int × List Int) :=
  if s.2.1 < 0 ∨ (xs.length : Int) ≤ s.2.1 ∨ s.1 < 0 ∨ 4 < s.1 then none
  else if (before == 2 || before == 3) ≠ (s.1 == 3) then none
  else if s.1 = 4 then
    if P.getD s.2.1.toNat 0 = 0 ∨ s.2.2 < 1 ∨ (xs.getD s.2.1.toNat 0).tmod s.2.2 ≠ 0 then none else some (P, B.set s.2.1.toNat (B.getD s.2.1.toNat 0 + 1))
  else if s.2.2 ≠ 0 then none else some (P.set s.2.1.toNat (P.getD s.2.1.toNat 0 + 1), B)
def isGo (xs : List Int) : List (Int × Int × Int) → List Int → List Int → Int → Option (List Int × List Int)
  | [], P, B, _ => some (P, B)
  | s :: r, P, B, b => (isStep xs s P B b).bind fun q => isGo xs r q.1 q.2 s.1
def isEnd : List Int → List Int → Bool
  | p :: P, b :: B => decide (p = 1) && !decide (1 < b) && isEnd P B
  | _, _ => true
def isF (xs : List Int) (fs : List (Int × Int × Int)) : Bool :=
  if 2 * xs.length < fs.length then false else
  match isGo xs fs (List.replicate xs.length 0) (List.replicate xs.length 0) 0 with
  | none => false
  | some q => isEnd q.1 q.2
end Go.Fw
