import Derived.Test.YtkfooghdpfhiaaaFwsize2
namespace Go.Fw
open Go Go.RowKit Go.Proofs
set_option maxRecDepth 100000
set_option linter.unusedSimpArgs false
set_option linter.unusedVariables false

def rEqual_12 : AC := (.seq (.ops [⟨(some 16), none, (.k (.mov (.t 0)))⟩, ⟨(some 17), none, (.k (.mov (.t 5)))⟩, ⟨(some 18), none, (.k (.iad 1 (.t 16) (.t 17)))⟩, ⟨(some 19), none, (.k (.ld 1 false (.t 18)))⟩, ⟨(some 20), none, (.k (.mov (.t 1)))⟩, ⟨(some 21), none, (.k (.mov (.t 5)))⟩, ⟨(some 22), none, (.k (.iad 1 (.t 20) (.t 21)))⟩, ⟨(some 23), none, (.k (.ld 1 false (.t 22)))⟩, ⟨(some 24), none, (.k (.bin .neq (.t 19) (.t 23)))⟩]) (.cond (.t 24) (.seq (.ops [⟨(some 4), none, (.k (.mov (.c (.sc (.bool false)))))⟩]) .ret) .skip))
def rEqual_11 : AC := (.seq (.ops [⟨(some 15), none, (.k (.mov (.t 13)))⟩, ⟨(some 5), none, (.k (.mov (.t 15)))⟩]) rEqual_12)
def rEqual_10 : AC := (.block 1 rEqual_11)
def rEqual_9 : AC := (.seq rEqual_10 (.ops [⟨(some 25), none, (.k (.bin .add (.t 13) (.c (.sc (.int .i64 1)))))⟩, ⟨(some 13), none, (.k (.mov (.t 25)))⟩]))
def rEqual_8 : AC := (.seq (.cond (.t 14) .skip (.exit 0)) rEqual_9)
def rEqual_7 : AC := (.seq (.ops [⟨(some 14), none, (.k (.bin .lss (.t 13) (.t 12)))⟩]) rEqual_8)
def rEqual_6 : AC := (.loop rEqual_7)
def rEqual_5 : AC := (.block 0 rEqual_6)
def rEqual_4 : AC := (.seq (.ops [⟨(some 11), none, (.k (.mov (.t 0)))⟩, ⟨(some 12), none, (.k (.len (.t 11)))⟩, ⟨(some 13), none, (.k (.mov (.c (.sc (.int .i64 0)))))⟩]) rEqual_5)
def rEqual_3 : AC := (.seq rEqual_4 (.seq (.ops [⟨(some 4), none, (.k (.mov (.c (.sc (.bool true)))))⟩]) .ret))
def rEqual_2 : AC := (.seq (.ops [⟨(some 6), none, (.k (.mov (.t 0)))⟩, ⟨(some 7), none, (.k (.len (.t 6)))⟩, ⟨(some 8), none, (.k (.mov (.t 1)))⟩, ⟨(some 9), none, (.k (.len (.t 8)))⟩, ⟨(some 10), none, (.k (.bin .neq (.t 7) (.t 9)))⟩]) (.cond (.t 10) (.seq (.ops [⟨(some 4), none, (.k (.mov (.c (.sc (.bool false)))))⟩]) .ret) .skip))
def rEqual_1 : AC := (.seq rEqual_2 rEqual_3)
def rEqual_ac : AC := (.seq (.ops [⟨(some 4), none, (.k (.mov (.c (.sc (.bool false)))))⟩]) rEqual_1)
theorem rEqual_call {args : List AV} {H : List AObj} {R : AV → List AObj → Prop} (h : AWp Try.prog [] H.length rEqual_ac (bodyQ H.length [(.t 4)] R) (args ++ List.replicate (26 - args.length) .und) H) : ACalls Try.prog 27 args H R :=
  ACalls.of_fn Try.func27 rfl (by kernel_rfl) rfl Try.ntmps27 h

theorem rEqual_spec {a b : AV} {xs ys : List Int} (ha : ISl a xs) (hb : ISl b ys) : ACalls Try.prog 27 [a, b] [] fun r H' => H' = [] ∧ r = Bo (decide (xs = ys)) := by
  obtain ⟨⟨nl, c, sz, rfl, hs⟩, hlen, hx⟩ := ha
  obtain ⟨⟨nl', c', sz', rfl, hs'⟩, hlen', hx'⟩ := hb
  apply rEqual_call
  first | refine AWp.seq (AWp.ops ?_) | refine AWp.seq (AWp.seq (AWp.ops ?_)) | refine AWp.ops ?_ | refine AWp.seq (AWp.block (AWp.seq (AWp.ops ?_))) | refine AWp.seq (AWp.seq (AWp.seq (AWp.ops ?_))) | refine AWp.block (AWp.seq (AWp.ops ?_)) | refine AWp.block (AWp.seq (AWp.seq (AWp.ops ?_))) | refine AWp.seq (AWp.block (AWp.seq (AWp.seq (AWp.ops ?_))))
  simp
  first | refine AWp.seq (AWp.ops ?_) | refine AWp.seq (AWp.seq (AWp.ops ?_)) | refine AWp.ops ?_ | refine AWp.seq (AWp.block (AWp.seq (AWp.ops ?_))) | refine AWp.seq (AWp.seq (AWp.seq (AWp.ops ?_))) | refine AWp.block (AWp.seq (AWp.ops ?_)) | refine AWp.block (AWp.seq (AWp.seq (AWp.ops ?_))) | refine AWp.seq (AWp.block (AWp.seq (AWp.seq (AWp.ops ?_))))
  simp
  refine AWp.cond (b := (xs.length : Int) != ys.length) (by simp) ?_ ?_
  · intro h
    first | refine AWp.seq (AWp.ops ?_) | refine AWp.seq (AWp.seq (AWp.ops ?_)) | refine AWp.ops ?_ | refine AWp.seq (AWp.block (AWp.seq (AWp.ops ?_))) | refine AWp.seq (AWp.seq (AWp.seq (AWp.ops ?_))) | refine AWp.block (AWp.seq (AWp.ops ?_)) | refine AWp.block (AWp.seq (AWp.seq (AWp.ops ?_))) | refine AWp.seq (AWp.block (AWp.seq (AWp.seq (AWp.ops ?_))))
    simp
    refine AWp.ret ?_
    simp
    refine retOk.of rfl ⟨rfl, ?_⟩
    have h : ¬ (xs.length : Int) = ys.length := by simpa using h
    have : xs ≠ ys := fun e => h (by rw [e])
    simp [this]
  intro h
  have hl : xs.length = ys.length := by
    have : (xs.length : Int) = ys.length := by simpa using h
    omega
  refine AWp.skip ?_
  simp only [qSeq]
  first | refine AWp.seq (AWp.ops ?_) | refine AWp.seq (AWp.seq (AWp.ops ?_)) | refine AWp.ops ?_ | refine AWp.seq (AWp.block (AWp.seq (AWp.ops ?_))) | refine AWp.seq (AWp.seq (AWp.seq (AWp.ops ?_))) | refine AWp.block (AWp.seq (AWp.ops ?_)) | refine AWp.block (AWp.seq (AWp.seq (AWp.ops ?_))) | refine AWp.seq (AWp.block (AWp.seq (AWp.seq (AWp.ops ?_))))
  simp
  obtain ⟨J, hJ⟩ : ∃ J : Nat → List AV → List AObj → Prop, J = fun i fr H => i ≤ xs.length ∧ (xs.take i = ys.take i) ∧ H = [] ∧
    fr = [AV.imm nl c sz (xs.map I), AV.imm nl' c' sz' (ys.map I), .und, .und, Bo false, .und, .und, .und, .und, .und, .und, .und, I xs.length, I i, .und, .und, .und, .und, .und, .und, .und, .und, .und, .und, .und, .und] := ⟨_, rfl⟩
  refine AWp.block (AWp.loop J (fun i => xs.length - i) 0 (Weak.slots [0, 1, 4, 12, 13]) (by rw [hJ]; exact ⟨by omega, rfl, by simp, by simp⟩) ?_)
  intro i fr H hI
  rw [hJ] at hI
  obtain ⟨hi, hinv, rfl, rfl⟩ := hI
  first | refine AWp.seq (AWp.ops ?_) | refine AWp.seq (AWp.seq (AWp.ops ?_)) | refine AWp.ops ?_ | refine AWp.seq (AWp.block (AWp.seq (AWp.ops ?_))) | refine AWp.seq (AWp.seq (AWp.seq (AWp.ops ?_))) | refine AWp.block (AWp.seq (AWp.ops ?_)) | refine AWp.block (AWp.seq (AWp.seq (AWp.ops ?_))) | refine AWp.seq (AWp.block (AWp.seq (AWp.seq (AWp.ops ?_))))
  simp
  refine AWp.seq (AWp.cond (b := decide (i < xs.length)) (by simp <;> omega) ?_ ?_)
  ·
    intro hb
    have hb : i < xs.length := by simpa using hb
    refine AWp.skip ?_
    simp only [qSeq]
    have hb' : i < ys.length := by omega
    have hsz := sz_of hs hb
    have hsz' := sz_of hs' hb'
    subst hsz hsz'
    refine AWp.seq (AWp.block (AWp.seq (AWp.ops ?_)))
    simp
    first | refine AWp.seq (AWp.ops ?_) | refine AWp.seq (AWp.seq (AWp.ops ?_)) | refine AWp.ops ?_ | refine AWp.seq (AWp.block (AWp.seq (AWp.ops ?_))) | refine AWp.seq (AWp.seq (AWp.seq (AWp.ops ?_))) | refine AWp.block (AWp.seq (AWp.ops ?_)) | refine AWp.block (AWp.seq (AWp.seq (AWp.ops ?_))) | refine AWp.seq (AWp.block (AWp.seq (AWp.seq (AWp.ops ?_))))
    simp [hb, hb']
    refine AWp.cond (b := xs[i] != ys[i]) (by simp) ?_ ?_
    · intro he
      have he : ¬ xs[i] = ys[i] := by simpa using he
      first | refine AWp.seq (AWp.ops ?_) | refine AWp.seq (AWp.seq (AWp.ops ?_)) | refine AWp.ops ?_ | refine AWp.seq (AWp.block (AWp.seq (AWp.ops ?_))) | refine AWp.seq (AWp.seq (AWp.seq (AWp.ops ?_))) | refine AWp.block (AWp.seq (AWp.ops ?_)) | refine AWp.block (AWp.seq (AWp.seq (AWp.ops ?_))) | refine AWp.seq (AWp.block (AWp.seq (AWp.seq (AWp.ops ?_))))
      simp
      refine AWp.ret ?_
      simp
      refine retOk.of rfl ⟨rfl, ?_⟩
      have : xs ≠ ys := by rintro rfl; exact he rfl
      simp [this]
    · intro he
      have he : xs[i] = ys[i] := by simpa using he
      refine AWp.skip ?_
      simp only [qSeq, qBlock]
      refine AWp.ops ?_
      simp
      refine ⟨i + 1, _, _, Weak.slots [0, 1, 4, 12, 13], ?_, by omega⟩
      rw [hJ]
      refine ⟨by omega, ?_, by simp, by simp [wrap_i64 (n := (i : Int) + 1) (by omega) (by omega)]⟩
      rw [List.take_succ_eq_append_getElem hb, List.take_succ_eq_append_getElem hb', hinv, he]
  ·
    intro hb
    have hb : ¬ i < xs.length := by simpa using hb
    refine AWp.exit ?_
    simp [qSeq, qBlock]
    first | refine AWp.seq (AWp.ops ?_) | refine AWp.seq (AWp.seq (AWp.ops ?_)) | refine AWp.ops ?_ | refine AWp.seq (AWp.block (AWp.seq (AWp.ops ?_))) | refine AWp.seq (AWp.seq (AWp.seq (AWp.ops ?_))) | refine AWp.block (AWp.seq (AWp.ops ?_)) | refine AWp.block (AWp.seq (AWp.seq (AWp.ops ?_))) | refine AWp.seq (AWp.block (AWp.seq (AWp.seq (AWp.ops ?_))))
    simp
    refine AWp.ret ?_
    simp
    refine retOk.of rfl ⟨rfl, ?_⟩
    rw [List.take_of_length_le (by omega), List.take_of_length_le (by omega)] at hinv
    simp [hinv]


def withGo : List Int → List Int → Bool
  | x :: a, y :: b => decide (x ≤ y) && withGo a b
  | _, _ => true
def withF (a b : List Int) : Bool := decide (a.length = b.length) && withGo a b

def Within1_1 : AC := (.seq (.ops [⟨(some 5), none, (.k (.mov (.t 0)))⟩, ⟨(some 6), none, (.k (.mov (.t 1)))⟩, ⟨(some 7), none, (.k (.bin .leq (.t 5) (.t 6)))⟩, ⟨(some 4), none, (.k (.mov (.t 7)))⟩]) .ret)
def Within1_ac : AC := (.seq (.ops [⟨(some 4), none, (.k (.mov (.c (.sc (.bool false)))))⟩]) Within1_1)
theorem Within1_call {args : List AV} {H : List AObj} {R : AV → List AObj → Prop} (h : AWp Try.prog [] H.length Within1_ac (bodyQ H.length [(.t 4)] R) (args ++ List.replicate (8 - args.length) .und) H) : ACalls Try.prog 71 args H R :=
  ACalls.of_fn Try.func71 rfl (by kernel_rfl) rfl Try.ntmps71 h

theorem Within1_spec (x y : Int) : ACalls Try.prog 71 [I x, I y] [] fun r H' => H' = [] ∧ r = Bo (decide (x ≤ y)) := by
  apply Within1_call
  first | refine AWp.seq (AWp.ops ?_) | refine AWp.seq (AWp.seq (AWp.ops ?_)) | refine AWp.ops ?_ | refine AWp.seq (AWp.block (AWp.seq (AWp.ops ?_))) | refine AWp.seq (AWp.seq (AWp.seq (AWp.ops ?_))) | refine AWp.block (AWp.seq (AWp.ops ?_)) | refine AWp.block (AWp.seq (AWp.seq (AWp.ops ?_))) | refine AWp.seq (AWp.block (AWp.seq (AWp.seq (AWp.ops ?_))))
  simp
  first | refine AWp.seq (AWp.ops ?_) | refine AWp.seq (AWp.seq (AWp.ops ?_)) | refine AWp.ops ?_ | refine AWp.seq (AWp.block (AWp.seq (AWp.ops ?_))) | refine AWp.seq (AWp.seq (AWp.seq (AWp.ops ?_))) | refine AWp.block (AWp.seq (AWp.ops ?_)) | refine AWp.block (AWp.seq (AWp.seq (AWp.ops ?_))) | refine AWp.seq (AWp.block (AWp.seq (AWp.seq (AWp.ops ?_))))
  simp
  refine AWp.ret ?_
  simp
  refine retOk.of rfl ⟨rfl, by simp⟩

def EqFunc_13 : AC := (.seq (.ops [⟨(some 26), none, (.k (.mov (.t 2)))⟩, ⟨(some 27), none, (.k (.mov (.t 8)))⟩, ⟨(some 28), none, (.k (.mov (.t 9)))⟩, ⟨(some 29), none, (.call false (.t 26) [(.t 27), (.t 28)])⟩, ⟨(some 30), none, (.k (.un .not (.t 29)))⟩]) (.cond (.t 30) (.seq (.ops [⟨(some 6), none, (.k (.mov (.c (.sc (.bool false)))))⟩]) .ret) .skip))
def EqFunc_12 : AC := (.seq (.ops [⟨(some 22), none, (.k (.mov (.t 1)))⟩, ⟨(some 23), none, (.k (.mov (.t 7)))⟩, ⟨(some 24), none, (.k (.iad 1 (.t 22) (.t 23)))⟩, ⟨(some 25), none, (.k (.ld 1 false (.t 24)))⟩, ⟨(some 9), none, (.k (.mov (.t 25)))⟩]) EqFunc_13)
def EqFunc_11 : AC := (.seq (.ops [⟨(some 19), none, (.k (.mov (.t 17)))⟩, ⟨(some 20), none, (.k (.iad 1 (.t 15) (.t 17)))⟩, ⟨(some 21), none, (.k (.ld 1 false (.t 20)))⟩, ⟨(some 7), none, (.k (.mov (.t 19)))⟩, ⟨(some 8), none, (.k (.mov (.t 21)))⟩]) EqFunc_12)
def EqFunc_10 : AC := (.block 1 EqFunc_11)
def EqFunc_9 : AC := (.seq EqFunc_10 (.ops [⟨(some 31), none, (.k (.bin .add (.t 17) (.c (.sc (.int .i64 1)))))⟩, ⟨(some 17), none, (.k (.mov (.t 31)))⟩]))
def EqFunc_8 : AC := (.seq (.cond (.t 18) .skip (.exit 0)) EqFunc_9)
def EqFunc_7 : AC := (.seq (.ops [⟨(some 18), none, (.k (.bin .lss (.t 17) (.t 16)))⟩]) EqFunc_8)
def EqFunc_6 : AC := (.loop EqFunc_7)
def EqFunc_5 : AC := (.block 0 EqFunc_6)
def EqFunc_4 : AC := (.seq (.ops [⟨(some 15), none, (.k (.mov (.t 0)))⟩, ⟨(some 16), none, (.k (.len (.t 15)))⟩, ⟨(some 17), none, (.k (.mov (.c (.sc (.int .i64 0)))))⟩]) EqFunc_5)
def EqFunc_3 : AC := (.seq EqFunc_4 (.seq (.ops [⟨(some 6), none, (.k (.mov (.c (.sc (.bool true)))))⟩]) .ret))
def EqFunc_2 : AC := (.seq (.ops [⟨(some 10), none, (.k (.mov (.t 0)))⟩, ⟨(some 11), none, (.k (.len (.t 10)))⟩, ⟨(some 12), none, (.k (.mov (.t 1)))⟩, ⟨(some 13), none, (.k (.len (.t 12)))⟩, ⟨(some 14), none, (.k (.bin .neq (.t 11) (.t 13)))⟩]) (.cond (.t 14) (.seq (.ops [⟨(some 6), none, (.k (.mov (.c (.sc (.bool false)))))⟩]) .ret) .skip))
def EqFunc_1 : AC := (.seq EqFunc_2 EqFunc_3)
def EqFunc_ac : AC := (.seq (.ops [⟨(some 6), none, (.k (.mov (.c (.sc (.bool false)))))⟩]) EqFunc_1)
theorem EqFunc_call {args : List AV} {H : List AObj} {R : AV → List AObj → Prop} (h : AWp Try.prog [] H.length EqFunc_ac (bodyQ H.length [(.t 6)] R) (args ++ List.replicate (32 - args.length) .und) H) : ACalls Try.prog 70 args H R :=
  ACalls.of_fn Try.func70 rfl (by kernel_rfl) rfl Try.ntmps70 h

theorem EqFunc_spec {a b : AV} {xs ys : List Int} (ha : ISl a xs) (hb : ISl b ys) : ACalls Try.prog 70 [a, b, .fn (.func 71) [] []] [] fun r H' => H' = [] ∧ r = Bo (withF xs ys) := by
  obtain ⟨⟨nl, c, sz, rfl, hs⟩, hlen, hx⟩ := ha
  obtain ⟨⟨nl', c', sz', rfl, hs'⟩, hlen', hx'⟩ := hb
  apply EqFunc_call
  first | refine AWp.seq (AWp.ops ?_) | refine AWp.seq (AWp.seq (AWp.ops ?_)) | refine AWp.ops ?_ | refine AWp.seq (AWp.block (AWp.seq (AWp.ops ?_))) | refine AWp.seq (AWp.seq (AWp.seq (AWp.ops ?_))) | refine AWp.block (AWp.seq (AWp.ops ?_)) | refine AWp.block (AWp.seq (AWp.seq (AWp.ops ?_))) | refine AWp.seq (AWp.block (AWp.seq (AWp.seq (AWp.ops ?_))))
  simp
  first | refine AWp.seq (AWp.ops ?_) | refine AWp.seq (AWp.seq (AWp.ops ?_)) | refine AWp.ops ?_ | refine AWp.seq (AWp.block (AWp.seq (AWp.ops ?_))) | refine AWp.seq (AWp.seq (AWp.seq (AWp.ops ?_))) | refine AWp.block (AWp.seq (AWp.ops ?_)) | refine AWp.block (AWp.seq (AWp.seq (AWp.ops ?_))) | refine AWp.seq (AWp.block (AWp.seq (AWp.seq (AWp.ops ?_))))
  simp
  refine AWp.cond (b := (xs.length : Int) != ys.length) (by simp) ?_ ?_
  · intro h
    first | refine AWp.seq (AWp.ops ?_) | refine AWp.seq (AWp.seq (AWp.ops ?_)) | refine AWp.ops ?_ | refine AWp.seq (AWp.block (AWp.seq (AWp.ops ?_))) | refine AWp.seq (AWp.seq (AWp.seq (AWp.ops ?_))) | refine AWp.block (AWp.seq (AWp.ops ?_)) | refine AWp.block (AWp.seq (AWp.seq (AWp.ops ?_))) | refine AWp.seq (AWp.block (AWp.seq (AWp.seq (AWp.ops ?_))))
    simp
    refine AWp.ret ?_
    simp
    refine retOk.of rfl ⟨rfl, ?_⟩
    have h : ¬ (xs.length : Int) = ys.length := by simpa using h
    have : ¬ xs.length = ys.length := by omega
    simp [withF, this]
  intro h
  have hl : xs.length = ys.length := by
    have : (xs.length : Int) = ys.length := by simpa using h
    omega
  refine AWp.skip ?_
  simp only [qSeq]
  first | refine AWp.seq (AWp.ops ?_) | refine AWp.seq (AWp.seq (AWp.ops ?_)) | refine AWp.ops ?_ | refine AWp.seq (AWp.block (AWp.seq (AWp.ops ?_))) | refine AWp.seq (AWp.seq (AWp.seq (AWp.ops ?_))) | refine AWp.block (AWp.seq (AWp.ops ?_)) | refine AWp.block (AWp.seq (AWp.seq (AWp.ops ?_))) | refine AWp.seq (AWp.block (AWp.seq (AWp.seq (AWp.ops ?_))))
  simp
  obtain ⟨J, hJ⟩ : ∃ J : Nat → List AV → List AObj → Prop, J = fun i fr H => i ≤ xs.length ∧ (withGo xs ys = withGo (xs.drop i) (ys.drop i)) ∧ H = [] ∧
    fr = [.imm nl c sz (xs.map I), .imm nl' c' sz' (ys.map I), .fn (.func 71) [] [], .und, .und, .und, .und, .und, .und, .und, .und, .und, .und, .und, .und, .imm nl c sz (xs.map I), I xs.length, I i, .und, .und, .und, .und, .und, .und, .und, .und, .und, .und, .und, .und, .und, .und] := ⟨_, rfl⟩
  refine AWp.block (AWp.loop J (fun i => xs.length - i) 0 (Weak.slots [0, 1, 2, 15, 16, 17]) (by rw [hJ]; exact ⟨by omega, rfl, by simp, by simp⟩) ?_)
  intro i fr H hI
  rw [hJ] at hI
  obtain ⟨hi, hinv, rfl, rfl⟩ := hI
  first | refine AWp.seq (AWp.ops ?_) | refine AWp.seq (AWp.seq (AWp.ops ?_)) | refine AWp.ops ?_ | refine AWp.seq (AWp.block (AWp.seq (AWp.ops ?_))) | refine AWp.seq (AWp.seq (AWp.seq (AWp.ops ?_))) | refine AWp.block (AWp.seq (AWp.ops ?_)) | refine AWp.block (AWp.seq (AWp.seq (AWp.ops ?_))) | refine AWp.seq (AWp.block (AWp.seq (AWp.seq (AWp.ops ?_))))
  simp
  refine AWp.seq (AWp.cond (b := decide (i < xs.length)) (by simp <;> omega) ?_ ?_)
  ·
    intro hb
    have hb : i < xs.length := by simpa using hb
    refine AWp.skip ?_
    simp only [qSeq]
    have hb' : i < ys.length := by omega
    have hsz := sz_of hs hb
    have hsz' := sz_of hs' hb'
    subst hsz hsz'
    rw [List.drop_eq_getElem_cons hb, List.drop_eq_getElem_cons hb'] at hinv
    simp only [withGo] at hinv
    first | refine AWp.seq (AWp.ops ?_) | refine AWp.seq (AWp.seq (AWp.ops ?_)) | refine AWp.ops ?_ | refine AWp.seq (AWp.block (AWp.seq (AWp.ops ?_))) | refine AWp.seq (AWp.seq (AWp.seq (AWp.ops ?_))) | refine AWp.block (AWp.seq (AWp.ops ?_)) | refine AWp.block (AWp.seq (AWp.seq (AWp.ops ?_))) | refine AWp.seq (AWp.block (AWp.seq (AWp.seq (AWp.ops ?_))))
    simp [hb]
    first | refine AWp.seq (AWp.ops ?_) | refine AWp.seq (AWp.seq (AWp.ops ?_)) | refine AWp.ops ?_ | refine AWp.seq (AWp.block (AWp.seq (AWp.ops ?_))) | refine AWp.seq (AWp.seq (AWp.seq (AWp.ops ?_))) | refine AWp.block (AWp.seq (AWp.ops ?_)) | refine AWp.block (AWp.seq (AWp.seq (AWp.ops ?_))) | refine AWp.seq (AWp.block (AWp.seq (AWp.seq (AWp.ops ?_))))
    simp [hb']
    first | refine AWp.seq (AWp.ops ?_) | refine AWp.seq (AWp.seq (AWp.ops ?_)) | refine AWp.ops ?_ | refine AWp.seq (AWp.block (AWp.seq (AWp.ops ?_))) | refine AWp.seq (AWp.seq (AWp.seq (AWp.ops ?_))) | refine AWp.block (AWp.seq (AWp.ops ?_)) | refine AWp.block (AWp.seq (AWp.seq (AWp.ops ?_))) | refine AWp.seq (AWp.block (AWp.seq (AWp.seq (AWp.ops ?_))))
    simp
    refine (Within1_spec xs[i] ys[i]).mono ?_
    rintro r H' ⟨rfl, rfl⟩
    by_cases hp : xs[i] ≤ ys[i]
    · simp [hp]
      refine AWp.cond (b := false) (by simp) (fun h => by cases h) (fun _ => ?_)
      refine AWp.skip ?_
      simp only [qSeq, qBlock]
      first | refine AWp.seq (AWp.ops ?_) | refine AWp.seq (AWp.seq (AWp.ops ?_)) | refine AWp.ops ?_ | refine AWp.seq (AWp.block (AWp.seq (AWp.ops ?_))) | refine AWp.seq (AWp.seq (AWp.seq (AWp.ops ?_))) | refine AWp.block (AWp.seq (AWp.ops ?_)) | refine AWp.block (AWp.seq (AWp.seq (AWp.ops ?_))) | refine AWp.seq (AWp.block (AWp.seq (AWp.seq (AWp.ops ?_))))
      simp
      refine ⟨i + 1, _, _, Weak.slots [0, 1, 2, 15, 16, 17], ?_, by omega⟩
      rw [hJ]
      refine ⟨by omega, ?_, by simp, by simp [wrap_i64 (n := (i : Int) + 1) (by omega) (by omega)]⟩
      rw [hinv]; simp [hp]
    · simp [hp]
      refine AWp.cond (b := true) (by simp) (fun _ => ?_) (fun h => by cases h)
      first | refine AWp.seq (AWp.ops ?_) | refine AWp.seq (AWp.seq (AWp.ops ?_)) | refine AWp.ops ?_ | refine AWp.seq (AWp.block (AWp.seq (AWp.ops ?_))) | refine AWp.seq (AWp.seq (AWp.seq (AWp.ops ?_))) | refine AWp.block (AWp.seq (AWp.ops ?_)) | refine AWp.block (AWp.seq (AWp.seq (AWp.ops ?_))) | refine AWp.seq (AWp.block (AWp.seq (AWp.seq (AWp.ops ?_))))
      simp
      refine AWp.ret ?_
      simp
      refine retOk.of rfl ⟨rfl, ?_⟩
      simp [withF, hinv, hp]
  ·
    intro hb
    have hb : ¬ i < xs.length := by simpa using hb
    refine AWp.exit ?_
    simp [qSeq, qBlock]
    rw [List.drop_eq_nil_of_le (by omega)] at hinv
    first | refine AWp.seq (AWp.ops ?_) | refine AWp.seq (AWp.seq (AWp.ops ?_)) | refine AWp.ops ?_ | refine AWp.seq (AWp.block (AWp.seq (AWp.ops ?_))) | refine AWp.seq (AWp.seq (AWp.seq (AWp.ops ?_))) | refine AWp.block (AWp.seq (AWp.ops ?_)) | refine AWp.block (AWp.seq (AWp.seq (AWp.ops ?_))) | refine AWp.seq (AWp.block (AWp.seq (AWp.seq (AWp.ops ?_))))
    simp
    refine AWp.ret ?_
    simp
    refine retOk.of rfl ⟨rfl, ?_⟩
    simp [withF, hl, hinv, withGo]

def Within_1 : AC := (.seq (.ops [⟨(some 5), none, (.k (.mov (.t 0)))⟩, ⟨(some 6), none, (.k (.mov (.t 1)))⟩, ⟨(some 7), none, (.call false (.c (.fn (.func 70) [] [])) [(.t 5), (.t 6), (.c (.fn (.func 71) [] []))])⟩, ⟨(some 4), none, (.k (.mov (.t 7)))⟩]) .ret)
def Within_ac : AC := (.seq (.ops [⟨(some 4), none, (.k (.mov (.c (.sc (.bool false)))))⟩]) Within_1)
theorem Within_call {args : List AV} {H : List AObj} {R : AV → List AObj → Prop} (h : AWp Try.prog [] H.length Within_ac (bodyQ H.length [(.t 4)] R) (args ++ List.replicate (8 - args.length) .und) H) : ACalls Try.prog 36 args H R :=
  ACalls.of_fn Try.func36 rfl (by kernel_rfl) rfl Try.ntmps36 h

theorem Within_spec {a b : AV} {xs ys : List Int} (ha : ISl a xs) (hb : ISl b ys) : ACalls Try.prog 36 [a, b] [] fun r H' => H' = [] ∧ r = Bo (withF xs ys) := by
  have ha' := ha
  have hb' := hb
  obtain ⟨⟨nl, c, sz, rfl, hs⟩, hlen, hx⟩ := ha
  obtain ⟨⟨nl', c', sz', rfl, hs'⟩, hlen', hx'⟩ := hb
  apply Within_call
  first | refine AWp.seq (AWp.ops ?_) | refine AWp.seq (AWp.seq (AWp.ops ?_)) | refine AWp.ops ?_ | refine AWp.seq (AWp.block (AWp.seq (AWp.ops ?_))) | refine AWp.seq (AWp.seq (AWp.seq (AWp.ops ?_))) | refine AWp.block (AWp.seq (AWp.ops ?_)) | refine AWp.block (AWp.seq (AWp.seq (AWp.ops ?_))) | refine AWp.seq (AWp.block (AWp.seq (AWp.seq (AWp.ops ?_))))
  simp
  first | refine AWp.seq (AWp.ops ?_) | refine AWp.seq (AWp.seq (AWp.ops ?_)) | refine AWp.ops ?_ | refine AWp.seq (AWp.block (AWp.seq (AWp.ops ?_))) | refine AWp.seq (AWp.seq (AWp.seq (AWp.ops ?_))) | refine AWp.block (AWp.seq (AWp.ops ?_)) | refine AWp.block (AWp.seq (AWp.seq (AWp.ops ?_))) | refine AWp.seq (AWp.block (AWp.seq (AWp.seq (AWp.ops ?_))))
  simp
  refine (EqFunc_spec ha' hb').mono ?_
  rintro r H' ⟨rfl, rfl⟩
  simp
  refine AWp.ret ?_
  simp
  refine retOk.of rfl ⟨rfl, rfl⟩

theorem isl_of {xs : List Int} (c : Option Nat) (h1 : xs.length ≤ 9223372036854775807) (h2 : ∀ x ∈ xs, -9223372036854775808 ≤ x ∧ x ≤ 9223372036854775807) : ISl (.imm false c 1 (xs.map I)) xs :=
  ⟨⟨false, c, 1, rfl, by simp, by simp⟩, h1, h2⟩

def live20_2 : AC := (.seq (.ops [⟨(some 11), none, (.k (.mov (.t 2)))⟩, ⟨(some 12), none, (.k (.bin .eql (.t 11) (.c (.sc (.int .i64 0)))))⟩, ⟨(some 13), none, (.k (.mov (.t 12)))⟩, ⟨(some 14), (some (13, true)), (.k (.mov (.t 1)))⟩, ⟨(some 15), (some (13, true)), (.k (.lit 1 [(.c (.sc (.int .i64 3))), (.c (.sc (.int .i64 12)))]))⟩, ⟨(some 16), (some (13, true)), (.call false (.c (.fn (.func 27) [] [])) [(.t 14), (.t 15)])⟩, ⟨(some 17), none, (.k (.pick (.t 13) (.t 16) (.c (.sc (.bool false)))))⟩, ⟨(some 18), none, (.k (.mov (.t 17)))⟩, ⟨(some 19), (some (18, true)), (.k (.lit 1 [(.c (.sc (.int .i64 3))), (.c (.sc (.int .i64 5)))]))⟩, ⟨(some 20), (some (18, true)), (.k (.mov (.t 1)))⟩, ⟨(some 21), (some (18, true)), (.call false (.c (.fn (.func 36) [] [])) [(.t 19), (.t 20)])⟩, ⟨(some 22), none, (.k (.pick (.t 18) (.t 21) (.c (.sc (.bool false)))))⟩, ⟨(some 23), none, (.k (.mov (.t 22)))⟩, ⟨(some 24), (some (23, true)), (.k (.lit 1 [(.c (.sc (.int .i64 3))), (.c (.sc (.int .i64 13)))]))⟩, ⟨(some 25), (some (23, true)), (.k (.mov (.t 1)))⟩, ⟨(some 26), (some (23, true)), (.call false (.c (.fn (.func 36) [] [])) [(.t 24), (.t 25)])⟩, ⟨(some 27), (some (23, true)), (.k (.un .not (.t 26)))⟩, ⟨(some 28), none, (.k (.pick (.t 23) (.t 27) (.c (.sc (.bool false)))))⟩, ⟨(some 0), none, (.k (.mov (.t 28)))⟩]) .ret)
def live20_1 : AC := (.seq (.ops [⟨(some 4), none, (.k (.lit 1 [(.c (.sc (.int .i64 3))), (.c (.sc (.int .i64 4)))]))⟩, ⟨(some 5), none, (.k (.mk [(.sc (.int .i64 0)), (.sc (.int .i64 0)), (.sc (.int .i64 0))] [(0, (1, (.c (.sc (.int .i64 0)))))]))⟩, ⟨(some 6), none, (.k (.mk [(.sc (.int .i64 0)), (.sc (.int .i64 0)), (.sc (.int .i64 0))] [(0, (1, (.c (.sc (.int .i64 1))))), (1, (1, (.c (.sc (.int .i64 1)))))]))⟩, ⟨(some 7), none, (.k (.lit 3 [(.t 5), (.t 6)]))⟩, ⟨(some 8), none, (.call false (.c (.fn (.func 12) [] [])) [(.t 4), (.t 7)])⟩, ⟨(some 3), none, (.k (.mov (.t 8)))⟩, ⟨(some 9), none, (.k (.ext (.t 3) 0))⟩, ⟨(some 10), none, (.k (.ext (.t 3) 1))⟩, ⟨(some 1), none, (.k (.mov (.t 9)))⟩, ⟨(some 2), none, (.k (.mov (.t 10)))⟩]) live20_2)
def live20_ac : AC := (.seq (.ops [⟨(some 0), none, (.k (.mov (.c (.sc (.bool false)))))⟩]) live20_1)
theorem live20_call {args : List AV} {H : List AObj} {R : AV → List AObj → Prop} (h : AWp Try.prog [] H.length live20_ac (bodyQ H.length [(.t 0)] R) (args ++ List.replicate (29 - args.length) .und) H) : ACalls Try.prog 11 args H R :=
  ACalls.of_fn Try.func11 rfl (by kernel_rfl) rfl Try.ntmps11 h

theorem live20_spec : ACalls Try.prog 11 [] [] fun r G => G = [] ∧ r = Bo true := by
  apply live20_call
  first | refine AWp.seq (AWp.ops ?_) | refine AWp.seq (AWp.seq (AWp.ops ?_)) | refine AWp.ops ?_ | refine AWp.seq (AWp.block (AWp.seq (AWp.ops ?_))) | refine AWp.seq (AWp.seq (AWp.seq (AWp.ops ?_))) | refine AWp.block (AWp.seq (AWp.ops ?_)) | refine AWp.block (AWp.seq (AWp.seq (AWp.ops ?_))) | refine AWp.seq (AWp.block (AWp.seq (AWp.seq (AWp.ops ?_))))
  simp
  first | refine AWp.seq (AWp.ops ?_) | refine AWp.seq (AWp.seq (AWp.ops ?_)) | refine AWp.ops ?_ | refine AWp.seq (AWp.block (AWp.seq (AWp.ops ?_))) | refine AWp.seq (AWp.seq (AWp.seq (AWp.ops ?_))) | refine AWp.block (AWp.seq (AWp.ops ?_)) | refine AWp.block (AWp.seq (AWp.seq (AWp.ops ?_))) | refine AWp.seq (AWp.block (AWp.seq (AWp.seq (AWp.ops ?_))))
  simp
  have a1 : ISl (.imm false (some 2) 1 [I 3, I 4]) [3, 4] := isl_of (xs := [3, 4]) _ (by simp) (by simp)
  have a2 : ISl (.imm false (some 2) 1 [I 3, I 12]) [3, 12] := isl_of (xs := [3, 12]) _ (by simp) (by simp)
  have a3 : ISl (.imm false (some 2) 1 [I 3, I 5]) [3, 5] := isl_of (xs := [3, 5]) _ (by simp) (by simp)
  have a4 : ISl (.imm false (some 2) 1 [I 3, I 13]) [3, 13] := isl_of (xs := [3, 13]) _ (by simp) (by simp)
  have b1 : Sp (.imm false (some 2) 3 [.agg [I 0, I 0, I 0], .agg [I 1, I 1, I 0]]) [(0, 0, 0), (1, 1, 0)] := ⟨⟨false, some 2, 3, by simp, by simp, by simp⟩, by simp, by simp⟩
  have e1 : worstF [3, 4] [(0, 0, 0), (1, 1, 0)] = ([3, 12], 0) := by decide
  refine (Worst_spec a1 b1 (by simp)).mono ?_
  rintro r H' ⟨rfl, l, rfl, hl⟩
  rw [e1] at hl ⊢
  have hln := hl
  obtain ⟨⟨nl, c, sz, rfl, hs⟩, _⟩ := hln
  simp
  first | refine AWp.seq (AWp.ops ?_) | refine AWp.seq (AWp.seq (AWp.ops ?_)) | refine AWp.ops ?_ | refine AWp.seq (AWp.block (AWp.seq (AWp.ops ?_))) | refine AWp.seq (AWp.seq (AWp.seq (AWp.ops ?_))) | refine AWp.block (AWp.seq (AWp.ops ?_)) | refine AWp.block (AWp.seq (AWp.seq (AWp.ops ?_))) | refine AWp.seq (AWp.block (AWp.seq (AWp.seq (AWp.ops ?_))))
  simp
  refine (rEqual_spec hl a2).mono ?_
  rintro r H' ⟨rfl, rfl⟩
  simp
  refine (Within_spec a3 hl).mono ?_
  rintro r H' ⟨rfl, rfl⟩
  have e2 : withF [3, 5] [3, 12] = true := by decide
  rw [e2]
  simp
  refine (Within_spec a4 hl).mono ?_
  rintro r H' ⟨rfl, rfl⟩
  have e3 : withF [3, 13] [3, 12] = false := by decide
  rw [e3]
  simp
  refine AWp.ret ?_
  simp
  refine retOk.of rfl ⟨rfl, rfl⟩
end Go.Fw
