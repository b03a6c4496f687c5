import Derived.Test.YtgdkdojjfijipaaFwref02b
import Derived.Test.YtgdkdojjfijipaaFwzero1
import Derived.Test.YtgdkdojjfijipaaFweq1
import Derived.Test.YtgdkdojjfijipaaFwzero1
namespace Go.Fw
open Go Go.RowKit Go.Proofs
set_option maxRecDepth 100000
set_option linter.unusedSimpArgs false
set_option linter.unusedVariables false

/-- What a tensor is checked for. -/
def checkF (D : List Int × List Int) : Int := if (laidF D.1).2 ≠ 0 then (laidF D.1).2 else if (D.2.length : Int) ≠ (laidF D.1).1 then 1 else 0

theorem Dn.noRef {d : AV} {D : List Int × List Int} (h : Dn d D) : noRef d = true := by
  obtain ⟨s, v, rfl, ⟨⟨_, _, _, rfl, _⟩, _⟩, ⟨⟨_, _, _, rfl, _⟩, _⟩⟩ := h
  rfl
theorem Dn.frz {d : AV} {D : List Int × List Int} (h : Dn d D) (G : List AObj) (k n : Nat) (b : Bool) : frz G k (n + 1) b d = d := by
  obtain ⟨s, v, rfl, ⟨⟨_, _, _, rfl, _⟩, _⟩, ⟨⟨_, _, _, rfl, _⟩, _⟩⟩ := h
  simp

def bCheck_3 : AC := (.seq (.ops [⟨(some 11), none, (.k (.mov (.t 4)))⟩, ⟨(some 12), none, (.k (.bin .eql (.t 11) (.c (.sc (.int .i64 0)))))⟩, ⟨(some 13), none, (.k (.mov (.t 12)))⟩, ⟨(some 14), (some (13, true)), (.k (.fad 1 (.t 1)))⟩, ⟨(some 15), (some (13, true)), (.k (.ld 1 false (.t 14)))⟩, ⟨(some 16), (some (13, true)), (.k (.len (.t 15)))⟩, ⟨(some 17), (some (13, true)), (.k (.mov (.t 3)))⟩, ⟨(some 18), (some (13, true)), (.k (.bin .neq (.t 16) (.t 17)))⟩, ⟨(some 19), none, (.k (.pick (.t 13) (.t 18) (.c (.sc (.bool false)))))⟩]) (.cond (.t 19) (.seq (.ops [⟨(some 2), none, (.k (.mov (.c (.sc (.int .i64 1)))))⟩]) .ret) .skip))
def bCheck_2 : AC := (.seq bCheck_3 (.seq (.ops [⟨(some 20), none, (.k (.mov (.t 4)))⟩, ⟨(some 2), none, (.k (.mov (.t 20)))⟩]) .ret))
def bCheck_1 : AC := (.seq (.ops [⟨(some 6), none, (.k (.fad 0 (.t 1)))⟩, ⟨(some 7), none, (.k (.ld 1 false (.t 6)))⟩, ⟨(some 8), none, (.call false (.c (.fn (.func 80) [] [])) [(.t 7)])⟩, ⟨(some 5), none, (.k (.mov (.t 8)))⟩, ⟨(some 9), none, (.k (.ext (.t 5) 0))⟩, ⟨(some 10), none, (.k (.ext (.t 5) 1))⟩, ⟨(some 3), none, (.k (.mov (.t 9)))⟩, ⟨(some 4), none, (.k (.mov (.t 10)))⟩]) bCheck_2)
def bCheck_ac : AC := (.seq (.ops [⟨(some 1), none, (.k (.new 49 2 (.t 0)))⟩, ⟨(some 2), none, (.k (.mov (.c (.sc (.int .i64 0)))))⟩]) bCheck_1)
theorem bCheck_call {args : List AV} {H : List AObj} {R : AV → List AObj → Prop} (h : AWp Try.prog [] H.length bCheck_ac (bodyQ H.length [(.t 2)] R) (args ++ List.replicate (21 - args.length) .und) H) : ACalls Try.prog 60 args H R :=
  ACalls.of_fn Try.func60 rfl (by kernel_rfl) rfl Try.ntmps60 h

theorem bCheck_spec {d : AV} {D : List Int × List Int} (hd : Dn d D) : ACalls Try.prog 60 [d] [] fun r H' => H' = [] ∧ r = I (checkF D) := by
  obtain ⟨s, v, rfl, ha, ⟨⟨nl, c, sz, rfl, hs⟩, hlen, hx⟩⟩ := hd
  have ha' := ha
  obtain ⟨⟨nl', c', sz', rfl, hs'⟩, hlen', hx'⟩ := ha
  refine ACalls.res 0 ?_ (fun _ => rfl)
  apply bCheck_call
  repeat first | refine AWp.seq ?_ | refine AWp.block ?_
  refine AWp.ops ?_
  simp
  repeat first | refine AWp.seq ?_ | refine AWp.block ?_
  refine AWp.ops ?_
  simp
  refine ((laid_spec ha').pure (by simp) (by rintro r rfl; simp) _).mono ?_
  rintro r H' ⟨rfl, rfl⟩
  simp
  repeat first | refine AWp.seq ?_ | refine AWp.block ?_
  refine AWp.ops ?_
  simp
  by_cases h : (laidF D.1).2 = 0
  · simp [h]
    refine AWp.cond (b := (D.2.length : Int) != (laidF D.1).1) (by simp) ?_ ?_
    · intro h2
      have h2 : ¬ (D.2.length : Int) = (laidF D.1).1 := by simpa using h2
      repeat first | refine AWp.seq ?_ | refine AWp.block ?_
      refine AWp.ops ?_
      simp
      refine AWp.ret ?_
      simp
      refine retOk.of rfl ?_
      simp [checkF, h, h2]
    · intro h2
      have h2 : (D.2.length : Int) = (laidF D.1).1 := by simpa using h2
      refine AWp.skip ?_
      simp only [qSeq]
      repeat first | refine AWp.seq ?_ | refine AWp.block ?_
      refine AWp.ops ?_
      simp
      refine AWp.ret ?_
      simp
      refine retOk.of rfl ?_
      simp [checkF, h, h2]
  · simp [h]
    refine AWp.cond (b := false) (by simp) (fun h => by cases h) (fun _ => ?_)
    refine AWp.skip ?_
    simp only [qSeq]
    repeat first | refine AWp.seq ?_ | refine AWp.block ?_
    refine AWp.ops ?_
    simp
    refine AWp.ret ?_
    simp
    refine retOk.of rfl ?_
    simp [checkF, h]

def sEqual64_12 : AC := (.seq (.ops [⟨(some 16), none, (.k (.mov (.t 0)))⟩, ⟨(some 17), none, (.k (.mov (.t 5)))⟩, ⟨(some 18), none, (.k (.iad 1 (.t 16) (.t 17)))⟩, ⟨(some 19), none, (.k (.ld 1 false (.t 18)))⟩, ⟨(some 20), none, (.k (.mov (.t 1)))⟩, ⟨(some 21), none, (.k (.mov (.t 5)))⟩, ⟨(some 22), none, (.k (.iad 1 (.t 20) (.t 21)))⟩, ⟨(some 23), none, (.k (.ld 1 false (.t 22)))⟩, ⟨(some 24), none, (.k (.bin .neq (.t 19) (.t 23)))⟩]) (.cond (.t 24) (.seq (.ops [⟨(some 4), none, (.k (.mov (.c (.sc (.bool false)))))⟩]) .ret) .skip))
def sEqual64_11 : AC := (.seq (.ops [⟨(some 15), none, (.k (.mov (.t 13)))⟩, ⟨(some 5), none, (.k (.mov (.t 15)))⟩]) sEqual64_12)
def sEqual64_10 : AC := (.block 1 sEqual64_11)
def sEqual64_9 : AC := (.seq sEqual64_10 (.ops [⟨(some 25), none, (.k (.bin .add (.t 13) (.c (.sc (.int .i64 1)))))⟩, ⟨(some 13), none, (.k (.mov (.t 25)))⟩]))
def sEqual64_8 : AC := (.seq (.cond (.t 14) .skip (.exit 0)) sEqual64_9)
def sEqual64_7 : AC := (.seq (.ops [⟨(some 14), none, (.k (.bin .lss (.t 13) (.t 12)))⟩]) sEqual64_8)
def sEqual64_6 : AC := (.loop sEqual64_7)
def sEqual64_5 : AC := (.block 0 sEqual64_6)
def sEqual64_4 : AC := (.seq (.ops [⟨(some 11), none, (.k (.mov (.t 0)))⟩, ⟨(some 12), none, (.k (.len (.t 11)))⟩, ⟨(some 13), none, (.k (.mov (.c (.sc (.int .i64 0)))))⟩]) sEqual64_5)
def sEqual64_3 : AC := (.seq sEqual64_4 (.seq (.ops [⟨(some 4), none, (.k (.mov (.c (.sc (.bool true)))))⟩]) .ret))
def sEqual64_2 : AC := (.seq (.ops [⟨(some 6), none, (.k (.mov (.t 0)))⟩, ⟨(some 7), none, (.k (.len (.t 6)))⟩, ⟨(some 8), none, (.k (.mov (.t 1)))⟩, ⟨(some 9), none, (.k (.len (.t 8)))⟩, ⟨(some 10), none, (.k (.bin .neq (.t 7) (.t 9)))⟩]) (.cond (.t 10) (.seq (.ops [⟨(some 4), none, (.k (.mov (.c (.sc (.bool false)))))⟩]) .ret) .skip))
def sEqual64_1 : AC := (.seq sEqual64_2 sEqual64_3)
def sEqual64_ac : AC := (.seq (.ops [⟨(some 4), none, (.k (.mov (.c (.sc (.bool false)))))⟩]) sEqual64_1)
theorem sEqual64_call {args : List AV} {H : List AObj} {R : AV → List AObj → Prop} (h : AWp Try.prog [] H.length sEqual64_ac (bodyQ H.length [(.t 4)] R) (args ++ List.replicate (26 - args.length) .und) H) : ACalls Try.prog 63 args H R :=
  ACalls.of_fn Try.func63 rfl (by kernel_rfl) rfl Try.ntmps63 h

theorem sEqual64_spec {a b : AV} {xs ys : List Int} (ha : ISl a xs) (hb : ISl b ys) : ACalls Try.prog 63 [a, b] [] fun r H' => H' = [] ∧ r = Bo (decide (xs = ys)) := by
  obtain ⟨⟨nl, c, sz, rfl, hs⟩, hlen, hx⟩ := ha
  obtain ⟨⟨nl', c', sz', rfl, hs'⟩, hlen', hx'⟩ := hb
  apply sEqual64_call
  repeat first | refine AWp.seq ?_ | refine AWp.block ?_
  refine AWp.ops ?_
  simp
  repeat first | refine AWp.seq ?_ | refine AWp.block ?_
  refine AWp.ops ?_
  simp
  refine AWp.cond (b := (xs.length : Int) != ys.length) (by simp) ?_ ?_
  · intro h
    repeat first | refine AWp.seq ?_ | refine AWp.block ?_
    refine AWp.ops ?_
    simp
    refine AWp.ret ?_
    simp
    refine retOk.of rfl ⟨rfl, ?_⟩
    have h : ¬ (xs.length : Int) = ys.length := by simpa using h
    have : xs ≠ ys := fun e => h (by rw [e])
    simp [this]
  intro h
  have hl : xs.length = ys.length := by
    have : (xs.length : Int) = ys.length := by simpa using h
    omega
  refine AWp.skip ?_
  simp only [qSeq]
  repeat first | refine AWp.seq ?_ | refine AWp.block ?_
  refine AWp.ops ?_
  simp
  obtain ⟨J, hJ⟩ : ∃ J : Nat → List AV → List AObj → Prop, J = fun i fr H => i ≤ xs.length ∧ (xs.take i = ys.take i) ∧ H = [] ∧
    fr = [AV.imm nl c sz (xs.map I), AV.imm nl' c' sz' (ys.map I), .und, .und, Bo false, .und, .und, .und, .und, .und, .und, .und, I xs.length, I i, .und, .und, .und, .und, .und, .und, .und, .und, .und, .und, .und, .und] := ⟨_, rfl⟩
  refine AWp.block (AWp.loop J (fun i => xs.length - i) 0 (Weak.slots [0, 1, 4, 12, 13]) (by rw [hJ]; exact ⟨by omega, rfl, by simp, by simp⟩) ?_)
  intro i fr H hI
  rw [hJ] at hI
  obtain ⟨hi, hinv, rfl, rfl⟩ := hI
  repeat first | refine AWp.seq ?_ | refine AWp.block ?_
  refine AWp.ops ?_
  simp
  refine AWp.seq (AWp.cond (b := decide (i < xs.length)) (by simp <;> omega) ?_ ?_)
  ·
    intro hb
    have hb : i < xs.length := by simpa using hb
    refine AWp.skip ?_
    simp only [qSeq]
    have hb' : i < ys.length := by omega
    have hsz := sz_of hs hb
    have hsz' := sz_of hs' hb'
    subst hsz hsz'
    refine AWp.seq (AWp.block (AWp.seq (AWp.ops ?_)))
    simp
    repeat first | refine AWp.seq ?_ | refine AWp.block ?_
    refine AWp.ops ?_
    simp [hb, hb']
    refine AWp.cond (b := xs[i] != ys[i]) (by simp) ?_ ?_
    · intro he
      have he : ¬ xs[i] = ys[i] := by simpa using he
      repeat first | refine AWp.seq ?_ | refine AWp.block ?_
      refine AWp.ops ?_
      simp
      refine AWp.ret ?_
      simp
      refine retOk.of rfl ⟨rfl, ?_⟩
      have : xs ≠ ys := by rintro rfl; exact he rfl
      simp [this]
    · intro he
      have he : xs[i] = ys[i] := by simpa using he
      refine AWp.skip ?_
      simp only [qSeq, qBlock]
      refine AWp.ops ?_
      simp
      refine ⟨i + 1, _, _, Weak.slots [0, 1, 4, 12, 13], ?_, by omega⟩
      rw [hJ]
      refine ⟨by omega, ?_, by simp, by simp [wrap_i64 (n := (i : Int) + 1) (by omega) (by omega)]⟩
      rw [List.take_succ_eq_append_getElem hb, List.take_succ_eq_append_getElem hb', hinv, he]
  ·
    intro hb
    have hb : ¬ i < xs.length := by simpa using hb
    refine AWp.exit ?_
    simp [qSeq, qBlock]
    repeat first | refine AWp.seq ?_ | refine AWp.block ?_
    refine AWp.ops ?_
    simp
    refine AWp.ret ?_
    simp
    refine retOk.of rfl ⟨rfl, ?_⟩
    rw [List.take_of_length_le (by omega), List.take_of_length_le (by omega)] at hinv
    simp [hinv]

def bSame_1 : AC := (.seq (.ops [⟨(some 5), none, (.k (.ld 2 true (.t 2)))⟩, ⟨(some 6), none, (.call false (.c (.fn (.func 60) [] [])) [(.t 5)])⟩, ⟨(some 7), none, (.k (.bin .eql (.t 6) (.c (.sc (.int .i64 0)))))⟩, ⟨(some 8), none, (.k (.mov (.t 7)))⟩, ⟨(some 9), (some (8, true)), (.k (.fad 0 (.t 2)))⟩, ⟨(some 10), (some (8, true)), (.k (.ld 1 false (.t 9)))⟩, ⟨(some 11), (some (8, true)), (.k (.fad 0 (.t 3)))⟩, ⟨(some 12), (some (8, true)), (.k (.ld 1 false (.t 11)))⟩, ⟨(some 13), (some (8, true)), (.call false (.c (.fn (.func 49) [] [])) [(.t 10), (.t 12)])⟩, ⟨(some 14), none, (.k (.pick (.t 8) (.t 13) (.c (.sc (.bool false)))))⟩, ⟨(some 15), none, (.k (.mov (.t 14)))⟩, ⟨(some 16), (some (15, true)), (.k (.fad 1 (.t 2)))⟩, ⟨(some 17), (some (15, true)), (.k (.ld 1 false (.t 16)))⟩, ⟨(some 18), (some (15, true)), (.k (.fad 1 (.t 3)))⟩, ⟨(some 19), (some (15, true)), (.k (.ld 1 false (.t 18)))⟩, ⟨(some 20), (some (15, true)), (.call false (.c (.fn (.func 63) [] [])) [(.t 17), (.t 19)])⟩, ⟨(some 21), none, (.k (.pick (.t 15) (.t 20) (.c (.sc (.bool false)))))⟩, ⟨(some 4), none, (.k (.mov (.t 21)))⟩]) .ret)
def bSame_ac : AC := (.seq (.ops [⟨(some 2), none, (.k (.new 49 2 (.t 0)))⟩, ⟨(some 3), none, (.k (.new 49 2 (.t 1)))⟩, ⟨(some 4), none, (.k (.mov (.c (.sc (.bool false)))))⟩]) bSame_1)
theorem bSame_call {args : List AV} {H : List AObj} {R : AV → List AObj → Prop} (h : AWp Try.prog [] H.length bSame_ac (bodyQ H.length [(.t 4)] R) (args ++ List.replicate (22 - args.length) .und) H) : ACalls Try.prog 34 args H R :=
  ACalls.of_fn Try.func34 rfl (by kernel_rfl) rfl Try.ntmps34 h

theorem bSame_spec {d e : AV} {D E : List Int × List Int} (hd : Dn d D) (he : Dn e E) : ACalls Try.prog 34 [d, e] [] fun r H' => H' = [] ∧ r = Bo (decide (checkF D = 0 ∧ D = E)) := by
  have hd' := hd
  obtain ⟨s, v, rfl, ha, hb⟩ := hd
  obtain ⟨s', v', rfl, ha', hb'⟩ := he
  have na := ha
  have nb := hb
  have na' := ha'
  have nb' := hb'
  obtain ⟨⟨_, _, _, rfl, _⟩, _⟩ := na
  obtain ⟨⟨_, _, _, rfl, _⟩, _⟩ := nb
  obtain ⟨⟨_, _, _, rfl, _⟩, _⟩ := na'
  obtain ⟨⟨_, _, _, rfl, _⟩, _⟩ := nb'
  refine ACalls.res 0 ?_ (fun _ => rfl)
  apply bSame_call
  repeat first | refine AWp.seq ?_ | refine AWp.block ?_
  refine AWp.ops ?_
  simp
  repeat first | refine AWp.seq ?_ | refine AWp.block ?_
  refine AWp.ops ?_
  simp
  refine ((bCheck_spec hd').pure (by simp) (by rintro r rfl; simp) _).mono ?_
  rintro r H' ⟨rfl, rfl⟩
  by_cases h : checkF D = 0
  · simp [h]
    refine ((sEqual_spec ha ha').pure (by simp) (by rintro r rfl; simp) _).mono ?_
    rintro r H' ⟨rfl, rfl⟩
    by_cases h1 : D.1 = E.1
    · simp [h1]
      refine ((sEqual64_spec hb hb').pure (by simp) (by rintro r rfl; simp) _).mono ?_
      rintro r H' ⟨rfl, rfl⟩
      simp
      refine AWp.ret ?_
      simp
      refine retOk.of rfl ?_
      simp [h, Prod.ext_iff, h1]
    · simp [h1]
      refine AWp.ret ?_
      simp
      refine retOk.of rfl ?_
      simp [Prod.ext_iff, h1]
  · simp [h]
    refine AWp.ret ?_
    simp
    refine retOk.of rfl ?_
    simp [h]

theorem check_cells {D : List Int × List Int} (h : checkF D = 0) : (cells D.1).2 = 0 ∧ (D.2.length : Int) = (cells D.1).1 := by
  unfold checkF at h
  by_cases h1 : (laidF D.1).2 = 0
  · rw [if_neg (by simpa using h1)] at h
    by_cases h2 : (D.2.length : Int) = (laidF D.1).1
    · unfold laidF at h1 h2
      by_cases h3 : (cells D.1).2 = 0 ∧ (cells D.1).1 > 65536
      · rw [if_pos h3] at h1; simp at h1
      · rw [if_neg h3] at h1 h2; exact ⟨h1, h2⟩
    · rw [if_pos h2] at h; simp at h
  · rw [if_pos h1] at h; exact absurd h h1

/-- A cell's number. -/
def getF (D : List Int × List Int) (cs : List Int) : Int × Int :=
  if checkF D ≠ 0 then (0, checkF D) else if (atF D.1 cs).2 ≠ 0 then (0, (atF D.1 cs).2) else (D.2.getD (atF D.1 cs).1.toNat 0, 0)

def bGet_11 : AC := (.seq (.ops [⟨(some 24), none, (.k (.fad 1 (.t 2)))⟩, ⟨(some 25), none, (.k (.ld 1 false (.t 24)))⟩, ⟨(some 26), none, (.k (.mov (.t 7)))⟩, ⟨(some 27), none, (.k (.iad 1 (.t 25) (.t 26)))⟩, ⟨(some 28), none, (.k (.ld 1 false (.t 27)))⟩, ⟨(some 4), none, (.k (.mov (.t 28)))⟩, ⟨(some 5), none, (.k (.mov (.c (.sc (.int .i64 0)))))⟩]) .ret)
def bGet_10 : AC := (.seq (.ops [⟨(some 23), none, (.k (.mov (.t 8)))⟩, ⟨(some 4), none, (.k (.mov (.c (.sc (.int .i64 0)))))⟩, ⟨(some 5), none, (.k (.mov (.t 23)))⟩]) .ret)
def bGet_9 : AC := (.cond (.t 22) bGet_10 .skip)
def bGet_8 : AC := (.seq (.ops [⟨(some 21), none, (.k (.mov (.t 8)))⟩, ⟨(some 22), none, (.k (.bin .neq (.t 21) (.c (.sc (.int .i64 0)))))⟩]) bGet_9)
def bGet_7 : AC := (.seq bGet_8 bGet_11)
def bGet_6 : AC := (.seq (.ops [⟨(some 15), none, (.k (.fad 0 (.t 2)))⟩, ⟨(some 16), none, (.k (.ld 1 false (.t 15)))⟩, ⟨(some 17), none, (.k (.mov (.t 1)))⟩, ⟨(some 18), none, (.call false (.c (.fn (.func 43) [] [])) [(.t 16), (.t 17)])⟩, ⟨(some 14), none, (.k (.mov (.t 18)))⟩, ⟨(some 19), none, (.k (.ext (.t 14) 0))⟩, ⟨(some 20), none, (.k (.ext (.t 14) 1))⟩, ⟨(some 7), none, (.k (.mov (.t 19)))⟩, ⟨(some 8), none, (.k (.mov (.t 20)))⟩]) bGet_7)
def bGet_5 : AC := (.seq (.ops [⟨(some 13), none, (.k (.mov (.t 6)))⟩, ⟨(some 4), none, (.k (.mov (.c (.sc (.int .i64 0)))))⟩, ⟨(some 5), none, (.k (.mov (.t 13)))⟩]) .ret)
def bGet_4 : AC := (.cond (.t 12) bGet_5 .skip)
def bGet_3 : AC := (.seq (.ops [⟨(some 11), none, (.k (.mov (.t 6)))⟩, ⟨(some 12), none, (.k (.bin .neq (.t 11) (.c (.sc (.int .i64 0)))))⟩]) bGet_4)
def bGet_2 : AC := (.seq (.ops [⟨(some 9), none, (.k (.ld 2 true (.t 2)))⟩, ⟨(some 10), none, (.call false (.c (.fn (.func 60) [] [])) [(.t 9)])⟩, ⟨(some 6), none, (.k (.mov (.t 10)))⟩]) bGet_3)
def bGet_1 : AC := (.seq bGet_2 bGet_6)
def bGet_ac : AC := (.seq (.ops [⟨(some 2), none, (.k (.new 49 2 (.t 0)))⟩, ⟨(some 4), none, (.k (.mov (.c (.sc (.int .i64 0)))))⟩, ⟨(some 5), none, (.k (.mov (.c (.sc (.int .i64 0)))))⟩]) bGet_1)
theorem bGet_call {args : List AV} {H : List AObj} {R : AV → List AObj → Prop} (h : AWp Try.prog [] H.length bGet_ac (bodyQ H.length [(.t 4), (.t 5)] R) (args ++ List.replicate (29 - args.length) .und) H) : ACalls Try.prog 32 args H R :=
  ACalls.of_fn Try.func32 rfl (by kernel_rfl) rfl Try.ntmps32 h

theorem bGet_spec {d b : AV} {D : List Int × List Int} {cs : List Int} (hd : Dn d D) (hb : ISl b cs) : ACalls Try.prog 32 [d, b] [] fun r H' => H' = [] ∧ r = .tup [I (getF D cs).1, I (getF D cs).2] := by
  have hd' := hd
  have hb' := hb
  obtain ⟨⟨nl1, c1, sz1, rfl, hs1⟩, _⟩ := hb
  obtain ⟨s, v, rfl, ha, ⟨⟨nl, c, sz, rfl, hs⟩, hlen, hx⟩⟩ := hd
  have ha' := ha
  obtain ⟨⟨nl', c', sz', rfl, hs'⟩, hlen', hx'⟩ := ha
  refine ACalls.res 1 ?_ (fun _ => rfl)
  apply bGet_call
  repeat first | refine AWp.seq ?_ | refine AWp.block ?_
  refine AWp.ops ?_
  simp
  repeat first | refine AWp.seq ?_ | refine AWp.block ?_
  refine AWp.ops ?_
  simp
  refine ((bCheck_spec hd').pure (by simp) (by rintro r rfl; simp) _).mono ?_
  rintro r H' ⟨rfl, rfl⟩
  simp
  repeat first | refine AWp.seq ?_ | refine AWp.block ?_
  refine AWp.ops ?_
  simp
  refine AWp.cond (b := checkF D != 0) (by simp) ?_ ?_
  · intro h
    have h : checkF D ≠ 0 := by simpa using h
    repeat first | refine AWp.seq ?_ | refine AWp.block ?_
    refine AWp.ops ?_
    simp
    refine AWp.ret ?_
    simp
    refine retOk.of rfl ?_
    simp [getF, h]
  intro h
  have h : checkF D = 0 := by simpa using h
  obtain ⟨hc, hv⟩ := check_cells h
  refine AWp.skip ?_
  simp only [qSeq]
  repeat first | refine AWp.seq ?_ | refine AWp.block ?_
  refine AWp.ops ?_
  simp
  refine ((At_spec ha' hb').pure (by simp) (by rintro r rfl; simp) _).mono ?_
  rintro r H' ⟨rfl, rfl⟩
  simp
  repeat first | refine AWp.seq ?_ | refine AWp.block ?_
  refine AWp.ops ?_
  simp
  refine AWp.cond (b := (atF D.1 cs).2 != 0) (by simp) ?_ ?_
  · intro h2
    have h2 : (atF D.1 cs).2 ≠ 0 := by simpa using h2
    repeat first | refine AWp.seq ?_ | refine AWp.block ?_
    refine AWp.ops ?_
    simp
    refine AWp.ret ?_
    simp
    refine retOk.of rfl ?_
    simp [getF, h, h2]
  intro h2
  have h2 : (atF D.1 cs).2 = 0 := by simpa using h2
  obtain ⟨h3, h4⟩ := atF_lt hc h2
  have hi : (atF D.1 cs).1.toNat < D.2.length := by omega
  have hsz := sz_of hs hi
  subst hsz
  refine AWp.skip ?_
  simp only [qSeq]
  repeat first | refine AWp.seq ?_ | refine AWp.block ?_
  refine AWp.ops ?_
  simp [hi, h3]
  refine AWp.ret ?_
  simp
  refine retOk.of rfl ?_
  simp [getF, h, h2, hi]

end Go.Fw
