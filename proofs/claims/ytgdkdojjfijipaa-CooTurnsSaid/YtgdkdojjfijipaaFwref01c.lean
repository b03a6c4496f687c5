import Derived.Test.YtgdkdojjfijipaaFwbx1
import Derived.Test.YtgdkdojjfijipaaFwref02b
import Derived.Test.YtgdkdojjfijipaaFweq1
namespace Go.Fw
open Go Go.RowKit Go.Proofs
set_option maxRecDepth 100000
set_option linter.unusedSimpArgs false
set_option linter.unusedVariables false

def rCheck_7 : AC := (.seq (.ops [⟨(some 16), none, (.k (.fad 1 (.t 1)))⟩, ⟨(some 17), none, (.k (.ld 1 false (.t 16)))⟩, ⟨(some 18), none, (.k (.len (.t 17)))⟩, ⟨(some 19), none, (.k (.mov (.t 3)))⟩, ⟨(some 20), none, (.k (.bin .neq (.t 18) (.t 19)))⟩]) (.cond (.t 20) (.seq (.ops [⟨(some 2), none, (.k (.mov (.c (.sc (.int .i64 1)))))⟩]) .ret) .skip))
def rCheck_6 : AC := (.seq rCheck_7 (.seq (.ops [⟨(some 2), none, (.k (.mov (.c (.sc (.int .i64 0)))))⟩]) .ret))
def rCheck_5 : AC := (.seq (.ops [⟨(some 14), none, (.k (.mov (.t 3)))⟩, ⟨(some 15), none, (.k (.bin .gtr (.t 14) (.c (.sc (.int .i64 65536)))))⟩]) (.cond (.t 15) (.seq (.ops [⟨(some 2), none, (.k (.mov (.c (.sc (.int .i64 2)))))⟩]) .ret) .skip))
def rCheck_4 : AC := (.seq rCheck_5 rCheck_6)
def rCheck_3 : AC := (.seq (.ops [⟨(some 11), none, (.k (.mov (.t 4)))⟩, ⟨(some 12), none, (.k (.bin .neq (.t 11) (.c (.sc (.int .i64 0)))))⟩]) (.cond (.t 12) (.seq (.ops [⟨(some 13), none, (.k (.mov (.t 4)))⟩, ⟨(some 2), none, (.k (.mov (.t 13)))⟩]) .ret) .skip))
def rCheck_2 : AC := (.seq rCheck_3 rCheck_4)
def rCheck_1 : AC := (.seq (.ops [⟨(some 6), none, (.k (.fad 0 (.t 1)))⟩, ⟨(some 7), none, (.k (.ld 1 false (.t 6)))⟩, ⟨(some 8), none, (.call false (.c (.fn (.func 56) [] [])) [(.t 7)])⟩, ⟨(some 5), none, (.k (.mov (.t 8)))⟩, ⟨(some 9), none, (.k (.ext (.t 5) 0))⟩, ⟨(some 10), none, (.k (.ext (.t 5) 1))⟩, ⟨(some 3), none, (.k (.mov (.t 9)))⟩, ⟨(some 4), none, (.k (.mov (.t 10)))⟩]) rCheck_2)
def rCheck_ac : AC := (.seq (.ops [⟨(some 1), none, (.k (.new 49 2 (.t 0)))⟩, ⟨(some 2), none, (.k (.mov (.c (.sc (.int .i64 0)))))⟩]) rCheck_1)
theorem rCheck_call {args : List AV} {H : List AObj} {R : AV → List AObj → Prop} (h : AWp Try.prog [] H.length rCheck_ac (bodyQ H.length [(.t 2)] R) (args ++ List.replicate (21 - args.length) .und) H) : ACalls Try.prog 67 args H R :=
  ACalls.of_fn Try.func67 rfl (by kernel_rfl) rfl Try.ntmps67 h

theorem rCheck_spec {d : AV} {D : List Int × List Int} (hd : Dn d D) : ACalls Try.prog 67 [d] [] fun r H' => H' = [] ∧ r = I (checkF D) := by
  obtain ⟨s, v, rfl, ha, ⟨⟨nl, c, sz, rfl, hs⟩, hlen, hx⟩⟩ := hd
  have ha' := ha
  obtain ⟨⟨nl', c', sz', rfl, hs'⟩, hlen', hx'⟩ := ha
  refine ACalls.res 0 ?_ (fun _ => rfl)
  apply rCheck_call
  repeat first | refine AWp.seq ?_ | refine AWp.block ?_
  refine AWp.ops ?_
  simp
  repeat first | refine AWp.seq ?_ | refine AWp.block ?_
  refine AWp.ops ?_
  simp
  refine ((rCells_spec ha').pure (by simp) (by rintro r rfl; simp) _).mono ?_
  rintro r H' ⟨rfl, rfl⟩
  simp
  repeat first | refine AWp.seq ?_ | refine AWp.block ?_
  refine AWp.ops ?_
  simp
  refine AWp.cond (b := (cells D.1).2 != 0) (by simp) ?_ ?_
  · intro h
    have h : (cells D.1).2 ≠ 0 := by simpa using h
    repeat first | refine AWp.seq ?_ | refine AWp.block ?_
    refine AWp.ops ?_
    simp
    refine AWp.ret ?_
    simp
    refine retOk.of rfl ?_
    simp [checkF, laidF, h]
  intro h
  have h : (cells D.1).2 = 0 := by simpa using h
  refine AWp.skip ?_
  simp only [qSeq]
  repeat first | refine AWp.seq ?_ | refine AWp.block ?_
  refine AWp.ops ?_
  simp
  refine AWp.cond (b := decide (65536 < (cells D.1).1)) (by simp) ?_ ?_
  · intro h1
    have h1 : 65536 < (cells D.1).1 := by simpa using h1
    repeat first | refine AWp.seq ?_ | refine AWp.block ?_
    refine AWp.ops ?_
    simp
    refine AWp.ret ?_
    simp
    refine retOk.of rfl ?_
    simp [checkF, laidF, h, h1]
  intro h1
  have h1 : ¬ 65536 < (cells D.1).1 := by simpa using h1
  refine AWp.skip ?_
  simp only [qSeq]
  repeat first | refine AWp.seq ?_ | refine AWp.block ?_
  refine AWp.ops ?_
  simp
  refine AWp.cond (b := (D.2.length : Int) != (cells D.1).1) (by simp) ?_ ?_
  · intro h2
    have h2 : ¬ (D.2.length : Int) = (cells D.1).1 := by simpa using h2
    repeat first | refine AWp.seq ?_ | refine AWp.block ?_
    refine AWp.ops ?_
    simp
    refine AWp.ret ?_
    simp
    refine retOk.of rfl ?_
    simp [checkF, laidF, h, h1, h2]
  · intro h2
    have h2 : (D.2.length : Int) = (cells D.1).1 := by simpa using h2
    refine AWp.skip ?_
    simp only [qSeq]
    repeat first | refine AWp.seq ?_ | refine AWp.block ?_
    refine AWp.ops ?_
    simp
    refine AWp.ret ?_
    simp
    refine retOk.of rfl ?_
    simp [checkF, laidF, h, h1, h2]

def rEquals_12 : AC := (.seq (.ops [⟨(some 27), none, (.k (.fad 1 (.t 2)))⟩, ⟨(some 28), none, (.k (.ld 1 false (.t 27)))⟩, ⟨(some 29), none, (.k (.mov (.t 5)))⟩, ⟨(some 30), none, (.k (.iad 1 (.t 28) (.t 29)))⟩, ⟨(some 31), none, (.k (.ld 1 false (.t 30)))⟩, ⟨(some 32), none, (.k (.fad 1 (.t 3)))⟩, ⟨(some 33), none, (.k (.ld 1 false (.t 32)))⟩, ⟨(some 34), none, (.k (.mov (.t 5)))⟩, ⟨(some 35), none, (.k (.iad 1 (.t 33) (.t 34)))⟩, ⟨(some 36), none, (.k (.ld 1 false (.t 35)))⟩, ⟨(some 37), none, (.k (.bin .neq (.t 31) (.t 36)))⟩]) (.cond (.t 37) (.seq (.ops [⟨(some 4), none, (.k (.mov (.c (.sc (.bool false)))))⟩]) .ret) .skip))
def rEquals_11 : AC := (.seq (.ops [⟨(some 26), none, (.k (.mov (.t 24)))⟩, ⟨(some 5), none, (.k (.mov (.t 26)))⟩]) rEquals_12)
def rEquals_10 : AC := (.block 1 rEquals_11)
def rEquals_9 : AC := (.seq rEquals_10 (.ops [⟨(some 38), none, (.k (.bin .add (.t 24) (.c (.sc (.int .i64 1)))))⟩, ⟨(some 24), none, (.k (.mov (.t 38)))⟩]))
def rEquals_8 : AC := (.seq (.cond (.t 25) .skip (.exit 0)) rEquals_9)
def rEquals_7 : AC := (.seq (.ops [⟨(some 25), none, (.k (.bin .lss (.t 24) (.t 23)))⟩]) rEquals_8)
def rEquals_6 : AC := (.loop rEquals_7)
def rEquals_5 : AC := (.block 0 rEquals_6)
def rEquals_4 : AC := (.seq (.ops [⟨(some 21), none, (.k (.fad 1 (.t 2)))⟩, ⟨(some 22), none, (.k (.ld 1 false (.t 21)))⟩, ⟨(some 23), none, (.k (.len (.t 22)))⟩, ⟨(some 24), none, (.k (.mov (.c (.sc (.int .i64 0)))))⟩]) rEquals_5)
def rEquals_3 : AC := (.seq rEquals_4 (.seq (.ops [⟨(some 4), none, (.k (.mov (.c (.sc (.bool true)))))⟩]) .ret))
def rEquals_2 : AC := (.seq (.ops [⟨(some 6), none, (.k (.fad 0 (.t 2)))⟩, ⟨(some 7), none, (.k (.ld 1 false (.t 6)))⟩, ⟨(some 8), none, (.k (.fad 0 (.t 3)))⟩, ⟨(some 9), none, (.k (.ld 1 false (.t 8)))⟩, ⟨(some 10), none, (.call false (.c (.fn (.func 41) [] [])) [(.t 7), (.t 9)])⟩, ⟨(some 11), none, (.k (.un .not (.t 10)))⟩, ⟨(some 12), none, (.k (.mov (.t 11)))⟩, ⟨(some 13), (some (12, false)), (.k (.fad 1 (.t 2)))⟩, ⟨(some 14), (some (12, false)), (.k (.ld 1 false (.t 13)))⟩, ⟨(some 15), (some (12, false)), (.k (.len (.t 14)))⟩, ⟨(some 16), (some (12, false)), (.k (.fad 1 (.t 3)))⟩, ⟨(some 17), (some (12, false)), (.k (.ld 1 false (.t 16)))⟩, ⟨(some 18), (some (12, false)), (.k (.len (.t 17)))⟩, ⟨(some 19), (some (12, false)), (.k (.bin .neq (.t 15) (.t 18)))⟩, ⟨(some 20), none, (.k (.pick (.t 12) (.c (.sc (.bool true))) (.t 19)))⟩]) (.cond (.t 20) (.seq (.ops [⟨(some 4), none, (.k (.mov (.c (.sc (.bool false)))))⟩]) .ret) .skip))
def rEquals_1 : AC := (.seq rEquals_2 rEquals_3)
def rEquals_ac : AC := (.seq (.ops [⟨(some 2), none, (.k (.new 49 2 (.t 0)))⟩, ⟨(some 3), none, (.k (.new 49 2 (.t 1)))⟩, ⟨(some 4), none, (.k (.mov (.c (.sc (.bool false)))))⟩]) rEquals_1)
theorem rEquals_call {args : List AV} {H : List AObj} {R : AV → List AObj → Prop} (h : AWp Try.prog [] H.length rEquals_ac (bodyQ H.length [(.t 4)] R) (args ++ List.replicate (39 - args.length) .und) H) : ACalls Try.prog 40 args H R :=
  ACalls.of_fn Try.func40 rfl (by kernel_rfl) rfl Try.ntmps40 h

theorem rEquals_spec {d e : AV} {D E : List Int × List Int} (hd : Dn d D) (he : Dn e E) : ACalls Try.prog 40 [d, e] [] fun r H' => H' = [] ∧ r = Bo (decide (D = E)) := by
  obtain ⟨xS, xs⟩ := D
  obtain ⟨yS, ys⟩ := E
  obtain ⟨s, v, rfl, ha, hb⟩ := hd
  obtain ⟨s', v', rfl, ha', hb'⟩ := he
  have na := ha
  have na' := ha'
  obtain ⟨⟨nl1, c1, sz1, rfl, _⟩, _⟩ := na
  obtain ⟨⟨nl2, c2, sz2, rfl, _⟩, _⟩ := na'
  obtain ⟨⟨nl, c, sz, rfl, hs⟩, hlen, hx⟩ := hb
  obtain ⟨⟨nl', c', sz', rfl, hs'⟩, hlen', hx'⟩ := hb'
  simp only at hs hs' hlen hlen' hx hx'
  refine ACalls.res 0 ?_ (fun _ => rfl)
  apply rEquals_call
  repeat first | refine AWp.seq ?_ | refine AWp.block ?_
  refine AWp.ops ?_
  simp
  repeat first | refine AWp.seq ?_ | refine AWp.block ?_
  refine AWp.ops ?_
  simp
  refine ((rEqual_spec ha ha').pure (by simp) (by rintro r rfl; simp) _).mono ?_
  rintro r H' ⟨rfl, rfl⟩
  simp
  by_cases h1 : xS = yS
  · subst h1
    simp
    refine AWp.cond (b := (xs.length : Int) != ys.length) (by simp) ?_ ?_
    · intro h
      repeat first | refine AWp.seq ?_ | refine AWp.block ?_
      refine AWp.ops ?_
      simp
      refine AWp.ret ?_
      simp
      refine retOk.of rfl ?_
      have h : ¬ (xs.length : Int) = ys.length := by simpa using h
      have : xs ≠ ys := fun e => h (by rw [e])
      simp [this]
    intro h
    have hl : xs.length = ys.length := by
      have : (xs.length : Int) = ys.length := by simpa using h
      omega
    refine AWp.skip ?_
    simp only [qSeq]
    repeat first | refine AWp.seq ?_ | refine AWp.block ?_
    refine AWp.ops ?_
    simp
    obtain ⟨J, hJ⟩ : ∃ J : Nat → List AV → List AObj → Prop, J = fun i fr H => i ≤ xs.length ∧ (xs.take i = ys.take i) ∧ H = [⟨49, 2, [.agg [.imm nl1 c1 sz1 (xS.map I), .imm nl c sz (xs.map I)]], true, none⟩, ⟨49, 2, [.agg [.imm nl2 c2 sz2 (xS.map I), .imm nl' c' sz' (ys.map I)]], true, none⟩] ∧
      fr = [.und, .und, AV.ptr 0 1 0 0, AV.ptr 1 1 0 0, Bo false, .und, .und, .und, .und, .und, .und, .und, .und, .und, .und, .und, .und, .und, .und, .und, .und, .und, .und, I xs.length, I i, .und, .und, .und, .und, .und, .und, .und, .und, .und, .und, .und, .und, .und, .und] := ⟨_, rfl⟩
    refine AWp.block (AWp.loop J (fun i => xs.length - i) 0 (Weak.slots [2, 3, 4, 23, 24]) (by rw [hJ]; exact ⟨by omega, rfl, by simp, by simp⟩) ?_)
    intro i fr H hI
    rw [hJ] at hI
    obtain ⟨hi, hinv, rfl, rfl⟩ := hI
    repeat first | refine AWp.seq ?_ | refine AWp.block ?_
    refine AWp.ops ?_
    simp
    refine AWp.seq (AWp.cond (b := decide (i < xs.length)) (by simp <;> omega) ?_ ?_)
    ·
      intro hb
      have hb : i < xs.length := by simpa using hb
      refine AWp.skip ?_
      simp only [qSeq]
      have hb' : i < ys.length := by omega
      have hsz := sz_of hs hb
      have hsz' := sz_of hs' hb'
      subst hsz hsz'
      refine AWp.seq (AWp.block (AWp.seq (AWp.ops ?_)))
      simp
      repeat first | refine AWp.seq ?_ | refine AWp.block ?_
      refine AWp.ops ?_
      simp [hb, hb']
      refine AWp.cond (b := xs[i] != ys[i]) (by simp) ?_ ?_
      · intro he
        have he : ¬ xs[i] = ys[i] := by simpa using he
        repeat first | refine AWp.seq ?_ | refine AWp.block ?_
        refine AWp.ops ?_
        simp
        refine AWp.ret ?_
        simp
        refine retOk.of rfl ?_
        have : xs ≠ ys := by rintro rfl; exact he rfl
        simp [this]
      · intro he
        have he : xs[i] = ys[i] := by simpa using he
        refine AWp.skip ?_
        simp only [qSeq, qBlock]
        refine AWp.ops ?_
        simp
        refine ⟨i + 1, _, _, Weak.slots [2, 3, 4, 23, 24], ?_, by omega⟩
        rw [hJ]
        refine ⟨by omega, ?_, by simp, by simp [wrap_i64 (n := (i : Int) + 1) (by omega) (by omega)]⟩
        rw [List.take_succ_eq_append_getElem hb, List.take_succ_eq_append_getElem hb', hinv, he]
    ·
      intro hb
      have hb : ¬ i < xs.length := by simpa using hb
      refine AWp.exit ?_
      simp [qSeq, qBlock]
      repeat first | refine AWp.seq ?_ | refine AWp.block ?_
      refine AWp.ops ?_
      simp
      refine AWp.ret ?_
      simp
      refine retOk.of rfl ?_
      rw [List.take_of_length_le (by omega), List.take_of_length_le (by omega)] at hinv
      simp [hinv]
  · simp [h1]
    refine AWp.cond (b := true) (by simp) (fun _ => ?_) (fun h => by cases h)
    repeat first | refine AWp.seq ?_ | refine AWp.block ?_
    refine AWp.ops ?_
    simp
    refine AWp.ret ?_
    simp
    refine retOk.of rfl ?_
    simp [h1]

end Go.Fw
