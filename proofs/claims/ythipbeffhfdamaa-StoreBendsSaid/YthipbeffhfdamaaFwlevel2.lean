import Derived.Test.YthipbeffhfdamaaFwlevel1
namespace Go.Fw
open Go Go.RowKit Go.Proofs
set_option maxRecDepth 100000
set_option linter.unusedSimpArgs false
set_option linter.unusedVariables false

/-- Whether a level's lists are as long as they should be. -/
def lvFormed (l : Lv) (n : Nat) : Bool :=
  if l.k = 4 then decide (l.sz ≠ 0 ∧ l.pos.length = 0 ∧ l.crd.length = 0)
  else if l.k = 0 then decide (l.pos.length = 0 ∧ l.crd.length = 0)
  else if l.k = 3 then decide (l.pos.length = 0 ∧ l.crd.length = n)
  else if l.k = 1 ∨ l.k = 2 then decide (l.pos.length = n + 1 ∧ l.pos.getD 0 0 = 0 ∧ l.pos.getD n 0 = l.crd.length ∧ Sorted l.pos)
  else false

def formed_27 : AC := (.seq (.ops [⟨(some 40), none, (.k (.fad 2 (.t 2)))⟩, ⟨(some 41), none, (.k (.ld 1 false (.t 40)))⟩, ⟨(some 42), none, (.k (.len (.t 41)))⟩, ⟨(some 43), none, (.k (.mov (.t 1)))⟩, ⟨(some 44), none, (.k (.bin .add (.t 43) (.c (.sc (.int .i64 1)))))⟩, ⟨(some 45), none, (.k (.bin .eql (.t 42) (.t 44)))⟩, ⟨(some 46), none, (.k (.mov (.t 45)))⟩, ⟨(some 47), (some (46, true)), (.k (.fad 2 (.t 2)))⟩, ⟨(some 48), (some (46, true)), (.k (.ld 1 false (.t 47)))⟩, ⟨(some 49), (some (46, true)), (.k (.iad 1 (.t 48) (.c (.sc (.int .i64 0)))))⟩, ⟨(some 50), (some (46, true)), (.k (.ld 1 false (.t 49)))⟩, ⟨(some 51), (some (46, true)), (.k (.bin .eql (.t 50) (.c (.sc (.int .i64 0)))))⟩, ⟨(some 52), none, (.k (.pick (.t 46) (.t 51) (.c (.sc (.bool false)))))⟩, ⟨(some 53), none, (.k (.mov (.t 52)))⟩, ⟨(some 54), (some (53, true)), (.k (.fad 2 (.t 2)))⟩, ⟨(some 55), (some (53, true)), (.k (.ld 1 false (.t 54)))⟩, ⟨(some 56), (some (53, true)), (.k (.mov (.t 1)))⟩, ⟨(some 57), (some (53, true)), (.k (.iad 1 (.t 55) (.t 56)))⟩, ⟨(some 58), (some (53, true)), (.k (.ld 1 false (.t 57)))⟩, ⟨(some 59), (some (53, true)), (.k (.fad 3 (.t 2)))⟩, ⟨(some 60), (some (53, true)), (.k (.ld 1 false (.t 59)))⟩, ⟨(some 61), (some (53, true)), (.k (.len (.t 60)))⟩, ⟨(some 62), (some (53, true)), (.k (.bin .eql (.t 58) (.t 61)))⟩, ⟨(some 63), none, (.k (.pick (.t 53) (.t 62) (.c (.sc (.bool false)))))⟩, ⟨(some 64), none, (.k (.mov (.t 63)))⟩, ⟨(some 65), (some (64, true)), (.k (.fad 2 (.t 2)))⟩, ⟨(some 66), (some (64, true)), (.k (.ld 1 false (.t 65)))⟩, ⟨(some 67), (some (64, true)), (.call true (.c (.fn (.func 94) [] [])) [(.t 66)])⟩, ⟨(some 68), none, (.k (.pick (.t 64) (.t 67) (.c (.sc (.bool false)))))⟩, ⟨(some 4), none, (.k (.mov (.t 68)))⟩]) .ret)
def formed_26 : AC := (.seq formed_27 (.exit 0))
def formed_25 : AC := (.seq (.ops [⟨(some 29), none, (.k (.fad 2 (.t 2)))⟩, ⟨(some 30), none, (.k (.ld 1 false (.t 29)))⟩, ⟨(some 31), none, (.k (.len (.t 30)))⟩, ⟨(some 32), none, (.k (.bin .eql (.t 31) (.c (.sc (.int .i64 0)))))⟩, ⟨(some 33), none, (.k (.mov (.t 32)))⟩, ⟨(some 34), (some (33, true)), (.k (.fad 3 (.t 2)))⟩, ⟨(some 35), (some (33, true)), (.k (.ld 1 false (.t 34)))⟩, ⟨(some 36), (some (33, true)), (.k (.len (.t 35)))⟩, ⟨(some 37), (some (33, true)), (.k (.mov (.t 1)))⟩, ⟨(some 38), (some (33, true)), (.k (.bin .eql (.t 36) (.t 37)))⟩, ⟨(some 39), none, (.k (.pick (.t 33) (.t 38) (.c (.sc (.bool false)))))⟩, ⟨(some 4), none, (.k (.mov (.t 39)))⟩]) .ret)
def formed_24 : AC := (.seq formed_25 (.exit 0))
def formed_23 : AC := (.seq (.ops [⟨(some 19), none, (.k (.fad 2 (.t 2)))⟩, ⟨(some 20), none, (.k (.ld 1 false (.t 19)))⟩, ⟨(some 21), none, (.k (.len (.t 20)))⟩, ⟨(some 22), none, (.k (.bin .eql (.t 21) (.c (.sc (.int .i64 0)))))⟩, ⟨(some 23), none, (.k (.mov (.t 22)))⟩, ⟨(some 24), (some (23, true)), (.k (.fad 3 (.t 2)))⟩, ⟨(some 25), (some (23, true)), (.k (.ld 1 false (.t 24)))⟩, ⟨(some 26), (some (23, true)), (.k (.len (.t 25)))⟩, ⟨(some 27), (some (23, true)), (.k (.bin .eql (.t 26) (.c (.sc (.int .i64 0)))))⟩, ⟨(some 28), none, (.k (.pick (.t 23) (.t 27) (.c (.sc (.bool false)))))⟩, ⟨(some 4), none, (.k (.mov (.t 28)))⟩]) .ret)
def formed_22 : AC := (.seq formed_23 (.exit 0))
def formed_21 : AC := (.seq (.ops [⟨(some 16), none, (.k (.fad 1 (.t 2)))⟩, ⟨(some 17), none, (.k (.ld 1 false (.t 16)))⟩, ⟨(some 18), none, (.k (.bin .eql (.t 17) (.c (.sc (.int .i64 0)))))⟩]) (.cond (.t 18) (.seq (.ops [⟨(some 4), none, (.k (.mov (.c (.sc (.bool false)))))⟩]) .ret) .skip))
def formed_20 : AC := (.seq (.ops [⟨(some 14), none, (.k (.bin .eql (.t 6) (.c (.sc (.int .i64 1)))))⟩, ⟨(some 13), none, (.k (.mov (.t 14)))⟩]) (.cond (.t 13) .skip (.ops [⟨(some 15), none, (.k (.bin .eql (.t 6) (.c (.sc (.int .i64 2)))))⟩, ⟨(some 13), none, (.k (.mov (.t 15)))⟩])))
def formed_19 : AC := (.seq formed_20 (.cond (.t 13) (.exit 4) .skip))
def formed_18 : AC := (.seq (.ops [⟨(some 12), none, (.k (.bin .eql (.t 6) (.c (.sc (.int .i64 3)))))⟩, ⟨(some 11), none, (.k (.mov (.t 12)))⟩]) (.cond (.t 11) (.exit 3) .skip))
def formed_17 : AC := (.seq formed_18 formed_19)
def formed_16 : AC := (.seq (.ops [⟨(some 10), none, (.k (.bin .eql (.t 6) (.c (.sc (.int .i64 0)))))⟩, ⟨(some 9), none, (.k (.mov (.t 10)))⟩]) (.cond (.t 9) (.exit 2) .skip))
def formed_15 : AC := (.seq formed_16 formed_17)
def formed_14 : AC := (.seq (.ops [⟨(some 8), none, (.k (.bin .eql (.t 6) (.c (.sc (.int .i64 4)))))⟩, ⟨(some 7), none, (.k (.mov (.t 8)))⟩]) (.cond (.t 7) (.exit 1) .skip))
def formed_13 : AC := (.seq formed_14 formed_15)
def formed_12 : AC := (.seq formed_13 (.exit 0))
def formed_11 : AC := (.block 1 formed_12)
def formed_10 : AC := (.seq formed_11 formed_21)
def formed_9 : AC := (.block 2 formed_10)
def formed_8 : AC := (.seq formed_9 formed_22)
def formed_7 : AC := (.block 3 formed_8)
def formed_6 : AC := (.seq formed_7 formed_24)
def formed_5 : AC := (.block 4 formed_6)
def formed_4 : AC := (.seq formed_5 formed_26)
def formed_3 : AC := (.block 0 formed_4)
def formed_2 : AC := (.seq (.ops [⟨(some 5), none, (.k (.fad 0 (.t 2)))⟩, ⟨(some 6), none, (.k (.ld 1 false (.t 5)))⟩]) formed_3)
def formed_1 : AC := (.seq formed_2 (.seq (.ops [⟨(some 4), none, (.k (.mov (.c (.sc (.bool false)))))⟩]) .ret))
def formed_ac : AC := (.seq (.ops [⟨(some 2), none, (.k (.new 34 4 (.t 0)))⟩, ⟨(some 4), none, (.k (.mov (.c (.sc (.bool false)))))⟩]) formed_1)
theorem formed_call {args : List AV} {H : List AObj} {R : AV → List AObj → Prop} (h : AWp Try.prog [] H.length formed_ac (bodyQ H.length [(.t 4)] R) (args ++ List.replicate (69 - args.length) .und) H) : ACalls Try.prog 89 args H R :=
  ACalls.of_fn Try.func89 rfl (by kernel_rfl) rfl Try.ntmps89 h

set_option maxHeartbeats 2000000 in
theorem formed_spec {l : Lv} {p c : AV} (hl : LvOk l p c) {n : Nat} (hn : n ≤ 1048576) : ACalls Try.prog 89 [.agg [I l.k, I l.sz, p, c], I n] [] fun r H' => H' = [] ∧ r = Bo (lvFormed l n) := by
  obtain ⟨k, z, ps, cs⟩ := l
  obtain ⟨h1, h2, h3, h4⟩ := hl
  have h1' := h1
  simp only at h1 h2 h3 h4
  obtain ⟨⟨nl, cp, sz, rfl, hs⟩, hlen, hx⟩ := h1
  obtain ⟨⟨nl', cp', sz', rfl, hs'⟩, hlen', hx'⟩ := h2
  simp only at h1' ⊢
  have base : ACalls Try.prog 89 [.agg [I k, I z, .imm nl cp sz (ps.map I), .imm nl' cp' sz' (cs.map I)], I n] [] fun r H' => r = Bo (lvFormed ⟨k, z, ps, cs⟩ n) := by
    apply formed_call
    repeat first | refine AWp.seq ?_ | refine AWp.block ?_
    refine AWp.ops ?_
    simp
    repeat first | refine AWp.seq ?_ | refine AWp.block ?_
    refine AWp.ops ?_
    simp
    refine AWp.block (AWp.seq (AWp.block (AWp.seq (AWp.block (AWp.seq (AWp.block (AWp.seq (AWp.block (AWp.seq (AWp.seq (AWp.seq (AWp.ops ?_))))))))))))
    simp
    by_cases k4 : k = 4
    · refine AWp.cond (b := true) (by simp [k4]) (fun _ => ?_) (fun h => by cases h)
      refine AWp.exit ?_
      simp [qSeq, qBlock]
      repeat first | refine AWp.seq ?_ | refine AWp.block ?_
      refine AWp.ops ?_
      simp
      by_cases hz : z = 0
      · refine AWp.cond (b := true) (by simp [hz]) (fun _ => ?_) (fun h => by cases h)
        repeat first | refine AWp.seq ?_ | refine AWp.block ?_
        refine AWp.ops ?_
        simp
        refine AWp.ret ?_
        simp
        refine retOk.of rfl ?_
        simp [lvFormed, k4, hz]
      refine AWp.cond (b := false) (by simp [hz]) (fun h => by cases h) (fun _ => ?_)
      refine AWp.skip ?_
      by_cases hp : ps.length = 0
      ·
        repeat first | refine AWp.seq ?_ | refine AWp.block ?_
        refine AWp.ops ?_
        simp [hp]
        refine AWp.ret ?_
        simp
        refine retOk.of rfl ?_
        by_cases hc : cs.length = 0 <;> simp [lvFormed, k4, hz, hp, hc]
      ·
        repeat first | refine AWp.seq ?_ | refine AWp.block ?_
        refine AWp.ops ?_
        simp [hp]
        refine AWp.ret ?_
        simp
        refine retOk.of rfl ?_
        simp [lvFormed, k4, hz, hp]
    refine AWp.cond (b := false) (by simp [k4]) (fun h => by cases h) (fun _ => ?_)
    refine AWp.skip ?_
    simp only [qSeq]
    repeat first | refine AWp.seq ?_ | refine AWp.block ?_
    refine AWp.ops ?_
    simp
    by_cases k0 : k = 0
    · refine AWp.cond (b := true) (by simp [k0]) (fun _ => ?_) (fun h => by cases h)
      refine AWp.exit ?_
      simp [qSeq, qBlock]
      by_cases hp : ps.length = 0
      ·
        repeat first | refine AWp.seq ?_ | refine AWp.block ?_
        refine AWp.ops ?_
        simp [hp]
        refine AWp.ret ?_
        simp
        refine retOk.of rfl ?_
        by_cases hc : cs.length = 0 <;> simp [lvFormed, k4, k0, hp, hc]
      ·
        repeat first | refine AWp.seq ?_ | refine AWp.block ?_
        refine AWp.ops ?_
        simp [hp]
        refine AWp.ret ?_
        simp
        refine retOk.of rfl ?_
        simp [lvFormed, k4, k0, hp]
    refine AWp.cond (b := false) (by simp [k0]) (fun h => by cases h) (fun _ => ?_)
    refine AWp.skip ?_
    simp only [qSeq]
    repeat first | refine AWp.seq ?_ | refine AWp.block ?_
    refine AWp.ops ?_
    simp
    by_cases k3 : k = 3
    · refine AWp.cond (b := true) (by simp [k3]) (fun _ => ?_) (fun h => by cases h)
      refine AWp.exit ?_
      simp [qSeq, qBlock]
      by_cases hp : ps.length = 0
      ·
        repeat first | refine AWp.seq ?_ | refine AWp.block ?_
        refine AWp.ops ?_
        simp [hp]
        refine AWp.ret ?_
        simp
        refine retOk.of rfl ?_
        by_cases hc : cs.length = n <;> simp [lvFormed, k4, k0, k3, hp, hc] <;> omega
      ·
        repeat first | refine AWp.seq ?_ | refine AWp.block ?_
        refine AWp.ops ?_
        simp [hp]
        refine AWp.ret ?_
        simp
        refine retOk.of rfl ?_
        simp [lvFormed, k4, k0, k3, hp]
    refine AWp.cond (b := false) (by simp [k3]) (fun h => by cases h) (fun _ => ?_)
    refine AWp.skip ?_
    simp only [qSeq]
    obtain ⟨sw, hsw⟩ : ∃ sw, sw = decide (k = 1 ∨ k = 2) := ⟨_, rfl⟩
    refine AWp.cut [.und, I n, .ptr 0 1 0 0, .und, .und, .und, .und, .und, .und, .und, .und, .und, .und, Bo sw, .und, .und, .und, .und, .und, .und, .und, .und, .und, .und, .und, .und, .und, .und, .und, .und, .und, .und, .und, .und, .und, .und, .und, .und, .und, .und, .und, .und, .und, .und, .und, .und, .und, .und, .und, .und, .und, .und, .und, .und, .und, .und, .und, .und, .und, .und, .und, .und, .und, .und, .und, .und, .und, .und, .und] [lvO (.agg [I k, I z, .imm nl cp sz (ps.map I), .imm nl' cp' sz' (cs.map I)])] ?_ ?_
    ·
      repeat first | refine AWp.seq ?_ | refine AWp.block ?_
      refine AWp.ops ?_
      simp
      by_cases k1 : k = 1
      · refine AWp.cond (b := true) (by simp [k1]) (fun _ => ?_) (fun h => by cases h)
        refine AWp.skip ?_
        simp only [qSeq]
        exact (Weak.slots [1, 2, 13]).to (by simp [hsw, k1]) rfl
      refine AWp.cond (b := false) (by simp [k1]) (fun h => by cases h) (fun _ => ?_)
      repeat first | refine AWp.seq ?_ | refine AWp.block ?_
      refine AWp.ops ?_
      simp
      exact (Weak.slots [1, 2, 13]).to (by by_cases k2 : k = 2 <;> simp [hsw, k1, k2]) rfl
    refine AWp.cond (b := sw) (by simp) ?_ ?_
    · intro h
      have h : k = 1 ∨ k = 2 := by simpa [hsw] using h
      refine AWp.exit ?_
      simp [qSeq, qBlock]
      have hw := wrap_i64 (n := (n : Int) + 1) (by omega) (by omega)
      have hF : lvFormed ⟨k, z, ps, cs⟩ n = decide (ps.length = n + 1 ∧ ps.getD 0 0 = 0 ∧ ps.getD n 0 = cs.length ∧ Sorted ps) := by
        simp only [lvFormed]
        rw [if_neg k4, if_neg k0, if_neg k3, if_pos h]
      by_cases g1 : ps.length = n + 1
      case neg =>
        have g1' : ¬ (ps.length : Int) = (n : Int) + 1 := by omega
        repeat first | refine AWp.seq ?_ | refine AWp.block ?_
        refine AWp.ops ?_
        simp [hw, g1']
        refine AWp.ret ?_
        simp
        refine retOk.of rfl ?_
        simp [hF, g1]
      have g1' : (ps.length : Int) = (n : Int) + 1 := by omega
      have hb0 : 0 < ps.length := by omega
      have hbn : n < ps.length := by omega
      have hsz := sz_of hs hb0
      subst hsz
      by_cases g2 : ps[0] = 0
      case neg =>
        repeat first | refine AWp.seq ?_ | refine AWp.block ?_
        refine AWp.ops ?_
        simp [hw, g1', hb0, g2]
        refine AWp.ret ?_
        simp
        refine retOk.of rfl ?_
        simp [hF, g1, hb0, g2]
      by_cases g3 : ps[n] = cs.length
      case neg =>
        repeat first | refine AWp.seq ?_ | refine AWp.block ?_
        refine AWp.ops ?_
        simp [hw, g1', hb0, g2, hbn, g3]
        refine AWp.ret ?_
        simp
        refine retOk.of rfl ?_
        simp [hF, g1, hb0, hbn, g2, g3]
      repeat first | refine AWp.seq ?_ | refine AWp.block ?_
      refine AWp.ops ?_
      simp [hw, g1', hb0, g2, hbn, g3]
      refine ((IsSorted_spec h1').pure (by simp) (by rintro r rfl; simp) _).mono ?_
      rintro r H' ⟨rfl, rfl⟩
      simp
      refine AWp.ret ?_
      simp
      refine retOk.of rfl ?_
      simp [hF, g1, hb0, hbn, g2, g3]
    · intro h
      have h : ¬ (k = 1 ∨ k = 2) := by simpa only [hsw, decide_eq_false_iff_not] using h
      refine AWp.skip ?_
      simp only [qSeq]
      refine AWp.exit ?_
      simp [qSeq, qBlock]
      repeat first | refine AWp.seq ?_ | refine AWp.block ?_
      refine AWp.ops ?_
      simp
      refine AWp.ret ?_
      simp
      refine retOk.of rfl ?_
      simp only [lvFormed]
      rw [if_neg k4, if_neg k0, if_neg k3, if_neg h]
      simp
  refine (base.frozen 2).mono ?_
  rintro q H' ⟨rfl, r, G, rfl, rfl⟩
  exact ⟨rfl, by simp⟩
end Go.Fw
