import Derived.Test.YthipbeffhfdamaaFwargsT
namespace Go.Fw
open Go Go.RowKit Go.Proofs
set_option maxRecDepth 100000
set_option linter.unusedSimpArgs false
set_option linter.unusedVariables false

def fewF (T : Tn) : Bool := decide (¬ (20 < T.sh.length ∨ 40 < T.f.length ∨ 40 < T.l.length ∨ 3000 < T.v.length)) && T.l.all (fun x => decide (¬ (3000 < x.lv.pos.length ∨ 3000 < x.lv.crd.length)))

def few_12 : AC := (.seq (.ops [⟨(some 34), none, (.k (.fad 2 (.t 4)))⟩, ⟨(some 35), none, (.k (.ld 1 false (.t 34)))⟩, ⟨(some 36), none, (.k (.len (.t 35)))⟩, ⟨(some 37), none, (.k (.bin .gtr (.t 36) (.c (.sc (.int .i64 3000)))))⟩, ⟨(some 38), none, (.k (.mov (.t 37)))⟩, ⟨(some 39), (some (38, false)), (.k (.fad 3 (.t 4)))⟩, ⟨(some 40), (some (38, false)), (.k (.ld 1 false (.t 39)))⟩, ⟨(some 41), (some (38, false)), (.k (.len (.t 40)))⟩, ⟨(some 42), (some (38, false)), (.k (.bin .gtr (.t 41) (.c (.sc (.int .i64 3000)))))⟩, ⟨(some 43), none, (.k (.pick (.t 38) (.c (.sc (.bool true))) (.t 42)))⟩]) (.cond (.t 43) (.seq (.ops [⟨(some 2), none, (.k (.mov (.c (.sc (.bool false)))))⟩]) .ret) .skip))
def few_11 : AC := (.seq (.ops [⟨(some 32), none, (.k (.iad 4 (.t 28) (.t 30)))⟩, ⟨(some 33), none, (.k (.ld 4 true (.t 32)))⟩, ⟨(some 4), none, (.k (.new 34 4 (.c (.agg [(.sc (.int .i64 0)), (.sc (.int .i64 0)), (.imm true none 0 []), (.imm true none 0 [])]))))⟩, ⟨none, none, (.k (.st 4 (.t 4) (.t 33)))⟩]) few_12)
def few_10 : AC := (.block 1 few_11)
def few_9 : AC := (.seq few_10 (.ops [⟨(some 44), none, (.k (.bin .add (.t 30) (.c (.sc (.int .i64 1)))))⟩, ⟨(some 30), none, (.k (.mov (.t 44)))⟩]))
def few_8 : AC := (.seq (.cond (.t 31) .skip (.exit 0)) few_9)
def few_7 : AC := (.seq (.ops [⟨(some 31), none, (.k (.bin .lss (.t 30) (.t 29)))⟩]) few_8)
def few_6 : AC := (.loop few_7)
def few_5 : AC := (.block 0 few_6)
def few_4 : AC := (.seq (.ops [⟨(some 27), none, (.k (.fad 2 (.t 1)))⟩, ⟨(some 28), none, (.k (.ld 1 false (.t 27)))⟩, ⟨(some 29), none, (.k (.len (.t 28)))⟩, ⟨(some 30), none, (.k (.mov (.c (.sc (.int .i64 0)))))⟩]) few_5)
def few_3 : AC := (.seq few_4 (.seq (.ops [⟨(some 2), none, (.k (.mov (.c (.sc (.bool true)))))⟩]) .ret))
def few_2 : AC := (.seq (.ops [⟨(some 5), none, (.k (.fad 0 (.t 1)))⟩, ⟨(some 6), none, (.k (.ld 1 false (.t 5)))⟩, ⟨(some 7), none, (.k (.len (.t 6)))⟩, ⟨(some 8), none, (.k (.bin .gtr (.t 7) (.c (.sc (.int .i64 20)))))⟩, ⟨(some 9), none, (.k (.mov (.t 8)))⟩, ⟨(some 10), (some (9, false)), (.k (.fad 1 (.t 1)))⟩, ⟨(some 11), (some (9, false)), (.k (.ld 1 false (.t 10)))⟩, ⟨(some 12), (some (9, false)), (.k (.len (.t 11)))⟩, ⟨(some 13), (some (9, false)), (.k (.bin .gtr (.t 12) (.c (.sc (.int .i64 40)))))⟩, ⟨(some 14), none, (.k (.pick (.t 9) (.c (.sc (.bool true))) (.t 13)))⟩, ⟨(some 15), none, (.k (.mov (.t 14)))⟩, ⟨(some 16), (some (15, false)), (.k (.fad 2 (.t 1)))⟩, ⟨(some 17), (some (15, false)), (.k (.ld 1 false (.t 16)))⟩, ⟨(some 18), (some (15, false)), (.k (.len (.t 17)))⟩, ⟨(some 19), (some (15, false)), (.k (.bin .gtr (.t 18) (.c (.sc (.int .i64 40)))))⟩, ⟨(some 20), none, (.k (.pick (.t 15) (.c (.sc (.bool true))) (.t 19)))⟩, ⟨(some 21), none, (.k (.mov (.t 20)))⟩, ⟨(some 22), (some (21, false)), (.k (.fad 3 (.t 1)))⟩, ⟨(some 23), (some (21, false)), (.k (.ld 1 false (.t 22)))⟩, ⟨(some 24), (some (21, false)), (.k (.len (.t 23)))⟩, ⟨(some 25), (some (21, false)), (.k (.bin .gtr (.t 24) (.c (.sc (.int .i64 3000)))))⟩, ⟨(some 26), none, (.k (.pick (.t 21) (.c (.sc (.bool true))) (.t 25)))⟩]) (.cond (.t 26) (.seq (.ops [⟨(some 2), none, (.k (.mov (.c (.sc (.bool false)))))⟩]) .ret) .skip))
def few_1 : AC := (.seq few_2 few_3)
def few_ac : AC := (.seq (.ops [⟨(some 1), none, (.k (.new 27 4 (.t 0)))⟩, ⟨(some 2), none, (.k (.mov (.c (.sc (.bool false)))))⟩]) few_1)
theorem few_call {args : List AV} {H : List AObj} {R : AV → List AObj → Prop} (h : AWp Try.prog [] H.length few_ac (bodyQ H.length [(.t 2)] R) (args ++ List.replicate (45 - args.length) .und) H) : ACalls Try.prog 10 args H R :=
  ACalls.of_fn Try.func10 rfl (by kernel_rfl) rfl Try.ntmps10 h

set_option maxHeartbeats 2000000 in
theorem few_spec {a : AV} {T : Tn} (ha : Tns a T) : ACalls Try.prog 10 [a] [] fun r H' => H' = [] ∧ r = Bo (fewF T) := by
  obtain ⟨S, F, xs, V⟩ := T
  obtain ⟨sh, f, l, v, rfl, hS, hF, hl, hV⟩ := ha
  simp only at hS hF hl hV
  obtain ⟨⟨nl, c, sz, rfl, hs⟩, hlen, hx⟩ := hl
  obtain ⟨⟨nl1, c01, sz1, rfl, hs1⟩, hlen1, hx1⟩ := hS
  obtain ⟨⟨nl2, c02, sz2, rfl, hs2⟩, hlen2, hx2⟩ := hF
  obtain ⟨⟨nl3, c3, sz3, rfl, hs3⟩, hlen3, hx3⟩ := hV
  have base : ACalls Try.prog 10 [.agg [.imm nl1 c01 sz1 (S.map I), .imm nl2 c02 sz2 (F.map specV), .imm nl c sz (xs.map lvV), .imm nl3 c3 sz3 (V.map I)]] [] fun r H' => r = Bo (fewF ⟨S, F, xs, V⟩) := by
    apply few_call
    repeat first | refine AWp.seq ?_ | refine AWp.block ?_
    refine AWp.ops ?_
    simp
    obtain ⟨bad, hbad⟩ : ∃ bad, bad = decide (20 < S.length ∨ 40 < F.length ∨ 40 < xs.length ∨ 3000 < V.length) := ⟨_, rfl⟩
    refine AWp.seq (AWp.cut [.und, .ptr 0 1 0 0, .und, .und, .und, .und, .und, .und, .und, .und, .und, .und, .und, .und, .und, .und, .und, .und, .und, .und, .und, .und, .und, .und, .und, .und, Bo bad, .und, .und, .und, .und, .und, .und, .und, .und, .und, .und, .und, .und, .und, .und, .und, .und, .und, .und] [tnO (.agg [.imm nl1 c01 sz1 (S.map I), .imm nl2 c02 sz2 (F.map specV), .imm nl c sz (xs.map lvV), .imm nl3 c3 sz3 (V.map I)])] ?_ ?_)
    · by_cases a1 : 20 < S.length
      · have a1' : 20 < (S.length : Int) := by omega
        repeat first | refine AWp.seq ?_ | refine AWp.block ?_
        refine AWp.ops ?_
        simp [a1']
        exact (Weak.slots [1, 26]).to (by simp [hbad, a1]) rfl
      have a1' : ¬ 20 < (S.length : Int) := by omega
      by_cases a2 : 40 < F.length
      · have a2' : 40 < (F.length : Int) := by omega
        repeat first | refine AWp.seq ?_ | refine AWp.block ?_
        refine AWp.ops ?_
        simp [a1', a2']
        exact (Weak.slots [1, 26]).to (by simp [hbad, a2]) rfl
      have a2' : ¬ 40 < (F.length : Int) := by omega
      by_cases a3 : 40 < xs.length
      · have a3' : 40 < (xs.length : Int) := by omega
        repeat first | refine AWp.seq ?_ | refine AWp.block ?_
        refine AWp.ops ?_
        simp [a1', a2', a3']
        exact (Weak.slots [1, 26]).to (by simp [hbad, a3]) rfl
      have a3' : ¬ 40 < (xs.length : Int) := by omega
      repeat first | refine AWp.seq ?_ | refine AWp.block ?_
      refine AWp.ops ?_
      simp [a1', a2', a3']
      have e : decide (3000 < (V.length : Int)) = bad := by
        rw [hbad, Bool.eq_iff_iff]
        simp [a1, a2, a3]
        omega
      exact (Weak.slots [1, 26]).to (by simp [e]) rfl
    refine AWp.cond (b := bad) (by simp) ?_ ?_
    · intro h
      have h : 20 < S.length ∨ 40 < F.length ∨ 40 < xs.length ∨ 3000 < V.length := by simpa only [hbad, decide_eq_true_eq] using h
      repeat first | refine AWp.seq ?_ | refine AWp.block ?_
      refine AWp.ops ?_
      simp
      refine AWp.ret ?_
      simp
      refine retOk.of rfl ?_
      have : fewF ⟨S, F, xs, V⟩ = false := by
        simp only [fewF]
        rw [decide_eq_false (fun hn => hn h), Bool.false_and]
      rw [this]
      simp
    intro h
    have hg : ¬ (20 < S.length ∨ 40 < F.length ∨ 40 < xs.length ∨ 3000 < V.length) := by simpa only [hbad, decide_eq_false_iff_not] using h
    have hF : fewF ⟨S, F, xs, V⟩ = xs.all (fun x => decide (¬ (3000 < x.lv.pos.length ∨ 3000 < x.lv.crd.length))) := by
      simp only [fewF]
      rw [decide_eq_true hg, Bool.true_and]
    rw [hF]
    obtain ⟨P, hP⟩ : ∃ P : LvA → Bool, P = fun x => decide (¬ (3000 < x.lv.pos.length ∨ 3000 < x.lv.crd.length)) := ⟨_, rfl⟩
    rw [← hP]
    refine AWp.skip ?_
    simp only [qSeq]
    repeat first | refine AWp.seq ?_ | refine AWp.block ?_
    refine AWp.ops ?_
    simp
    obtain ⟨J, hJ⟩ : ∃ J : Nat → List AV → List AObj → Prop, J = fun i fr H => i ≤ xs.length ∧ (∀ x ∈ xs.take i, P x = true) ∧ H = [tnO (.agg [.imm nl1 c01 sz1 (S.map I), .imm nl2 c02 sz2 (F.map specV), .imm nl c sz (xs.map lvV), .imm nl3 c3 sz3 (V.map I)])] ∧
      fr = [.und, .ptr 0 1 0 0, .und, .und, .und, .und, .und, .und, .und, .und, .und, .und, .und, .und, .und, .und, .und, .und, .und, .und, .und, .und, .und, .und, .und, .und, .und, .und, .imm nl c sz (xs.map lvV), I xs.length, I i, .und, .und, .und, .und, .und, .und, .und, .und, .und, .und, .und, .und, .und, .und] := ⟨_, rfl⟩
    refine AWp.block (AWp.loop J (fun i => xs.length - i) 0 (Weak.slots [1, 28, 29, 30]) (by rw [hJ]; exact ⟨by omega, by simp, by simp, by simp⟩) ?_)
    intro i fr H hI
    rw [hJ] at hI
    obtain ⟨hi, hinv, rfl, rfl⟩ := hI
    repeat first | refine AWp.seq ?_ | refine AWp.block ?_
    refine AWp.ops ?_
    simp
    refine AWp.seq (AWp.cond (b := decide (i < xs.length)) (by simp <;> omega) ?_ ?_)
    ·
      intro hb
      have hb : i < xs.length := by simpa using hb
      refine AWp.skip ?_
      simp only [qSeq]
      have hsz4 := sz4_of hs hb
      subst hsz4
      have hgs := lv_get hb
      have hok := hx xs[i] (List.getElem_mem hb)
      have hmem : xs[i] ∈ xs := List.getElem_mem hb
      have hall : (∀ x ∈ xs.take (i + 1), P x = true) ↔ (P xs[i] = true ∧ ∀ x ∈ xs.take i, P x = true) := by
        rw [List.take_succ_eq_append_getElem hb]
        simp only [List.mem_append, List.mem_singleton]
        exact ⟨fun h => ⟨h _ (.inr rfl), fun x hx => h x (.inl hx)⟩, fun h x hx => hx.elim (h.2 x) (fun e => e ▸ h.1)⟩
      have hPx : P xs[i] = decide (¬ (3000 < xs[i].lv.pos.length ∨ 3000 < xs[i].lv.crd.length)) := by rw [hP]
      generalize xs[i] = x at hgs hok hmem hall hPx
      obtain ⟨⟨k, z, ps, cs⟩, p, q⟩ := x
      simp only at hgs hok hPx
      obtain ⟨⟨⟨nlp, cp, szp, rfl, _⟩, _⟩, ⟨⟨nlq, cq, szq, rfl, _⟩, _⟩, _⟩ := hok
      have hbadx : (3000 < ps.length ∨ 3000 < cs.length) → xs.all P = false := by
        intro h
        rw [List.all_eq_false]
        exact ⟨_, hmem, by rw [hPx, decide_eq_false (fun hn => hn h)]; simp⟩
      repeat first | refine AWp.seq ?_ | refine AWp.block ?_
      refine AWp.ops ?_
      simp [hgs]
      by_cases b1 : 3000 < ps.length
      · have b1' : 3000 < (ps.length : Int) := by omega
        repeat first | refine AWp.seq ?_ | refine AWp.block ?_
        refine AWp.ops ?_
        simp [b1']
        refine AWp.cond (b := true) (by simp) (fun _ => ?_) (fun h => by cases h)
        repeat first | refine AWp.seq ?_ | refine AWp.block ?_
        refine AWp.ops ?_
        simp
        refine AWp.ret ?_
        simp
        refine retOk.of rfl ?_
        rw [hbadx (.inl b1)]; simp
      have b1' : ¬ 3000 < (ps.length : Int) := by omega
      by_cases b2 : 3000 < cs.length
      · have b2' : 3000 < (cs.length : Int) := by omega
        repeat first | refine AWp.seq ?_ | refine AWp.block ?_
        refine AWp.ops ?_
        simp [b1', b2']
        refine AWp.cond (b := true) (by simp [b2']) (fun _ => ?_) (fun h => by cases h)
        repeat first | refine AWp.seq ?_ | refine AWp.block ?_
        refine AWp.ops ?_
        simp
        refine AWp.ret ?_
        simp
        refine retOk.of rfl ?_
        rw [hbadx (.inr b2)]; simp
      have b2' : ¬ 3000 < (cs.length : Int) := by omega
      repeat first | refine AWp.seq ?_ | refine AWp.block ?_
      refine AWp.ops ?_
      simp [b1', b2']
      refine AWp.cond (b := false) (by simp) (fun h => by cases h) (fun _ => ?_)
      refine AWp.skip ?_
      simp only [qSeq, qBlock]
      repeat first | refine AWp.seq ?_ | refine AWp.block ?_
      refine AWp.ops ?_
      simp
      refine ⟨i + 1, _, _, (Weak.slots [1, 28, 29, 30]).trans (Weak.freeze 1 3 (by simp)), ?_, by omega⟩
      rw [hJ]
      refine ⟨by omega, ?_, by simp [frzH], by simp [wrap_i64 (n := (i : Int) + 1) (by omega) (by omega)]⟩
      exact hall.2 ⟨by rw [hPx]; exact decide_eq_true (by omega), hinv⟩
    ·
      intro hb
      have hb : ¬ i < xs.length := by simpa using hb
      refine AWp.exit ?_
      simp [qSeq, qBlock]
      rw [List.take_of_length_le (by omega)] at hinv
      repeat first | refine AWp.seq ?_ | refine AWp.block ?_
      refine AWp.ops ?_
      simp
      refine AWp.ret ?_
      simp
      refine retOk.of rfl ?_
      have : xs.all P = true := List.all_eq_true.2 hinv
      rw [this]; simp
  refine (base.frozen 2).mono ?_
  rintro q H' ⟨rfl, r, G, rfl, rfl⟩
  exact ⟨rfl, by simp⟩
end Go.Fw
