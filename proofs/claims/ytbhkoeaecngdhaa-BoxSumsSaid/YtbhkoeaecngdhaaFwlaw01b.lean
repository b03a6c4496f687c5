import Derived.Test.YtbhkoeaecngdhaaFwref01d
namespace Go.Fw
open Go Go.RowKit Go.Proofs
set_option maxRecDepth 100000
set_option linter.unusedSimpArgs false
set_option linter.unusedVariables false

def Dns (ds : List AV) (Ds : List (List Int × List Int)) : Prop := ds.length = Ds.length ∧ ∀ i (h : i < ds.length) (h' : i < Ds.length), Dn ds[i] Ds[i]
def fewB (D : List Int × List Int) : Bool := decide (D.1.length ≤ 20 ∧ D.2.length ≤ 70000)

def few_10 : AC := (.seq (.ops [⟨(some 11), none, (.k (.fad 0 (.t 4)))⟩, ⟨(some 12), none, (.k (.ld 1 false (.t 11)))⟩, ⟨(some 13), none, (.k (.len (.t 12)))⟩, ⟨(some 14), none, (.k (.bin .gtr (.t 13) (.c (.sc (.int .i64 20)))))⟩, ⟨(some 15), none, (.k (.mov (.t 14)))⟩, ⟨(some 16), (some (15, false)), (.k (.fad 1 (.t 4)))⟩, ⟨(some 17), (some (15, false)), (.k (.ld 1 false (.t 16)))⟩, ⟨(some 18), (some (15, false)), (.k (.len (.t 17)))⟩, ⟨(some 19), (some (15, false)), (.k (.bin .gtr (.t 18) (.c (.sc (.int .i64 70000)))))⟩, ⟨(some 20), none, (.k (.pick (.t 15) (.c (.sc (.bool true))) (.t 19)))⟩]) (.cond (.t 20) (.seq (.ops [⟨(some 2), none, (.k (.mov (.c (.sc (.bool false)))))⟩]) .ret) .skip))
def few_9 : AC := (.seq (.ops [⟨(some 9), none, (.k (.iad 2 (.t 5) (.t 7)))⟩, ⟨(some 10), none, (.k (.ld 2 true (.t 9)))⟩, ⟨(some 4), none, (.k (.new 35 2 (.c (.agg [(.imm true none 0 []), (.imm true none 0 [])]))))⟩, ⟨none, none, (.k (.st 2 (.t 4) (.t 10)))⟩]) few_10)
def few_8 : AC := (.block 1 few_9)
def few_7 : AC := (.seq few_8 (.ops [⟨(some 21), none, (.k (.bin .add (.t 7) (.c (.sc (.int .i64 1)))))⟩, ⟨(some 7), none, (.k (.mov (.t 21)))⟩]))
def few_6 : AC := (.seq (.cond (.t 8) .skip (.exit 0)) few_7)
def few_5 : AC := (.seq (.ops [⟨(some 8), none, (.k (.bin .lss (.t 7) (.t 6)))⟩]) few_6)
def few_4 : AC := (.loop few_5)
def few_3 : AC := (.block 0 few_4)
def few_2 : AC := (.seq (.ops [⟨(some 5), none, (.k (.mov (.t 0)))⟩, ⟨(some 6), none, (.k (.len (.t 5)))⟩, ⟨(some 7), none, (.k (.mov (.c (.sc (.int .i64 0)))))⟩]) few_3)
def few_1 : AC := (.seq few_2 (.seq (.ops [⟨(some 2), none, (.k (.mov (.c (.sc (.bool true)))))⟩]) .ret))
def few_ac : AC := (.seq (.ops [⟨(some 2), none, (.k (.mov (.c (.sc (.bool false)))))⟩]) few_1)
theorem few_call {args : List AV} {H : List AObj} {R : AV → List AObj → Prop} (h : AWp Try.prog [] H.length few_ac (bodyQ H.length [(.t 2)] R) (args ++ List.replicate (22 - args.length) .und) H) : ACalls Try.prog 19 args H R :=
  ACalls.of_fn Try.func19 rfl (by kernel_rfl) rfl Try.ntmps19 h

theorem few_spec {ds : List AV} {c : Option Nat} {Ds : List (List Int × List Int)} (hd : Dns ds Ds) (hn : ds.length ≤ 100) : ACalls Try.prog 19 [.imm false c 2 ds] [] fun r H' => H' = [] ∧ r = Bo (Ds.all fewB) := by
  refine ACalls.res 0 ?_ (fun _ => rfl)
  apply few_call
  first | refine AWp.seq (AWp.ops ?_) | refine AWp.seq (AWp.seq (AWp.ops ?_)) | refine AWp.ops ?_ | refine AWp.seq (AWp.block (AWp.seq (AWp.ops ?_))) | refine AWp.seq (AWp.seq (AWp.seq (AWp.ops ?_)))
  simp
  first | refine AWp.seq (AWp.ops ?_) | refine AWp.seq (AWp.seq (AWp.ops ?_)) | refine AWp.ops ?_ | refine AWp.seq (AWp.block (AWp.seq (AWp.ops ?_))) | refine AWp.seq (AWp.seq (AWp.seq (AWp.ops ?_)))
  simp
  obtain ⟨J, hJ⟩ : ∃ J : Nat → List AV → List AObj → Prop, J = fun i fr H => i ≤ ds.length ∧ ((Ds.take i).all fewB = true) ∧ H = [] ∧
    fr = [AV.imm false c 2 ds, .und, Bo false, .und, .und, AV.imm false c 2 ds, I ds.length, I i, .und, .und, .und, .und, .und, .und, .und, .und, .und, .und, .und, .und, .und, .und] := ⟨_, rfl⟩
  refine AWp.block (AWp.loop J (fun i => ds.length - i) 0 (Weak.slots [0, 2, 5, 6, 7]) (by rw [hJ]; exact ⟨by omega, by simp, by simp, by simp⟩) ?_)
  intro i fr H hI
  rw [hJ] at hI
  obtain ⟨hi, hinv, rfl, rfl⟩ := hI
  first | refine AWp.seq (AWp.ops ?_) | refine AWp.seq (AWp.seq (AWp.ops ?_)) | refine AWp.ops ?_ | refine AWp.seq (AWp.block (AWp.seq (AWp.ops ?_))) | refine AWp.seq (AWp.seq (AWp.seq (AWp.ops ?_)))
  simp
  refine AWp.seq (AWp.cond (b := decide (i < ds.length)) (by simp <;> omega) ?_ ?_)
  ·
    intro hb
    have hb : i < ds.length := by simpa using hb
    refine AWp.skip ?_
    simp only [qSeq]
    have hb' : i < Ds.length := by rw [← hd.1]; exact hb
    have hD := hd.2 i hb hb'
    obtain ⟨s, v, he, ⟨⟨nl, c1, sz, rfl, _⟩, _⟩, ⟨⟨nl', c', sz', rfl, _⟩, _⟩⟩ := hD
    have hg : ds[i]? = some (.agg [.imm nl c1 sz (Ds[i].1.map I), .imm nl' c' sz' (Ds[i].2.map I)]) := by rw [List.getElem?_eq_getElem hb, he]
    first | refine AWp.seq (AWp.ops ?_) | refine AWp.seq (AWp.seq (AWp.ops ?_)) | refine AWp.ops ?_ | refine AWp.seq (AWp.block (AWp.seq (AWp.ops ?_))) | refine AWp.seq (AWp.seq (AWp.seq (AWp.ops ?_)))
    simp [hg]
    first | refine AWp.seq (AWp.ops ?_) | refine AWp.seq (AWp.seq (AWp.ops ?_)) | refine AWp.ops ?_ | refine AWp.seq (AWp.block (AWp.seq (AWp.ops ?_))) | refine AWp.seq (AWp.seq (AWp.seq (AWp.ops ?_)))
    simp
    have hall : (Ds.take (i + 1)).all fewB = fewB Ds[i] := by
      rw [List.take_succ_eq_append_getElem hb', List.all_append, hinv]
      simp
    have bad : fewB Ds[i] = false → Ds.all fewB = false := by
      intro h
      rw [List.all_eq_false]
      exact ⟨_, List.getElem_mem hb', by simp [h]⟩
    by_cases h1 : Ds[i].1.length ≤ 20
    · have g1 : (Ds[i].1.length : Int) ≤ 20 := by omega
      simp [g1]
      by_cases h2 : Ds[i].2.length ≤ 70000
      · have g2 : ¬ 70000 < (Ds[i].2.length : Int) := by omega
        simp [g2, Int.not_lt.1 g2]
        refine AWp.cond (b := false) (by simp [g1]) (fun h => by cases h) (fun _ => ?_)
        refine AWp.skip ?_
        simp only [qSeq, qBlock]
        first | refine AWp.seq (AWp.ops ?_) | refine AWp.seq (AWp.seq (AWp.ops ?_)) | refine AWp.ops ?_ | refine AWp.seq (AWp.block (AWp.seq (AWp.ops ?_))) | refine AWp.seq (AWp.seq (AWp.seq (AWp.ops ?_)))
        simp
        refine ⟨i + 1, _, _, (Weak.slots [0, 2, 5, 6, 7]).trans (Weak.freeze 0 1 (by simp)), ?_, by omega⟩
        rw [hJ]
        refine ⟨by omega, ?_, by simp [frzH], by simp [wrap_i64 (n := (i : Int) + 1) (by omega) (by omega)]⟩
        rw [hall]
        simp [fewB, h1, h2]
      · have g2 : 70000 < (Ds[i].2.length : Int) := by omega
        simp [g2]
        refine AWp.cond (b := true) (by simp) (fun _ => ?_) (fun h => by cases h)
        first | refine AWp.seq (AWp.ops ?_) | refine AWp.seq (AWp.seq (AWp.ops ?_)) | refine AWp.ops ?_ | refine AWp.seq (AWp.block (AWp.seq (AWp.ops ?_))) | refine AWp.seq (AWp.seq (AWp.seq (AWp.ops ?_)))
        simp
        refine AWp.ret ?_
        simp
        refine retOk.of rfl ?_
        simp [bad (by simp [fewB, h2])]
    · have g1 : 20 < (Ds[i].1.length : Int) := by omega
      simp [g1, Int.not_le.2 g1]
      refine AWp.cond (b := true) (by simp) (fun _ => ?_) (fun h => by cases h)
      first | refine AWp.seq (AWp.ops ?_) | refine AWp.seq (AWp.seq (AWp.ops ?_)) | refine AWp.ops ?_ | refine AWp.seq (AWp.block (AWp.seq (AWp.ops ?_))) | refine AWp.seq (AWp.seq (AWp.seq (AWp.ops ?_)))
      simp
      refine AWp.ret ?_
      simp
      refine retOk.of rfl ?_
      simp [bad (by simp [fewB, h1])]
  ·
    intro hb
    have hb : ¬ i < ds.length := by simpa using hb
    refine AWp.exit ?_
    simp [qSeq, qBlock]
    first | refine AWp.seq (AWp.ops ?_) | refine AWp.seq (AWp.seq (AWp.ops ?_)) | refine AWp.ops ?_ | refine AWp.seq (AWp.block (AWp.seq (AWp.ops ?_))) | refine AWp.seq (AWp.seq (AWp.seq (AWp.ops ?_)))
    simp
    refine AWp.ret ?_
    simp
    refine retOk.of rfl ?_
    have : Ds.take i = Ds := List.take_of_length_le (by have := hd.1; omega)
    rw [this] at hinv
    simp [hinv]
end Go.Fw
