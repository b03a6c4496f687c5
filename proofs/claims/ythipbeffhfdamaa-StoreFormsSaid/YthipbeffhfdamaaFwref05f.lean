import Derived.Test.YthipbeffhfdamaaFwref05e
import Derived.Test.YthipbeffhfdamaaFwrefc
namespace Go.Fw
open Go Go.RowKit Go.Proofs
set_option maxRecDepth 100000
set_option linter.unusedSimpArgs false
set_option linter.unusedVariables false

def rsizes_18 : AC := (.cond (.t 31) (.ops [⟨(some 32), none, (.k (.mov (.t 8)))⟩, ⟨(some 33), none, (.k (.mov (.t 9)))⟩, ⟨(some 34), none, (.k (.bin .quo (.t 32) (.t 33)))⟩, ⟨(some 8), none, (.k (.mov (.t 34)))⟩]) .skip)
def rsizes_17 : AC := (.seq (.ops [⟨(some 30), none, (.k (.mov (.t 9)))⟩, ⟨(some 31), none, (.k (.bin .gtr (.t 30) (.c (.sc (.int .i64 0)))))⟩]) rsizes_18)
def rsizes_16 : AC := (.seq (.ops [⟨(some 26), none, (.k (.mov (.t 1)))⟩, ⟨(some 27), none, (.k (.fad 1 (.t 7)))⟩, ⟨(some 28), none, (.k (.ld 1 false (.t 27)))⟩, ⟨(some 29), none, (.call false (.c (.fn (.func 73) [] [])) [(.t 26), (.t 28)])⟩, ⟨(some 9), none, (.k (.mov (.t 29)))⟩]) rsizes_17)
def rsizes_15 : AC := (.seq (.ops [⟨(some 21), none, (.k (.mov (.t 0)))⟩, ⟨(some 22), none, (.k (.fad 1 (.t 7)))⟩, ⟨(some 23), none, (.k (.ld 1 false (.t 22)))⟩, ⟨(some 24), none, (.k (.iad 1 (.t 21) (.t 23)))⟩, ⟨(some 25), none, (.k (.ld 1 false (.t 24)))⟩, ⟨(some 8), none, (.k (.mov (.t 25)))⟩]) rsizes_16)
def rsizes_14 : AC := (.cond (.t 20) rsizes_15 .skip)
def rsizes_13 : AC := (.seq (.ops [⟨(some 18), none, (.k (.fad 0 (.t 7)))⟩, ⟨(some 19), none, (.k (.ld 1 false (.t 18)))⟩, ⟨(some 20), none, (.k (.bin .neq (.t 19) (.c (.sc (.int .i64 4)))))⟩]) rsizes_14)
def rsizes_12 : AC := (.seq rsizes_13 (.ops [⟨(some 35), none, (.k (.mov (.t 5)))⟩, ⟨(some 36), none, (.k (.mov (.t 8)))⟩, ⟨(some 37), none, (.k (.lit 1 [(.t 36)]))⟩, ⟨(some 38), none, (.k (.app 3 1 8 (.t 35) (.t 37)))⟩, ⟨(some 5), none, (.k (.mov (.t 38)))⟩]))
def rsizes_11 : AC := (.seq (.ops [⟨(some 16), none, (.k (.fad 2 (.t 7)))⟩, ⟨(some 17), none, (.k (.ld 1 false (.t 16)))⟩, ⟨(some 8), none, (.k (.mov (.t 17)))⟩]) rsizes_12)
def rsizes_10 : AC := (.seq (.ops [⟨(some 14), none, (.k (.iad 3 (.t 10) (.t 12)))⟩, ⟨(some 15), none, (.k (.ld 3 true (.t 14)))⟩, ⟨(some 7), none, (.k (.new 43 3 (.c (.agg [(.sc (.int .i64 0)), (.sc (.int .i64 0)), (.sc (.int .i64 0))]))))⟩, ⟨none, none, (.k (.st 3 (.t 7) (.t 15)))⟩]) rsizes_11)
def rsizes_9 : AC := (.block 1 rsizes_10)
def rsizes_8 : AC := (.seq rsizes_9 (.ops [⟨(some 39), none, (.k (.bin .add (.t 12) (.c (.sc (.int .i64 1)))))⟩, ⟨(some 12), none, (.k (.mov (.t 39)))⟩]))
def rsizes_7 : AC := (.seq (.cond (.t 13) .skip (.exit 0)) rsizes_8)
def rsizes_6 : AC := (.seq (.ops [⟨(some 13), none, (.k (.bin .lss (.t 12) (.t 11)))⟩]) rsizes_7)
def rsizes_5 : AC := (.loop rsizes_6)
def rsizes_4 : AC := (.block 0 rsizes_5)
def rsizes_3 : AC := (.seq (.ops [⟨(some 10), none, (.k (.mov (.t 1)))⟩, ⟨(some 11), none, (.k (.len (.t 10)))⟩, ⟨(some 12), none, (.k (.mov (.c (.sc (.int .i64 0)))))⟩]) rsizes_4)
def rsizes_2 : AC := (.seq rsizes_3 (.seq (.ops [⟨(some 40), none, (.k (.mov (.t 5)))⟩, ⟨(some 4), none, (.k (.mov (.t 40)))⟩]) .ret))
def rsizes_1 : AC := (.seq (.ops [⟨(some 5), none, (.k (.mov (.c (.imm true none 0 []))))⟩]) rsizes_2)
def rsizes_ac : AC := (.seq (.ops [⟨(some 4), none, (.k (.mov (.c (.imm true none 0 []))))⟩]) rsizes_1)
theorem rsizes_call {args : List AV} {H : List AObj} {R : AV → List AObj → Prop} (h : AWp Try.prog [] H.length rsizes_ac (bodyQ H.length [(.t 4)] R) (args ++ List.replicate (41 - args.length) .und) H) : ACalls Try.prog 41 args H R :=
  ACalls.of_fn Try.func41 rfl (by kernel_rfl) rfl Try.ntmps41 h

set_option maxHeartbeats 4000000 in
theorem rsizes_spec {a b : AV} {xs : List Int} {fs : List (Int × Int × Int)} (ha : ISl a xs) (hb : Sp b fs) (hf : fs.length ≤ 1000) (hxn : ∀ x ∈ xs, 0 ≤ x) (hmo : ∀ s ∈ fs, 0 ≤ s.2.1 ∧ s.2.1 < xs.length) (hbl : ∀ s ∈ fs, 0 ≤ blockF fs s.2.1 ∧ blockF fs s.2.1 ≤ 9223372036854775807) :
    ACalls Try.prog 41 [a, b] [] fun r H' => H' = [] ∧ ISl r (fs.map (lvlR xs fs)) := by
  have hb' := hb
  obtain ⟨⟨nl, c, sz, rfl, hs⟩, hlen, hx⟩ := ha
  obtain ⟨⟨nl', c', sz', rfl, hs'⟩, hlen', hx'⟩ := hb
  have hin : ∀ x ∈ fs.map (lvlR xs fs), -9223372036854775808 ≤ x ∧ x ≤ 9223372036854775807 := by
    intro x hxm
    obtain ⟨s, hsm, rfl⟩ := List.mem_map.1 hxm
    obtain ⟨h1, h2⟩ := hmo s hsm
    have hget : xs.getD s.2.1.toNat 0 = xs[s.2.1.toNat]'(by omega) := by simp [(by omega : s.2.1.toNat < xs.length)]
    have h3 := hxn _ (List.getElem_mem (by omega : s.2.1.toNat < xs.length))
    have h4 := hx _ (List.getElem_mem (by omega : s.2.1.toNat < xs.length))
    unfold lvlR
    rw [hget]
    split
    · exact (hx' s hsm).2.2
    · split
      · rename_i hp
        have h5 : (xs[s.2.1.toNat]'(by omega)).tdiv (blockF fs s.2.1) ≤ xs[s.2.1.toNat]'(by omega) := by rw [Int.tdiv_eq_ediv_of_nonneg h3]; exact Int.ediv_le_self _ h3
        have h6 : 0 ≤ (xs[s.2.1.toNat]'(by omega)).tdiv (blockF fs s.2.1) := Int.tdiv_nonneg h3 (by omega)
        omega
      · exact h4
  have base : ACalls Try.prog 41 [.imm nl c sz (xs.map I), .imm nl' c' sz' (fs.map specV)] [] fun r H' => ∃ v, (v = some true → fs.map (lvlR xs fs) = []) ∧ v ≠ some false ∧ r = .slc 0 (fs.map (lvlR xs fs)).length 0 (fs.map (lvlR xs fs)).length none ∧ H' = [⟨3, 1, (fs.map (lvlR xs fs)).map I, true, v⟩] := by
    apply rsizes_call
    repeat first | refine AWp.seq ?_ | refine AWp.block ?_
    refine AWp.ops ?_
    simp
    repeat first | refine AWp.seq ?_ | refine AWp.block ?_
    refine AWp.ops ?_
    simp
    refine AWp.weak (Weak.own 5 3 1 (by omega) none 0 (by simp)) ?_
    simp
    repeat first | refine AWp.seq ?_ | refine AWp.block ?_
    refine AWp.ops ?_
    simp
    obtain ⟨J, hJ⟩ : ∃ J : Nat → List AV → List AObj → Prop, J = fun i fr H => i ≤ fs.length ∧ ∃ (ws : List Int) (v : Option Bool), (ws = (fs.take i).map (lvlR xs fs) ∧ (v = some true → ws = []) ∧ v ≠ some false) ∧ H = [⟨3, 1, ws.map I, true, v⟩] ∧
      fr = [.imm nl c sz (xs.map I), .imm nl' c' sz' (fs.map specV), .und, .und, .und, .slc 0 ws.length 0 ws.length none, .und, .und, .und, .und, .imm nl' c' sz' (fs.map specV), I fs.length, I i, .und, .und, .und, .und, .und, .und, .und, .und, .und, .und, .und, .und, .und, .und, .und, .und, .und, .und, .und, .und, .und, .und, .und, .und, .und, .und, .und, .und] := ⟨_, rfl⟩
    refine AWp.block (AWp.loop J (fun i => fs.length - i) 0 (Weak.slots [0, 1, 5, 10, 11, 12]) (by rw [hJ]; exact ⟨by omega, [], some true, ⟨by simp, by simp, by simp⟩, by simp, by simp⟩) ?_)
    intro i fr H hI
    rw [hJ] at hI
    obtain ⟨hi, ws, v, hinv, rfl, rfl⟩ := hI
    repeat first | refine AWp.seq ?_ | refine AWp.block ?_
    refine AWp.ops ?_
    simp
    refine AWp.seq (AWp.cond (b := decide (i < fs.length)) (by simp <;> omega) ?_ ?_)
    ·
      intro hb
      have hb : i < fs.length := by simpa using hb
      refine AWp.skip ?_
      simp only [qSeq]
      obtain ⟨hws, hv1, hv2⟩ := hinv
      have hsz3 := sz3_of hs' hb
      subst hsz3
      have hgs := spec_get hb
      have hwl : ws.length = i := by rw [hws]; simp; omega
      have hm := hmo fs[i] (List.getElem_mem hb)
      have hbk := hbl fs[i] (List.getElem_mem hb)
      have hst : (fs.take (i + 1)).map (lvlR xs fs) = ws ++ [lvlR xs fs fs[i]] := by rw [List.take_succ_eq_append_getElem hb, List.map_append, hws]; rfl
      generalize fs[i] = sp at hgs hm hbk hst
      obtain ⟨k, mo, z⟩ := sp
      simp only at hgs hm hbk
      obtain ⟨j, rfl⟩ : ∃ j : Nat, mo = j := ⟨mo.toNat, by omega⟩
      have hj : j < xs.length := by omega
      have hszx := sz_of hs hj
      subst hszx
      have gX : xs.getD j 0 = xs[j] := by simp [hj]
      have hxj := hxn xs[j] (List.getElem_mem hj)
      have hxr := hx xs[j] (List.getElem_mem hj)
      obtain ⟨blk, hblk⟩ : ∃ blk, blk = blockF fs j := ⟨_, rfl⟩
      obtain ⟨V, hV⟩ : ∃ V, V = lvlR xs fs (k, (j : Int), z) := ⟨_, rfl⟩
      rw [← hblk] at hbk
      rw [← hV] at hst
      have hVe : V = if k = 4 then z else if 0 < blk then xs[j].tdiv blk else xs[j] := by
        rw [hV]
        simp only [lvlR, Int.toNat_natCast, gX, ← hblk]
      repeat first | refine AWp.seq ?_ | refine AWp.block ?_
      refine AWp.ops ?_
      simp [hgs]
      repeat first | refine AWp.seq ?_ | refine AWp.block ?_
      refine AWp.ops ?_
      simp
      refine AWp.cut [.imm nl c 1 (xs.map I), .imm nl' c' 3 (fs.map specV), .und, .und, .und, .slc 0 ws.length 0 ws.length none, .und, .und, I V, .und, .imm nl' c' 3 (fs.map specV), I fs.length, I i, .und, .und, .und, .und, .und, .und, .und, .und, .und, .und, .und, .und, .und, .und, .und, .und, .und, .und, .und, .und, .und, .und, .und, .und, .und, .und, .und, .und] [⟨3, 1, ws.map I, true, v⟩] ?_ ?_
      ·
        repeat first | refine AWp.seq ?_ | refine AWp.block ?_
        refine AWp.ops ?_
        simp
        by_cases k4 : k = 4
        · rw [if_pos k4] at hVe
          refine AWp.cond (b := false) (by simp [k4]) (fun h => by cases h) (fun _ => ?_)
          refine AWp.skip ?_
          simp only [qSeq]
          exact ((Weak.slots [0, 1, 5, 8, 10, 11, 12]).trans (Weak.freeze 1 2 (by simp))).to (by simp [hVe]) (by simp [frzH])
        rw [if_neg k4] at hVe
        refine AWp.cond (b := true) (by simp [k4]) (fun _ => ?_) (fun h => by cases h)
        repeat first | refine AWp.seq ?_ | refine AWp.block ?_
        refine AWp.ops ?_
        simp [hj]
        repeat first | refine AWp.seq ?_ | refine AWp.block ?_
        refine AWp.ops ?_
        simp
        refine ((rBlock_spec (mode := (j : Int)) hb' hf).pure (by simp) (by rintro r rfl; simp) _).mono ?_
        rintro r H' ⟨rfl, rfl⟩
        rw [← hblk]
        simp
        repeat first | refine AWp.seq ?_ | refine AWp.block ?_
        refine AWp.ops ?_
        simp
        by_cases hp : 0 < blk
        · rw [if_pos hp] at hVe
          have hbn : ¬ blk = 0 := by omega
          have hwv : IntKind.i64.wrap (xs[j].tdiv blk) = V := by
            rw [hVe]
            have h1 : xs[j].tdiv blk ≤ xs[j] := by rw [Int.tdiv_eq_ediv_of_nonneg hxj]; exact Int.ediv_le_self _ hxj
            have h2 : 0 ≤ xs[j].tdiv blk := Int.tdiv_nonneg hxj (by omega)
            exact wrap_i64 (by omega) (by omega)
          refine AWp.cond (b := true) (by simp [hp]) (fun _ => ?_) (fun h => by cases h)
          repeat first | refine AWp.seq ?_ | refine AWp.block ?_
          refine AWp.ops ?_
          simp [hbn, hwv]
          exact ((Weak.slots [0, 1, 5, 8, 10, 11, 12]).trans (Weak.freeze 1 2 (by simp))).to (by simp) (by simp [frzH])
        · rw [if_neg hp] at hVe
          refine AWp.cond (b := false) (by simp <;> omega) (fun h => by cases h) (fun _ => ?_)
          refine AWp.skip ?_
          simp only [qSeq]
          exact ((Weak.slots [0, 1, 5, 8, 10, 11, 12]).trans (Weak.freeze 1 2 (by simp))).to (by simp [hVe]) (by simp [frzH])
      have b1 : (ws.length + 1) * 8 ≤ 140737488355328 := by omega
      have b2 : ws.length + 1 ≤ 9223372036854775807 := by omega
      repeat first | refine AWp.seq ?_ | refine AWp.block ?_
      refine AWp.ops ?_
      simp [b1, b2, elems]
      repeat first | refine AWp.seq ?_ | refine AWp.block ?_
      refine AWp.ops ?_
      simp
      refine ⟨i + 1, _, _, Weak.slots [0, 1, 5, 10, 11, 12], ?_, by omega⟩
      rw [hJ]
      refine ⟨by omega, ws ++ [V], none, ?_, by simp, by simp [wrap_i64 (n := (i : Int) + 1) (by omega) (by omega)]⟩
      exact ⟨hst.symm, by simp, by simp⟩
    ·
      intro hb
      have hb : ¬ i < fs.length := by simpa using hb
      refine AWp.exit ?_
      simp [qSeq, qBlock]
      obtain ⟨hws, hv1, hv2⟩ := hinv
      have e : fs.take i = fs := List.take_of_length_le (by omega)
      rw [e] at hws
      repeat first | refine AWp.seq ?_ | refine AWp.block ?_
      refine AWp.ops ?_
      simp
      refine AWp.ret ?_
      simp
      refine retOk.of rfl ⟨v, fun h => ?_, hv2, by simp [hws], by simp [hws]⟩
      have := hv1 h
      rw [hws] at this
      simpa using this
  refine (base.frozen 2).mono ?_
  rintro q H' ⟨rfl, r, G, ⟨v, hv1, hv2, rfl, rfl⟩, rfl⟩
  refine ⟨rfl, ?_⟩
  match v, hv1, hv2 with
  | some true, hv1, _ =>
    have h0 := hv1 rfl
    rw [h0]
    exact ⟨⟨true, none, 1, by simp, by simp, by simp⟩, by simp, by simp⟩
  | none, _, _ => exact ⟨⟨false, none, 1, by simp, by simp, by simp⟩, by simp; omega, hin⟩
  | some false, _, h => exact absurd rfl h
end Go.Fw
