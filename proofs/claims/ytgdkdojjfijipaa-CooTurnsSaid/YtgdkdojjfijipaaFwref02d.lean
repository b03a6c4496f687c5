import Derived.Test.YtgdkdojjfijipaaFwzero1
import Derived.Test.YtgdkdojjfijipaaFwcoo1
import Derived.Test.YtgdkdojjfijipaaFwref02b
namespace Go.Fw
open Go Go.RowKit Go.Proofs
set_option maxRecDepth 100000
set_option linter.unusedSimpArgs false
set_option linter.unusedVariables false

/-- Places of the shape, and a number's. -/
def InS (S : List Int) (c : List Int) : Prop := c.length = S.length ∧ ∀ i < S.length, 0 ≤ c.getD i 0 ∧ c.getD i 0 < S.getD i 0
theorem atGo_ins : ∀ (xs cs : List Int) (n : Int), cs.length = xs.length → (atGo xs cs n).2 = 0 → ∀ i < xs.length, 0 ≤ cs.getD i 0 ∧ cs.getD i 0 < xs.getD i 0
  | [], cs, n, _, _, i, hi => by simp at hi
  | s :: r, [], n, h, _, _, _ => by simp at h
  | s :: r, c :: q, n, h, ha, i, hi => by
    simp only [atGo] at ha
    split at ha
    · simp at ha
    · rename_i hb
      cases i with
      | zero => simp only [List.getD_cons_zero]; omega
      | succ i => simpa using atGo_ins r q _ (by simpa using h) ha i (by simpa using hi)
theorem atF_ins {S c : List Int} (h : (atF S c).2 = 0) : InS S c := by
  unfold atF at h
  split at h
  · rename_i h1
    exact absurd h h1
  split at h
  · simp at h
  rename_i h2
  have hl : c.length = S.length := by
    by_cases e : c.length = S.length
    · exact e
    · exact absurd e h2
  exact ⟨hl, atGo_ins S c 0 hl h⟩

end Go.Fw
namespace Go.Fw
open Go Go.RowKit Go.Proofs
set_option maxRecDepth 100000
set_option linter.unusedSimpArgs false
set_option linter.unusedVariables false

/-- How many entries have a number at a mode. -/
def cntAt (m : Nat) (E : List (List Int × Int)) (i : Int) : Nat := (E.filter fun t => decide (t.1.getD m 0 = i)).length
def countL (n m : Nat) (E : List (List Int × Int)) : List Int := (List.range n).map fun (i : Nat) => (cntAt m E i : Int)
def countF (X : List Int × List (List Int × Int)) (mode : Int) : List Int × Int :=
  if cooCheck X.1 X.2 ≠ 0 then ([], cooCheck X.1 X.2) else if mode < 0 ∨ X.1.length ≤ mode then ([], 3) else if X.1.getD mode.toNat 0 > 65536 then ([], 2) else (countL (X.1.getD mode.toNat 0).toNat mode.toNat X.2, 0)
theorem cntAt_snoc (m : Nat) (E : List (List Int × Int)) (t : List Int × Int) (i : Int) : cntAt m (E ++ [t]) i = cntAt m E i + if t.1.getD m 0 = i then 1 else 0 := by
  simp only [cntAt, List.filter_append]
  by_cases h : t.1.getD m 0 = i
  · rw [if_pos h, List.filter_cons_of_pos (by simpa using h)]; simp
  · rw [if_neg h, List.filter_cons_of_neg (by simpa using h)]; simp
theorem cntAt_le (m : Nat) (E : List (List Int × Int)) (i : Int) : cntAt m E i ≤ E.length := List.length_filter_le _ _
@[simp] theorem countL_len (n m : Nat) (E : List (List Int × Int)) : (countL n m E).length = n := by simp [countL]
theorem countL_get {n m : Nat} {E : List (List Int × Int)} {i : Nat} (h : i < (countL n m E).length) : (countL n m E)[i] = cntAt m E i := by simp [countL]
theorem countL_snoc {n m : Nat} {E : List (List Int × Int)} {t : List Int × Int} {k : Nat} (hk : t.1.getD m 0 = k) : countL n m (E ++ [t]) = (countL n m E).set k ((cntAt m E k : Int) + 1) := by
  apply List.ext_getElem (by simp)
  intro i h1 h2
  rw [List.getElem_set, countL_get]
  split
  · rename_i e
    subst e
    rw [cntAt_snoc, if_pos hk]; omega
  · rename_i e
    rw [countL_get, cntAt_snoc, if_neg (by rw [hk]; omega)]; omega
theorem countL_nil (n m : Nat) : countL n m [] = List.replicate n 0 := by
  apply List.ext_getElem (by simp)
  intro i h1 h2
  simp [countL, cntAt]

theorem cooCheck_rng {S : List Int} {E : List (List Int × Int)} (h : cooCheck S E = 0) : ∀ t ∈ E, InS S t.1 := by
  unfold cooCheck at h
  split at h
  · rename_i h1; exact absurd h h1
  split at h
  · cases h
  split at h
  · cases h
  rename_i h3
  intro t ht
  have h3 : E.any (fun t => decide ((atF S t.1).2 ≠ 0)) = false := by simpa using h3
  exact atF_ins (by have := List.any_eq_false.1 h3 t ht; simpa using this)
theorem cells_nn {S : List Int} (h : (cells S).2 = 0) : ∀ x ∈ S, 0 ≤ x := by
  unfold cells at h
  split at h
  · cases h
  · rename_i h1
    intro x hx
    by_cases h0 : x < 0
    · exact absurd (.inr (List.any_eq_true.2 ⟨x, hx, by simpa using h0⟩)) h1
    · omega
theorem cooCheck_dims {S : List Int} {E : List (List Int × Int)} (h : cooCheck S E = 0) : S.length ≤ 4 ∧ E.length ≤ 65536 ∧ (cells S).2 = 0 := by
  unfold cooCheck at h
  split at h
  · rename_i h1; exact absurd h h1
  split at h
  · cases h
  exact ⟨cells_len (by omega), by omega, by omega⟩

def cCount_21 : AC := (.seq (.ops [⟨(some 57), none, (.k (.mov (.t 7)))⟩, ⟨(some 4), none, (.k (.mov (.t 57)))⟩, ⟨(some 5), none, (.k (.mov (.c (.sc (.int .i64 0)))))⟩]) .ret)
def cCount_20 : AC := (.seq (.ops [⟨(some 44), none, (.k (.iad 2 (.t 40) (.t 42)))⟩, ⟨(some 45), none, (.k (.ld 2 true (.t 44)))⟩, ⟨(some 9), none, (.k (.new 38 2 (.c (.agg [(.imm true none 0 []), (.sc (.int .i64 0))]))))⟩, ⟨none, none, (.k (.st 2 (.t 9) (.t 45)))⟩]) (.ops [⟨(some 46), none, (.k (.mov (.t 7)))⟩, ⟨(some 47), none, (.k (.fad 0 (.t 9)))⟩, ⟨(some 48), none, (.k (.ld 1 false (.t 47)))⟩, ⟨(some 49), none, (.k (.mov (.t 1)))⟩, ⟨(some 50), none, (.k (.iad 1 (.t 48) (.t 49)))⟩, ⟨(some 51), none, (.k (.ld 1 false (.t 50)))⟩, ⟨(some 52), none, (.k (.iad 1 (.t 46) (.t 51)))⟩, ⟨(some 53), none, (.k (.ld 1 false (.t 52)))⟩, ⟨(some 54), none, (.k (.bin .add (.t 53) (.c (.sc (.int .i64 1)))))⟩, ⟨(some 55), none, (.k (.iad 1 (.t 46) (.t 51)))⟩, ⟨none, none, (.k (.st 1 (.t 55) (.t 54)))⟩]))
def cCount_19 : AC := (.block 2 cCount_20)
def cCount_18 : AC := (.seq cCount_19 (.ops [⟨(some 56), none, (.k (.bin .add (.t 42) (.c (.sc (.int .i64 1)))))⟩, ⟨(some 42), none, (.k (.mov (.t 56)))⟩]))
def cCount_17 : AC := (.seq (.cond (.t 43) .skip (.exit 1)) cCount_18)
def cCount_16 : AC := (.seq (.ops [⟨(some 43), none, (.k (.bin .lss (.t 42) (.t 41)))⟩]) cCount_17)
def cCount_15 : AC := (.loop cCount_16)
def cCount_14 : AC := (.block 1 cCount_15)
def cCount_13 : AC := (.seq (.ops [⟨(some 39), none, (.k (.fad 1 (.t 2)))⟩, ⟨(some 40), none, (.k (.ld 1 false (.t 39)))⟩, ⟨(some 41), none, (.k (.len (.t 40)))⟩, ⟨(some 42), none, (.k (.mov (.c (.sc (.int .i64 0)))))⟩]) cCount_14)
def cCount_12 : AC := (.seq cCount_13 cCount_21)
def cCount_11 : AC := (.seq (.ops [⟨(some 33), none, (.k (.fad 0 (.t 2)))⟩, ⟨(some 34), none, (.k (.ld 1 false (.t 33)))⟩, ⟨(some 35), none, (.k (.mov (.t 1)))⟩, ⟨(some 36), none, (.k (.iad 1 (.t 34) (.t 35)))⟩, ⟨(some 37), none, (.k (.ld 1 false (.t 36)))⟩, ⟨(some 38), none, (.k (.mkS 3 1 8 (.sc (.int .i64 0)) (.t 37) (.t 37)))⟩, ⟨(some 7), none, (.k (.mov (.t 38)))⟩]) cCount_12)
def cCount_10 : AC := (.cond (.t 26) (.seq (.ops [⟨(some 4), none, (.k (.mov (.c (.imm true none 0 []))))⟩, ⟨(some 5), none, (.k (.mov (.c (.sc (.int .i64 2)))))⟩]) .ret) .skip)
def cCount_9 : AC := (.seq (.ops [⟨(some 27), none, (.k (.fad 0 (.t 2)))⟩, ⟨(some 28), none, (.k (.ld 1 false (.t 27)))⟩, ⟨(some 29), none, (.k (.mov (.t 1)))⟩, ⟨(some 30), none, (.k (.iad 1 (.t 28) (.t 29)))⟩, ⟨(some 31), none, (.k (.ld 1 false (.t 30)))⟩, ⟨(some 32), none, (.k (.bin .gtr (.t 31) (.c (.sc (.int .i64 65536)))))⟩, ⟨(some 26), none, (.k (.mov (.t 32)))⟩]) cCount_10)
def cCount_8 : AC := (.cond (.t 16) (.seq (.ops [⟨(some 4), none, (.k (.mov (.c (.imm true none 0 []))))⟩, ⟨(some 5), none, (.k (.mov (.c (.sc (.int .i64 3)))))⟩]) .ret) cCount_9)
def cCount_7 : AC := (.seq (.ops [⟨(some 17), none, (.k (.mov (.t 1)))⟩, ⟨(some 18), none, (.k (.bin .lss (.t 17) (.c (.sc (.int .i64 0)))))⟩, ⟨(some 19), none, (.k (.mov (.t 18)))⟩, ⟨(some 20), (some (19, false)), (.k (.mov (.t 1)))⟩, ⟨(some 21), (some (19, false)), (.k (.fad 0 (.t 2)))⟩, ⟨(some 22), (some (19, false)), (.k (.ld 1 false (.t 21)))⟩, ⟨(some 23), (some (19, false)), (.k (.len (.t 22)))⟩, ⟨(some 24), (some (19, false)), (.k (.bin .geq (.t 20) (.t 23)))⟩, ⟨(some 25), none, (.k (.pick (.t 19) (.c (.sc (.bool true))) (.t 24)))⟩, ⟨(some 16), none, (.k (.mov (.t 25)))⟩]) cCount_8)
def cCount_6 : AC := (.seq (.ops [⟨(some 15), none, (.k (.mov (.t 6)))⟩, ⟨(some 4), none, (.k (.mov (.c (.imm true none 0 []))))⟩, ⟨(some 5), none, (.k (.mov (.t 15)))⟩]) .ret)
def cCount_5 : AC := (.cond (.t 12) cCount_6 cCount_7)
def cCount_4 : AC := (.seq (.ops [⟨(some 13), none, (.k (.mov (.t 6)))⟩, ⟨(some 14), none, (.k (.bin .neq (.t 13) (.c (.sc (.int .i64 0)))))⟩, ⟨(some 12), none, (.k (.mov (.t 14)))⟩]) cCount_5)
def cCount_3 : AC := (.block 0 cCount_4)
def cCount_2 : AC := (.seq (.ops [⟨(some 10), none, (.k (.ld 2 true (.t 2)))⟩, ⟨(some 11), none, (.call false (.c (.fn (.func 13) [] [])) [(.t 10)])⟩, ⟨(some 6), none, (.k (.mov (.t 11)))⟩]) cCount_3)
def cCount_1 : AC := (.seq cCount_2 cCount_11)
def cCount_ac : AC := (.seq (.ops [⟨(some 2), none, (.k (.new 25 2 (.t 0)))⟩, ⟨(some 4), none, (.k (.mov (.c (.imm true none 0 []))))⟩, ⟨(some 5), none, (.k (.mov (.c (.sc (.int .i64 0)))))⟩]) cCount_1)
theorem cCount_call {args : List AV} {H : List AObj} {R : AV → List AObj → Prop} (h : AWp Try.prog [] H.length cCount_ac (bodyQ H.length [(.t 4), (.t 5)] R) (args ++ List.replicate (58 - args.length) .und) H) : ACalls Try.prog 14 args H R :=
  ACalls.of_fn Try.func14 rfl (by kernel_rfl) rfl Try.ntmps14 h

set_option maxHeartbeats 4000000 in
theorem cCount_spec {a : AV} {X : List Int × List (List Int × Int)} {mode : Int} (ha : Coo a X) : ACalls Try.prog 14 [a, I mode] [] fun r H' => H' = [] ∧ ∃ q, r = .tup [q, I (countF X mode).2] ∧ ISl q (countF X mode).1 := by
  have ha' := ha
  obtain ⟨S, E⟩ := X
  obtain ⟨s, e, rfl, hS, hE⟩ := ha
  simp only at hS hE
  have hS' := hS
  obtain ⟨⟨nl1, c01, sz1, rfl, hs1⟩, hlen1, hx1⟩ := hS
  obtain ⟨nl, cl, sz, es, rfl, he1, he2, hE⟩ := hE
  have hel := hE.1
  have base : ACalls Try.prog 14 [.agg [.imm nl1 c01 sz1 (S.map I), .imm nl cl sz es], I mode] [] fun r G => (r = .tup [.imm true none 0 [], I (countF (S, E) mode).2] ∧ (countF (S, E) mode).1 = []) ∨ ((countF (S, E) mode).2 = 0 ∧ r = .tup [.slc 1 (countF (S, E) mode).1.length 0 (countF (S, E) mode).1.length none, I 0] ∧ G[1]? = some (intOb (countF (S, E) mode).1) ∧ InI (countF (S, E) mode).1) := by
    apply cCount_call
    repeat first | refine AWp.seq ?_ | refine AWp.block ?_
    refine AWp.ops ?_
    simp
    repeat first | refine AWp.seq ?_ | refine AWp.block ?_
    refine AWp.ops ?_
    simp
    refine ((cCheck_spec ha').pure (by simp) (by rintro r rfl; simp) _).mono ?_
    rintro r H' ⟨rfl, rfl⟩
    simp
    repeat first | refine AWp.seq ?_ | refine AWp.block ?_
    refine AWp.ops ?_
    simp
    by_cases h : cooCheck S E = 0
    case neg =>
      refine AWp.cond (b := true) (by simp [h]) (fun _ => ?_) (fun h => by cases h)
      have he : countF (S, E) mode = ([], cooCheck S E) := by rw [countF, if_pos h]
      repeat first | refine AWp.seq ?_ | refine AWp.block ?_
      refine AWp.ops ?_
      simp
      refine AWp.ret ?_
      simp
      refine retOk.of rfl (.inl ?_)
      simp [he]
    refine AWp.cond (b := false) (by simp [h]) (fun h => by cases h) (fun _ => ?_)
    obtain ⟨hS4, hE6, hcs⟩ := cooCheck_dims h
    have hin := cooCheck_rng h
    have hcf : countF (S, E) mode = if mode < 0 ∨ S.length ≤ mode then ([], 3) else if S.getD mode.toNat 0 > 65536 then ([], 2) else (countL (S.getD mode.toNat 0).toNat mode.toNat E, 0) := by rw [countF, if_neg (by simpa using h)]
    by_cases hm0 : mode < 0
    · have he : countF (S, E) mode = ([], 3) := by rw [hcf, if_pos (.inl hm0)]
      repeat first | refine AWp.seq ?_ | refine AWp.block ?_
      refine AWp.ops ?_
      simp [hm0]
      refine AWp.cond (b := true) (by simp) (fun _ => ?_) (fun h => by cases h)
      repeat first | refine AWp.seq ?_ | refine AWp.block ?_
      refine AWp.ops ?_
      simp
      refine AWp.ret ?_
      simp
      refine retOk.of rfl (.inl ?_)
      simp [he]
    by_cases hm1 : (S.length : Int) ≤ mode
    · have he : countF (S, E) mode = ([], 3) := by rw [hcf, if_pos (.inr hm1)]
      repeat first | refine AWp.seq ?_ | refine AWp.block ?_
      refine AWp.ops ?_
      simp [hm0, hm1]
      refine AWp.cond (b := true) (by simp [hm1]) (fun _ => ?_) (fun h => by cases h)
      repeat first | refine AWp.seq ?_ | refine AWp.block ?_
      refine AWp.ops ?_
      simp
      refine AWp.ret ?_
      simp
      refine retOk.of rfl (.inl ?_)
      simp [he]
    obtain ⟨m, rfl⟩ : ∃ m : Nat, mode = m := ⟨mode.toNat, by omega⟩
    have hmS : m < S.length := by omega
    have hsz1 := sz_of hs1 hmS
    subst hsz1
    have hSm : S.getD m 0 = S[m] := by simp [hmS]
    rw [if_neg (by omega), Int.toNat_natCast, hSm] at hcf
    have hm2 : ¬ (S.length ≤ m) := by omega
    repeat first | refine AWp.seq ?_ | refine AWp.block ?_
    refine AWp.ops ?_
    simp [hm0, hm1, hm2, hmS]
    refine AWp.cond (b := false) (by simp [hm1, hm2, hmS]) (fun h => by cases h) (fun _ => ?_)
    repeat first | refine AWp.seq ?_ | refine AWp.block ?_
    refine AWp.ops ?_
    simp [hmS]
    by_cases hbig : S[m] > 65536
    · have he : countF (S, E) m = ([], 2) := by rw [hcf, if_pos hbig]
      refine AWp.cond (b := true) (by simp [hbig]) (fun _ => ?_) (fun h => by cases h)
      repeat first | refine AWp.seq ?_ | refine AWp.block ?_
      refine AWp.ops ?_
      simp
      refine AWp.ret ?_
      simp
      refine retOk.of rfl (.inl ?_)
      simp [he]
    have hbig' : S[m] ≤ 65536 := by omega
    refine AWp.cond (b := false) (by simp [hbig']) (fun h => by cases h) (fun _ => ?_)
    have hnn : 0 ≤ S[m] := cells_nn hcs S[m] (List.getElem_mem hmS)
    obtain ⟨n, hn⟩ : ∃ n : Nat, S[m] = n := ⟨S[m].toNat, by omega⟩
    have he : countF (S, E) m = (countL n m E, 0) := by rw [hcf, if_neg hbig, hn, Int.toNat_natCast]
    rw [he]
    have m1 : (n : Int) * 8 ≤ 281474976710656 := by omega
    have m2 : (n : Int) ≤ 9223372036854775807 := by omega
    have m3 : 0 ≤ (n : Int) := by omega
    have hrep : List.replicate n (AV.sc (Value.int IntKind.i64 0)) = (countL n m []).map I := by rw [countL_nil]; simp
    refine AWp.skip ?_
    simp only [qSeq, qBlock]
    repeat first | refine AWp.seq ?_ | refine AWp.block ?_
    refine AWp.ops ?_
    simp [hmS, hn, m1, m2, m3]
    rw [hrep]
    repeat first | refine AWp.seq ?_ | refine AWp.block ?_
    refine AWp.ops ?_
    simp
    obtain ⟨J, hJ⟩ : ∃ J : Nat → List AV → List AObj → Prop, J = fun i fr H => i ≤ es.length ∧ (True) ∧ H = [cooO (.agg [.imm nl1 c01 1 (S.map I), .imm nl cl sz es]), intOb (countL n m (E.take i))] ∧
      fr = [.und, I m, .ptr 0 1 0 0, .und, .und, .und, .und, .slc 1 n 0 n none, .und, .und, .und, .und, .und, .und, .und, .und, .und, .und, .und, .und, .und, .und, .und, .und, .und, .und, .und, .und, .und, .und, .und, .und, .und, .und, .und, .und, .und, .und, .und, .und, .imm nl cl sz es, I es.length, I i, .und, .und, .und, .und, .und, .und, .und, .und, .und, .und, .und, .und, .und, .und, .und] := ⟨_, rfl⟩
    refine AWp.block (AWp.loop J (fun i => es.length - i) 0 (Weak.slots [1, 2, 7, 40, 41, 42]) (by rw [hJ]; exact ⟨by omega, trivial, by simp, by simp⟩) ?_)
    intro i fr H hI
    rw [hJ] at hI
    obtain ⟨hi, hinv, rfl, rfl⟩ := hI
    repeat first | refine AWp.seq ?_ | refine AWp.block ?_
    refine AWp.ops ?_
    simp
    refine AWp.seq (AWp.cond (b := decide (i < es.length)) (by simp <;> omega) ?_ ?_)
    ·
      intro hb
      have hb : i < es.length := by simpa using hb
      refine AWp.skip ?_
      simp only [qSeq]
      have hbE : i < E.length := by omega
      have hnl : nl = false := by
        cases nl with
        | false => rfl
        | true => have := he1 rfl; rw [this] at hbE; simp at hbE
      have hsz := he2 hnl
      subst hnl hsz
      obtain ⟨ai, hai, hai2⟩ := hE.get hbE
      have hti := hin E[i] (List.getElem_mem hbE)
      have hxt := List.take_succ_eq_append_getElem hbE
      have hil : (E.take i).length ≤ i := by simp; omega
      generalize E[i] = t at hai hai2 hti hxt
      obtain ⟨c, v⟩ := t
      obtain ⟨hcl, hcr⟩ := hti
      have hcm := hcr m hmS
      simp only at hai hai2 hcl hcm
      rw [hSm, hn] at hcm
      have hmc : m < c.length := by omega
      have hgc : c.getD m 0 = c[m] := by simp [hmc]
      obtain ⟨k, hk⟩ : ∃ k : Nat, c.getD m 0 = k := ⟨(c.getD m 0).toNat, by omega⟩
      have hkn : k < n := by omega
      have hck : c[m] = k := by rw [← hgc, hk]
      have hcl2 : m < c.length := hmc
      obtain ⟨⟨n5, c5, z5, rfl, hs5⟩, hl5, hx5⟩ := hai2
      have hsz5 := sz_of hs5 hmc
      subst hsz5
      have hsn := countL_snoc (n := n) (E := E.take i) (t := (c, v)) hk
      have hold := cntAt_le m (E.take i) (k : Int)
      have hkl : k < (countL n m (E.take i)).length := by simpa using hkn
      have hgk : (countL n m (E.take i))[k] = cntAt m (E.take i) (k : Int) := countL_get hkl
      have w1 := wrap_i64 (n := (cntAt m (E.take i) (k : Int) : Int) + 1) (by omega) (by omega)
      have hwi := wrap_i64 (n := (i : Int) + 1) (by omega) (by omega)
      have hll := countL_len n m (E.take i)
      rw [← hxt] at hsn
      obtain ⟨P, hP⟩ : ∃ P, P = countL n m (E.take i) := ⟨_, rfl⟩
      simp only [← hP] at hsn hkl hgk hll ⊢
      repeat first | refine AWp.seq ?_ | refine AWp.block ?_
      refine AWp.ops ?_
      simp [hai]
      repeat first | refine AWp.seq ?_ | refine AWp.block ?_
      refine AWp.ops ?_
      simp [hmc, hck, hkn, hkl, hgk, hll, w1]
      repeat first | refine AWp.seq ?_ | refine AWp.block ?_
      refine AWp.ops ?_
      simp [hwi]
      refine ⟨i + 1, _, _, (Weak.slots [1, 2, 7, 40, 41, 42]).trans (Weak.freeze 2 3 (by simp)), ?_, by omega⟩
      rw [hJ]
      exact ⟨by omega, trivial, by simp [frzH, hsn, List.map_set], by simp⟩
    ·
      intro hb
      have hb : ¬ i < es.length := by simpa using hb
      refine AWp.exit ?_
      simp [qSeq, qBlock]
      rw [List.take_of_length_le (by omega)]
      repeat first | refine AWp.seq ?_ | refine AWp.block ?_
      refine AWp.ops ?_
      simp
      refine AWp.ret ?_
      simp
      refine retOk.of rfl (.inr ?_)
      refine ⟨rfl, by simp, by simp; omega, fun x hx => ?_⟩
      obtain ⟨k, hk, rfl⟩ := List.mem_map.1 hx
      have := cntAt_le m E (k : Int)
      omega
  refine (base.frozen 3).mono ?_
  rintro q H' ⟨rfl, r, G, ⟨rfl, h2⟩ | ⟨h1, rfl, h3, h4⟩, rfl⟩
  · refine ⟨rfl, .imm true none 0 [], by simp, ?_⟩
    rw [h2]; exact ISl.nil
  · refine ⟨rfl, _, by simp [h1]; rfl, ?_⟩
    simp [h3]
    exact ISl.of _ h4.1 h4.2
end Go.Fw
namespace Go.Fw
open Go Go.RowKit Go.Proofs
set_option maxRecDepth 100000
set_option linter.unusedSimpArgs false
set_option linter.unusedVariables false

def rcCount_22 : AC := (.seq (.ops [⟨(some 54), none, (.k (.mov (.t 7)))⟩, ⟨(some 4), none, (.k (.mov (.t 54)))⟩, ⟨(some 5), none, (.k (.mov (.c (.sc (.int .i64 0)))))⟩]) .ret)
def rcCount_21 : AC := (.seq (.ops [⟨(some 41), none, (.k (.iad 2 (.t 37) (.t 39)))⟩, ⟨(some 42), none, (.k (.ld 2 true (.t 41)))⟩, ⟨(some 9), none, (.k (.new 38 2 (.c (.agg [(.imm true none 0 []), (.sc (.int .i64 0))]))))⟩, ⟨none, none, (.k (.st 2 (.t 9) (.t 42)))⟩]) (.ops [⟨(some 43), none, (.k (.mov (.t 7)))⟩, ⟨(some 44), none, (.k (.fad 0 (.t 9)))⟩, ⟨(some 45), none, (.k (.ld 1 false (.t 44)))⟩, ⟨(some 46), none, (.k (.mov (.t 1)))⟩, ⟨(some 47), none, (.k (.iad 1 (.t 45) (.t 46)))⟩, ⟨(some 48), none, (.k (.ld 1 false (.t 47)))⟩, ⟨(some 49), none, (.k (.iad 1 (.t 43) (.t 48)))⟩, ⟨(some 50), none, (.k (.ld 1 false (.t 49)))⟩, ⟨(some 51), none, (.k (.bin .add (.t 50) (.c (.sc (.int .i64 1)))))⟩, ⟨(some 52), none, (.k (.iad 1 (.t 43) (.t 48)))⟩, ⟨none, none, (.k (.st 1 (.t 52) (.t 51)))⟩]))
def rcCount_20 : AC := (.block 1 rcCount_21)
def rcCount_19 : AC := (.seq rcCount_20 (.ops [⟨(some 53), none, (.k (.bin .add (.t 39) (.c (.sc (.int .i64 1)))))⟩, ⟨(some 39), none, (.k (.mov (.t 53)))⟩]))
def rcCount_18 : AC := (.seq (.cond (.t 40) .skip (.exit 0)) rcCount_19)
def rcCount_17 : AC := (.seq (.ops [⟨(some 40), none, (.k (.bin .lss (.t 39) (.t 38)))⟩]) rcCount_18)
def rcCount_16 : AC := (.loop rcCount_17)
def rcCount_15 : AC := (.block 0 rcCount_16)
def rcCount_14 : AC := (.seq (.ops [⟨(some 36), none, (.k (.fad 1 (.t 2)))⟩, ⟨(some 37), none, (.k (.ld 1 false (.t 36)))⟩, ⟨(some 38), none, (.k (.len (.t 37)))⟩, ⟨(some 39), none, (.k (.mov (.c (.sc (.int .i64 0)))))⟩]) rcCount_15)
def rcCount_13 : AC := (.seq rcCount_14 rcCount_22)
def rcCount_12 : AC := (.seq (.ops [⟨(some 30), none, (.k (.fad 0 (.t 2)))⟩, ⟨(some 31), none, (.k (.ld 1 false (.t 30)))⟩, ⟨(some 32), none, (.k (.mov (.t 1)))⟩, ⟨(some 33), none, (.k (.iad 1 (.t 31) (.t 32)))⟩, ⟨(some 34), none, (.k (.ld 1 false (.t 33)))⟩, ⟨(some 35), none, (.k (.mkS 3 1 8 (.sc (.int .i64 0)) (.t 34) (.t 34)))⟩, ⟨(some 7), none, (.k (.mov (.t 35)))⟩]) rcCount_13)
def rcCount_11 : AC := (.cond (.t 29) (.seq (.ops [⟨(some 4), none, (.k (.mov (.c (.imm true none 0 []))))⟩, ⟨(some 5), none, (.k (.mov (.c (.sc (.int .i64 2)))))⟩]) .ret) .skip)
def rcCount_10 : AC := (.seq (.ops [⟨(some 24), none, (.k (.fad 0 (.t 2)))⟩, ⟨(some 25), none, (.k (.ld 1 false (.t 24)))⟩, ⟨(some 26), none, (.k (.mov (.t 1)))⟩, ⟨(some 27), none, (.k (.iad 1 (.t 25) (.t 26)))⟩, ⟨(some 28), none, (.k (.ld 1 false (.t 27)))⟩, ⟨(some 29), none, (.k (.bin .gtr (.t 28) (.c (.sc (.int .i64 65536)))))⟩]) rcCount_11)
def rcCount_9 : AC := (.seq rcCount_10 rcCount_12)
def rcCount_8 : AC := (.cond (.t 23) (.seq (.ops [⟨(some 4), none, (.k (.mov (.c (.imm true none 0 []))))⟩, ⟨(some 5), none, (.k (.mov (.c (.sc (.int .i64 3)))))⟩]) .ret) .skip)
def rcCount_7 : AC := (.seq (.ops [⟨(some 15), none, (.k (.mov (.t 1)))⟩, ⟨(some 16), none, (.k (.bin .lss (.t 15) (.c (.sc (.int .i64 0)))))⟩, ⟨(some 17), none, (.k (.mov (.t 16)))⟩, ⟨(some 18), (some (17, false)), (.k (.mov (.t 1)))⟩, ⟨(some 19), (some (17, false)), (.k (.fad 0 (.t 2)))⟩, ⟨(some 20), (some (17, false)), (.k (.ld 1 false (.t 19)))⟩, ⟨(some 21), (some (17, false)), (.k (.len (.t 20)))⟩, ⟨(some 22), (some (17, false)), (.k (.bin .geq (.t 18) (.t 21)))⟩, ⟨(some 23), none, (.k (.pick (.t 17) (.c (.sc (.bool true))) (.t 22)))⟩]) rcCount_8)
def rcCount_6 : AC := (.seq rcCount_7 rcCount_9)
def rcCount_5 : AC := (.seq (.ops [⟨(some 14), none, (.k (.mov (.t 6)))⟩, ⟨(some 4), none, (.k (.mov (.c (.imm true none 0 []))))⟩, ⟨(some 5), none, (.k (.mov (.t 14)))⟩]) .ret)
def rcCount_4 : AC := (.cond (.t 13) rcCount_5 .skip)
def rcCount_3 : AC := (.seq (.ops [⟨(some 12), none, (.k (.mov (.t 6)))⟩, ⟨(some 13), none, (.k (.bin .neq (.t 12) (.c (.sc (.int .i64 0)))))⟩]) rcCount_4)
def rcCount_2 : AC := (.seq (.ops [⟨(some 10), none, (.k (.ld 2 true (.t 2)))⟩, ⟨(some 11), none, (.call false (.c (.fn (.func 28) [] [])) [(.t 10)])⟩, ⟨(some 6), none, (.k (.mov (.t 11)))⟩]) rcCount_3)
def rcCount_1 : AC := (.seq rcCount_2 rcCount_6)
def rcCount_ac : AC := (.seq (.ops [⟨(some 2), none, (.k (.new 25 2 (.t 0)))⟩, ⟨(some 4), none, (.k (.mov (.c (.imm true none 0 []))))⟩, ⟨(some 5), none, (.k (.mov (.c (.sc (.int .i64 0)))))⟩]) rcCount_1)
theorem rcCount_call {args : List AV} {H : List AObj} {R : AV → List AObj → Prop} (h : AWp Try.prog [] H.length rcCount_ac (bodyQ H.length [(.t 4), (.t 5)] R) (args ++ List.replicate (55 - args.length) .und) H) : ACalls Try.prog 39 args H R :=
  ACalls.of_fn Try.func39 rfl (by kernel_rfl) rfl Try.ntmps39 h

set_option maxHeartbeats 4000000 in
theorem rcCount_spec {a : AV} {X : List Int × List (List Int × Int)} {mode : Int} (ha : Coo a X) : ACalls Try.prog 39 [a, I mode] [] fun r H' => H' = [] ∧ ∃ q, r = .tup [q, I (countF X mode).2] ∧ ISl q (countF X mode).1 := by
  have ha' := ha
  obtain ⟨S, E⟩ := X
  obtain ⟨s, e, rfl, hS, hE⟩ := ha
  simp only at hS hE
  have hS' := hS
  obtain ⟨⟨nl1, c01, sz1, rfl, hs1⟩, hlen1, hx1⟩ := hS
  obtain ⟨nl, cl, sz, es, rfl, he1, he2, hE⟩ := hE
  have hel := hE.1
  have base : ACalls Try.prog 39 [.agg [.imm nl1 c01 sz1 (S.map I), .imm nl cl sz es], I mode] [] fun r G => (r = .tup [.imm true none 0 [], I (countF (S, E) mode).2] ∧ (countF (S, E) mode).1 = []) ∨ ((countF (S, E) mode).2 = 0 ∧ r = .tup [.slc 1 (countF (S, E) mode).1.length 0 (countF (S, E) mode).1.length none, I 0] ∧ G[1]? = some (intOb (countF (S, E) mode).1) ∧ InI (countF (S, E) mode).1) := by
    apply rcCount_call
    repeat first | refine AWp.seq ?_ | refine AWp.block ?_
    refine AWp.ops ?_
    simp
    repeat first | refine AWp.seq ?_ | refine AWp.block ?_
    refine AWp.ops ?_
    simp
    refine ((rcCheck_spec ha').pure (by simp) (by rintro r rfl; simp) _).mono ?_
    rintro r H' ⟨rfl, rfl⟩
    simp
    repeat first | refine AWp.seq ?_ | refine AWp.block ?_
    refine AWp.ops ?_
    simp
    by_cases h : cooCheck S E = 0
    case neg =>
      refine AWp.cond (b := true) (by simp [h]) (fun _ => ?_) (fun h => by cases h)
      have he : countF (S, E) mode = ([], cooCheck S E) := by rw [countF, if_pos h]
      repeat first | refine AWp.seq ?_ | refine AWp.block ?_
      refine AWp.ops ?_
      simp
      refine AWp.ret ?_
      simp
      refine retOk.of rfl (.inl ?_)
      simp [he]
    refine AWp.cond (b := false) (by simp [h]) (fun h => by cases h) (fun _ => ?_)
    refine AWp.skip ?_
    simp only [qSeq]
    obtain ⟨hS4, hE6, hcs⟩ := cooCheck_dims h
    have hin := cooCheck_rng h
    have hcf : countF (S, E) mode = if mode < 0 ∨ S.length ≤ mode then ([], 3) else if S.getD mode.toNat 0 > 65536 then ([], 2) else (countL (S.getD mode.toNat 0).toNat mode.toNat E, 0) := by rw [countF, if_neg (by simpa using h)]
    by_cases hm0 : mode < 0
    · have he : countF (S, E) mode = ([], 3) := by rw [hcf, if_pos (.inl hm0)]
      repeat first | refine AWp.seq ?_ | refine AWp.block ?_
      refine AWp.ops ?_
      simp [hm0]
      refine AWp.cond (b := true) (by simp) (fun _ => ?_) (fun h => by cases h)
      repeat first | refine AWp.seq ?_ | refine AWp.block ?_
      refine AWp.ops ?_
      simp
      refine AWp.ret ?_
      simp
      refine retOk.of rfl (.inl ?_)
      simp [he]
    by_cases hm1 : (S.length : Int) ≤ mode
    · have he : countF (S, E) mode = ([], 3) := by rw [hcf, if_pos (.inr hm1)]
      repeat first | refine AWp.seq ?_ | refine AWp.block ?_
      refine AWp.ops ?_
      simp [hm0, hm1]
      refine AWp.cond (b := true) (by simp [hm1]) (fun _ => ?_) (fun h => by cases h)
      repeat first | refine AWp.seq ?_ | refine AWp.block ?_
      refine AWp.ops ?_
      simp
      refine AWp.ret ?_
      simp
      refine retOk.of rfl (.inl ?_)
      simp [he]
    obtain ⟨m, rfl⟩ : ∃ m : Nat, mode = m := ⟨mode.toNat, by omega⟩
    have hmS : m < S.length := by omega
    have hsz1 := sz_of hs1 hmS
    subst hsz1
    have hSm : S.getD m 0 = S[m] := by simp [hmS]
    rw [if_neg (by omega), Int.toNat_natCast, hSm] at hcf
    have hm2 : ¬ (S.length ≤ m) := by omega
    repeat first | refine AWp.seq ?_ | refine AWp.block ?_
    refine AWp.ops ?_
    simp [hm0, hm1, hm2, hmS]
    refine AWp.cond (b := false) (by simp [hm1, hm2, hmS]) (fun h => by cases h) (fun _ => ?_)
    refine AWp.skip ?_
    simp only [qSeq]
    repeat first | refine AWp.seq ?_ | refine AWp.block ?_
    refine AWp.ops ?_
    simp [hmS]
    by_cases hbig : S[m] > 65536
    · have he : countF (S, E) m = ([], 2) := by rw [hcf, if_pos hbig]
      refine AWp.cond (b := true) (by simp [hbig]) (fun _ => ?_) (fun h => by cases h)
      repeat first | refine AWp.seq ?_ | refine AWp.block ?_
      refine AWp.ops ?_
      simp
      refine AWp.ret ?_
      simp
      refine retOk.of rfl (.inl ?_)
      simp [he]
    have hbig' : S[m] ≤ 65536 := by omega
    refine AWp.cond (b := false) (by simp [hbig']) (fun h => by cases h) (fun _ => ?_)
    have hnn : 0 ≤ S[m] := cells_nn hcs S[m] (List.getElem_mem hmS)
    obtain ⟨n, hn⟩ : ∃ n : Nat, S[m] = n := ⟨S[m].toNat, by omega⟩
    have he : countF (S, E) m = (countL n m E, 0) := by rw [hcf, if_neg hbig, hn, Int.toNat_natCast]
    rw [he]
    have m1 : (n : Int) * 8 ≤ 281474976710656 := by omega
    have m2 : (n : Int) ≤ 9223372036854775807 := by omega
    have m3 : 0 ≤ (n : Int) := by omega
    have hrep : List.replicate n (AV.sc (Value.int IntKind.i64 0)) = (countL n m []).map I := by rw [countL_nil]; simp
    refine AWp.skip ?_
    simp only [qSeq]
    repeat first | refine AWp.seq ?_ | refine AWp.block ?_
    refine AWp.ops ?_
    simp [hmS, hn, m1, m2, m3]
    rw [hrep]
    repeat first | refine AWp.seq ?_ | refine AWp.block ?_
    refine AWp.ops ?_
    simp
    obtain ⟨J, hJ⟩ : ∃ J : Nat → List AV → List AObj → Prop, J = fun i fr H => i ≤ es.length ∧ (True) ∧ H = [cooO (.agg [.imm nl1 c01 1 (S.map I), .imm nl cl sz es]), intOb (countL n m (E.take i))] ∧
      fr = [.und, I m, .ptr 0 1 0 0, .und, .und, .und, .und, .slc 1 n 0 n none, .und, .und, .und, .und, .und, .und, .und, .und, .und, .und, .und, .und, .und, .und, .und, .und, .und, .und, .und, .und, .und, .und, .und, .und, .und, .und, .und, .und, .und, .imm nl cl sz es, I es.length, I i, .und, .und, .und, .und, .und, .und, .und, .und, .und, .und, .und, .und, .und, .und, .und] := ⟨_, rfl⟩
    refine AWp.block (AWp.loop J (fun i => es.length - i) 0 (Weak.slots [1, 2, 7, 37, 38, 39]) (by rw [hJ]; exact ⟨by omega, trivial, by simp, by simp⟩) ?_)
    intro i fr H hI
    rw [hJ] at hI
    obtain ⟨hi, hinv, rfl, rfl⟩ := hI
    repeat first | refine AWp.seq ?_ | refine AWp.block ?_
    refine AWp.ops ?_
    simp
    refine AWp.seq (AWp.cond (b := decide (i < es.length)) (by simp <;> omega) ?_ ?_)
    ·
      intro hb
      have hb : i < es.length := by simpa using hb
      refine AWp.skip ?_
      simp only [qSeq]
      have hbE : i < E.length := by omega
      have hnl : nl = false := by
        cases nl with
        | false => rfl
        | true => have := he1 rfl; rw [this] at hbE; simp at hbE
      have hsz := he2 hnl
      subst hnl hsz
      obtain ⟨ai, hai, hai2⟩ := hE.get hbE
      have hti := hin E[i] (List.getElem_mem hbE)
      have hxt := List.take_succ_eq_append_getElem hbE
      have hil : (E.take i).length ≤ i := by simp; omega
      generalize E[i] = t at hai hai2 hti hxt
      obtain ⟨c, v⟩ := t
      obtain ⟨hcl, hcr⟩ := hti
      have hcm := hcr m hmS
      simp only at hai hai2 hcl hcm
      rw [hSm, hn] at hcm
      have hmc : m < c.length := by omega
      have hgc : c.getD m 0 = c[m] := by simp [hmc]
      obtain ⟨k, hk⟩ : ∃ k : Nat, c.getD m 0 = k := ⟨(c.getD m 0).toNat, by omega⟩
      have hkn : k < n := by omega
      have hck : c[m] = k := by rw [← hgc, hk]
      have hcl2 : m < c.length := hmc
      obtain ⟨⟨n5, c5, z5, rfl, hs5⟩, hl5, hx5⟩ := hai2
      have hsz5 := sz_of hs5 hmc
      subst hsz5
      have hsn := countL_snoc (n := n) (E := E.take i) (t := (c, v)) hk
      have hold := cntAt_le m (E.take i) (k : Int)
      have hkl : k < (countL n m (E.take i)).length := by simpa using hkn
      have hgk : (countL n m (E.take i))[k] = cntAt m (E.take i) (k : Int) := countL_get hkl
      have w1 := wrap_i64 (n := (cntAt m (E.take i) (k : Int) : Int) + 1) (by omega) (by omega)
      have hwi := wrap_i64 (n := (i : Int) + 1) (by omega) (by omega)
      have hll := countL_len n m (E.take i)
      rw [← hxt] at hsn
      obtain ⟨P, hP⟩ : ∃ P, P = countL n m (E.take i) := ⟨_, rfl⟩
      simp only [← hP] at hsn hkl hgk hll ⊢
      repeat first | refine AWp.seq ?_ | refine AWp.block ?_
      refine AWp.ops ?_
      simp [hai]
      repeat first | refine AWp.seq ?_ | refine AWp.block ?_
      refine AWp.ops ?_
      simp [hmc, hck, hkn, hkl, hgk, hll, w1]
      repeat first | refine AWp.seq ?_ | refine AWp.block ?_
      refine AWp.ops ?_
      simp [hwi]
      refine ⟨i + 1, _, _, (Weak.slots [1, 2, 7, 37, 38, 39]).trans (Weak.freeze 2 3 (by simp)), ?_, by omega⟩
      rw [hJ]
      exact ⟨by omega, trivial, by simp [frzH, hsn, List.map_set], by simp⟩
    ·
      intro hb
      have hb : ¬ i < es.length := by simpa using hb
      refine AWp.exit ?_
      simp [qSeq, qBlock]
      rw [List.take_of_length_le (by omega)]
      repeat first | refine AWp.seq ?_ | refine AWp.block ?_
      refine AWp.ops ?_
      simp
      refine AWp.ret ?_
      simp
      refine retOk.of rfl (.inr ?_)
      refine ⟨rfl, by simp, by simp; omega, fun x hx => ?_⟩
      obtain ⟨k, hk, rfl⟩ := List.mem_map.1 hx
      have := cntAt_le m E (k : Int)
      omega
  refine (base.frozen 3).mono ?_
  rintro q H' ⟨rfl, r, G, ⟨rfl, h2⟩ | ⟨h1, rfl, h3, h4⟩, rfl⟩
  · refine ⟨rfl, .imm true none 0 [], by simp, ?_⟩
    rw [h2]; exact ISl.nil
  · refine ⟨rfl, _, by simp [h1]; rfl, ?_⟩
    simp [h3]
    exact ISl.of _ h4.1 h4.2
end Go.Fw
