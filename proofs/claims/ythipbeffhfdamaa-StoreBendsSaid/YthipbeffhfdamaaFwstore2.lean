import Derived.Test.YthipbeffhfdamaaFwstore1
namespace Go.Fw
open Go Go.RowKit Go.Proofs
set_option maxRecDepth 100000
set_option linter.unusedSimpArgs false
set_option linter.unusedVariables false

theorem readStep_ok {xs : List Int} {s : Int × Int × Int} {M M' : List (Bool × Int)} {b : Int} (h : readStep xs s M b = some M') :
    (0 ≤ s.2.1 ∧ s.2.1 < xs.length) ∧ (s.1 = 0 ∨ s.1 = 1 ∨ s.1 = 2 ∨ s.1 = 3 ∨ s.1 = 4) ∧ (s.2.2 ≤ 9223372036854775807 → (∀ p ∈ M, 0 ≤ p.2 ∧ p.2 ≤ 9223372036854775807) → ∀ p ∈ M', 0 ≤ p.2 ∧ p.2 ≤ 9223372036854775807) := by
  have hget : (∀ p ∈ M, 0 ≤ p.2 ∧ p.2 ≤ 9223372036854775807) → 0 ≤ (M.getD s.2.1.toNat (false, 0)).2 ∧ (M.getD s.2.1.toNat (false, 0)).2 ≤ 9223372036854775807 := by
    intro hM
    rw [List.getD]
    cases hg : M[s.2.1.toNat]? with
    | none => simp
    | some p => exact hM p (List.mem_of_getElem? hg)
  unfold readStep at h
  split at h
  · cases h
  · rename_i h1
    split at h
    · rename_i hk
      split at h
      · cases h
        refine ⟨by omega, by omega, fun _ hM p hp => ?_⟩
        rcases List.mem_or_eq_of_mem_set hp with hp | rfl
        · exact hM p hp
        · exact hget hM
      · cases h
    · split at h
      · split at h
        · rename_i hc
          cases h
          refine ⟨by omega, by omega, fun hz hM p hp => ?_⟩
          rcases List.mem_or_eq_of_mem_set hp with hp | rfl
          · exact hM p hp
          · exact ⟨by simp only; omega, hz⟩
        · cases h
      · cases h
theorem readGo_ok {xs : List Int} : ∀ {fs : List (Int × Int × Int)} {M M' : List (Bool × Int)} {b : Int}, readGo xs fs M b = some M' →
    (∀ s ∈ fs, (0 ≤ s.2.1 ∧ s.2.1 < xs.length) ∧ (s.1 = 0 ∨ s.1 = 1 ∨ s.1 = 2 ∨ s.1 = 3 ∨ s.1 = 4)) ∧ ((∀ s ∈ fs, s.2.2 ≤ 9223372036854775807) → (∀ p ∈ M, 0 ≤ p.2 ∧ p.2 ≤ 9223372036854775807) → ∀ p ∈ M', 0 ≤ p.2 ∧ p.2 ≤ 9223372036854775807)
  | [], M, M', b, h => by
    simp only [readGo, Option.some.injEq] at h
    subst h
    exact ⟨by simp, fun _ h => h⟩
  | s :: r, M, M', b, h => by
    simp only [readGo, Option.bind_eq_some_iff] at h
    obtain ⟨M1, h1, h2⟩ := h
    obtain ⟨a1, a2, a3⟩ := readStep_ok h1
    obtain ⟨b1, b2⟩ := readGo_ok h2
    refine ⟨fun t ht => ?_, fun hz hM => b2 (fun t ht => hz t (by simp [ht])) (a3 (hz s (by simp)) hM)⟩
    rcases List.mem_cons.1 ht with rfl | ht
    · exact ⟨a1, a2⟩
    · exact b1 t ht
theorem readF_ok {xs : List Int} {fs : List (Int × Int × Int)} {M : List (Bool × Int)} (h : readF xs fs = some M) :
    (∀ s ∈ fs, (0 ≤ s.2.1 ∧ s.2.1 < xs.length) ∧ (s.1 = 0 ∨ s.1 = 1 ∨ s.1 = 2 ∨ s.1 = 3 ∨ s.1 = 4)) ∧ ((∀ s ∈ fs, s.2.2 ≤ 9223372036854775807) → ∀ p ∈ M, 0 ≤ p.2 ∧ p.2 ≤ 9223372036854775807) := by
  unfold readF at h
  rw [Option.bind_eq_some_iff] at h
  obtain ⟨M1, h1, h2⟩ := h
  split at h2
  · cases h2
    obtain ⟨a1, a2⟩ := readGo_ok h1
    exact ⟨a1, fun hz => a2 hz (by intro p hp; simp at hp; subst hp; simp)⟩
  · cases h2

/-- A level's size. -/
def lvlOf (xs : List Int) (M : List (Bool × Int)) (s : Int × Int × Int) : Int :=
  if s.1 = 4 then (M.getD s.2.1.toNat (false, 0)).2 else if 0 < (M.getD s.2.1.toNat (false, 0)).2 then (xs.getD s.2.1.toNat 0).tdiv (M.getD s.2.1.toNat (false, 0)).2 else xs.getD s.2.1.toNat 0
def sizesF (xs : List Int) (fs : List (Int × Int × Int)) : List Int × Int :=
  if (cells xs).2 ≠ 0 then ([], (cells xs).2) else
  match readF xs fs with
  | none => ([], 4)
  | some M => if (fs.map (lvlOf xs M)).any (fun v => decide (2147483648 < v)) = true then ([], 2) else (fs.map (lvlOf xs M), 0)

theorem cells_nonneg' {S : List Int} (h : (cells S).2 = 0) : (∀ x ∈ S, 0 ≤ x) ∧ S.length ≤ 4 := by
  unfold cells at h
  split at h
  · simp at h
  · rename_i h1
    refine ⟨fun x hx => ?_, by omega⟩
    have : ¬ (S.any fun x => decide (x < 0)) = true := fun h => h1 (.inr h)
    simp at this
    exact this x hx
theorem mcells_noRef (M : List (Bool × Int)) : noRefs (mcells M) = true := by
  induction M with
  | nil => rfl
  | cons p r ih => simp [mcells, noRefs, noRef, ih]
abbrev intOb (xs : List Int) : AObj := ⟨3, 1, xs.map I, true, none⟩

def Sizes_29 : AC := (.seq (.ops [⟨(some 80), none, (.k (.mov (.t 10)))⟩, ⟨(some 4), none, (.k (.mov (.t 80)))⟩, ⟨(some 5), none, (.k (.mov (.c (.sc (.int .i64 0)))))⟩]) .ret)
def Sizes_28 : AC := (.cond (.t 78) (.seq (.ops [⟨(some 4), none, (.k (.mov (.c (.imm true none 0 []))))⟩, ⟨(some 5), none, (.k (.mov (.c (.sc (.int .i64 2)))))⟩]) .ret) .skip)
def Sizes_27 : AC := (.seq (.ops [⟨(some 74), none, (.k (.mov (.t 10)))⟩, ⟨(some 75), none, (.k (.mov (.t 11)))⟩, ⟨(some 76), none, (.k (.iad 1 (.t 74) (.t 75)))⟩, ⟨(some 77), none, (.k (.ld 1 false (.t 76)))⟩, ⟨(some 78), none, (.k (.bin .gtr (.t 77) (.c (.sc (.int .i64 2147483648)))))⟩]) Sizes_28)
def Sizes_26 : AC := (.cond (.t 61) (.ops [⟨(some 64), none, (.k (.mov (.t 10)))⟩, ⟨(some 65), none, (.k (.mov (.t 11)))⟩, ⟨(some 66), none, (.k (.mov (.t 0)))⟩, ⟨(some 67), none, (.k (.fad 1 (.t 12)))⟩, ⟨(some 68), none, (.k (.ld 1 false (.t 67)))⟩, ⟨(some 69), none, (.k (.iad 1 (.t 66) (.t 68)))⟩, ⟨(some 70), none, (.k (.ld 1 false (.t 69)))⟩, ⟨(some 71), none, (.k (.mov (.t 13)))⟩, ⟨(some 72), none, (.k (.bin .quo (.t 70) (.t 71)))⟩, ⟨(some 73), none, (.k (.iad 1 (.t 64) (.t 65)))⟩, ⟨none, none, (.k (.st 1 (.t 73) (.t 72)))⟩]) (.ops [⟨(some 45), none, (.k (.mov (.t 10)))⟩, ⟨(some 46), none, (.k (.mov (.t 11)))⟩, ⟨(some 47), none, (.k (.mov (.t 0)))⟩, ⟨(some 48), none, (.k (.fad 1 (.t 12)))⟩, ⟨(some 49), none, (.k (.ld 1 false (.t 48)))⟩, ⟨(some 50), none, (.k (.iad 1 (.t 47) (.t 49)))⟩, ⟨(some 51), none, (.k (.ld 1 false (.t 50)))⟩, ⟨(some 52), none, (.k (.iad 1 (.t 45) (.t 46)))⟩, ⟨none, none, (.k (.st 1 (.t 52) (.t 51)))⟩]))
def Sizes_25 : AC := (.seq (.ops [⟨(some 62), none, (.k (.mov (.t 13)))⟩, ⟨(some 63), none, (.k (.bin .gtr (.t 62) (.c (.sc (.int .i64 0)))))⟩, ⟨(some 61), none, (.k (.mov (.t 63)))⟩]) Sizes_26)
def Sizes_24 : AC := (.cond (.t 53) (.ops [⟨(some 57), none, (.k (.mov (.t 10)))⟩, ⟨(some 58), none, (.k (.mov (.t 11)))⟩, ⟨(some 59), none, (.k (.mov (.t 13)))⟩, ⟨(some 60), none, (.k (.iad 1 (.t 57) (.t 58)))⟩, ⟨none, none, (.k (.st 1 (.t 60) (.t 59)))⟩]) Sizes_25)
def Sizes_23 : AC := (.seq (.ops [⟨(some 54), none, (.k (.fad 0 (.t 12)))⟩, ⟨(some 55), none, (.k (.ld 1 false (.t 54)))⟩, ⟨(some 56), none, (.k (.bin .eql (.t 55) (.c (.sc (.int .i64 4)))))⟩, ⟨(some 53), none, (.k (.mov (.t 56)))⟩]) Sizes_24)
def Sizes_22 : AC := (.block 2 Sizes_23)
def Sizes_21 : AC := (.seq (.ops [⟨(some 40), none, (.k (.fad 1 (.t 12)))⟩, ⟨(some 41), none, (.k (.ld 1 false (.t 40)))⟩, ⟨(some 42), none, (.k (.iar 4 2 (.t 8) (.t 41)))⟩, ⟨(some 43), none, (.k (.fad 1 (.t 42)))⟩, ⟨(some 44), none, (.k (.ld 1 false (.t 43)))⟩, ⟨(some 13), none, (.k (.mov (.t 44)))⟩]) Sizes_22)
def Sizes_20 : AC := (.seq Sizes_21 Sizes_27)
def Sizes_19 : AC := (.seq (.ops [⟨(some 37), none, (.k (.mov (.t 35)))⟩, ⟨(some 38), none, (.k (.iad 3 (.t 33) (.t 35)))⟩, ⟨(some 39), none, (.k (.ld 3 true (.t 38)))⟩, ⟨(some 12), none, (.k (.new 43 3 (.c (.agg [(.sc (.int .i64 0)), (.sc (.int .i64 0)), (.sc (.int .i64 0))]))))⟩, ⟨(some 11), none, (.k (.mov (.t 37)))⟩, ⟨none, none, (.k (.st 3 (.t 12) (.t 39)))⟩]) Sizes_20)
def Sizes_18 : AC := (.block 1 Sizes_19)
def Sizes_17 : AC := (.seq Sizes_18 (.ops [⟨(some 79), none, (.k (.bin .add (.t 35) (.c (.sc (.int .i64 1)))))⟩, ⟨(some 35), none, (.k (.mov (.t 79)))⟩]))
def Sizes_16 : AC := (.seq (.cond (.t 36) .skip (.exit 0)) Sizes_17)
def Sizes_15 : AC := (.seq (.ops [⟨(some 36), none, (.k (.bin .lss (.t 35) (.t 34)))⟩]) Sizes_16)
def Sizes_14 : AC := (.loop Sizes_15)
def Sizes_13 : AC := (.block 0 Sizes_14)
def Sizes_12 : AC := (.seq (.ops [⟨(some 33), none, (.k (.mov (.t 1)))⟩, ⟨(some 34), none, (.k (.len (.t 33)))⟩, ⟨(some 35), none, (.k (.mov (.c (.sc (.int .i64 0)))))⟩]) Sizes_13)
def Sizes_11 : AC := (.seq Sizes_12 Sizes_29)
def Sizes_10 : AC := (.seq (.ops [⟨(some 30), none, (.k (.mov (.t 1)))⟩, ⟨(some 31), none, (.k (.len (.t 30)))⟩, ⟨(some 32), none, (.k (.mkS 3 1 8 (.sc (.int .i64 0)) (.t 31) (.t 31)))⟩, ⟨(some 10), none, (.k (.mov (.t 32)))⟩]) Sizes_11)
def Sizes_9 : AC := (.cond (.t 29) (.seq (.ops [⟨(some 4), none, (.k (.mov (.c (.imm true none 0 []))))⟩, ⟨(some 5), none, (.k (.mov (.c (.sc (.int .i64 4)))))⟩]) .ret) .skip)
def Sizes_8 : AC := (.seq (.ops [⟨(some 28), none, (.k (.mov (.t 9)))⟩, ⟨(some 29), none, (.k (.un .not (.t 28)))⟩]) Sizes_9)
def Sizes_7 : AC := (.seq Sizes_8 Sizes_10)
def Sizes_6 : AC := (.seq (.ops [⟨(some 23), none, (.k (.mov (.t 0)))⟩, ⟨(some 24), none, (.k (.mov (.t 1)))⟩, ⟨(some 25), none, (.call false (.c (.fn (.func 40) [] [])) [(.t 23), (.t 24)])⟩, ⟨(some 22), none, (.k (.mov (.t 25)))⟩, ⟨(some 26), none, (.k (.ext (.t 22) 0))⟩, ⟨(some 27), none, (.k (.ext (.t 22) 1))⟩, ⟨(some 8), none, (.k (.new 71 8 (.c (.agg [(.sc (.bool false)), (.sc (.int .i64 0)), (.sc (.bool false)), (.sc (.int .i64 0)), (.sc (.bool false)), (.sc (.int .i64 0)), (.sc (.bool false)), (.sc (.int .i64 0))]))))⟩, ⟨none, none, (.k (.st 8 (.t 8) (.t 26)))⟩, ⟨(some 9), none, (.k (.mov (.t 27)))⟩]) Sizes_7)
def Sizes_5 : AC := (.seq (.ops [⟨(some 21), none, (.k (.mov (.t 7)))⟩, ⟨(some 4), none, (.k (.mov (.c (.imm true none 0 []))))⟩, ⟨(some 5), none, (.k (.mov (.t 21)))⟩]) .ret)
def Sizes_4 : AC := (.cond (.t 20) Sizes_5 .skip)
def Sizes_3 : AC := (.seq (.ops [⟨(some 19), none, (.k (.mov (.t 7)))⟩, ⟨(some 20), none, (.k (.bin .neq (.t 19) (.c (.sc (.int .i64 0)))))⟩]) Sizes_4)
def Sizes_2 : AC := (.seq (.ops [⟨(some 15), none, (.k (.mov (.t 0)))⟩, ⟨(some 16), none, (.call false (.c (.fn (.func 19) [] [])) [(.t 15)])⟩, ⟨(some 14), none, (.k (.mov (.t 16)))⟩, ⟨(some 17), none, (.k (.ext (.t 14) 0))⟩, ⟨(some 18), none, (.k (.ext (.t 14) 1))⟩, ⟨(some 6), none, (.k (.mov (.t 17)))⟩, ⟨(some 7), none, (.k (.mov (.t 18)))⟩]) Sizes_3)
def Sizes_1 : AC := (.seq Sizes_2 Sizes_6)
def Sizes_ac : AC := (.seq (.ops [⟨(some 4), none, (.k (.mov (.c (.imm true none 0 []))))⟩, ⟨(some 5), none, (.k (.mov (.c (.sc (.int .i64 0)))))⟩]) Sizes_1)
theorem Sizes_call {args : List AV} {H : List AObj} {R : AV → List AObj → Prop} (h : AWp Try.prog [] H.length Sizes_ac (bodyQ H.length [(.t 4), (.t 5)] R) (args ++ List.replicate (81 - args.length) .und) H) : ACalls Try.prog 13 args H R :=
  ACalls.of_fn Try.func13 rfl (by kernel_rfl) rfl Try.ntmps13 h

set_option maxHeartbeats 4000000 in
theorem Sizes_spec {a b : AV} {xs : List Int} {fs : List (Int × Int × Int)} (ha : ISl a xs) (hb : Sp b fs) (hf : fs.length ≤ 1000) : ACalls Try.prog 13 [a, b] [] fun r H' => H' = [] ∧ ∃ l, r = .tup [l, I (sizesF xs fs).2] ∧ ISl l (sizesF xs fs).1 := by
  have ha' := ha
  have hb' := hb
  obtain ⟨⟨nl, c, sz, rfl, hs⟩, hlen, hx⟩ := ha
  obtain ⟨⟨nl', c', sz', rfl, hs'⟩, hlen', hx'⟩ := hb
  have base : ACalls Try.prog 13 [.imm nl c sz (xs.map I), .imm nl' c' sz' (fs.map specV)] [] fun r G => (r = .tup [.imm true none 0 [], I (sizesF xs fs).2] ∧ (sizesF xs fs).1 = []) ∨ ((sizesF xs fs).2 = 0 ∧ InI (sizesF xs fs).1 ∧ r = .tup [.slc 1 fs.length 0 fs.length none, I 0] ∧ G[1]? = some (intOb (sizesF xs fs).1) ∧ (sizesF xs fs).1.length = fs.length) := by
    apply Sizes_call
    repeat first | refine AWp.seq ?_ | refine AWp.block ?_
    refine AWp.ops ?_
    simp
    repeat first | refine AWp.seq ?_ | refine AWp.block ?_
    refine AWp.ops ?_
    simp
    refine ((Cells_spec ha').pure (by simp) (by rintro r rfl; simp) _).mono ?_
    rintro r H' ⟨rfl, rfl⟩
    simp
    repeat first | refine AWp.seq ?_ | refine AWp.block ?_
    refine AWp.ops ?_
    simp
    refine AWp.cond (b := (cells xs).2 != 0) (by simp) ?_ ?_
    · intro h
      have h : (cells xs).2 ≠ 0 := by simpa using h
      repeat first | refine AWp.seq ?_ | refine AWp.block ?_
      refine AWp.ops ?_
      simp
      refine AWp.ret ?_
      simp
      refine retOk.of rfl ?_
      exact .inl (by simp [sizesF, h])
    intro hc
    have hc : (cells xs).2 = 0 := by simpa using hc
    obtain ⟨hxn, hx4⟩ := cells_nonneg' hc
    refine AWp.skip ?_
    simp only [qSeq]
    repeat first | refine AWp.seq ?_ | refine AWp.block ?_
    refine AWp.ops ?_
    simp
    refine ((read_spec ha' hb' hx4).pure (by simp) (by rintro r ⟨M, ok, rfl, _⟩; simp [mcells_noRef]) _).mono ?_
    rintro r H' ⟨rfl, M, ok, rfl, hM4, hT, hF⟩
    have hM8 : (mcells M).length = 8 := by rw [mcells_len, hM4]
    have hone : (∀ x, x ∈ mcells M → oneC x = true) = True := eq_true (mcells_one M)
    have hset : setAll [AV.sc (.bool false), .sc (.int .i64 0), .sc (.bool false), .sc (.int .i64 0), .sc (.bool false), .sc (.int .i64 0), .sc (.bool false), .sc (.int .i64 0)] 0 (mcells M) = mcells M := by
      match M, hM4 with
      | [m0, m1, m2, m3], _ => rfl
    simp [hM8, hone, hset]
    repeat first | refine AWp.seq ?_ | refine AWp.block ?_
    refine AWp.ops ?_
    simp
    cases ok with
    | false =>
      refine AWp.cond (b := true) (by simp) (fun _ => ?_) (fun h => by cases h)
      repeat first | refine AWp.seq ?_ | refine AWp.block ?_
      refine AWp.ops ?_
      simp
      refine AWp.ret ?_
      simp
      refine retOk.of rfl ?_
      exact .inl (by simp [sizesF, hc, hF rfl])
    | true =>
      refine AWp.cond (b := false) (by simp) (fun h => by cases h) (fun _ => ?_)
      refine AWp.skip ?_
      simp only [qSeq]
      have hT := hT rfl
      obtain ⟨hmodes, hblk⟩ := readF_ok hT
      have hblk := hblk fun s hs => (hx' s hs).2.2.2
      have e1 : (fs.length : Int) * 8 ≤ 281474976710656 := by omega
      have e2 : (fs.length : Int) ≤ 9223372036854775807 := by omega
      repeat first | refine AWp.seq ?_ | refine AWp.block ?_
      refine AWp.ops ?_
      simp [e1, e2]
      obtain ⟨L, hL⟩ : ∃ L, L = fs.map (lvlOf xs M) := ⟨_, rfl⟩
      have hLl : L.length = fs.length := by rw [hL]; simp
      have hsz : ∀ {any : Bool}, (L.any fun v => decide (2147483648 < v)) = any → sizesF xs fs = if any = true then ([], 2) else (L, 0) := by
        rintro _ rfl
        simp only [sizesF, hc, ne_eq, not_true_eq_false, if_false, hT, ← hL]
      have hmf : (mcells M).map (frz [modO M, intOb [], specO (0, 0, 0)] 2 1 true) = mcells M := mcells_frz _ _ _ _ _
      repeat first | refine AWp.seq ?_ | refine AWp.block ?_
      refine AWp.ops ?_
      simp
      obtain ⟨J, hJ⟩ : ∃ J : Nat → List AV → List AObj → Prop, J = fun i fr H => i ≤ fs.length ∧ ∃ (ws : List Int), (ws.length = fs.length ∧ ∀ k (h : k < ws.length) (h' : k < L.length), k < i → ws[k] = L[k] ∧ ws[k] ≤ 2147483648 ∧ 0 ≤ ws[k]) ∧ H = [modO M, intOb ws] ∧
        fr = [.imm nl c sz (xs.map I), .und, .und, .und, .imm true none 0 [], I 0, .und, .und, .ptr 0 1 0 0, .und, .slc 1 fs.length 0 fs.length none, .und, .und, .und, .und, .und, .und, .und, .und, .und, .und, .und, .und, .und, .und, .und, .und, .und, .und, .und, .und, .und, .und, .imm nl' c' sz' (fs.map specV), I fs.length, I i, .und, .und, .und, .und, .und, .und, .und, .und, .und, .und, .und, .und, .und, .und, .und, .und, .und, .und, .und, .und, .und, .und, .und, .und, .und, .und, .und, .und, .und, .und, .und, .und, .und, .und, .und, .und, .und, .und, .und, .und, .und, .und, .und, .und, .und] := ⟨_, rfl⟩
      refine AWp.block (AWp.loop J (fun i => fs.length - i) 0 (Weak.slots [0, 4, 5, 8, 10, 33, 34, 35]) (by rw [hJ]; exact ⟨by omega, List.replicate fs.length 0, ⟨by simp, by intro k _ _ h; omega⟩, by simp, by simp⟩) ?_)
      intro i fr H hI
      rw [hJ] at hI
      obtain ⟨hi, ws, hinv, rfl, rfl⟩ := hI
      repeat first | refine AWp.seq ?_ | refine AWp.block ?_
      refine AWp.ops ?_
      simp
      refine AWp.seq (AWp.cond (b := decide (i < fs.length)) (by simp <;> omega) ?_ ?_)
      ·
        intro hb
        have hb : i < fs.length := by simpa using hb
        refine AWp.skip ?_
        simp only [qSeq]
        obtain ⟨hwl, hwv⟩ := hinv
        have hsz3 := sz3_of hs' hb
        subst hsz3
        have hgs := spec_get hb
        have hLi : ∀ (h : i < L.length), L[i] = lvlOf xs M fs[i] := by subst hL; intro h; simp
        obtain ⟨⟨hmo0, hmo1⟩, _⟩ := hmodes fs[i] (List.getElem_mem hb)
        generalize fs[i] = sp at hgs hLi hmo0 hmo1
        obtain ⟨k, mo, z⟩ := sp
        simp only at hgs hmo0 hmo1
        obtain ⟨j, rfl⟩ : ∃ j : Nat, mo = j := ⟨mo.toNat, by omega⟩
        have hj : j < xs.length := by omega
        have hj4 : (j : Int) < 4 := by omega
        have hj4' : j < 4 := by omega
        have hjM : j < M.length := by omega
        have hszx := sz_of hs hj
        subst hszx
        have hiw : i < ws.length := by omega
        have mg1 := mcells_get1 M j hjM
        have hxj := hxn xs[j] (List.getElem_mem hj)
        have hxr := hx xs[j] (List.getElem_mem hj)
        obtain ⟨blk, hblkd⟩ : ∃ blk, blk = M[j].2 := ⟨_, rfl⟩
        rw [← hblkd] at mg1
        have hbr : 0 ≤ blk ∧ blk ≤ 9223372036854775807 := by rw [hblkd]; exact hblk _ (List.getElem_mem hjM)
        obtain ⟨v, hv⟩ : ∃ v, v = (if k = 4 then blk else if 0 < blk then xs[j].tdiv blk else xs[j]) := ⟨_, rfl⟩
        have hLv : ∀ (h : i < L.length), L[i] = v := by
          intro h
          rw [hLi h, hv, hblkd]
          have g1 : M.getD j (false, 0) = M[j] := by simp [List.getD, hjM]
          have g2 : xs.getD j 0 = xs[j] := by simp [hj]
          simp only [lvlOf, Int.toNat_natCast, g1, g2]
        have hv0 : 0 ≤ v := by
          rw [hv]
          split
          · omega
          · split
            · exact Int.tdiv_nonneg hxj (by omega)
            · exact hxj
        repeat first | refine AWp.seq ?_ | refine AWp.block ?_
        refine AWp.ops ?_
        simp [hgs]
        refine AWp.cut [.imm nl c 1 (xs.map I), .und, .und, .und, .imm true none 0 [], I 0, .und, .und, .ptr 0 1 0 0, .und, .slc 1 fs.length 0 fs.length none, I i, .und, .und, .und, .und, .und, .und, .und, .und, .und, .und, .und, .und, .und, .und, .und, .und, .und, .und, .und, .und, .und, .imm nl' c' 3 (fs.map specV), I fs.length, I i, .und, .und, .und, .und, .und, .und, .und, .und, .und, .und, .und, .und, .und, .und, .und, .und, .und, .und, .und, .und, .und, .und, .und, .und, .und, .und, .und, .und, .und, .und, .und, .und, .und, .und, .und, .und, .und, .und, .und, .und, .und, .und, .und, .und, .und] [modO M, intOb (ws.set i v), specO (k, j, z)] ?_ ?_
        ·
          repeat first | refine AWp.seq ?_ | refine AWp.block ?_
          refine AWp.ops ?_
          simp [hj4, hj4', mg1]
          repeat first | refine AWp.seq ?_ | refine AWp.block ?_
          refine AWp.ops ?_
          simp
          have w : ∀ f, Weak 0 f [modO M, intOb (ws.set i v), specO (k, j, z)] f [modO M, intOb (ws.set i v), specO (k, j, z)] := fun f => Weak.refl _ _ _
          by_cases k4 : k = 4
          · rw [if_pos k4] at hv
            subst hv
            refine AWp.cond (b := true) (by simp [k4]) (fun _ => ?_) (fun h => by cases h)
            repeat first | refine AWp.seq ?_ | refine AWp.block ?_
            refine AWp.ops ?_
            simp [hb, hwl, hiw]
            exact (Weak.slots [0, 4, 5, 8, 10, 11, 33, 34, 35]).to (by simp) (by simp [intOb, List.map_set])
          rw [if_neg k4] at hv
          refine AWp.cond (b := false) (by simp [k4]) (fun h => by cases h) (fun _ => ?_)
          repeat first | refine AWp.seq ?_ | refine AWp.block ?_
          refine AWp.ops ?_
          simp
          by_cases hbp : 0 < blk
          · rw [if_pos hbp] at hv
            have hbn : ¬ blk = 0 := by omega
            have hwv : IntKind.i64.wrap (xs[j].tdiv blk) = v := by
              rw [hv]
              have : xs[j].tdiv blk ≤ xs[j] := by rw [Int.tdiv_eq_ediv_of_nonneg hxj]; exact Int.ediv_le_self _ hxj
              have : 0 ≤ xs[j].tdiv blk := Int.tdiv_nonneg hxj (by omega)
              exact wrap_i64 (by omega) (by omega)
            refine AWp.cond (b := true) (by simp [hbp]) (fun _ => ?_) (fun h => by cases h)
            repeat first | refine AWp.seq ?_ | refine AWp.block ?_
            refine AWp.ops ?_
            simp [hb, hwl, hiw, hj, hbn, hwv]
            exact (Weak.slots [0, 4, 5, 8, 10, 11, 33, 34, 35]).to (by simp) (by simp [intOb, List.map_set])
          · rw [if_neg hbp] at hv
            subst hv
            refine AWp.cond (b := false) (by simp <;> omega) (fun h => by cases h) (fun _ => ?_)
            repeat first | refine AWp.seq ?_ | refine AWp.block ?_
            refine AWp.ops ?_
            simp [hb, hwl, hiw, hj]
            exact (Weak.slots [0, 4, 5, 8, 10, 11, 33, 34, 35]).to (by simp) (by simp [intOb, List.map_set])
        clear hv
        have hiw' : i < (ws.set i v).length := by simpa using hiw
        have hwi : (ws.set i v)[i] = v := List.getElem_set_self hiw'
        obtain ⟨ws2, hws2⟩ : ∃ ws2, ws2 = ws.set i v := ⟨_, rfl⟩
        have hl2 : ws2.length = fs.length := by rw [hws2]; simpa using hwl
        have hi2 : i < ws2.length := by omega
        have hwi2 : ws2[i] = v := by subst hws2; exact hwi
        have hold : ∀ k (h : k < ws2.length) (h' : k < L.length), k < i → ws2[k] = L[k] ∧ ws2[k] ≤ 2147483648 ∧ 0 ≤ ws2[k] := by
          subst hws2
          intro k h h' hk
          rw [List.getElem_set_ne (by omega)]
          exact hwv k (by simpa using h) h' hk
        rw [← hws2]
        repeat first | refine AWp.seq ?_ | refine AWp.block ?_
        refine AWp.ops ?_
        simp [hb, hl2, hi2, hwi2]
        refine AWp.cond (b := decide (2147483648 < v)) (by simp) ?_ ?_
        · intro h
          have h : 2147483648 < v := by simpa using h
          repeat first | refine AWp.seq ?_ | refine AWp.block ?_
          refine AWp.ops ?_
          simp
          refine AWp.ret ?_
          simp
          refine retOk.of rfl ?_
          have hany : (L.any fun v => decide (2147483648 < v)) = true := by
            rw [List.any_eq_true]
            exact ⟨L[i]'(by omega), List.getElem_mem _, by rw [hLv]; simpa using h⟩
          rw [hsz hany]
          exact .inl ⟨by simp, rfl⟩
        · intro h
          have h : ¬ 2147483648 < v := by simpa using h
          refine AWp.skip ?_
          simp only [qSeq, qBlock]
          repeat first | refine AWp.seq ?_ | refine AWp.block ?_
          refine AWp.ops ?_
          simp
          have hmf2 := mcells_frz M [modO M, intOb ws2, specO (k, j, z)] 2 1 true
          refine ⟨i + 1, _, _, (Weak.slots [0, 4, 5, 8, 10, 33, 34, 35]).trans (Weak.freeze 2 2 (by simp)), ?_, by omega⟩
          rw [hJ]
          refine ⟨by omega, ws2, ⟨hl2, fun q h1 h2 hq => ?_⟩, by simp [frzH, modO, intOb, hmf2], by simp [wrap_i64 (n := (i : Int) + 1) (by omega) (by omega)]⟩
          by_cases e : q = i
          · subst e
            rw [hwi2, hLv]
            exact ⟨rfl, by omega, hv0⟩
          · exact hold q h1 h2 (by omega)
      ·
        intro hb
        have hb : ¬ i < fs.length := by simpa using hb
        refine AWp.exit ?_
        simp [qSeq, qBlock]
        obtain ⟨hwl, hwv⟩ := hinv
        have e : ws = L := by
          apply List.ext_getElem (by omega)
          intro k h1 h2
          exact (hwv k h1 h2 (by omega)).1
        subst e
        have hany : (ws.any fun v => decide (2147483648 < v)) = false := by
          rw [List.any_eq_false]
          intro x hx
          obtain ⟨k, hk, rfl⟩ := List.getElem_of_mem hx
          have := (hwv k hk hk (by omega)).2.1
          simp; omega
        repeat first | refine AWp.seq ?_ | refine AWp.block ?_
        refine AWp.ops ?_
        simp
        refine AWp.ret ?_
        simp
        refine retOk.of rfl ?_
        have hS := hsz hany
        simp only [Bool.false_eq_true, if_false] at hS
        rw [hS]
        refine .inr ⟨rfl, ⟨by show ws.length ≤ _; omega, fun x hx => ?_⟩, by simp, by simp [intOb], by simpa using hwl⟩
        obtain ⟨k, hk, rfl⟩ := List.getElem_of_mem hx
        have hk' : k < ws.length := hk
        have := hwv k hk' hk' (by omega)
        show _ ≤ ws[k] ∧ ws[k] ≤ _
        omega
  refine (base.frozen 2).mono ?_
  rintro q H' ⟨rfl, r, G, ⟨rfl, h1⟩ | ⟨h0, h1, rfl, h2, h3⟩, rfl⟩
  · exact ⟨rfl, _, by simp; rfl, by rw [h1]; exact ⟨⟨true, none, 0, rfl, by simp, by simp⟩, by simp, by simp⟩⟩
  · refine ⟨rfl, _, by simp [h0]; rfl, ⟨⟨false, none, 1, ?_, by simp, by simp⟩, h1⟩⟩
    simp [h2, h3]
end Go.Fw
