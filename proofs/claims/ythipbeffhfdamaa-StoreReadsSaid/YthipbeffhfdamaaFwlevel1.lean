import Derived.Test.YthipbeffhfdamaaFwstore1
namespace Go.Fw
open Go Go.RowKit Go.Proofs
set_option maxRecDepth 100000
set_option linter.unusedSimpArgs false
set_option linter.unusedVariables false
theorem readStep_ok {xs : List Int} {s : Int × Int × Int} {M M' : List (Bool × Int)} {b : Int} (h : readStep xs s M b = some M') :
    (0 ≤ s.2.1 ∧ s.2.1 < xs.length) ∧ (s.1 = 0 ∨ s.1 = 1 ∨ s.1 = 2 ∨ s.1 = 3 ∨ s.1 = 4) ∧ (s.2.2 ≤ 9223372036854775807 → (∀ p ∈ M, 0 ≤ p.2 ∧ p.2 ≤ 9223372036854775807) → ∀ p ∈ M', 0 ≤ p.2 ∧ p.2 ≤ 9223372036854775807) := by
  have hget : (∀ p ∈ M, 0 ≤ p.2 ∧ p.2 ≤ 9223372036854775807) → 0 ≤ (M.getD s.2.1.toNat (false, 0)).2 ∧ (M.getD s.2.1.toNat (false, 0)).2 ≤ 9223372036854775807 := by
    intro hM
    rw [List.getD]
    cases hg : M[s.2.1.toNat]? with
    | none => simp
    | some p => exact hM p (List.mem_of_getElem? hg)
  unfold readStep at h
  split at h
  · cases h
  · rename_i h1
    split at h
    · rename_i hk
      split at h
      · cases h
        refine ⟨by omega, by omega, fun _ hM p hp => ?_⟩
        rcases List.mem_or_eq_of_mem_set hp with hp | rfl
        · exact hM p hp
        · exact hget hM
      · cases h
    · split at h
      · split at h
        · rename_i hc
          cases h
          refine ⟨by omega, by omega, fun hz hM p hp => ?_⟩
          rcases List.mem_or_eq_of_mem_set hp with hp | rfl
          · exact hM p hp
          · exact ⟨by simp only; omega, hz⟩
        · cases h
      · cases h
theorem readGo_ok {xs : List Int} : ∀ {fs : List (Int × Int × Int)} {M M' : List (Bool × Int)} {b : Int}, readGo xs fs M b = some M' →
    (∀ s ∈ fs, (0 ≤ s.2.1 ∧ s.2.1 < xs.length) ∧ (s.1 = 0 ∨ s.1 = 1 ∨ s.1 = 2 ∨ s.1 = 3 ∨ s.1 = 4)) ∧ ((∀ s ∈ fs, s.2.2 ≤ 9223372036854775807) → (∀ p ∈ M, 0 ≤ p.2 ∧ p.2 ≤ 9223372036854775807) → ∀ p ∈ M', 0 ≤ p.2 ∧ p.2 ≤ 9223372036854775807)
  | [], M, M', b, h => by
    simp only [readGo, Option.some.injEq] at h
    subst h
    exact ⟨by simp, fun _ h => h⟩
  | s :: r, M, M', b, h => by
    simp only [readGo, Option.bind_eq_some_iff] at h
    obtain ⟨M1, h1, h2⟩ := h
    obtain ⟨a1, a2, a3⟩ := readStep_ok h1
    obtain ⟨b1, b2⟩ := readGo_ok h2
    refine ⟨fun t ht => ?_, fun hz hM => b2 (fun t ht => hz t (by simp [ht])) (a3 (hz s (by simp)) hM)⟩
    rcases List.mem_cons.1 ht with rfl | ht
    · exact ⟨a1, a2⟩
    · exact b1 t ht
theorem readF_ok {xs : List Int} {fs : List (Int × Int × Int)} {M : List (Bool × Int)} (h : readF xs fs = some M) :
    (∀ s ∈ fs, (0 ≤ s.2.1 ∧ s.2.1 < xs.length) ∧ (s.1 = 0 ∨ s.1 = 1 ∨ s.1 = 2 ∨ s.1 = 3 ∨ s.1 = 4)) ∧ ((∀ s ∈ fs, s.2.2 ≤ 9223372036854775807) → ∀ p ∈ M, 0 ≤ p.2 ∧ p.2 ≤ 9223372036854775807) := by
  unfold readF at h
  rw [Option.bind_eq_some_iff] at h
  obtain ⟨M1, h1, h2⟩ := h
  split at h2
  · cases h2
    obtain ⟨a1, a2⟩ := readGo_ok h1
    exact ⟨a1, fun hz => a2 hz (by intro p hp; simp at hp; subst hp; simp)⟩
  · cases h2
def lvlOf (xs : List Int) (M : List (Bool × Int)) (s : Int × Int × Int) : Int :=
  if s.1 = 4 then (M.getD s.2.1.toNat (false, 0)).2 else if 0 < (M.getD s.2.1.toNat (false, 0)).2 then (xs.getD s.2.1.toNat 0).tdiv (M.getD s.2.1.toNat (false, 0)).2 else xs.getD s.2.1.toNat 0
def sizesF (xs : List Int) (fs : List (Int × Int × Int)) : List Int × Int :=
  if (cells xs).2 ≠ 0 then ([], (cells xs).2) else
  match readF xs fs with
  | none => ([], 4)
  | some M => if (fs.map (lvlOf xs M)).any (fun v => decide (2147483648 < v)) = true then ([], 2) else (fs.map (lvlOf xs M), 0)
theorem cells_nonneg' {S : List Int} (h : (cells S).2 = 0) : (∀ x ∈ S, 0 ≤ x) ∧ S.length ≤ 4 := by
  unfold cells at h
  split at h
  · simp at h
  · rename_i h1
    refine ⟨fun x hx => ?_, by omega⟩
    have : ¬ (S.any fun x => decide (x < 0)) = true := fun h => h1 (.inr h)
    simp at this
    exact this x hx
theorem mcells_noRef (M : List (Bool × Int)) : noRefs (mcells M) = true := by
  induction M with
  | nil => rfl
  | cons p r ih => simp [mcells, noRefs, noRef, ih]
def Sizes_29 : AC := (.seq (.ops [.m 80 (.t 10), .m 4 (.t 80), .m 5 (.i 0)]) .ret)
def Sizes_28 : AC := (.cond (.t 78) (.seq (.ops [.m 4 .z, .m 5 (.i 2)]) .ret) .skip)
def Sizes_27 : AC := (.seq (.ops [.m 74 (.t 10), .m 75 (.t 11), .o 76 (.iad 1 (.t 74) (.t 75)), .o 77 (.ld 1 false (.t 76)), .o 78 (.bin .gtr (.t 77) (.i 2147483648))]) Sizes_28)
def Sizes_26 : AC := (.cond (.t 61) (.ops [.m 64 (.t 10), .m 65 (.t 11), .m 66 (.t 0), .o 67 (.fad 1 (.t 12)), .o 68 (.ld 1 false (.t 67)), .o 69 (.iad 1 (.t 66) (.t 68)), .o 70 (.ld 1 false (.t 69)), .m 71 (.t 13), .o 72 (.bin .quo (.t 70) (.t 71)), .o 73 (.iad 1 (.t 64) (.t 65)), .on (.st 1 (.t 73) (.t 72))]) (.ops [.m 45 (.t 10), .m 46 (.t 11), .m 47 (.t 0), .o 48 (.fad 1 (.t 12)), .o 49 (.ld 1 false (.t 48)), .o 50 (.iad 1 (.t 47) (.t 49)), .o 51 (.ld 1 false (.t 50)), .o 52 (.iad 1 (.t 45) (.t 46)), .on (.st 1 (.t 52) (.t 51))]))
def Sizes_25 : AC := (.seq (.ops [.m 62 (.t 13), .o 63 (.bin .gtr (.t 62) (.i 0)), .m 61 (.t 63)]) Sizes_26)
def Sizes_24 : AC := (.cond (.t 53) (.ops [.m 57 (.t 10), .m 58 (.t 11), .m 59 (.t 13), .o 60 (.iad 1 (.t 57) (.t 58)), .on (.st 1 (.t 60) (.t 59))]) Sizes_25)
def Sizes_23 : AC := (.seq (.ops [.o 54 (.fad 0 (.t 12)), .o 55 (.ld 1 false (.t 54)), .o 56 (.bin .eql (.t 55) (.i 4)), .m 53 (.t 56)]) Sizes_24)
def Sizes_22 : AC := (.block 2 Sizes_23)
def Sizes_21 : AC := (.seq (.ops [.o 40 (.fad 1 (.t 12)), .o 41 (.ld 1 false (.t 40)), .o 42 (.iar 4 2 (.t 8) (.t 41)), .o 43 (.fad 1 (.t 42)), .o 44 (.ld 1 false (.t 43)), .m 13 (.t 44)]) Sizes_22)
def Sizes_20 : AC := (.seq Sizes_21 Sizes_27)
def Sizes_19 : AC := (.seq (.ops [.m 37 (.t 35), .o 38 (.iad 3 (.t 33) (.t 35)), .o 39 (.ld 3 true (.t 38)), .o 12 (.new 43 3 (.c (.agg [(.sc (.int .i64 0)), (.sc (.int .i64 0)), (.sc (.int .i64 0))]))), .m 11 (.t 37), .on (.st 3 (.t 12) (.t 39))]) Sizes_20)
def Sizes_18 : AC := (.block 1 Sizes_19)
def Sizes_17 : AC := (.seq Sizes_18 (.ops [.o 79 (.bin .add (.t 35) (.i 1)), .m 35 (.t 79)]))
def Sizes_16 : AC := (.seq (.cond (.t 36) .skip (.exit 0)) Sizes_17)
def Sizes_15 : AC := (.seq (.ops [.o 36 (.bin .lss (.t 35) (.t 34))]) Sizes_16)
def Sizes_14 : AC := (.loop Sizes_15)
def Sizes_13 : AC := (.block 0 Sizes_14)
def Sizes_12 : AC := (.seq (.ops [.m 33 (.t 1), .o 34 (.len (.t 33)), .m 35 (.i 0)]) Sizes_13)
def Sizes_11 : AC := (.seq Sizes_12 Sizes_29)
def Sizes_10 : AC := (.seq (.ops [.m 30 (.t 1), .o 31 (.len (.t 30)), .o 32 (.mkS 3 1 8 (.sc (.int .i64 0)) (.t 31) (.t 31)), .m 10 (.t 32)]) Sizes_11)
def Sizes_9 : AC := (.cond (.t 29) (.seq (.ops [.m 4 .z, .m 5 (.i 4)]) .ret) .skip)
def Sizes_8 : AC := (.seq (.ops [.m 28 (.t 9), .o 29 (.un .not (.t 28))]) Sizes_9)
def Sizes_7 : AC := (.seq Sizes_8 Sizes_10)
def Sizes_6 : AC := (.seq (.ops [.m 23 (.t 0), .m 24 (.t 1), .c 25 false (.f 40) [(.t 23), (.t 24)], .m 22 (.t 25), .o 26 (.ext (.t 22) 0), .o 27 (.ext (.t 22) 1), .o 8 (.new 71 8 (.c (.agg [(.sc (.bool false)), (.sc (.int .i64 0)), (.sc (.bool false)), (.sc (.int .i64 0)), (.sc (.bool false)), (.sc (.int .i64 0)), (.sc (.bool false)), (.sc (.int .i64 0))]))), .on (.st 8 (.t 8) (.t 26)), .m 9 (.t 27)]) Sizes_7)
def Sizes_5 : AC := (.seq (.ops [.m 21 (.t 7), .m 4 .z, .m 5 (.t 21)]) .ret)
def Sizes_4 : AC := (.cond (.t 20) Sizes_5 .skip)
def Sizes_3 : AC := (.seq (.ops [.m 19 (.t 7), .o 20 (.bin .neq (.t 19) (.i 0))]) Sizes_4)
def Sizes_2 : AC := (.seq (.ops [.m 15 (.t 0), .c 16 false (.f 19) [(.t 15)], .m 14 (.t 16), .o 17 (.ext (.t 14) 0), .o 18 (.ext (.t 14) 1), .m 6 (.t 17), .m 7 (.t 18)]) Sizes_3)
def Sizes_1 : AC := (.seq Sizes_2 Sizes_6)
def Sizes_ac : AC := (.seq (.ops [.m 4 .z, .m 5 (.i 0)]) Sizes_1)
theorem Sizes_call {args : List AV} {H : List AObj} {R : AV → List AObj → Prop} (h : AWp Try.prog [] H.length Sizes_ac (bodyQ H.length [(.t 4), (.t 5)] R) (args ++ List.replicate (81 - args.length) .und) H) : ACalls Try.prog 13 args H R :=
  ACalls.of_fn Try.func13 rfl (by kernel_rfl) rfl Try.ntmps13 h
set_option maxHeartbeats 4000000 in
theorem Sizes_spec {a b : AV} {xs : List Int} {fs : List (Int × Int × Int)} (ha : ISl a xs) (hb : Sp b fs) (hf : fs.length ≤ 1000) : ACalls Try.prog 13 [a, b] [] fun r H' => H' = [] ∧ ∃ l, r = .tup [l, I (sizesF xs fs).2] ∧ ISl l (sizesF xs fs).1 := by
  have ha' := ha
  have hb' := hb
  obtain ⟨⟨nl, c, sz, rfl, hs⟩, hlen, hx⟩ := ha
  obtain ⟨⟨nl', c', sz', rfl, hs'⟩, hlen', hx'⟩ := hb
  have base : ACalls Try.prog 13 [.imm nl c sz (xs.map I), .imm nl' c' sz' (fs.map specV)] [] fun r G => (r = .tup [.imm true none 0 [], I (sizesF xs fs).2] ∧ (sizesF xs fs).1 = []) ∨ ((sizesF xs fs).2 = 0 ∧ InI (sizesF xs fs).1 ∧ r = .tup [.slc 1 fs.length 0 fs.length none, I 0] ∧ G[1]? = some (intOb (sizesF xs fs).1) ∧ (sizesF xs fs).1.length = fs.length) := by
    apply Sizes_call
    repeat first | refine AWp.seq ?_ | refine AWp.block ?_
    refine AWp.ops ?_
    simp
    repeat first | refine AWp.seq ?_ | refine AWp.block ?_
    refine AWp.ops ?_
    simp
    refine ((Cells_spec ha').pure (by simp) (by rintro r rfl; simp) _).mono ?_
    rintro r H' ⟨rfl, rfl⟩
    simp
    repeat first | refine AWp.seq ?_ | refine AWp.block ?_
    refine AWp.ops ?_
    simp
    refine AWp.cond (b := (cells xs).2 != 0) (by simp) ?_ ?_
    · intro h
      have h : (cells xs).2 ≠ 0 := by simpa using h
      repeat first | refine AWp.seq ?_ | refine AWp.block ?_
      refine AWp.ops ?_
      simp
      refine AWp.ret ?_
      simp
      refine retOk.of rfl ?_
      exact .inl (by simp [sizesF, h])
    intro hc
    have hc : (cells xs).2 = 0 := by simpa using hc
    obtain ⟨hxn, hx4⟩ := cells_nonneg' hc
    refine AWp.skip ?_
    simp only [qSeq]
    repeat first | refine AWp.seq ?_ | refine AWp.block ?_
    refine AWp.ops ?_
    simp
    refine ((read_spec ha' hb' hx4).pure (by simp) (by rintro r ⟨M, ok, rfl, _⟩; simp [mcells_noRef]) _).mono ?_
    rintro r H' ⟨rfl, M, ok, rfl, hM4, hT, hF⟩
    have hM8 : (mcells M).length = 8 := by rw [mcells_len, hM4]
    have hone : (∀ x, x ∈ mcells M → oneC x = true) = True := eq_true (mcells_one M)
    have hset : setAll [AV.sc (.bool false), .sc (.int .i64 0), .sc (.bool false), .sc (.int .i64 0), .sc (.bool false), .sc (.int .i64 0), .sc (.bool false), .sc (.int .i64 0)] 0 (mcells M) = mcells M := by
      match M, hM4 with
      | [m0, m1, m2, m3], _ => rfl
    simp [hM8, hone, hset]
    repeat first | refine AWp.seq ?_ | refine AWp.block ?_
    refine AWp.ops ?_
    simp
    cases ok with
    | false =>
      refine AWp.cond (b := true) (by simp) (fun _ => ?_) (fun h => by cases h)
      repeat first | refine AWp.seq ?_ | refine AWp.block ?_
      refine AWp.ops ?_
      simp
      refine AWp.ret ?_
      simp
      refine retOk.of rfl ?_
      exact .inl (by simp [sizesF, hc, hF rfl])
    | true =>
      refine AWp.cond (b := false) (by simp) (fun h => by cases h) (fun _ => ?_)
      refine AWp.skip ?_
      simp only [qSeq]
      have hT := hT rfl
      obtain ⟨hmodes, hblk⟩ := readF_ok hT
      have hblk := hblk fun s hs => (hx' s hs).2.2.2
      have e1 : (fs.length : Int) * 8 ≤ 281474976710656 := by omega
      have e2 : (fs.length : Int) ≤ 9223372036854775807 := by omega
      repeat first | refine AWp.seq ?_ | refine AWp.block ?_
      refine AWp.ops ?_
      simp [e1, e2]
      obtain ⟨L, hL⟩ : ∃ L, L = fs.map (lvlOf xs M) := ⟨_, rfl⟩
      have hLl : L.length = fs.length := by rw [hL]; simp
      have hsz : ∀ {any : Bool}, (L.any fun v => decide (2147483648 < v)) = any → sizesF xs fs = if any = true then ([], 2) else (L, 0) := by
        rintro _ rfl
        simp only [sizesF, hc, ne_eq, not_true_eq_false, if_false, hT, ← hL]
      have hmf : (mcells M).map (frz [modO M, intOb [], specO (0, 0, 0)] 2 1 true) = mcells M := mcells_frz _ _ _ _ _
      repeat first | refine AWp.seq ?_ | refine AWp.block ?_
      refine AWp.ops ?_
      simp
      obtain ⟨J, hJ⟩ : ∃ J : Nat → List AV → List AObj → Prop, J = fun i fr H => i ≤ fs.length ∧ ∃ (ws : List Int), (ws.length = fs.length ∧ ∀ k (h : k < ws.length) (h' : k < L.length), k < i → ws[k] = L[k] ∧ ws[k] ≤ 2147483648 ∧ 0 ≤ ws[k]) ∧ H = [modO M, intOb ws] ∧
        fr = [.imm nl c sz (xs.map I), .und, .und, .und, .imm true none 0 [], I 0, .und, .und, .ptr 0 1 0 0, .und, .slc 1 fs.length 0 fs.length none, .und, .und, .und, .und, .und, .und, .und, .und, .und, .und, .und, .und, .und, .und, .und, .und, .und, .und, .und, .und, .und, .und, .imm nl' c' sz' (fs.map specV), I fs.length, I i, .und, .und, .und, .und, .und, .und, .und, .und, .und, .und, .und, .und, .und, .und, .und, .und, .und, .und, .und, .und, .und, .und, .und, .und, .und, .und, .und, .und, .und, .und, .und, .und, .und, .und, .und, .und, .und, .und, .und, .und, .und, .und, .und, .und, .und] := ⟨_, rfl⟩
      refine AWp.block (AWp.loop J (fun i => fs.length - i) 0 (Weak.slots [0, 4, 5, 8, 10, 33, 34, 35]) (by rw [hJ]; exact ⟨by omega, List.replicate fs.length 0, ⟨by simp, by intro k _ _ h; omega⟩, by simp, by simp⟩) ?_)
      intro i fr H hI
      rw [hJ] at hI
      obtain ⟨hi, ws, hinv, rfl, rfl⟩ := hI
      repeat first | refine AWp.seq ?_ | refine AWp.block ?_
      refine AWp.ops ?_
      simp
      refine AWp.seq (AWp.cond (b := decide (i < fs.length)) (by simp <;> omega) ?_ ?_)
      ·
        intro hb
        have hb : i < fs.length := by simpa using hb
        refine AWp.skip ?_
        simp only [qSeq]
        obtain ⟨hwl, hwv⟩ := hinv
        have hsz3 := sz3_of hs' hb
        subst hsz3
        have hgs := spec_get hb
        have hLi : ∀ (h : i < L.length), L[i] = lvlOf xs M fs[i] := by subst hL; intro h; simp
        obtain ⟨⟨hmo0, hmo1⟩, _⟩ := hmodes fs[i] (List.getElem_mem hb)
        generalize fs[i] = sp at hgs hLi hmo0 hmo1
        obtain ⟨k, mo, z⟩ := sp
        simp only at hgs hmo0 hmo1
        obtain ⟨j, rfl⟩ : ∃ j : Nat, mo = j := ⟨mo.toNat, by omega⟩
        have hj : j < xs.length := by omega
        have hj4 : (j : Int) < 4 := by omega
        have hj4' : j < 4 := by omega
        have hjM : j < M.length := by omega
        have hszx := sz_of hs hj
        subst hszx
        have hiw : i < ws.length := by omega
        have mg1 := mcells_get1 M j hjM
        have hxj := hxn xs[j] (List.getElem_mem hj)
        have hxr := hx xs[j] (List.getElem_mem hj)
        obtain ⟨blk, hblkd⟩ : ∃ blk, blk = M[j].2 := ⟨_, rfl⟩
        rw [← hblkd] at mg1
        have hbr : 0 ≤ blk ∧ blk ≤ 9223372036854775807 := by rw [hblkd]; exact hblk _ (List.getElem_mem hjM)
        obtain ⟨v, hv⟩ : ∃ v, v = (if k = 4 then blk else if 0 < blk then xs[j].tdiv blk else xs[j]) := ⟨_, rfl⟩
        have hLv : ∀ (h : i < L.length), L[i] = v := by
          intro h
          rw [hLi h, hv, hblkd]
          have g1 : M.getD j (false, 0) = M[j] := by simp [List.getD, hjM]
          have g2 : xs.getD j 0 = xs[j] := by simp [hj]
          simp only [lvlOf, Int.toNat_natCast, g1, g2]
        have hv0 : 0 ≤ v := by
          rw [hv]
          split
          · omega
          · split
            · exact Int.tdiv_nonneg hxj (by omega)
            · exact hxj
        repeat first | refine AWp.seq ?_ | refine AWp.block ?_
        refine AWp.ops ?_
        simp [hgs]
        refine AWp.cut [.imm nl c 1 (xs.map I), .und, .und, .und, .imm true none 0 [], I 0, .und, .und, .ptr 0 1 0 0, .und, .slc 1 fs.length 0 fs.length none, I i, .und, .und, .und, .und, .und, .und, .und, .und, .und, .und, .und, .und, .und, .und, .und, .und, .und, .und, .und, .und, .und, .imm nl' c' 3 (fs.map specV), I fs.length, I i, .und, .und, .und, .und, .und, .und, .und, .und, .und, .und, .und, .und, .und, .und, .und, .und, .und, .und, .und, .und, .und, .und, .und, .und, .und, .und, .und, .und, .und, .und, .und, .und, .und, .und, .und, .und, .und, .und, .und, .und, .und, .und, .und, .und, .und] [modO M, intOb (ws.set i v), specO (k, j, z)] ?_ ?_
        ·
          repeat first | refine AWp.seq ?_ | refine AWp.block ?_
          refine AWp.ops ?_
          simp [hj4, hj4', mg1]
          repeat first | refine AWp.seq ?_ | refine AWp.block ?_
          refine AWp.ops ?_
          simp
          have w : ∀ f, Weak 0 f [modO M, intOb (ws.set i v), specO (k, j, z)] f [modO M, intOb (ws.set i v), specO (k, j, z)] := fun f => Weak.refl _ _ _
          by_cases k4 : k = 4
          · rw [if_pos k4] at hv
            subst hv
            refine AWp.cond (b := true) (by simp [k4]) (fun _ => ?_) (fun h => by cases h)
            repeat first | refine AWp.seq ?_ | refine AWp.block ?_
            refine AWp.ops ?_
            simp [hb, hwl, hiw]
            exact (Weak.slots [0, 4, 5, 8, 10, 11, 33, 34, 35]).to (by simp) (by simp [intOb, List.map_set])
          rw [if_neg k4] at hv
          refine AWp.cond (b := false) (by simp [k4]) (fun h => by cases h) (fun _ => ?_)
          repeat first | refine AWp.seq ?_ | refine AWp.block ?_
          refine AWp.ops ?_
          simp
          by_cases hbp : 0 < blk
          · rw [if_pos hbp] at hv
            have hbn : ¬ blk = 0 := by omega
            have hwv : IntKind.i64.wrap (xs[j].tdiv blk) = v := by
              rw [hv]
              have : xs[j].tdiv blk ≤ xs[j] := by rw [Int.tdiv_eq_ediv_of_nonneg hxj]; exact Int.ediv_le_self _ hxj
              have : 0 ≤ xs[j].tdiv blk := Int.tdiv_nonneg hxj (by omega)
              exact wrap_i64 (by omega) (by omega)
            refine AWp.cond (b := true) (by simp [hbp]) (fun _ => ?_) (fun h => by cases h)
            repeat first | refine AWp.seq ?_ | refine AWp.block ?_
            refine AWp.ops ?_
            simp [hb, hwl, hiw, hj, hbn, hwv]
            exact (Weak.slots [0, 4, 5, 8, 10, 11, 33, 34, 35]).to (by simp) (by simp [intOb, List.map_set])
          · rw [if_neg hbp] at hv
            subst hv
            refine AWp.cond (b := false) (by simp <;> omega) (fun h => by cases h) (fun _ => ?_)
            repeat first | refine AWp.seq ?_ | refine AWp.block ?_
            refine AWp.ops ?_
            simp [hb, hwl, hiw, hj]
            exact (Weak.slots [0, 4, 5, 8, 10, 11, 33, 34, 35]).to (by simp) (by simp [intOb, List.map_set])
        clear hv
        have hiw' : i < (ws.set i v).length := by simpa using hiw
        have hwi : (ws.set i v)[i] = v := List.getElem_set_self hiw'
        obtain ⟨ws2, hws2⟩ : ∃ ws2, ws2 = ws.set i v := ⟨_, rfl⟩
        have hl2 : ws2.length = fs.length := by rw [hws2]; simpa using hwl
        have hi2 : i < ws2.length := by omega
        have hwi2 : ws2[i] = v := by subst hws2; exact hwi
        have hold : ∀ k (h : k < ws2.length) (h' : k < L.length), k < i → ws2[k] = L[k] ∧ ws2[k] ≤ 2147483648 ∧ 0 ≤ ws2[k] := by
          subst hws2
          intro k h h' hk
          rw [List.getElem_set_ne (by omega)]
          exact hwv k (by simpa using h) h' hk
        rw [← hws2]
        repeat first | refine AWp.seq ?_ | refine AWp.block ?_
        refine AWp.ops ?_
        simp [hb, hl2, hi2, hwi2]
        refine AWp.cond (b := decide (2147483648 < v)) (by simp) ?_ ?_
        · intro h
          have h : 2147483648 < v := by simpa using h
          repeat first | refine AWp.seq ?_ | refine AWp.block ?_
          refine AWp.ops ?_
          simp
          refine AWp.ret ?_
          simp
          refine retOk.of rfl ?_
          have hany : (L.any fun v => decide (2147483648 < v)) = true := by
            rw [List.any_eq_true]
            exact ⟨L[i]'(by omega), List.getElem_mem _, by rw [hLv]; simpa using h⟩
          rw [hsz hany]
          exact .inl ⟨by simp, rfl⟩
        · intro h
          have h : ¬ 2147483648 < v := by simpa using h
          refine AWp.skip ?_
          simp only [qSeq, qBlock]
          repeat first | refine AWp.seq ?_ | refine AWp.block ?_
          refine AWp.ops ?_
          simp
          have hmf2 := mcells_frz M [modO M, intOb ws2, specO (k, j, z)] 2 1 true
          refine ⟨i + 1, _, _, (Weak.slots [0, 4, 5, 8, 10, 33, 34, 35]).trans (Weak.freeze 2 2 (by simp)), ?_, by omega⟩
          rw [hJ]
          refine ⟨by omega, ws2, ⟨hl2, fun q h1 h2 hq => ?_⟩, by simp [frzH, modO, intOb, hmf2], by simp [wrap_i64 (n := (i : Int) + 1) (by omega) (by omega)]⟩
          by_cases e : q = i
          · subst e
            rw [hwi2, hLv]
            exact ⟨rfl, by omega, hv0⟩
          · exact hold q h1 h2 (by omega)
      ·
        intro hb
        have hb : ¬ i < fs.length := by simpa using hb
        refine AWp.exit ?_
        simp [qSeq, qBlock]
        obtain ⟨hwl, hwv⟩ := hinv
        have e : ws = L := by
          apply List.ext_getElem (by omega)
          intro k h1 h2
          exact (hwv k h1 h2 (by omega)).1
        subst e
        have hany : (ws.any fun v => decide (2147483648 < v)) = false := by
          rw [List.any_eq_false]
          intro x hx
          obtain ⟨k, hk, rfl⟩ := List.getElem_of_mem hx
          have := (hwv k hk hk (by omega)).2.1
          simp; omega
        repeat first | refine AWp.seq ?_ | refine AWp.block ?_
        refine AWp.ops ?_
        simp
        refine AWp.ret ?_
        simp
        refine retOk.of rfl ?_
        have hS := hsz hany
        simp only [Bool.false_eq_true, if_false] at hS
        rw [hS]
        refine .inr ⟨rfl, ⟨by show ws.length ≤ _; omega, fun x hx => ?_⟩, by simp, by simp [intOb], by simpa using hwl⟩
        obtain ⟨k, hk, rfl⟩ := List.getElem_of_mem hx
        have hk' : k < ws.length := hk
        have := hwv k hk' hk' (by omega)
        show _ ≤ ws[k] ∧ ws[k] ≤ _
        omega
  refine (base.frozen 2).mono ?_
  rintro q H' ⟨rfl, r, G, ⟨rfl, h1⟩ | ⟨h0, h1, rfl, h2, h3⟩, rfl⟩
  · exact ⟨rfl, _, by simp; rfl, by rw [h1]; exact ⟨⟨true, none, 0, rfl, by simp, by simp⟩, by simp, by simp⟩⟩
  · refine ⟨rfl, _, by simp [h0]; rfl, ⟨⟨false, none, 1, ?_, by simp, by simp⟩, h1⟩⟩
    simp [h2, h3]
end Go.Fw
namespace Go.Fw
open Go Go.RowKit Go.Proofs
set_option maxRecDepth 100000
set_option linter.unusedSimpArgs false
set_option linter.unusedVariables false
def isNaN_1 : AC := (.seq (.ops [.m 3 (.t 0), .m 4 (.t 0), .o 5 (.bin .neq (.t 3) (.t 4)), .m 2 (.t 5)]) .ret)
def isNaN_ac : AC := (.seq (.ops [.m 2 (.b false)]) isNaN_1)
theorem isNaN_call {args : List AV} {H : List AObj} {R : AV → List AObj → Prop} (h : AWp Try.prog [] H.length isNaN_ac (bodyQ H.length [(.t 2)] R) (args ++ List.replicate (6 - args.length) .und) H) : ACalls Try.prog 96 args H R :=
  ACalls.of_fn Try.func96 rfl (by kernel_rfl) rfl Try.ntmps96 h
theorem isNaN_spec (x : Int) : ACalls Try.prog 96 [I x] [] fun r H' => H' = [] ∧ r = Bo false := by
  apply isNaN_call
  repeat first | refine AWp.seq ?_ | refine AWp.block ?_
  refine AWp.ops ?_
  simp
  repeat first | refine AWp.seq ?_ | refine AWp.block ?_
  refine AWp.ops ?_
  simp
  refine AWp.ret ?_
  simp
  refine retOk.of rfl ⟨rfl, by simp⟩
def cLess_1 : AC := (.seq (.ops [.m 5 (.t 0), .c 6 false (.f 96) [(.t 5)], .m 7 (.t 6), .mg 8 7 true (.t 1), .cg 9 7 true false (.f 96) [(.t 8)], .og 10 7 true (.un .not (.t 9)), .o 11 (.pick (.t 7) (.t 10) (.b false)), .m 12 (.t 11), .mg 13 12 false (.t 0), .mg 14 12 false (.t 1), .og 15 12 false (.bin .lss (.t 13) (.t 14)), .o 16 (.pick (.t 12) (.b true) (.t 15)), .m 4 (.t 16)]) .ret)
def cLess_ac : AC := (.seq (.ops [.m 4 (.b false)]) cLess_1)
theorem cLess_call {args : List AV} {H : List AObj} {R : AV → List AObj → Prop} (h : AWp Try.prog [] H.length cLess_ac (bodyQ H.length [(.t 4)] R) (args ++ List.replicate (17 - args.length) .und) H) : ACalls Try.prog 95 args H R :=
  ACalls.of_fn Try.func95 rfl (by kernel_rfl) rfl Try.ntmps95 h
theorem cLess_spec (x y : Int) : ACalls Try.prog 95 [I x, I y] [] fun r H' => H' = [] ∧ r = Bo (decide (x < y)) := by
  apply cLess_call
  repeat first | refine AWp.seq ?_ | refine AWp.block ?_
  refine AWp.ops ?_
  simp
  repeat first | refine AWp.seq ?_ | refine AWp.block ?_
  refine AWp.ops ?_
  simp
  refine (isNaN_spec x).mono ?_
  rintro r H' ⟨rfl, rfl⟩
  simp
  refine AWp.ret ?_
  simp
  refine retOk.of rfl ⟨rfl, by simp⟩
def Sorted (xs : List Int) : Prop := ∀ k, k + 1 < xs.length → xs.getD k 0 ≤ xs.getD (k + 1) 0
instance (xs : List Int) : Decidable (Sorted xs) := decidable_of_iff (∀ k < xs.length - 1, xs.getD k 0 ≤ xs.getD (k + 1) 0) ⟨fun h k hk => h k (by omega), fun h k hk => h k (by omega)⟩
def IsSorted_9 : AC := (.seq (.ops [.m 11 (.t 0), .m 12 (.t 3), .o 13 (.iad 1 (.t 11) (.t 12)), .o 14 (.ld 1 false (.t 13)), .m 15 (.t 0), .m 16 (.t 3), .o 17 (.bin .sub (.t 16) (.i 1)), .o 18 (.iad 1 (.t 15) (.t 17)), .o 19 (.ld 1 false (.t 18)), .c 20 true (.f 95) [(.t 14), (.t 19)]]) (.cond (.t 20) (.seq (.ops [.m 2 (.b false)]) .ret) .skip))
def IsSorted_8 : AC := (.block 1 IsSorted_9)
def IsSorted_7 : AC := (.seq IsSorted_8 (.ops [.m 9 (.t 3), .o 10 (.bin .sub (.t 9) (.i 1)), .m 3 (.t 10)]))
def IsSorted_6 : AC := (.seq (.ops [.m 7 (.t 3), .o 8 (.bin .gtr (.t 7) (.i 0))]) (.cond (.t 8) .skip (.exit 0)))
def IsSorted_5 : AC := (.seq IsSorted_6 IsSorted_7)
def IsSorted_4 : AC := (.loop IsSorted_5)
def IsSorted_3 : AC := (.block 0 IsSorted_4)
def IsSorted_2 : AC := (.seq (.ops [.m 4 (.t 0), .o 5 (.len (.t 4)), .o 6 (.bin .sub (.t 5) (.i 1)), .m 3 (.t 6)]) IsSorted_3)
def IsSorted_1 : AC := (.seq IsSorted_2 (.seq (.ops [.m 2 (.b true)]) .ret))
def IsSorted_ac : AC := (.seq (.ops [.m 2 (.b false)]) IsSorted_1)
theorem IsSorted_call {args : List AV} {H : List AObj} {R : AV → List AObj → Prop} (h : AWp Try.prog [] H.length IsSorted_ac (bodyQ H.length [(.t 2)] R) (args ++ List.replicate (21 - args.length) .und) H) : ACalls Try.prog 94 args H R :=
  ACalls.of_fn Try.func94 rfl (by kernel_rfl) rfl Try.ntmps94 h
theorem IsSorted_spec {a : AV} {xs : List Int} (ha : ISl a xs) : ACalls Try.prog 94 [a] [] fun r H' => H' = [] ∧ r = Bo (decide (Sorted xs)) := by
  obtain ⟨⟨nl, c, sz, rfl, hs⟩, hlen, hx⟩ := ha
  apply IsSorted_call
  repeat first | refine AWp.seq ?_ | refine AWp.block ?_
  refine AWp.ops ?_
  simp
  have hw1 : IntKind.i64.wrap ((xs.length : Int) - 1) = (xs.length : Int) - 1 := wrap_i64 (by omega) (by omega)
  repeat first | refine AWp.seq ?_ | refine AWp.block ?_
  refine AWp.ops ?_
  simp [hw1]
  obtain ⟨J, hJ⟩ : ∃ J : Nat → List AV → List AObj → Prop, J = fun j fr H => j ≤ xs.length ∧ H = [] ∧ (∀ k : Nat, j ≤ k + 1 → k + 1 < xs.length → xs.getD k 0 ≤ xs.getD (k + 1) 0) ∧
    fr = [.imm nl c sz (xs.map I), .und, .und, I ((j : Int) - 1), .und, .und, .und, .und, .und, .und, .und, .und, .und, .und, .und, .und, .und, .und, .und, .und, .und] := ⟨_, rfl⟩
  refine AWp.block (AWp.loop J (fun j => j) xs.length (Weak.slots [0, 3]) (by
    rw [hJ]
    exact ⟨by omega, rfl, fun k h1 h2 => by omega, by simp⟩) ?_)
  intro j fr H hI
  rw [hJ] at hI
  obtain ⟨hj, rfl, hinv, rfl⟩ := hI
  repeat first | refine AWp.seq ?_ | refine AWp.block ?_
  refine AWp.ops ?_
  simp
  refine AWp.cond (b := decide (1 < j)) (by simp; omega) ?_ ?_
  · intro h0
    have h0 : 1 < j := by simpa using h0
    obtain ⟨i, rfl⟩ : ∃ i, j = i + 2 := ⟨j - 2, by omega⟩
    have hb : i + 1 < xs.length := by omega
    have hb0 : i < xs.length := by omega
    have hsz := sz_of hs hb
    subst hsz
    have e1 : ((i + 2 : Nat) : Int) - 1 = (i : Int) + 1 := by omega
    have e2 : IntKind.i64.wrap (i : Int) = (i : Int) := wrap_i64 (by omega) (by omega)
    have g1 : (0 : Int) ≤ (i : Int) + 1 := by omega
    have g2 : ((i : Int) + 1).toNat = i + 1 := by omega
    refine AWp.skip ?_
    simp only [qSeq]
    rw [e1]
    repeat first | refine AWp.seq ?_ | refine AWp.block ?_
    refine AWp.ops ?_
    simp [hb, hb0, e2, g1, g2]
    refine (cLess_spec xs[i + 1] xs[i]).mono ?_
    rintro r H' ⟨rfl, rfl⟩
    simp
    refine AWp.cond (b := decide (xs[i + 1] < xs[i])) (by simp) ?_ ?_
    · intro h
      have h : xs[i + 1] < xs[i] := by simpa using h
      repeat first | refine AWp.seq ?_ | refine AWp.block ?_
      refine AWp.ops ?_
      simp
      refine AWp.ret ?_
      simp
      refine retOk.of rfl ⟨rfl, ?_⟩
      have : ¬ Sorted xs := fun hs => by
        have := hs i hb
        simp [hb, hb0] at this
        omega
      simp [this]
    · intro h
      have h : xs[i] ≤ xs[i + 1] := by simpa using h
      refine AWp.skip ?_
      simp only [qSeq, qBlock]
      repeat first | refine AWp.seq ?_ | refine AWp.block ?_
      refine AWp.ops ?_
      simp [e2, g1, g2]
      refine ⟨i + 1, _, _, Weak.slots [0, 3], ?_, by omega⟩
      rw [hJ]
      refine ⟨by omega, rfl, fun k h1 h2 => ?_, by simp⟩
      by_cases e : k = i
      · subst e
        simp [hb, hb0]
        exact h
      · exact hinv k (by omega) h2
  · intro h0
    have h0 : ¬ 1 < j := by simpa using h0
    refine AWp.exit ?_
    simp [qSeq, qBlock]
    repeat first | refine AWp.seq ?_ | refine AWp.block ?_
    refine AWp.ops ?_
    simp
    refine AWp.ret ?_
    simp
    refine retOk.of rfl ⟨rfl, ?_⟩
    have : Sorted xs := fun k hk => hinv k (by omega) hk
    simp [this]
structure Lv where
  k : Int
  sz : Int
  pos : List Int
  crd : List Int
abbrev i64r (n : Int) : Prop := -9223372036854775808 ≤ n ∧ n ≤ 9223372036854775807
def lvC (l : Lv) (p c : AV) : List AV := [I l.k, I l.sz, p, c]
structure LvOk (l : Lv) (p c : AV) : Prop where
  pos : ISl p l.pos
  crd : ISl c l.crd
  rk : i64r l.k
  rsz : i64r l.sz
abbrev lvO (a : AV) : AObj := ⟨34, 4, [a], true, none⟩
def lvWhole (l : Lv) : Bool := decide (l.k = 0 ∨ l.k = 4)
def Whole_1 : AC := (.seq (.ops [.o 3 (.fad 0 (.t 1)), .o 4 (.ld 1 false (.t 3)), .o 5 (.bin .eql (.t 4) (.i 0)), .m 6 (.t 5), .og 7 6 false (.fad 0 (.t 1)), .og 8 6 false (.ld 1 false (.t 7)), .og 9 6 false (.bin .eql (.t 8) (.i 4)), .o 10 (.pick (.t 6) (.b true) (.t 9)), .m 2 (.t 10)]) .ret)
def Whole_ac : AC := (.seq (.ops [.o 1 (.new 34 4 (.t 0)), .m 2 (.b false)]) Whole_1)
theorem Whole_call {args : List AV} {H : List AObj} {R : AV → List AObj → Prop} (h : AWp Try.prog [] H.length Whole_ac (bodyQ H.length [(.t 2)] R) (args ++ List.replicate (11 - args.length) .und) H) : ACalls Try.prog 92 args H R :=
  ACalls.of_fn Try.func92 rfl (by kernel_rfl) rfl Try.ntmps92 h
theorem Whole_spec {l : Lv} {p c : AV} (hl : LvOk l p c) : ACalls Try.prog 92 [.agg [I l.k, I l.sz, p, c]] [] fun r H' => H' = [] ∧ r = Bo (lvWhole l) := by
  obtain ⟨h1, h2, h3, h4⟩ := hl
  obtain ⟨⟨nl, cp, sz, rfl, hs⟩, hlen, hx⟩ := h1
  obtain ⟨⟨nl', cp', sz', rfl, hs'⟩, hlen', hx'⟩ := h2
  have base : ACalls Try.prog 92 [.agg [I l.k, I l.sz, .imm nl cp sz (l.pos.map I), .imm nl' cp' sz' (l.crd.map I)]] [] fun r H' => r = Bo (lvWhole l) := by
    apply Whole_call
    repeat first | refine AWp.seq ?_ | refine AWp.block ?_
    refine AWp.ops ?_
    simp
    by_cases h0 : l.k = 0
    ·
      repeat first | refine AWp.seq ?_ | refine AWp.block ?_
      refine AWp.ops ?_
      simp [h0]
      refine AWp.ret ?_
      simp
      refine retOk.of rfl ?_
      simp [lvWhole, h0]
    ·
      repeat first | refine AWp.seq ?_ | refine AWp.block ?_
      refine AWp.ops ?_
      simp [h0]
      refine AWp.ret ?_
      simp
      refine retOk.of rfl ?_
      by_cases h4 : l.k = 4 <;> simp [lvWhole, h0, h4]
  refine (base.frozen 2).mono ?_
  rintro q H' ⟨rfl, r, G, rfl, rfl⟩
  exact ⟨rfl, by simp⟩
def lvBelow (l : Lv) (n : Int) : Int := if l.k = 0 ∨ l.k = 4 then n * l.sz else l.crd.length
def below_5 : AC := (.seq (.ops [.o 11 (.fad 3 (.t 2)), .o 12 (.ld 1 false (.t 11)), .o 13 (.len (.t 12)), .m 4 (.t 13)]) .ret)
def below_4 : AC := (.seq (.ops [.m 7 (.t 1), .o 8 (.fad 1 (.t 2)), .o 9 (.ld 1 false (.t 8)), .o 10 (.bin .mul (.t 7) (.t 9)), .m 4 (.t 10)]) .ret)
def below_3 : AC := (.cond (.t 6) below_4 .skip)
def below_2 : AC := (.seq (.ops [.o 5 (.ld 4 true (.t 2)), .c 6 false (.f 92) [(.t 5)]]) below_3)
def below_1 : AC := (.seq below_2 below_5)
def below_ac : AC := (.seq (.ops [.o 2 (.new 34 4 (.t 0)), .m 4 (.i 0)]) below_1)
theorem below_call {args : List AV} {H : List AObj} {R : AV → List AObj → Prop} (h : AWp Try.prog [] H.length below_ac (bodyQ H.length [(.t 4)] R) (args ++ List.replicate (14 - args.length) .und) H) : ACalls Try.prog 85 args H R :=
  ACalls.of_fn Try.func85 rfl (by kernel_rfl) rfl Try.ntmps85 h
theorem below_spec {l : Lv} {p c : AV} (hl : LvOk l p c) {n : Int} (hn : 0 ≤ n ∧ n ≤ 1048576) (hz : 0 ≤ l.sz ∧ l.sz ≤ 2147483648) : ACalls Try.prog 85 [.agg [I l.k, I l.sz, p, c], I n] [] fun r H' => H' = [] ∧ r = I (lvBelow l n) := by
  have hl' := hl
  obtain ⟨h1, h2, h3, h4⟩ := hl
  obtain ⟨⟨nl, cp, sz, rfl, hs⟩, hlen, hx⟩ := h1
  obtain ⟨⟨nl', cp', sz', rfl, hs'⟩, hlen', hx'⟩ := h2
  have base : ACalls Try.prog 85 [.agg [I l.k, I l.sz, .imm nl cp sz (l.pos.map I), .imm nl' cp' sz' (l.crd.map I)], I n] [] fun r H' => r = I (lvBelow l n) := by
    apply below_call
    repeat first | refine AWp.seq ?_ | refine AWp.block ?_
    refine AWp.ops ?_
    simp
    repeat first | refine AWp.seq ?_ | refine AWp.block ?_
    refine AWp.ops ?_
    simp
    refine ((Whole_spec hl').pure (by simp) (by rintro r rfl; simp) _).mono ?_
    rintro r H' ⟨rfl, rfl⟩
    simp
    have hb : n * l.sz ≤ 1048576 * 2147483648 := Int.mul_le_mul hn.2 hz.2 hz.1 (by omega)
    have hb0 : 0 ≤ n * l.sz := Int.mul_nonneg hn.1 hz.1
    have hw := wrap_i64 (n := n * l.sz) (by omega) (by omega)
    refine AWp.cond (b := lvWhole l) (by simp) ?_ ?_
    · intro h
      repeat first | refine AWp.seq ?_ | refine AWp.block ?_
      refine AWp.ops ?_
      simp [hw]
      refine AWp.ret ?_
      simp
      refine retOk.of rfl ?_
      have h : l.k = 0 ∨ l.k = 4 := by simpa [lvWhole] using h
      rw [lvBelow, if_pos h]; simp
    · intro h
      have h : ¬ (l.k = 0 ∨ l.k = 4) := by simpa only [lvWhole, decide_eq_false_iff_not] using h
      refine AWp.skip ?_
      simp only [qSeq]
      repeat first | refine AWp.seq ?_ | refine AWp.block ?_
      refine AWp.ops ?_
      simp
      refine AWp.ret ?_
      simp
      refine retOk.of rfl ?_
      rw [lvBelow, if_neg h]; simp
  refine (base.frozen 2).mono ?_
  rintro q H' ⟨rfl, r, G, rfl, rfl⟩
  exact ⟨rfl, by simp⟩
end Go.Fw
