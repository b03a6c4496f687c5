import Derived.Test.YthipbeffhfdamaaFwbox1
namespace Go.Fw
open Go Go.RowKit Go.Proofs
set_option maxRecDepth 100000
set_option linter.unusedSimpArgs false
set_option linter.unusedVariables false
def specV (s : Int × Int × Int) : AV := .agg [I s.1, I s.2.1, I s.2.2]
@[simp] theorem specV_mk (k m z : Int) : specV (k, m, z) = .agg [I k, I m, I z] := rfl
def Sp (a : AV) (fs : List (Int × Int × Int)) : Prop :=
  (∃ nl c sz, a = .imm nl c sz (fs.map specV) ∧ ((nl = true → fs = []) ∧ (nl = false → sz = 3))) ∧ fs.length ≤ 9223372036854775807 ∧
    ∀ s ∈ fs, (-9223372036854775808 ≤ s.1 ∧ s.1 ≤ 9223372036854775807) ∧ (-9223372036854775808 ≤ s.2.1 ∧ s.2.1 ≤ 9223372036854775807) ∧ (-9223372036854775808 ≤ s.2.2 ∧ s.2.2 ≤ 9223372036854775807)
theorem Sp.noRef {a : AV} {fs : List (Int × Int × Int)} (h : Sp a fs) : noRef a = true := by
  obtain ⟨⟨_, _, _, rfl, _⟩, _⟩ := h
  rfl
theorem sz3_of {nl : Bool} {fs : List (Int × Int × Int)} {sz i : Nat} (hs : (nl = true → fs = []) ∧ (nl = false → sz = 3)) (h : i < fs.length) : sz = 3 := by
  cases nl with
  | true => have := hs.1 rfl; subst this; simp at h
  | false => exact hs.2 rfl
theorem spec_get {fs : List (Int × Int × Int)} {i : Nat} (h : i < fs.length) : (fs.map specV)[i]? = some (.agg [I fs[i].1, I fs[i].2.1, I fs[i].2.2]) := by
  rw [List.getElem?_map, List.getElem?_eq_getElem h]; rfl
def mcells : List (Bool × Int) → List AV
  | [] => []
  | p :: r => Bo p.1 :: I p.2 :: mcells r
theorem mcells_len : ∀ M : List (Bool × Int), (mcells M).length = M.length * 2
  | [] => rfl
  | p :: r => by simp only [mcells, List.length_cons, mcells_len r]; omega
theorem mcells_get0 : ∀ (M : List (Bool × Int)) (j : Nat) (h : j < M.length), (mcells M)[j * 2]? = some (Bo M[j].1)
  | p :: r, 0, _ => rfl
  | p :: r, j + 1, h => by
    rw [show (j + 1) * 2 = j * 2 + 1 + 1 by omega]
    simp only [mcells, List.getElem?_cons_succ, List.getElem_cons_succ]
    exact mcells_get0 r j (by simpa using h)
theorem mcells_get1 : ∀ (M : List (Bool × Int)) (j : Nat) (h : j < M.length), (mcells M)[j * 2 + 1]? = some (I M[j].2)
  | p :: r, 0, _ => rfl
  | p :: r, j + 1, h => by
    rw [show (j + 1) * 2 + 1 = j * 2 + 1 + 1 + 1 by omega]
    simp only [mcells, List.getElem?_cons_succ, List.getElem_cons_succ]
    exact mcells_get1 r j (by simpa using h)
theorem mcells_set0 : ∀ (M : List (Bool × Int)) (j : Nat) (h : j < M.length) (b : Bool), (mcells M).set (j * 2) (Bo b) = mcells (M.set j (b, M[j].2))
  | p :: r, 0, _, b => rfl
  | p :: r, j + 1, h, b => by
    rw [show (j + 1) * 2 = j * 2 + 1 + 1 by omega]
    simp only [mcells, List.set_cons_succ, List.getElem_cons_succ]
    rw [mcells_set0 r j (by simpa using h) b]
theorem mcells_set1 : ∀ (M : List (Bool × Int)) (j : Nat) (h : j < M.length) (b : Int), (mcells M).set (j * 2 + 1) (I b) = mcells (M.set j (M[j].1, b))
  | p :: r, 0, _, b => rfl
  | p :: r, j + 1, h, b => by
    rw [show (j + 1) * 2 + 1 = j * 2 + 1 + 1 + 1 by omega]
    simp only [mcells, List.set_cons_succ, List.getElem_cons_succ]
    rw [mcells_set1 r j (by simpa using h) b]
theorem mcells_one (M : List (Bool × Int)) : ∀ x ∈ mcells M, oneC x = true := by
  induction M with
  | nil => intro x h; simp [mcells] at h
  | cons p r ih =>
    intro x h
    simp only [mcells, List.mem_cons] at h
    rcases h with rfl | rfl | h
    · rfl
    · rfl
    · exact ih x h
theorem mcells_frz (M : List (Bool × Int)) (G : List AObj) (k n : Nat) (b : Bool) : (mcells M).map (frz G k n b) = mcells M := by
  induction M with
  | nil => rfl
  | cons p r ih => simp only [mcells, List.map_cons, frz_sc, ih]
theorem setAll_self : ∀ (cs pre : List AV), setAll (pre ++ cs) pre.length cs = pre ++ cs
  | [], pre => rfl
  | x :: r, pre => by
    simp only [setAll]
    have e : (pre ++ x :: r).set pre.length x = (pre ++ [x]) ++ r := by simp
    rw [e]
    have := setAll_self r (pre ++ [x])
    simp only [List.length_append, List.length_singleton] at this
    rw [this]; simp
theorem setAll_same (cs : List AV) : setAll cs 0 cs = cs := setAll_self cs []
def readStep (xs : List Int) (s : Int × Int × Int) (M : List (Bool × Int)) (before : Int) : Option (List (Bool × Int)) :=
  if s.2.1 < 0 ∨ (xs.length : Int) ≤ s.2.1 then none
  else if s.1 = 0 ∨ s.1 = 1 ∨ s.1 = 2 ∨ s.1 = 3 then
    if (M.getD s.2.1.toNat (false, 0)).1 = false ∧ s.2.2 = 0 ∧ ((before = 2 ∨ before = 3) ↔ s.1 = 3) then some (M.set s.2.1.toNat (true, (M.getD s.2.1.toNat (false, 0)).2)) else none
  else if s.1 = 4 then
    if (M.getD s.2.1.toNat (false, 0)).1 = true ∧ (M.getD s.2.1.toNat (false, 0)).2 = 0 ∧ ¬ (before = 2 ∨ before = 3) ∧ 0 < s.2.2 ∧ (xs.getD s.2.1.toNat 0).tmod s.2.2 = 0 then some (M.set s.2.1.toNat ((M.getD s.2.1.toNat (false, 0)).1, s.2.2)) else none
  else none
def readGo (xs : List Int) : List (Int × Int × Int) → List (Bool × Int) → Int → Option (List (Bool × Int))
  | [], M, _ => some M
  | s :: r, M, b => (readStep xs s M b).bind fun M' => readGo xs r M' s.1
def readF (xs : List Int) (fs : List (Int × Int × Int)) : Option (List (Bool × Int)) :=
  (readGo xs fs (List.replicate 4 (false, 0)) 0).bind fun M => if (M.take xs.length).all (·.1) = true then some M else none
theorem readStep_len {xs : List Int} {s : Int × Int × Int} {M M' : List (Bool × Int)} {b : Int} (h : readStep xs s M b = some M') : M'.length = M.length := by
  unfold readStep at h
  split at h
  · cases h
  · split at h
    · split at h
      · cases h; simp
      · cases h
    · split at h
      · split at h
        · cases h; simp
        · cases h
      · cases h
theorem AWp.cutO {P : Program} {own : List Nat} {nb : Nat} {x y : AC} {Q : Exit → List AV → List AObj → Prop} {fr : List AV} {H : List AObj} (Po : List AV → List AObj → Prop)
    (h : AWp P own nb x (qSeq Po Q) fr H) (k : ∀ fr H, Po fr H → AWp P own nb y Q fr H) : AWp P own nb (.seq x y) Q fr H := by
  refine AWp.seq (h.mono ?_)
  intro e fr H hq
  cases e with
  | normal => exact k fr H hq
  | _ => exact hq
abbrev specO (s : Int × Int × Int) : AObj := ⟨43, 3, [specV s], true, none⟩
abbrev modO (M : List (Bool × Int)) : AObj := ⟨71, 8, [.agg (mcells M)], true, none⟩
def read_47 : AC := (.seq (.ops [.o 121 (.ld 8 true (.t 4)), .on (.st 8 (.t 4) (.t 121)), .m 5 (.b true)]) .ret)
def read_46 : AC := (.seq (.ops [.o 119 (.ld 8 true (.t 4)), .on (.st 8 (.t 4) (.t 119)), .m 5 (.b false)]) .ret)
def read_45 : AC := (.cond (.t 118) read_46 .skip)
def read_44 : AC := (.seq (.ops [.m 114 (.t 11), .o 115 (.iar 4 2 (.t 4) (.t 114)), .o 116 (.fad 0 (.t 115)), .o 117 (.ld 1 false (.t 116)), .o 118 (.un .not (.t 117))]) read_45)
def read_43 : AC := (.seq (.ops [.m 113 (.t 111), .m 11 (.t 113)]) read_44)
def read_42 : AC := (.block 4 read_43)
def read_41 : AC := (.seq read_42 (.ops [.o 120 (.bin .add (.t 111) (.i 1)), .m 111 (.t 120)]))
def read_40 : AC := (.seq (.cond (.t 112) .skip (.exit 3)) read_41)
def read_39 : AC := (.seq (.ops [.o 112 (.bin .lss (.t 111) (.t 110))]) read_40)
def read_38 : AC := (.loop read_39)
def read_37 : AC := (.block 3 read_38)
def read_36 : AC := (.seq (.ops [.m 109 (.t 0), .o 110 (.len (.t 109)), .m 111 (.i 0)]) read_37)
def read_35 : AC := (.seq read_36 read_47)
def read_34 : AC := (.seq (.ops [.o 105 (.ld 8 true (.t 4)), .on (.st 8 (.t 4) (.t 105)), .m 5 (.b false)]) .ret)
def read_33 : AC := (.cond (.t 104) read_34 .skip)
def read_32 : AC := (.seq (.ops [.m 103 (.t 5), .o 104 (.un .not (.t 103))]) read_33)
def read_31 : AC := (.seq read_32 (.ops [.o 106 (.fad 0 (.t 8)), .o 107 (.ld 1 false (.t 106)), .m 6 (.t 107)]))
def read_30 : AC := (.seq (.ops [.m 67 (.t 10), .o 68 (.nck (.t 67)), .o 69 (.fad 0 (.t 68)), .o 70 (.ld 1 false (.t 69)), .m 71 (.t 70), .mg 72 71 true (.t 10), .og 73 71 true (.nck (.t 72)), .og 74 71 true (.fad 1 (.t 73)), .og 75 71 true (.ld 1 false (.t 74)), .og 76 71 true (.bin .eql (.t 75) (.i 0)), .o 77 (.pick (.t 71) (.t 76) (.b false)), .m 78 (.t 77), .mg 79 78 true (.t 9), .og 80 78 true (.un .not (.t 79)), .o 81 (.pick (.t 78) (.t 80) (.b false)), .m 82 (.t 81), .og 83 82 true (.fad 2 (.t 8)), .og 84 82 true (.ld 1 false (.t 83)), .og 85 82 true (.bin .gtr (.t 84) (.i 0)), .o 86 (.pick (.t 82) (.t 85) (.b false)), .m 87 (.t 86), .mg 88 87 true (.t 0), .og 89 87 true (.fad 1 (.t 8)), .og 90 87 true (.ld 1 false (.t 89)), .og 91 87 true (.iad 1 (.t 88) (.t 90)), .og 92 87 true (.ld 1 false (.t 91)), .og 93 87 true (.fad 2 (.t 8)), .og 94 87 true (.ld 1 false (.t 93)), .og 95 87 true (.bin .rem (.t 92) (.t 94)), .og 96 87 true (.bin .eql (.t 95) (.i 0)), .o 97 (.pick (.t 87) (.t 96) (.b false)), .m 5 (.t 97)]) (.ops [.m 98 (.t 10), .o 99 (.fad 2 (.t 8)), .o 100 (.ld 1 false (.t 99)), .o 101 (.nck (.t 98)), .o 102 (.fad 1 (.t 101)), .on (.st 1 (.t 102) (.t 100))]))
def read_29 : AC := (.cond (.t 65) read_30 (.ops [.m 5 (.b false)]))
def read_28 : AC := (.seq (.ops [.o 66 (.bin .eql (.t 39) (.i 4)), .m 65 (.t 66)]) read_29)
def read_27 : AC := (.seq (.ops [.m 45 (.t 10), .o 46 (.nck (.t 45)), .o 47 (.fad 0 (.t 46)), .o 48 (.ld 1 false (.t 47)), .o 49 (.un .not (.t 48)), .m 50 (.t 49), .og 51 50 true (.fad 2 (.t 8)), .og 52 50 true (.ld 1 false (.t 51)), .og 53 50 true (.bin .eql (.t 52) (.i 0)), .o 54 (.pick (.t 50) (.t 53) (.b false)), .m 55 (.t 54), .mg 56 55 true (.t 9), .og 57 55 true (.fad 0 (.t 8)), .og 58 55 true (.ld 1 false (.t 57)), .og 59 55 true (.bin .eql (.t 58) (.i 3)), .og 60 55 true (.beq false (.t 56) (.t 59)), .o 61 (.pick (.t 55) (.t 60) (.b false)), .m 5 (.t 61)]) (.ops [.m 62 (.t 10), .o 63 (.nck (.t 62)), .o 64 (.fad 0 (.t 63)), .on (.st 1 (.t 64) (.b true))]))
def read_26 : AC := (.cond (.t 40) read_27 read_28)
def read_25 : AC := (.seq (.ops [.o 43 (.bin .eql (.t 39) (.i 2)), .m 40 (.t 43)]) (.cond (.t 40) .skip (.ops [.o 44 (.bin .eql (.t 39) (.i 3)), .m 40 (.t 44)])))
def read_24 : AC := (.cond (.t 40) .skip read_25)
def read_23 : AC := (.seq (.ops [.o 42 (.bin .eql (.t 39) (.i 1)), .m 40 (.t 42)]) read_24)
def read_22 : AC := (.cond (.t 40) .skip read_23)
def read_21 : AC := (.seq (.ops [.o 41 (.bin .eql (.t 39) (.i 0)), .m 40 (.t 41)]) read_22)
def read_20 : AC := (.seq read_21 read_26)
def read_19 : AC := (.block 2 read_20)
def read_18 : AC := (.seq (.ops [.o 38 (.fad 0 (.t 8)), .o 39 (.ld 1 false (.t 38))]) read_19)
def read_17 : AC := (.seq read_18 read_31)
def read_16 : AC := (.seq (.ops [.o 35 (.fad 1 (.t 8)), .o 36 (.ld 1 false (.t 35)), .o 37 (.iar 4 2 (.t 4) (.t 36)), .m 10 (.t 37)]) read_17)
def read_15 : AC := (.seq (.ops [.m 29 (.t 6), .o 30 (.bin .eql (.t 29) (.i 2)), .m 31 (.t 30), .mg 32 31 false (.t 6), .og 33 31 false (.bin .eql (.t 32) (.i 3)), .o 34 (.pick (.t 31) (.b true) (.t 33)), .m 9 (.t 34)]) read_16)
def read_14 : AC := (.seq (.ops [.o 28 (.ld 8 true (.t 4)), .on (.st 8 (.t 4) (.t 28)), .m 5 (.b false)]) .ret)
def read_13 : AC := (.cond (.t 27) read_14 .skip)
def read_12 : AC := (.seq (.ops [.o 18 (.fad 1 (.t 8)), .o 19 (.ld 1 false (.t 18)), .o 20 (.bin .lss (.t 19) (.i 0)), .m 21 (.t 20), .og 22 21 false (.fad 1 (.t 8)), .og 23 21 false (.ld 1 false (.t 22)), .mg 24 21 false (.t 0), .og 25 21 false (.len (.t 24)), .og 26 21 false (.bin .geq (.t 23) (.t 25)), .o 27 (.pick (.t 21) (.b true) (.t 26))]) read_13)
def read_11 : AC := (.seq read_12 read_15)
def read_10 : AC := (.seq (.ops [.o 16 (.iad 3 (.t 12) (.t 14)), .o 17 (.ld 3 true (.t 16)), .o 8 (.new 43 3 (.c (.agg [(.sc (.int .i64 0)), (.sc (.int .i64 0)), (.sc (.int .i64 0))]))), .on (.st 3 (.t 8) (.t 17))]) read_11)
def read_9 : AC := (.block 1 read_10)
def read_8 : AC := (.seq read_9 (.ops [.o 108 (.bin .add (.t 14) (.i 1)), .m 14 (.t 108)]))
def read_7 : AC := (.seq (.cond (.t 15) .skip (.exit 0)) read_8)
def read_6 : AC := (.seq (.ops [.o 15 (.bin .lss (.t 14) (.t 13))]) read_7)
def read_5 : AC := (.loop read_6)
def read_4 : AC := (.block 0 read_5)
def read_3 : AC := (.seq (.ops [.m 12 (.t 1), .o 13 (.len (.t 12)), .m 14 (.i 0)]) read_4)
def read_2 : AC := (.seq read_3 read_35)
def read_1 : AC := (.seq (.ops [.m 6 (.i 0)]) read_2)
def read_ac : AC := (.seq (.ops [.o 4 (.new 71 8 (.c (.agg [(.sc (.bool false)), (.sc (.int .i64 0)), (.sc (.bool false)), (.sc (.int .i64 0)), (.sc (.bool false)), (.sc (.int .i64 0)), (.sc (.bool false)), (.sc (.int .i64 0))]))), .m 5 (.b false)]) read_1)
theorem read_call {args : List AV} {H : List AObj} {R : AV → List AObj → Prop} (h : AWp Try.prog [] H.length read_ac (bodyQ H.length [(.cell 4 8 true), (.t 5)] R) (args ++ List.replicate (122 - args.length) .und) H) : ACalls Try.prog 40 args H R :=
  ACalls.of_fn Try.func40 rfl (by kernel_rfl) rfl Try.ntmps40 h
def readR (xs : List Int) (fs : List (Int × Int × Int)) (r : AV) : Prop :=
  ∃ M ok, r = .tup [.agg (mcells M), Bo ok] ∧ M.length = 4 ∧ (ok = true → readF xs fs = some M) ∧ (ok = false → readF xs fs = none)
set_option maxHeartbeats 4000000 in
theorem read_spec {a b : AV} {xs : List Int} {fs : List (Int × Int × Int)} (ha : ISl a xs) (hb : Sp b fs) (hx4 : xs.length ≤ 4) : ACalls Try.prog 40 [a, b] [] fun r H' => H' = [] ∧ readR xs fs r := by
  obtain ⟨⟨nl, c, sz, rfl, hs⟩, hlen, hx⟩ := ha
  obtain ⟨⟨nl', c', sz', rfl, hs'⟩, hlen', hx'⟩ := hb
  have base : ACalls Try.prog 40 [.imm nl c sz (xs.map I), .imm nl' c' sz' (fs.map specV)] [] fun r _ => readR xs fs r := by
    apply read_call
    repeat first | refine AWp.seq ?_ | refine AWp.block ?_
    refine AWp.ops ?_
    simp
    repeat first | refine AWp.seq ?_ | refine AWp.block ?_
    refine AWp.ops ?_
    simp
    have hm0 : [.sc (.bool false), .sc (.int .i64 0), .sc (.bool false), .sc (.int .i64 0), .sc (.bool false), .sc (.int .i64 0), .sc (.bool false), .sc (.int .i64 0)] = mcells (List.replicate 4 (false, 0)) := rfl
    refine AWp.cutE (σ := List (Bool × Int)) (fun M => M.length = 4 ∧ readGo xs fs (List.replicate 4 (false, 0)) 0 = some M) (fun _ => [.imm nl c sz (xs.map I), .und, .und, .und, .ptr 0 1 0 0, .und, .und, .und, .und, .und, .und, .und, .und, .und, .und, .und, .und, .und, .und, .und, .und, .und, .und, .und, .und, .und, .und, .und, .und, .und, .und, .und, .und, .und, .und, .und, .und, .und, .und, .und, .und, .und, .und, .und, .und, .und, .und, .und, .und, .und, .und, .und, .und, .und, .und, .und, .und, .und, .und, .und, .und, .und, .und, .und, .und, .und, .und, .und, .und, .und, .und, .und, .und, .und, .und, .und, .und, .und, .und, .und, .und, .und, .und, .und, .und, .und, .und, .und, .und, .und, .und, .und, .und, .und, .und, .und, .und, .und, .und, .und, .und, .und, .und, .und, .und, .und, .und, .und, .und, .und, .und, .und, .und, .und, .und, .und, .und, .und, .und, .und, .und, .und]) (fun M => [modO M]) ?_ ?_
    ·
      repeat first | refine AWp.seq ?_ | refine AWp.block ?_
      refine AWp.ops ?_
      simp
      rw [hm0]
      obtain ⟨J, hJ⟩ : ∃ J : Nat → List AV → List AObj → Prop, J = fun i fr H => i ≤ fs.length ∧ ∃ (M : List (Bool × Int)) (bf : Int) (k5 : AV), (M.length = 4 ∧ readGo xs fs (List.replicate 4 (false, 0)) 0 = readGo xs (fs.drop i) M bf) ∧ H = [modO M] ∧
        fr = [.imm nl c sz (xs.map I), .und, .und, .und, .ptr 0 1 0 0, k5, I bf, .und, .und, .und, .und, .und, .imm nl' c' sz' (fs.map specV), I fs.length, I i, .und, .und, .und, .und, .und, .und, .und, .und, .und, .und, .und, .und, .und, .und, .und, .und, .und, .und, .und, .und, .und, .und, .und, .und, .und, .und, .und, .und, .und, .und, .und, .und, .und, .und, .und, .und, .und, .und, .und, .und, .und, .und, .und, .und, .und, .und, .und, .und, .und, .und, .und, .und, .und, .und, .und, .und, .und, .und, .und, .und, .und, .und, .und, .und, .und, .und, .und, .und, .und, .und, .und, .und, .und, .und, .und, .und, .und, .und, .und, .und, .und, .und, .und, .und, .und, .und, .und, .und, .und, .und, .und, .und, .und, .und, .und, .und, .und, .und, .und, .und, .und, .und, .und, .und, .und, .und, .und] := ⟨_, rfl⟩
      refine AWp.block (AWp.loop J (fun i => fs.length - i) 0 (Weak.slots [0, 4, 5, 6, 12, 13, 14]) (by rw [hJ]; exact ⟨by omega, List.replicate 4 (false, 0), 0, Bo false, ⟨rfl, rfl⟩, by simp, by simp⟩) ?_)
      intro i fr H hI
      rw [hJ] at hI
      obtain ⟨hi, M, bf, k5, hinv, rfl, rfl⟩ := hI
      repeat first | refine AWp.seq ?_ | refine AWp.block ?_
      refine AWp.ops ?_
      simp
      refine AWp.seq (AWp.cond (b := decide (i < fs.length)) (by simp <;> omega) ?_ ?_)
      ·
        intro hb
        have hb : i < fs.length := by simpa using hb
        refine AWp.skip ?_
        simp only [qSeq]
        obtain ⟨hM4, hgo⟩ := hinv
        have hsz := sz3_of hs' hb
        subst hsz
        rw [List.drop_eq_getElem_cons hb, readGo] at hgo
        have hgs := spec_get hb
        have hin := hx' fs[i] (List.getElem_mem hb)
        generalize hsp : fs[i] = sp at hgo hgs hin
        obtain ⟨k, mo, z⟩ := sp
        simp only at hgs hin
        have hM8 : (mcells M).length = 8 := by rw [mcells_len, hM4]
        have hone : (∀ x, x ∈ mcells M → oneC x = true) = True := eq_true (mcells_one M)
        have hset := setAll_same (mcells M)
        have hmf : (mcells M).map (frz [modO M, specO (k, mo, z)] 1 1 true) = mcells M := mcells_frz _ _ _ _ _
        repeat first | refine AWp.seq ?_ | refine AWp.block ?_
        refine AWp.ops ?_
        simp [hgs]
        repeat first | refine AWp.seq ?_ | refine AWp.block ?_
        refine AWp.ops ?_
        simp
        have bad : readStep xs (k, mo, z) M bf = none → readR xs fs (.tup [.agg (mcells M), Bo false]) := by
          intro h
          refine ⟨M, false, rfl, hM4, (by intro h; cases h), fun _ => ?_⟩
          rw [readF, hgo, h]; rfl
        by_cases hm0 : mo < 0
        · have hbad : readStep xs (k, mo, z) M bf = none := by simp [readStep, hm0]
          simp [hm0, Int.not_le.2 hm0]
          refine AWp.cond (b := true) (by simp) (fun _ => ?_) (fun h => by cases h)
          repeat first | refine AWp.seq ?_ | refine AWp.block ?_
          refine AWp.ops ?_
          simp [hM8, hone, hset]
          refine AWp.ret ?_
          simp
          refine retOk.of (vs := [.agg (mcells M), Bo false]) (by simp [hM8]) ?_
          exact bad hbad
        by_cases hm1 : (xs.length : Int) ≤ mo
        · have hbad : readStep xs (k, mo, z) M bf = none := by simp [readStep, hm1]
          simp [hm0, Int.not_lt.1 hm0, hm1]
          refine AWp.cond (b := true) (by simp [hm1]) (fun _ => ?_) (fun h => by cases h)
          repeat first | refine AWp.seq ?_ | refine AWp.block ?_
          refine AWp.ops ?_
          simp [hM8, hone, hset]
          refine AWp.ret ?_
          simp
          refine retOk.of (vs := [.agg (mcells M), Bo false]) (by simp [hM8]) ?_
          exact bad hbad
        simp [hm0, Int.not_lt.1 hm0, hm1]
        refine AWp.cond (b := false) (by simp <;> omega) (fun h => by cases h) (fun _ => ?_)
        refine AWp.skip ?_
        simp only [qSeq]
        obtain ⟨j, rfl⟩ : ∃ j : Nat, mo = j := ⟨mo.toNat, by omega⟩
        have hj : j < xs.length := by omega
        have hj4 : (j : Int) < 4 := by omega
        have hjM : j < M.length := by omega
        have hszx := sz_of hs hj
        subst hszx
        obtain ⟨lo, hlo⟩ : ∃ lo, lo = (bf == 2 || bf == 3) := ⟨_, rfl⟩
        refine AWp.cut [.imm nl c 1 (xs.map I), .und, .und, .und, .ptr 0 1 0 0, .und, .und, .und, .ptr 1 1 0 0, Bo lo, .und, .und, .imm nl' c' 3 (fs.map specV), I fs.length, I i, .und, .und, .und, .und, .und, .und, .und, .und, .und, .und, .und, .und, .und, .und, .und, .und, .und, .und, .und, .und, .und, .und, .und, .und, .und, .und, .und, .und, .und, .und, .und, .und, .und, .und, .und, .und, .und, .und, .und, .und, .und, .und, .und, .und, .und, .und, .und, .und, .und, .und, .und, .und, .und, .und, .und, .und, .und, .und, .und, .und, .und, .und, .und, .und, .und, .und, .und, .und, .und, .und, .und, .und, .und, .und, .und, .und, .und, .und, .und, .und, .und, .und, .und, .und, .und, .und, .und, .und, .und, .und, .und, .und, .und, .und, .und, .und, .und, .und, .und, .und, .und, .und, .und, .und, .und, .und, .und] [modO M, specO (k, j, z)] ?_ ?_
        · refine AWp.ops ?_
          by_cases hb2 : bf = 2
          · simp [hb2]
            exact (Weak.slots [0, 4, 8, 9, 12, 13, 14]).to (by simp [hlo, hb2]) rfl
          · simp [hb2]
            exact (Weak.slots [0, 4, 8, 9, 12, 13, 14]).to (by simp [hlo, hb2]) rfl
        have hj4' : j < 4 := by omega
        repeat first | refine AWp.seq ?_ | refine AWp.block ?_
        refine AWp.ops ?_
        simp [hj4, hj4']
        obtain ⟨Po, hPo⟩ : ∃ Po : List AV → List AObj → Prop, Po = fun fr H => ∃ (M2 : List (Bool × Int)) (okb : Bool), (M2.length = 4 ∧ (okb = true → readStep xs (k, j, z) M bf = some M2) ∧ (okb = false → readStep xs (k, j, z) M bf = none)) ∧
          Weak 0 fr H [.imm nl c 1 (xs.map I), .und, .und, .und, .ptr 0 1 0 0, Bo okb, .und, .und, .ptr 1 1 0 0, .und, .und, .und, .imm nl' c' 3 (fs.map specV), I fs.length, I i, .und, .und, .und, .und, .und, .und, .und, .und, .und, .und, .und, .und, .und, .und, .und, .und, .und, .und, .und, .und, .und, .und, .und, .und, .und, .und, .und, .und, .und, .und, .und, .und, .und, .und, .und, .und, .und, .und, .und, .und, .und, .und, .und, .und, .und, .und, .und, .und, .und, .und, .und, .und, .und, .und, .und, .und, .und, .und, .und, .und, .und, .und, .und, .und, .und, .und, .und, .und, .und, .und, .und, .und, .und, .und, .und, .und, .und, .und, .und, .und, .und, .und, .und, .und, .und, .und, .und, .und, .und, .und, .und, .und, .und, .und, .und, .und, .und, .und, .und, .und, .und, .und, .und, .und, .und, .und, .und] [modO M2, specO (k, j, z)] := ⟨_, rfl⟩
        have hmj : M.getD j (false, 0) = M[j] := by simp [List.getD, hjM]
        refine AWp.cutO Po ?_ ?_
        ·
          repeat first | refine AWp.seq ?_ | refine AWp.block ?_
          refine AWp.ops ?_
          simp
          obtain ⟨sw, hsw⟩ : ∃ sw, sw = (k == 0 || k == 1 || k == 2 || k == 3) := ⟨_, rfl⟩
          refine AWp.block (AWp.cut [.imm nl c 1 (xs.map I), .und, .und, .und, .ptr 0 1 0 0, .und, .und, .und, .ptr 1 1 0 0, Bo lo, .ptr 0 1 0 (j * 2), .und, .imm nl' c' 3 (fs.map specV), I fs.length, I i, .und, .und, .und, .und, .und, .und, .und, .und, .und, .und, .und, .und, .und, .und, .und, .und, .und, .und, .und, .und, .und, .und, .und, .und, I k, Bo sw, .und, .und, .und, .und, .und, .und, .und, .und, .und, .und, .und, .und, .und, .und, .und, .und, .und, .und, .und, .und, .und, .und, .und, .und, .und, .und, .und, .und, .und, .und, .und, .und, .und, .und, .und, .und, .und, .und, .und, .und, .und, .und, .und, .und, .und, .und, .und, .und, .und, .und, .und, .und, .und, .und, .und, .und, .und, .und, .und, .und, .und, .und, .und, .und, .und, .und, .und, .und, .und, .und, .und, .und, .und, .und, .und, .und, .und, .und, .und, .und, .und] [modO M, specO (k, j, z)] ?_ ?_)
          · have done : sw = true → (k = 0 ∨ k = 1 ∨ k = 2 ∨ k = 3) := by rw [hsw]; simp; omega
            repeat first | refine AWp.seq ?_ | refine AWp.block ?_
            refine AWp.ops ?_
            simp
            by_cases k0 : k = 0
            · simp [k0]
              refine AWp.cond (b := true) (by simp) (fun _ => ?_) (fun h => by cases h)
              refine AWp.skip ?_
              simp only [qSeq]
              exact (Weak.slots [0, 4, 8, 9, 10, 12, 13, 14, 39, 40]).to (by simp [hsw, k0]) rfl
            refine AWp.cond (b := false) (by simp [k0]) (fun h => by cases h) (fun _ => ?_)
            repeat first | refine AWp.seq ?_ | refine AWp.block ?_
            refine AWp.ops ?_
            simp
            by_cases k1 : k = 1
            · simp [k1]
              refine AWp.cond (b := true) (by simp) (fun _ => ?_) (fun h => by cases h)
              refine AWp.skip ?_
              simp only [qSeq]
              exact (Weak.slots [0, 4, 8, 9, 10, 12, 13, 14, 39, 40]).to (by simp [hsw, k1]) rfl
            refine AWp.cond (b := false) (by simp [k1]) (fun h => by cases h) (fun _ => ?_)
            repeat first | refine AWp.seq ?_ | refine AWp.block ?_
            refine AWp.ops ?_
            simp
            by_cases k2 : k = 2
            · simp [k2]
              refine AWp.cond (b := true) (by simp) (fun _ => ?_) (fun h => by cases h)
              refine AWp.skip ?_
              simp only [qSeq]
              exact (Weak.slots [0, 4, 8, 9, 10, 12, 13, 14, 39, 40]).to (by simp [hsw, k2]) rfl
            refine AWp.cond (b := false) (by simp [k2]) (fun h => by cases h) (fun _ => ?_)
            repeat first | refine AWp.seq ?_ | refine AWp.block ?_
            refine AWp.ops ?_
            simp
            exact (Weak.slots [0, 4, 8, 9, 10, 12, 13, 14, 39, 40]).to (by simp [hsw, k0, k1, k2]) rfl
          refine AWp.cond (b := sw) (by simp) ?_ ?_
          · intro hs1
            have hk : k = 0 ∨ k = 1 ∨ k = 2 ∨ k = 3 := by rw [hsw] at hs1; simp at hs1; omega
            have hrs : readStep xs (k, (j : Int), z) M bf = if M[j].1 = false ∧ z = 0 ∧ ((bf = 2 ∨ bf = 3) ↔ k = 3) then some (M.set j (true, M[j].2)) else none := by
              simp only [readStep]
              rw [if_neg (by omega), if_pos hk, Int.toNat_natCast, hmj]
            have mg0 := mcells_get0 M j hjM
            have mb0 : j * 2 + 1 ≤ 8 := by omega
            have ms0 := mcells_set0 M j hjM true
            have fin : ∀ (ok : Bool) (fr : List AV) (H : List AObj), (ok = true ↔ (M[j].1 = false ∧ z = 0 ∧ ((bf = 2 ∨ bf = 3) ↔ k = 3))) →
                Weak 0 fr H [.imm nl c 1 (xs.map I), .und, .und, .und, .ptr 0 1 0 0, Bo ok, .und, .und, .ptr 1 1 0 0, .und, .und, .und, .imm nl' c' 3 (fs.map specV), I fs.length, I i, .und, .und, .und, .und, .und, .und, .und, .und, .und, .und, .und, .und, .und, .und, .und, .und, .und, .und, .und, .und, .und, .und, .und, .und, .und, .und, .und, .und, .und, .und, .und, .und, .und, .und, .und, .und, .und, .und, .und, .und, .und, .und, .und, .und, .und, .und, .und, .und, .und, .und, .und, .und, .und, .und, .und, .und, .und, .und, .und, .und, .und, .und, .und, .und, .und, .und, .und, .und, .und, .und, .und, .und, .und, .und, .und, .und, .und, .und, .und, .und, .und, .und, .und, .und, .und, .und, .und, .und, .und, .und, .und, .und, .und, .und, .und, .und, .und, .und, .und, .und, .und, .und, .und, .und, .und, .und, .und] [modO (M.set j (true, M[j].2)), specO (k, j, z)] → Po fr H := by
              intro ok fr H hok hw
              rw [hPo]
              refine ⟨_, ok, ⟨by simpa using hM4, fun h => ?_, fun h => ?_⟩, hw⟩
              · rw [hrs, if_pos (hok.1 h)]
              · rw [hrs, if_neg (fun hc => by rw [hok.2 hc] at h; cases h)]
            cases hmet : M[j].1 with
            | true =>
              rw [hmet] at mg0
              repeat first | refine AWp.seq ?_ | refine AWp.block ?_
              refine AWp.ops ?_
              simp [mg0]
              repeat first | refine AWp.seq ?_ | refine AWp.block ?_
              refine AWp.ops ?_
              simp [mg0, hM8, mb0, ms0]
              exact fin false _ _ (by simp [hmet]) ((Weak.slots [0, 4, 5, 8, 12, 13, 14]).to (by simp) rfl)
            | false =>
              rw [hmet] at mg0
              by_cases hz0 : z = 0
              ·
                repeat first | refine AWp.seq ?_ | refine AWp.block ?_
                refine AWp.ops ?_
                simp [mg0, hz0]
                repeat first | refine AWp.seq ?_ | refine AWp.block ?_
                refine AWp.ops ?_
                simp [mg0, hM8, mb0, ms0]
                refine fin (lo == (k == 3)) _ _ ?_ ((Weak.slots [0, 4, 5, 8, 12, 13, 14]).to (by simp) (by simp [hz0]))
                have e1 : (bf == 2) = decide (bf = 2) := by by_cases h : bf = 2 <;> simp [h]
                have e2 : (bf == 3) = decide (bf = 3) := by by_cases h : bf = 3 <;> simp [h]
                have e3 : (k == 3) = decide (k = 3) := by by_cases h : k = 3 <;> simp [h]
                rw [hlo, e1, e2, e3]
                by_cases c1 : bf = 2 <;> by_cases c2 : bf = 3 <;> by_cases c3 : k = 3 <;> simp [hmet, hz0, c1, c2, c3]
              ·
                repeat first | refine AWp.seq ?_ | refine AWp.block ?_
                refine AWp.ops ?_
                simp [mg0, hz0]
                repeat first | refine AWp.seq ?_ | refine AWp.block ?_
                refine AWp.ops ?_
                simp [mg0, hM8, mb0, ms0]
                exact fin false _ _ (by simp [hz0]) ((Weak.slots [0, 4, 5, 8, 12, 13, 14]).to (by simp) rfl)
          · intro hs0
            have hk : ¬ (k = 0 ∨ k = 1 ∨ k = 2 ∨ k = 3) := by
              rw [hsw] at hs0
              simp at hs0
              omega
            repeat first | refine AWp.seq ?_ | refine AWp.block ?_
            refine AWp.ops ?_
            simp
            by_cases k4 : k = 4
            case neg =>
              refine AWp.cond (b := false) (by simp [k4]) (fun h => by cases h) (fun _ => ?_)
              repeat first | refine AWp.seq ?_ | refine AWp.block ?_
              refine AWp.ops ?_
              simp
              rw [hPo]
              refine ⟨M, false, ⟨hM4, (by intro h; cases h), fun _ => ?_⟩, (Weak.slots [0, 4, 5, 8, 12, 13, 14]).to (by simp) rfl⟩
              simp only [readStep]
              rw [if_neg (by omega), if_neg hk, if_neg k4]
            subst k4
            have hrs : readStep xs (4, (j : Int), z) M bf = if M[j].1 = true ∧ M[j].2 = 0 ∧ ¬ (bf = 2 ∨ bf = 3) ∧ 0 < z ∧ xs[j].tmod z = 0 then some (M.set j (M[j].1, z)) else none := by
              simp only [readStep]
              rw [if_neg (by omega), if_neg hk, if_pos trivial, Int.toNat_natCast, hmj]
              have : xs.getD j 0 = xs[j] := by simp [hj]
              rw [this]
            have mg0 := mcells_get0 M j hjM
            have mg1 := mcells_get1 M j hjM
            have mb0 : j * 2 + 1 + 1 ≤ 8 := by omega
            have ms1 := mcells_set1 M j hjM z
            have fin : ∀ (ok : Bool) (fr : List AV) (H : List AObj), (ok = true ↔ (M[j].1 = true ∧ M[j].2 = 0 ∧ ¬ (bf = 2 ∨ bf = 3) ∧ 0 < z ∧ xs[j].tmod z = 0)) →
                Weak 0 fr H [.imm nl c 1 (xs.map I), .und, .und, .und, .ptr 0 1 0 0, Bo ok, .und, .und, .ptr 1 1 0 0, .und, .und, .und, .imm nl' c' 3 (fs.map specV), I fs.length, I i, .und, .und, .und, .und, .und, .und, .und, .und, .und, .und, .und, .und, .und, .und, .und, .und, .und, .und, .und, .und, .und, .und, .und, .und, .und, .und, .und, .und, .und, .und, .und, .und, .und, .und, .und, .und, .und, .und, .und, .und, .und, .und, .und, .und, .und, .und, .und, .und, .und, .und, .und, .und, .und, .und, .und, .und, .und, .und, .und, .und, .und, .und, .und, .und, .und, .und, .und, .und, .und, .und, .und, .und, .und, .und, .und, .und, .und, .und, .und, .und, .und, .und, .und, .und, .und, .und, .und, .und, .und, .und, .und, .und, .und, .und, .und, .und, .und, .und, .und, .und, .und, .und, .und, .und, .und, .und, .und] [modO (M.set j (M[j].1, z)), specO (4, j, z)] → Po fr H := by
              intro ok fr H hok hw
              rw [hPo]
              refine ⟨_, ok, ⟨by simpa using hM4, fun h => ?_, fun h => ?_⟩, hw⟩
              · rw [hrs, if_pos (hok.1 h)]
              · rw [hrs, if_neg (fun hc => by rw [hok.2 hc] at h; cases h)]
            refine AWp.cond (b := true) (by simp) (fun _ => ?_) (fun h => by cases h)
            cases hmet : M[j].1 with
            | false =>
              rw [hmet] at mg0
              repeat first | refine AWp.seq ?_ | refine AWp.block ?_
              refine AWp.ops ?_
              simp [mg0]
              repeat first | refine AWp.seq ?_ | refine AWp.block ?_
              refine AWp.ops ?_
              simp [hM8, mb0, ms1]
              exact fin false _ _ (by simp [hmet]) ((Weak.slots [0, 4, 5, 8, 12, 13, 14]).to (by simp) rfl)
            | true =>
              rw [hmet] at mg0
              by_cases hb0 : M[j].2 = 0
              case neg =>
                repeat first | refine AWp.seq ?_ | refine AWp.block ?_
                refine AWp.ops ?_
                simp [mg0, mg1, hb0]
                repeat first | refine AWp.seq ?_ | refine AWp.block ?_
                refine AWp.ops ?_
                simp [hM8, mb0, ms1]
                exact fin false _ _ (by simp [hb0]) ((Weak.slots [0, 4, 5, 8, 12, 13, 14]).to (by simp) rfl)
              cases lo with
              | true =>
                repeat first | refine AWp.seq ?_ | refine AWp.block ?_
                refine AWp.ops ?_
                simp [mg0, mg1, hb0]
                repeat first | refine AWp.seq ?_ | refine AWp.block ?_
                refine AWp.ops ?_
                simp [hM8, mb0, ms1]
                have hl : bf = 2 ∨ bf = 3 := by simpa using hlo
                exact fin false _ _ (by simp [hl]) ((Weak.slots [0, 4, 5, 8, 12, 13, 14]).to (by simp) rfl)
              | false =>
                have hl : ¬ (bf = 2 ∨ bf = 3) := by
                  have : ¬ bf = 2 ∧ ¬ bf = 3 := by simpa using hlo
                  omega
                by_cases hzp : 0 < z
                case neg =>
                  repeat first | refine AWp.seq ?_ | refine AWp.block ?_
                  refine AWp.ops ?_
                  simp [mg0, mg1, hb0, hzp, Int.not_lt.1 hzp]
                  repeat first | refine AWp.seq ?_ | refine AWp.block ?_
                  refine AWp.ops ?_
                  simp [hM8, mb0, ms1]
                  exact fin false _ _ (by simp [hzp]) ((Weak.slots [0, 4, 5, 8, 12, 13, 14]).to (by simp [hzp, Int.not_lt.1 hzp]) rfl)
                have hzn : ¬ z = 0 := by omega
                repeat first | refine AWp.seq ?_ | refine AWp.block ?_
                refine AWp.ops ?_
                simp [mg0, mg1, hb0, hzp, Int.not_le.2 hzp, hzn, hj]
                repeat first | refine AWp.seq ?_ | refine AWp.block ?_
                refine AWp.ops ?_
                simp [hM8, mb0, ms1]
                exact fin (xs[j].tmod z == 0) _ _ (by simp [hmet, hb0, hl, hzp]) ((Weak.slots [0, 4, 5, 8, 12, 13, 14]).to (by simp [hzp]) rfl)
        intro fr H hq
        rw [hPo] at hq
        obtain ⟨M2, okb, ⟨h4, hT, hF⟩, hw⟩ := hq
        refine AWp.weak hw ?_
        have hM8' : (mcells M2).length = 8 := by rw [mcells_len, h4]
        have hone' : (∀ x, x ∈ mcells M2 → oneC x = true) = True := eq_true (mcells_one M2)
        have hset' := setAll_same (mcells M2)
        have hmf' : (mcells M2).map (frz [modO M2, specO (k, j, z)] 1 1 true) = mcells M2 := mcells_frz _ _ _ _ _
        repeat first | refine AWp.seq ?_ | refine AWp.block ?_
        refine AWp.ops ?_
        simp
        cases okb with
        | false =>
          refine AWp.cond (b := true) (by simp) (fun _ => ?_) (fun h => by cases h)
          repeat first | refine AWp.seq ?_ | refine AWp.block ?_
          refine AWp.ops ?_
          simp [hM8', hone', hset']
          refine AWp.ret ?_
          simp
          refine retOk.of (vs := [.agg (mcells M2), Bo false]) (by simp [hM8']) ?_
          refine ⟨M2, false, rfl, h4, (by intro h; cases h), fun _ => ?_⟩
          rw [readF, hgo, hF rfl]; rfl
        | true =>
          refine AWp.cond (b := false) (by simp) (fun h => by cases h) (fun _ => ?_)
          refine AWp.skip ?_
          simp only [qSeq]
          repeat first | refine AWp.seq ?_ | refine AWp.block ?_
          refine AWp.ops ?_
          simp
          repeat first | refine AWp.seq ?_ | refine AWp.block ?_
          refine AWp.ops ?_
          simp
          refine ⟨i + 1, _, _, (Weak.slots [0, 4, 5, 6, 12, 13, 14]).trans (Weak.freeze 1 2 (by simp)), ?_, by omega⟩
          rw [hJ]
          refine ⟨by omega, M2, k, Bo true, ⟨h4, ?_⟩, by simp [frzH, modO, hmf'], by simp [wrap_i64 (n := (i : Int) + 1) (by omega) (by omega)]⟩
          rw [hgo, hT rfl]; rfl
      ·
        intro hb
        have hb : ¬ i < fs.length := by simpa using hb
        refine AWp.exit ?_
        simp [qSeq, qBlock]
        obtain ⟨hM4, hgo⟩ := hinv
        rw [List.drop_eq_nil_of_le (by omega), readGo] at hgo
        exact ⟨M, ⟨hM4, hgo⟩, (Weak.slots [0, 4]).to (by simp) rfl⟩
    rintro M ⟨hM4, hgo⟩
    have hM8 : (mcells M).length = 8 := by rw [mcells_len, hM4]
    have hone : (∀ x, x ∈ mcells M → oneC x = true) = True := eq_true (mcells_one M)
    have hset := setAll_same (mcells M)
    repeat first | refine AWp.seq ?_ | refine AWp.block ?_
    refine AWp.ops ?_
    simp
    obtain ⟨J, hJ⟩ : ∃ J : Nat → List AV → List AObj → Prop, J = fun i fr H => i ≤ xs.length ∧ ((M.take i).all (·.1) = true) ∧ H = [modO M] ∧
      fr = [.und, .und, .und, .und, .ptr 0 1 0 0, .und, .und, .und, .und, .und, .und, .und, .und, .und, .und, .und, .und, .und, .und, .und, .und, .und, .und, .und, .und, .und, .und, .und, .und, .und, .und, .und, .und, .und, .und, .und, .und, .und, .und, .und, .und, .und, .und, .und, .und, .und, .und, .und, .und, .und, .und, .und, .und, .und, .und, .und, .und, .und, .und, .und, .und, .und, .und, .und, .und, .und, .und, .und, .und, .und, .und, .und, .und, .und, .und, .und, .und, .und, .und, .und, .und, .und, .und, .und, .und, .und, .und, .und, .und, .und, .und, .und, .und, .und, .und, .und, .und, .und, .und, .und, .und, .und, .und, .und, .und, .und, .und, .und, .und, .und, I xs.length, I i, .und, .und, .und, .und, .und, .und, .und, .und, .und, .und] := ⟨_, rfl⟩
    refine AWp.block (AWp.loop J (fun i => xs.length - i) 0 (Weak.slots [4, 110, 111]) (by rw [hJ]; exact ⟨by omega, by simp, by simp, by simp⟩) ?_)
    intro i fr H hI
    rw [hJ] at hI
    obtain ⟨hi, hinv, rfl, rfl⟩ := hI
    repeat first | refine AWp.seq ?_ | refine AWp.block ?_
    refine AWp.ops ?_
    simp
    refine AWp.seq (AWp.cond (b := decide (i < xs.length)) (by simp <;> omega) ?_ ?_)
    ·
      intro hb
      have hb : i < xs.length := by simpa using hb
      refine AWp.skip ?_
      simp only [qSeq]
      have hi4 : i < 4 := by omega
      have hi4' : (i : Int) < 4 := by omega
      have hiM : i < M.length := by omega
      have mg0 := mcells_get0 M i hiM
      have hall : (M.take (i + 1)).all (·.1) = M[i].1 := by
        rw [List.take_succ_eq_append_getElem hiM, List.all_append, hinv]
        simp
      repeat first | refine AWp.seq ?_ | refine AWp.block ?_
      refine AWp.ops ?_
      simp
      repeat first | refine AWp.seq ?_ | refine AWp.block ?_
      refine AWp.ops ?_
      simp [hi4, hi4', mg0]
      refine AWp.cond (b := !M[i].1) (by simp) ?_ ?_
      · intro h
        have h : M[i].1 = false := by simpa using h
        repeat first | refine AWp.seq ?_ | refine AWp.block ?_
        refine AWp.ops ?_
        simp [hM8, hone, hset]
        refine AWp.ret ?_
        simp
        refine retOk.of (vs := [.agg (mcells M), Bo false]) (by simp [hM8]) ?_
        refine ⟨M, false, rfl, hM4, (by intro h; cases h), fun _ => ?_⟩
        rw [readF, hgo]
        show (if (M.take xs.length).all (·.1) = true then some M else none) = none
        rw [if_neg]
        intro ha
        have := List.all_eq_true.1 ha M[i] (by
          rw [List.mem_take_iff_getElem]
          exact ⟨i, by omega, rfl⟩)
        rw [h] at this
        cases this
      · intro h
        have h : M[i].1 = true := by simpa using h
        refine AWp.skip ?_
        simp only [qSeq, qBlock]
        repeat first | refine AWp.seq ?_ | refine AWp.block ?_
        refine AWp.ops ?_
        simp
        refine ⟨i + 1, _, _, Weak.slots [4, 110, 111], ?_, by omega⟩
        rw [hJ]
        refine ⟨by omega, ?_, by simp, by simp [wrap_i64 (n := (i : Int) + 1) (by omega) (by omega)]⟩
        rw [hall, h]
    ·
      intro hb
      have hb : ¬ i < xs.length := by simpa using hb
      refine AWp.exit ?_
      simp [qSeq, qBlock]
      have e : i = xs.length := by omega
      rw [e] at hinv
      repeat first | refine AWp.seq ?_ | refine AWp.block ?_
      refine AWp.ops ?_
      simp [hM8, hone, hset]
      refine AWp.ret ?_
      simp
      refine retOk.of (vs := [.agg (mcells M), Bo true]) (by simp [hM8]) ?_
      refine ⟨M, true, rfl, hM4, fun _ => ?_, (by intro h; cases h)⟩
      rw [readF, hgo]
      show (if (M.take xs.length).all (·.1) = true then some M else none) = some M
      rw [if_pos hinv]
  refine (base.frozen 2).mono ?_
  rintro q H' ⟨rfl, r, G, ⟨M, ok, rfl, h1, h2, h3⟩, rfl⟩
  refine ⟨rfl, M, ok, ?_, h1, h2, h3⟩
  simp [mcells_frz]
end Go.Fw
