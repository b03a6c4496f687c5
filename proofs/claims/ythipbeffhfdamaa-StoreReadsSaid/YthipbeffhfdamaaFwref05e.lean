import Derived.Test.YthipbeffhfdamaaFwlevel1
namespace Go.Fw
open Go Go.RowKit Go.Proofs
set_option maxRecDepth 100000
set_option linter.unusedSimpArgs false
set_option linter.unusedVariables false
def blockF : List (Int × Int × Int) → Int → Int
  | [], _ => 0
  | s :: r, mo => if s.2.1 = mo ∧ s.1 = 4 then s.2.2 else blockF r mo
def rBlock_11 : AC := (.cond (.t 21) (.seq (.ops [.o 22 (.fad 2 (.t 6)), .o 23 (.ld 1 false (.t 22)), .m 4 (.t 23)]) .ret) .skip)
def rBlock_10 : AC := (.seq (.ops [.o 13 (.fad 1 (.t 6)), .o 14 (.ld 1 false (.t 13)), .m 15 (.t 1), .o 16 (.bin .eql (.t 14) (.t 15)), .m 17 (.t 16), .og 18 17 true (.fad 0 (.t 6)), .og 19 17 true (.ld 1 false (.t 18)), .og 20 17 true (.bin .eql (.t 19) (.i 4)), .o 21 (.pick (.t 17) (.t 20) (.b false))]) rBlock_11)
def rBlock_9 : AC := (.seq (.ops [.o 11 (.iad 3 (.t 7) (.t 9)), .o 12 (.ld 3 true (.t 11)), .o 6 (.new 43 3 (.c (.agg [(.sc (.int .i64 0)), (.sc (.int .i64 0)), (.sc (.int .i64 0))]))), .on (.st 3 (.t 6) (.t 12))]) rBlock_10)
def rBlock_8 : AC := (.block 1 rBlock_9)
def rBlock_7 : AC := (.seq rBlock_8 (.ops [.o 24 (.bin .add (.t 9) (.i 1)), .m 9 (.t 24)]))
def rBlock_6 : AC := (.seq (.cond (.t 10) .skip (.exit 0)) rBlock_7)
def rBlock_5 : AC := (.seq (.ops [.o 10 (.bin .lss (.t 9) (.t 8))]) rBlock_6)
def rBlock_4 : AC := (.loop rBlock_5)
def rBlock_3 : AC := (.block 0 rBlock_4)
def rBlock_2 : AC := (.seq (.ops [.m 7 (.t 0), .o 8 (.len (.t 7)), .m 9 (.i 0)]) rBlock_3)
def rBlock_1 : AC := (.seq rBlock_2 (.seq (.ops [.m 4 (.i 0)]) .ret))
def rBlock_ac : AC := (.seq (.ops [.m 4 (.i 0)]) rBlock_1)
theorem rBlock_call {args : List AV} {H : List AObj} {R : AV → List AObj → Prop} (h : AWp Try.prog [] H.length rBlock_ac (bodyQ H.length [(.t 4)] R) (args ++ List.replicate (25 - args.length) .und) H) : ACalls Try.prog 73 args H R :=
  ACalls.of_fn Try.func73 rfl (by kernel_rfl) rfl Try.ntmps73 h
theorem rBlock_spec {b : AV} {fs : List (Int × Int × Int)} {mode : Int} (hb : Sp b fs) (hf : fs.length ≤ 1000) : ACalls Try.prog 73 [b, I mode] [] fun r H' => H' = [] ∧ r = I (blockF fs mode) := by
  obtain ⟨⟨nl', c', sz', rfl, hs'⟩, hlen', hx'⟩ := hb
  have base : ACalls Try.prog 73 [.imm nl' c' sz' (fs.map specV), I mode] [] fun r _ => r = I (blockF fs mode) := by
    apply rBlock_call
    repeat first | refine AWp.seq ?_ | refine AWp.block ?_
    refine AWp.ops ?_
    simp
    repeat first | refine AWp.seq ?_ | refine AWp.block ?_
    refine AWp.ops ?_
    simp
    obtain ⟨J, hJ⟩ : ∃ J : Nat → List AV → List AObj → Prop, J = fun i fr H => i ≤ fs.length ∧ (blockF fs mode = blockF (fs.drop i) mode) ∧ H = [] ∧
      fr = [.und, I mode, .und, .und, I 0, .und, .und, .imm nl' c' sz' (fs.map specV), I fs.length, I i, .und, .und, .und, .und, .und, .und, .und, .und, .und, .und, .und, .und, .und, .und, .und] := ⟨_, rfl⟩
    refine AWp.block (AWp.loop J (fun i => fs.length - i) 0 (Weak.slots [1, 4, 7, 8, 9]) (by rw [hJ]; exact ⟨by omega, rfl, by simp, by simp⟩) ?_)
    intro i fr H hI
    rw [hJ] at hI
    obtain ⟨hi, hinv, rfl, rfl⟩ := hI
    repeat first | refine AWp.seq ?_ | refine AWp.block ?_
    refine AWp.ops ?_
    simp
    refine AWp.seq (AWp.cond (b := decide (i < fs.length)) (by simp <;> omega) ?_ ?_)
    ·
      intro hb
      have hb : i < fs.length := by simpa using hb
      refine AWp.skip ?_
      simp only [qSeq]
      have hsz3 := sz3_of hs' hb
      subst hsz3
      have hgs := spec_get hb
      rw [List.drop_eq_getElem_cons hb] at hinv
      simp only [blockF] at hinv
      generalize fs[i] = sp at hgs hinv
      obtain ⟨k, mo, z⟩ := sp
      simp only at hgs hinv
      repeat first | refine AWp.seq ?_ | refine AWp.block ?_
      refine AWp.ops ?_
      simp [hgs]
      repeat first | refine AWp.seq ?_ | refine AWp.block ?_
      refine AWp.ops ?_
      simp
      by_cases hm : mo = mode
      · subst hm
        by_cases hk : k = 4
        · simp [hk]
          refine AWp.cond (b := true) (by simp) (fun _ => ?_) (fun h => by cases h)
          repeat first | refine AWp.seq ?_ | refine AWp.block ?_
          refine AWp.ops ?_
          simp
          refine AWp.ret ?_
          simp
          refine retOk.of rfl ?_
          rw [hinv, if_pos ⟨rfl, hk⟩]
          simp
        · simp
          refine AWp.cond (b := false) (by simp [hk]) (fun h => by cases h) (fun _ => ?_)
          refine AWp.skip ?_
          simp only [qSeq, qBlock]
          repeat first | refine AWp.seq ?_ | refine AWp.block ?_
          refine AWp.ops ?_
          simp
          refine ⟨i + 1, _, _, (Weak.slots [1, 4, 7, 8, 9]).trans (Weak.freeze 0 2 (by simp)), ?_, by omega⟩
          rw [hJ]
          exact ⟨by omega, by rw [hinv, if_neg (by intro h; exact hk h.2)], by simp [frzH], by simp [wrap_i64 (n := (i : Int) + 1) (by omega) (by omega)]⟩
      · simp [hm]
        refine AWp.cond (b := false) (by simp) (fun h => by cases h) (fun _ => ?_)
        refine AWp.skip ?_
        simp only [qSeq, qBlock]
        repeat first | refine AWp.seq ?_ | refine AWp.block ?_
        refine AWp.ops ?_
        simp
        refine ⟨i + 1, _, _, (Weak.slots [1, 4, 7, 8, 9]).trans (Weak.freeze 0 2 (by simp)), ?_, by omega⟩
        rw [hJ]
        exact ⟨by omega, by rw [hinv, if_neg (by intro h; exact hm h.1)], by simp [frzH], by simp [wrap_i64 (n := (i : Int) + 1) (by omega) (by omega)]⟩
    ·
      intro hb
      have hb : ¬ i < fs.length := by simpa using hb
      refine AWp.exit ?_
      simp [qSeq, qBlock]
      repeat first | refine AWp.seq ?_ | refine AWp.block ?_
      refine AWp.ops ?_
      simp
      refine AWp.ret ?_
      simp
      refine retOk.of rfl ?_
      rw [hinv, List.drop_eq_nil_of_le (by omega)]
      rfl
  refine (base.frozen 1).mono ?_
  rintro q H' ⟨rfl, r, G, rfl, rfl⟩
  exact ⟨rfl, rfl⟩
def isStep (xs : List Int) (s : Int × Int × Int) (P B : List Int) (before : Int) : Option (List Int × List Int) :=
  if s.2.1 < 0 ∨ (xs.length : Int) ≤ s.2.1 ∨ s.1 < 0 ∨ 4 < s.1 then none
  else if (before == 2 || before == 3) ≠ (s.1 == 3) then none
  else if s.1 = 4 then
    if P.getD s.2.1.toNat 0 = 0 ∨ s.2.2 < 1 ∨ (xs.getD s.2.1.toNat 0).tmod s.2.2 ≠ 0 then none else some (P, B.set s.2.1.toNat (B.getD s.2.1.toNat 0 + 1))
  else if s.2.2 ≠ 0 then none else some (P.set s.2.1.toNat (P.getD s.2.1.toNat 0 + 1), B)
def isGo (xs : List Int) : List (Int × Int × Int) → List Int → List Int → Int → Option (List Int × List Int)
  | [], P, B, _ => some (P, B)
  | s :: r, P, B, b => (isStep xs s P B b).bind fun q => isGo xs r q.1 q.2 s.1
def isEnd : List Int → List Int → Bool
  | p :: P, b :: B => decide (p = 1) && !decide (1 < b) && isEnd P B
  | _, _ => true
def isF (xs : List Int) (fs : List (Int × Int × Int)) : Bool :=
  if 2 * xs.length < fs.length then false else
  match isGo xs fs (List.replicate xs.length 0) (List.replicate xs.length 0) 0 with
  | none => false
  | some q => isEnd q.1 q.2
end Go.Fw
namespace Go.Fw
open Go Go.RowKit Go.Proofs
set_option maxRecDepth 100000
set_option linter.unusedSimpArgs false
set_option linter.unusedVariables false
def rIs_34 : AC := (.seq (.ops [.m 123 (.t 5), .m 124 (.t 10), .o 125 (.iad 1 (.t 123) (.t 124)), .o 126 (.ld 1 false (.t 125)), .o 127 (.bin .neq (.t 126) (.i 1)), .m 128 (.t 127), .mg 129 128 false (.t 6), .mg 130 128 false (.t 10), .og 131 128 false (.iad 1 (.t 129) (.t 130)), .og 132 128 false (.ld 1 false (.t 131)), .og 133 128 false (.bin .gtr (.t 132) (.i 1)), .o 134 (.pick (.t 128) (.b true) (.t 133))]) (.cond (.t 134) (.seq (.ops [.m 4 (.b false)]) .ret) .skip))
def rIs_33 : AC := (.seq (.ops [.m 122 (.t 120), .m 10 (.t 122)]) rIs_34)
def rIs_32 : AC := (.block 3 rIs_33)
def rIs_31 : AC := (.seq rIs_32 (.ops [.o 135 (.bin .add (.t 120) (.i 1)), .m 120 (.t 135)]))
def rIs_30 : AC := (.seq (.cond (.t 121) .skip (.exit 2)) rIs_31)
def rIs_29 : AC := (.seq (.ops [.o 121 (.bin .lss (.t 120) (.t 119))]) rIs_30)
def rIs_28 : AC := (.loop rIs_29)
def rIs_27 : AC := (.block 2 rIs_28)
def rIs_26 : AC := (.seq (.ops [.m 118 (.t 0), .o 119 (.len (.t 118)), .m 120 (.i 0)]) rIs_27)
def rIs_25 : AC := (.seq rIs_26 (.seq (.ops [.m 4 (.b true)]) .ret))
def rIs_24 : AC := (.seq (.ops [.o 107 (.fad 2 (.t 8)), .o 108 (.ld 1 false (.t 107)), .o 109 (.bin .neq (.t 108) (.i 0))]) (.cond (.t 109) (.seq (.ops [.m 4 (.b false)]) .ret) .skip))
def rIs_23 : AC := (.seq rIs_24 (.ops [.m 110 (.t 5), .o 111 (.fad 1 (.t 8)), .o 112 (.ld 1 false (.t 111)), .o 113 (.iad 1 (.t 110) (.t 112)), .o 114 (.ld 1 false (.t 113)), .o 115 (.bin .add (.t 114) (.i 1)), .o 116 (.iad 1 (.t 110) (.t 112)), .on (.st 1 (.t 116) (.t 115))]))
def rIs_22 : AC := (.seq (.ops [.m 78 (.t 5), .o 79 (.fad 1 (.t 8)), .o 80 (.ld 1 false (.t 79)), .o 81 (.iad 1 (.t 78) (.t 80)), .o 82 (.ld 1 false (.t 81)), .o 83 (.bin .eql (.t 82) (.i 0)), .m 84 (.t 83), .og 85 84 false (.fad 2 (.t 8)), .og 86 84 false (.ld 1 false (.t 85)), .og 87 84 false (.bin .lss (.t 86) (.i 1)), .o 88 (.pick (.t 84) (.b true) (.t 87)), .m 89 (.t 88), .mg 90 89 false (.t 0), .og 91 89 false (.fad 1 (.t 8)), .og 92 89 false (.ld 1 false (.t 91)), .og 93 89 false (.iad 1 (.t 90) (.t 92)), .og 94 89 false (.ld 1 false (.t 93)), .og 95 89 false (.fad 2 (.t 8)), .og 96 89 false (.ld 1 false (.t 95)), .og 97 89 false (.bin .rem (.t 94) (.t 96)), .og 98 89 false (.bin .neq (.t 97) (.i 0)), .o 99 (.pick (.t 89) (.b true) (.t 98))]) (.cond (.t 99) (.seq (.ops [.m 4 (.b false)]) .ret) .skip))
def rIs_21 : AC := (.seq rIs_22 (.ops [.m 100 (.t 6), .o 101 (.fad 1 (.t 8)), .o 102 (.ld 1 false (.t 101)), .o 103 (.iad 1 (.t 100) (.t 102)), .o 104 (.ld 1 false (.t 103)), .o 105 (.bin .add (.t 104) (.i 1)), .o 106 (.iad 1 (.t 100) (.t 102)), .on (.st 1 (.t 106) (.t 105))]))
def rIs_20 : AC := (.cond (.t 77) rIs_21 rIs_23)
def rIs_19 : AC := (.seq (.ops [.o 75 (.fad 0 (.t 8)), .o 76 (.ld 1 false (.t 75)), .o 77 (.bin .eql (.t 76) (.i 4))]) rIs_20)
def rIs_18 : AC := (.seq (.ops [.m 70 (.t 9), .o 71 (.fad 0 (.t 8)), .o 72 (.ld 1 false (.t 71)), .o 73 (.bin .eql (.t 72) (.i 3)), .o 74 (.beq true (.t 70) (.t 73))]) (.cond (.t 74) (.seq (.ops [.m 4 (.b false)]) .ret) .skip))
def rIs_17 : AC := (.seq rIs_18 rIs_19)
def rIs_16 : AC := (.seq (.ops [.m 50 (.t 7), .o 51 (.bin .gtr (.t 50) (.i 0)), .m 52 (.t 51), .mg 53 52 true (.t 1), .mg 54 52 true (.t 7), .og 55 52 true (.bin .sub (.t 54) (.i 1)), .og 56 52 true (.iad 3 (.t 53) (.t 55)), .og 57 52 true (.fad 0 (.t 56)), .og 58 52 true (.ld 1 false (.t 57)), .og 59 52 true (.bin .eql (.t 58) (.i 2)), .mg 60 52 true (.t 59), .mg 61 60 false (.t 1), .mg 62 60 false (.t 7), .og 63 60 false (.bin .sub (.t 62) (.i 1)), .og 64 60 false (.iad 3 (.t 61) (.t 63)), .og 65 60 false (.fad 0 (.t 64)), .og 66 60 false (.ld 1 false (.t 65)), .og 67 60 false (.bin .eql (.t 66) (.i 3)), .og 68 52 true (.pick (.t 60) (.b true) (.t 67)), .o 69 (.pick (.t 52) (.t 68) (.b false)), .m 9 (.t 69)]) rIs_17)
def rIs_15 : AC := (.seq (.ops [.o 30 (.fad 1 (.t 8)), .o 31 (.ld 1 false (.t 30)), .o 32 (.bin .lss (.t 31) (.i 0)), .m 33 (.t 32), .og 34 33 false (.fad 1 (.t 8)), .og 35 33 false (.ld 1 false (.t 34)), .mg 36 33 false (.t 0), .og 37 33 false (.len (.t 36)), .og 38 33 false (.bin .geq (.t 35) (.t 37)), .o 39 (.pick (.t 33) (.b true) (.t 38)), .m 40 (.t 39), .og 41 40 false (.fad 0 (.t 8)), .og 42 40 false (.ld 1 false (.t 41)), .og 43 40 false (.bin .lss (.t 42) (.i 0)), .o 44 (.pick (.t 40) (.b true) (.t 43)), .m 45 (.t 44), .og 46 45 false (.fad 0 (.t 8)), .og 47 45 false (.ld 1 false (.t 46)), .og 48 45 false (.bin .gtr (.t 47) (.i 4)), .o 49 (.pick (.t 45) (.b true) (.t 48))]) (.cond (.t 49) (.seq (.ops [.m 4 (.b false)]) .ret) .skip))
def rIs_14 : AC := (.seq rIs_15 rIs_16)
def rIs_13 : AC := (.seq (.ops [.m 27 (.t 25), .o 28 (.iad 3 (.t 23) (.t 25)), .o 29 (.ld 3 true (.t 28)), .o 8 (.new 43 3 (.c (.agg [(.sc (.int .i64 0)), (.sc (.int .i64 0)), (.sc (.int .i64 0))]))), .m 7 (.t 27), .on (.st 3 (.t 8) (.t 29))]) rIs_14)
def rIs_12 : AC := (.block 1 rIs_13)
def rIs_11 : AC := (.seq rIs_12 (.ops [.o 117 (.bin .add (.t 25) (.i 1)), .m 25 (.t 117)]))
def rIs_10 : AC := (.seq (.cond (.t 26) .skip (.exit 0)) rIs_11)
def rIs_9 : AC := (.seq (.ops [.o 26 (.bin .lss (.t 25) (.t 24))]) rIs_10)
def rIs_8 : AC := (.loop rIs_9)
def rIs_7 : AC := (.block 0 rIs_8)
def rIs_6 : AC := (.seq (.ops [.m 23 (.t 1), .o 24 (.len (.t 23)), .m 25 (.i 0)]) rIs_7)
def rIs_5 : AC := (.seq rIs_6 rIs_25)
def rIs_4 : AC := (.seq (.ops [.m 20 (.t 0), .o 21 (.len (.t 20)), .o 22 (.mkS 3 1 8 (.sc (.int .i64 0)) (.t 21) (.t 21)), .m 6 (.t 22)]) rIs_5)
def rIs_3 : AC := (.seq (.ops [.m 17 (.t 0), .o 18 (.len (.t 17)), .o 19 (.mkS 3 1 8 (.sc (.int .i64 0)) (.t 18) (.t 18)), .m 5 (.t 19)]) rIs_4)
def rIs_2 : AC := (.seq (.ops [.m 11 (.t 1), .o 12 (.len (.t 11)), .m 13 (.t 0), .o 14 (.len (.t 13)), .o 15 (.bin .mul (.i 2) (.t 14)), .o 16 (.bin .gtr (.t 12) (.t 15))]) (.cond (.t 16) (.seq (.ops [.m 4 (.b false)]) .ret) .skip))
def rIs_1 : AC := (.seq rIs_2 rIs_3)
def rIs_ac : AC := (.seq (.ops [.m 4 (.b false)]) rIs_1)
theorem rIs_call {args : List AV} {H : List AObj} {R : AV → List AObj → Prop} (h : AWp Try.prog [] H.length rIs_ac (bodyQ H.length [(.t 4)] R) (args ++ List.replicate (136 - args.length) .und) H) : ACalls Try.prog 43 args H R :=
  ACalls.of_fn Try.func43 rfl (by kernel_rfl) rfl Try.ntmps43 h
set_option maxHeartbeats 4000000 in
theorem rIs_spec {a b : AV} {xs : List Int} {fs : List (Int × Int × Int)} (ha : ISl a xs) (hb : Sp b fs) (hf : fs.length ≤ 1000) (hx4 : xs.length ≤ 1000) : ACalls Try.prog 43 [a, b] [] fun r H' => H' = [] ∧ r = Bo (isF xs fs) := by
  obtain ⟨⟨nl, c, sz, rfl, hs⟩, hlen, hx⟩ := ha
  obtain ⟨⟨nl', c', sz', rfl, hs'⟩, hlen', hx'⟩ := hb
  have base : ACalls Try.prog 43 [.imm nl c sz (xs.map I), .imm nl' c' sz' (fs.map specV)] [] fun r _ => r = Bo (isF xs fs) := by
    apply rIs_call
    repeat first | refine AWp.seq ?_ | refine AWp.block ?_
    refine AWp.ops ?_
    simp
    have w2 := wrap_i64 (n := 2 * (xs.length : Int)) (by omega) (by omega)
    repeat first | refine AWp.seq ?_ | refine AWp.block ?_
    refine AWp.ops ?_
    simp [w2]
    refine AWp.cond (b := decide (2 * (xs.length : Int) < fs.length)) (by simp) ?_ ?_
    · intro h
      have h : 2 * (xs.length : Int) < fs.length := by simpa using h
      have h : 2 * xs.length < fs.length := by omega
      repeat first | refine AWp.seq ?_ | refine AWp.block ?_
      refine AWp.ops ?_
      simp
      refine AWp.ret ?_
      simp
      refine retOk.of rfl ?_
      simp [isF, h]
    intro h
    have h : ¬ 2 * (xs.length : Int) < fs.length := by simpa using h
    have hfx : ¬ 2 * xs.length < fs.length := by omega
    refine AWp.skip ?_
    simp only [qSeq]
    have e1 : (xs.length : Int) * 8 ≤ 281474976710656 := by omega
    have e2 : (xs.length : Int) ≤ 9223372036854775807 := by omega
    repeat first | refine AWp.seq ?_ | refine AWp.block ?_
    refine AWp.ops ?_
    simp [e1, e2]
    repeat first | refine AWp.seq ?_ | refine AWp.block ?_
    refine AWp.ops ?_
    simp [e1, e2]
    refine AWp.cutE (σ := List Int × List Int) (fun q => (q.1.length = xs.length ∧ q.2.length = xs.length) ∧ isF xs fs = isEnd q.1 q.2) (fun q => [.imm nl c sz (xs.map I), .und, .und, .und, Bo false, .slc 0 xs.length 0 xs.length none, .slc 1 xs.length 0 xs.length none, .und, .und, .und, .und, .und, .und, .und, .und, .und, .und, .und, .und, .und, .und, .und, .und, .und, .und, .und, .und, .und, .und, .und, .und, .und, .und, .und, .und, .und, .und, .und, .und, .und, .und, .und, .und, .und, .und, .und, .und, .und, .und, .und, .und, .und, .und, .und, .und, .und, .und, .und, .und, .und, .und, .und, .und, .und, .und, .und, .und, .und, .und, .und, .und, .und, .und, .und, .und, .und, .und, .und, .und, .und, .und, .und, .und, .und, .und, .und, .und, .und, .und, .und, .und, .und, .und, .und, .und, .und, .und, .und, .und, .und, .und, .und, .und, .und, .und, .und, .und, .und, .und, .und, .und, .und, .und, .und, .und, .und, .und, .und, .und, .und, .und, .und, .und, .und, .und, .und, .und, .und, .und, .und, .und, .und, .und, .und, .und, .und]) (fun q => [intOb q.1, intOb q.2]) ?_ ?_
    ·
      repeat first | refine AWp.seq ?_ | refine AWp.block ?_
      refine AWp.ops ?_
      simp
      obtain ⟨J, hJ⟩ : ∃ J : Nat → List AV → List AObj → Prop, J = fun i fr H => i ≤ fs.length ∧ ∃ (P : List Int) (B : List Int) (bf : Int), ((P.length = xs.length ∧ B.length = xs.length) ∧ (∀ p ∈ P, 0 ≤ p ∧ p ≤ i) ∧ (∀ p ∈ B, 0 ≤ p ∧ p ≤ i) ∧ isGo xs fs (List.replicate xs.length 0) (List.replicate xs.length 0) 0 = isGo xs (fs.drop i) P B bf ∧ (i = 0 → bf = 0) ∧ ∀ h : i - 1 < fs.length, 0 < i → bf = fs[i - 1].1) ∧ H = [intOb P, intOb B] ∧
        fr = [.imm nl c sz (xs.map I), .imm nl' c' sz' (fs.map specV), .und, .und, Bo false, .slc 0 xs.length 0 xs.length none, .slc 1 xs.length 0 xs.length none, .und, .und, .und, .und, .und, .und, .und, .und, .und, .und, .und, .und, .und, .und, .und, .und, .imm nl' c' sz' (fs.map specV), I fs.length, I i, .und, .und, .und, .und, .und, .und, .und, .und, .und, .und, .und, .und, .und, .und, .und, .und, .und, .und, .und, .und, .und, .und, .und, .und, .und, .und, .und, .und, .und, .und, .und, .und, .und, .und, .und, .und, .und, .und, .und, .und, .und, .und, .und, .und, .und, .und, .und, .und, .und, .und, .und, .und, .und, .und, .und, .und, .und, .und, .und, .und, .und, .und, .und, .und, .und, .und, .und, .und, .und, .und, .und, .und, .und, .und, .und, .und, .und, .und, .und, .und, .und, .und, .und, .und, .und, .und, .und, .und, .und, .und, .und, .und, .und, .und, .und, .und, .und, .und, .und, .und, .und, .und, .und, .und, .und, .und, .und, .und, .und, .und] := ⟨_, rfl⟩
      refine AWp.block (AWp.loop J (fun i => fs.length - i) 0 (Weak.slots [0, 1, 4, 5, 6, 23, 24, 25]) (by rw [hJ]; exact ⟨by omega, List.replicate xs.length 0, List.replicate xs.length 0, 0, ⟨⟨by simp, by simp⟩, by intro p hp; simp at hp; omega, by intro p hp; simp at hp; omega, rfl, fun _ => rfl, by omega⟩, by simp, by simp⟩) ?_)
      intro i fr H hI
      rw [hJ] at hI
      obtain ⟨hi, P, B, bf, hinv, rfl, rfl⟩ := hI
      repeat first | refine AWp.seq ?_ | refine AWp.block ?_
      refine AWp.ops ?_
      simp
      refine AWp.seq (AWp.cond (b := decide (i < fs.length)) (by simp <;> omega) ?_ ?_)
      ·
        intro hb
        have hb : i < fs.length := by simpa using hb
        refine AWp.skip ?_
        simp only [qSeq]
        obtain ⟨⟨hPl, hBl⟩, hPv, hBv, hgo, hb0, hbp⟩ := hinv
        have hsz3 := sz3_of hs' hb
        subst hsz3
        have hgs := spec_get hb
        have hnx : ∀ k, fs[i].1 = k → ∀ h : i + 1 - 1 < fs.length, 0 < i + 1 → k = fs[i + 1 - 1].1 := by
          intro k hk h _
          simp only [Nat.add_sub_cancel]
          exact hk.symm
        rw [List.drop_eq_getElem_cons hb] at hgo
        simp only [isGo] at hgo
        have hbad : ∀ {q}, fs[i] = q → isStep xs q P B bf = none → isF xs fs = false := by
          rintro _ rfl h
          rw [h] at hgo
          simp only [isF, if_neg hfx]
          rw [hgo]
          rfl
        generalize hsp : fs[i] = sp at hgs hgo hnx
        obtain ⟨k, mo, z⟩ := sp
        simp only at hgs hgo hnx
        have hbad := hbad hsp
        repeat first | refine AWp.seq ?_ | refine AWp.block ?_
        refine AWp.ops ?_
        simp [hgs]
        by_cases c1 : mo < 0
        ·
          repeat first | refine AWp.seq ?_ | refine AWp.block ?_
          refine AWp.ops ?_
          simp [c1, Int.not_le.2 c1]
          refine AWp.cond (b := true) (by simp) (fun _ => ?_) (fun h => by cases h)
          repeat first | refine AWp.seq ?_ | refine AWp.block ?_
          refine AWp.ops ?_
          simp
          refine AWp.ret ?_
          simp
          refine retOk.of rfl ?_
          simp [hbad (by simp [isStep, c1])]
        by_cases c2 : (xs.length : Int) ≤ mo
        ·
          repeat first | refine AWp.seq ?_ | refine AWp.block ?_
          refine AWp.ops ?_
          simp [c1, Int.not_lt.1 c1, c2]
          refine AWp.cond (b := true) (by simp [c2]) (fun _ => ?_) (fun h => by cases h)
          repeat first | refine AWp.seq ?_ | refine AWp.block ?_
          refine AWp.ops ?_
          simp
          refine AWp.ret ?_
          simp
          refine retOk.of rfl ?_
          simp [hbad (by simp [isStep, c2])]
        by_cases c3 : k < 0
        ·
          repeat first | refine AWp.seq ?_ | refine AWp.block ?_
          refine AWp.ops ?_
          simp [c1, Int.not_lt.1 c1, c2, Int.not_le.1 c2, c3, Int.not_le.2 c3]
          refine AWp.cond (b := true) (by simp [c3]) (fun _ => ?_) (fun h => by cases h)
          repeat first | refine AWp.seq ?_ | refine AWp.block ?_
          refine AWp.ops ?_
          simp
          refine AWp.ret ?_
          simp
          refine retOk.of rfl ?_
          simp [hbad (by simp [isStep, c3])]
        by_cases c4 : 4 < k
        ·
          repeat first | refine AWp.seq ?_ | refine AWp.block ?_
          refine AWp.ops ?_
          simp [c1, Int.not_lt.1 c1, c2, Int.not_le.1 c2, c3, Int.not_lt.1 c3]
          refine AWp.cond (b := true) (by simp [c4]) (fun _ => ?_) (fun h => by cases h)
          repeat first | refine AWp.seq ?_ | refine AWp.block ?_
          refine AWp.ops ?_
          simp
          refine AWp.ret ?_
          simp
          refine retOk.of rfl ?_
          simp [hbad (by simp [isStep, c4])]
        repeat first | refine AWp.seq ?_ | refine AWp.block ?_
        refine AWp.ops ?_
        simp [c1, Int.not_lt.1 c1, c2, Int.not_le.1 c2, c3, Int.not_lt.1 c3]
        refine AWp.cond (b := false) (by simp [c4] <;> omega) (fun h => by cases h) (fun _ => ?_)
        refine AWp.skip ?_
        simp only [qSeq]
        obtain ⟨j, rfl⟩ : ∃ j : Nat, mo = j := ⟨mo.toNat, by omega⟩
        have hj : j < xs.length := by omega
        have hszx := sz_of hs hj
        subst hszx
        have hjP : j < P.length := by omega
        have hjB : j < B.length := by omega
        have gP : P.getD j 0 = P[j] := by simp [hjP]
        have gB : B.getD j 0 = B[j] := by simp [hjB]
        have gX : xs.getD j 0 = xs[j] := by simp [hj]
        have hPj := hPv P[j] (List.getElem_mem hjP)
        have hBj := hBv B[j] (List.getElem_mem hjB)
        obtain ⟨lo, hlo⟩ : ∃ lo, lo = (bf == 2 || bf == 3) := ⟨_, rfl⟩
        have hst : isStep xs (k, (j : Int), z) P B bf = if lo ≠ (k == 3) then none else if k = 4 then (if P[j] = 0 ∨ z < 1 ∨ xs[j].tmod z ≠ 0 then none else some (P, B.set j (B[j] + 1))) else if z ≠ 0 then none else some (P.set j (P[j] + 1), B) := by
          simp only [isStep]
          rw [if_neg (by omega), Int.toNat_natCast, gP, gB, gX, hlo]
        refine AWp.cut [.imm nl c 1 (xs.map I), .imm nl' c' 3 (fs.map specV), .und, .und, Bo false, .slc 0 xs.length 0 xs.length none, .slc 1 xs.length 0 xs.length none, .und, .ptr 2 1 0 0, Bo lo, .und, .und, .und, .und, .und, .und, .und, .und, .und, .und, .und, .und, .und, .imm nl' c' 3 (fs.map specV), I fs.length, I i, .und, .und, .und, .und, .und, .und, .und, .und, .und, .und, .und, .und, .und, .und, .und, .und, .und, .und, .und, .und, .und, .und, .und, .und, .und, .und, .und, .und, .und, .und, .und, .und, .und, .und, .und, .und, .und, .und, .und, .und, .und, .und, .und, .und, .und, .und, .und, .und, .und, .und, .und, .und, .und, .und, .und, .und, .und, .und, .und, .und, .und, .und, .und, .und, .und, .und, .und, .und, .und, .und, .und, .und, .und, .und, .und, .und, .und, .und, .und, .und, .und, .und, .und, .und, .und, .und, .und, .und, .und, .und, .und, .und, .und, .und, .und, .und, .und, .und, .und, .und, .und, .und, .und, .und, .und, .und, .und, .und, .und, .und] [intOb P, intOb B, specO (k, j, z)] ?_ ?_
        · refine AWp.ops ?_
          rcases Nat.eq_zero_or_pos i with h0 | h0
          · have hbf := hb0 h0
            subst h0
            simp
            exact (Weak.slots [0, 1, 4, 5, 6, 8, 9, 23, 24, 25]).to (by simp [hlo, hbf]) rfl
          · obtain ⟨q, rfl⟩ : ∃ q, i = q + 1 := ⟨i - 1, by omega⟩
            have hq : q < fs.length := by omega
            have hbf := hbp (by omega) (by omega)
            simp only [Nat.add_sub_cancel] at hbf
            have hgq := spec_get hq
            have hwq : IntKind.i64.wrap ((q : Int) + 1 - 1) = q := by rw [wrap_i64 (by omega) (by omega)]; omega
            have hwq' : IntKind.i64.wrap (q : Int) = q := wrap_i64 (by omega) (by omega)
            have hqp : (0 : Int) < (q : Int) + 1 := by omega
            by_cases d2 : fs[q].1 = 2
            · simp [hqp, hwq, hwq', hgq, d2]
              exact (Weak.slots [0, 1, 4, 5, 6, 8, 9, 23, 24, 25]).to (by simp [hlo, hbf, d2]) rfl
            · simp [hqp, hwq, hwq', hgq, d2]
              exact (Weak.slots [0, 1, 4, 5, 6, 8, 9, 23, 24, 25]).to (by simp [hlo, hbf, d2]) rfl
        have nextP : ∀ (P2 B2 : List Int) (fr : List AV), isStep xs (k, (j : Int), z) P B bf = some (P2, B2) → (P2.length = xs.length ∧ B2.length = xs.length) → (∀ p ∈ P2, 0 ≤ p ∧ p ≤ (i : Int) + 1) → (∀ p ∈ B2, 0 ≤ p ∧ p ≤ (i : Int) + 1) →
            J (i + 1) [.imm nl c 1 (xs.map I), .imm nl' c' 3 (fs.map specV), .und, .und, Bo false, .slc 0 xs.length 0 xs.length none, .slc 1 xs.length 0 xs.length none, .und, .und, .und, .und, .und, .und, .und, .und, .und, .und, .und, .und, .und, .und, .und, .und, .imm nl' c' 3 (fs.map specV), I fs.length, I ((i : Int) + 1), .und, .und, .und, .und, .und, .und, .und, .und, .und, .und, .und, .und, .und, .und, .und, .und, .und, .und, .und, .und, .und, .und, .und, .und, .und, .und, .und, .und, .und, .und, .und, .und, .und, .und, .und, .und, .und, .und, .und, .und, .und, .und, .und, .und, .und, .und, .und, .und, .und, .und, .und, .und, .und, .und, .und, .und, .und, .und, .und, .und, .und, .und, .und, .und, .und, .und, .und, .und, .und, .und, .und, .und, .und, .und, .und, .und, .und, .und, .und, .und, .und, .und, .und, .und, .und, .und, .und, .und, .und, .und, .und, .und, .und, .und, .und, .und, .und, .und, .und, .und, .und, .und, .und, .und, .und, .und, .und, .und, .und, .und] [intOb P2, intOb B2] := by
          intro P2 B2 fr h1 h2 h3 h4
          rw [hJ]
          refine ⟨by omega, P2, B2, k, ⟨h2, by simpa using h3, by simpa using h4, ?_, by omega, fun h _ => ?_⟩, rfl, by simp⟩
          · rw [hgo, h1]; rfl
          · exact hnx k rfl h (by omega)
        have hwi := wrap_i64 (n := (i : Int) + 1) (by omega) (by omega)
        refine AWp.seq (AWp.seq (AWp.ops ?_))
        by_cases hl : lo = (k == 3)
        case neg =>
          have hl' : (lo == (k == 3)) = false := by simpa using hl
          simp [hl']
          refine AWp.cond (b := true) (by simp [hl]) (fun _ => ?_) (fun h => by cases h)
          repeat first | refine AWp.seq ?_ | refine AWp.block ?_
          refine AWp.ops ?_
          simp
          refine AWp.ret ?_
          simp
          refine retOk.of rfl ?_
          simp [hbad (by rw [hst, if_pos hl])]
        rw [if_neg (by simpa using hl)] at hst
        have hl' : (lo == (k == 3)) = true := by simpa using hl
        simp [hl']
        refine AWp.cond (b := false) (by simp [hl]) (fun h => by cases h) (fun _ => ?_)
        refine AWp.skip ?_
        simp only [qSeq]
        repeat first | refine AWp.seq ?_ | refine AWp.block ?_
        refine AWp.ops ?_
        simp
        by_cases k4 : k = 4
        · rw [if_pos k4] at hst
          refine AWp.cond (b := true) (by simp [k4]) (fun _ => ?_) (fun h => by cases h)
          refine AWp.seq (AWp.seq (AWp.ops ?_))
          by_cases p0 : P[j] = 0
          · simp [hj, hPl, hjP, p0]
            refine AWp.cond (b := true) (by simp) (fun _ => ?_) (fun h => by cases h)
            repeat first | refine AWp.seq ?_ | refine AWp.block ?_
            refine AWp.ops ?_
            simp
            refine AWp.ret ?_
            simp
            refine retOk.of rfl ?_
            simp [hbad (by rw [hst, if_pos (.inl p0)])]
          by_cases z1 : z < 1
          · simp [hj, hPl, hjP, p0, z1]
            refine AWp.cond (b := true) (by simp) (fun _ => ?_) (fun h => by cases h)
            repeat first | refine AWp.seq ?_ | refine AWp.block ?_
            refine AWp.ops ?_
            simp
            refine AWp.ret ?_
            simp
            refine retOk.of rfl ?_
            simp [hbad (by rw [hst, if_pos (.inr (.inl z1))])]
          have zn : ¬ z = 0 := by omega
          by_cases r0 : xs[j].tmod z = 0
          · simp [hj, hPl, hjP, p0, z1, Int.not_lt.1 z1, zn, r0]
            refine AWp.cond (b := false) (by simp) (fun h => by cases h) (fun _ => ?_)
            refine AWp.skip ?_
            simp only [qSeq]
            have hwb := wrap_i64 (n := B[j] + 1) (by omega) (by omega)
            rw [if_neg (by intro h; rcases h with h | h | h; exact p0 h; exact z1 h; exact h r0)] at hst
            repeat first | refine AWp.seq ?_ | refine AWp.block ?_
            refine AWp.ops ?_
            simp [hj, hBl, hjB, hwb]
            repeat first | refine AWp.seq ?_ | refine AWp.block ?_
            refine AWp.ops ?_
            simp
            refine ⟨i + 1, _, _, ((Weak.slots [0, 1, 4, 5, 6, 23, 24, 25]).trans (Weak.freeze 2 2 (by simp))).to (by simp [hwi]) (by simp [frzH, intOb, List.map_set]), nextP P (B.set j (B[j] + 1)) [] hst ⟨hPl, by simpa using hBl⟩ (fun p hp => by have := hPv p hp; omega) (fun p hp => ?_) , by omega⟩
            rcases List.mem_or_eq_of_mem_set hp with hp | rfl
            · have := hBv p hp; omega
            · omega
          · simp [hj, hPl, hjP, p0, z1, Int.not_lt.1 z1, zn, r0]
            refine AWp.cond (b := true) (by simp [r0]) (fun _ => ?_) (fun h => by cases h)
            repeat first | refine AWp.seq ?_ | refine AWp.block ?_
            refine AWp.ops ?_
            simp
            refine AWp.ret ?_
            simp
            refine retOk.of rfl ?_
            simp [hbad (by rw [hst, if_pos (.inr (.inr r0))])]
        · rw [if_neg k4] at hst
          refine AWp.cond (b := false) (by simp [k4]) (fun h => by cases h) (fun _ => ?_)
          refine AWp.seq (AWp.seq (AWp.ops ?_))
          by_cases z0 : z = 0
          · simp [z0]
            refine AWp.cond (b := false) (by simp) (fun h => by cases h) (fun _ => ?_)
            refine AWp.skip ?_
            simp only [qSeq]
            have hwb := wrap_i64 (n := P[j] + 1) (by omega) (by omega)
            rw [if_neg (by simpa using z0)] at hst
            repeat first | refine AWp.seq ?_ | refine AWp.block ?_
            refine AWp.ops ?_
            simp [hj, hPl, hjP, hwb]
            repeat first | refine AWp.seq ?_ | refine AWp.block ?_
            refine AWp.ops ?_
            simp
            refine ⟨i + 1, _, _, ((Weak.slots [0, 1, 4, 5, 6, 23, 24, 25]).trans (Weak.freeze 2 2 (by simp))).to (by simp [hwi]) (by simp [frzH, intOb, List.map_set]), nextP (P.set j (P[j] + 1)) B [] hst ⟨by simpa using hPl, hBl⟩ (fun p hp => ?_) (fun p hp => by have := hBv p hp; omega), by omega⟩
            rcases List.mem_or_eq_of_mem_set hp with hp | rfl
            · have := hPv p hp; omega
            · omega
          · simp [z0]
            refine AWp.cond (b := true) (by simp [z0]) (fun _ => ?_) (fun h => by cases h)
            repeat first | refine AWp.seq ?_ | refine AWp.block ?_
            refine AWp.ops ?_
            simp
            refine AWp.ret ?_
            simp
            refine retOk.of rfl ?_
            simp [hbad (by rw [hst, if_pos z0])]
      ·
        intro hb
        have hb : ¬ i < fs.length := by simpa using hb
        refine AWp.exit ?_
        simp [qSeq, qBlock]
        obtain ⟨⟨hPl, hBl⟩, hPv, hBv, hgo, hb0, hbp⟩ := hinv
        rw [List.drop_eq_nil_of_le (by omega), isGo] at hgo
        refine ⟨P, B, ⟨⟨hPl, hBl⟩, ?_⟩, (Weak.slots [0, 4, 5, 6]).to (by simp) rfl⟩
        simp only [isF, if_neg hfx, hgo]
    rintro ⟨P, B⟩ ⟨⟨hPl, hBl⟩, hF⟩
    simp only at hPl hBl hF
    repeat first | refine AWp.seq ?_ | refine AWp.block ?_
    refine AWp.ops ?_
    simp
    obtain ⟨J, hJ⟩ : ∃ J : Nat → List AV → List AObj → Prop, J = fun i fr H => i ≤ xs.length ∧ (isEnd P B = isEnd (P.drop i) (B.drop i)) ∧ H = [intOb P, intOb B] ∧
      fr = [.und, .und, .und, .und, Bo false, .slc 0 xs.length 0 xs.length none, .slc 1 xs.length 0 xs.length none, .und, .und, .und, .und, .und, .und, .und, .und, .und, .und, .und, .und, .und, .und, .und, .und, .und, .und, .und, .und, .und, .und, .und, .und, .und, .und, .und, .und, .und, .und, .und, .und, .und, .und, .und, .und, .und, .und, .und, .und, .und, .und, .und, .und, .und, .und, .und, .und, .und, .und, .und, .und, .und, .und, .und, .und, .und, .und, .und, .und, .und, .und, .und, .und, .und, .und, .und, .und, .und, .und, .und, .und, .und, .und, .und, .und, .und, .und, .und, .und, .und, .und, .und, .und, .und, .und, .und, .und, .und, .und, .und, .und, .und, .und, .und, .und, .und, .und, .und, .und, .und, .und, .und, .und, .und, .und, .und, .und, .und, .und, .und, .und, I xs.length, I i, .und, .und, .und, .und, .und, .und, .und, .und, .und, .und, .und, .und, .und, .und, .und] := ⟨_, rfl⟩
    refine AWp.block (AWp.loop J (fun i => xs.length - i) 0 (Weak.slots [4, 5, 6, 119, 120]) (by rw [hJ]; exact ⟨by omega, rfl, by simp, by simp⟩) ?_)
    intro i fr H hI
    rw [hJ] at hI
    obtain ⟨hi, hinv, rfl, rfl⟩ := hI
    repeat first | refine AWp.seq ?_ | refine AWp.block ?_
    refine AWp.ops ?_
    simp
    refine AWp.seq (AWp.cond (b := decide (i < xs.length)) (by simp <;> omega) ?_ ?_)
    ·
      intro hb
      have hb : i < xs.length := by simpa using hb
      refine AWp.skip ?_
      simp only [qSeq]
      have h1 : i < P.length := by omega
      have h2 : i < B.length := by omega
      rw [List.drop_eq_getElem_cons h1, List.drop_eq_getElem_cons h2] at hinv
      simp only [isEnd] at hinv
      repeat first | refine AWp.seq ?_ | refine AWp.block ?_
      refine AWp.ops ?_
      simp
      repeat first | refine AWp.seq ?_ | refine AWp.block ?_
      refine AWp.ops ?_
      simp [hPl, hBl, hb, h1, h2]
      by_cases c1 : P[i] = 1
      · simp [c1]
        by_cases c2 : 1 < B[i]
        · refine AWp.cond (b := true) (by simp [c2]) (fun _ => ?_) (fun h => by cases h)
          repeat first | refine AWp.seq ?_ | refine AWp.block ?_
          refine AWp.ops ?_
          simp
          refine AWp.ret ?_
          simp
          refine retOk.of rfl ?_
          rw [hF, hinv]; simp [c1, c2]
        · refine AWp.cond (b := false) (by simp [c2] <;> omega) (fun h => by cases h) (fun _ => ?_)
          refine AWp.skip ?_
          simp only [qSeq, qBlock]
          repeat first | refine AWp.seq ?_ | refine AWp.block ?_
          refine AWp.ops ?_
          simp
          refine ⟨i + 1, _, _, Weak.slots [4, 5, 6, 119, 120], ?_, by omega⟩
          rw [hJ]
          refine ⟨by omega, ?_, by simp, by simp [wrap_i64 (n := (i : Int) + 1) (by omega) (by omega)]⟩
          rw [hinv]; simp [c1, Int.not_lt.1 c2]
      · simp [c1]
        refine AWp.cond (b := true) (by simp) (fun _ => ?_) (fun h => by cases h)
        repeat first | refine AWp.seq ?_ | refine AWp.block ?_
        refine AWp.ops ?_
        simp
        refine AWp.ret ?_
        simp
        refine retOk.of rfl ?_
        rw [hF, hinv]; simp [c1]
    ·
      intro hb
      have hb : ¬ i < xs.length := by simpa using hb
      refine AWp.exit ?_
      simp [qSeq, qBlock]
      rw [List.drop_eq_nil_of_le (by omega), List.drop_eq_nil_of_le (by omega)] at hinv
      repeat first | refine AWp.seq ?_ | refine AWp.block ?_
      refine AWp.ops ?_
      simp
      refine AWp.ret ?_
      simp
      refine retOk.of rfl ?_
      rw [hF, hinv]
      rfl
  refine (base.frozen 1).mono ?_
  rintro q H' ⟨rfl, r, G, rfl, rfl⟩
  exact ⟨rfl, rfl⟩
end Go.Fw
namespace Go.Fw
open Go Go.RowKit Go.Proofs
set_option maxRecDepth 100000
set_option linter.unusedSimpArgs false
set_option linter.unusedVariables false
def Both (L : Nat) (M : List (Bool × Int)) (P B : List Int) : Prop :=
  P.length = L ∧ B.length = L ∧ L ≤ M.length ∧ ∀ j (h1 : j < M.length) (h2 : j < P.length) (h3 : j < B.length), P[j] = (if M[j].1 = true then 1 else 0) ∧ B[j] = (if M[j].2 = 0 then 0 else 1) ∧ 0 ≤ M[j].2
def Over (P B : List Int) : Prop := (∃ j, ∃ h : j < P.length, 2 ≤ P[j]) ∨ ∃ j, ∃ h : j < B.length, 2 ≤ B[j]
theorem isStep_over {xs : List Int} {s : Int × Int × Int} {P B P' B' : List Int} {b : Int} (h : isStep xs s P B b = some (P', B')) (ho : Over P B) : Over P' B' := by
  have inc : ∀ (Q : List Int) (i : Nat), (∃ j, ∃ h : j < Q.length, 2 ≤ Q[j]) → ∃ j, ∃ h : j < (Q.set i (Q.getD i 0 + 1)).length, 2 ≤ (Q.set i (Q.getD i 0 + 1))[j] := by
    rintro Q i ⟨j, hj, hq⟩
    refine ⟨j, by simpa using hj, ?_⟩
    rw [List.getElem_set]
    split
    · rename_i e
      subst e
      have : Q.getD i 0 = Q[i] := by simp [hj]
      omega
    · exact hq
  unfold isStep at h
  split at h
  · cases h
  · split at h
    · cases h
    · split at h
      · split at h
        · cases h
        · cases h
          rcases ho with ho | ho
          · exact .inl ho
          · exact .inr (inc _ _ ho)
      · split at h
        · cases h
        · cases h
          rcases ho with ho | ho
          · exact .inl (inc _ _ ho)
          · exact .inr ho
theorem isEnd_over : ∀ {P B : List Int}, P.length = B.length → Over P B → isEnd P B = false
  | [], [], _, h => by
    rcases h with ⟨j, h, _⟩ | ⟨j, h, _⟩ <;> simp at h
  | p :: P, b :: B, hl, h => by
    simp only [isEnd]
    by_cases hp : p = 1
    · by_cases hb : 1 < b
      · simp [hb]
      · have : Over P B := by
          rcases h with ⟨j, h, h2⟩ | ⟨j, h, h2⟩
          · cases j with
            | zero => simp at h2; omega
            | succ j => exact .inl ⟨j, by simpa using h, by simpa using h2⟩
          · cases j with
            | zero => simp at h2; omega
            | succ j => exact .inr ⟨j, by simpa using h, by simpa using h2⟩
        rw [isEnd_over (by simpa using hl) this]
        simp
    · simp [hp]
  | [], _ :: _, hl, _ => by simp at hl
  | _ :: _, [], hl, _ => by simp at hl
theorem isStep_len {xs : List Int} {s : Int × Int × Int} {P B P' B' : List Int} {b : Int} (h : isStep xs s P B b = some (P', B')) : P'.length = P.length ∧ B'.length = B.length := by
  unfold isStep at h
  split at h
  · cases h
  · split at h
    · cases h
    · split at h
      · split at h
        · cases h
        · cases h; simp
      · split at h
        · cases h
        · cases h; simp
theorem isGo_over {xs : List Int} : ∀ (fs : List (Int × Int × Int)) {P B : List Int} {b : Int}, P.length = B.length → Over P B → ∀ q, isGo xs fs P B b = some q → isEnd q.1 q.2 = false
  | [], P, B, b, hl, ho, q, h => by
    simp only [isGo, Option.some.injEq] at h
    subst h
    exact isEnd_over hl ho
  | s :: r, P, B, b, hl, ho, q, h => by
    simp only [isGo, Option.bind_eq_some_iff] at h
    obtain ⟨⟨P1, B1⟩, h1, h2⟩ := h
    obtain ⟨l1, l2⟩ := isStep_len h1
    exact isGo_over r (by omega) (isStep_over h1 ho) q h2
theorem step_both {xs : List Int} {s : Int × Int × Int} {M : List (Bool × Int)} {P B : List Int} {b : Int} (hb : Both xs.length M P B) :
    (∀ M', readStep xs s M b = some M' → ∃ P' B', isStep xs s P B b = some (P', B') ∧ Both xs.length M' P' B') ∧
    (readStep xs s M b = none → isStep xs s P B b = none ∨ ∃ P' B', isStep xs s P B b = some (P', B') ∧ Over P' B') := by
  obtain ⟨hP, hB, hM, hv⟩ := hb
  obtain ⟨k, mo, z⟩ := s
  by_cases c1 : mo < 0 ∨ (xs.length : Int) ≤ mo
  · have e1 : readStep xs (k, mo, z) M b = none := by simp only [readStep]; rw [if_pos c1]
    have e2 : isStep xs (k, mo, z) P B b = none := by simp only [isStep]; rw [if_pos (by omega)]
    exact ⟨fun M' h => (by rw [e1] at h; cases h), fun _ => .inl e2⟩
  obtain ⟨j, rfl⟩ : ∃ j : Nat, mo = j := ⟨mo.toNat, by omega⟩
  have hj : j < xs.length := by omega
  obtain ⟨v1, v2, v3⟩ := hv j (by omega) (by omega) (by omega)
  have gM : M.getD j (false, 0) = M[j]'(by omega) := by simp [List.getD, (by omega : j < M.length)]
  have gP : P.getD j 0 = P[j]'(by omega) := by simp [(by omega : j < P.length)]
  have gB : B.getD j 0 = B[j]'(by omega) := by simp [(by omega : j < B.length)]
  generalize hm : M[j]'(by omega) = mj at gM v1 v2 v3
  obtain ⟨met, blk⟩ := mj
  generalize hp : P[j]'(by omega) = pj at gP v1
  generalize hbj : B[j]'(by omega) = bj at gB v2
  simp only at v1 v2 v3
  have both' : ∀ (met' : Bool) (blk' p' b' : Int), p' = (if met' = true then 1 else 0) → b' = (if blk' = 0 then 0 else 1) → 0 ≤ blk' → Both xs.length (M.set j (met', blk')) (P.set j p') (B.set j b') := by
    intro met' blk' p' b' h1 h2 h3
    refine ⟨by simpa using hP, by simpa using hB, by simpa using hM, fun i g1 g2 g3 => ?_⟩
    simp only [List.getElem_set]
    by_cases e : j = i
    · simp only [e, if_true]; exact ⟨h1, h2, h3⟩
    · simp only [e, if_false]
      exact hv i (by simpa using g1) (by simpa using g2) (by simpa using g3)
  have setP : P.set j pj = P := by rw [← hp]; exact List.set_getElem_self (by omega)
  have setB : B.set j bj = B := by rw [← hbj]; exact List.set_getElem_self (by omega)
  by_cases c2 : k < 0 ∨ 4 < k
  · have e1 : readStep xs (k, (j : Int), z) M b = none := by simp only [readStep]; rw [if_neg c1, if_neg (by omega), if_neg (by omega)]
    have e2 : isStep xs (k, (j : Int), z) P B b = none := by simp only [isStep]; rw [if_pos (by omega)]
    exact ⟨fun M' h => (by rw [e1] at h; cases h), fun _ => .inl e2⟩
  have q1 : (b == 2) = decide (b = 2) := by by_cases h : b = 2 <;> simp [h]
  have q2 : (b == 3) = decide (b = 3) := by by_cases h : b = 3 <;> simp [h]
  have q3 : (k == 3) = decide (k = 3) := by by_cases h : k = 3 <;> simp [h]
  have hlo : ((b == 2 || b == 3) ≠ (k == 3)) ↔ ¬ ((b = 2 ∨ b = 3) ↔ k = 3) := by
    rw [q1, q2, q3]
    by_cases a1 : b = 2 <;> by_cases a2 : b = 3 <;> by_cases a3 : k = 3 <;> simp [a1, a2, a3]
  by_cases k4 : k = 4
  · subst k4
    have hlo4 : ((b == 2 || b == 3) ≠ ((4 : Int) == 3)) ↔ (b = 2 ∨ b = 3) := by rw [hlo]; omega
    have e1 : readStep xs (4, (j : Int), z) M b = if met = true ∧ blk = 0 ∧ ¬ (b = 2 ∨ b = 3) ∧ 0 < z ∧ (xs.getD j 0).tmod z = 0 then some (M.set j (met, z)) else none := by
      simp only [readStep]; rw [if_neg c1, if_neg (by omega), if_pos trivial, Int.toNat_natCast, gM]
    have e2 : isStep xs (4, (j : Int), z) P B b = if (b = 2 ∨ b = 3) then none else if pj = 0 ∨ z < 1 ∨ (xs.getD j 0).tmod z ≠ 0 then none else some (P, B.set j (bj + 1)) := by
      simp only [isStep]; rw [if_neg (by omega), Int.toNat_natCast, gP, gB]
      by_cases hl : b = 2 ∨ b = 3
      · rw [if_pos (hlo4.2 hl), if_pos hl]
      · rw [if_neg (fun h => hl (hlo4.1 h)), if_neg hl]; simp
    rw [e1, e2]
    by_cases hl : b = 2 ∨ b = 3
    · rw [if_neg (show ¬ (met = true ∧ blk = 0 ∧ ¬ (b = 2 ∨ b = 3) ∧ 0 < z ∧ (xs.getD j 0).tmod z = 0) from fun h => h.2.2.1 hl), if_pos hl]
      exact ⟨(by intro M' h; cases h), fun _ => .inl rfl⟩
    rw [if_neg (show ¬ (b = 2 ∨ b = 3) from hl)]
    by_cases hbad : pj = 0 ∨ z < 1 ∨ (xs.getD j 0).tmod z ≠ 0
    · rw [if_pos hbad, if_neg]
      · exact ⟨(by intro M' h; cases h), fun _ => .inl rfl⟩
      · rintro ⟨g1, g2, g3, g4, g5⟩
        rw [if_pos g1] at v1
        rcases hbad with h | h | h
        · omega
        · omega
        · exact h g5
    rw [if_neg hbad]
    have g1 : met = true := by
      by_cases hmt : met = true
      · exact hmt
      · rw [if_neg hmt] at v1
        exact absurd (.inl v1) hbad
    have g4 : 0 < z := by omega
    have g5 : (xs.getD j 0).tmod z = 0 := by
      by_cases h : (xs.getD j 0).tmod z = 0
      · exact h
      · exact absurd (.inr (.inr h)) hbad
    by_cases g2 : blk = 0
    · rw [if_pos ⟨g1, g2, hl, g4, g5⟩]
      refine ⟨fun M' h => ?_, (by intro h; cases h)⟩
      cases h
      refine ⟨P, _, rfl, ?_⟩
      have := both' met z pj (bj + 1) v1 (by rw [v2, if_pos g2, if_neg (by omega)]; rfl) (by omega)
      rw [setP] at this
      exact this
    · rw [if_neg (by intro h; exact g2 h.2.1)]
      refine ⟨(by intro M' h; cases h), fun _ => .inr ⟨P, _, rfl, .inr ⟨j, by simp; omega, ?_⟩⟩⟩
      rw [List.getElem_set_self, v2, if_neg g2]
      omega
  · have kk : k = 0 ∨ k = 1 ∨ k = 2 ∨ k = 3 := by omega
    have e1 : readStep xs (k, (j : Int), z) M b = if met = false ∧ z = 0 ∧ ((b = 2 ∨ b = 3) ↔ k = 3) then some (M.set j (true, blk)) else none := by
      simp only [readStep]; rw [if_neg c1, if_pos kk, Int.toNat_natCast, gM]
    have e2 : isStep xs (k, (j : Int), z) P B b = if ¬ ((b = 2 ∨ b = 3) ↔ k = 3) then none else if z ≠ 0 then none else some (P.set j (pj + 1), B) := by
      simp only [isStep]; rw [if_neg (by omega), Int.toNat_natCast, gP, if_neg k4]
      by_cases hl : ((b = 2 ∨ b = 3) ↔ k = 3)
      · rw [if_neg (show ¬ ((b == 2 || b == 3) ≠ (k == 3)) from fun h => (hlo.1 h) hl), if_neg (show ¬ ¬ ((b = 2 ∨ b = 3) ↔ k = 3) from fun h => h hl)]
      · rw [if_pos (hlo.2 hl), if_pos (show ¬ ((b = 2 ∨ b = 3) ↔ k = 3) from hl)]
    rw [e1, e2]
    by_cases hl : ((b = 2 ∨ b = 3) ↔ k = 3)
    case neg =>
      rw [if_neg (show ¬ (met = false ∧ z = 0 ∧ ((b = 2 ∨ b = 3) ↔ k = 3)) from fun h => hl h.2.2), if_pos (show ¬ ((b = 2 ∨ b = 3) ↔ k = 3) from hl)]
      exact ⟨(by intro M' h; cases h), fun _ => .inl rfl⟩
    rw [if_neg (show ¬ ¬ ((b = 2 ∨ b = 3) ↔ k = 3) from fun h => h hl)]
    by_cases hz : z = 0
    case neg =>
      rw [if_neg (show ¬ (met = false ∧ z = 0 ∧ ((b = 2 ∨ b = 3) ↔ k = 3)) from fun h => hz h.2.1), if_pos (show z ≠ 0 from hz)]
      exact ⟨(by intro M' h; cases h), fun _ => .inl rfl⟩
    rw [if_neg (show ¬ (z ≠ 0) from fun h => h hz)]
    cases met with
    | false =>
      rw [if_pos ⟨rfl, hz, hl⟩]
      refine ⟨fun M' h => ?_, (by intro h; cases h)⟩
      cases h
      refine ⟨_, B, rfl, ?_⟩
      have := both' true blk (pj + 1) bj (by rw [v1]; simp) v2 v3
      rw [setB] at this
      exact this
    | true =>
      rw [if_neg (by intro h; cases h.1)]
      refine ⟨(by intro M' h; cases h), fun _ => .inr ⟨_, B, rfl, .inl ⟨j, by simp; omega, ?_⟩⟩⟩
      rw [List.getElem_set_self, v1]
      simp
end Go.Fw
namespace Go.Fw
open Go Go.RowKit Go.Proofs
set_option maxRecDepth 100000
set_option linter.unusedSimpArgs false
set_option linter.unusedVariables false
theorem isEnd_iff : ∀ {P B : List Int}, P.length = B.length → (isEnd P B = true ↔ ∀ j (h1 : j < P.length) (h2 : j < B.length), P[j] = 1 ∧ ¬ 1 < B[j])
  | [], [], _ => ⟨fun _ j h => by simp at h, fun _ => rfl⟩
  | p :: P, b :: B, hl => by
    have ih := isEnd_iff (P := P) (B := B) (by simpa using hl)
    simp only [isEnd, Bool.and_eq_true, decide_eq_true_eq, Bool.not_eq_true', decide_eq_false_iff_not]
    constructor
    · rintro ⟨⟨h1, h2⟩, h3⟩ j g1 g2
      cases j with
      | zero => exact ⟨h1, h2⟩
      | succ j => exact ih.1 h3 j (by simpa using g1) (by simpa using g2)
    · intro h
      have h0 := h 0 (by simp) (by simp)
      exact ⟨⟨h0.1, h0.2⟩, ih.2 fun j g1 g2 => h (j + 1) (by simpa using g1) (by simpa using g2)⟩
  | [], _ :: _, hl => by simp at hl
  | _ :: _, [], hl => by simp at hl
theorem go_both {xs : List Int} : ∀ (fs : List (Int × Int × Int)) {M : List (Bool × Int)} {P B : List Int} {b : Int}, Both xs.length M P B →
    (∀ M', readGo xs fs M b = some M' → ∃ P' B', isGo xs fs P B b = some (P', B') ∧ Both xs.length M' P' B') ∧
    (readGo xs fs M b = none → isGo xs fs P B b = none ∨ ∃ q, isGo xs fs P B b = some q ∧ isEnd q.1 q.2 = false)
  | [], M, P, B, b, hb => ⟨fun M' h => by simp only [readGo, Option.some.injEq] at h; subst h; exact ⟨P, B, rfl, hb⟩, fun h => by simp [readGo] at h⟩
  | s :: r, M, P, B, b, hb => by
    obtain ⟨s1, s2⟩ := step_both (s := s) (b := b) hb
    have hPB : P.length = B.length := by rw [hb.1, hb.2.1]
    cases hr : readStep xs s M b with
    | none =>
      refine ⟨fun M' h => by simp [readGo, hr] at h, fun _ => ?_⟩
      rcases s2 hr with h | ⟨P1, B1, h, ho⟩
      · exact .inl (by simp [isGo, h])
      · obtain ⟨l1, l2⟩ := isStep_len h
        cases hg : isGo xs r P1 B1 s.1 with
        | none => exact .inl (by simp [isGo, h, hg])
        | some q => exact .inr ⟨q, by simp [isGo, h, hg], isGo_over r (by omega) ho q hg⟩
    | some M1 =>
      obtain ⟨P1, B1, h, hb1⟩ := s1 M1 hr
      obtain ⟨g1, g2⟩ := go_both r (b := s.1) hb1
      have e1 : readGo xs (s :: r) M b = readGo xs r M1 s.1 := by simp [readGo, hr]
      have e2 : isGo xs (s :: r) P B b = isGo xs r P1 B1 s.1 := by simp [isGo, h]
      rw [e1, e2]
      exact ⟨g1, g2⟩
def tot : List Int → Int
  | [] => 0
  | x :: r => x + tot r
theorem tot_set : ∀ (l : List Int) (j : Nat) (v : Int), j < l.length → tot (l.set j v) = tot l - l.getD j 0 + v
  | x :: r, 0, v, _ => by simp [tot]; omega
  | x :: r, j + 1, v, h => by
    have := tot_set r j v (by simpa using h)
    simp only [List.set_cons_succ, tot, this, List.getD_cons_succ]
    omega
theorem tot_le : ∀ (l : List Int), (∀ x ∈ l, x ≤ 1) → tot l ≤ l.length
  | [], _ => by simp [tot]
  | x :: r, h => by
    have h1 := h x (by simp)
    have h2 := tot_le r fun y hy => h y (by simp [hy])
    simp only [tot, List.length_cons]
    omega
theorem tot_zero : ∀ n : Nat, tot (List.replicate n 0) = 0
  | 0 => rfl
  | n + 1 => by rw [List.replicate_succ, tot, tot_zero n]; rfl
theorem isStep_tot {xs : List Int} {s : Int × Int × Int} {P B P' B' : List Int} {b : Int} (hP : P.length = xs.length) (hB : B.length = xs.length) (h : isStep xs s P B b = some (P', B')) : tot P' + tot B' = tot P + tot B + 1 := by
  unfold isStep at h
  split at h
  · cases h
  · rename_i h1
    split at h
    · cases h
    · split at h
      · split at h
        · cases h
        · cases h
          rw [tot_set _ _ _ (by omega)]; omega
      · split at h
        · cases h
        · cases h
          rw [tot_set _ _ _ (by omega)]; omega
theorem isGo_tot {xs : List Int} : ∀ (fs : List (Int × Int × Int)) {P B P' B' : List Int} {b : Int}, P.length = xs.length → B.length = xs.length → isGo xs fs P B b = some (P', B') → tot P' + tot B' = tot P + tot B + fs.length
  | [], P, B, P', B', b, _, _, h => by
    simp only [isGo, Option.some.injEq, Prod.mk.injEq] at h
    obtain ⟨rfl, rfl⟩ := h
    simp
  | s :: r, P, B, P', B', b, hP, hB, h => by
    simp only [isGo, Option.bind_eq_some_iff] at h
    obtain ⟨⟨P1, B1⟩, h1, h2⟩ := h
    obtain ⟨l1, l2⟩ := isStep_len h1
    have a1 := isStep_tot hP hB h1
    have a2 := isGo_tot r (by simp only; omega) (by simp only; omega) h2
    simp only [List.length_cons]
    simp only at a2
    omega
theorem isF_read {xs : List Int} {fs : List (Int × Int × Int)} (hx : xs.length ≤ 4) : isF xs fs = (readF xs fs).isSome := by
  have h0 : Both xs.length (List.replicate 4 (false, 0)) (List.replicate xs.length 0) (List.replicate xs.length 0) := ⟨by simp, by simp, by simpa using hx, fun j h1 h2 h3 => by simp only [List.getElem_replicate]; simp⟩
  obtain ⟨g1, g2⟩ := go_both fs (b := 0) h0
  cases hr : readGo xs fs (List.replicate 4 (false, 0)) 0 with
  | none =>
    have e : readF xs fs = none := by rw [readF, hr]; rfl
    rw [e]
    show isF xs fs = false
    unfold isF
    split
    · rfl
    · rcases g2 hr with h | ⟨q, h, hq⟩
      · rw [h]
      · rw [h]; exact hq
  | some M =>
    obtain ⟨P, B, hi, hP, hB, hM, hv⟩ := g1 M hr
    have hv1 : ∀ x ∈ P, x ≤ 1 := by
      intro x hx'
      obtain ⟨j, hj, rfl⟩ := List.getElem_of_mem hx'
      rw [(hv j (by omega) hj (by omega)).1]
      split <;> omega
    have hv2 : ∀ x ∈ B, x ≤ 1 := by
      intro x hx'
      obtain ⟨j, hj, rfl⟩ := List.getElem_of_mem hx'
      rw [(hv j (by omega) (by omega) hj).2.1]
      split <;> omega
    have t1 := isGo_tot fs (by simp) (by simp) hi
    rw [tot_zero] at t1
    have t2 := tot_le P hv1
    have t3 := tot_le B hv2
    have e1 : isF xs fs = isEnd P B := by
      unfold isF
      rw [if_neg (by omega), hi]
    have e2 : (isEnd P B = true ↔ (M.take xs.length).all (·.1) = true) := by
      rw [isEnd_iff (by omega), List.all_eq_true]
      constructor
      · intro h p hp
        obtain ⟨j, hj, rfl⟩ := List.mem_take_iff_getElem.1 hp
        have h1 := (h j (by omega) (by omega)).1
        rw [(hv j (by omega) (by omega) (by omega)).1] at h1
        split at h1
        · assumption
        · omega
      · intro h j h1 h2
        have hj : M[j]'(by omega) ∈ M.take xs.length := List.mem_take_iff_getElem.2 ⟨j, by omega, rfl⟩
        have h3 := h _ hj
        obtain ⟨a1, a2, _⟩ := hv j (by omega) h1 h2
        rw [a1, a2, if_pos h3]
        refine ⟨rfl, ?_⟩
        split <;> omega
    rw [e1, readF, hr]
    show isEnd P B = (if (M.take xs.length).all (·.1) = true then some M else none).isSome
    by_cases h : (M.take xs.length).all (·.1) = true
    · rw [if_pos h, e2.2 h]; rfl
    · rw [if_neg h]
      have : ¬ isEnd P B = true := fun hh => h (e2.1 hh)
      simpa using this
end Go.Fw
namespace Go.Fw
open Go Go.RowKit Go.Proofs
set_option maxRecDepth 100000
set_option linter.unusedSimpArgs false
set_option linter.unusedVariables false
theorem readStep_blk {xs : List Int} {s : Int × Int × Int} {M M' : List (Bool × Int)} {b : Int} (hM : xs.length ≤ M.length) (h : readStep xs s M b = some M') (j : Nat) (hj : j < xs.length) :
    (M'.getD j (false, 0)).2 = if s.2.1 = j ∧ s.1 = 4 then s.2.2 else (M.getD j (false, 0)).2 := by
  obtain ⟨⟨hm0, hm1⟩, hk, _⟩ := readStep_ok h
  have key : ∀ (v : Bool × Int), ((M.set s.2.1.toNat v).getD j (false, 0)) = if s.2.1 = j then v else M.getD j (false, 0) := by
    intro v
    rw [List.getD, List.getD, List.getElem?_set]
    by_cases e : s.2.1 = j
    · have e2 : s.2.1.toNat = j := by omega
      rw [if_pos e2, if_pos e, if_pos (by omega)]; rfl
    · rw [if_neg (by omega), if_neg e]
  unfold readStep at h
  rw [if_neg (by omega)] at h
  split at h
  · rename_i hkk
    split at h
    · cases h
      rw [key, if_neg (show ¬ (s.2.1 = j ∧ s.1 = 4) from fun hh => by omega)]
      by_cases e : s.2.1 = j
      · have e2 : s.2.1.toNat = j := by omega
        rw [if_pos e, e2]
      · rw [if_neg e]
    · cases h
  · split at h
    · rename_i hk4
      split at h
      · cases h
        rw [key]
        by_cases e : s.2.1 = j
        · rw [if_pos e, if_pos ⟨e, hk4⟩]
        · rw [if_neg e, if_neg (fun hh => e hh.1)]
      · cases h
    · cases h
theorem readStep_once {xs : List Int} {s : Int × Int × Int} {M M' : List (Bool × Int)} {b : Int} (h : readStep xs s M b = some M') (hk : s.1 = 4) : (M.getD s.2.1.toNat (false, 0)).2 = 0 ∧ 0 < s.2.2 := by
  unfold readStep at h
  split at h
  · cases h
  · split at h
    · rename_i hkk
      omega
    · split at h
      · rename_i hc
        exact ⟨hc.2.1, hc.2.2.2.1⟩
      · cases h
theorem readGo_blk {xs : List Int} : ∀ (fs : List (Int × Int × Int)) {M M' : List (Bool × Int)} {b : Int}, xs.length ≤ M.length → readGo xs fs M b = some M' → ∀ j, j < xs.length →
    ((M'.getD j (false, 0)).2 = if (M.getD j (false, 0)).2 ≠ 0 then (M.getD j (false, 0)).2 else blockF fs j) ∧ ((M.getD j (false, 0)).2 ≠ 0 → ∀ s ∈ fs, s.2.1 = j → s.1 ≠ 4) ∧ ∀ s ∈ fs, s.2.1 = j → s.1 = 4 → (M'.getD j (false, 0)).2 = s.2.2
  | [], M, M', b, hM, h, j, hj => by
    simp only [readGo, Option.some.injEq] at h
    subst h
    refine ⟨?_, by simp, by simp⟩
    split
    · rfl
    · rename_i h; simpa [blockF] using h
  | s :: r, M, M', b, hM, h, j, hj => by
    simp only [readGo, Option.bind_eq_some_iff] at h
    obtain ⟨M1, h1, h2⟩ := h
    have l1 := readStep_len h1
    obtain ⟨a1, a2, a3⟩ := readGo_blk r (by omega) h2 j hj
    have e1 := readStep_blk hM h1 j hj
    by_cases hs : s.2.1 = j ∧ s.1 = 4
    · obtain ⟨o1, o2⟩ := readStep_once h1 hs.2
      have e2 : s.2.1.toNat = j := by omega
      rw [e2] at o1
      rw [if_pos hs] at e1
      have n1 : (M1.getD j (false, 0)).2 ≠ 0 := by rw [e1]; omega
      rw [if_pos n1, e1] at a1
      refine ⟨?_, fun hn => absurd o1 hn, fun t ht ht1 ht2 => ?_⟩
      · rw [if_neg (by simpa using o1), blockF, if_pos hs]; exact a1
      · rcases List.mem_cons.1 ht with rfl | ht
        · exact a1
        · exact absurd ht2 (a2 n1 t ht ht1)
    · rw [if_neg hs] at e1
      rw [e1] at a1 a2
      refine ⟨?_, fun hn t ht ht1 => ?_, fun t ht ht1 ht2 => ?_⟩
      · rw [blockF, if_neg hs]; exact a1
      · rcases List.mem_cons.1 ht with rfl | ht
        · exact fun h4 => hs ⟨ht1, h4⟩
        · exact a2 hn t ht ht1
      · rcases List.mem_cons.1 ht with rfl | ht
        · exact absurd ⟨ht1, ht2⟩ hs
        · exact a3 t ht ht1 ht2
def lvlR (xs : List Int) (fs : List (Int × Int × Int)) (s : Int × Int × Int) : Int :=
  if s.1 = 4 then s.2.2 else if 0 < blockF fs s.2.1 then (xs.getD s.2.1.toNat 0).tdiv (blockF fs s.2.1) else xs.getD s.2.1.toNat 0
theorem lvl_same {xs : List Int} {fs : List (Int × Int × Int)} {M : List (Bool × Int)} (hx : xs.length ≤ 4) (h : readF xs fs = some M) : fs.map (lvlOf xs M) = fs.map (lvlR xs fs) := by
  obtain ⟨hm, _⟩ := readF_ok h
  have hg : readGo xs fs (List.replicate 4 (false, 0)) 0 = some M := by
    unfold readF at h
    rw [Option.bind_eq_some_iff] at h
    obtain ⟨M1, h1, h2⟩ := h
    split at h2
    · cases h2; exact h1
    · cases h2
  apply List.map_congr_left
  intro s hs
  obtain ⟨⟨m0, m1⟩, _⟩ := hm s hs
  obtain ⟨b1, _, b3⟩ := readGo_blk fs (by simpa using hx) hg s.2.1.toNat (by omega)
  have e0 : ((List.replicate 4 ((false, 0) : Bool × Int)).getD s.2.1.toNat (false, 0)).2 = 0 := by
    rw [List.getD, List.getElem?_replicate]
    split <;> rfl
  rw [if_neg (by simpa using e0)] at b1
  have e1 : ((s.2.1.toNat : Nat) : Int) = s.2.1 := by omega
  rw [e1] at b1 b3
  unfold lvlOf lvlR
  by_cases k4 : s.1 = 4
  · rw [if_pos k4, if_pos k4]
    exact b3 s hs rfl k4
  · rw [if_neg k4, if_neg k4, b1]
end Go.Fw
