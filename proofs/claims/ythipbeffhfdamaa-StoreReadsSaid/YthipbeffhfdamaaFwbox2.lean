import Derived.Test.YthipbeffhfdamaaFwstore7
import Derived.Test.YthipbeffhfdamaaFwbox1
namespace Go.Fw
open Go Go.RowKit Go.Proofs
set_option maxRecDepth 100000
set_option linter.unusedSimpArgs false
set_option linter.unusedVariables false
def chV (y : Int × Int) : AV := .agg [I y.1, I y.2]
@[simp] theorem chV_mk (a b : Int) : chV (a, b) = .agg [I a, I b] := rfl
def Ch (a : AV) (ys : List (Int × Int)) : Prop :=
  (∃ nl c sz, a = .imm nl c sz (ys.map chV) ∧ ((nl = true → ys = []) ∧ (nl = false → sz = 2))) ∧ ys.length ≤ 9223372036854775807
theorem sz2_of {nl : Bool} {ys : List (Int × Int)} {sz i : Nat} (hs : (nl = true → ys = []) ∧ (nl = false → sz = 2)) (h : i < ys.length) : sz = 2 := by
  cases nl with
  | true => have := hs.1 rfl; subst this; simp at h
  | false => exact hs.2 rfl
theorem ch_get {ys : List (Int × Int)} {i : Nat} (h : i < ys.length) : (ys.map chV)[i]? = some (.agg [I ys[i].1, I ys[i].2]) := by
  rw [List.getElem?_map, List.getElem?_eq_getElem h]; rfl
@[simp] theorem allOne_ch (ys : List (Int × Int)) : allOneCell 2 (ys.map chV) = true := by simp [allOneCell, okEl, cellsOf, oneC, chV]
@[simp] theorem frz_ch (H : List AObj) (k n : Nat) (b : Bool) (ys : List (Int × Int)) : (ys.map chV).map (frz H k (n + 1) b) = ys.map chV := by
  rw [List.map_map]
  apply List.map_congr_left
  intro y _
  simp [chV]
def kidsF (l : Lv) (p : Nat) : List (Int × Int) :=
  if l.k = 0 ∨ l.k = 4 then (List.range l.sz.toNat).map fun (a : Nat) => ((a : Int), (p : Int) * l.sz + a)
  else if l.k = 3 then [(l.crd.getD p 0, (p : Int))]
  else (List.range' (l.pos.getD p 0).toNat ((l.pos.getD (p + 1) 0).toNat - (l.pos.getD p 0).toNat)).map fun (n : Nat) => (l.crd.getD n 0, (n : Int))
def kidsR (ys : List (Int × Int)) (r : AV) (G : List AObj) : Prop :=
  ys.length ≤ 1048576 ∧ ∃ vr, (vr = some true → ys = []) ∧ vr ≠ some false ∧ r = .slc 1 ys.length 0 ys.length none ∧ G[1]? = some ⟨88, 2, ys.map chV, true, vr⟩
def kids_24 : AC := (.block 2 (.ops [.m 25 (.t 5), .o 26 (.fad 3 (.t 2)), .o 27 (.ld 1 false (.t 26)), .m 28 (.t 7), .o 29 (.iad 1 (.t 27) (.t 28)), .o 30 (.ld 1 false (.t 29)), .m 31 (.t 7), .o 32 (.mk [(.sc (.int .i64 0)), (.sc (.int .i64 0))] [(0, (1, (.t 30))), (1, (1, (.t 31)))]), .o 33 (.lit 2 [(.t 32)]), .o 34 (.app 88 2 16 (.t 25) (.t 33)), .m 5 (.t 34)]))
def kids_23 : AC := (.seq kids_24 (.ops [.m 23 (.t 7), .o 24 (.bin .add (.t 23) (.i 1)), .m 7 (.t 24)]))
def kids_22 : AC := (.seq (.ops [.m 15 (.t 7), .o 16 (.fad 2 (.t 2)), .o 17 (.ld 1 false (.t 16)), .m 18 (.t 1), .o 19 (.bin .add (.t 18) (.i 1)), .o 20 (.iad 1 (.t 17) (.t 19)), .o 21 (.ld 1 false (.t 20)), .o 22 (.bin .lss (.t 15) (.t 21))]) (.cond (.t 22) .skip (.exit 1)))
def kids_21 : AC := (.seq kids_22 kids_23)
def kids_20 : AC := (.loop kids_21)
def kids_19 : AC := (.block 1 kids_20)
def kids_18 : AC := (.seq (.ops [.o 10 (.fad 2 (.t 2)), .o 11 (.ld 1 false (.t 10)), .m 12 (.t 1), .o 13 (.iad 1 (.t 11) (.t 12)), .o 14 (.ld 1 false (.t 13)), .m 7 (.t 14)]) kids_19)
def kids_17 : AC := (.cond (.t 55) (.ops [.m 57 (.t 5), .o 58 (.fad 3 (.t 2)), .o 59 (.ld 1 false (.t 58)), .m 60 (.t 1), .o 61 (.iad 1 (.t 59) (.t 60)), .o 62 (.ld 1 false (.t 61)), .m 63 (.t 1), .o 64 (.mk [(.sc (.int .i64 0)), (.sc (.int .i64 0))] [(0, (1, (.t 62))), (1, (1, (.t 63)))]), .o 65 (.lit 2 [(.t 64)]), .o 66 (.app 88 2 16 (.t 57) (.t 65)), .m 5 (.t 66)]) kids_18)
def kids_16 : AC := (.seq (.ops [.o 56 (.bin .eql (.t 9) (.i 3)), .m 55 (.t 56)]) kids_17)
def kids_15 : AC := (.seq (.ops [.m 42 (.t 40), .m 6 (.t 42)]) (.ops [.m 43 (.t 5), .m 44 (.t 6), .m 45 (.t 1), .o 46 (.fad 1 (.t 2)), .o 47 (.ld 1 false (.t 46)), .o 48 (.bin .mul (.t 45) (.t 47)), .m 49 (.t 6), .o 50 (.bin .add (.t 48) (.t 49)), .o 51 (.mk [(.sc (.int .i64 0)), (.sc (.int .i64 0))] [(0, (1, (.t 44))), (1, (1, (.t 50)))]), .o 52 (.lit 2 [(.t 51)]), .o 53 (.app 88 2 16 (.t 43) (.t 52)), .m 5 (.t 53)]))
def kids_14 : AC := (.block 4 kids_15)
def kids_13 : AC := (.seq kids_14 (.ops [.o 54 (.bin .add (.t 40) (.i 1)), .m 40 (.t 54)]))
def kids_12 : AC := (.seq (.cond (.t 41) .skip (.exit 3)) kids_13)
def kids_11 : AC := (.seq (.ops [.o 41 (.bin .lss (.t 40) (.t 39))]) kids_12)
def kids_10 : AC := (.loop kids_11)
def kids_9 : AC := (.block 3 kids_10)
def kids_8 : AC := (.seq (.ops [.o 38 (.fad 1 (.t 2)), .o 39 (.ld 1 false (.t 38)), .m 40 (.i 0)]) kids_9)
def kids_7 : AC := (.cond (.t 35) kids_8 kids_16)
def kids_6 : AC := (.seq (.ops [.o 36 (.bin .eql (.t 9) (.i 0)), .m 35 (.t 36)]) (.cond (.t 35) .skip (.ops [.o 37 (.bin .eql (.t 9) (.i 4)), .m 35 (.t 37)])))
def kids_5 : AC := (.seq kids_6 kids_7)
def kids_4 : AC := (.block 0 kids_5)
def kids_3 : AC := (.seq (.ops [.o 8 (.fad 0 (.t 2)), .o 9 (.ld 1 false (.t 8))]) kids_4)
def kids_2 : AC := (.seq kids_3 (.seq (.ops [.m 67 (.t 5), .m 4 (.t 67)]) .ret))
def kids_1 : AC := (.seq (.ops [.m 5 .z]) kids_2)
def kids_ac : AC := (.seq (.ops [.o 2 (.new 34 4 (.t 0)), .m 4 .z]) kids_1)
theorem kids_call {args : List AV} {H : List AObj} {R : AV → List AObj → Prop} (h : AWp Try.prog [] H.length kids_ac (bodyQ H.length [(.t 4)] R) (args ++ List.replicate (68 - args.length) .und) H) : ACalls Try.prog 52 args H R :=
  ACalls.of_fn Try.func52 rfl (by kernel_rfl) rfl Try.ntmps52 h
set_option maxHeartbeats 4000000 in
theorem kids_spec {l : Lv} {p c : AV} (hl : LvOk l p c) {n : Nat} (hn : n ≤ 1048576) (hc : lvCheck l n = 0) {q : Nat} (hq : q < n) : ACalls Try.prog 52 [.agg [I l.k, I l.sz, p, c], I q] [] fun r H' => H' = [] ∧ Ch r (kidsF l q) := by
  obtain ⟨k, z, ps, cs⟩ := l
  obtain ⟨h1, h2, h3, h4⟩ := hl
  simp only at h1 h2 h3 h4
  obtain ⟨⟨nl, cp, sz, rfl, hs⟩, hlen, hx⟩ := h1
  obtain ⟨⟨nl', cp', sz', rfl, hs'⟩, hlen', hx'⟩ := h2
  simp only
  obtain ⟨z0, z1, hf, hcl, b0, b1, hcr, -⟩ := lvBelow_ok hc
  simp only at z0 z1 hf hcl b0 b1 hcr
  obtain ⟨Y, hY⟩ : ∃ Y, Y = kidsF ⟨k, z, ps, cs⟩ q := ⟨_, rfl⟩
  have hYlen : Y.length ≤ 1048576 := by
    rw [hY]
    simp only [kidsF]
    by_cases hw : k = 0 ∨ k = 4
    · rw [if_pos hw]
      simp only [List.length_map, List.length_range]
      rw [lvBelow, if_pos hw] at b1
      simp only at b1
      have : (1 : Int) * z ≤ (n : Int) * z := Int.mul_le_mul_of_nonneg_right (by omega) z0
      omega
    · rw [if_neg hw]
      by_cases k3 : k = 3
      · rw [if_pos k3]; simp
      · rw [if_neg k3]
        simp only [List.length_map, List.length_range']
        have k12 : k = 1 ∨ k = 2 := by
          by_cases h : k = 1 ∨ k = 2
          · exact h
          · simp only [lvFormed] at hf
            rw [if_neg (by omega), if_neg (by omega), if_neg k3, if_neg h] at hf
            cases hf
        have hP := lvFormed_pos hf k12
        simp only at hP
        obtain ⟨f, t, hf', ht', hft, htc⟩ := hP.at hq
        rw [hf', ht']
        omega
  have base : ACalls Try.prog 52 [.agg [I k, I z, .imm nl cp sz (ps.map I), .imm nl' cp' sz' (cs.map I)], I q] [] fun r G => kidsR Y r G := by
    apply kids_call
    repeat first | refine AWp.seq ?_ | refine AWp.block ?_
    refine AWp.ops ?_
    simp
    repeat first | refine AWp.seq ?_ | refine AWp.block ?_
    refine AWp.ops ?_
    simp
    refine AWp.weak (Weak.own 5 88 2 (by omega) none 0 (by simp)) ?_
    simp
    refine AWp.cut [.und, .und, .und, .und, .und, .slc 1 Y.length 0 Y.length none, .und, .und, .und, .und, .und, .und, .und, .und, .und, .und, .und, .und, .und, .und, .und, .und, .und, .und, .und, .und, .und, .und, .und, .und, .und, .und, .und, .und, .und, .und, .und, .und, .und, .und, .und, .und, .und, .und, .und, .und, .und, .und, .und, .und, .und, .und, .und, .und, .und, .und, .und, .und, .und, .und, .und, .und, .und, .und, .und, .und, .und, .und] [lvO (.agg [I k, I z, .imm nl cp sz (ps.map I), .imm nl' cp' sz' (cs.map I)]), ⟨88, 2, Y.map chV, true, if Y = [] then some true else none⟩] ?_ ?_
    ·
      repeat first | refine AWp.seq ?_ | refine AWp.block ?_
      refine AWp.ops ?_
      simp
      obtain ⟨sw, hsw⟩ : ∃ sw, sw = decide (k = 0 ∨ k = 4) := ⟨_, rfl⟩
      refine AWp.block (AWp.cut [.und, I q, .ptr 0 1 0 0, .und, .und, .slc 1 0 0 0 none, .und, .und, .und, I k, .und, .und, .und, .und, .und, .und, .und, .und, .und, .und, .und, .und, .und, .und, .und, .und, .und, .und, .und, .und, .und, .und, .und, .und, .und, Bo sw, .und, .und, .und, .und, .und, .und, .und, .und, .und, .und, .und, .und, .und, .und, .und, .und, .und, .und, .und, .und, .und, .und, .und, .und, .und, .und, .und, .und, .und, .und, .und, .und] [lvO (.agg [I k, I z, .imm nl cp sz (ps.map I), .imm nl' cp' sz' (cs.map I)]), ⟨88, 2, [], true, some true⟩] ?_ ?_)
      ·
        repeat first | refine AWp.seq ?_ | refine AWp.block ?_
        refine AWp.ops ?_
        simp
        by_cases k0 : k = 0
        · refine AWp.cond (b := true) (by simp [k0]) (fun _ => ?_) (fun h => by cases h)
          refine AWp.skip ?_
          simp only [qSeq]
          exact (Weak.slots [1, 2, 5, 9, 35]).to (by simp [hsw, k0]) rfl
        refine AWp.cond (b := false) (by simp [k0]) (fun h => by cases h) (fun _ => ?_)
        repeat first | refine AWp.seq ?_ | refine AWp.block ?_
        refine AWp.ops ?_
        simp
        exact (Weak.slots [1, 2, 5, 9, 35]).to (by by_cases k4 : k = 4 <;> simp [hsw, k0, k4]) rfl
      refine AWp.cond (b := sw) (by simp) ?_ ?_
      · intro h
        have hw : k = 0 ∨ k = 4 := by simpa [hsw] using h
        obtain ⟨zn, rfl⟩ : ∃ zn : Nat, z = zn := ⟨z.toNat, by omega⟩
        have hYe : Y = (List.range zn).map fun (a : Nat) => ((a : Int), (q : Int) * zn + a) := by
          rw [hY, kidsF, if_pos hw, Int.toNat_natCast]
        have hbel : (n : Int) * zn ≤ 1048576 := by
          rw [lvBelow, if_pos hw] at b1; exact b1
        have hqz : (q : Int) * zn + zn ≤ 1048576 := by
          have : ((q + 1 : Nat) : Int) * zn ≤ (n : Int) * zn := Int.mul_le_mul_of_nonneg_right (by omega) (by omega)
          rw [Int.natCast_add, Int.add_mul] at this
          omega
        have hq0 : 0 ≤ (q : Int) * zn := Int.mul_nonneg (by omega) (by omega)
        have w1 := wrap_i64 (n := (q : Int) * zn) (by omega) (by omega)
        repeat first | refine AWp.seq ?_ | refine AWp.block ?_
        refine AWp.ops ?_
        simp
        obtain ⟨J, hJ⟩ : ∃ J : Nat → List AV → List AObj → Prop, J = fun i fr H => i ≤ zn ∧ ∃ (ys : List (Int × Int)) (vr : Option Bool), (ys = (List.range i).map (fun (a : Nat) => ((a : Int), (q : Int) * zn + a)) ∧ vr = if ys = [] then some true else none) ∧ H = [lvO (.agg [I k, I zn, .imm nl cp sz (ps.map I), .imm nl' cp' sz' (cs.map I)]), ⟨88, 2, ys.map chV, true, vr⟩] ∧
          fr = [.und, I q, .ptr 0 1 0 0, .und, .und, .slc 1 ys.length 0 ys.length none, .und, .und, .und, .und, .und, .und, .und, .und, .und, .und, .und, .und, .und, .und, .und, .und, .und, .und, .und, .und, .und, .und, .und, .und, .und, .und, .und, .und, .und, .und, .und, .und, .und, I zn, I i, .und, .und, .und, .und, .und, .und, .und, .und, .und, .und, .und, .und, .und, .und, .und, .und, .und, .und, .und, .und, .und, .und, .und, .und, .und, .und, .und] := ⟨_, rfl⟩
        refine AWp.block (AWp.loop J (fun i => zn - i) 0 (Weak.slots [1, 2, 5, 39, 40]) (by rw [hJ]; exact ⟨by omega, [], some true, ⟨rfl, rfl⟩, by simp, by simp⟩) ?_)
        intro i fr H hI
        rw [hJ] at hI
        obtain ⟨hi, ys, vr, hinv, rfl, rfl⟩ := hI
        repeat first | refine AWp.seq ?_ | refine AWp.block ?_
        refine AWp.ops ?_
        simp
        refine AWp.seq (AWp.cond (b := decide (i < zn)) (by simp <;> omega) ?_ ?_)
        ·
          intro hb
          have hb : i < zn := by simpa using hb
          refine AWp.skip ?_
          simp only [qSeq]
          obtain ⟨hys, hvr⟩ := hinv
          have hyl : ys.length = i := by rw [hys]; simp
          have w2 := wrap_i64 (n := (q : Int) * zn + i) (by omega) (by omega)
          have c1 : (ys.length + 1) * 16 ≤ 140737488355328 := by omega
          have c2 : ys.length + 1 ≤ 9223372036854775807 := by omega
          repeat first | refine AWp.seq ?_ | refine AWp.block ?_
          refine AWp.ops ?_
          simp
          repeat first | refine AWp.seq ?_ | refine AWp.block ?_
          refine AWp.ops ?_
          simp [w1, w2, c1, c2, elems]
          repeat first | refine AWp.seq ?_ | refine AWp.block ?_
          refine AWp.ops ?_
          simp
          refine ⟨i + 1, _, _, Weak.slots [1, 2, 5, 39, 40], ?_, by omega⟩
          rw [hJ]
          refine ⟨by omega, ys ++ [((i : Int), (q : Int) * zn + i)], none, ⟨by rw [List.range_succ, List.map_append, hys]; rfl, by simp⟩, by simp, by simp [wrap_i64 (n := (i : Int) + 1) (by omega) (by omega)]⟩
        ·
          intro hb
          have hb : ¬ i < zn := by simpa using hb
          refine AWp.exit ?_
          simp [qSeq, qBlock]
          obtain ⟨hys, hvr⟩ := hinv
          have hi' : i = zn := by omega
          have e : ys = Y := by rw [hys, hYe, hi']
          rw [e] at hvr ⊢
          exact (Weak.slots [5]).to (by simp) (by simp [hvr])
      intro h
      have hw : ¬ (k = 0 ∨ k = 4) := by simpa only [hsw, decide_eq_false_iff_not] using h
      repeat first | refine AWp.seq ?_ | refine AWp.block ?_
      refine AWp.ops ?_
      simp
      by_cases k3 : k = 3
      · refine AWp.cond (b := true) (by simp [k3]) (fun _ => ?_) (fun h => by cases h)
        have hcn : cs.length = n := by
          simp only [lvFormed] at hf
          rw [if_neg (by omega), if_neg (by omega), if_pos k3] at hf
          exact (of_decide_eq_true hf).2
        have hb : q < cs.length := by omega
        have hszc := sz_of hs' hb
        subst hszc
        have hYe : Y = [(cs[q], (q : Int))] := by
          rw [hY, kidsF, if_neg hw, if_pos k3]
          simp [hb]
        repeat first | refine AWp.seq ?_ | refine AWp.block ?_
        refine AWp.ops ?_
        simp [hb, elems]
        exact (Weak.slots [5]).to (by simp [hYe]) (by simp [hYe])
      refine AWp.cond (b := false) (by simp [k3]) (fun h => by cases h) (fun _ => ?_)
      have k12 : k = 1 ∨ k = 2 := by
        by_cases h : k = 1 ∨ k = 2
        · exact h
        · simp only [lvFormed] at hf
          rw [if_neg (by omega), if_neg (by omega), if_neg k3, if_neg h] at hf
          cases hf
      have hP := lvFormed_pos hf k12
      simp only at hP
      obtain ⟨f, t, hf', ht', hft, htc⟩ := hP.at hq
      obtain ⟨hpl, -, -, -⟩ := id hP
      have hbp : q < ps.length := by omega
      have hbp1 : q + 1 < ps.length := by omega
      have hszp := sz_of hs hbp
      subst hszp
      have ef : ps[q] = f := by simpa [hbp] using hf'
      have et : ps[q + 1] = t := by simpa [hbp1] using ht'
      have hYe : Y = (List.range' f (t - f)).map fun (n : Nat) => (cs.getD n 0, (n : Int)) := by
        rw [hY, kidsF, if_neg hw, if_neg k3]
        simp only [hf', ht', Int.toNat_natCast]
      have hwi := wrap_i64 (n := (q : Int) + 1) (by omega) (by omega)
      have gi : (0 : Int) ≤ (q : Int) + 1 := by omega
      have gi2 : ((q : Int) + 1).toNat = q + 1 := by omega
      repeat first | refine AWp.seq ?_ | refine AWp.block ?_
      refine AWp.ops ?_
      simp [hbp, ef]
      obtain ⟨J2, hJ2⟩ : ∃ J2 : Nat → List AV → List AObj → Prop, J2 = fun j fr H => ∃ (ys : List (Int × Int)) (vr : Option Bool), (f + j ≤ t ∧ ys = (List.range' f j).map (fun (n : Nat) => (cs.getD n 0, (n : Int))) ∧ vr = if ys = [] then some true else none) ∧
        H = [lvO (.agg [I k, I z, .imm nl cp 1 (ps.map I), .imm nl' cp' sz' (cs.map I)]), ⟨88, 2, ys.map chV, true, vr⟩] ∧
        fr = [.und, I q, .ptr 0 1 0 0, .und, .und, .slc 1 ys.length 0 ys.length none, .und, I ((f + j : Nat) : Int), .und, .und, .und, .und, .und, .und, .und, .und, .und, .und, .und, .und, .und, .und, .und, .und, .und, .und, .und, .und, .und, .und, .und, .und, .und, .und, .und, .und, .und, .und, .und, .und, .und, .und, .und, .und, .und, .und, .und, .und, .und, .und, .und, .und, .und, .und, .und, .und, .und, .und, .und, .und, .und, .und, .und, .und, .und, .und, .und, .und] := ⟨_, rfl⟩
      refine AWp.block (AWp.loop J2 (fun j => t - f - j) 0 (Weak.slots [1, 2, 5, 7]) (by
        rw [hJ2]
        exact ⟨[], some true, ⟨by omega, rfl, rfl⟩, by simp, by simp⟩) ?_)
      intro j fr H hI
      rw [hJ2] at hI
      obtain ⟨ys, vr, ⟨hjt, hys, hvr⟩, rfl, rfl⟩ := hI
      have hyl : ys.length = j := by rw [hys]; simp
      obtain ⟨m, hm⟩ : ∃ m : Nat, m = f + j := ⟨_, rfl⟩
      rw [← hm]
      repeat first | refine AWp.seq ?_ | refine AWp.block ?_
      refine AWp.ops ?_
      simp [hbp1, hwi, gi, gi2, et]
      refine AWp.cond (b := decide (m < t)) (by simp) ?_ ?_
      · intro h0
        have h0 : m < t := by simpa using h0
        have hb : m < cs.length := by omega
        have hszc := sz_of hs' hb
        subst hszc
        have wm := wrap_i64 (n := (m : Int) + 1) (by omega) (by omega)
        have c1 : (ys.length + 1) * 16 ≤ 140737488355328 := by omega
        have c2 : ys.length + 1 ≤ 9223372036854775807 := by omega
        refine AWp.skip ?_
        simp only [qSeq]
        refine AWp.seq (AWp.block (AWp.ops ?_))
        simp [hb, c1, c2, elems]
        repeat first | refine AWp.seq ?_ | refine AWp.block ?_
        refine AWp.ops ?_
        simp [wm]
        refine ⟨j + 1, _, _, Weak.slots [1, 2, 5, 7], ?_, by omega⟩
        rw [hJ2]
        refine ⟨ys ++ [(cs[m], (m : Int))], none, ⟨by omega, ?_, by simp⟩, by simp, by simp [wm, hm]; omega⟩
        rw [List.range'_concat, List.map_append, hys]
        simp [hb, ← hm]
      · intro h0
        have h0 : ¬ m < t := by simpa using h0
        refine AWp.exit ?_
        simp [qSeq, qBlock]
        have e : ys = Y := by rw [hys, hYe, show j = t - f by omega]
        rw [e] at hvr ⊢
        exact (Weak.slots [5]).to (by simp) (by simp [hvr])
    repeat first | refine AWp.seq ?_ | refine AWp.block ?_
    refine AWp.ops ?_
    simp
    refine AWp.ret ?_
    simp
    refine retOk.of rfl ⟨hYlen, (if Y = [] then some true else none), ?_, ?_, by simp, by simp⟩
    · intro h
      split at h
      · assumption
      · cases h
    · split <;> simp
  refine (base.frozen 3).mono ?_
  rintro q' H' ⟨rfl, r, G, ⟨e4, vr, e2, e3, rfl, hG⟩, rfl⟩
  rw [← hY]
  refine ⟨rfl, ?_⟩
  match vr, e2, e3 with
  | some true, e2, _ =>
    have h3 := e2 rfl
    rw [h3]
    exact ⟨⟨true, none, 2, by simp [hG, h3], by simp, by simp⟩, by simp⟩
  | none, _, _ => exact ⟨⟨false, none, 2, by simp [hG], by simp, by simp⟩, by omega⟩
  | some false, _, h => exact absurd rfl h
end Go.Fw
namespace Go.Fw
open Go Go.RowKit Go.Proofs
set_option maxRecDepth 100000
set_option linter.unusedSimpArgs false
set_option linter.unusedVariables false
abbrev w64 (n : Int) : Int := IntKind.i64.wrap n
def fromF (f : Int × Int × Int) (c : List Int) : Int := if f.1 = 4 then w64 (c.getD f.2.1.toNat 0 * f.2.2) else 0
def stepC (f : Int × Int × Int) (c : List Int) (a : Int) : List Int := c.set f.2.1.toNat (w64 (fromF f c + a))
def walkF {σ : Type} (step : σ → List Int → Nat → σ) : List LvA → List (Int × Int × Int) → List Int → Nat → σ → σ
  | x :: xs, f :: fs, c, p, s => (kidsF x.lv p).foldl (fun s y => walkF step xs fs (stepC f c y.1) y.2.toNat s) s
  | _, _, c, p, s => step s c p
def Good (V : List Int → Nat → Prop) : List LvA → List (Int × Int × Int) → List Int → Nat → Prop
  | [], _, c, p => V c p
  | x :: xs, f :: fs, c, p => ((0 ≤ f.2.1 ∧ f.2.1.toNat < c.length) ∧ ∃ n, n ≤ 1048576 ∧ lvCheck x.lv n = 0 ∧ p < n) ∧ ∀ y ∈ kidsF x.lv p, 0 ≤ y.2 ∧ Good V xs fs (stepC f c y.1) y.2.toNat
  | _ :: _, [], _, _ => False
def GoodS {σ : Type} (V : σ → List Int → Nat → Prop) (step : σ → List Int → Nat → σ) : List LvA → List (Int × Int × Int) → List Int → Nat → σ → Prop
  | [], _, c, p, s => V s c p
  | x :: xs, f :: fs, c, p, s => ((0 ≤ f.2.1 ∧ f.2.1.toNat < c.length) ∧ ∃ n, n ≤ 1048576 ∧ lvCheck x.lv n = 0 ∧ p < n) ∧
    ∀ a (h : a < (kidsF x.lv p).length), 0 ≤ (kidsF x.lv p)[a].2 ∧ GoodS V step xs fs (stepC f c (kidsF x.lv p)[a].1) (kidsF x.lv p)[a].2.toNat (((kidsF x.lv p).take a).foldl (fun s y => walkF step xs fs (stepC f c y.1) y.2.toNat s) s)
  | _ :: _, [], _, _, _ => False
theorem Good.toS {σ : Type} {V : List Int → Nat → Prop} {step : σ → List Int → Nat → σ} : ∀ {xs : List LvA} {fs : List (Int × Int × Int)} {c : List Int} {p : Nat}, Good V xs fs c p → ∀ s, GoodS (fun _ => V) step xs fs c p s
  | [], fs, c, p, h, s => h
  | x :: xs, [], c, p, h, s => h
  | x :: xs, f :: fs, c, p, h, s => ⟨h.1, fun a ha => ⟨(h.2 _ (List.getElem_mem ha)).1, (h.2 _ (List.getElem_mem ha)).2.toS _⟩⟩
structure WInv (n0 N : Nat) (tn : AV) (g : FuncId) (gc : List AV) (ty1 ty3 ty4 : Nat) (K : List AObj) (c : List Int) : Prop where
  len : K.length = N
  lt : n0 + 5 = N
  o0 : K[n0]? = some (tnO tn)
  o1 : K[n0 + 1]? = some ⟨ty1, 1, [.fn (.func g) [] gc], true, none⟩
  o2 : K[n0 + 2]? = some (intOb c)
  o3 : K[n0 + 3]? = some ⟨ty3, 1, [.slc (n0 + 2) c.length 0 c.length none], true, none⟩
  o4 : K[n0 + 4]? = some ⟨ty4, 1, [.fn (.func 76) [] [.ptr n0 1 0 0, .ptr (n0 + 1) 1 0 0, .ptr (n0 + 3) 1 0 0, .ptr (n0 + 4) 1 0 0]], true, none⟩
theorem WInv.set {n0 N : Nat} {tn : AV} {g : FuncId} {gc : List AV} {ty1 ty3 ty4 : Nat} {K : List AObj} {c c' : List Int} (h : WInv n0 N tn g gc ty1 ty3 ty4 K c) (hc : c'.length = c.length) : WInv n0 N tn g gc ty1 ty3 ty4 (K.set (n0 + 2) (intOb c')) c' := by
  have hN := h.lt
  have hl := h.len
  refine ⟨by simpa using hl, hN, ?_, ?_, ?_, ?_, ?_⟩
  · rw [List.getElem?_set_ne (by omega)]; exact h.o0
  · rw [List.getElem?_set_ne (by omega)]; exact h.o1
  · rw [List.getElem?_set_self (by omega)]
  · rw [List.getElem?_set_ne (by omega), hc]; exact h.o3
  · rw [List.getElem?_set_ne (by omega)]; exact h.o4
theorem WInv.frz {n0 N : Nat} {tn : AV} {g : FuncId} {gc : List AV} {ty1 ty3 ty4 : Nat} {K : List AObj} {c : List Int} (h : WInv n0 N tn g gc ty1 ty3 ty4 K c) (G : List AObj)
    (htn : ∀ H k, frz H k 3 true tn = tn) (hgc : ∀ H, gc.map (frz H N 2 true) = gc) : WInv n0 N tn g gc ty1 ty3 ty4 (frzH (K ++ G) N 3) c := by
  have hN := h.lt
  have hl := h.len
  have app : ∀ {i : Nat} {o : AObj}, K[i]? = some o → (K ++ G)[i]? = some o := by
    intro i o ho
    rw [List.getElem?_append_left (List.getElem?_eq_some_iff.1 ho).1]; exact ho
  refine ⟨by simp [frzH]; omega, hN, ?_, ?_, ?_, ?_, ?_⟩
  · rw [frzH_of 3 (by omega) (app h.o0)]; simp [htn]
  · rw [frzH_of 3 (by omega) (app h.o1)]; simp [hgc]
  · rw [frzH_of 3 (by omega) (app h.o2)]; simp
  · rw [frzH_of 3 (by omega) (app h.o3)]; simp; omega
  · rw [frzH_of 3 (by omega) (app h.o4)]; simp; omega
def down_19 : AC := (.seq (.ops [.o 51 (.ld 1 false (.t 4)), .o 52 (.fad 1 (.t 8)), .o 53 (.ld 1 false (.t 52)), .m 54 (.t 10), .o 55 (.fad 0 (.t 12)), .o 56 (.ld 1 false (.t 55)), .o 57 (.bin .add (.t 54) (.t 56)), .o 58 (.iad 1 (.t 51) (.t 53)), .on (.st 1 (.t 58) (.t 57))]) (.ops [.o 59 (.ld 1 false (.t 5)), .m 60 (.t 0), .o 61 (.bin .add (.t 60) (.i 1)), .o 62 (.fad 1 (.t 12)), .o 63 (.ld 1 false (.t 62)), .c 64 false (.t 59) [(.t 61), (.t 63)]]))
def down_18 : AC := (.seq (.ops [.o 49 (.iad 2 (.t 45) (.t 47)), .o 50 (.ld 2 true (.t 49)), .o 12 (.new 88 2 (.c (.agg [(.sc (.int .i64 0)), (.sc (.int .i64 0))]))), .on (.st 2 (.t 12) (.t 50))]) down_19)
def down_17 : AC := (.block 1 down_18)
def down_16 : AC := (.seq down_17 (.ops [.o 65 (.bin .add (.t 47) (.i 1)), .m 47 (.t 65)]))
def down_15 : AC := (.seq (.cond (.t 48) .skip (.exit 0)) down_16)
def down_14 : AC := (.seq (.ops [.o 48 (.bin .lss (.t 47) (.t 46))]) down_15)
def down_13 : AC := (.loop down_14)
def down_12 : AC := (.block 0 down_13)
def down_11 : AC := (.seq (.ops [.o 39 (.fad 2 (.t 2)), .o 40 (.ld 1 false (.t 39)), .m 41 (.t 0), .o 42 (.iad 4 (.t 40) (.t 41)), .o 43 (.ld 4 true (.t 42)), .m 44 (.t 1), .c 45 false (.f 52) [(.t 43), (.t 44)], .o 46 (.len (.t 45)), .m 47 (.i 0)]) down_12)
def down_10 : AC := (.seq down_11 (.ops [.o 66 (.ld 1 false (.t 4)), .o 67 (.fad 1 (.t 8)), .o 68 (.ld 1 false (.t 67)), .m 69 (.t 9), .o 70 (.iad 1 (.t 66) (.t 68)), .on (.st 1 (.t 70) (.t 69))]))
def down_9 : AC := (.cond (.t 34) (.ops [.m 35 (.t 9), .o 36 (.fad 2 (.t 8)), .o 37 (.ld 1 false (.t 36)), .o 38 (.bin .mul (.t 35) (.t 37)), .m 10 (.t 38)]) .skip)
def down_8 : AC := (.seq (.ops [.o 32 (.fad 0 (.t 8)), .o 33 (.ld 1 false (.t 32)), .o 34 (.bin .eql (.t 33) (.i 4))]) down_9)
def down_7 : AC := (.seq down_8 down_10)
def down_6 : AC := (.seq (.ops [.m 10 (.i 0)]) down_7)
def down_5 : AC := (.seq (.ops [.o 27 (.ld 1 false (.t 4)), .o 28 (.fad 1 (.t 8)), .o 29 (.ld 1 false (.t 28)), .o 30 (.iad 1 (.t 27) (.t 29)), .o 31 (.ld 1 false (.t 30)), .m 9 (.t 31)]) down_6)
def down_4 : AC := (.seq (.ops [.o 22 (.fad 1 (.t 2)), .o 23 (.ld 1 false (.t 22)), .m 24 (.t 0), .o 25 (.iad 3 (.t 23) (.t 24)), .o 26 (.ld 3 true (.t 25)), .o 8 (.new 43 3 (.c (.agg [(.sc (.int .i64 0)), (.sc (.int .i64 0)), (.sc (.int .i64 0))]))), .on (.st 3 (.t 8) (.t 26))]) down_5)
def down_3 : AC := (.seq (.ops [.o 18 (.ld 1 false (.t 3)), .o 19 (.ld 1 false (.t 4)), .m 20 (.t 1), .c 21 false (.t 18) [(.t 19), (.t 20)]]) .ret)
def down_2 : AC := (.cond (.t 17) down_3 .skip)
def down_1 : AC := (.seq (.ops [.m 13 (.t 0), .o 14 (.fad 2 (.t 2)), .o 15 (.ld 1 false (.t 14)), .o 16 (.len (.t 15)), .o 17 (.bin .eql (.t 13) (.t 16))]) down_2)
def down_ac : AC := (.seq down_1 down_4)
theorem down_call {args : List AV} {H : List AObj} {R : AV → List AObj → Prop} (h : AWp Try.prog [] H.length down_ac (bodyQ H.length [] R) (args ++ List.replicate (71 - args.length) .und) H) : ACalls Try.prog 76 args H R :=
  ACalls.of_fn Try.func76 rfl (by kernel_rfl) rfl Try.ntmps76 h
set_option maxHeartbeats 4000000 in
theorem down_spec {σ : Type} {n0 N : Nat} {g : FuncId} {gc : List AV} {ty1 ty3 ty4 : Nat} {P : List AObj → σ → Prop} {step : σ → List Int → Nat → σ} {V : σ → List Int → Nat → Prop}
    {sh f l v : AV} {S Vs : List Int} {F : List (Int × Int × Int)} {xs : List LvA} (hS : ISl sh S) (hF : Sp f F) (hl : Ls l xs) (hV : ISl v Vs) (hfl : F.length = xs.length)
    (hPset : ∀ K s o, P K s → P (K.set (n0 + 2) o) s) (hPfrz : ∀ K s G, K.length = N → P K s → P (frzH (K ++ G) N 3) s) (hgc : ∀ H, gc.map (frz H N 2 true) = gc)
    (hE : ∀ K s c p, WInv n0 N (.agg [sh, f, l, v]) g gc ty1 ty3 ty4 K c → P K s → V s c p → ACalls Try.prog g ([.slc (n0 + 2) c.length 0 c.length none, I p] ++ gc) K fun r K' => r = .tup [] ∧ WInv n0 N (.agg [sh, f, l, v]) g gc ty1 ty3 ty4 K' c ∧ P K' (step s c p)) :
    ∀ (j i : Nat), i + j = xs.length → ∀ K s c p, WInv n0 N (.agg [sh, f, l, v]) g gc ty1 ty3 ty4 K c → P K s → GoodS V step (xs.drop i) (F.drop i) c p s →
      ACalls Try.prog 76 [I i, I p, .ptr n0 1 0 0, .ptr (n0 + 1) 1 0 0, .ptr (n0 + 3) 1 0 0, .ptr (n0 + 4) 1 0 0] K fun r K' => r = .tup [] ∧ WInv n0 N (.agg [sh, f, l, v]) g gc ty1 ty3 ty4 K' c ∧ P K' (walkF step (xs.drop i) (F.drop i) c p s) := by
  obtain ⟨⟨nl, cl, sz, rfl, hs⟩, hlen, hx⟩ := hl
  obtain ⟨⟨nl1, c01, sz1, rfl, hs1⟩, hlen1, hx1⟩ := hS
  obtain ⟨⟨nl2, c02, sz2, rfl, hs2⟩, hlen2, hx2⟩ := hF
  obtain ⟨⟨nl3, c3, sz3, rfl, hs3⟩, hlen3, hx3⟩ := hV
  have htn : ∀ H k, frz H k 3 true (AV.agg [.imm nl1 c01 sz1 (S.map I), .imm nl2 c02 sz2 (F.map specV), .imm nl cl sz (xs.map lvV), .imm nl3 c3 sz3 (Vs.map I)]) = .agg [.imm nl1 c01 sz1 (S.map I), .imm nl2 c02 sz2 (F.map specV), .imm nl cl sz (xs.map lvV), .imm nl3 c3 sz3 (Vs.map I)] := fun H k => by simp
  intro j
  induction j with
  | zero =>
    intro i hij K s c p hw hP hg
    have hi : i = xs.length := by omega
    subst hi
    rw [List.drop_eq_nil_of_le (Nat.le_refl _)] at hg ⊢
    simp only [GoodS] at hg
    obtain ⟨hl, hN, o0, o1, o2, o3, o4⟩ := id hw
    apply down_call
    repeat first | refine AWp.seq ?_ | refine AWp.block ?_
    refine AWp.ops ?_
    simp [o0]
    refine AWp.cond (b := true) (by simp) (fun _ => ?_) (fun h => by cases h)
    repeat first | refine AWp.seq ?_ | refine AWp.block ?_
    refine AWp.ops ?_
    simp [o1, o3]
    refine (hE K s c p hw hP hg).mono ?_
    rintro r K' ⟨rfl, hw', hP'⟩
    simp
    refine AWp.ret ?_
    simp
    exact retOk.of rfl ⟨rfl, hw', by simpa [walkF] using hP'⟩
  | succ j ih =>
    intro i hij K s c p hw hP hg
    have hi : i < xs.length := by omega
    have hiF : i < F.length := by omega
    have hne : ¬ i = xs.length := by omega
    obtain ⟨hl, hN, o0, o1, o2, o3, o4⟩ := id hw
    have hsz4 := sz4_of hs hi
    have hsz3 := sz3_of hs2 hiF
    subst hsz4 hsz3
    have hgs := lv_get hi
    have hgF := spec_get hiF
    have hok := hx xs[i] (List.getElem_mem hi)
    rw [List.drop_eq_getElem_cons hi, List.drop_eq_getElem_cons hiF] at hg ⊢
    simp only [GoodS] at hg
    simp only [walkF]
    generalize xs[i] = x at hgs hok hg
    generalize F[i] = sp at hgF hg
    obtain ⟨lv, px, qx⟩ := x
    obtain ⟨k, mo, z⟩ := sp
    simp only at hgs hok hg hgF
    obtain ⟨⟨⟨hm0, hm1⟩, na, hna, hchk, hpn⟩, hkids⟩ := hg
    obtain ⟨m, rfl⟩ : ∃ m : Nat, mo = m := ⟨mo.toNat, by omega⟩
    rw [Int.toNat_natCast] at hm1
    have hcl := hw.len
    obtain ⟨was, hwas⟩ : ∃ was, was = c[m] := ⟨_, rfl⟩
    have hwasD : c.getD m 0 = was := by rw [hwas]; simp [hm1]
    obtain ⟨fr0, hfr0⟩ : ∃ fr0, fr0 = fromF (k, (m : Int), z) c := ⟨_, rfl⟩
    have hfr : fr0 = if k = 4 then w64 (was * z) else 0 := by rw [hfr0]; simp only [fromF, Int.toNat_natCast, hwasD]
    obtain ⟨SO, hSO⟩ : ∃ SO : AObj, SO = ⟨43, 3, [.agg [I k, I m, I z]], true, none⟩ := ⟨_, rfl⟩
    obtain ⟨K1, hK1⟩ : ∃ K1, K1 = frzH (K ++ [SO]) N 3 := ⟨_, rfl⟩
    have hw1 : WInv n0 N (.agg [.imm nl1 c01 sz1 (S.map I), .imm nl2 c02 3 (F.map specV), .imm nl cl 4 (xs.map lvV), .imm nl3 c3 sz3 (Vs.map I)]) g gc ty1 ty3 ty4 K1 c := by rw [hK1]; exact hw.frz _ htn hgc
    have hP1 : P K1 s := by rw [hK1]; exact hPfrz _ _ _ hcl hP
    have gK : ∀ o, (K ++ [o])[K.length]? = some o := fun o => by simp
    have sK : ∀ o o', (K ++ [o]).set K.length o' = K ++ [o'] := fun o o' => by simp
    apply down_call
    rw [hcl]
    rw [hcl] at gK sK
    repeat first | refine AWp.seq ?_ | refine AWp.block ?_
    refine AWp.ops ?_
    simp [o0]
    have hneI : ¬ (i : Int) = xs.length := by omega
    have l0 : n0 < N := by omega
    have l1 : n0 + 1 < N := by omega
    have l2 : n0 + 2 < N := by omega
    have l3 : n0 + 3 < N := by omega
    have l4 : n0 + 4 < N := by omega
    refine AWp.cond (b := false) (by simp [hneI]) (fun h => by cases h) (fun _ => ?_)
    refine AWp.skip ?_
    simp only [qSeq]
    refine AWp.cut [I i, I p, .ptr n0 1 0 0, .ptr (n0 + 1) 1 0 0, .ptr (n0 + 3) 1 0 0, .ptr (n0 + 4) 1 0 0, .und, .und, .ipt (.agg [I k, I m, I z]) 0, .und, .und, .und, .und, .und, .und, .und, .und, .und, .und, .und, .und, .und, .und, .und, .und, .und, .und, .und, .und, .und, .und, .und, .und, .und, .und, .und, .und, .und, .und, .und, .und, .und, .und, .und, .und, .und, .und, .und, .und, .und, .und, .und, .und, .und, .und, .und, .und, .und, .und, .und, .und, .und, .und, .und, .und, .und, .und, .und, .und, .und, .und] K1 ?_ ?_
    ·
      repeat first | refine AWp.seq ?_ | refine AWp.block ?_
      refine AWp.ops ?_
      simp [o0, hgF, hcl, gK, sK]
      exact ((Weak.slots [0, 1, 2, 3, 4, 5, 8]).trans (Weak.freeze N 3 (Nat.le_refl _))).to (by simp [l0, l1, l3, l4, gK]) (by rw [hK1, hSO])
    obtain ⟨hl1, -, p0, p1, p2, p3, p4⟩ := id hw1
    clear hK1 hw hP o0 o1 o2 o3 o4 gK sK hcl hl
    obtain ⟨K2, hK2⟩ : ∃ K2 : Nat, K2 = 0 := ⟨_, rfl⟩
    repeat first | refine AWp.seq ?_ | refine AWp.block ?_
    refine AWp.ops ?_
    simp [p3, p2, hm1, ← hwas]
    repeat first | refine AWp.seq ?_ | refine AWp.block ?_
    refine AWp.ops ?_
    simp
    refine AWp.cut [I i, I p, .ptr n0 1 0 0, .ptr (n0 + 1) 1 0 0, .ptr (n0 + 3) 1 0 0, .ptr (n0 + 4) 1 0 0, .und, .und, .ipt (.agg [I k, I m, I z]) 0, I was, I fr0, .und, .und, .und, .und, .und, .und, .und, .und, .und, .und, .und, .und, .und, .und, .und, .und, .und, .und, .und, .und, .und, .und, .und, .und, .und, .und, .und, .und, .und, .und, .und, .und, .und, .und, .und, .und, .und, .und, .und, .und, .und, .und, .und, .und, .und, .und, .und, .und, .und, .und, .und, .und, .und, .und, .und, .und, .und, .und, .und, .und] K1 ?_ ?_
    ·
      repeat first | refine AWp.seq ?_ | refine AWp.block ?_
      refine AWp.ops ?_
      simp
      by_cases k4 : k = 4
      · rw [if_pos k4] at hfr
        refine AWp.cond (b := true) (by simp [k4]) (fun _ => ?_) (fun h => by cases h)
        repeat first | refine AWp.seq ?_ | refine AWp.block ?_
        refine AWp.ops ?_
        simp
        exact (Weak.slots [0, 1, 2, 3, 4, 5, 8, 9, 10]).to (by simp [hfr]) rfl
      · rw [if_neg k4] at hfr
        refine AWp.cond (b := false) (by simp [k4]) (fun h => by cases h) (fun _ => ?_)
        refine AWp.skip ?_
        simp only [qSeq]
        exact (Weak.slots [0, 1, 2, 3, 4, 5, 8, 9, 10]).to (by simp [hfr]) rfl
    obtain ⟨Y, hY⟩ : ∃ Y, Y = kidsF lv p := ⟨_, rfl⟩
    rw [← hY] at hkids ⊢
    have hok' := hok
    obtain ⟨⟨⟨nlp, cpp, szp, rfl, _⟩, _⟩, ⟨⟨nlq, cqq, szq, rfl, _⟩, _⟩, _⟩ := hok'
    refine AWp.cutE (σ := List AObj × List Int) (fun q => ∃ w : Int, q.2 = c.set m w ∧ WInv n0 N (.agg [.imm nl1 c01 sz1 (S.map I), .imm nl2 c02 3 (F.map specV), .imm nl cl 4 (xs.map lvV), .imm nl3 c3 sz3 (Vs.map I)]) g gc ty1 ty3 ty4 q.1 q.2 ∧ P q.1 (Y.foldl (fun s y => walkF step (xs.drop (i + 1)) (F.drop (i + 1)) (stepC (k, (m : Int), z) c y.1) y.2.toNat s) s))
      (fun _ => [.und, .und, .und, .und, .ptr (n0 + 3) 1 0 0, .und, .und, .und, .ipt (.agg [I k, I m, I z]) 0, I was, .und, .und, .und, .und, .und, .und, .und, .und, .und, .und, .und, .und, .und, .und, .und, .und, .und, .und, .und, .und, .und, .und, .und, .und, .und, .und, .und, .und, .und, .und, .und, .und, .und, .und, .und, .und, .und, .und, .und, .und, .und, .und, .und, .und, .und, .und, .und, .und, .und, .und, .und, .und, .und, .und, .und, .und, .und, .und, .und, .und, .und]) (fun q => q.1) ?_ ?_
    ·
      repeat first | refine AWp.seq ?_ | refine AWp.block ?_
      refine AWp.ops ?_
      simp [p0, hgs]
      refine ((kids_spec hok hna hchk hpn).pure (by simp) (by rintro r ⟨⟨_, _, _, rfl, _⟩, _⟩; simp) _).mono ?_
      rintro r H' ⟨rfl, hCh⟩
      rw [← hY] at hCh
      obtain ⟨⟨nly, cy, szy, rfl, hsy⟩, hyl⟩ := hCh
      simp
      obtain ⟨J, hJ⟩ : ∃ J : Nat → List AV → List AObj → Prop, J = fun a fr H => a ≤ Y.length ∧ (∃ (w : Int) (c' : List Int), c' = c.set m w ∧ WInv n0 N (.agg [.imm nl1 c01 sz1 (S.map I), .imm nl2 c02 3 (F.map specV), .imm nl cl 4 (xs.map lvV), .imm nl3 c3 sz3 (Vs.map I)]) g gc ty1 ty3 ty4 H c' ∧
          P H ((Y.take a).foldl (fun s y => walkF step (xs.drop (i + 1)) (F.drop (i + 1)) (stepC (k, (m : Int), z) c y.1) y.2.toNat s) s)) ∧
          fr = [I i, .und, .ptr n0 1 0 0, .ptr (n0 + 1) 1 0 0, .ptr (n0 + 3) 1 0 0, .ptr (n0 + 4) 1 0 0, .und, .und, .ipt (.agg [I k, I m, I z]) 0, I was, I fr0, .und, .und, .und, .und, .und, .und, .und, .und, .und, .und, .und, .und, .und, .und, .und, .und, .und, .und, .und, .und, .und, .und, .und, .und, .und, .und, .und, .und, .und, .und, .und, .und, .und, .und, .imm nly cy szy (Y.map chV), I Y.length, I a, .und, .und, .und, .und, .und, .und, .und, .und, .und, .und, .und, .und, .und, .und, .und, .und, .und, .und, .und, .und, .und, .und, .und] := ⟨_, rfl⟩
      refine AWp.block (AWp.loop J (fun a => Y.length - a) 0 (Weak.slots [0, 2, 3, 4, 5, 8, 9, 10, 45, 46, 47]) (by
        rw [hJ]
        exact ⟨by omega, ⟨was, c, by rw [hwas]; simp, hw1, by simpa using hP1⟩, by simp⟩) ?_)
      intro a fr H hI
      rw [hJ] at hI
      obtain ⟨ha, ⟨w, c', hc', hwa, hPa⟩, rfl⟩ := hI
      have hcl' : c'.length = c.length := by rw [hc']; simp
      repeat first | refine AWp.seq ?_ | refine AWp.block ?_
      refine AWp.ops ?_
      simp
      refine AWp.seq (AWp.cond (b := decide (a < Y.length)) (by simp) ?_ ?_)
      · intro hb
        have hb : a < Y.length := by simpa using hb
        have hszy := sz2_of hsy hb
        subst hszy
        have hgY := ch_get hb
        obtain ⟨hy0, hgood⟩ := hkids a hb
        have htk : (Y.take (a + 1)).foldl (fun s y => walkF step (xs.drop (i + 1)) (F.drop (i + 1)) (stepC (k, (m : Int), z) c y.1) y.2.toNat s) s = walkF step (xs.drop (i + 1)) (F.drop (i + 1)) (stepC (k, (m : Int), z) c Y[a].1) Y[a].2.toNat ((Y.take a).foldl (fun s y => walkF step (xs.drop (i + 1)) (F.drop (i + 1)) (stepC (k, (m : Int), z) c y.1) y.2.toNat s) s) := by
          rw [List.take_succ_eq_append_getElem hb, List.foldl_append]; rfl
        generalize Y[a] = y at hgY hy0 hgood htk
        obtain ⟨at_, b⟩ := y
        simp only at hgY hy0 hgood htk
        obtain ⟨n, rfl⟩ : ∃ n : Nat, b = n := ⟨b.toNat, by omega⟩
        rw [Int.toNat_natCast] at hgood htk
        obtain ⟨s1, hs1'⟩ : ∃ s1, s1 = (Y.take a).foldl (fun s y => walkF step (xs.drop (i + 1)) (F.drop (i + 1)) (stepC (k, (m : Int), z) c y.1) y.2.toNat s) s := ⟨_, rfl⟩
        rw [← hs1'] at hPa htk hgood
        have hstep : stepC (k, (m : Int), z) c at_ = c.set m (w64 (fr0 + at_)) := by rw [stepC, ← hfr0, Int.toNat_natCast]
        obtain ⟨cN, hcN⟩ : ∃ cN, cN = stepC (k, (m : Int), z) c at_ := ⟨_, rfl⟩
        have hcNl : cN.length = c.length := by rw [hcN, hstep]; simp
        rw [← hcN] at hgood htk
        have hset : c'.set m (w64 (fr0 + at_)) = cN := by rw [hcN, hstep, hc', List.set_set]
        obtain ⟨CO, hCO⟩ : ∃ CO : AObj, CO = ⟨88, 2, [.agg [I at_, I n]], true, none⟩ := ⟨_, rfl⟩
        obtain ⟨K3, hK3⟩ : ∃ K3, K3 = frzH (H ++ [CO]) N 3 := ⟨_, rfl⟩
        have hHl := hwa.len
        have hw3 : WInv n0 N (.agg [.imm nl1 c01 sz1 (S.map I), .imm nl2 c02 3 (F.map specV), .imm nl cl 4 (xs.map lvV), .imm nl3 c3 sz3 (Vs.map I)]) g gc ty1 ty3 ty4 K3 c' := by rw [hK3]; exact hwa.frz _ htn hgc
        have hP3 : P K3 s1 := by rw [hK3]; exact hPfrz _ _ _ hHl hPa
        have gK : ∀ o, (H ++ [o])[N]? = some o := fun o => by rw [← hHl]; simp
        have sK : ∀ o o', (H ++ [o]).set N o' = H ++ [o'] := fun o o' => by rw [← hHl]; simp
        refine AWp.skip ?_
        simp only [qSeq]
        refine AWp.seq (AWp.block (AWp.cut [I i, .und, .ptr n0 1 0 0, .ptr (n0 + 1) 1 0 0, .ptr (n0 + 3) 1 0 0, .ptr (n0 + 4) 1 0 0, .und, .und, .ipt (.agg [I k, I m, I z]) 0, I was, I fr0, .und, .ipt (.agg [I at_, I n]) 0, .und, .und, .und, .und, .und, .und, .und, .und, .und, .und, .und, .und, .und, .und, .und, .und, .und, .und, .und, .und, .und, .und, .und, .und, .und, .und, .und, .und, .und, .und, .und, .und, .imm nly cy 2 (Y.map chV), I Y.length, I a, .und, .und, .und, .und, .und, .und, .und, .und, .und, .und, .und, .und, .und, .und, .und, .und, .und, .und, .und, .und, .und, .und, .und] K3 ?_ ?_))
        ·
          repeat first | refine AWp.seq ?_ | refine AWp.block ?_
          refine AWp.ops ?_
          simp [hgY, hHl, gK, sK]
          exact ((Weak.slots [0, 2, 3, 4, 5, 8, 9, 10, 12, 45, 46, 47]).trans (Weak.freeze N 3 (Nat.le_refl _))).to (by simp [l0, l1, l3, l4, gK]) (by rw [hK3, hCO])
        obtain ⟨-, -, q0, q1, q2, q3, q4⟩ := id hw3
        have hm2 : m < c'.length := by omega
        have hsetI : (c'.map I).set m (I (IntKind.i64.wrap (fr0 + at_))) = cN.map I := by rw [← hset, List.map_set]
        have q4' : ∀ o, (K3.set (n0 + 2) o)[n0 + 4]? = K3[n0 + 4]? := fun o => List.getElem?_set_ne (by omega)
        have hwi := wrap_i64 (n := (i : Int) + 1) (by omega) (by omega)
        have hwa1 := wrap_i64 (n := (a : Int) + 1) (by omega) (by omega)
        have hwN := hw3.set (c' := cN) (by omega)
        have hPN := hPset K3 s1 (intOb cN) hP3
        repeat first | refine AWp.seq ?_ | refine AWp.block ?_
        refine AWp.ops ?_
        simp [q3, q2, hm2, hsetI]
        repeat first | refine AWp.seq ?_ | refine AWp.block ?_
        refine AWp.ops ?_
        simp [q4', q4, hwi]
        refine (ih (i + 1) (by omega) (K3.set (n0 + 2) (intOb cN)) s1 cN n hwN hPN hgood).mono ?_
        rintro r K5 ⟨rfl, hw5, hP5⟩
        simp
        repeat first | refine AWp.seq ?_ | refine AWp.block ?_
        refine AWp.ops ?_
        simp [hwa1]
        refine ⟨a + 1, _, _, Weak.slots [0, 2, 3, 4, 5, 8, 9, 10, 45, 46, 47], ?_, by omega⟩
        rw [hJ]
        refine ⟨by omega, ⟨w64 (fr0 + at_), cN, by rw [hcN, hstep], hw5, ?_⟩, by simp [hwa1]⟩
        rw [htk]
        exact hP5
      · intro hb
        have hb : ¬ a < Y.length := by simpa using hb
        rw [List.take_of_length_le (by omega)] at hPa
        refine AWp.exit ?_
        simp [qSeq, qBlock]
        exact ⟨H, ⟨c', ⟨w, hc'⟩, hwa, hPa⟩, (Weak.slots [4, 8, 9]).to (by simp) rfl⟩
    rintro ⟨K4, c4⟩ ⟨w, rfl, hw4, hP4⟩
    obtain ⟨-, -, q0, q1, q2, q3, q4⟩ := id hw4
    have hm4 : m < (c.set m w).length := by simpa using hm1
    have hback : (c.set m w).set m was = c := by rw [List.set_set, hwas]; simp
    have hsetB : (c.map I).set m (I was) = c.map I := by rw [← List.map_set, hwas]; simp
    repeat first | refine AWp.seq ?_ | refine AWp.block ?_
    refine AWp.ops ?_
    simp [q3, q2, hm1, hsetB]
    refine retOk.of rfl ⟨rfl, ?_, hPset _ _ _ hP4⟩
    exact hw4.set (by simp)
def walk_3 : AC := (.seq (.ops [.o 10 (.mkF (.func 76) [] [(.t 2), (.t 3), (.t 4), (.t 5)]), .on (.st 1 (.t 5) (.t 10))]) (.ops [.o 11 (.ld 1 false (.t 5)), .c 12 false (.t 11) [(.i 0), (.i 0)]]))
def walk_2 : AC := (.seq (.ops [.o 5 (.new 84 1 (.c (.sc .nilFunc)))]) walk_3)
def walk_1 : AC := (.seq (.ops [.o 6 (.fad 0 (.t 2)), .o 7 (.ld 1 false (.t 6)), .o 8 (.len (.t 7)), .o 9 (.mkS 3 1 8 (.sc (.int .i64 0)) (.t 8) (.t 8)), .o 4 (.new 22 1 .z), .on (.st 1 (.t 4) (.t 9))]) walk_2)
def walk_ac : AC := (.seq (.ops [.o 2 (.new 27 4 (.t 0)), .o 3 (.new 83 1 (.t 1))]) walk_1)
theorem walk_call {args : List AV} {H : List AObj} {R : AV → List AObj → Prop} (h : AWp Try.prog [] H.length walk_ac (bodyQ H.length [] R) (args ++ List.replicate (13 - args.length) .und) H) : ACalls Try.prog 49 args H R :=
  ACalls.of_fn Try.func49 rfl (by kernel_rfl) rfl Try.ntmps49 h
set_option maxHeartbeats 2000000 in
theorem walk_spec {σ : Type} {n0 : Nat} {g : FuncId} {gc : List AV} {P : List AObj → σ → Prop} {step : σ → List Int → Nat → σ} {V : σ → List Int → Nat → Prop}
    {sh f l v : AV} {S Vs : List Int} {F : List (Int × Int × Int)} {xs : List LvA} (hS : ISl sh S) (hF : Sp f F) (hl : Ls l xs) (hV : ISl v Vs) (hfl : F.length = xs.length) (hS4 : S.length ≤ 1000)
    (hPset : ∀ K s o, P K s → P (K.set (n0 + 2) o) s) (hPfrz : ∀ K s G, K.length = n0 + 5 → P K s → P (frzH (K ++ G) (n0 + 5) 3) s) (hgc : ∀ H, gc.map (frz H (n0 + 5) 2 true) = gc)
    (hE : ∀ ty1 ty3 ty4 K s c p, WInv n0 (n0 + 5) (.agg [sh, f, l, v]) g gc ty1 ty3 ty4 K c → P K s → V s c p → ACalls Try.prog g ([.slc (n0 + 2) c.length 0 c.length none, I p] ++ gc) K fun r K' => r = .tup [] ∧ WInv n0 (n0 + 5) (.agg [sh, f, l, v]) g gc ty1 ty3 ty4 K' c ∧ P K' (step s c p))
    (hPapp : ∀ K s G, K.length = n0 → P K s → P (K ++ G) s) (hPend : ∀ K s, K.length = n0 + 5 → P K s → P (frzH K n0 3) s)
    {K0 : List AObj} {s : σ} (hK0 : K0.length = n0) (hP : P K0 s) (hg : GoodS V step xs F (List.replicate S.length 0) 0 s) :
    ACalls Try.prog 49 [.agg [sh, f, l, v], .fn (.func g) [] gc] K0 fun r K' => r = .tup [] ∧ K'.length = n0 ∧ P K' (walkF step xs F (List.replicate S.length 0) 0 s) := by
  have hS' := hS
  have hF' := hF
  have hl' := hl
  have hV' := hV
  obtain ⟨⟨nl, cl, sz, rfl, hs⟩, hlen, hx⟩ := hl
  obtain ⟨⟨nl1, c01, sz1, rfl, hs1⟩, hlen1, hx1⟩ := hS
  obtain ⟨⟨nl2, c02, sz2, rfl, hs2⟩, hlen2, hx2⟩ := hF
  obtain ⟨⟨nl3, c3, sz3, rfl, hs3⟩, hlen3, hx3⟩ := hV
  have getR : ∀ G j, (K0 ++ G)[n0 + j]? = G[j]? := fun G j => by rw [List.getElem?_append_right (by omega)]; congr 1; omega
  have getR0 : ∀ G, (K0 ++ G)[n0]? = G[0]? := fun G => getR G 0
  have setR : ∀ G j o, (K0 ++ G).set (n0 + j) o = K0 ++ G.set j o := fun G j o => by rw [List.set_append_right _ _ (by omega)]; congr 2; omega
  have b1 : S.length * 8 ≤ 281474976710656 := by omega
  have b2 : S.length ≤ 9223372036854775807 := by omega
  have b1' : (S.length : Int) * 8 ≤ 281474976710656 := by omega
  have b2' : (S.length : Int) ≤ 9223372036854775807 := by omega
  have hrep : List.replicate S.length (AV.sc (Value.int IntKind.i64 0)) = (List.replicate S.length (0 : Int)).map I := by simp
  apply walk_call
  rw [hK0]
  repeat first | refine AWp.seq ?_ | refine AWp.block ?_
  refine AWp.ops ?_
  simp [hK0]
  repeat first | refine AWp.seq ?_ | refine AWp.block ?_
  refine AWp.ops ?_
  simp [hK0, getR, getR0, setR, b1, b2, b1', b2']
  repeat first | refine AWp.seq ?_ | refine AWp.block ?_
  refine AWp.ops ?_
  simp [hK0]
  repeat first | refine AWp.seq ?_ | refine AWp.block ?_
  refine AWp.ops ?_
  simp [getR, getR0, setR]
  repeat first | refine AWp.seq ?_ | refine AWp.block ?_
  refine AWp.ops ?_
  simp [getR, getR0, setR]
  rw [hrep]
  have hw : ∀ K, K = K0 ++ [tnO (.agg [.imm nl1 c01 sz1 (S.map I), .imm nl2 c02 sz2 (F.map specV), .imm nl cl sz (xs.map lvV), .imm nl3 c3 sz3 (Vs.map I)]), ⟨83, 1, [.fn (.func g) [] gc], true, none⟩, intOb (List.replicate S.length 0), ⟨22, 1, [.slc (n0 + 2) S.length 0 S.length none], true, none⟩,
      ⟨84, 1, [.fn (.func 76) [] [.ptr n0 1 0 0, .ptr (n0 + 1) 1 0 0, .ptr (n0 + 3) 1 0 0, .ptr (n0 + 4) 1 0 0]], true, none⟩] →
      WInv n0 (n0 + 5) (.agg [.imm nl1 c01 sz1 (S.map I), .imm nl2 c02 sz2 (F.map specV), .imm nl cl sz (xs.map lvV), .imm nl3 c3 sz3 (Vs.map I)]) g gc 83 22 84 K (List.replicate S.length 0) := by
    rintro K rfl
    exact ⟨by simp [hK0], rfl, by rw [getR0]; rfl, by rw [getR]; rfl, by rw [getR]; rfl, by rw [getR]; simp, by rw [getR]; rfl⟩
  have hw := hw _ rfl
  have hd := down_spec hS' hF' hl' hV' hfl hPset hPfrz hgc (hE 83 22 84) xs.length 0 (by omega) _ s _ 0 hw (hPapp _ _ _ hK0 hP) hg
  simp at hd
  refine hd.mono ?_
  rintro r K' ⟨rfl, hw', hP'⟩
  simp
  have hl' := hw'.len
  exact ⟨[], .tup [], frzH K' n0 3, rfl, by simpa [tupV] using Weak.freeze (nb := n0) (fr := [AV.tup []]) (H := K') n0 3 (Nat.le_refl _), rfl, by simp [frzH]; omega, hPend _ _ hl' hP'⟩
end Go.Fw
namespace Go.Fw
open Go Go.RowKit Go.Proofs
set_option maxRecDepth 100000
set_option linter.unusedSimpArgs false
set_option linter.unusedVariables false
def atGo : List Int → List Int → Int → Int × Int
  | s :: r, c :: q, n => if c < 0 ∨ s ≤ c then (0, 3) else atGo r q (IntKind.i64.wrap (IntKind.i64.wrap (n * s) + c))
  | _, _, n => (n, 0)
def atF (xs cs : List Int) : Int × Int :=
  if (cells xs).2 ≠ 0 then (0, (cells xs).2) else if cs.length ≠ xs.length then (0, 3) else atGo xs cs 0
def At_22 : AC := (.seq (.ops [.m 53 (.t 8), .m 4 (.t 53), .m 5 (.i 0)]) .ret)
def At_21 : AC := (.cond (.t 43) (.seq (.ops [.m 4 (.i 0), .m 5 (.i 3)]) .ret) .skip)
def At_20 : AC := (.seq (.ops [.m 31 (.t 1), .m 32 (.t 9), .o 33 (.iad 1 (.t 31) (.t 32)), .o 34 (.ld 1 false (.t 33)), .o 35 (.bin .lss (.t 34) (.i 0)), .m 36 (.t 35), .mg 37 36 false (.t 1), .mg 38 36 false (.t 9), .og 39 36 false (.iad 1 (.t 37) (.t 38)), .og 40 36 false (.ld 1 false (.t 39)), .mg 41 36 false (.t 10), .og 42 36 false (.bin .geq (.t 40) (.t 41)), .o 43 (.pick (.t 36) (.b true) (.t 42))]) At_21)
def At_19 : AC := (.seq At_20 (.ops [.m 44 (.t 8), .m 45 (.t 10), .o 46 (.bin .mul (.t 44) (.t 45)), .m 47 (.t 1), .m 48 (.t 9), .o 49 (.iad 1 (.t 47) (.t 48)), .o 50 (.ld 1 false (.t 49)), .o 51 (.bin .add (.t 46) (.t 50)), .m 8 (.t 51)]))
def At_18 : AC := (.seq (.ops [.m 28 (.t 26), .o 29 (.iad 1 (.t 24) (.t 26)), .o 30 (.ld 1 false (.t 29)), .m 9 (.t 28), .m 10 (.t 30)]) At_19)
def At_17 : AC := (.block 1 At_18)
def At_16 : AC := (.seq At_17 (.ops [.o 52 (.bin .add (.t 26) (.i 1)), .m 26 (.t 52)]))
def At_15 : AC := (.seq (.cond (.t 27) .skip (.exit 0)) At_16)
def At_14 : AC := (.seq (.ops [.o 27 (.bin .lss (.t 26) (.t 25))]) At_15)
def At_13 : AC := (.loop At_14)
def At_12 : AC := (.block 0 At_13)
def At_11 : AC := (.seq (.ops [.m 24 (.t 0), .o 25 (.len (.t 24)), .m 26 (.i 0)]) At_12)
def At_10 : AC := (.seq At_11 At_22)
def At_9 : AC := (.seq (.ops [.m 8 (.i 0)]) At_10)
def At_8 : AC := (.cond (.t 23) (.seq (.ops [.m 4 (.i 0), .m 5 (.i 3)]) .ret) .skip)
def At_7 : AC := (.seq (.ops [.m 19 (.t 1), .o 20 (.len (.t 19)), .m 21 (.t 0), .o 22 (.len (.t 21)), .o 23 (.bin .neq (.t 20) (.t 22))]) At_8)
def At_6 : AC := (.seq At_7 At_9)
def At_5 : AC := (.seq (.ops [.m 18 (.t 7), .m 4 (.i 0), .m 5 (.t 18)]) .ret)
def At_4 : AC := (.cond (.t 17) At_5 .skip)
def At_3 : AC := (.seq (.ops [.m 16 (.t 7), .o 17 (.bin .neq (.t 16) (.i 0))]) At_4)
def At_2 : AC := (.seq (.ops [.m 12 (.t 0), .c 13 false (.f 19) [(.t 12)], .m 11 (.t 13), .o 14 (.ext (.t 11) 0), .o 15 (.ext (.t 11) 1), .m 6 (.t 14), .m 7 (.t 15)]) At_3)
def At_1 : AC := (.seq At_2 At_6)
def At_ac : AC := (.seq (.ops [.m 4 (.i 0), .m 5 (.i 0)]) At_1)
theorem At_call {args : List AV} {H : List AObj} {R : AV → List AObj → Prop} (h : AWp Try.prog [] H.length At_ac (bodyQ H.length [(.t 4), (.t 5)] R) (args ++ List.replicate (54 - args.length) .und) H) : ACalls Try.prog 21 args H R :=
  ACalls.of_fn Try.func21 rfl (by kernel_rfl) rfl Try.ntmps21 h
theorem At_spec {a b : AV} {xs cs : List Int} (ha : ISl a xs) (hb : ISl b cs) : ACalls Try.prog 21 [a, b] [] fun r H' => H' = [] ∧ r = .tup [I (atF xs cs).1, I (atF xs cs).2] := by
  have ha' := ha
  obtain ⟨⟨nl, c, sz, rfl, hs⟩, hlen, hx⟩ := ha
  obtain ⟨⟨nl', c', sz', rfl, hs'⟩, hlen', hx'⟩ := hb
  apply At_call
  repeat first | refine AWp.seq ?_ | refine AWp.block ?_
  refine AWp.ops ?_
  simp
  refine AWp.seq (AWp.seq (AWp.ops ?_))
  simp
  refine (Cells_spec ha').mono ?_
  rintro r H' ⟨rfl, rfl⟩
  simp
  repeat first | refine AWp.seq ?_ | refine AWp.block ?_
  refine AWp.ops ?_
  simp
  refine AWp.cond (b := (cells xs).2 != 0) (by simp) ?_ ?_
  · intro h
    repeat first | refine AWp.seq ?_ | refine AWp.block ?_
    refine AWp.ops ?_
    simp
    refine AWp.ret ?_
    simp
    refine retOk.of rfl ⟨rfl, ?_⟩
    have h : (cells xs).2 ≠ 0 := by simpa using h
    simp [atF, h]
  intro h
  have h : (cells xs).2 = 0 := by simpa using h
  refine AWp.skip ?_
  simp only [qSeq]
  refine AWp.seq (AWp.seq (AWp.ops ?_))
  simp
  refine AWp.cond (b := (cs.length : Int) != xs.length) (by simp) ?_ ?_
  · intro hl
    repeat first | refine AWp.seq ?_ | refine AWp.block ?_
    refine AWp.ops ?_
    simp
    refine AWp.ret ?_
    simp
    refine retOk.of rfl ⟨rfl, ?_⟩
    have hl : cs.length ≠ xs.length := by have : ¬ (cs.length : Int) = xs.length := by simpa using hl
                                          omega
    simp [atF, h, hl]
  intro hl
  have hl : cs.length = xs.length := by have : (cs.length : Int) = xs.length := by simpa using hl
                                        omega
  have hf : atF xs cs = atGo xs cs 0 := by simp [atF, h, hl]
  rw [hf]
  refine AWp.skip ?_
  simp only [qSeq]
  repeat first | refine AWp.seq ?_ | refine AWp.block ?_
  refine AWp.ops ?_
  simp
  repeat first | refine AWp.seq ?_ | refine AWp.block ?_
  refine AWp.ops ?_
  simp
  refine AWp.block (AWp.loop (fun (i : Nat) fr H => i ≤ xs.length ∧ H = [] ∧ ∃ n : Int, atGo xs cs 0 = atGo (xs.drop i) (cs.drop i) n ∧
    fr = [AV.imm nl c sz (xs.map I), AV.imm nl' c' sz' (cs.map I), .und, .und, I 0, I 0, .und, .und, I n, .und, .und, .und, .und, .und, .und, .und, .und, .und, .und, .und, .und, .und, .und, .und, AV.imm nl c sz (xs.map I), I xs.length, I i, .und, .und, .und, .und, .und, .und, .und, .und, .und, .und, .und, .und, .und, .und, .und, .und, .und, .und, .und, .und, .und, .und, .und, .und, .und, .und, .und]) (fun i => xs.length - i) 0 (Weak.slots [0, 1, 4, 5, 8, 24, 25, 26]) ⟨by omega, rfl, 0, rfl, by simp⟩ ?_)
  rintro i fr H ⟨hi, rfl, n, hm, rfl⟩
  repeat first | refine AWp.seq ?_ | refine AWp.block ?_
  refine AWp.ops ?_
  simp
  refine AWp.seq (AWp.cond (b := decide (i < xs.length)) (by simp) ?_ ?_)
  · intro hb
    have hb : i < xs.length := by simpa using hb
    have hb' : i < cs.length := by omega
    have hsz : sz = 1 := sz_of hs hb
    have hsz' : sz' = 1 := sz_of hs' hb'
    subst hsz hsz'
    refine AWp.skip ?_
    simp only [qSeq]
    refine AWp.seq (AWp.block (AWp.seq (AWp.ops ?_)))
    simp [hb]
    rw [List.drop_eq_getElem_cons hb, List.drop_eq_getElem_cons hb'] at hm
    have bad : cs[i] < 0 ∨ xs[i] ≤ cs[i] → (0, 3) = atGo xs cs 0 := by
      intro h
      rw [hm]
      simp only [atGo]
      rw [if_pos h]
    refine AWp.seq (AWp.seq (AWp.ops ?_))
    by_cases hc : cs[i] < 0 ∨ xs[i] ≤ cs[i]
    · rcases Int.lt_or_le cs[i] 0 with h1 | h1
      · simp [hb', h1]
        refine AWp.cond (b := true) (by simp) (fun _ => ?_) (fun h => by cases h)
        repeat first | refine AWp.seq ?_ | refine AWp.block ?_
        refine AWp.ops ?_
        simp
        refine AWp.ret ?_
        simp
        refine retOk.of rfl ⟨rfl, ?_⟩
        rw [← bad hc]; simp
      · have h2 : xs[i] ≤ cs[i] := by omega
        simp [hb', Int.not_lt.2 h1, h2]
        refine AWp.cond (b := true) (by simp) (fun _ => ?_) (fun h => by cases h)
        repeat first | refine AWp.seq ?_ | refine AWp.block ?_
        refine AWp.ops ?_
        simp
        refine AWp.ret ?_
        simp
        refine retOk.of rfl ⟨rfl, ?_⟩
        rw [← bad hc]; simp
    · have h1 : ¬ cs[i] < 0 := by omega
      have h2 : ¬ xs[i] ≤ cs[i] := by omega
      simp [hb', h1, h2]
      refine AWp.cond (b := false) (by simp) (fun h => by cases h) (fun _ => ?_)
      refine AWp.skip ?_
      simp only [qSeq]
      refine AWp.ops ?_
      simp [hb']
      refine AWp.ops ?_
      simp
      refine ⟨i + 1, _, _, Weak.slots [0, 1, 4, 5, 8, 24, 25, 26], ⟨by omega, rfl, IntKind.i64.wrap (IntKind.i64.wrap (n * xs[i]) + cs[i]), ?_, ?_⟩, by omega⟩
      · rw [hm]
        simp only [atGo]
        rw [if_neg hc]
      · simp [wrap_i64 (n := (i : Int) + 1) (by omega) (by omega)]
  · intro hb
    have hb : ¬ i < xs.length := by simpa using hb
    refine AWp.exit ?_
    simp [qSeq, qBlock]
    repeat first | refine AWp.seq ?_ | refine AWp.block ?_
    refine AWp.ops ?_
    simp
    refine AWp.ret ?_
    simp
    refine retOk.of rfl ⟨rfl, ?_⟩
    rw [hm, List.drop_eq_nil_of_le (by omega)]
    simp [atGo]
end Go.Fw
