import Derived.Test.YthipbeffhfdamaaFwstore7
namespace Go.Fw
open Go Go.RowKit Go.Proofs
set_option maxRecDepth 100000
set_option linter.unusedSimpArgs false
set_option linter.unusedVariables false

/-- Children: places and numbers. -/
def chV (y : Int × Int) : AV := .agg [I y.1, I y.2]
@[simp] theorem chV_mk (a b : Int) : chV (a, b) = .agg [I a, I b] := rfl
def Ch (a : AV) (ys : List (Int × Int)) : Prop :=
  (∃ nl c sz, a = .imm nl c sz (ys.map chV) ∧ ((nl = true → ys = []) ∧ (nl = false → sz = 2))) ∧ ys.length ≤ 9223372036854775807
theorem sz2_of {nl : Bool} {ys : List (Int × Int)} {sz i : Nat} (hs : (nl = true → ys = []) ∧ (nl = false → sz = 2)) (h : i < ys.length) : sz = 2 := by
  cases nl with
  | true => have := hs.1 rfl; subst this; simp at h
  | false => exact hs.2 rfl
theorem ch_get {ys : List (Int × Int)} {i : Nat} (h : i < ys.length) : (ys.map chV)[i]? = some (.agg [I ys[i].1, I ys[i].2]) := by
  rw [List.getElem?_map, List.getElem?_eq_getElem h]; rfl
@[simp] theorem allOne_ch (ys : List (Int × Int)) : allOneCell 2 (ys.map chV) = true := by simp [allOneCell, okEl, cellsOf, oneC, chV]
@[simp] theorem frz_ch (H : List AObj) (k n : Nat) (b : Bool) (ys : List (Int × Int)) : (ys.map chV).map (frz H k (n + 1) b) = ys.map chV := by
  rw [List.map_map]
  apply List.map_congr_left
  intro y _
  simp [chV]
def kidsF (l : Lv) (p : Nat) : List (Int × Int) :=
  if l.k = 0 ∨ l.k = 4 then (List.range l.sz.toNat).map fun (a : Nat) => ((a : Int), (p : Int) * l.sz + a)
  else if l.k = 3 then [(l.crd.getD p 0, (p : Int))]
  else (List.range' (l.pos.getD p 0).toNat ((l.pos.getD (p + 1) 0).toNat - (l.pos.getD p 0).toNat)).map fun (n : Nat) => (l.crd.getD n 0, (n : Int))

def kidsR (ys : List (Int × Int)) (r : AV) (G : List AObj) : Prop :=
  ys.length ≤ 1048576 ∧ ∃ vr, (vr = some true → ys = []) ∧ vr ≠ some false ∧ r = .slc 1 ys.length 0 ys.length none ∧ G[1]? = some ⟨88, 2, ys.map chV, true, vr⟩

def kids_24 : AC := (.block 2 (.ops [⟨(some 25), none, (.k (.mov (.t 5)))⟩, ⟨(some 26), none, (.k (.fad 3 (.t 2)))⟩, ⟨(some 27), none, (.k (.ld 1 false (.t 26)))⟩, ⟨(some 28), none, (.k (.mov (.t 7)))⟩, ⟨(some 29), none, (.k (.iad 1 (.t 27) (.t 28)))⟩, ⟨(some 30), none, (.k (.ld 1 false (.t 29)))⟩, ⟨(some 31), none, (.k (.mov (.t 7)))⟩, ⟨(some 32), none, (.k (.mk [(.sc (.int .i64 0)), (.sc (.int .i64 0))] [(0, (1, (.t 30))), (1, (1, (.t 31)))]))⟩, ⟨(some 33), none, (.k (.lit 2 [(.t 32)]))⟩, ⟨(some 34), none, (.k (.app 88 2 16 (.t 25) (.t 33)))⟩, ⟨(some 5), none, (.k (.mov (.t 34)))⟩]))
def kids_23 : AC := (.seq kids_24 (.ops [⟨(some 23), none, (.k (.mov (.t 7)))⟩, ⟨(some 24), none, (.k (.bin .add (.t 23) (.c (.sc (.int .i64 1)))))⟩, ⟨(some 7), none, (.k (.mov (.t 24)))⟩]))
def kids_22 : AC := (.seq (.ops [⟨(some 15), none, (.k (.mov (.t 7)))⟩, ⟨(some 16), none, (.k (.fad 2 (.t 2)))⟩, ⟨(some 17), none, (.k (.ld 1 false (.t 16)))⟩, ⟨(some 18), none, (.k (.mov (.t 1)))⟩, ⟨(some 19), none, (.k (.bin .add (.t 18) (.c (.sc (.int .i64 1)))))⟩, ⟨(some 20), none, (.k (.iad 1 (.t 17) (.t 19)))⟩, ⟨(some 21), none, (.k (.ld 1 false (.t 20)))⟩, ⟨(some 22), none, (.k (.bin .lss (.t 15) (.t 21)))⟩]) (.cond (.t 22) .skip (.exit 1)))
def kids_21 : AC := (.seq kids_22 kids_23)
def kids_20 : AC := (.loop kids_21)
def kids_19 : AC := (.block 1 kids_20)
def kids_18 : AC := (.seq (.ops [⟨(some 10), none, (.k (.fad 2 (.t 2)))⟩, ⟨(some 11), none, (.k (.ld 1 false (.t 10)))⟩, ⟨(some 12), none, (.k (.mov (.t 1)))⟩, ⟨(some 13), none, (.k (.iad 1 (.t 11) (.t 12)))⟩, ⟨(some 14), none, (.k (.ld 1 false (.t 13)))⟩, ⟨(some 7), none, (.k (.mov (.t 14)))⟩]) kids_19)
def kids_17 : AC := (.cond (.t 55) (.ops [⟨(some 57), none, (.k (.mov (.t 5)))⟩, ⟨(some 58), none, (.k (.fad 3 (.t 2)))⟩, ⟨(some 59), none, (.k (.ld 1 false (.t 58)))⟩, ⟨(some 60), none, (.k (.mov (.t 1)))⟩, ⟨(some 61), none, (.k (.iad 1 (.t 59) (.t 60)))⟩, ⟨(some 62), none, (.k (.ld 1 false (.t 61)))⟩, ⟨(some 63), none, (.k (.mov (.t 1)))⟩, ⟨(some 64), none, (.k (.mk [(.sc (.int .i64 0)), (.sc (.int .i64 0))] [(0, (1, (.t 62))), (1, (1, (.t 63)))]))⟩, ⟨(some 65), none, (.k (.lit 2 [(.t 64)]))⟩, ⟨(some 66), none, (.k (.app 88 2 16 (.t 57) (.t 65)))⟩, ⟨(some 5), none, (.k (.mov (.t 66)))⟩]) kids_18)
def kids_16 : AC := (.seq (.ops [⟨(some 56), none, (.k (.bin .eql (.t 9) (.c (.sc (.int .i64 3)))))⟩, ⟨(some 55), none, (.k (.mov (.t 56)))⟩]) kids_17)
def kids_15 : AC := (.seq (.ops [⟨(some 42), none, (.k (.mov (.t 40)))⟩, ⟨(some 6), none, (.k (.mov (.t 42)))⟩]) (.ops [⟨(some 43), none, (.k (.mov (.t 5)))⟩, ⟨(some 44), none, (.k (.mov (.t 6)))⟩, ⟨(some 45), none, (.k (.mov (.t 1)))⟩, ⟨(some 46), none, (.k (.fad 1 (.t 2)))⟩, ⟨(some 47), none, (.k (.ld 1 false (.t 46)))⟩, ⟨(some 48), none, (.k (.bin .mul (.t 45) (.t 47)))⟩, ⟨(some 49), none, (.k (.mov (.t 6)))⟩, ⟨(some 50), none, (.k (.bin .add (.t 48) (.t 49)))⟩, ⟨(some 51), none, (.k (.mk [(.sc (.int .i64 0)), (.sc (.int .i64 0))] [(0, (1, (.t 44))), (1, (1, (.t 50)))]))⟩, ⟨(some 52), none, (.k (.lit 2 [(.t 51)]))⟩, ⟨(some 53), none, (.k (.app 88 2 16 (.t 43) (.t 52)))⟩, ⟨(some 5), none, (.k (.mov (.t 53)))⟩]))
def kids_14 : AC := (.block 4 kids_15)
def kids_13 : AC := (.seq kids_14 (.ops [⟨(some 54), none, (.k (.bin .add (.t 40) (.c (.sc (.int .i64 1)))))⟩, ⟨(some 40), none, (.k (.mov (.t 54)))⟩]))
def kids_12 : AC := (.seq (.cond (.t 41) .skip (.exit 3)) kids_13)
def kids_11 : AC := (.seq (.ops [⟨(some 41), none, (.k (.bin .lss (.t 40) (.t 39)))⟩]) kids_12)
def kids_10 : AC := (.loop kids_11)
def kids_9 : AC := (.block 3 kids_10)
def kids_8 : AC := (.seq (.ops [⟨(some 38), none, (.k (.fad 1 (.t 2)))⟩, ⟨(some 39), none, (.k (.ld 1 false (.t 38)))⟩, ⟨(some 40), none, (.k (.mov (.c (.sc (.int .i64 0)))))⟩]) kids_9)
def kids_7 : AC := (.cond (.t 35) kids_8 kids_16)
def kids_6 : AC := (.seq (.ops [⟨(some 36), none, (.k (.bin .eql (.t 9) (.c (.sc (.int .i64 0)))))⟩, ⟨(some 35), none, (.k (.mov (.t 36)))⟩]) (.cond (.t 35) .skip (.ops [⟨(some 37), none, (.k (.bin .eql (.t 9) (.c (.sc (.int .i64 4)))))⟩, ⟨(some 35), none, (.k (.mov (.t 37)))⟩])))
def kids_5 : AC := (.seq kids_6 kids_7)
def kids_4 : AC := (.block 0 kids_5)
def kids_3 : AC := (.seq (.ops [⟨(some 8), none, (.k (.fad 0 (.t 2)))⟩, ⟨(some 9), none, (.k (.ld 1 false (.t 8)))⟩]) kids_4)
def kids_2 : AC := (.seq kids_3 (.seq (.ops [⟨(some 67), none, (.k (.mov (.t 5)))⟩, ⟨(some 4), none, (.k (.mov (.t 67)))⟩]) .ret))
def kids_1 : AC := (.seq (.ops [⟨(some 5), none, (.k (.mov (.c (.imm true none 0 []))))⟩]) kids_2)
def kids_ac : AC := (.seq (.ops [⟨(some 2), none, (.k (.new 34 4 (.t 0)))⟩, ⟨(some 4), none, (.k (.mov (.c (.imm true none 0 []))))⟩]) kids_1)
theorem kids_call {args : List AV} {H : List AObj} {R : AV → List AObj → Prop} (h : AWp Try.prog [] H.length kids_ac (bodyQ H.length [(.t 4)] R) (args ++ List.replicate (68 - args.length) .und) H) : ACalls Try.prog 52 args H R :=
  ACalls.of_fn Try.func52 rfl (by kernel_rfl) rfl Try.ntmps52 h

set_option maxHeartbeats 4000000 in
theorem kids_spec {l : Lv} {p c : AV} (hl : LvOk l p c) {n : Nat} (hn : n ≤ 1048576) (hc : lvCheck l n = 0) {q : Nat} (hq : q < n) : ACalls Try.prog 52 [.agg [I l.k, I l.sz, p, c], I q] [] fun r H' => H' = [] ∧ Ch r (kidsF l q) := by
  obtain ⟨k, z, ps, cs⟩ := l
  obtain ⟨h1, h2, h3, h4⟩ := hl
  simp only at h1 h2 h3 h4
  obtain ⟨⟨nl, cp, sz, rfl, hs⟩, hlen, hx⟩ := h1
  obtain ⟨⟨nl', cp', sz', rfl, hs'⟩, hlen', hx'⟩ := h2
  simp only
  obtain ⟨z0, z1, hf, hcl, b0, b1, hcr, -⟩ := lvBelow_ok hc
  simp only at z0 z1 hf hcl b0 b1 hcr
  obtain ⟨Y, hY⟩ : ∃ Y, Y = kidsF ⟨k, z, ps, cs⟩ q := ⟨_, rfl⟩
  have hYlen : Y.length ≤ 1048576 := by
    rw [hY]
    simp only [kidsF]
    by_cases hw : k = 0 ∨ k = 4
    · rw [if_pos hw]
      simp only [List.length_map, List.length_range]
      rw [lvBelow, if_pos hw] at b1
      simp only at b1
      have : (1 : Int) * z ≤ (n : Int) * z := Int.mul_le_mul_of_nonneg_right (by omega) z0
      omega
    · rw [if_neg hw]
      by_cases k3 : k = 3
      · rw [if_pos k3]; simp
      · rw [if_neg k3]
        simp only [List.length_map, List.length_range']
        have k12 : k = 1 ∨ k = 2 := by
          by_cases h : k = 1 ∨ k = 2
          · exact h
          · simp only [lvFormed] at hf
            rw [if_neg (by omega), if_neg (by omega), if_neg k3, if_neg h] at hf
            cases hf
        have hP := lvFormed_pos hf k12
        simp only at hP
        obtain ⟨f, t, hf', ht', hft, htc⟩ := hP.at hq
        rw [hf', ht']
        omega
  have base : ACalls Try.prog 52 [.agg [I k, I z, .imm nl cp sz (ps.map I), .imm nl' cp' sz' (cs.map I)], I q] [] fun r G => kidsR Y r G := by
    apply kids_call
    repeat first | refine AWp.seq ?_ | refine AWp.block ?_
    refine AWp.ops ?_
    simp
    repeat first | refine AWp.seq ?_ | refine AWp.block ?_
    refine AWp.ops ?_
    simp
    refine AWp.weak (Weak.own 5 88 2 (by omega) none 0 (by simp)) ?_
    simp
    refine AWp.cut [.und, .und, .und, .und, .und, .slc 1 Y.length 0 Y.length none, .und, .und, .und, .und, .und, .und, .und, .und, .und, .und, .und, .und, .und, .und, .und, .und, .und, .und, .und, .und, .und, .und, .und, .und, .und, .und, .und, .und, .und, .und, .und, .und, .und, .und, .und, .und, .und, .und, .und, .und, .und, .und, .und, .und, .und, .und, .und, .und, .und, .und, .und, .und, .und, .und, .und, .und, .und, .und, .und, .und, .und, .und] [lvO (.agg [I k, I z, .imm nl cp sz (ps.map I), .imm nl' cp' sz' (cs.map I)]), ⟨88, 2, Y.map chV, true, if Y = [] then some true else none⟩] ?_ ?_
    ·
      repeat first | refine AWp.seq ?_ | refine AWp.block ?_
      refine AWp.ops ?_
      simp
      obtain ⟨sw, hsw⟩ : ∃ sw, sw = decide (k = 0 ∨ k = 4) := ⟨_, rfl⟩
      refine AWp.block (AWp.cut [.und, I q, .ptr 0 1 0 0, .und, .und, .slc 1 0 0 0 none, .und, .und, .und, I k, .und, .und, .und, .und, .und, .und, .und, .und, .und, .und, .und, .und, .und, .und, .und, .und, .und, .und, .und, .und, .und, .und, .und, .und, .und, Bo sw, .und, .und, .und, .und, .und, .und, .und, .und, .und, .und, .und, .und, .und, .und, .und, .und, .und, .und, .und, .und, .und, .und, .und, .und, .und, .und, .und, .und, .und, .und, .und, .und] [lvO (.agg [I k, I z, .imm nl cp sz (ps.map I), .imm nl' cp' sz' (cs.map I)]), ⟨88, 2, [], true, some true⟩] ?_ ?_)
      ·
        repeat first | refine AWp.seq ?_ | refine AWp.block ?_
        refine AWp.ops ?_
        simp
        by_cases k0 : k = 0
        · refine AWp.cond (b := true) (by simp [k0]) (fun _ => ?_) (fun h => by cases h)
          refine AWp.skip ?_
          simp only [qSeq]
          exact (Weak.slots [1, 2, 5, 9, 35]).to (by simp [hsw, k0]) rfl
        refine AWp.cond (b := false) (by simp [k0]) (fun h => by cases h) (fun _ => ?_)
        repeat first | refine AWp.seq ?_ | refine AWp.block ?_
        refine AWp.ops ?_
        simp
        exact (Weak.slots [1, 2, 5, 9, 35]).to (by by_cases k4 : k = 4 <;> simp [hsw, k0, k4]) rfl
      refine AWp.cond (b := sw) (by simp) ?_ ?_
      · intro h
        have hw : k = 0 ∨ k = 4 := by simpa [hsw] using h
        obtain ⟨zn, rfl⟩ : ∃ zn : Nat, z = zn := ⟨z.toNat, by omega⟩
        have hYe : Y = (List.range zn).map fun (a : Nat) => ((a : Int), (q : Int) * zn + a) := by
          rw [hY, kidsF, if_pos hw, Int.toNat_natCast]
        have hbel : (n : Int) * zn ≤ 1048576 := by
          rw [lvBelow, if_pos hw] at b1; exact b1
        have hqz : (q : Int) * zn + zn ≤ 1048576 := by
          have : ((q + 1 : Nat) : Int) * zn ≤ (n : Int) * zn := Int.mul_le_mul_of_nonneg_right (by omega) (by omega)
          rw [Int.natCast_add, Int.add_mul] at this
          omega
        have hq0 : 0 ≤ (q : Int) * zn := Int.mul_nonneg (by omega) (by omega)
        have w1 := wrap_i64 (n := (q : Int) * zn) (by omega) (by omega)
        repeat first | refine AWp.seq ?_ | refine AWp.block ?_
        refine AWp.ops ?_
        simp
        obtain ⟨J, hJ⟩ : ∃ J : Nat → List AV → List AObj → Prop, J = fun i fr H => i ≤ zn ∧ ∃ (ys : List (Int × Int)) (vr : Option Bool), (ys = (List.range i).map (fun (a : Nat) => ((a : Int), (q : Int) * zn + a)) ∧ vr = if ys = [] then some true else none) ∧ H = [lvO (.agg [I k, I zn, .imm nl cp sz (ps.map I), .imm nl' cp' sz' (cs.map I)]), ⟨88, 2, ys.map chV, true, vr⟩] ∧
          fr = [.und, I q, .ptr 0 1 0 0, .und, .und, .slc 1 ys.length 0 ys.length none, .und, .und, .und, .und, .und, .und, .und, .und, .und, .und, .und, .und, .und, .und, .und, .und, .und, .und, .und, .und, .und, .und, .und, .und, .und, .und, .und, .und, .und, .und, .und, .und, .und, I zn, I i, .und, .und, .und, .und, .und, .und, .und, .und, .und, .und, .und, .und, .und, .und, .und, .und, .und, .und, .und, .und, .und, .und, .und, .und, .und, .und, .und] := ⟨_, rfl⟩
        refine AWp.block (AWp.loop J (fun i => zn - i) 0 (Weak.slots [1, 2, 5, 39, 40]) (by rw [hJ]; exact ⟨by omega, [], some true, ⟨rfl, rfl⟩, by simp, by simp⟩) ?_)
        intro i fr H hI
        rw [hJ] at hI
        obtain ⟨hi, ys, vr, hinv, rfl, rfl⟩ := hI
        repeat first | refine AWp.seq ?_ | refine AWp.block ?_
        refine AWp.ops ?_
        simp
        refine AWp.seq (AWp.cond (b := decide (i < zn)) (by simp <;> omega) ?_ ?_)
        ·
          intro hb
          have hb : i < zn := by simpa using hb
          refine AWp.skip ?_
          simp only [qSeq]
          obtain ⟨hys, hvr⟩ := hinv
          have hyl : ys.length = i := by rw [hys]; simp
          have w2 := wrap_i64 (n := (q : Int) * zn + i) (by omega) (by omega)
          have c1 : (ys.length + 1) * 16 ≤ 140737488355328 := by omega
          have c2 : ys.length + 1 ≤ 9223372036854775807 := by omega
          repeat first | refine AWp.seq ?_ | refine AWp.block ?_
          refine AWp.ops ?_
          simp
          repeat first | refine AWp.seq ?_ | refine AWp.block ?_
          refine AWp.ops ?_
          simp [w1, w2, c1, c2, elems]
          repeat first | refine AWp.seq ?_ | refine AWp.block ?_
          refine AWp.ops ?_
          simp
          refine ⟨i + 1, _, _, Weak.slots [1, 2, 5, 39, 40], ?_, by omega⟩
          rw [hJ]
          refine ⟨by omega, ys ++ [((i : Int), (q : Int) * zn + i)], none, ⟨by rw [List.range_succ, List.map_append, hys]; rfl, by simp⟩, by simp, by simp [wrap_i64 (n := (i : Int) + 1) (by omega) (by omega)]⟩
        ·
          intro hb
          have hb : ¬ i < zn := by simpa using hb
          refine AWp.exit ?_
          simp [qSeq, qBlock]
          obtain ⟨hys, hvr⟩ := hinv
          have hi' : i = zn := by omega
          have e : ys = Y := by rw [hys, hYe, hi']
          rw [e] at hvr ⊢
          exact (Weak.slots [5]).to (by simp) (by simp [hvr])
      intro h
      have hw : ¬ (k = 0 ∨ k = 4) := by simpa only [hsw, decide_eq_false_iff_not] using h
      repeat first | refine AWp.seq ?_ | refine AWp.block ?_
      refine AWp.ops ?_
      simp
      by_cases k3 : k = 3
      · refine AWp.cond (b := true) (by simp [k3]) (fun _ => ?_) (fun h => by cases h)
        have hcn : cs.length = n := by
          simp only [lvFormed] at hf
          rw [if_neg (by omega), if_neg (by omega), if_pos k3] at hf
          exact (of_decide_eq_true hf).2
        have hb : q < cs.length := by omega
        have hszc := sz_of hs' hb
        subst hszc
        have hYe : Y = [(cs[q], (q : Int))] := by
          rw [hY, kidsF, if_neg hw, if_pos k3]
          simp [hb]
        repeat first | refine AWp.seq ?_ | refine AWp.block ?_
        refine AWp.ops ?_
        simp [hb, elems]
        exact (Weak.slots [5]).to (by simp [hYe]) (by simp [hYe])
      refine AWp.cond (b := false) (by simp [k3]) (fun h => by cases h) (fun _ => ?_)
      have k12 : k = 1 ∨ k = 2 := by
        by_cases h : k = 1 ∨ k = 2
        · exact h
        · simp only [lvFormed] at hf
          rw [if_neg (by omega), if_neg (by omega), if_neg k3, if_neg h] at hf
          cases hf
      have hP := lvFormed_pos hf k12
      simp only at hP
      obtain ⟨f, t, hf', ht', hft, htc⟩ := hP.at hq
      obtain ⟨hpl, -, -, -⟩ := id hP
      have hbp : q < ps.length := by omega
      have hbp1 : q + 1 < ps.length := by omega
      have hszp := sz_of hs hbp
      subst hszp
      have ef : ps[q] = f := by simpa [hbp] using hf'
      have et : ps[q + 1] = t := by simpa [hbp1] using ht'
      have hYe : Y = (List.range' f (t - f)).map fun (n : Nat) => (cs.getD n 0, (n : Int)) := by
        rw [hY, kidsF, if_neg hw, if_neg k3]
        simp only [hf', ht', Int.toNat_natCast]
      have hwi := wrap_i64 (n := (q : Int) + 1) (by omega) (by omega)
      have gi : (0 : Int) ≤ (q : Int) + 1 := by omega
      have gi2 : ((q : Int) + 1).toNat = q + 1 := by omega
      repeat first | refine AWp.seq ?_ | refine AWp.block ?_
      refine AWp.ops ?_
      simp [hbp, ef]
      obtain ⟨J2, hJ2⟩ : ∃ J2 : Nat → List AV → List AObj → Prop, J2 = fun j fr H => ∃ (ys : List (Int × Int)) (vr : Option Bool), (f + j ≤ t ∧ ys = (List.range' f j).map (fun (n : Nat) => (cs.getD n 0, (n : Int))) ∧ vr = if ys = [] then some true else none) ∧
        H = [lvO (.agg [I k, I z, .imm nl cp 1 (ps.map I), .imm nl' cp' sz' (cs.map I)]), ⟨88, 2, ys.map chV, true, vr⟩] ∧
        fr = [.und, I q, .ptr 0 1 0 0, .und, .und, .slc 1 ys.length 0 ys.length none, .und, I ((f + j : Nat) : Int), .und, .und, .und, .und, .und, .und, .und, .und, .und, .und, .und, .und, .und, .und, .und, .und, .und, .und, .und, .und, .und, .und, .und, .und, .und, .und, .und, .und, .und, .und, .und, .und, .und, .und, .und, .und, .und, .und, .und, .und, .und, .und, .und, .und, .und, .und, .und, .und, .und, .und, .und, .und, .und, .und, .und, .und, .und, .und, .und, .und] := ⟨_, rfl⟩
      refine AWp.block (AWp.loop J2 (fun j => t - f - j) 0 (Weak.slots [1, 2, 5, 7]) (by
        rw [hJ2]
        exact ⟨[], some true, ⟨by omega, rfl, rfl⟩, by simp, by simp⟩) ?_)
      intro j fr H hI
      rw [hJ2] at hI
      obtain ⟨ys, vr, ⟨hjt, hys, hvr⟩, rfl, rfl⟩ := hI
      have hyl : ys.length = j := by rw [hys]; simp
      obtain ⟨m, hm⟩ : ∃ m : Nat, m = f + j := ⟨_, rfl⟩
      rw [← hm]
      repeat first | refine AWp.seq ?_ | refine AWp.block ?_
      refine AWp.ops ?_
      simp [hbp1, hwi, gi, gi2, et]
      refine AWp.cond (b := decide (m < t)) (by simp) ?_ ?_
      · intro h0
        have h0 : m < t := by simpa using h0
        have hb : m < cs.length := by omega
        have hszc := sz_of hs' hb
        subst hszc
        have wm := wrap_i64 (n := (m : Int) + 1) (by omega) (by omega)
        have c1 : (ys.length + 1) * 16 ≤ 140737488355328 := by omega
        have c2 : ys.length + 1 ≤ 9223372036854775807 := by omega
        refine AWp.skip ?_
        simp only [qSeq]
        refine AWp.seq (AWp.block (AWp.ops ?_))
        simp [hb, c1, c2, elems]
        repeat first | refine AWp.seq ?_ | refine AWp.block ?_
        refine AWp.ops ?_
        simp [wm]
        refine ⟨j + 1, _, _, Weak.slots [1, 2, 5, 7], ?_, by omega⟩
        rw [hJ2]
        refine ⟨ys ++ [(cs[m], (m : Int))], none, ⟨by omega, ?_, by simp⟩, by simp, by simp [wm, hm]; omega⟩
        rw [List.range'_concat, List.map_append, hys]
        simp [hb, ← hm]
      · intro h0
        have h0 : ¬ m < t := by simpa using h0
        refine AWp.exit ?_
        simp [qSeq, qBlock]
        have e : ys = Y := by rw [hys, hYe, show j = t - f by omega]
        rw [e] at hvr ⊢
        exact (Weak.slots [5]).to (by simp) (by simp [hvr])
    repeat first | refine AWp.seq ?_ | refine AWp.block ?_
    refine AWp.ops ?_
    simp
    refine AWp.ret ?_
    simp
    refine retOk.of rfl ⟨hYlen, (if Y = [] then some true else none), ?_, ?_, by simp, by simp⟩
    · intro h
      split at h
      · assumption
      · cases h
    · split <;> simp
  refine (base.frozen 3).mono ?_
  rintro q' H' ⟨rfl, r, G, ⟨e4, vr, e2, e3, rfl, hG⟩, rfl⟩
  rw [← hY]
  refine ⟨rfl, ?_⟩
  match vr, e2, e3 with
  | some true, e2, _ =>
    have h3 := e2 rfl
    rw [h3]
    exact ⟨⟨true, none, 2, by simp [hG, h3], by simp, by simp⟩, by simp⟩
  | none, _, _ => exact ⟨⟨false, none, 2, by simp [hG], by simp, by simp⟩, by omega⟩
  | some false, _, h => exact absurd rfl h

end Go.Fw
