import Derived.Test.YtgdkdojjfijipaaFwbx1
import Derived.Test.YtgdkdojjfijipaaFwrowo1
namespace Go.Fw
open Go Go.RowKit Go.Proofs
set_option maxRecDepth 100000
set_option linter.unusedSimpArgs false
set_option linter.unusedVariables false


/-- Two tensors, cell by cell. -/
def bothF (op : Int → Int → Int) (D E : List Int × List Int) : (List Int × List Int) × Int :=
  if checkF D ≠ 0 then (([], []), checkF D) else if checkF E ≠ 0 then (([], []), checkF E) else if D.1 ≠ E.1 then (([], []), 4) else ((D.1, List.zipWith op D.2 E.2), 0)
theorem bothF_ok {op : Int → Int → Int} {D E : List Int × List Int} (hD : checkF D = 0) (hE : checkF E = 0) (h : D.1 = E.1) : bothF op D E = ((D.1, List.zipWith op D.2 E.2), 0) ∧ D.2.length = E.2.length ∧ zeroF D.1 = ((D.1, List.replicate D.2.length 0), 0) := by
  have h1 := (check_cells hD).2
  have h2 := (check_cells hE).2
  rw [← h] at h2
  refine ⟨by simp [bothF, hD, hE, h], by omega, ?_⟩
  have h3 : (laidF D.1).2 = 0 := by
    unfold checkF at hD
    by_cases h3 : (laidF D.1).2 = 0
    · exact h3
    · rw [if_pos h3] at hD; exact absurd hD h3
  have h4 : (D.2.length : Int) = (laidF D.1).1 := by
    unfold checkF at hD
    rw [if_neg (by simpa using h3)] at hD
    by_cases h4 : (D.2.length : Int) = (laidF D.1).1
    · exact h4
    · rw [if_pos h4] at hD; simp at hD
  simp [zeroF, h3, ← h4]

def both_28 : AC := (.seq (.ops [⟨(some 65), none, (.k (.ld 2 true (.t 11)))⟩, ⟨(some 66), none, (.k (.mov (.t 12)))⟩, ⟨none, none, (.k (.st 2 (.t 6) (.t 65)))⟩, ⟨(some 7), none, (.k (.mov (.t 66)))⟩]) .ret)
def both_27 : AC := (.seq (.ops [⟨(some 47), none, (.k (.mov (.t 45)))⟩, ⟨(some 13), none, (.k (.mov (.t 47)))⟩]) (.ops [⟨(some 48), none, (.k (.fad 1 (.t 11)))⟩, ⟨(some 49), none, (.k (.ld 1 false (.t 48)))⟩, ⟨(some 50), none, (.k (.mov (.t 13)))⟩, ⟨(some 51), none, (.k (.mov (.t 2)))⟩, ⟨(some 52), none, (.k (.fad 1 (.t 3)))⟩, ⟨(some 53), none, (.k (.ld 1 false (.t 52)))⟩, ⟨(some 54), none, (.k (.mov (.t 13)))⟩, ⟨(some 55), none, (.k (.iad 1 (.t 53) (.t 54)))⟩, ⟨(some 56), none, (.k (.ld 1 false (.t 55)))⟩, ⟨(some 57), none, (.k (.fad 1 (.t 4)))⟩, ⟨(some 58), none, (.k (.ld 1 false (.t 57)))⟩, ⟨(some 59), none, (.k (.mov (.t 13)))⟩, ⟨(some 60), none, (.k (.iad 1 (.t 58) (.t 59)))⟩, ⟨(some 61), none, (.k (.ld 1 false (.t 60)))⟩, ⟨(some 62), none, (.call true (.t 51) [(.t 56), (.t 61)])⟩, ⟨(some 63), none, (.k (.iad 1 (.t 49) (.t 50)))⟩, ⟨none, none, (.k (.st 1 (.t 63) (.t 62)))⟩]))
def both_26 : AC := (.block 3 both_27)
def both_25 : AC := (.seq both_26 (.ops [⟨(some 64), none, (.k (.bin .add (.t 45) (.c (.sc (.int .i64 1)))))⟩, ⟨(some 45), none, (.k (.mov (.t 64)))⟩]))
def both_24 : AC := (.seq (.cond (.t 46) .skip (.exit 2)) both_25)
def both_23 : AC := (.seq (.ops [⟨(some 46), none, (.k (.bin .lss (.t 45) (.t 44)))⟩]) both_24)
def both_22 : AC := (.loop both_23)
def both_21 : AC := (.block 2 both_22)
def both_20 : AC := (.seq (.ops [⟨(some 42), none, (.k (.fad 1 (.t 11)))⟩, ⟨(some 43), none, (.k (.ld 1 false (.t 42)))⟩, ⟨(some 44), none, (.k (.len (.t 43)))⟩, ⟨(some 45), none, (.k (.mov (.c (.sc (.int .i64 0)))))⟩]) both_21)
def both_19 : AC := (.seq both_20 both_28)
def both_18 : AC := (.seq (.ops [⟨(some 37), none, (.k (.fad 0 (.t 3)))⟩, ⟨(some 38), none, (.k (.ld 1 false (.t 37)))⟩, ⟨(some 39), none, (.call false (.c (.fn (.func 59) [] [])) [(.t 38)])⟩, ⟨(some 36), none, (.k (.mov (.t 39)))⟩, ⟨(some 40), none, (.k (.ext (.t 36) 0))⟩, ⟨(some 41), none, (.k (.ext (.t 36) 1))⟩, ⟨(some 11), none, (.k (.new 49 2 (.c (.agg [(.imm true none 0 []), (.imm true none 0 [])]))))⟩, ⟨none, none, (.k (.st 2 (.t 11) (.t 40)))⟩, ⟨(some 12), none, (.k (.mov (.t 41)))⟩]) both_19)
def both_17 : AC := (.seq (.ops [⟨(some 35), none, (.k (.mk [(.imm true none 0 []), (.imm true none 0 [])] []))⟩, ⟨none, none, (.k (.st 2 (.t 6) (.t 35)))⟩, ⟨(some 7), none, (.k (.mov (.c (.sc (.int .i64 4)))))⟩]) .ret)
def both_16 : AC := (.cond (.t 34) both_17 .skip)
def both_15 : AC := (.seq (.ops [⟨(some 29), none, (.k (.fad 0 (.t 3)))⟩, ⟨(some 30), none, (.k (.ld 1 false (.t 29)))⟩, ⟨(some 31), none, (.k (.fad 0 (.t 4)))⟩, ⟨(some 32), none, (.k (.ld 1 false (.t 31)))⟩, ⟨(some 33), none, (.call false (.c (.fn (.func 49) [] [])) [(.t 30), (.t 32)])⟩, ⟨(some 34), none, (.k (.un .not (.t 33)))⟩]) both_16)
def both_14 : AC := (.seq both_15 both_18)
def both_13 : AC := (.seq (.ops [⟨(some 26), none, (.k (.mk [(.imm true none 0 []), (.imm true none 0 [])] []))⟩, ⟨(some 27), none, (.k (.mov (.t 10)))⟩, ⟨none, none, (.k (.st 2 (.t 6) (.t 26)))⟩, ⟨(some 7), none, (.k (.mov (.t 27)))⟩]) .ret)
def both_12 : AC := (.cond (.t 25) both_13 .skip)
def both_11 : AC := (.seq (.ops [⟨(some 24), none, (.k (.mov (.t 10)))⟩, ⟨(some 25), none, (.k (.bin .neq (.t 24) (.c (.sc (.int .i64 0)))))⟩]) both_12)
def both_10 : AC := (.seq (.ops [⟨(some 22), none, (.k (.ld 2 true (.t 9)))⟩, ⟨(some 23), none, (.call false (.c (.fn (.func 60) [] [])) [(.t 22)])⟩, ⟨(some 10), none, (.k (.mov (.t 23)))⟩]) both_11)
def both_9 : AC := (.seq (.ops [⟨(some 20), none, (.k (.iad 2 (.t 16) (.t 18)))⟩, ⟨(some 21), none, (.k (.ld 2 true (.t 20)))⟩, ⟨(some 9), none, (.k (.new 49 2 (.c (.agg [(.imm true none 0 []), (.imm true none 0 [])]))))⟩, ⟨none, none, (.k (.st 2 (.t 9) (.t 21)))⟩]) both_10)
def both_8 : AC := (.block 1 both_9)
def both_7 : AC := (.seq both_8 (.ops [⟨(some 28), none, (.k (.bin .add (.t 18) (.c (.sc (.int .i64 1)))))⟩, ⟨(some 18), none, (.k (.mov (.t 28)))⟩]))
def both_6 : AC := (.seq (.cond (.t 19) .skip (.exit 0)) both_7)
def both_5 : AC := (.seq (.ops [⟨(some 19), none, (.k (.bin .lss (.t 18) (.t 17)))⟩]) both_6)
def both_4 : AC := (.loop both_5)
def both_3 : AC := (.block 0 both_4)
def both_2 : AC := (.seq (.ops [⟨(some 14), none, (.k (.ld 2 true (.t 3)))⟩, ⟨(some 15), none, (.k (.ld 2 true (.t 4)))⟩, ⟨(some 16), none, (.k (.lit 2 [(.t 14), (.t 15)]))⟩, ⟨(some 17), none, (.k (.len (.t 16)))⟩, ⟨(some 18), none, (.k (.mov (.c (.sc (.int .i64 0)))))⟩]) both_3)
def both_1 : AC := (.seq both_2 both_14)
def both_ac : AC := (.seq (.ops [⟨(some 3), none, (.k (.new 49 2 (.t 0)))⟩, ⟨(some 4), none, (.k (.new 49 2 (.t 1)))⟩, ⟨(some 6), none, (.k (.new 49 2 (.c (.agg [(.imm true none 0 []), (.imm true none 0 [])]))))⟩, ⟨(some 7), none, (.k (.mov (.c (.sc (.int .i64 0)))))⟩]) both_1)
theorem both_call {args : List AV} {H : List AObj} {R : AV → List AObj → Prop} (h : AWp Try.prog [] H.length both_ac (bodyQ H.length [(.cell 6 2 true), (.t 7)] R) (args ++ List.replicate (67 - args.length) .und) H) : ACalls Try.prog 61 args H R :=
  ACalls.of_fn Try.func61 rfl (by kernel_rfl) rfl Try.ntmps61 h

set_option maxHeartbeats 4000000 in
theorem both_spec {d e : AV} {D E : List Int × List Int} {g : FuncId} {caps : List AV} {op : Int → Int → Int} (hd : Dn d D) (he : Dn e E) (hcaps : noRefs caps = true) (hfz : ∀ G k, caps.map (frz G k 1 true) = caps)
    (hg : ∀ x y, ACalls Try.prog g ([I x, I y] ++ caps) [] fun r H' => H' = [] ∧ r = I (op x y)) :
    ACalls Try.prog 61 [d, e, .fn (.func g) [] caps] [] (denseR (bothF op D E)) := by
  have hd' := hd
  have he' := he
  obtain ⟨xS, xs⟩ := D
  obtain ⟨yS, ys⟩ := E
  obtain ⟨s1, v1, rfl, hs1, ⟨⟨nl2, c2, z2, rfl, hz2⟩, hr2⟩⟩ := hd
  obtain ⟨s2, v2, rfl, hs2, ⟨⟨nl4, c4, z4, rfl, hz4⟩, hr4⟩⟩ := he
  have hs1' := hs1
  have hs2' := hs2
  obtain ⟨⟨nl1, c1, z1, rfl, hz1⟩, hr1⟩ := hs1
  obtain ⟨⟨nl3, c3, z3, rfl, hz3⟩, hr3⟩ := hs2
  simp only at hz1 hz2 hz3 hz4 hr1 hr2 hr3 hr4 hs1' hs2'
  apply both_call
  repeat first | refine AWp.seq ?_ | refine AWp.block ?_
  refine AWp.ops ?_
  simp
  refine AWp.cutp (checkF (xS, xs) = 0 ∧ checkF (yS, ys) = 0) [.und, .und, .fn (.func g) [] caps, .ptr 0 1 0 0, .ptr 1 1 0 0, .und, .ptr 2 1 0 0, I 0, .und, .und, .und, .und, .und, .und, .und, .und, .und, .und, .und, .und, .und, .und, .und, .und, .und, .und, .und, .und, .und, .und, .und, .und, .und, .und, .und, .und, .und, .und, .und, .und, .und, .und, .und, .und, .und, .und, .und, .und, .und, .und, .und, .und, .und, .und, .und, .und, .und, .und, .und, .und, .und, .und, .und, .und, .und, .und, .und] [denO (.agg [.imm nl1 c1 z1 (xS.map I), .imm nl2 c2 z2 (xs.map I)]), denO (.agg [.imm nl3 c3 z3 (yS.map I), .imm nl4 c4 z4 (ys.map I)]), denO nilD] ?_ ?_
  ·
    repeat first | refine AWp.seq ?_ | refine AWp.block ?_
    refine AWp.ops ?_
    simp
    obtain ⟨ds, hds⟩ : ∃ ds, ds = [AV.agg [.imm nl1 c1 z1 (xS.map I), .imm nl2 c2 z2 (xs.map I)], AV.agg [.imm nl3 c3 z3 (yS.map I), .imm nl4 c4 z4 (ys.map I)]] := ⟨_, rfl⟩
    obtain ⟨Ds, hDs⟩ : ∃ Ds, Ds = [(xS, xs), (yS, ys)] := ⟨_, rfl⟩
    have hdn : ∀ i (h : i < ds.length) (h' : i < Ds.length), Dn ds[i] Ds[i] := by
      subst hds hDs
      intro i h h'
      match i, h with
      | 0, _ => exact hd'
      | 1, _ => exact he'
    have hl2 : ds.length = 2 := by rw [hds]; rfl
    have hl2' : Ds.length = 2 := by rw [hDs]; rfl
    rw [← hds]
    obtain ⟨J, hJ⟩ : ∃ J : Nat → List AV → List AObj → Prop, J = fun i fr H => i ≤ 2 ∧ (∀ k (h : k < Ds.length), k < i → checkF Ds[k] = 0) ∧ H = [denO (.agg [.imm nl1 c1 z1 (xS.map I), .imm nl2 c2 z2 (xs.map I)]), denO (.agg [.imm nl3 c3 z3 (yS.map I), .imm nl4 c4 z4 (ys.map I)]), denO nilD] ∧
      fr = [.und, .und, .fn (.func g) [] caps, .ptr 0 1 0 0, .ptr 1 1 0 0, .und, .ptr 2 1 0 0, I 0, .und, .und, .und, .und, .und, .und, .und, .und, .imm false (some 2) 2 ds, I 2, I i, .und, .und, .und, .und, .und, .und, .und, .und, .und, .und, .und, .und, .und, .und, .und, .und, .und, .und, .und, .und, .und, .und, .und, .und, .und, .und, .und, .und, .und, .und, .und, .und, .und, .und, .und, .und, .und, .und, .und, .und, .und, .und, .und, .und, .und, .und, .und, .und] := ⟨_, rfl⟩
    refine AWp.block (AWp.loop J (fun i => 2 - i) 0 (Weak.slots [2, 3, 4, 6, 7, 16, 17, 18]) (by rw [hJ]; exact ⟨by omega, by intro k _ h; omega, by simp, by simp⟩) ?_)
    intro i fr H hI
    rw [hJ] at hI
    obtain ⟨hi, hinv, rfl, rfl⟩ := hI
    repeat first | refine AWp.seq ?_ | refine AWp.block ?_
    refine AWp.ops ?_
    simp
    refine AWp.seq (AWp.cond (b := decide (i < 2)) (by simp <;> omega) ?_ ?_)
    ·
      intro hb
      have hb : i < 2 := by simpa using hb
      refine AWp.skip ?_
      simp only [qSeq]
      have hb1 : i < ds.length := by omega
      have hb2 : i < Ds.length := by omega
      have hD := hdn i hb1 hb2
      have hD' := hD
      obtain ⟨s, v, hde, ⟨⟨nl, c, sz, rfl, _⟩, _⟩, ⟨⟨nl', c', sz', rfl, _⟩, _⟩⟩ := hD
      rw [hde] at hD'
      have hgt : ds[i]? = some (.agg [.imm nl c sz (Ds[i].1.map I), .imm nl' c' sz' (Ds[i].2.map I)]) := by rw [List.getElem?_eq_getElem hb1, hde]
      repeat first | refine AWp.seq ?_ | refine AWp.block ?_
      refine AWp.ops ?_
      simp [hgt]
      repeat first | refine AWp.seq ?_ | refine AWp.block ?_
      refine AWp.ops ?_
      simp
      refine ((bCheck_spec hD').pure (by simp) (by rintro r rfl; simp) _).mono ?_
      rintro r H' ⟨rfl, rfl⟩
      simp
      repeat first | refine AWp.seq ?_ | refine AWp.block ?_
      refine AWp.ops ?_
      simp
      have hfirst : checkF Ds[i] ≠ 0 → bothF op (xS, xs) (yS, ys) = (([], []), checkF Ds[i]) := by
        intro hne
        subst hDs
        match i, hb2 with
        | 0, _ =>
          simp at hne
          simp [bothF, hne]
        | 1, _ =>
          have h0 := hinv 0 (by simp) (by omega)
          simp at hne h0
          simp [bothF, hne, h0]
      refine AWp.cond (b := checkF Ds[i] != 0) (by simp) ?_ ?_
      · intro h
        have h : checkF Ds[i] ≠ 0 := by simpa using h
        repeat first | refine AWp.seq ?_ | refine AWp.block ?_
        refine AWp.ops ?_
        simp
        refine AWp.ret ?_
        simp
        refine retOk.of rfl ?_
        rw [hfirst h]
        exact .inl ⟨h, rfl, by simp⟩
      · intro h
        have h : checkF Ds[i] = 0 := by simpa using h
        refine AWp.skip ?_
        simp only [qSeq, qBlock]
        repeat first | refine AWp.seq ?_ | refine AWp.block ?_
        refine AWp.ops ?_
        simp
        refine ⟨i + 1, _, _, (Weak.slots [2, 3, 4, 6, 7, 16, 17, 18]).trans (Weak.freeze 3 2 (by simp)), ?_, by omega⟩
        rw [hJ]
        refine ⟨by omega, ?_, by simp [frzH], ?_⟩
        · intro k hk hki
          by_cases e : k = i
          · subst e; exact h
          · exact hinv k hk (by omega)
        · simp [wrap_i64 (n := (i : Int) + 1) (by omega) (by omega), hfz]
    ·
      intro hb
      have hb : ¬ i < 2 := by simpa using hb
      refine AWp.exit ?_
      simp [qSeq, qBlock]
      refine ⟨⟨?_, ?_⟩, (Weak.slots [2, 3, 4, 6, 7]).to (by simp) rfl⟩
      · have := hinv 0 (by omega) (by omega)
        subst hDs
        exact this
      · have := hinv 1 (by omega) (by omega)
        subst hDs
        exact this
  rintro ⟨hcD, hcE⟩
  repeat first | refine AWp.seq ?_ | refine AWp.block ?_
  refine AWp.ops ?_
  simp
  refine ((sEqual_spec hs1' hs2').pure (by simp) (by rintro r rfl; simp) _).mono ?_
  rintro r H' ⟨rfl, rfl⟩
  simp
  by_cases hS : xS = yS
  case neg =>
    simp [hS]
    refine AWp.cond (b := true) (by simp) (fun _ => ?_) (fun h => by cases h)
    repeat first | refine AWp.seq ?_ | refine AWp.block ?_
    refine AWp.ops ?_
    simp
    refine AWp.ret ?_
    simp
    refine retOk.of rfl ?_
    have e : bothF op (xS, xs) (yS, ys) = (([], []), 4) := by simp [bothF, hcD, hcE, hS]
    rw [e]
    exact .inl ⟨by simp, rfl, by simp⟩
  subst hS
  obtain ⟨hbF, hll, hzF⟩ := bothF_ok (op := op) hcD hcE rfl
  simp only at hbF hll hzF
  simp
  refine AWp.cond (b := false) (by simp) (fun h => by cases h) (fun _ => ?_)
  refine AWp.skip ?_
  simp only [qSeq]
  repeat first | refine AWp.seq ?_ | refine AWp.block ?_
  refine AWp.ops ?_
  simp
  refine (dense_at (Zero_dense hs1') (by simp) _).mono ?_
  rw [hzF]
  rintro r H' ⟨G, rfl, ⟨h, _⟩ | ⟨-, d, rfl, s, q, hq, rfl, hqo, hso⟩⟩
  · exact absurd rfl h
  simp at hq hqo hso
  obtain ⟨HH, hHH⟩ : ∃ HH, HH = denO (.agg [.imm nl1 c1 z1 (xS.map I), .imm nl2 c2 z2 (xs.map I)]) :: denO (.agg [.imm nl3 c3 z3 (xS.map I), .imm nl4 c4 z4 (ys.map I)]) :: denO nilD :: G := ⟨_, rfl⟩
  have f0 : HH[0]? = some (denO (.agg [.imm nl1 c1 z1 (xS.map I), .imm nl2 c2 z2 (xs.map I)])) := by rw [hHH]; rfl
  have f1 : HH[1]? = some (denO (.agg [.imm nl3 c3 z3 (xS.map I), .imm nl4 c4 z4 (ys.map I)])) := by rw [hHH]; rfl
  have f2 : HH[2]? = some (denO nilD) := by rw [hHH]; rfl
  have fq : HH[q]? = some (i64O (List.replicate xs.length 0)) := by rw [hHH]; simpa using hqo
  have fs : shapeOk 3 HH q s xS := by rw [hHH]; exact hso
  have hone := fs.one
  have hql := (List.getElem?_eq_some_iff.1 fq).1
  have hL : 3 ≤ HH.length := by rw [hHH]; simp
  simp [← hHH, hone]
  clear hHH hso hqo
  repeat first | refine AWp.seq ?_ | refine AWp.block ?_
  refine AWp.ops ?_
  simp [List.getElem?_append_left, hql, fq]
  obtain ⟨J, hJ⟩ : ∃ J : Nat → List AV → List AObj → Prop, J = fun i fr H => i ≤ xs.length ∧ ∃ (K : List AObj) (ws : List Int), (K[0]? = some (denO (.agg [.imm nl1 c1 z1 (xS.map I), .imm nl2 c2 z2 (xs.map I)])) ∧ K[1]? = some (denO (.agg [.imm nl3 c3 z3 (xS.map I), .imm nl4 c4 z4 (ys.map I)])) ∧ K[2]? = some (denO nilD) ∧ K[q]? = some (i64O ws) ∧ K[HH.length]? = some (denO (.agg [s, .slc q xs.length 0 xs.length none])) ∧ shapeOk 3 K q s xS ∧ ws.length = xs.length ∧ ∀ k, k < i → ws[k]? = (List.zipWith op xs ys)[k]?) ∧ H = K ∧
    fr = [.und, .und, .fn (.func g) [] caps, .ptr 0 1 0 0, .ptr 1 1 0 0, .und, .ptr 2 1 0 0, I 0, .und, .und, .und, .ptr HH.length 1 0 0, I 0, .und, .und, .und, .und, .und, .und, .und, .und, .und, .und, .und, .und, .und, .und, .und, .und, .und, .und, .und, .und, .und, .und, .und, .und, .und, .und, .und, .und, .und, .und, .und, I xs.length, I i, .und, .und, .und, .und, .und, .und, .und, .und, .und, .und, .und, .und, .und, .und, .und, .und, .und, .und, .und, .und, .und] := ⟨_, rfl⟩
  refine AWp.block (AWp.loop J (fun i => xs.length - i) 0 (Weak.slots [2, 3, 4, 6, 7, 11, 12, 44, 45]) (by rw [hJ]; exact ⟨by omega, HH ++ [denO (.agg [s, .slc q xs.length 0 xs.length none])], List.replicate xs.length 0, ⟨by rw [List.getElem?_append_left (by omega)]; exact f0, by rw [List.getElem?_append_left (by omega)]; exact f1, by rw [List.getElem?_append_left (by omega)]; exact f2, by rw [List.getElem?_append_left hql]; exact fq, by simp, fs.app _, by simp, by intro k h; omega⟩, by simp, by simp⟩) ?_)
  intro i fr H hI
  rw [hJ] at hI
  obtain ⟨hi, K, ws, hinv, rfl, rfl⟩ := hI
  repeat first | refine AWp.seq ?_ | refine AWp.block ?_
  refine AWp.ops ?_
  simp
  refine AWp.seq (AWp.cond (b := decide (i < xs.length)) (by simp <;> omega) ?_ ?_)
  ·
    intro hb
    have hb : i < xs.length := by simpa using hb
    refine AWp.skip ?_
    simp only [qSeq]
    obtain ⟨k0, k1, k2, kq, kp, ks, kl, kv⟩ := hinv
    have hb1 : i < ys.length := by omega
    have hb2 : i < ws.length := by omega
    have hsz := sz_of hz2 hb
    have hsz' := sz_of hz4 hb1
    subst hsz hsz'
    repeat first | refine AWp.seq ?_ | refine AWp.block ?_
    refine AWp.ops ?_
    simp
    repeat first | refine AWp.seq ?_ | refine AWp.block ?_
    refine AWp.ops ?_
    simp [kp, k0, k1, hb, hb1]
    refine ((hg xs[i] ys[i]).pure (by simp [hcaps]) (by rintro r rfl; simp) _).mono ?_
    rintro r H' ⟨rfl, rfl⟩
    simp [kq, kl, hb, hb2]
    repeat first | refine AWp.seq ?_ | refine AWp.block ?_
    refine AWp.ops ?_
    simp
    have hz : (List.zipWith op xs ys)[i]? = some (op xs[i] ys[i]) := by simp [List.getElem?_zipWith, hb, hb1]
    have hq2 := (List.getElem?_eq_some_iff.1 kq).1
    have e1 : (ws.map I).set i (I (op xs[i] ys[i])) = (ws.set i (op xs[i] ys[i])).map I := by rw [List.map_set]
    refine ⟨i + 1, _, _, Weak.slots [2, 3, 4, 6, 7, 11, 12, 44, 45], ?_, by omega⟩
    rw [hJ]
    refine ⟨by omega, H'.set q (i64O (ws.set i (op xs[i] ys[i]))), ws.set i (op xs[i] ys[i]), ?_, by simp [i64O, List.map_set], by simp [wrap_i64 (n := (i : Int) + 1) (by omega) (by omega)]⟩
    refine ⟨by rw [gs_ne (by omega)]; exact k0, by rw [gs_ne (by omega)]; exact k1, by rw [gs_ne (by omega)]; exact k2, gs_eq kq, by rw [gs_ne (by omega)]; exact kp, ks.set _, by simpa using kl, fun k hk => ?_⟩
    by_cases e : k = i
    · subst e
      rw [List.getElem?_set_self hb2, hz]
    · rw [List.getElem?_set_ne (by omega)]
      exact kv k (by omega)
  ·
    intro hb
    have hb : ¬ i < xs.length := by simpa using hb
    refine AWp.exit ?_
    simp [qSeq, qBlock]
    obtain ⟨k0, k1, k2, kq, kp, ks, kl, kv⟩ := hinv
    have hone' := ks.one
    have hw : ws = List.zipWith op xs ys := by
      apply List.ext_getElem?
      intro k
      by_cases hk : k < i
      · exact kv k hk
      · rw [List.getElem?_eq_none (by omega), List.getElem?_eq_none (by simp; omega)]
    subst hw
    repeat first | refine AWp.seq ?_ | refine AWp.block ?_
    refine AWp.ops ?_
    simp [kp, k2, hone']
    refine AWp.ret ?_
    simp
    refine retOk.of (by simp [gs_eq k2]; rfl) ?_
    simp
    rw [hbF]
    refine .inr ⟨rfl, _, rfl, s, q, by omega, by simp [hll], ?_, (ks.set_lt 2 (by omega) _).mono (by omega)⟩
    rw [gs_ne (by omega)]
    exact kq
end Go.Fw
namespace Go.Fw
open Go Go.RowKit Go.Proofs
set_option maxRecDepth 100000
set_option linter.unusedSimpArgs false
set_option linter.unusedVariables false

theorem wrapR (n : Int) : -9223372036854775808 ≤ IntKind.i64.wrap n ∧ IntKind.i64.wrap n ≤ 9223372036854775807 := by
  have e : IntKind.i64.wrap n = if (n % 18446744073709551616) ≥ 9223372036854775808 then n % 18446744073709551616 - 18446744073709551616 else n % 18446744073709551616 := by
    unfold IntKind.wrap
    simp [IntKind.bits, IntKind.signed]
  rw [e]
  split <;> omega
abbrev addW (x y : Int) : Int := IntKind.i64.wrap (x + y)
abbrev mulW (x y : Int) : Int := IntKind.i64.wrap (x * y)
theorem Dn.inR {d : AV} {D : List Int × List Int} (h : Dn d D) : InR D.1 ∧ InR D.2 := by
  obtain ⟨s, v, rfl, h1, h2⟩ := h
  exact ⟨h1.2, h2.2⟩
theorem bothF_inR {op : Int → Int → Int} (hop : ∀ x y, -9223372036854775808 ≤ op x y ∧ op x y ≤ 9223372036854775807) {D E : List Int × List Int} (hD : InR D.1) (hE : InR D.2) : InR (bothF op D E).1.1 ∧ InR (bothF op D E).1.2 := by
  have hn : InR [] := ⟨by simp, by simp⟩
  unfold bothF
  split
  · exact ⟨hn, hn⟩
  · split
    · exact ⟨hn, hn⟩
    · split
      · exact ⟨hn, hn⟩
      · refine ⟨hD, ?_, ?_⟩
        · have := hE.1
          simp; omega
        · intro x hx
          obtain ⟨i, hi, rfl⟩ := List.getElem_of_mem hx
          rw [List.getElem_zipWith]
          exact hop _ _

def Add1_1 : AC := (.seq (.ops [⟨(some 5), none, (.k (.mov (.t 0)))⟩, ⟨(some 6), none, (.k (.mov (.t 1)))⟩, ⟨(some 7), none, (.k (.bin .add (.t 5) (.t 6)))⟩, ⟨(some 4), none, (.k (.mov (.t 7)))⟩]) .ret)
def Add1_ac : AC := (.seq (.ops [⟨(some 4), none, (.k (.mov (.c (.sc (.int .i64 0)))))⟩]) Add1_1)
theorem Add1_call {args : List AV} {H : List AObj} {R : AV → List AObj → Prop} (h : AWp Try.prog [] H.length Add1_ac (bodyQ H.length [(.t 4)] R) (args ++ List.replicate (8 - args.length) .und) H) : ACalls Try.prog 62 args H R :=
  ACalls.of_fn Try.func62 rfl (by kernel_rfl) rfl Try.ntmps62 h

theorem Add1_spec (x y : Int) : ACalls Try.prog 62 ([I x, I y] ++ []) [] fun r H' => H' = [] ∧ r = I (addW x y) := by
  apply Add1_call
  repeat first | refine AWp.seq ?_ | refine AWp.block ?_
  refine AWp.ops ?_
  simp
  repeat first | refine AWp.seq ?_ | refine AWp.block ?_
  refine AWp.ops ?_
  simp
  refine AWp.ret ?_
  simp
  refine retOk.of rfl ⟨rfl, by simp⟩

def Add_1 : AC := (.seq (.ops [⟨(some 6), none, (.k (.ld 2 true (.t 2)))⟩, ⟨(some 7), none, (.k (.ld 2 true (.t 3)))⟩, ⟨(some 8), none, (.call false (.c (.fn (.func 61) [] [])) [(.t 6), (.t 7), (.c (.fn (.func 62) [] []))])⟩, ⟨(some 9), none, (.k (.ext (.t 8) 0))⟩, ⟨(some 10), none, (.k (.ext (.t 8) 1))⟩, ⟨none, none, (.k (.st 2 (.t 4) (.t 9)))⟩, ⟨(some 5), none, (.k (.mov (.t 10)))⟩]) .ret)
def Add_ac : AC := (.seq (.ops [⟨(some 2), none, (.k (.new 49 2 (.t 0)))⟩, ⟨(some 3), none, (.k (.new 49 2 (.t 1)))⟩, ⟨(some 4), none, (.k (.new 49 2 (.c (.agg [(.imm true none 0 []), (.imm true none 0 [])]))))⟩, ⟨(some 5), none, (.k (.mov (.c (.sc (.int .i64 0)))))⟩]) Add_1)
theorem Add_call {args : List AV} {H : List AObj} {R : AV → List AObj → Prop} (h : AWp Try.prog [] H.length Add_ac (bodyQ H.length [(.cell 4 2 true), (.t 5)] R) (args ++ List.replicate (11 - args.length) .und) H) : ACalls Try.prog 33 args H R :=
  ACalls.of_fn Try.func33 rfl (by kernel_rfl) rfl Try.ntmps33 h

theorem Add_spec {d e : AV} {D E : List Int × List Int} (hd : Dn d D) (he : Dn e E) : ACalls Try.prog 33 [d, e] [] fun r H' => H' = [] ∧ ∃ q, r = .tup [q, I (bothF addW D E).2] ∧ Dn q (bothF addW D E).1 := by
  obtain ⟨r1, r2⟩ := bothF_inR (op := addW) (fun x y => wrapR _) hd.inR.1 hd.inR.2 (E := E)
  have hb := dense_pure (both_spec hd he (caps := []) (g := 62) rfl (fun _ _ => rfl) Add1_spec) r1 r2
  have base : ACalls Try.prog 33 [d, e] [] fun r _ => ∃ q, r = .tup [q, I (bothF addW D E).2] ∧ Dn q (bothF addW D E).1 := by
    obtain ⟨s1, v1, rfl, ⟨⟨_, _, _, rfl, _⟩, _⟩, ⟨⟨_, _, _, rfl, _⟩, _⟩⟩ := hd
    obtain ⟨s2, v2, rfl, ⟨⟨_, _, _, rfl, _⟩, _⟩, ⟨⟨_, _, _, rfl, _⟩, _⟩⟩ := he
    apply Add_call
    repeat first | refine AWp.seq ?_ | refine AWp.block ?_
    refine AWp.ops ?_
    simp
    repeat first | refine AWp.seq ?_ | refine AWp.block ?_
    refine AWp.ops ?_
    simp
    refine (hb.pure (by simp) (by rintro r ⟨d, rfl, h⟩; simp [h.noRef]) _).mono ?_
    rintro r H' ⟨rfl, q, rfl, hq⟩
    have hq' := hq
    obtain ⟨s3, v3, rfl, ⟨⟨_, _, _, rfl, _⟩, _⟩, ⟨⟨_, _, _, rfl, _⟩, _⟩⟩ := hq
    simp
    refine AWp.ret ?_
    simp
    refine retOk.of rfl ?_
    exact ⟨_, by simp, hq'⟩
  refine (base.frozen 8).mono ?_
  rintro q H' ⟨rfl, r, G, ⟨d, rfl, hd⟩, rfl⟩
  exact ⟨rfl, d, by simp [hd.frz G 0 6 false], hd⟩
end Go.Fw
