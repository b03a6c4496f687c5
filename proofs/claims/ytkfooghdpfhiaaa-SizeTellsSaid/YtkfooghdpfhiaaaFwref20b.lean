import Derived.Test.YtkfooghdpfhiaaaFwref20a
namespace Go.Fw
open Go Go.RowKit Go.Proofs
set_option maxRecDepth 100000
set_option linter.unusedSimpArgs false
set_option linter.unusedVariables false

def rWorst_35 : AC := (.seq (.ops [⟨(some 83), none, (.k (.mov (.t 11)))⟩, ⟨(some 4), none, (.k (.mov (.t 83)))⟩, ⟨(some 5), none, (.k (.mov (.c (.sc (.int .i64 0)))))⟩]) .ret)
def rWorst_34 : AC := (.seq (.ops [⟨(some 77), none, (.k (.mov (.t 11)))⟩, ⟨(some 78), none, (.k (.mov (.t 14)))⟩, ⟨(some 79), none, (.k (.lit 1 [(.t 78)]))⟩, ⟨(some 80), none, (.k (.app 3 1 8 (.t 77) (.t 79)))⟩, ⟨(some 11), none, (.k (.mov (.t 80)))⟩]) (.ops [⟨(some 81), none, (.k (.mov (.t 14)))⟩, ⟨(some 10), none, (.k (.mov (.t 81)))⟩]))
def rWorst_33 : AC := (.cond (.t 74) (.ops [⟨(some 75), none, (.k (.mov (.t 8)))⟩, ⟨(some 76), none, (.k (.mm false (.t 75) (.c (.sc (.int .i64 65536)))))⟩, ⟨(some 14), none, (.k (.mov (.t 76)))⟩]) .skip)
def rWorst_32 : AC := (.seq (.ops [⟨(some 72), none, (.k (.fad 0 (.t 13)))⟩, ⟨(some 73), none, (.k (.ld 1 false (.t 72)))⟩, ⟨(some 74), none, (.k (.bin .eql (.t 73) (.c (.sc (.int .i64 2)))))⟩]) rWorst_33)
def rWorst_31 : AC := (.seq rWorst_32 rWorst_34)
def rWorst_30 : AC := (.cond (.t 68) (.ops [⟨(some 69), none, (.k (.mov (.t 14)))⟩, ⟨(some 70), none, (.k (.mov (.t 8)))⟩, ⟨(some 71), none, (.k (.mm3 false (.t 69) (.t 70) (.c (.sc (.int .i64 65536)))))⟩, ⟨(some 14), none, (.k (.mov (.t 71)))⟩]) .skip)
def rWorst_29 : AC := (.seq (.ops [⟨(some 66), none, (.k (.fad 0 (.t 13)))⟩, ⟨(some 67), none, (.k (.ld 1 false (.t 66)))⟩, ⟨(some 68), none, (.k (.bin .eql (.t 67) (.c (.sc (.int .i64 1)))))⟩]) rWorst_30)
def rWorst_28 : AC := (.seq rWorst_29 rWorst_31)
def rWorst_27 : AC := (.seq (.ops [⟨(some 63), none, (.k (.mov (.t 16)))⟩, ⟨(some 64), none, (.k (.un .not (.t 63)))⟩]) (.cond (.t 64) (.ops [⟨(some 15), none, (.k (.mov (.c (.sc (.int .i64 65536)))))⟩]) .skip))
def rWorst_26 : AC := (.seq rWorst_27 (.ops [⟨(some 65), none, (.k (.mov (.t 15)))⟩, ⟨(some 14), none, (.k (.mov (.t 65)))⟩]))
def rWorst_25 : AC := (.cond (.t 62) (.seq (.ops [⟨(some 4), none, (.k (.mov (.c (.imm true none 0 []))))⟩, ⟨(some 5), none, (.k (.mov (.c (.sc (.int .i64 2)))))⟩]) .ret) .skip)
def rWorst_24 : AC := (.seq (.ops [⟨(some 51), none, (.k (.mov (.t 16)))⟩, ⟨(some 52), none, (.k (.un .not (.t 51)))⟩, ⟨(some 53), none, (.k (.mov (.t 52)))⟩, ⟨(some 54), (some (53, true)), (.k (.fad 0 (.t 13)))⟩, ⟨(some 55), (some (53, true)), (.k (.ld 1 false (.t 54)))⟩, ⟨(some 56), (some (53, true)), (.k (.bin .neq (.t 55) (.c (.sc (.int .i64 1)))))⟩, ⟨(some 57), none, (.k (.pick (.t 53) (.t 56) (.c (.sc (.bool false)))))⟩, ⟨(some 58), none, (.k (.mov (.t 57)))⟩, ⟨(some 59), (some (58, true)), (.k (.fad 0 (.t 13)))⟩, ⟨(some 60), (some (58, true)), (.k (.ld 1 false (.t 59)))⟩, ⟨(some 61), (some (58, true)), (.k (.bin .neq (.t 60) (.c (.sc (.int .i64 2)))))⟩, ⟨(some 62), none, (.k (.pick (.t 58) (.t 61) (.c (.sc (.bool false)))))⟩]) rWorst_25)
def rWorst_23 : AC := (.seq rWorst_24 rWorst_26)
def rWorst_22 : AC := (.seq (.ops [⟨(some 43), none, (.k (.mov (.t 10)))⟩, ⟨(some 44), none, (.k (.mov (.t 6)))⟩, ⟨(some 45), none, (.k (.mov (.t 12)))⟩, ⟨(some 46), none, (.k (.iad 1 (.t 44) (.t 45)))⟩, ⟨(some 47), none, (.k (.ld 1 false (.t 46)))⟩, ⟨(some 48), none, (.call false (.c (.fn (.func 64) [] [])) [(.t 43), (.t 47)])⟩, ⟨(some 42), none, (.k (.mov (.t 48)))⟩, ⟨(some 49), none, (.k (.ext (.t 42) 0))⟩, ⟨(some 50), none, (.k (.ext (.t 42) 1))⟩, ⟨(some 15), none, (.k (.mov (.t 49)))⟩, ⟨(some 16), none, (.k (.mov (.t 50)))⟩]) rWorst_23)
def rWorst_21 : AC := (.cond (.t 41) rWorst_22 .skip)
def rWorst_20 : AC := (.seq (.ops [⟨(some 39), none, (.k (.fad 0 (.t 13)))⟩, ⟨(some 40), none, (.k (.ld 1 false (.t 39)))⟩, ⟨(some 41), none, (.k (.bin .neq (.t 40) (.c (.sc (.int .i64 3)))))⟩]) rWorst_21)
def rWorst_19 : AC := (.seq rWorst_20 rWorst_28)
def rWorst_18 : AC := (.seq (.ops [⟨(some 38), none, (.k (.mov (.t 10)))⟩, ⟨(some 14), none, (.k (.mov (.t 38)))⟩]) rWorst_19)
def rWorst_17 : AC := (.seq (.ops [⟨(some 35), none, (.k (.mov (.t 33)))⟩, ⟨(some 36), none, (.k (.iad 3 (.t 31) (.t 33)))⟩, ⟨(some 37), none, (.k (.ld 3 true (.t 36)))⟩, ⟨(some 13), none, (.k (.new 29 3 (.c (.agg [(.sc (.int .i64 0)), (.sc (.int .i64 0)), (.sc (.int .i64 0))]))))⟩, ⟨(some 12), none, (.k (.mov (.t 35)))⟩, ⟨none, none, (.k (.st 3 (.t 13) (.t 37)))⟩]) rWorst_18)
def rWorst_16 : AC := (.block 1 rWorst_17)
def rWorst_15 : AC := (.seq rWorst_16 (.ops [⟨(some 82), none, (.k (.bin .add (.t 33) (.c (.sc (.int .i64 1)))))⟩, ⟨(some 33), none, (.k (.mov (.t 82)))⟩]))
def rWorst_14 : AC := (.seq (.cond (.t 34) .skip (.exit 0)) rWorst_15)
def rWorst_13 : AC := (.seq (.ops [⟨(some 34), none, (.k (.bin .lss (.t 33) (.t 32)))⟩]) rWorst_14)
def rWorst_12 : AC := (.loop rWorst_13)
def rWorst_11 : AC := (.block 0 rWorst_12)
def rWorst_10 : AC := (.seq (.ops [⟨(some 31), none, (.k (.mov (.t 1)))⟩, ⟨(some 32), none, (.k (.len (.t 31)))⟩, ⟨(some 33), none, (.k (.mov (.c (.sc (.int .i64 0)))))⟩]) rWorst_11)
def rWorst_9 : AC := (.seq rWorst_10 rWorst_35)
def rWorst_8 : AC := (.seq (.ops [⟨(some 11), none, (.k (.mov (.c (.imm true none 0 []))))⟩]) rWorst_9)
def rWorst_7 : AC := (.seq (.ops [⟨(some 10), none, (.k (.mov (.c (.sc (.int .i64 1)))))⟩]) rWorst_8)
def rWorst_6 : AC := (.seq (.ops [⟨(some 27), none, (.k (.mov (.t 0)))⟩, ⟨(some 28), none, (.call false (.c (.fn (.func 63) [] [])) [(.t 27)])⟩, ⟨(some 26), none, (.k (.mov (.t 28)))⟩, ⟨(some 29), none, (.k (.ext (.t 26) 0))⟩, ⟨(some 30), none, (.k (.ext (.t 26) 1))⟩, ⟨(some 8), none, (.k (.mov (.t 29)))⟩, ⟨(some 9), none, (.k (.mov (.t 30)))⟩]) rWorst_7)
def rWorst_5 : AC := (.seq (.ops [⟨(some 25), none, (.k (.mov (.t 7)))⟩, ⟨(some 4), none, (.k (.mov (.c (.imm true none 0 []))))⟩, ⟨(some 5), none, (.k (.mov (.t 25)))⟩]) .ret)
def rWorst_4 : AC := (.cond (.t 24) rWorst_5 .skip)
def rWorst_3 : AC := (.seq (.ops [⟨(some 23), none, (.k (.mov (.t 7)))⟩, ⟨(some 24), none, (.k (.bin .neq (.t 23) (.c (.sc (.int .i64 0)))))⟩]) rWorst_4)
def rWorst_2 : AC := (.seq rWorst_3 rWorst_6)
def rWorst_1 : AC := (.seq (.ops [⟨(some 18), none, (.k (.mov (.t 0)))⟩, ⟨(some 19), none, (.k (.mov (.t 1)))⟩, ⟨(some 20), none, (.call false (.c (.fn (.func 62) [] [])) [(.t 18), (.t 19)])⟩, ⟨(some 17), none, (.k (.mov (.t 20)))⟩, ⟨(some 21), none, (.k (.ext (.t 17) 0))⟩, ⟨(some 22), none, (.k (.ext (.t 17) 1))⟩, ⟨(some 6), none, (.k (.mov (.t 21)))⟩, ⟨(some 7), none, (.k (.mov (.t 22)))⟩]) rWorst_2)
def rWorst_ac : AC := (.seq (.ops [⟨(some 4), none, (.k (.mov (.c (.imm true none 0 []))))⟩, ⟨(some 5), none, (.k (.mov (.c (.sc (.int .i64 0)))))⟩]) rWorst_1)
theorem rWorst_call {args : List AV} {H : List AObj} {R : AV → List AObj → Prop} (h : AWp Try.prog [] H.length rWorst_ac (bodyQ H.length [(.t 4), (.t 5)] R) (args ++ List.replicate (84 - args.length) .und) H) : ACalls Try.prog 31 args H R :=
  ACalls.of_fn Try.func31 rfl (by kernel_rfl) rfl Try.ntmps31 h

set_option maxHeartbeats 4000000 in
theorem rWorst_spec {a b : AV} {xs : List Int} {fs : List (Int × Int × Int)} (ha : ISl a xs) (hb : Sp b fs) (hf : fs.length ≤ 1000) (hxl : xs.length ≤ 1000) : ACalls Try.prog 31 [a, b] [] fun r H' => H' = [] ∧ ∃ l, r = .tup [l, I (worstF xs fs).2] ∧ ISl l (worstF xs fs).1 := by
  have ha' := ha
  have hb' := hb
  obtain ⟨⟨nl, c, sz, rfl, hs⟩, hlen, hx⟩ := ha
  obtain ⟨⟨nl', c', sz', rfl, hs'⟩, hlen', hx'⟩ := hb
  have base : ACalls Try.prog 31 [.imm nl c sz (xs.map I), .imm nl' c' sz' (fs.map specV)] [] fun r G => (r = .tup [.imm true none 0 [], I (worstF xs fs).2] ∧ (worstF xs fs).1 = []) ∨ ((worstF xs fs).2 = 0 ∧ InI (worstF xs fs).1 ∧ ∃ v, (v = some true → (worstF xs fs).1 = []) ∧ v ≠ some false ∧ r = .tup [.slc 0 (worstF xs fs).1.length 0 (worstF xs fs).1.length none, I 0] ∧ G[0]? = some ⟨3, 1, (worstF xs fs).1.map I, true, v⟩) := by
    apply rWorst_call
    first | refine AWp.seq (AWp.ops ?_) | refine AWp.seq (AWp.seq (AWp.ops ?_)) | refine AWp.ops ?_ | refine AWp.seq (AWp.block (AWp.seq (AWp.ops ?_))) | refine AWp.seq (AWp.seq (AWp.seq (AWp.ops ?_))) | refine AWp.block (AWp.seq (AWp.ops ?_)) | refine AWp.block (AWp.seq (AWp.seq (AWp.ops ?_))) | refine AWp.seq (AWp.block (AWp.seq (AWp.seq (AWp.ops ?_))))
    simp
    first | refine AWp.seq (AWp.ops ?_) | refine AWp.seq (AWp.seq (AWp.ops ?_)) | refine AWp.ops ?_ | refine AWp.seq (AWp.block (AWp.seq (AWp.ops ?_))) | refine AWp.seq (AWp.seq (AWp.seq (AWp.ops ?_))) | refine AWp.block (AWp.seq (AWp.ops ?_)) | refine AWp.block (AWp.seq (AWp.seq (AWp.ops ?_))) | refine AWp.seq (AWp.block (AWp.seq (AWp.seq (AWp.ops ?_))))
    simp
    refine (rSizes_spec ha' hb' hf hxl).mono ?_
    rintro r H' ⟨rfl, l, rfl, hl⟩
    simp
    first | refine AWp.seq (AWp.ops ?_) | refine AWp.seq (AWp.seq (AWp.ops ?_)) | refine AWp.ops ?_ | refine AWp.seq (AWp.block (AWp.seq (AWp.ops ?_))) | refine AWp.seq (AWp.seq (AWp.seq (AWp.ops ?_))) | refine AWp.block (AWp.seq (AWp.ops ?_)) | refine AWp.block (AWp.seq (AWp.seq (AWp.ops ?_))) | refine AWp.seq (AWp.block (AWp.seq (AWp.seq (AWp.ops ?_))))
    simp
    refine AWp.cond (b := (sizesF xs fs).2 != 0) (by simp) ?_ ?_
    · intro h
      have h : (sizesF xs fs).2 ≠ 0 := by simpa using h
      first | refine AWp.seq (AWp.ops ?_) | refine AWp.seq (AWp.seq (AWp.ops ?_)) | refine AWp.ops ?_ | refine AWp.seq (AWp.block (AWp.seq (AWp.ops ?_))) | refine AWp.seq (AWp.seq (AWp.seq (AWp.ops ?_))) | refine AWp.block (AWp.seq (AWp.ops ?_)) | refine AWp.block (AWp.seq (AWp.seq (AWp.ops ?_))) | refine AWp.seq (AWp.block (AWp.seq (AWp.seq (AWp.ops ?_))))
      simp
      refine AWp.ret ?_
      simp
      refine retOk.of rfl ?_
      exact .inl (by simp [worstF, h])
    intro h0
    have h0 : (sizesF xs fs).2 = 0 := by simpa using h0
    obtain ⟨hc, hzl, hzv, hkind⟩ := sizesF_ok h0 fun s hs => (hx' s hs).2.2.2
    obtain ⟨Z, hZ⟩ : ∃ Z, Z = (sizesF xs fs).1 := ⟨_, rfl⟩
    rw [← hZ] at hl hzl hzv
    obtain ⟨⟨nl2, c2, z2, rfl, hz2⟩, hlr⟩ := hl
    have hcn := cells_nonneg'' hc
    obtain ⟨cs, hcs⟩ : ∃ cs, cs = (cells xs).1 := ⟨_, rfl⟩
    have hW1 : wGo cs fs Z 1 = none → worstF xs fs = ([], 2) := by
      rw [hcs, hZ]
      intro h
      simp only [worstF, h0, ne_eq, not_true_eq_false, if_false, h]
    have hW2 : ∀ l, wGo cs fs Z 1 = some l → worstF xs fs = (l, 0) := by
      rw [hcs, hZ]
      intro l h
      simp only [worstF, h0, ne_eq, not_true_eq_false, if_false, h]
    refine AWp.skip ?_
    simp only [qSeq]
    first | refine AWp.seq (AWp.ops ?_) | refine AWp.seq (AWp.seq (AWp.ops ?_)) | refine AWp.ops ?_ | refine AWp.seq (AWp.block (AWp.seq (AWp.ops ?_))) | refine AWp.seq (AWp.seq (AWp.seq (AWp.ops ?_))) | refine AWp.block (AWp.seq (AWp.ops ?_)) | refine AWp.block (AWp.seq (AWp.seq (AWp.ops ?_))) | refine AWp.seq (AWp.block (AWp.seq (AWp.seq (AWp.ops ?_))))
    simp
    refine (rCells_spec ha').mono ?_
    rintro r H' ⟨rfl, rfl⟩
    rw [← hcs] at hcn ⊢
    simp
    first | refine AWp.seq (AWp.ops ?_) | refine AWp.seq (AWp.seq (AWp.ops ?_)) | refine AWp.ops ?_ | refine AWp.seq (AWp.block (AWp.seq (AWp.ops ?_))) | refine AWp.seq (AWp.seq (AWp.seq (AWp.ops ?_))) | refine AWp.block (AWp.seq (AWp.ops ?_)) | refine AWp.block (AWp.seq (AWp.seq (AWp.ops ?_))) | refine AWp.seq (AWp.block (AWp.seq (AWp.seq (AWp.ops ?_))))
    simp
    first | refine AWp.seq (AWp.ops ?_) | refine AWp.seq (AWp.seq (AWp.ops ?_)) | refine AWp.ops ?_ | refine AWp.seq (AWp.block (AWp.seq (AWp.ops ?_))) | refine AWp.seq (AWp.seq (AWp.seq (AWp.ops ?_))) | refine AWp.block (AWp.seq (AWp.ops ?_)) | refine AWp.block (AWp.seq (AWp.seq (AWp.ops ?_))) | refine AWp.seq (AWp.block (AWp.seq (AWp.seq (AWp.ops ?_))))
    simp
    refine AWp.weak (Weak.own 11 3 1 (by omega) none 0 (by simp)) ?_
    simp
    first | refine AWp.seq (AWp.ops ?_) | refine AWp.seq (AWp.seq (AWp.ops ?_)) | refine AWp.ops ?_ | refine AWp.seq (AWp.block (AWp.seq (AWp.ops ?_))) | refine AWp.seq (AWp.seq (AWp.seq (AWp.ops ?_))) | refine AWp.block (AWp.seq (AWp.ops ?_)) | refine AWp.block (AWp.seq (AWp.seq (AWp.ops ?_))) | refine AWp.seq (AWp.block (AWp.seq (AWp.seq (AWp.ops ?_))))
    simp
    obtain ⟨J, hJ⟩ : ∃ J : Nat → List AV → List AObj → Prop, J = fun i fr H => i ≤ fs.length ∧ ∃ (ws : List Int) (v : Option Bool) (n : Int), (((ws.length = i ∧ ∀ w ∈ ws, 0 ≤ w ∧ w < 4611686018427387904) ∧ (v = some true → ws = []) ∧ v ≠ some false) ∧ (0 ≤ n ∧ n < 4611686018427387904) ∧ wGo cs fs Z 1 = (wGo cs (fs.drop i) (Z.drop i) n).map (ws ++ ·)) ∧ H = [⟨3, 1, ws.map I, true, v⟩] ∧
      fr = [.und, .und, .und, .und, .imm true none 0 [], I 0, .imm nl2 c2 z2 (Z.map I), .und, I cs, .und, I n, .slc 0 ws.length 0 ws.length none, .und, .und, .und, .und, .und, .und, .und, .und, .und, .und, .und, .und, .und, .und, .und, .und, .und, .und, .und, .imm nl' c' sz' (fs.map specV), I fs.length, I i, .und, .und, .und, .und, .und, .und, .und, .und, .und, .und, .und, .und, .und, .und, .und, .und, .und, .und, .und, .und, .und, .und, .und, .und, .und, .und, .und, .und, .und, .und, .und, .und, .und, .und, .und, .und, .und, .und, .und, .und, .und, .und, .und, .und, .und, .und, .und, .und, .und, .und] := ⟨_, rfl⟩
    refine AWp.block (AWp.loop J (fun i => fs.length - i) 0 (Weak.slots [4, 5, 6, 8, 10, 11, 31, 32, 33]) (by rw [hJ]; exact ⟨by omega, [], some true, 1, ⟨⟨⟨rfl, by simp⟩, by simp, by simp⟩, by omega, by simp⟩, by simp, by simp⟩) ?_)
    intro i fr H hI
    rw [hJ] at hI
    obtain ⟨hi, ws, v, n, hinv, rfl, rfl⟩ := hI
    first | refine AWp.seq (AWp.ops ?_) | refine AWp.seq (AWp.seq (AWp.ops ?_)) | refine AWp.ops ?_ | refine AWp.seq (AWp.block (AWp.seq (AWp.ops ?_))) | refine AWp.seq (AWp.seq (AWp.seq (AWp.ops ?_))) | refine AWp.block (AWp.seq (AWp.ops ?_)) | refine AWp.block (AWp.seq (AWp.seq (AWp.ops ?_))) | refine AWp.seq (AWp.block (AWp.seq (AWp.seq (AWp.ops ?_))))
    simp
    refine AWp.seq (AWp.cond (b := decide (i < fs.length)) (by simp <;> omega) ?_ ?_)
    ·
      intro hb
      have hb : i < fs.length := by simpa using hb
      refine AWp.skip ?_
      simp only [qSeq]
      obtain ⟨⟨⟨hwl, hwv⟩, hv1, hv2⟩, hn, hgo⟩ := hinv
      have hsz3 := sz3_of hs' hb
      subst hsz3
      have hbz : i < Z.length := by omega
      have hszz := sz_of hz2 hbz
      subst hszz
      have hgs := spec_get hb
      have hk5 := hkind fs[i] (List.getElem_mem hb)
      have hzr := hzv Z[i] (List.getElem_mem hbz)
      rw [List.drop_eq_getElem_cons hb, List.drop_eq_getElem_cons hbz] at hgo
      simp only [wGo] at hgo
      generalize fs[i] = sp at hgs hk5 hgo
      obtain ⟨k, mo, z⟩ := sp
      simp only at hgs hk5 hgo
      obtain ⟨nN, rfl⟩ : ∃ q : Nat, n = q := ⟨n.toNat, by omega⟩
      obtain ⟨zN, hzN⟩ : ∃ q : Nat, Z[i] = (q : Int) := ⟨Z[i].toNat, by omega⟩
      rw [hzN] at hgo hzr
      have hmul : (4611686018427387904 ≤ (nN : Int) * zN) ↔ 4611686018427387904 ≤ nN * zN := by rw [← Int.natCast_mul]; omega
      first | refine AWp.seq (AWp.ops ?_) | refine AWp.seq (AWp.seq (AWp.ops ?_)) | refine AWp.ops ?_ | refine AWp.seq (AWp.block (AWp.seq (AWp.ops ?_))) | refine AWp.seq (AWp.seq (AWp.seq (AWp.ops ?_))) | refine AWp.block (AWp.seq (AWp.ops ?_)) | refine AWp.block (AWp.seq (AWp.seq (AWp.ops ?_))) | refine AWp.seq (AWp.block (AWp.seq (AWp.seq (AWp.ops ?_))))
      simp [hgs]
      first | refine AWp.seq (AWp.ops ?_) | refine AWp.seq (AWp.seq (AWp.ops ?_)) | refine AWp.ops ?_ | refine AWp.seq (AWp.block (AWp.seq (AWp.ops ?_))) | refine AWp.seq (AWp.seq (AWp.seq (AWp.ops ?_))) | refine AWp.block (AWp.seq (AWp.ops ?_)) | refine AWp.block (AWp.seq (AWp.seq (AWp.ops ?_))) | refine AWp.seq (AWp.block (AWp.seq (AWp.seq (AWp.ops ?_))))
      simp
      obtain ⟨Po, hPo⟩ : ∃ Po : List AV → List AObj → Prop, Po = fun fr H => ∃ n1 : Int, ((k = 3 → n1 = nN) ∧ (k ≠ 3 → n1 = (if 4611686018427387904 ≤ (nN : Int) * zN then 65536 else (nN : Int) * zN) ∧ (4611686018427387904 ≤ (nN : Int) * zN → k = 1 ∨ k = 2))) ∧
          Weak 0 fr H [.und, .und, .und, .und, .imm true none 0 [], I 0, .imm nl2 c2 1 (Z.map I), .und, I cs, .und, .und, .slc 0 ws.length 0 ws.length none, .und, .ptr 1 1 0 0, I n1, .und, .und, .und, .und, .und, .und, .und, .und, .und, .und, .und, .und, .und, .und, .und, .und, .imm nl' c' 3 (fs.map specV), I fs.length, I i, .und, .und, .und, .und, .und, .und, .und, .und, .und, .und, .und, .und, .und, .und, .und, .und, .und, .und, .und, .und, .und, .und, .und, .und, .und, .und, .und, .und, .und, .und, .und, .und, .und, .und, .und, .und, .und, .und, .und, .und, .und, .und, .und, .und, .und, .und, .und, .und, .und, .und] [⟨3, 1, ws.map I, true, v⟩, specO (k, mo, z)] := ⟨_, rfl⟩
      have fin : ∀ (n1 : Int) (fr : List AV) (H : List AObj), ((k = 3 → n1 = nN) ∧ (k ≠ 3 → n1 = (if 4611686018427387904 ≤ (nN : Int) * zN then 65536 else (nN : Int) * zN) ∧ (4611686018427387904 ≤ (nN : Int) * zN → k = 1 ∨ k = 2))) →
          Weak 0 fr H [.und, .und, .und, .und, .imm true none 0 [], I 0, .imm nl2 c2 1 (Z.map I), .und, I cs, .und, .und, .slc 0 ws.length 0 ws.length none, .und, .ptr 1 1 0 0, I n1, .und, .und, .und, .und, .und, .und, .und, .und, .und, .und, .und, .und, .und, .und, .und, .und, .imm nl' c' 3 (fs.map specV), I fs.length, I i, .und, .und, .und, .und, .und, .und, .und, .und, .und, .und, .und, .und, .und, .und, .und, .und, .und, .und, .und, .und, .und, .und, .und, .und, .und, .und, .und, .und, .und, .und, .und, .und, .und, .und, .und, .und, .und, .und, .und, .und, .und, .und, .und, .und, .und, .und, .und, .und, .und, .und] [⟨3, 1, ws.map I, true, v⟩, specO (k, mo, z)] → Po fr H := by
        intro n1 fr H h1 h2
        rw [hPo]
        exact ⟨n1, h1, h2⟩
      refine AWp.cutO Po ?_ ?_
      ·
        first | refine AWp.seq (AWp.ops ?_) | refine AWp.seq (AWp.seq (AWp.ops ?_)) | refine AWp.ops ?_ | refine AWp.seq (AWp.block (AWp.seq (AWp.ops ?_))) | refine AWp.seq (AWp.seq (AWp.seq (AWp.ops ?_))) | refine AWp.block (AWp.seq (AWp.ops ?_)) | refine AWp.block (AWp.seq (AWp.seq (AWp.ops ?_))) | refine AWp.seq (AWp.block (AWp.seq (AWp.seq (AWp.ops ?_))))
        simp
        by_cases k3 : k = 3
        · refine AWp.cond (b := false) (by simp [k3]) (fun h => by cases h) (fun _ => ?_)
          refine AWp.skip ?_
          simp only [qSeq]
          exact fin nN _ _ ⟨fun _ => rfl, fun h => absurd k3 h⟩ ((Weak.slots [4, 5, 6, 8, 11, 13, 14, 31, 32, 33]).to (by simp) rfl)
        refine AWp.cond (b := true) (by simp [k3]) (fun _ => ?_) (fun h => by cases h)
        first | refine AWp.seq (AWp.ops ?_) | refine AWp.seq (AWp.seq (AWp.ops ?_)) | refine AWp.ops ?_ | refine AWp.seq (AWp.block (AWp.seq (AWp.ops ?_))) | refine AWp.seq (AWp.seq (AWp.seq (AWp.ops ?_))) | refine AWp.block (AWp.seq (AWp.ops ?_)) | refine AWp.block (AWp.seq (AWp.seq (AWp.ops ?_))) | refine AWp.seq (AWp.block (AWp.seq (AWp.seq (AWp.ops ?_))))
        simp [hbz, hzN]
        refine ((rTimes_spec (x := nN) (y := zN) (by omega) (by omega)).pure (by simp) (by rintro r rfl; simp) _).mono ?_
        rintro r H' ⟨rfl, rfl⟩
        by_cases hbig : 4611686018427387904 ≤ nN * zN
        · simp only [hbig]
          simp
          by_cases k1 : k = 1
          ·
            first | refine AWp.seq (AWp.ops ?_) | refine AWp.seq (AWp.seq (AWp.ops ?_)) | refine AWp.ops ?_ | refine AWp.seq (AWp.block (AWp.seq (AWp.ops ?_))) | refine AWp.seq (AWp.seq (AWp.seq (AWp.ops ?_))) | refine AWp.block (AWp.seq (AWp.ops ?_)) | refine AWp.block (AWp.seq (AWp.seq (AWp.ops ?_))) | refine AWp.seq (AWp.block (AWp.seq (AWp.seq (AWp.ops ?_))))
            simp [k1]
            refine AWp.cond (b := false) (by simp) (fun h => by cases h) (fun _ => ?_)
            refine AWp.skip ?_
            simp only [qSeq]
            first | refine AWp.seq (AWp.ops ?_) | refine AWp.seq (AWp.seq (AWp.ops ?_)) | refine AWp.ops ?_ | refine AWp.seq (AWp.block (AWp.seq (AWp.ops ?_))) | refine AWp.seq (AWp.seq (AWp.seq (AWp.ops ?_))) | refine AWp.block (AWp.seq (AWp.ops ?_)) | refine AWp.block (AWp.seq (AWp.seq (AWp.ops ?_))) | refine AWp.seq (AWp.block (AWp.seq (AWp.seq (AWp.ops ?_))))
            simp
            refine AWp.cond (b := true) (by simp) (fun _ => ?_) (fun h => by cases h)
            first | refine AWp.seq (AWp.ops ?_) | refine AWp.seq (AWp.seq (AWp.ops ?_)) | refine AWp.ops ?_ | refine AWp.seq (AWp.block (AWp.seq (AWp.ops ?_))) | refine AWp.seq (AWp.seq (AWp.seq (AWp.ops ?_))) | refine AWp.block (AWp.seq (AWp.ops ?_)) | refine AWp.block (AWp.seq (AWp.seq (AWp.ops ?_))) | refine AWp.seq (AWp.block (AWp.seq (AWp.seq (AWp.ops ?_))))
            simp
            first | refine AWp.seq (AWp.ops ?_) | refine AWp.seq (AWp.seq (AWp.ops ?_)) | refine AWp.ops ?_ | refine AWp.seq (AWp.block (AWp.seq (AWp.ops ?_))) | refine AWp.seq (AWp.seq (AWp.seq (AWp.ops ?_))) | refine AWp.block (AWp.seq (AWp.ops ?_)) | refine AWp.block (AWp.seq (AWp.seq (AWp.ops ?_))) | refine AWp.seq (AWp.block (AWp.seq (AWp.seq (AWp.ops ?_))))
            simp
            exact fin 65536 _ _ ⟨fun h => absurd h k3, fun _ => ⟨by rw [if_pos (hmul.2 hbig)], fun _ => .inl k1⟩⟩ ((Weak.slots [4, 5, 6, 8, 11, 13, 14, 31, 32, 33]).to (by simp) (by simp [k1]))
          by_cases k2 : k = 2
          ·
            first | refine AWp.seq (AWp.ops ?_) | refine AWp.seq (AWp.seq (AWp.ops ?_)) | refine AWp.ops ?_ | refine AWp.seq (AWp.block (AWp.seq (AWp.ops ?_))) | refine AWp.seq (AWp.seq (AWp.seq (AWp.ops ?_))) | refine AWp.block (AWp.seq (AWp.ops ?_)) | refine AWp.block (AWp.seq (AWp.seq (AWp.ops ?_))) | refine AWp.seq (AWp.block (AWp.seq (AWp.seq (AWp.ops ?_))))
            simp [k1, k2]
            refine AWp.cond (b := false) (by simp) (fun h => by cases h) (fun _ => ?_)
            refine AWp.skip ?_
            simp only [qSeq]
            first | refine AWp.seq (AWp.ops ?_) | refine AWp.seq (AWp.seq (AWp.ops ?_)) | refine AWp.ops ?_ | refine AWp.seq (AWp.block (AWp.seq (AWp.ops ?_))) | refine AWp.seq (AWp.seq (AWp.seq (AWp.ops ?_))) | refine AWp.block (AWp.seq (AWp.ops ?_)) | refine AWp.block (AWp.seq (AWp.seq (AWp.ops ?_))) | refine AWp.seq (AWp.block (AWp.seq (AWp.seq (AWp.ops ?_))))
            simp
            refine AWp.cond (b := true) (by simp) (fun _ => ?_) (fun h => by cases h)
            first | refine AWp.seq (AWp.ops ?_) | refine AWp.seq (AWp.seq (AWp.ops ?_)) | refine AWp.ops ?_ | refine AWp.seq (AWp.block (AWp.seq (AWp.ops ?_))) | refine AWp.seq (AWp.seq (AWp.seq (AWp.ops ?_))) | refine AWp.block (AWp.seq (AWp.ops ?_)) | refine AWp.block (AWp.seq (AWp.seq (AWp.ops ?_))) | refine AWp.seq (AWp.block (AWp.seq (AWp.seq (AWp.ops ?_))))
            simp
            first | refine AWp.seq (AWp.ops ?_) | refine AWp.seq (AWp.seq (AWp.ops ?_)) | refine AWp.ops ?_ | refine AWp.seq (AWp.block (AWp.seq (AWp.ops ?_))) | refine AWp.seq (AWp.seq (AWp.seq (AWp.ops ?_))) | refine AWp.block (AWp.seq (AWp.ops ?_)) | refine AWp.block (AWp.seq (AWp.seq (AWp.ops ?_))) | refine AWp.seq (AWp.block (AWp.seq (AWp.seq (AWp.ops ?_))))
            simp
            exact fin 65536 _ _ ⟨fun h => absurd h k3, fun _ => ⟨by rw [if_pos (hmul.2 hbig)], fun _ => .inr k2⟩⟩ ((Weak.slots [4, 5, 6, 8, 11, 13, 14, 31, 32, 33]).to (by simp) (by simp [k2]))
          ·
            first | refine AWp.seq (AWp.ops ?_) | refine AWp.seq (AWp.seq (AWp.ops ?_)) | refine AWp.ops ?_ | refine AWp.seq (AWp.block (AWp.seq (AWp.ops ?_))) | refine AWp.seq (AWp.seq (AWp.seq (AWp.ops ?_))) | refine AWp.block (AWp.seq (AWp.ops ?_)) | refine AWp.block (AWp.seq (AWp.seq (AWp.ops ?_))) | refine AWp.seq (AWp.block (AWp.seq (AWp.seq (AWp.ops ?_))))
            simp [k1, k2]
            refine AWp.cond (b := true) (by simp [k2]) (fun _ => ?_) (fun h => by cases h)
            first | refine AWp.seq (AWp.ops ?_) | refine AWp.seq (AWp.seq (AWp.ops ?_)) | refine AWp.ops ?_ | refine AWp.seq (AWp.block (AWp.seq (AWp.ops ?_))) | refine AWp.seq (AWp.seq (AWp.seq (AWp.ops ?_))) | refine AWp.block (AWp.seq (AWp.ops ?_)) | refine AWp.block (AWp.seq (AWp.seq (AWp.ops ?_))) | refine AWp.seq (AWp.block (AWp.seq (AWp.seq (AWp.ops ?_))))
            simp
            refine AWp.ret ?_
            simp
            refine retOk.of rfl ?_
            have hst : wStep cs nN k zN = none := by simp only [wStep, if_neg k1, if_neg k2, if_neg k3, if_pos (hmul.2 hbig)]
            rw [hW1 (by rw [hgo, hst]; rfl)]
            exact .inl ⟨by simp, rfl⟩
        · simp only [hbig]
          simp
          first | refine AWp.seq (AWp.ops ?_) | refine AWp.seq (AWp.seq (AWp.ops ?_)) | refine AWp.ops ?_ | refine AWp.seq (AWp.block (AWp.seq (AWp.ops ?_))) | refine AWp.seq (AWp.seq (AWp.seq (AWp.ops ?_))) | refine AWp.block (AWp.seq (AWp.ops ?_)) | refine AWp.block (AWp.seq (AWp.seq (AWp.ops ?_))) | refine AWp.seq (AWp.block (AWp.seq (AWp.seq (AWp.ops ?_))))
          simp
          refine AWp.cond (b := false) (by simp) (fun h => by cases h) (fun _ => ?_)
          refine AWp.skip ?_
          simp only [qSeq]
          first | refine AWp.seq (AWp.ops ?_) | refine AWp.seq (AWp.seq (AWp.ops ?_)) | refine AWp.ops ?_ | refine AWp.seq (AWp.block (AWp.seq (AWp.ops ?_))) | refine AWp.seq (AWp.seq (AWp.seq (AWp.ops ?_))) | refine AWp.block (AWp.seq (AWp.ops ?_)) | refine AWp.block (AWp.seq (AWp.seq (AWp.ops ?_))) | refine AWp.seq (AWp.block (AWp.seq (AWp.seq (AWp.ops ?_))))
          simp
          refine AWp.cond (b := false) (by simp) (fun h => by cases h) (fun _ => ?_)
          refine AWp.skip ?_
          simp only [qSeq]
          first | refine AWp.seq (AWp.ops ?_) | refine AWp.seq (AWp.seq (AWp.ops ?_)) | refine AWp.ops ?_ | refine AWp.seq (AWp.block (AWp.seq (AWp.ops ?_))) | refine AWp.seq (AWp.seq (AWp.seq (AWp.ops ?_))) | refine AWp.block (AWp.seq (AWp.ops ?_)) | refine AWp.block (AWp.seq (AWp.seq (AWp.ops ?_))) | refine AWp.seq (AWp.block (AWp.seq (AWp.seq (AWp.ops ?_))))
          simp
          exact fin ((nN : Int) * zN) _ _ ⟨fun h => absurd h k3, fun _ => ⟨by rw [if_neg (fun h => hbig (hmul.1 h))], fun h => absurd (hmul.1 h) hbig⟩⟩ ((Weak.slots [4, 5, 6, 8, 11, 13, 14, 31, 32, 33]).to (by simp) rfl)
      intro fr H hq
      rw [hPo] at hq
      obtain ⟨n1, ⟨hn3, hnn⟩, hw⟩ := hq
      refine AWp.weak hw ?_
      have next : ∀ (m : Int), wStep cs nN k zN = some m → (0 ≤ m ∧ m < 4611686018427387904) ∧ wGo cs fs Z 1 = (wGo cs (fs.drop (i + 1)) (Z.drop (i + 1)) m).map ((ws ++ [m]) ++ ·) := by
        intro m hst
        refine ⟨wStep_range hst ⟨by omega, hn.2⟩ hcn (by omega), ?_⟩
        rw [hgo, hst]
        simp only [Option.bind_some]
        generalize wGo cs (fs.drop (i + 1)) (Z.drop (i + 1)) m = o
        cases o <;> simp
      have b1 : (ws.length + 1) * 8 ≤ 140737488355328 := by omega
      have b2 : ws.length + 1 ≤ 9223372036854775807 := by omega
      have hwi := wrap_i64 (n := (i : Int) + 1) (by omega) (by omega)
      have fin2 : ∀ (m : Int) (fr : List AV) (H : List AObj), wStep cs nN k zN = some m →
          Weak 0 fr H [.und, .und, .und, .und, .imm true none 0 [], I 0, .imm nl2 c2 1 (Z.map I), .und, I cs, .und, I m, .slc 0 (ws.length + 1) 0 (ws.length + 1) none, .und, .und, .und, .und, .und, .und, .und, .und, .und, .und, .und, .und, .und, .und, .und, .und, .und, .und, .und, .imm nl' c' 3 (fs.map specV), I fs.length, I ((i : Int) + 1), .und, .und, .und, .und, .und, .und, .und, .und, .und, .und, .und, .und, .und, .und, .und, .und, .und, .und, .und, .und, .und, .und, .und, .und, .und, .und, .und, .und, .und, .und, .und, .und, .und, .und, .und, .und, .und, .und, .und, .und, .und, .und, .und, .und, .und, .und, .und, .und, .und, .und] [⟨3, 1, (ws ++ [m]).map I, true, none⟩] →
          ∃ s' fr'' H'', Weak 0 fr H fr'' H'' ∧ J s' fr'' H'' ∧ fs.length - s' < fs.length - i := by
        intro m fr H hst hw
        obtain ⟨r1, r2⟩ := next m hst
        refine ⟨i + 1, _, _, hw, ?_, by omega⟩
        rw [hJ]
        refine ⟨by omega, ws ++ [m], none, m, ⟨⟨⟨by simp [hwl], fun w hw => ?_⟩, by simp, by simp⟩, r1, r2⟩, rfl, by simp⟩
        rcases List.mem_append.1 hw with h | h
        · exact hwv w h
        · have : w = m := by simpa using h
          omega
      first | refine AWp.seq (AWp.ops ?_) | refine AWp.seq (AWp.seq (AWp.ops ?_)) | refine AWp.ops ?_ | refine AWp.seq (AWp.block (AWp.seq (AWp.ops ?_))) | refine AWp.seq (AWp.seq (AWp.seq (AWp.ops ?_))) | refine AWp.block (AWp.seq (AWp.ops ?_)) | refine AWp.block (AWp.seq (AWp.seq (AWp.ops ?_))) | refine AWp.seq (AWp.block (AWp.seq (AWp.seq (AWp.ops ?_))))
      simp
      by_cases k1 : k = 1
      · refine AWp.cond (b := true) (by simp [k1]) (fun _ => ?_) (fun h => by cases h)
        first | refine AWp.seq (AWp.ops ?_) | refine AWp.seq (AWp.seq (AWp.ops ?_)) | refine AWp.ops ?_ | refine AWp.seq (AWp.block (AWp.seq (AWp.ops ?_))) | refine AWp.seq (AWp.seq (AWp.seq (AWp.ops ?_))) | refine AWp.block (AWp.seq (AWp.ops ?_)) | refine AWp.block (AWp.seq (AWp.seq (AWp.ops ?_))) | refine AWp.seq (AWp.block (AWp.seq (AWp.seq (AWp.ops ?_))))
        simp
        first | refine AWp.seq (AWp.ops ?_) | refine AWp.seq (AWp.seq (AWp.ops ?_)) | refine AWp.ops ?_ | refine AWp.seq (AWp.block (AWp.seq (AWp.ops ?_))) | refine AWp.seq (AWp.seq (AWp.seq (AWp.ops ?_))) | refine AWp.block (AWp.seq (AWp.ops ?_)) | refine AWp.block (AWp.seq (AWp.seq (AWp.ops ?_))) | refine AWp.seq (AWp.block (AWp.seq (AWp.seq (AWp.ops ?_))))
        simp
        refine AWp.cond (b := false) (by simp [k1]) (fun h => by cases h) (fun _ => ?_)
        refine AWp.skip ?_
        simp only [qSeq]
        have hst : wStep cs nN k zN = some (minI (minI n1 cs) 65536) := by
          simp only [wStep, if_neg (show ¬ k = 3 by omega), if_neg (show ¬ k = 2 by omega), if_pos k1, (hnn (by omega)).1]
        first | refine AWp.seq (AWp.ops ?_) | refine AWp.seq (AWp.seq (AWp.ops ?_)) | refine AWp.ops ?_ | refine AWp.seq (AWp.block (AWp.seq (AWp.ops ?_))) | refine AWp.seq (AWp.seq (AWp.seq (AWp.ops ?_))) | refine AWp.block (AWp.seq (AWp.ops ?_)) | refine AWp.block (AWp.seq (AWp.seq (AWp.ops ?_))) | refine AWp.seq (AWp.block (AWp.seq (AWp.seq (AWp.ops ?_))))
        simp [b1, b2, elems]
        first | refine AWp.seq (AWp.ops ?_) | refine AWp.seq (AWp.seq (AWp.ops ?_)) | refine AWp.ops ?_ | refine AWp.seq (AWp.block (AWp.seq (AWp.ops ?_))) | refine AWp.seq (AWp.seq (AWp.seq (AWp.ops ?_))) | refine AWp.block (AWp.seq (AWp.ops ?_)) | refine AWp.block (AWp.seq (AWp.seq (AWp.ops ?_))) | refine AWp.seq (AWp.block (AWp.seq (AWp.seq (AWp.ops ?_))))
        simp
        first | refine AWp.seq (AWp.ops ?_) | refine AWp.seq (AWp.seq (AWp.ops ?_)) | refine AWp.ops ?_ | refine AWp.seq (AWp.block (AWp.seq (AWp.ops ?_))) | refine AWp.seq (AWp.seq (AWp.seq (AWp.ops ?_))) | refine AWp.block (AWp.seq (AWp.ops ?_)) | refine AWp.block (AWp.seq (AWp.seq (AWp.ops ?_))) | refine AWp.seq (AWp.block (AWp.seq (AWp.seq (AWp.ops ?_))))
        simp [hwi]
        exact fin2 _ _ _ hst (((Weak.slots [4, 5, 6, 8, 10, 11, 31, 32, 33]).trans (Weak.freeze 1 2 (by simp))).to (by simp [minI]; rfl) (by simp [frzH, minI]; rfl))
      refine AWp.cond (b := false) (by simp [k1]) (fun h => by cases h) (fun _ => ?_)
      refine AWp.skip ?_
      simp only [qSeq]
      first | refine AWp.seq (AWp.ops ?_) | refine AWp.seq (AWp.seq (AWp.ops ?_)) | refine AWp.ops ?_ | refine AWp.seq (AWp.block (AWp.seq (AWp.ops ?_))) | refine AWp.seq (AWp.seq (AWp.seq (AWp.ops ?_))) | refine AWp.block (AWp.seq (AWp.ops ?_)) | refine AWp.block (AWp.seq (AWp.seq (AWp.ops ?_))) | refine AWp.seq (AWp.block (AWp.seq (AWp.seq (AWp.ops ?_))))
      simp
      by_cases k2 : k = 2
      · refine AWp.cond (b := true) (by simp [k2]) (fun _ => ?_) (fun h => by cases h)
        first | refine AWp.seq (AWp.ops ?_) | refine AWp.seq (AWp.seq (AWp.ops ?_)) | refine AWp.ops ?_ | refine AWp.seq (AWp.block (AWp.seq (AWp.ops ?_))) | refine AWp.seq (AWp.seq (AWp.seq (AWp.ops ?_))) | refine AWp.block (AWp.seq (AWp.ops ?_)) | refine AWp.block (AWp.seq (AWp.seq (AWp.ops ?_))) | refine AWp.seq (AWp.block (AWp.seq (AWp.seq (AWp.ops ?_))))
        simp
        have hst : wStep cs nN k zN = some (minI cs 65536) := by
          simp only [wStep, if_neg (show ¬ k = 3 by omega), if_pos k2]
        first | refine AWp.seq (AWp.ops ?_) | refine AWp.seq (AWp.seq (AWp.ops ?_)) | refine AWp.ops ?_ | refine AWp.seq (AWp.block (AWp.seq (AWp.ops ?_))) | refine AWp.seq (AWp.seq (AWp.seq (AWp.ops ?_))) | refine AWp.block (AWp.seq (AWp.ops ?_)) | refine AWp.block (AWp.seq (AWp.seq (AWp.ops ?_))) | refine AWp.seq (AWp.block (AWp.seq (AWp.seq (AWp.ops ?_))))
        simp [b1, b2, elems]
        first | refine AWp.seq (AWp.ops ?_) | refine AWp.seq (AWp.seq (AWp.ops ?_)) | refine AWp.ops ?_ | refine AWp.seq (AWp.block (AWp.seq (AWp.ops ?_))) | refine AWp.seq (AWp.seq (AWp.seq (AWp.ops ?_))) | refine AWp.block (AWp.seq (AWp.ops ?_)) | refine AWp.block (AWp.seq (AWp.seq (AWp.ops ?_))) | refine AWp.seq (AWp.block (AWp.seq (AWp.seq (AWp.ops ?_))))
        simp
        first | refine AWp.seq (AWp.ops ?_) | refine AWp.seq (AWp.seq (AWp.ops ?_)) | refine AWp.ops ?_ | refine AWp.seq (AWp.block (AWp.seq (AWp.ops ?_))) | refine AWp.seq (AWp.seq (AWp.seq (AWp.ops ?_))) | refine AWp.block (AWp.seq (AWp.ops ?_)) | refine AWp.block (AWp.seq (AWp.seq (AWp.ops ?_))) | refine AWp.seq (AWp.block (AWp.seq (AWp.seq (AWp.ops ?_))))
        simp [hwi]
        exact fin2 _ _ _ hst (((Weak.slots [4, 5, 6, 8, 10, 11, 31, 32, 33]).trans (Weak.freeze 1 2 (by simp))).to (by simp [minI]) (by simp [frzH, minI]))
      refine AWp.cond (b := false) (by simp [k2]) (fun h => by cases h) (fun _ => ?_)
      refine AWp.skip ?_
      simp only [qSeq]
      have hst : wStep cs nN k zN = some n1 := by
        by_cases k3 : k = 3
        · simp only [wStep, if_pos k3, hn3 k3]
        · obtain ⟨e1, e2⟩ := hnn k3
          have hnb : ¬ 4611686018427387904 ≤ (nN : Int) * zN := fun h => by
            rcases e2 h with h | h
            · exact k1 h
            · exact k2 h
          rw [if_neg hnb] at e1
          simp only [wStep, if_neg k3, if_neg k2, if_neg k1, if_neg hnb, e1]
      first | refine AWp.seq (AWp.ops ?_) | refine AWp.seq (AWp.seq (AWp.ops ?_)) | refine AWp.ops ?_ | refine AWp.seq (AWp.block (AWp.seq (AWp.ops ?_))) | refine AWp.seq (AWp.seq (AWp.seq (AWp.ops ?_))) | refine AWp.block (AWp.seq (AWp.ops ?_)) | refine AWp.block (AWp.seq (AWp.seq (AWp.ops ?_))) | refine AWp.seq (AWp.block (AWp.seq (AWp.seq (AWp.ops ?_))))
      simp [b1, b2, elems]
      first | refine AWp.seq (AWp.ops ?_) | refine AWp.seq (AWp.seq (AWp.ops ?_)) | refine AWp.ops ?_ | refine AWp.seq (AWp.block (AWp.seq (AWp.ops ?_))) | refine AWp.seq (AWp.seq (AWp.seq (AWp.ops ?_))) | refine AWp.block (AWp.seq (AWp.ops ?_)) | refine AWp.block (AWp.seq (AWp.seq (AWp.ops ?_))) | refine AWp.seq (AWp.block (AWp.seq (AWp.seq (AWp.ops ?_))))
      simp
      first | refine AWp.seq (AWp.ops ?_) | refine AWp.seq (AWp.seq (AWp.ops ?_)) | refine AWp.ops ?_ | refine AWp.seq (AWp.block (AWp.seq (AWp.ops ?_))) | refine AWp.seq (AWp.seq (AWp.seq (AWp.ops ?_))) | refine AWp.block (AWp.seq (AWp.ops ?_)) | refine AWp.block (AWp.seq (AWp.seq (AWp.ops ?_))) | refine AWp.seq (AWp.block (AWp.seq (AWp.seq (AWp.ops ?_))))
      simp [hwi]
      exact fin2 _ _ _ hst (((Weak.slots [4, 5, 6, 8, 10, 11, 31, 32, 33]).trans (Weak.freeze 1 2 (by simp))).to (by simp) (by simp [frzH]))
    ·
      intro hb
      have hb : ¬ i < fs.length := by simpa using hb
      refine AWp.exit ?_
      simp [qSeq, qBlock]
      obtain ⟨⟨⟨hwl, hwv⟩, hv1, hv2⟩, hn, hgo⟩ := hinv
      rw [List.drop_eq_nil_of_le (by omega)] at hgo
      simp only [wGo, Option.map_some, List.append_nil] at hgo
      have hW3 : worstF xs fs = (ws, 0) := hW2 _ hgo
      first | refine AWp.seq (AWp.ops ?_) | refine AWp.seq (AWp.seq (AWp.ops ?_)) | refine AWp.ops ?_ | refine AWp.seq (AWp.block (AWp.seq (AWp.ops ?_))) | refine AWp.seq (AWp.seq (AWp.seq (AWp.ops ?_))) | refine AWp.block (AWp.seq (AWp.ops ?_)) | refine AWp.block (AWp.seq (AWp.seq (AWp.ops ?_))) | refine AWp.seq (AWp.block (AWp.seq (AWp.seq (AWp.ops ?_))))
      simp
      refine AWp.ret ?_
      simp
      refine retOk.of rfl ?_
      rw [hW3]
      exact .inr ⟨rfl, ⟨by show ws.length ≤ _; omega, fun x hx => by have := hwv x hx; omega⟩, v, hv1, hv2, by simp, by simp⟩
  refine (base.frozen 2).mono ?_
  rintro q H' ⟨rfl, r, G, ⟨rfl, h1⟩ | ⟨h0, h1, v, hv1, hv2, rfl, h2⟩, rfl⟩
  · exact ⟨rfl, _, by simp; rfl, by rw [h1]; exact ⟨⟨true, none, 0, rfl, by simp, by simp⟩, by simp, by simp⟩⟩
  · refine ⟨rfl, _, by simp [h0]; rfl, ?_⟩
    match v, hv1, hv2 with
    | some true, hv1, _ =>
      have h3 := hv1 rfl
      rw [h3]
      exact ⟨⟨true, none, 1, by simp [h2, h3], by simp, by simp⟩, by simp, by simp⟩
    | none, _, _ => exact ⟨⟨false, none, 1, by simp [h2], by simp, by simp⟩, h1⟩
    | some false, _, h => exact absurd rfl h
end Go.Fw
