import Derived.Test.YtkfooghdpfhiaaaFwsize1
namespace Go.Fw
open Go Go.RowKit Go.Proofs
set_option maxRecDepth 100000
set_option linter.unusedSimpArgs false
set_option linter.unusedVariables false

theorem mulAll_nonneg' : ∀ (xs : List Int) (n : Int), (∀ x ∈ xs, 0 ≤ x) → 0 ≤ n → 0 ≤ (mulAll xs n).1
  | [], n, _, h => h
  | s :: r, n, hx, h => by
    simp only [mulAll]
    split
    · simp
    · exact mulAll_nonneg' r _ (fun x hx' => hx x (by simp [hx'])) (Int.mul_nonneg h (hx s (by simp)))
theorem cells_nonneg'' {xs : List Int} (h : (cells xs).2 = 0) : 0 ≤ (cells xs).1 := by
  obtain ⟨hx, _⟩ := cells_nonneg' h
  unfold cells
  split
  · simp
  · split
    · simp
    · exact mulAll_nonneg' _ _ hx (by omega)

def Worst_38 : AC := (.seq (.ops [⟨(some 78), none, (.k (.mov (.t 10)))⟩, ⟨(some 4), none, (.k (.mov (.t 78)))⟩, ⟨(some 5), none, (.k (.mov (.c (.sc (.int .i64 0)))))⟩]) .ret)
def Worst_37 : AC := (.cond (.t 56) (.seq (.ops [⟨(some 4), none, (.k (.mov (.c (.imm true none 0 []))))⟩, ⟨(some 5), none, (.k (.mov (.c (.sc (.int .i64 2)))))⟩]) .ret) .skip)
def Worst_36 : AC := (.seq (.ops [⟨(some 53), none, (.k (.mov (.t 13)))⟩, ⟨(some 54), none, (.k (.nck (.t 53)))⟩, ⟨(some 55), none, (.k (.fad 0 (.t 54)))⟩, ⟨(some 56), none, (.k (.ld 1 false (.t 55)))⟩]) Worst_37)
def Worst_35 : AC := (.seq Worst_36 (.ops [⟨(some 57), none, (.k (.mov (.t 14)))⟩, ⟨(some 9), none, (.k (.mov (.t 57)))⟩]))
def Worst_34 : AC := (.seq (.ops [⟨(some 66), none, (.k (.mov (.t 13)))⟩, ⟨(some 67), none, (.k (.nck (.t 66)))⟩, ⟨(some 68), none, (.k (.fad 0 (.t 67)))⟩, ⟨(some 69), none, (.k (.ld 1 false (.t 68)))⟩]) (.cond (.t 69) (.ops [⟨(some 14), none, (.k (.mov (.c (.sc (.int .i64 65536)))))⟩]) .skip))
def Worst_33 : AC := (.seq Worst_34 (.ops [⟨(some 70), none, (.k (.mov (.t 14)))⟩, ⟨(some 71), none, (.k (.mov (.t 8)))⟩, ⟨(some 72), none, (.k (.mm3 false (.t 70) (.t 71) (.c (.sc (.int .i64 65536)))))⟩, ⟨(some 9), none, (.k (.mov (.t 72)))⟩]))
def Worst_32 : AC := (.cond (.t 64) Worst_33 Worst_35)
def Worst_31 : AC := (.seq (.ops [⟨(some 65), none, (.k (.bin .eql (.t 52) (.c (.sc (.int .i64 1)))))⟩, ⟨(some 64), none, (.k (.mov (.t 65)))⟩]) Worst_32)
def Worst_30 : AC := (.cond (.t 60) (.ops [⟨(some 62), none, (.k (.mov (.t 8)))⟩, ⟨(some 63), none, (.k (.mm false (.t 62) (.c (.sc (.int .i64 65536)))))⟩, ⟨(some 9), none, (.k (.mov (.t 63)))⟩]) Worst_31)
def Worst_29 : AC := (.seq (.ops [⟨(some 61), none, (.k (.bin .eql (.t 52) (.c (.sc (.int .i64 2)))))⟩, ⟨(some 60), none, (.k (.mov (.t 61)))⟩]) Worst_30)
def Worst_28 : AC := (.cond (.t 58) .skip Worst_29)
def Worst_27 : AC := (.seq (.ops [⟨(some 59), none, (.k (.bin .eql (.t 52) (.c (.sc (.int .i64 3)))))⟩, ⟨(some 58), none, (.k (.mov (.t 59)))⟩]) Worst_28)
def Worst_26 : AC := (.block 2 Worst_27)
def Worst_25 : AC := (.seq (.ops [⟨(some 51), none, (.k (.fad 0 (.t 12)))⟩, ⟨(some 52), none, (.k (.ld 1 false (.t 51)))⟩]) Worst_26)
def Worst_24 : AC := (.seq Worst_25 (.ops [⟨(some 73), none, (.k (.mov (.t 10)))⟩, ⟨(some 74), none, (.k (.mov (.t 9)))⟩, ⟨(some 75), none, (.k (.lit 1 [(.t 74)]))⟩, ⟨(some 76), none, (.k (.app 3 1 8 (.t 73) (.t 75)))⟩, ⟨(some 10), none, (.k (.mov (.t 76)))⟩]))
def Worst_23 : AC := (.seq (.ops [⟨(some 44), none, (.k (.mov (.t 13)))⟩, ⟨(some 45), none, (.k (.mov (.t 9)))⟩, ⟨(some 46), none, (.k (.mov (.t 6)))⟩, ⟨(some 47), none, (.k (.mov (.t 11)))⟩, ⟨(some 48), none, (.k (.iad 1 (.t 46) (.t 47)))⟩, ⟨(some 49), none, (.k (.ld 1 false (.t 48)))⟩, ⟨(some 50), none, (.call false (.c (.fn (.func 39) [] [])) [(.t 44), (.t 45), (.t 49)])⟩, ⟨(some 14), none, (.k (.mov (.t 50)))⟩]) Worst_24)
def Worst_22 : AC := (.seq (.ops [⟨(some 42), none, (.k (.mk [(.sc (.bool false))] []))⟩, ⟨(some 43), none, (.k (.new 65 1 (.t 42)))⟩, ⟨(some 13), none, (.k (.mov (.t 43)))⟩]) Worst_23)
def Worst_21 : AC := (.seq (.ops [⟨(some 39), none, (.k (.mov (.t 37)))⟩, ⟨(some 40), none, (.k (.iad 3 (.t 35) (.t 37)))⟩, ⟨(some 41), none, (.k (.ld 3 true (.t 40)))⟩, ⟨(some 12), none, (.k (.new 29 3 (.c (.agg [(.sc (.int .i64 0)), (.sc (.int .i64 0)), (.sc (.int .i64 0))]))))⟩, ⟨(some 11), none, (.k (.mov (.t 39)))⟩, ⟨none, none, (.k (.st 3 (.t 12) (.t 41)))⟩]) Worst_22)
def Worst_20 : AC := (.block 1 Worst_21)
def Worst_19 : AC := (.seq Worst_20 (.ops [⟨(some 77), none, (.k (.bin .add (.t 37) (.c (.sc (.int .i64 1)))))⟩, ⟨(some 37), none, (.k (.mov (.t 77)))⟩]))
def Worst_18 : AC := (.seq (.cond (.t 38) .skip (.exit 0)) Worst_19)
def Worst_17 : AC := (.seq (.ops [⟨(some 38), none, (.k (.bin .lss (.t 37) (.t 36)))⟩]) Worst_18)
def Worst_16 : AC := (.loop Worst_17)
def Worst_15 : AC := (.block 0 Worst_16)
def Worst_14 : AC := (.seq (.ops [⟨(some 35), none, (.k (.mov (.t 1)))⟩, ⟨(some 36), none, (.k (.len (.t 35)))⟩, ⟨(some 37), none, (.k (.mov (.c (.sc (.int .i64 0)))))⟩]) Worst_15)
def Worst_13 : AC := (.seq Worst_14 Worst_38)
def Worst_12 : AC := (.seq (.ops [⟨(some 32), none, (.k (.mov (.t 1)))⟩, ⟨(some 33), none, (.k (.len (.t 32)))⟩, ⟨(some 34), none, (.k (.mkS 3 1 8 (.sc (.int .i64 0)) (.c (.sc (.int .i64 0))) (.t 33)))⟩, ⟨(some 10), none, (.k (.mov (.t 34)))⟩]) Worst_13)
def Worst_11 : AC := (.seq (.ops [⟨(some 9), none, (.k (.mov (.c (.sc (.int .i64 1)))))⟩]) Worst_12)
def Worst_10 : AC := (.seq (.ops [⟨(some 31), none, (.k (.mov (.t 7)))⟩, ⟨(some 4), none, (.k (.mov (.c (.imm true none 0 []))))⟩, ⟨(some 5), none, (.k (.mov (.t 31)))⟩]) .ret)
def Worst_9 : AC := (.cond (.t 30) Worst_10 .skip)
def Worst_8 : AC := (.seq (.ops [⟨(some 29), none, (.k (.mov (.t 7)))⟩, ⟨(some 30), none, (.k (.bin .neq (.t 29) (.c (.sc (.int .i64 0)))))⟩]) Worst_9)
def Worst_7 : AC := (.seq Worst_8 Worst_11)
def Worst_6 : AC := (.seq (.ops [⟨(some 25), none, (.k (.mov (.t 0)))⟩, ⟨(some 26), none, (.call false (.c (.fn (.func 38) [] [])) [(.t 25)])⟩, ⟨(some 24), none, (.k (.mov (.t 26)))⟩, ⟨(some 27), none, (.k (.ext (.t 24) 0))⟩, ⟨(some 28), none, (.k (.ext (.t 24) 1))⟩, ⟨(some 8), none, (.k (.mov (.t 27)))⟩, ⟨(some 7), none, (.k (.mov (.t 28)))⟩]) Worst_7)
def Worst_5 : AC := (.seq (.ops [⟨(some 23), none, (.k (.mov (.t 7)))⟩, ⟨(some 4), none, (.k (.mov (.c (.imm true none 0 []))))⟩, ⟨(some 5), none, (.k (.mov (.t 23)))⟩]) .ret)
def Worst_4 : AC := (.cond (.t 22) Worst_5 .skip)
def Worst_3 : AC := (.seq (.ops [⟨(some 21), none, (.k (.mov (.t 7)))⟩, ⟨(some 22), none, (.k (.bin .neq (.t 21) (.c (.sc (.int .i64 0)))))⟩]) Worst_4)
def Worst_2 : AC := (.seq Worst_3 Worst_6)
def Worst_1 : AC := (.seq (.ops [⟨(some 16), none, (.k (.mov (.t 0)))⟩, ⟨(some 17), none, (.k (.mov (.t 1)))⟩, ⟨(some 18), none, (.call false (.c (.fn (.func 13) [] [])) [(.t 16), (.t 17)])⟩, ⟨(some 15), none, (.k (.mov (.t 18)))⟩, ⟨(some 19), none, (.k (.ext (.t 15) 0))⟩, ⟨(some 20), none, (.k (.ext (.t 15) 1))⟩, ⟨(some 6), none, (.k (.mov (.t 19)))⟩, ⟨(some 7), none, (.k (.mov (.t 20)))⟩]) Worst_2)
def Worst_ac : AC := (.seq (.ops [⟨(some 4), none, (.k (.mov (.c (.imm true none 0 []))))⟩, ⟨(some 5), none, (.k (.mov (.c (.sc (.int .i64 0)))))⟩]) Worst_1)
theorem Worst_call {args : List AV} {H : List AObj} {R : AV → List AObj → Prop} (h : AWp Try.prog [] H.length Worst_ac (bodyQ H.length [(.t 4), (.t 5)] R) (args ++ List.replicate (79 - args.length) .und) H) : ACalls Try.prog 12 args H R :=
  ACalls.of_fn Try.func12 rfl (by kernel_rfl) rfl Try.ntmps12 h

set_option maxHeartbeats 4000000 in
theorem Worst_spec {a b : AV} {xs : List Int} {fs : List (Int × Int × Int)} (ha : ISl a xs) (hb : Sp b fs) (hf : fs.length ≤ 1000) : ACalls Try.prog 12 [a, b] [] fun r H' => H' = [] ∧ ∃ l, r = .tup [l, I (worstF xs fs).2] ∧ ISl l (worstF xs fs).1 := by
  have ha' := ha
  have hb' := hb
  obtain ⟨⟨nl, c, sz, rfl, hs⟩, hlen, hx⟩ := ha
  obtain ⟨⟨nl', c', sz', rfl, hs'⟩, hlen', hx'⟩ := hb
  have base : ACalls Try.prog 12 [.imm nl c sz (xs.map I), .imm nl' c' sz' (fs.map specV)] [] fun r G => (r = .tup [.imm true none 0 [], I (worstF xs fs).2] ∧ (worstF xs fs).1 = []) ∨ ((worstF xs fs).2 = 0 ∧ InI (worstF xs fs).1 ∧ r = .tup [.slc 0 (worstF xs fs).1.length 0 (worstF xs fs).1.length none, I 0] ∧ G[0]? = some (intOb (worstF xs fs).1)) := by
    apply Worst_call
    first | refine AWp.seq (AWp.ops ?_) | refine AWp.seq (AWp.seq (AWp.ops ?_)) | refine AWp.ops ?_ | refine AWp.seq (AWp.block (AWp.seq (AWp.ops ?_))) | refine AWp.seq (AWp.seq (AWp.seq (AWp.ops ?_))) | refine AWp.block (AWp.seq (AWp.ops ?_)) | refine AWp.block (AWp.seq (AWp.seq (AWp.ops ?_))) | refine AWp.seq (AWp.block (AWp.seq (AWp.seq (AWp.ops ?_))))
    simp
    first | refine AWp.seq (AWp.ops ?_) | refine AWp.seq (AWp.seq (AWp.ops ?_)) | refine AWp.ops ?_ | refine AWp.seq (AWp.block (AWp.seq (AWp.ops ?_))) | refine AWp.seq (AWp.seq (AWp.seq (AWp.ops ?_))) | refine AWp.block (AWp.seq (AWp.ops ?_)) | refine AWp.block (AWp.seq (AWp.seq (AWp.ops ?_))) | refine AWp.seq (AWp.block (AWp.seq (AWp.seq (AWp.ops ?_))))
    simp
    refine ((Sizes_spec ha' hb' hf).pure (by simp) (by rintro r ⟨l, rfl, ⟨⟨_, _, _, rfl, _⟩, _⟩⟩; simp) _).mono ?_
    rintro r H' ⟨rfl, l, rfl, hl⟩
    simp
    first | refine AWp.seq (AWp.ops ?_) | refine AWp.seq (AWp.seq (AWp.ops ?_)) | refine AWp.ops ?_ | refine AWp.seq (AWp.block (AWp.seq (AWp.ops ?_))) | refine AWp.seq (AWp.seq (AWp.seq (AWp.ops ?_))) | refine AWp.block (AWp.seq (AWp.ops ?_)) | refine AWp.block (AWp.seq (AWp.seq (AWp.ops ?_))) | refine AWp.seq (AWp.block (AWp.seq (AWp.seq (AWp.ops ?_))))
    simp
    refine AWp.cond (b := (sizesF xs fs).2 != 0) (by simp) ?_ ?_
    · intro h
      have h : (sizesF xs fs).2 ≠ 0 := by simpa using h
      first | refine AWp.seq (AWp.ops ?_) | refine AWp.seq (AWp.seq (AWp.ops ?_)) | refine AWp.ops ?_ | refine AWp.seq (AWp.block (AWp.seq (AWp.ops ?_))) | refine AWp.seq (AWp.seq (AWp.seq (AWp.ops ?_))) | refine AWp.block (AWp.seq (AWp.ops ?_)) | refine AWp.block (AWp.seq (AWp.seq (AWp.ops ?_))) | refine AWp.seq (AWp.block (AWp.seq (AWp.seq (AWp.ops ?_))))
      simp
      refine AWp.ret ?_
      simp
      refine retOk.of rfl ?_
      exact .inl (by simp [worstF, h])
    intro h0
    have h0 : (sizesF xs fs).2 = 0 := by simpa using h0
    obtain ⟨hc, hzl, hzv, hkind⟩ := sizesF_ok h0 fun s hs => (hx' s hs).2.2.2
    obtain ⟨Z, hZ⟩ : ∃ Z, Z = (sizesF xs fs).1 := ⟨_, rfl⟩
    rw [← hZ] at hl hzl hzv
    obtain ⟨⟨nl2, c2, z2, rfl, hz2⟩, hlr⟩ := hl
    have hcn := cells_nonneg'' hc
    obtain ⟨cs, hcs⟩ : ∃ cs, cs = (cells xs).1 := ⟨_, rfl⟩
    have hW1 : wGo cs fs Z 1 = none → worstF xs fs = ([], 2) := by
      rw [hcs, hZ]
      intro h
      simp only [worstF, h0, ne_eq, not_true_eq_false, if_false, h]
    have hW2 : ∀ l, wGo cs fs Z 1 = some l → worstF xs fs = (l, 0) := by
      rw [hcs, hZ]
      intro l h
      simp only [worstF, h0, ne_eq, not_true_eq_false, if_false, h]
    refine AWp.skip ?_
    simp only [qSeq]
    first | refine AWp.seq (AWp.ops ?_) | refine AWp.seq (AWp.seq (AWp.ops ?_)) | refine AWp.ops ?_ | refine AWp.seq (AWp.block (AWp.seq (AWp.ops ?_))) | refine AWp.seq (AWp.seq (AWp.seq (AWp.ops ?_))) | refine AWp.block (AWp.seq (AWp.ops ?_)) | refine AWp.block (AWp.seq (AWp.seq (AWp.ops ?_))) | refine AWp.seq (AWp.block (AWp.seq (AWp.seq (AWp.ops ?_))))
    simp
    refine ((Cells_spec ha').pure (by simp) (by rintro r rfl; simp) _).mono ?_
    rintro r H' ⟨rfl, rfl⟩
    rw [← hcs] at hcn ⊢
    simp
    first | refine AWp.seq (AWp.ops ?_) | refine AWp.seq (AWp.seq (AWp.ops ?_)) | refine AWp.ops ?_ | refine AWp.seq (AWp.block (AWp.seq (AWp.ops ?_))) | refine AWp.seq (AWp.seq (AWp.seq (AWp.ops ?_))) | refine AWp.block (AWp.seq (AWp.ops ?_)) | refine AWp.block (AWp.seq (AWp.seq (AWp.ops ?_))) | refine AWp.seq (AWp.block (AWp.seq (AWp.seq (AWp.ops ?_))))
    simp
    refine AWp.cond (b := false) (by simp [hc]) (fun h => by cases h) (fun _ => ?_)
    refine AWp.skip ?_
    simp only [qSeq]
    first | refine AWp.seq (AWp.ops ?_) | refine AWp.seq (AWp.seq (AWp.ops ?_)) | refine AWp.ops ?_ | refine AWp.seq (AWp.block (AWp.seq (AWp.ops ?_))) | refine AWp.seq (AWp.seq (AWp.seq (AWp.ops ?_))) | refine AWp.block (AWp.seq (AWp.ops ?_)) | refine AWp.block (AWp.seq (AWp.seq (AWp.ops ?_))) | refine AWp.seq (AWp.block (AWp.seq (AWp.seq (AWp.ops ?_))))
    simp
    have e1 : (fs.length : Int) * 8 ≤ 281474976710656 := by omega
    have e2 : (fs.length : Int) ≤ 9223372036854775807 := by omega
    first | refine AWp.seq (AWp.ops ?_) | refine AWp.seq (AWp.seq (AWp.ops ?_)) | refine AWp.ops ?_ | refine AWp.seq (AWp.block (AWp.seq (AWp.ops ?_))) | refine AWp.seq (AWp.seq (AWp.seq (AWp.ops ?_))) | refine AWp.block (AWp.seq (AWp.ops ?_)) | refine AWp.block (AWp.seq (AWp.seq (AWp.ops ?_))) | refine AWp.seq (AWp.block (AWp.seq (AWp.seq (AWp.ops ?_))))
    simp [e1, e2]
    first | refine AWp.seq (AWp.ops ?_) | refine AWp.seq (AWp.seq (AWp.ops ?_)) | refine AWp.ops ?_ | refine AWp.seq (AWp.block (AWp.seq (AWp.ops ?_))) | refine AWp.seq (AWp.seq (AWp.seq (AWp.ops ?_))) | refine AWp.block (AWp.seq (AWp.ops ?_)) | refine AWp.block (AWp.seq (AWp.seq (AWp.ops ?_))) | refine AWp.seq (AWp.block (AWp.seq (AWp.seq (AWp.ops ?_))))
    simp
    obtain ⟨J, hJ⟩ : ∃ J : Nat → List AV → List AObj → Prop, J = fun i fr H => i ≤ fs.length ∧ ∃ (ws : List Int) (n : Int), ((ws.length = i ∧ ∀ w ∈ ws, 0 ≤ w ∧ w < 4611686018427387904) ∧ (0 ≤ n ∧ n < 4611686018427387904) ∧ wGo cs fs Z 1 = (wGo cs (fs.drop i) (Z.drop i) n).map (ws ++ ·)) ∧ H = [intOb ws] ∧
      fr = [.und, .und, .und, .und, .imm true none 0 [], I 0, .imm nl2 c2 z2 (Z.map I), .und, I cs, I n, .slc 0 ws.length 0 ws.length none, .und, .und, .und, .und, .und, .und, .und, .und, .und, .und, .und, .und, .und, .und, .und, .und, .und, .und, .und, .und, .und, .und, .und, .und, .imm nl' c' sz' (fs.map specV), I fs.length, I i, .und, .und, .und, .und, .und, .und, .und, .und, .und, .und, .und, .und, .und, .und, .und, .und, .und, .und, .und, .und, .und, .und, .und, .und, .und, .und, .und, .und, .und, .und, .und, .und, .und, .und, .und, .und, .und, .und, .und, .und, .und] := ⟨_, rfl⟩
    refine AWp.block (AWp.loop J (fun i => fs.length - i) 0 (Weak.slots [4, 5, 6, 8, 9, 10, 35, 36, 37]) (by rw [hJ]; exact ⟨by omega, [], 1, ⟨⟨rfl, by simp⟩, by omega, by simp⟩, by simp, by simp⟩) ?_)
    intro i fr H hI
    rw [hJ] at hI
    obtain ⟨hi, ws, n, hinv, rfl, rfl⟩ := hI
    first | refine AWp.seq (AWp.ops ?_) | refine AWp.seq (AWp.seq (AWp.ops ?_)) | refine AWp.ops ?_ | refine AWp.seq (AWp.block (AWp.seq (AWp.ops ?_))) | refine AWp.seq (AWp.seq (AWp.seq (AWp.ops ?_))) | refine AWp.block (AWp.seq (AWp.ops ?_)) | refine AWp.block (AWp.seq (AWp.seq (AWp.ops ?_))) | refine AWp.seq (AWp.block (AWp.seq (AWp.seq (AWp.ops ?_))))
    simp
    refine AWp.seq (AWp.cond (b := decide (i < fs.length)) (by simp <;> omega) ?_ ?_)
    ·
      intro hb
      have hb : i < fs.length := by simpa using hb
      refine AWp.skip ?_
      simp only [qSeq]
      obtain ⟨⟨hwl, hwv⟩, hn, hgo⟩ := hinv
      have hsz3 := sz3_of hs' hb
      subst hsz3
      have hbz : i < Z.length := by omega
      have hszz := sz_of hz2 hbz
      subst hszz
      have hgs := spec_get hb
      have hk5 := hkind fs[i] (List.getElem_mem hb)
      have hzr := hzv Z[i] (List.getElem_mem hbz)
      rw [List.drop_eq_getElem_cons hb, List.drop_eq_getElem_cons hbz] at hgo
      simp only [wGo] at hgo
      generalize fs[i] = sp at hgs hk5 hgo
      obtain ⟨k, mo, z⟩ := sp
      simp only at hgs hk5 hgo
      obtain ⟨nN, hnN⟩ : ∃ q : Nat, n = q := ⟨n.toNat, by omega⟩
      obtain ⟨zN, hzN⟩ : ∃ q : Nat, Z[i] = (q : Int) := ⟨Z[i].toNat, by omega⟩
      first | refine AWp.seq (AWp.ops ?_) | refine AWp.seq (AWp.seq (AWp.ops ?_)) | refine AWp.ops ?_ | refine AWp.seq (AWp.block (AWp.seq (AWp.ops ?_))) | refine AWp.seq (AWp.seq (AWp.seq (AWp.ops ?_))) | refine AWp.block (AWp.seq (AWp.ops ?_)) | refine AWp.block (AWp.seq (AWp.seq (AWp.ops ?_))) | refine AWp.seq (AWp.block (AWp.seq (AWp.seq (AWp.ops ?_))))
      simp [hgs]
      first | refine AWp.seq (AWp.ops ?_) | refine AWp.seq (AWp.seq (AWp.ops ?_)) | refine AWp.ops ?_ | refine AWp.seq (AWp.block (AWp.seq (AWp.ops ?_))) | refine AWp.seq (AWp.seq (AWp.seq (AWp.ops ?_))) | refine AWp.block (AWp.seq (AWp.ops ?_)) | refine AWp.block (AWp.seq (AWp.seq (AWp.ops ?_))) | refine AWp.seq (AWp.block (AWp.seq (AWp.seq (AWp.ops ?_))))
      simp
      first | refine AWp.seq (AWp.ops ?_) | refine AWp.seq (AWp.seq (AWp.ops ?_)) | refine AWp.ops ?_ | refine AWp.seq (AWp.block (AWp.seq (AWp.ops ?_))) | refine AWp.seq (AWp.seq (AWp.seq (AWp.ops ?_))) | refine AWp.block (AWp.seq (AWp.ops ?_)) | refine AWp.block (AWp.seq (AWp.seq (AWp.ops ?_))) | refine AWp.seq (AWp.block (AWp.seq (AWp.seq (AWp.ops ?_))))
      simp [hbz, hzN, hnN]
      refine (times_spec (p := 2) (ov := false) (x := nN) (y := zN) (by simp) (by omega) (by omega)).mono ?_
      rintro r H' ⟨hbig, hsmall⟩
      obtain ⟨ov, all, rfl, rfl, hov, hall⟩ : ∃ (ov : Bool) (all : Int), r = I all ∧ H' = [intOb ws, specO (k, mo, z), talO ov] ∧ (ov = true ↔ 4611686018427387904 ≤ n * Z[i]) ∧ (ov = false → all = n * Z[i]) := by
        by_cases hbg : 4611686018427387904 ≤ nN * zN
        · obtain ⟨rfl, rfl⟩ := hbig hbg
          refine ⟨true, 0, rfl, by simp, by rw [hnN, hzN, ← Int.natCast_mul]; simp; omega, by simp⟩
        · obtain ⟨rfl, rfl⟩ := hsmall (by omega)
          refine ⟨false, _, rfl, by simp, by rw [hnN, hzN, ← Int.natCast_mul]; simp; omega, fun _ => by rw [hnN, hzN, Int.natCast_mul]⟩
      clear hbig hsmall
      simp
      have hp0 : 0 ≤ n * Z[i] := Int.mul_nonneg hn.1 hzr.1
      obtain ⟨Po, hPo⟩ : ∃ Po : List AV → List AObj → Prop, Po = fun fr H => ∃ m : Int, wStep cs n k Z[i] = some m ∧
          Weak 0 fr H [.und, .und, .und, .und, .imm true none 0 [], I 0, .imm nl2 c2 1 (Z.map I), .und, I cs, I m, .slc 0 ws.length 0 ws.length none, .und, .und, .und, .und, .und, .und, .und, .und, .und, .und, .und, .und, .und, .und, .und, .und, .und, .und, .und, .und, .und, .und, .und, .und, .imm nl' c' 3 (fs.map specV), I fs.length, I i, .und, .und, .und, .und, .und, .und, .und, .und, .und, .und, .und, .und, .und, .und, .und, .und, .und, .und, .und, .und, .und, .und, .und, .und, .und, .und, .und, .und, .und, .und, .und, .und, .und, .und, .und, .und, .und, .und, .und, .und, .und] [intOb ws] := ⟨_, rfl⟩
      have fin : ∀ (m : Int) (fr : List AV) (H : List AObj), wStep cs n k Z[i] = some m → Weak 0 fr H [.und, .und, .und, .und, .imm true none 0 [], I 0, .imm nl2 c2 1 (Z.map I), .und, I cs, I m, .slc 0 ws.length 0 ws.length none, .und, .und, .und, .und, .und, .und, .und, .und, .und, .und, .und, .und, .und, .und, .und, .und, .und, .und, .und, .und, .und, .und, .und, .und, .imm nl' c' 3 (fs.map specV), I fs.length, I i, .und, .und, .und, .und, .und, .und, .und, .und, .und, .und, .und, .und, .und, .und, .und, .und, .und, .und, .und, .und, .und, .und, .und, .und, .und, .und, .und, .und, .und, .und, .und, .und, .und, .und, .und, .und, .und, .und, .und, .und, .und] [intOb ws] → Po fr H := by
        intro m fr H h1 h2
        rw [hPo]
        exact ⟨m, h1, h2⟩
      refine AWp.cutO Po ?_ ?_
      ·
        first | refine AWp.seq (AWp.ops ?_) | refine AWp.seq (AWp.seq (AWp.ops ?_)) | refine AWp.ops ?_ | refine AWp.seq (AWp.block (AWp.seq (AWp.ops ?_))) | refine AWp.seq (AWp.seq (AWp.seq (AWp.ops ?_))) | refine AWp.block (AWp.seq (AWp.ops ?_)) | refine AWp.block (AWp.seq (AWp.seq (AWp.ops ?_))) | refine AWp.seq (AWp.block (AWp.seq (AWp.seq (AWp.ops ?_))))
        simp
        first | refine AWp.seq (AWp.ops ?_) | refine AWp.seq (AWp.seq (AWp.ops ?_)) | refine AWp.ops ?_ | refine AWp.seq (AWp.block (AWp.seq (AWp.ops ?_))) | refine AWp.seq (AWp.seq (AWp.seq (AWp.ops ?_))) | refine AWp.block (AWp.seq (AWp.ops ?_)) | refine AWp.block (AWp.seq (AWp.seq (AWp.ops ?_))) | refine AWp.seq (AWp.block (AWp.seq (AWp.seq (AWp.ops ?_))))
        simp
        by_cases k3 : k = 3
        · refine AWp.cond (b := true) (by simp [k3]) (fun _ => ?_) (fun h => by cases h)
          refine AWp.skip ?_
          simp only [qSeq, qBlock, if_true]
          exact fin n _ _ (by simp [wStep, k3]) (((Weak.slots [4, 5, 6, 8, 9, 10, 35, 36, 37]).trans (Weak.freeze 1 2 (by simp))).to (by simp [hnN]) (by simp [frzH, intOb]))
        refine AWp.cond (b := false) (by simp [k3]) (fun h => by cases h) (fun _ => ?_)
        first | refine AWp.seq (AWp.ops ?_) | refine AWp.seq (AWp.seq (AWp.ops ?_)) | refine AWp.ops ?_ | refine AWp.seq (AWp.block (AWp.seq (AWp.ops ?_))) | refine AWp.seq (AWp.seq (AWp.seq (AWp.ops ?_))) | refine AWp.block (AWp.seq (AWp.ops ?_)) | refine AWp.block (AWp.seq (AWp.seq (AWp.ops ?_))) | refine AWp.seq (AWp.block (AWp.seq (AWp.seq (AWp.ops ?_))))
        simp
        by_cases k2 : k = 2
        · refine AWp.cond (b := true) (by simp [k2]) (fun _ => ?_) (fun h => by cases h)
          first | refine AWp.seq (AWp.ops ?_) | refine AWp.seq (AWp.seq (AWp.ops ?_)) | refine AWp.ops ?_ | refine AWp.seq (AWp.block (AWp.seq (AWp.ops ?_))) | refine AWp.seq (AWp.seq (AWp.seq (AWp.ops ?_))) | refine AWp.block (AWp.seq (AWp.ops ?_)) | refine AWp.block (AWp.seq (AWp.seq (AWp.ops ?_))) | refine AWp.seq (AWp.block (AWp.seq (AWp.seq (AWp.ops ?_))))
          simp
          exact fin (minI cs 65536) _ _ (by simp [wStep, k2]) (((Weak.slots [4, 5, 6, 8, 9, 10, 35, 36, 37]).trans (Weak.freeze 1 2 (by simp))).to (by simp [minI]) (by simp [frzH, intOb]))
        refine AWp.cond (b := false) (by simp [k2]) (fun h => by cases h) (fun _ => ?_)
        first | refine AWp.seq (AWp.ops ?_) | refine AWp.seq (AWp.seq (AWp.ops ?_)) | refine AWp.ops ?_ | refine AWp.seq (AWp.block (AWp.seq (AWp.ops ?_))) | refine AWp.seq (AWp.seq (AWp.seq (AWp.ops ?_))) | refine AWp.block (AWp.seq (AWp.ops ?_)) | refine AWp.block (AWp.seq (AWp.seq (AWp.ops ?_))) | refine AWp.seq (AWp.block (AWp.seq (AWp.seq (AWp.ops ?_))))
        simp
        by_cases k1 : k = 1
        · refine AWp.cond (b := true) (by simp [k1]) (fun _ => ?_) (fun h => by cases h)
          first | refine AWp.seq (AWp.ops ?_) | refine AWp.seq (AWp.seq (AWp.ops ?_)) | refine AWp.ops ?_ | refine AWp.seq (AWp.block (AWp.seq (AWp.ops ?_))) | refine AWp.seq (AWp.seq (AWp.seq (AWp.ops ?_))) | refine AWp.block (AWp.seq (AWp.ops ?_)) | refine AWp.block (AWp.seq (AWp.seq (AWp.ops ?_))) | refine AWp.seq (AWp.block (AWp.seq (AWp.seq (AWp.ops ?_))))
          simp
          refine AWp.cond (b := ov) (by simp) ?_ ?_
          · intro ho
            first | refine AWp.seq (AWp.ops ?_) | refine AWp.seq (AWp.seq (AWp.ops ?_)) | refine AWp.ops ?_ | refine AWp.seq (AWp.block (AWp.seq (AWp.ops ?_))) | refine AWp.seq (AWp.seq (AWp.seq (AWp.ops ?_))) | refine AWp.block (AWp.seq (AWp.ops ?_)) | refine AWp.block (AWp.seq (AWp.seq (AWp.ops ?_))) | refine AWp.seq (AWp.block (AWp.seq (AWp.seq (AWp.ops ?_))))
            simp
            first | refine AWp.seq (AWp.ops ?_) | refine AWp.seq (AWp.seq (AWp.ops ?_)) | refine AWp.ops ?_ | refine AWp.seq (AWp.block (AWp.seq (AWp.ops ?_))) | refine AWp.seq (AWp.seq (AWp.seq (AWp.ops ?_))) | refine AWp.block (AWp.seq (AWp.ops ?_)) | refine AWp.block (AWp.seq (AWp.seq (AWp.ops ?_))) | refine AWp.seq (AWp.block (AWp.seq (AWp.seq (AWp.ops ?_))))
            simp
            exact fin (minI (minI 65536 cs) 65536) _ _ (by simp [wStep, k1, hov.1 ho]) (((Weak.slots [4, 5, 6, 8, 9, 10, 35, 36, 37]).trans (Weak.freeze 1 2 (by simp))).to (by simp [minI]; rfl) (by simp [frzH, intOb]))
          · intro ho
            have hnb : ¬ 4611686018427387904 ≤ n * Z[i] := fun h => by rw [hov.2 h] at ho; cases ho
            refine AWp.skip ?_
            simp only [qSeq]
            first | refine AWp.seq (AWp.ops ?_) | refine AWp.seq (AWp.seq (AWp.ops ?_)) | refine AWp.ops ?_ | refine AWp.seq (AWp.block (AWp.seq (AWp.ops ?_))) | refine AWp.seq (AWp.seq (AWp.seq (AWp.ops ?_))) | refine AWp.block (AWp.seq (AWp.ops ?_)) | refine AWp.block (AWp.seq (AWp.seq (AWp.ops ?_))) | refine AWp.seq (AWp.block (AWp.seq (AWp.seq (AWp.ops ?_))))
            simp
            exact fin (minI (minI all cs) 65536) _ _ (by simp [wStep, k1, hnb, hall ho]) (((Weak.slots [4, 5, 6, 8, 9, 10, 35, 36, 37]).trans (Weak.freeze 1 2 (by simp))).to (by simp [minI]; rfl) (by simp [frzH, intOb]))
        refine AWp.cond (b := false) (by simp [k1]) (fun h => by cases h) (fun _ => ?_)
        first | refine AWp.seq (AWp.ops ?_) | refine AWp.seq (AWp.seq (AWp.ops ?_)) | refine AWp.ops ?_ | refine AWp.seq (AWp.block (AWp.seq (AWp.ops ?_))) | refine AWp.seq (AWp.seq (AWp.seq (AWp.ops ?_))) | refine AWp.block (AWp.seq (AWp.ops ?_)) | refine AWp.block (AWp.seq (AWp.seq (AWp.ops ?_))) | refine AWp.seq (AWp.block (AWp.seq (AWp.seq (AWp.ops ?_))))
        simp
        refine AWp.cond (b := ov) (by simp) ?_ ?_
        · intro ho
          first | refine AWp.seq (AWp.ops ?_) | refine AWp.seq (AWp.seq (AWp.ops ?_)) | refine AWp.ops ?_ | refine AWp.seq (AWp.block (AWp.seq (AWp.ops ?_))) | refine AWp.seq (AWp.seq (AWp.seq (AWp.ops ?_))) | refine AWp.block (AWp.seq (AWp.ops ?_)) | refine AWp.block (AWp.seq (AWp.seq (AWp.ops ?_))) | refine AWp.seq (AWp.block (AWp.seq (AWp.seq (AWp.ops ?_))))
          simp
          refine AWp.ret ?_
          simp
          refine retOk.of rfl ?_
          have hst : wStep cs n k Z[i] = none := by simp [wStep, k1, k2, k3, hov.1 ho]
          rw [hW1 (by rw [hgo, hst]; rfl)]
          exact .inl ⟨by simp, rfl⟩
        · intro ho
          have hnb : ¬ 4611686018427387904 ≤ n * Z[i] := fun h => by rw [hov.2 h] at ho; cases ho
          refine AWp.skip ?_
          simp only [qSeq]
          first | refine AWp.seq (AWp.ops ?_) | refine AWp.seq (AWp.seq (AWp.ops ?_)) | refine AWp.ops ?_ | refine AWp.seq (AWp.block (AWp.seq (AWp.ops ?_))) | refine AWp.seq (AWp.seq (AWp.seq (AWp.ops ?_))) | refine AWp.block (AWp.seq (AWp.ops ?_)) | refine AWp.block (AWp.seq (AWp.seq (AWp.ops ?_))) | refine AWp.seq (AWp.block (AWp.seq (AWp.seq (AWp.ops ?_))))
          simp
          exact fin all _ _ (by simp [wStep, k1, k2, k3, hnb, hall ho]) (((Weak.slots [4, 5, 6, 8, 9, 10, 35, 36, 37]).trans (Weak.freeze 1 2 (by simp))).to (by simp) (by simp [frzH, intOb]))
      intro fr H hq
      rw [hPo] at hq
      obtain ⟨m, hst, hw⟩ := hq
      refine AWp.weak hw ?_
      have hmr := wStep_range hst hn hcn hzr.1
      have q1 : (ws.length + 1) * 8 ≤ 140737488355328 := by omega
      have q2 : ws.length + 1 ≤ 9223372036854775807 := by omega
      first | refine AWp.seq (AWp.ops ?_) | refine AWp.seq (AWp.seq (AWp.ops ?_)) | refine AWp.ops ?_ | refine AWp.seq (AWp.block (AWp.seq (AWp.ops ?_))) | refine AWp.seq (AWp.seq (AWp.seq (AWp.ops ?_))) | refine AWp.block (AWp.seq (AWp.ops ?_)) | refine AWp.block (AWp.seq (AWp.seq (AWp.ops ?_))) | refine AWp.seq (AWp.block (AWp.seq (AWp.seq (AWp.ops ?_))))
      simp [q1, q2, elems]
      first | refine AWp.seq (AWp.ops ?_) | refine AWp.seq (AWp.seq (AWp.ops ?_)) | refine AWp.ops ?_ | refine AWp.seq (AWp.block (AWp.seq (AWp.ops ?_))) | refine AWp.seq (AWp.seq (AWp.seq (AWp.ops ?_))) | refine AWp.block (AWp.seq (AWp.ops ?_)) | refine AWp.block (AWp.seq (AWp.seq (AWp.ops ?_))) | refine AWp.seq (AWp.block (AWp.seq (AWp.seq (AWp.ops ?_))))
      simp
      refine ⟨i + 1, _, _, Weak.slots [4, 5, 6, 8, 9, 10, 35, 36, 37], ?_, by omega⟩
      rw [hJ]
      refine ⟨by omega, ws ++ [m], m, ?_, by simp, by simp [wrap_i64 (n := (i : Int) + 1) (by omega) (by omega)]⟩
      refine ⟨⟨by simp [hwl], fun w hw => ?_⟩, hmr, ?_⟩
      · rcases List.mem_append.1 hw with h | h
        · exact hwv w h
        · have : w = m := by simpa using h
          omega
      · rw [hgo, hst]
        simp only [Option.bind_some]
        generalize wGo cs (fs.drop (i + 1)) (Z.drop (i + 1)) m = o
        cases o <;> simp
    ·
      intro hb
      have hb : ¬ i < fs.length := by simpa using hb
      refine AWp.exit ?_
      simp [qSeq, qBlock]
      obtain ⟨⟨hwl, hwv⟩, hn, hgo⟩ := hinv
      rw [List.drop_eq_nil_of_le (by omega)] at hgo
      simp only [wGo, Option.map_some, List.append_nil] at hgo
      have hW2 : worstF xs fs = (ws, 0) := hW2 _ hgo
      first | refine AWp.seq (AWp.ops ?_) | refine AWp.seq (AWp.seq (AWp.ops ?_)) | refine AWp.ops ?_ | refine AWp.seq (AWp.block (AWp.seq (AWp.ops ?_))) | refine AWp.seq (AWp.seq (AWp.seq (AWp.ops ?_))) | refine AWp.block (AWp.seq (AWp.ops ?_)) | refine AWp.block (AWp.seq (AWp.seq (AWp.ops ?_))) | refine AWp.seq (AWp.block (AWp.seq (AWp.seq (AWp.ops ?_))))
      simp
      refine AWp.ret ?_
      simp
      refine retOk.of rfl ?_
      rw [hW2]
      exact .inr ⟨rfl, ⟨by show ws.length ≤ _; omega, fun x hx => by have := hwv x hx; omega⟩, by simp, by simp [intOb]⟩
  refine (base.frozen 2).mono ?_
  rintro q H' ⟨rfl, r, G, ⟨rfl, h1⟩ | ⟨h0, h1, rfl, h2⟩, rfl⟩
  · exact ⟨rfl, _, by simp; rfl, by rw [h1]; exact ⟨⟨true, none, 0, rfl, by simp, by simp⟩, by simp, by simp⟩⟩
  · refine ⟨rfl, _, by simp [h0]; rfl, ⟨⟨false, none, 1, ?_, by simp, by simp⟩, h1⟩⟩
    simp [h2]
end Go.Fw
