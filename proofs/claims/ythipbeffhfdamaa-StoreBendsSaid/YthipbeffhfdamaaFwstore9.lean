import Derived.Test.YthipbeffhfdamaaFwstore8
namespace Go.Fw
open Go Go.RowKit Go.Proofs
set_option maxRecDepth 100000
set_option linter.unusedSimpArgs false
set_option linter.unusedVariables false

abbrev w64 (n : Int) : Int := IntKind.i64.wrap n
def fromF (f : Int × Int × Int) (c : List Int) : Int := if f.1 = 4 then w64 (c.getD f.2.1.toNat 0 * f.2.2) else 0
def stepC (f : Int × Int × Int) (c : List Int) (a : Int) : List Int := c.set f.2.1.toNat (w64 (fromF f c + a))
/-- All the places of a tensor's numbers, one behind the other. -/
def walkF {σ : Type} (step : σ → List Int → Nat → σ) : List LvA → List (Int × Int × Int) → List Int → Nat → σ → σ
  | x :: xs, f :: fs, c, p, s => (kidsF x.lv p).foldl (fun s y => walkF step xs fs (stepC f c y.1) y.2.toNat s) s
  | _, _, c, p, s => step s c p
/-- What must be, so that all may be gone through. -/
def Good (V : List Int → Nat → Prop) : List LvA → List (Int × Int × Int) → List Int → Nat → Prop
  | [], _, c, p => V c p
  | x :: xs, f :: fs, c, p => ((0 ≤ f.2.1 ∧ f.2.1.toNat < c.length) ∧ ∃ n, n ≤ 1048576 ∧ lvCheck x.lv n = 0 ∧ p < n) ∧ ∀ y ∈ kidsF x.lv p, 0 ≤ y.2 ∧ Good V xs fs (stepC f c y.1) y.2.toNat
  | _ :: _, [], _, _ => False
/-- The same, of what there is so far as well. -/
def GoodS {σ : Type} (V : σ → List Int → Nat → Prop) (step : σ → List Int → Nat → σ) : List LvA → List (Int × Int × Int) → List Int → Nat → σ → Prop
  | [], _, c, p, s => V s c p
  | x :: xs, f :: fs, c, p, s => ((0 ≤ f.2.1 ∧ f.2.1.toNat < c.length) ∧ ∃ n, n ≤ 1048576 ∧ lvCheck x.lv n = 0 ∧ p < n) ∧
    ∀ a (h : a < (kidsF x.lv p).length), 0 ≤ (kidsF x.lv p)[a].2 ∧ GoodS V step xs fs (stepC f c (kidsF x.lv p)[a].1) (kidsF x.lv p)[a].2.toNat (((kidsF x.lv p).take a).foldl (fun s y => walkF step xs fs (stepC f c y.1) y.2.toNat s) s)
  | _ :: _, [], _, _, _ => False
theorem Good.toS {σ : Type} {V : List Int → Nat → Prop} {step : σ → List Int → Nat → σ} : ∀ {xs : List LvA} {fs : List (Int × Int × Int)} {c : List Int} {p : Nat}, Good V xs fs c p → ∀ s, GoodS (fun _ => V) step xs fs c p s
  | [], fs, c, p, h, s => h
  | x :: xs, [], c, p, h, s => h
  | x :: xs, f :: fs, c, p, h, s => ⟨h.1, fun a ha => ⟨(h.2 _ (List.getElem_mem ha)).1, (h.2 _ (List.getElem_mem ha)).2.toS _⟩⟩
/-- The objects of a walk. -/
structure WInv (n0 N : Nat) (tn : AV) (g : FuncId) (gc : List AV) (ty1 ty3 ty4 : Nat) (K : List AObj) (c : List Int) : Prop where
  len : K.length = N
  lt : n0 + 5 = N
  o0 : K[n0]? = some (tnO tn)
  o1 : K[n0 + 1]? = some ⟨ty1, 1, [.fn (.func g) [] gc], true, none⟩
  o2 : K[n0 + 2]? = some (intOb c)
  o3 : K[n0 + 3]? = some ⟨ty3, 1, [.slc (n0 + 2) c.length 0 c.length none], true, none⟩
  o4 : K[n0 + 4]? = some ⟨ty4, 1, [.fn (.func 76) [] [.ptr n0 1 0 0, .ptr (n0 + 1) 1 0 0, .ptr (n0 + 3) 1 0 0, .ptr (n0 + 4) 1 0 0]], true, none⟩
theorem WInv.set {n0 N : Nat} {tn : AV} {g : FuncId} {gc : List AV} {ty1 ty3 ty4 : Nat} {K : List AObj} {c c' : List Int} (h : WInv n0 N tn g gc ty1 ty3 ty4 K c) (hc : c'.length = c.length) : WInv n0 N tn g gc ty1 ty3 ty4 (K.set (n0 + 2) (intOb c')) c' := by
  have hN := h.lt
  have hl := h.len
  refine ⟨by simpa using hl, hN, ?_, ?_, ?_, ?_, ?_⟩
  · rw [List.getElem?_set_ne (by omega)]; exact h.o0
  · rw [List.getElem?_set_ne (by omega)]; exact h.o1
  · rw [List.getElem?_set_self (by omega)]
  · rw [List.getElem?_set_ne (by omega), hc]; exact h.o3
  · rw [List.getElem?_set_ne (by omega)]; exact h.o4
theorem WInv.frz {n0 N : Nat} {tn : AV} {g : FuncId} {gc : List AV} {ty1 ty3 ty4 : Nat} {K : List AObj} {c : List Int} (h : WInv n0 N tn g gc ty1 ty3 ty4 K c) (G : List AObj)
    (htn : ∀ H k, frz H k 3 true tn = tn) (hgc : ∀ H, gc.map (frz H N 2 true) = gc) : WInv n0 N tn g gc ty1 ty3 ty4 (frzH (K ++ G) N 3) c := by
  have hN := h.lt
  have hl := h.len
  have app : ∀ {i : Nat} {o : AObj}, K[i]? = some o → (K ++ G)[i]? = some o := by
    intro i o ho
    rw [List.getElem?_append_left (List.getElem?_eq_some_iff.1 ho).1]; exact ho
  refine ⟨by simp [frzH]; omega, hN, ?_, ?_, ?_, ?_, ?_⟩
  · rw [frzH_of 3 (by omega) (app h.o0)]; simp [htn]
  · rw [frzH_of 3 (by omega) (app h.o1)]; simp [hgc]
  · rw [frzH_of 3 (by omega) (app h.o2)]; simp
  · rw [frzH_of 3 (by omega) (app h.o3)]; simp; omega
  · rw [frzH_of 3 (by omega) (app h.o4)]; simp; omega

def down_19 : AC := (.seq (.ops [⟨(some 51), none, (.k (.ld 1 false (.t 4)))⟩, ⟨(some 52), none, (.k (.fad 1 (.t 8)))⟩, ⟨(some 53), none, (.k (.ld 1 false (.t 52)))⟩, ⟨(some 54), none, (.k (.mov (.t 10)))⟩, ⟨(some 55), none, (.k (.fad 0 (.t 12)))⟩, ⟨(some 56), none, (.k (.ld 1 false (.t 55)))⟩, ⟨(some 57), none, (.k (.bin .add (.t 54) (.t 56)))⟩, ⟨(some 58), none, (.k (.iad 1 (.t 51) (.t 53)))⟩, ⟨none, none, (.k (.st 1 (.t 58) (.t 57)))⟩]) (.ops [⟨(some 59), none, (.k (.ld 1 false (.t 5)))⟩, ⟨(some 60), none, (.k (.mov (.t 0)))⟩, ⟨(some 61), none, (.k (.bin .add (.t 60) (.c (.sc (.int .i64 1)))))⟩, ⟨(some 62), none, (.k (.fad 1 (.t 12)))⟩, ⟨(some 63), none, (.k (.ld 1 false (.t 62)))⟩, ⟨(some 64), none, (.call false (.t 59) [(.t 61), (.t 63)])⟩]))
def down_18 : AC := (.seq (.ops [⟨(some 49), none, (.k (.iad 2 (.t 45) (.t 47)))⟩, ⟨(some 50), none, (.k (.ld 2 true (.t 49)))⟩, ⟨(some 12), none, (.k (.new 88 2 (.c (.agg [(.sc (.int .i64 0)), (.sc (.int .i64 0))]))))⟩, ⟨none, none, (.k (.st 2 (.t 12) (.t 50)))⟩]) down_19)
def down_17 : AC := (.block 1 down_18)
def down_16 : AC := (.seq down_17 (.ops [⟨(some 65), none, (.k (.bin .add (.t 47) (.c (.sc (.int .i64 1)))))⟩, ⟨(some 47), none, (.k (.mov (.t 65)))⟩]))
def down_15 : AC := (.seq (.cond (.t 48) .skip (.exit 0)) down_16)
def down_14 : AC := (.seq (.ops [⟨(some 48), none, (.k (.bin .lss (.t 47) (.t 46)))⟩]) down_15)
def down_13 : AC := (.loop down_14)
def down_12 : AC := (.block 0 down_13)
def down_11 : AC := (.seq (.ops [⟨(some 39), none, (.k (.fad 2 (.t 2)))⟩, ⟨(some 40), none, (.k (.ld 1 false (.t 39)))⟩, ⟨(some 41), none, (.k (.mov (.t 0)))⟩, ⟨(some 42), none, (.k (.iad 4 (.t 40) (.t 41)))⟩, ⟨(some 43), none, (.k (.ld 4 true (.t 42)))⟩, ⟨(some 44), none, (.k (.mov (.t 1)))⟩, ⟨(some 45), none, (.call false (.c (.fn (.func 52) [] [])) [(.t 43), (.t 44)])⟩, ⟨(some 46), none, (.k (.len (.t 45)))⟩, ⟨(some 47), none, (.k (.mov (.c (.sc (.int .i64 0)))))⟩]) down_12)
def down_10 : AC := (.seq down_11 (.ops [⟨(some 66), none, (.k (.ld 1 false (.t 4)))⟩, ⟨(some 67), none, (.k (.fad 1 (.t 8)))⟩, ⟨(some 68), none, (.k (.ld 1 false (.t 67)))⟩, ⟨(some 69), none, (.k (.mov (.t 9)))⟩, ⟨(some 70), none, (.k (.iad 1 (.t 66) (.t 68)))⟩, ⟨none, none, (.k (.st 1 (.t 70) (.t 69)))⟩]))
def down_9 : AC := (.cond (.t 34) (.ops [⟨(some 35), none, (.k (.mov (.t 9)))⟩, ⟨(some 36), none, (.k (.fad 2 (.t 8)))⟩, ⟨(some 37), none, (.k (.ld 1 false (.t 36)))⟩, ⟨(some 38), none, (.k (.bin .mul (.t 35) (.t 37)))⟩, ⟨(some 10), none, (.k (.mov (.t 38)))⟩]) .skip)
def down_8 : AC := (.seq (.ops [⟨(some 32), none, (.k (.fad 0 (.t 8)))⟩, ⟨(some 33), none, (.k (.ld 1 false (.t 32)))⟩, ⟨(some 34), none, (.k (.bin .eql (.t 33) (.c (.sc (.int .i64 4)))))⟩]) down_9)
def down_7 : AC := (.seq down_8 down_10)
def down_6 : AC := (.seq (.ops [⟨(some 10), none, (.k (.mov (.c (.sc (.int .i64 0)))))⟩]) down_7)
def down_5 : AC := (.seq (.ops [⟨(some 27), none, (.k (.ld 1 false (.t 4)))⟩, ⟨(some 28), none, (.k (.fad 1 (.t 8)))⟩, ⟨(some 29), none, (.k (.ld 1 false (.t 28)))⟩, ⟨(some 30), none, (.k (.iad 1 (.t 27) (.t 29)))⟩, ⟨(some 31), none, (.k (.ld 1 false (.t 30)))⟩, ⟨(some 9), none, (.k (.mov (.t 31)))⟩]) down_6)
def down_4 : AC := (.seq (.ops [⟨(some 22), none, (.k (.fad 1 (.t 2)))⟩, ⟨(some 23), none, (.k (.ld 1 false (.t 22)))⟩, ⟨(some 24), none, (.k (.mov (.t 0)))⟩, ⟨(some 25), none, (.k (.iad 3 (.t 23) (.t 24)))⟩, ⟨(some 26), none, (.k (.ld 3 true (.t 25)))⟩, ⟨(some 8), none, (.k (.new 43 3 (.c (.agg [(.sc (.int .i64 0)), (.sc (.int .i64 0)), (.sc (.int .i64 0))]))))⟩, ⟨none, none, (.k (.st 3 (.t 8) (.t 26)))⟩]) down_5)
def down_3 : AC := (.seq (.ops [⟨(some 18), none, (.k (.ld 1 false (.t 3)))⟩, ⟨(some 19), none, (.k (.ld 1 false (.t 4)))⟩, ⟨(some 20), none, (.k (.mov (.t 1)))⟩, ⟨(some 21), none, (.call false (.t 18) [(.t 19), (.t 20)])⟩]) .ret)
def down_2 : AC := (.cond (.t 17) down_3 .skip)
def down_1 : AC := (.seq (.ops [⟨(some 13), none, (.k (.mov (.t 0)))⟩, ⟨(some 14), none, (.k (.fad 2 (.t 2)))⟩, ⟨(some 15), none, (.k (.ld 1 false (.t 14)))⟩, ⟨(some 16), none, (.k (.len (.t 15)))⟩, ⟨(some 17), none, (.k (.bin .eql (.t 13) (.t 16)))⟩]) down_2)
def down_ac : AC := (.seq down_1 down_4)
theorem down_call {args : List AV} {H : List AObj} {R : AV → List AObj → Prop} (h : AWp Try.prog [] H.length down_ac (bodyQ H.length [] R) (args ++ List.replicate (71 - args.length) .und) H) : ACalls Try.prog 76 args H R :=
  ACalls.of_fn Try.func76 rfl (by kernel_rfl) rfl Try.ntmps76 h

set_option maxHeartbeats 4000000 in
theorem down_spec {σ : Type} {n0 N : Nat} {g : FuncId} {gc : List AV} {ty1 ty3 ty4 : Nat} {P : List AObj → σ → Prop} {step : σ → List Int → Nat → σ} {V : σ → List Int → Nat → Prop}
    {sh f l v : AV} {S Vs : List Int} {F : List (Int × Int × Int)} {xs : List LvA} (hS : ISl sh S) (hF : Sp f F) (hl : Ls l xs) (hV : ISl v Vs) (hfl : F.length = xs.length)
    (hPset : ∀ K s o, P K s → P (K.set (n0 + 2) o) s) (hPfrz : ∀ K s G, K.length = N → P K s → P (frzH (K ++ G) N 3) s) (hgc : ∀ H, gc.map (frz H N 2 true) = gc)
    (hE : ∀ K s c p, WInv n0 N (.agg [sh, f, l, v]) g gc ty1 ty3 ty4 K c → P K s → V s c p → ACalls Try.prog g ([.slc (n0 + 2) c.length 0 c.length none, I p] ++ gc) K fun r K' => r = .tup [] ∧ WInv n0 N (.agg [sh, f, l, v]) g gc ty1 ty3 ty4 K' c ∧ P K' (step s c p)) :
    ∀ (j i : Nat), i + j = xs.length → ∀ K s c p, WInv n0 N (.agg [sh, f, l, v]) g gc ty1 ty3 ty4 K c → P K s → GoodS V step (xs.drop i) (F.drop i) c p s →
      ACalls Try.prog 76 [I i, I p, .ptr n0 1 0 0, .ptr (n0 + 1) 1 0 0, .ptr (n0 + 3) 1 0 0, .ptr (n0 + 4) 1 0 0] K fun r K' => r = .tup [] ∧ WInv n0 N (.agg [sh, f, l, v]) g gc ty1 ty3 ty4 K' c ∧ P K' (walkF step (xs.drop i) (F.drop i) c p s) := by
  obtain ⟨⟨nl, cl, sz, rfl, hs⟩, hlen, hx⟩ := hl
  obtain ⟨⟨nl1, c01, sz1, rfl, hs1⟩, hlen1, hx1⟩ := hS
  obtain ⟨⟨nl2, c02, sz2, rfl, hs2⟩, hlen2, hx2⟩ := hF
  obtain ⟨⟨nl3, c3, sz3, rfl, hs3⟩, hlen3, hx3⟩ := hV
  have htn : ∀ H k, frz H k 3 true (AV.agg [.imm nl1 c01 sz1 (S.map I), .imm nl2 c02 sz2 (F.map specV), .imm nl cl sz (xs.map lvV), .imm nl3 c3 sz3 (Vs.map I)]) = .agg [.imm nl1 c01 sz1 (S.map I), .imm nl2 c02 sz2 (F.map specV), .imm nl cl sz (xs.map lvV), .imm nl3 c3 sz3 (Vs.map I)] := fun H k => by simp
  intro j
  induction j with
  | zero =>
    intro i hij K s c p hw hP hg
    have hi : i = xs.length := by omega
    subst hi
    rw [List.drop_eq_nil_of_le (Nat.le_refl _)] at hg ⊢
    simp only [GoodS] at hg
    obtain ⟨hl, hN, o0, o1, o2, o3, o4⟩ := id hw
    apply down_call
    repeat first | refine AWp.seq ?_ | refine AWp.block ?_
    refine AWp.ops ?_
    simp [o0]
    refine AWp.cond (b := true) (by simp) (fun _ => ?_) (fun h => by cases h)
    repeat first | refine AWp.seq ?_ | refine AWp.block ?_
    refine AWp.ops ?_
    simp [o1, o3]
    refine (hE K s c p hw hP hg).mono ?_
    rintro r K' ⟨rfl, hw', hP'⟩
    simp
    refine AWp.ret ?_
    simp
    exact retOk.of rfl ⟨rfl, hw', by simpa [walkF] using hP'⟩
  | succ j ih =>
    intro i hij K s c p hw hP hg
    have hi : i < xs.length := by omega
    have hiF : i < F.length := by omega
    have hne : ¬ i = xs.length := by omega
    obtain ⟨hl, hN, o0, o1, o2, o3, o4⟩ := id hw
    have hsz4 := sz4_of hs hi
    have hsz3 := sz3_of hs2 hiF
    subst hsz4 hsz3
    have hgs := lv_get hi
    have hgF := spec_get hiF
    have hok := hx xs[i] (List.getElem_mem hi)
    rw [List.drop_eq_getElem_cons hi, List.drop_eq_getElem_cons hiF] at hg ⊢
    simp only [GoodS] at hg
    simp only [walkF]
    generalize xs[i] = x at hgs hok hg
    generalize F[i] = sp at hgF hg
    obtain ⟨lv, px, qx⟩ := x
    obtain ⟨k, mo, z⟩ := sp
    simp only at hgs hok hg hgF
    obtain ⟨⟨⟨hm0, hm1⟩, na, hna, hchk, hpn⟩, hkids⟩ := hg
    obtain ⟨m, rfl⟩ : ∃ m : Nat, mo = m := ⟨mo.toNat, by omega⟩
    rw [Int.toNat_natCast] at hm1
    have hcl := hw.len
    obtain ⟨was, hwas⟩ : ∃ was, was = c[m] := ⟨_, rfl⟩
    have hwasD : c.getD m 0 = was := by rw [hwas]; simp [hm1]
    obtain ⟨fr0, hfr0⟩ : ∃ fr0, fr0 = fromF (k, (m : Int), z) c := ⟨_, rfl⟩
    have hfr : fr0 = if k = 4 then w64 (was * z) else 0 := by rw [hfr0]; simp only [fromF, Int.toNat_natCast, hwasD]
    obtain ⟨SO, hSO⟩ : ∃ SO : AObj, SO = ⟨43, 3, [.agg [I k, I m, I z]], true, none⟩ := ⟨_, rfl⟩
    obtain ⟨K1, hK1⟩ : ∃ K1, K1 = frzH (K ++ [SO]) N 3 := ⟨_, rfl⟩
    have hw1 : WInv n0 N (.agg [.imm nl1 c01 sz1 (S.map I), .imm nl2 c02 3 (F.map specV), .imm nl cl 4 (xs.map lvV), .imm nl3 c3 sz3 (Vs.map I)]) g gc ty1 ty3 ty4 K1 c := by rw [hK1]; exact hw.frz _ htn hgc
    have hP1 : P K1 s := by rw [hK1]; exact hPfrz _ _ _ hcl hP
    have gK : ∀ o, (K ++ [o])[K.length]? = some o := fun o => by simp
    have sK : ∀ o o', (K ++ [o]).set K.length o' = K ++ [o'] := fun o o' => by simp
    apply down_call
    rw [hcl]
    rw [hcl] at gK sK
    repeat first | refine AWp.seq ?_ | refine AWp.block ?_
    refine AWp.ops ?_
    simp [o0]
    have hneI : ¬ (i : Int) = xs.length := by omega
    have l0 : n0 < N := by omega
    have l1 : n0 + 1 < N := by omega
    have l2 : n0 + 2 < N := by omega
    have l3 : n0 + 3 < N := by omega
    have l4 : n0 + 4 < N := by omega
    refine AWp.cond (b := false) (by simp [hneI]) (fun h => by cases h) (fun _ => ?_)
    refine AWp.skip ?_
    simp only [qSeq]
    refine AWp.cut [I i, I p, .ptr n0 1 0 0, .ptr (n0 + 1) 1 0 0, .ptr (n0 + 3) 1 0 0, .ptr (n0 + 4) 1 0 0, .und, .und, .ipt (.agg [I k, I m, I z]) 0, .und, .und, .und, .und, .und, .und, .und, .und, .und, .und, .und, .und, .und, .und, .und, .und, .und, .und, .und, .und, .und, .und, .und, .und, .und, .und, .und, .und, .und, .und, .und, .und, .und, .und, .und, .und, .und, .und, .und, .und, .und, .und, .und, .und, .und, .und, .und, .und, .und, .und, .und, .und, .und, .und, .und, .und, .und, .und, .und, .und, .und, .und] K1 ?_ ?_
    ·
      repeat first | refine AWp.seq ?_ | refine AWp.block ?_
      refine AWp.ops ?_
      simp [o0, hgF, hcl, gK, sK]
      exact ((Weak.slots [0, 1, 2, 3, 4, 5, 8]).trans (Weak.freeze N 3 (Nat.le_refl _))).to (by simp [l0, l1, l3, l4, gK]) (by rw [hK1, hSO])
    obtain ⟨hl1, -, p0, p1, p2, p3, p4⟩ := id hw1
    clear hK1 hw hP o0 o1 o2 o3 o4 gK sK hcl hl
    obtain ⟨K2, hK2⟩ : ∃ K2 : Nat, K2 = 0 := ⟨_, rfl⟩
    repeat first | refine AWp.seq ?_ | refine AWp.block ?_
    refine AWp.ops ?_
    simp [p3, p2, hm1, ← hwas]
    repeat first | refine AWp.seq ?_ | refine AWp.block ?_
    refine AWp.ops ?_
    simp
    refine AWp.cut [I i, I p, .ptr n0 1 0 0, .ptr (n0 + 1) 1 0 0, .ptr (n0 + 3) 1 0 0, .ptr (n0 + 4) 1 0 0, .und, .und, .ipt (.agg [I k, I m, I z]) 0, I was, I fr0, .und, .und, .und, .und, .und, .und, .und, .und, .und, .und, .und, .und, .und, .und, .und, .und, .und, .und, .und, .und, .und, .und, .und, .und, .und, .und, .und, .und, .und, .und, .und, .und, .und, .und, .und, .und, .und, .und, .und, .und, .und, .und, .und, .und, .und, .und, .und, .und, .und, .und, .und, .und, .und, .und, .und, .und, .und, .und, .und, .und] K1 ?_ ?_
    ·
      repeat first | refine AWp.seq ?_ | refine AWp.block ?_
      refine AWp.ops ?_
      simp
      by_cases k4 : k = 4
      · rw [if_pos k4] at hfr
        refine AWp.cond (b := true) (by simp [k4]) (fun _ => ?_) (fun h => by cases h)
        repeat first | refine AWp.seq ?_ | refine AWp.block ?_
        refine AWp.ops ?_
        simp
        exact (Weak.slots [0, 1, 2, 3, 4, 5, 8, 9, 10]).to (by simp [hfr]) rfl
      · rw [if_neg k4] at hfr
        refine AWp.cond (b := false) (by simp [k4]) (fun h => by cases h) (fun _ => ?_)
        refine AWp.skip ?_
        simp only [qSeq]
        exact (Weak.slots [0, 1, 2, 3, 4, 5, 8, 9, 10]).to (by simp [hfr]) rfl
    obtain ⟨Y, hY⟩ : ∃ Y, Y = kidsF lv p := ⟨_, rfl⟩
    rw [← hY] at hkids ⊢
    have hok' := hok
    obtain ⟨⟨⟨nlp, cpp, szp, rfl, _⟩, _⟩, ⟨⟨nlq, cqq, szq, rfl, _⟩, _⟩, _⟩ := hok'
    refine AWp.cutE (σ := List AObj × List Int) (fun q => ∃ w : Int, q.2 = c.set m w ∧ WInv n0 N (.agg [.imm nl1 c01 sz1 (S.map I), .imm nl2 c02 3 (F.map specV), .imm nl cl 4 (xs.map lvV), .imm nl3 c3 sz3 (Vs.map I)]) g gc ty1 ty3 ty4 q.1 q.2 ∧ P q.1 (Y.foldl (fun s y => walkF step (xs.drop (i + 1)) (F.drop (i + 1)) (stepC (k, (m : Int), z) c y.1) y.2.toNat s) s))
      (fun _ => [.und, .und, .und, .und, .ptr (n0 + 3) 1 0 0, .und, .und, .und, .ipt (.agg [I k, I m, I z]) 0, I was, .und, .und, .und, .und, .und, .und, .und, .und, .und, .und, .und, .und, .und, .und, .und, .und, .und, .und, .und, .und, .und, .und, .und, .und, .und, .und, .und, .und, .und, .und, .und, .und, .und, .und, .und, .und, .und, .und, .und, .und, .und, .und, .und, .und, .und, .und, .und, .und, .und, .und, .und, .und, .und, .und, .und, .und, .und, .und, .und, .und, .und]) (fun q => q.1) ?_ ?_
    ·
      repeat first | refine AWp.seq ?_ | refine AWp.block ?_
      refine AWp.ops ?_
      simp [p0, hgs]
      refine ((kids_spec hok hna hchk hpn).pure (by simp) (by rintro r ⟨⟨_, _, _, rfl, _⟩, _⟩; simp) _).mono ?_
      rintro r H' ⟨rfl, hCh⟩
      rw [← hY] at hCh
      obtain ⟨⟨nly, cy, szy, rfl, hsy⟩, hyl⟩ := hCh
      simp
      obtain ⟨J, hJ⟩ : ∃ J : Nat → List AV → List AObj → Prop, J = fun a fr H => a ≤ Y.length ∧ (∃ (w : Int) (c' : List Int), c' = c.set m w ∧ WInv n0 N (.agg [.imm nl1 c01 sz1 (S.map I), .imm nl2 c02 3 (F.map specV), .imm nl cl 4 (xs.map lvV), .imm nl3 c3 sz3 (Vs.map I)]) g gc ty1 ty3 ty4 H c' ∧
          P H ((Y.take a).foldl (fun s y => walkF step (xs.drop (i + 1)) (F.drop (i + 1)) (stepC (k, (m : Int), z) c y.1) y.2.toNat s) s)) ∧
          fr = [I i, .und, .ptr n0 1 0 0, .ptr (n0 + 1) 1 0 0, .ptr (n0 + 3) 1 0 0, .ptr (n0 + 4) 1 0 0, .und, .und, .ipt (.agg [I k, I m, I z]) 0, I was, I fr0, .und, .und, .und, .und, .und, .und, .und, .und, .und, .und, .und, .und, .und, .und, .und, .und, .und, .und, .und, .und, .und, .und, .und, .und, .und, .und, .und, .und, .und, .und, .und, .und, .und, .und, .imm nly cy szy (Y.map chV), I Y.length, I a, .und, .und, .und, .und, .und, .und, .und, .und, .und, .und, .und, .und, .und, .und, .und, .und, .und, .und, .und, .und, .und, .und, .und] := ⟨_, rfl⟩
      refine AWp.block (AWp.loop J (fun a => Y.length - a) 0 (Weak.slots [0, 2, 3, 4, 5, 8, 9, 10, 45, 46, 47]) (by
        rw [hJ]
        exact ⟨by omega, ⟨was, c, by rw [hwas]; simp, hw1, by simpa using hP1⟩, by simp⟩) ?_)
      intro a fr H hI
      rw [hJ] at hI
      obtain ⟨ha, ⟨w, c', hc', hwa, hPa⟩, rfl⟩ := hI
      have hcl' : c'.length = c.length := by rw [hc']; simp
      repeat first | refine AWp.seq ?_ | refine AWp.block ?_
      refine AWp.ops ?_
      simp
      refine AWp.seq (AWp.cond (b := decide (a < Y.length)) (by simp) ?_ ?_)
      · intro hb
        have hb : a < Y.length := by simpa using hb
        have hszy := sz2_of hsy hb
        subst hszy
        have hgY := ch_get hb
        obtain ⟨hy0, hgood⟩ := hkids a hb
        have htk : (Y.take (a + 1)).foldl (fun s y => walkF step (xs.drop (i + 1)) (F.drop (i + 1)) (stepC (k, (m : Int), z) c y.1) y.2.toNat s) s = walkF step (xs.drop (i + 1)) (F.drop (i + 1)) (stepC (k, (m : Int), z) c Y[a].1) Y[a].2.toNat ((Y.take a).foldl (fun s y => walkF step (xs.drop (i + 1)) (F.drop (i + 1)) (stepC (k, (m : Int), z) c y.1) y.2.toNat s) s) := by
          rw [List.take_succ_eq_append_getElem hb, List.foldl_append]; rfl
        generalize Y[a] = y at hgY hy0 hgood htk
        obtain ⟨at_, b⟩ := y
        simp only at hgY hy0 hgood htk
        obtain ⟨n, rfl⟩ : ∃ n : Nat, b = n := ⟨b.toNat, by omega⟩
        rw [Int.toNat_natCast] at hgood htk
        obtain ⟨s1, hs1'⟩ : ∃ s1, s1 = (Y.take a).foldl (fun s y => walkF step (xs.drop (i + 1)) (F.drop (i + 1)) (stepC (k, (m : Int), z) c y.1) y.2.toNat s) s := ⟨_, rfl⟩
        rw [← hs1'] at hPa htk hgood
        have hstep : stepC (k, (m : Int), z) c at_ = c.set m (w64 (fr0 + at_)) := by rw [stepC, ← hfr0, Int.toNat_natCast]
        obtain ⟨cN, hcN⟩ : ∃ cN, cN = stepC (k, (m : Int), z) c at_ := ⟨_, rfl⟩
        have hcNl : cN.length = c.length := by rw [hcN, hstep]; simp
        rw [← hcN] at hgood htk
        have hset : c'.set m (w64 (fr0 + at_)) = cN := by rw [hcN, hstep, hc', List.set_set]
        obtain ⟨CO, hCO⟩ : ∃ CO : AObj, CO = ⟨88, 2, [.agg [I at_, I n]], true, none⟩ := ⟨_, rfl⟩
        obtain ⟨K3, hK3⟩ : ∃ K3, K3 = frzH (H ++ [CO]) N 3 := ⟨_, rfl⟩
        have hHl := hwa.len
        have hw3 : WInv n0 N (.agg [.imm nl1 c01 sz1 (S.map I), .imm nl2 c02 3 (F.map specV), .imm nl cl 4 (xs.map lvV), .imm nl3 c3 sz3 (Vs.map I)]) g gc ty1 ty3 ty4 K3 c' := by rw [hK3]; exact hwa.frz _ htn hgc
        have hP3 : P K3 s1 := by rw [hK3]; exact hPfrz _ _ _ hHl hPa
        have gK : ∀ o, (H ++ [o])[N]? = some o := fun o => by rw [← hHl]; simp
        have sK : ∀ o o', (H ++ [o]).set N o' = H ++ [o'] := fun o o' => by rw [← hHl]; simp
        refine AWp.skip ?_
        simp only [qSeq]
        refine AWp.seq (AWp.block (AWp.cut [I i, .und, .ptr n0 1 0 0, .ptr (n0 + 1) 1 0 0, .ptr (n0 + 3) 1 0 0, .ptr (n0 + 4) 1 0 0, .und, .und, .ipt (.agg [I k, I m, I z]) 0, I was, I fr0, .und, .ipt (.agg [I at_, I n]) 0, .und, .und, .und, .und, .und, .und, .und, .und, .und, .und, .und, .und, .und, .und, .und, .und, .und, .und, .und, .und, .und, .und, .und, .und, .und, .und, .und, .und, .und, .und, .und, .und, .imm nly cy 2 (Y.map chV), I Y.length, I a, .und, .und, .und, .und, .und, .und, .und, .und, .und, .und, .und, .und, .und, .und, .und, .und, .und, .und, .und, .und, .und, .und, .und] K3 ?_ ?_))
        ·
          repeat first | refine AWp.seq ?_ | refine AWp.block ?_
          refine AWp.ops ?_
          simp [hgY, hHl, gK, sK]
          exact ((Weak.slots [0, 2, 3, 4, 5, 8, 9, 10, 12, 45, 46, 47]).trans (Weak.freeze N 3 (Nat.le_refl _))).to (by simp [l0, l1, l3, l4, gK]) (by rw [hK3, hCO])
        obtain ⟨-, -, q0, q1, q2, q3, q4⟩ := id hw3
        have hm2 : m < c'.length := by omega
        have hsetI : (c'.map I).set m (I (IntKind.i64.wrap (fr0 + at_))) = cN.map I := by rw [← hset, List.map_set]
        have q4' : ∀ o, (K3.set (n0 + 2) o)[n0 + 4]? = K3[n0 + 4]? := fun o => List.getElem?_set_ne (by omega)
        have hwi := wrap_i64 (n := (i : Int) + 1) (by omega) (by omega)
        have hwa1 := wrap_i64 (n := (a : Int) + 1) (by omega) (by omega)
        have hwN := hw3.set (c' := cN) (by omega)
        have hPN := hPset K3 s1 (intOb cN) hP3
        repeat first | refine AWp.seq ?_ | refine AWp.block ?_
        refine AWp.ops ?_
        simp [q3, q2, hm2, hsetI]
        repeat first | refine AWp.seq ?_ | refine AWp.block ?_
        refine AWp.ops ?_
        simp [q4', q4, hwi]
        refine (ih (i + 1) (by omega) (K3.set (n0 + 2) (intOb cN)) s1 cN n hwN hPN hgood).mono ?_
        rintro r K5 ⟨rfl, hw5, hP5⟩
        simp
        repeat first | refine AWp.seq ?_ | refine AWp.block ?_
        refine AWp.ops ?_
        simp [hwa1]
        refine ⟨a + 1, _, _, Weak.slots [0, 2, 3, 4, 5, 8, 9, 10, 45, 46, 47], ?_, by omega⟩
        rw [hJ]
        refine ⟨by omega, ⟨w64 (fr0 + at_), cN, by rw [hcN, hstep], hw5, ?_⟩, by simp [hwa1]⟩
        rw [htk]
        exact hP5
      · intro hb
        have hb : ¬ a < Y.length := by simpa using hb
        rw [List.take_of_length_le (by omega)] at hPa
        refine AWp.exit ?_
        simp [qSeq, qBlock]
        exact ⟨H, ⟨c', ⟨w, hc'⟩, hwa, hPa⟩, (Weak.slots [4, 8, 9]).to (by simp) rfl⟩
    rintro ⟨K4, c4⟩ ⟨w, rfl, hw4, hP4⟩
    obtain ⟨-, -, q0, q1, q2, q3, q4⟩ := id hw4
    have hm4 : m < (c.set m w).length := by simpa using hm1
    have hback : (c.set m w).set m was = c := by rw [List.set_set, hwas]; simp
    have hsetB : (c.map I).set m (I was) = c.map I := by rw [← List.map_set, hwas]; simp
    repeat first | refine AWp.seq ?_ | refine AWp.block ?_
    refine AWp.ops ?_
    simp [q3, q2, hm1, hsetB]
    refine retOk.of rfl ⟨rfl, ?_, hPset _ _ _ hP4⟩
    exact hw4.set (by simp)

def walk_3 : AC := (.seq (.ops [⟨(some 10), none, (.k (.mkF (.func 76) [] [(.t 2), (.t 3), (.t 4), (.t 5)]))⟩, ⟨none, none, (.k (.st 1 (.t 5) (.t 10)))⟩]) (.ops [⟨(some 11), none, (.k (.ld 1 false (.t 5)))⟩, ⟨(some 12), none, (.call false (.t 11) [(.c (.sc (.int .i64 0))), (.c (.sc (.int .i64 0)))])⟩]))
def walk_2 : AC := (.seq (.ops [⟨(some 5), none, (.k (.new 84 1 (.c (.sc .nilFunc))))⟩]) walk_3)
def walk_1 : AC := (.seq (.ops [⟨(some 6), none, (.k (.fad 0 (.t 2)))⟩, ⟨(some 7), none, (.k (.ld 1 false (.t 6)))⟩, ⟨(some 8), none, (.k (.len (.t 7)))⟩, ⟨(some 9), none, (.k (.mkS 3 1 8 (.sc (.int .i64 0)) (.t 8) (.t 8)))⟩, ⟨(some 4), none, (.k (.new 22 1 (.c (.imm true none 0 []))))⟩, ⟨none, none, (.k (.st 1 (.t 4) (.t 9)))⟩]) walk_2)
def walk_ac : AC := (.seq (.ops [⟨(some 2), none, (.k (.new 27 4 (.t 0)))⟩, ⟨(some 3), none, (.k (.new 83 1 (.t 1)))⟩]) walk_1)
theorem walk_call {args : List AV} {H : List AObj} {R : AV → List AObj → Prop} (h : AWp Try.prog [] H.length walk_ac (bodyQ H.length [] R) (args ++ List.replicate (13 - args.length) .und) H) : ACalls Try.prog 49 args H R :=
  ACalls.of_fn Try.func49 rfl (by kernel_rfl) rfl Try.ntmps49 h

set_option maxHeartbeats 2000000 in
theorem walk_spec {σ : Type} {n0 : Nat} {g : FuncId} {gc : List AV} {P : List AObj → σ → Prop} {step : σ → List Int → Nat → σ} {V : σ → List Int → Nat → Prop}
    {sh f l v : AV} {S Vs : List Int} {F : List (Int × Int × Int)} {xs : List LvA} (hS : ISl sh S) (hF : Sp f F) (hl : Ls l xs) (hV : ISl v Vs) (hfl : F.length = xs.length) (hS4 : S.length ≤ 1000)
    (hPset : ∀ K s o, P K s → P (K.set (n0 + 2) o) s) (hPfrz : ∀ K s G, K.length = n0 + 5 → P K s → P (frzH (K ++ G) (n0 + 5) 3) s) (hgc : ∀ H, gc.map (frz H (n0 + 5) 2 true) = gc)
    (hE : ∀ ty1 ty3 ty4 K s c p, WInv n0 (n0 + 5) (.agg [sh, f, l, v]) g gc ty1 ty3 ty4 K c → P K s → V s c p → ACalls Try.prog g ([.slc (n0 + 2) c.length 0 c.length none, I p] ++ gc) K fun r K' => r = .tup [] ∧ WInv n0 (n0 + 5) (.agg [sh, f, l, v]) g gc ty1 ty3 ty4 K' c ∧ P K' (step s c p))
    (hPapp : ∀ K s G, K.length = n0 → P K s → P (K ++ G) s) (hPend : ∀ K s, K.length = n0 + 5 → P K s → P (frzH K n0 3) s)
    {K0 : List AObj} {s : σ} (hK0 : K0.length = n0) (hP : P K0 s) (hg : GoodS V step xs F (List.replicate S.length 0) 0 s) :
    ACalls Try.prog 49 [.agg [sh, f, l, v], .fn (.func g) [] gc] K0 fun r K' => r = .tup [] ∧ K'.length = n0 ∧ P K' (walkF step xs F (List.replicate S.length 0) 0 s) := by
  have hS' := hS
  have hF' := hF
  have hl' := hl
  have hV' := hV
  obtain ⟨⟨nl, cl, sz, rfl, hs⟩, hlen, hx⟩ := hl
  obtain ⟨⟨nl1, c01, sz1, rfl, hs1⟩, hlen1, hx1⟩ := hS
  obtain ⟨⟨nl2, c02, sz2, rfl, hs2⟩, hlen2, hx2⟩ := hF
  obtain ⟨⟨nl3, c3, sz3, rfl, hs3⟩, hlen3, hx3⟩ := hV
  have getR : ∀ G j, (K0 ++ G)[n0 + j]? = G[j]? := fun G j => by rw [List.getElem?_append_right (by omega)]; congr 1; omega
  have getR0 : ∀ G, (K0 ++ G)[n0]? = G[0]? := fun G => getR G 0
  have setR : ∀ G j o, (K0 ++ G).set (n0 + j) o = K0 ++ G.set j o := fun G j o => by rw [List.set_append_right _ _ (by omega)]; congr 2; omega
  have b1 : S.length * 8 ≤ 281474976710656 := by omega
  have b2 : S.length ≤ 9223372036854775807 := by omega
  have b1' : (S.length : Int) * 8 ≤ 281474976710656 := by omega
  have b2' : (S.length : Int) ≤ 9223372036854775807 := by omega
  have hrep : List.replicate S.length (AV.sc (Value.int IntKind.i64 0)) = (List.replicate S.length (0 : Int)).map I := by simp
  apply walk_call
  rw [hK0]
  repeat first | refine AWp.seq ?_ | refine AWp.block ?_
  refine AWp.ops ?_
  simp [hK0]
  repeat first | refine AWp.seq ?_ | refine AWp.block ?_
  refine AWp.ops ?_
  simp [hK0, getR, getR0, setR, b1, b2, b1', b2']
  repeat first | refine AWp.seq ?_ | refine AWp.block ?_
  refine AWp.ops ?_
  simp [hK0]
  repeat first | refine AWp.seq ?_ | refine AWp.block ?_
  refine AWp.ops ?_
  simp [getR, getR0, setR]
  repeat first | refine AWp.seq ?_ | refine AWp.block ?_
  refine AWp.ops ?_
  simp [getR, getR0, setR]
  rw [hrep]
  have hw : ∀ K, K = K0 ++ [tnO (.agg [.imm nl1 c01 sz1 (S.map I), .imm nl2 c02 sz2 (F.map specV), .imm nl cl sz (xs.map lvV), .imm nl3 c3 sz3 (Vs.map I)]), ⟨83, 1, [.fn (.func g) [] gc], true, none⟩, intOb (List.replicate S.length 0), ⟨22, 1, [.slc (n0 + 2) S.length 0 S.length none], true, none⟩,
      ⟨84, 1, [.fn (.func 76) [] [.ptr n0 1 0 0, .ptr (n0 + 1) 1 0 0, .ptr (n0 + 3) 1 0 0, .ptr (n0 + 4) 1 0 0]], true, none⟩] →
      WInv n0 (n0 + 5) (.agg [.imm nl1 c01 sz1 (S.map I), .imm nl2 c02 sz2 (F.map specV), .imm nl cl sz (xs.map lvV), .imm nl3 c3 sz3 (Vs.map I)]) g gc 83 22 84 K (List.replicate S.length 0) := by
    rintro K rfl
    exact ⟨by simp [hK0], rfl, by rw [getR0]; rfl, by rw [getR]; rfl, by rw [getR]; rfl, by rw [getR]; simp, by rw [getR]; rfl⟩
  have hw := hw _ rfl
  have hd := down_spec hS' hF' hl' hV' hfl hPset hPfrz hgc (hE 83 22 84) xs.length 0 (by omega) _ s _ 0 hw (hPapp _ _ _ hK0 hP) hg
  simp at hd
  refine hd.mono ?_
  rintro r K' ⟨rfl, hw', hP'⟩
  simp
  have hl' := hw'.len
  exact ⟨[], .tup [], frzH K' n0 3, rfl, by simpa [tupV] using Weak.freeze (nb := n0) (fr := [AV.tup []]) (H := K') n0 3 (Nat.le_refl _), rfl, by simp [frzH]; omega, hPend _ _ hl' hP'⟩
end Go.Fw
