import Derived.Test.YthipbeffhfdamaaFwget1
namespace Go.Fw
open Go Go.RowKit Go.Proofs
set_option maxRecDepth 100000
set_option linter.unusedSimpArgs false
set_option linter.unusedVariables false

abbrev getCaps : List AV := [.ptr 0 1 0 0, .ptr 2 1 0 0, .ptr 3 1 0 0, .ptr 1 1 0 0, .ptr 4 1 0 0, .ptr 5 1 0 0]
/-- The objects of Get. -/
structure GInv (N : Nat) (tn cv : AV) (M : List (Bool × Int)) (v : Int) (b : Bool) (K : List AObj) : Prop where
  len : K.length = N
  lt : N = 6
  o0 : K[0]? = some (tnO tn)
  o1 : K[1]? = some ⟨22, 1, [cv], true, none⟩
  o2 : K[2]? = some ⟨2, 1, [I v], true, none⟩
  o3 : K[3]? = some ⟨4, 1, [Bo b], true, none⟩
  o4 : K[4]? = some ⟨71, 8, [.agg (mcells M)], true, none⟩
  o5 : K[5]? = some ⟨84, 1, [.fn (.func 51) [] getCaps], true, none⟩
theorem GInv.frz {N : Nat} {tn cv : AV} {M : List (Bool × Int)} {v : Int} {b : Bool} {K : List AObj} (h : GInv N tn cv M v b K) (G : List AObj)
    (htn : ∀ H k, frz H k 3 true tn = tn) (hcv : ∀ H k, frz H k 3 true cv = cv) : GInv N tn cv M v b (frzH (K ++ G) N 3) := by
  have hl := h.len
  have hN := h.lt
  have app : ∀ {i : Nat} {o : AObj}, K[i]? = some o → (K ++ G)[i]? = some o := by
    intro i o ho
    rw [List.getElem?_append_left (List.getElem?_eq_some_iff.1 ho).1]; exact ho
  refine ⟨by simp [frzH]; omega, hN, ?_, ?_, ?_, ?_, ?_, ?_⟩
  · rw [frzH_of 3 (by omega) (app h.o0)]; simp [htn]
  · rw [frzH_of 3 (by omega) (app h.o1)]; simp [hcv]
  · rw [frzH_of 3 (by omega) (app h.o2)]; simp
  · rw [frzH_of 3 (by omega) (app h.o3)]; simp
  · rw [frzH_of 3 (by omega) (app h.o4)]; simp [mcells_frz]
  · rw [frzH_of 3 (by omega) (app h.o5)]; simp [hN]
theorem GInv.put {N : Nat} {tn cv : AV} {M : List (Bool × Int)} {v w : Int} {b d : Bool} {K : List AObj} (h : GInv N tn cv M v b K) :
    GInv N tn cv M w d ((K.set 2 ⟨2, 1, [I w], true, none⟩).set 3 ⟨4, 1, [Bo d], true, none⟩) := by
  have hl := h.len
  have hN := h.lt
  refine ⟨by simpa using hl, hN, ?_, ?_, ?_, ?_, ?_, ?_⟩
  · simpa using h.o0
  · simpa using h.o1
  · simp [hl, hN]
  · simp [hl, hN]
  · simpa using h.o4
  · simpa using h.o5

def gdown_21 : AC := (.cond (.t 66) (.ops [⟨(some 67), none, (.k (.ld 1 false (.t 7)))⟩, ⟨(some 68), none, (.k (.mov (.t 0)))⟩, ⟨(some 69), none, (.k (.bin .add (.t 68) (.c (.sc (.int .i64 1)))))⟩, ⟨(some 70), none, (.k (.fad 1 (.t 14)))⟩, ⟨(some 71), none, (.k (.ld 1 false (.t 70)))⟩, ⟨(some 72), none, (.call false (.t 67) [(.t 69), (.t 71)])⟩]) .skip)
def gdown_20 : AC := (.seq (.ops [⟨(some 63), none, (.k (.fad 0 (.t 14)))⟩, ⟨(some 64), none, (.k (.ld 1 false (.t 63)))⟩, ⟨(some 65), none, (.k (.mov (.t 11)))⟩, ⟨(some 66), none, (.k (.bin .eql (.t 64) (.t 65)))⟩]) gdown_21)
def gdown_19 : AC := (.seq (.ops [⟨(some 61), none, (.k (.iad 2 (.t 57) (.t 59)))⟩, ⟨(some 62), none, (.k (.ld 2 true (.t 61)))⟩, ⟨(some 14), none, (.k (.new 88 2 (.c (.agg [(.sc (.int .i64 0)), (.sc (.int .i64 0))]))))⟩, ⟨none, none, (.k (.st 2 (.t 14) (.t 62)))⟩]) gdown_20)
def gdown_18 : AC := (.block 1 gdown_19)
def gdown_17 : AC := (.seq gdown_18 (.ops [⟨(some 73), none, (.k (.bin .add (.t 59) (.c (.sc (.int .i64 1)))))⟩, ⟨(some 59), none, (.k (.mov (.t 73)))⟩]))
def gdown_16 : AC := (.seq (.cond (.t 60) .skip (.exit 0)) gdown_17)
def gdown_15 : AC := (.seq (.ops [⟨(some 60), none, (.k (.bin .lss (.t 59) (.t 58)))⟩]) gdown_16)
def gdown_14 : AC := (.loop gdown_15)
def gdown_13 : AC := (.block 0 gdown_14)
def gdown_12 : AC := (.seq (.ops [⟨(some 51), none, (.k (.fad 2 (.t 2)))⟩, ⟨(some 52), none, (.k (.ld 1 false (.t 51)))⟩, ⟨(some 53), none, (.k (.mov (.t 0)))⟩, ⟨(some 54), none, (.k (.iad 4 (.t 52) (.t 53)))⟩, ⟨(some 55), none, (.k (.ld 4 true (.t 54)))⟩, ⟨(some 56), none, (.k (.mov (.t 1)))⟩, ⟨(some 57), none, (.call false (.c (.fn (.func 52) [] [])) [(.t 55), (.t 56)])⟩, ⟨(some 58), none, (.k (.len (.t 57)))⟩, ⟨(some 59), none, (.k (.mov (.c (.sc (.int .i64 0)))))⟩]) gdown_13)
def gdown_11 : AC := (.cond (.t 47) (.ops [⟨(some 48), none, (.k (.mov (.t 11)))⟩, ⟨(some 49), none, (.k (.mov (.t 12)))⟩, ⟨(some 50), none, (.k (.bin .quo (.t 48) (.t 49)))⟩, ⟨(some 11), none, (.k (.mov (.t 50)))⟩]) .skip)
def gdown_10 : AC := (.seq (.ops [⟨(some 46), none, (.k (.mov (.t 12)))⟩, ⟨(some 47), none, (.k (.bin .gtr (.t 46) (.c (.sc (.int .i64 0)))))⟩]) gdown_11)
def gdown_9 : AC := (.cond (.t 42) (.ops [⟨(some 43), none, (.k (.mov (.t 11)))⟩, ⟨(some 44), none, (.k (.mov (.t 12)))⟩, ⟨(some 45), none, (.k (.bin .rem (.t 43) (.t 44)))⟩, ⟨(some 11), none, (.k (.mov (.t 45)))⟩]) gdown_10)
def gdown_8 : AC := (.seq (.ops [⟨(some 40), none, (.k (.fad 0 (.t 10)))⟩, ⟨(some 41), none, (.k (.ld 1 false (.t 40)))⟩, ⟨(some 42), none, (.k (.bin .eql (.t 41) (.c (.sc (.int .i64 4)))))⟩]) gdown_9)
def gdown_7 : AC := (.seq (.ops [⟨(some 35), none, (.k (.fad 1 (.t 10)))⟩, ⟨(some 36), none, (.k (.ld 1 false (.t 35)))⟩, ⟨(some 37), none, (.k (.iar 4 2 (.t 6) (.t 36)))⟩, ⟨(some 38), none, (.k (.fad 1 (.t 37)))⟩, ⟨(some 39), none, (.k (.ld 1 false (.t 38)))⟩, ⟨(some 12), none, (.k (.mov (.t 39)))⟩]) gdown_8)
def gdown_6 : AC := (.seq gdown_7 gdown_12)
def gdown_5 : AC := (.seq (.ops [⟨(some 30), none, (.k (.ld 1 false (.t 5)))⟩, ⟨(some 31), none, (.k (.fad 1 (.t 10)))⟩, ⟨(some 32), none, (.k (.ld 1 false (.t 31)))⟩, ⟨(some 33), none, (.k (.iad 1 (.t 30) (.t 32)))⟩, ⟨(some 34), none, (.k (.ld 1 false (.t 33)))⟩, ⟨(some 11), none, (.k (.mov (.t 34)))⟩]) gdown_6)
def gdown_4 : AC := (.seq (.ops [⟨(some 25), none, (.k (.fad 1 (.t 2)))⟩, ⟨(some 26), none, (.k (.ld 1 false (.t 25)))⟩, ⟨(some 27), none, (.k (.mov (.t 0)))⟩, ⟨(some 28), none, (.k (.iad 3 (.t 26) (.t 27)))⟩, ⟨(some 29), none, (.k (.ld 3 true (.t 28)))⟩, ⟨(some 10), none, (.k (.new 43 3 (.c (.agg [(.sc (.int .i64 0)), (.sc (.int .i64 0)), (.sc (.int .i64 0))]))))⟩, ⟨none, none, (.k (.st 3 (.t 10) (.t 29)))⟩]) gdown_5)
def gdown_3 : AC := (.seq (.ops [⟨(some 20), none, (.k (.fad 3 (.t 2)))⟩, ⟨(some 21), none, (.k (.ld 1 false (.t 20)))⟩, ⟨(some 22), none, (.k (.mov (.t 1)))⟩, ⟨(some 23), none, (.k (.iad 1 (.t 21) (.t 22)))⟩, ⟨(some 24), none, (.k (.ld 1 false (.t 23)))⟩, ⟨none, none, (.k (.st 1 (.t 3) (.t 24)))⟩, ⟨none, none, (.k (.st 1 (.t 4) (.c (.sc (.bool true)))))⟩]) .ret)
def gdown_2 : AC := (.cond (.t 19) gdown_3 .skip)
def gdown_1 : AC := (.seq (.ops [⟨(some 15), none, (.k (.mov (.t 0)))⟩, ⟨(some 16), none, (.k (.fad 2 (.t 2)))⟩, ⟨(some 17), none, (.k (.ld 1 false (.t 16)))⟩, ⟨(some 18), none, (.k (.len (.t 17)))⟩, ⟨(some 19), none, (.k (.bin .eql (.t 15) (.t 18)))⟩]) gdown_2)
def gdown_ac : AC := (.seq gdown_1 gdown_4)
theorem gdown_call {args : List AV} {H : List AObj} {R : AV → List AObj → Prop} (h : AWp Try.prog [] H.length gdown_ac (bodyQ H.length [] R) (args ++ List.replicate (74 - args.length) .und) H) : ACalls Try.prog 51 args H R :=
  ACalls.of_fn Try.func51 rfl (by kernel_rfl) rfl Try.ntmps51 h

set_option maxHeartbeats 4000000 in
theorem gdown_spec {N : Nat} {sh f l v cv : AV} {S Vs c : List Int} {F : List (Int × Int × Int)} {xs : List LvA} {M : List (Bool × Int)} (hS : ISl sh S) (hF : Sp f F) (hl : Ls l xs) (hV : ISl v Vs) (hfl : F.length = xs.length) (hcv : ISl cv c) (hc : InS S c)
    (hS0 : ∀ x ∈ S, 0 ≤ x ∧ x ≤ 9223372036854775807) (hM4 : M.length = 4) (hSl : S.length ≤ 4) :
    ∀ j i, i + j = xs.length → ∀ K w b p M0 b0 cw n, GInv N (.agg [sh, f, l, v]) cv M w b K → Way S M Vs.length (F.drop i) (xs.drop i) M0 b0 cw n p →
      ACalls Try.prog 51 [I i, I p, .ptr 0 1 0 0, .ptr 2 1 0 0, .ptr 3 1 0 0, .ptr 1 1 0 0, .ptr 4 1 0 0, .ptr 5 1 0 0] K fun r K' => r = .tup [] ∧ GInv N (.agg [sh, f, l, v]) cv M (getGo M Vs c (xs.drop i) (F.drop i) p (w, b)).1 (getGo M Vs c (xs.drop i) (F.drop i) p (w, b)).2 K' := by
  obtain ⟨⟨nl, cl, sz, rfl, hs⟩, hlen, hx⟩ := hl
  obtain ⟨⟨nl1, c01, sz1, rfl, hs1⟩, hlen1, hx1⟩ := hS
  obtain ⟨⟨nl2, c02, sz2, rfl, hs2⟩, hlen2, hx2⟩ := hF
  obtain ⟨⟨nl3, c3, sz3, rfl, hs3⟩, hlen3, hx3⟩ := hV
  obtain ⟨⟨nl5, c5, sz5, rfl, hs5⟩, hlen5, hx5⟩ := hcv
  have htn : ∀ H k, frz H k 3 true (AV.agg [.imm nl1 c01 sz1 (S.map I), .imm nl2 c02 sz2 (F.map specV), .imm nl cl sz (xs.map lvV), .imm nl3 c3 sz3 (Vs.map I)]) = .agg [.imm nl1 c01 sz1 (S.map I), .imm nl2 c02 sz2 (F.map specV), .imm nl cl sz (xs.map lvV), .imm nl3 c3 sz3 (Vs.map I)] := fun H k => by simp
  have hcvf : ∀ H k, frz H k 3 true (AV.imm nl5 c5 sz5 (c.map I)) = AV.imm nl5 c5 sz5 (c.map I) := fun H k => by simp
  intro j
  induction j with
  | zero =>
    intro i hij K w b p M0 b0 cw n hG hW
    have hi : i = xs.length := by omega
    subst hi
    rw [List.drop_eq_nil_of_le (Nat.le_refl _)] at hW ⊢
    have hFn : F.drop xs.length = [] := List.drop_eq_nil_of_le (by omega)
    rw [hFn] at hW ⊢
    obtain ⟨rfl, hp⟩ := hW.nil
    have hszv := sz_of hs3 hp
    subst hszv
    obtain ⟨hl, hN, o0, o1, o2, o3, o4, o5⟩ := id hG
    apply gdown_call
    repeat first | refine AWp.seq ?_ | refine AWp.block ?_
    refine AWp.ops ?_
    simp [o0]
    refine AWp.cond (b := true) (by simp) (fun _ => ?_) (fun h => by cases h)
    repeat first | refine AWp.seq ?_ | refine AWp.block ?_
    refine AWp.ops ?_
    simp [o0, hp, o2, o3]
    refine AWp.ret ?_
    simp
    refine retOk.of rfl ⟨rfl, ?_⟩
    have := hG.put (w := Vs[p]) (d := true)
    simpa [getGo, hp] using this
  | succ j ih =>
    intro i hij K w b p M0 b0 cw n hG hW
    have hi : i < xs.length := by omega
    have hiF : i < F.length := by omega
    have hne : ¬ i = xs.length := by omega
    obtain ⟨hl, hN, o0, o1, o2, o3, o4, o5⟩ := id hG
    have hsz4 := sz4_of hs hi
    have hsz3 := sz3_of hs2 hiF
    subst hsz4 hsz3
    have hgs := lv_get hi
    have hgF := spec_get hiF
    have hok := hx xs[i] (List.getElem_mem hi)
    rw [List.drop_eq_getElem_cons hi, List.drop_eq_getElem_cons hiF] at hW ⊢
    simp only [getGo]
    generalize xs[i] = x at hgs hok hW
    generalize F[i] = sp at hgF hW
    obtain ⟨lv, px, qx⟩ := x
    obtain ⟨k, mo, z⟩ := sp
    simp only at hgs hok hW hgF
    obtain ⟨⟨hm0, hm1⟩, hchk, hk4, -, M1, -, hkids⟩ := hW.step hS0
    have hna := hW.hn
    have hpn := hW.hp
    simp only at hm0 hm1 hchk hk4 hkids
    obtain ⟨m, rfl⟩ : ∃ m : Nat, mo = m := ⟨mo.toNat, by omega⟩
    rw [Int.toNat_natCast] at hm1 hk4
    obtain ⟨hcl, hcb⟩ := hc
    have hmc : m < c.length := by omega
    have hsz5 := sz_of hs5 hmc
    subst hsz5
    have hmM : m < M.length := by omega
    obtain ⟨was, hwas⟩ : ∃ was, was = c[m] := ⟨_, rfl⟩
    have hwasD : c.getD m 0 = was := by rw [hwas]; simp [hmc]
    have hw0 := hcb m hm1
    rw [hwasD] at hw0
    have hwr : was ≤ 9223372036854775807 := by rw [hwas]; exact (hx5 _ (List.getElem_mem hmc)).2
    obtain ⟨blk, hblk⟩ : ∃ blk, blk = M[m].2 := ⟨_, rfl⟩
    have hblkD : (M.getD m (false, 0)).2 = blk := by rw [hblk]; simp [hmM]
    have hg4 := mcells_get1 M m hmM
    rw [← hblk] at hg4
    obtain ⟨want, hwant⟩ : ∃ want, want = wantF M (k, (m : Int), z) c := ⟨_, rfl⟩
    have hwf : want = if k = 4 then was % blk else if 0 < blk then was / blk else was := by rw [hwant]; simp only [wantF, Int.toNat_natCast, hwasD, hblkD]
    rw [← hwant]
    obtain ⟨SO, hSO⟩ : ∃ SO : AObj, SO = ⟨43, 3, [.agg [I k, I m, I z]], true, none⟩ := ⟨_, rfl⟩
    obtain ⟨K1, hK1⟩ : ∃ K1, K1 = frzH (K ++ [SO]) N 3 := ⟨_, rfl⟩
    have hG1 : GInv N (.agg [.imm nl1 c01 sz1 (S.map I), .imm nl2 c02 3 (F.map specV), .imm nl cl 4 (xs.map lvV), .imm nl3 c3 sz3 (Vs.map I)]) (.imm nl5 c5 1 (c.map I)) M w b K1 := by rw [hK1]; exact hG.frz _ htn hcvf
    have gK : ∀ o, (K ++ [o])[N]? = some o := fun o => by rw [← hl]; simp
    have sK : ∀ o o', (K ++ [o]).set N o' = K ++ [o'] := fun o o' => by rw [← hl]; simp
    apply gdown_call
    rw [hl]
    repeat first | refine AWp.seq ?_ | refine AWp.block ?_
    refine AWp.ops ?_
    simp [o0]
    have hneI : ¬ (i : Int) = xs.length := by omega
    have l0 : 0 < N := by omega
    have l1 : 1 < N := by omega
    have l2 : 2 < N := by omega
    have l3 : 3 < N := by omega
    have l4 : 4 < N := by omega
    have l5 : 5 < N := by omega
    have hm4 : (m : Int) < 4 := by omega
    refine AWp.cond (b := false) (by simp [hneI]) (fun h => by cases h) (fun _ => ?_)
    refine AWp.skip ?_
    simp only [qSeq]
    refine AWp.cut [I i, I p, .ptr 0 1 0 0, .ptr 2 1 0 0, .ptr 3 1 0 0, .ptr 1 1 0 0, .ptr 4 1 0 0, .ptr 5 1 0 0, .und, .und, .ipt (.agg [I k, I m, I z]) 0, .und, .und, .und, .und, .und, .und, .und, .und, .und, .und, .und, .und, .und, .und, .und, .und, .und, .und, .und, .und, .und, .und, .und, .und, .und, .und, .und, .und, .und, .und, .und, .und, .und, .und, .und, .und, .und, .und, .und, .und, .und, .und, .und, .und, .und, .und, .und, .und, .und, .und, .und, .und, .und, .und, .und, .und, .und, .und, .und, .und, .und, .und, .und] K1 ?_ ?_
    ·
      repeat first | refine AWp.seq ?_ | refine AWp.block ?_
      refine AWp.ops ?_
      simp [o0, hgF, hl, gK, sK]
      exact ((Weak.slots [0, 1, 2, 3, 4, 5, 6, 7, 10]).trans (Weak.freeze N 3 (Nat.le_refl _))).to (by simp [l0, l1, l2, l3, l4, l5, gK]) (by rw [hK1, hSO])
    obtain ⟨hl1, -, p0, p1, p2, p3, p4, p5⟩ := id hG1
    clear hK1 hG o0 o1 o2 o3 o4 o5 gK sK hl
    repeat first | refine AWp.seq ?_ | refine AWp.block ?_
    refine AWp.ops ?_
    simp [p1, hmc, ← hwas]
    refine AWp.cut [I i, I p, .ptr 0 1 0 0, .ptr 2 1 0 0, .ptr 3 1 0 0, .ptr 1 1 0 0, .ptr 4 1 0 0, .ptr 5 1 0 0, .und, .und, .und, I want, .und, .und, .und, .und, .und, .und, .und, .und, .und, .und, .und, .und, .und, .und, .und, .und, .und, .und, .und, .und, .und, .und, .und, .und, .und, .und, .und, .und, .und, .und, .und, .und, .und, .und, .und, .und, .und, .und, .und, .und, .und, .und, .und, .und, .und, .und, .und, .und, .und, .und, .und, .und, .und, .und, .und, .und, .und, .und, .und, .und, .und, .und] K1 ?_ ?_
    ·
      repeat first | refine AWp.seq ?_ | refine AWp.block ?_
      refine AWp.ops ?_
      simp [p4, hm4, hg4]
      repeat first | refine AWp.seq ?_ | refine AWp.block ?_
      refine AWp.ops ?_
      simp
      by_cases k4 : k = 4
      · obtain ⟨-, g2, g3, -⟩ := hk4 k4
        rw [hblkD] at g3
        have hb0 : ¬ blk = 0 := by omega
        rw [if_pos k4] at hwf
        have d1 : was.tmod blk = was % blk := Int.tmod_eq_emod_of_nonneg hw0.1
        refine AWp.cond (b := true) (by simp [k4]) (fun _ => ?_) (fun h => by cases h)
        repeat first | refine AWp.seq ?_ | refine AWp.block ?_
        refine AWp.ops ?_
        simp [hb0, d1]
        exact (Weak.slots [0, 1, 2, 3, 4, 5, 6, 7, 11]).to (by simp [hwf]) rfl
      · rw [if_neg k4] at hwf
        refine AWp.cond (b := false) (by simp [k4]) (fun h => by cases h) (fun _ => ?_)
        repeat first | refine AWp.seq ?_ | refine AWp.block ?_
        refine AWp.ops ?_
        simp
        by_cases hb : 0 < blk
        · have hb0 : ¬ blk = 0 := by omega
          rw [if_pos hb] at hwf
          have q0 : 0 ≤ was / blk := Int.ediv_nonneg hw0.1 (by omega)
          have q1 : was / blk ≤ was := Int.ediv_le_self _ hw0.1
          have d2 : IntKind.i64.wrap (was.tdiv blk) = was / blk := by rw [Int.tdiv_eq_ediv_of_nonneg hw0.1]; exact wrap_i64 (by omega) (by omega)
          refine AWp.cond (b := true) (by simp [hb]) (fun _ => ?_) (fun h => by cases h)
          repeat first | refine AWp.seq ?_ | refine AWp.block ?_
          refine AWp.ops ?_
          simp [hb0, d2]
          exact (Weak.slots [0, 1, 2, 3, 4, 5, 6, 7, 11]).to (by simp [hwf]) rfl
        · rw [if_neg hb] at hwf
          refine AWp.cond (b := false) (by simp [hb]) (fun h => by cases h) (fun _ => ?_)
          refine AWp.skip ?_
          simp only [qSeq]
          exact (Weak.slots [0, 1, 2, 3, 4, 5, 6, 7, 11]).to (by simp [hwf]) rfl
    obtain ⟨Y, hY⟩ : ∃ Y, Y = kidsF lv p := ⟨_, rfl⟩
    rw [← hY] at hkids ⊢
    have hok' := hok
    obtain ⟨⟨⟨nlp, cpp, szp, rfl, _⟩, _⟩, ⟨⟨nlq, cqq, szq, rfl, _⟩, _⟩, _⟩ := hok'
    repeat first | refine AWp.seq ?_ | refine AWp.block ?_
    refine AWp.ops ?_
    simp [p0, hgs]
    refine ((kids_spec hok hna hchk hpn).pure (by simp) (by rintro r ⟨⟨_, _, _, rfl, _⟩, _⟩; simp) _).mono ?_
    rintro r H' ⟨rfl, hCh⟩
    rw [← hY] at hCh
    obtain ⟨⟨nly, cy, szy, rfl, hsy⟩, hyl⟩ := hCh
    simp
    obtain ⟨st, hst⟩ : ∃ st : Int × Bool → Int × Int → Int × Bool, st = fun s y => if y.1 = want then getGo M Vs c (xs.drop (i + 1)) (F.drop (i + 1)) y.2.toNat s else s := ⟨_, rfl⟩
    rw [← hst]
    obtain ⟨J, hJ⟩ : ∃ J : Nat → List AV → List AObj → Prop, J = fun a fr H => a ≤ Y.length ∧ (GInv N (.agg [.imm nl1 c01 sz1 (S.map I), .imm nl2 c02 3 (F.map specV), .imm nl cl 4 (xs.map lvV), .imm nl3 c3 sz3 (Vs.map I)]) (.imm nl5 c5 1 (c.map I)) M ((Y.take a).foldl st (w, b)).1 ((Y.take a).foldl st (w, b)).2 H) ∧
        fr = [I i, .und, .ptr 0 1 0 0, .ptr 2 1 0 0, .ptr 3 1 0 0, .ptr 1 1 0 0, .ptr 4 1 0 0, .ptr 5 1 0 0, .und, .und, .und, I want, .und, .und, .und, .und, .und, .und, .und, .und, .und, .und, .und, .und, .und, .und, .und, .und, .und, .und, .und, .und, .und, .und, .und, .und, .und, .und, .und, .und, .und, .und, .und, .und, .und, .und, .und, .und, .und, .und, .und, .und, .und, .und, .und, .und, .und, .imm nly cy szy (Y.map chV), I Y.length, I a, .und, .und, .und, .und, .und, .und, .und, .und, .und, .und, .und, .und, .und, .und] := ⟨_, rfl⟩
    refine AWp.block (AWp.loop J (fun a => Y.length - a) 0 (Weak.slots [0, 2, 3, 4, 5, 6, 7, 11, 57, 58, 59]) (by
      rw [hJ]
      exact ⟨by omega, by simpa using hG1, by simp⟩) ?_)
    intro a fr H hI
    rw [hJ] at hI
    obtain ⟨ha, hGa, rfl⟩ := hI
    repeat first | refine AWp.seq ?_ | refine AWp.block ?_
    refine AWp.ops ?_
    simp
    refine AWp.seq (AWp.cond (b := decide (a < Y.length)) (by simp) ?_ ?_)
    · intro hb
      have hb : a < Y.length := by simpa using hb
      have hszy := sz2_of hsy hb
      subst hszy
      have hgY := ch_get hb
      obtain ⟨hy0, -, -, hwy⟩ := hkids Y[a] (List.getElem_mem hb)
      have htk : (Y.take (a + 1)).foldl st (w, b) = st ((Y.take a).foldl st (w, b)) Y[a] := by
        rw [List.take_succ_eq_append_getElem hb, List.foldl_append]; rfl
      generalize Y[a] = y at hgY hy0 hwy htk
      obtain ⟨at_, bq⟩ := y
      simp only at hgY hy0 hwy htk
      obtain ⟨n', rfl⟩ : ∃ n' : Nat, bq = n' := ⟨bq.toNat, by omega⟩
      rw [Int.toNat_natCast] at hwy
      obtain ⟨s1, hs1'⟩ : ∃ s1, s1 = (Y.take a).foldl st (w, b) := ⟨_, rfl⟩
      rw [← hs1'] at hGa htk
      obtain ⟨CO, hCO⟩ : ∃ CO : AObj, CO = ⟨88, 2, [.agg [I at_, I n']], true, none⟩ := ⟨_, rfl⟩
      obtain ⟨K3, hK3⟩ : ∃ K3, K3 = frzH (H ++ [CO]) N 3 := ⟨_, rfl⟩
      have hHl := hGa.len
      have hw3 : GInv N (.agg [.imm nl1 c01 sz1 (S.map I), .imm nl2 c02 3 (F.map specV), .imm nl cl 4 (xs.map lvV), .imm nl3 c3 sz3 (Vs.map I)]) (.imm nl5 c5 1 (c.map I)) M s1.1 s1.2 K3 := by rw [hK3]; exact hGa.frz _ htn hcvf
      have gK : ∀ o, (H ++ [o])[N]? = some o := fun o => by rw [← hHl]; simp
      have sK : ∀ o o', (H ++ [o]).set N o' = H ++ [o'] := fun o o' => by rw [← hHl]; simp
      refine AWp.skip ?_
      simp only [qSeq]
      refine AWp.seq (AWp.block (AWp.cut [I i, .und, .ptr 0 1 0 0, .ptr 2 1 0 0, .ptr 3 1 0 0, .ptr 1 1 0 0, .ptr 4 1 0 0, .ptr 5 1 0 0, .und, .und, .und, I want, .und, .und, .ipt (.agg [I at_, I n']) 0, .und, .und, .und, .und, .und, .und, .und, .und, .und, .und, .und, .und, .und, .und, .und, .und, .und, .und, .und, .und, .und, .und, .und, .und, .und, .und, .und, .und, .und, .und, .und, .und, .und, .und, .und, .und, .und, .und, .und, .und, .und, .und, .imm nly cy 2 (Y.map chV), I Y.length, I a, .und, .und, .und, .und, .und, .und, .und, .und, .und, .und, .und, .und, .und, .und] K3 ?_ ?_))
      ·
        repeat first | refine AWp.seq ?_ | refine AWp.block ?_
        refine AWp.ops ?_
        simp [hgY, hHl, gK, sK]
        exact ((Weak.slots [0, 2, 3, 4, 5, 6, 7, 11, 14, 57, 58, 59]).trans (Weak.freeze N 3 (Nat.le_refl _))).to (by simp [l0, l1, l2, l3, l4, l5, gK]) (by rw [hK3, hCO])
      obtain ⟨-, -, q0, q1, q2, q3, q4, q5⟩ := id hw3
      have hwi := wrap_i64 (n := (i : Int) + 1) (by omega) (by omega)
      have hwa1 := wrap_i64 (n := (a : Int) + 1) (by omega) (by omega)
      repeat first | refine AWp.seq ?_ | refine AWp.block ?_
      refine AWp.ops ?_
      simp
      by_cases hat : at_ = want
      · refine AWp.cond (b := true) (by simp [hat]) (fun _ => ?_) (fun h => by cases h)
        have hst1 : st s1 (at_, (n' : Int)) = getGo M Vs c (xs.drop (i + 1)) (F.drop (i + 1)) n' s1 := by rw [hst]; simp [hat]
        rw [hst1] at htk
        repeat first | refine AWp.seq ?_ | refine AWp.block ?_
        refine AWp.ops ?_
        simp [q5, hwi]
        refine (ih (i + 1) (by omega) K3 s1.1 s1.2 n' _ _ _ _ hw3 hwy).mono ?_
        rintro r K5 ⟨rfl, hw5⟩
        simp
        repeat first | refine AWp.seq ?_ | refine AWp.block ?_
        refine AWp.ops ?_
        simp [hwa1]
        refine ⟨a + 1, _, _, Weak.slots [0, 2, 3, 4, 5, 6, 7, 11, 57, 58, 59], ?_, by omega⟩
        rw [hJ]
        refine ⟨by omega, ?_, by simp [hwa1]⟩
        rw [htk]
        exact hw5
      · refine AWp.cond (b := false) (by simp [hat]) (fun h => by cases h) (fun _ => ?_)
        have hst1 : st s1 (at_, (n' : Int)) = s1 := by rw [hst]; simp [hat]
        rw [hst1] at htk
        refine AWp.skip ?_
        simp only [qSeq, qBlock]
        repeat first | refine AWp.seq ?_ | refine AWp.block ?_
        refine AWp.ops ?_
        simp [hwa1]
        refine ⟨a + 1, _, _, Weak.slots [0, 2, 3, 4, 5, 6, 7, 11, 57, 58, 59], ?_, by omega⟩
        rw [hJ]
        refine ⟨by omega, ?_, by simp [hwa1]⟩
        rw [htk]
        exact hw3
    · intro hb
      have hb : ¬ a < Y.length := by simpa using hb
      rw [List.take_of_length_le (by omega)] at hGa
      refine AWp.exit ?_
      simp [qSeq, qBlock]
      exact ⟨[], .tup [], H, rfl, Weak.refl _ _ _, rfl, hGa⟩
end Go.Fw
