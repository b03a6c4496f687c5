import Derived.Test.YthipbeffhfdamaaFwstore4
import Derived.Test.YthipbeffhfdamaaFwlevel1
namespace Go.Fw
open Go Go.RowKit Go.Proofs
set_option maxRecDepth 100000
set_option linter.unusedSimpArgs false
set_option linter.unusedVariables false
def RiseT (ls : List LvA) (ps : List Int) (m : Nat) : Prop := ∀ p < ps.length - 1, ∀ q < m, ps.getD p 0 < (q : Int) → (q : Int) < ps.getD (p + 1) 0 → lessF ls q = true
instance (ls : List LvA) (ps : List Int) (m : Nat) : Decidable (RiseT ls ps m) := by unfold RiseT; infer_instance
def riseF : List LvA → Bool
  | [] => true
  | x :: r => if x.lv.k = 2 then decide (RiseT (x :: r) x.lv.pos x.lv.crd.length) else riseF r
theorem riseF_none : ∀ {xs : List LvA}, (∀ x ∈ xs, decide (x.lv.k = 2) = false) → riseF xs = true
  | [], _ => rfl
  | x :: r, h => by
    have h0 := h x (by simp)
    rw [riseF, if_neg (by simpa using h0)]
    exact riseF_none fun y hy => h y (by simp [hy])
theorem riseF_at : ∀ {xs : List LvA} {i : Nat} (h : i < xs.length), xs[i].lv.k = 2 → (∀ x ∈ xs.take i, decide (x.lv.k = 2) = false) → riseF xs = decide (RiseT (xs.drop i) xs[i].lv.pos xs[i].lv.crd.length)
  | x :: r, 0, _, hk, _ => by
    simp only [List.getElem_cons_zero] at hk
    simp only [riseF, hk, if_true, List.drop_zero, List.getElem_cons_zero]
  | x :: r, i + 1, h, hk, hn => by
    have h0 := hn x (by simp)
    rw [riseF, if_neg (by simpa using h0)]
    simp only [List.getElem_cons_succ, List.drop_succ_cons] at hk ⊢
    exact riseF_at (by simpa using h) hk fun y hy => hn y (by simp [hy])
def RiseOk (xs : List LvA) : Prop := ∀ (i : Nat) (h : i < xs.length), xs[i].lv.k = 2 →
  (∀ x ∈ xs.drop i, x.lv.crd.length = xs[i].lv.crd.length ∧ ∀ c ∈ x.lv.crd, 0 ≤ c ∧ c < 4294967296) ∧ (∃ n, n ≤ 1048576 ∧ PosOk xs[i].lv.pos xs[i].lv.crd.length n) ∧ xs[i].lv.crd.length ≤ 1048576 ∧ ∀ x ∈ xs.drop (i + 1), ¬ x.lv.k = 2
def srising_22 : AC := (.seq (.ops [.m 39 (.t 4), .m 40 (.t 8), .c 41 false (.t 39) [(.t 40)], .o 42 (.un .not (.t 41))]) (.cond (.t 42) (.seq (.ops [.m 2 (.b false)]) .ret) .skip))
def srising_21 : AC := (.block 3 srising_22)
def srising_20 : AC := (.seq srising_21 (.ops [.m 37 (.t 8), .o 38 (.bin .add (.t 37) (.i 1)), .m 8 (.t 38)]))
def srising_19 : AC := (.seq (.ops [.m 34 (.t 8), .m 35 (.t 7), .o 36 (.bin .lss (.t 34) (.t 35))]) (.cond (.t 36) .skip (.exit 2)))
def srising_18 : AC := (.seq srising_19 srising_20)
def srising_17 : AC := (.loop srising_18)
def srising_16 : AC := (.block 2 srising_17)
def srising_15 : AC := (.seq (.ops [.m 29 (.t 5), .m 30 (.t 6), .o 31 (.iad 1 (.t 29) (.t 30)), .o 32 (.ld 1 false (.t 31)), .o 33 (.bin .add (.t 32) (.i 1)), .m 8 (.t 33)]) srising_16)
def srising_14 : AC := (.seq (.ops [.m 26 (.t 24), .o 27 (.iad 1 (.t 22) (.t 24)), .o 28 (.ld 1 false (.t 27)), .m 6 (.t 26), .m 7 (.t 28)]) srising_15)
def srising_13 : AC := (.block 1 srising_14)
def srising_12 : AC := (.seq srising_13 (.ops [.o 43 (.bin .add (.t 24) (.i 1)), .m 24 (.t 43)]))
def srising_11 : AC := (.seq (.cond (.t 25) .skip (.exit 0)) srising_12)
def srising_10 : AC := (.seq (.ops [.o 25 (.bin .lss (.t 24) (.t 23))]) srising_11)
def srising_9 : AC := (.loop srising_10)
def srising_8 : AC := (.block 0 srising_9)
def srising_7 : AC := (.seq (.ops [.m 21 (.t 5), .o 22 (.sl 1 (.t 21) (some (.i 1)) none none), .o 23 (.len (.t 22)), .m 24 (.i 0)]) srising_8)
def srising_6 : AC := (.seq srising_7 (.seq (.ops [.m 2 (.b true)]) .ret))
def srising_5 : AC := (.seq (.ops [.o 15 (.fad 2 (.t 1)), .o 16 (.ld 1 false (.t 15)), .o 17 (.ld 1 false (.t 3)), .o 18 (.iad 4 (.t 16) (.t 17)), .o 19 (.fad 2 (.t 18)), .o 20 (.ld 1 false (.t 19)), .m 5 (.t 20)]) srising_6)
def srising_4 : AC := (.seq (.ops [.o 14 (.mkF (.func 72) [] [(.t 1), (.t 3)]), .m 4 (.t 14)]) srising_5)
def srising_3 : AC := (.seq (.ops [.o 12 (.ld 1 false (.t 3)), .o 13 (.bin .lss (.t 12) (.i 0))]) (.cond (.t 13) (.seq (.ops [.m 2 (.b true)]) .ret) .skip))
def srising_2 : AC := (.seq srising_3 srising_4)
def srising_1 : AC := (.seq (.ops [.o 9 (.fad 2 (.t 1)), .o 10 (.ld 1 false (.t 9)), .c 11 false (.f 70) [(.t 10), (.f 71)], .o 3 (.new 3 1 (.i 0)), .on (.st 1 (.t 3) (.t 11))]) srising_2)
def srising_ac : AC := (.seq (.ops [.o 1 (.new 27 4 (.t 0)), .m 2 (.b false)]) srising_1)
theorem srising_call {args : List AV} {H : List AObj} {R : AV → List AObj → Prop} (h : AWp Try.prog [] H.length srising_ac (bodyQ H.length [(.t 2)] R) (args ++ List.replicate (44 - args.length) .und) H) : ACalls Try.prog 39 args H R :=
  ACalls.of_fn Try.func39 rfl (by kernel_rfl) rfl Try.ntmps39 h
set_option maxHeartbeats 4000000 in
theorem srising_spec {sh f l v : AV} {S V : List Int} {F : List (Int × Int × Int)} {xs : List LvA} (hS : ISl sh S) (hF : Sp f F) (hl : Ls l xs) (hV : ISl v V) (hok : RiseOk xs) :
    ACalls Try.prog 39 [.agg [sh, f, l, v]] [] fun r H' => H' = [] ∧ r = Bo (riseF xs) := by
  have hS' := hS
  have hF' := hF
  have hl' := hl
  have hV' := hV
  obtain ⟨⟨nl, c, sz, rfl, hs⟩, hlen, hx⟩ := hl
  obtain ⟨⟨nl1, c01, sz1, rfl, hs1⟩, hlen1, hx1⟩ := hS
  obtain ⟨⟨nl2, c02, sz2, rfl, hs2⟩, hlen2, hx2⟩ := hF
  obtain ⟨⟨nl3, c3, sz3, rfl, hs3⟩, hlen3, hx3⟩ := hV
  have base : ACalls Try.prog 39 [.agg [.imm nl1 c01 sz1 (S.map I), .imm nl2 c02 sz2 (F.map specV), .imm nl c sz (xs.map lvV), .imm nl3 c3 sz3 (V.map I)]] [] fun r H' => r = Bo (riseF xs) := by
    apply srising_call
    repeat first | refine AWp.seq ?_ | refine AWp.block ?_
    refine AWp.ops ?_
    simp
    repeat first | refine AWp.seq ?_ | refine AWp.block ?_
    refine AWp.ops ?_
    simp
    refine ((IdxL_spec hl' (fun x hm => srising1_spec (hx x hm))).pure (by simp) (by rintro r ⟨n, rfl, _⟩; simp) _).mono ?_
    rintro r H' ⟨rfl, n, rfl, hn⟩
    simp
    repeat first | refine AWp.seq ?_ | refine AWp.block ?_
    refine AWp.ops ?_
    simp
    rcases hn with ⟨rfl, hn⟩ | ⟨i, hi, rfl, hk, hfst⟩
    ·
      refine AWp.cond (b := true) (by simp) (fun _ => ?_) (fun h => by cases h)
      repeat first | refine AWp.seq ?_ | refine AWp.block ?_
      refine AWp.ops ?_
      simp
      refine AWp.ret ?_
      simp
      refine retOk.of rfl ?_
      rw [riseF_none hn]; simp
    refine AWp.cond (b := false) (by simp) (fun h => by cases h) (fun _ => ?_)
    have hk : xs[i].lv.k = 2 := by simpa using hk
    obtain ⟨hall, ⟨N, hN, hP⟩, hm, -⟩ := hok i hi hk
    have hres := riseF_at hi hk hfst
    have hgs := lv_get hi
    have hsz4 := sz4_of hs hi
    subst hsz4
    have hxi := hx xs[i] (List.getElem_mem hi)
    have call : ∀ (q : Nat), 0 < q → q < xs[i].lv.crd.length → ACalls Try.prog 72 [I q, .ptr 0 1 0 0, .ptr 1 1 0 0] [tnO (.agg [.imm nl1 c01 sz1 (S.map I), .imm nl2 c02 sz2 (F.map specV), .imm nl c 4 (xs.map lvV), .imm nl3 c3 sz3 (V.map I)]), ⟨3, 1, [I i], true, none⟩]
        fun r H' => H' = [tnO (.agg [.imm nl1 c01 sz1 (S.map I), .imm nl2 c02 sz2 (F.map specV), .imm nl c 4 (xs.map lvV), .imm nl3 c3 sz3 (V.map I)]), ⟨3, 1, [I i], true, none⟩] ∧ r = Bo (lessF (xs.drop i) q) := by
      intro q h1 h2
      refine ACalls.pureLent 3 (R := fun r => r = Bo (lessF (xs.drop i) q)) ?_ (by rintro r rfl s; simp)
      simp
      exact srising2_spec hS' hF' hl' hV' hi h1 h2 hm hall
    generalize hlv : xs[i] = x at hk hall hP hm hres hgs hxi call
    obtain ⟨⟨k, z, ps, cs⟩, p, q⟩ := x
    simp only at hk hall hP hm hres hgs hxi call
    obtain ⟨⟨⟨nlp, cp, szp, rfl, hsp⟩, hlp, _⟩, ⟨⟨nlq, cq, szq, rfl, hsq⟩, _⟩, _⟩ := hxi
    simp only at hlp hsp
    obtain ⟨hpl, hp0, hp1, hp2⟩ := hP
    have hP : PosOk ps cs.length N := ⟨hpl, hp0, hp1, hp2⟩
    have hszp := sz_of hsp (i := 0) (by omega)
    subst hszp
    rw [hres]
    generalize i = i0 at call hres hfst hall hgs
    refine AWp.skip ?_
    simp only [qSeq]
    repeat first | refine AWp.seq ?_ | refine AWp.block ?_
    refine AWp.ops ?_
    simp
    repeat first | refine AWp.seq ?_ | refine AWp.block ?_
    refine AWp.ops ?_
    simp [hgs]
    obtain ⟨ts, hts⟩ : ∃ ts, ts = ps.tail := ⟨_, rfl⟩
    have htl : ts.length = N := by rw [hts]; simp [hpl]
    have htg : ∀ j, ts.getD j 0 = ps.getD (j + 1) 0 := by
      intro j
      rw [hts]
      cases ps <;> simp
    have c1 : (1 : Int) ≤ (N : Int) + 1 := by omega
    have c2 : List.take N (ps.map I).tail = ts.map I := by
      rw [hts, List.map_tail]
      exact List.take_of_length_le (by simp [hpl])
    obtain ⟨ct, hct⟩ : ∃ ct, ct = Option.map (fun x => x - 1) cp := ⟨_, rfl⟩
    repeat first | refine AWp.seq ?_ | refine AWp.block ?_
    refine AWp.ops ?_
    simp [c1, c2, hpl, htl, ← hct]
    obtain ⟨HH, hHH⟩ : ∃ HH, HH = [tnO (.agg [.imm nl1 c01 sz1 (S.map I), .imm nl2 c02 sz2 (F.map specV), .imm nl c 4 (xs.map lvV), .imm nl3 c3 sz3 (V.map I)]), ⟨3, 1, [I i0], true, none⟩] := ⟨_, rfl⟩
    rw [← hHH] at call ⊢
    obtain ⟨ys, hys⟩ : ∃ ys, ys = xs.drop i0 := ⟨_, rfl⟩
    rw [← hys] at call ⊢
    obtain ⟨J, hJ⟩ : ∃ J : Nat → List AV → List AObj → Prop, J = fun i fr H => i ≤ N ∧ (∀ p < i, ∀ q < cs.length, ps.getD p 0 < (q : Int) → (q : Int) < ps.getD (p + 1) 0 → lessF ys q = true) ∧ H = HH ∧
      fr = [.und, .und, .und, .und, .fn (.func 72) [] [.ptr 0 1 0 0, .ptr 1 1 0 0], .imm nlp cp 1 (ps.map I), .und, .und, .und, .und, .und, .und, .und, .und, .und, .und, .und, .und, .und, .und, .und, .und, .imm nlp ct 1 (ts.map I), I N, I i, .und, .und, .und, .und, .und, .und, .und, .und, .und, .und, .und, .und, .und, .und, .und, .und, .und, .und, .und] := ⟨_, rfl⟩
    refine AWp.block (AWp.loop J (fun i => N - i) 0 (Weak.slots [4, 5, 22, 23, 24]) (by rw [hJ]; exact ⟨by omega, fun p hp => by omega, by simp, by simp⟩) ?_)
    intro i fr H hI
    rw [hJ] at hI
    obtain ⟨hi, hinv, rfl, rfl⟩ := hI
    repeat first | refine AWp.seq ?_ | refine AWp.block ?_
    refine AWp.ops ?_
    simp
    refine AWp.seq (AWp.cond (b := decide (i < N)) (by simp <;> omega) ?_ ?_)
    ·
      intro hb
      have hb : i < N := by simpa using hb
      refine AWp.skip ?_
      simp only [qSeq]
      obtain ⟨f, t, hf', ht', hft, htc⟩ := hP.at hb
      have hbp : i < ps.length := by omega
      have hbt : i < ts.length := by omega
      have ef : ps[i] = f := by simpa [hbp] using hf'
      have et : ts[i] = t := by
        have := htg i
        rw [ht'] at this
        simpa [hbt] using this
      have hwi := wrap_i64 (n := (i : Int) + 1) (by omega) (by omega)
      have hwf := wrap_i64 (n := (f : Int) + 1) (by omega) (by omega)
      repeat first | refine AWp.seq ?_ | refine AWp.block ?_
      refine AWp.ops ?_
      simp [hbt, et]
      repeat first | refine AWp.seq ?_ | refine AWp.block ?_
      refine AWp.ops ?_
      simp [hbp, ef, hwf]
      obtain ⟨J2, hJ2⟩ : ∃ J2 : Nat → List AV → List AObj → Prop, J2 = fun j fr H2 => (∀ q : Nat, f < q → q < f + 1 + j → lessF ys q = true) ∧
        H2 = H ∧
        fr = [.und, .und, .und, .und, .fn (.func 72) [] [.ptr 0 1 0 0, .ptr 1 1 0 0], .imm nlp cp 1 (ps.map I), .und, I t, I ((f + 1 + j : Nat) : Int), .und, .und, .und, .und, .und, .und, .und, .und, .und, .und, .und, .und, .und, .imm nlp ct 1 (ts.map I), I N, I i, .und, .und, .und, .und, .und, .und, .und, .und, .und, .und, .und, .und, .und, .und, .und, .und, .und, .und, .und] := ⟨_, rfl⟩
      refine AWp.block (AWp.loop J2 (fun j => t - j) 0 (Weak.slots [4, 5, 7, 8, 22, 23, 24]) (by
        rw [hJ2]
        exact ⟨fun q h1 h2 => by omega, by simp, by simp⟩) ?_)
      intro j fr H2 hI
      rw [hJ2] at hI
      obtain ⟨hin, rfl, rfl⟩ := hI
      obtain ⟨q, hq⟩ : ∃ q : Nat, q = f + 1 + j := ⟨_, rfl⟩
      rw [← hq]
      repeat first | refine AWp.seq ?_ | refine AWp.block ?_
      refine AWp.ops ?_
      simp
      refine AWp.cond (b := decide (q < t)) (by simp) ?_ ?_
      · intro h0
        have h0 : q < t := by simpa using h0
        have wq := wrap_i64 (n := (q : Int) + 1) (by omega) (by omega)
        refine AWp.skip ?_
        simp only [qSeq]
        repeat first | refine AWp.seq ?_ | refine AWp.block ?_
        refine AWp.ops ?_
        simp
        refine (call q (by omega) (by omega)).mono ?_
        rintro r H' ⟨rfl, rfl⟩
        simp
        refine AWp.cond (b := !lessF ys q) (by simp) ?_ ?_
        · intro h
          have h : lessF ys q = false := by simpa using h
          repeat first | refine AWp.seq ?_ | refine AWp.block ?_
          refine AWp.ops ?_
          simp
          refine AWp.ret ?_
          simp
          refine retOk.of rfl ?_
          have : ¬ RiseT ys ps cs.length := fun hR => by
            have := hR i (by omega) q (by omega) (by omega) (by omega)
            rw [h] at this; cases this
          simp [this]
        · intro h
          have h : lessF ys q = true := by simpa using h
          refine AWp.skip ?_
          simp only [qSeq, qBlock]
          repeat first | refine AWp.seq ?_ | refine AWp.block ?_
          refine AWp.ops ?_
          simp [wq]
          refine ⟨j + 1, _, _, Weak.slots [4, 5, 7, 8, 22, 23, 24], ?_, by omega⟩
          rw [hJ2]
          refine ⟨fun q' h1 h2 => ?_, by simp, by simp; omega⟩
          by_cases e : q' = q
          · rw [e]; exact h
          · exact hin q' h1 (by omega)
      · intro h0
        have h0 : ¬ q < t := by simpa using h0
        refine AWp.exit ?_
        simp [qSeq, qBlock]
        repeat first | refine AWp.seq ?_ | refine AWp.block ?_
        refine AWp.ops ?_
        simp
        refine ⟨i + 1, _, _, Weak.slots [4, 5, 22, 23, 24], ?_, by omega⟩
        rw [hJ]
        refine ⟨by omega, ?_, by simp, by simp [wrap_i64 (n := (i : Int) + 1) (by omega) (by omega)]⟩
        intro p hp q' hq' h1 h2
        by_cases e : p = i
        · subst e
          rw [hf'] at h1
          rw [ht'] at h2
          exact hin q' (by omega) (by omega)
        · exact hinv p (by omega) q' hq' h1 h2
    ·
      intro hb
      have hb : ¬ i < N := by simpa using hb
      refine AWp.exit ?_
      simp [qSeq, qBlock]
      repeat first | refine AWp.seq ?_ | refine AWp.block ?_
      refine AWp.ops ?_
      simp
      refine AWp.ret ?_
      simp
      refine retOk.of rfl ?_
      have : RiseT ys ps cs.length := fun p hp => hinv p (by omega)
      simp [this]
  refine (base.frozen 2).mono ?_
  rintro q H' ⟨rfl, r, G, rfl, rfl⟩
  exact ⟨rfl, by simp⟩
end Go.Fw
namespace Go.Fw
open Go Go.RowKit Go.Proofs
set_option maxRecDepth 100000
set_option linter.unusedSimpArgs false
set_option linter.unusedVariables false
theorem sizesF_ok {xs : List Int} {fs : List (Int × Int × Int)} (h : (sizesF xs fs).2 = 0) (hz : ∀ s ∈ fs, s.2.2 ≤ 9223372036854775807) :
    (cells xs).2 = 0 ∧ (sizesF xs fs).1.length = fs.length ∧ (∀ v ∈ (sizesF xs fs).1, 0 ≤ v ∧ v ≤ 2147483648) ∧ ∀ s ∈ fs, (s.1 = 0 ∨ s.1 = 1 ∨ s.1 = 2 ∨ s.1 = 3 ∨ s.1 = 4) := by
  by_cases hc : (cells xs).2 = 0
  case neg =>
    simp only [sizesF, ne_eq, hc, not_false_eq_true, if_true] at h
  obtain ⟨hxn, hx4⟩ := cells_nonneg' hc
  cases hr : readF xs fs with
  | none => simp [sizesF, hc, hr] at h
  | some M =>
    obtain ⟨hm, hb⟩ := readF_ok hr
    have hb := hb hz
    by_cases ha : (fs.map (lvlOf xs M)).any (fun v => decide (2147483648 < v)) = true
    · have : sizesF xs fs = ([], 2) := by simp only [sizesF, hc, ne_eq, not_true_eq_false, if_false, hr]; rw [if_pos ha]
      rw [this] at h; simp at h
    · have e : sizesF xs fs = (fs.map (lvlOf xs M), 0) := by simp only [sizesF, hc, ne_eq, not_true_eq_false, if_false, hr]; rw [if_neg ha]
      rw [e]
      refine ⟨hc, by simp, fun v hv => ?_, fun s hs => (hm s hs).2⟩
      have ha' : (fs.map (lvlOf xs M)).any (fun v => decide (2147483648 < v)) = false := by simpa only [Bool.not_eq_true] using ha
      have h1 := (List.any_eq_false.1 ha') v hv
      refine ⟨?_, by simpa using h1⟩
      obtain ⟨s, hs, rfl⟩ := List.mem_map.1 hv
      have hg : 0 ≤ (M.getD s.2.1.toNat (false, 0)).2 := by
        rw [List.getD]
        cases hg : M[s.2.1.toNat]? with
        | none => simp
        | some p => exact (hb p (List.mem_of_getElem? hg)).1
      have hx : 0 ≤ xs.getD s.2.1.toNat 0 := by
        rw [List.getD]
        cases hg : xs[s.2.1.toNat]? with
        | none => simp
        | some p => exact hxn p (List.mem_of_getElem? hg)
      unfold lvlOf
      split
      · exact hg
      · split
        · exact Int.tdiv_nonneg hx hg
        · exact hx
end Go.Fw
namespace Go.Fw
open Go Go.RowKit Go.Proofs
set_option maxRecDepth 100000
set_option linter.unusedSimpArgs false
set_option linter.unusedVariables false
theorem readStep_chain {xs : List Int} {s : Int × Int × Int} {M M' : List (Bool × Int)} {b : Int} (h : readStep xs s M b = some M') : (b = 2 ∨ b = 3) ↔ s.1 = 3 := by
  unfold readStep at h
  split at h
  · cases h
  split at h
  · split at h
    · rename_i h2
      exact h2.2.2
    · cases h
  · split at h
    · rename_i h3
      split at h
      · rename_i h2
        exact ⟨fun hb => absurd hb h2.2.2.1, fun hs => by omega⟩
      · cases h
    · cases h
def fitF : List LvA → List (Int × Int × Int) → List Int → Bool
  | x :: r, s :: fs, z :: zs => decide (x.lv.k = s.1 ∧ x.lv.sz = z) && fitF r fs zs
  | _, _, _ => true
def Chn : Int → List LvA → Prop
  | _, [] => True
  | b, x :: r => ((b = 2 ∨ b = 3) ↔ x.lv.k = 3) ∧ Chn x.lv.k r
theorem chn_of {S : List Int} : ∀ {fs : List (Int × Int × Int)} {xs : List LvA} {zs : List Int} {M M' : List (Bool × Int)} {b : Int}, xs.length = fs.length → zs.length = fs.length → readGo S fs M b = some M' → fitF xs fs zs = true → Chn b xs
  | [], [], _, _, _, _, _, _, _, _ => trivial
  | s :: fs, x :: r, z :: zs, M, M', b, h1, h2, h3, h4 => by
    simp only [readGo, Option.bind_eq_some_iff] at h3
    obtain ⟨M1, e1, e2⟩ := h3
    simp only [fitF, Bool.and_eq_true, decide_eq_true_eq] at h4
    obtain ⟨⟨e3, _⟩, e4⟩ := h4
    have c1 := readStep_chain e1
    refine ⟨by rw [e3]; exact c1, ?_⟩
    rw [e3]
    exact chn_of (by simpa using h1) (by simpa using h2) e2 e4
  | [], x :: r, _, _, _, _, h, _, _, _ => by simp at h
  | s :: fs, [], _, _, _, _, h, _, _, _ => by simp at h
  | s :: fs, x :: r, [], _, _, _, _, h, _, _ => by simp at h
theorem chn_single : ∀ {xs : List LvA} {b : Int}, Chn b xs → (b = 2 ∨ b = 3) → ∀ x ∈ xs, x.lv.k = 3
  | x :: r, b, h, hb, y, hy => by
    obtain ⟨h1, h2⟩ := h
    have hk := h1.1 hb
    rcases List.mem_cons.1 hy with rfl | hy
    · exact hk
    · exact chn_single h2 (.inr hk) y hy
theorem exMap_ok {o : Except Int (List Int)} {f : List Int → List Int} {l : List Int} (h : o.map f = .ok l) : ∃ r, o = .ok r := by
  cases o with
  | error e => simp [Except.map] at h
  | ok r => exact ⟨r, rfl⟩
theorem singles : ∀ {xs : List LvA} {n : Nat} {l : List Int}, cntGo xs n = .ok l → n ≤ 1048576 → (∀ x ∈ xs, x.lv.k = 3) → ∀ x ∈ xs, x.lv.crd.length = n ∧ ∀ c ∈ x.lv.crd, 0 ≤ c ∧ c < 4294967296
  | x :: r, n, l, h, hn, hk, y, hy => by
    simp only [cntGo] at h
    split at h
    case isFalse => cases h
    rename_i hc
    obtain ⟨b1, b2, b3, b4, b5, b6, b7, b8⟩ := lvBelow_ok hc
    obtain ⟨r', e⟩ := exMap_ok h
    have k3 := hk x (by simp)
    have hlen : x.lv.crd.length = n := by
      simp only [lvFormed, k3] at b3
      simpa using (of_decide_eq_true b3).2
    have hbl : (lvBelow x.lv n).toNat = n := by
      simp only [lvBelow, k3]
      simp [hlen]
    rw [hbl] at e
    rcases List.mem_cons.1 hy with rfl | hy
    · exact ⟨hlen, fun c hc => ⟨(b7 c hc).1, by have := (b7 c hc).2; omega⟩⟩
    · exact singles e hn (fun z hz => hk z (by simp [hz])) y hy
theorem lvFormed_pos {l : Lv} {n : Nat} (h : lvFormed l n = true) (hk : l.k = 1 ∨ l.k = 2) : PosOk l.pos l.crd.length n := by
  simp only [lvFormed] at h
  rw [if_neg (by omega), if_neg (by omega), if_neg (by omega), if_pos hk] at h
  have h := of_decide_eq_true h
  exact ⟨h.1, h.2.1, h.2.2.1, h.2.2.2⟩
theorem riseOk_of : ∀ {xs : List LvA} {n : Nat} {l : List Int} {b : Int}, cntGo xs n = .ok l → n ≤ 1048576 → Chn b xs → RiseOk xs
  | [], _, _, _, _, _, _ => fun i h => by simp at h
  | x :: r, n, l, b, h, hn, hch => by
    simp only [cntGo] at h
    split at h
    case isFalse => cases h
    rename_i hc
    obtain ⟨b1, b2, b3, b4, b5, b6, b7, b8⟩ := lvBelow_ok hc
    obtain ⟨r', e⟩ := exMap_ok h
    obtain ⟨_, hch⟩ := hch
    have rec_ := riseOk_of e (by omega) hch
    intro i hi hk
    cases i with
    | succ i =>
      have := rec_ i (by simpa using hi) (by simpa using hk)
      simpa using this
    | zero =>
      simp only [List.getElem_cons_zero] at hk ⊢
      have hs := chn_single hch (.inl hk)
      have hbl : (lvBelow x.lv n).toNat = x.lv.crd.length := by
        simp only [lvBelow, hk]
        simp
      rw [hbl] at e
      have h1 := singles e (by omega) hs
      refine ⟨fun y hy => ?_, ⟨n, hn, lvFormed_pos b3 (.inr hk)⟩, by omega, fun y hy => ?_⟩
      · simp only [List.drop_zero] at hy
        rcases List.mem_cons.1 hy with rfl | hy
        · exact ⟨rfl, fun c hc => ⟨(b7 c hc).1, by have := (b7 c hc).2; omega⟩⟩
        · exact h1 y hy
      · have : y ∈ r := by simpa using hy
        have := hs y this
        omega
def lastF (ws : List Int) : Int := (1 :: ws).getD ws.length 0
def tnCheck (S : List Int) (F : List (Int × Int × Int)) (xs : List LvA) (V : List Int) : Int :=
  if (sizesF S F).2 ≠ 0 then (sizesF S F).2
  else if xs.length ≠ F.length then 1
  else if fitF xs F (sizesF S F).1 = false then 1
  else if (cntF xs).2 ≠ 0 then (cntF xs).2
  else if (V.length : Int) ≠ lastF (cntF xs).1 ∨ riseF xs = false then 1 else 0
theorem sizesF_read {xs : List Int} {fs : List (Int × Int × Int)} (h : (sizesF xs fs).2 = 0) : ∃ M, readF xs fs = some M := by
  unfold sizesF at h
  split at h
  · exact absurd h ‹_›
  · cases hr : readF xs fs with
    | none => simp [hr] at h
    | some M => exact ⟨M, rfl⟩
theorem cntF_ok {xs : List LvA} (h : (cntF xs).2 = 0) : cntGo xs 1 = .ok (cntF xs).1 := by
  unfold cntF at h ⊢
  cases hc : cntGo xs 1 with
  | ok l => rfl
  | error e =>
    exfalso
    simp only [hc] at h
    subst h
    revert hc
    have : ∀ (xs : List LvA) (n : Nat), cntGo xs n ≠ .error 0 := by
      intro xs
      induction xs with
      | nil => intro n h; cases h
      | cons x r ih =>
        intro n h
        simp only [cntGo] at h
        split at h
        · cases hr : cntGo r (lvBelow x.lv n).toNat with
          | ok l => rw [hr] at h; simp [Except.map] at h
          | error e =>
            rw [hr] at h
            simp [Except.map] at h
            exact ih _ (by rw [hr, h])
        · rename_i hne
          injection h with h
          exact hne h
    exact this xs 1
theorem cntGo_len : ∀ {xs : List LvA} {n : Nat} {l : List Int}, cntGo xs n = .ok l → l.length = xs.length
  | [], n, l, h => by cases h; rfl
  | x :: r, n, l, h => by
    simp only [cntGo] at h
    split at h
    · cases hr : cntGo r (lvBelow x.lv n).toNat with
      | error e => rw [hr] at h; simp [Except.map] at h
      | ok l' =>
        rw [hr] at h
        simp [Except.map] at h
        subst h
        simp [cntGo_len hr]
    · cases h
theorem rise_ok {S : List Int} {F : List (Int × Int × Int)} {xs : List LvA} (h1 : (sizesF S F).2 = 0) (h2 : xs.length = F.length) (hz : (sizesF S F).1.length = F.length) (h3 : fitF xs F (sizesF S F).1 = true) (h4 : (cntF xs).2 = 0) : RiseOk xs := by
  obtain ⟨M, hM⟩ := sizesF_read h1
  unfold readF at hM
  rw [Option.bind_eq_some_iff] at hM
  obtain ⟨M1, hM1, _⟩ := hM
  exact riseOk_of (cntF_ok h4) (by omega) (chn_of h2 hz hM1 h3)
def sCheck_22 : AC := (.seq (.ops [.o 71 (.fad 3 (.t 1)), .o 72 (.ld 1 false (.t 71)), .o 73 (.len (.t 72)), .m 74 (.t 8), .o 75 (.bin .neq (.t 73) (.t 74)), .m 76 (.t 75), .og 77 76 false (.ld 4 true (.t 1)), .cg 78 76 false false (.f 39) [(.t 77)], .og 79 76 false (.un .not (.t 78)), .o 80 (.pick (.t 76) (.b true) (.t 79))]) (.cond (.t 80) (.seq (.ops [.m 2 (.i 1)]) .ret) .skip))
def sCheck_21 : AC := (.seq (.ops [.o 64 (.lit 1 [(.i 1)]), .m 65 (.t 7), .o 66 (.app 3 1 8 (.t 64) (.t 65)), .m 67 (.t 7), .o 68 (.len (.t 67)), .o 69 (.iad 1 (.t 66) (.t 68)), .o 70 (.ld 1 false (.t 69)), .m 8 (.t 70)]) sCheck_22)
def sCheck_20 : AC := (.seq sCheck_21 (.seq (.ops [.m 2 (.i 0)]) .ret))
def sCheck_19 : AC := (.seq (.ops [.m 61 (.t 4), .o 62 (.bin .neq (.t 61) (.i 0))]) (.cond (.t 62) (.seq (.ops [.m 63 (.t 4), .m 2 (.t 63)]) .ret) .skip))
def sCheck_18 : AC := (.seq sCheck_19 sCheck_20)
def sCheck_17 : AC := (.seq (.ops [.o 57 (.ld 4 true (.t 1)), .c 58 false (.f 38) [(.t 57)], .m 56 (.t 58), .o 59 (.ext (.t 56) 0), .o 60 (.ext (.t 56) 1), .m 7 (.t 59), .m 4 (.t 60)]) sCheck_18)
def sCheck_16 : AC := (.seq (.ops [.o 37 (.fad 0 (.t 6)), .o 38 (.ld 1 false (.t 37)), .o 39 (.fad 1 (.t 1)), .o 40 (.ld 1 false (.t 39)), .m 41 (.t 5), .o 42 (.iad 3 (.t 40) (.t 41)), .o 43 (.fad 0 (.t 42)), .o 44 (.ld 1 false (.t 43)), .o 45 (.bin .neq (.t 38) (.t 44)), .m 46 (.t 45), .og 47 46 false (.fad 1 (.t 6)), .og 48 46 false (.ld 1 false (.t 47)), .mg 49 46 false (.t 3), .mg 50 46 false (.t 5), .og 51 46 false (.iad 1 (.t 49) (.t 50)), .og 52 46 false (.ld 1 false (.t 51)), .og 53 46 false (.bin .neq (.t 48) (.t 52)), .o 54 (.pick (.t 46) (.b true) (.t 53))]) (.cond (.t 54) (.seq (.ops [.m 2 (.i 1)]) .ret) .skip))
def sCheck_15 : AC := (.seq (.ops [.m 34 (.t 32), .o 35 (.iad 4 (.t 30) (.t 32)), .o 36 (.ld 4 true (.t 35)), .o 6 (.new 34 4 (.c (.agg [(.sc (.int .i64 0)), (.sc (.int .i64 0)), nil0, nil0]))), .m 5 (.t 34), .on (.st 4 (.t 6) (.t 36))]) sCheck_16)
def sCheck_14 : AC := (.block 2 sCheck_15)
def sCheck_13 : AC := (.seq sCheck_14 (.ops [.o 55 (.bin .add (.t 32) (.i 1)), .m 32 (.t 55)]))
def sCheck_12 : AC := (.seq (.cond (.t 33) .skip (.exit 1)) sCheck_13)
def sCheck_11 : AC := (.seq (.ops [.o 33 (.bin .lss (.t 32) (.t 31))]) sCheck_12)
def sCheck_10 : AC := (.loop sCheck_11)
def sCheck_9 : AC := (.block 1 sCheck_10)
def sCheck_8 : AC := (.seq (.ops [.o 29 (.fad 2 (.t 1)), .o 30 (.ld 1 false (.t 29)), .o 31 (.len (.t 30)), .m 32 (.i 0)]) sCheck_9)
def sCheck_7 : AC := (.seq sCheck_8 sCheck_17)
def sCheck_6 : AC := (.seq (.ops [.o 22 (.fad 2 (.t 1)), .o 23 (.ld 1 false (.t 22)), .o 24 (.len (.t 23)), .o 25 (.fad 1 (.t 1)), .o 26 (.ld 1 false (.t 25)), .o 27 (.len (.t 26)), .o 28 (.bin .neq (.t 24) (.t 27)), .m 21 (.t 28)]) (.cond (.t 21) (.seq (.ops [.m 2 (.i 1)]) .ret) .skip))
def sCheck_5 : AC := (.cond (.t 17) (.seq (.ops [.m 20 (.t 4), .m 2 (.t 20)]) .ret) sCheck_6)
def sCheck_4 : AC := (.seq (.ops [.m 18 (.t 4), .o 19 (.bin .neq (.t 18) (.i 0)), .m 17 (.t 19)]) sCheck_5)
def sCheck_3 : AC := (.block 0 sCheck_4)
def sCheck_2 : AC := (.seq sCheck_3 sCheck_7)
def sCheck_1 : AC := (.seq (.ops [.o 10 (.fad 0 (.t 1)), .o 11 (.ld 1 false (.t 10)), .o 12 (.fad 1 (.t 1)), .o 13 (.ld 1 false (.t 12)), .c 14 false (.f 13) [(.t 11), (.t 13)], .m 9 (.t 14), .o 15 (.ext (.t 9) 0), .o 16 (.ext (.t 9) 1), .m 3 (.t 15), .m 4 (.t 16)]) sCheck_2)
def sCheck_ac : AC := (.seq (.ops [.o 1 (.new 27 4 (.t 0)), .m 2 (.i 0)]) sCheck_1)
theorem sCheck_call {args : List AV} {H : List AObj} {R : AV → List AObj → Prop} (h : AWp Try.prog [] H.length sCheck_ac (bodyQ H.length [(.t 2)] R) (args ++ List.replicate (81 - args.length) .und) H) : ACalls Try.prog 11 args H R :=
  ACalls.of_fn Try.func11 rfl (by kernel_rfl) rfl Try.ntmps11 h
set_option maxHeartbeats 4000000 in
theorem sCheck_spec {sh f l v : AV} {S V : List Int} {F : List (Int × Int × Int)} {xs : List LvA} (hS : ISl sh S) (hF : Sp f F) (hl : Ls l xs) (hV : ISl v V) (hn : xs.length ≤ 1000) (hfn : F.length ≤ 1000) :
    ACalls Try.prog 11 [.agg [sh, f, l, v]] [] fun r H' => H' = [] ∧ r = I (tnCheck S F xs V) := by
  have hS' := hS
  have hF' := hF
  have hl' := hl
  have hV' := hV
  obtain ⟨⟨nl, c, sz, rfl, hs⟩, hlen, hx⟩ := hl
  obtain ⟨⟨nl1, c01, sz1, rfl, hs1⟩, hlen1, hx1⟩ := hS
  obtain ⟨⟨nl2, c02, sz2, rfl, hs2⟩, hlen2, hx2⟩ := hF
  obtain ⟨⟨nl3, c3, sz3, rfl, hs3⟩, hlen3, hx3⟩ := hV
  have base : ACalls Try.prog 11 [.agg [.imm nl1 c01 sz1 (S.map I), .imm nl2 c02 sz2 (F.map specV), .imm nl c sz (xs.map lvV), .imm nl3 c3 sz3 (V.map I)]] [] fun r H' => r = I (tnCheck S F xs V) := by
    apply sCheck_call
    repeat first | refine AWp.seq ?_ | refine AWp.block ?_
    refine AWp.ops ?_
    simp
    repeat first | refine AWp.seq ?_ | refine AWp.block ?_
    refine AWp.ops ?_
    simp
    refine ((Sizes_spec hS' hF' hfn).pure (by simp) (by rintro r ⟨o, rfl, ⟨⟨_, _, _, rfl, _⟩, _⟩⟩; simp) _).mono ?_
    rintro r H' ⟨rfl, o, rfl, hZ⟩
    simp
    have hsok := fun h0 => sizesF_ok (xs := S) (fs := F) h0 (fun s hs => (hx2 s hs).2.2.2)
    obtain ⟨Z, hZe⟩ : ∃ Z, Z = (sizesF S F).1 := ⟨_, rfl⟩
    rw [← hZe] at hZ hsok
    obtain ⟨⟨nlz, cz, szz, rfl, hsz⟩, hlz, hxz⟩ := hZ
    repeat first | refine AWp.seq ?_ | refine AWp.block ?_
    refine AWp.ops ?_
    simp
    refine AWp.cond (b := (sizesF S F).2 != 0) (by simp) ?_ ?_
    · intro h
      have h : (sizesF S F).2 ≠ 0 := by simpa using h
      repeat first | refine AWp.seq ?_ | refine AWp.block ?_
      refine AWp.ops ?_
      simp
      refine AWp.ret ?_
      simp
      refine retOk.of rfl ?_
      rw [tnCheck, if_pos h]; simp
    intro h0
    have h0 : (sizesF S F).2 = 0 := by simpa using h0
    obtain ⟨-, hzl, -, -⟩ := hsok h0
    repeat first | refine AWp.seq ?_ | refine AWp.block ?_
    refine AWp.ops ?_
    simp
    refine AWp.cond (b := (xs.length : Int) != F.length) (by simp) ?_ ?_
    · intro h
      have h : ¬ xs.length = F.length := by
        have : ¬ (xs.length : Int) = F.length := by simpa using h
        omega
      repeat first | refine AWp.seq ?_ | refine AWp.block ?_
      refine AWp.ops ?_
      simp
      refine AWp.ret ?_
      simp
      refine retOk.of rfl ?_
      rw [tnCheck, if_neg (by omega), if_pos h]; simp
    intro h1
    have h1 : xs.length = F.length := by
      have : (xs.length : Int) = F.length := by simpa using h1
      omega
    refine AWp.skip ?_
    simp only [qSeq, qBlock]
    repeat first | refine AWp.seq ?_ | refine AWp.block ?_
    refine AWp.ops ?_
    simp
    have hret1 : fitF xs F Z = false → tnCheck S F xs V = 1 := by
      intro h
      rw [tnCheck, if_neg (by omega), if_neg (by omega), if_pos (by rw [← hZe]; exact h)]
    obtain ⟨J, hJ⟩ : ∃ J : Nat → List AV → List AObj → Prop, J = fun i fr H => i ≤ xs.length ∧ (fitF xs F Z = fitF (xs.drop i) (F.drop i) (Z.drop i)) ∧ H = [tnO (.agg [.imm nl1 c01 sz1 (S.map I), .imm nl2 c02 sz2 (F.map specV), .imm nl c sz (xs.map lvV), .imm nl3 c3 sz3 (V.map I)])] ∧
      fr = [.und, .ptr 0 1 0 0, .und, .imm nlz cz szz (Z.map I), .und, .und, .und, .und, .und, .und, .und, .und, .und, .und, .und, .und, .und, .und, .und, .und, .und, .und, .und, .und, .und, .und, .und, .und, .und, .und, .imm nl c sz (xs.map lvV), I xs.length, I i, .und, .und, .und, .und, .und, .und, .und, .und, .und, .und, .und, .und, .und, .und, .und, .und, .und, .und, .und, .und, .und, .und, .und, .und, .und, .und, .und, .und, .und, .und, .und, .und, .und, .und, .und, .und, .und, .und, .und, .und, .und, .und, .und, .und, .und, .und, .und, .und] := ⟨_, rfl⟩
    refine AWp.block (AWp.loop J (fun i => xs.length - i) 0 (Weak.slots [1, 3, 30, 31, 32]) (by rw [hJ]; exact ⟨by omega, rfl, by simp, by simp⟩) ?_)
    intro i fr H hI
    rw [hJ] at hI
    obtain ⟨hi, hinv, rfl, rfl⟩ := hI
    repeat first | refine AWp.seq ?_ | refine AWp.block ?_
    refine AWp.ops ?_
    simp
    refine AWp.seq (AWp.cond (b := decide (i < xs.length)) (by simp <;> omega) ?_ ?_)
    ·
      intro hb
      have hb : i < xs.length := by simpa using hb
      refine AWp.skip ?_
      simp only [qSeq]
      have hbF : i < F.length := by omega
      have hbZ : i < Z.length := by omega
      have hsz4 := sz4_of hs hb
      have hsz3 := sz3_of hs2 hbF
      have hsz1 := sz_of hsz hbZ
      subst hsz4 hsz3 hsz1
      have hgs := lv_get hb
      have hgF := spec_get hbF
      have hok := hx xs[i] (List.getElem_mem hb)
      rw [List.drop_eq_getElem_cons hb, List.drop_eq_getElem_cons hbF, List.drop_eq_getElem_cons hbZ] at hinv
      simp only [fitF] at hinv
      generalize xs[i] = x at hgs hok hinv
      generalize F[i] = sp at hgF hinv
      obtain ⟨lv, p, q⟩ := x
      obtain ⟨k, mo, z⟩ := sp
      simp only at hgs hok hinv hgF
      have hok' := hok
      obtain ⟨⟨⟨nlp, cp, szp, rfl, _⟩, _⟩, ⟨⟨nlq, cq, szq, rfl, _⟩, _⟩, _⟩ := hok'
      repeat first | refine AWp.seq ?_ | refine AWp.block ?_
      refine AWp.ops ?_
      simp [hgs]
      by_cases e1 : lv.k = k
      case neg =>
        have e1' : (lv.k == k) = false := by simp [e1]
        repeat first | refine AWp.seq ?_ | refine AWp.block ?_
        refine AWp.ops ?_
        simp [hgF, e1]
        refine AWp.cond (b := true) (by simp) (fun _ => ?_) (fun h => by cases h)
        repeat first | refine AWp.seq ?_ | refine AWp.block ?_
        refine AWp.ops ?_
        simp
        refine AWp.ret ?_
        simp
        refine retOk.of rfl ?_
        rw [hret1 (by rw [hinv]; simp [e1])]; simp
      by_cases e2 : lv.sz = Z[i]
      case neg =>
        repeat first | refine AWp.seq ?_ | refine AWp.block ?_
        refine AWp.ops ?_
        simp [hgF, e1, hbZ, e2]
        refine AWp.cond (b := true) (by simp [e2]) (fun _ => ?_) (fun h => by cases h)
        repeat first | refine AWp.seq ?_ | refine AWp.block ?_
        refine AWp.ops ?_
        simp
        refine AWp.ret ?_
        simp
        refine retOk.of rfl ?_
        rw [hret1 (by rw [hinv]; simp [e2])]; simp
      repeat first | refine AWp.seq ?_ | refine AWp.block ?_
      refine AWp.ops ?_
      simp [hgF, e1, hbZ, e2]
      refine AWp.cond (b := false) (by simp) (fun h => by cases h) (fun _ => ?_)
      refine AWp.skip ?_
      simp only [qSeq, qBlock]
      repeat first | refine AWp.seq ?_ | refine AWp.block ?_
      refine AWp.ops ?_
      simp
      refine ⟨i + 1, _, _, (Weak.slots [1, 3, 30, 31, 32]).trans (Weak.freeze 1 3 (by simp)), ?_, by omega⟩
      rw [hJ]
      refine ⟨by omega, ?_, by simp [frzH], by simp [wrap_i64 (n := (i : Int) + 1) (by omega) (by omega)]⟩
      rw [hinv]; simp [e1, e2]
    ·
      intro hb
      have hb : ¬ i < xs.length := by simpa using hb
      refine AWp.exit ?_
      simp [qSeq, qBlock]
      rw [List.drop_eq_nil_of_le (by omega)] at hinv
      have hfit : fitF xs F Z = true := by rw [hinv]; simp [fitF]
      have hfit' : ¬ fitF xs F (sizesF S F).1 = false := by rw [← hZe, hfit]; simp
      repeat first | refine AWp.seq ?_ | refine AWp.block ?_
      refine AWp.ops ?_
      simp
      refine ((counted_spec hS' hF' hl' hV' hn).pure (by simp) (by rintro r ⟨o, rfl, ⟨⟨_, _, _, rfl, _⟩, _⟩⟩; simp) _).mono ?_
      rintro r H' ⟨rfl, o, rfl, hC⟩
      simp
      obtain ⟨N, hN⟩ : ∃ N, N = (cntF xs).1 := ⟨_, rfl⟩
      rw [← hN] at hC
      obtain ⟨⟨nlw, cw, szw, rfl, hsw⟩, hlw, hxw⟩ := hC
      repeat first | refine AWp.seq ?_ | refine AWp.block ?_
      refine AWp.ops ?_
      simp
      refine AWp.cond (b := (cntF xs).2 != 0) (by simp) ?_ ?_
      · intro h
        have h : (cntF xs).2 ≠ 0 := by simpa using h
        repeat first | refine AWp.seq ?_ | refine AWp.block ?_
        refine AWp.ops ?_
        simp
        refine AWp.ret ?_
        simp
        refine retOk.of rfl ?_
        rw [tnCheck, if_neg (by omega), if_neg (by omega), if_neg hfit', if_pos h]; simp
      intro h2
      have h2 : (cntF xs).2 = 0 := by simpa using h2
      have hok := rise_ok h0 h1 (by rw [← hZe]; exact hzl) (by rw [← hZe]; exact hfit) h2
      have hlen2 : N.length = xs.length := by rw [hN]; exact cntGo_len (cntF_ok h2)
      refine AWp.skip ?_
      simp only [qSeq]
      have hfin : ¬ (sizesF S F).2 ≠ 0 := by omega
      have hfin2 : ¬ xs.length ≠ F.length := by omega
      obtain ⟨la, hla⟩ : ∃ la, la = lastF N := ⟨_, rfl⟩
      have hres : tnCheck S F xs V = if (V.length : Int) ≠ la ∨ riseF xs = false then 1 else 0 := by
        rw [tnCheck, if_neg hfin, if_neg hfin2, if_neg hfit', if_neg (by omega), ← hN, ← hla]
      rw [hres]
      refine AWp.seq (AWp.cut [.und, .ptr 0 1 0 0, .und, .und, .und, .und, .und, .und, I la, .und, .und, .und, .und, .und, .und, .und, .und, .und, .und, .und, .und, .und, .und, .und, .und, .und, .und, .und, .und, .und, .und, .und, .und, .und, .und, .und, .und, .und, .und, .und, .und, .und, .und, .und, .und, .und, .und, .und, .und, .und, .und, .und, .und, .und, .und, .und, .und, .und, .und, .und, .und, .und, .und, .und, .und, .und, .und, .und, .und, .und, .und, .und, .und, .und, .und, .und, .und, .und, .und, .und, .und] [tnO (.agg [.imm nl1 c01 sz1 (S.map I), .imm nl2 c02 sz2 (F.map specV), .imm nl c sz (xs.map lvV), .imm nl3 c3 sz3 (V.map I)])] ?_ ?_)
      · by_cases hN0 : N = []
        · have hel : ∀ H, elems 1 H (.imm nlw cw szw []) = some [] := fun H => by
            have := elems_of (c := cw) H hsw
            rw [hN0] at this
            exact this
          have hl1 : la = 1 := by rw [hla, hN0]; rfl
          repeat first | refine AWp.seq ?_ | refine AWp.block ?_
          refine AWp.ops ?_
          simp [hel, hN0]
          exact ((Weak.slots [1, 8]).trans (Weak.freeze 1 3 (by simp))).to (by simp [hl1]) (by simp [frzH])
        · have hel := fun H => elems_of (c := cw) H hsw
          have b1 : (1 + N.length) * 8 ≤ 140737488355328 := by omega
          have b2 : 1 + N.length ≤ 9223372036854775807 := by omega
          have b3 : N.length < 1 + N.length := by omega
          have b5 : (N.length : Int) < 1 + (N.length : Int) := by omega
          have b4 : N.length + 1 = 1 + N.length := by omega
          have hg : (AV.sc (Value.int IntKind.i64 1) :: N.map I)[N.length]? = some (I la) := by
            have : (AV.sc (Value.int IntKind.i64 1) :: N.map I) = (1 :: N).map I := rfl
            rw [this, List.getElem?_map, hla, lastF, List.getElem?_eq_getElem (by simp)]
            simp
          have hg2 : (AV.sc (Value.int IntKind.i64 1) :: N.map I)[N.length]'(by simp) = I la := by
            rw [List.getElem?_eq_getElem (by simp)] at hg
            simpa using hg
          repeat first | refine AWp.seq ?_ | refine AWp.block ?_
          refine AWp.ops ?_
          simp [hel, hN0, b1, b2, b3, b4, b5, hg2]
          exact ((Weak.slots [1, 8]).trans (Weak.freeze 1 3 (by simp))).to (by simp) (by simp [frzH])
      have hsr := (srising_spec hS' hF' hl' hV' hok).pure (by simp) (by rintro r rfl; simp) [tnO (.agg [.imm nl1 c01 sz1 (S.map I), .imm nl2 c02 sz2 (F.map specV), .imm nl c sz (xs.map lvV), .imm nl3 c3 sz3 (V.map I)])]
      by_cases hv : (V.length : Int) = la
      case neg =>
        repeat first | refine AWp.seq ?_ | refine AWp.block ?_
        refine AWp.ops ?_
        simp [hv]
        refine AWp.cond (b := true) (by simp) (fun _ => ?_) (fun h => by cases h)
        repeat first | refine AWp.seq ?_ | refine AWp.block ?_
        refine AWp.ops ?_
        simp
        refine AWp.ret ?_
        simp
        refine retOk.of rfl ?_
        simp [hv]
      repeat first | refine AWp.seq ?_ | refine AWp.block ?_
      refine AWp.ops ?_
      simp [hv]
      refine hsr.mono ?_
      rintro r H' ⟨rfl, rfl⟩
      simp
      cases hr : riseF xs with
      | false =>
        simp
        refine AWp.cond (b := true) (by simp) (fun _ => ?_) (fun h => by cases h)
        repeat first | refine AWp.seq ?_ | refine AWp.block ?_
        refine AWp.ops ?_
        simp
        refine AWp.ret ?_
        simp
        refine retOk.of rfl ?_
        simp
      | true =>
        simp
        refine AWp.cond (b := false) (by simp) (fun h => by cases h) (fun _ => ?_)
        refine AWp.skip ?_
        simp only [qSeq]
        repeat first | refine AWp.seq ?_ | refine AWp.block ?_
        refine AWp.ops ?_
        simp
        refine AWp.ret ?_
        simp
        refine retOk.of rfl ?_
        simp [hv]
  refine (base.frozen 2).mono ?_
  rintro q H' ⟨rfl, r, G, rfl, rfl⟩
  exact ⟨rfl, by simp⟩
end Go.Fw
namespace Go.Fw
open Go Go.RowKit Go.Proofs
set_option maxRecDepth 100000
set_option linter.unusedSimpArgs false
set_option linter.unusedVariables false
def countsF (S : List Int) (F : List (Int × Int × Int)) (xs : List LvA) (V : List Int) : List Int × Int :=
  if tnCheck S F xs V ≠ 0 then ([], tnCheck S F xs V) else ((cntF xs).1, 0)
theorem tnCheck_ok {S : List Int} {F : List (Int × Int × Int)} {xs : List LvA} {V : List Int} (h : tnCheck S F xs V = 0) :
    (sizesF S F).2 = 0 ∧ xs.length = F.length ∧ fitF xs F (sizesF S F).1 = true ∧ (cntF xs).2 = 0 ∧ (V.length : Int) = lastF (cntF xs).1 ∧ riseF xs = true := by
  unfold tnCheck at h
  split at h
  · exact absurd h ‹_›
  split at h
  · cases h
  split at h
  · cases h
  split at h
  · exact absurd h ‹_›
  split at h
  · cases h
  rename_i a b c d e
  refine ⟨by omega, by omega, by simpa using c, by omega, ?_, ?_⟩
  · by_cases h : (V.length : Int) = lastF (cntF xs).1
    · exact h
    · exact absurd (.inl h) e
  · cases h : riseF xs with
    | true => rfl
    | false => exact absurd (.inr h) e
def sCounts_6 : AC := (.seq (.ops [.o 10 (.ld 4 true (.t 1)), .c 11 false (.f 38) [(.t 10)], .o 12 (.ext (.t 11) 0), .o 13 (.ext (.t 11) 1), .m 2 (.t 12), .m 3 (.t 13)]) .ret)
def sCounts_5 : AC := (.seq (.ops [.m 9 (.t 4), .m 2 .z, .m 3 (.t 9)]) .ret)
def sCounts_4 : AC := (.cond (.t 8) sCounts_5 .skip)
def sCounts_3 : AC := (.seq (.ops [.m 7 (.t 4), .o 8 (.bin .neq (.t 7) (.i 0))]) sCounts_4)
def sCounts_2 : AC := (.seq (.ops [.o 5 (.ld 4 true (.t 1)), .c 6 false (.f 11) [(.t 5)], .m 4 (.t 6)]) sCounts_3)
def sCounts_1 : AC := (.seq sCounts_2 sCounts_6)
def sCounts_ac : AC := (.seq (.ops [.o 1 (.new 27 4 (.t 0)), .m 2 .z, .m 3 (.i 0)]) sCounts_1)
theorem sCounts_call {args : List AV} {H : List AObj} {R : AV → List AObj → Prop} (h : AWp Try.prog [] H.length sCounts_ac (bodyQ H.length [(.t 2), (.t 3)] R) (args ++ List.replicate (14 - args.length) .und) H) : ACalls Try.prog 18 args H R :=
  ACalls.of_fn Try.func18 rfl (by kernel_rfl) rfl Try.ntmps18 h
theorem sCounts_spec {sh f l v : AV} {S V : List Int} {F : List (Int × Int × Int)} {xs : List LvA} (hS : ISl sh S) (hF : Sp f F) (hl : Ls l xs) (hV : ISl v V) (hn : xs.length ≤ 1000) (hfn : F.length ≤ 1000) :
    ACalls Try.prog 18 [.agg [sh, f, l, v]] [] fun r H' => H' = [] ∧ ∃ o, r = .tup [o, I (countsF S F xs V).2] ∧ ISl o (countsF S F xs V).1 := by
  have hS' := hS
  have hF' := hF
  have hl' := hl
  have hV' := hV
  obtain ⟨⟨nl, c, sz, rfl, hs⟩, hlen, hx⟩ := hl
  obtain ⟨⟨nl1, c01, sz1, rfl, hs1⟩, hlen1, hx1⟩ := hS
  obtain ⟨⟨nl2, c02, sz2, rfl, hs2⟩, hlen2, hx2⟩ := hF
  obtain ⟨⟨nl3, c3, sz3, rfl, hs3⟩, hlen3, hx3⟩ := hV
  have base : ACalls Try.prog 18 [.agg [.imm nl1 c01 sz1 (S.map I), .imm nl2 c02 sz2 (F.map specV), .imm nl c sz (xs.map lvV), .imm nl3 c3 sz3 (V.map I)]] [] fun r H' => ∃ o, r = .tup [o, I (countsF S F xs V).2] ∧ ISl o (countsF S F xs V).1 := by
    apply sCounts_call
    repeat first | refine AWp.seq ?_ | refine AWp.block ?_
    refine AWp.ops ?_
    simp
    repeat first | refine AWp.seq ?_ | refine AWp.block ?_
    refine AWp.ops ?_
    simp
    refine ((sCheck_spec hS' hF' hl' hV' hn hfn).pure (by simp) (by rintro r rfl; simp) _).mono ?_
    rintro r H' ⟨rfl, rfl⟩
    simp
    repeat first | refine AWp.seq ?_ | refine AWp.block ?_
    refine AWp.ops ?_
    simp
    by_cases h : tnCheck S F xs V = 0
    · refine AWp.cond (b := false) (by simp [h]) (fun h => by cases h) (fun _ => ?_)
      refine AWp.skip ?_
      simp only [qSeq]
      repeat first | refine AWp.seq ?_ | refine AWp.block ?_
      refine AWp.ops ?_
      simp
      refine ((counted_spec hS' hF' hl' hV' hn).pure (by simp) (by rintro r ⟨o, rfl, ⟨⟨_, _, _, rfl, _⟩, _⟩⟩; simp) _).mono ?_
      rintro r H' ⟨rfl, o, rfl, hC⟩
      simp
      refine AWp.ret ?_
      simp
      refine retOk.of rfl ⟨o, ?_, ?_⟩
      · rw [countsF, if_neg (by omega), (tnCheck_ok h).2.2.2.1]; simp
      · rw [countsF, if_neg (by omega)]; exact hC
    · refine AWp.cond (b := true) (by simp [h]) (fun _ => ?_) (fun h => by cases h)
      repeat first | refine AWp.seq ?_ | refine AWp.block ?_
      refine AWp.ops ?_
      simp
      refine AWp.ret ?_
      simp
      refine retOk.of rfl ⟨.imm true none 0 [], ?_, ?_⟩
      · rw [countsF, if_pos h]; simp
      · rw [countsF, if_pos h]; exact ⟨⟨true, none, 0, rfl, by simp, by simp⟩, by simp, by simp⟩
  refine (base.frozen 2).mono ?_
  rintro q H' ⟨rfl, r, G, ⟨o, rfl, ho⟩, rfl⟩
  have ho' := ho
  obtain ⟨⟨nlz, cz, szz, rfl, hsz⟩, -⟩ := ho'
  exact ⟨rfl, _, by simp, ho⟩
end Go.Fw
