import Derived.Test.YthipbeffhfdamaaFwstore4
namespace Go.Fw
open Go Go.RowKit Go.Proofs
set_option maxRecDepth 100000
set_option linter.unusedSimpArgs false
set_option linter.unusedVariables false

/-- Whether the places behind a loose level rise. -/
def RiseT (ls : List LvA) (ps : List Int) (m : Nat) : Prop := ∀ p < ps.length - 1, ∀ q < m, ps.getD p 0 < (q : Int) → (q : Int) < ps.getD (p + 1) 0 → lessF ls q = true
instance (ls : List LvA) (ps : List Int) (m : Nat) : Decidable (RiseT ls ps m) := by unfold RiseT; infer_instance
def riseF : List LvA → Bool
  | [] => true
  | x :: r => if x.lv.k = 2 then decide (RiseT (x :: r) x.lv.pos x.lv.crd.length) else riseF r
theorem riseF_none : ∀ {xs : List LvA}, (∀ x ∈ xs, decide (x.lv.k = 2) = false) → riseF xs = true
  | [], _ => rfl
  | x :: r, h => by
    have h0 := h x (by simp)
    rw [riseF, if_neg (by simpa using h0)]
    exact riseF_none fun y hy => h y (by simp [hy])
theorem riseF_at : ∀ {xs : List LvA} {i : Nat} (h : i < xs.length), xs[i].lv.k = 2 → (∀ x ∈ xs.take i, decide (x.lv.k = 2) = false) → riseF xs = decide (RiseT (xs.drop i) xs[i].lv.pos xs[i].lv.crd.length)
  | x :: r, 0, _, hk, _ => by
    simp only [List.getElem_cons_zero] at hk
    simp only [riseF, hk, if_true, List.drop_zero, List.getElem_cons_zero]
  | x :: r, i + 1, h, hk, hn => by
    have h0 := hn x (by simp)
    rw [riseF, if_neg (by simpa using h0)]
    simp only [List.getElem_cons_succ, List.drop_succ_cons] at hk ⊢
    exact riseF_at (by simpa using h) hk fun y hy => hn y (by simp [hy])
/-- What a tensor's levels are, so that one may ask whether they rise. -/
def RiseOk (xs : List LvA) : Prop := ∀ (i : Nat) (h : i < xs.length), xs[i].lv.k = 2 →
  (∀ x ∈ xs.drop i, x.lv.crd.length = xs[i].lv.crd.length ∧ ∀ c ∈ x.lv.crd, 0 ≤ c ∧ c < 4294967296) ∧ (∃ n, n ≤ 1048576 ∧ PosOk xs[i].lv.pos xs[i].lv.crd.length n) ∧ xs[i].lv.crd.length ≤ 1048576 ∧ ∀ x ∈ xs.drop (i + 1), ¬ x.lv.k = 2

def srising_22 : AC := (.seq (.ops [⟨(some 39), none, (.k (.mov (.t 4)))⟩, ⟨(some 40), none, (.k (.mov (.t 8)))⟩, ⟨(some 41), none, (.call false (.t 39) [(.t 40)])⟩, ⟨(some 42), none, (.k (.un .not (.t 41)))⟩]) (.cond (.t 42) (.seq (.ops [⟨(some 2), none, (.k (.mov (.c (.sc (.bool false)))))⟩]) .ret) .skip))
def srising_21 : AC := (.block 3 srising_22)
def srising_20 : AC := (.seq srising_21 (.ops [⟨(some 37), none, (.k (.mov (.t 8)))⟩, ⟨(some 38), none, (.k (.bin .add (.t 37) (.c (.sc (.int .i64 1)))))⟩, ⟨(some 8), none, (.k (.mov (.t 38)))⟩]))
def srising_19 : AC := (.seq (.ops [⟨(some 34), none, (.k (.mov (.t 8)))⟩, ⟨(some 35), none, (.k (.mov (.t 7)))⟩, ⟨(some 36), none, (.k (.bin .lss (.t 34) (.t 35)))⟩]) (.cond (.t 36) .skip (.exit 2)))
def srising_18 : AC := (.seq srising_19 srising_20)
def srising_17 : AC := (.loop srising_18)
def srising_16 : AC := (.block 2 srising_17)
def srising_15 : AC := (.seq (.ops [⟨(some 29), none, (.k (.mov (.t 5)))⟩, ⟨(some 30), none, (.k (.mov (.t 6)))⟩, ⟨(some 31), none, (.k (.iad 1 (.t 29) (.t 30)))⟩, ⟨(some 32), none, (.k (.ld 1 false (.t 31)))⟩, ⟨(some 33), none, (.k (.bin .add (.t 32) (.c (.sc (.int .i64 1)))))⟩, ⟨(some 8), none, (.k (.mov (.t 33)))⟩]) srising_16)
def srising_14 : AC := (.seq (.ops [⟨(some 26), none, (.k (.mov (.t 24)))⟩, ⟨(some 27), none, (.k (.iad 1 (.t 22) (.t 24)))⟩, ⟨(some 28), none, (.k (.ld 1 false (.t 27)))⟩, ⟨(some 6), none, (.k (.mov (.t 26)))⟩, ⟨(some 7), none, (.k (.mov (.t 28)))⟩]) srising_15)
def srising_13 : AC := (.block 1 srising_14)
def srising_12 : AC := (.seq srising_13 (.ops [⟨(some 43), none, (.k (.bin .add (.t 24) (.c (.sc (.int .i64 1)))))⟩, ⟨(some 24), none, (.k (.mov (.t 43)))⟩]))
def srising_11 : AC := (.seq (.cond (.t 25) .skip (.exit 0)) srising_12)
def srising_10 : AC := (.seq (.ops [⟨(some 25), none, (.k (.bin .lss (.t 24) (.t 23)))⟩]) srising_11)
def srising_9 : AC := (.loop srising_10)
def srising_8 : AC := (.block 0 srising_9)
def srising_7 : AC := (.seq (.ops [⟨(some 21), none, (.k (.mov (.t 5)))⟩, ⟨(some 22), none, (.k (.sl 1 (.t 21) (some (.c (.sc (.int .i64 1)))) none none))⟩, ⟨(some 23), none, (.k (.len (.t 22)))⟩, ⟨(some 24), none, (.k (.mov (.c (.sc (.int .i64 0)))))⟩]) srising_8)
def srising_6 : AC := (.seq srising_7 (.seq (.ops [⟨(some 2), none, (.k (.mov (.c (.sc (.bool true)))))⟩]) .ret))
def srising_5 : AC := (.seq (.ops [⟨(some 15), none, (.k (.fad 2 (.t 1)))⟩, ⟨(some 16), none, (.k (.ld 1 false (.t 15)))⟩, ⟨(some 17), none, (.k (.ld 1 false (.t 3)))⟩, ⟨(some 18), none, (.k (.iad 4 (.t 16) (.t 17)))⟩, ⟨(some 19), none, (.k (.fad 2 (.t 18)))⟩, ⟨(some 20), none, (.k (.ld 1 false (.t 19)))⟩, ⟨(some 5), none, (.k (.mov (.t 20)))⟩]) srising_6)
def srising_4 : AC := (.seq (.ops [⟨(some 14), none, (.k (.mkF (.func 72) [] [(.t 1), (.t 3)]))⟩, ⟨(some 4), none, (.k (.mov (.t 14)))⟩]) srising_5)
def srising_3 : AC := (.seq (.ops [⟨(some 12), none, (.k (.ld 1 false (.t 3)))⟩, ⟨(some 13), none, (.k (.bin .lss (.t 12) (.c (.sc (.int .i64 0)))))⟩]) (.cond (.t 13) (.seq (.ops [⟨(some 2), none, (.k (.mov (.c (.sc (.bool true)))))⟩]) .ret) .skip))
def srising_2 : AC := (.seq srising_3 srising_4)
def srising_1 : AC := (.seq (.ops [⟨(some 9), none, (.k (.fad 2 (.t 1)))⟩, ⟨(some 10), none, (.k (.ld 1 false (.t 9)))⟩, ⟨(some 11), none, (.call false (.c (.fn (.func 70) [] [])) [(.t 10), (.c (.fn (.func 71) [] []))])⟩, ⟨(some 3), none, (.k (.new 3 1 (.c (.sc (.int .i64 0)))))⟩, ⟨none, none, (.k (.st 1 (.t 3) (.t 11)))⟩]) srising_2)
def srising_ac : AC := (.seq (.ops [⟨(some 1), none, (.k (.new 27 4 (.t 0)))⟩, ⟨(some 2), none, (.k (.mov (.c (.sc (.bool false)))))⟩]) srising_1)
theorem srising_call {args : List AV} {H : List AObj} {R : AV → List AObj → Prop} (h : AWp Try.prog [] H.length srising_ac (bodyQ H.length [(.t 2)] R) (args ++ List.replicate (44 - args.length) .und) H) : ACalls Try.prog 39 args H R :=
  ACalls.of_fn Try.func39 rfl (by kernel_rfl) rfl Try.ntmps39 h

set_option maxHeartbeats 4000000 in
theorem srising_spec {sh f l v : AV} {S V : List Int} {F : List (Int × Int × Int)} {xs : List LvA} (hS : ISl sh S) (hF : Sp f F) (hl : Ls l xs) (hV : ISl v V) (hok : RiseOk xs) :
    ACalls Try.prog 39 [.agg [sh, f, l, v]] [] fun r H' => H' = [] ∧ r = Bo (riseF xs) := by
  have hS' := hS
  have hF' := hF
  have hl' := hl
  have hV' := hV
  obtain ⟨⟨nl, c, sz, rfl, hs⟩, hlen, hx⟩ := hl
  obtain ⟨⟨nl1, c01, sz1, rfl, hs1⟩, hlen1, hx1⟩ := hS
  obtain ⟨⟨nl2, c02, sz2, rfl, hs2⟩, hlen2, hx2⟩ := hF
  obtain ⟨⟨nl3, c3, sz3, rfl, hs3⟩, hlen3, hx3⟩ := hV
  have base : ACalls Try.prog 39 [.agg [.imm nl1 c01 sz1 (S.map I), .imm nl2 c02 sz2 (F.map specV), .imm nl c sz (xs.map lvV), .imm nl3 c3 sz3 (V.map I)]] [] fun r H' => r = Bo (riseF xs) := by
    apply srising_call
    repeat first | refine AWp.seq ?_ | refine AWp.block ?_
    refine AWp.ops ?_
    simp
    repeat first | refine AWp.seq ?_ | refine AWp.block ?_
    refine AWp.ops ?_
    simp
    refine ((IdxL_spec hl' (fun x hm => srising1_spec (hx x hm))).pure (by simp) (by rintro r ⟨n, rfl, _⟩; simp) _).mono ?_
    rintro r H' ⟨rfl, n, rfl, hn⟩
    simp
    repeat first | refine AWp.seq ?_ | refine AWp.block ?_
    refine AWp.ops ?_
    simp
    rcases hn with ⟨rfl, hn⟩ | ⟨i, hi, rfl, hk, hfst⟩
    ·
      refine AWp.cond (b := true) (by simp) (fun _ => ?_) (fun h => by cases h)
      repeat first | refine AWp.seq ?_ | refine AWp.block ?_
      refine AWp.ops ?_
      simp
      refine AWp.ret ?_
      simp
      refine retOk.of rfl ?_
      rw [riseF_none hn]; simp
    refine AWp.cond (b := false) (by simp) (fun h => by cases h) (fun _ => ?_)
    have hk : xs[i].lv.k = 2 := by simpa using hk
    obtain ⟨hall, ⟨N, hN, hP⟩, hm, -⟩ := hok i hi hk
    have hres := riseF_at hi hk hfst
    have hgs := lv_get hi
    have hsz4 := sz4_of hs hi
    subst hsz4
    have hxi := hx xs[i] (List.getElem_mem hi)
    have call : ∀ (q : Nat), 0 < q → q < xs[i].lv.crd.length → ACalls Try.prog 72 [I q, .ptr 0 1 0 0, .ptr 1 1 0 0] [tnO (.agg [.imm nl1 c01 sz1 (S.map I), .imm nl2 c02 sz2 (F.map specV), .imm nl c 4 (xs.map lvV), .imm nl3 c3 sz3 (V.map I)]), ⟨3, 1, [I i], true, none⟩]
        fun r H' => H' = [tnO (.agg [.imm nl1 c01 sz1 (S.map I), .imm nl2 c02 sz2 (F.map specV), .imm nl c 4 (xs.map lvV), .imm nl3 c3 sz3 (V.map I)]), ⟨3, 1, [I i], true, none⟩] ∧ r = Bo (lessF (xs.drop i) q) := by
      intro q h1 h2
      refine ACalls.pureLent 3 (R := fun r => r = Bo (lessF (xs.drop i) q)) ?_ (by rintro r rfl s; simp)
      simp
      exact srising2_spec hS' hF' hl' hV' hi h1 h2 hm hall
    generalize hlv : xs[i] = x at hk hall hP hm hres hgs hxi call
    obtain ⟨⟨k, z, ps, cs⟩, p, q⟩ := x
    simp only at hk hall hP hm hres hgs hxi call
    obtain ⟨⟨⟨nlp, cp, szp, rfl, hsp⟩, hlp, _⟩, ⟨⟨nlq, cq, szq, rfl, hsq⟩, _⟩, _⟩ := hxi
    simp only at hlp hsp
    obtain ⟨hpl, hp0, hp1, hp2⟩ := hP
    have hP : PosOk ps cs.length N := ⟨hpl, hp0, hp1, hp2⟩
    have hszp := sz_of hsp (i := 0) (by omega)
    subst hszp
    rw [hres]
    generalize i = i0 at call hres hfst hall hgs
    refine AWp.skip ?_
    simp only [qSeq]
    repeat first | refine AWp.seq ?_ | refine AWp.block ?_
    refine AWp.ops ?_
    simp
    repeat first | refine AWp.seq ?_ | refine AWp.block ?_
    refine AWp.ops ?_
    simp [hgs]
    obtain ⟨ts, hts⟩ : ∃ ts, ts = ps.tail := ⟨_, rfl⟩
    have htl : ts.length = N := by rw [hts]; simp [hpl]
    have htg : ∀ j, ts.getD j 0 = ps.getD (j + 1) 0 := by
      intro j
      rw [hts]
      cases ps <;> simp
    have c1 : (1 : Int) ≤ (N : Int) + 1 := by omega
    have c2 : List.take N (ps.map I).tail = ts.map I := by
      rw [hts, List.map_tail]
      exact List.take_of_length_le (by simp [hpl])
    obtain ⟨ct, hct⟩ : ∃ ct, ct = Option.map (fun x => x - 1) cp := ⟨_, rfl⟩
    repeat first | refine AWp.seq ?_ | refine AWp.block ?_
    refine AWp.ops ?_
    simp [c1, c2, hpl, htl, ← hct]
    obtain ⟨HH, hHH⟩ : ∃ HH, HH = [tnO (.agg [.imm nl1 c01 sz1 (S.map I), .imm nl2 c02 sz2 (F.map specV), .imm nl c 4 (xs.map lvV), .imm nl3 c3 sz3 (V.map I)]), ⟨3, 1, [I i0], true, none⟩] := ⟨_, rfl⟩
    rw [← hHH] at call ⊢
    obtain ⟨ys, hys⟩ : ∃ ys, ys = xs.drop i0 := ⟨_, rfl⟩
    rw [← hys] at call ⊢
    obtain ⟨J, hJ⟩ : ∃ J : Nat → List AV → List AObj → Prop, J = fun i fr H => i ≤ N ∧ (∀ p < i, ∀ q < cs.length, ps.getD p 0 < (q : Int) → (q : Int) < ps.getD (p + 1) 0 → lessF ys q = true) ∧ H = HH ∧
      fr = [.und, .und, .und, .und, .fn (.func 72) [] [.ptr 0 1 0 0, .ptr 1 1 0 0], .imm nlp cp 1 (ps.map I), .und, .und, .und, .und, .und, .und, .und, .und, .und, .und, .und, .und, .und, .und, .und, .und, .imm nlp ct 1 (ts.map I), I N, I i, .und, .und, .und, .und, .und, .und, .und, .und, .und, .und, .und, .und, .und, .und, .und, .und, .und, .und, .und] := ⟨_, rfl⟩
    refine AWp.block (AWp.loop J (fun i => N - i) 0 (Weak.slots [4, 5, 22, 23, 24]) (by rw [hJ]; exact ⟨by omega, fun p hp => by omega, by simp, by simp⟩) ?_)
    intro i fr H hI
    rw [hJ] at hI
    obtain ⟨hi, hinv, rfl, rfl⟩ := hI
    repeat first | refine AWp.seq ?_ | refine AWp.block ?_
    refine AWp.ops ?_
    simp
    refine AWp.seq (AWp.cond (b := decide (i < N)) (by simp <;> omega) ?_ ?_)
    ·
      intro hb
      have hb : i < N := by simpa using hb
      refine AWp.skip ?_
      simp only [qSeq]
      obtain ⟨f, t, hf', ht', hft, htc⟩ := hP.at hb
      have hbp : i < ps.length := by omega
      have hbt : i < ts.length := by omega
      have ef : ps[i] = f := by simpa [hbp] using hf'
      have et : ts[i] = t := by
        have := htg i
        rw [ht'] at this
        simpa [hbt] using this
      have hwi := wrap_i64 (n := (i : Int) + 1) (by omega) (by omega)
      have hwf := wrap_i64 (n := (f : Int) + 1) (by omega) (by omega)
      repeat first | refine AWp.seq ?_ | refine AWp.block ?_
      refine AWp.ops ?_
      simp [hbt, et]
      repeat first | refine AWp.seq ?_ | refine AWp.block ?_
      refine AWp.ops ?_
      simp [hbp, ef, hwf]
      obtain ⟨J2, hJ2⟩ : ∃ J2 : Nat → List AV → List AObj → Prop, J2 = fun j fr H2 => (∀ q : Nat, f < q → q < f + 1 + j → lessF ys q = true) ∧
        H2 = H ∧
        fr = [.und, .und, .und, .und, .fn (.func 72) [] [.ptr 0 1 0 0, .ptr 1 1 0 0], .imm nlp cp 1 (ps.map I), .und, I t, I ((f + 1 + j : Nat) : Int), .und, .und, .und, .und, .und, .und, .und, .und, .und, .und, .und, .und, .und, .imm nlp ct 1 (ts.map I), I N, I i, .und, .und, .und, .und, .und, .und, .und, .und, .und, .und, .und, .und, .und, .und, .und, .und, .und, .und, .und] := ⟨_, rfl⟩
      refine AWp.block (AWp.loop J2 (fun j => t - j) 0 (Weak.slots [4, 5, 7, 8, 22, 23, 24]) (by
        rw [hJ2]
        exact ⟨fun q h1 h2 => by omega, by simp, by simp⟩) ?_)
      intro j fr H2 hI
      rw [hJ2] at hI
      obtain ⟨hin, rfl, rfl⟩ := hI
      obtain ⟨q, hq⟩ : ∃ q : Nat, q = f + 1 + j := ⟨_, rfl⟩
      rw [← hq]
      repeat first | refine AWp.seq ?_ | refine AWp.block ?_
      refine AWp.ops ?_
      simp
      refine AWp.cond (b := decide (q < t)) (by simp) ?_ ?_
      · intro h0
        have h0 : q < t := by simpa using h0
        have wq := wrap_i64 (n := (q : Int) + 1) (by omega) (by omega)
        refine AWp.skip ?_
        simp only [qSeq]
        repeat first | refine AWp.seq ?_ | refine AWp.block ?_
        refine AWp.ops ?_
        simp
        refine (call q (by omega) (by omega)).mono ?_
        rintro r H' ⟨rfl, rfl⟩
        simp
        refine AWp.cond (b := !lessF ys q) (by simp) ?_ ?_
        · intro h
          have h : lessF ys q = false := by simpa using h
          repeat first | refine AWp.seq ?_ | refine AWp.block ?_
          refine AWp.ops ?_
          simp
          refine AWp.ret ?_
          simp
          refine retOk.of rfl ?_
          have : ¬ RiseT ys ps cs.length := fun hR => by
            have := hR i (by omega) q (by omega) (by omega) (by omega)
            rw [h] at this; cases this
          simp [this]
        · intro h
          have h : lessF ys q = true := by simpa using h
          refine AWp.skip ?_
          simp only [qSeq, qBlock]
          repeat first | refine AWp.seq ?_ | refine AWp.block ?_
          refine AWp.ops ?_
          simp [wq]
          refine ⟨j + 1, _, _, Weak.slots [4, 5, 7, 8, 22, 23, 24], ?_, by omega⟩
          rw [hJ2]
          refine ⟨fun q' h1 h2 => ?_, by simp, by simp; omega⟩
          by_cases e : q' = q
          · rw [e]; exact h
          · exact hin q' h1 (by omega)
      · intro h0
        have h0 : ¬ q < t := by simpa using h0
        refine AWp.exit ?_
        simp [qSeq, qBlock]
        repeat first | refine AWp.seq ?_ | refine AWp.block ?_
        refine AWp.ops ?_
        simp
        refine ⟨i + 1, _, _, Weak.slots [4, 5, 22, 23, 24], ?_, by omega⟩
        rw [hJ]
        refine ⟨by omega, ?_, by simp, by simp [wrap_i64 (n := (i : Int) + 1) (by omega) (by omega)]⟩
        intro p hp q' hq' h1 h2
        by_cases e : p = i
        · subst e
          rw [hf'] at h1
          rw [ht'] at h2
          exact hin q' (by omega) (by omega)
        · exact hinv p (by omega) q' hq' h1 h2
    ·
      intro hb
      have hb : ¬ i < N := by simpa using hb
      refine AWp.exit ?_
      simp [qSeq, qBlock]
      repeat first | refine AWp.seq ?_ | refine AWp.block ?_
      refine AWp.ops ?_
      simp
      refine AWp.ret ?_
      simp
      refine retOk.of rfl ?_
      have : RiseT ys ps cs.length := fun p hp => hinv p (by omega)
      simp [this]
  refine (base.frozen 2).mono ?_
  rintro q H' ⟨rfl, r, G, rfl, rfl⟩
  exact ⟨rfl, by simp⟩

end Go.Fw
