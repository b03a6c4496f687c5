import Derived.Test.YtgdkdojjfijipaaFwref02d
import Derived.Test.YtgdkdojjfijipaaFwrowo1
namespace Go.Fw
open Go Go.RowKit Go.Proofs
set_option maxRecDepth 100000
set_option linter.unusedSimpArgs false
set_option linter.unusedVariables false

theorem wrap_rng (x : Int) : -9223372036854775808 ≤ IntKind.i64.wrap x ∧ IntKind.i64.wrap x ≤ 9223372036854775807 := by
  have e : IntKind.i64.wrap x = if (x % 18446744073709551616) ≥ 9223372036854775808 then x % 18446744073709551616 - 18446744073709551616 else x % 18446744073709551616 := by
    unfold IntKind.wrap
    simp [IntKind.bits, IntKind.signed]
  rw [e]
  split <;> omega
/-- Entries added to numbers. -/
def addE (S : List Int) (vs : List Int) (t : List Int × Int) : List Int := vs.set (atF S t.1).1.toNat (IntKind.i64.wrap (vs.getD (atF S t.1).1.toNat 0 + t.2))
/-- A list, laid out. -/
def cdF (X : List Int × List (List Int × Int)) : (List Int × List Int) × Int :=
  if cooCheck X.1 X.2 ≠ 0 then (([], []), cooCheck X.1 X.2) else if (zeroF X.1).2 ≠ 0 then (([], []), (zeroF X.1).2) else ((X.1, X.2.foldl (addE X.1) (zeroF X.1).1.2), 0)
theorem foldl_addE_len (S : List Int) : ∀ (E : List (List Int × Int)) (vs : List Int), (E.foldl (addE S) vs).length = vs.length
  | [], vs => rfl
  | t :: E, vs => by rw [List.foldl_cons, foldl_addE_len S E]; simp [addE]
theorem zeroF_ok {S : List Int} (h : (zeroF S).2 = 0) : (zeroF S).1.1 = S ∧ (cells S).2 = 0 ∧ ∃ n : Nat, (cells S).1 = n ∧ n ≤ 65536 ∧ (zeroF S).1.2 = List.replicate n 0 := by
  unfold zeroF at h ⊢
  split at h
  · rename_i h1; exact absurd h h1
  rename_i h1
  rw [if_neg h1]
  have h2 : (laidF S).2 = 0 := by omega
  obtain ⟨_, n, hn, hn2⟩ := laid_ok h2
  have h3 : (cells S).2 = 0 ∧ (laidF S).1 = (cells S).1 := by
    unfold laidF at h2 ⊢
    split at h2
    · simp at h2
    · rename_i h3; rw [if_neg h3]; exact ⟨h2, rfl⟩
  refine ⟨rfl, h3.1, n, by rw [← h3.2, hn], hn2, by simp [hn]⟩
theorem addE_in {S vs : List Int} {t : List Int × Int} (h : InR vs) : InR (addE S vs t) := by
  refine ⟨by simp [addE]; exact h.1, fun x hx => ?_⟩
  rcases List.mem_or_eq_of_mem_set hx with hx | rfl
  · exact h.2 x hx
  · exact wrap_rng _
theorem cdF_in {X : List Int × List (List Int × Int)} (hX : InI X.1) : InR (cdF X).1.1 ∧ InR (cdF X).1.2 := by
  have h0 : InR [] := ⟨by simp, by simp⟩
  unfold cdF
  split
  · exact ⟨h0, h0⟩
  split
  · exact ⟨h0, h0⟩
  · rename_i h1 h2
    refine ⟨hX, ?_⟩
    obtain ⟨_, _, n, _, hn, hz⟩ := zeroF_ok (S := X.1) (by omega)
    have : ∀ (E : List (List Int × Int)) (vs : List Int), InR vs → InR (E.foldl (addE X.1) vs) := by
      intro E
      induction E with
      | nil => intro vs h; exact h
      | cons t E ih => intro vs h; exact ih _ (addE_in h)
    refine this _ _ ?_
    rw [hz]
    exact ⟨by simp; omega, fun x hx => by obtain ⟨_, rfl⟩ := List.mem_replicate.1 hx; omega⟩

/-- The objects of Dense. -/
structure DcI (q j n : Nat) (x s : AV) (S : List Int) (K : List AObj) (vs : List Int) : Prop where
  q2 : 2 ≤ q
  j2 : 2 ≤ j
  k0 : K[0]? = some (cooO x)
  k1 : K[1]? = some (denO nilD)
  kq : K[q]? = some (denO (.agg [s, .slc j n 0 n none]))
  kj : K[j]? = some (i64O vs)
  vl : vs.length = n
  sh : shapeOk 2 K j s S
theorem DcI.same {q j n : Nat} {x s : AV} {S : List Int} {K K' : List AObj} {vs vs' : List Int} (h : DcI q j n x s S K vs) (hK : ∀ k o, k ≠ j → K[k]? = some o → K'[k]? = some o) (hj : K'[j]? = some (i64O vs')) (hl : vs'.length = n) : DcI q j n x s S K' vs' := by
  have hqj : q ≠ j := by
    rintro rfl
    have := h.kq
    rw [h.kj] at this
    simp at this
  have h2 := h.j2
  refine ⟨h.q2, h.j2, hK 0 _ (by omega) h.k0, hK 1 _ (by omega) h.k1, hK q _ hqj h.kq, hj, hl, ?_⟩
  rcases h.sh with h | ⟨k, a1, a2, a3, a4⟩
  · exact .inl h
  · exact .inr ⟨k, a1, a2, a3, hK k _ a2 a4⟩

def cDense_25 : AC := (.seq (.ops [⟨(some 56), none, (.k (.ld 2 true (.t 5)))⟩, ⟨none, none, (.k (.st 2 (.t 2) (.t 56)))⟩, ⟨(some 3), none, (.k (.mov (.c (.sc (.int .i64 0)))))⟩]) .ret)
def cDense_24 : AC := (.seq (.ops [⟨(some 44), none, (.k (.mk [(.imm true none 0 []), (.imm true none 0 [])] []))⟩, ⟨(some 45), none, (.k (.mov (.t 10)))⟩, ⟨none, none, (.k (.st 2 (.t 2) (.t 44)))⟩, ⟨(some 3), none, (.k (.mov (.t 45)))⟩]) .ret)
def cDense_23 : AC := (.cond (.t 43) cDense_24 .skip)
def cDense_22 : AC := (.seq (.ops [⟨(some 42), none, (.k (.mov (.t 10)))⟩, ⟨(some 43), none, (.k (.bin .neq (.t 42) (.c (.sc (.int .i64 0)))))⟩]) cDense_23)
def cDense_21 : AC := (.seq cDense_22 (.ops [⟨(some 46), none, (.k (.fad 1 (.t 5)))⟩, ⟨(some 47), none, (.k (.ld 1 false (.t 46)))⟩, ⟨(some 48), none, (.k (.mov (.t 9)))⟩, ⟨(some 49), none, (.k (.iad 1 (.t 47) (.t 48)))⟩, ⟨(some 50), none, (.k (.ld 1 false (.t 49)))⟩, ⟨(some 51), none, (.k (.fad 1 (.t 8)))⟩, ⟨(some 52), none, (.k (.ld 1 false (.t 51)))⟩, ⟨(some 53), none, (.k (.bin .add (.t 50) (.t 52)))⟩, ⟨(some 54), none, (.k (.iad 1 (.t 47) (.t 48)))⟩, ⟨none, none, (.k (.st 1 (.t 54) (.t 53)))⟩]))
def cDense_20 : AC := (.seq (.ops [⟨(some 35), none, (.k (.fad 0 (.t 1)))⟩, ⟨(some 36), none, (.k (.ld 1 false (.t 35)))⟩, ⟨(some 37), none, (.k (.fad 0 (.t 8)))⟩, ⟨(some 38), none, (.k (.ld 1 false (.t 37)))⟩, ⟨(some 39), none, (.call false (.c (.fn (.func 43) [] [])) [(.t 36), (.t 38)])⟩, ⟨(some 34), none, (.k (.mov (.t 39)))⟩, ⟨(some 40), none, (.k (.ext (.t 34) 0))⟩, ⟨(some 41), none, (.k (.ext (.t 34) 1))⟩, ⟨(some 9), none, (.k (.mov (.t 40)))⟩, ⟨(some 10), none, (.k (.mov (.t 41)))⟩]) cDense_21)
def cDense_19 : AC := (.seq (.ops [⟨(some 32), none, (.k (.iad 2 (.t 28) (.t 30)))⟩, ⟨(some 33), none, (.k (.ld 2 true (.t 32)))⟩, ⟨(some 8), none, (.k (.new 38 2 (.c (.agg [(.imm true none 0 []), (.sc (.int .i64 0))]))))⟩, ⟨none, none, (.k (.st 2 (.t 8) (.t 33)))⟩]) cDense_20)
def cDense_18 : AC := (.block 1 cDense_19)
def cDense_17 : AC := (.seq cDense_18 (.ops [⟨(some 55), none, (.k (.bin .add (.t 30) (.c (.sc (.int .i64 1)))))⟩, ⟨(some 30), none, (.k (.mov (.t 55)))⟩]))
def cDense_16 : AC := (.seq (.cond (.t 31) .skip (.exit 0)) cDense_17)
def cDense_15 : AC := (.seq (.ops [⟨(some 31), none, (.k (.bin .lss (.t 30) (.t 29)))⟩]) cDense_16)
def cDense_14 : AC := (.loop cDense_15)
def cDense_13 : AC := (.block 0 cDense_14)
def cDense_12 : AC := (.seq (.ops [⟨(some 27), none, (.k (.fad 1 (.t 1)))⟩, ⟨(some 28), none, (.k (.ld 1 false (.t 27)))⟩, ⟨(some 29), none, (.k (.len (.t 28)))⟩, ⟨(some 30), none, (.k (.mov (.c (.sc (.int .i64 0)))))⟩]) cDense_13)
def cDense_11 : AC := (.seq cDense_12 cDense_25)
def cDense_10 : AC := (.seq (.ops [⟨(some 25), none, (.k (.mk [(.imm true none 0 []), (.imm true none 0 [])] []))⟩, ⟨(some 26), none, (.k (.mov (.t 6)))⟩, ⟨none, none, (.k (.st 2 (.t 2) (.t 25)))⟩, ⟨(some 3), none, (.k (.mov (.t 26)))⟩]) .ret)
def cDense_9 : AC := (.cond (.t 24) cDense_10 .skip)
def cDense_8 : AC := (.seq (.ops [⟨(some 23), none, (.k (.mov (.t 6)))⟩, ⟨(some 24), none, (.k (.bin .neq (.t 23) (.c (.sc (.int .i64 0)))))⟩]) cDense_9)
def cDense_7 : AC := (.seq cDense_8 cDense_11)
def cDense_6 : AC := (.seq (.ops [⟨(some 18), none, (.k (.fad 0 (.t 1)))⟩, ⟨(some 19), none, (.k (.ld 1 false (.t 18)))⟩, ⟨(some 20), none, (.call false (.c (.fn (.func 59) [] [])) [(.t 19)])⟩, ⟨(some 17), none, (.k (.mov (.t 20)))⟩, ⟨(some 21), none, (.k (.ext (.t 17) 0))⟩, ⟨(some 22), none, (.k (.ext (.t 17) 1))⟩, ⟨(some 5), none, (.k (.new 49 2 (.c (.agg [(.imm true none 0 []), (.imm true none 0 [])]))))⟩, ⟨none, none, (.k (.st 2 (.t 5) (.t 21)))⟩, ⟨(some 6), none, (.k (.mov (.t 22)))⟩]) cDense_7)
def cDense_5 : AC := (.seq (.ops [⟨(some 15), none, (.k (.mk [(.imm true none 0 []), (.imm true none 0 [])] []))⟩, ⟨(some 16), none, (.k (.mov (.t 4)))⟩, ⟨none, none, (.k (.st 2 (.t 2) (.t 15)))⟩, ⟨(some 3), none, (.k (.mov (.t 16)))⟩]) .ret)
def cDense_4 : AC := (.cond (.t 14) cDense_5 .skip)
def cDense_3 : AC := (.seq (.ops [⟨(some 13), none, (.k (.mov (.t 4)))⟩, ⟨(some 14), none, (.k (.bin .neq (.t 13) (.c (.sc (.int .i64 0)))))⟩]) cDense_4)
def cDense_2 : AC := (.seq (.ops [⟨(some 11), none, (.k (.ld 2 true (.t 1)))⟩, ⟨(some 12), none, (.call false (.c (.fn (.func 13) [] [])) [(.t 11)])⟩, ⟨(some 4), none, (.k (.mov (.t 12)))⟩]) cDense_3)
def cDense_1 : AC := (.seq cDense_2 cDense_6)
def cDense_ac : AC := (.seq (.ops [⟨(some 1), none, (.k (.new 25 2 (.t 0)))⟩, ⟨(some 2), none, (.k (.new 49 2 (.c (.agg [(.imm true none 0 []), (.imm true none 0 [])]))))⟩, ⟨(some 3), none, (.k (.mov (.c (.sc (.int .i64 0)))))⟩]) cDense_1)
theorem cDense_call {args : List AV} {H : List AObj} {R : AV → List AObj → Prop} (h : AWp Try.prog [] H.length cDense_ac (bodyQ H.length [(.cell 2 2 true), (.t 3)] R) (args ++ List.replicate (57 - args.length) .und) H) : ACalls Try.prog 31 args H R :=
  ACalls.of_fn Try.func31 rfl (by kernel_rfl) rfl Try.ntmps31 h

set_option maxHeartbeats 8000000 in
theorem cDense_spec {a : AV} {X : List Int × List (List Int × Int)} (ha : Coo a X) : ACalls Try.prog 31 [a] [] (denseR (cdF X)) := by
  have ha' := ha
  obtain ⟨S, E⟩ := X
  obtain ⟨s, e, rfl, hS, hE⟩ := ha
  simp only at hS hE
  have hS' := hS
  obtain ⟨⟨nl1, c01, sz1, rfl, hs1⟩, hlen1, hx1⟩ := hS
  obtain ⟨nl, cl, sz, es, rfl, he1, he2, hE⟩ := hE
  have hel := hE.1
  obtain ⟨x, hx⟩ : ∃ x, x = AV.agg [.imm nl1 c01 sz1 (S.map I), .imm nl cl sz es] := ⟨_, rfl⟩
  apply cDense_call
  repeat first | refine AWp.seq ?_ | refine AWp.block ?_
  refine AWp.ops ?_
  simp
  repeat first | refine AWp.seq ?_ | refine AWp.block ?_
  refine AWp.ops ?_
  simp
  refine ((cCheck_spec ha').pure (by simp) (by rintro r rfl; simp) _).mono ?_
  rintro r H' ⟨rfl, rfl⟩
  simp
  repeat first | refine AWp.seq ?_ | refine AWp.block ?_
  refine AWp.ops ?_
  simp
  by_cases h : cooCheck S E = 0
  case neg =>
    refine AWp.cond (b := true) (by simp [h]) (fun _ => ?_) (fun h => by cases h)
    have he : cdF (S, E) = (([], []), cooCheck S E) := by rw [cdF, if_pos h]
    repeat first | refine AWp.seq ?_ | refine AWp.block ?_
    refine AWp.ops ?_
    simp
    refine AWp.ret ?_
    simp
    refine retOk.of rfl ?_
    rw [he]
    exact .inl ⟨h, rfl, by simp⟩
  refine AWp.cond (b := false) (by simp [h]) (fun h => by cases h) (fun _ => ?_)
  obtain ⟨hS4, hE6, hcs⟩ := cooCheck_dims h
  have hat : ∀ t ∈ E, (atF S t.1).2 = 0 := fun t ht => by
    have h0 := h
    unfold cooCheck at h0
    split at h0
    · rename_i h1; exact absurd h0 h1
    split at h0
    · cases h0
    split at h0
    · cases h0
    rename_i h3
    have h3 : E.any (fun t => decide ((atF S t.1).2 ≠ 0)) = false := by simpa using h3
    simpa using List.any_eq_false.1 h3 t ht
  refine AWp.skip ?_
  simp only [qSeq]
  repeat first | refine AWp.seq ?_ | refine AWp.block ?_
  refine AWp.ops ?_
  simp
  refine (dense_at (Zero_dense hS') (by simp) _).mono ?_
  rintro r H' ⟨G, rfl, hr⟩
  rcases hr with ⟨hz, hz1, rfl⟩ | ⟨hz, dv, rfl, sv, j, hj, rfl, hjo, hso⟩
  · have he : cdF (S, E) = (([], []), (zeroF S).2) := by rw [cdF, if_neg (by simpa using h), if_pos hz]
    simp
    repeat first | refine AWp.seq ?_ | refine AWp.block ?_
    refine AWp.ops ?_
    simp
    refine AWp.cond (b := true) (by simp [hz]) (fun _ => ?_) (fun h => by cases h)
    repeat first | refine AWp.seq ?_ | refine AWp.block ?_
    refine AWp.ops ?_
    simp
    refine AWp.ret ?_
    simp
    refine retOk.of rfl ?_
    rw [he]
    exact .inl ⟨hz, rfl, by simp⟩
  obtain ⟨z1, -, n, hcn, hn6, hzn⟩ := zeroF_ok hz
  have he : cdF (S, E) = ((S, E.foldl (addE S) (zeroF S).1.2), 0) := by rw [cdF, if_neg (by simpa using h), if_neg (by simpa using hz)]
  rw [he]
  rw [z1] at hso
  obtain ⟨Z, hZ⟩ : ∃ Z, Z = (zeroF S).1.2 := ⟨_, rfl⟩
  have hZl : Z.length = n := by rw [hZ, hzn]; simp
  rw [← hZ] at hjo ⊢
  rw [hZl]
  simp at hj hjo hso
  have hone := hso.one
  simp [hone]
  obtain ⟨K, hK⟩ : ∃ K, K = cooO x :: denO nilD :: (G ++ [denO (.agg [sv, .slc j n 0 n none])]) := ⟨_, rfl⟩
  rw [← hx, ← hK]
  have gK : ∀ k o, 2 ≤ k → (cooO (.agg [.imm nl1 c01 sz1 (S.map I), .imm nl cl sz es]) :: denO nilD :: G)[k]? = some o → K[k]? = some o := fun k o hk h => by
    obtain ⟨j, rfl⟩ := Nat.exists_eq_add_of_le' hk
    simp at h
    rw [hK]
    simp
    rw [List.getElem?_append_left (List.getElem?_eq_some_iff.1 h).1]; exact h
  have I0 : DcI (G.length + 2) j n x sv S K Z := by
    refine ⟨by omega, hj, by rw [hK]; rfl, by rw [hK]; rfl, by rw [hK]; simp, gK j _ hj hjo, hZl, ?_⟩
    rcases hso with h | ⟨k, h1, h2, h3, h4⟩
    · exact .inl h
    · exact .inr ⟨k, h1, h2, h3, gK k _ h1 h4⟩
  obtain ⟨q, hq⟩ : ∃ q, q = G.length + 2 := ⟨_, rfl⟩
  rw [show G.length + 1 + 1 = q by omega]
  rw [← hq] at I0
  clear gK hK hso hjo
  repeat first | refine AWp.seq ?_ | refine AWp.block ?_
  refine AWp.ops ?_
  simp
  refine AWp.cond (b := false) (by simp [hz]) (fun h => by cases h) (fun _ => ?_)
  have k0 := I0.k0
  rw [hx] at k0
  refine AWp.skip ?_
  simp only [qSeq]
  repeat first | refine AWp.seq ?_ | refine AWp.block ?_
  refine AWp.ops ?_
  simp [k0]
  obtain ⟨J, hJ⟩ : ∃ J : Nat → List AV → List AObj → Prop, J = fun i fr H => i ≤ es.length ∧ ∃ (K : List AObj), (DcI q j n x sv S K ((E.take i).foldl (addE S) Z)) ∧ H = K ∧
    fr = [.und, .ptr 0 1 0 0, .ptr 1 1 0 0, .und, .und, .ptr q 1 0 0, .und, .und, .und, .und, .und, .und, .und, .und, .und, .und, .und, .und, .und, .und, .und, .und, .und, .und, .und, .und, .und, .und, .imm nl cl sz es, I es.length, I i, .und, .und, .und, .und, .und, .und, .und, .und, .und, .und, .und, .und, .und, .und, .und, .und, .und, .und, .und, .und, .und, .und, .und, .und, .und, .und] := ⟨_, rfl⟩
  refine AWp.block (AWp.loop J (fun i => es.length - i) 0 (Weak.slots [1, 2, 5, 28, 29, 30]) (by rw [hJ]; exact ⟨by omega, K, by simpa using I0, by simp, by simp⟩) ?_)
  intro i fr H hI
  rw [hJ] at hI
  obtain ⟨hi, K, hinv, rfl, rfl⟩ := hI
  repeat first | refine AWp.seq ?_ | refine AWp.block ?_
  refine AWp.ops ?_
  simp
  refine AWp.seq (AWp.cond (b := decide (i < es.length)) (by simp <;> omega) ?_ ?_)
  ·
    intro hb
    have hb : i < es.length := by simpa using hb
    refine AWp.skip ?_
    simp only [qSeq]
    have hbE : i < E.length := by omega
    have hnl : nl = false := by
      cases nl with
      | false => rfl
      | true => have := he1 rfl; rw [this] at hbE; simp at hbE
    have hsz := he2 hnl
    subst hnl hsz
    obtain ⟨ai, hai, hai2⟩ := hE.get hbE
    have hti := hat E[i] (List.getElem_mem hbE)
    have hxt : (E.take (i + 1)).foldl (addE S) Z = addE S ((E.take i).foldl (addE S) Z) E[i] := by
      rw [List.take_succ_eq_append_getElem hbE, List.foldl_append]; rfl
    generalize E[i] = t at hai hai2 hti hxt
    obtain ⟨c, v⟩ := t
    simp only at hai hai2 hti
    have hai2' := hai2
    obtain ⟨⟨n5, c5, z5, rfl, hs5⟩, hl5, hx5⟩ := hai2
    have hlt := atF_lt hcs hti
    obtain ⟨p, hp⟩ : ∃ p : Nat, (atF S c).1 = p := ⟨(atF S c).1.toNat, by omega⟩
    have hpn : p < n := by omega
    obtain ⟨vs, hvs⟩ : ∃ vs, vs = (E.take i).foldl (addE S) Z := ⟨_, rfl⟩
    rw [← hvs] at hinv hxt
    have hvl := hinv.vl
    have hadd : addE S vs (c, v) = vs.set p (IntKind.i64.wrap (vs[p]'(by omega) + v)) := by
      simp [addE, hp, List.getD, hvl, hpn]
    have hwi := wrap_i64 (n := (i : Int) + 1) (by omega) (by omega)
    obtain ⟨m, hm⟩ : ∃ m, m = H.length := ⟨_, rfl⟩
    have h0 := hinv.k0
    rw [hx] at h0
    have hm0 : 0 < m := by rw [hm]; exact (List.getElem?_eq_some_iff.1 h0).1
    have gL : ∀ x, (H ++ [x])[m]? = some x := fun x => by rw [List.getElem?_append_right (by omega), show m - H.length = 0 by omega]; rfl
    have sL : ∀ x y, (H ++ [x]).set m y = H ++ [y] := fun x y => by rw [List.set_append_right _ _ (by omega), show m - H.length = 0 by omega]; rfl
    repeat first | refine AWp.seq ?_ | refine AWp.block ?_
    refine AWp.ops ?_
    simp [hai, ← hm, gL, sL]
    obtain ⟨K1, hK1⟩ : ∃ K1, K1 = H ++ [enO (.agg [.imm n5 c5 z5 (c.map I), I v])] := ⟨_, rfl⟩
    rw [← hK1]
    have up : ∀ k o, H[k]? = some o → K1[k]? = some o := fun k o h => by rw [hK1, List.getElem?_append_left (List.getElem?_eq_some_iff.1 h).1]; exact h
    have hinv1 : DcI q j n x sv S K1 vs := hinv.same (fun k o _ h => up k o h) (up _ _ hinv.kj) hvl
    have a0 := up _ _ h0
    have aq := hinv1.kq
    have aj := hinv1.kj
    have am : K1[m]? = some (enO (.agg [.imm n5 c5 z5 (c.map I), I v])) := by rw [hK1]; exact gL _
    repeat first | refine AWp.seq ?_ | refine AWp.block ?_
    refine AWp.ops ?_
    simp [a0, am]
    refine ((At_spec hS' hai2').pure (by simp) (by rintro r rfl; simp) _).mono ?_
    rintro r H' ⟨hH', rfl⟩
    subst H'
    simp [hti]
    repeat first | refine AWp.seq ?_ | refine AWp.block ?_
    refine AWp.ops ?_
    simp
    refine AWp.cond (b := false) (by simp) (fun h => by cases h) (fun _ => ?_)
    refine AWp.skip ?_
    simp only [qSeq]
    repeat first | refine AWp.seq ?_ | refine AWp.block ?_
    refine AWp.ops ?_
    simp [aq, aj, am, hvl, hp, hpn]
    repeat first | refine AWp.seq ?_ | refine AWp.block ?_
    refine AWp.ops ?_
    simp [hwi]
    refine ⟨i + 1, _, _, Weak.slots [1, 2, 5, 28, 29, 30], ?_, by omega⟩
    rw [hJ]
    refine ⟨by omega, _, ?_, rfl, by simp⟩
    rw [hxt, hadd]
    exact hinv1.same (fun k o hk h => by rw [gs_ne (Ne.symm hk)]; exact h) (by rw [gs_eq aj]; simp [List.map_set]) (by simpa using hvl)
  ·
    intro hb
    have hb : ¬ i < es.length := by simpa using hb
    refine AWp.exit ?_
    simp [qSeq, qBlock]
    rw [List.take_of_length_le (by omega)] at hinv
    have k1 := hinv.k1
    have kq := hinv.kq
    have h2 := hinv.j2
    have q2 := hinv.q2
    repeat first | refine AWp.seq ?_ | refine AWp.block ?_
    refine AWp.ops ?_
    simp [kq, k1, hone]
    refine AWp.ret ?_
    simp
    refine retOk.of (vs := [.agg [sv, .slc j n 0 n none], I 0]) (by simp [gs_eq k1]) ?_
    have hvl := hinv.vl
    refine .inr ⟨rfl, _, rfl, sv, j, by omega, by rw [hvl], by rw [gs_ne (by omega)]; exact hinv.kj, ?_⟩
    rcases hinv.sh with h | ⟨k, b1, b2, b3, b4⟩
    · exact .inl h
    · exact .inr ⟨k, by omega, b2, b3, by rw [gs_ne (by omega)]; exact b4⟩
theorem cDense_pure {a : AV} {X : List Int × List (List Int × Int)} (ha : Coo a X) (hX : InI X.1) : ACalls Try.prog 31 [a] [] fun r H' => H' = [] ∧ ∃ d, r = .tup [d, I (cdF X).2] ∧ Dn d (cdF X).1 :=
  dense_pure (cDense_spec ha) (cdF_in hX).1 (cdF_in hX).2
end Go.Fw
