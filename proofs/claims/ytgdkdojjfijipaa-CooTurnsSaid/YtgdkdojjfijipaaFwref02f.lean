import Derived.Test.YtgdkdojjfijipaaFwcoo19
import Derived.Test.YtgdkdojjfijipaaFwcoord1r
import Derived.Test.YtgdkdojjfijipaaFwref01c
namespace Go.Fw
open Go Go.RowKit Go.Proofs
set_option maxRecDepth 100000
set_option linter.unusedSimpArgs false
set_option linter.unusedVariables false

def rcOf_19 : AC := (.seq (.ops [⟨(some 46), none, (.k (.ld 2 true (.t 5)))⟩, ⟨none, none, (.k (.st 2 (.t 2) (.t 46)))⟩, ⟨(some 3), none, (.k (.mov (.c (.sc (.int .i64 0)))))⟩]) .ret)
def rcOf_18 : AC := (.seq (.ops [⟨(some 31), none, (.k (.fad 0 (.t 1)))⟩, ⟨(some 32), none, (.k (.ld 1 false (.t 31)))⟩, ⟨(some 33), none, (.k (.mov (.t 6)))⟩, ⟨(some 34), none, (.call false (.c (.fn (.func 68) [] [])) [(.t 32), (.t 33)])⟩, ⟨(some 30), none, (.k (.mov (.t 34)))⟩, ⟨(some 35), none, (.k (.ext (.t 30) 0))⟩, ⟨(some 36), none, (.k (.ext (.t 30) 1))⟩, ⟨(some 8), none, (.k (.mov (.t 35)))⟩, ⟨(some 9), none, (.k (.mov (.t 36)))⟩]) (.ops [⟨(some 37), none, (.k (.fad 1 (.t 5)))⟩, ⟨(some 38), none, (.k (.ld 1 false (.t 37)))⟩, ⟨(some 39), none, (.k (.mov (.t 8)))⟩, ⟨(some 40), none, (.k (.mov (.t 7)))⟩, ⟨(some 41), none, (.k (.mk [(.imm true none 0 []), (.sc (.int .i64 0))] [(0, (1, (.t 39))), (1, (1, (.t 40)))]))⟩, ⟨(some 42), none, (.k (.lit 2 [(.t 41)]))⟩, ⟨(some 43), none, (.k (.app 38 2 32 (.t 38) (.t 42)))⟩, ⟨(some 44), none, (.k (.fad 1 (.t 5)))⟩, ⟨none, none, (.k (.st 1 (.t 44) (.t 43)))⟩]))
def rcOf_17 : AC := (.cond (.t 29) rcOf_18 .skip)
def rcOf_16 : AC := (.seq (.ops [⟨(some 28), none, (.k (.mov (.t 7)))⟩, ⟨(some 29), none, (.k (.bin .neq (.t 28) (.c (.sc (.int .i64 0)))))⟩]) rcOf_17)
def rcOf_15 : AC := (.seq (.ops [⟨(some 25), none, (.k (.mov (.t 23)))⟩, ⟨(some 26), none, (.k (.iad 1 (.t 21) (.t 23)))⟩, ⟨(some 27), none, (.k (.ld 1 false (.t 26)))⟩, ⟨(some 6), none, (.k (.mov (.t 25)))⟩, ⟨(some 7), none, (.k (.mov (.t 27)))⟩]) rcOf_16)
def rcOf_14 : AC := (.block 1 rcOf_15)
def rcOf_13 : AC := (.seq rcOf_14 (.ops [⟨(some 45), none, (.k (.bin .add (.t 23) (.c (.sc (.int .i64 1)))))⟩, ⟨(some 23), none, (.k (.mov (.t 45)))⟩]))
def rcOf_12 : AC := (.seq (.cond (.t 24) .skip (.exit 0)) rcOf_13)
def rcOf_11 : AC := (.seq (.ops [⟨(some 24), none, (.k (.bin .lss (.t 23) (.t 22)))⟩]) rcOf_12)
def rcOf_10 : AC := (.loop rcOf_11)
def rcOf_9 : AC := (.block 0 rcOf_10)
def rcOf_8 : AC := (.seq (.ops [⟨(some 20), none, (.k (.fad 1 (.t 1)))⟩, ⟨(some 21), none, (.k (.ld 1 false (.t 20)))⟩, ⟨(some 22), none, (.k (.len (.t 21)))⟩, ⟨(some 23), none, (.k (.mov (.c (.sc (.int .i64 0)))))⟩]) rcOf_9)
def rcOf_7 : AC := (.seq rcOf_8 rcOf_19)
def rcOf_6 : AC := (.seq (.ops [⟨(some 16), none, (.k (.fad 0 (.t 1)))⟩, ⟨(some 17), none, (.k (.ld 1 false (.t 16)))⟩, ⟨(some 18), none, (.k (.app 3 1 8 (.c (.imm true none 0 [])) (.t 17)))⟩, ⟨(some 19), none, (.k (.mk [(.imm true none 0 []), (.imm true none 0 [])] [(0, (1, (.t 18)))]))⟩, ⟨(some 5), none, (.k (.new 25 2 (.c (.agg [(.imm true none 0 []), (.imm true none 0 [])]))))⟩, ⟨none, none, (.k (.st 2 (.t 5) (.t 19)))⟩]) rcOf_7)
def rcOf_5 : AC := (.seq (.ops [⟨(some 14), none, (.k (.mk [(.imm true none 0 []), (.imm true none 0 [])] []))⟩, ⟨(some 15), none, (.k (.mov (.t 4)))⟩, ⟨none, none, (.k (.st 2 (.t 2) (.t 14)))⟩, ⟨(some 3), none, (.k (.mov (.t 15)))⟩]) .ret)
def rcOf_4 : AC := (.cond (.t 13) rcOf_5 .skip)
def rcOf_3 : AC := (.seq (.ops [⟨(some 12), none, (.k (.mov (.t 4)))⟩, ⟨(some 13), none, (.k (.bin .neq (.t 12) (.c (.sc (.int .i64 0)))))⟩]) rcOf_4)
def rcOf_2 : AC := (.seq (.ops [⟨(some 10), none, (.k (.ld 2 true (.t 1)))⟩, ⟨(some 11), none, (.call false (.c (.fn (.func 67) [] [])) [(.t 10)])⟩, ⟨(some 4), none, (.k (.mov (.t 11)))⟩]) rcOf_3)
def rcOf_1 : AC := (.seq rcOf_2 rcOf_6)
def rcOf_ac : AC := (.seq (.ops [⟨(some 1), none, (.k (.new 49 2 (.t 0)))⟩, ⟨(some 2), none, (.k (.new 25 2 (.c (.agg [(.imm true none 0 []), (.imm true none 0 [])]))))⟩, ⟨(some 3), none, (.k (.mov (.c (.sc (.int .i64 0)))))⟩]) rcOf_1)
theorem rcOf_call {args : List AV} {H : List AObj} {R : AV → List AObj → Prop} (h : AWp Try.prog [] H.length rcOf_ac (bodyQ H.length [(.cell 2 2 true), (.t 3)] R) (args ++ List.replicate (47 - args.length) .und) H) : ACalls Try.prog 38 args H R :=
  ACalls.of_fn Try.func38 rfl (by kernel_rfl) rfl Try.ntmps38 h

set_option maxHeartbeats 8000000 in
theorem rcOf_spec {d : AV} {D : List Int × List Int} (hd : Dn d D) : ACalls Try.prog 38 [d] [] fun r H' => H' = [] ∧ ∃ q, r = .tup [q, I (ofF D).2] ∧ Coo q (ofF D).1 := by
  have hd' := hd
  obtain ⟨S, V⟩ := D
  obtain ⟨s, v, rfl, hS, hV⟩ := hd
  simp only at hS hV
  have hS' := hS
  obtain ⟨⟨n1, c1, z1, rfl, hs1⟩, hl1, hx1⟩ := hS
  obtain ⟨⟨n2, c2, z2, rfl, hs2⟩, hl2, hx2⟩ := hV
  have base : ACalls Try.prog 38 [.agg [.imm n1 c1 z1 (S.map I), .imm n2 c2 z2 (V.map I)]] [] fun r G =>
      (checkF (S, V) ≠ 0 ∧ r = .tup [.agg [.imm true none 0 [], .imm true none 0 []], I (checkF (S, V))]) ∨ (checkF (S, V) = 0 ∧ ∃ s a fs, r = .tup [.agg [s, a], I 0] ∧ rowO 0 G s 3 1 (S.map I) ∧ rowO 0 G a 38 2 fs ∧ Ents fs (ofE S V V.length)) := by
    apply rcOf_call
    repeat first | refine AWp.seq ?_ | refine AWp.block ?_
    refine AWp.ops ?_
    simp
    repeat first | refine AWp.seq ?_ | refine AWp.block ?_
    refine AWp.ops ?_
    simp
    refine ((rCheck_spec hd').pure (by simp) (by rintro r rfl; simp) _).mono ?_
    rintro r H' ⟨rfl, rfl⟩
    simp
    repeat first | refine AWp.seq ?_ | refine AWp.block ?_
    refine AWp.ops ?_
    simp
    by_cases hc : checkF (S, V) = 0
    case neg =>
      refine AWp.cond (b := true) (by simp [hc]) (fun _ => ?_) (fun h => by cases h)
      repeat first | refine AWp.seq ?_ | refine AWp.block ?_
      refine AWp.ops ?_
      simp
      refine AWp.ret ?_
      simp
      refine retOk.of rfl (.inl ⟨hc, ?_⟩)
      simp
    refine AWp.cond (b := false) (by simp [hc]) (fun h => by cases h) (fun _ => ?_)
    obtain ⟨hcs, hVc⟩ := check_cells hc
    simp only at hcs hVc
    have hVl : V.length ≤ 65536 := by
      unfold checkF at hc
      split at hc
      · rename_i h; exact absurd hc h
      rename_i h
      have h2 : (laidF S).2 = 0 := by simpa using h
      obtain ⟨_, n, hn, hn2⟩ := laid_ok h2
      simp only [hn] at hc
      split at hc
      · cases hc
      · omega
    have hS4 := cells_len hcs
    refine AWp.skip ?_
    simp only [qSeq]
    have q1 : allOneCell 1 (S.map I) = true := by simp
    have q3 : ∀ H, elems 1 H (.imm n1 c1 z1 (S.map I)) = some (S.map I) := fun H => by
      cases n1 with
      | true => have : S = [] := hs1.1 rfl; subst this; simp [elems]
      | false => simp [elems, hs1.2 rfl]
    refine AWp.cutE (σ := Nat × AV × List AObj) (fun q => 1 < q.1 ∧ q.2.2[0]? = some (denO (.agg [.imm n1 c1 z1 (S.map I), .imm n2 c2 z2 (V.map I)])) ∧ q.2.2[1]? = some (cooO (.agg [.imm true none 0 [], .imm true none 0 []])) ∧ q.2.2[q.1]? = some (cooO (.agg [q.2.1, .imm true none 0 []])) ∧ rowO 2 q.2.2 q.2.1 3 1 (S.map I))
      (fun q => [.und, .ptr 0 1 0 0, .ptr 1 1 0 0, I 0, .und, .ptr q.1 1 0 0, .und, .und, .und, .und, .und, .und, .und, .und, .und, .und, .und, .und, .und, .und, .und, .und, .und, .und, .und, .und, .und, .und, .und, .und, .und, .und, .und, .und, .und, .und, .und, .und, .und, .und, .und, .und, .und, .und, .und, .und, .und]) (fun q => q.2.2) ?_ ?_
    · have b1 : S.length * 8 ≤ 140737488355328 := by omega
      have b2 : S.length ≤ 9223372036854775807 := by omega
      rcases Classical.em (S = []) with hS0 | hS0 <;> (first | replace hS0 : (S = []) = True := eq_true hS0 | replace hS0 : (S = []) = False := eq_false hS0)
      ·
        repeat first | refine AWp.seq ?_ | refine AWp.block ?_
        refine AWp.ops ?_
        simp [q3, q1, hS0, b1, b2]
        exact ⟨_, _, _, And.symm ⟨(Weak.slots [1, 2, 3, 5]).to rfl rfl, by omega, rfl, rfl, rfl, .inl ⟨by simp [hS0], rfl⟩⟩⟩
      ·
        repeat first | refine AWp.seq ?_ | refine AWp.block ?_
        refine AWp.ops ?_
        simp [q3, q1, hS0, b1, b2]
        exact ⟨_, _, _, And.symm ⟨(Weak.slots [1, 2, 3, 5]).to rfl rfl, by omega, rfl, rfl, rfl, .inr ⟨2, by omega, by simp, rfl⟩⟩⟩
    rintro ⟨p, r, KB⟩ ⟨hp, b0, b1, b2, hr⟩
    simp only at hp b0 b1 b2 hr ⊢
    have hone := hr.one
    repeat first | refine AWp.seq ?_ | refine AWp.block ?_
    refine AWp.ops ?_
    simp [b0]
    obtain ⟨J, hJ⟩ : ∃ J : Nat → List AV → List AObj → Prop, J = fun i fr H => i ≤ V.length ∧ ∃ (K : List AObj) (a : AV) (fs : List AV), (K[0]? = some (denO (.agg [.imm n1 c1 z1 (S.map I), .imm n2 c2 z2 (V.map I)])) ∧ K[1]? = some (cooO (.agg [.imm true none 0 [], .imm true none 0 []])) ∧ K[p]? = some (cooO (.agg [r, a])) ∧ rowO 2 K r 3 1 (S.map I) ∧ rowO 2 K a 38 2 fs ∧ Ents fs (ofE S V i)) ∧ H = K ∧
      fr = [.und, .ptr 0 1 0 0, .ptr 1 1 0 0, I 0, .und, .ptr p 1 0 0, .und, .und, .und, .und, .und, .und, .und, .und, .und, .und, .und, .und, .und, .und, .und, .imm n2 c2 z2 (V.map I), I V.length, I i, .und, .und, .und, .und, .und, .und, .und, .und, .und, .und, .und, .und, .und, .und, .und, .und, .und, .und, .und, .und, .und, .und, .und] := ⟨_, rfl⟩
    refine AWp.block (AWp.loop J (fun i => V.length - i) 0 (Weak.slots [1, 2, 3, 5, 21, 22, 23]) (by rw [hJ]; exact ⟨by omega, KB, .imm true none 0 [], [], ⟨b0, b1, b2, hr, .inl ⟨rfl, rfl⟩, by simpa [ofE] using Ents.nil⟩, by simp, by simp⟩) ?_)
    intro i fr H hI
    rw [hJ] at hI
    obtain ⟨hi, K, a, fs, hinv, rfl, rfl⟩ := hI
    repeat first | refine AWp.seq ?_ | refine AWp.block ?_
    refine AWp.ops ?_
    simp
    refine AWp.seq (AWp.cond (b := decide (i < V.length)) (by simp <;> omega) ?_ ?_)
    ·
      intro hb
      have hb : i < V.length := by simpa using hb
      refine AWp.skip ?_
      simp only [qSeq]
      obtain ⟨k0, k1, k2, hrr, hra, hfs⟩ := hinv
      have hpl := (List.getElem?_eq_some_iff.1 k2).1
      have hsz := sz_of hs2 hb
      subst hsz
      have hgV : V.getD i 0 = V[i] := by simp [hb]
      have hstep := ofE_succ S V i
      rw [hgV] at hstep
      have hfl := hfs.1
      have hfl2 := ofE_len S V i
      have hwi := wrap_i64 (n := (i : Int) + 1) (by omega) (by omega)
      by_cases hv0 : V[i] = 0
      · rw [if_pos hv0, List.append_nil] at hstep
        repeat first | refine AWp.seq ?_ | refine AWp.block ?_
        refine AWp.ops ?_
        simp [hb]
        repeat first | refine AWp.seq ?_ | refine AWp.block ?_
        refine AWp.ops ?_
        simp [hv0]
        refine AWp.cond (b := false) (by simp [hv0]) (fun h => by cases h) (fun _ => ?_)
        refine AWp.skip ?_
        simp only [qSeq, qBlock]
        repeat first | refine AWp.seq ?_ | refine AWp.block ?_
        refine AWp.ops ?_
        simp [hwi]
        refine ⟨i + 1, _, _, Weak.slots [1, 2, 3, 5, 21, 22, 23], ?_, by omega⟩
        rw [hJ]
        exact ⟨by omega, _, _, _, ⟨k0, k1, k2, hrr, hra, by rw [hstep]; exact hfs⟩, rfl, by simp⟩
      rw [if_neg hv0] at hstep
      have ec : coordF S i = (placeF S i, 0) := by
        rw [coordF, if_neg (by omega), if_neg (by omega)]
      have cp := rCoord_spec (n := (i : Int)) hS' (by omega) (by omega)
      rw [ec] at cp
      have hw := hx2 _ (List.getElem_mem hb)
      obtain ⟨w, hVi⟩ : ∃ w, V[i] = w := ⟨_, rfl⟩
      rw [hVi] at hv0 hstep hw
      repeat first | refine AWp.seq ?_ | refine AWp.block ?_
      refine AWp.ops ?_
      simp [hb, hVi]
      repeat first | refine AWp.seq ?_ | refine AWp.block ?_
      refine AWp.ops ?_
      simp
      refine AWp.cond (b := true) (by simp [hv0]) (fun _ => ?_) (fun h => by cases h)
      repeat first | refine AWp.seq ?_ | refine AWp.block ?_
      refine AWp.ops ?_
      simp [k0]
      refine (cp.pure (by simp) (by rintro r ⟨s, rfl, ⟨nl, c, sz, rfl, _⟩, _⟩; simp) _).mono ?_
      rintro r2 H' ⟨hH', q, rfl, hq⟩
      subst H'
      have hq' := hq
      obtain ⟨⟨n5, c5, z5, rfl, hs5⟩, hl5, hx5⟩ := hq
      simp
      have hsn := hfs.snoc (v := w) hq'
      have w5 : (fs.length + 1) * 32 ≤ 140737488355328 := by omega
      have w6 : fs.length + 1 ≤ 9223372036854775807 := by omega
      have hone2 := hfs.one
      rcases hra with ⟨h0, rfl⟩ | ⟨k, hk, rfl, hkK⟩
      · subst h0
        have gR : ∀ G r, r < H.length → (H ++ G)[r]? = H[r]? := fun G r hr => List.getElem?_append_left (by omega)
        have g2 : ∀ G, (H ++ G)[p]? = some (cooO (.agg [r, .imm true none 0 []])) := fun G => by rw [gR _ _ (by omega)]; exact k2
        repeat first | refine AWp.seq ?_ | refine AWp.block ?_
        refine AWp.ops ?_
        simp [k2, g2, hone]
        repeat first | refine AWp.seq ?_ | refine AWp.block ?_
        refine AWp.ops ?_
        simp [hwi]
        refine ⟨i + 1, _, _, Weak.slots [1, 2, 3, 5, 21, 22, 23], ?_, by omega⟩
        rw [hJ]
        refine ⟨by omega, (H ++ [ensO [.agg [.imm n5 c5 z5 ((placeF S (i : Int)).map I), I w]]]).set p (cooO (.agg [r, .slc H.length 1 0 1 none])), _, _, ⟨by rw [gs_ne (by omega), gR _ _ (by omega)]; exact k0, by rw [gs_ne (by omega), gR _ _ (by omega)]; exact k1, gs_eq (g2 _), (hrr.app _).set (g2 _) (by simp) _, .inr ⟨H.length, by omega, rfl, ?_⟩, by rw [hstep]; exact hsn⟩, rfl, by simp⟩
        rw [gs_ne (by omega), List.getElem?_append_right (by omega), Nat.sub_self]; rfl
      · have hkp : k ≠ p := by
          rintro rfl
          rw [hkK] at k2
          simp at k2
        have g2 : ∀ x, (H.set k x)[p]? = some (cooO (.agg [r, .slc k fs.length 0 fs.length none])) := fun x => by rw [gs_ne (by omega)]; exact k2
        repeat first | refine AWp.seq ?_ | refine AWp.block ?_
        refine AWp.ops ?_
        simp [k2, g2, hone, hkK, w5, w6, hone2]
        repeat first | refine AWp.seq ?_ | refine AWp.block ?_
        refine AWp.ops ?_
        simp [hwi]
        refine ⟨i + 1, _, _, Weak.slots [1, 2, 3, 5, 21, 22, 23], ?_, by omega⟩
        rw [hJ]
        refine ⟨by omega, _, _, _, ⟨by rw [gs_ne (by omega), gs_ne (by omega)]; exact k0, by rw [gs_ne (by omega), gs_ne (by omega)]; exact k1, gs_eq (g2 _), (hrr.set hkK (by simp) _).set (g2 _) (by simp) _, .inr ⟨k, by omega, ?_, ?_⟩, by rw [hstep]; exact hsn⟩, rfl, by simp⟩
        · simp
        · rw [gs_ne (by omega), gs_eq hkK]
    ·
      intro hb
      have hb : ¬ i < V.length := by simpa using hb
      refine AWp.exit ?_
      simp [qSeq, qBlock]
      obtain ⟨k0, k1, k2, hrr, hra, hfs⟩ := hinv
      have hpl := (List.getElem?_eq_some_iff.1 k2).1
      have hi2 : i = V.length := by omega
      subst hi2
      have hone2 := hra.one
      have g1 : ∀ x, (H.set 1 x)[1]? = some x := fun x => gs_eq k1
      repeat first | refine AWp.seq ?_ | refine AWp.block ?_
      refine AWp.ops ?_
      simp [k2, k1, hone, hone2]
      refine AWp.ret ?_
      simp
      refine retOk.of (vs := [.agg [r, a], I 0]) (by simp [g1]) ?_
      refine .inr ⟨hc, r, a, by simp, (hrr.set k1 (by simp) _).mono (by omega), fs, ?_, hfs⟩
      rcases hra with h | ⟨k, hk, h1, h2⟩
      · exact .inl h
      · exact .inr ⟨k, by omega, h1, by rw [gs_ne (by omega)]; exact h2⟩
  refine (base.frozen 6).mono ?_
  rintro q H' ⟨rfl, r, G, ⟨h1, rfl⟩ | ⟨h1, s, a, fs, rfl, hs, ha, hf⟩, rfl⟩
  · refine ⟨rfl, .agg [.imm true none 0 [], .imm true none 0 []], by simp [ofF, h1], ?_⟩
    rw [ofF, if_pos h1]
    exact ⟨_, _, rfl, ISl.nil, EnL.nil⟩
  · refine ⟨rfl, Go.Fw.frz G 0 5 false (.agg [s, a]), by simp [ofF, h1], ?_⟩
    rw [ofF, if_neg (by omega)]
    refine ⟨_, _, by simp only [frz_agg, List.map_cons, List.map_nil]; rfl, hs.ints ⟨hl1, hx1⟩ 3, ?_⟩
    rcases ha.read 3 with ⟨e1, e2⟩ | e2
    · rw [e2]
      subst e1
      have : ofE S V V.length = [] := List.length_eq_zero_iff.1 (by simpa using hf.1.symm)
      simp only [this]
      exact EnL.nil
    · rw [e2]
      refine ⟨false, none, 2, _, rfl, by simp, by simp, ?_⟩
      rw [hf.frz]; exact hf
end Go.Fw
