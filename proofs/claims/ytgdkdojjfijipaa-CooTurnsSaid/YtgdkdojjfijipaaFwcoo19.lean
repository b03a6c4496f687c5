import Derived.Test.YtgdkdojjfijipaaFwcoord1
import Derived.Test.YtgdkdojjfijipaaFwcoo17
namespace Go.Fw
open Go Go.RowKit Go.Proofs
set_option maxRecDepth 100000
set_option linter.unusedSimpArgs false
set_option linter.unusedVariables false

theorem Clone_own {a : AV} {xs : List Int} (ha : ISl a xs) (hl : xs.length ≤ 1000000) : ACalls Try.prog 65 [a] [] fun r H' => H' = [] ∧ ISl r xs := by
  refine ((Clone_at ha hl []).frozen 3).mono ?_
  rintro q H' ⟨rfl, r, K, ⟨G, rfl, hr⟩, rfl⟩
  exact ⟨rfl, hr.read ha.2 2⟩
/-- The entries of the first numbers. -/
def ofE (S V : List Int) (i : Nat) : List (List Int × Int) := ((List.range i).filter fun n => decide (V.getD n 0 ≠ 0)).map fun (n : Nat) => (placeF S n, V.getD n 0)
theorem ofE_succ (S V : List Int) (i : Nat) : ofE S V (i + 1) = ofE S V i ++ if V.getD i 0 = 0 then [] else [(placeF S i, V.getD i 0)] := by
  simp only [ofE, List.range_succ, List.filter_append, List.map_append]
  congr 1
  by_cases h : V.getD i 0 = 0
  · rw [if_pos h, List.filter_cons_of_neg (by simp only [ne_eq, decide_not, h, decide_true, Bool.not_true]; simp)]; rfl
  · rw [if_neg h, List.filter_cons_of_pos (by simp only [ne_eq, h, not_false_eq_true, decide_true])]; rfl
theorem ofE_len (S V : List Int) : ∀ i, (ofE S V i).length ≤ i := fun i => by
  have := List.length_filter_le (fun n => decide (V.getD n 0 ≠ 0)) (List.range i)
  simpa [ofE] using this
def ofF (D : List Int × List Int) : (List Int × List (List Int × Int)) × Int :=
  if checkF D ≠ 0 then (([], []), checkF D) else ((D.1, ofE D.1 D.2 D.2.length), 0)

def cOf_23 : AC := (.seq (.ops [⟨(some 50), none, (.k (.ld 2 true (.t 5)))⟩, ⟨none, none, (.k (.st 2 (.t 2) (.t 50)))⟩, ⟨(some 3), none, (.k (.mov (.c (.sc (.int .i64 0)))))⟩]) .ret)
def cOf_22 : AC := (.seq (.ops [⟨(some 39), none, (.k (.mk [(.imm true none 0 []), (.imm true none 0 [])] []))⟩, ⟨(some 40), none, (.k (.mov (.t 9)))⟩, ⟨none, none, (.k (.st 2 (.t 2) (.t 39)))⟩, ⟨(some 3), none, (.k (.mov (.t 40)))⟩]) .ret)
def cOf_21 : AC := (.cond (.t 38) cOf_22 .skip)
def cOf_20 : AC := (.seq (.ops [⟨(some 37), none, (.k (.mov (.t 9)))⟩, ⟨(some 38), none, (.k (.bin .neq (.t 37) (.c (.sc (.int .i64 0)))))⟩]) cOf_21)
def cOf_19 : AC := (.seq cOf_20 (.ops [⟨(some 41), none, (.k (.fad 1 (.t 5)))⟩, ⟨(some 42), none, (.k (.ld 1 false (.t 41)))⟩, ⟨(some 43), none, (.k (.mov (.t 8)))⟩, ⟨(some 44), none, (.k (.mov (.t 7)))⟩, ⟨(some 45), none, (.k (.mk [(.imm true none 0 []), (.sc (.int .i64 0))] [(0, (1, (.t 43))), (1, (1, (.t 44)))]))⟩, ⟨(some 46), none, (.k (.lit 2 [(.t 45)]))⟩, ⟨(some 47), none, (.k (.app 38 2 32 (.t 42) (.t 46)))⟩, ⟨(some 48), none, (.k (.fad 1 (.t 5)))⟩, ⟨none, none, (.k (.st 1 (.t 48) (.t 47)))⟩]))
def cOf_18 : AC := (.seq (.ops [⟨(some 31), none, (.k (.fad 0 (.t 1)))⟩, ⟨(some 32), none, (.k (.ld 1 false (.t 31)))⟩, ⟨(some 33), none, (.k (.mov (.t 6)))⟩, ⟨(some 34), none, (.call false (.c (.fn (.func 66) [] [])) [(.t 32), (.t 33)])⟩, ⟨(some 30), none, (.k (.mov (.t 34)))⟩, ⟨(some 35), none, (.k (.ext (.t 30) 0))⟩, ⟨(some 36), none, (.k (.ext (.t 30) 1))⟩, ⟨(some 8), none, (.k (.mov (.t 35)))⟩, ⟨(some 9), none, (.k (.mov (.t 36)))⟩]) cOf_19)
def cOf_17 : AC := (.seq (.ops [⟨(some 28), none, (.k (.mov (.t 7)))⟩, ⟨(some 29), none, (.k (.bin .eql (.t 28) (.c (.sc (.int .i64 0)))))⟩]) (.cond (.t 29) (.exit 1) .skip))
def cOf_16 : AC := (.seq cOf_17 cOf_18)
def cOf_15 : AC := (.seq (.ops [⟨(some 25), none, (.k (.mov (.t 23)))⟩, ⟨(some 26), none, (.k (.iad 1 (.t 21) (.t 23)))⟩, ⟨(some 27), none, (.k (.ld 1 false (.t 26)))⟩, ⟨(some 6), none, (.k (.mov (.t 25)))⟩, ⟨(some 7), none, (.k (.mov (.t 27)))⟩]) cOf_16)
def cOf_14 : AC := (.block 1 cOf_15)
def cOf_13 : AC := (.seq cOf_14 (.ops [⟨(some 49), none, (.k (.bin .add (.t 23) (.c (.sc (.int .i64 1)))))⟩, ⟨(some 23), none, (.k (.mov (.t 49)))⟩]))
def cOf_12 : AC := (.seq (.cond (.t 24) .skip (.exit 0)) cOf_13)
def cOf_11 : AC := (.seq (.ops [⟨(some 24), none, (.k (.bin .lss (.t 23) (.t 22)))⟩]) cOf_12)
def cOf_10 : AC := (.loop cOf_11)
def cOf_9 : AC := (.block 0 cOf_10)
def cOf_8 : AC := (.seq (.ops [⟨(some 20), none, (.k (.fad 1 (.t 1)))⟩, ⟨(some 21), none, (.k (.ld 1 false (.t 20)))⟩, ⟨(some 22), none, (.k (.len (.t 21)))⟩, ⟨(some 23), none, (.k (.mov (.c (.sc (.int .i64 0)))))⟩]) cOf_9)
def cOf_7 : AC := (.seq cOf_8 cOf_23)
def cOf_6 : AC := (.seq (.ops [⟨(some 16), none, (.k (.fad 0 (.t 1)))⟩, ⟨(some 17), none, (.k (.ld 1 false (.t 16)))⟩, ⟨(some 18), none, (.call false (.c (.fn (.func 65) [] [])) [(.t 17)])⟩, ⟨(some 19), none, (.k (.mk [(.imm true none 0 []), (.imm true none 0 [])] [(0, (1, (.t 18)))]))⟩, ⟨(some 5), none, (.k (.new 25 2 (.c (.agg [(.imm true none 0 []), (.imm true none 0 [])]))))⟩, ⟨none, none, (.k (.st 2 (.t 5) (.t 19)))⟩]) cOf_7)
def cOf_5 : AC := (.seq (.ops [⟨(some 14), none, (.k (.mk [(.imm true none 0 []), (.imm true none 0 [])] []))⟩, ⟨(some 15), none, (.k (.mov (.t 4)))⟩, ⟨none, none, (.k (.st 2 (.t 2) (.t 14)))⟩, ⟨(some 3), none, (.k (.mov (.t 15)))⟩]) .ret)
def cOf_4 : AC := (.cond (.t 13) cOf_5 .skip)
def cOf_3 : AC := (.seq (.ops [⟨(some 12), none, (.k (.mov (.t 4)))⟩, ⟨(some 13), none, (.k (.bin .neq (.t 12) (.c (.sc (.int .i64 0)))))⟩]) cOf_4)
def cOf_2 : AC := (.seq (.ops [⟨(some 10), none, (.k (.ld 2 true (.t 1)))⟩, ⟨(some 11), none, (.call false (.c (.fn (.func 60) [] [])) [(.t 10)])⟩, ⟨(some 4), none, (.k (.mov (.t 11)))⟩]) cOf_3)
def cOf_1 : AC := (.seq cOf_2 cOf_6)
def cOf_ac : AC := (.seq (.ops [⟨(some 1), none, (.k (.new 49 2 (.t 0)))⟩, ⟨(some 2), none, (.k (.new 25 2 (.c (.agg [(.imm true none 0 []), (.imm true none 0 [])]))))⟩, ⟨(some 3), none, (.k (.mov (.c (.sc (.int .i64 0)))))⟩]) cOf_1)
theorem cOf_call {args : List AV} {H : List AObj} {R : AV → List AObj → Prop} (h : AWp Try.prog [] H.length cOf_ac (bodyQ H.length [(.cell 2 2 true), (.t 3)] R) (args ++ List.replicate (51 - args.length) .und) H) : ACalls Try.prog 37 args H R :=
  ACalls.of_fn Try.func37 rfl (by kernel_rfl) rfl Try.ntmps37 h

set_option maxHeartbeats 8000000 in
theorem cOf_spec {d : AV} {D : List Int × List Int} (hd : Dn d D) : ACalls Try.prog 37 [d] [] fun r H' => H' = [] ∧ ∃ q, r = .tup [q, I (ofF D).2] ∧ Coo q (ofF D).1 := by
  have hd' := hd
  obtain ⟨S, V⟩ := D
  obtain ⟨s, v, rfl, hS, hV⟩ := hd
  simp only at hS hV
  have hS' := hS
  obtain ⟨⟨n1, c1, z1, rfl, hs1⟩, hl1, hx1⟩ := hS
  obtain ⟨⟨n2, c2, z2, rfl, hs2⟩, hl2, hx2⟩ := hV
  have base : ACalls Try.prog 37 [.agg [.imm n1 c1 z1 (S.map I), .imm n2 c2 z2 (V.map I)]] [] fun r G =>
      (checkF (S, V) ≠ 0 ∧ r = .tup [.agg [.imm true none 0 [], .imm true none 0 []], I (checkF (S, V))]) ∨ (checkF (S, V) = 0 ∧ ∃ s a fs, r = .tup [.agg [s, a], I 0] ∧ ISl s S ∧ rowO 0 G a 38 2 fs ∧ Ents fs (ofE S V V.length)) := by
    apply cOf_call
    repeat first | refine AWp.seq ?_ | refine AWp.block ?_
    refine AWp.ops ?_
    simp
    repeat first | refine AWp.seq ?_ | refine AWp.block ?_
    refine AWp.ops ?_
    simp
    refine ((bCheck_spec hd').pure (by simp) (by rintro r rfl; simp) _).mono ?_
    rintro r H' ⟨rfl, rfl⟩
    simp
    repeat first | refine AWp.seq ?_ | refine AWp.block ?_
    refine AWp.ops ?_
    simp
    by_cases hc : checkF (S, V) = 0
    case neg =>
      refine AWp.cond (b := true) (by simp [hc]) (fun _ => ?_) (fun h => by cases h)
      repeat first | refine AWp.seq ?_ | refine AWp.block ?_
      refine AWp.ops ?_
      simp
      refine AWp.ret ?_
      simp
      refine retOk.of rfl (.inl ⟨hc, ?_⟩)
      simp
    refine AWp.cond (b := false) (by simp [hc]) (fun h => by cases h) (fun _ => ?_)
    obtain ⟨hcs, hVc⟩ := check_cells hc
    simp only at hcs hVc
    have hVl : V.length ≤ 65536 := by
      unfold checkF at hc
      split at hc
      · rename_i h; exact absurd hc h
      rename_i h
      have h2 : (laidF S).2 = 0 := by simpa using h
      obtain ⟨_, n, hn, hn2⟩ := laid_ok h2
      simp only [hn] at hc
      split at hc
      · cases hc
      · omega
    have hS4 := cells_len hcs
    refine AWp.skip ?_
    simp only [qSeq]
    repeat first | refine AWp.seq ?_ | refine AWp.block ?_
    refine AWp.ops ?_
    simp
    refine ((Clone_own hS' (by omega)).pure (by simp) (by rintro r ⟨⟨nl, c, sz, rfl, _⟩, _⟩; simp) _).mono ?_
    rintro r H' ⟨rfl, hr⟩
    have hone : oneC r = true := by obtain ⟨⟨_, _, _, rfl, _⟩, _⟩ := hr; rfl
    have hcell : cellsOf r = [r] := by obtain ⟨⟨_, _, _, rfl, _⟩, _⟩ := hr; rfl
    simp only [cellsOf] at hcell
    simp [hone, hcell]
    have hr' := hr
    obtain ⟨KB, hKB⟩ : ∃ K : List AObj, K = [denO (.agg [.imm n1 c1 z1 (S.map I), .imm n2 c2 z2 (V.map I)]), cooO (.agg [.imm true none 0 [], .imm true none 0 []]), cooO (.agg [r, .imm true none 0 []])] := ⟨_, rfl⟩
    repeat first | refine AWp.seq ?_ | refine AWp.block ?_
    refine AWp.ops ?_
    simp
    rw [← hKB]
    obtain ⟨J, hJ⟩ : ∃ J : Nat → List AV → List AObj → Prop, J = fun i fr H => i ≤ V.length ∧ ∃ (K : List AObj) (a : AV) (fs : List AV), (K[0]? = some (denO (.agg [.imm n1 c1 z1 (S.map I), .imm n2 c2 z2 (V.map I)])) ∧ K[1]? = some (cooO (.agg [.imm true none 0 [], .imm true none 0 []])) ∧ K[2]? = some (cooO (.agg [r, a])) ∧ rowO 3 K a 38 2 fs ∧ Ents fs (ofE S V i)) ∧ H = K ∧
      fr = [.und, .ptr 0 1 0 0, .ptr 1 1 0 0, I 0, .und, .ptr 2 1 0 0, .und, .und, .und, .und, .und, .und, .und, .und, .und, .und, .und, .und, .und, .und, .und, .imm n2 c2 z2 (V.map I), I V.length, I i, .und, .und, .und, .und, .und, .und, .und, .und, .und, .und, .und, .und, .und, .und, .und, .und, .und, .und, .und, .und, .und, .und, .und, .und, .und, .und, .und] := ⟨_, rfl⟩
    refine AWp.block (AWp.loop J (fun i => V.length - i) 0 (Weak.slots [1, 2, 3, 5, 21, 22, 23]) (by rw [hJ]; exact ⟨by omega, KB, .imm true none 0 [], [], ⟨by rw [hKB]; rfl, by rw [hKB]; rfl, by rw [hKB]; rfl, .inl ⟨rfl, rfl⟩, by simpa [ofE] using Ents.nil⟩, by simp, by simp⟩) ?_)
    intro i fr H hI
    rw [hJ] at hI
    obtain ⟨hi, K, a, fs, hinv, rfl, rfl⟩ := hI
    repeat first | refine AWp.seq ?_ | refine AWp.block ?_
    refine AWp.ops ?_
    simp
    refine AWp.seq (AWp.cond (b := decide (i < V.length)) (by simp <;> omega) ?_ ?_)
    ·
      intro hb
      have hb : i < V.length := by simpa using hb
      refine AWp.skip ?_
      simp only [qSeq]
      obtain ⟨k0, k1, k2, hra, hfs⟩ := hinv
      have hsz := sz_of hs2 hb
      subst hsz
      have hgV : V.getD i 0 = V[i] := by simp [hb]
      have hstep := ofE_succ S V i
      rw [hgV] at hstep
      have hfl := hfs.1
      have hfl2 := ofE_len S V i
      have hwi := wrap_i64 (n := (i : Int) + 1) (by omega) (by omega)
      by_cases hv0 : V[i] = 0
      · rw [if_pos hv0, List.append_nil] at hstep
        repeat first | refine AWp.seq ?_ | refine AWp.block ?_
        refine AWp.ops ?_
        simp [hb]
        repeat first | refine AWp.seq ?_ | refine AWp.block ?_
        refine AWp.ops ?_
        simp [hv0]
        refine AWp.cond (b := true) (by simp [hv0]) (fun _ => ?_) (fun h => by cases h)
        refine AWp.exit ?_
        simp [qSeq, qBlock]
        repeat first | refine AWp.seq ?_ | refine AWp.block ?_
        refine AWp.ops ?_
        simp [hwi]
        refine ⟨i + 1, _, _, Weak.slots [1, 2, 3, 5, 21, 22, 23], ?_, by omega⟩
        rw [hJ]
        exact ⟨by omega, _, _, _, ⟨k0, k1, k2, hra, by rw [hstep]; exact hfs⟩, rfl, by simp⟩
      rw [if_neg hv0] at hstep
      have ec : coordF S i = (placeF S i, 0) := by
        rw [coordF, if_neg (by omega), if_neg (by omega)]
      have cp := Coord_pure (n := (i : Int)) hS' (by omega) (by omega)
      rw [ec] at cp
      have hw := hx2 _ (List.getElem_mem hb)
      obtain ⟨w, hVi⟩ : ∃ w, V[i] = w := ⟨_, rfl⟩
      rw [hVi] at hv0 hstep hw
      repeat first | refine AWp.seq ?_ | refine AWp.block ?_
      refine AWp.ops ?_
      simp [hb, hVi]
      repeat first | refine AWp.seq ?_ | refine AWp.block ?_
      refine AWp.ops ?_
      simp
      refine AWp.cond (b := false) (by simp [hv0]) (fun h => by cases h) (fun _ => ?_)
      refine AWp.skip ?_
      simp only [qSeq]
      repeat first | refine AWp.seq ?_ | refine AWp.block ?_
      refine AWp.ops ?_
      simp [k0]
      refine (cp.pure (by simp) (by rintro r ⟨s, rfl, ⟨nl, c, sz, rfl, _⟩, _⟩; simp) _).mono ?_
      rintro r2 H' ⟨hH', q, rfl, hq⟩
      subst H'
      have hq' := hq
      obtain ⟨⟨n5, c5, z5, rfl, hs5⟩, hl5, hx5⟩ := hq
      simp
      repeat first | refine AWp.seq ?_ | refine AWp.block ?_
      refine AWp.ops ?_
      simp
      refine AWp.cond (b := false) (by simp) (fun h => by cases h) (fun _ => ?_)
      refine AWp.skip ?_
      simp only [qSeq]
      have hsn := hfs.snoc (v := w) hq'
      have w5 : (fs.length + 1) * 32 ≤ 140737488355328 := by omega
      have w6 : fs.length + 1 ≤ 9223372036854775807 := by omega
      have hone2 := hfs.one
      rcases hra with ⟨h0, rfl⟩ | ⟨k, hk, rfl, hkK⟩
      · subst h0
        have gR : ∀ G r, r < H.length → (H ++ G)[r]? = H[r]? := fun G r hr => List.getElem?_append_left (by omega)
        have hH2 := (List.getElem?_eq_some_iff.1 k2).1
        have g2 : ∀ G, (H ++ G)[2]? = some (cooO (.agg [r, .imm true none 0 []])) := fun G => by rw [gR _ _ (by omega)]; exact k2
        repeat first | refine AWp.seq ?_ | refine AWp.block ?_
        refine AWp.ops ?_
        simp [k2, g2, hone]
        repeat first | refine AWp.seq ?_ | refine AWp.block ?_
        refine AWp.ops ?_
        simp [hwi]
        refine ⟨i + 1, _, _, Weak.slots [1, 2, 3, 5, 21, 22, 23], ?_, by omega⟩
        rw [hJ]
        refine ⟨by omega, (H ++ [ensO [.agg [.imm n5 c5 z5 ((placeF S (i : Int)).map I), I w]]]).set 2 (cooO (.agg [r, .slc H.length 1 0 1 none])), _, _, ⟨by rw [gs_ne (by omega), gR _ _ (by omega)]; exact k0, by rw [gs_ne (by omega), gR _ _ (by omega)]; exact k1, gs_eq (g2 _), .inr ⟨H.length, by omega, rfl, ?_⟩, by rw [hstep]; exact hsn⟩, rfl, by simp⟩
        rw [gs_ne (by omega), List.getElem?_append_right (by omega), Nat.sub_self]; rfl
      · have g2 : ∀ x, (H.set k x)[2]? = some (cooO (.agg [r, .slc k fs.length 0 fs.length none])) := fun x => by rw [gs_ne (by omega)]; exact k2
        repeat first | refine AWp.seq ?_ | refine AWp.block ?_
        refine AWp.ops ?_
        simp [k2, g2, hone, hkK, w5, w6, hone2]
        repeat first | refine AWp.seq ?_ | refine AWp.block ?_
        refine AWp.ops ?_
        simp [hwi]
        refine ⟨i + 1, _, _, Weak.slots [1, 2, 3, 5, 21, 22, 23], ?_, by omega⟩
        rw [hJ]
        refine ⟨by omega, _, _, _, ⟨by rw [gs_ne (by omega), gs_ne (by omega)]; exact k0, by rw [gs_ne (by omega), gs_ne (by omega)]; exact k1, gs_eq (g2 _), .inr ⟨k, by omega, ?_, ?_⟩, by rw [hstep]; exact hsn⟩, rfl, by simp⟩
        · simp
        · rw [gs_ne (by omega), gs_eq hkK]
    ·
      intro hb
      have hb : ¬ i < V.length := by simpa using hb
      refine AWp.exit ?_
      simp [qSeq, qBlock]
      obtain ⟨k0, k1, k2, hra, hfs⟩ := hinv
      have hi2 : i = V.length := by omega
      subst hi2
      have hone2 := hra.one
      have g1 : ∀ x, (H.set 1 x)[1]? = some x := fun x => gs_eq k1
      repeat first | refine AWp.seq ?_ | refine AWp.block ?_
      refine AWp.ops ?_
      simp [k2, k1, hone, hone2]
      refine AWp.ret ?_
      simp
      refine retOk.of (vs := [.agg [r, a], I 0]) (by simp [g1]) ?_
      refine .inr ⟨hc, r, a, by simp, hr', fs, ?_, hfs⟩
      rcases hra with h | ⟨k, hk, h1, h2⟩
      · exact .inl h
      · exact .inr ⟨k, by omega, h1, by rw [gs_ne (by omega)]; exact h2⟩
  refine (base.frozen 6).mono ?_
  rintro q H' ⟨rfl, r, G, ⟨h1, rfl⟩ | ⟨h1, s, a, fs, rfl, hs, ha, hf⟩, rfl⟩
  · refine ⟨rfl, .agg [.imm true none 0 [], .imm true none 0 []], by simp [ofF, h1], ?_⟩
    rw [ofF, if_pos h1]
    exact ⟨_, _, rfl, ISl.nil, EnL.nil⟩
  · refine ⟨rfl, Go.Fw.frz G 0 5 false (.agg [s, a]), by simp [ofF, h1], ?_⟩
    rw [ofF, if_neg (by omega)]
    exact ha.coo hs hf 1
end Go.Fw
