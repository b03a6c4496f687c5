import Derived.Test.YthipbeffhfdamaaFwlevel4
namespace Go.Fw
open Go Go.RowKit Go.Proofs
set_option maxRecDepth 100000
set_option linter.unusedSimpArgs false
set_option linter.unusedVariables false

/-- A level with the values of its lists. -/
structure LvA where
  lv : Lv
  p : AV
  q : AV
def lvV (x : LvA) : AV := .agg [I x.lv.k, I x.lv.sz, x.p, x.q]
/-- A slice of levels. -/
def Ls (a : AV) (xs : List LvA) : Prop :=
  (∃ nl c sz, a = .imm nl c sz (xs.map lvV) ∧ ((nl = true → xs = []) ∧ (nl = false → sz = 4))) ∧ xs.length ≤ 9223372036854775807 ∧ ∀ x ∈ xs, LvOk x.lv x.p x.q
theorem sz4_of {nl : Bool} {xs : List LvA} {sz i : Nat} (hs : (nl = true → xs = []) ∧ (nl = false → sz = 4)) (h : i < xs.length) : sz = 4 := by
  cases nl with
  | true => have := hs.1 rfl; subst this; simp at h
  | false => exact hs.2 rfl
theorem lv_get {xs : List LvA} {i : Nat} (h : i < xs.length) : (xs.map lvV)[i]? = some (.agg [I xs[i].lv.k, I xs[i].lv.sz, xs[i].p, xs[i].q]) := by
  rw [List.getElem?_map, List.getElem?_eq_getElem h]; rfl
abbrev tnO (a : AV) : AObj := ⟨27, 4, [a], true, none⟩

/-- How many each level has below, or what is wrong. -/
def cntGo : List LvA → Nat → Except Int (List Int)
  | [], _ => .ok []
  | x :: r, n => if lvCheck x.lv n = 0 then (cntGo r (lvBelow x.lv n).toNat).map (lvBelow x.lv n :: ·) else .error (lvCheck x.lv n)
def cntF (xs : List LvA) : List Int × Int :=
  match cntGo xs 1 with
  | .ok l => (l, 0)
  | .error e => ([], e)
theorem lvCheck_range (l : Lv) (n : Nat) : 0 ≤ lvCheck l n ∧ lvCheck l n ≤ 3 := by
  unfold lvCheck
  split
  · omega
  split
  · omega
  split
  · omega
  split <;> omega

theorem exMap_nil (o : Except Int (List Int)) : o = o.map ([] ++ ·) := by cases o <;> simp [Except.map]

def counted_16 : AC := (.seq (.ops [⟨(some 28), none, (.k (.mov (.t 2)))⟩, ⟨(some 2), none, (.k (.mov (.t 28)))⟩, ⟨(some 3), none, (.k (.mov (.c (.sc (.int .i64 0)))))⟩]) .ret)
def counted_15 : AC := (.seq (.ops [⟨(some 22), none, (.k (.mov (.t 3)))⟩, ⟨(some 2), none, (.k (.mov (.c (.imm true none 0 []))))⟩, ⟨(some 3), none, (.k (.mov (.t 22)))⟩]) .ret)
def counted_14 : AC := (.cond (.t 21) counted_15 .skip)
def counted_13 : AC := (.seq (.ops [⟨(some 20), none, (.k (.mov (.t 3)))⟩, ⟨(some 21), none, (.k (.bin .neq (.t 20) (.c (.sc (.int .i64 0)))))⟩]) counted_14)
def counted_12 : AC := (.seq (.ops [⟨(some 15), none, (.k (.ld 4 true (.t 6)))⟩, ⟨(some 16), none, (.k (.mov (.t 4)))⟩, ⟨(some 17), none, (.call false (.c (.fn (.func 69) [] [])) [(.t 15), (.t 16)])⟩, ⟨(some 14), none, (.k (.mov (.t 17)))⟩, ⟨(some 18), none, (.k (.ext (.t 14) 0))⟩, ⟨(some 19), none, (.k (.ext (.t 14) 1))⟩, ⟨(some 4), none, (.k (.mov (.t 18)))⟩, ⟨(some 3), none, (.k (.mov (.t 19)))⟩]) counted_13)
def counted_11 : AC := (.seq counted_12 (.ops [⟨(some 23), none, (.k (.mov (.t 2)))⟩, ⟨(some 24), none, (.k (.mov (.t 4)))⟩, ⟨(some 25), none, (.k (.lit 1 [(.t 24)]))⟩, ⟨(some 26), none, (.k (.app 3 1 8 (.t 23) (.t 25)))⟩, ⟨(some 2), none, (.k (.mov (.t 26)))⟩]))
def counted_10 : AC := (.seq (.ops [⟨(some 12), none, (.k (.iad 4 (.t 8) (.t 10)))⟩, ⟨(some 13), none, (.k (.ld 4 true (.t 12)))⟩, ⟨(some 6), none, (.k (.new 34 4 (.c (.agg [(.sc (.int .i64 0)), (.sc (.int .i64 0)), (.imm true none 0 []), (.imm true none 0 [])]))))⟩, ⟨none, none, (.k (.st 4 (.t 6) (.t 13)))⟩]) counted_11)
def counted_9 : AC := (.block 1 counted_10)
def counted_8 : AC := (.seq counted_9 (.ops [⟨(some 27), none, (.k (.bin .add (.t 10) (.c (.sc (.int .i64 1)))))⟩, ⟨(some 10), none, (.k (.mov (.t 27)))⟩]))
def counted_7 : AC := (.seq (.cond (.t 11) .skip (.exit 0)) counted_8)
def counted_6 : AC := (.seq (.ops [⟨(some 11), none, (.k (.bin .lss (.t 10) (.t 9)))⟩]) counted_7)
def counted_5 : AC := (.loop counted_6)
def counted_4 : AC := (.block 0 counted_5)
def counted_3 : AC := (.seq (.ops [⟨(some 7), none, (.k (.fad 2 (.t 1)))⟩, ⟨(some 8), none, (.k (.ld 1 false (.t 7)))⟩, ⟨(some 9), none, (.k (.len (.t 8)))⟩, ⟨(some 10), none, (.k (.mov (.c (.sc (.int .i64 0)))))⟩]) counted_4)
def counted_2 : AC := (.seq counted_3 counted_16)
def counted_1 : AC := (.seq (.ops [⟨(some 4), none, (.k (.mov (.c (.sc (.int .i64 1)))))⟩]) counted_2)
def counted_ac : AC := (.seq (.ops [⟨(some 1), none, (.k (.new 27 4 (.t 0)))⟩, ⟨(some 2), none, (.k (.mov (.c (.imm true none 0 []))))⟩, ⟨(some 3), none, (.k (.mov (.c (.sc (.int .i64 0)))))⟩]) counted_1)
theorem counted_call {args : List AV} {H : List AObj} {R : AV → List AObj → Prop} (h : AWp Try.prog [] H.length counted_ac (bodyQ H.length [(.t 2), (.t 3)] R) (args ++ List.replicate (29 - args.length) .und) H) : ACalls Try.prog 38 args H R :=
  ACalls.of_fn Try.func38 rfl (by kernel_rfl) rfl Try.ntmps38 h

set_option maxHeartbeats 4000000 in
theorem counted_spec {sh f l v : AV} {S V : List Int} {F : List (Int × Int × Int)} {xs : List LvA} (hS : ISl sh S) (hF : Sp f F) (hl : Ls l xs) (hV : ISl v V) (hn : xs.length ≤ 1000) : ACalls Try.prog 38 [.agg [sh, f, l, v]] [] fun r H' => H' = [] ∧ ∃ o, r = .tup [o, I (cntF xs).2] ∧ ISl o (cntF xs).1 := by
  have hl' := hl
  obtain ⟨⟨nl, c, sz, rfl, hs⟩, hlen, hx⟩ := hl
  obtain ⟨⟨nl1, c1, sz1, rfl, hs1⟩, hlen1, hx1⟩ := hS
  obtain ⟨⟨nl2, c2, sz2, rfl, hs2⟩, hlen2, hx2⟩ := hF
  obtain ⟨⟨nl3, c3, sz3, rfl, hs3⟩, hlen3, hx3⟩ := hV
  have base : ACalls Try.prog 38 [.agg [.imm nl1 c1 sz1 (S.map I), .imm nl2 c2 sz2 (F.map specV), .imm nl c sz (xs.map lvV), .imm nl3 c3 sz3 (V.map I)]] [] fun r G => (r = .tup [.imm true none 0 [], I (cntF xs).2] ∧ (cntF xs).1 = []) ∨ ((cntF xs).2 = 0 ∧ InI (cntF xs).1 ∧ ∃ vr, (vr = some true → (cntF xs).1 = []) ∧ vr ≠ some false ∧ r = .tup [.slc 1 (cntF xs).1.length 0 (cntF xs).1.length none, I 0] ∧ G[1]? = some ⟨3, 1, (cntF xs).1.map I, true, vr⟩) := by
    apply counted_call
    repeat first | refine AWp.seq ?_ | refine AWp.block ?_
    refine AWp.ops ?_
    simp
    refine AWp.weak (Weak.own 2 3 1 (by omega) none 0 (by simp)) ?_
    simp
    repeat first | refine AWp.seq ?_ | refine AWp.block ?_
    refine AWp.ops ?_
    simp
    repeat first | refine AWp.seq ?_ | refine AWp.block ?_
    refine AWp.ops ?_
    simp
    obtain ⟨J, hJ⟩ : ∃ J : Nat → List AV → List AObj → Prop, J = fun i fr H => i ≤ xs.length ∧ ∃ (ws : List Int) (vr : Option Bool) (n : Nat), (((ws.length = i ∧ ∀ w ∈ ws, 0 ≤ w ∧ w < 4611686018427387904) ∧ (vr = some true → ws = []) ∧ vr ≠ some false) ∧ n ≤ 1048576 ∧ cntGo xs 1 = (cntGo (xs.drop i) n).map (ws ++ ·)) ∧ H = [tnO (.agg [.imm nl1 c1 sz1 (S.map I), .imm nl2 c2 sz2 (F.map specV), .imm nl c sz (xs.map lvV), .imm nl3 c3 sz3 (V.map I)]), ⟨3, 1, ws.map I, true, vr⟩] ∧
      fr = [.und, .ptr 0 1 0 0, .slc 1 ws.length 0 ws.length none, I 0, I n, .und, .und, .und, .imm nl c sz (xs.map lvV), I xs.length, I i, .und, .und, .und, .und, .und, .und, .und, .und, .und, .und, .und, .und, .und, .und, .und, .und, .und, .und] := ⟨_, rfl⟩
    refine AWp.block (AWp.loop J (fun i => xs.length - i) 0 (Weak.slots [1, 2, 3, 4, 8, 9, 10]) (by rw [hJ]; exact ⟨by omega, [], some true, 1, ⟨⟨⟨rfl, by simp⟩, by simp, by simp⟩, by omega, exMap_nil _⟩, by simp, by simp⟩) ?_)
    intro i fr H hI
    rw [hJ] at hI
    obtain ⟨hi, ws, vr, n, hinv, rfl, rfl⟩ := hI
    repeat first | refine AWp.seq ?_ | refine AWp.block ?_
    refine AWp.ops ?_
    simp
    refine AWp.seq (AWp.cond (b := decide (i < xs.length)) (by simp <;> omega) ?_ ?_)
    ·
      intro hb
      have hb : i < xs.length := by simpa using hb
      refine AWp.skip ?_
      simp only [qSeq]
      obtain ⟨⟨⟨hwl, hwv⟩, hv1, hv2⟩, hn', hgo⟩ := hinv
      have hsz4 := sz4_of hs hb
      subst hsz4
      have hgs := lv_get hb
      have hok := hx xs[i] (List.getElem_mem hb)
      rw [List.drop_eq_getElem_cons hb] at hgo
      simp only [cntGo] at hgo
      generalize xs[i] = x at hgs hok hgo
      obtain ⟨lv, p, q⟩ := x
      simp only at hgs hok hgo
      have hok' := hok
      obtain ⟨⟨⟨nlp, cp, szp, rfl, _⟩, _⟩, ⟨⟨nlq, cq, szq, rfl, _⟩, _⟩, _⟩ := hok'
      repeat first | refine AWp.seq ?_ | refine AWp.block ?_
      refine AWp.ops ?_
      simp [hgs]
      repeat first | refine AWp.seq ?_ | refine AWp.block ?_
      refine AWp.ops ?_
      simp
      refine ((lBelow_spec hok hn').pure (by simp) (by rintro r rfl; simp) _).mono ?_
      rintro r H' ⟨rfl, rfl⟩
      simp
      repeat first | refine AWp.seq ?_ | refine AWp.block ?_
      refine AWp.ops ?_
      simp
      by_cases h : lvCheck lv n = 0
      · obtain ⟨b1, b2, b3, b4, b5, b6, b7⟩ := lvBelow_ok h
        rw [if_pos h] at hgo
        refine AWp.cond (b := false) (by simp [h]) (fun h => by cases h) (fun _ => ?_)
        have b1 : (ws.length + 1) * 8 ≤ 140737488355328 := by omega
        have b2 : ws.length + 1 ≤ 9223372036854775807 := by omega
        have hwi := wrap_i64 (n := (i : Int) + 1) (by omega) (by omega)
        refine AWp.skip ?_
        simp only [qSeq]
        repeat first | refine AWp.seq ?_ | refine AWp.block ?_
        refine AWp.ops ?_
        simp [b1, b2, elems, h]
        repeat first | refine AWp.seq ?_ | refine AWp.block ?_
        refine AWp.ops ?_
        simp [hwi]
        obtain ⟨m, hm⟩ : ∃ m : Nat, lvBelow lv n = m := ⟨(lvBelow lv n).toNat, by omega⟩
        rw [hm, Int.toNat_natCast] at hgo
        refine ⟨i + 1, _, _, (Weak.slots [1, 2, 3, 4, 8, 9, 10]).trans (Weak.freeze 2 2 (by simp)), ?_, by omega⟩
        rw [hJ]
        refine ⟨by omega, ws ++ [(m : Int)], none, m, ⟨⟨⟨by simp [hwl], fun w hw => ?_⟩, by simp, by simp⟩, by omega, ?_⟩, ?_, ?_⟩
        · rcases List.mem_append.1 hw with h | h
          · exact hwv w h
          · have : w = m := by simpa using h
            omega
        · rw [hgo]
          generalize cntGo (xs.drop (i + 1)) m = o
          cases o <;> simp [Except.map]
        · simp [frzH, hm]
        · simp [h, hm]
      · rw [if_neg h] at hgo
        refine AWp.cond (b := true) (by simp [h]) (fun _ => ?_) (fun h => by cases h)
        repeat first | refine AWp.seq ?_ | refine AWp.block ?_
        refine AWp.ops ?_
        simp
        refine AWp.ret ?_
        simp
        refine retOk.of rfl ?_
        left
        simp [cntF, hgo, Except.map]
    ·
      intro hb
      have hb : ¬ i < xs.length := by simpa using hb
      refine AWp.exit ?_
      simp [qSeq, qBlock]
      obtain ⟨⟨⟨hwl, hwv⟩, hv1, hv2⟩, hn', hgo⟩ := hinv
      rw [List.drop_eq_nil_of_le (by omega)] at hgo
      simp only [cntGo, Except.map, List.append_nil] at hgo
      have hW : cntF xs = (ws, 0) := by simp [cntF, hgo]
      repeat first | refine AWp.seq ?_ | refine AWp.block ?_
      refine AWp.ops ?_
      simp
      refine AWp.ret ?_
      simp
      refine retOk.of rfl ?_
      rw [hW]
      exact .inr ⟨rfl, ⟨by show ws.length ≤ _; omega, fun x hx => by have := hwv x hx; omega⟩, vr, hv1, hv2, by simp, by simp⟩
  refine (base.frozen 2).mono ?_
  rintro q H' ⟨rfl, r, G, ⟨rfl, h1⟩ | ⟨h0, h1, v, hv1, hv2, rfl, h2⟩, rfl⟩
  · exact ⟨rfl, _, by simp; rfl, by rw [h1]; exact ⟨⟨true, none, 0, rfl, by simp, by simp⟩, by simp, by simp⟩⟩
  · refine ⟨rfl, _, by simp [h0]; rfl, ?_⟩
    match v, hv1, hv2 with
    | some true, hv1, _ =>
      have h3 := hv1 rfl
      rw [h3]
      exact ⟨⟨true, none, 1, by simp [h2, h3], by simp, by simp⟩, by simp, by simp⟩
    | none, _, _ => exact ⟨⟨false, none, 1, by simp [h2], by simp, by simp⟩, h1⟩
    | some false, _, h => exact absurd rfl h
end Go.Fw
