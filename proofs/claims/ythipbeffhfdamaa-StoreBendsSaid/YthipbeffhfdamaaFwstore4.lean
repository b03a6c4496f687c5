import Derived.Test.YthipbeffhfdamaaFwstore3
namespace Go.Fw
open Go Go.RowKit Go.Proofs
set_option maxRecDepth 100000
set_option linter.unusedSimpArgs false
set_option linter.unusedVariables false

def IdxL_10 : AC := (.seq (.ops [⟨(some 11), none, (.k (.mov (.t 1)))⟩, ⟨(some 12), none, (.k (.mov (.t 0)))⟩, ⟨(some 13), none, (.k (.mov (.t 5)))⟩, ⟨(some 14), none, (.k (.iad 4 (.t 12) (.t 13)))⟩, ⟨(some 15), none, (.k (.ld 4 true (.t 14)))⟩, ⟨(some 16), none, (.call false (.t 11) [(.t 15)])⟩]) (.cond (.t 16) (.seq (.ops [⟨(some 17), none, (.k (.mov (.t 5)))⟩, ⟨(some 4), none, (.k (.mov (.t 17)))⟩]) .ret) .skip))
def IdxL_9 : AC := (.seq (.ops [⟨(some 10), none, (.k (.mov (.t 8)))⟩, ⟨(some 5), none, (.k (.mov (.t 10)))⟩]) IdxL_10)
def IdxL_8 : AC := (.block 1 IdxL_9)
def IdxL_7 : AC := (.seq IdxL_8 (.ops [⟨(some 18), none, (.k (.bin .add (.t 8) (.c (.sc (.int .i64 1)))))⟩, ⟨(some 8), none, (.k (.mov (.t 18)))⟩]))
def IdxL_6 : AC := (.seq (.cond (.t 9) .skip (.exit 0)) IdxL_7)
def IdxL_5 : AC := (.seq (.ops [⟨(some 9), none, (.k (.bin .lss (.t 8) (.t 7)))⟩]) IdxL_6)
def IdxL_4 : AC := (.loop IdxL_5)
def IdxL_3 : AC := (.block 0 IdxL_4)
def IdxL_2 : AC := (.seq (.ops [⟨(some 6), none, (.k (.mov (.t 0)))⟩, ⟨(some 7), none, (.k (.len (.t 6)))⟩, ⟨(some 8), none, (.k (.mov (.c (.sc (.int .i64 0)))))⟩]) IdxL_3)
def IdxL_1 : AC := (.seq IdxL_2 (.seq (.ops [⟨(some 4), none, (.k (.mov (.c (.sc (.int .i64 (-1))))))⟩]) .ret))
def IdxL_ac : AC := (.seq (.ops [⟨(some 4), none, (.k (.mov (.c (.sc (.int .i64 0)))))⟩]) IdxL_1)
theorem IdxL_call {args : List AV} {H : List AObj} {R : AV → List AObj → Prop} (h : AWp Try.prog [] H.length IdxL_ac (bodyQ H.length [(.t 4)] R) (args ++ List.replicate (19 - args.length) .und) H) : ACalls Try.prog 70 args H R :=
  ACalls.of_fn Try.func70 rfl (by kernel_rfl) rfl Try.ntmps70 h

theorem IdxL_spec {a : AV} {xs : List LvA} {g : FuncId} {p : LvA → Bool} (ha : Ls a xs) (hg : ∀ x ∈ xs, ACalls Try.prog g [lvV x] [] fun r H' => H' = [] ∧ r = Bo (p x)) :
    ACalls Try.prog 70 [a, .fn (.func g) [] []] [] fun r H' => H' = [] ∧ ∃ n : Int, r = I n ∧ ((n = -1 ∧ ∀ x ∈ xs, p x = false) ∨ ∃ i, ∃ h : i < xs.length, n = i ∧ p xs[i] = true ∧ ∀ x ∈ xs.take i, p x = false) := by
  obtain ⟨⟨nl, c, sz, rfl, hs⟩, hlen, hx⟩ := ha
  apply IdxL_call
  repeat first | refine AWp.seq ?_ | refine AWp.block ?_
  refine AWp.ops ?_
  simp
  repeat first | refine AWp.seq ?_ | refine AWp.block ?_
  refine AWp.ops ?_
  simp
  obtain ⟨J, hJ⟩ : ∃ J : Nat → List AV → List AObj → Prop, J = fun i fr H => i ≤ xs.length ∧ (∀ x ∈ xs.take i, p x = false) ∧ H = [] ∧
    fr = [.imm nl c sz (xs.map lvV), .fn (.func g) [] [], .und, .und, .und, .und, .imm nl c sz (xs.map lvV), I xs.length, I i, .und, .und, .und, .und, .und, .und, .und, .und, .und, .und] := ⟨_, rfl⟩
  refine AWp.block (AWp.loop J (fun i => xs.length - i) 0 (Weak.slots [0, 1, 6, 7, 8]) (by rw [hJ]; exact ⟨by omega, by simp, by simp, by simp⟩) ?_)
  intro i fr H hI
  rw [hJ] at hI
  obtain ⟨hi, hinv, rfl, rfl⟩ := hI
  repeat first | refine AWp.seq ?_ | refine AWp.block ?_
  refine AWp.ops ?_
  simp
  refine AWp.seq (AWp.cond (b := decide (i < xs.length)) (by simp <;> omega) ?_ ?_)
  ·
    intro hb
    have hb : i < xs.length := by simpa using hb
    refine AWp.skip ?_
    simp only [qSeq]
    have hsz4 := sz4_of hs hb
    subst hsz4
    have hgs := lv_get hb
    repeat first | refine AWp.seq ?_ | refine AWp.block ?_
    refine AWp.ops ?_
    simp
    repeat first | refine AWp.seq ?_ | refine AWp.block ?_
    refine AWp.ops ?_
    simp [hgs]
    refine (hg xs[i] (List.getElem_mem hb)).mono ?_
    rintro r H' ⟨rfl, rfl⟩
    simp
    refine AWp.cond (b := p xs[i]) (by simp) ?_ ?_
    · intro he
      repeat first | refine AWp.seq ?_ | refine AWp.block ?_
      refine AWp.ops ?_
      simp
      refine AWp.ret ?_
      simp
      refine retOk.of rfl ⟨rfl, i, by simp, .inr ⟨i, rfl, ⟨hb, he⟩, hinv⟩⟩
    · intro he
      refine AWp.skip ?_
      simp only [qSeq, qBlock]
      repeat first | refine AWp.seq ?_ | refine AWp.block ?_
      refine AWp.ops ?_
      simp
      refine ⟨i + 1, _, _, Weak.slots [0, 1, 6, 7, 8], ?_, by omega⟩
      rw [hJ]
      refine ⟨by omega, ?_, by simp, by simp [wrap_i64 (n := (i : Int) + 1) (by omega) (by omega)]⟩
      intro x hx
      rw [List.take_succ_eq_append_getElem hb] at hx
      rcases List.mem_append.1 hx with h | h
      · exact hinv x h
      · simp at h; rw [h]; exact he
  ·
    intro hb
    have hb : ¬ i < xs.length := by simpa using hb
    refine AWp.exit ?_
    simp [qSeq, qBlock]
    repeat first | refine AWp.seq ?_ | refine AWp.block ?_
    refine AWp.ops ?_
    simp
    refine AWp.ret ?_
    simp
    refine retOk.of rfl ⟨rfl, -1, by simp, .inl ⟨rfl, ?_⟩⟩
    have : xs.take i = xs := List.take_of_length_le (by omega)
    rw [this] at hinv
    exact hinv

def srising1_1 : AC := (.seq (.ops [⟨(some 3), none, (.k (.fad 0 (.t 1)))⟩, ⟨(some 4), none, (.k (.ld 1 false (.t 3)))⟩, ⟨(some 5), none, (.k (.bin .eql (.t 4) (.c (.sc (.int .i64 2)))))⟩, ⟨(some 2), none, (.k (.mov (.t 5)))⟩]) .ret)
def srising1_ac : AC := (.seq (.ops [⟨(some 1), none, (.k (.new 34 4 (.t 0)))⟩, ⟨(some 2), none, (.k (.mov (.c (.sc (.bool false)))))⟩]) srising1_1)
theorem srising1_call {args : List AV} {H : List AObj} {R : AV → List AObj → Prop} (h : AWp Try.prog [] H.length srising1_ac (bodyQ H.length [(.t 2)] R) (args ++ List.replicate (6 - args.length) .und) H) : ACalls Try.prog 71 args H R :=
  ACalls.of_fn Try.func71 rfl (by kernel_rfl) rfl Try.ntmps71 h

theorem srising1_spec {x : LvA} (hx : LvOk x.lv x.p x.q) : ACalls Try.prog 71 [lvV x] [] fun r H' => H' = [] ∧ r = Bo (decide (x.lv.k = 2)) := by
  obtain ⟨lv, p, q⟩ := x
  simp only at hx
  obtain ⟨⟨⟨nlp, cp, szp, rfl, _⟩, _⟩, ⟨⟨nlq, cq, szq, rfl, _⟩, _⟩, _⟩ := hx
  have base : ACalls Try.prog 71 [lvV ⟨lv, .imm nlp cp szp (lv.pos.map I), .imm nlq cq szq (lv.crd.map I)⟩] [] fun r H' => r = Bo (decide (lv.k = 2)) := by
    apply srising1_call
    simp only [lvV]
    repeat first | refine AWp.seq ?_ | refine AWp.block ?_
    refine AWp.ops ?_
    simp
    repeat first | refine AWp.seq ?_ | refine AWp.block ?_
    refine AWp.ops ?_
    simp
    refine AWp.ret ?_
    simp
    refine retOk.of rfl ?_
    by_cases h : lv.k = 2 <;> simp [h]
  refine (base.frozen 2).mono ?_
  rintro q H' ⟨rfl, r, G, rfl, rfl⟩
  exact ⟨rfl, by simp⟩

/-- Whether the places of a number are behind those of the one ahead. -/
def lessF : List LvA → Nat → Bool
  | [], _ => false
  | x :: r, n => if x.lv.crd.getD n 0 = x.lv.crd.getD (n - 1) 0 then lessF r n else decide (x.lv.crd.getD (n - 1) 0 < x.lv.crd.getD n 0)

def srising2_13 : AC := (.seq (.ops [⟨(some 31), none, (.k (.mov (.t 7)))⟩, ⟨(some 32), none, (.k (.bin .gtr (.t 31) (.c (.sc (.int .i64 0)))))⟩, ⟨(some 4), none, (.k (.mov (.t 32)))⟩]) .ret)
def srising2_12 : AC := (.cond (.t 30) srising2_13 .skip)
def srising2_11 : AC := (.seq (.ops [⟨(some 29), none, (.k (.mov (.t 7)))⟩, ⟨(some 30), none, (.k (.bin .neq (.t 29) (.c (.sc (.int .i64 0)))))⟩]) srising2_12)
def srising2_10 : AC := (.seq (.ops [⟨(some 17), none, (.k (.fad 3 (.t 6)))⟩, ⟨(some 18), none, (.k (.ld 1 false (.t 17)))⟩, ⟨(some 19), none, (.k (.mov (.t 0)))⟩, ⟨(some 20), none, (.k (.iad 1 (.t 18) (.t 19)))⟩, ⟨(some 21), none, (.k (.ld 1 false (.t 20)))⟩, ⟨(some 22), none, (.k (.fad 3 (.t 6)))⟩, ⟨(some 23), none, (.k (.ld 1 false (.t 22)))⟩, ⟨(some 24), none, (.k (.mov (.t 0)))⟩, ⟨(some 25), none, (.k (.bin .sub (.t 24) (.c (.sc (.int .i64 1)))))⟩, ⟨(some 26), none, (.k (.iad 1 (.t 23) (.t 25)))⟩, ⟨(some 27), none, (.k (.ld 1 false (.t 26)))⟩, ⟨(some 28), none, (.k (.bin .sub (.t 21) (.t 27)))⟩, ⟨(some 7), none, (.k (.mov (.t 28)))⟩]) srising2_11)
def srising2_9 : AC := (.seq (.ops [⟨(some 15), none, (.k (.iad 4 (.t 11) (.t 13)))⟩, ⟨(some 16), none, (.k (.ld 4 true (.t 15)))⟩, ⟨(some 6), none, (.k (.new 34 4 (.c (.agg [(.sc (.int .i64 0)), (.sc (.int .i64 0)), (.imm true none 0 []), (.imm true none 0 [])]))))⟩, ⟨none, none, (.k (.st 4 (.t 6) (.t 16)))⟩]) srising2_10)
def srising2_8 : AC := (.block 1 srising2_9)
def srising2_7 : AC := (.seq srising2_8 (.ops [⟨(some 33), none, (.k (.bin .add (.t 13) (.c (.sc (.int .i64 1)))))⟩, ⟨(some 13), none, (.k (.mov (.t 33)))⟩]))
def srising2_6 : AC := (.seq (.cond (.t 14) .skip (.exit 0)) srising2_7)
def srising2_5 : AC := (.seq (.ops [⟨(some 14), none, (.k (.bin .lss (.t 13) (.t 12)))⟩]) srising2_6)
def srising2_4 : AC := (.loop srising2_5)
def srising2_3 : AC := (.block 0 srising2_4)
def srising2_2 : AC := (.seq (.ops [⟨(some 8), none, (.k (.fad 2 (.t 1)))⟩, ⟨(some 9), none, (.k (.ld 1 false (.t 8)))⟩, ⟨(some 10), none, (.k (.ld 1 false (.t 2)))⟩, ⟨(some 11), none, (.k (.sl 4 (.t 9) (some (.t 10)) none none))⟩, ⟨(some 12), none, (.k (.len (.t 11)))⟩, ⟨(some 13), none, (.k (.mov (.c (.sc (.int .i64 0)))))⟩]) srising2_3)
def srising2_1 : AC := (.seq srising2_2 (.seq (.ops [⟨(some 4), none, (.k (.mov (.c (.sc (.bool false)))))⟩]) .ret))
def srising2_ac : AC := (.seq (.ops [⟨(some 4), none, (.k (.mov (.c (.sc (.bool false)))))⟩]) srising2_1)
theorem srising2_call {args : List AV} {H : List AObj} {R : AV → List AObj → Prop} (h : AWp Try.prog [] H.length srising2_ac (bodyQ H.length [(.t 4)] R) (args ++ List.replicate (34 - args.length) .und) H) : ACalls Try.prog 72 args H R :=
  ACalls.of_fn Try.func72 rfl (by kernel_rfl) rfl Try.ntmps72 h

set_option maxHeartbeats 2000000 in
theorem srising2_spec {sh f l v : AV} {S V : List Int} {F : List (Int × Int × Int)} {xs : List LvA} (hS : ISl sh S) (hF : Sp f F) (hl : Ls l xs) (hV : ISl v V) {i n m : Nat} (hi : i < xs.length) (hn : 0 < n) (hm : n < m) (hmb : m ≤ 1048576)
    (hc : ∀ x ∈ xs.drop i, x.lv.crd.length = m ∧ ∀ c ∈ x.lv.crd, 0 ≤ c ∧ c < 4294967296) :
    ACalls Try.prog 72 [I n, .ipt (.agg [sh, f, l, v]) 0, .ipt (I i) 0] [] fun r H' => H' = [] ∧ r = Bo (lessF (xs.drop i) n) := by
  obtain ⟨⟨nl, c, sz, rfl, hs⟩, hlen, hx⟩ := hl
  obtain ⟨⟨nl1, c1, sz1, rfl, hs1⟩, hlen1, hx1⟩ := hS
  obtain ⟨⟨nl2, c2, sz2, rfl, hs2⟩, hlen2, hx2⟩ := hF
  obtain ⟨⟨nl3, c3, sz3, rfl, hs3⟩, hlen3, hx3⟩ := hV
  have hsz4 := sz4_of hs hi
  subst hsz4
  have hxd : ∀ x ∈ xs.drop i, LvOk x.lv x.p x.q := fun x hm => hx x (List.mem_of_mem_drop hm)
  obtain ⟨ys, hys⟩ : ∃ ys, ys = xs.drop i := ⟨_, rfl⟩
  have hdr : List.drop i (xs.map lvV) = ys.map lvV := by rw [hys, List.map_drop]
  have hyl : xs.length - i = ys.length := by rw [hys, List.length_drop]
  have hyn : 0 < ys.length := by omega
  rw [← hys] at hc hxd ⊢
  have base : ACalls Try.prog 72 [I n, .ipt (.agg [.imm nl1 c1 sz1 (S.map I), .imm nl2 c2 sz2 (F.map specV), .imm nl c 4 (xs.map lvV), .imm nl3 c3 sz3 (V.map I)]) 0, .ipt (I i) 0] [] fun r H' => r = Bo (lessF ys n) := by
    apply srising2_call
    have e1 : (i : Int) ≤ xs.length := by omega
    have e2 : (if i = 0 then xs.map lvV else List.take ys.length (ys.map lvV)) = ys.map lvV := by
      split
      · rename_i h
        rw [hys, h]; rfl
      · exact List.take_of_length_le (by simp)
    repeat first | refine AWp.seq ?_ | refine AWp.block ?_
    refine AWp.ops ?_
    simp
    repeat first | refine AWp.seq ?_ | refine AWp.block ?_
    refine AWp.ops ?_
    simp [e1, hdr, hyl, e2]
    obtain ⟨c', hc'⟩ : ∃ c', c' = Option.map (fun x => x - i) c := ⟨_, rfl⟩
    rw [← hc']
    obtain ⟨J, hJ⟩ : ∃ J : Nat → List AV → List AObj → Prop, J = fun i fr H => i ≤ ys.length ∧ (lessF ys n = lessF (ys.drop i) n) ∧ H = [] ∧
      fr = [I n, .und, .und, .und, .und, .und, .und, .und, .und, .und, .und, .imm nl c' 4 (ys.map lvV), I ys.length, I i, .und, .und, .und, .und, .und, .und, .und, .und, .und, .und, .und, .und, .und, .und, .und, .und, .und, .und, .und, .und] := ⟨_, rfl⟩
    refine AWp.block (AWp.loop J (fun i => ys.length - i) 0 (Weak.slots [0, 11, 12, 13]) (by rw [hJ]; exact ⟨by omega, rfl, by simp, by simp⟩) ?_)
    intro i fr H hI
    rw [hJ] at hI
    obtain ⟨hi, hinv, rfl, rfl⟩ := hI
    repeat first | refine AWp.seq ?_ | refine AWp.block ?_
    refine AWp.ops ?_
    simp
    refine AWp.seq (AWp.cond (b := decide (i < ys.length)) (by simp <;> omega) ?_ ?_)
    ·
      intro hb
      have hb : i < ys.length := by simpa using hb
      refine AWp.skip ?_
      simp only [qSeq]
      have hgs := lv_get hb
      have hok := hxd ys[i] (List.getElem_mem hb)
      obtain ⟨hcl, hcr⟩ := hc ys[i] (List.getElem_mem hb)
      rw [List.drop_eq_getElem_cons hb] at hinv
      simp only [lessF] at hinv
      generalize ys[i] = x at hgs hok hinv hcl hcr
      obtain ⟨lv, p, q⟩ := x
      simp only at hgs hok hinv hcl hcr
      obtain ⟨⟨⟨nlp, cp, szp, rfl, _⟩, _⟩, ⟨⟨nlq, cq, szq, rfl, hsq⟩, _⟩, _⟩ := hok
      have b1 : n < lv.crd.length := by omega
      have b2 : n - 1 < lv.crd.length := by omega
      have hszq := sz_of hsq b1
      subst hszq
      have g1 : (1 : Int) ≤ (n : Int) := by omega
      have g2 : ((n : Int) - 1).toNat = n - 1 := by omega
      have w1 := wrap_i64 (n := (n : Int) - 1) (by omega) (by omega)
      have r1 := hcr lv.crd[n] (List.getElem_mem b1)
      have r2 := hcr lv.crd[n - 1] (List.getElem_mem b2)
      have w2 := wrap_i64 (n := lv.crd[n] - lv.crd[n - 1]) (by omega) (by omega)
      have q1 : lv.crd.getD n 0 = lv.crd[n] := by simp [b1]
      have q2 : lv.crd.getD (n - 1) 0 = lv.crd[n - 1] := by simp [b2]
      rw [q1, q2] at hinv
      repeat first | refine AWp.seq ?_ | refine AWp.block ?_
      refine AWp.ops ?_
      simp [hgs]
      repeat first | refine AWp.seq ?_ | refine AWp.block ?_
      refine AWp.ops ?_
      simp [b1, b2, g1, g2, w1, w2]
      repeat first | refine AWp.seq ?_ | refine AWp.block ?_
      refine AWp.ops ?_
      simp
      by_cases he : lv.crd[n] = lv.crd[n - 1]
      · rw [if_pos he] at hinv
        refine AWp.cond (b := false) (by simp [he]) (fun h => by cases h) (fun _ => ?_)
        refine AWp.skip ?_
        simp only [qSeq, qBlock]
        repeat first | refine AWp.seq ?_ | refine AWp.block ?_
        refine AWp.ops ?_
        simp
        refine ⟨i + 1, _, _, (Weak.slots [0, 11, 12, 13]).trans (Weak.freeze 0 3 (by simp)), ?_, by omega⟩
        rw [hJ]
        refine ⟨by omega, ?_, by simp [frzH], by simp [wrap_i64 (n := (i : Int) + 1) (by omega) (by omega)]⟩
        exact hinv
      · rw [if_neg he] at hinv
        refine AWp.cond (b := true) (by simp; omega) (fun _ => ?_) (fun h => by cases h)
        repeat first | refine AWp.seq ?_ | refine AWp.block ?_
        refine AWp.ops ?_
        simp
        refine AWp.ret ?_
        simp
        refine retOk.of rfl ?_
        rw [hinv]
        simp
    ·
      intro hb
      have hb : ¬ i < ys.length := by simpa using hb
      refine AWp.exit ?_
      simp [qSeq, qBlock]
      rw [List.drop_eq_nil_of_le (by omega)] at hinv
      repeat first | refine AWp.seq ?_ | refine AWp.block ?_
      refine AWp.ops ?_
      simp
      refine AWp.ret ?_
      simp
      refine retOk.of rfl ?_
      rw [hinv]; simp [lessF]
  refine (base.frozen 2).mono ?_
  rintro q H' ⟨rfl, r, G, rfl, rfl⟩
  exact ⟨rfl, by simp⟩

end Go.Fw
