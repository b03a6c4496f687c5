import Derived.Test.YtgdkdojjfijipaaFwcoo5
import Derived.Test.YtgdkdojjfijipaaFwcoo2
import Derived.Test.YtgdkdojjfijipaaFwcoo7
namespace Go.Fw
open Go Go.RowKit Go.Proofs
set_option maxRecDepth 100000
set_option linter.unusedSimpArgs false
set_option linter.unusedVariables false

def nul_1 : AC := (.seq (.ops [⟨(some 3), none, (.k (.fad 1 (.t 1)))⟩, ⟨(some 4), none, (.k (.ld 1 false (.t 3)))⟩, ⟨(some 5), none, (.k (.bin .eql (.t 4) (.c (.sc (.int .i64 0)))))⟩, ⟨(some 2), none, (.k (.mov (.t 5)))⟩]) .ret)
def nul_ac : AC := (.seq (.ops [⟨(some 1), none, (.k (.new 38 2 (.t 0)))⟩, ⟨(some 2), none, (.k (.mov (.c (.sc (.bool false)))))⟩]) nul_1)
theorem nul_call {args : List AV} {H : List AObj} {R : AV → List AObj → Prop} (h : AWp Try.prog [] H.length nul_ac (bodyQ H.length [(.t 2)] R) (args ++ List.replicate (6 - args.length) .und) H) : ACalls Try.prog 55 args H R :=
  ACalls.of_fn Try.func55 rfl (by kernel_rfl) rfl Try.ntmps55 h

theorem nul_spec {a : AV} {c : List Int} {v : Int} (ha : ISl a c) : ACalls Try.prog 55 [.agg [a, I v]] [] fun r H' => H' = [] ∧ r = Bo (decide (v = 0)) := by
  obtain ⟨⟨nl, c', sz, rfl, hs⟩, hl, hx⟩ := ha
  have base : ACalls Try.prog 55 [.agg [.imm nl c' sz (c.map I), I v]] [] fun r H' => r = Bo (decide (v = 0)) := by
    apply nul_call
    repeat first | refine AWp.seq ?_ | refine AWp.block ?_
    refine AWp.ops ?_
    simp
    repeat first | refine AWp.seq ?_ | refine AWp.block ?_
    refine AWp.ops ?_
    simp
    refine AWp.ret ?_
    simp
    refine retOk.of rfl ?_
    by_cases h : v = 0 <;> simp [h]
  refine (base.frozen 2).mono ?_
  rintro q H' ⟨rfl, r, G, rfl, rfl⟩
  exact ⟨rfl, by simp⟩

def idxE_10 : AC := (.seq (.ops [⟨(some 11), none, (.k (.mov (.t 1)))⟩, ⟨(some 12), none, (.k (.mov (.t 0)))⟩, ⟨(some 13), none, (.k (.mov (.t 5)))⟩, ⟨(some 14), none, (.k (.iad 2 (.t 12) (.t 13)))⟩, ⟨(some 15), none, (.k (.ld 2 true (.t 14)))⟩, ⟨(some 16), none, (.call false (.t 11) [(.t 15)])⟩]) (.cond (.t 16) (.seq (.ops [⟨(some 17), none, (.k (.mov (.t 5)))⟩, ⟨(some 4), none, (.k (.mov (.t 17)))⟩]) .ret) .skip))
def idxE_9 : AC := (.seq (.ops [⟨(some 10), none, (.k (.mov (.t 8)))⟩, ⟨(some 5), none, (.k (.mov (.t 10)))⟩]) idxE_10)
def idxE_8 : AC := (.block 1 idxE_9)
def idxE_7 : AC := (.seq idxE_8 (.ops [⟨(some 18), none, (.k (.bin .add (.t 8) (.c (.sc (.int .i64 1)))))⟩, ⟨(some 8), none, (.k (.mov (.t 18)))⟩]))
def idxE_6 : AC := (.seq (.cond (.t 9) .skip (.exit 0)) idxE_7)
def idxE_5 : AC := (.seq (.ops [⟨(some 9), none, (.k (.bin .lss (.t 8) (.t 7)))⟩]) idxE_6)
def idxE_4 : AC := (.loop idxE_5)
def idxE_3 : AC := (.block 0 idxE_4)
def idxE_2 : AC := (.seq (.ops [⟨(some 6), none, (.k (.mov (.t 0)))⟩, ⟨(some 7), none, (.k (.len (.t 6)))⟩, ⟨(some 8), none, (.k (.mov (.c (.sc (.int .i64 0)))))⟩]) idxE_3)
def idxE_1 : AC := (.seq idxE_2 (.seq (.ops [⟨(some 4), none, (.k (.mov (.c (.sc (.int .i64 (-1))))))⟩]) .ret))
def idxE_ac : AC := (.seq (.ops [⟨(some 4), none, (.k (.mov (.c (.sc (.int .i64 0)))))⟩]) idxE_1)
theorem idxE_call {args : List AV} {H : List AObj} {R : AV → List AObj → Prop} (h : AWp Try.prog [] H.length idxE_ac (bodyQ H.length [(.t 4)] R) (args ++ List.replicate (19 - args.length) .und) H) : ACalls Try.prog 77 args H R :=
  ACalls.of_fn Try.func77 rfl (by kernel_rfl) rfl Try.ntmps77 h

theorem idxE_spec {H9 : List AObj} {e : Nat} {zs : List (AV × (List Int × Int))} {g : FuncId} {p : AV × (List Int × Int) → Bool} (he : H9[e]? = some (ensO (zs.map (·.1)))) (hok : ∀ z ∈ zs, ∃ a v, z.1 = .agg [a, I v] ∧ oneC a = true)
    (hg : ∀ z ∈ zs, ACalls Try.prog g [z.1] H9 fun r K' => K' = H9 ∧ r = Bo (p z)) (hn : zs.length ≤ 1000000) :
    ACalls Try.prog 77 [.slc e zs.length 0 zs.length none, .fn (.func g) [] []] H9 fun r K => K = H9 ∧ ((r = I (-1) ∧ ∀ z ∈ zs, p z = false) ∨ ∃ k, k < zs.length ∧ r = I k ∧ (∀ j (h : j < k) (h2 : j < zs.length), p zs[j] = false) ∧ ∀ h : k < zs.length, p zs[k] = true) := by
  obtain ⟨es, hes⟩ : ∃ es, es = zs.map (·.1) := ⟨_, rfl⟩
  have hel : es.length = zs.length := by simp [hes]
  rw [← hes] at he
  apply idxE_call
  repeat first | refine AWp.seq ?_ | refine AWp.block ?_
  refine AWp.ops ?_
  simp
  repeat first | refine AWp.seq ?_ | refine AWp.block ?_
  refine AWp.ops ?_
  simp
  obtain ⟨J, hJ⟩ : ∃ J : Nat → List AV → List AObj → Prop, J = fun i fr H => i ≤ zs.length ∧ (∀ z ∈ zs.take i, p z = false) ∧ H = H9 ∧
    fr = [.slc e zs.length 0 zs.length none, .fn (.func g) [] [], .und, .und, I 0, .und, .slc e zs.length 0 zs.length none, I zs.length, I i, .und, .und, .und, .und, .und, .und, .und, .und, .und, .und] := ⟨_, rfl⟩
  refine AWp.block (AWp.loop J (fun i => zs.length - i) 0 (Weak.slots [0, 1, 4, 6, 7, 8]) (by rw [hJ]; exact ⟨by omega, by simp, by simp, by simp⟩) ?_)
  intro i fr H hI
  rw [hJ] at hI
  obtain ⟨hi, hinv, rfl, rfl⟩ := hI
  repeat first | refine AWp.seq ?_ | refine AWp.block ?_
  refine AWp.ops ?_
  simp
  refine AWp.seq (AWp.cond (b := decide (i < zs.length)) (by simp <;> omega) ?_ ?_)
  ·
    intro hb
    have hb : i < zs.length := by simpa using hb
    refine AWp.skip ?_
    simp only [qSeq]
    have hzi : es[i]? = some zs[i].1 := by rw [hes, List.getElem?_map, List.getElem?_eq_getElem hb]; rfl
    obtain ⟨a, v, hav, ha1⟩ := hok zs[i] (List.getElem_mem hb)
    have hgi := hg zs[i] (List.getElem_mem hb)
    rw [hav] at hzi hgi
    obtain ⟨_, hzi'⟩ := List.getElem?_eq_some_iff.1 hzi
    have hwi := wrap_i64 (n := (i : Int) + 1) (by omega) (by omega)
    have hxt := List.take_succ_eq_append_getElem hb
    repeat first | refine AWp.seq ?_ | refine AWp.block ?_
    refine AWp.ops ?_
    simp
    repeat first | refine AWp.seq ?_ | refine AWp.block ?_
    refine AWp.ops ?_
    simp [he, hel, hzi, hzi', hb]
    refine hgi.mono ?_
    rintro r K' ⟨hK', rfl⟩
    subst K'
    simp
    cases hp : p zs[i] with
    | true =>
      refine AWp.cond (b := true) (by simp) (fun _ => ?_) (fun h => by cases h)
      repeat first | refine AWp.seq ?_ | refine AWp.block ?_
      refine AWp.ops ?_
      simp
      refine AWp.ret ?_
      simp
      refine retOk.of rfl ⟨rfl, .inr ⟨i, hb, by simp, fun j h h2 => ?_, fun _ => hp⟩⟩
      exact hinv _ (by rw [List.mem_take_iff_getElem]; exact ⟨j, by omega, rfl⟩)
    | false =>
      refine AWp.cond (b := false) (by simp) (fun h => by cases h) (fun _ => ?_)
      refine AWp.skip ?_
      simp only [qSeq, qBlock]
      repeat first | refine AWp.seq ?_ | refine AWp.block ?_
      refine AWp.ops ?_
      simp [hwi]
      refine ⟨i + 1, _, _, Weak.slots [0, 1, 4, 6, 7, 8], ?_, by omega⟩
      rw [hJ]
      refine ⟨by omega, ?_, by simp, by simp [wrap_i64 (n := (i : Int) + 1) (by omega) (by omega)]⟩
      intro z hz
      rw [hxt] at hz
      rcases List.mem_append.1 hz with h | h
      · exact hinv z h
      · simp at h; subst h; exact hp
  ·
    intro hb
    have hb : ¬ i < zs.length := by simpa using hb
    refine AWp.exit ?_
    simp [qSeq, qBlock]
    rw [List.take_of_length_le (by omega)] at hinv
    repeat first | refine AWp.seq ?_ | refine AWp.block ?_
    refine AWp.ops ?_
    simp
    refine AWp.ret ?_
    simp
    refine retOk.of rfl ⟨rfl, .inl ⟨by simp, fun a b c h => hinv _ h⟩⟩

def del_17 : AC := (.seq (.ops [⟨(some 39), none, (.k (.mov (.t 0)))⟩, ⟨(some 40), none, (.k (.mov (.t 5)))⟩, ⟨(some 41), none, (.k (.sl 2 (.t 39) none (some (.t 40)) none))⟩, ⟨(some 4), none, (.k (.mov (.t 41)))⟩]) .ret)
def del_16 : AC := (.seq (.ops [⟨(some 36), none, (.k (.mov (.t 0)))⟩, ⟨(some 37), none, (.k (.mov (.t 5)))⟩, ⟨(some 38), none, (.k (.sl 2 (.t 36) (some (.t 37)) none none))⟩, ⟨none, none, (.k (.clr 2 (.agg [(.imm true none 0 []), (.sc (.int .i64 0))]) (.t 38)))⟩]) del_17)
def del_15 : AC := (.seq (.ops [⟨(some 30), none, (.k (.mov (.t 0)))⟩, ⟨(some 31), none, (.k (.mov (.t 5)))⟩, ⟨(some 32), none, (.k (.ld 2 true (.t 7)))⟩, ⟨(some 33), none, (.k (.iad 2 (.t 30) (.t 31)))⟩, ⟨none, none, (.k (.st 2 (.t 33) (.t 32)))⟩]) (.ops [⟨(some 34), none, (.k (.mov (.t 5)))⟩, ⟨(some 35), none, (.k (.bin .add (.t 34) (.c (.sc (.int .i64 1)))))⟩, ⟨(some 5), none, (.k (.mov (.t 35)))⟩]))
def del_14 : AC := (.cond (.t 29) del_15 .skip)
def del_13 : AC := (.seq (.ops [⟨(some 26), none, (.k (.mov (.t 1)))⟩, ⟨(some 27), none, (.k (.ld 2 true (.t 7)))⟩, ⟨(some 28), none, (.call false (.t 26) [(.t 27)])⟩, ⟨(some 29), none, (.k (.un .not (.t 28)))⟩]) del_14)
def del_12 : AC := (.seq (.ops [⟨(some 22), none, (.k (.mov (.t 0)))⟩, ⟨(some 23), none, (.k (.mov (.t 6)))⟩, ⟨(some 24), none, (.k (.iad 2 (.t 22) (.t 23)))⟩, ⟨(some 25), none, (.k (.ld 2 true (.t 24)))⟩, ⟨(some 7), none, (.k (.new 38 2 (.c (.agg [(.imm true none 0 []), (.sc (.int .i64 0))]))))⟩, ⟨none, none, (.k (.st 2 (.t 7) (.t 25)))⟩]) del_13)
def del_11 : AC := (.block 1 del_12)
def del_10 : AC := (.seq del_11 (.ops [⟨(some 20), none, (.k (.mov (.t 6)))⟩, ⟨(some 21), none, (.k (.bin .add (.t 20) (.c (.sc (.int .i64 1)))))⟩, ⟨(some 6), none, (.k (.mov (.t 21)))⟩]))
def del_9 : AC := (.seq (.ops [⟨(some 16), none, (.k (.mov (.t 6)))⟩, ⟨(some 17), none, (.k (.mov (.t 0)))⟩, ⟨(some 18), none, (.k (.len (.t 17)))⟩, ⟨(some 19), none, (.k (.bin .lss (.t 16) (.t 18)))⟩]) (.cond (.t 19) .skip (.exit 0)))
def del_8 : AC := (.seq del_9 del_10)
def del_7 : AC := (.loop del_8)
def del_6 : AC := (.block 0 del_7)
def del_5 : AC := (.seq (.ops [⟨(some 14), none, (.k (.mov (.t 5)))⟩, ⟨(some 15), none, (.k (.bin .add (.t 14) (.c (.sc (.int .i64 1)))))⟩, ⟨(some 6), none, (.k (.mov (.t 15)))⟩]) del_6)
def del_4 : AC := (.seq del_5 del_16)
def del_3 : AC := (.seq (.ops [⟨(some 11), none, (.k (.mov (.t 5)))⟩, ⟨(some 12), none, (.k (.bin .eql (.t 11) (.c (.sc (.int .i64 (-1))))))⟩]) (.cond (.t 12) (.seq (.ops [⟨(some 13), none, (.k (.mov (.t 0)))⟩, ⟨(some 4), none, (.k (.mov (.t 13)))⟩]) .ret) .skip))
def del_2 : AC := (.seq del_3 del_4)
def del_1 : AC := (.seq (.ops [⟨(some 8), none, (.k (.mov (.t 0)))⟩, ⟨(some 9), none, (.k (.mov (.t 1)))⟩, ⟨(some 10), none, (.call false (.c (.fn (.func 77) [] [])) [(.t 8), (.t 9)])⟩, ⟨(some 5), none, (.k (.mov (.t 10)))⟩]) del_2)
def del_ac : AC := (.seq (.ops [⟨(some 4), none, (.k (.mov (.c (.imm true none 0 []))))⟩]) del_1)
theorem del_call {args : List AV} {H : List AObj} {R : AV → List AObj → Prop} (h : AWp Try.prog [] H.length del_ac (bodyQ H.length [(.t 4)] R) (args ++ List.replicate (42 - args.length) .und) H) : ACalls Try.prog 54 args H R :=
  ACalls.of_fn Try.func54 rfl (by kernel_rfl) rfl Try.ntmps54 h

/-- Heaps in which one object may be another. -/
def One (e : Nat) (H K : List AObj) : Prop := ∀ k o, k < H.length → k ≠ e → H[k]? = some o → K[k]? = some o

set_option maxHeartbeats 8000000 in
theorem del_spec {H0 : List AObj} {e : Nat} {zs : List (AV × (List Int × Int))} {g : FuncId} {p : AV × (List Int × Int) → Bool} (he : H0[e]? = some (ensO (zs.map (·.1)))) (hok : ∀ z ∈ zs, ∃ a v, z.1 = .agg [a, I v] ∧ oneC a = true)
    (hg : ∀ K, One e H0 K → ∀ z ∈ zs, ACalls Try.prog g [z.1] K fun r K' => K' = K ∧ r = Bo (p z)) (hn : zs.length ≤ 1000000) :
    ACalls Try.prog 54 [.slc e zs.length 0 zs.length none, .fn (.func g) [] []] H0 fun r K => ∃ es', r = .slc e zs.length 0 (zs.filter fun z => !p z).length none ∧ K[e]? = some (ensO es') ∧ es'.length = zs.length ∧
      es'.take (zs.filter fun z => !p z).length = (zs.filter fun z => !p z).map (·.1) ∧ One e H0 K := by
  have hel0 : e < H0.length := (List.getElem?_eq_some_iff.1 he).1
  have one0 : One e H0 H0 := fun k o _ _ h => h
  apply del_call
  repeat first | refine AWp.seq ?_ | refine AWp.block ?_
  refine AWp.ops ?_
  simp
  repeat first | refine AWp.seq ?_ | refine AWp.block ?_
  refine AWp.ops ?_
  simp
  refine (idxE_spec he hok (hg H0 one0) hn).mono ?_
  rintro r K ⟨hK, hr⟩
  subst K
  rcases hr with ⟨rfl, hall⟩ | ⟨i0, hi0, rfl, hlt, hat⟩
  · simp
    repeat first | refine AWp.seq ?_ | refine AWp.block ?_
    refine AWp.ops ?_
    simp
    refine AWp.cond (b := true) (by simp) (fun _ => ?_) (fun h => by cases h)
    repeat first | refine AWp.seq ?_ | refine AWp.block ?_
    refine AWp.ops ?_
    simp
    have hf : (zs.filter fun z => !p z) = zs := List.filter_eq_self.2 fun z hz => by simp [hall z hz]
    refine AWp.ret ?_
    simp
    refine retOk.of rfl ?_
    rw [hf]
    exact ⟨by simp, zs.map (fun x => x.1), he, by simp, by rw [List.take_of_length_le (by simp)], one0⟩
  · have hf0 : ((zs.take i0).filter fun z => !p z) = zs.take i0 := List.filter_eq_self.2 fun z hz => by
      obtain ⟨j, hj, rfl⟩ := List.mem_iff_getElem.1 hz
      simp at hj
      simp [hlt j (by omega) (by omega)]
    have hpi := hat hi0
    have hf1 : ((zs.take (i0 + 1)).filter fun z => !p z) = zs.take i0 := by
      rw [List.take_succ_eq_append_getElem hi0, List.filter_append, hf0, List.filter_cons_of_neg (by simp [hpi])]; simp
    have w0 := wrap_i64 (n := (i0 : Int) + 1) (by omega) (by omega)
    simp
    repeat first | refine AWp.seq ?_ | refine AWp.block ?_
    refine AWp.ops ?_
    simp
    refine AWp.cond (b := false) (by simp <;> omega) (fun h => by cases h) (fun _ => ?_)
    refine AWp.skip ?_
    simp only [qSeq]
    repeat first | refine AWp.seq ?_ | refine AWp.block ?_
    refine AWp.ops ?_
    simp [w0]
    obtain ⟨J, hJ⟩ : ∃ J : Nat → List AV → List AObj → Prop, J = fun j fr K => (i0 + 1 ≤ j ∧ j ≤ zs.length) ∧ ∃ (cur : List AV) (F : List (AV × (List Int × Int))), F = (zs.take j).filter (fun z => !p z) ∧ F.length < j ∧ cur.length = zs.length ∧ cur.take F.length = F.map (·.1) ∧ (∀ k, j ≤ k → cur[k]? = (zs.map (·.1))[k]?) ∧
        (∀ k, k < zs.length → ∃ a v, cur[k]? = some (.agg [a, v])) ∧ K[e]? = some (ensO cur) ∧ One e H0 K ∧ H0.length ≤ K.length ∧ fr = [.slc e zs.length 0 zs.length none, .fn (.func g) [] [], .und, .und, .imm true none 0 [], I F.length, I j, .und, .und, .und, .und, .und, .und, .und, .und, .und, .und, .und, .und, .und, .und, .und, .und, .und, .und, .und, .und, .und, .und, .und, .und, .und, .und, .und, .und, .und, .und, .und, .und, .und, .und, .und] := ⟨_, rfl⟩
    refine AWp.block (AWp.loop J (fun j => zs.length - j) (i0 + 1) (Weak.slots [0, 1, 4, 5, 6]) (by
      rw [hJ]
      refine ⟨⟨Nat.le_refl _, by omega⟩, zs.map (·.1), _, hf1.symm, by simp; omega, by simp, ?_, fun _ _ => rfl, fun k hk => ?_, he, one0, Nat.le_refl _, ?_⟩
      · rw [List.length_take, ← List.map_take]; congr 2; omega
      · obtain ⟨a, v, h1, _⟩ := hok zs[k] (List.getElem_mem hk)
        exact ⟨a, I v, by rw [List.getElem?_map, List.getElem?_eq_getElem hk]; simp [h1]⟩
      · simp; omega) ?_)
    intro j fr K hI
    rw [hJ] at hI
    obtain ⟨⟨hj1, hj2⟩, cur, F, hF, hFl, hcl, hct, hcs, hca, hke, hone, hKl, rfl⟩ := hI
    repeat first | refine AWp.seq ?_ | refine AWp.block ?_
    refine AWp.ops ?_
    simp
    by_cases hjn : j < zs.length
    case neg =>
      refine AWp.cond (b := false) (by simp; omega) (fun h => by cases h) (fun _ => ?_)
      refine AWp.exit ?_
      simp [qSeq, qBlock]
      have hjz : j = zs.length := by omega
      rw [hjz, List.take_length] at hF
      have b1 : F.length ≤ zs.length := by omega
      have b2 : (F.length : Int) ≤ zs.length := by omega
      have b3 : F.length + (zs.length - F.length) = zs.length := by omega
      have b4 : ¬ zs.length - F.length = 0 := by omega
      have hels : elems 2 K (.slc e zs.length 0 zs.length none) = some cur := by simp [elems, hke, hcl]
      repeat first | refine AWp.seq ?_ | refine AWp.block ?_
      refine AWp.ops ?_
      simp [hke, hcl, b1, b2, b3, b4]
      rw [← hF]
      have hset : ∀ y, (K.set e y)[e]? = some y := fun y => gs_eq hke
      have hdl : List.drop zs.length cur = [] := List.drop_eq_nil_of_le (by omega)
      have hnl : (cur.take F.length ++ List.replicate (zs.length - F.length) (AV.agg [.imm true none 0 [], I 0])).length = zs.length := by simp; omega
      rw [hdl, List.append_nil]
      have hct2 : (cur.take F.length ++ List.replicate (zs.length - F.length) (AV.agg [.imm true none 0 [], I 0])).take F.length = F.map (·.1) := by
        rw [List.take_append_of_le_length (by simp; omega), List.take_take, Nat.min_self]; exact hct
      obtain ⟨nc, hnc⟩ : ∃ nc, nc = cur.take F.length ++ List.replicate (zs.length - F.length) (AV.agg [.imm true none 0 [], I 0]) := ⟨_, rfl⟩
      rw [← hnc] at hnl hct2 ⊢
      repeat first | refine AWp.seq ?_ | refine AWp.block ?_
      refine AWp.ops ?_
      simp [hset, hnl, b1, b2]
      refine AWp.ret ?_
      simp
      refine retOk.of rfl ⟨by simp, nc, hset _, hnl, hct2, fun k o h1 h2 h3 => by rw [gs_ne (Ne.symm h2)]; exact hone k o h1 h2 h3⟩
    refine AWp.cond (b := true) (by simp; omega) (fun _ => ?_) (fun h => by cases h)
    refine AWp.skip ?_
    simp only [qSeq]
    obtain ⟨z, hz⟩ : ∃ z, z = zs[j] := ⟨_, rfl⟩
    obtain ⟨a, v, hav, ha1⟩ := hok zs[j] (List.getElem_mem hjn)
    have hgz := fun K h => hg K h zs[j] (List.getElem_mem hjn)
    have hcj := hcs j (Nat.le_refl _)
    rw [List.getElem?_map, List.getElem?_eq_getElem hjn, Option.map_some, hav] at hcj
    obtain ⟨_, hcj'⟩ := List.getElem?_eq_some_iff.1 hcj
    rw [hav] at hgz
    have hxt := List.take_succ_eq_append_getElem hjn
    have hwi := wrap_i64 (n := (j : Int) + 1) (by omega) (by omega)
    obtain ⟨m, hm⟩ : ∃ m, m = K.length := ⟨_, rfl⟩
    have hem : e < m := by omega
    have gL : ∀ x, (K ++ [x])[m]? = some x := fun x => by rw [List.getElem?_append_right (by omega), show m - K.length = 0 by omega]; rfl
    have sL : ∀ x y, (K ++ [x]).set m y = K ++ [y] := fun x y => by rw [List.set_append_right _ _ (by omega), show m - K.length = 0 by omega]; rfl
    repeat first | refine AWp.seq ?_ | refine AWp.block ?_
    refine AWp.ops ?_
    simp [hke, hcl, hcj, hcj', hjn, ← hm, gL, sL, ha1]
    obtain ⟨K1, hK1⟩ : ∃ K1, K1 = K ++ [enO (.agg [a, I v])] := ⟨_, rfl⟩
    rw [← hK1]
    have g1 : K1[e]? = some (ensO cur) := by rw [hK1, List.getElem?_append_left (by omega)]; exact hke
    have g2 : K1[m]? = some (enO (.agg [a, I v])) := by rw [hK1]; exact gL _
    have one1 : One e H0 K1 := fun k o h1 h2 h3 => by rw [hK1, List.getElem?_append_left (by omega)]; exact hone k o h1 h2 h3
    have hK1l : H0.length ≤ K1.length := by rw [hK1]; simp; omega
    repeat first | refine AWp.seq ?_ | refine AWp.block ?_
    refine AWp.ops ?_
    simp [g2]
    refine (hgz K1 one1).mono ?_
    rintro r K' ⟨hK', rfl⟩
    subst K'
    simp
    cases hp : p zs[j] with
    | true =>
      have hF2 : F = (zs.take (j + 1)).filter (fun z => !p z) := by
        rw [hxt, List.filter_append, ← hF, List.filter_cons_of_neg (by simp [hp])]; simp
      refine AWp.cond (b := false) (by simp) (fun h => by cases h) (fun _ => ?_)
      refine AWp.skip ?_
      simp only [qSeq, qBlock]
      repeat first | refine AWp.seq ?_ | refine AWp.block ?_
      refine AWp.ops ?_
      simp [hwi]
      refine ⟨j + 1, _, _, Weak.slots [0, 1, 4, 5, 6], ?_, by omega⟩
      rw [hJ]
      exact ⟨⟨by omega, by omega⟩, cur, F, hF2, by omega, hcl, hct, fun k hk => hcs k (by omega), hca, g1, one1, hK1l, by simp⟩
    | false =>
      have hF2 : F ++ [zs[j]] = (zs.take (j + 1)).filter (fun z => !p z) := by
        rw [hxt, List.filter_append, ← hF, List.filter_cons_of_pos (by simp [hp])]; simp
      obtain ⟨oa, ov, hco⟩ := hca F.length (by omega)
      obtain ⟨_, hco'⟩ := List.getElem?_eq_some_iff.1 hco
      have hFz : F.length < zs.length := by omega
      have wF := wrap_i64 (n := (F.length : Int) + 1) (by omega) (by omega)
      refine AWp.cond (b := true) (by simp) (fun _ => ?_) (fun h => by cases h)
      repeat first | refine AWp.seq ?_ | refine AWp.block ?_
      refine AWp.ops ?_
      simp [g1, g2, hcl, hco, hco', hFz, ha1]
      repeat first | refine AWp.seq ?_ | refine AWp.block ?_
      refine AWp.ops ?_
      simp [wF]
      repeat first | refine AWp.seq ?_ | refine AWp.block ?_
      refine AWp.ops ?_
      simp [hwi]
      refine ⟨j + 1, _, _, Weak.slots [0, 1, 4, 5, 6], ?_, by omega⟩
      rw [hJ]
      refine ⟨⟨by omega, by omega⟩, cur.set F.length (.agg [a, I v]), F ++ [zs[j]], hF2, by simp; omega, by simpa using hcl, ?_, fun k hk => ?_, fun k hk => ?_, by rw [gs_eq g1], fun k o h1 h2 h3 => by rw [gs_ne (Ne.symm h2)]; exact one1 k o h1 h2 h3, by simpa using hK1l, by simp⟩
      · rw [List.length_append, List.length_singleton, List.take_succ_eq_append_getElem (by simp; omega), List.take_set_of_le (by omega), hct]
        simp [hav]
      · rw [List.getElem?_set_ne (by omega)]; exact hcs k (by omega)
      · by_cases hk2 : F.length = k
        · subst hk2
          exact ⟨a, I v, List.getElem?_set_self (by omega)⟩
        · rw [List.getElem?_set_ne hk2]; exact hca k hk

/-- A list without its zeros. -/
def trimF (X : List Int × List (List Int × Int)) : (List Int × List (List Int × Int)) × Int :=
  if cooCheck X.1 X.2 ≠ 0 then (([], []), cooCheck X.1 X.2) else ((X.1, X.2.filter fun t => !decide (t.2 = 0)), 0)

def cTrim_8 : AC := (.seq (.ops [⟨(some 17), none, (.k (.ld 2 true (.t 1)))⟩, ⟨none, none, (.k (.st 2 (.t 2) (.t 17)))⟩, ⟨(some 3), none, (.k (.mov (.c (.sc (.int .i64 0)))))⟩]) .ret)
def cTrim_7 : AC := (.seq (.ops [⟨(some 13), none, (.k (.fad 1 (.t 1)))⟩, ⟨(some 14), none, (.k (.ld 1 false (.t 13)))⟩, ⟨(some 15), none, (.call false (.c (.fn (.func 54) [] [])) [(.t 14), (.c (.fn (.func 55) [] []))])⟩, ⟨(some 16), none, (.k (.fad 1 (.t 1)))⟩, ⟨none, none, (.k (.st 1 (.t 16) (.t 15)))⟩]) cTrim_8)
def cTrim_6 : AC := (.seq (.ops [⟨(some 11), none, (.k (.ld 2 true (.t 1)))⟩, ⟨(some 12), none, (.call false (.c (.fn (.func 45) [] [])) [(.t 11)])⟩, ⟨none, none, (.k (.st 2 (.t 1) (.t 12)))⟩]) cTrim_7)
def cTrim_5 : AC := (.seq (.ops [⟨(some 9), none, (.k (.mk [(.imm true none 0 []), (.imm true none 0 [])] []))⟩, ⟨(some 10), none, (.k (.mov (.t 4)))⟩, ⟨none, none, (.k (.st 2 (.t 2) (.t 9)))⟩, ⟨(some 3), none, (.k (.mov (.t 10)))⟩]) .ret)
def cTrim_4 : AC := (.cond (.t 8) cTrim_5 .skip)
def cTrim_3 : AC := (.seq (.ops [⟨(some 7), none, (.k (.mov (.t 4)))⟩, ⟨(some 8), none, (.k (.bin .neq (.t 7) (.c (.sc (.int .i64 0)))))⟩]) cTrim_4)
def cTrim_2 : AC := (.seq (.ops [⟨(some 5), none, (.k (.ld 2 true (.t 1)))⟩, ⟨(some 6), none, (.call false (.c (.fn (.func 13) [] [])) [(.t 5)])⟩, ⟨(some 4), none, (.k (.mov (.t 6)))⟩]) cTrim_3)
def cTrim_1 : AC := (.seq cTrim_2 cTrim_6)
def cTrim_ac : AC := (.seq (.ops [⟨(some 1), none, (.k (.new 25 2 (.t 0)))⟩, ⟨(some 2), none, (.k (.new 25 2 (.c (.agg [(.imm true none 0 []), (.imm true none 0 [])]))))⟩, ⟨(some 3), none, (.k (.mov (.c (.sc (.int .i64 0)))))⟩]) cTrim_1)
theorem cTrim_call {args : List AV} {H : List AObj} {R : AV → List AObj → Prop} (h : AWp Try.prog [] H.length cTrim_ac (bodyQ H.length [(.cell 2 2 true), (.t 3)] R) (args ++ List.replicate (18 - args.length) .und) H) : ACalls Try.prog 23 args H R :=
  ACalls.of_fn Try.func23 rfl (by kernel_rfl) rfl Try.ntmps23 h

set_option maxHeartbeats 4000000 in
theorem cTrim_spec {a : AV} {X : List Int × List (List Int × Int)} (ha : Coo a X) (hX : InX X) : ACalls Try.prog 23 [a] [] (cooR (trimF X)) := by
  have ha' := ha
  obtain ⟨S, E⟩ := X
  obtain ⟨s, e, rfl, hS, hE⟩ := ha
  simp only at hS hE
  obtain ⟨⟨nl1, c01, sz1, rfl, hs1⟩, hlen1, hx1⟩ := hS
  obtain ⟨nl, cl, sz, es, rfl, he1, he2, hE⟩ := hE
  apply cTrim_call
  repeat first | refine AWp.seq ?_ | refine AWp.block ?_
  refine AWp.ops ?_
  simp
  repeat first | refine AWp.seq ?_ | refine AWp.block ?_
  refine AWp.ops ?_
  simp
  refine ((cCheck_spec ha').pure (by simp) (by rintro r rfl; simp) _).mono ?_
  rintro r H' ⟨rfl, rfl⟩
  simp
  repeat first | refine AWp.seq ?_ | refine AWp.block ?_
  refine AWp.ops ?_
  simp
  by_cases h : cooCheck S E = 0
  case neg =>
    refine AWp.cond (b := true) (by simp [h]) (fun _ => ?_) (fun h => by cases h)
    have he : trimF (S, E) = (([], []), cooCheck S E) := by rw [trimF, if_pos h]
    repeat first | refine AWp.seq ?_ | refine AWp.block ?_
    refine AWp.ops ?_
    simp
    refine AWp.ret ?_
    simp
    refine retOk.of rfl ⟨.agg [.imm true none 0 [], .imm true none 0 []], by simp [he], by rw [he]; exact CooO.nil⟩
  refine AWp.cond (b := false) (by simp [h]) (fun h => by cases h) (fun _ => ?_)
  obtain ⟨hS4, hE6, hcs⟩ : S.length ≤ 4 ∧ E.length ≤ 65536 ∧ ∀ t ∈ E, t.1.length = S.length := by
    have h0 := h
    unfold cooCheck at h0
    split at h0
    · rename_i h1; exact absurd h0 h1
    split at h0
    · cases h0
    split at h0
    · cases h0
    rename_i h3
    refine ⟨cells_len (by omega), by omega, fun t ht => ?_⟩
    have h3 : E.any (fun t => decide ((atF S t.1).2 ≠ 0)) = false := by simpa using h3
    have h4 := List.any_eq_false.1 h3 t ht
    have h5 : (atF S t.1).2 = 0 := by simpa using h4
    unfold atF at h5
    split at h5
    · rename_i h6; exact absurd h5 h6
    split at h5
    · simp at h5
    · rename_i h7; omega
  have he : trimF (S, E) = ((S, E.filter fun t => !decide (t.2 = 0)), 0) := by rw [trimF, if_neg (by simpa using h)]
  rw [he]
  refine AWp.skip ?_
  simp only [qSeq]
  repeat first | refine AWp.seq ?_ | refine AWp.block ?_
  refine AWp.ops ?_
  simp
  refine (cooF_at (owned_spec ha' (by simp; omega) (by simp; omega) (fun w hw => by have := hcs w hw; omega)) (by simp) _).mono ?_
  rintro r H' ⟨G, rfl, s2, e2, es2, rfl, hs2, hb2, hes2, hE2⟩
  simp only at hs2 hE2
  simp at hs2 hb2 hes2 hE2
  have hs2o := hs2.one
  obtain ⟨zs, hz1, hz2, hz3⟩ := hE2.zip
  have hzl : zs.length = E.length := by have := congrArg List.length hz2; simpa using this
  simp [hs2o]
  repeat first | refine AWp.seq ?_ | refine AWp.block ?_
  refine AWp.ops ?_
  simp
  obtain ⟨K, hK⟩ : ∃ K, K = cooO (.agg [s2, .slc e2 E.length 0 E.length none]) :: cooO (.agg [.imm true none 0 [], .imm true none 0 []]) :: G := ⟨_, rfl⟩
  rw [← hK]
  have gK : ∀ (a b : AObj) k, 2 ≤ k → (a :: b :: G)[k]? = K[k]? := fun a b k hk => by
    obtain ⟨j, rfl⟩ := Nat.exists_eq_add_of_le' hk
    rw [hK]; simp
  have ke : K[e2]? = some (ensO (zs.map (·.1))) := by rw [hz1, ← gK _ _ e2 hb2]; exact hes2
  have zK : ∀ z ∈ zs, ZOk 2 K z := fun z hz => (hz3 z hz).to (Nat.le_refl _) fun k c hk h => by rw [← gK _ _ k hk]; exact h
  have sK : rowC 2 K s2 S := hs2.to (Nat.le_refl _) fun k hk h => by rw [← gK _ _ k hk]; exact h
  have k0 : K[0]? = some (cooO (.agg [s2, .slc e2 E.length 0 E.length none])) := by rw [hK]; rfl
  have k1 : K[1]? = some (cooO (.agg [.imm true none 0 [], .imm true none 0 []])) := by rw [hK]; rfl
  have hzE : ∀ z ∈ zs, z.2 ∈ E := fun z hz => by rw [← hz2]; exact List.mem_map_of_mem hz
  have ni : ∀ k c, K[k]? = some (intOb c) → k ≠ e2 := fun k c h => by
    rintro rfl
    rw [ke] at h
    simp at h
  have hm := del_spec (H0 := K) (e := e2) (zs := zs) (g := 55) (p := fun z => decide (z.2.2 = 0)) ke
    (fun z hz => let ⟨a, h1, h2⟩ := zK z hz; ⟨a, _, h1, h2.one⟩)
    (fun K' hK' z hz => by
      obtain ⟨a, ha1, ha2⟩ := zK z hz
      have ha3 : rowC 2 K' a z.2.1 := ha2.to (Nat.le_refl _) fun k _ h => hK' k _ (List.getElem?_eq_some_iff.1 h).1 (ni k _ h) h
      refine ACalls.mono (ACalls.pureLent 4 (R := fun r => r = Bo (decide (z.2.2 = 0))) ?_ (by rintro r rfl s; simp)) (fun r H h => h)
      rw [ha1]
      simp
      exact (nul_spec (ha3.read (hX.2 _ (hzE z hz)) 2)).mono fun r H h => ⟨h.1, by rw [h.2]⟩) (by omega)
  rw [hzl] at hm
  refine hm.mono ?_
  rintro r K' ⟨cur, rfl, kp, hcl, hct, kt⟩
  obtain ⟨Z, hZ⟩ : ∃ Z, Z = zs.filter fun z => !decide (z.2.2 = 0) := ⟨_, rfl⟩
  rw [← hZ] at hct ⊢
  have hZm : Z.map (·.2) = E.filter fun t => !decide (t.2 = 0) := by
    rw [hZ, ← hz2, List.filter_map]; rfl
  have hZl : Z.length ≤ E.length := by rw [hZ, ← hzl]; exact List.length_filter_le _ _
  have hKe : e2 < K.length := (List.getElem?_eq_some_iff.1 ke).1
  have k0' := kt 0 _ (by omega) (by omega) k0
  have k1' := kt 1 _ (by omega) (by omega) k1
  have g0 : ∀ x, (K'.set 0 x)[0]? = some x := fun x => gs_eq k0'
  have g1 : ∀ x, (K'.set 0 x)[1]? = some (cooO (.agg [.imm true none 0 [], .imm true none 0 []])) := fun x => by rw [gs_ne (by omega)]; exact k1'
  simp [k0', hs2o]
  repeat first | refine AWp.seq ?_ | refine AWp.block ?_
  refine AWp.ops ?_
  simp [g0, g1, hs2o]
  have g2 : ∀ x y, ((K'.set 0 x).set 1 y)[1]? = some y := fun x y => gs_eq (g1 x)
  have g3 : ∀ x y k, 2 ≤ k → ((K'.set 0 x).set 1 y)[k]? = K'[k]? := fun x y k hk => by rw [gs_ne (by omega), gs_ne (by omega)]
  refine AWp.ret ?_
  simp
  refine retOk.of (vs := [.agg [s2, .slc e2 E.length 0 Z.length none], I 0]) (by simp [g2]) ?_
  have zy : ∀ z ∈ Z, ZOk 0 ((K'.set 0 (cooO (.agg [s2, .slc e2 E.length 0 Z.length none]))).set 1 (cooO (.agg [s2, .slc e2 E.length 0 Z.length none]))) z := fun z hz => by
    rw [hZ] at hz
    refine (zK z (List.mem_filter.1 hz).1).to (by omega) fun k c hk h => ?_
    rw [g3 _ _ k (by omega)]
    exact kt k _ (List.getElem?_eq_some_iff.1 h).1 (ni k c h) h
  have hEZ : (E.filter fun t => !decide (t.2 = 0)).length = Z.length := by rw [← hZm]; simp
  refine ⟨_, rfl, s2, _, rfl, sK.to (by omega) fun k hk h => ?_, .inr ⟨e2, cur, by omega, ?_, ?_, ?_, ?_⟩⟩
  · rw [g3 _ _ k (by omega)]
    exact kt k _ (List.getElem?_eq_some_iff.1 h).1 (ni k _ h) h
  · simp only [hEZ, hcl, hzl]
  · simp only [hEZ, hcl, hzl]; exact hZl
  · rw [g3 _ _ e2 (by omega)]; exact kp
  · have := EntsO.of zy
    rw [hZm, ← hct] at this
    simp only [hEZ]
    exact this
theorem trimF_in {X : List Int × List (List Int × Int)} (hX : InX X) : InX (trimF X).1 := by
  unfold trimF
  split
  · exact ⟨⟨by simp, by simp⟩, by simp⟩
  · exact ⟨hX.1, fun w hw => hX.2 w (List.mem_filter.1 hw).1⟩
end Go.Fw
namespace Go.Fw
open Go Go.RowKit Go.Proofs
set_option maxRecDepth 100000
set_option linter.unusedSimpArgs false
set_option linter.unusedVariables false

def plainF (X : List Int × List (List Int × Int)) : (List Int × List (List Int × Int)) × Int :=
  if (joinF X []).2 ≠ 0 then (([], []), (joinF X []).2) else trimF (joinF X []).1
theorem plainF_in {X : List Int × List (List Int × Int)} (hX : InX X) : InX (plainF X).1 := by
  unfold plainF
  split
  · exact ⟨⟨by simp, by simp⟩, by simp⟩
  · exact trimF_in (joinF_in hX)

def cPlain_6 : AC := (.seq (.ops [⟨(some 14), none, (.k (.ld 2 true (.t 1)))⟩, ⟨(some 15), none, (.call false (.c (.fn (.func 23) [] [])) [(.t 14)])⟩, ⟨(some 16), none, (.k (.ext (.t 15) 0))⟩, ⟨(some 17), none, (.k (.ext (.t 15) 1))⟩, ⟨none, none, (.k (.st 2 (.t 2) (.t 16)))⟩, ⟨(some 3), none, (.k (.mov (.t 17)))⟩]) .ret)
def cPlain_5 : AC := (.seq (.ops [⟨(some 12), none, (.k (.mk [(.imm true none 0 []), (.imm true none 0 [])] []))⟩, ⟨(some 13), none, (.k (.mov (.t 4)))⟩, ⟨none, none, (.k (.st 2 (.t 2) (.t 12)))⟩, ⟨(some 3), none, (.k (.mov (.t 13)))⟩]) .ret)
def cPlain_4 : AC := (.cond (.t 11) cPlain_5 .skip)
def cPlain_3 : AC := (.seq (.ops [⟨(some 10), none, (.k (.mov (.t 4)))⟩, ⟨(some 11), none, (.k (.bin .neq (.t 10) (.c (.sc (.int .i64 0)))))⟩]) cPlain_4)
def cPlain_2 : AC := (.seq cPlain_3 cPlain_6)
def cPlain_1 : AC := (.seq (.ops [⟨(some 6), none, (.k (.ld 2 true (.t 1)))⟩, ⟨(some 7), none, (.call false (.c (.fn (.func 16) [] [])) [(.t 6), (.c (.imm true none 0 []))])⟩, ⟨(some 5), none, (.k (.mov (.t 7)))⟩, ⟨(some 8), none, (.k (.ext (.t 5) 0))⟩, ⟨(some 9), none, (.k (.ext (.t 5) 1))⟩, ⟨none, none, (.k (.st 2 (.t 1) (.t 8)))⟩, ⟨(some 4), none, (.k (.mov (.t 9)))⟩]) cPlain_2)
def cPlain_ac : AC := (.seq (.ops [⟨(some 1), none, (.k (.new 25 2 (.t 0)))⟩, ⟨(some 2), none, (.k (.new 25 2 (.c (.agg [(.imm true none 0 []), (.imm true none 0 [])]))))⟩, ⟨(some 3), none, (.k (.mov (.c (.sc (.int .i64 0)))))⟩]) cPlain_1)
theorem cPlain_call {args : List AV} {H : List AObj} {R : AV → List AObj → Prop} (h : AWp Try.prog [] H.length cPlain_ac (bodyQ H.length [(.cell 2 2 true), (.t 3)] R) (args ++ List.replicate (18 - args.length) .und) H) : ACalls Try.prog 25 args H R :=
  ACalls.of_fn Try.func25 rfl (by kernel_rfl) rfl Try.ntmps25 h

set_option maxHeartbeats 4000000 in
theorem cPlain_spec {a : AV} {X : List Int × List (List Int × Int)} (ha : Coo a X) (hX : InX X) (hXE : X.2.length ≤ 1000000) : ACalls Try.prog 25 [a] [] (cooR (plainF X)) := by
  have ha' := ha
  have hano := ha.noRef
  have hone : ∃ x y, a = .agg [x, y] ∧ oneC x = true ∧ oneC y = true := by
    obtain ⟨s, e, rfl, ⟨⟨_, _, _, rfl, _⟩, _⟩, ⟨_, _, _, _, rfl, _⟩⟩ := ha
    exact ⟨_, _, rfl, rfl, rfl⟩
  obtain ⟨a1, a2, rfl, ha1, ha2⟩ := hone
  apply cPlain_call
  repeat first | refine AWp.seq ?_ | refine AWp.block ?_
  refine AWp.ops ?_
  simp [ha1, ha2]
  repeat first | refine AWp.seq ?_ | refine AWp.block ?_
  refine AWp.ops ?_
  simp
  refine (coo_at (cJoin_spec ha' ISl.nil (by simp) hX hXE) (by simp at hano ⊢; exact hano) _).mono ?_
  rintro r H' ⟨G, x, rfl, rfl, hx⟩
  have hx' := hx
  obtain ⟨s, e, rfl, hs1, he1⟩ := hx.one
  simp [hs1, he1]
  by_cases h : (joinF X []).2 = 0
  case neg =>
    have he : plainF X = (([], []), (joinF X []).2) := by rw [plainF, if_pos h]
    repeat first | refine AWp.seq ?_ | refine AWp.block ?_
    refine AWp.ops ?_
    simp
    refine AWp.cond (b := true) (by simp [h]) (fun _ => ?_) (fun h => by cases h)
    repeat first | refine AWp.seq ?_ | refine AWp.block ?_
    refine AWp.ops ?_
    simp
    refine AWp.ret ?_
    simp
    refine retOk.of rfl ⟨.agg [.imm true none 0 [], .imm true none 0 []], by simp [he], by rw [he]; exact CooO.nil⟩
  have he : plainF X = trimF (joinF X []).1 := by rw [plainF, if_neg (by simpa using h)]
  rw [he]
  repeat first | refine AWp.seq ?_ | refine AWp.block ?_
  refine AWp.ops ?_
  simp
  refine AWp.cond (b := false) (by simp [h]) (fun h => by cases h) (fun _ => ?_)
  refine AWp.skip ?_
  simp only [qSeq]
  simp at hx'
  obtain ⟨K, hK⟩ : ∃ K, K = cooO (.agg [s, e]) :: cooO (.agg [.imm true none 0 [], .imm true none 0 []]) :: G := ⟨_, rfl⟩
  have gK : ∀ (a b : AObj) k, 2 ≤ k → (a :: b :: G)[k]? = K[k]? := fun a b k hk => by
    obtain ⟨j, rfl⟩ := Nat.exists_eq_add_of_le' hk
    rw [hK]; simp
  have hxK : CooO 2 K (.agg [s, e]) (joinF X []).1 := hx'.to (Nat.le_refl _) (fun k c hk h => by rw [← gK _ _ k hk]; exact h) (fun k es hk h => by rw [← gK _ _ k hk]; exact h)
  rw [← hK]
  have k0 : K[0]? = some (cooO (.agg [s, e])) := by rw [hK]; rfl
  have k1 : K[1]? = some (cooO (.agg [.imm true none 0 [], .imm true none 0 []])) := by rw [hK]; rfl
  have hKl : 2 ≤ K.length := by rw [hK]; simp
  repeat first | refine AWp.seq ?_ | refine AWp.block ?_
  refine AWp.ops ?_
  simp [k0]
  have ht := cTrim_spec (hxK.read (joinF_in hX) 4) (joinF_in hX)
  refine (coo_lent 8 (args := [.agg [s, e]]) (H := K) (by simpa using ht)).mono ?_
  rintro r K' ⟨G2, y, rfl, rfl, hy⟩
  have hy' := hy
  obtain ⟨s3, e3, rfl, hs3, he3⟩ := hy.one
  have k1' : ∀ G, (K ++ G)[1]? = some (cooO (.agg [.imm true none 0 [], .imm true none 0 []])) := fun G => by rw [List.getElem?_append_left (by omega)]; exact k1
  simp [k1', hs3, he3]
  have g2 : ∀ G y, ((K ++ G).set 1 y)[1]? = some y := fun G y => gs_eq (k1' G)
  refine AWp.ret ?_
  simp
  refine retOk.of (vs := [.agg [s3, e3], I (trimF (joinF X []).1).2]) (by simp [g2]) ?_
  refine ⟨_, rfl, hy'.to (by omega) (fun k c hk h => ?_) (fun k es hk h => ?_)⟩
  · rw [gs_ne (by omega)]; exact h
  · rw [gs_ne (by omega)]; exact h
end Go.Fw
