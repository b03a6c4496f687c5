import Derived.Test.YtgdkdojjfijipaaFwcoo1
import Derived.Test.YtgdkdojjfijipaaFwsort1
import Derived.Test.YtgdkdojjfijipaaFweq1
namespace Go.Fw
open Go Go.RowKit Go.Proofs
set_option maxRecDepth 100000
set_option linter.unusedSimpArgs false
set_option linter.unusedVariables false

/-- The modes, in their order. -/
def plainL (n : Nat) : List Int := (List.range n).map fun (i : Nat) => (i : Int)
@[simp] theorem plainL_len (n : Nat) : (plainL n).length = n := by simp [plainL]
/-- An order of a list's modes, or what is wrong. -/
def orderF (X : List Int × List (List Int × Int)) (O : List Int) : List Int × Int :=
  if cooCheck X.1 X.2 ≠ 0 then ([], cooCheck X.1 X.2) else if O = [] then (plainL X.1.length, 0) else if sortI O ≠ plainL X.1.length then ([], 1) else (O, 0)
theorem cooCheck_len {S : List Int} {E : List (List Int × Int)} (h : cooCheck S E = 0) : S.length ≤ 4 ∧ E.length ≤ 65536 ∧ (cells S).2 = 0 ∧ ∀ t ∈ E, (atF S t.1).2 = 0 := by
  unfold cooCheck at h
  split at h
  · rename_i h1; exact absurd h h1
  rename_i h1
  split at h
  · cases h
  split at h
  · cases h
  rename_i h2 h3
  refine ⟨cells_len (by omega), by omega, by omega, fun t ht => ?_⟩
  have h3 : E.any (fun t => decide ((atF S t.1).2 ≠ 0)) = false := by simpa using h3
  have := List.any_eq_false.1 h3 t ht
  simpa using this

def ordered_23 : AC := (.seq (.ops [⟨(some 38), none, (.k (.mov (.t 1)))⟩, ⟨(some 4), none, (.k (.mov (.t 38)))⟩, ⟨(some 5), none, (.k (.mov (.c (.sc (.int .i64 0)))))⟩]) .ret)
def ordered_22 : AC := (.cond (.t 37) (.seq (.ops [⟨(some 4), none, (.k (.mov (.c (.imm true none 0 []))))⟩, ⟨(some 5), none, (.k (.mov (.c (.sc (.int .i64 1)))))⟩]) .ret) .skip)
def ordered_21 : AC := (.seq (.ops [⟨(some 32), none, (.k (.mov (.t 1)))⟩, ⟨(some 33), none, (.call false (.c (.fn (.func 74) [] [])) [(.t 32)])⟩, ⟨(some 34), none, (.call false (.c (.fn (.func 73) [] [])) [(.t 33)])⟩, ⟨(some 35), none, (.k (.mov (.t 7)))⟩, ⟨(some 36), none, (.call false (.c (.fn (.func 49) [] [])) [(.t 34), (.t 35)])⟩, ⟨(some 37), none, (.k (.un .not (.t 36)))⟩]) ordered_22)
def ordered_20 : AC := (.seq ordered_21 ordered_23)
def ordered_19 : AC := (.seq (.ops [⟨(some 31), none, (.k (.mov (.t 7)))⟩, ⟨(some 4), none, (.k (.mov (.t 31)))⟩, ⟨(some 5), none, (.k (.mov (.c (.sc (.int .i64 0)))))⟩]) .ret)
def ordered_18 : AC := (.cond (.t 30) ordered_19 .skip)
def ordered_17 : AC := (.seq (.ops [⟨(some 28), none, (.k (.mov (.t 1)))⟩, ⟨(some 29), none, (.k (.len (.t 28)))⟩, ⟨(some 30), none, (.k (.bin .eql (.t 29) (.c (.sc (.int .i64 0)))))⟩]) ordered_18)
def ordered_16 : AC := (.seq ordered_17 ordered_20)
def ordered_15 : AC := (.seq (.ops [⟨(some 22), none, (.k (.mov (.t 20)))⟩, ⟨(some 8), none, (.k (.mov (.t 22)))⟩]) (.ops [⟨(some 23), none, (.k (.mov (.t 7)))⟩, ⟨(some 24), none, (.k (.mov (.t 8)))⟩, ⟨(some 25), none, (.k (.mov (.t 8)))⟩, ⟨(some 26), none, (.k (.iad 1 (.t 23) (.t 24)))⟩, ⟨none, none, (.k (.st 1 (.t 26) (.t 25)))⟩]))
def ordered_14 : AC := (.block 1 ordered_15)
def ordered_13 : AC := (.seq ordered_14 (.ops [⟨(some 27), none, (.k (.bin .add (.t 20) (.c (.sc (.int .i64 1)))))⟩, ⟨(some 20), none, (.k (.mov (.t 27)))⟩]))
def ordered_12 : AC := (.seq (.cond (.t 21) .skip (.exit 0)) ordered_13)
def ordered_11 : AC := (.seq (.ops [⟨(some 21), none, (.k (.bin .lss (.t 20) (.t 19)))⟩]) ordered_12)
def ordered_10 : AC := (.loop ordered_11)
def ordered_9 : AC := (.block 0 ordered_10)
def ordered_8 : AC := (.seq (.ops [⟨(some 18), none, (.k (.mov (.t 7)))⟩, ⟨(some 19), none, (.k (.len (.t 18)))⟩, ⟨(some 20), none, (.k (.mov (.c (.sc (.int .i64 0)))))⟩]) ordered_9)
def ordered_7 : AC := (.seq ordered_8 ordered_16)
def ordered_6 : AC := (.seq (.ops [⟨(some 14), none, (.k (.fad 0 (.t 2)))⟩, ⟨(some 15), none, (.k (.ld 1 false (.t 14)))⟩, ⟨(some 16), none, (.k (.len (.t 15)))⟩, ⟨(some 17), none, (.k (.mkS 3 1 8 (.sc (.int .i64 0)) (.t 16) (.t 16)))⟩, ⟨(some 7), none, (.k (.mov (.t 17)))⟩]) ordered_7)
def ordered_5 : AC := (.seq (.ops [⟨(some 13), none, (.k (.mov (.t 6)))⟩, ⟨(some 4), none, (.k (.mov (.c (.imm true none 0 []))))⟩, ⟨(some 5), none, (.k (.mov (.t 13)))⟩]) .ret)
def ordered_4 : AC := (.cond (.t 12) ordered_5 .skip)
def ordered_3 : AC := (.seq (.ops [⟨(some 11), none, (.k (.mov (.t 6)))⟩, ⟨(some 12), none, (.k (.bin .neq (.t 11) (.c (.sc (.int .i64 0)))))⟩]) ordered_4)
def ordered_2 : AC := (.seq (.ops [⟨(some 9), none, (.k (.ld 2 true (.t 2)))⟩, ⟨(some 10), none, (.call false (.c (.fn (.func 13) [] [])) [(.t 9)])⟩, ⟨(some 6), none, (.k (.mov (.t 10)))⟩]) ordered_3)
def ordered_1 : AC := (.seq ordered_2 ordered_6)
def ordered_ac : AC := (.seq (.ops [⟨(some 2), none, (.k (.new 25 2 (.t 0)))⟩, ⟨(some 4), none, (.k (.mov (.c (.imm true none 0 []))))⟩, ⟨(some 5), none, (.k (.mov (.c (.sc (.int .i64 0)))))⟩]) ordered_1)
theorem ordered_call {args : List AV} {H : List AObj} {R : AV → List AObj → Prop} (h : AWp Try.prog [] H.length ordered_ac (bodyQ H.length [(.t 4), (.t 5)] R) (args ++ List.replicate (39 - args.length) .und) H) : ACalls Try.prog 44 args H R :=
  ACalls.of_fn Try.func44 rfl (by kernel_rfl) rfl Try.ntmps44 h

set_option maxHeartbeats 2000000 in
theorem ordered_spec {a o : AV} {X : List Int × List (List Int × Int)} {O : List Int} (ha : Coo a X) (ho : ISl o O) (hO : O.length ≤ 1000) : ACalls Try.prog 44 [a, o] [] fun r H' => H' = [] ∧ ∃ q, r = .tup [q, I (orderF X O).2] ∧ ISl q (orderF X O).1 := by
  have ha' := ha
  obtain ⟨S, E⟩ := X
  obtain ⟨s, e, rfl, hS, hE⟩ := ha
  simp only at hS hE
  have hS' := hS
  have ho' := ho
  obtain ⟨⟨nl1, c01, sz1, rfl, hs1⟩, hlen1, hx1⟩ := hS
  obtain ⟨nl, cl, sz, es, rfl, he1, he2, hE⟩ := hE
  obtain ⟨⟨nlo, co, szo, rfl, hso⟩, hlo, hxo⟩ := ho
  have base : ACalls Try.prog 44 [.agg [.imm nl1 c01 sz1 (S.map I), .imm nl cl sz es], .imm nlo co szo (O.map I)] [] fun r G => (r = .tup [.imm true none 0 [], I (orderF (S, E) O).2] ∧ (orderF (S, E) O).1 = []) ∨ ((orderF (S, E) O).2 = 0 ∧ O = [] ∧ (orderF (S, E) O).1 = plainL S.length ∧ S.length ≤ 4 ∧ r = .tup [.slc 1 S.length 0 S.length none, I 0] ∧ G[1]? = some (intOb (plainL S.length))) ∨
      (r = .tup [.imm nlo co szo (O.map I), I 0] ∧ (orderF (S, E) O) = (O, 0)) := by
    apply ordered_call
    repeat first | refine AWp.seq ?_ | refine AWp.block ?_
    refine AWp.ops ?_
    simp
    repeat first | refine AWp.seq ?_ | refine AWp.block ?_
    refine AWp.ops ?_
    simp
    refine ((cCheck_spec ha').pure (by simp) (by rintro r rfl; simp) _).mono ?_
    rintro r H' ⟨rfl, rfl⟩
    simp
    repeat first | refine AWp.seq ?_ | refine AWp.block ?_
    refine AWp.ops ?_
    simp
    by_cases h : cooCheck S E = 0
    case neg =>
      refine AWp.cond (b := true) (by simp [h]) (fun _ => ?_) (fun h => by cases h)
      have he : orderF (S, E) O = ([], cooCheck S E) := by rw [orderF, if_pos h]
      repeat first | refine AWp.seq ?_ | refine AWp.block ?_
      refine AWp.ops ?_
      simp
      refine AWp.ret ?_
      simp
      refine retOk.of rfl (.inl ?_)
      simp [he]
    have hS4 := (cooCheck_len h).1
    refine AWp.cond (b := false) (by simp [h]) (fun h => by cases h) (fun _ => ?_)
    have m1 : S.length * 8 ≤ 281474976710656 := by omega
    have m2 : S.length ≤ 9223372036854775807 := by omega
    have m1' : (S.length : Int) * 8 ≤ 281474976710656 := by omega
    have m2' : (S.length : Int) ≤ 9223372036854775807 := by omega
    have hrep : List.replicate S.length (AV.sc (Value.int IntKind.i64 0)) = (List.replicate S.length (0 : Int)).map I := by simp
    refine AWp.skip ?_
    simp only [qSeq]
    repeat first | refine AWp.seq ?_ | refine AWp.block ?_
    refine AWp.ops ?_
    simp [m1, m2, m1', m2']
    rw [hrep]
    repeat first | refine AWp.seq ?_ | refine AWp.block ?_
    refine AWp.ops ?_
    simp
    obtain ⟨J, hJ⟩ : ∃ J : Nat → List AV → List AObj → Prop, J = fun i fr H => i ≤ S.length ∧ ∃ (P : List Int), (P.length = S.length ∧ ∀ k, k < i → P.getD k 0 = k) ∧ H = [cooO (.agg [.imm nl1 c01 sz1 (S.map I), .imm nl cl sz es]), intOb P] ∧
      fr = [.und, .imm nlo co szo (O.map I), .ptr 0 1 0 0, .und, .und, .und, .und, .slc 1 S.length 0 S.length none, .und, .und, .und, .und, .und, .und, .und, .und, .und, .und, .und, I S.length, I i, .und, .und, .und, .und, .und, .und, .und, .und, .und, .und, .und, .und, .und, .und, .und, .und, .und, .und] := ⟨_, rfl⟩
    refine AWp.block (AWp.loop J (fun i => S.length - i) 0 (Weak.slots [1, 2, 7, 19, 20]) (by rw [hJ]; exact ⟨by omega, List.replicate S.length 0, ⟨by simp, fun k hk => by omega⟩, by simp, by simp⟩) ?_)
    intro i fr H hI
    rw [hJ] at hI
    obtain ⟨hi, P, hinv, rfl, rfl⟩ := hI
    repeat first | refine AWp.seq ?_ | refine AWp.block ?_
    refine AWp.ops ?_
    simp
    refine AWp.seq (AWp.cond (b := decide (i < S.length)) (by simp <;> omega) ?_ ?_)
    ·
      intro hb
      have hb : i < S.length := by simpa using hb
      refine AWp.skip ?_
      simp only [qSeq]
      obtain ⟨hPl, hP⟩ := hinv
      have hbP : i < P.length := by omega
      have hwi := wrap_i64 (n := (i : Int) + 1) (by omega) (by omega)
      repeat first | refine AWp.seq ?_ | refine AWp.block ?_
      refine AWp.ops ?_
      simp
      repeat first | refine AWp.seq ?_ | refine AWp.block ?_
      refine AWp.ops ?_
      simp [hPl, hb, hbP]
      repeat first | refine AWp.seq ?_ | refine AWp.block ?_
      refine AWp.ops ?_
      simp
      refine ⟨i + 1, _, _, Weak.slots [1, 2, 7, 19, 20], ?_, by omega⟩
      rw [hJ]
      refine ⟨by omega, P.set i (i : Int), ?_, by simp, by simp [wrap_i64 (n := (i : Int) + 1) (by omega) (by omega)]⟩
      refine ⟨by simpa using hPl, fun k hk => ?_⟩
      by_cases e : i = k
      · subst e; simp [hbP]
      · have := hP k (by omega)
        simpa [List.getD, List.getElem?_set_ne e] using this
    ·
      intro hb
      have hb : ¬ i < S.length := by simpa using hb
      refine AWp.exit ?_
      simp [qSeq, qBlock]
      obtain ⟨hPl, hP⟩ := hinv
      have hPe : P = plainL S.length := by
        apply List.ext_getElem (by simp [hPl])
        intro k h1 h2
        have := hP k (by omega)
        simp [List.getD, h1] at this
        simp [plainL, this]
      subst hPe
      repeat first | refine AWp.seq ?_ | refine AWp.block ?_
      refine AWp.ops ?_
      simp
      by_cases hO0 : O = []
      · refine AWp.cond (b := true) (by simp [hO0]) (fun _ => ?_) (fun h => by cases h)
        have he : orderF (S, E) O = (plainL S.length, 0) := by rw [orderF, if_neg (by simpa using h), if_pos hO0]
        repeat first | refine AWp.seq ?_ | refine AWp.block ?_
        refine AWp.ops ?_
        simp
        refine AWp.ret ?_
        simp
        refine retOk.of rfl (.inr (.inl ⟨by rw [he], hO0, by rw [he], hS4, by simp, rfl⟩))
      · have hOp : 0 < O.length := List.length_pos_iff.2 hO0
        refine AWp.cond (b := false) (by simp; exact hO0) (fun h => by cases h) (fun _ => ?_)
        refine AWp.skip ?_
        simp only [qSeq]
        repeat first | refine AWp.seq ?_ | refine AWp.block ?_
        refine AWp.ops ?_
        simp
        refine ((Vals_spec ho').pure (by simp) (by rintro r rfl; simp) _).mono ?_
        rintro r H' ⟨rfl, rfl⟩
        simp
        refine ((Sorted_spec ho' hO).pure (by simp) (by rintro r ⟨⟨_, _, _, rfl, _⟩, _⟩; simp) _).mono ?_
        rintro r H' ⟨rfl, hr⟩
        have hr' := hr
        obtain ⟨⟨nlq, cq, szq, rfl, hsq⟩, hlq, hxq⟩ := hr
        have hI : InI (plainL S.length) := ⟨by simp; omega, fun x hx => by
          simp [plainL] at hx
          omega⟩
        simp
        refine ACalls.mono (ACalls.pureLent 3 (R := fun r => r = Bo (decide (sortI O = plainL S.length))) ?_ (by rintro r rfl s; simp)) ?_
        · simp
          exact (sEqual_spec hr' (ISl.of none hI.1 hI.2)).mono fun r H h => ⟨h.1, by rw [h.2]⟩
        rintro r H' ⟨rfl, rfl⟩
        simp
        by_cases hso2 : sortI O = plainL S.length
        · have he : orderF (S, E) O = (O, 0) := by rw [orderF, if_neg (by simpa using h), if_neg hO0, if_neg (by simpa using hso2)]
          refine AWp.cond (b := false) (by simp [hso2]) (fun h => by cases h) (fun _ => ?_)
          refine AWp.skip ?_
          simp only [qSeq]
          repeat first | refine AWp.seq ?_ | refine AWp.block ?_
          refine AWp.ops ?_
          simp
          refine AWp.ret ?_
          simp
          refine retOk.of rfl (.inr (.inr ⟨by simp, he⟩))
        · have he : orderF (S, E) O = ([], 1) := by rw [orderF, if_neg (by simpa using h), if_neg hO0, if_pos hso2]
          refine AWp.cond (b := true) (by simp [hso2]) (fun _ => ?_) (fun h => by cases h)
          repeat first | refine AWp.seq ?_ | refine AWp.block ?_
          refine AWp.ops ?_
          simp
          refine AWp.ret ?_
          simp
          refine retOk.of rfl (.inl ?_)
          simp [he]
  refine (base.frozen 3).mono ?_
  rintro q H' ⟨rfl, r, G, ⟨rfl, h2⟩ | ⟨h1, h2, h3, h4, rfl, h5⟩ | ⟨rfl, h2⟩, rfl⟩
  · refine ⟨rfl, _, by simp; rfl, ?_⟩
    rw [h2]; exact ISl.nil
  · refine ⟨rfl, _, by simp [h1]; rfl, ?_⟩
    rw [h3]
    simp [h5]
    exact ISl.of _ (by simp; omega) (fun x hx => by simp [plainL] at hx; omega)
  · refine ⟨rfl, _, by simp [h2]; rfl, ?_⟩
    rw [h2]; simpa using ho'
end Go.Fw
