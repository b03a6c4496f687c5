import Derived.Test.YtgdkdojjfijipaaFwcoo2
import Derived.Test.YtgdkdojjfijipaaFwcoo3
import Derived.Test.YtgdkdojjfijipaaFwcoo4
import Derived.Test.YtgdkdojjfijipaaFwcoo5
namespace Go.Fw
open Go Go.RowKit Go.Proofs
set_option maxRecDepth 100000
set_option linter.unusedSimpArgs false
set_option linter.unusedVariables false

theorem orderF_ok {X : List Int × List (List Int × Int)} {O : List Int} (h : (orderF X O).2 = 0) : cooCheck X.1 X.2 = 0 ∧ (orderF X O).1.Perm (plainL X.1.length) := by
  unfold orderF at h ⊢
  split at h
  · rename_i h1; exact absurd h h1
  rename_i h1
  rw [if_neg h1]
  refine ⟨by omega, ?_⟩
  split
  · exact List.Perm.refl _
  · rename_i h2
    rw [if_neg h2] at h
    split at h
    · cases h
    · rename_i h3
      rw [if_neg h3]
      simp only
      have : sortI O = plainL X.1.length := by simpa using h3
      rw [← this]
      exact (List.mergeSort_perm O _).symm
theorem plainL_mem {n : Nat} {x : Int} (h : x ∈ plainL n) : 0 ≤ x ∧ x < n := by
  simp [plainL] at h
  omega
theorem orderF_rng {X : List Int × List (List Int × Int)} {O : List Int} (h : (orderF X O).2 = 0) : ∀ m ∈ (orderF X O).1, 0 ≤ m ∧ m < X.1.length := fun m hm =>
  plainL_mem ((orderF_ok h).2.mem_iff.1 hm)
/-- A sorted list. -/
def sortF (X : List Int × List (List Int × Int)) (O : List Int) : (List Int × List (List Int × Int)) × Int :=
  if (orderF X O).2 ≠ 0 then (([], []), (orderF X O).2) else ((X.1, X.2.mergeSort (leO (orderF X O).1)), 0)
theorem atF_len {S c : List Int} (h : (atF S c).2 = 0) : c.length = S.length := by
  unfold atF at h
  split at h
  · rename_i h1; exact absurd h h1
  split at h
  · simp at h
  · rename_i h2; omega

theorem leO_trans' (O : List Int) : ∀ a b c : AV × (List Int × Int), decide (cmpO O a.2.1 b.2.1 ≤ 0) = true → decide (cmpO O b.2.1 c.2.1 ≤ 0) = true → decide (cmpO O a.2.1 c.2.1 ≤ 0) = true := fun a b c => leO_trans O a.2 b.2 c.2
theorem leO_total' (O : List Int) : ∀ a b : AV × (List Int × Int), (decide (cmpO O a.2.1 b.2.1 ≤ 0) || decide (cmpO O b.2.1 a.2.1 ≤ 0)) = true := fun a b => leO_total O a.2 b.2

def cSort_8 : AC := (.seq (.ops [⟨(some 25), none, (.k (.ld 2 true (.t 2)))⟩, ⟨none, none, (.k (.st 2 (.t 4) (.t 25)))⟩, ⟨(some 5), none, (.k (.mov (.c (.sc (.int .i64 0)))))⟩]) .ret)
def cSort_7 : AC := (.seq (.ops [⟨(some 20), none, (.k (.fad 1 (.t 2)))⟩, ⟨(some 21), none, (.k (.ld 1 false (.t 20)))⟩, ⟨(some 22), none, (.k (.mkF (.func 47) [] [(.t 6)]))⟩, ⟨(some 23), none, (.call false (.c (.fn (.func 46) [] [])) [(.t 21), (.t 22)])⟩, ⟨(some 24), none, (.k (.fad 1 (.t 2)))⟩, ⟨none, none, (.k (.st 1 (.t 24) (.t 23)))⟩]) cSort_8)
def cSort_6 : AC := (.seq (.ops [⟨(some 18), none, (.k (.ld 2 true (.t 2)))⟩, ⟨(some 19), none, (.call false (.c (.fn (.func 45) [] [])) [(.t 18)])⟩, ⟨none, none, (.k (.st 2 (.t 2) (.t 19)))⟩]) cSort_7)
def cSort_5 : AC := (.seq (.ops [⟨(some 16), none, (.k (.mk [(.imm true none 0 []), (.imm true none 0 [])] []))⟩, ⟨(some 17), none, (.k (.mov (.t 7)))⟩, ⟨none, none, (.k (.st 2 (.t 4) (.t 16)))⟩, ⟨(some 5), none, (.k (.mov (.t 17)))⟩]) .ret)
def cSort_4 : AC := (.cond (.t 15) cSort_5 .skip)
def cSort_3 : AC := (.seq (.ops [⟨(some 14), none, (.k (.mov (.t 7)))⟩, ⟨(some 15), none, (.k (.bin .neq (.t 14) (.c (.sc (.int .i64 0)))))⟩]) cSort_4)
def cSort_2 : AC := (.seq cSort_3 cSort_6)
def cSort_1 : AC := (.seq (.ops [⟨(some 9), none, (.k (.ld 2 true (.t 2)))⟩, ⟨(some 10), none, (.k (.mov (.t 1)))⟩, ⟨(some 11), none, (.call false (.c (.fn (.func 44) [] [])) [(.t 9), (.t 10)])⟩, ⟨(some 8), none, (.k (.mov (.t 11)))⟩, ⟨(some 12), none, (.k (.ext (.t 8) 0))⟩, ⟨(some 13), none, (.k (.ext (.t 8) 1))⟩, ⟨(some 6), none, (.k (.new 22 1 (.c (.imm true none 0 []))))⟩, ⟨none, none, (.k (.st 1 (.t 6) (.t 12)))⟩, ⟨(some 7), none, (.k (.mov (.t 13)))⟩]) cSort_2)
def cSort_ac : AC := (.seq (.ops [⟨(some 2), none, (.k (.new 25 2 (.t 0)))⟩, ⟨(some 4), none, (.k (.new 25 2 (.c (.agg [(.imm true none 0 []), (.imm true none 0 [])]))))⟩, ⟨(some 5), none, (.k (.mov (.c (.sc (.int .i64 0)))))⟩]) cSort_1)
theorem cSort_call {args : List AV} {H : List AObj} {R : AV → List AObj → Prop} (h : AWp Try.prog [] H.length cSort_ac (bodyQ H.length [(.cell 4 2 true), (.t 5)] R) (args ++ List.replicate (26 - args.length) .und) H) : ACalls Try.prog 15 args H R :=
  ACalls.of_fn Try.func15 rfl (by kernel_rfl) rfl Try.ntmps15 h

set_option maxHeartbeats 4000000 in
theorem cSort_spec {a o : AV} {X : List Int × List (List Int × Int)} {O : List Int} (ha : Coo a X) (ho : ISl o O) (hO : O.length ≤ 1000) (hX : InX X) : ACalls Try.prog 15 [a, o] [] (cooR (sortF X O)) := by
  have ha' := ha
  obtain ⟨S, E⟩ := X
  obtain ⟨s, e, rfl, hS, hE⟩ := ha
  simp only at hS hE
  have hS' := hS
  obtain ⟨⟨nl1, c01, sz1, rfl, hs1⟩, hlen1, hx1⟩ := hS
  obtain ⟨nl, cl, sz, es, rfl, he1, he2, hE⟩ := hE
  obtain ⟨x, hx⟩ : ∃ x, x = AV.agg [.imm nl1 c01 sz1 (S.map I), .imm nl cl sz es] := ⟨_, rfl⟩
  have ho' := ho
  obtain ⟨⟨nlo, co, szo, rfl, hso⟩, hlo, hxo⟩ := ho
  apply cSort_call
  repeat first | refine AWp.seq ?_ | refine AWp.block ?_
  refine AWp.ops ?_
  simp
  repeat first | refine AWp.seq ?_ | refine AWp.block ?_
  refine AWp.ops ?_
  simp
  refine ((ordered_spec ha' ho' hO).pure (by simp) (by rintro r ⟨q, rfl, ⟨⟨_, _, _, rfl, _⟩, _⟩⟩; simp) _).mono ?_
  rintro r H' ⟨rfl, q, rfl, hq⟩
  have hq' := hq
  obtain ⟨⟨nlq, cq, szq, rfl, hsq⟩, hlq, hxq⟩ := hq
  simp
  repeat first | refine AWp.seq ?_ | refine AWp.block ?_
  refine AWp.ops ?_
  simp
  by_cases h : (orderF (S, E) O).2 = 0
  case neg =>
    refine AWp.cond (b := true) (by simp [h]) (fun _ => ?_) (fun h => by cases h)
    have he : sortF (S, E) O = (([], []), (orderF (S, E) O).2) := by rw [sortF, if_pos h]
    repeat first | refine AWp.seq ?_ | refine AWp.block ?_
    refine AWp.ops ?_
    simp
    refine AWp.ret ?_
    simp
    refine retOk.of rfl ⟨.agg [.imm true none 0 [], .imm true none 0 []], by simp [he], by rw [he]; exact CooO.nil⟩
  refine AWp.cond (b := false) (by simp [h]) (fun h => by cases h) (fun _ => ?_)
  obtain ⟨hck, hperm⟩ := orderF_ok h
  obtain ⟨hS4, hE6, hcs, hat⟩ := cooCheck_len hck
  simp only at hS4 hE6 hcs hat
  have hrng := orderF_rng h
  simp only at hrng
  obtain ⟨Q, hQ⟩ : ∃ Q, Q = (orderF (S, E) O).1 := ⟨_, rfl⟩
  have he : sortF (S, E) O = ((S, E.mergeSort (leO Q)), 0) := by rw [sortF, if_neg (by omega), hQ]
  rw [he]
  rw [← hQ] at hq' hrng hperm hlq hxq hsq ⊢
  have hQl : Q.length ≤ 4 := by have := hperm.length_eq; simp at this; omega
  refine AWp.skip ?_
  simp only [qSeq]
  repeat first | refine AWp.seq ?_ | refine AWp.block ?_
  refine AWp.ops ?_
  simp
  refine (cooF_at (owned_spec ha' (by simp; omega) (by simp; omega) (fun w hw => by have := atF_len (hat w hw); omega)) (by simp) _).mono ?_
  rintro r H' ⟨G, rfl, s2, e2, es2, rfl, hs2, hb2, hes2, hE2⟩
  simp only at hs2 hE2
  simp at hs2 hb2 hes2 hE2
  have hs2o := hs2.one
  obtain ⟨zs, hz1, hz2, hz3⟩ := hE2.zip
  have hzl : zs.length = E.length := by have := congrArg List.length hz2; simpa using this
  have hes2l := hE2.1
  simp [hs2o]
  repeat first | refine AWp.seq ?_ | refine AWp.block ?_
  refine AWp.ops ?_
  simp
  obtain ⟨K, hK⟩ : ∃ K, K = cooO (.agg [s2, .slc e2 E.length 0 E.length none]) :: cooO (.agg [.imm true none 0 [], .imm true none 0 []]) :: (⟨22, 1, [.imm nlq cq szq (Q.map I)], true, none⟩ : AObj) :: G := ⟨_, rfl⟩
  rw [← hK]
  have gK : ∀ k, 3 ≤ k → K[k]? = G[k - 3]? := fun k hk => by
    obtain ⟨j, rfl⟩ := Nat.exists_eq_add_of_le' hk
    rw [hK]; simp
  have gK' : ∀ (a b c : AObj) k, 3 ≤ k → (a :: b :: c :: G)[k]? = G[k - 3]? := fun a b c k hk => by
    obtain ⟨j, rfl⟩ := Nat.exists_eq_add_of_le' hk
    simp
  have ke : K[e2]? = some (ensO (zs.map (·.1))) := by rw [gK e2 hb2, hz1, ← gK' _ _ _ e2 hb2]; exact hes2
  have zK : ∀ z ∈ zs, ZOk 3 K z := fun z hz => (hz3 z hz).to (Nat.le_refl _) fun k c hk h => by rw [gK k hk, ← gK' _ _ _ k hk]; exact h
  have sK : rowC 3 K s2 S := hs2.to (Nat.le_refl _) fun k hk h => by rw [gK k hk, ← gK' _ _ _ k hk]; exact h
  have k0 : K[0]? = some (cooO (.agg [s2, .slc e2 E.length 0 E.length none])) := by rw [hK]; rfl
  have k1 : K[1]? = some (cooO (.agg [.imm true none 0 [], .imm true none 0 []])) := by rw [hK]; rfl
  have k2 : K[2]? = some ⟨22, 1, [.imm nlq cq szq (Q.map I)], true, none⟩ := by rw [hK]; rfl
  have hKl : 3 ≤ K.length := by rw [hK]; simp
  have hzE : ∀ z ∈ zs, z.2 ∈ E := fun z hz => by rw [← hz2]; exact List.mem_map_of_mem hz
  have ni : ∀ k c, K[k]? = some (intOb c) → k ≠ e2 := fun k c h => by
    rintro rfl
    rw [ke] at h
    simp at h
  have two : ∀ K', Two e2 K.length K K' → ∀ k o, k < K.length → k ≠ e2 → K[k]? = some o → K'[k]? = some o := fun K' h k o h1 h2 h3 => h k o h1 h2 (by omega) h3
  have hm := merge_spec (H := K) (e := e2) (zs := zs) (g := 47) (caps := [.ptr 2 1 0 0]) (cmp := fun x y => cmpO Q x.2.1 y.2.1) ke
    (fun z hz => let ⟨a, h1, h2⟩ := zK z hz; ⟨a, _, h1, h2.one⟩)
    (fun K' hK' x hx y hy => by
      obtain ⟨a, ha1, ha2⟩ := zK x hx
      obtain ⟨c, hc1, hc2⟩ := zK y hy
      have ha3 : rowC 3 K' a x.2.1 := ha2.to (Nat.le_refl _) fun k _ h => two K' hK' k _ (List.getElem?_eq_some_iff.1 h).1 (ni k _ h) h
      have hc3 : rowC 3 K' c y.2.1 := hc2.to (Nat.le_refl _) fun k _ h => two K' hK' k _ (List.getElem?_eq_some_iff.1 h).1 (ni k _ h) h
      have hk2 : K'[2]? = some ⟨22, 1, [.imm nlq cq szq (Q.map I)], true, none⟩ := two K' hK' 2 _ (by omega) (by omega) k2
      have lx := atF_len (hat _ (hzE x hx))
      have ly := atF_len (hat _ (hzE y hy))
      refine ACalls.mono (ACalls.pureLent 4 (R := fun r => r = I (cmpO Q x.2.1 y.2.1)) ?_ (by rintro r rfl s; simp)) (fun r H h => h)
      rw [ha1, hc1]
      simp [hk2]
      exact (less_spec (ha3.read (hX.2 _ (hzE x hx)) 2) (hc3.read (hX.2 _ (hzE y hy)) 2) hq' (by omega) (fun m hm => by have := hrng m hm; omega)).mono fun r H h => h)
    (leO_trans' Q) (leO_total' Q) (by omega)
  rw [hzl] at hm
  refine hm.mono ?_
  rintro r K' ⟨p, rfl, hp, kp, kt⟩
  have kt := two K' kt
  have k0' := kt 0 _ (by omega) (by omega) k0
  have k1' := kt 1 _ (by omega) (by omega) k1
  have hp3 : 3 ≤ p := by omega
  simp [k0', hs2o]
  have g0 : ∀ x, (K'.set 0 x)[0]? = some x := fun x => gs_eq k0'
  have g1 : ∀ x, (K'.set 0 x)[1]? = some (cooO (.agg [.imm true none 0 [], .imm true none 0 []])) := fun x => by rw [gs_ne (by omega)]; exact k1'
  repeat first | refine AWp.seq ?_ | refine AWp.block ?_
  refine AWp.ops ?_
  simp [g0, g1, hs2o]
  have g2 : ∀ x y, ((K'.set 0 x).set 1 y)[1]? = some y := fun x y => gs_eq (g1 x)
  have g3 : ∀ x y k, 2 ≤ k → ((K'.set 0 x).set 1 y)[k]? = K'[k]? := fun x y k hk => by rw [gs_ne (by omega), gs_ne (by omega)]
  refine AWp.ret ?_
  simp
  refine retOk.of (vs := [.agg [s2, .slc p E.length 0 E.length none], I 0]) (by simp [g2]) ?_
  have hmap : (zs.mergeSort fun x y => decide (cmpO Q x.2.1 y.2.1 ≤ 0)).map (·.2) = E.mergeSort (leO Q) := by
    rw [← hz2]
    exact List.map_mergeSort (r := fun (x y : AV × (List Int × Int)) => decide (cmpO Q x.2.1 y.2.1 ≤ 0)) (s := leO Q) (fun a _ b _ => rfl)
  obtain ⟨ys, hys⟩ : ∃ ys, ys = zs.mergeSort fun x y => decide (cmpO Q x.2.1 y.2.1 ≤ 0) := ⟨_, rfl⟩
  rw [← hys] at kp hmap
  have hyl : ys.length = E.length := by rw [hys, List.length_mergeSort, hzl]
  have hEl : (E.mergeSort (leO Q)).length = E.length := List.length_mergeSort _
  have zy : ∀ z ∈ ys, ZOk 0 ((K'.set 0 (cooO (.agg [s2, .slc p E.length 0 E.length none]))).set 1 (cooO (.agg [s2, .slc p E.length 0 E.length none]))) z := fun z hz => by
    rw [hys] at hz
    refine (zK z (List.mem_mergeSort.1 hz)).to (by omega) fun k c hk h => ?_
    rw [g3 _ _ k (by omega)]
    exact kt k _ (List.getElem?_eq_some_iff.1 h).1 (ni k c h) h
  refine ⟨_, rfl, s2, _, rfl, sK.to (by omega) fun k hk h => ?_, .inr ⟨p, ys.map (·.1), by omega, ?_, ?_, ?_, ?_⟩⟩
  · rw [g3 _ _ k (by omega)]
    exact kt k _ (List.getElem?_eq_some_iff.1 h).1 (ni k _ h) h
  · simp [hyl]
  · simp [hyl]
  · rw [g3 _ _ p (by omega)]; exact kp
  · have := EntsO.of zy
    rw [hmap] at this
    rw [List.take_of_length_le (by simp [hyl])]
    exact this
theorem sortF_in {X : List Int × List (List Int × Int)} {O : List Int} (hX : InX X) : InX (sortF X O).1 := by
  unfold sortF
  split
  · exact ⟨⟨by simp, by simp⟩, by simp⟩
  · exact ⟨hX.1, fun w hw => hX.2 w (List.mem_mergeSort.1 hw)⟩
end Go.Fw
