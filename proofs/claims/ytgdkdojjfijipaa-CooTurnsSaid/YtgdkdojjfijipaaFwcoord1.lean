import Derived.Test.YtgdkdojjfijipaaFwzero1
import Derived.Test.YtgdkdojjfijipaaFwplace0
import Derived.Test.YtgdkdojjfijipaaFwvals1
namespace Go.Fw
open Go Go.RowKit Go.Proofs
set_option maxRecDepth 100000
set_option linter.unusedSimpArgs false
set_option linter.unusedVariables false

def bBack_ac : AC := (.seq (.ops [⟨(some 1), none, (.k (.new 22 1 (.t 0)))⟩, ⟨(some 2), none, (.k (.mov (.c (.sc .nilFunc))))⟩]) (.seq (.ops [⟨(some 3), none, (.k (.mkF (.func 88) [] [(.t 1)]))⟩, ⟨(some 2), none, (.k (.mov (.t 3)))⟩]) .ret))
theorem bBack_call {args : List AV} {H : List AObj} {R : AV → List AObj → Prop} (h : AWp Try.prog [] H.length bBack_ac (bodyQ H.length [(.t 2)] R) (args ++ List.replicate (4 - args.length) .und) H) : ACalls Try.prog 81 args H R :=
  ACalls.of_fn Try.func81 rfl (by kernel_rfl) rfl Try.ntmps81 h

theorem bBack_spec {nl : Bool} {c : Option Nat} {sz : Nat} {xs : List Int} : ACalls Try.prog 81 [.imm nl c sz (xs.map I)] [] fun r H' => H' = [] ∧ r = .fn (.func 88) [] [.ipt (.imm nl c sz (xs.map I)) 0] := by
  have base : ACalls Try.prog 81 [.imm nl c sz (xs.map I)] [] fun r H' => r = .fn (.func 88) [] [.ptr 0 1 0 0] ∧ H' = [⟨22, 1, [.imm nl c sz (xs.map I)], true, none⟩] := by
    apply bBack_call
    repeat first | refine AWp.seq ?_ | refine AWp.block ?_
    refine AWp.ops ?_
    simp
    repeat first | refine AWp.seq ?_ | refine AWp.block ?_
    refine AWp.ops ?_
    simp
    refine AWp.ret ?_
    simp
    refine retOk.of rfl ⟨rfl, rfl⟩
  refine (base.frozen 3).mono ?_
  rintro q H' ⟨rfl, r, G, ⟨rfl, rfl⟩, rfl⟩
  exact ⟨rfl, by simp⟩

/-- One round of Coord. -/
def coSt (xs : List Int) (s : Int × List Int) (x : Fin xs.length) : Int × List Int := (s.1 / xs[x.1], s.2.set x.1 (s.1 % xs[x.1]))
def coAll (xs : List Int) (n : Int) (pre : List (Fin xs.length)) : Int × List Int := pre.foldl (coSt xs) (n, List.replicate xs.length 0)
theorem coAll_snoc (xs : List Int) (n : Int) (pre : List (Fin xs.length)) (x : Fin xs.length) : coAll xs n (pre ++ [x]) = coSt xs (coAll xs n pre) x := by simp [coAll]
theorem coAll_len (xs : List Int) (n : Int) (pre : List (Fin xs.length)) : (coAll xs n pre).2.length = xs.length := by
  suffices ∀ (pre : List (Fin xs.length)) (s : Int × List Int), (pre.foldl (coSt xs) s).2.length = s.2.length by rw [coAll, this]; simp
  intro pre
  induction pre with
  | nil => intro s; rfl
  | cons x r ih => intro s; rw [List.foldl_cons, ih]; simp [coSt]
theorem coAll_num (xs : List Int) (hx : ∀ x ∈ xs, 1 ≤ x) (n : Int) (hn : 0 ≤ n) (pre : List (Fin xs.length)) : 0 ≤ (coAll xs n pre).1 ∧ (coAll xs n pre).1 ≤ n := by
  suffices ∀ (pre : List (Fin xs.length)) (s : Int × List Int), 0 ≤ s.1 → 0 ≤ (pre.foldl (coSt xs) s).1 ∧ (pre.foldl (coSt xs) s).1 ≤ s.1 from this pre _ hn
  intro pre
  induction pre with
  | nil => intro s h; exact ⟨h, Int.le_refl _⟩
  | cons x r ih =>
    intro s h
    have h1 := hx _ (List.getElem_mem x.2)
    have h2 : 0 ≤ s.1 / xs[x.1] := Int.ediv_nonneg h (by omega)
    have h3 : s.1 / xs[x.1] ≤ s.1 := Int.ediv_le_self _ h
    have := ih (coSt xs s x) h2
    rw [List.foldl_cons]
    simp only [coSt] at this ⊢
    omega
theorem coAll_downs (xs : List Int) (hx : ∀ x ∈ xs, 1 ≤ x) (n : Int) : ∀ k, k ≤ xs.length → (coAll xs n ((downs xs.length).take k)).1 = n / prd (xs.drop (xs.length - k)) ∧
    ∀ j, xs.length - k ≤ j → j < xs.length → (coAll xs n ((downs xs.length).take k)).2[j]? = (placeF xs n)[j]?
  | 0, _ => by
    refine ⟨?_, fun j h1 h2 => by omega⟩
    simp [coAll, prd]
  | k + 1, hk => by
    obtain ⟨h1, h2⟩ := coAll_downs xs hx n k (by omega)
    have hlt : xs.length - (k + 1) < xs.length := by omega
    have e1 : (⟨xs.length - 1 - k, by omega⟩ : Fin xs.length) = ⟨xs.length - (k + 1), hlt⟩ := Fin.ext (by simp only; omega)
    have e2 : xs.length - (k + 1) + 1 = xs.length - k := by omega
    rw [downs_take (by omega), coAll_snoc, e1]
    have hp := prd_pos (xs := xs.drop (xs.length - k)) fun y hy => hx y (List.mem_of_mem_drop hy)
    refine ⟨?_, fun j h3 h4 => ?_⟩
    · simp only [coSt, h1]
      rw [List.drop_eq_getElem_cons hlt, e2, prd, Int.ediv_ediv_of_nonneg (by omega), Int.mul_comm]
    · simp only [coSt, h1]
      by_cases e : j = xs.length - (k + 1)
      · subst e
        rw [List.getElem?_set_self (by rw [coAll_len]; exact hlt), List.getElem?_eq_getElem (by rw [placeF_len]; exact hlt), placeF_get xs n _ _ hlt, e2]
      · rw [List.getElem?_set_ne (by omega)]
        exact h2 j (by omega) h4
theorem coAll_place (xs : List Int) (hx : ∀ x ∈ xs, 1 ≤ x) (n : Int) : (coAll xs n (downs xs.length)).2 = placeF xs n := by
  have h := (coAll_downs xs hx n xs.length (Nat.le_refl _)).2
  rw [List.take_of_length_le (by rw [downs_len]; omega)] at h
  apply List.ext_getElem?
  intro j
  by_cases hj : j < xs.length
  · exact h j (by omega) hj
  · rw [List.getElem?_eq_none (by rw [coAll_len]; omega), List.getElem?_eq_none (by rw [placeF_len]; omega)]

/-- A number's place, or why not. -/
def coordF (xs : List Int) (n : Int) : List Int × Int :=
  if (cells xs).2 ≠ 0 then ([], (cells xs).2) else if n < 0 ∨ (cells xs).1 ≤ n then ([], 3) else (placeF xs n, 0)
/-- A list of the call's own, in some object. -/
def coordR (F : List Int × Int) (r : AV) (G : List AObj) : Prop :=
  (F.2 ≠ 0 ∧ F.1 = [] ∧ r = .tup [.imm true none 0 [], I F.2]) ∨ (F.2 = 0 ∧ ∃ o1 o2, r = .tup [.slc 1 F.1.length 0 F.1.length none, I 0] ∧ G = [o1, ⟨3, 1, F.1.map I, true, none⟩, o2])

def Coord_15 : AC := (.seq (.ops [⟨(some 44), none, (.k (.ld 1 false (.t 8)))⟩, ⟨(some 4), none, (.k (.mov (.t 44)))⟩, ⟨(some 5), none, (.k (.mov (.c (.sc (.int .i64 0)))))⟩]) .ret)
def Coord_14 : AC := (.block 2 (.par [[⟨(some 35), none, (.k (.ld 1 false (.t 8)))⟩, ⟨(some 36), none, (.k (.mov (.t 9)))⟩, ⟨(some 37), none, (.k (.ld 1 false (.t 3)))⟩, ⟨(some 38), none, (.k (.mov (.t 10)))⟩, ⟨(some 39), none, (.k (.bin .rem (.t 37) (.t 38)))⟩, ⟨(some 41), none, (.k (.mov (.t 10)))⟩, ⟨(some 43), none, (.k (.iad 1 (.t 35) (.t 36)))⟩, ⟨(some 40), none, (.k (.ld 1 false (.t 3)))⟩, ⟨(some 42), none, (.k (.bin .quo (.t 40) (.t 41)))⟩, ⟨none, none, (.k (.st 1 (.t 43) (.t 39)))⟩, ⟨none, none, (.k (.st 1 (.t 3) (.t 42)))⟩], [⟨(some 35), none, (.k (.ld 1 false (.t 8)))⟩, ⟨(some 36), none, (.k (.mov (.t 9)))⟩, ⟨(some 37), none, (.k (.ld 1 false (.t 3)))⟩, ⟨(some 38), none, (.k (.mov (.t 10)))⟩, ⟨(some 39), none, (.k (.bin .rem (.t 37) (.t 38)))⟩, ⟨(some 41), none, (.k (.mov (.t 10)))⟩, ⟨(some 43), none, (.k (.iad 1 (.t 35) (.t 36)))⟩, ⟨none, none, (.k (.st 1 (.t 43) (.t 39)))⟩, ⟨(some 40), none, (.k (.ld 1 false (.t 3)))⟩, ⟨(some 42), none, (.k (.bin .quo (.t 40) (.t 41)))⟩, ⟨none, none, (.k (.st 1 (.t 3) (.t 42)))⟩]]))
def Coord_13 : AC := (.range (.t 32) [33, 34] [(9, 33), (10, 34)] Coord_14)
def Coord_12 : AC := (.block 1 Coord_13)
def Coord_11 : AC := (.seq (.ops [⟨(some 31), none, (.k (.mov (.t 0)))⟩, ⟨(some 32), none, (.call false (.c (.fn (.func 81) [] [])) [(.t 31)])⟩]) Coord_12)
def Coord_10 : AC := (.seq Coord_11 Coord_15)
def Coord_9 : AC := (.seq (.ops [⟨(some 28), none, (.k (.mov (.t 0)))⟩, ⟨(some 29), none, (.k (.len (.t 28)))⟩, ⟨(some 30), none, (.k (.mkS 3 1 8 (.sc (.int .i64 0)) (.t 29) (.t 29)))⟩, ⟨(some 8), none, (.k (.new 22 1 (.c (.imm true none 0 []))))⟩, ⟨none, none, (.k (.st 1 (.t 8) (.t 30)))⟩]) Coord_10)
def Coord_8 : AC := (.cond (.t 20) (.seq (.ops [⟨(some 4), none, (.k (.mov (.c (.imm true none 0 []))))⟩, ⟨(some 5), none, (.k (.mov (.c (.sc (.int .i64 3)))))⟩]) .ret) .skip)
def Coord_7 : AC := (.seq (.ops [⟨(some 21), none, (.k (.ld 1 false (.t 3)))⟩, ⟨(some 22), none, (.k (.bin .lss (.t 21) (.c (.sc (.int .i64 0)))))⟩, ⟨(some 23), none, (.k (.mov (.t 22)))⟩, ⟨(some 24), (some (23, false)), (.k (.ld 1 false (.t 3)))⟩, ⟨(some 25), (some (23, false)), (.k (.mov (.t 6)))⟩, ⟨(some 26), (some (23, false)), (.k (.bin .geq (.t 24) (.t 25)))⟩, ⟨(some 27), none, (.k (.pick (.t 23) (.c (.sc (.bool true))) (.t 26)))⟩, ⟨(some 20), none, (.k (.mov (.t 27)))⟩]) Coord_8)
def Coord_6 : AC := (.seq (.ops [⟨(some 19), none, (.k (.mov (.t 7)))⟩, ⟨(some 4), none, (.k (.mov (.c (.imm true none 0 []))))⟩, ⟨(some 5), none, (.k (.mov (.t 19)))⟩]) .ret)
def Coord_5 : AC := (.cond (.t 16) Coord_6 Coord_7)
def Coord_4 : AC := (.seq (.ops [⟨(some 17), none, (.k (.mov (.t 7)))⟩, ⟨(some 18), none, (.k (.bin .neq (.t 17) (.c (.sc (.int .i64 0)))))⟩, ⟨(some 16), none, (.k (.mov (.t 18)))⟩]) Coord_5)
def Coord_3 : AC := (.block 0 Coord_4)
def Coord_2 : AC := (.seq Coord_3 Coord_9)
def Coord_1 : AC := (.seq (.ops [⟨(some 12), none, (.k (.mov (.t 0)))⟩, ⟨(some 13), none, (.call false (.c (.fn (.func 42) [] [])) [(.t 12)])⟩, ⟨(some 11), none, (.k (.mov (.t 13)))⟩, ⟨(some 14), none, (.k (.ext (.t 11) 0))⟩, ⟨(some 15), none, (.k (.ext (.t 11) 1))⟩, ⟨(some 6), none, (.k (.mov (.t 14)))⟩, ⟨(some 7), none, (.k (.mov (.t 15)))⟩]) Coord_2)
def Coord_ac : AC := (.seq (.ops [⟨(some 3), none, (.k (.new 3 1 (.t 1)))⟩, ⟨(some 4), none, (.k (.mov (.c (.imm true none 0 []))))⟩, ⟨(some 5), none, (.k (.mov (.c (.sc (.int .i64 0)))))⟩]) Coord_1)
theorem Coord_call {args : List AV} {H : List AObj} {R : AV → List AObj → Prop} (h : AWp Try.prog [] H.length Coord_ac (bodyQ H.length [(.t 4), (.t 5)] R) (args ++ List.replicate (45 - args.length) .und) H) : ACalls Try.prog 66 args H R :=
  ACalls.of_fn Try.func66 rfl (by kernel_rfl) rfl Try.ntmps66 h

set_option maxHeartbeats 2000000 in
theorem Coord_base {a : AV} {xs : List Int} {n : Int} (ha : ISl a xs) (hn1 : -9223372036854775808 ≤ n) (hn2 : n ≤ 9223372036854775807) :
    ACalls Try.prog 66 [a, I n] [] fun r H' => coordR (coordF xs n) r H' := by
  have ha' := ha
  obtain ⟨⟨nl, c, sz, rfl, hs⟩, hlen, hx⟩ := ha
  apply Coord_call
  repeat first | refine AWp.seq ?_ | refine AWp.block ?_
  refine AWp.ops ?_
  simp
  repeat first | refine AWp.seq ?_ | refine AWp.block ?_
  refine AWp.ops ?_
  simp
  refine ((Cells_spec ha').pure (by simp) (by rintro r rfl; simp) _).mono ?_
  rintro r H' ⟨rfl, rfl⟩
  simp
  repeat first | refine AWp.seq ?_ | refine AWp.block ?_
  refine AWp.ops ?_
  simp
  refine AWp.cond (b := (cells xs).2 != 0) (by simp) ?_ ?_
  · intro h
    have h : (cells xs).2 ≠ 0 := by simpa using h
    repeat first | refine AWp.seq ?_ | refine AWp.block ?_
    refine AWp.ops ?_
    simp
    refine AWp.ret ?_
    simp
    refine retOk.of rfl (.inl ?_)
    simp [coordF, h]
  intro h
  have h : (cells xs).2 = 0 := by simpa using h
  by_cases hbad : n < 0 ∨ (cells xs).1 ≤ n
  · have e : coordF xs n = ([], 3) := by simp [coordF, h, hbad]
    rw [e]
    rcases Int.lt_or_le n 0 with h1 | h1
    ·
      repeat first | refine AWp.seq ?_ | refine AWp.block ?_
      refine AWp.ops ?_
      simp [h1]
      refine AWp.cond (b := true) (by simp) (fun _ => ?_) (fun h => by cases h)
      repeat first | refine AWp.seq ?_ | refine AWp.block ?_
      refine AWp.ops ?_
      simp
      refine AWp.ret ?_
      simp
      refine retOk.of rfl (.inl ⟨by simp, rfl, rfl⟩)
    · have h2 : (cells xs).1 ≤ n := by omega
      have h1' : ¬ n < 0 := by omega
      repeat first | refine AWp.seq ?_ | refine AWp.block ?_
      refine AWp.ops ?_
      simp [h1, h1', h2]
      refine AWp.cond (b := true) (by simp) (fun _ => ?_) (fun h => by cases h)
      repeat first | refine AWp.seq ?_ | refine AWp.block ?_
      refine AWp.ops ?_
      simp
      refine AWp.ret ?_
      simp
      refine retOk.of rfl (.inl ⟨by simp, rfl, rfl⟩)
  have h1 : 0 ≤ n := by omega
  have h1' : ¬ n < 0 := by omega
  have h2 : n < (cells xs).1 := by omega
  have h2' : ¬ (cells xs).1 ≤ n := by omega
  have hl4 := cells_len h
  have hx1 := (cells_nz h (by omega)).1
  have e : coordF xs n = (placeF xs n, 0) := by simp [coordF, h, h1', h2']
  rw [e]
  repeat first | refine AWp.seq ?_ | refine AWp.block ?_
  refine AWp.ops ?_
  simp [h1, h1', h2, h2']
  refine AWp.cond (b := false) (by simp) (fun h => by cases h) (fun _ => ?_)
  refine AWp.skip ?_
  simp only [qSeq, qBlock]
  have b1 : (xs.length : Int) * 8 ≤ 281474976710656 := by omega
  have b2 : (xs.length : Int) ≤ 9223372036854775807 := by omega
  repeat first | refine AWp.seq ?_ | refine AWp.block ?_
  refine AWp.ops ?_
  simp [b1, b2]
  repeat first | refine AWp.seq ?_ | refine AWp.block ?_
  refine AWp.ops ?_
  simp
  refine (bBack_spec.pure (by simp) (by rintro r rfl; simp) _).mono ?_
  rintro r H' ⟨rfl, rfl⟩
  simp
  refine AWp.block ?_
  refine AWp.range (N := xs.length) (vals := bvals xs) (order := downs xs.length) (gf := 88)  (cap := .ipt (.imm nl c sz (xs.map I)) 0) ?_ ?_ Try.func88 rfl rfl ?_ (by simp) ?_
    (fun pre H => H = [⟨3, 1, [I (coAll xs n pre).1], true, none⟩, ⟨3, 1, (coAll xs n pre).2.map I, true, none⟩, ⟨22, 1, [.slc 1 xs.length 0 xs.length none], true, none⟩]) ?_ ?_ ?_
  · intro x v hv
    simp [bvals] at hv
    rcases hv with rfl | rfl <;> rfl
  · intro x; rfl
  · simp
  · intro w W v hri hW
    exact back_stops hs (by omega) w W v hri hW
  · simp [coAll]
  · rintro pre x H rfl
    obtain ⟨i, hi⟩ := x
    have hxi := hx1 _ (List.getElem_mem hi)
    have hxr := hx _ (List.getElem_mem hi)
    obtain ⟨m0, m1⟩ := coAll_num xs hx1 n h1 pre
    have hwl := coAll_len xs n pre
    rw [coAll_snoc]
    generalize coAll xs n pre = st at m0 m1 hwl
    obtain ⟨m, ws⟩ := st
    simp only at m0 m1 hwl
    simp only [bvals, mvF, psF]
    have hgi : xs[i]?.getD 0 = xs[i] := by simp [hi]
    have hb2 : i < ws.length := by omega
    have hne : ¬ xs[i] = 0 := by omega
    have hqx0 : 0 ≤ m / xs[i] := Int.ediv_nonneg m0 (by omega)
    have hqx1 : m / xs[i] ≤ m := Int.ediv_le_self _ m0
    have d1 : m.tmod xs[i] = m % xs[i] := Int.tmod_eq_emod_of_nonneg m0
    have d2 : IntKind.i64.wrap (m.tdiv xs[i]) = m / xs[i] := by rw [Int.tdiv_eq_ediv_of_nonneg m0]; exact wrap_i64 (by omega) (by omega)
    rw [hgi]
    simp
    refine AWp.block ?_
    refine AWp.par ?_
    intro l hl
    simp at hl
    rcases hl with rfl | rfl <;>
    · simp [hne, d1, d2, hb2, hwl, hi, List.map_set, coSt]
      exact Weak.refl _ _ _
  · rintro H rfl
    simp [qSeq, qBlock]
    rw [coAll_place xs hx1 n]
    repeat first | refine AWp.seq ?_ | refine AWp.block ?_
    refine AWp.ops ?_
    simp
    have hpl := placeF_len xs n
    refine AWp.ret ?_
    simp
    refine retOk.of rfl (.inr ⟨rfl, _, _, by simp [hpl], rfl⟩)

theorem placeF_bd {xs : List Int} {n : Int} (hx1 : ∀ x ∈ xs, 1 ≤ x) (k : Nat) (h : k < (placeF xs n).length) (h' : k < xs.length) : 0 ≤ (placeF xs n)[k] ∧ (placeF xs n)[k] < xs[k] := by
  have h1 := hx1 _ (List.getElem_mem h')
  rw [placeF_get xs n k h h']
  exact ⟨Int.emod_nonneg _ (by omega), Int.emod_lt_of_pos _ (by omega)⟩
theorem coordF_in {a : AV} {xs : List Int} {n : Int} (ha : ISl a xs) (hn1 : -9223372036854775808 ≤ n) (h : (coordF xs n).2 = 0) : (coordF xs n).1 = placeF xs n ∧ (∀ x ∈ xs, 1 ≤ x) ∧ 0 ≤ n ∧ n < (cells xs).1 ∧ xs.length ≤ 4 ∧ (cells xs).2 = 0 ∧ ∀ x ∈ placeF xs n, -9223372036854775808 ≤ x ∧ x ≤ 9223372036854775807 := by
  unfold coordF at h ⊢
  split at h
  · rename_i h1; exact absurd h h1
  rename_i h1
  rw [if_neg h1]
  split at h
  · simp at h
  rename_i h2
  rw [if_neg h2]
  have h1 : (cells xs).2 = 0 := by omega
  have hx1 := (cells_nz h1 (by omega)).1
  refine ⟨rfl, hx1, by omega, by omega, cells_len h1, h1, fun x hx => ?_⟩
  obtain ⟨k, hk, rfl⟩ := List.getElem_of_mem hx
  have hk' : k < xs.length := by rw [placeF_len] at hk; exact hk
  have h3 := placeF_bd hx1 k hk hk'
  have h4 := ha.2.2 _ (List.getElem_mem hk')
  omega

theorem Coord_pure {a : AV} {xs : List Int} {n : Int} (ha : ISl a xs) (hn1 : -9223372036854775808 ≤ n) (hn2 : n ≤ 9223372036854775807) :
    ACalls Try.prog 66 [a, I n] [] fun r H' => H' = [] ∧ ∃ s, r = .tup [s, I (coordF xs n).2] ∧ ISl s (coordF xs n).1 := by
  refine ((Coord_base ha hn1 hn2).frozen 3).mono ?_
  rintro q H' ⟨rfl, r, G, h, rfl⟩
  refine ⟨rfl, ?_⟩
  rcases h with ⟨h, e, rfl⟩ | ⟨h, o1, o2, rfl, rfl⟩
  · rw [e]
    exact ⟨_, by simp, ISl.nil⟩
  · obtain ⟨e, hx1, _, _, hl4, _, hin⟩ := coordF_in ha hn1 h
    rw [h, e]
    have hpl := placeF_len xs n
    exact ⟨.imm false none 1 ((placeF xs n).map I), by simp [hpl], ⟨false, none, 1, rfl, by simp, by simp⟩, by omega, hin⟩
end Go.Fw
