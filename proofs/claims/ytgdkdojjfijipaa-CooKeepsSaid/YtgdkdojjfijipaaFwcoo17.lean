import Derived.Test.YtgdkdojjfijipaaFwcoo14
import Derived.Test.YtgdkdojjfijipaaFwcoo15
import Derived.Test.YtgdkdojjfijipaaFwinj1
import Derived.Test.YtgdkdojjfijipaaFwadd0
import Derived.Test.YtgdkdojjfijipaaFwlaw02a
import Derived.Test.YtgdkdojjfijipaaFwlaw02c
import Derived.Test.YtgdkdojjfijipaaFwrowo1
namespace Go.Fw
open Go Go.RowKit Go.Proofs
set_option maxRecDepth 100000
set_option linter.unusedSimpArgs false
set_option linter.unusedVariables false

theorem wrapB (n : Int) : IntKind.i64.wrap n = n.bmod 18446744073709551616 := by
  have e : IntKind.i64.wrap n = if (n % 18446744073709551616) ≥ 9223372036854775808 then n % 18446744073709551616 - 18446744073709551616 else n % 18446744073709551616 := by
    unfold IntKind.wrap
    simp [IntKind.bits, IntKind.signed]
  rw [e, Int.bmod_def]
  simp only [show (((18446744073709551616 : Nat) : Int) + 1) / 2 = 9223372036854775808 by decide, show ((18446744073709551616 : Nat) : Int) = 18446744073709551616 from rfl]
  split <;> split <;> omega
def posL (S : List Int) (p : Nat) (E : List (List Int × Int)) : List (List Int × Int) := E.filter fun t => decide ((atF S t.1).1.toNat = p)
def sumV (E : List (List Int × Int)) : Int := (E.map (·.2)).sum
@[simp] theorem sumV_nil : sumV [] = 0 := rfl
@[simp] theorem sumV_cons (t : List Int × Int) (E : List (List Int × Int)) : sumV (t :: E) = t.2 + sumV E := by simp [sumV]
theorem sumV_app (E D : List (List Int × Int)) : sumV (E ++ D) = sumV E + sumV D := by simp [sumV]
theorem posL_app (S : List Int) (p : Nat) (E D : List (List Int × Int)) : posL S p (E ++ D) = posL S p E ++ posL S p D := by simp [posL]
theorem foldl_addE_get {S : List Int} {p : Nat} : ∀ (E : List (List Int × Int)) (vs : List Int), p < vs.length → -9223372036854775808 ≤ vs.getD p 0 ∧ vs.getD p 0 ≤ 9223372036854775807 → (E.foldl (addE S) vs).getD p 0 = IntKind.i64.wrap (vs.getD p 0 + sumV (posL S p E))
  | [], vs, _, h => by
    simp only [List.foldl_nil, posL, List.filter_nil, sumV_nil, Int.add_zero]
    exact (wrap_i64 h.1 h.2).symm
  | t :: E, vs, hp, h => by
    rw [List.foldl_cons]
    by_cases e : (atF S t.1).1.toNat = p
    · have e1 : (addE S vs t).getD p 0 = IntKind.i64.wrap (vs.getD p 0 + t.2) := by
        simp only [addE, e]
        rw [List.getD_eq_getElem?_getD, List.getElem?_set_self hp]
        rfl
      rw [foldl_addE_get E _ (by simpa [addE] using hp) (by rw [e1]; exact wrap_rng _), e1]
      have e2 : posL S p (t :: E) = t :: posL S p E := by simp [posL, e]
      rw [e2, sumV_cons, wrapB, wrapB, wrapB, Int.bmod_add_bmod, Int.add_assoc]
    · have e1 : (addE S vs t).getD p 0 = vs.getD p 0 := by
        simp only [addE]
        rw [List.getD_eq_getElem?_getD, List.getElem?_set_ne e, List.getD_eq_getElem?_getD]
      rw [foldl_addE_get E _ (by simpa [addE] using hp) (by rw [e1]; exact h), e1]
      have e2 : posL S p (t :: E) = posL S p E := by simp [posL, e]
      rw [e2]
theorem zeroF_laid {S : List Int} (h : (zeroF S).2 = 0) : (laidF S).2 = 0 ∧ (laidF S).1 = (cells S).1 := by
  unfold zeroF at h
  split at h
  · rename_i h1; exact absurd h h1
  rename_i h1
  have h2 : (laidF S).2 = 0 := by omega
  refine ⟨h2, ?_⟩
  unfold laidF at h2 ⊢
  split at h2
  · simp at h2
  · rename_i h3; rw [if_neg h3]
theorem cdF_ok {X : List Int × List (List Int × Int)} (h : (cdF X).2 = 0) : cooCheck X.1 X.2 = 0 ∧ (zeroF X.1).2 = 0 ∧ (cdF X).1.1 = X.1 ∧ checkF (cdF X).1 = 0 ∧ ∃ n : Nat, (cells X.1).1 = n ∧ n ≤ 65536 ∧ (cdF X).1.2.length = n ∧ ∀ p < n, (cdF X).1.2.getD p 0 = IntKind.i64.wrap (sumV (posL X.1 p X.2)) := by
  unfold cdF at h ⊢
  split at h
  · rename_i h1; exact absurd h h1
  rename_i h1
  rw [if_neg h1]
  split at h
  · rename_i h2; exact absurd h h2
  rename_i h2
  rw [if_neg h2]
  have h3 : (zeroF X.1).2 = 0 := by omega
  obtain ⟨_, hc, n, hn, hn2, hz⟩ := zeroF_ok h3
  obtain ⟨l1, l2⟩ := zeroF_laid h3
  refine ⟨by omega, h3, rfl, ?_, n, hn, hn2, ?_, fun p hp => ?_⟩
  · unfold checkF
    simp only [foldl_addE_len, hz, List.length_replicate]
    rw [if_neg (by omega), if_neg (by omega)]
  · simp [foldl_addE_len, hz]
  · simp only [hz]
    rw [foldl_addE_get _ _ (by simpa using hp) (by simp [hp])]
    simp [hp]
theorem cdF_of {X : List Int × List (List Int × Int)} (h : cooCheck X.1 X.2 = 0) (hz : (zeroF X.1).2 = 0) : (cdF X).2 = 0 := by
  unfold cdF
  rw [if_neg (by omega), if_neg (by omega)]
theorem cooCheck_app {S : List Int} {E D : List (List Int × Int)} (hE : cooCheck S E = 0) (hD : cooCheck S D = 0) (hl : E.length + D.length ≤ 65536) : cooCheck S (E ++ D) = 0 := by
  obtain ⟨_, _, h3, h4⟩ := cooCheck_len hE
  obtain ⟨_, _, _, h5⟩ := cooCheck_len hD
  unfold cooCheck
  rw [if_neg (by omega), if_neg (by simp; omega), if_neg]
  simp only [List.any_eq_true, decide_eq_true_eq, not_exists, not_and, List.mem_append]
  intro t ht
  rcases ht with ht | ht
  · have := h4 t ht; omega
  · have := h5 t ht; omega
theorem cdF_app {S : List Int} {E D : List (List Int × Int)} (hE : (cdF (S, E)).2 = 0) (hD : (cdF (S, D)).2 = 0) (hl : E.length + D.length ≤ 65536) :
    (cdF (S, E ++ D)).2 = 0 ∧ checkF (cdF (S, E ++ D)).1 = 0 ∧ (bothF addW (cdF (S, E)).1 (cdF (S, D)).1).2 = 0 ∧ (cdF (S, E ++ D)).1 = (bothF addW (cdF (S, E)).1 (cdF (S, D)).1).1 := by
  obtain ⟨c1, z1, s1, k1, n, hn, hn2, l1, v1⟩ := cdF_ok hE
  obtain ⟨c2, z2, s2, k2, n', hn', hn2', l2, v2⟩ := cdF_ok hD
  simp only at c1 c2 z1 z2 s1 s2 hn hn' v1 v2
  have en : n' = n := by omega
  subst en
  have h3 := cdF_of (X := (S, E ++ D)) (cooCheck_app c1 c2 hl) z1
  obtain ⟨c3, z3, s3, k3, n3, hn3, _, l3, v3⟩ := cdF_ok h3
  simp only at s3 hn3 v3
  have en : n3 = n' := by omega
  subst en
  obtain ⟨hb, _, _⟩ := bothF_ok (op := addW) k1 k2 (by rw [s1, s2])
  refine ⟨h3, k3, by rw [hb], ?_⟩
  rw [hb]
  refine Prod.ext (by rw [s3, s1]) ?_
  apply List.ext_getElem (by simp [l1, l2, l3])
  intro p h1 h2
  have e1 := v1 p (by omega)
  have e2 := v2 p (by omega)
  have e3 := v3 p (by omega)
  have g1 : p < (cdF (S, E)).1.2.length := by omega
  have g2 : p < (cdF (S, D)).1.2.length := by omega
  simp only [List.getD_eq_getElem?_getD, List.getElem?_eq_getElem g1, List.getElem?_eq_getElem g2, List.getElem?_eq_getElem h1, Option.getD_some] at e1 e2 e3
  simp only [List.getElem_zipWith, e1, e2, e3, addW, posL_app, sumV_app, wrapB, Int.bmod_add_bmod, Int.add_bmod_bmod]
theorem jv_sum : ∀ {l : List (List Int × Int)}, l ≠ [] → (∀ t ∈ l, -9223372036854775808 ≤ t.2 ∧ t.2 ≤ 9223372036854775807) → jv l = IntKind.i64.wrap (sumV l)
  | [], h, _ => absurd rfl h
  | t :: r, _, hv => by
    have h0 := hv t (by simp)
    have : ∀ (r : List (List Int × Int)) (a : Int), -9223372036854775808 ≤ a ∧ a ≤ 9223372036854775807 → r.foldl (fun s u => IntKind.i64.wrap (s + u.2)) a = IntKind.i64.wrap (a + sumV r) := by
      intro r
      induction r with
      | nil => intro a ha; simp; exact (wrap_i64 ha.1 ha.2).symm
      | cons u r ih =>
        intro a ha
        rw [List.foldl_cons, ih _ (wrap_rng _), sumV_cons, wrapB, wrapB, wrapB, Int.bmod_add_bmod, Int.add_assoc]
    rw [jv, this r _ h0, sumV_cons]
def oppL (E : List (List Int × Int)) : List (List Int × Int) := E.map fun t => (t.1, IntKind.i64.wrap (-t.2))
theorem sum_opp (E : List (List Int × Int)) : (sumV E + sumV (oppL E)).bmod 18446744073709551616 = 0 := by
  induction E with
  | nil => simp [oppL]
  | cons t E ih =>
    have e : sumV (t :: E) + sumV (oppL (t :: E)) = (t.2 + IntKind.i64.wrap (-t.2)) + (sumV E + sumV (oppL E)) := by
      simp only [oppL, List.map_cons, sumV_cons]; omega
    rw [e, ← Int.add_bmod_bmod, ih, Int.add_zero, wrapB, Int.add_bmod_bmod]
    simp [show t.2 + -t.2 = 0 by omega]
theorem atP_opp (E : List (List Int × Int)) (c : List Int) : atP (oppL E) c = oppL (atP E c) := by
  simp only [atP, oppL, List.filter_map]
  rfl
theorem plain_opp {S : List Int} {E : List (List Int × Int)} (hc : cooCheck S E = 0) (hl : E.length + E.length ≤ 65536) (hv : ∀ t ∈ E, -9223372036854775808 ≤ t.2 ∧ t.2 ≤ 9223372036854775807) :
    plainF (S, E ++ oppL E) = ((S, []), 0) := by
  have hc2 : cooCheck S (oppL E) = 0 := cooCheck_sub hc (by simp [oppL]) fun x hx => by
    obtain ⟨t, ht, rfl⟩ := List.mem_map.1 hx
    exact ⟨t, ht, rfl⟩
  have hc3 := cooCheck_app hc hc2 (by simpa [oppL] using hl)
  have ho : (orderF (S, E ++ oppL E) []).2 = 0 := by
    unfold orderF
    simp only
    rw [if_neg (by omega)]
    simp
  have hj : (joinF (S, E ++ oppL E) []).2 = 0 := by rw [joinF, sortF_ok ho]
  obtain ⟨_, h2, _, h4⟩ := joinF_ok hj
  simp only at h2 h4
  unfold plainF
  rw [if_neg (by omega), h2]
  unfold trimF
  simp only
  rw [if_neg (by omega)]
  have : (joinL ((E ++ oppL E).mergeSort (leO (orderF (S, E ++ oppL E) []).1))).filter (fun t => !decide (t.2 = 0)) = [] := by
    rw [List.filter_eq_nil_iff]
    intro x hx
    obtain ⟨⟨t, ht, e⟩, hx2⟩ := ((joined_sort (tells_of ho)).2 x).1 hx
    have hval : ∀ t ∈ atP (E ++ oppL E) x.1, -9223372036854775808 ≤ t.2 ∧ t.2 ≤ 9223372036854775807 := by
      intro t ht
      have := (List.mem_filter.1 ht).1
      rcases List.mem_append.1 this with h | h
      · exact hv t h
      · obtain ⟨u, _, rfl⟩ := List.mem_map.1 h
        exact wrap_rng _
    rw [jv_sum (atP_ne.2 ⟨t, ht, e⟩) hval] at hx2
    have e2 : atP (E ++ oppL E) x.1 = atP E x.1 ++ oppL (atP E x.1) := by rw [← atP_opp]; simp [atP]
    rw [e2, sumV_app, wrapB, sum_opp] at hx2
    simp [hx2]
  rw [this]
theorem Dn.two {d : AV} {D : List Int × List Int} (h : Dn d D) : ∃ x y, d = .agg [x, y] ∧ oneC x = true ∧ oneC y = true := by
  obtain ⟨s, v, rfl, ⟨⟨_, _, _, rfl, _⟩, _⟩, ⟨⟨_, _, _, rfl, _⟩, _⟩⟩ := h
  exact ⟨_, _, rfl, rfl, rfl⟩
theorem ownD.app {b : Nat} {G : List AObj} {d : AV} {D : List Int × List Int} (h : ownD b G d D) (Z : List AObj) : ownD b (G ++ Z) d D := by
  obtain ⟨s, j, h1, rfl, h2, h3⟩ := h
  exact ⟨s, j, h1, rfl, by rw [List.getElem?_append_left (List.getElem?_eq_some_iff.1 h2).1]; exact h2, h3.app Z⟩
/-- A list whose entries stand in an object of the call's own. -/
theorem rowO.coo {b : Nat} {K : List AObj} {a s : AV} {S : List Int} {es : List AV} {E : List (List Int × Int)} (h : rowO b K a 38 2 es) (hs : ISl s S) (hE : Ents es E) (n : Nat) : Coo (Go.Fw.frz K 0 (n + 4) false (.agg [s, a])) (S, E) := by
  obtain ⟨⟨n1, c1, z1, rfl, hs1⟩, hl1, hx1⟩ := hs
  rcases h.read (n + 2) with ⟨h1, h2⟩ | h2
  · refine ⟨_, _, by simp only [frz_agg, List.map_cons, List.map_nil, h2]; rfl, ?_, ?_⟩
    · simp; exact ⟨⟨n1, c1, z1, rfl, hs1⟩, hl1, hx1⟩
    · subst h1
      have : E = [] := List.length_eq_zero_iff.1 (by simpa using hE.1.symm)
      subst this
      exact EnL.nil
  · refine ⟨_, _, by simp only [frz_agg, List.map_cons, List.map_nil, h2]; rfl, ?_, ?_⟩
    · simp; exact ⟨⟨n1, c1, z1, rfl, hs1⟩, hl1, hx1⟩
    · refine ⟨false, none, 2, _, rfl, by simp, by simp, ?_⟩
      rw [hE.frz]; exact hE
end Go.Fw
