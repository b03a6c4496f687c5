import Derived.Test.YtgdkdojjfijipaaFwcoo7
import Derived.Test.YtgdkdojjfijipaaFwcoo9
namespace Go.Fw
set_option maxRecDepth 100000
set_option linter.unusedSimpArgs false
set_option linter.unusedVariables false

/-! ### What is joined -/
/-- The numbers at one place, one behind the other. -/
def jv : List (List Int × Int) → Int
  | [] => 0
  | t :: r => r.foldl (fun s u => IntKind.i64.wrap (s + u.2)) t.2
theorem jv_snoc {l : List (List Int × Int)} (h : l ≠ []) (t : List Int × Int) : jv (l ++ [t]) = IntKind.i64.wrap (jv l + t.2) := by
  match l, h with
  | x :: r, _ => simp [jv]
/-- All entries at a place. -/
def atP (L : List (List Int × Int)) (c : List Int) : List (List Int × Int) := L.filter fun t => decide (t.1 = c)
theorem atP_snoc (L : List (List Int × Int)) (t : List Int × Int) (c : List Int) : atP (L ++ [t]) c = atP L c ++ if t.1 = c then [t] else [] := by
  simp only [atP, List.filter_append]
  by_cases h : t.1 = c <;> simp [h]
theorem atP_ne {L : List (List Int × Int)} {c : List Int} : atP L c ≠ [] ↔ ∃ t ∈ L, t.1 = c := by
  rw [Ne, atP, List.filter_eq_nil_iff]
  constructor
  · intro h
    by_cases h2 : ∃ t ∈ L, t.1 = c
    · exact h2
    · exact absurd (fun t ht => by simp; exact fun e => h2 ⟨t, ht, e⟩) h
  · rintro ⟨t, ht, e⟩ h
    exact h t ht (by simp [e])
structure Joined (O : List Int) (L J : List (List Int × Int)) : Prop where
  lt : J.Pairwise fun x y => cmpO O x.1 y.1 < 0
  val : ∀ x ∈ J, x.2 = jv (atP L x.1) ∧ ∃ t ∈ L, t.1 = x.1
  all : ∀ t ∈ L, ∃ x ∈ J, x.1 = t.1
  last : J.getLast?.map (·.1) = L.getLast?.map (·.1)
theorem joined : ∀ (n : Nat) {O : List Int} {L : List (List Int × Int)}, L.length = n → L.Pairwise (fun x y => leO O x y = true) → (∀ x ∈ L, ∀ y ∈ L, cmpO O x.1 y.1 = 0 → x.1 = y.1) → Joined O L (joinL L)
  | 0, O, L, hn, _, _ => by
    have : L = [] := List.length_eq_zero_iff.1 hn
    subst this
    exact ⟨by simp, by simp, by simp, by simp⟩
  | n + 1, O, L, hn, hp, hz => by
    have hL : L ≠ [] := by rintro rfl; simp at hn
    obtain ⟨M, t, rfl⟩ : ∃ M t, L = M ++ [t] := ⟨L.dropLast, L.getLast hL, (List.dropLast_concat_getLast hL).symm⟩
    have hp' := List.pairwise_append.1 hp
    obtain ⟨j1, j2, j3, j4⟩ := joined n (O := O) (L := M) (by simpa using hn) hp'.1 (fun x hx y hy => hz x (by simp [hx]) y (by simp [hy]))
    have hle : ∀ x ∈ M, cmpO O x.1 t.1 ≤ 0 := fun x hx => by
      have := hp'.2.2 x hx t (by simp)
      simpa [leO] using this
    rw [joinL_snoc]
    generalize hA : joinL M = A at *
    by_cases hA0 : A = []
    · subst hA0
      have hM : M = [] := by
        cases M with
        | nil => rfl
        | cons x r => obtain ⟨y, hy, _⟩ := j3 x (by simp); simp at hy
      subst hM
      refine ⟨by simp [joinS], ?_, ?_, by simp [joinS]⟩
      · intro x hx
        simp [joinS] at hx
        subst hx
        exact ⟨by simp [atP, jv], x, by simp, rfl⟩
      · intro u hu
        simp at hu
        subst hu
        exact ⟨u, by simp [joinS], rfl⟩
    have hAp : 0 < A.length := List.length_pos_iff.2 hA0
    have hlast : A.getLast? = some (A[A.length - 1]'(by omega)) := by rw [List.getLast?_eq_getElem?, List.getElem?_eq_getElem]
    obtain ⟨l, hl⟩ : ∃ l, l = A[A.length - 1]'(by omega) := ⟨_, rfl⟩
    have hlm : l ∈ A := by rw [hl]; exact List.getElem_mem _
    have hsplit : A = A.dropLast ++ [l] := by
      have := List.dropLast_concat_getLast hA0
      rw [List.getLast_eq_getElem, ← hl] at this
      exact this.symm
    have hlt2 : ∀ x ∈ A.dropLast, cmpO O x.1 l.1 < 0 := by
      rw [hsplit] at j1
      intro x hx
      exact (List.pairwise_append.1 j1).2.2 x hx l (by simp)
    by_cases he : l.1 = t.1
    · have hj : joinS A t = A.dropLast ++ [(l.1, IntKind.i64.wrap (l.2 + t.2))] := by
        simp only [joinS, hlast, ← hl, he, if_true]
      rw [hj]
      refine ⟨?_, ?_, ?_, ?_⟩
      · rw [hsplit] at j1
        have j1' := List.pairwise_append.1 j1
        rw [List.pairwise_append]
        exact ⟨j1'.1, by simp, fun x hx y hy => by simp at hy; subst hy; exact hlt2 x hx⟩
      · intro x hx
        rcases List.mem_append.1 hx with hx | hx
        · obtain ⟨v1, u, hu, hu2⟩ := j2 x (by rw [hsplit]; simp [hx])
          have hne : t.1 ≠ x.1 := by
            intro e
            have := hlt2 x hx
            rw [he, e] at this
            have h2 := cmpO_neg O x.1 x.1
            omega
          exact ⟨by rw [atP_snoc, if_neg hne, List.append_nil]; exact v1, u, by simp [hu], hu2⟩
        · simp at hx
          subst hx
          obtain ⟨v1, u, hu, hu2⟩ := j2 l hlm
          refine ⟨?_, t, by simp, he.symm⟩
          simp only
          rw [atP_snoc, if_pos he.symm, jv_snoc (atP_ne.2 ⟨u, hu, hu2⟩), v1]
      · intro u hu
        rcases List.mem_append.1 hu with hu | hu
        · obtain ⟨x, hx, hx2⟩ := j3 u hu
          rw [hsplit] at hx
          rcases List.mem_append.1 hx with hx | hx
          · exact ⟨x, by simp [hx], hx2⟩
          · simp at hx
            subst hx
            exact ⟨(x.1, IntKind.i64.wrap (x.2 + t.2)), by simp, hx2⟩
        · simp at hu
          subst hu
          exact ⟨_, List.mem_append_right _ (List.mem_singleton.2 rfl), he⟩
      · simp [he]
    · have hj : joinS A t = A ++ [t] := by
        simp only [joinS, hlast, ← hl]
        rw [if_neg he]
      rw [hj]
      have hnew : ∀ u ∈ M, u.1 ≠ t.1 := by
        intro u hu e
        have hM0 : M ≠ [] := by rintro rfl; simp at hu
        have hlM : M.getLast? = some (M.getLast hM0) := List.getLast?_eq_some_getLast hM0
        rw [hlast, hlM, ← hl] at j4
        simp only [Option.map_some, Option.some.injEq] at j4
        have hmem := List.getLast_mem hM0
        have h1 := hle _ hmem
        have h2 : cmpO O u.1 (M.getLast hM0).1 ≤ 0 := by
          by_cases hul : u = M.getLast hM0
          · rw [← hul]
            have := cmpO_neg O u.1 u.1
            omega
          · have hs : M = M.dropLast ++ [M.getLast hM0] := (List.dropLast_concat_getLast hM0).symm
            have hu' := hu
            rw [hs] at hu'
            rcases List.mem_append.1 hu' with hu' | hu'
            · have hpm := hp'.1
              rw [hs] at hpm
              have := (List.pairwise_append.1 hpm).2.2 u hu' (M.getLast hM0) (by simp)
              simpa [leO] using this
            · simp at hu'; exact absurd hu' hul
        rw [e] at h2
        have h3 := cmpO_neg O t.1 (M.getLast hM0).1
        have := hz (M.getLast hM0) (by simp [hmem]) t (by simp) (by omega)
        exact he (j4.trans this)
      have hlt3 : ∀ x ∈ A, cmpO O x.1 t.1 < 0 := by
        intro x hx
        obtain ⟨_, u, hu, hu2⟩ := j2 x hx
        have h1 := hle u hu
        rw [← hu2]
        by_cases h0 : cmpO O u.1 t.1 = 0
        · exact absurd (hz u (by simp [hu]) t (by simp) h0) (hnew u hu)
        · omega
      refine ⟨?_, ?_, ?_, by simp⟩
      · rw [List.pairwise_append]
        exact ⟨j1, by simp, fun x hx y hy => by simp at hy; subst hy; exact hlt3 x hx⟩
      · intro x hx
        rcases List.mem_append.1 hx with hx | hx
        · obtain ⟨v1, u, hu, hu2⟩ := j2 x hx
          have hne : t.1 ≠ x.1 := fun e => hnew u hu (by rw [hu2, e])
          exact ⟨by rw [atP_snoc, if_neg hne, List.append_nil]; exact v1, u, by simp [hu], hu2⟩
        · simp at hx
          subst hx
          have h0 : atP M x.1 = [] := by
            by_cases h : atP M x.1 = []
            · exact h
            · obtain ⟨u, hu, hu2⟩ := atP_ne.1 h
              exact absurd hu2 (hnew u hu)
          exact ⟨by rw [atP_snoc, if_pos rfl, h0]; simp [jv], x, by simp, rfl⟩
      · intro u hu
        rcases List.mem_append.1 hu with hu | hu
        · obtain ⟨x, hx, hx2⟩ := j3 u hu
          exact ⟨x, by simp [hx], hx2⟩
        · simp at hu
          subst hu
          exact ⟨u, by simp, rfl⟩
/-- An order that tells all places of a list apart. -/
def Tells (O : List Int) (E : List (List Int × Int)) : Prop := ∀ x ∈ E, ∀ y ∈ E, cmpO O x.1 y.1 = 0 → x.1 = y.1
theorem Tells.sort {O A : List Int} {E : List (List Int × Int)} (h : Tells O E) : Tells O (E.mergeSort (leO A)) := fun x hx y hy => h x (List.mem_mergeSort.1 hx) y (List.mem_mergeSort.1 hy)
theorem cmpO_refl (O a : List Int) : cmpO O a a = 0 := by have := cmpO_neg O a a; omega
theorem atP_sort {O : List Int} {E : List (List Int × Int)} (h : Tells O E) (c : List Int) : atP (E.mergeSort (leO O)) c = atP E c := by
  by_cases hc : ∃ t ∈ E, t.1 = c
  · obtain ⟨t, ht, rfl⟩ := hc
    have e := stab_mergeSort (leO_trans O) (leO_total O) E t
    have e2 : ∀ u ∈ E, eqv (leO O) t u = decide (u.1 = t.1) := fun u hu => by
      simp only [eqv, leO]
      by_cases h0 : u.1 = t.1
      · simp [h0, cmpO_refl]
      · have h1 : cmpO O t.1 u.1 ≠ 0 := fun h2 => h0 (h t ht u hu h2).symm
        have h2 := cmpO_neg O t.1 u.1
        simp [h0]
        omega
    have e3 : ∀ L : List (List Int × Int), (∀ u ∈ L, u ∈ E) → L.filter (eqv (leO O) t) = atP L t.1 := fun L hL => List.filter_congr fun u hu => e2 u (hL u hu)
    rw [e3 _ (fun u hu => List.mem_mergeSort.1 hu), e3 _ (fun u hu => hu)] at e
    exact e
  · have h1 : atP E c = [] := by
      by_cases h : atP E c = []
      · exact h
      · exact absurd (atP_ne.1 h) hc
    have h2 : atP (E.mergeSort (leO O)) c = [] := by
      by_cases h : atP (E.mergeSort (leO O)) c = []
      · exact h
      · obtain ⟨t, ht, e⟩ := atP_ne.1 h
        exact absurd ⟨t, List.mem_mergeSort.1 ht, e⟩ hc
    rw [h1, h2]
/-- What a list is joined to, by an order. -/
theorem joined_sort {O : List Int} {E : List (List Int × Int)} (h : Tells O E) : (joinL (E.mergeSort (leO O))).Pairwise (fun x y => cmpO O x.1 y.1 < 0) ∧ (∀ x, x ∈ joinL (E.mergeSort (leO O)) ↔ (∃ t ∈ E, t.1 = x.1) ∧ x.2 = jv (atP E x.1)) := by
  have j := joined _ (O := O) (L := E.mergeSort (leO O)) rfl (List.pairwise_mergeSort (leO_trans O) (leO_total O) E) h.sort
  refine ⟨j.lt, fun x => ⟨fun hx => ?_, fun ⟨⟨t, ht, e⟩, hv⟩ => ?_⟩⟩
  · obtain ⟨h1, t, ht, e⟩ := j.val x hx
    exact ⟨⟨t, List.mem_mergeSort.1 ht, e⟩, by rw [h1, atP_sort h]⟩
  · obtain ⟨y, hy, e2⟩ := j.all t (List.mem_mergeSort.2 ht)
    obtain ⟨h1, _⟩ := j.val y hy
    rw [atP_sort h] at h1
    have : x = y := Prod.ext (by rw [← e, e2]) (by rw [hv, h1, ← e, e2])
    rw [this]; exact hy
theorem same_sorted {O : List Int} {s t : List (List Int × Int)} (hs : s.Pairwise (fun x y => cmpO O x.1 y.1 < 0)) (ht : t.Pairwise (fun x y => cmpO O x.1 y.1 < 0)) (h : ∀ x, x ∈ s ↔ x ∈ t) : s = t := by
  have nd : ∀ {l : List (List Int × Int)}, l.Pairwise (fun x y => cmpO O x.1 y.1 < 0) → l.Nodup := fun hl => hl.imp fun {a b} hab e => by
    subst e
    have := cmpO_refl O a.1
    omega
  refine List.Perm.eq_of_pairwise (le := fun x y => cmpO O x.1 y.1 < 0) (fun a b _ _ h1 h2 => ?_) hs ht ((List.perm_ext_iff_of_nodup (nd hs) (nd ht)).2 h)
  have := cmpO_neg O a.1 b.1
  omega
/-- Sorted by another order, what is joined is joined by that. -/
theorem sort_joined {A B : List Int} {E : List (List Int × Int)} (hA : Tells A E) (hB : Tells B E) : (joinL (E.mergeSort (leO A))).mergeSort (leO B) = joinL (E.mergeSort (leO B)) := by
  obtain ⟨a1, a2⟩ := joined_sort hA
  obtain ⟨b1, b2⟩ := joined_sort hB
  refine same_sorted (O := B) ?_ b1 fun x => by rw [List.mem_mergeSort, a2, b2]
  have hp := List.pairwise_mergeSort (leO_trans B) (leO_total B) (joinL (E.mergeSort (leO A)))
  have hnd : ((joinL (E.mergeSort (leO A))).mergeSort (leO B)).Nodup := by
    refine (List.Perm.nodup_iff (List.mergeSort_perm _ _)).2 (a1.imp fun {a b} hab e => ?_)
    subst e
    have := cmpO_refl A a.1
    omega
  rw [List.nodup_iff_pairwise_ne] at hnd
  refine (hp.and hnd).imp_of_mem fun {a b} ha hb hab => ?_
  have ha' := (a2 a).1 (List.mem_mergeSort.1 ha)
  have hb' := (a2 b).1 (List.mem_mergeSort.1 hb)
  obtain ⟨h1, h2⟩ := hab
  simp only [leO, decide_eq_true_eq] at h1
  by_cases h0 : cmpO B a.1 b.1 = 0
  · obtain ⟨⟨u, hu, e1⟩, v1⟩ := ha'
    obtain ⟨⟨w, hw, e2⟩, v2⟩ := hb'
    have : a.1 = b.1 := by rw [← e1, ← e2]; exact hB u hu w hw (by rw [e1, e2]; exact h0)
    exact absurd (Prod.ext this (by rw [v1, v2, this])) h2
  · omega
theorem sort_sorted {O : List Int} {L : List (List Int × Int)} (h : L.Pairwise fun x y => leO O x y = true) : L.mergeSort (leO O) = L := List.mergeSort_of_pairwise h
theorem join_strict {O : List Int} : ∀ (n : Nat) {L : List (List Int × Int)}, L.length = n → L.Pairwise (fun x y => cmpO O x.1 y.1 < 0) → joinL L = L
  | 0, L, hn, _ => by
    have : L = [] := List.length_eq_zero_iff.1 hn
    subst this; rfl
  | n + 1, L, hn, hp => by
    have hL : L ≠ [] := by rintro rfl; simp at hn
    obtain ⟨M, t, rfl⟩ : ∃ M t, L = M ++ [t] := ⟨L.dropLast, L.getLast hL, (List.dropLast_concat_getLast hL).symm⟩
    have hp' := List.pairwise_append.1 hp
    rw [joinL_snoc, join_strict n (by simpa using hn) hp'.1]
    unfold joinS
    split
    · rename_i l hl
      have hlm : l ∈ M := List.mem_of_getLast? hl
      have := hp'.2.2 l hlm t (by simp)
      rw [if_neg]
      intro e
      rw [e] at this
      have := cmpO_refl O t.1
      omega
    · rename_i hl
      have : M = [] := by simpa using hl
      rw [this]; rfl
end Go.Fw
namespace Go.Fw
open Go Go.RowKit Go.Proofs
set_option maxRecDepth 100000
set_option linter.unusedSimpArgs false
set_option linter.unusedVariables false

theorem cmpO_zero : ∀ {O a c : List Int}, cmpO O a c = 0 → ∀ m ∈ O, a.getD m.toNat 0 = c.getD m.toNat 0
  | [], _, _, _, m, hm => by simp at hm
  | n :: O, a, c, h, m, hm => by
    simp only [cmpO] at h
    split at h
    · omega
    · split at h
      · omega
      · rcases List.mem_cons.1 hm with rfl | hm
        · omega
        · exact cmpO_zero h m hm
theorem tells_of {X : List Int × List (List Int × Int)} {O : List Int} (h : (orderF X O).2 = 0) : Tells (orderF X O).1 X.2 := by
  intro x hx y hy h0
  obtain ⟨hc, hp⟩ := orderF_ok h
  obtain ⟨_, _, _, hat⟩ := cooCheck_len hc
  have lx := atF_len (hat x hx)
  have ly := atF_len (hat y hy)
  apply List.ext_getElem (by omega)
  intro k h1 h2
  have := cmpO_zero h0 (k : Int) (hp.mem_iff.2 (List.mem_map.2 ⟨k, List.mem_range.2 (by rw [← lx]; exact h1), rfl⟩))
  simpa [List.getD, h1, h2] using this
theorem cooCheck_sub {S : List Int} {E E' : List (List Int × Int)} (h : cooCheck S E = 0) (hl : E'.length ≤ E.length) (hs : ∀ x ∈ E', ∃ t ∈ E, t.1 = x.1) : cooCheck S E' = 0 := by
  obtain ⟨h1, h2, h3, h4⟩ := cooCheck_len h
  unfold cooCheck
  rw [if_neg (by simpa using h3), if_neg (by omega), if_neg]
  rw [List.any_eq_true]
  rintro ⟨x, hx, hx2⟩
  obtain ⟨t, ht, e⟩ := hs x hx
  have := h4 t ht
  rw [e] at this
  simp [this] at hx2
theorem joinL_le (W : List (List Int × Int)) : (joinL W).length ≤ W.length := by
  have := joinL_len W W.length (Nat.le_refl _)
  rwa [List.take_length] at this
theorem orderF_sub {S : List Int} {E E' : List (List Int × Int)} {O : List Int} (h : cooCheck S E = 0) (h' : cooCheck S E' = 0) : orderF (S, E') O = orderF (S, E) O := by
  simp only [orderF, h, h']
/-- Joined by an order, and what is joined may be. -/
theorem joinF_ok {X : List Int × List (List Int × Int)} {O : List Int} (h : (joinF X O).2 = 0) : (orderF X O).2 = 0 ∧ joinF X O = ((X.1, joinL (X.2.mergeSort (leO (orderF X O).1))), 0) ∧ cooCheck X.1 X.2 = 0 ∧ cooCheck X.1 (joinL (X.2.mergeSort (leO (orderF X O).1))) = 0 := by
  have h1 : (orderF X O).2 = 0 := by
    simp only [joinF, sortF] at h
    split at h
    · exact h
    · rename_i h1; omega
  have hs : sortF X O = ((X.1, X.2.mergeSort (leO (orderF X O).1)), 0) := by rw [sortF, if_neg (by omega)]
  have hc := (orderF_ok h1).1
  refine ⟨h1, by rw [joinF, hs], hc, cooCheck_sub hc ?_ ?_⟩
  · have := joinL_le (X.2.mergeSort (leO (orderF X O).1))
    rw [List.length_mergeSort] at this
    exact this
  · intro x hx
    obtain ⟨t, ht, e⟩ := joinL_mem hx
    exact ⟨t, List.mem_mergeSort.1 ht, e.symm⟩
theorem sortF_ok {X : List Int × List (List Int × Int)} {O : List Int} (h : (orderF X O).2 = 0) : sortF X O = ((X.1, X.2.mergeSort (leO (orderF X O).1)), 0) := by rw [sortF, if_neg (by omega)]
theorem sortF_joinF {X : List Int × List (List Int × Int)} {A B : List Int} (hA : (joinF X A).2 = 0) (hB : (joinF X B).2 = 0) : sortF (joinF X A).1 B = ((joinF X B).1, 0) := by
  obtain ⟨a1, a2, a3, a4⟩ := joinF_ok hA
  obtain ⟨b1, b2, b3, b4⟩ := joinF_ok hB
  rw [a2, b2]
  simp only
  have ho : orderF (X.1, joinL (X.2.mergeSort (leO (orderF X A).1))) B = orderF X B := orderF_sub a3 a4
  rw [sortF_ok (by rw [ho]; exact b1), ho]
  simp only
  rw [sort_joined (tells_of a1) (tells_of b1)]
theorem joinF_check {X : List Int × List (List Int × Int)} {A : List Int} (hA : (joinF X A).2 = 0) : cooCheck (joinF X A).1.1 (joinF X A).1.2 = 0 := by
  obtain ⟨a1, a2, a3, a4⟩ := joinF_ok hA
  rw [a2]; exact a4
theorem sortF_len (X : List Int × List (List Int × Int)) (O : List Int) : (sortF X O).1.2.length ≤ X.2.length := by
  unfold sortF
  split
  · simp
  · simp
theorem joinF_len (X : List Int × List (List Int × Int)) (O : List Int) : (joinF X O).1.2.length ≤ X.2.length :=
  Nat.le_trans (joinL_le _) (sortF_len X O)

def CooOrders_10 : AC := (.seq (.ops [⟨(some 63), none, (.k (.mov (.t 7)))⟩, ⟨(some 64), none, (.k (.mov (.t 63)))⟩, ⟨(some 65), (some (64, true)), (.k (.mov (.t 13)))⟩, ⟨(some 66), (some (64, true)), (.k (.bin .eql (.t 65) (.c (.sc (.int .i64 0)))))⟩, ⟨(some 67), none, (.k (.pick (.t 64) (.t 66) (.c (.sc (.bool false)))))⟩, ⟨(some 68), none, (.k (.mov (.t 67)))⟩, ⟨(some 69), (some (68, true)), (.k (.mov (.t 15)))⟩, ⟨(some 70), (some (68, true)), (.k (.bin .eql (.t 69) (.c (.sc (.int .i64 0)))))⟩, ⟨(some 71), none, (.k (.pick (.t 68) (.t 70) (.c (.sc (.bool false)))))⟩, ⟨(some 72), none, (.k (.mov (.t 71)))⟩, ⟨(some 73), (some (72, true)), (.k (.ld 2 true (.t 12)))⟩, ⟨(some 74), (some (72, true)), (.k (.ld 2 true (.t 10)))⟩, ⟨(some 75), (some (72, true)), (.call false (.c (.fn (.func 19) [] [])) [(.t 73), (.t 74)])⟩, ⟨(some 76), none, (.k (.pick (.t 72) (.t 75) (.c (.sc (.bool false)))))⟩, ⟨(some 77), none, (.k (.mov (.t 76)))⟩, ⟨(some 78), (some (77, true)), (.k (.ld 2 true (.t 14)))⟩, ⟨(some 79), (some (77, true)), (.k (.ld 2 true (.t 8)))⟩, ⟨(some 80), (some (77, true)), (.call false (.c (.fn (.func 19) [] [])) [(.t 78), (.t 79)])⟩, ⟨(some 81), none, (.k (.pick (.t 77) (.t 80) (.c (.sc (.bool false)))))⟩, ⟨(some 6), none, (.k (.mov (.t 81)))⟩]) .ret)
def CooOrders_9 : AC := (.seq (.ops [⟨(some 58), none, (.k (.ld 2 true (.t 10)))⟩, ⟨(some 59), none, (.k (.mov (.t 1)))⟩, ⟨(some 60), none, (.call false (.c (.fn (.func 15) [] [])) [(.t 58), (.t 59)])⟩, ⟨(some 57), none, (.k (.mov (.t 60)))⟩, ⟨(some 61), none, (.k (.ext (.t 57) 0))⟩, ⟨(some 62), none, (.k (.ext (.t 57) 1))⟩, ⟨(some 14), none, (.k (.new 25 2 (.c (.agg [(.imm true none 0 []), (.imm true none 0 [])]))))⟩, ⟨none, none, (.k (.st 2 (.t 14) (.t 61)))⟩, ⟨(some 15), none, (.k (.mov (.t 62)))⟩]) CooOrders_10)
def CooOrders_8 : AC := (.seq (.ops [⟨(some 52), none, (.k (.ld 2 true (.t 8)))⟩, ⟨(some 53), none, (.k (.mov (.t 2)))⟩, ⟨(some 54), none, (.call false (.c (.fn (.func 15) [] [])) [(.t 52), (.t 53)])⟩, ⟨(some 51), none, (.k (.mov (.t 54)))⟩, ⟨(some 55), none, (.k (.ext (.t 51) 0))⟩, ⟨(some 56), none, (.k (.ext (.t 51) 1))⟩, ⟨(some 12), none, (.k (.new 25 2 (.c (.agg [(.imm true none 0 []), (.imm true none 0 [])]))))⟩, ⟨none, none, (.k (.st 2 (.t 12) (.t 55)))⟩, ⟨(some 13), none, (.k (.mov (.t 56)))⟩]) CooOrders_9)
def CooOrders_7 : AC := (.seq (.ops [⟨(some 44), none, (.k (.mov (.t 9)))⟩, ⟨(some 45), none, (.k (.bin .neq (.t 44) (.c (.sc (.int .i64 0)))))⟩, ⟨(some 46), none, (.k (.mov (.t 45)))⟩, ⟨(some 47), (some (46, false)), (.k (.mov (.t 11)))⟩, ⟨(some 48), (some (46, false)), (.k (.bin .neq (.t 47) (.c (.sc (.int .i64 0)))))⟩, ⟨(some 49), none, (.k (.pick (.t 46) (.c (.sc (.bool true))) (.t 48)))⟩]) (.cond (.t 49) (.seq (.ops [⟨(some 50), none, (.k (.mov (.t 7)))⟩, ⟨(some 6), none, (.k (.mov (.t 50)))⟩]) .ret) .skip))
def CooOrders_6 : AC := (.seq CooOrders_7 CooOrders_8)
def CooOrders_5 : AC := (.seq (.ops [⟨(some 39), none, (.k (.ld 2 true (.t 3)))⟩, ⟨(some 40), none, (.k (.mov (.t 2)))⟩, ⟨(some 41), none, (.call false (.c (.fn (.func 16) [] [])) [(.t 39), (.t 40)])⟩, ⟨(some 38), none, (.k (.mov (.t 41)))⟩, ⟨(some 42), none, (.k (.ext (.t 38) 0))⟩, ⟨(some 43), none, (.k (.ext (.t 38) 1))⟩, ⟨(some 10), none, (.k (.new 25 2 (.c (.agg [(.imm true none 0 []), (.imm true none 0 [])]))))⟩, ⟨none, none, (.k (.st 2 (.t 10) (.t 42)))⟩, ⟨(some 11), none, (.k (.mov (.t 43)))⟩]) CooOrders_6)
def CooOrders_4 : AC := (.seq (.ops [⟨(some 33), none, (.k (.ld 2 true (.t 3)))⟩, ⟨(some 34), none, (.k (.mov (.t 1)))⟩, ⟨(some 35), none, (.call false (.c (.fn (.func 16) [] [])) [(.t 33), (.t 34)])⟩, ⟨(some 32), none, (.k (.mov (.t 35)))⟩, ⟨(some 36), none, (.k (.ext (.t 32) 0))⟩, ⟨(some 37), none, (.k (.ext (.t 32) 1))⟩, ⟨(some 8), none, (.k (.new 25 2 (.c (.agg [(.imm true none 0 []), (.imm true none 0 [])]))))⟩, ⟨none, none, (.k (.st 2 (.t 8) (.t 36)))⟩, ⟨(some 9), none, (.k (.mov (.t 37)))⟩]) CooOrders_5)
def CooOrders_3 : AC := (.seq (.ops [⟨(some 17), none, (.k (.ld 2 true (.t 3)))⟩, ⟨(some 18), none, (.k (.lit 2 [(.t 17)]))⟩, ⟨(some 19), none, (.call false (.c (.fn (.func 12) [] [])) [(.t 18)])⟩, ⟨(some 20), none, (.k (.un .not (.t 19)))⟩, ⟨(some 21), none, (.k (.mov (.t 20)))⟩, ⟨(some 22), (some (21, false)), (.k (.mov (.t 1)))⟩, ⟨(some 23), (some (21, false)), (.k (.len (.t 22)))⟩, ⟨(some 24), (some (21, false)), (.k (.bin .gtr (.t 23) (.c (.sc (.int .i64 20)))))⟩, ⟨(some 25), none, (.k (.pick (.t 21) (.c (.sc (.bool true))) (.t 24)))⟩, ⟨(some 26), none, (.k (.mov (.t 25)))⟩, ⟨(some 27), (some (26, false)), (.k (.mov (.t 2)))⟩, ⟨(some 28), (some (26, false)), (.k (.len (.t 27)))⟩, ⟨(some 29), (some (26, false)), (.k (.bin .gtr (.t 28) (.c (.sc (.int .i64 20)))))⟩, ⟨(some 30), none, (.k (.pick (.t 26) (.c (.sc (.bool true))) (.t 29)))⟩]) (.cond (.t 30) (.seq (.ops [⟨(some 31), none, (.k (.mov (.t 7)))⟩, ⟨(some 6), none, (.k (.mov (.t 31)))⟩]) .ret) .skip))
def CooOrders_2 : AC := (.seq CooOrders_3 CooOrders_4)
def CooOrders_1 : AC := (.seq (.ops [⟨(some 16), none, (.call false (.c (.fn (.func 11) [] [])) [])⟩, ⟨(some 7), none, (.k (.mov (.t 16)))⟩]) CooOrders_2)
def CooOrders_ac : AC := (.seq (.ops [⟨(some 3), none, (.k (.new 25 2 (.t 0)))⟩, ⟨(some 6), none, (.k (.mov (.c (.sc (.bool false)))))⟩]) CooOrders_1)
theorem CooOrders_call {args : List AV} {H : List AObj} {R : AV → List AObj → Prop} (h : AWp Try.prog [] H.length CooOrders_ac (bodyQ H.length [(.t 6)] R) (args ++ List.replicate (82 - args.length) .und) H) : ACalls Try.prog 5 args H R :=
  ACalls.of_fn Try.func5 rfl (by kernel_rfl) rfl Try.ntmps5 h

set_option maxHeartbeats 4000000 in
theorem CooOrders_spec {x a b : AV} {X : List Int × List (List Int × Int)} {A B : List Int} (hx : Coo x X) (hX : InX X) (hXl : X.2.length ≤ 9223372036854775807) (ha : ISl a A) (hb : ISl b B) : ACalls Try.prog 5 [x, a, b] [] fun r H' => H' = [] ∧ r = Bo true := by
  have hx' := hx
  have ha' := ha
  have hb' := hb
  obtain ⟨s, e, rfl, ⟨⟨n1, c1, z1, rfl, hs1⟩, hl1, hx1⟩, ⟨n2, c2, z2, es, rfl, h21, h22, h23⟩⟩ := hx
  obtain ⟨⟨n3, c3, z3, rfl, hs3⟩, hl3, hx3⟩ := ha
  obtain ⟨⟨n4, c4, z4, rfl, hs4⟩, hl4, hx4⟩ := hb
  have base : ACalls Try.prog 5 [.agg [.imm n1 c1 z1 (X.1.map I), .imm n2 c2 z2 es], .imm n3 c3 z3 (A.map I), .imm n4 c4 z4 (B.map I)] [] fun r H' => r = Bo true := by
    apply CooOrders_call
    repeat first | refine AWp.seq ?_ | refine AWp.block ?_
    refine AWp.ops ?_
    simp
    repeat first | refine AWp.seq ?_ | refine AWp.block ?_
    refine AWp.ops ?_
    simp
    refine (live02_spec.pure (by simp) (by rintro r rfl; simp) _).mono ?_
    rintro r H' ⟨rfl, rfl⟩
    simp
    repeat first | refine AWp.seq ?_ | refine AWp.block ?_
    refine AWp.ops ?_
    simp
    have hf := few2_spec (nl := false) (c := some 1) (sz := 2) (zs := [(.agg [.imm n1 c1 z1 (X.1.map I), .imm n2 c2 z2 es], X)]) (by simp; exact ⟨hx', hXl⟩) (by simp) (by simp) (by simp)
    simp only [List.map_cons, List.map_nil] at hf
    refine (hf.pure (by simp) (by rintro r rfl; simp) _).mono ?_
    rintro r H' ⟨rfl, rfl⟩
    simp only [List.all_cons, List.all_nil, Bool.and_true]
    cases hfew : fewX X with
    | false =>
      simp
      refine AWp.cond (b := true) (by simp) (fun _ => ?_) (fun h => by cases h)
      repeat first | refine AWp.seq ?_ | refine AWp.block ?_
      refine AWp.ops ?_
      simp
      refine AWp.ret ?_
      simp
      refine retOk.of rfl ?_
      simp
    | true =>
    simp only [fewX, Bool.and_eq_true, decide_eq_true_eq, List.all_eq_true] at hfew
    obtain ⟨hf1, hf2⟩ := hfew
    by_cases hA : 20 < A.length
    · have g : (20 : Int) < A.length := by omega
      simp [g]
      refine AWp.cond (b := true) (by simp) (fun _ => ?_) (fun h => by cases h)
      repeat first | refine AWp.seq ?_ | refine AWp.block ?_
      refine AWp.ops ?_
      simp
      refine AWp.ret ?_
      simp
      refine retOk.of rfl ?_
      simp
    have gA : ¬ (20 : Int) < A.length := by omega
    by_cases hB : 20 < B.length
    · have g : (20 : Int) < B.length := by omega
      simp [gA, g]
      refine AWp.cond (b := true) (by simp [g]) (fun _ => ?_) (fun h => by cases h)
      repeat first | refine AWp.seq ?_ | refine AWp.block ?_
      refine AWp.ops ?_
      simp
      refine AWp.ret ?_
      simp
      refine retOk.of rfl ?_
      simp
    have gB : ¬ (20 : Int) < B.length := by omega
    simp [gA, gB]
    refine AWp.cond (b := false) (by simp [gB]) (fun h => by cases h) (fun _ => ?_)
    refine AWp.skip ?_
    simp only [qSeq]
    repeat first | refine AWp.seq ?_ | refine AWp.block ?_
    refine AWp.ops ?_
    simp
    have jA := coo_pure (cJoin_spec hx' ha' (by omega) hX (by omega)) (joinF_in hX)
    have jB := coo_pure (cJoin_spec hx' hb' (by omega) hX (by omega)) (joinF_in hX)
    refine (jA.pure (by simp) (by rintro r ⟨y, rfl, hy⟩; simp [hy.noRef]) _).mono ?_
    rintro r H' ⟨rfl, y, rfl, hy⟩
    have hy' := hy
    obtain ⟨s5, e5, rfl, ⟨⟨n5, c5, z5, rfl, hs5⟩, hl5, hx5⟩, ⟨n6, c6, z6, es6, rfl, h61, h62, h63⟩⟩ := hy
    simp
    repeat first | refine AWp.seq ?_ | refine AWp.block ?_
    refine AWp.ops ?_
    simp
    refine (jB.pure (by simp) (by rintro r ⟨y, rfl, hy⟩; simp [hy.noRef]) _).mono ?_
    rintro r H' ⟨rfl, w, rfl, hw⟩
    have hw' := hw
    obtain ⟨s7, e7, rfl, ⟨⟨n7, c7, z7, rfl, hs7⟩, hl7, hx7⟩, ⟨n8, c8, z8, es8, rfl, h81, h82, h83⟩⟩ := hw
    simp
    by_cases hA0 : (joinF X A).2 = 0
    case neg =>
      repeat first | refine AWp.seq ?_ | refine AWp.block ?_
      refine AWp.ops ?_
      simp [hA0]
      refine AWp.cond (b := true) (by simp) (fun _ => ?_) (fun h => by cases h)
      repeat first | refine AWp.seq ?_ | refine AWp.block ?_
      refine AWp.ops ?_
      simp
      refine AWp.ret ?_
      simp
      refine retOk.of rfl ?_
      simp
    by_cases hB0 : (joinF X B).2 = 0
    case neg =>
      repeat first | refine AWp.seq ?_ | refine AWp.block ?_
      refine AWp.ops ?_
      simp [hA0, hB0]
      refine AWp.cond (b := true) (by simp [hB0]) (fun _ => ?_) (fun h => by cases h)
      repeat first | refine AWp.seq ?_ | refine AWp.block ?_
      refine AWp.ops ?_
      simp
      refine AWp.ret ?_
      simp
      refine retOk.of rfl ?_
      simp
    repeat first | refine AWp.seq ?_ | refine AWp.block ?_
    refine AWp.ops ?_
    simp [hA0, hB0]
    refine AWp.cond (b := false) (by simp [hB0]) (fun h => by cases h) (fun _ => ?_)
    have lA := joinF_len X A
    have lB := joinF_len X B
    have sB := coo_pure (cSort_spec hy' hb' (by omega) (joinF_in hX)) (sortF_in (joinF_in hX))
    have sA := coo_pure (cSort_spec hw' ha' (by omega) (joinF_in hX)) (sortF_in (joinF_in hX))
    rw [sortF_joinF hA0 hB0] at sB
    rw [sortF_joinF hB0 hA0] at sA
    refine AWp.skip ?_
    simp only [qSeq]
    repeat first | refine AWp.seq ?_ | refine AWp.block ?_
    refine AWp.ops ?_
    simp
    refine (sB.pure (by simp) (by rintro r ⟨y, rfl, hy⟩; simp [hy.noRef]) _).mono ?_
    rintro r H' ⟨rfl, p, rfl, hp⟩
    have hp' := hp
    obtain ⟨s9, e9, rfl, ⟨⟨n9, c9, z9, rfl, hs9⟩, hl9, hx9⟩, ⟨n10, c10, z10, es10, rfl, h101, h102, h103⟩⟩ := hp
    simp
    repeat first | refine AWp.seq ?_ | refine AWp.block ?_
    refine AWp.ops ?_
    simp
    refine (sA.pure (by simp) (by rintro r ⟨y, rfl, hy⟩; simp [hy.noRef]) _).mono ?_
    rintro r H' ⟨rfl, q, rfl, hq⟩
    have hq' := hq
    obtain ⟨s11, e11, rfl, ⟨⟨n11, c11, z11, rfl, hs11⟩, hl11, hx11⟩, ⟨n12, c12, z12, es12, rfl, h121, h122, h123⟩⟩ := hq
    simp
    repeat first | refine AWp.seq ?_ | refine AWp.block ?_
    refine AWp.ops ?_
    simp
    simp only at hp' hq'
    have m1 := cSame_spec hp' hw' (by omega) (by omega)
    have m2 := cSame_spec hq' hy' (by omega) (by omega)
    have e1 := joinF_check hB0
    have e2 := joinF_check hA0
    simp only [e1, e2, and_self, decide_true] at m1 m2
    refine (m1.pure (by simp) (by rintro r rfl; simp) _).mono ?_
    rintro r H' ⟨rfl, rfl⟩
    simp
    refine (m2.pure (by simp) (by rintro r rfl; simp) _).mono ?_
    rintro r H' ⟨rfl, rfl⟩
    simp
    refine AWp.ret ?_
    simp
    refine retOk.of rfl ?_
    simp
  refine (base.frozen 2).mono ?_
  rintro q H' ⟨rfl, r, G, rfl, rfl⟩
  exact ⟨rfl, by simp⟩
end Go.Fw
