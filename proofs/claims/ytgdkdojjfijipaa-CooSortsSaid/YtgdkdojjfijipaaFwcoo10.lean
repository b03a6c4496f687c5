import Derived.Test.YtgdkdojjfijipaaFwcoo7
namespace Go.Fw
set_option maxRecDepth 100000
set_option linter.unusedSimpArgs false
set_option linter.unusedVariables false

/-! ### What is joined -/
/-- The numbers at one place, one behind the other. -/
def jv : List (List Int × Int) → Int
  | [] => 0
  | t :: r => r.foldl (fun s u => IntKind.i64.wrap (s + u.2)) t.2
theorem jv_snoc {l : List (List Int × Int)} (h : l ≠ []) (t : List Int × Int) : jv (l ++ [t]) = IntKind.i64.wrap (jv l + t.2) := by
  match l, h with
  | x :: r, _ => simp [jv]
/-- All entries at a place. -/
def atP (L : List (List Int × Int)) (c : List Int) : List (List Int × Int) := L.filter fun t => decide (t.1 = c)
theorem atP_snoc (L : List (List Int × Int)) (t : List Int × Int) (c : List Int) : atP (L ++ [t]) c = atP L c ++ if t.1 = c then [t] else [] := by
  simp only [atP, List.filter_append]
  by_cases h : t.1 = c <;> simp [h]
theorem atP_ne {L : List (List Int × Int)} {c : List Int} : atP L c ≠ [] ↔ ∃ t ∈ L, t.1 = c := by
  rw [Ne, atP, List.filter_eq_nil_iff]
  constructor
  · intro h
    by_cases h2 : ∃ t ∈ L, t.1 = c
    · exact h2
    · exact absurd (fun t ht => by simp; exact fun e => h2 ⟨t, ht, e⟩) h
  · rintro ⟨t, ht, e⟩ h
    exact h t ht (by simp [e])
structure Joined (O : List Int) (L J : List (List Int × Int)) : Prop where
  lt : J.Pairwise fun x y => cmpO O x.1 y.1 < 0
  val : ∀ x ∈ J, x.2 = jv (atP L x.1) ∧ ∃ t ∈ L, t.1 = x.1
  all : ∀ t ∈ L, ∃ x ∈ J, x.1 = t.1
  last : J.getLast?.map (·.1) = L.getLast?.map (·.1)
theorem joined : ∀ (n : Nat) {O : List Int} {L : List (List Int × Int)}, L.length = n → L.Pairwise (fun x y => leO O x y = true) → (∀ x ∈ L, ∀ y ∈ L, cmpO O x.1 y.1 = 0 → x.1 = y.1) → Joined O L (joinL L)
  | 0, O, L, hn, _, _ => by
    have : L = [] := List.length_eq_zero_iff.1 hn
    subst this
    exact ⟨by simp, by simp, by simp, by simp⟩
  | n + 1, O, L, hn, hp, hz => by
    have hL : L ≠ [] := by rintro rfl; simp at hn
    obtain ⟨M, t, rfl⟩ : ∃ M t, L = M ++ [t] := ⟨L.dropLast, L.getLast hL, (List.dropLast_concat_getLast hL).symm⟩
    have hp' := List.pairwise_append.1 hp
    obtain ⟨j1, j2, j3, j4⟩ := joined n (O := O) (L := M) (by simpa using hn) hp'.1 (fun x hx y hy => hz x (by simp [hx]) y (by simp [hy]))
    have hle : ∀ x ∈ M, cmpO O x.1 t.1 ≤ 0 := fun x hx => by
      have := hp'.2.2 x hx t (by simp)
      simpa [leO] using this
    rw [joinL_snoc]
    generalize hA : joinL M = A at *
    by_cases hA0 : A = []
    · subst hA0
      have hM : M = [] := by
        cases M with
        | nil => rfl
        | cons x r => obtain ⟨y, hy, _⟩ := j3 x (by simp); simp at hy
      subst hM
      refine ⟨by simp [joinS], ?_, ?_, by simp [joinS]⟩
      · intro x hx
        simp [joinS] at hx
        subst hx
        exact ⟨by simp [atP, jv], x, by simp, rfl⟩
      · intro u hu
        simp at hu
        subst hu
        exact ⟨u, by simp [joinS], rfl⟩
    have hAp : 0 < A.length := List.length_pos_iff.2 hA0
    have hlast : A.getLast? = some (A[A.length - 1]'(by omega)) := by rw [List.getLast?_eq_getElem?, List.getElem?_eq_getElem]
    obtain ⟨l, hl⟩ : ∃ l, l = A[A.length - 1]'(by omega) := ⟨_, rfl⟩
    have hlm : l ∈ A := by rw [hl]; exact List.getElem_mem _
    have hsplit : A = A.dropLast ++ [l] := by
      have := List.dropLast_concat_getLast hA0
      rw [List.getLast_eq_getElem, ← hl] at this
      exact this.symm
    have hlt2 : ∀ x ∈ A.dropLast, cmpO O x.1 l.1 < 0 := by
      rw [hsplit] at j1
      intro x hx
      exact (List.pairwise_append.1 j1).2.2 x hx l (by simp)
    by_cases he : l.1 = t.1
    · have hj : joinS A t = A.dropLast ++ [(l.1, IntKind.i64.wrap (l.2 + t.2))] := by
        simp only [joinS, hlast, ← hl, he, if_true]
      rw [hj]
      refine ⟨?_, ?_, ?_, ?_⟩
      · rw [hsplit] at j1
        have j1' := List.pairwise_append.1 j1
        rw [List.pairwise_append]
        exact ⟨j1'.1, by simp, fun x hx y hy => by simp at hy; subst hy; exact hlt2 x hx⟩
      · intro x hx
        rcases List.mem_append.1 hx with hx | hx
        · obtain ⟨v1, u, hu, hu2⟩ := j2 x (by rw [hsplit]; simp [hx])
          have hne : t.1 ≠ x.1 := by
            intro e
            have := hlt2 x hx
            rw [he, e] at this
            have h2 := cmpO_neg O x.1 x.1
            omega
          exact ⟨by rw [atP_snoc, if_neg hne, List.append_nil]; exact v1, u, by simp [hu], hu2⟩
        · simp at hx
          subst hx
          obtain ⟨v1, u, hu, hu2⟩ := j2 l hlm
          refine ⟨?_, t, by simp, he.symm⟩
          simp only
          rw [atP_snoc, if_pos he.symm, jv_snoc (atP_ne.2 ⟨u, hu, hu2⟩), v1]
      · intro u hu
        rcases List.mem_append.1 hu with hu | hu
        · obtain ⟨x, hx, hx2⟩ := j3 u hu
          rw [hsplit] at hx
          rcases List.mem_append.1 hx with hx | hx
          · exact ⟨x, by simp [hx], hx2⟩
          · simp at hx
            subst hx
            exact ⟨(x.1, IntKind.i64.wrap (x.2 + t.2)), by simp, hx2⟩
        · simp at hu
          subst hu
          exact ⟨_, List.mem_append_right _ (List.mem_singleton.2 rfl), he⟩
      · simp [he]
    · have hj : joinS A t = A ++ [t] := by
        simp only [joinS, hlast, ← hl]
        rw [if_neg he]
      rw [hj]
      have hnew : ∀ u ∈ M, u.1 ≠ t.1 := by
        intro u hu e
        have hM0 : M ≠ [] := by rintro rfl; simp at hu
        have hlM : M.getLast? = some (M.getLast hM0) := List.getLast?_eq_some_getLast hM0
        rw [hlast, hlM, ← hl] at j4
        simp only [Option.map_some, Option.some.injEq] at j4
        have hmem := List.getLast_mem hM0
        have h1 := hle _ hmem
        have h2 : cmpO O u.1 (M.getLast hM0).1 ≤ 0 := by
          by_cases hul : u = M.getLast hM0
          · rw [← hul]
            have := cmpO_neg O u.1 u.1
            omega
          · have hs : M = M.dropLast ++ [M.getLast hM0] := (List.dropLast_concat_getLast hM0).symm
            have hu' := hu
            rw [hs] at hu'
            rcases List.mem_append.1 hu' with hu' | hu'
            · have hpm := hp'.1
              rw [hs] at hpm
              have := (List.pairwise_append.1 hpm).2.2 u hu' (M.getLast hM0) (by simp)
              simpa [leO] using this
            · simp at hu'; exact absurd hu' hul
        rw [e] at h2
        have h3 := cmpO_neg O t.1 (M.getLast hM0).1
        have := hz (M.getLast hM0) (by simp [hmem]) t (by simp) (by omega)
        exact he (j4.trans this)
      have hlt3 : ∀ x ∈ A, cmpO O x.1 t.1 < 0 := by
        intro x hx
        obtain ⟨_, u, hu, hu2⟩ := j2 x hx
        have h1 := hle u hu
        rw [← hu2]
        by_cases h0 : cmpO O u.1 t.1 = 0
        · exact absurd (hz u (by simp [hu]) t (by simp) h0) (hnew u hu)
        · omega
      refine ⟨?_, ?_, ?_, by simp⟩
      · rw [List.pairwise_append]
        exact ⟨j1, by simp, fun x hx y hy => by simp at hy; subst hy; exact hlt3 x hx⟩
      · intro x hx
        rcases List.mem_append.1 hx with hx | hx
        · obtain ⟨v1, u, hu, hu2⟩ := j2 x hx
          have hne : t.1 ≠ x.1 := fun e => hnew u hu (by rw [hu2, e])
          exact ⟨by rw [atP_snoc, if_neg hne, List.append_nil]; exact v1, u, by simp [hu], hu2⟩
        · simp at hx
          subst hx
          have h0 : atP M x.1 = [] := by
            by_cases h : atP M x.1 = []
            · exact h
            · obtain ⟨u, hu, hu2⟩ := atP_ne.1 h
              exact absurd hu2 (hnew u hu)
          exact ⟨by rw [atP_snoc, if_pos rfl, h0]; simp [jv], x, by simp, rfl⟩
      · intro u hu
        rcases List.mem_append.1 hu with hu | hu
        · obtain ⟨x, hx, hx2⟩ := j3 u hu
          exact ⟨x, by simp [hx], hx2⟩
        · simp at hu
          subst hu
          exact ⟨u, by simp, rfl⟩
/-- An order that tells all places of a list apart. -/
def Tells (O : List Int) (E : List (List Int × Int)) : Prop := ∀ x ∈ E, ∀ y ∈ E, cmpO O x.1 y.1 = 0 → x.1 = y.1
theorem Tells.sort {O A : List Int} {E : List (List Int × Int)} (h : Tells O E) : Tells O (E.mergeSort (leO A)) := fun x hx y hy => h x (List.mem_mergeSort.1 hx) y (List.mem_mergeSort.1 hy)
theorem cmpO_refl (O a : List Int) : cmpO O a a = 0 := by have := cmpO_neg O a a; omega
theorem atP_sort {O : List Int} {E : List (List Int × Int)} (h : Tells O E) (c : List Int) : atP (E.mergeSort (leO O)) c = atP E c := by
  by_cases hc : ∃ t ∈ E, t.1 = c
  · obtain ⟨t, ht, rfl⟩ := hc
    have e := stab_mergeSort (leO_trans O) (leO_total O) E t
    have e2 : ∀ u ∈ E, eqv (leO O) t u = decide (u.1 = t.1) := fun u hu => by
      simp only [eqv, leO]
      by_cases h0 : u.1 = t.1
      · simp [h0, cmpO_refl]
      · have h1 : cmpO O t.1 u.1 ≠ 0 := fun h2 => h0 (h t ht u hu h2).symm
        have h2 := cmpO_neg O t.1 u.1
        simp [h0]
        omega
    have e3 : ∀ L : List (List Int × Int), (∀ u ∈ L, u ∈ E) → L.filter (eqv (leO O) t) = atP L t.1 := fun L hL => List.filter_congr fun u hu => e2 u (hL u hu)
    rw [e3 _ (fun u hu => List.mem_mergeSort.1 hu), e3 _ (fun u hu => hu)] at e
    exact e
  · have h1 : atP E c = [] := by
      by_cases h : atP E c = []
      · exact h
      · exact absurd (atP_ne.1 h) hc
    have h2 : atP (E.mergeSort (leO O)) c = [] := by
      by_cases h : atP (E.mergeSort (leO O)) c = []
      · exact h
      · obtain ⟨t, ht, e⟩ := atP_ne.1 h
        exact absurd ⟨t, List.mem_mergeSort.1 ht, e⟩ hc
    rw [h1, h2]
/-- What a list is joined to, by an order. -/
theorem joined_sort {O : List Int} {E : List (List Int × Int)} (h : Tells O E) : (joinL (E.mergeSort (leO O))).Pairwise (fun x y => cmpO O x.1 y.1 < 0) ∧ (∀ x, x ∈ joinL (E.mergeSort (leO O)) ↔ (∃ t ∈ E, t.1 = x.1) ∧ x.2 = jv (atP E x.1)) := by
  have j := joined _ (O := O) (L := E.mergeSort (leO O)) rfl (List.pairwise_mergeSort (leO_trans O) (leO_total O) E) h.sort
  refine ⟨j.lt, fun x => ⟨fun hx => ?_, fun ⟨⟨t, ht, e⟩, hv⟩ => ?_⟩⟩
  · obtain ⟨h1, t, ht, e⟩ := j.val x hx
    exact ⟨⟨t, List.mem_mergeSort.1 ht, e⟩, by rw [h1, atP_sort h]⟩
  · obtain ⟨y, hy, e2⟩ := j.all t (List.mem_mergeSort.2 ht)
    obtain ⟨h1, _⟩ := j.val y hy
    rw [atP_sort h] at h1
    have : x = y := Prod.ext (by rw [← e, e2]) (by rw [hv, h1, ← e, e2])
    rw [this]; exact hy
theorem same_sorted {O : List Int} {s t : List (List Int × Int)} (hs : s.Pairwise (fun x y => cmpO O x.1 y.1 < 0)) (ht : t.Pairwise (fun x y => cmpO O x.1 y.1 < 0)) (h : ∀ x, x ∈ s ↔ x ∈ t) : s = t := by
  have nd : ∀ {l : List (List Int × Int)}, l.Pairwise (fun x y => cmpO O x.1 y.1 < 0) → l.Nodup := fun hl => hl.imp fun {a b} hab e => by
    subst e
    have := cmpO_refl O a.1
    omega
  refine List.Perm.eq_of_pairwise (le := fun x y => cmpO O x.1 y.1 < 0) (fun a b _ _ h1 h2 => ?_) hs ht ((List.perm_ext_iff_of_nodup (nd hs) (nd ht)).2 h)
  have := cmpO_neg O a.1 b.1
  omega
/-- Sorted by another order, what is joined is joined by that. -/
theorem sort_joined {A B : List Int} {E : List (List Int × Int)} (hA : Tells A E) (hB : Tells B E) : (joinL (E.mergeSort (leO A))).mergeSort (leO B) = joinL (E.mergeSort (leO B)) := by
  obtain ⟨a1, a2⟩ := joined_sort hA
  obtain ⟨b1, b2⟩ := joined_sort hB
  refine same_sorted (O := B) ?_ b1 fun x => by rw [List.mem_mergeSort, a2, b2]
  have hp := List.pairwise_mergeSort (leO_trans B) (leO_total B) (joinL (E.mergeSort (leO A)))
  have hnd : ((joinL (E.mergeSort (leO A))).mergeSort (leO B)).Nodup := by
    refine (List.Perm.nodup_iff (List.mergeSort_perm _ _)).2 (a1.imp fun {a b} hab e => ?_)
    subst e
    have := cmpO_refl A a.1
    omega
  rw [List.nodup_iff_pairwise_ne] at hnd
  refine (hp.and hnd).imp_of_mem fun {a b} ha hb hab => ?_
  have ha' := (a2 a).1 (List.mem_mergeSort.1 ha)
  have hb' := (a2 b).1 (List.mem_mergeSort.1 hb)
  obtain ⟨h1, h2⟩ := hab
  simp only [leO, decide_eq_true_eq] at h1
  by_cases h0 : cmpO B a.1 b.1 = 0
  · obtain ⟨⟨u, hu, e1⟩, v1⟩ := ha'
    obtain ⟨⟨w, hw, e2⟩, v2⟩ := hb'
    have : a.1 = b.1 := by rw [← e1, ← e2]; exact hB u hu w hw (by rw [e1, e2]; exact h0)
    exact absurd (Prod.ext this (by rw [v1, v2, this])) h2
  · omega
theorem sort_sorted {O : List Int} {L : List (List Int × Int)} (h : L.Pairwise fun x y => leO O x y = true) : L.mergeSort (leO O) = L := List.mergeSort_of_pairwise h
theorem join_strict {O : List Int} : ∀ (n : Nat) {L : List (List Int × Int)}, L.length = n → L.Pairwise (fun x y => cmpO O x.1 y.1 < 0) → joinL L = L
  | 0, L, hn, _ => by
    have : L = [] := List.length_eq_zero_iff.1 hn
    subst this; rfl
  | n + 1, L, hn, hp => by
    have hL : L ≠ [] := by rintro rfl; simp at hn
    obtain ⟨M, t, rfl⟩ : ∃ M t, L = M ++ [t] := ⟨L.dropLast, L.getLast hL, (List.dropLast_concat_getLast hL).symm⟩
    have hp' := List.pairwise_append.1 hp
    rw [joinL_snoc, join_strict n (by simpa using hn) hp'.1]
    unfold joinS
    split
    · rename_i l hl
      have hlm : l ∈ M := List.mem_of_getLast? hl
      have := hp'.2.2 l hlm t (by simp)
      rw [if_neg]
      intro e
      rw [e] at this
      have := cmpO_refl O t.1
      omega
    · rename_i hl
      have : M = [] := by simpa using hl
      rw [this]; rfl
end Go.Fw
