/- merge.Order. -/
import Derived.Test.YtkfooghdpfhiaaaFword3
namespace Go.Fw
open Go Go.RowKit Go.Proofs
set_option maxRecDepth 100000
set_option linter.unusedSimpArgs false
set_option linter.unusedVariables false

set_option maxHeartbeats 4000000 in
theorem mord_p (A : List (List Int)) (hA : A.length ≤ 1000000) (hF : A.flatten.length ≤ 1000000) : Pu Try.prog 17 [Ls A] (.tup [Is (ordF A).1, I (ordF A).2]) := by
  refine Pu.of 4 (mord_w ?_)
  obtain ⟨n, hn⟩ : ∃ n, n = A.length := ⟨_, rfl⟩
  simp (disch := omega) [ar, -List.take_append_getElem, mord_ac, ← hn]
  have hAi : ∀ i (h : i < n), (A.getD i []) = A[i]'(by omega) := fun i h => by simp [List.getD, show i < A.length by omega]
  refine Lp.opw (σ := Nat) (fun i => i ≤ n ∧ ∀ l ∈ A.take i, ∀ x ∈ l, 0 ≤ x ∧ x < (n : Int)) (fun i => n - i) (fun i => fm 125 [(0, Ls A), (4, .slc 0 n 0 n none), (5, .slc 1 n 0 n none), (23, Ls A), (24, I n), (25, I i)])
    (fun i => ob 3 1 ((wsF A i 0).map I) :: ob 22 1 (rowS 2 n (bhF (A.take i))) :: rowsO 3 n (bhF (A.take i))) 0 ⟨by omega, by simp⟩ ?_ ?_
  · refine (Weak.ownRow 1 3 1 22 n (by omega) (z := 0) rfl).trans (Weak.le (by simp) ?_)
    have e1 : wsF A 0 0 = List.replicate n 0 := by simp [wsF, ← hn, List.map_const']
    have e2 : bhF (A.take 0) = fun _ => [] := by funext x; simp [bhF]
    rw [e1, e2, rowS_nil, rowsO_nil]
    simp [leH.refl]
  rintro i ⟨hi, hin⟩
  simp (disch := omega) [ar, -List.take_append_getElem, mord_1]
  (first | refine Cnd.sp (fun h1 => ?_) fun h1 => ?_ | refine Gd.sp (fun h1 => ?_) fun h1 => ?_) <;> (try simp at h1) <;> (try simp (disch := omega) [ar, -List.take_append_getElem, h1])
  · have hil : i < A.length := by omega
    obtain ⟨l, hl⟩ : ∃ l, A[i] = l := ⟨_, rfl⟩
    have hlA : l ∈ A := by rw [← hl]; exact List.getElem_mem hil
    have hll : l.length ≤ 1000000 := by
      have := (List.sublist_flatten_of_mem hlA).length_le; omega
    have hbl : ∀ m x, (bhF (A.take i ++ [l.take m]) x).length ≤ 1000000 := fun m x => by
      have h1 := bhF_len (A.take i ++ [l.take m]) x
      have h2 : (A.take i ++ [l.take m]).flatten.length ≤ A.flatten.length := by
        have e : A = A.take i ++ l :: A.drop (i + 1) := by rw [← hl]; simp
        have := congrArg (fun L => L.flatten.length) e
        simp at this ⊢
        omega
      omega
    have bad : ∀ x ∈ l, ¬ (0 ≤ x ∧ x < (n : Int)) → ordF A = ([], 3) := fun x hx h => by
      rw [ordF, if_neg]
      intro hA; exact h (by have := hA l hlA x hx; rw [hn]; exact this)
    simp only [hl]
    refine Lp.op (σ := Nat) (fun m => m ≤ l.length ∧ ∀ x ∈ l.take m, 0 ≤ x ∧ x < (n : Int)) (fun m => l.length - m) (fun m => fm 125 [(0, Ls A), (4, .slc 0 n 0 n none), (5, .slc 1 n 0 n none), (6, I i), (23, Ls A), (24, I n), (25, I i), (30, Is l), (31, I l.length), (32, I m)])
      (fun m => ob 3 1 ((wsF A i m).map I) :: ob 22 1 (rowS 2 n (bhF (A.take i ++ [l.take m]))) :: rowsO 3 n (bhF (A.take i ++ [l.take m]))) 0 ⟨⟨by omega, by simp⟩, by simp, ?_⟩ ?_
    · have e : bhF (A.take i ++ [l.take 0]) = bhF (A.take i) := by funext x; rw [bhF_snoc]; simp
      rw [e]
    rintro m ⟨hm, hx⟩
    simp (disch := omega) [ar, -List.take_append_getElem, mord_2]
    (first | refine Cnd.sp (fun h2 => ?_) fun h2 => ?_ | refine Gd.sp (fun h2 => ?_) fun h2 => ?_) <;> (try simp at h2) <;> (try simp (disch := omega) [ar, -List.take_append_getElem, h2])
    · have hxl : l[m] ∈ l := List.getElem_mem h2
      (first | refine Cnd.sp (fun h3 => ?_) fun h3 => ?_ | refine Gd.sp (fun h3 => ?_) fun h3 => ?_) <;> (try simp at h3) <;> (try simp (disch := omega) [ar, -List.take_append_getElem, h3])
      · simp (disch := omega) [ar, -List.take_append_getElem, bad _ hxl (by omega)]
      (first | refine Cnd.sp (fun h4 => ?_) fun h4 => ?_ | refine Gd.sp (fun h4 => ?_) fun h4 => ?_) <;> (try simp at h4) <;> (try simp (disch := omega) [ar, -List.take_append_getElem, h4])
      · simp (disch := omega) [ar, -List.take_append_getElem, bad _ hxl (by omega)]
      obtain ⟨k, hk⟩ : ∃ k : Nat, l[m] = k := ⟨l[m].toNat, by omega⟩
      have hkn : k < n := by omega
      obtain ⟨f, hf⟩ : ∃ f, f = bhF (A.take i ++ [l.take m]) := ⟨_, rfl⟩
      have hfl := hbl m k
      have hwl : (wsF A i m).length = n := by simp [wsF, ← hn]
      have hwi : (wsF A i m)[i]'(by omega) = m := by simp [wsF]
      rw [← hf] at hfl ⊢
      simp (disch := omega) [ar, -List.take_append_getElem, hk, rowS_get hkn, rowsO_get hkn, hwl, hwi]
      refine ⟨m + 1, ⟨by omega, fun x hx1 => ?_⟩, by omega, by omega, ?_, ?_, ?_⟩
      · rw [List.take_succ_eq_append_getElem h2] at hx1
        rcases List.mem_append.1 hx1 with h | h
        · exact hx x h
        · rw [List.mem_singleton.1 h]; omega
      · rw [← wsF_set hil, List.map_set]
      · have := rowS_set (b := 2) (f := f) (l := f k ++ [(i : Int)]) hkn
        simp only [List.length_append, List.length_singleton] at this
        rw [this]
        exact rowS_congr fun x _ => by rw [hf, bh_step hil h2 hk]
      · have := rowsO_set (ty := 3) (f := f) (l := f k ++ [(i : Int)]) hkn
        simp only [List.map_append, List.map_cons, List.map_nil] at this
        rw [show (⟨3, 1, (f k).map I ++ [I i], true, none⟩ : AObj) = ow 3 1 ((f k).map I ++ [I i]) by simp [ow], this]
        exact rowsO_congr fun x _ => by rw [hf, bh_step hil h2 hk]
    · obtain rfl : m = l.length := by omega
      have e : A.take (i + 1) = A.take i ++ [l] := by rw [List.take_succ_eq_append_getElem hil, hl]
      refine ⟨i + 1, ⟨by omega, ?_⟩, by omega, by omega, by rw [← wsF_next hil, hl], by rw [e], by rw [e]⟩
      rw [e]
      intro l' hl' x hx'
      rcases List.mem_append.1 hl' with h | h
      · exact hin l' h x hx'
      · rw [List.mem_singleton.1 h] at hx'; exact hx x (by rw [List.take_of_length_le (Nat.le_refl _)]; exact hx')
  · obtain rfl : n = i := by omega
    have hinA : inA A := fun l hl x hx => by
      have := hin l (by rw [List.take_of_length_le (by omega)]; exact hl) x hx
      omega
    obtain ⟨f, hf⟩ : ∃ f, f = bhF A := ⟨_, rfl⟩
    obtain ⟨wl, hwl⟩ : ∃ wl, wl = wsF A n 0 := ⟨_, rfl⟩
    have hwll : wl.length = n := by rw [hwl]; simp [wsF, ← hn]
    have hwlk : ∀ k (h : k < wl.length), wl[k] = (wt A [] k : Int) := fun k h => by
      have hk : k < n := by omega
      simp only [hwl, wsF, List.getElem_map, List.getElem_range, if_pos hk, wt]; simp [List.filter_eq_self.2]
    rw [← hf, ← hwl]
    refine Lp.opw (σ := Nat × List AV × List AObj) (fun s => s.1 ≤ n ∧ OS n f s.2.2 wl s.2.1 s.2.1.length none ∧ s.2.1.Perm (((List.range s.1).filter (may A [])).map fun (k : Nat) => I k) ∧ Hp (kAt keyN s.2.1) s.2.1.length 0) (fun s => n - s.1)
      (fun s => fm 125 [(0, Ls A), (4, .slc 0 n 0 n none), (5, .slc 1 n 0 n none), (10, .ptr (n + 2) 1 0 0), (64, .slc 0 n 0 n none), (65, I n), (66, I s.1)]) (fun s => s.2.2)
      (0, [], ob 3 1 (wl.map I) :: ob 22 1 (rowS 2 n f) :: (rowsO 3 n f ++ [ob 86 1 [.agg [.slc (n + 3) 0 0 0 none]], ow 3 1 []])) ?_ ?_ ?_
    · refine ⟨by omega, ⟨by simp, rfl, rfl, fun x hx => ?_, ⟨?_, ?_, by omega, by simp⟩, by simp⟩, by simp, fun c _ h => by simp at h⟩
      · simp only [List.getElem?_cons_succ]
        rw [List.getElem?_append_left (by simpa using hx)]; exact rowsO_get hx
      · simp only [List.getElem?_cons_succ]
        rw [List.getElem?_append_right (by simp)]; simp
      · simp only [List.getElem?_cons_succ]
        rw [List.getElem?_append_right (by simp)]; simp [ov, ow]
    · refine (Weak.ownAt (n + 2) 0 0 3 1 (by omega) (o := ob 86 1 [.agg [nil0]]) (e0 := .agg [nil0]) (e1 := .agg [.slc (n + 3) 0 0 0 none]) (c := none) (sz' := 0) ?_ rfl rfl rfl (by simp [cellsOf])).trans (Weak.le (by simp) ?_)
      · simp only [List.getElem?_cons_succ]
        rw [List.getElem?_append_right (by simp)]; simp
      · simp only [List.set_cons_succ]
        rw [List.set_append_right _ _ (by simp)]
        simp [leH.refl]
    rintro ⟨i, es, H⟩ ⟨hi, hS, hP, hD⟩
    simp only at hi hS hP hD
    have h0 := hS.w0
    simp (disch := omega) [ar, -List.take_append_getElem, mord_3, h0]
    (first | refine Cnd.sp (fun h2 => ?_) fun h2 => ?_ | refine Gd.sp (fun h2 => ?_) fun h2 => ?_) <;> (try simp at h2) <;> (try simp (disch := omega) [ar, -List.take_append_getElem, h2])
    · have hiw : i < wl.length := by omega
      have hwi := hwlk i hiw
      simp (disch := omega) [ar, -List.take_append_getElem, h0, hwll, hwi]
      (first | refine Cnd.sp (fun h3 => ?_) fun h3 => ?_ | refine Gd.sp (fun h3 => ?_) fun h3 => ?_) <;> (try simp at h3) <;> (try simp (disch := omega) [ar, -List.take_append_getElem, h3])
      · have hel : es.length ≤ i := by
          have h1 := hP.length_eq
          have h2 := List.length_filter_le (may A []) (List.range i)
          simp at h1 h2; omega
        refine ACalls.c (hpush_spec nu_HM nu_HQ hS.hs (fun e he => ?_) ⟨i, rfl⟩ hD (by omega) (by omega)) ?_
        · obtain ⟨k, _, rfl⟩ := List.mem_map.1 (hP.mem_iff.1 he); exact ⟨k, rfl⟩
        rintro r H2 ⟨es', rfl, hl2, hP2, -, hD2⟩
        have hl3 : es'.length = es.length + 1 := by simpa using hl2
        rw [List.take_of_length_le (by omega), List.take_of_length_le (by omega)] at hP2
        simp (disch := omega) [ar, -List.take_append_getElem]
        refine ⟨i + 1, es', _, ⟨by omega, by rw [hl3]; exact hS.heap (by omega), ?_, by rw [hl3]; exact hD2⟩, by omega, by omega, rfl⟩
        have hm : may A [] i = true := by simp [may]; omega
        rw [List.range_succ, List.filter_append, List.map_append, List.filter_cons_of_pos hm]
        exact hP2.trans (hP.append_right _)
      · have hm : may A [] i = false := by simp [may]; omega
        refine ⟨i + 1, es, _, ⟨by omega, hS, ?_, hD⟩, by omega, by omega, rfl⟩
        rw [List.range_succ, List.filter_append, List.filter_cons_of_neg (by simp [hm])]
        simpa using hP
    · obtain rfl : n = i := by omega
      have h2 := hP.length_eq
      have h3 := List.length_filter_le (may A []) (List.range n)
      simp at h2 h3
      have hl : H.length = n + 4 := by simpa using hS.len
      refine mord4 hn (by omega) hF hf hinA (es := es) (m := es.length) (wl := wl) (H := H ++ [ow 3 1 []]) ⟨hS.out0, by omega, fun e he => ?_, by simpa using hP, hD, hwll, hwlk, by simp, by simp [leftN, List.filter_eq_self.2], fun l h => h⟩ ?_ ?_
      · obtain ⟨k, _, rfl⟩ := List.mem_map.1 (hP.mem_iff.1 he); exact ⟨k, rfl⟩
      · refine (Weak.own 13 3 1 (by omega) none 0 rfl).trans (Weak.le (by simp [hl]) ?_)
        have e : H ++ [(⟨3, 1, [], true, some true⟩ : AObj)] = H ++ [ow 3 1 []] := by simp [ow]
        rw [e]; exact leH.refl _
      · intro out es2 wl2 H2 hI hnone
        have hlast : ordL A = out := (ordL_spec A).det (hI.to _ (.done hnone))
        have hF0 : ordF A = if out.length < n then ([], 5) else (out.map fun (k : Nat) => (k : Int), 0) := by rw [ordF, if_pos hinA, hlast, hn]
        have ho := hI.os.ho out rfl
        clear hI hnone hP hD hS hwlk
        simp (disch := omega) [ar, -List.take_append_getElem, ← hn]
        (first | refine Cnd.sp (fun h4 => ?_) fun h4 => ?_ | refine Gd.sp (fun h4 => ?_) fun h4 => ?_) <;> (try simp at h4) <;> (try simp (disch := omega) [ar, -List.take_append_getElem, h4])
        · simp (disch := omega) [ar, -List.take_append_getElem, hF0, h4]
        · have h5 : ¬ out.length < n := by omega
          simp (disch := omega) [ar, -List.take_append_getElem, hF0, h5, ho]
          exact .inl (by rw [show (fz H2 0 2 false ∘ fun (k : Nat) => I k) = (I ∘ fun (k : Nat) => (k : Int)) from funext fun k => fz_sc _]; exact Wks.refl _)
end Go.Fw
