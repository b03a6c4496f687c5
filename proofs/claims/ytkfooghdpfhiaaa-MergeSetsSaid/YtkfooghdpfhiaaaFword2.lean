/- merge.Order: the things that waited for one that came. -/
import Derived.Test.YtkfooghdpfhiaaaFword1d
namespace Go.Fw
open Go Go.RowKit Go.Proofs
set_option maxRecDepth 100000
set_option linter.unusedSimpArgs false
set_option linter.unusedVariables false

/-- What holds when the first q of those that wait for i have been told. -/
structure I5 (n : Nat) (f : Nat → List Int) (i : Nat) (W : Nat → Nat) (out : List Nat) (q : Nat) (es : List AV) (m : Nat) (wl : List Int) (H : List AObj) : Prop where
  os : OS n f H wl es m (some out)
  el : es.length ≤ n
  ok : ∀ e ∈ es, okN e
  pe : (es.take m).Perm (((List.range n).filter fun k => decide (k ∉ out) && decide (W k = cq (f i) q k)).map fun (k : Nat) => I k)
  hd : Hp (kAt keyN es) m 0
  wll : wl.length = n
  wlk : ∀ k (h : k < wl.length), wl[k] = (W k : Int) - cq (f i) q k

abbrev F5 (A : List (List Int)) (n i L l q : Nat) : List AV := fm 125 [(0, Ls A), (4, .slc 0 n 0 n none), (5, .slc 1 n 0 n none), (10, .ptr (n + 2) 1 0 0), (13, .slc (n + 4) L 0 L none), (96, .slc (i + 2) l 0 l none), (97, I l), (98, I q)]
set_option maxHeartbeats 4000000 in
theorem mord5 {A : List (List Int)} {n : Nat} {f : Nat → List Int} {i : Nat} {W : Nat → Nat} {out : List Nat} {es : List AV} {m : Nat} {wl : List Int} {H : List AObj} {Q : Exit → List AV → List AObj → Prop} {b : Blk1 (.loop mord_5) Q} {fr : List AV}
    (hn : n ≤ 1000000) (hiN : i < n) (hfl : (f i).length ≤ 1000000) (hfr : ∀ y ∈ f i, ∃ k : Nat, y = k ∧ k < n) (hW : ∀ k : Nat, ((f i).filter fun y => decide (y = (k : Int))).length ≤ W k) (hW2 : ∀ k < n, W k ≤ 1000000)
    (ho : ∀ k : Nat, (k : Int) ∈ f i → k ∉ out) (hI : I5 n f i W out 0 es m wl H) (hF : leF fr (F5 A n i out.length (f i).length 0))
    (hQ : ∀ es m wl H, I5 n f i W out (f i).length es m wl H → Q (.exit 8) (F5 A n i out.length (f i).length (f i).length |>.set 99 (Bo false)) H) : Lp Try.prog [] 0 (.loop mord_5) Q b fr H := by
  refine Lp.opw (σ := Nat × List AV × Nat × List Int × List AObj) (fun s => s.1 ≤ (f i).length ∧ I5 n f i W out s.1 s.2.1 s.2.2.1 s.2.2.2.1 s.2.2.2.2) (fun s => (f i).length - s.1)
    (fun s => F5 A n i out.length (f i).length s.1) (fun s => s.2.2.2.2) (0, es, m, wl, H) ⟨by omega, hI⟩ (Weak.le hF (leH.refl _)) ?_
  rintro ⟨q, es, m, wl, H⟩ ⟨hq, hI⟩
  simp only at hq hI
  obtain ⟨hS, hel, hok, hP, hD, hwll, hwlk⟩ := hI
  have hb3 := hS.bx i hiN
  have hw3 := hS.w0
  clear hI
  simp (disch := omega) [ar, -List.take_append_getElem, mord_5]
  (first | refine Cnd.sp (fun h4 => ?_) fun h4 => ?_ | refine Gd.sp (fun h4 => ?_) fun h4 => ?_) <;> (try simp at h4) <;> (try simp (disch := omega) [ar, -List.take_append_getElem, h4])
  · obtain ⟨k, hk, hkn⟩ := hfr (f i)[q] (List.getElem_mem h4)
    have hrow : (ow 3 1 ((f i).map I)).vir = none := by simp [ow]; intro e; simp [e] at h4
    have hfe : f i ≠ [] := by intro e; simp [e] at h4
    have hkw : k < wl.length := by omega
    have hwk := hwlk k hkw
    have hH0 : 0 < H.length := by have := hS.len; omega
    have hH1 : H[0] = ob 3 1 (wl.map I) := by rw [List.getElem?_eq_getElem hH0] at hw3; exact Option.some.inj hw3
    have hHi : i + 2 < H.length := by have := hS.len; omega
    have hH2 : H[i + 2] = ow 3 1 ((f i).map I) := by rw [List.getElem?_eq_getElem hHi] at hb3; exact Option.some.inj hb3
    have hk1 := hW k
    have hk2 := hW2 k hkn
    have hk3 := cq_le (f i) (q + 1) k
    have hk4 := cq_succ h4 hk k
    rw [if_pos rfl] at hk4
    have hss : ∀ v : AV, ((wl.map I).set k v)[k]? = some v := fun v => List.getElem?_set_self (by simpa using hkw)
    clear hb3 hw3
    simp (disch := omega) [ar, -List.take_append_getElem, hH1, hH2, hrow, hfe, hk, hkw, hwk, hwll, hss]
    have hS2 := hS.wait (wl' := wl.set k ((W k : Int) - cq (f i) q k - 1))
    have hko : k ∉ out := ho k (by rw [← hk]; exact List.getElem_mem h4)
    have hwlk2 : ∀ x (h : x < (wl.set k ((W k : Int) - cq (f i) q k - 1)).length), (wl.set k ((W k : Int) - cq (f i) q k - 1))[x] = (W x : Int) - cq (f i) (q + 1) x := by
      intro x h
      have hx : x < wl.length := by simpa using h
      rw [List.getElem_set, cq_succ h4 hk x]
      by_cases e : x = k
      · subst e; rw [if_pos rfl, if_pos rfl]; omega
      · rw [if_neg (Ne.symm e), if_neg e, hwlk x hx]; omega
    have eo : H.set 0 (ob 3 1 ((wl.map I).set k (I ((W k : Int) - cq (f i) q k - 1)))) = H.set 0 (ob 3 1 ((wl.set k ((W k : Int) - cq (f i) q k - 1)).map I)) := by rw [List.map_set]
    simp only [eo]
    have hwll2 : (wl.set k ((W k : Int) - cq (f i) q k - 1)).length = n := by simpa using hwll
    generalize wl.set k ((W k : Int) - cq (f i) q k - 1) = wl2 at hS2 hwlk2 hwll2 ⊢
    generalize H.set 0 (ob 3 1 (wl2.map I)) = H2 at hS2 ⊢
    (first | refine Cnd.sp (fun h5 => ?_) fun h5 => ?_ | refine Gd.sp (fun h5 => ?_) fun h5 => ?_) <;> (try simp at h5) <;> (try simp (disch := omega) [ar, -List.take_append_getElem, h5])
    · have h5' : W k = cq (f i) (q + 1) k := by omega
      have hne : W k ≠ cq (f i) q k := by omega
      have hP2 := (filter_add (l := List.range n) List.nodup_range (P := fun x => decide (x ∉ out) && decide (W x = cq (f i) q x)) (Q := fun x => decide (x ∉ out) && decide (W x = cq (f i) (q + 1) x)) (k := k) (by simpa using hkn) (by simp [hne]) (by simp [hko, h5'])
        (fun x _ hx => by simp only [cq_succ h4 hk x, if_neg hx, Nat.add_zero])).map fun (k : Nat) => I k
      have hmn : m < n := by
        have h1 := hP2.length_eq
        have h2 := hP.length_eq
        have h3 := List.length_filter_le (fun x => decide (x ∉ out) && decide (W x = cq (f i) (q + 1) x)) (List.range n)
        have h4 := hS.hs.le
        simp at h1 h2 h3; omega
      refine ACalls.c (hpush_spec nu_HM nu_HQ hS2.hs hok ⟨k, rfl⟩ hD (by omega) (by omega)) ?_
      rintro r H3 ⟨es2, rfl, hl2, hP3, hd3, hD3⟩
      simp (disch := omega) [ar, -List.take_append_getElem]
      have hle := hS.hs.le
      have hl3 : es2.length = max es.length (m + 1) := by rw [hl2]; simp; omega
      refine ⟨q + 1, es2, m + 1, wl2, _, ⟨by omega, hS2.heap (by omega), by omega, ?_, ?_, hD3, hwll2, hwlk2⟩, by omega, by omega, rfl⟩
      · intro e he
        rw [← List.take_append_drop (m + 1) es2] at he
        rcases List.mem_append.1 he with h | h
        · rcases List.mem_append.1 (hP3.mem_iff.1 h) with h | h
          · exact hok e (List.mem_of_mem_take h)
          · rw [List.mem_singleton.1 h]; exact ⟨k, rfl⟩
        · rw [hd3] at h; exact hok e (List.mem_of_mem_drop h)
      · rw [List.map_append] at hP2
        exact (hP3.trans (hP.append_right _)).trans hP2.symm
    · refine ⟨q + 1, es, m, wl2, _, ⟨by omega, hS2, hel, hok, ?_, hD, hwll2, hwlk2⟩, by omega, by omega, rfl⟩
      have e : ((List.range n).filter fun x => decide (x ∉ out) && decide (W x = cq (f i) (q + 1) x)) = (List.range n).filter fun x => decide (x ∉ out) && decide (W x = cq (f i) q x) := by
        refine List.filter_congr fun x _ => ?_
        rw [cq_succ h4 hk x]
        by_cases e : x = k
        · subst e
          rw [if_pos rfl, show decide (W x = cq (f i) q x + 1) = false by simp; omega, show decide (W x = cq (f i) q x) = false by simp; omega]
        · rw [if_neg e]; rfl
      rw [e]; exact hP
  · obtain rfl : q = (f i).length := by omega
    simpa using hQ es m wl H ⟨hS, hel, hok, hP, hD, hwll, hwlk⟩
end Go.Fw
