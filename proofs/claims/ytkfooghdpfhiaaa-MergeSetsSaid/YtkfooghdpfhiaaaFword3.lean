/- merge.Order: each time the least thing that may come. -/
import Derived.Test.YtkfooghdpfhiaaaFword2
namespace Go.Fw
open Go Go.RowKit Go.Proofs
set_option maxRecDepth 100000
set_option linter.unusedSimpArgs false
set_option linter.unusedVariables false

/-- What holds when some have come. -/
structure I4 (A : List (List Int)) (n : Nat) (f : Nat → List Int) (out : List Nat) (es : List AV) (m : Nat) (wl : List Int) (H : List AObj) : Prop where
  os : OS n f H wl es m (some out)
  el : es.length ≤ n
  ok : ∀ e ∈ es, okN e
  pe : (es.take m).Perm (((List.range n).filter (may A out)).map fun (k : Nat) => I k)
  hd : Hp (kAt keyN es) m 0
  wll : wl.length = n
  wlk : ∀ k (h : k < wl.length), wl[k] = (wt A out k : Int)
  cl : ∀ k ∈ out, wt A out k = 0
  cnt : out.length + leftN n out = n
  to : ∀ l, OrdR A out l → OrdR A [] l

/-- The least of the heap is the next one. -/
theorem I4.next {A : List (List Int)} {n : Nat} {f : Nat → List Int} {out : List Nat} {es : List AV} {m : Nat} {wl : List Int} {H : List AObj} (h : I4 A n f out es (m + 1) wl H) (hn : n = A.length) :
    ∃ i : Nat, i < n ∧ es.getD 0 .und = I i ∧ may A out i = true ∧ nextF A out = some i := by
  have hle := h.os.hs.le
  have h0m : 0 < es.length := by omega
  have he0 : es.getD 0 .und = es[0] := by simp [List.getD, h0m]
  have hmem0 : es[0] ∈ es.take (m + 1) := by rw [List.mem_take_iff_getElem]; exact ⟨0, by omega, rfl⟩
  obtain ⟨i, hif, hi0⟩ := List.mem_map.1 (h.pe.mem_iff.1 hmem0)
  obtain ⟨hin1, himay⟩ := List.mem_filter.1 hif
  have hiN : i < n := by simpa using hin1
  refine ⟨i, hiN, by rw [he0, hi0], himay, may_least (by omega) himay fun k hk hkm => ?_⟩
  have hkm2 : I k ∈ es.take (m + 1) := h.pe.mem_iff.2 (List.mem_map.2 ⟨k, List.mem_filter.2 ⟨by simp; omega, hkm⟩, rfl⟩)
  rw [List.mem_take_iff_getElem] at hkm2
  obtain ⟨c, hc, hce⟩ := hkm2
  have := h.hd.le c (by omega)
  simp only [kAt, List.getD] at this
  rw [List.getElem?_eq_getElem h0m, List.getElem?_eq_getElem (by omega), Option.getD_some, Option.getD_some, ← hi0, hce] at this
  simp at this; omega

abbrev F4 (A : List (List Int)) (n L : Nat) : List AV := fm 125 [(0, Ls A), (4, .slc 0 n 0 n none), (5, .slc 1 n 0 n none), (10, .ptr (n + 2) 1 0 0), (13, .slc (n + 4) L 0 L none)]
set_option maxHeartbeats 4000000 in
theorem mord4 {A : List (List Int)} {n : Nat} {f : Nat → List Int} {es : List AV} {m : Nat} {wl : List Int} {H H' : List AObj} {Q : Exit → List AV → List AObj → Prop} {b : Blk1 (.loop mord_4) Q} {fr : List AV}
    (hn : n = A.length) (hnl : n ≤ 1000000) (hF : A.flatten.length ≤ 1000000) (hf : f = bhF A) (hA : inA A) (hI : I4 A n f [] es m wl H) (hw : Weak 0 fr H' (F4 A n 0) H)
    (hQ : ∀ out es wl H, I4 A n f out es 0 wl H → nextF A out = none →
      Q (.exit 6) (F4 A n out.length |>.set 79 (.ptr (n + 2) 1 0 0) |>.set 80 (.ptr (n + 2) 1 0 0) |>.set 81 (.ptr (n + 2) 1 0 0) |>.set 82 (.slc (n + 3) es.length 0 0 none) |>.set 83 (I 0) |>.set 84 (Bo false)) H) : Lp Try.prog [] 0 (.loop mord_4) Q b fr H' := by
  refine Lp.opw (σ := List Nat × List AV × Nat × List Int × List AObj) (fun s => I4 A n f s.1 s.2.1 s.2.2.1 s.2.2.2.1 s.2.2.2.2) (fun s => leftN n s.1)
    (fun s => F4 A n s.1.length) (fun s => s.2.2.2.2) ([], es, m, wl, H) hI hw ?_
  clear hI hw
  rintro ⟨out, es, m, wl, H⟩ hI
  simp only at hI
  have hp := hI.os.hs.gp
  have hpl := hI.os.hs.plt
  simp (disch := omega) [ar, -List.take_append_getElem, mord_4, hp]
  refine ACalls.c nLen_c ?_
  rintro r H' ⟨rfl, rfl⟩
  simp (disch := omega) [ar, -List.take_append_getElem]
  clear hp hpl
  (first | refine Cnd.sp (fun h3 => ?_) fun h3 => ?_ | refine Gd.sp (fun h3 => ?_) fun h3 => ?_) <;> (try simp at h3) <;> (try simp (disch := omega) [ar, -List.take_append_getElem, h3])
  · obtain ⟨m, rfl⟩ : ∃ k, m = k + 1 := ⟨m - 1, by omega⟩
    obtain ⟨i, hiN, hi0, himay, hnext⟩ := hI.next hn
    have hmn : m + 1 ≤ n := by have := hI.os.hs.le; have := hI.el; omega
    refine ACalls.c (hpop_spec nu_HM nu_HP hI.os.hs (fun e he => hI.ok e (List.mem_of_mem_take he)) hI.hd (by omega)) ?_
    rintro r H2 ⟨es', rfl, rfl, hl', hP', hD', hMv⟩
    have hio : i ∉ out := by simp [may] at himay; exact himay.1
    have hiw : wt A out i = 0 := by simp [may] at himay; exact himay.2
    have hcl := hI.cl
    have hcnt := hI.cnt
    have hto := hI.to
    have hwlk := hI.wlk
    have hwll := hI.wll
    have hel := hI.el
    have hle := hI.os.hs.le
    rw [hi0] at hP' ⊢
    have hS1 := hI.os.heap (es' := es') (m' := m) (by omega)
    have hok' : ∀ e ∈ es', okN e := fun e he => by
      rw [← List.take_append_drop (m + 1) es'] at he
      rcases List.mem_append.1 he with h | h
      · exact hI.ok e (List.mem_of_mem_take (hMv.perm.mem_iff.1 h))
      · rw [hMv.drop] at h; exact hI.ok e (List.mem_of_mem_drop h)
    have hP0 : (es'.take m).Perm (((List.range n).filter fun k => decide (k ∉ out ++ [i]) && decide (wt A out k = cq (f i) 0 k)).map fun (k : Nat) => I k) := by
      have h1 := (filter_add (l := List.range n) List.nodup_range (P := fun k => decide (k ∉ out ++ [i]) && decide (wt A out k = cq (f i) 0 k)) (Q := may A out) (k := i) (by simpa using hiN) (by simp) himay
        (fun x _ hx => by simp [may, cq, hx]; rfl)).map fun (k : Nat) => I k
      have h2 := hP'.trans (hI.pe.trans h1)
      rw [List.map_append] at h2
      exact (List.perm_append_right_iff _).1 h2
    clear hP' hI
    generalize hset (some true) (fun v => AV.agg [v]) 86 3 1 H' (n + 2) (n + 3) es' m = H1 at hS1 ⊢
    have ho1 := hS1.ho out rfl
    have hol : out.length < n := by have := leftN_snoc hiN hio; omega
    have hb1 := hS1.b1
    have hS2 := hS1.come (l' := out ++ [i])
    have hne : n + 4 ≠ 1 := by omega
    have hone : allOneCell 1 (out.map fun (k : Nat) => I k) = true := by simp [allOneCell, okEl, cellsOf, oneC]
    have eo : (⟨3, 1, (out.map fun (k : Nat) => I k) ++ [I i], true, none⟩ : AObj) = ow 3 1 ((out ++ [i]).map fun (k : Nat) => I k) := by simp [ow]
    simp (disch := omega) [ar, -List.take_append_getElem, ho1, hb1, rowS_get hiN, List.getElem?_set_ne hne, hone]
    rw [eo]
    generalize H1.set (n + 4) (ow 3 1 ((out ++ [i]).map fun (k : Nat) => I k)) = H2 at hS2 ⊢
    clear eo hone hb1 ho1 hS1 H1
    have hfi : ∀ k : Nat, ((f i).filter fun y => decide (y = (k : Int))).length = ((A.getD k []).filter fun y => decide (y = (i : Int))).length := fun k => by rw [hf]; exact bhF_count A i k
    have hAk : ∀ k, ∀ x ∈ A.getD k [], 0 ≤ x := fun k x hx => by
      by_cases hk : k < A.length
      · rw [List.getD, List.getElem?_eq_getElem hk] at hx; exact (hA _ (List.getElem_mem hk) x hx).1
      · rw [List.getD, List.getElem?_eq_none (by omega)] at hx; simp at hx
    have hwo : ∀ k : Nat, wt A out k = wt A (out ++ [i]) k + ((f i).filter fun y => decide (y = (k : Int))).length := fun k => by rw [hfi, ← wt_snoc hio (hAk k)]
    have hfr : ∀ y ∈ f i, ∃ k : Nat, y = k ∧ k < n := by
      intro y hy
      rw [hf] at hy
      obtain ⟨p, hp, hy⟩ := List.mem_flatMap.1 hy
      obtain ⟨z, _, rfl⟩ := List.mem_map.1 hy
      have := List.mem_zipIdx hp
      exact ⟨p.2, rfl, by omega⟩
    have hfl : (f i).length ≤ 1000000 := by rw [hf]; have := bhF_len A i; omega
    have hW2 : ∀ k < n, wt A out k ≤ 1000000 := fun k hk => by
      have h1 := List.length_filter_le (fun x => decide (Int.toNat x ∉ out)) (A.getD k [])
      have h2 : (A.getD k []).length ≤ A.flatten.length := by
        rw [List.getD, List.getElem?_eq_getElem (by omega)]
        exact (List.sublist_flatten_of_mem (List.getElem_mem _)).length_le
      simp only [wt]; omega
    have hpos : ∀ k : Nat, (k : Int) ∈ f i → 1 ≤ wt A out k := fun k hk => by
      rw [hwo k]
      have : 0 < ((f i).filter fun y => decide (y = (k : Int))).length := List.length_pos_of_mem (List.mem_filter.2 ⟨hk, by simp⟩)
      omega
    refine mord5 (A := A) (W := wt A out) (out := out ++ [i]) hnl hiN hfl hfr (fun k => by rw [hwo k]; omega) hW2 ?_ ⟨hS2, by omega, hok', hP0, hD', hwll, fun k h => by simp [cq, hwlk k h]⟩ (by simp) ?_
    · intro k hk hko
      have := hpos k hk
      rcases List.mem_append.1 hko with h | h
      · have := hcl k h; omega
      · rw [List.mem_singleton.1 h] at this; omega
    · rintro es2 m2 wl2 H3 ⟨a1, a2, a3, a4, a5, a6, a7⟩
      have hcf : ∀ k, wt A out k = cq (f i) (f i).length k ↔ wt A (out ++ [i]) k = 0 := fun k => by
        have := hwo k
        simp only [cq, List.take_of_length_le (Nat.le_refl _)]; omega
      have hln := leftN_snoc hiN hio
      simp (disch := omega) [ar, -List.take_append_getElem]
      refine ⟨out ++ [i], es2, m2, wl2, H3, ⟨a1, a2, a3, ?_, a5, a6, fun k h => ?_, fun k hk => ?_, by simp; omega, fun l hl => hto l (.step hnext hl)⟩, by omega, by simp, rfl⟩
      · have e : ((List.range n).filter fun k => decide (k ∉ out ++ [i]) && decide (wt A out k = cq (f i) (f i).length k)) = (List.range n).filter (may A (out ++ [i])) :=
          List.filter_congr fun k _ => by simp only [may, hcf k]
        rw [← e]; exact a4
      · have h1 := a7 k h
        have h2 := hwo k
        simp only [cq, List.take_of_length_le (Nat.le_refl _)] at h1
        omega
      · have h2 := hwo k
        rcases List.mem_append.1 hk with h | h
        · have := hcl k h; omega
        · rw [List.mem_singleton.1 h] at h2 ⊢; omega
  · obtain rfl : m = 0 := by omega
    have hnone : nextF A out = none := by
      have h1 := hI.pe.length_eq
      simp at h1
      rw [nextF, List.find?_eq_none]
      intro k hk hm
      rw [hn] at h1
      have h2 := List.length_pos_of_mem (List.mem_filter.2 ⟨hk, hm⟩)
      omega
    simpa using hQ out es wl H' hI hnone
end Go.Fw
