/- merge.Walk: its main loop. -/
import Derived.Test.YtkfooghdpfhiaaaFwwlk1
namespace Go.Fw
open Go Go.RowKit Go.Proofs
set_option maxRecDepth 100000
set_option linter.unusedSimpArgs false
set_option linter.unusedVariables false

theorem WO.new' {N : Nat} {H : List AObj} {es : List AV} {n : Nat} {O : List (Int × List Int)} {v : Int} {g : AObj} (h : WO N H es n O) :
    WO N (H.set 2 { ty := 37, sz := 2, es := outs N O ++ [.agg [I v, .slc H.length N 0 N none]] } ++ [ob 3 1 (List.replicate N (I (-1))), g]) es n (O ++ [(v, List.replicate N (-1))]) := by
  have := h.new (v := v) (s := List.replicate N (-1)) (g := g) (by simp)
  have hl := h.hl
  rw [List.set_append_left _ _ (by omega), outs_snoc, List.map_replicate] at this
  rw [hl]
  have e : ow 37 2 (outs N O ++ [.agg [I v, .slc (3 + 2 * O.length) N 0 N none]]) = ⟨37, 2, outs N O ++ [.agg [I v, .slc (3 + 2 * O.length) N 0 N none]], true, none⟩ := by simp [ow]
  rw [e] at this; exact this
theorem elems_last {H : List AObj} {x : AObj} {sz ty : Nat} {v : AV} : elems sz (H ++ [x, ob ty sz [v]]) (.slc (H.length + 1) 1 0 1 none) = some [v] := by
  have e : (H ++ [x, ob ty sz [v]])[H.length + 1]? = some (ob ty sz [v]) := by rw [List.getElem?_append_right (by omega)]; simp
  simp [elems, live?, e]
section
variable {A : List (List Int)} {pos : Nat → Nat} {k0 : Nat}
theorem upto_len : (upto A pos).length = A.length := by simp [upto]
theorem upto_get {k : Nat} (h : k < A.length) : (upto A pos)[k]'(by rw [upto_len]; exact h) = (A.getD k []).take (pos k) := by simp [upto]
theorem upto_step (hkA : k0 < A.length) (hk0 : pos k0 < (A.getD k0 []).length) :
    upto A (fun k => if k = k0 then pos k + 1 else pos k) = (upto A pos).set k0 ((upto A pos)[k0]'(by rw [upto_len]; exact hkA) ++ [(A.getD k0 [])[pos k0]]) := by
  apply List.ext_getElem (by simp [upto_len])
  intro i h1 h2
  rw [upto_len] at h1
  rw [upto_get h1, List.getElem_set]
  by_cases e : k0 = i
  · subst e; rw [if_pos rfl, if_pos rfl, upto_get hkA, List.take_succ_eq_append_getElem hk0]
  · rw [if_neg e, if_neg (Ne.symm e), upto_get h1]
theorem mem_upto {x : Int} : x ∈ (upto A pos).flatten ↔ ∃ j, j < A.length ∧ x ∈ (A.getD j []).take (pos j) := by
  simp only [upto, List.mem_flatten, List.mem_map, List.mem_range]
  constructor
  · rintro ⟨_, ⟨j, hj, rfl⟩, hx⟩; exact ⟨j, hj, hx⟩
  · rintro ⟨j, hj, hx⟩; exact ⟨_, ⟨j, hj, rfl⟩, hx⟩
theorem upto_zero : upto A (fun _ => 0) = List.replicate A.length [] := by simp [upto, List.map_const']
theorem upto_all (h : ∀ k, (A.getD k []).length ≤ pos k) : upto A pos = A := by
  apply List.ext_getElem (by simp [upto_len])
  intro i h1 h2
  rw [upto_get h2, List.take_of_length_le (h i)]
  simp [h2]
theorem uni_len (l : List Int) : (uni l).length ≤ l.length := by
  have hi : ∀ (n : Int) (l : List Int), (insr n l).length ≤ l.length + 1 := by
    intro n l
    induction l with
    | nil => simp [insr]
    | cons x l ih => simp only [insr]; split <;> (try split) <;> simp <;> omega
  induction l with
  | nil => simp [uni]
  | cons x l ih => have := hi x (uni l); simp only [uni, List.foldr_cons, List.length_cons] at *; omega
theorem upto_flat : (upto A pos).flatten.length ≤ A.flatten.length := by
  have h : ∀ L : List Nat, (L.map fun k => (A.getD k []).take (pos k)).flatten.length ≤ (L.map fun k => A.getD k []).flatten.length := by
    intro L
    induction L with
    | nil => simp
    | cons x L ih => simp only [List.map_cons, List.flatten_cons, List.length_append, List.length_take]; omega
  have e : ((List.range A.length).map fun k => A.getD k []) = A := by
    apply List.ext_getElem (by simp)
    intro i h1 h2
    simp [h2]
  have := h (List.range A.length)
  rw [e] at this; exact this
theorem range_split {n k : Nat} (h : k < n) : (List.range n).Perm (k :: (List.range n).erase k) := List.perm_cons_erase (by simpa using h)
theorem WI.step {es es' : List AV} {n n' : Nat} {O O' : List (Int × List Int)} {H H' : List AObj} (hI : WI A pos es n O H) (hA : ∀ l ∈ A, Rise l) (hkA : k0 < A.length) (hk0 : pos k0 < (A.getD k0 []).length)
    (he : es.take n = rdr (A.getD k0 []) (pos k0) k0 :: (es.take n).tail) (hmin : ∀ j, j < A.length → ∀ hj : pos j < (A.getD j []).length, (A.getD k0 [])[pos k0] ≤ (A.getD j [])[pos j])
    (wo : WO A.length H' es' n' O') (hO' : O' = stops ((upto A pos).set k0 ((upto A pos)[k0]'(by rw [upto_len]; exact hkA) ++ [(A.getD k0 [])[pos k0]])))
    (hp : (es'.take n').Perm ((if pos k0 + 1 < (A.getD k0 []).length then [rdr (A.getD k0 []) (pos k0 + 1) k0] else []) ++ (es.take n).tail)) (hd : Hp (kAt keyR es') n' 0) (hl : es'.length = es.length) :
    WI A (fun k => if k = k0 then pos k + 1 else pos k) es' n' O' H' ∧
      ((List.range A.length).map fun k => (A.getD k []).length - (if k = k0 then pos k + 1 else pos k)).sum < ((List.range A.length).map fun k => (A.getD k []).length - pos k).sum := by
  have hR := range_split hkA
  have hne : ∀ k ∈ (List.range A.length).erase k0, k ≠ k0 := fun k hk => ((List.nodup_range).mem_erase_iff.1 hk).1
  refine ⟨⟨wo, by rw [upto_step hkA hk0]; exact hO', fun k => ?_, ?_, hd, by rw [hl]; exact hI.el, fun j k x hx hk => ?_⟩, ?_⟩
  · split
    · rename_i e; subst e; omega
    · exact hI.pl k
  · have h1 := hI.pe
    have h2 := ((hR.filter fun k => decide (pos k < (A.getD k []).length)).map fun k => rdr (A.getD k []) (pos k) k)
    rw [List.filter_cons_of_pos (by simpa using hk0), List.map_cons] at h2
    have h3 := h1.trans h2
    rw [he] at h3
    have h4 := (List.perm_cons _).1 h3
    refine hp.trans ?_
    refine ((List.Perm.refl _).append h4).trans ?_
    have h5 := ((hR.filter fun k => decide ((if k = k0 then pos k + 1 else pos k) < (A.getD k []).length)).map fun k => rdr (A.getD k []) (if k = k0 then pos k + 1 else pos k) k)
    refine List.Perm.trans (List.Perm.of_eq ?_) h5.symm
    have h6 : ((List.range A.length).erase k0).filter (fun k => decide ((if k = k0 then pos k + 1 else pos k) < (A.getD k []).length)) = ((List.range A.length).erase k0).filter (fun k => decide (pos k < (A.getD k []).length)) :=
      List.filter_congr fun k hk => by rw [if_neg (hne k hk)]
    have h7 : (((List.range A.length).erase k0).filter (fun k => decide (pos k < (A.getD k []).length))).map (fun k => rdr (A.getD k []) (if k = k0 then pos k + 1 else pos k) k) = (((List.range A.length).erase k0).filter (fun k => decide (pos k < (A.getD k []).length))).map (fun k => rdr (A.getD k []) (pos k) k) :=
      List.map_congr_left fun k hk => by rw [if_neg (hne k (List.mem_filter.1 hk).1)]
    by_cases e : pos k0 + 1 < (A.getD k0 []).length
    · rw [if_pos e, List.filter_cons_of_pos (by simpa using e), List.map_cons, if_pos rfl, h6, h7]; rfl
    · rw [if_neg e, List.filter_cons_of_neg (by simpa using e), h6, h7]; rfl
  · have hv : ∀ x j, x ∈ (A.getD j []).take (pos j) → x ≤ (A.getD k0 [])[pos k0] := fun x j h => hI.mx j k0 x h hk0
    have h1 : x ≤ (A.getD k0 [])[pos k0] := by
      by_cases e : j = k0
      · subst e
        rw [if_pos rfl, List.take_succ_eq_append_getElem hk0] at hx
        rcases List.mem_append.1 hx with h | h
        · exact hv x _ h
        · rw [List.mem_singleton.1 h]; exact Int.le_refl _
      · rw [if_neg e] at hx; exact hv x j hx
    refine Int.le_trans h1 ?_
    by_cases e : k = k0
    · subst e
      simp only [if_pos] at hk ⊢
      have hr : Rise (A.getD k []) := by
        simp only [List.getD, List.getElem?_eq_getElem hkA, Option.getD_some]; exact hA _ (List.getElem_mem hkA)
      exact Int.le_of_lt (hr.adj (pos k) hk)
    · simp only [if_neg e] at hk ⊢
      have hkl : k < A.length := by
        refine Classical.byContradiction fun h => ?_
        simp [List.getD, List.getElem?_eq_none (Nat.le_of_not_lt h)] at hk
      exact hmin k hkl hk
  · have e1 := (hR.map fun k => (A.getD k []).length - (if k = k0 then pos k + 1 else pos k)).sum_nat
    have e2 := (hR.map fun k => (A.getD k []).length - pos k).sum_nat
    rw [e1, e2, List.map_cons, List.map_cons, List.sum_cons, List.sum_cons, if_pos rfl]
    have e3 : ((List.range A.length).erase k0).map (fun k => (A.getD k []).length - (if k = k0 then pos k + 1 else pos k)) = ((List.range A.length).erase k0).map (fun k => (A.getD k []).length - pos k) :=
      List.map_congr_left fun k hk => by rw [if_neg (hne k hk)]
    rw [e3]; omega
end
set_option maxHeartbeats 4000000 in
theorem mwalk2 {A : List (List Int)} {es : List AV} {n : Nat} {H H' : List AObj} {Q : Exit → List AV → List AObj → Prop} {b : Blk1 (.loop mwalk_2) Q} {fr : List AV}
    (hA : ∀ l ∈ A, Rise l) (hn : A.length ≤ 1000000) (hF : A.flatten.length ≤ 1000000) (hI : WI A (fun _ => 0) es n [] H) (hw : Weak 0 fr H' (fm 122 [(0, Ls A), (4, .ptr 1 1 0 0), (7, .slc 2 0 0 0 none)]) H)
    (hQ : ∀ fr es H, WO A.length H es 0 (stops A) → fr.length = 122 → fr[7]? = some (.slc 2 (stops A).length 0 (stops A).length none) → Q (.exit 2) fr H) : Lp Try.prog [11, 80] 0 (.loop mwalk_2) Q b fr H' := by
  refine Lp.opw (σ := (Nat → Nat) × List AV × Nat × List (Int × List Int) × List AObj) (fun s => WI A s.1 s.2.1 s.2.2.1 s.2.2.2.1 s.2.2.2.2) (fun s => ((List.range A.length).map fun k => (A.getD k []).length - s.1 k).sum)
    (fun s => fm 122 [(0, Ls A), (4, .ptr 1 1 0 0), (7, .slc 2 s.2.2.2.1.length 0 s.2.2.2.1.length none)]) (fun s => s.2.2.2.2) (fun _ => 0, es, n, [], H) hI hw ?_
  clear hI hw
  rintro ⟨pos, es, n, O, H⟩ hI
  simp only at hI
  have hp := hI.wo.hs.gp
  have hpl := hI.wo.hs.plt
  simp (disch := omega) [ar, -List.take_append_getElem, mwalk_2, hp]
  refine ACalls.c rLen_c ?_
  rintro r H' ⟨rfl, rfl⟩
  simp (disch := omega) [ar, -List.take_append_getElem]
  clear hp hpl
  (first | refine Cnd.sp (fun h3 => ?_) fun h3 => ?_ | refine Gd.sp (fun h3 => ?_) fun h3 => ?_) <;> (try simp at h3) <;> (try simp (disch := omega) [ar, -List.take_append_getElem, h3])
  · obtain ⟨k0, hl0, hk0, hkA, he0, hmin⟩ := hI.top (by omega)
    have hp := hI.wo.hs.gp
    have hpl := hI.wo.hs.plt
    have hj := hI.wo.hs.gj
    have hjl := hI.wo.hs.jlt
    have hv := ov_real (v0 := none) (ty := 76) (sz := 3) (hI.wo.hs.ne0 (x := 0) (by omega))
    obtain ⟨l, hl⟩ : ∃ l, l = A.getD k0 [] := ⟨_, rfl⟩
    obtain ⟨q, hq⟩ : ∃ q, q = pos k0 := ⟨_, rfl⟩
    simp only [← hl, ← hq] at hk0 he0
    have hle := hI.wo.hs.le
    have hlA : l ∈ A := by rw [hl]; simp [List.getD, List.getElem?_eq_getElem hkA]
    have hll : l.length ≤ 1000000 := by have := (List.sublist_flatten_of_mem hlA).length_le; omega
    have hOl : O.length ≤ 1000000 := by
      rw [hI.hO, stops, List.length_map]
      have := uni_len (upto A pos).flatten
      have := upto_flat (A := A) (pos := pos)
      omega
    have hel := hI.el
    have hD := hI.hd
    have hok : ∀ e ∈ es.take n, okR e := fun e he => by
      obtain ⟨k, hk, rfl⟩ := List.mem_map.1 (hI.pe.mem_iff.1 he)
      exact ⟨_, _, _, rfl, by simpa using (List.mem_filter.1 hk).2⟩
    have het : es.take n = rdr (A.getD k0 []) (pos k0) k0 :: (es.take n).tail := by
      rw [← hl, ← hq, ← he0]
      obtain ⟨x, es2, rfl⟩ : ∃ x es2, es = x :: es2 := by
        cases es with
        | nil => simp at hl0
        | cons x es2 => exact ⟨x, es2, rfl⟩
      obtain ⟨m, rfl⟩ : ∃ m, n = m + 1 := ⟨n - 1, by omega⟩
      simp
    have hkU : k0 < (upto A pos).length := by rw [upto_len]; exact hkA
    have hU0 : (upto A pos)[k0] = l.take q := by rw [upto_get hkA, ← hl, ← hq]
    have hlv : (A.getD k0 [])[pos k0] = l[q] := by simp only [hl, hq]
    have hle1 : ∀ x ∈ (upto A pos).flatten, x ≤ l[q] := fun x hx => by
      obtain ⟨j, _, hx⟩ := mem_upto.1 hx
      have := hI.mx j k0 x hx (by rw [← hl, ← hq]; exact hk0)
      rw [hlv] at this; exact this
    have hnot : l[q] ∉ (upto A pos)[k0] := by
      rw [hU0]
      intro hm
      rw [List.mem_take_iff_getElem] at hm
      obtain ⟨c, hc, hce⟩ := hm
      have hr := hA l hlA
      have := (List.pairwise_iff_getElem.1 hr) c q (by omega) hk0 (by omega)
      omega
    have hfst : ∀ j (h : j < O.length), O[j].1 ∈ (upto A pos).flatten := fun j h => by
      have h1 : O[j].1 ∈ (stops (upto A pos)).map (·.1) := by rw [← hI.hO]; exact List.mem_map.2 ⟨_, List.getElem_mem h, rfl⟩
      rw [stops_fst] at h1; exact mem_uni.1 h1
    have hwo := hI.wo
    have hO := hI.hO
    have ho := hwo.ho
    have hol := outs_len (N := A.length) (O := O)
    have hone1 := outs_one (N := A.length) (O := O)
    have hqU : (((upto A pos)[k0].length : Nat) : Int) = q := by rw [hU0]; simp; omega
    have hv' : (A.getD k0 [])[pos k0] = l[q] := hlv
    have fin : ∀ (j : Nat) (O1 : List (Int × List Int)) (H1 : List AObj) (hj1 : j < O1.length) (Q' : Exit → List AV → List AObj → Prop) (x1 x2 x3 x5 x6 x9 x10 x11 x12 x13 x14 x15 x16 x17 x18 x19 x20 x21 x22 x23 x24 x25 x26 x27 x28 x29 x30 x31 x32 x33 x34 x35 x36 x37 x38 x39 x40 x41 x42 x43 x44 x45 x46 x47 x48 x49 x50 x51 x52 x53 x54 x55 x56 x57 x58 x59 x60 x61 x62 x63 x64 x65 x66 x67 x68 x69 x70 x71 x72 x73 x74 x75 x76 x77 x78 x79 x80 x81 : AV), O1.length = j + 1 → WO A.length H1 es n O1 → j ≤ 1000000 →
        O1.set j (O1[j].1, O1[j].2.set k0 (q : Int)) = stops ((upto A pos).set k0 ((upto A pos)[k0] ++ [l[q]])) →
        (∀ fr' H', (∃ s' : (Nat → Nat) × List AV × Nat × List (Int × List Int) × List AObj, WI A s'.1 s'.2.1 s'.2.2.1 s'.2.2.2.1 s'.2.2.2.2 ∧ ((List.range A.length).map fun k => (A.getD k []).length - s'.1 k).sum < ((List.range A.length).map fun k => (A.getD k []).length - pos k).sum ∧
          leF fr' (fm 122 [(0, Ls A), (4, .ptr 1 1 0 0), (7, .slc 2 s'.2.2.2.1.length 0 s'.2.2.2.1.length none)]) ∧ H' = s'.2.2.2.2) → Q' .normal fr' H') →
        wp Try.prog [11, 80] 0 mwalk_c82 Q' [Ls A, x1, x2, x3, .ptr 1 1 0 0, x5, x6, .slc 2 (j + 1) 0 (j + 1) none, .ptr 0 es.length 0 0, x9, x10, x11, x12, x13, x14, x15, x16, x17, x18, x19, x20, x21, x22, x23, x24, x25, x26, x27, x28, x29, x30, x31, x32, x33, x34, x35, x36, x37, x38, x39, x40, x41, x42, x43, x44, x45, x46, x47, x48, x49, x50, x51, x52, x53, x54, x55, x56, x57, x58, x59, x60, x61, x62, x63, x64, x65, x66, x67, x68, x69, x70, x71, x72, x73, x74, x75, x76, x77, x78, x79, x80, x81, .und, .und, .und, .und, .und, .und, .und, .und, .und, .und, .und, .und, .und, .und, .und, .und, .und, .und, .und, .und, .und, .und, .und, .und, .und, .und, .und, .und, .und, .und, .und, .und, .und, .und, .und, .und, .und, .und, .und, .und] H1 := by
      intro j O1 H1 hj1 Q' x1 x2 x3 x5 x6 x9 x10 x11 x12 x13 x14 x15 x16 x17 x18 x19 x20 x21 x22 x23 x24 x25 x26 x27 x28 x29 x30 x31 x32 x33 x34 x35 x36 x37 x38 x39 x40 x41 x42 x43 x44 x45 x46 x47 x48 x49 x50 x51 x52 x53 x54 x55 x56 x57 x58 x59 x60 x61 x62 x63 x64 x65 x66 x67 x68 x69 x70 x71 x72 x73 x74 x75 x76 x77 x78 x79 x80 x81 e1 wo1 hjm e2 hQ'
      refine mwalk_t wo1 e1 hkA hl0 he0 hk0 hD hok h3 (by omega) hll hjm ?_
      intro fr' es' n' H3 w1 w2 w3 w4 w5
      refine hQ' fr' H3 ⟨(fun k => if k = k0 then pos k + 1 else pos k, es', n', O1.set j (O1[j].1, O1[j].2.set k0 (q : Int)), H3), ?_⟩
      obtain ⟨g1, g2⟩ := hI.step hA hkA (by rw [← hl, ← hq]; exact hk0) het hmin w1 (by rw [hv']; exact e2) (by rw [← hl, ← hq]; exact w3) w4 w5
      exact ⟨g1, g2, by simpa [e1] using w2, rfl⟩
    have hnew : l[q] ∉ (upto A pos).flatten → ∀ H1, WO A.length H1 es n (O ++ [(l[q], List.replicate A.length (-1))]) → (O ++ [(l[q], List.replicate A.length (-1))]).set O.length (l[q], (List.replicate A.length (-1)).set k0 (q : Int)) = stops ((upto A pos).set k0 ((upto A pos)[k0] ++ [l[q]])) := by
      intro hno H1 _
      rw [stops_new hkU (fun x hx => by have := hle1 x hx; have : x ≠ l[q] := fun e => hno (e ▸ hx); omega), hqU, ← hO, upto_len]
      simp
    simp (disch := omega) [ar, -List.take_append_getElem, hp, hj, hv, he0, rdr]
    clear hp hj hv hpl hjl
    by_cases hO0 : O = []
    · simp (disch := omega) [ar, -List.take_append_getElem, hO0]
      refine ACalls.c (rept_c (by omega)) ?_
      rintro r H2 ⟨rfl, rfl⟩
      have hl2 := hwo.hl
      have ho2 : (H' ++ [ob 3 1 (List.replicate A.length (I (-1)))])[2]? = some (ow 37 2 []) := by
        rw [List.getElem?_append_left (by omega), ho, hO0]; rfl
      have ho3 : ∀ x y, (H' ++ [x, y])[2]? = some (ow 37 2 []) := fun x y => by rw [List.getElem?_append_left (by omega), ho, hO0]; rfl
      have hw1 := hwo.new' (v := l[q]) (g := ob 37 2 [AV.agg [I l[q], AV.slc H'.length A.length 0 A.length none]])
      have hno : l[q] ∉ (upto A pos).flatten := fun hm => by
        have h1 := mem_uni.2 hm
        rw [← stops_fst, ← hO, hO0] at h1; simp at h1
      have e2 := hnew hno _ hw1
      subst hO0
      simp (disch := omega) [ar, -List.take_append_getElem, elems_last, ho3]
      exact fin 0 [(l[q], List.replicate A.length (-1))] _ (by simp) _ _ _ _ _ _ _ _ _ _ _ _ _ _ _ _ _ _ _ _ _ _ _ _ _ _ _ _ _ _ _ _ _ _ _ _ _ _ _ _ _ _ _ _ _ _ _ _ _ _ _ _ _ _ _ _ _ _ _ _ _ _ _ _ _ _ _ _ _ _ _ _ _ _ _ _ _ _ _ rfl hw1 (by omega) e2 (fun fr' H3 h => by simpa using h)
    · obtain ⟨j, hj⟩ : ∃ j, O.length = j + 1 := ⟨O.length - 1, by have := List.length_pos_iff.2 hO0; omega⟩
      have hg := outs_get (N := A.length) (O := O) (j := j) (by omega)
      have hone : ¬ outs A.length O = [] := by intro e; rw [e] at hol; simp at hol; omega
      simp (disch := omega) [ar, -List.take_append_getElem, hO0, hj, ho, hg, hone]
      (first | refine Cnd.sp (fun h7 => ?_) fun h7 => ?_ | refine Gd.sp (fun h7 => ?_) fun h7 => ?_) <;> (try simp at h7) <;> (try simp (disch := omega) [ar, -List.take_append_getElem, h7])
      · refine ACalls.c (rept_c (by omega)) ?_
        rintro r H2 ⟨rfl, rfl⟩
        have hl2 := hwo.hl
        have ho3 : ∀ x y, (H' ++ [x, y])[2]? = some (ow 37 2 (outs A.length O)) := fun x y => by rw [List.getElem?_append_left (by omega), ho]
        have hw1 := hwo.new' (v := l[q]) (g := ob 37 2 [AV.agg [I l[q], AV.slc H'.length A.length 0 A.length none]])
        have hno : l[q] ∉ (upto A pos).flatten := fun hm => by
          obtain ⟨S, s, g1, _, _⟩ := stops_old hkU hle1 hm hnot
          have g2 : O = S ++ [(l[q], s)] := by rw [hO, g1]
          have g3 : j = S.length := by rw [g2] at hj; simp at hj; omega
          apply h7
          subst g3
          simp [g2]
        have e2 := hnew hno _ hw1
        rw [hj] at e2
        simp (disch := omega) [ar, -List.take_append_getElem, elems_last, ho3, hol, hone, hone1]
        exact fin (j + 1) (O ++ [(l[q], List.replicate A.length (-1))]) _ (by simp [hj]) _ _ _ _ _ _ _ _ _ _ _ _ _ _ _ _ _ _ _ _ _ _ _ _ _ _ _ _ _ _ _ _ _ _ _ _ _ _ _ _ _ _ _ _ _ _ _ _ _ _ _ _ _ _ _ _ _ _ _ _ _ _ _ _ _ _ _ _ _ _ _ _ _ _ _ _ _ _ _ (by simp [hj]) hw1 (by omega) (by rw [← e2]; congr 1; simp [hj]) (fun fr' H3 h => by simpa using h)
      · have hm : l[q] ∈ (upto A pos).flatten := by rw [← h7]; exact hfst j (by omega)
        obtain ⟨S, s, g1, g2, g3⟩ := stops_old hkU hle1 hm hnot
        have g4 : O = S ++ [(l[q], s)] := by rw [hO, g1]
        have g5 : j = S.length := by rw [g4] at hj; simp at hj; omega
        exact fin j O _ (by omega) _ _ _ _ _ _ _ _ _ _ _ _ _ _ _ _ _ _ _ _ _ _ _ _ _ _ _ _ _ _ _ _ _ _ _ _ _ _ _ _ _ _ _ _ _ _ _ _ _ _ _ _ _ _ _ _ _ _ _ _ _ _ _ _ _ _ _ _ _ _ _ _ _ _ _ _ _ _ _ hj hwo (by omega) (by rw [g2, hqU]; subst g5; simp [g4]) (fun fr' H3 h => by simpa using h)
  · obtain rfl : n = 0 := by omega
    have hpl0 := hI.pe.length_eq
    rw [List.take_zero, List.length_nil, List.length_map] at hpl0
    have hall : ∀ k, (A.getD k []).length ≤ pos k := fun k => by
      by_cases hk : k < A.length
      · have h1 := List.length_pos_of_mem (a := k) (l := (List.range A.length).filter fun k => decide (pos k < (A.getD k []).length))
        refine Classical.byContradiction fun h => ?_
        have := h1 (List.mem_filter.2 ⟨by simpa using hk, by simpa using h⟩)
        omega
      · simp [List.getD, List.getElem?_eq_none (Nat.le_of_not_lt hk)]
    have hO := hI.hO
    rw [upto_all hall] at hO
    have hwo := hI.wo
    rw [hO] at hwo
    simpa [hO] using hQ _ es H' hwo (by simp) (by simp)
end Go.Fw
