import Derived.Test.YtgdkdojjfijipaaFwcoo1
import Derived.Test.YtgdkdojjfijipaaFwrowo1
import Derived.Test.YtgdkdojjfijipaaFwrowo1
namespace Go.Fw
open Go Go.RowKit Go.Proofs
set_option maxRecDepth 100000
set_option linter.unusedSimpArgs false
set_option linter.unusedVariables false

/-- A place of the call's own, or one of no modes. -/
def rowC (b : Nat) (K : List AObj) (a : AV) (c : List Int) : Prop :=
  (c = [] ∧ (a = .imm true none 0 [] ∨ a = .imm false none 1 [])) ∨ ∃ k, b ≤ k ∧ a = .slc k c.length 0 c.length none ∧ K[k]? = some (intOb c)
section
variable {b : Nat} {K : List AObj} {a : AV} {c : List Int}
theorem rowC.one (h : rowC b K a c) : oneC a = true := by
  rcases h with ⟨_, rfl | rfl⟩ | ⟨k, _, rfl, _⟩ <;> rfl
theorem rowC.cells (h : rowC b K a c) : cellsOf a = [a] := by
  rcases h with ⟨_, rfl | rfl⟩ | ⟨k, _, rfl, _⟩ <;> rfl
theorem rowC.to {b' : Nat} {K' : List AObj} (h : rowC b K a c) (hb : b' ≤ b) (f : ∀ k, b ≤ k → K[k]? = some (intOb c) → K'[k]? = some (intOb c)) : rowC b' K' a c := by
  rcases h with h | ⟨k, h1, h2, h3⟩
  · exact .inl h
  · exact .inr ⟨k, by omega, h2, f k h1 h3⟩
theorem rowC.app (h : rowC b K a c) (G : List AObj) : rowC b (K ++ G) a c :=
  h.to (Nat.le_refl _) fun k _ hk => by rw [List.getElem?_append_left (List.getElem?_eq_some_iff.1 hk).1]; exact hk
theorem rowC.set (h : rowC b K a c) {i : Nat} {o0 : AObj} (hi : K[i]? = some o0) (hne : o0.ty ≠ 3) (o : AObj) : rowC b (K.set i o) a c :=
  h.to (Nat.le_refl _) fun k _ hk => by
    rw [gs_ne]
    · exact hk
    · rintro rfl
      rw [hi] at hk
      rw [Option.some.inj hk] at hne
      exact hne rfl
theorem rowC.read (h : rowC b K a c) (hc : InI c) (n : Nat) : ISl (frz K 0 (n + 1) false a) c := by
  rcases h with ⟨rfl, rfl | rfl⟩ | ⟨k, h1, rfl, h3⟩
  · simp; exact ISl.nil
  · simp; exact ISl.of (xs := []) _ (by simp) (by simp)
  · simp [h3]; exact ISl.of _ hc.1 hc.2
theorem rowC.frz (h : rowC b K a c) (hc : InI c) (n : Nat) : ISl (frz K 0 (n + 1) true a) c := by
  rcases h with ⟨rfl, rfl | rfl⟩ | ⟨k, h1, rfl, h3⟩
  · simp; exact ISl.nil
  · simp; exact ISl.of (xs := []) _ (by simp) (by simp)
  · simp [h3]; exact ISl.of _ hc.1 hc.2
theorem rowC.shift (h : rowC 0 K a c) (H : List AObj) (fl : Bool) (n n' : Nat) : rowC H.length (H ++ shH H.length fl n K) (shv H.length fl (n' + 1) a) c := by
  rcases h with ⟨rfl, rfl | rfl⟩ | ⟨k, h1, rfl, h3⟩
  · exact .inl ⟨rfl, .inl (by simp)⟩
  · exact .inl ⟨rfl, .inr (by simp)⟩
  · refine .inr ⟨k + H.length, by omega, by simp, ?_⟩
    rw [shH_get h3 H rfl]
    simp
theorem rowO.toC (h : rowO b K a 3 1 (c.map I)) : rowC b K a c := by
  rcases h with ⟨h0, rfl⟩ | ⟨k, h1, rfl, h3⟩
  · exact .inl ⟨by simpa using h0, .inl rfl⟩
  · exact .inr ⟨k, h1, by simp, h3⟩
end

/-- Entries whose places are the call's own. -/
def EntsO (b : Nat) (K : List AObj) (es : List AV) (W : List (List Int × Int)) : Prop :=
  es.length = W.length ∧ ∀ i (h : i < W.length), ∃ a, es[i]? = some (.agg [a, I W[i].2]) ∧ rowC b K a W[i].1
section
variable {b : Nat} {K : List AObj} {es : List AV} {W : List (List Int × Int)}
theorem EntsO.nil : EntsO b K [] [] := ⟨rfl, fun i h => by simp at h⟩
theorem EntsO.to {b' : Nat} {K' : List AObj} (h : EntsO b K es W) (hb : b' ≤ b) (f : ∀ k c, b ≤ k → K[k]? = some (intOb c) → K'[k]? = some (intOb c)) : EntsO b' K' es W :=
  ⟨h.1, fun i hi => let ⟨a, h1, h2⟩ := h.2 i hi; ⟨a, h1, h2.to hb fun k hk => f k _ hk⟩⟩
theorem EntsO.snoc (h : EntsO b K es W) {a : AV} {c : List Int} {v : Int} (ha : rowC b K a c) : EntsO b K (es ++ [.agg [a, I v]]) (W ++ [(c, v)]) := by
  refine ⟨by simp [h.1], fun i hi => ?_⟩
  by_cases hx : i < W.length
  · obtain ⟨a', h1, h2⟩ := h.2 i hx
    refine ⟨a', ?_, by rw [List.getElem_append_left hx]; exact h2⟩
    rw [List.getElem?_append_left (by rw [h.1]; exact hx), List.getElem_append_left hx]; exact h1
  · have : i = W.length := by simp at hi; omega
    subst this
    refine ⟨a, ?_, by simpa using ha⟩
    rw [List.getElem?_append_right (by rw [h.1]; omega)]
    simp [h.1]
theorem EntsO.one (h : EntsO b K es W) : allOneCell 2 es = true := by
  rw [allOneCell, List.all_eq_true]
  intro x hx
  obtain ⟨i, hi, rfl⟩ := List.mem_iff_getElem.1 hx
  obtain ⟨a, h1, h2⟩ := h.2 i (by rw [← h.1]; exact hi)
  rw [List.getElem?_eq_getElem hi] at h1
  rw [Option.some.inj h1]
  simp [okEl, h2.one]
theorem EntsO.get (h : EntsO b K es W) {i : Nat} (hi : i < W.length) : ∃ a, es[i]? = some (.agg [a, I W[i].2]) ∧ rowC b K a W[i].1 := h.2 i hi
theorem EntsO.map (h : EntsO b K es W) {g : AV → AV} (hg : ∀ a c v, (c, v) ∈ W → rowC b K a c → ∃ a', g (.agg [a, I v]) = .agg [a', I v] ∧ ISl a' c) : Ents (es.map g) W := by
  refine ⟨by simp [h.1], fun i h1 h2 => ?_⟩
  obtain ⟨a, e1, e2⟩ := h.2 i h2
  have hi : i < es.length := by simpa using h1
  rw [List.getElem?_eq_getElem hi] at e1
  obtain ⟨a', f1, f2⟩ := hg a W[i].1 W[i].2 (List.getElem_mem h2) e2
  exact ⟨a', by rw [List.getElem_map, Option.some.inj e1]; exact f1, f2⟩
theorem EntsO.read (h : EntsO b K es W) (hW : ∀ w ∈ W, InI w.1) (n : Nat) : Ents (es.map (frz K 0 (n + 2) false)) W :=
  h.map fun a c v hm hc => ⟨frz K 0 (n + 1) false a, by simp, hc.read (hW _ hm) n⟩
theorem EntsO.frz (h : EntsO b K es W) (hW : ∀ w ∈ W, InI w.1) (n : Nat) : Ents (es.map (frz K 0 (n + 2) true)) W :=
  h.map fun a c v hm hc => ⟨Go.Fw.frz K 0 (n + 1) true a, by simp, hc.frz (hW _ hm) n⟩
theorem EntsO.shift (h : EntsO 0 K es W) (H : List AObj) (fl : Bool) (n n' : Nat) : EntsO H.length (H ++ shH H.length fl n K) (es.map (shv H.length fl (n' + 2))) W := by
  refine ⟨by simp [h.1], fun i hi => ?_⟩
  obtain ⟨a, h1, h2⟩ := h.2 i hi
  exact ⟨shv H.length fl (n' + 1) a, by rw [List.getElem?_map, h1]; simp, h2.shift H fl n n'⟩
theorem EntsO.set (h : EntsO b K es W) {a : AV} {c : List Int} {v : Int} (ha : rowC b K a c) (i : Nat) : EntsO b K (es.set i (.agg [a, I v])) (W.set i (c, v)) := by
  refine ⟨by simpa using h.1, fun j hj => ?_⟩
  have hj' : j < W.length := by simpa using hj
  by_cases e : i = j
  · subst e
    exact ⟨a, by rw [List.getElem?_set_self (by rw [h.1]; exact hj')]; simp, by simpa using ha⟩
  · obtain ⟨a', h1, h2⟩ := h.2 j hj'
    refine ⟨a', ?_, by simpa [List.getElem_set_ne e] using h2⟩
    rw [List.getElem?_set_ne e]; simpa [List.getElem_set_ne e] using h1
theorem EntsO.take (h : EntsO b K es W) (k : Nat) : EntsO b K (es.take k) (W.take k) := by
  refine ⟨by simp [h.1], fun i hi => ?_⟩
  simp at hi
  obtain ⟨a, h1, h2⟩ := h.2 i (by omega)
  exact ⟨a, by rw [List.getElem?_take, if_pos (by omega)]; simpa using h1, by simpa using h2⟩
end
/-- A list of entries of the call's own. -/
def ensL (b : Nat) (K : List AObj) (a : AV) (W : List (List Int × Int)) : Prop :=
  (W = [] ∧ a = .imm true none 0 []) ∨ ∃ e es, b ≤ e ∧ a = .slc e es.length 0 W.length none ∧ W.length ≤ es.length ∧ K[e]? = some (ensO es) ∧ EntsO b K (es.take W.length) W
/-- A list with a shape, of the call's own. -/
def CooO (b : Nat) (K : List AObj) (r : AV) (X : List Int × List (List Int × Int)) : Prop := ∃ s e, r = .agg [s, e] ∧ rowC b K s X.1 ∧ ensL b K e X.2
abbrev InX (X : List Int × List (List Int × Int)) : Prop := InI X.1 ∧ ∀ w ∈ X.2, InI w.1
section
variable {b : Nat} {K : List AObj} {r : AV} {X : List Int × List (List Int × Int)}
theorem map_take_all {g : AV → AV} {es : List AV} {n : Nat} : (es.take n).map g = (es.map g).take n := by rw [List.map_take]
theorem CooO.nil : CooO b K (.agg [.imm true none 0 [], .imm true none 0 []]) ([], []) := ⟨_, _, rfl, .inl ⟨rfl, .inl rfl⟩, .inl ⟨rfl, rfl⟩⟩
theorem CooO.read (h : CooO b K r X) (hX : InX X) (n : Nat) : Coo (frz K 0 (n + 4) false r) X := by
  obtain ⟨s, e, rfl, hs, he⟩ := h
  refine ⟨frz K 0 (n + 3) false s, frz K 0 (n + 3) false e, by simp, hs.read hX.1 _, ?_⟩
  rcases he with ⟨h0, rfl⟩ | ⟨i, es, h1, rfl, h2, h3, h4⟩
  · rw [h0]; simp; exact EnL.nil
  · refine ⟨false, none, 2, _, ?_, by simp, by simp, h4.read hX.2 n⟩
    have e : (if X.2.length = es.length then es else es.take X.2.length) = es.take X.2.length := by
      split
      · rw [List.take_of_length_le (by omega)]
      · rfl
    simp [h3, h2, e]
theorem CooO.frz (h : CooO b K r X) (hX : InX X) (n : Nat) : Coo (frz K 0 (n + 4) true r) X := by
  obtain ⟨s, e, rfl, hs, he⟩ := h
  refine ⟨Go.Fw.frz K 0 (n + 3) true s, Go.Fw.frz K 0 (n + 3) true e, by simp, hs.frz hX.1 _, ?_⟩
  rcases he with ⟨h0, rfl⟩ | ⟨i, es, h1, rfl, h2, h3, h4⟩
  · rw [h0]; simp; exact EnL.nil
  · refine ⟨false, none, 2, _, ?_, by simp, by simp, h4.read hX.2 n⟩
    have e : (if X.2.length = es.length then es else es.take X.2.length) = es.take X.2.length := by
      split
      · rw [List.take_of_length_le (by omega)]
      · rfl
    simp [h3, h2, e]
theorem CooO.shift (h : CooO 0 K r X) (H : List AObj) (fl : Bool) (n n' : Nat) : CooO H.length (H ++ shH H.length fl (n + 2) K) (shv H.length fl (n' + 2) r) X := by
  obtain ⟨s, e, rfl, hs, he⟩ := h
  refine ⟨shv H.length fl (n' + 1) s, shv H.length fl (n' + 1) e, by simp, hs.shift H fl _ _, ?_⟩
  rcases he with ⟨h0, rfl⟩ | ⟨i, es, h1, rfl, h2, h3, h4⟩
  · exact .inl ⟨h0, by simp⟩
  · refine .inr ⟨i + H.length, es.map (shv H.length fl (n + 2)), by omega, by simp, by simpa using h2, ?_, ?_⟩
    · rw [shH_get h3 H rfl]
    · have := h4.shift H fl (n + 2) n
      rwa [List.map_take] at this
theorem CooO.to {b' : Nat} {K' : List AObj} (h : CooO b K r X) (hb : b' ≤ b) (f : ∀ k c, b ≤ k → K[k]? = some (intOb c) → K'[k]? = some (intOb c)) (g : ∀ k es, b ≤ k → K[k]? = some (ensO es) → K'[k]? = some (ensO es)) : CooO b' K' r X := by
  obtain ⟨s, e, rfl, hs, he⟩ := h
  refine ⟨s, e, rfl, hs.to hb fun k hk => f k _ hk, ?_⟩
  rcases he with h | ⟨i, es, h1, h2, h3, h4, h5⟩
  · exact .inl h
  · exact .inr ⟨i, es, by omega, h2, h3, g i es h1 h4, h5.to hb f⟩
theorem CooO.one (h : CooO b K r X) : ∃ s e, r = .agg [s, e] ∧ oneC s = true ∧ oneC e = true := by
  obtain ⟨s, e, rfl, hs, he⟩ := h
  refine ⟨s, e, rfl, hs.one, ?_⟩
  rcases he with ⟨_, rfl⟩ | ⟨_, _, _, rfl, _⟩ <;> rfl
end
/-- The same, whole. -/
def CooF (b : Nat) (K : List AObj) (r : AV) (X : List Int × List (List Int × Int)) : Prop := ∃ s e es, r = .agg [s, .slc e X.2.length 0 X.2.length none] ∧ rowC b K s X.1 ∧ b ≤ e ∧ K[e]? = some (ensO es) ∧ EntsO b K es X.2
theorem CooF.coo {b : Nat} {K : List AObj} {r : AV} {X : List Int × List (List Int × Int)} (h : CooF b K r X) : CooO b K r X := by
  obtain ⟨s, e, es, rfl, h1, h2, h3, h4⟩ := h
  refine ⟨s, _, rfl, h1, .inr ⟨e, es, h2, by rw [h4.1], by rw [h4.1]; omega, h3, ?_⟩⟩
  rw [List.take_of_length_le (by rw [h4.1]; omega)]; exact h4
theorem CooF.shift {K : List AObj} {r : AV} {X : List Int × List (List Int × Int)} (h : CooF 0 K r X) (H : List AObj) (fl : Bool) (n n' : Nat) : CooF H.length (H ++ shH H.length fl (n + 2) K) (shv H.length fl (n' + 2) r) X := by
  obtain ⟨s, e, es, rfl, h1, h2, h3, h4⟩ := h
  refine ⟨shv H.length fl (n' + 1) s, e + H.length, es.map (shv H.length fl (n + 2)), by simp, h1.shift H fl _ _, by omega, by rw [shH_get h3 H rfl], h4.shift H fl (n + 2) n⟩
theorem cooF_at {P : Program} {f : FuncId} {args : List AV} {X : List Int × List (List Int × Int)} (h : ACalls P f args [] fun r G => CooF 0 G r X) (hno : noRefs args = true) (H : List AObj) :
    ACalls P f args H fun q H' => ∃ G, H' = H ++ G ∧ CooF H.length (H ++ G) q X := by
  refine (h.anywhere hno 8 H).mono ?_
  rintro q H' ⟨r, G, hx, rfl, rfl⟩
  exact ⟨_, rfl, hx.shift H _ 6 6⟩
/-- An entry, and what stands for it. -/
def ZOk (b : Nat) (K : List AObj) (z : AV × (List Int × Int)) : Prop := ∃ a, z.1 = .agg [a, I z.2.2] ∧ rowC b K a z.2.1
theorem EntsO.zip {b : Nat} {K : List AObj} {es : List AV} {W : List (List Int × Int)} (h : EntsO b K es W) : ∃ zs : List (AV × (List Int × Int)), zs.map (·.1) = es ∧ zs.map (·.2) = W ∧ ∀ z ∈ zs, ZOk b K z := by
  refine ⟨es.zip W, by rw [List.map_fst_zip (by rw [h.1]; omega)], by rw [List.map_snd_zip (by rw [h.1]; omega)], fun z hz => ?_⟩
  obtain ⟨i, hi, rfl⟩ := List.mem_iff_getElem.1 hz
  have hiW : i < W.length := by simp at hi; omega
  have hie : i < es.length := by simp at hi; omega
  obtain ⟨a, h1, h2⟩ := h.2 i hiW
  rw [List.getElem?_eq_getElem hie] at h1
  exact ⟨a, by simpa using Option.some.inj h1, by simpa using h2⟩
theorem EntsO.of {b : Nat} {K : List AObj} {zs : List (AV × (List Int × Int))} (h : ∀ z ∈ zs, ZOk b K z) : EntsO b K (zs.map (·.1)) (zs.map (·.2)) := by
  refine ⟨by simp, fun i hi => ?_⟩
  have hi' : i < zs.length := by simpa using hi
  obtain ⟨a, h1, h2⟩ := h zs[i] (List.getElem_mem hi')
  exact ⟨a, by rw [List.getElem?_map, List.getElem?_eq_getElem hi']; simp [h1], by simpa using h2⟩
theorem ZOk.to {b b' : Nat} {K K' : List AObj} {z : AV × (List Int × Int)} (h : ZOk b K z) (hb : b' ≤ b) (f : ∀ k c, b ≤ k → K[k]? = some (intOb c) → K'[k]? = some (intOb c)) : ZOk b' K' z := by
  obtain ⟨a, h1, h2⟩ := h
  exact ⟨a, h1, h2.to hb fun k hk => f k _ hk⟩
/-- What returns a list of its own, and what is wrong. -/
def cooR (F : (List Int × List (List Int × Int)) × Int) (r : AV) (G : List AObj) : Prop := ∃ x, r = .tup [x, I F.2] ∧ CooO 0 G x F.1
section
variable {P : Program} {f : FuncId} {args : List AV} {F : (List Int × List (List Int × Int)) × Int}
theorem coo_pure (h : ACalls P f args [] (cooR F)) (hX : InX F.1) : ACalls P f args [] fun r H' => H' = [] ∧ ∃ x, r = .tup [x, I F.2] ∧ Coo x F.1 := by
  refine (h.frozen 9).mono ?_
  rintro q H' ⟨rfl, r, G, ⟨x, rfl, hx⟩, rfl⟩
  exact ⟨rfl, _, by simp; rfl, hx.frz hX 4⟩
theorem coo_at (h : ACalls P f args [] (cooR F)) (hno : noRefs args = true) (H : List AObj) :
    ACalls P f args H fun q H' => ∃ G x, H' = H ++ G ∧ q = .tup [x, I F.2] ∧ CooO H.length (H ++ G) x F.1 := by
  refine (h.anywhere hno 8 H).mono ?_
  rintro q H' ⟨r, G, ⟨x, rfl, hx⟩, rfl, rfl⟩
  exact ⟨_, _, rfl, by simp, hx.shift H _ 6 5⟩
theorem coo_lent (n' : Nat) {H : List AObj} (h : ACalls P f (args.map (frz H 0 n' false)) [] (cooR F)) :
    ACalls P f args H fun q H' => ∃ G x, H' = H ++ G ∧ q = .tup [x, I F.2] ∧ CooO H.length (H ++ G) x F.1 := by
  refine (h.lent 8 n').mono ?_
  rintro q H' ⟨r, G, ⟨x, rfl, hx⟩, rfl, rfl⟩
  exact ⟨_, _, rfl, by simp, hx.shift H _ 6 5⟩
end
/-- slices.Clone anywhere. -/
theorem Clone_at {a : AV} {xs : List Int} (ha : ISl a xs) (hl : xs.length ≤ 1000000) (H : List AObj) : ACalls Try.prog 65 [a] H fun r K => ∃ G, K = H ++ G ∧ rowC H.length K r xs := by
  obtain ⟨⟨nl, c, sz, rfl, hs⟩, hlen, hx⟩ := ha
  refine ((Clone_spec (c := c) hs hl).anywhere (by simp) 4 H).mono ?_
  rintro q H' ⟨r, G, hR, rfl, rfl⟩
  refine ⟨_, rfl, ?_⟩
  unfold cloneR at hR
  split at hR
  · rename_i h
    obtain ⟨rfl, rfl⟩ := hR
    rw [hs.1 h]
    exact .inl ⟨rfl, .inl (by simp)⟩
  · split at hR
    · rename_i h
      obtain ⟨rfl, rfl⟩ := hR
      rw [h]
      exact .inl ⟨rfl, .inr (by simp)⟩
    · obtain ⟨rfl, rfl⟩ := hR
      exact .inr ⟨H.length, by omega, by simp, by simp [shH]⟩

def letter_1 : AC := (.seq (.ops [⟨(some 3), none, (.k (.fad 0 (.t 1)))⟩, ⟨(some 4), none, (.k (.ld 1 false (.t 3)))⟩, ⟨(some 6), none, (.k (.fad 1 (.t 1)))⟩, ⟨(some 7), none, (.k (.ld 1 false (.t 6)))⟩, ⟨(some 5), none, (.call true (.c (.fn (.func 65) [] [])) [(.t 4)])⟩, ⟨(some 8), none, (.k (.mk [(.imm true none 0 []), (.sc (.int .i64 0))] [(0, (1, (.t 5))), (1, (1, (.t 7)))]))⟩, ⟨none, none, (.k (.st 2 (.t 2) (.t 8)))⟩]) .ret)
def letter_ac : AC := (.seq (.ops [⟨(some 1), none, (.k (.new 38 2 (.t 0)))⟩, ⟨(some 2), none, (.k (.new 38 2 (.c (.agg [(.imm true none 0 []), (.sc (.int .i64 0))]))))⟩]) letter_1)
theorem letter_call {args : List AV} {H : List AObj} {R : AV → List AObj → Prop} (h : AWp Try.prog [] H.length letter_ac (bodyQ H.length [(.cell 2 2 true)] R) (args ++ List.replicate (9 - args.length) .und) H) : ACalls Try.prog 75 args H R :=
  ACalls.of_fn Try.func75 rfl (by kernel_rfl) rfl Try.ntmps75 h

theorem letter_spec {a : AV} {c : List Int} {v : Int} (ha : ISl a c) (hl : c.length ≤ 1000000) (H : List AObj) : ACalls Try.prog 75 [.agg [a, I v]] H fun r K => ∃ G a', K = H ++ G ∧ r = .agg [a', I v] ∧ rowC H.length K a' c := by
  have ha' := ha
  obtain ⟨⟨nl, cc, sz, rfl, hs⟩, hlen, hx⟩ := ha
  obtain ⟨n, hn⟩ : ∃ n, n = H.length := ⟨_, rfl⟩
  have hg : ∀ G k, (H ++ G)[n + k]? = G[k]? := fun G k => by rw [List.getElem?_append_right (by omega), show n + k - H.length = k by omega]
  have hg0 : ∀ G, (H ++ G)[n]? = G[0]? := fun G => by rw [List.getElem?_append_right (by omega), show n - H.length = 0 by omega]
  apply letter_call
  repeat first | refine AWp.seq ?_ | refine AWp.block ?_
  refine AWp.ops ?_
  simp [← hn, hg0]
  repeat first | refine AWp.seq ?_ | refine AWp.block ?_
  refine AWp.ops ?_
  simp [← hn, hg0]
  refine (Clone_at ha' hl _).mono ?_
  rintro r K ⟨G, rfl, hr⟩
  simp at hr
  have h1 := hr.one
  have h2 := hr.cells
  simp only [cellsOf] at h2
  have hs : ∀ x y z G, (H ++ x :: y :: G).set (n + 1) z = H ++ x :: z :: G := fun x y z G => by rw [List.set_append_right _ _ (by omega), show n + 1 - H.length = 1 by omega]; rfl
  simp [hg, h1, h2, hs]
  refine AWp.ret ?_
  simp
  refine retOk.of (vs := [.agg [r, I v]]) (by simp [hg]) ?_
  refine ⟨⟨_, rfl⟩, r, rfl, hr.to (by omega) fun k hk hk2 => ?_⟩
  rw [List.getElem?_append_right (by omega)] at hk2 ⊢
  obtain ⟨j, hj⟩ : ∃ j, k - H.length = j + 2 := ⟨k - H.length - 2, by omega⟩
  rw [hj] at hk2 ⊢
  simpa using hk2
end Go.Fw
