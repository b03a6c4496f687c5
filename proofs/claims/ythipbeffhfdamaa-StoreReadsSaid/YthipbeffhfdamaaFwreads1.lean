import Derived.Test.YthipbeffhfdamaaFwgood1
import Derived.Test.YthipbeffhfdamaaFwnext1
import Derived.Test.YthipbeffhfdamaaFwonce1
import Derived.Test.YthipbeffhfdamaaFwpar2
namespace Go.Fw
open Go Go.RowKit Go.Proofs
set_option maxRecDepth 100000
set_option linter.unusedSimpArgs false
set_option linter.unusedVariables false
theorem inS_inGo : ∀ (xs cs : List Int), cs.length = xs.length → (∀ i < xs.length, 0 ≤ cs.getD i 0 ∧ cs.getD i 0 < xs.getD i 0) → inGo xs cs = true
  | [], cs, _, _ => by simp [inGo]
  | s :: r, [], h, _ => by simp at h
  | s :: r, c :: q, h, hi => by
    have h0 := hi 0 (by simp)
    simp only [List.getD_cons_zero] at h0
    simp only [inGo]
    rw [inS_inGo r q (by simpa using h) fun i hlt => by simpa using hi (i + 1) (by simpa using hlt)]
    simp
    omega
theorem num_split : ∀ (xs cs : List Int) (a : Int), (∀ x ∈ xs, 1 ≤ x) → cs.length = xs.length → (∀ i < xs.length, 0 ≤ cs.getD i 0 ∧ cs.getD i 0 < xs.getD i 0) → 0 ≤ a → (a + 1) * prd xs ≤ 4611686018427387904 →
    ∃ v, 0 ≤ v ∧ v < prd xs ∧ numGo xs cs a = a * prd xs + v ∧ ∀ t : Int, placeF xs (t * prd xs + v) = cs
  | [], cs, a, _, h, _, _, _ => by
    have : cs = [] := by simpa using h
    subst this
    exact ⟨0, by simp, by simp [prd], by simp [numGo, prd], fun t => rfl⟩
  | s :: r, [], _, _, h, _, _, _ => by simp at h
  | s :: r, c :: q, a, hx, h, hi, ha, hb => by
    have hs := hx s (by simp)
    have hp := prd_pos (xs := r) fun y hy => hx y (by simp [hy])
    have h0 := hi 0 (by simp)
    simp only [List.getD_cons_zero] at h0
    simp only [prd, numGo] at hb ⊢
    have e1 : (a + 1) * (s * prd r) = (a * s + s) * prd r := by rw [← Int.mul_assoc, Int.add_mul, Int.one_mul]
    have e2 : (a * s + c + 1) * prd r ≤ (a * s + s) * prd r := Int.mul_le_mul_of_nonneg_right (by omega) (by omega)
    have e3 : 0 ≤ a * s := Int.mul_nonneg ha (by omega)
    have e4 : (a * s + s) * 1 ≤ (a * s + s) * prd r := Int.mul_le_mul_of_nonneg_left hp (by omega)
    rw [wrap_i64 (n := a * s) (by omega) (by omega), wrap_i64 (n := a * s + c) (by omega) (by omega)]
    obtain ⟨v, v0, v1, v2, v3⟩ := num_split r q (a * s + c) (fun y hy => hx y (by simp [hy])) (by simpa using h) (fun i hlt => by simpa using hi (i + 1) (by simpa using hlt)) (by omega) (by omega)
    have e5 : (c + 1) * prd r ≤ s * prd r := Int.mul_le_mul_of_nonneg_right (by omega) (by omega)
    have e6 : 0 ≤ c * prd r := Int.mul_nonneg h0.1 (by omega)
    rw [Int.add_mul, Int.one_mul] at e5
    refine ⟨c * prd r + v, by omega, by omega, ?_, fun t => ?_⟩
    · rw [v2, Int.add_mul, Int.mul_assoc]; omega
    · have e7 : t * (s * prd r) + (c * prd r + v) = (t * s + c) * prd r + v := by rw [Int.add_mul, Int.mul_assoc]; omega
      rw [e7, placeF, v3]
      congr 1
      rw [Int.add_comm, Int.add_mul_ediv_right _ _ (by omega), Int.ediv_eq_zero_of_lt v0 v1, Int.zero_add, Int.add_comm, Int.add_mul_emod_self_right]
      exact Int.emod_eq_of_lt h0.1 h0.2
theorem place_at {S c : List Int} (h : (cells S).2 = 0) (h0 : 0 < (cells S).1) (hc : InS S c) : placeF S (atF S c).1 = c := by
  obtain ⟨hx, hp⟩ := cells_nz h h0
  have hm := cells_lt h h0
  obtain ⟨v, v0, v1, v2, v3⟩ := num_split S c 0 hx hc.1 hc.2 (by omega) (by omega)
  have e : atF S c = (numGo S c 0, 0) := by
    unfold atF
    rw [if_neg (by omega), if_neg (by rw [hc.1]; simp), atGo_in, if_pos (inS_inGo S c hc.1 hc.2)]
  rw [e]
  simp only
  rw [v2]
  have := v3 0
  simpa using this
theorem atF_of {S c : List Int} (h : (cells S).2 = 0) (hc : InS S c) : (atF S c).2 = 0 := by
  unfold atF
  rw [if_neg (by omega), if_neg (by rw [hc.1]; simp), atGo_in, if_pos (inS_inGo S c hc.1 hc.2)]
theorem atF_inj {S a c : List Int} (h : (cells S).2 = 0) (ha : (atF S a).2 = 0) (hc : (atF S c).2 = 0) (e : (atF S a).1 = (atF S c).1) : a = c := by
  have h0 := atF_lt h ha
  rw [← place_at h (by omega) (atF_ins ha), ← place_at h (by omega) (atF_ins hc), e]
end Go.Fw
namespace Go.Fw
open Go Go.RowKit Go.Proofs
set_option maxRecDepth 100000
set_option linter.unusedSimpArgs false
set_option linter.unusedVariables false
theorem at_iff {S c : List Int} {k : Nat} (h : (cells S).2 = 0) (hk : (k : Int) < (cells S).1) (hc : InS S c) : (atF S c).1.toNat = k ↔ c = placeF S k := by
  constructor
  · intro e
    have := place_at h (by omega) hc
    obtain ⟨-, a0, -⟩ := at_in h hc
    rw [← this]
    congr 1
    omega
  · intro e
    rw [e, at_place h (by omega) hk]
    simp
theorem fold_set (num : List Int → Nat) (val : Nat → Int) (a : Nat) : ∀ (W : List (List Int × Nat)) (Z : List Int) (b : Bool), a < Z.length →
    (W.foldl (fun ws q => ws.set (num q.1) (val q.2)) Z).getD a 0 = ((W.filter fun q => num q.1 = a).foldl (fun _ q => (val q.2, true)) (Z.getD a 0, b)).1
  | [], Z, b, _ => rfl
  | q :: W, Z, b, h => by
    rw [List.foldl_cons, List.filter_cons]
    by_cases e : num q.1 = a
    · rw [if_pos (by simpa using e), List.foldl_cons, fold_set num val a W _ true (by simpa using h), getD_set _ _ _ _ _ (by rw [e]; exact h), if_pos e]
    · rw [if_neg (by simpa using e), fold_set num val a W _ b (by simpa using h)]
      congr 2
      by_cases hn : num q.1 < Z.length
      · rw [getD_set _ _ _ _ _ hn, if_neg e]
      · rw [List.set_eq_of_length_le (by omega)]
theorem fold_is (val : Nat → Int) : ∀ (W : List (List Int × Nat)) (s : Int × Bool), s.2 = true ∨ s.1 = 0 → (W.foldl (fun _ q => (val q.2, true)) s).2 = true ∨ (W.foldl (fun _ q => (val q.2, true)) s).1 = 0
  | [], s, h => h
  | q :: W, s, _ => fold_is val W _ (.inl rfl)
theorem filter_one {W : List (List Int × Nat)} (hp : W.Pairwise fun q r => q.1 ≠ r.1) {q : List Int × Nat} (hq : q ∈ W) : (W.filter fun r => r.1 = q.1) = [q] := by
  induction W with
  | nil => simp at hq
  | cons x W ih =>
    rw [List.pairwise_cons] at hp
    rw [List.filter_cons]
    rcases List.mem_cons.1 hq with rfl | hq
    · rw [if_pos (by simp)]
      congr 1
      rw [List.filter_eq_nil_iff]
      intro r hr h
      exact hp.1 r hr (Eq.symm (by simpa using h))
    · rw [if_neg (by have := hp.1 q hq; simpa using this), ih hp.2 hq]
theorem dense_get {S : List Int} {F : List (Int × Int × Int)} {xs : List LvA} {Vs : List Int} (hS : ∀ x ∈ S, -9223372036854775808 ≤ x ∧ x ≤ 9223372036854775807) (h : tnCheck S F xs Vs = 0) (hz : (zeroF S).2 = 0) {D : List Int} (hD : D = walkF (denStep S Vs) xs F (List.replicate S.length 0) 0 (zeroF S).1.2) :
    (D.length : Int) = (cells S).1 ∧ (∀ k : Nat, k < D.length → (getF S F xs Vs (placeF S k)).2 = 0 ∧ (getF S F xs Vs (placeF S k)).1.1 = D.getD k 0 ∧ ((getF S F xs Vs (placeF S k)).1.2 = true ∨ D.getD k 0 = 0)) ∧
    ((∀ x ∈ D, x = 0) ↔ ∀ v ∈ Vs, v = 0) := by
  obtain ⟨hc, -, hzl, hz2⟩ := zero_len hz
  obtain ⟨hS0, M, hM, hmet, hway⟩ := tn_way hS h
  obtain ⟨w1, w2, w3⟩ := tn_walk hS h
  obtain ⟨Z, hZ⟩ : ∃ Z, Z = (zeroF S).1.2 := ⟨_, rfl⟩
  rw [← hZ] at hD hzl hz2
  have hDl : D.length = Z.length := by
    rw [hD]
    exact walkF_inv (P := fun ws : List Int => ws.length = Z.length) (fun s c p h => by rw [denStep]; simpa using h) xs F _ _ _ rfl
  rw [walkF_list] at hD
  obtain ⟨W, hW⟩ : ∃ W, W = walkL xs F (List.replicate S.length 0) 0 := ⟨_, rfl⟩
  rw [← hW] at hD w1 w2 w3
  have hZ0 : ∀ k, Z.getD k 0 = 0 := fun k => by rw [hz2, rep_getD]
  have hfold : ∀ k, k < D.length → D.getD k 0 = ((W.filter fun q => q.1 = placeF S k).foldl (fun _ q => (Vs.getD q.2 0, true)) (0, false)).1 := by
    intro k hk
    have := fold_set (fun c => (atF S c).1.toNat) (fun p => Vs.getD p 0) k W Z false (by omega)
    rw [hZ0] at this
    rw [hD]
    simp only [denStep]
    rw [this]
    congr 2
    apply List.filter_congr
    intro q hq
    have := at_iff (k := k) hc (by omega) (w3 q hq).1
    simp only [this]
  refine ⟨by omega, fun k hk => ?_, ⟨fun hall v hv => ?_, fun hall => ?_⟩⟩
  · have hk2 : (k : Int) < (cells S).1 := by omega
    have hat := at_place hc (by omega) hk2
    have hg : getF S F xs Vs (placeF S k) = (getGo M Vs (placeF S k) xs F 0 (0, false), 0) := by
      rw [getF, if_neg (by omega), hat, if_neg (by simp), hM]
      rfl
    have hgo := getGo_eq (Vs := Vs) hS0 hmet (placeF_len S k) (0, false) hway (fun m _ hm => by rw [rep_getD] at hm; cases hm)
    rw [← hW] at hgo
    rw [hg, hgo, hfold k hk]
    exact ⟨rfl, rfl, fold_is (fun p => Vs.getD p 0) _ _ (.inr rfl)⟩
  · obtain ⟨p, hp, rfl⟩ := List.mem_iff_getElem.1 hv
    have hpm : p ∈ W.map (·.2) := by rw [w1]; exact List.mem_range.2 hp
    obtain ⟨q, hq, hqp⟩ := List.mem_map.1 hpm
    obtain ⟨hin, -⟩ := w3 q hq
    obtain ⟨-, a0, a1⟩ := at_in hc hin
    have hk : (atF S q.1).1.toNat < D.length := by omega
    have hpl : placeF S ((atF S q.1).1.toNat : Int) = q.1 := by
      have := place_at hc (by omega) hin
      rw [Int.toNat_of_nonneg a0, this]
    have e := hfold _ hk
    rw [hpl, filter_one w2 hq] at e
    simp only [List.foldl_cons, List.foldl_nil] at e
    have e2 := hall _ (List.getElem_mem hk)
    have e3 : D.getD (atF S q.1).1.toNat 0 = D[(atF S q.1).1.toNat] := by simp [hk]
    rw [e3, e2, hqp] at e
    simpa [hp] using e.symm
  · rw [hD]
    intro x hx
    have : ∀ (L : List (List Int × Nat)) (Y : List Int), (∀ y ∈ Y, y = 0) → ∀ y ∈ L.foldl (fun s q => denStep S Vs s q.1 q.2) Y, y = 0 := by
      intro L
      induction L with
      | nil => intro Y h; exact h
      | cons q L ih =>
        intro Y hY
        rw [List.foldl_cons]
        refine ih _ fun y hy => ?_
        rw [denStep] at hy
        rcases List.mem_or_eq_of_mem_set hy with hy | rfl
        · exact hY y hy
        · by_cases hp : q.2 < Vs.length
          · have : Vs.getD q.2 0 = Vs[q.2] := by simp [hp]
            rw [this]; exact hall _ (List.getElem_mem hp)
          · simp [Nat.not_lt.1 hp]
    refine this W Z (fun y hy => ?_) x hx
    rw [hz2] at hy
    exact List.eq_of_mem_replicate hy
end Go.Fw
/- What a tensor's entries, its dense meaning, and the number at a place are, by its numbers, one by one. -/
namespace Go.Fw
open Go Go.RowKit Go.Proofs
set_option maxRecDepth 100000
set_option linter.unusedSimpArgs false
set_option linter.unusedVariables false
def entP (S : List Int) (F : List (Int × Int × Int)) (L : List Lv) (V : List Int) : List (List Int × Int) := (List.range V.length).map fun k => (plcF S F L k, V.getD k 0)
@[simp] theorem entP_len (S : List Int) (F : List (Int × Int × Int)) (L : List Lv) (V : List Int) : (entP S F L V).length = V.length := by simp [entP]
def firstF (E : List (List Int × Int)) (c : List Int) : Int × Bool := match E.find? fun e => decide (e.1 = c) with
  | some e => (e.2, true)
  | none => (0, false)
section
variable {S : List Int} {F : List (Int × Int × Int)} {xs : List LvA} {V : List Int}
theorem dense_ent (hS : ∀ x ∈ S, -9223372036854775808 ≤ x ∧ x ≤ 9223372036854775807) (h : tnCheck S F xs V = 0) (Z : List Int) :
    walkF (denStep S V) xs F (List.replicate S.length 0) 0 Z = (entP S F (xs.map LvA.lv) V).foldl (fun ws e => ws.set (atF S e.1).1.toNat e.2) Z := by
  rw [walkF_list, walk_plc hS h, entP, List.foldl_map, List.foldl_map]
  rfl
theorem last_first (val : Nat → Int) (c : List Int) : ∀ (W : List (List Int × Nat)), (W.Pairwise fun q r => q.1 ≠ r.1) →
    (W.filter fun q => q.1 = c).foldl (fun _ q => (val q.2, true)) ((0 : Int), false) = firstF (W.map fun q => (q.1, val q.2)) c
  | [], _ => rfl
  | q :: W, h => by
    rw [List.pairwise_cons] at h
    rw [List.filter_cons]
    by_cases hq : q.1 = c
    · rw [if_pos (by simpa using hq)]
      have : W.filter (fun r => r.1 = c) = [] := by
        rw [List.filter_eq_nil_iff]
        intro r hr hrc
        exact h.1 r hr (hq.trans (Eq.symm (by simpa using hrc)))
      rw [this]
      simp [firstF, hq]
    · rw [if_neg (by simpa using hq), last_first val c W h.2]
      simp [firstF, hq]
theorem get_ent (hS : ∀ x ∈ S, -9223372036854775808 ≤ x ∧ x ≤ 9223372036854775807) (h : tnCheck S F xs V = 0) {c : List Int} (hc : c.length = S.length) :
    getGo ((readF S F).getD []) V c xs F 0 (0, false) = firstF (entP S F (xs.map LvA.lv) V) c := by
  obtain ⟨hS0, M, hM, hmet, hway⟩ := tn_way hS h
  obtain ⟨w1, w2, w3⟩ := tn_walk hS h
  have hgo := getGo_eq (Vs := V) hS0 hmet hc (0, false) hway (fun m _ hm => by rw [rep_getD] at hm; cases hm)
  rw [hM]
  simp only [Option.getD_some]
  rw [hgo, last_first (fun n => V.getD n 0) c _ w2, entF_eq hS h]
  rfl
end
end Go.Fw
