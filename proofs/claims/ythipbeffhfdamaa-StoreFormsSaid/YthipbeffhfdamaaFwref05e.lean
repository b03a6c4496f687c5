import Derived.Test.YthipbeffhfdamaaFwref05d
namespace Go.Fw
open Go Go.RowKit Go.Proofs
set_option maxRecDepth 100000
set_option linter.unusedSimpArgs false
set_option linter.unusedVariables false

theorem readStep_blk {xs : List Int} {s : Int × Int × Int} {M M' : List (Bool × Int)} {b : Int} (hM : xs.length ≤ M.length) (h : readStep xs s M b = some M') (j : Nat) (hj : j < xs.length) :
    (M'.getD j (false, 0)).2 = if s.2.1 = j ∧ s.1 = 4 then s.2.2 else (M.getD j (false, 0)).2 := by
  obtain ⟨⟨hm0, hm1⟩, hk, _⟩ := readStep_ok h
  have key : ∀ (v : Bool × Int), ((M.set s.2.1.toNat v).getD j (false, 0)) = if s.2.1 = j then v else M.getD j (false, 0) := by
    intro v
    rw [List.getD, List.getD, List.getElem?_set]
    by_cases e : s.2.1 = j
    · have e2 : s.2.1.toNat = j := by omega
      rw [if_pos e2, if_pos e, if_pos (by omega)]; rfl
    · rw [if_neg (by omega), if_neg e]
  unfold readStep at h
  rw [if_neg (by omega)] at h
  split at h
  · rename_i hkk
    split at h
    · cases h
      rw [key, if_neg (show ¬ (s.2.1 = j ∧ s.1 = 4) from fun hh => by omega)]
      by_cases e : s.2.1 = j
      · have e2 : s.2.1.toNat = j := by omega
        rw [if_pos e, e2]
      · rw [if_neg e]
    · cases h
  · split at h
    · rename_i hk4
      split at h
      · cases h
        rw [key]
        by_cases e : s.2.1 = j
        · rw [if_pos e, if_pos ⟨e, hk4⟩]
        · rw [if_neg e, if_neg (fun hh => e hh.1)]
      · cases h
    · cases h
theorem readStep_once {xs : List Int} {s : Int × Int × Int} {M M' : List (Bool × Int)} {b : Int} (h : readStep xs s M b = some M') (hk : s.1 = 4) : (M.getD s.2.1.toNat (false, 0)).2 = 0 ∧ 0 < s.2.2 := by
  unfold readStep at h
  split at h
  · cases h
  · split at h
    · rename_i hkk
      omega
    · split at h
      · rename_i hc
        exact ⟨hc.2.1, hc.2.2.2.1⟩
      · cases h
theorem readGo_blk {xs : List Int} : ∀ (fs : List (Int × Int × Int)) {M M' : List (Bool × Int)} {b : Int}, xs.length ≤ M.length → readGo xs fs M b = some M' → ∀ j, j < xs.length →
    ((M'.getD j (false, 0)).2 = if (M.getD j (false, 0)).2 ≠ 0 then (M.getD j (false, 0)).2 else blockF fs j) ∧ ((M.getD j (false, 0)).2 ≠ 0 → ∀ s ∈ fs, s.2.1 = j → s.1 ≠ 4) ∧ ∀ s ∈ fs, s.2.1 = j → s.1 = 4 → (M'.getD j (false, 0)).2 = s.2.2
  | [], M, M', b, hM, h, j, hj => by
    simp only [readGo, Option.some.injEq] at h
    subst h
    refine ⟨?_, by simp, by simp⟩
    split
    · rfl
    · rename_i h; simpa [blockF] using h
  | s :: r, M, M', b, hM, h, j, hj => by
    simp only [readGo, Option.bind_eq_some_iff] at h
    obtain ⟨M1, h1, h2⟩ := h
    have l1 := readStep_len h1
    obtain ⟨a1, a2, a3⟩ := readGo_blk r (by omega) h2 j hj
    have e1 := readStep_blk hM h1 j hj
    by_cases hs : s.2.1 = j ∧ s.1 = 4
    · obtain ⟨o1, o2⟩ := readStep_once h1 hs.2
      have e2 : s.2.1.toNat = j := by omega
      rw [e2] at o1
      rw [if_pos hs] at e1
      have n1 : (M1.getD j (false, 0)).2 ≠ 0 := by rw [e1]; omega
      rw [if_pos n1, e1] at a1
      refine ⟨?_, fun hn => absurd o1 hn, fun t ht ht1 ht2 => ?_⟩
      · rw [if_neg (by simpa using o1), blockF, if_pos hs]; exact a1
      · rcases List.mem_cons.1 ht with rfl | ht
        · exact a1
        · exact absurd ht2 (a2 n1 t ht ht1)
    · rw [if_neg hs] at e1
      rw [e1] at a1 a2
      refine ⟨?_, fun hn t ht ht1 => ?_, fun t ht ht1 ht2 => ?_⟩
      · rw [blockF, if_neg hs]; exact a1
      · rcases List.mem_cons.1 ht with rfl | ht
        · exact fun h4 => hs ⟨ht1, h4⟩
        · exact a2 hn t ht ht1
      · rcases List.mem_cons.1 ht with rfl | ht
        · exact absurd ⟨ht1, ht2⟩ hs
        · exact a3 t ht ht1 ht2

/-- The document's size of a level. -/
def lvlR (xs : List Int) (fs : List (Int × Int × Int)) (s : Int × Int × Int) : Int :=
  if s.1 = 4 then s.2.2 else if 0 < blockF fs s.2.1 then (xs.getD s.2.1.toNat 0).tdiv (blockF fs s.2.1) else xs.getD s.2.1.toNat 0
theorem lvl_same {xs : List Int} {fs : List (Int × Int × Int)} {M : List (Bool × Int)} (hx : xs.length ≤ 4) (h : readF xs fs = some M) : fs.map (lvlOf xs M) = fs.map (lvlR xs fs) := by
  obtain ⟨hm, _⟩ := readF_ok h
  have hg : readGo xs fs (List.replicate 4 (false, 0)) 0 = some M := by
    unfold readF at h
    rw [Option.bind_eq_some_iff] at h
    obtain ⟨M1, h1, h2⟩ := h
    split at h2
    · cases h2; exact h1
    · cases h2
  apply List.map_congr_left
  intro s hs
  obtain ⟨⟨m0, m1⟩, _⟩ := hm s hs
  obtain ⟨b1, _, b3⟩ := readGo_blk fs (by simpa using hx) hg s.2.1.toNat (by omega)
  have e0 : ((List.replicate 4 ((false, 0) : Bool × Int)).getD s.2.1.toNat (false, 0)).2 = 0 := by
    rw [List.getD, List.getElem?_replicate]
    split <;> rfl
  rw [if_neg (by simpa using e0)] at b1
  have e1 : ((s.2.1.toNat : Nat) : Int) = s.2.1 := by omega
  rw [e1] at b1 b3
  unfold lvlOf lvlR
  by_cases k4 : s.1 = 4
  · rw [if_pos k4, if_pos k4]
    exact b3 s hs rfl k4
  · rw [if_neg k4, if_neg k4, b1]
end Go.Fw
