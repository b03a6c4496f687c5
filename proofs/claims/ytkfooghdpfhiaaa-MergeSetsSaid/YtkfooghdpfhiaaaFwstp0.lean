/- Lists that rise, what one of them has, and stops, plainly. -/
import Derived.Test.YtkfooghdpfhiaaaFwY4
namespace Go.Fw
open Go

/-- Lists of numbers, as they are handed on. -/
abbrev Ls (A : List (List Int)) : AV := .imm false none 1 (A.map Is)
/-- Each number is greater than those ahead of it. -/
abbrev Rise (l : List Int) : Prop := l.Pairwise (· < ·)
theorem Rise.of {l : List Int} (h : ∀ j (h : j + 1 < l.length), l[j] < l[j + 1]) : Rise l := by
  unfold Rise
  rw [List.pairwise_iff_getElem]
  intro i j hi hj hij
  obtain ⟨k, rfl⟩ := Nat.exists_eq_add_of_lt hij
  induction k with
  | zero => exact h i hj
  | succ k ih => have h1 := ih (by omega) (by omega); have h2 := h (i + k + 1) (by omega); exact Int.lt_trans h1 h2
theorem Rise.adj {l : List Int} (hr : Rise l) (j : Nat) (h : j + 1 < l.length) : l[j] < l[j + 1] := (List.pairwise_iff_getElem.1 hr) j (j + 1) (by omega) h (by omega)
theorem Rise.nodup {l : List Int} (h : Rise l) : l.Nodup := h.imp fun h => Int.ne_of_lt h
theorem Rise.ext {l l' : List Int} (h : Rise l) (h' : Rise l') (hm : ∀ x, x ∈ l ↔ x ∈ l') : l = l' := by
  induction l generalizing l' with
  | nil =>
    cases l' with
    | nil => rfl
    | cons y l' => exact absurd ((hm y).2 (by simp)) (by simp)
  | cons x l ih =>
    cases l' with
    | nil => exact absurd ((hm x).1 (by simp)) (by simp)
    | cons y l' =>
      have h1 := List.pairwise_cons.1 h
      have h2 := List.pairwise_cons.1 h'
      have e : x = y := by
        have a := (hm x).1 (by simp)
        have b := (hm y).2 (by simp)
        rcases List.mem_cons.1 a with e | a
        · exact e
        · rcases List.mem_cons.1 b with e | b
          · exact e.symm
          · have := h1.1 y b; have := h2.1 x a; omega
      subst e
      rw [ih h1.2 h2.2 fun z => ?_]
      have := hm z
      simp only [List.mem_cons] at this
      constructor
      · intro hz
        rcases this.1 (.inr hz) with e | e
        · subst e; have := h1.1 _ hz; omega
        · exact e
      · intro hz
        rcases this.2 (.inr hz) with e | e
        · subst e; have := h2.1 _ hz; omega
        · exact e
/-- Put at its place, if it is not there. -/
def insr (n : Int) : List Int → List Int
  | [] => [n]
  | x :: l => if n < x then n :: x :: l else if n = x then x :: l else x :: insr n l
theorem mem_insr {n x : Int} {l : List Int} : x ∈ insr n l ↔ x = n ∨ x ∈ l := by
  induction l with
  | nil => simp [insr]
  | cons y l ih =>
    simp only [insr]
    split
    · simp
    · split
      · rename_i h; subst h; simp
      · simp only [List.mem_cons, ih]
        constructor <;> rintro (h | h | h) <;> simp [h]
theorem Rise.insr {n : Int} {l : List Int} (h : Rise l) : Rise (insr n l) := by
  induction l with
  | nil => simp [Fw.insr, Rise]
  | cons y l ih =>
    have h1 := List.pairwise_cons.1 h
    simp only [Fw.insr]
    split
    · rename_i hlt
      refine List.pairwise_cons.2 ⟨fun z hz => ?_, h⟩
      rcases List.mem_cons.1 hz with e | e
      · omega
      · have := h1.1 z e; omega
    · split
      · exact h
      · refine List.pairwise_cons.2 ⟨fun z hz => ?_, ih h1.2⟩
        rcases mem_insr.1 hz with e | e
        · omega
        · exact h1.1 z e
/-- What there is, in order, each once. -/
def uni (l : List Int) : List Int := l.foldr insr []
theorem mem_uni {x : Int} {l : List Int} : x ∈ uni l ↔ x ∈ l := by
  induction l with
  | nil => simp [uni]
  | cons y l ih => simp only [uni, List.foldr_cons, mem_insr, List.mem_cons] at ih ⊢; rw [← ih]
theorem rise_uni (l : List Int) : Rise (uni l) := by
  induction l with
  | nil => simp [uni, Rise]
  | cons y l ih => exact Rise.insr ih
theorem uni_eq {l m : List Int} (hm : Rise m) (h : ∀ x, x ∈ l ↔ x ∈ m) : uni l = m := (rise_uni l).ext hm fun x => by rw [mem_uni, h]
theorem uni_congr {l m : List Int} (h : ∀ x, x ∈ l ↔ x ∈ m) : uni l = uni m := uni_eq (rise_uni m) fun x => by rw [mem_uni, h]
/-- A number's place in a list; -1: there is none. -/
def whr (n : Int) (l : List Int) : Int := if n ∈ l then (l.idxOf n : Int) else -1
theorem whr_neg {n : Int} {l : List Int} : 0 ≤ whr n l ↔ n ∈ l := by
  unfold whr; split
  · rename_i h; simp [h]
  · rename_i h; simp [h]
theorem whr_found {n : Int} {l : List Int} {i : Nat} (h : i < l.length) (e : l[i] = n) (hn : n ∉ l.take i) : whr n l = i := by
  have hm : n ∈ l := by rw [← e]; exact List.getElem_mem h
  have h1 : l.idxOf n ≤ i := by
    refine Classical.byContradiction fun hc => ?_
    have := List.not_of_lt_findIdx (p := (· == n)) (xs := l) (i := i) (by rw [List.idxOf] at hc; omega)
    simp [e] at this
  have h2 : ¬ l.idxOf n < i := fun hc => hn (by
    rw [List.mem_take_iff_getElem]
    exact ⟨l.idxOf n, by have := List.idxOf_lt_length_of_mem hm; omega, List.getElem_idxOf _⟩)
  simp [whr, hm]; omega
theorem whr_none {n : Int} {l : List Int} (h : n ∉ l) : whr n l = -1 := if_neg h
theorem whr_append {n : Int} {l m : List Int} (h : n ∉ m) : whr n (l ++ m) = whr n l := by
  unfold whr
  by_cases h1 : n ∈ l
  · simp [h1, List.idxOf_append]
  · simp [h1, h]
theorem whr_new {n : Int} {l : List Int} (h : n ∉ l) : whr n (l ++ [n]) = l.length := by
  simp [whr, List.idxOf_append, h]
/-- The stops of lists. -/
def stops (B : List (List Int)) : List (Int × List Int) := (uni B.flatten).map fun n => (n, B.map (whr n))
abbrev stopV (st : Int × List Int) : AV := .agg [I st.1, Is st.2]
theorem stops_len {B : List (List Int)} {st : Int × List Int} (h : st ∈ stops B) : st.2.length = B.length := by
  obtain ⟨n, _, rfl⟩ := List.mem_map.1 h
  simp
theorem stops_fst {B : List (List Int)} : (stops B).map (·.1) = uni B.flatten := by simp [stops, Function.comp_def]
theorem mem_set_flat {B : List (List Int)} {k : Nat} (hk : k < B.length) {v x : Int} : x ∈ (B.set k (B[k] ++ [v])).flatten ↔ x ∈ B.flatten ∨ x = v := by
  simp only [List.mem_flatten]
  constructor
  · rintro ⟨l, hl, hx⟩
    obtain ⟨i, hi, rfl⟩ := List.mem_iff_getElem.1 hl
    rw [List.getElem_set] at hx
    split at hx
    · rcases List.mem_append.1 hx with h | h
      · exact .inl ⟨_, List.getElem_mem hk, h⟩
      · exact .inr (List.mem_singleton.1 h)
    · exact .inl ⟨_, List.getElem_mem (by simpa using hi), hx⟩
  · rintro (⟨l, hl, hx⟩ | rfl)
    · obtain ⟨i, hi, rfl⟩ := List.mem_iff_getElem.1 hl
      refine ⟨(B.set k (B[k] ++ [v]))[i]'(by simpa using hi), List.getElem_mem _, ?_⟩
      rw [List.getElem_set]
      split
      · rename_i e; subst e; simp [hx]
      · exact hx
    · exact ⟨B[k] ++ [x], List.mem_iff_getElem.2 ⟨k, by simpa using hk, by simp⟩, by simp⟩
theorem whr_set {B : List (List Int)} {k : Nat} (hk : k < B.length) {v n : Int} (h : n ≠ v) : (B.set k (B[k] ++ [v])).map (whr n) = B.map (whr n) := by
  rw [List.map_set, whr_append (by simpa using h)]
  apply List.ext_getElem (by simp)
  intro i h1 h2
  rw [List.getElem_set]
  split
  · rename_i e; subst e; simp
  · rfl
theorem whr_at {B : List (List Int)} {k : Nat} (hk : k < B.length) {v : Int} (h : v ∉ B[k]) : (B.set k (B[k] ++ [v])).map (whr v) = (B.map (whr v)).set k (B[k].length : Int) := by
  rw [List.map_set, whr_new h]
theorem Rise.snoc {l : List Int} {v : Int} (h : Rise l) (hv : ∀ x ∈ l, x < v) : Rise (l ++ [v]) :=
  List.pairwise_append.2 ⟨h, by simp, fun x hx y hy => by rw [List.mem_singleton.1 hy]; exact hv x hx⟩
/-- One more, greater than all. -/
theorem stops_new {B : List (List Int)} {k : Nat} (hk : k < B.length) {v : Int} (h : ∀ x ∈ B.flatten, x < v) :
    stops (B.set k (B[k] ++ [v])) = stops B ++ [(v, (List.replicate B.length (-1)).set k (B[k].length : Int))] := by
  have e : uni (B.set k (B[k] ++ [v])).flatten = uni B.flatten ++ [v] := by
    refine uni_eq ((rise_uni _).snoc fun x hx => h x (mem_uni.1 hx)) fun x => ?_
    rw [mem_set_flat hk, List.mem_append, mem_uni, List.mem_singleton]
  have hn : v ∉ B.flatten := fun hv => by have := h v hv; omega
  have hk2 : v ∉ B[k] := fun hv => hn (List.mem_flatten.2 ⟨_, List.getElem_mem hk, hv⟩)
  have e2 : B.map (whr v) = List.replicate B.length (-1) := by
    rw [List.eq_replicate_iff]
    refine ⟨by simp, fun b hb => ?_⟩
    obtain ⟨l, hl, rfl⟩ := List.mem_map.1 hb
    simp [whr, show v ∉ l from fun h => hn (List.mem_flatten.2 ⟨l, hl, h⟩)]
  unfold stops
  rw [e, List.map_append, List.map_singleton, whr_at hk hk2, e2]
  congr 1
  apply List.map_congr_left
  intro n hm
  have := h n (mem_uni.1 hm)
  rw [whr_set hk (by omega)]
/-- The last one again, of another list. -/
theorem stops_old {B : List (List Int)} {k : Nat} (hk : k < B.length) {v : Int} (h : ∀ x ∈ B.flatten, x ≤ v) (hv : v ∈ B.flatten) (hk2 : v ∉ B[k]) :
    ∃ S s, stops B = S ++ [(v, s)] ∧ stops (B.set k (B[k] ++ [v])) = S ++ [(v, s.set k (B[k].length : Int))] ∧ s.length = B.length := by
  have e : uni (B.set k (B[k] ++ [v])).flatten = uni B.flatten := uni_congr fun x => by
    rw [mem_set_flat hk]
    constructor
    · rintro (h | rfl)
      · exact h
      · exact hv
    · exact .inl
  obtain ⟨U, hU⟩ : ∃ U, uni B.flatten = U ++ [v] := by
    have hne : uni B.flatten ≠ [] := by intro e; have := mem_uni.2 hv; rw [e] at this; simp at this
    refine ⟨(uni B.flatten).dropLast, ?_⟩
    have hl := List.dropLast_concat_getLast hne
    have hlast : (uni B.flatten).getLast hne = v := by
      have h1 := h _ (mem_uni.1 (List.getLast_mem hne))
      have hr : Rise ((uni B.flatten).dropLast ++ [(uni B.flatten).getLast hne]) := by rw [hl]; exact rise_uni _
      have h2 : v ∈ (uni B.flatten).dropLast ++ [(uni B.flatten).getLast hne] := by rw [hl]; exact mem_uni.2 hv
      rcases List.mem_append.1 h2 with h3 | h3
      · have := (List.pairwise_append.1 hr).2.2 v h3 _ (List.mem_singleton.2 rfl); omega
      · exact (List.mem_singleton.1 h3).symm
    rw [← hlast]; exact hl.symm
  have hU2 : ∀ n ∈ U, n ≠ v := fun n hn => by
    have hr : Rise (U ++ [v]) := by rw [← hU]; exact rise_uni _
    have := (List.pairwise_append.1 hr).2.2 n hn v (by simp); omega
  refine ⟨U.map fun n => (n, B.map (whr n)), B.map (whr v), by simp [stops, hU], ?_, by simp⟩
  unfold stops
  rw [e, hU, List.map_append, List.map_singleton, whr_at hk hk2]
  congr 1
  apply List.map_congr_left
  intro n hm
  rw [whr_set hk (hU2 n hm)]
end Go.Fw
