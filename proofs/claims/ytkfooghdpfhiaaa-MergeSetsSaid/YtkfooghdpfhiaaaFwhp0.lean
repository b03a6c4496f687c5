/- Heaps, plainly: what moving one down, or up, comes to. -/
import Derived.Test.YtkfooghdpfhiaaaFwY4
namespace Go.Fw
open Go

/-- From lo on none is greater than its children. -/
def Hp (f : Nat → Int) (n lo : Nat) : Prop := ∀ c, 0 < c → c < n → lo ≤ (c - 1) / 2 → f ((c - 1) / 2) ≤ f c
/-- So it is, but for the one at i and its children. -/
def HoleD (f : Nat → Int) (n lo i : Nat) : Prop :=
  (∀ c, 0 < c → c < n → lo ≤ (c - 1) / 2 → (c - 1) / 2 ≠ i → f ((c - 1) / 2) ≤ f c) ∧ (0 < i → lo ≤ (i - 1) / 2 → ∀ c, 0 < c → c < n → (c - 1) / 2 = i → f ((i - 1) / 2) ≤ f c)
/-- So it is, but for the one at i and its parent. -/
def HoleU (f : Nat → Int) (n i : Nat) : Prop :=
  (∀ c, 0 < c → c < n → c ≠ i → f ((c - 1) / 2) ≤ f c) ∧ (0 < i → ∀ c, 0 < c → c < n → (c - 1) / 2 = i → f ((i - 1) / 2) ≤ f c)
/-- Two are swapped. -/
def sw (f : Nat → Int) (i j : Nat) : Nat → Int := fun x => if x = i then f j else if x = j then f i else f x

theorem HoleD.of {f : Nat → Int} {n lo i : Nat} (h : Hp f n (i + 1)) (hi : lo = i) : HoleD f n lo i :=
  ⟨fun c h0 h1 h2 h3 => h c h0 h1 (by omega), fun h0 h1 => by omega⟩
theorem HoleD.done {f : Nat → Int} {n lo i : Nat} (h : HoleD f n lo i) (hc : ∀ c, 0 < c → c < n → (c - 1) / 2 = i → f i ≤ f c) : Hp f n lo := fun c h0 h1 h2 => by
  by_cases e : (c - 1) / 2 = i
  · rw [e]; exact hc c h0 h1 e
  · exact h.1 c h0 h1 h2 e
theorem HoleD.down {f : Nat → Int} {n lo i j : Nat} (h : HoleD f n lo i) (hj : j < n) (hp : (j - 1) / 2 = i) (h0j : 0 < j) (hmin : ∀ c, 0 < c → c < n → (c - 1) / 2 = i → f j ≤ f c) (hlt : f j < f i) (hlo : lo ≤ i) : HoleD (sw f i j) n lo j := by
  have hij : i < j := by omega
  refine ⟨fun c h0 h1 h2 h3 => ?_, fun _ _ c h0 h1 hcj => ?_⟩
  · simp only [sw]
    have e1 : ¬ (c - 1) / 2 = j := h3
    by_cases ei : (c - 1) / 2 = i
    · rw [if_pos ei]
      by_cases ec : c = j
      · subst ec; rw [if_neg (by omega), if_pos rfl]; omega
      · rw [if_neg (by omega), if_neg ec]; exact hmin c h0 h1 ei
    · rw [if_neg ei, if_neg e1]
      by_cases ec : c = i
      · subst ec
        rw [if_pos rfl]
        exact h.2 h0 h2 j h0j hj hp
      · by_cases ec2 : c = j
        · subst ec2; exact absurd hp ei
        · rw [if_neg ec, if_neg ec2]; exact h.1 c h0 h1 h2 ei
  · have hcj' : c ≠ i := by omega
    have hcj2 : c ≠ j := by omega
    simp only [sw]
    rw [hp, if_pos rfl, if_neg hcj', if_neg hcj2]
    have := h.1 c h0 h1 (by omega) (by omega)
    rw [hcj] at this; exact this
theorem HoleU.done {f : Nat → Int} {n i : Nat} (h : HoleU f n i) (hc : 0 < i → f ((i - 1) / 2) ≤ f i) : Hp f n 0 := fun c h0 h1 _ => by
  by_cases e : c = i
  · subst e; exact hc h0
  · exact h.1 c h0 h1 e
theorem HoleU.up {f : Nat → Int} {n i j : Nat} (h : HoleU f n j) (hi : i = (j - 1) / 2) (h0 : 0 < j) (hjn : j < n) (hlt : f j < f i) : HoleU (sw f i j) n i := by
  subst hi
  refine ⟨fun c h1 h2 h3 => ?_, fun h1 c h2 h3 h4 => ?_⟩
  · simp only [sw]
    by_cases ec : c = j
    · subst ec; rw [if_pos rfl, if_neg (by omega), if_pos rfl]; omega
    · rw [if_neg h3, if_neg ec]
      by_cases ep : (c - 1) / 2 = (j - 1) / 2
      · rw [if_pos ep]
        have := h.1 c h1 h2 ec
        rw [ep] at this; omega
      · rw [if_neg ep]
        by_cases ej : (c - 1) / 2 = j
        · rw [if_pos ej]; exact h.2 h0 c h1 h2 ej
        · rw [if_neg ej]; exact h.1 c h1 h2 ec
  · simp only [sw]
    have hpar := h.1 ((j - 1) / 2) h1 (by omega) (by omega)
    rw [if_neg (by omega), if_neg (by omega)]
    by_cases ec : c = j
    · subst ec; rw [if_neg (by omega), if_pos rfl]; exact hpar
    · rw [if_neg (by omega), if_neg ec]
      have := h.1 c h2 h3 ec
      rw [h4] at this; omega

/-- The key of the one at a place. -/
def kAt (key : AV → Int) (es : List AV) (i : Nat) : Int := key (es.getD i .und)
/-- Two swapped, as a list. -/
def swL (es : List AV) (i j : Nat) : List AV := (es.set i (es.getD j .und)).set j (es.getD i .und)
section
variable {key : AV → Int} {es : List AV} {i j n : Nat}
@[simp] theorem swL_len : (swL es i j).length = es.length := by simp [swL]
theorem swL_kAt (hi : i < es.length) (hj : j < es.length) (hij : i ≠ j) : kAt key (swL es i j) = sw (kAt key es) i j := by
  funext x
  simp only [kAt, sw, swL, List.getD]
  by_cases e1 : x = i
  · subst e1; rw [if_pos rfl, List.getElem?_set_ne (Ne.symm hij), List.getElem?_set_self hi]; rfl
  · by_cases e2 : x = j
    · subst e2; rw [if_neg e1, if_pos rfl, List.getElem?_set_self (by simpa using hj)]; rfl
    · rw [if_neg e1, if_neg e2, List.getElem?_set_ne (Ne.symm e2), List.getElem?_set_ne (Ne.symm e1)]
theorem swL_perm (hi : i < n) (hj : j < n) (hn : n ≤ es.length) : ((swL es i j).take n).Perm (es.take n) ∧ (swL es i j).drop n = es.drop n := by
  have e : (swL es i j).take n = ((es.take n).set i ((es.take n)[j]'(by simp; omega))).set j ((es.take n)[i]'(by simp; omega)) := by
    simp only [swL, List.getD]
    rw [List.getElem?_eq_getElem (by omega), List.getElem?_eq_getElem (by omega)]
    simp [List.take_set]
  refine ⟨?_, ?_⟩
  · rw [e]; exact List.set_set_perm (by simp; omega) (by simp; omega)
  · simp only [swL]
    rw [List.drop_set_of_lt hj, List.drop_set_of_lt hi]
end
end Go.Fw
