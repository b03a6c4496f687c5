/- merge.Walk: whole. -/
import Derived.Test.YtkfooghdpfhiaaaFwwlk2
namespace Go.Fw
open Go Go.RowKit Go.Proofs
set_option maxRecDepth 100000
set_option linter.unusedSimpArgs false
set_option linter.unusedVariables false

/-- Stops, as they are handed on. -/
abbrev Ss (S : List (Int × List Int)) : AV := .imm false none 2 (S.map stopV)
def walkF (A : List (List Int)) : List (Int × List Int) × Int := if ∀ l ∈ A, Rise l then (stops A, 0) else ([], 1)
/-- The lists to be read. -/
def rds (A : List (List Int)) (i : Nat) : List AV := ((List.range i).filter fun k => decide (0 < (A.getD k []).length)).map fun k => rdr (A.getD k []) 0 k
theorem rds_one {A : List (List Int)} {i : Nat} : allOneCell 3 (rds A i) = true := by
  simp only [allOneCell, List.all_eq_true, rds, List.mem_map]
  rintro _ ⟨k, _, rfl⟩
  rfl
theorem rds_len {A : List (List Int)} {i : Nat} : (rds A i).length ≤ i := by
  have := List.length_filter_le (fun k => decide (0 < (A.getD k []).length)) (List.range i)
  simpa [rds] using this
theorem rds_succ {A : List (List Int)} {i : Nat} : rds A (i + 1) = rds A i ++ if 0 < (A.getD i []).length then [rdr (A.getD i []) 0 i] else [] := by
  simp only [rds, List.range_succ, List.filter_append, List.map_append, List.filter_cons, List.filter_nil]
  by_cases h : 0 < (A.getD i []).length
  · rw [if_pos h, if_pos (by simpa using h)]; rfl
  · rw [if_neg h, if_neg (by simpa using h)]; rfl
set_option maxHeartbeats 4000000 in
theorem mwalk_p (A : List (List Int)) (hn : A.length ≤ 1000000) (hF : A.flatten.length ≤ 1000000) : Pu Try.prog 16 [Ls A] (.tup [Ss (walkF A).1, I (walkF A).2]) := by
  refine Pu.of 4 (mwalk_w ?_)
  simp (disch := omega) [ar, -List.take_append_getElem, mwalk_ac]
  refine Lp.op (σ := Nat) (fun i => i ≤ A.length ∧ ∀ l ∈ A.take i, Rise l) (fun i => A.length - i) (fun i => fm 122 [(0, Ls A), (4, .ptr 1 1 0 0), (13, Ls A), (14, I A.length), (15, I i)])
    (fun i => [ov none 76 3 (rds A i), ob 74 1 [.slc 0 (rds A i).length 0 (rds A i).length none]]) 0 ⟨⟨by omega, by simp⟩, by simp, by simp [rds]; rfl⟩ ?_
  rintro i ⟨hi, hr⟩
  simp (disch := omega) [ar, -List.take_append_getElem, mwalk_1]
  (first | refine Cnd.sp (fun h1 => ?_) fun h1 => ?_ | refine Gd.sp (fun h1 => ?_) fun h1 => ?_) <;> (try simp at h1) <;> (try simp (disch := omega) [ar, -List.take_append_getElem, h1])
  · have hil : i < A.length := by omega
    obtain ⟨l, hl⟩ : ∃ l, A[i] = l := ⟨_, rfl⟩
    have hlA : l ∈ A := by rw [← hl]; exact List.getElem_mem hil
    have hll : l.length ≤ 1000000 := by have := (List.sublist_flatten_of_mem hlA).length_le; omega
    have hgl : A.getD i [] = l := by simp [List.getD, hil, hl]
    simp only [hl]
    refine Pu.c (pRises_p l (by omega)) ?_
    simp (disch := omega) [ar, -List.take_append_getElem, hl]
    (first | refine Cnd.sp (fun h2 => ?_) fun h2 => ?_ | refine Gd.sp (fun h2 => ?_) fun h2 => ?_) <;> (try simp at h2) <;> (try simp (disch := omega) [ar, -List.take_append_getElem, h2])
    · have e : walkF A = ([], 1) := by rw [walkF, if_neg]; intro h; exact h2 (h l hlA)
      simp [e]
    · have hrs : ∀ l ∈ A.take (i + 1), Rise l := by
        rw [List.take_succ_eq_append_getElem hil, hl]
        intro x hx
        rcases List.mem_append.1 hx with h | h
        · exact hr x h
        · rw [List.mem_singleton.1 h]; exact h2
      have hsu := rds_succ (A := A) (i := i)
      rw [hgl] at hsu
      have hv : (ov none 76 3 (rds A i)).vir = none := by simp [ov_vir]
      have hrl := rds_len (A := A) (i := i)
      have hro := rds_one (A := A) (i := i)
      (first | refine Cnd.sp (fun h3 => ?_) fun h3 => ?_ | refine Gd.sp (fun h3 => ?_) fun h3 => ?_) <;> (try simp at h3) <;> (try simp (disch := omega) [ar, -List.take_append_getElem, h3])
      · rw [if_pos h3] at hsu
        simp (disch := omega) [ar, -List.take_append_getElem, hv, hro]
        refine ⟨i + 1, ⟨by omega, hrs⟩, by omega, by omega, ?_, by rw [hsu]; simp⟩
        rw [hsu]
        exact ov_mk (v0 := none) (by simp)
      · rw [if_neg (by rw [h3]; simp), List.append_nil] at hsu
        refine ⟨i + 1, ⟨by omega, hrs⟩, by omega, by omega, by simp [hsu]⟩
  · obtain rfl : i = A.length := by omega
    have hrA : ∀ l ∈ A, Rise l := fun l hl => hr l (by rw [List.take_of_length_le (Nat.le_refl _)]; exact hl)
    obtain ⟨es, hes⟩ : ∃ es, es = rds A A.length := ⟨_, rfl⟩
    have hel : es.length ≤ A.length := by rw [hes]; exact rds_len
    have hok : ∀ e ∈ es.take es.length, okR e := fun e he => by
      rw [List.take_of_length_le (Nat.le_refl _), hes] at he
      obtain ⟨k, hk, rfl⟩ := List.mem_map.1 he
      exact ⟨_, _, _, rfl, by simpa using (List.mem_filter.1 hk).2⟩
    have hs : HS none id 74 76 3 [ov none 76 3 es, ob 74 1 [.slc 0 es.length 0 es.length none]] 1 0 es es.length := ⟨rfl, rfl, by omega, Nat.le_refl _⟩
    rw [← hes]
    refine ACalls.c (hinit_spec rd_HM hs hok (by omega)) ?_
    rintro r H' ⟨es', rfl, hM, hD⟩
    have hl1 := hM.len
    simp (disch := omega) [ar, -List.take_append_getElem]
    refine mwalk2 (A := A) (es := es') (n := es.length) (H := [ov none 76 3 es', ob 74 1 [.slc 0 es'.length 0 es.length none], ow 37 2 []]) hrA (by omega) hF ⟨⟨⟨rfl, rfl, by omega, by omega⟩, rfl, fun j h => by simp at h, by simp, fun j h => by simp at h⟩, ?_, by simp, ?_, hD, by omega, ?_⟩ ?_ ?_
    · have e : (upto A fun _ => 0).flatten = [] := by rw [upto_zero]; simp
      rw [stops, e]; rfl
    · have h1 := hM.perm
      rw [List.take_of_length_le (l := es) (Nat.le_refl _)] at h1
      rw [hes] at h1 ⊢
      exact h1
    · intro j k x hx; simp at hx
    · refine (Weak.own 7 37 2 (by omega) none 0 rfl).trans (Weak.le (by simp) ?_)
      simp [ow, hl1]
    · intro fr es2 H2 wo h1 h2
      have ho := wo.ho
      have h3 : fr[7]'(by omega) = .slc 2 (stops A).length 0 (stops A).length none := by rw [List.getElem?_eq_getElem (by omega)] at h2; exact Option.some.inj h2
      have hw : walkF A = (stops A, 0) := if_pos hrA
      simp (disch := omega) [ar, -List.take_append_getElem, h1, h3, ho, hw, List.getElem?_set]
      refine .inl ?_
      have e : (outs A.length (stops A)).map (fz H2 0 2 false) = (stops A).map stopV := by
        apply List.ext_getElem (by simp)
        intro j a b
        simp at a
        have h4 := wo.hr j a
        have h5 := wo.hN j a
        rw [List.getElem_map, outs_get a, List.getElem_map]
        simp (disch := omega) [ar, -List.take_append_getElem, h4, h5]
      rw [e]; exact Wks.refl _
end Go.Fw
