/- The document's Copy of a tensor, as a contract of what is only read; Few. -/
import Derived.Test.YthipbeffhfdamaaFwlaw05e
import Derived.Test.YthipbeffhfdamaaFwupk1
namespace Go.Fw
open Go Go.RowKit Go.Proofs
set_option maxRecDepth 100000
set_option linter.unusedSimpArgs false
set_option linter.unusedVariables false
section
variable {S : List Int} {F : List (Int × Int × Int)} {L : List Lv} {V : List Int}
def fewW (S : List Int) (F : List (Int × Int × Int)) (L : List Lv) (V : List Int) : Bool := fewF ⟨S, F, L.map toA, V⟩
theorem few_iff (h : fewW S F L V = true) : Few S F L V := by
  simp only [fewW, fewF, Bool.and_eq_true, decide_eq_true_eq, List.all_eq_true] at h
  obtain ⟨h1, h2⟩ := h
  simp at h1
  refine ⟨by omega, by omega, by omega, by omega, fun x hx => ?_⟩
  have := h2 (toA x) (List.mem_map_of_mem hx)
  simp only [toA_lv] at this
  omega
theorem few_p (h : TnOk S F L V) : Pu Try.prog 10 [tnW S F L V] (Bo (fewW S F L V)) := Pu.mk (few_spec h.tns)
theorem rCpy_p (h : TnOk S F L V) (hf : fewW S F L V = true) : Pu Try.prog 12 [tnW S F L V] (tnW S F L V) := by
  have k := few_iff hf
  refine (((Copy_own h.tns 0 [] (by simp) hf).frozen 7).mono ?_).pu
  rintro r H' ⟨hH, r, G, ⟨o, lO, a, sh, f, v, es, vr, hC, rfl⟩, rfl⟩
  have hv : ISl (frz G 0 6 false v) V := (hC.rv.to fun k _ hk => (untake hk).1 : rowO 1 G v _ _ _).ints h.v 5
  obtain ⟨c1, c2, ⟨ys, c3, c4⟩, c5⟩ := hC.own.read h.s h.f (fun x hx => by
    obtain ⟨y, hy, rfl⟩ := List.mem_map.1 hx
    exact h.l.2 y hy) (by have := k.l; simp; omega) hv
  have c6 := c3.wk
  rw [c4, toA_map] at c6
  refine ⟨hH, ?_⟩
  simp only [frz_agg, List.map_cons, List.map_nil, Wk, Wks, c1.wk, c2.wk, c6, c5.wk, true_and]
end
end Go.Fw
