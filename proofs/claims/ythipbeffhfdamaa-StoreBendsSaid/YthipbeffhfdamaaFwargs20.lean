import Derived.Test.YthipbeffhfdamaaFwstore2
import Derived.Test.YthipbeffhfdamaaFwX
namespace Go.Fw
open Go Go.RowKit Go.Proofs
set_option maxRecDepth 100000
set_option linter.unusedSimpArgs false
set_option linter.unusedVariables false
def SpecsT : Ty := .sl (.st [.int .i64, .int .i64, .int .i64])
def IntsT : Ty := .sl (.int .i64)
theorem Fits.row {zs : List AV} (h : Fits IntsT zs) : ∃ xs, ISl (wrapT IntsT zs) xs := by
  obtain ⟨x, xs, rfl, hx⟩ := Fits.ints h
  exact ⟨xs, hx⟩
theorem wf_i64 {n : Int} (h : (Lit.int .i64 n).wf = true) : -9223372036854775808 ≤ n ∧ n ≤ 9223372036854775807 := by
  simp [Lit.wf, IntKind.min, IntKind.max, IntKind.signed, IntKind.bits] at h
  omega
theorem Fits.specs {zs : List AV} (h : Fits SpecsT zs) : ∃ fs, Sp (wrapT SpecsT zs) fs := by
  simp only [SpecsT, Fits] at h
  obtain ⟨nl, c, sz, xs, rfl, h1, h2, h3, h4⟩ := h
  have : ∃ fs : List (Int × Int × Int), xs = fs.map specV ∧ ∀ s ∈ fs, (-9223372036854775808 ≤ s.1 ∧ s.1 ≤ 9223372036854775807) ∧ (-9223372036854775808 ≤ s.2.1 ∧ s.2.1 ≤ 9223372036854775807) ∧ (-9223372036854775808 ≤ s.2.2 ∧ s.2.2 ≤ 9223372036854775807) := by
    clear h1 h2 h3
    induction xs with
    | nil => exact ⟨[], rfl, by simp⟩
    | cons x xs ih =>
      obtain ⟨fs, rfl, hz⟩ := ih fun x hx => h4 x (by simp [hx])
      obtain ⟨cs, rfl, hc⟩ := h4 x (by simp)
      simp only [FitsL] at hc
      obtain ⟨_, _, rfl, ⟨k, rfl, hk⟩, _, _, rfl, ⟨m, rfl, hm⟩, _, _, rfl, ⟨z, rfl, hzz⟩, rfl⟩ := hc
      refine ⟨(k, m, z) :: fs, rfl, fun s hs => ?_⟩
      rcases List.mem_cons.1 hs with rfl | h
      · exact ⟨wf_i64 hk, wf_i64 hm, wf_i64 hzz⟩
      · exact hz s h
  obtain ⟨fs, rfl, hz⟩ := this
  exact ⟨fs, ⟨nl, c, sz, rfl, fun h => by simpa using h1 h, fun h => h2 h⟩, by simpa [maxLen] using h3, hz⟩
end Go.Fw
