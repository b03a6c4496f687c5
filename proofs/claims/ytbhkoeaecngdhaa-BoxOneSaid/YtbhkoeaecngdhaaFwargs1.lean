import Derived.Test.YtbhkoeaecngdhaaFwzero1
import Derived.Test.YtbhkoeaecngdhaaFwX
namespace Go.Fw
open Go Go.RowKit Go.Proofs
set_option maxRecDepth 100000
set_option linter.unusedSimpArgs false
set_option linter.unusedVariables false
def DenseT : Ty := .st [.sl (.int .i64), .sl (.int .i64)]
def IntsT : Ty := .sl (.int .i64)
theorem Fits.dense {zs : List AV} (h : Fits DenseT zs) : ∃ D, Dn (wrapT DenseT zs) D := by
  simp only [DenseT, Fits, FitsL] at h
  obtain ⟨a, b, rfl, ha, a', b', rfl, hb, rfl⟩ := h
  obtain ⟨x, xs, rfl, hx⟩ := Fits.ints (by simp only [Fits]; exact ha)
  obtain ⟨y, ys, rfl, hy⟩ := Fits.ints (by simp only [Fits]; exact hb)
  exact ⟨(xs, ys), x, y, rfl, hx, hy⟩
theorem Fits.row {zs : List AV} (h : Fits IntsT zs) : ∃ xs, ISl (wrapT IntsT zs) xs := by
  obtain ⟨x, xs, rfl, hx⟩ := Fits.ints h
  exact ⟨xs, hx⟩
end Go.Fw
