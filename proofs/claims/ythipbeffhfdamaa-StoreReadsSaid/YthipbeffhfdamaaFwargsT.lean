import Derived.Test.YthipbeffhfdamaaFwlevel1
import Derived.Test.YthipbeffhfdamaaFwX
import Derived.Test.YthipbeffhfdamaaFwstore4
namespace Go.Fw
open Go Go.RowKit Go.Proofs
set_option maxRecDepth 100000
set_option linter.unusedSimpArgs false
set_option linter.unusedVariables false
def SpecsT : Ty := .sl (.st [.int .i64, .int .i64, .int .i64])
def IntsT : Ty := .sl (.int .i64)
theorem Fits.row {zs : List AV} (h : Fits IntsT zs) : ∃ xs, ISl (wrapT IntsT zs) xs := by
  obtain ⟨x, xs, rfl, hx⟩ := Fits.ints h
  exact ⟨xs, hx⟩
theorem wf_i64 {n : Int} (h : (Lit.int .i64 n).wf = true) : -9223372036854775808 ≤ n ∧ n ≤ 9223372036854775807 := by
  simp [Lit.wf, IntKind.min, IntKind.max, IntKind.signed, IntKind.bits] at h
  omega
theorem Fits.specs {zs : List AV} (h : Fits SpecsT zs) : ∃ fs, Sp (wrapT SpecsT zs) fs := by
  simp only [SpecsT, Fits] at h
  obtain ⟨nl, c, sz, xs, rfl, h1, h2, h3, h4⟩ := h
  have : ∃ fs : List (Int × Int × Int), xs = fs.map specV ∧ ∀ s ∈ fs, (-9223372036854775808 ≤ s.1 ∧ s.1 ≤ 9223372036854775807) ∧ (-9223372036854775808 ≤ s.2.1 ∧ s.2.1 ≤ 9223372036854775807) ∧ (-9223372036854775808 ≤ s.2.2 ∧ s.2.2 ≤ 9223372036854775807) := by
    clear h1 h2 h3
    induction xs with
    | nil => exact ⟨[], rfl, by simp⟩
    | cons x xs ih =>
      obtain ⟨fs, rfl, hz⟩ := ih fun x hx => h4 x (by simp [hx])
      obtain ⟨cs, rfl, hc⟩ := h4 x (by simp)
      simp only [FitsL] at hc
      obtain ⟨_, _, rfl, ⟨k, rfl, hk⟩, _, _, rfl, ⟨m, rfl, hm⟩, _, _, rfl, ⟨z, rfl, hzz⟩, rfl⟩ := hc
      refine ⟨(k, m, z) :: fs, rfl, fun s hs => ?_⟩
      rcases List.mem_cons.1 hs with rfl | h
      · exact ⟨wf_i64 hk, wf_i64 hm, wf_i64 hzz⟩
      · exact hz s h
  obtain ⟨fs, rfl, hz⟩ := this
  exact ⟨fs, ⟨nl, c, sz, rfl, fun h => by simpa using h1 h, fun h => h2 h⟩, Nat.le_trans (by simpa using h3) (show reachBytes ≤ 9223372036854775807 by decide), hz⟩
end Go.Fw
namespace Go.Fw
open Go Go.RowKit Go.Proofs
set_option maxRecDepth 100000
set_option linter.unusedSimpArgs false
set_option linter.unusedVariables false
def LevelT : Ty := .st [.int .i64, .int .i64, .sl (.int .i64), .sl (.int .i64)]
def LevelsT : Ty := .sl LevelT
def TensorT : Ty := .st [.sl (.int .i64), .sl (.st [.int .i64, .int .i64, .int .i64]), .sl (.st [.int .i64, .int .i64, .sl (.int .i64), .sl (.int .i64)]), .sl (.int .i64)]
structure Tn where
  sh : List Int
  f : List (Int × Int × Int)
  l : List LvA
  v : List Int
def Tns (a : AV) (T : Tn) : Prop := ∃ x y z w, a = .agg [x, y, z, w] ∧ ISl x T.sh ∧ Sp y T.f ∧ Ls z T.l ∧ ISl w T.v
theorem Fits.levels {zs : List AV} (h : Fits LevelsT zs) : ∃ ls, Ls (wrapT LevelsT zs) ls := by
  simp only [LevelsT, LevelT, Fits] at h
  obtain ⟨nl, c, sz, xs, rfl, h1, h2, h3, h4⟩ := h
  have : ∃ ls : List LvA, xs = ls.map lvV ∧ ∀ x ∈ ls, LvOk x.lv x.p x.q := by
    clear h1 h2 h3
    induction xs with
    | nil => exact ⟨[], rfl, by simp⟩
    | cons x xs ih =>
      obtain ⟨ls, rfl, hz⟩ := ih fun x hx => h4 x (by simp [hx])
      obtain ⟨cs, rfl, hc⟩ := h4 x (by simp)
      simp only [FitsL] at hc
      obtain ⟨_, _, rfl, ⟨k, rfl, hk⟩, _, _, rfl, ⟨z, rfl, hzz⟩, a, _, rfl, ha, b, _, rfl, hb, rfl⟩ := hc
      obtain ⟨x, ps, rfl, hx⟩ := Fits.ints (by simp only [Fits]; exact ha)
      obtain ⟨y, cs, rfl, hy⟩ := Fits.ints (by simp only [Fits]; exact hb)
      refine ⟨⟨⟨k, z, ps, cs⟩, x, y⟩ :: ls, rfl, fun s hs => ?_⟩
      rcases List.mem_cons.1 hs with rfl | h
      · exact ⟨hx, hy, wf_i64 hk, wf_i64 hzz⟩
      · exact hz s h
  obtain ⟨ls, rfl, hz⟩ := this
  exact ⟨ls, ⟨nl, c, sz, rfl, fun h => by simpa using h1 h, fun h => h2 h⟩, Nat.le_trans (by simpa using h3) (show reachBytes ≤ 9223372036854775807 by decide), hz⟩
theorem Fits.tensor {zs : List AV} (h : Fits TensorT zs) : ∃ T, Tns (wrapT TensorT zs) T := by
  simp only [TensorT, Fits, FitsL] at h
  obtain ⟨a, _, rfl, ha, b, _, rfl, hb, c, _, rfl, hc, d, _, rfl, hd, rfl⟩ := h
  obtain ⟨x, xs, rfl, hx⟩ := Fits.ints (by simp only [Fits]; exact ha)
  obtain ⟨w, ws, rfl, hw⟩ := Fits.ints (by simp only [Fits]; exact hd)
  obtain ⟨fs, hf⟩ := Fits.specs (by simp only [SpecsT, Fits, FitsL]; exact hb)
  obtain ⟨ls, hl⟩ := Fits.levels (by simp only [LevelsT, LevelT, Fits, FitsL]; exact hc)
  obtain ⟨nl1, c1, s1, xs1, rfl, -⟩ := hb
  obtain ⟨nl2, c2, s2, xs2, rfl, -⟩ := hc
  exact ⟨⟨xs, fs, ls, ws⟩, x, _, _, w, rfl, hx, hf, hl, hw⟩
end Go.Fw
