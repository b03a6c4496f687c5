import Derived.Test.YtgdkdojjfijipaaFwent1
import Derived.Test.YtgdkdojjfijipaaFwX
namespace Go.Fw
open Go Go.RowKit Go.Proofs
set_option maxRecDepth 100000
set_option linter.unusedSimpArgs false
set_option linter.unusedVariables false
def CooT : Ty := .st [.sl (.int .i64), .sl (.st [.sl (.int .i64), .int .i64])]
def EntriesT : Ty := .sl (.st [.sl (.int .i64), .int .i64])
def IntsC : Ty := .sl (.int .i64)
def DenseT : Ty := .st [.sl (.int .i64), .sl (.int .i64)]
theorem Fits.rowC {zs : List AV} (h : Fits IntsC zs) : ∃ xs, ISl (wrapT IntsC zs) xs := by
  obtain ⟨x, xs, rfl, hx⟩ := Fits.ints h
  exact ⟨xs, hx⟩
theorem Fits.entries {zs : List AV} (h : Fits EntriesT zs) : ∃ W, EnL (wrapT EntriesT zs) W ∧ W.length ≤ 9223372036854775807 ∧ ∀ t ∈ W, InI t.1 ∧ -9223372036854775808 ≤ t.2 ∧ t.2 ≤ 9223372036854775807 := by
  simp only [EntriesT, Fits] at h
  obtain ⟨nl, c, sz, xs, rfl, h1, h2, h3, h4⟩ := h
  have : ∃ W : List (List Int × Int), Ents xs W ∧ ∀ t ∈ W, InI t.1 ∧ -9223372036854775808 ≤ t.2 ∧ t.2 ≤ 9223372036854775807 := by
    clear h1 h2 h3
    induction xs with
    | nil => exact ⟨[], Ents.nil, by simp⟩
    | cons x xs ih =>
      obtain ⟨W, hW, hz⟩ := ih fun x hx => h4 x (by simp [hx])
      obtain ⟨cs, rfl, hc⟩ := h4 x (by simp)
      simp only [FitsL] at hc
      obtain ⟨a, _, rfl, ha, b, _, rfl, ⟨v, rfl, hv⟩, rfl⟩ := hc
      obtain ⟨y, ps, rfl, hy⟩ := Fits.ints (by simp only [Fits]; exact ha)
      have hv' : -9223372036854775808 ≤ v ∧ v ≤ 9223372036854775807 := by
        simp [Lit.wf, IntKind.min, IntKind.max, IntKind.signed, IntKind.bits] at hv
        omega
      refine ⟨(ps, v) :: W, ?_, fun s hs => ?_⟩
      · have := (Ents.nil.snoc (v := v) hy).append hW
        simpa [wrapT] using this
      · rcases List.mem_cons.1 hs with rfl | h
        · exact ⟨hy.2, hv'⟩
        · exact hz s h
  obtain ⟨W, hW, hz⟩ := this
  refine ⟨W, ⟨nl, c, sz, xs, rfl, fun h => ?_, fun h => h2 h, hW⟩, ?_, hz⟩
  · have h0 := h1 h
    have := hW.1
    rw [h0] at this
    exact List.length_eq_zero_iff.1 (by simpa using this.symm)
  · have := hW.1
    rw [← this]; exact Nat.le_trans h3 (by decide)
theorem Fits.coo {zs : List AV} (h : Fits CooT zs) : ∃ X : List Int × List (List Int × Int), Coo (wrapT CooT zs) X ∧ (InI X.1 ∧ ∀ w ∈ X.2, InI w.1) ∧ X.2.length ≤ 9223372036854775807 ∧ ∀ t ∈ X.2, -9223372036854775808 ≤ t.2 ∧ t.2 ≤ 9223372036854775807 := by
  simp only [CooT, Fits, FitsL] at h
  obtain ⟨a, _, rfl, ha, b, _, rfl, hb, rfl⟩ := h
  obtain ⟨x, xs, rfl, hx⟩ := Fits.ints (by simp only [Fits]; exact ha)
  obtain ⟨W, hW, hl, hz⟩ := Fits.entries (by simp only [EntriesT, Fits, FitsL]; exact hb)
  obtain ⟨nl2, c2, s2, xs2, rfl, -⟩ := hb
  exact ⟨(xs, W), ⟨x, _, rfl, hx, hW⟩, ⟨hx.2, fun w hw => (hz w hw).1⟩, hl, fun t ht => (hz t ht).2⟩
end Go.Fw
