/- Lists of numbers, and lists of those, as they are handed in. -/
import Derived.Test.YtkfooghdpfhiaaaFwstp0
import Derived.Test.YtkfooghdpfhiaaaFwX
namespace Go.Fw
open Go Go.RowKit
set_option maxRecDepth 100000
set_option linter.unusedSimpArgs false
set_option linter.unusedVariables false
def IntsM : Ty := .sl (.int .i64)
def ListsM : Ty := .sl (.sl (.int .i64))
abbrev In64 (n : Int) : Prop := -9223372036854775808 ≤ n ∧ n ≤ 9223372036854775807
theorem wf64 {n : Int} (h : (Lit.int .i64 n).wf = true) : In64 n := by
  simp [Lit.wf, IntKind.min, IntKind.max, IntKind.signed, IntKind.bits] at h
  omega
/-- Each of the rows says no more. -/
theorem Fits.maps {e : Ty} {α : Type} {f : α → AV} {p : α → Prop} {xs : List AV} (h : ∀ x ∈ xs, ∃ cs, x = wrapT e cs ∧ Fits e cs) (hf : ∀ cs, Fits e cs → ∃ a, Wk (wrapT e cs) (f a) ∧ p a) : ∃ l : List α, Wks xs (l.map f) ∧ l.length = xs.length ∧ ∀ a ∈ l, p a := by
  induction xs with
  | nil => exact ⟨[], rfl, rfl, by simp⟩
  | cons x xs ih =>
    obtain ⟨l, h1, h2, h3⟩ := ih fun x hx => h x (by simp [hx])
    obtain ⟨cs, rfl, hc⟩ := h x (by simp)
    obtain ⟨a, h4, h5⟩ := hf cs hc
    refine ⟨a :: l, ⟨h4, h1⟩, by simp [h2], fun b hb => ?_⟩
    rcases List.mem_cons.1 hb with rfl | hb
    · exact h5
    · exact h3 b hb
theorem Wk.sl {nl : Bool} {c : Option Nat} {sz n : Nat} {xs ys : List AV} (h1 : nl = true → xs = []) (h2 : nl = false → sz = n) (h : Wks xs ys) : Wk (.imm nl c sz xs) (.imm false none n ys) := by
  simp only [Wk]
  refine ⟨.inl trivial, ?_⟩
  cases nl with
  | false => exact .inl ⟨rfl, (h2 rfl).symm, h⟩
  | true =>
    have := h1 rfl
    subst this
    simp only [Wks] at h
    subst h
    exact .inr (by simp)
theorem Fits.i64 {cs : List AV} (h : Fits (.int .i64) cs) : ∃ n : Int, Wk (wrapT (.int .i64) cs) (I n) ∧ In64 n := by
  simp only [Fits] at h
  obtain ⟨n, rfl, hw⟩ := h
  exact ⟨n, Wk.refl _, wf64 hw⟩
theorem Fits.slM {e : Ty} {α : Type} {f : α → AV} {p : α → Prop} {cs : List AV} (h : Fits (.sl e) cs) (hf : ∀ cs, Fits e cs → ∃ a, Wk (wrapT e cs) (f a) ∧ p a) :
    ∃ l : List α, Wk (wrapT (.sl e) cs) (.imm false none e.sz (l.map f)) ∧ l.length ≤ 140737488351232 ∧ ∀ a ∈ l, p a := by
  simp only [Fits] at h
  obtain ⟨nl, c, sz, xs, rfl, h1, h2, h3, h4⟩ := h
  obtain ⟨l, g1, g2, g3⟩ := Fits.maps h4 hf
  exact ⟨l, Wk.sl h1 h2 g1, by rw [g2]; exact h3, g3⟩
abbrev OkI (l : List Int) : Prop := l.length ≤ 140737488351232 ∧ ∀ x ∈ l, In64 x
theorem Fits.intsM {cs : List AV} (h : Fits IntsM cs) : ∃ l : List Int, Wk (wrapT IntsM cs) (Is l) ∧ OkI l := by
  obtain ⟨l, h1, h2, h3⟩ := Fits.slM h fun cs h => Fits.i64 h
  exact ⟨l, h1, h2, h3⟩
theorem Fits.listsM {cs : List AV} (h : Fits ListsM cs) : ∃ A : List (List Int), Wk (wrapT ListsM cs) (Ls A) ∧ A.length ≤ 140737488351232 ∧ ∀ l ∈ A, OkI l := by
  obtain ⟨l, h1, h2, h3⟩ := Fits.slM h fun cs h => Fits.intsM h
  exact ⟨l, h1, h2, h3⟩
end Go.Fw
