/- BoxCells: whether any tensor may be, one of zeros, and any cell's number are told as the document tells them. For every two tensors, every shape and every place. -/
import Derived.Test.YtbhkoeaecngdhaaRows
import Derived.Test.YtbhkoeaecngdhaaFwlaw01c
import Derived.Test.YtbhkoeaecngdhaaFwX
namespace Go.Fw
open Go Go.RowKit Go.Proofs
def DenseT : Ty := .st [.sl (.int .i64), .sl (.int .i64)]
def IntsT : Ty := .sl (.int .i64)
theorem Fits.dense {zs : List AV} (h : Fits DenseT zs) : ∃ D, Dn (wrapT DenseT zs) D := by
  simp only [DenseT, Fits, FitsL] at h
  obtain ⟨a, b, rfl, ha, a', b', rfl, hb, rfl⟩ := h
  obtain ⟨x, xs, rfl, hx⟩ := Fits.ints (by simp only [Fits]; exact ha)
  obtain ⟨y, ys, rfl, hy⟩ := Fits.ints (by simp only [Fits]; exact hb)
  exact ⟨(xs, ys), x, y, rfl, hx, hy⟩
theorem Fits.row {zs : List AV} (h : Fits IntsT zs) : ∃ xs, ISl (wrapT IntsT zs) xs := by
  obtain ⟨x, xs, rfl, hx⟩ := Fits.ints h
  exact ⟨xs, hx⟩
theorem BoxCells_args {avs : List AV} (h : Args [DenseT, DenseT, IntsT, IntsT] avs) : ACalls Try.prog 6 avs [] fun r H' => H' = [] ∧ r = Bo true := by
  obtain _ | ⟨h1, _ | ⟨h2, _ | ⟨h3, _ | ⟨h4, ⟨⟩⟩⟩⟩⟩ := h
  obtain ⟨D, hD⟩ := Fits.dense h1
  obtain ⟨E, hE⟩ := Fits.dense h2
  obtain ⟨xs, hx⟩ := Fits.row h3
  obtain ⟨cs, hc⟩ := Fits.row h4
  exact BoxCells_spec hD hE hx hc
end Go.Fw
namespace Go.Proofs.Ytbhkoeaecngdhaa.boxCells
open Go.ChangeShapes Go.WideShapes Go.ChangeAt Go.RowKit Go.Fw
theorem own : ownKnob Try.prog.godebug = none := by kernel_rfl
theorem laidOut : laidOutB Try.prog = true := by kernel_rfl
set_option maxRecDepth 100000 in
theorem lifted (os : Os) (started : os.Started) (H : Type) (enc : TypeId × Value → H) :
    ReturnsInHanded {} Try.checked os 6 .any (Rows.boxCellsSpec.pre6 enc Try.prog Try.f6 Rows.boxCellsRow.domain false) (Rows.boxCellsSpec.post enc Try.prog Try.f6 false true false false) := by
  refine returnsInHanded_of_change (C := Try.checked) own started (by kernel_rfl) Try.func6
    (ChangeSpec.witness6 (enc := enc) (C := Try.checked) false ⟨#[], #[.agg #[.slice none 0 0, .slice none 0 0], .agg #[.slice none 0 0, .slice none 0 0], .slice none 0 0, .slice none 0 0], []⟩ 8 (by kernel_rfl) (by kernel_rfl) (by kernel_rfl) (by kernel_rfl)) ?_
  intro W base args ds gs before hval0 hW hcnd _
  have hval : ∀ (j : Nat) t v, Try.f6.params[j]? = some t → args[j]? = some v → Value.okWide Try.prog W .any base t v := hval0
  have hW' := hW
  obtain ⟨p, q, hA0, hV, rfl, hfz, hnd⟩ := hW
  have hA : DataW.TrodAll enc Try.prog W 0 (fun _ => true) true Try.f6.params.toList args.toList ds p := hA0
  rw [Try.params6] at hA
  obtain ⟨v0, vs0, d0, ds0, p0, q0, hargs, rfl, rfl, h0, r0⟩ := trodAll_cons hA
  obtain ⟨v1, vs1, d1, ds1, p1, q1, rfl, rfl, rfl, h1, r1⟩ := trodAll_cons r0
  obtain ⟨v2, vs2, d2, ds2, p2, q2, rfl, rfl, rfl, h2, r2⟩ := trodAll_cons r1
  obtain ⟨v3, vs3, d3, ds3, p3, q3, rfl, rfl, rfl, h3, r3⟩ := trodAll_cons r2
  obtain ⟨rfl, rfl, rfl⟩ := trodAll_nil r3
  obtain rfl : args = #[v0, v1, v2, v3] := by cases args; simp_all
  obtain ⟨rfl, rfl⟩ := trodVars_none hV
  have hA1 : DataW.TrodAll enc Try.prog W 0 (fun _ => true) true Try.f6.params.toList [v0, v1, v2, v3] [d0, d1, d2, d3] (p0 ++ (p1 ++ (p2 ++ (p3 ++ [])))) := hA0
  obtain ⟨avs, hr, ha⟩ := openAll (tys := [DenseT, DenseT, IntsT, IntsT]) hA1 (by kernel_rfl) (fun j t v h1 h2 => hval j t v (by simpa using h1) (by simpa using h2))
  refine (ACalls.told (BoxCells_args ha) (W := W) hr).mono fun e W' ⟨he, bel⟩ => ?_
  subst he
  exact ⟨_, rfl, _, _, _, [], _, [], hW', trodAll_mk1 (shut_bool Try.underlying4 _), backAll laidOut bel (by kernel_rfl) hA1, rfl, bel.frame _, fun h => by cases h⟩
theorem over : Rows.boxCellsRow.holds Try.pinned (OpenSpec.ofChange Rows.boxCellsSpec) :=
  OpenClaim.holds_of_wide 6 Try.f6 rfl rfl rfl rfl rfl rfl rfl ⟨rfl, rfl, rfl, rfl, rfl⟩ rfl rfl rfl rfl rfl (by kernel_rfl) Try.func6 (by kernel_rfl)
    (of_decide_eq_true (by kernel_rfl)) (by unfold Func.isWrapper; first | (rw [if_pos (by decide +kernel)]; kernel_rfl) | (rw [if_neg (by decide +kernel)]; exact ⟨rfl, rfl⟩))
    (fun os started H enc _ => lifted os started H enc)
end Go.Proofs.Ytbhkoeaecngdhaa.boxCells
namespace Go.Proofs.Ytbhkoeaecngdhaa
theorem boxCells_holds : Rows.BoxCellsSaid := boxCells.over
end Go.Proofs.Ytbhkoeaecngdhaa
