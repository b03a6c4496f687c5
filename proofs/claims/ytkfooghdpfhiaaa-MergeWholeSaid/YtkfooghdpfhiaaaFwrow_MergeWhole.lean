/- MergeWhole: what is walked of few and short lists is each list, whole, and in order; the numbers rise, and each stop has one list at least that has it. For every list of lists. -/
import Derived.Test.YtkfooghdpfhiaaaRows
import Derived.Test.YtkfooghdpfhiaaaFwlaw07w
namespace Go.Fw
open Go Go.RowKit Go.Proofs
theorem MergeWhole_args {avs : List AV} (h : Args [ListsM] avs) : ACalls Try.prog 4 avs [] fun r H' => H' = [] ∧ r = Bo true := by
  obtain _ | ⟨h1, ⟨⟩⟩ := h
  obtain ⟨A, hw, h2, h3⟩ := Fits.listsM h1
  exact ACalls.argsWk (lWhole_p A h2 h3) (by simp [hw])
end Go.Fw
namespace Go.Proofs.Ytkfooghdpfhiaaa.mergeWhole
open Go.ChangeShapes Go.WideShapes Go.ChangeAt Go.RowKit Go.Fw
theorem own : ownKnob Try.prog.godebug = none := by kernel_rfl
theorem laidOut : laidOutB Try.prog = true := by kernel_rfl
set_option maxRecDepth 100000 in
theorem lifted (os : Os) (started : os.Started) (H : Type) (enc : TypeId × Value → H) :
    ReturnsInHanded {} Try.checked os 4 .any (Rows.mergeWholeSpec.pre6 enc Try.prog Try.f4 Rows.mergeWholeRow.domain false) (Rows.mergeWholeSpec.post enc Try.prog Try.f4 false true false false) := by
  refine returnsInHanded_of_change_sized (C := Try.checked) own started (by kernel_rfl) Try.func4
    (ChangeSpec.witness6 (enc := enc) (C := Try.checked) false ⟨#[], #[.slice none 0 0], []⟩ 8 (by kernel_rfl) (by kernel_rfl) (by kernel_rfl) (by kernel_rfl)) ?_
  intro W base args ds gs before hval0 hW hcnd hszd _
  have hval : ∀ (j : Nat) t v, Try.f4.params[j]? = some t → args[j]? = some v → Value.okWide Try.prog W .any base t v := hval0
  have hW' := hW
  obtain ⟨p, q, hA0, hV, rfl, hfz, hnd⟩ := hW
  have hA : DataW.TrodAll enc Try.prog W 0 (fun _ => true) true Try.f4.params.toList args.toList ds p := hA0
  rw [Try.params4] at hA
  obtain ⟨v0, vs0, d0, ds0, p0, q0, hargs, rfl, rfl, h0, r0⟩ := trodAll_cons hA
  obtain ⟨rfl, rfl, rfl⟩ := trodAll_nil r0
  obtain rfl : args = #[v0] := by cases args; simp_all
  obtain ⟨rfl, rfl⟩ := trodVars_none hV
  have hA1 : DataW.TrodAll enc Try.prog W 0 (fun _ => true) true Try.f4.params.toList [v0] [d0] (p0 ++ []) := hA0
  obtain ⟨avs, hr, ha⟩ := openAll (tys := [ListsM]) hA1 (by kernel_rfl) (fun j t v h1 h2 => hval j t v (by simpa using h1) (by simpa using h2)) (sizedAll hszd)
  refine (ACalls.told (MergeWhole_args ha) (W := W) hr).mono fun e W' ⟨he, bel⟩ => ?_
  subst he
  exact ⟨_, rfl, _, _, _, [], _, [], hW', trodAll_mk1 (shut_bool Try.underlying4 _), backAll laidOut bel (by kernel_rfl) hA1, rfl, bel.frame _, fun h => by cases h⟩
theorem over : Rows.mergeWholeRow.holds Try.pinned (OpenSpec.ofChange Rows.mergeWholeSpec) :=
  OpenClaim.holds_of_wide 4 Try.f4 rfl rfl rfl rfl rfl rfl rfl ⟨rfl, rfl, rfl, rfl, rfl⟩ rfl rfl rfl rfl rfl (by kernel_rfl) Try.func4 (by kernel_rfl)
    (of_decide_eq_true (by kernel_rfl)) (by unfold Func.isWrapper; first | (rw [if_pos (by decide +kernel)]; kernel_rfl) | (rw [if_neg (by decide +kernel)]; exact ⟨rfl, rfl⟩))
    (fun os started H enc _ => lifted os started H enc)
end Go.Proofs.Ytkfooghdpfhiaaa.mergeWhole
namespace Go.Proofs.Ytkfooghdpfhiaaa
theorem mergeWhole_holds : Rows.MergeWholeSaid := mergeWhole.over
end Go.Proofs.Ytkfooghdpfhiaaa
