/- MergeSets: what all have are the stops that have all of them; picked by a set of one list it is what this one has; a list with itself is itself, either way. For every list of lists and every number; they are few and short, where anything is done. -/
import Derived.Test.YtkfooghdpfhiaaaRows
import Derived.Test.YtkfooghdpfhiaaaFwlaw07u
namespace Go.Fw
open Go Go.RowKit Go.Proofs
theorem MergeSets_args {avs : List AV} (h : Args [ListsM, .int .i64] avs) : ACalls Try.prog 9 avs [] fun r H' => H' = [] ∧ r = Bo true := by
  obtain _ | ⟨h1, _ | ⟨h2, ⟨⟩⟩⟩ := h
  obtain ⟨A, hw, g1, g2⟩ := Fits.listsM h1
  obtain ⟨k, hv, g3⟩ := Fits.i64 h2
  exact ACalls.argsWk (lSets_p A k g1 g2 g3) (by simp [hw, hv])
end Go.Fw
namespace Go.Proofs.Ytkfooghdpfhiaaa.mergeSets
open Go.ChangeShapes Go.WideShapes Go.ChangeAt Go.RowKit Go.Fw
theorem own : ownKnob Try.prog.godebug = none := by kernel_rfl
theorem laidOut : laidOutB Try.prog = true := by kernel_rfl
set_option maxRecDepth 100000 in
theorem lifted (os : Os) (started : os.Started) (H : Type) (enc : TypeId × Value → H) :
    ReturnsInHanded {} Try.checked os 9 .any (Rows.mergeSetsSpec.pre6 enc Try.prog Try.f9 Rows.mergeSetsRow.domain false) (Rows.mergeSetsSpec.post enc Try.prog Try.f9 false true false false) := by
  refine returnsInHanded_of_change_sized (C := Try.checked) own started (by kernel_rfl) Try.func9
    (ChangeSpec.witness6 (enc := enc) (C := Try.checked) false ⟨#[], #[.slice none 0 0, .int .i64 0], []⟩ 8 (by kernel_rfl) (by kernel_rfl) (by kernel_rfl) (by kernel_rfl)) ?_
  intro W base args ds gs before hval0 hW hcnd hszd _
  have hval : ∀ (j : Nat) t v, Try.f9.params[j]? = some t → args[j]? = some v → Value.okWide Try.prog W .any base t v := hval0
  have hW' := hW
  obtain ⟨p, q, hA0, hV, rfl, hfz, hnd⟩ := hW
  have hA : DataW.TrodAll enc Try.prog W 0 (fun _ => true) true Try.f9.params.toList args.toList ds p := hA0
  rw [Try.params9] at hA
  obtain ⟨v0, vs0, d0, ds0, p0, q0, hargs, rfl, rfl, h0, r0⟩ := trodAll_cons hA
  obtain ⟨v1, vs1, d1, ds1, p1, q1, rfl, rfl, rfl, h1, r1⟩ := trodAll_cons r0
  obtain ⟨rfl, rfl, rfl⟩ := trodAll_nil r1
  obtain rfl : args = #[v0, v1] := by cases args; simp_all
  obtain ⟨rfl, rfl⟩ := trodVars_none hV
  have hA1 : DataW.TrodAll enc Try.prog W 0 (fun _ => true) true Try.f9.params.toList [v0, v1] [d0, d1] (p0 ++ (p1 ++ [])) := hA0
  obtain ⟨avs, hr, ha⟩ := openAll (tys := [ListsM, .int .i64]) hA1 (by kernel_rfl) (fun j t v h1 h2 => hval j t v (by simpa using h1) (by simpa using h2)) (sizedAll hszd)
  refine (ACalls.told (MergeSets_args ha) (W := W) hr).mono fun e W' ⟨he, bel⟩ => ?_
  subst he
  exact ⟨_, rfl, _, _, _, [], _, [], hW', trodAll_mk1 (shut_bool Try.underlying4 _), backAll laidOut bel (by kernel_rfl) hA1, rfl, bel.frame _, fun h => by cases h⟩
theorem over : Rows.mergeSetsRow.holds Try.pinned (OpenSpec.ofChange Rows.mergeSetsSpec) :=
  OpenClaim.holds_of_wide 9 Try.f9 rfl rfl rfl rfl rfl rfl rfl ⟨rfl, rfl, rfl, rfl, rfl⟩ rfl rfl rfl rfl rfl (by kernel_rfl) Try.func9 (by kernel_rfl)
    (of_decide_eq_true (by kernel_rfl)) (by unfold Func.isWrapper; first | (rw [if_pos (by decide +kernel)]; kernel_rfl) | (rw [if_neg (by decide +kernel)]; exact ⟨rfl, rfl⟩))
    (fun os started H enc _ => lifted os started H enc)
end Go.Proofs.Ytkfooghdpfhiaaa.mergeSets
namespace Go.Proofs.Ytkfooghdpfhiaaa
theorem mergeSets_holds : Rows.MergeSetsSaid := mergeSets.over
end Go.Proofs.Ytkfooghdpfhiaaa
