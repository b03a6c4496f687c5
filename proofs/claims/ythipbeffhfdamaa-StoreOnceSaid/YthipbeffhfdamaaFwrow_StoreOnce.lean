/- StoreOnce: no two entries are at one place, all places are in the shape, there are as many entries as numbers, and what is got at each one's place is its number. For every tensor. -/
import Derived.Test.YthipbeffhfdamaaRows
import Derived.Test.YthipbeffhfdamaaFwlaw05d
import Derived.Test.YthipbeffhfdamaaFwargsT
namespace Go.Fw
open Go Go.RowKit Go.Proofs
theorem StoreOnce_args {avs : List AV} (h : Args [TensorT] avs) : ACalls Try.prog 6 avs [] fun r H' => H' = [] ∧ r = Bo true := by
  obtain _ | ⟨h1, ⟨⟩⟩ := h
  obtain ⟨T, hT⟩ := Fits.tensor h1
  exact StoreOnce_spec hT
end Go.Fw
namespace Go.Proofs.Ythipbeffhfdamaa.storeOnce
open Go.ChangeShapes Go.WideShapes Go.ChangeAt Go.RowKit Go.Fw
theorem own : ownKnob Try.prog.godebug = none := by kernel_rfl
theorem laidOut : laidOutB Try.prog = true := by kernel_rfl
set_option maxRecDepth 100000 in
theorem lifted (os : Os) (started : os.Started) (H : Type) (enc : TypeId × Value → H) :
    ReturnsInHanded {} Try.checked os 6 .any (Rows.storeOnceSpec.pre6 enc Try.prog Try.f6 Rows.storeOnceRow.domain false) (Rows.storeOnceSpec.post enc Try.prog Try.f6 false true false false) := by
  refine returnsInHanded_of_change (C := Try.checked) own started (by kernel_rfl) Try.func6
    (ChangeSpec.witness6 (enc := enc) (C := Try.checked) false ⟨#[], #[.agg #[.slice none 0 0, .slice none 0 0, .slice none 0 0, .slice none 0 0]], []⟩ 8 (by kernel_rfl) (by kernel_rfl) (by kernel_rfl) (by kernel_rfl)) ?_
  intro W base args ds gs before hval0 hW hcnd _
  have hval : ∀ (j : Nat) t v, Try.f6.params[j]? = some t → args[j]? = some v → Value.okWide Try.prog W .any base t v := hval0
  have hW' := hW
  obtain ⟨p, q, hA0, hV, rfl, hfz, hnd⟩ := hW
  have hA : DataW.TrodAll enc Try.prog W 0 (fun _ => true) true Try.f6.params.toList args.toList ds p := hA0
  rw [Try.params6] at hA
  obtain ⟨v0, vs0, d0, ds0, p0, q0, hargs, rfl, rfl, h0, r0⟩ := trodAll_cons hA
  obtain ⟨rfl, rfl, rfl⟩ := trodAll_nil r0
  obtain rfl : args = #[v0] := by cases args; simp_all
  obtain ⟨rfl, rfl⟩ := trodVars_none hV
  have hA1 : DataW.TrodAll enc Try.prog W 0 (fun _ => true) true Try.f6.params.toList [v0] [d0] (p0 ++ []) := hA0
  obtain ⟨avs, hr, ha⟩ := openAll (tys := [TensorT]) hA1 (by kernel_rfl) (fun j t v h1 h2 => hval j t v (by simpa using h1) (by simpa using h2))
  refine (ACalls.told (StoreOnce_args ha) (W := W) hr).mono fun e W' ⟨he, bel⟩ => ?_
  subst he
  exact ⟨_, rfl, _, _, _, [], _, [], hW', trodAll_mk1 (shut_bool Try.underlying4 _), backAll laidOut bel (by kernel_rfl) hA1, rfl, bel.frame _, fun h => by cases h⟩
theorem over : Rows.storeOnceRow.holds Try.pinned (OpenSpec.ofChange Rows.storeOnceSpec) :=
  OpenClaim.holds_of_wide 6 Try.f6 rfl rfl rfl rfl rfl rfl rfl ⟨rfl, rfl, rfl, rfl, rfl⟩ rfl rfl rfl rfl rfl (by kernel_rfl) Try.func6 (by kernel_rfl)
    (of_decide_eq_true (by kernel_rfl)) (by unfold Func.isWrapper; first | (rw [if_pos (by decide +kernel)]; kernel_rfl) | (rw [if_neg (by decide +kernel)]; exact ⟨rfl, rfl⟩))
    (fun os started H enc _ => lifted os started H enc)
end Go.Proofs.Ythipbeffhfdamaa.storeOnce
namespace Go.Proofs.Ythipbeffhfdamaa
theorem storeOnce_holds : Rows.StoreOnceSaid := storeOnce.over
end Go.Proofs.Ythipbeffhfdamaa
