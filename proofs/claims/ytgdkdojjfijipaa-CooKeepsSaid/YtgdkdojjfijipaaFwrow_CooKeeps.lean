/- CooKeeps: sorted, joined, trimmed, and plain, by whatever order, a list is the same tensor; plain it is the list of that tensor. For every list of entries and every order. -/
import Derived.Test.YtgdkdojjfijipaaRows
import Derived.Test.YtgdkdojjfijipaaFwlaw02f
import Derived.Test.YtgdkdojjfijipaaFwargsC
namespace Go.Fw
open Go Go.RowKit Go.Proofs
theorem CooKeeps_args {avs : List AV} (h : Args [CooT, IntsC] avs) : ACalls Try.prog 10 avs [] fun r H' => H' = [] ∧ r = Bo true := by
  obtain _ | ⟨h1, _ | ⟨h2, ⟨⟩⟩⟩ := h
  obtain ⟨X, hX, hI, hl, hv⟩ := Fits.coo h1
  obtain ⟨A, hA⟩ := Fits.rowC h2
  exact CooKeeps_spec hX hA hl hI hv
end Go.Fw
namespace Go.Proofs.Ytgdkdojjfijipaa.cooKeeps
open Go.ChangeShapes Go.WideShapes Go.ChangeAt Go.RowKit Go.Fw
theorem own : ownKnob Try.prog.godebug = none := by kernel_rfl
theorem laidOut : laidOutB Try.prog = true := by kernel_rfl
set_option maxRecDepth 100000 in
theorem lifted (os : Os) (started : os.Started) (H : Type) (enc : TypeId × Value → H) :
    ReturnsInHanded {} Try.checked os 10 .any (Rows.cooKeepsSpec.pre6 enc Try.prog Try.f10 Rows.cooKeepsRow.domain false) (Rows.cooKeepsSpec.post enc Try.prog Try.f10 false true false false) := by
  refine returnsInHanded_of_change (C := Try.checked) own started (by kernel_rfl) Try.func10
    (ChangeSpec.witness6 (enc := enc) (C := Try.checked) false ⟨#[], #[.agg #[.slice none 0 0, .slice none 0 0], .slice none 0 0], []⟩ 8 (by kernel_rfl) (by kernel_rfl) (by kernel_rfl) (by kernel_rfl)) ?_
  intro W base args ds gs before hval0 hW hcnd _
  have hval : ∀ (j : Nat) t v, Try.f10.params[j]? = some t → args[j]? = some v → Value.okWide Try.prog W .any base t v := hval0
  have hW' := hW
  obtain ⟨p, q, hA0, hV, rfl, hfz, hnd⟩ := hW
  have hA : DataW.TrodAll enc Try.prog W 0 (fun _ => true) true Try.f10.params.toList args.toList ds p := hA0
  rw [Try.params10] at hA
  obtain ⟨v0, vs0, d0, ds0, p0, q0, hargs, rfl, rfl, h0, r0⟩ := trodAll_cons hA
  obtain ⟨v1, vs1, d1, ds1, p1, q1, rfl, rfl, rfl, h1, r1⟩ := trodAll_cons r0
  obtain ⟨rfl, rfl, rfl⟩ := trodAll_nil r1
  obtain rfl : args = #[v0, v1] := by cases args; simp_all
  obtain ⟨rfl, rfl⟩ := trodVars_none hV
  have hA1 : DataW.TrodAll enc Try.prog W 0 (fun _ => true) true Try.f10.params.toList [v0, v1] [d0, d1] (p0 ++ (p1 ++ [])) := hA0
  obtain ⟨avs, hr, ha⟩ := openAll (tys := [CooT, IntsC]) hA1 (by kernel_rfl) (fun j t v h1 h2 => hval j t v (by simpa using h1) (by simpa using h2))
  refine (ACalls.told (CooKeeps_args ha) (W := W) hr).mono fun e W' ⟨he, bel⟩ => ?_
  subst he
  exact ⟨_, rfl, _, _, _, [], _, [], hW', trodAll_mk1 (shut_bool Try.underlying4 _), backAll laidOut bel (by kernel_rfl) hA1, rfl, bel.frame _, fun h => by cases h⟩
theorem over : Rows.cooKeepsRow.holds Try.pinned (OpenSpec.ofChange Rows.cooKeepsSpec) :=
  OpenClaim.holds_of_wide 10 Try.f10 rfl rfl rfl rfl rfl rfl rfl ⟨rfl, rfl, rfl, rfl, rfl⟩ rfl rfl rfl rfl rfl (by kernel_rfl) Try.func10 (by kernel_rfl)
    (of_decide_eq_true (by kernel_rfl)) (by unfold Func.isWrapper; first | (rw [if_pos (by decide +kernel)]; kernel_rfl) | (rw [if_neg (by decide +kernel)]; exact ⟨rfl, rfl⟩))
    (fun os started H enc _ => lifted os started H enc)
end Go.Proofs.Ytgdkdojjfijipaa.cooKeeps
namespace Go.Proofs.Ytgdkdojjfijipaa
theorem cooKeeps_holds : Rows.CooKeepsSaid := cooKeeps.over
end Go.Proofs.Ytgdkdojjfijipaa
