/- CooSorts: any list sorted, and joined, by any order, trimmed, and plain, is what the document says; whether it may be, and is the same as another one; what was handed in stays as it was. For every two lists and every order. -/
import Derived.Test.YtgdkdojjfijipaaRows
import Derived.Test.YtgdkdojjfijipaaFwlaw02s
namespace Go.Fw
open Go Go.RowKit Go.Proofs
theorem CooSorts_args {avs : List AV} (h : Args [CooT, CooT, IntsC] avs) : ACalls Try.prog 6 avs [] fun r H' => H' = [] ∧ r = Bo true := by
  obtain _ | ⟨h1, _ | ⟨h2, _ | ⟨h3, ⟨⟩⟩⟩⟩ := h
  obtain ⟨X, hX, hI, hl, _⟩ := Fits.coo h1
  obtain ⟨Y, hY, hJ, hm, _⟩ := Fits.coo h2
  obtain ⟨O, hO⟩ := Fits.rowC h3
  exact ACalls.argsWk (lSorts_p hI hJ hO.2 hl hm) (by simp only [Wks]; exact ⟨hX.wk, hY.wk, hO.wk, trivial⟩)
end Go.Fw
namespace Go.Proofs.Ytgdkdojjfijipaa.cooSorts
open Go.ChangeShapes Go.WideShapes Go.ChangeAt Go.RowKit Go.Fw
theorem own : ownKnob Try.prog.godebug = none := by kernel_rfl
theorem laidOut : laidOutB Try.prog = true := by kernel_rfl
set_option maxRecDepth 100000 in
theorem lifted (os : Os) (started : os.Started) (H : Type) (enc : TypeId × Value → H) :
    ReturnsInHanded {} Try.checked os 6 .any (Rows.cooSortsSpec.pre6 enc Try.prog Try.f6 Rows.cooSortsRow.domain false) (Rows.cooSortsSpec.post enc Try.prog Try.f6 false true false false) := by
  refine returnsInHanded_of_change_sized (C := Try.checked) own started (by kernel_rfl) Try.func6
    (ChangeSpec.witness6 (enc := enc) (C := Try.checked) false ⟨#[], #[.agg #[.slice none 0 0, .slice none 0 0], .agg #[.slice none 0 0, .slice none 0 0], .slice none 0 0], []⟩ 8 (by kernel_rfl) (by kernel_rfl) (by kernel_rfl) (by kernel_rfl)) ?_
  intro W base args ds gs before hval0 hW hcnd hszd _
  have hval : ∀ (j : Nat) t v, Try.f6.params[j]? = some t → args[j]? = some v → Value.okWide Try.prog W .any base t v := hval0
  have hW' := hW
  obtain ⟨p, q, hA0, hV, rfl, hfz, hnd⟩ := hW
  have hA : DataW.TrodAll enc Try.prog W 0 (fun _ => true) true Try.f6.params.toList args.toList ds p := hA0
  rw [Try.params6] at hA
  obtain ⟨v0, vs0, d0, ds0, p0, q0, hargs, rfl, rfl, h0, r0⟩ := trodAll_cons hA
  obtain ⟨v1, vs1, d1, ds1, p1, q1, rfl, rfl, rfl, h1, r1⟩ := trodAll_cons r0
  obtain ⟨v2, vs2, d2, ds2, p2, q2, rfl, rfl, rfl, h2, r2⟩ := trodAll_cons r1
  obtain ⟨rfl, rfl, rfl⟩ := trodAll_nil r2
  obtain rfl : args = #[v0, v1, v2] := by cases args; simp_all
  obtain ⟨rfl, rfl⟩ := trodVars_none hV
  have hA1 : DataW.TrodAll enc Try.prog W 0 (fun _ => true) true Try.f6.params.toList [v0, v1, v2] [d0, d1, d2] (p0 ++ (p1 ++ (p2 ++ []))) := hA0
  obtain ⟨avs, hr, ha⟩ := openAll (tys := [CooT, CooT, IntsC]) hA1 (by kernel_rfl) (fun j t v h1 h2 => hval j t v (by simpa using h1) (by simpa using h2)) (sizedAll hszd)
  refine (ACalls.told (CooSorts_args ha) (W := W) hr).mono fun e W' ⟨he, bel⟩ => ?_
  subst he
  exact ⟨_, rfl, _, _, _, [], _, [], hW', trodAll_mk1 (shut_bool Try.underlying4 _), backAll laidOut bel (by kernel_rfl) hA1, rfl, bel.frame _, fun h => by cases h⟩
theorem over : Rows.cooSortsRow.holds Try.pinned (OpenSpec.ofChange Rows.cooSortsSpec) :=
  OpenClaim.holds_of_wide 6 Try.f6 rfl rfl rfl rfl rfl rfl rfl ⟨rfl, rfl, rfl, rfl, rfl⟩ rfl rfl rfl rfl rfl (by kernel_rfl) Try.func6 (by kernel_rfl)
    (of_decide_eq_true (by kernel_rfl)) (by unfold Func.isWrapper; first | (rw [if_pos (by decide +kernel)]; kernel_rfl) | (rw [if_neg (by decide +kernel)]; exact ⟨rfl, rfl⟩))
    (fun os started H enc _ => lifted os started H enc)
end Go.Proofs.Ytgdkdojjfijipaa.cooSorts
namespace Go.Proofs.Ytgdkdojjfijipaa
theorem cooSorts_holds : Rows.CooSortsSaid := cooSorts.over
end Go.Proofs.Ytgdkdojjfijipaa
