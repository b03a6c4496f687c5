/- SizeTells: how many any form of any shape has at the worst, how much storing any counts anew takes, how many a tensor has, and whether some are within others, as the document's answer has it. For every shape, form, rank, counts and tensor. -/
import Derived.Test.YtkfooghdpfhiaaaRows
import Derived.Test.YtkfooghdpfhiaaaFwlaw20c
namespace Go.Fw
open Go Go.RowKit Go.Proofs
theorem SizeTells_args {avs : List AV} (h : Args [IntsT, SpecsT, .int .i64, IntsT, IntsT, TensorT] avs) : ACalls Try.prog 10 avs [] fun r H' => H' = [] ∧ r = Bo true := by
  obtain _ | ⟨h1, _ | ⟨h2, _ | ⟨h3, _ | ⟨h4, _ | ⟨h5, _ | ⟨h6, ⟨⟩⟩⟩⟩⟩⟩⟩ := h
  obtain ⟨xs, hx⟩ := Fits.row h1
  obtain ⟨fs, hf⟩ := Fits.specs h2
  simp only [Fits] at h3
  obtain ⟨rank, rfl, hr⟩ := h3
  obtain ⟨ns, hn⟩ := Fits.row h4
  obtain ⟨ms, hm⟩ := Fits.row h5
  obtain ⟨T, hT⟩ := Fits.tensor h6
  exact SizeTells_spec hx hf (wf_i64 hr) hn hm hT
end Go.Fw
namespace Go.Proofs.Ytkfooghdpfhiaaa.sizeTells
open Go.ChangeShapes Go.WideShapes Go.ChangeAt Go.RowKit Go.Fw
theorem own : ownKnob Try.prog.godebug = none := by kernel_rfl
theorem laidOut : laidOutB Try.prog = true := by kernel_rfl
set_option maxRecDepth 100000 in
theorem lifted (os : Os) (started : os.Started) (H : Type) (enc : TypeId × Value → H) :
    ReturnsInHanded {} Try.checked os 10 .any (Rows.sizeTellsSpec.pre6 enc Try.prog Try.f10 Rows.sizeTellsRow.domain false) (Rows.sizeTellsSpec.post enc Try.prog Try.f10 false true false false) := by
  refine returnsInHanded_of_change (C := Try.checked) own started (by kernel_rfl) Try.func10
    (ChangeSpec.witness6 (enc := enc) (C := Try.checked) false ⟨#[], #[.slice none 0 0, .slice none 0 0, .int .i64 0, .slice none 0 0, .slice none 0 0, .agg #[.slice none 0 0, .slice none 0 0, .slice none 0 0, .slice none 0 0]], []⟩ 8 (by kernel_rfl) (by kernel_rfl) (by kernel_rfl) (by kernel_rfl)) ?_
  intro W base args ds gs before hval0 hW hcnd _
  have hval : ∀ (j : Nat) t v, Try.f10.params[j]? = some t → args[j]? = some v → Value.okWide Try.prog W .any base t v := hval0
  have hW' := hW
  obtain ⟨p, q, hA0, hV, rfl, hfz, hnd⟩ := hW
  have hA : DataW.TrodAll enc Try.prog W 0 (fun _ => true) true Try.f10.params.toList args.toList ds p := hA0
  rw [Try.params10] at hA
  obtain ⟨v0, vs0, d0, ds0, p0, q0, hargs, rfl, rfl, h0, r0⟩ := trodAll_cons hA
  obtain ⟨v1, vs1, d1, ds1, p1, q1, rfl, rfl, rfl, h1, r1⟩ := trodAll_cons r0
  obtain ⟨v2, vs2, d2, ds2, p2, q2, rfl, rfl, rfl, h2, r2⟩ := trodAll_cons r1
  obtain ⟨v3, vs3, d3, ds3, p3, q3, rfl, rfl, rfl, h3, r3⟩ := trodAll_cons r2
  obtain ⟨v4, vs4, d4, ds4, p4, q4, rfl, rfl, rfl, h4, r4⟩ := trodAll_cons r3
  obtain ⟨v5, vs5, d5, ds5, p5, q5, rfl, rfl, rfl, h5, r5⟩ := trodAll_cons r4
  obtain ⟨rfl, rfl, rfl⟩ := trodAll_nil r5
  obtain rfl : args = #[v0, v1, v2, v3, v4, v5] := by cases args; simp_all
  obtain ⟨rfl, rfl⟩ := trodVars_none hV
  have hA1 : DataW.TrodAll enc Try.prog W 0 (fun _ => true) true Try.f10.params.toList [v0, v1, v2, v3, v4, v5] [d0, d1, d2, d3, d4, d5] (p0 ++ (p1 ++ (p2 ++ (p3 ++ (p4 ++ (p5 ++ [])))))) := hA0
  obtain ⟨avs, hr, ha⟩ := openAll (tys := [IntsT, SpecsT, .int .i64, IntsT, IntsT, TensorT]) hA1 (by kernel_rfl) (fun j t v h1 h2 => hval j t v (by simpa using h1) (by simpa using h2))
  refine (ACalls.told (SizeTells_args ha) (W := W) hr).mono fun e W' ⟨he, bel⟩ => ?_
  subst he
  exact ⟨_, rfl, _, _, _, [], _, [], hW', trodAll_mk1 (shut_bool Try.underlying4 _), backAll laidOut bel (by kernel_rfl) hA1, rfl, bel.frame _, fun h => by cases h⟩
theorem over : Rows.sizeTellsRow.holds Try.pinned (OpenSpec.ofChange Rows.sizeTellsSpec) :=
  OpenClaim.holds_of_wide 10 Try.f10 rfl rfl rfl rfl rfl rfl rfl ⟨rfl, rfl, rfl, rfl, rfl⟩ rfl rfl rfl rfl rfl (by kernel_rfl) Try.func10 (by kernel_rfl)
    (of_decide_eq_true (by kernel_rfl)) (by unfold Func.isWrapper; first | (rw [if_pos (by decide +kernel)]; kernel_rfl) | (rw [if_neg (by decide +kernel)]; exact ⟨rfl, rfl⟩))
    (fun os started H enc _ => lifted os started H enc)
end Go.Proofs.Ytkfooghdpfhiaaa.sizeTells
namespace Go.Proofs.Ytkfooghdpfhiaaa
theorem sizeTells_holds : Rows.SizeTellsSaid := sizeTells.over
end Go.Proofs.Ytkfooghdpfhiaaa
