/- StoreReads: whether any tensor may be, its entries, its dense meaning, the number at any place, how many there are, and whether all are zero, are what the document says; it stays as it was. For every two tensors and every place. -/
import Derived.Test.YthipbeffhfdamaaRows
import Derived.Test.YthipbeffhfdamaaFwlaw05s
import Derived.Test.YthipbeffhfdamaaFwargsT
namespace Go.Fw
open Go Go.RowKit Go.Proofs
def IntsR : Ty := .sl (.int .i64)
theorem Fits.rowR {zs : List AV} (h : Fits IntsR zs) : ∃ xs, ISl (wrapT IntsR zs) xs := by
  obtain ⟨x, xs, rfl, hx⟩ := Fits.ints h
  exact ⟨xs, hx⟩
theorem StoreReads_args {avs : List AV} (h : Args [TensorT, TensorT, IntsR] avs) : ACalls Try.prog 8 avs [] fun r H' => H' = [] ∧ r = Bo true := by
  obtain _ | ⟨h1, _ | ⟨h2, _ | ⟨h3, ⟨⟩⟩⟩⟩ := h
  obtain ⟨T, hT⟩ := Fits.tensor h1
  obtain ⟨U, hU⟩ := Fits.tensor h2
  obtain ⟨c, hc⟩ := Fits.rowR h3
  exact ACalls.argsWk (lRd_p hT.ok hU.ok hc.2) (by simp only [Wks]; exact ⟨hT.wk, hU.wk, hc.wk, trivial⟩)
end Go.Fw
namespace Go.Proofs.Ythipbeffhfdamaa.storeReads
open Go.ChangeShapes Go.WideShapes Go.ChangeAt Go.RowKit Go.Fw
theorem own : ownKnob Try.prog.godebug = none := by kernel_rfl
theorem laidOut : laidOutB Try.prog = true := by kernel_rfl
set_option maxRecDepth 100000 in
theorem lifted (os : Os) (started : os.Started) (H : Type) (enc : TypeId × Value → H) :
    ReturnsInHanded {} Try.checked os 8 .any (Rows.storeReadsSpec.pre6 enc Try.prog Try.f8 Rows.storeReadsRow.domain false) (Rows.storeReadsSpec.post enc Try.prog Try.f8 false true false false) := by
  refine returnsInHanded_of_change_sized (C := Try.checked) own started (by kernel_rfl) Try.func8
    (ChangeSpec.witness6 (enc := enc) (C := Try.checked) false ⟨#[], #[.agg #[.slice none 0 0, .slice none 0 0, .slice none 0 0, .slice none 0 0], .agg #[.slice none 0 0, .slice none 0 0, .slice none 0 0, .slice none 0 0], .slice none 0 0], []⟩ 8 (by kernel_rfl) (by kernel_rfl) (by kernel_rfl) (by kernel_rfl)) ?_
  intro W base args ds gs before hval0 hW hcnd hszd _
  have hval : ∀ (j : Nat) t v, Try.f8.params[j]? = some t → args[j]? = some v → Value.okWide Try.prog W .any base t v := hval0
  have hW' := hW
  obtain ⟨p, q, hA0, hV, rfl, hfz, hnd⟩ := hW
  have hA : DataW.TrodAll enc Try.prog W 0 (fun _ => true) true Try.f8.params.toList args.toList ds p := hA0
  rw [Try.params8] at hA
  obtain ⟨v0, vs0, d0, ds0, p0, q0, hargs, rfl, rfl, h0, r0⟩ := trodAll_cons hA
  obtain ⟨v1, vs1, d1, ds1, p1, q1, rfl, rfl, rfl, h1, r1⟩ := trodAll_cons r0
  obtain ⟨v2, vs2, d2, ds2, p2, q2, rfl, rfl, rfl, h2, r2⟩ := trodAll_cons r1
  obtain ⟨rfl, rfl, rfl⟩ := trodAll_nil r2
  obtain rfl : args = #[v0, v1, v2] := by cases args; simp_all
  obtain ⟨rfl, rfl⟩ := trodVars_none hV
  have hA1 : DataW.TrodAll enc Try.prog W 0 (fun _ => true) true Try.f8.params.toList [v0, v1, v2] [d0, d1, d2] (p0 ++ (p1 ++ (p2 ++ []))) := hA0
  obtain ⟨avs, hr, ha⟩ := openAll (tys := [TensorT, TensorT, IntsR]) hA1 (by kernel_rfl) (fun j t v h1 h2 => hval j t v (by simpa using h1) (by simpa using h2)) (sizedAll hszd)
  refine (ACalls.told (StoreReads_args ha) (W := W) hr).mono fun e W' ⟨he, bel⟩ => ?_
  subst he
  exact ⟨_, rfl, _, _, _, [], _, [], hW', trodAll_mk1 (shut_bool Try.underlying4 _), backAll laidOut bel (by kernel_rfl) hA1, rfl, bel.frame _, fun h => by cases h⟩
theorem over : Rows.storeReadsRow.holds Try.pinned (OpenSpec.ofChange Rows.storeReadsSpec) :=
  OpenClaim.holds_of_wide 8 Try.f8 rfl rfl rfl rfl rfl rfl rfl ⟨rfl, rfl, rfl, rfl, rfl⟩ rfl rfl rfl rfl rfl (by kernel_rfl) Try.func8 (by kernel_rfl)
    (of_decide_eq_true (by kernel_rfl)) (by unfold Func.isWrapper; first | (rw [if_pos (by decide +kernel)]; kernel_rfl) | (rw [if_neg (by decide +kernel)]; exact ⟨rfl, rfl⟩))
    (fun os started H enc _ => lifted os started H enc)
end Go.Proofs.Ythipbeffhfdamaa.storeReads
namespace Go.Proofs.Ythipbeffhfdamaa
theorem storeReads_holds : Rows.StoreReadsSaid := storeReads.over
end Go.Proofs.Ythipbeffhfdamaa
