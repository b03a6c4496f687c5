/- CooTurns: any list turned by any order, laid out, counted, and the list of any tensor that is laid out: each as the document's answer has it. For every list, every tensor, every order and every mode. -/
import Derived.Test.YtgdkdojjfijipaaRows
import Derived.Test.YtgdkdojjfijipaaFwlaw02g
import Derived.Test.YtgdkdojjfijipaaFwargsC
namespace Go.Fw
open Go Go.RowKit Go.Proofs
theorem Fits.dense {zs : List AV} (h : Fits DenseT zs) : ∃ D, Dn (wrapT DenseT zs) D := by
  simp only [DenseT, Fits, FitsL] at h
  obtain ⟨a, b, rfl, ha, a', b', rfl, hb, rfl⟩ := h
  obtain ⟨x, xs, rfl, hx⟩ := Fits.ints (by simp only [Fits]; exact ha)
  obtain ⟨y, ys, rfl, hy⟩ := Fits.ints (by simp only [Fits]; exact hb)
  exact ⟨(xs, ys), x, y, rfl, hx, hy⟩
theorem CooTurns_args {avs : List AV} (h : Args [CooT, DenseT, IntsC, .int .i64] avs) : ACalls Try.prog 9 avs [] fun r H' => H' = [] ∧ r = Bo true := by
  obtain _ | ⟨h1, _ | ⟨h2, _ | ⟨h3, _ | ⟨h4, ⟨⟩⟩⟩⟩⟩ := h
  obtain ⟨X, hX, hI, hl, hv⟩ := Fits.coo h1
  obtain ⟨D, hD⟩ := Fits.dense h2
  obtain ⟨A, hA⟩ := Fits.rowC h3
  obtain ⟨n, rfl, _⟩ := h4.int
  exact CooTurns_spec hX hD hA hl hI
end Go.Fw
namespace Go.Proofs.Ytgdkdojjfijipaa.cooTurns
open Go.ChangeShapes Go.WideShapes Go.ChangeAt Go.RowKit Go.Fw
theorem own : ownKnob Try.prog.godebug = none := by kernel_rfl
theorem laidOut : laidOutB Try.prog = true := by kernel_rfl
set_option maxRecDepth 100000 in
theorem lifted (os : Os) (started : os.Started) (H : Type) (enc : TypeId × Value → H) :
    ReturnsInHanded {} Try.checked os 9 .any (Rows.cooTurnsSpec.pre6 enc Try.prog Try.f9 Rows.cooTurnsRow.domain false) (Rows.cooTurnsSpec.post enc Try.prog Try.f9 false true false false) := by
  refine returnsInHanded_of_change (C := Try.checked) own started (by kernel_rfl) Try.func9
    (ChangeSpec.witness6 (enc := enc) (C := Try.checked) false ⟨#[], #[.agg #[.slice none 0 0, .slice none 0 0], .agg #[.slice none 0 0, .slice none 0 0], .slice none 0 0, .int .i64 0], []⟩ 8 (by kernel_rfl) (by kernel_rfl) (by kernel_rfl) (by kernel_rfl)) ?_
  intro W base args ds gs before hval0 hW hcnd _
  have hval : ∀ (j : Nat) t v, Try.f9.params[j]? = some t → args[j]? = some v → Value.okWide Try.prog W .any base t v := hval0
  have hW' := hW
  obtain ⟨p, q, hA0, hV, rfl, hfz, hnd⟩ := hW
  have hA : DataW.TrodAll enc Try.prog W 0 (fun _ => true) true Try.f9.params.toList args.toList ds p := hA0
  rw [Try.params9] at hA
  obtain ⟨v0, vs0, d0, ds0, p0, q0, hargs, rfl, rfl, h0, r0⟩ := trodAll_cons hA
  obtain ⟨v1, vs1, d1, ds1, p1, q1, rfl, rfl, rfl, h1, r1⟩ := trodAll_cons r0
  obtain ⟨v2, vs2, d2, ds2, p2, q2, rfl, rfl, rfl, h2, r2⟩ := trodAll_cons r1
  obtain ⟨v3, vs3, d3, ds3, p3, q3, rfl, rfl, rfl, h3, r3⟩ := trodAll_cons r2
  obtain ⟨rfl, rfl, rfl⟩ := trodAll_nil r3
  obtain rfl : args = #[v0, v1, v2, v3] := by cases args; simp_all
  obtain ⟨rfl, rfl⟩ := trodVars_none hV
  have hA1 : DataW.TrodAll enc Try.prog W 0 (fun _ => true) true Try.f9.params.toList [v0, v1, v2, v3] [d0, d1, d2, d3] (p0 ++ (p1 ++ (p2 ++ (p3 ++ [])))) := hA0
  obtain ⟨avs, hr, ha⟩ := openAll (tys := [CooT, DenseT, IntsC, .int .i64]) hA1 (by kernel_rfl) (fun j t v h1 h2 => hval j t v (by simpa using h1) (by simpa using h2))
  refine (ACalls.told (CooTurns_args ha) (W := W) hr).mono fun e W' ⟨he, bel⟩ => ?_
  subst he
  exact ⟨_, rfl, _, _, _, [], _, [], hW', trodAll_mk1 (shut_bool Try.underlying4 _), backAll laidOut bel (by kernel_rfl) hA1, rfl, bel.frame _, fun h => by cases h⟩
theorem over : Rows.cooTurnsRow.holds Try.pinned (OpenSpec.ofChange Rows.cooTurnsSpec) :=
  OpenClaim.holds_of_wide 9 Try.f9 rfl rfl rfl rfl rfl rfl rfl ⟨rfl, rfl, rfl, rfl, rfl⟩ rfl rfl rfl rfl rfl (by kernel_rfl) Try.func9 (by kernel_rfl)
    (of_decide_eq_true (by kernel_rfl)) (by unfold Func.isWrapper; first | (rw [if_pos (by decide +kernel)]; kernel_rfl) | (rw [if_neg (by decide +kernel)]; exact ⟨rfl, rfl⟩))
    (fun os started H enc _ => lifted os started H enc)
end Go.Proofs.Ytgdkdojjfijipaa.cooTurns
namespace Go.Proofs.Ytgdkdojjfijipaa
theorem cooTurns_holds : Rows.CooTurnsSaid := cooTurns.over
end Go.Proofs.Ytgdkdojjfijipaa
