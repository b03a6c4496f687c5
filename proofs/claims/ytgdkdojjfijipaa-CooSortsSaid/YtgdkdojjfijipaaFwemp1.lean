/- A slice that is empty, and may be nil: the cases. -/
import Derived.Test.YtgdkdojjfijipaaFwY4
namespace Go.Fw
open Go Go.RowKit

/-- A function of one slice, that is empty, and may be nil: nil, or not, with room or with none. -/
theorem ACalls.empty1 {P : Program} {f : FuncId} {c : Option Nat} {sz ty : Nat} {r : AV} (n : Nat)
    (h1 : ACalls P f [.imm true none sz []] [] fun q G => Wk (fz G 0 n false q) r)
    (h2 : ∀ k, ACalls P f [.imm false (some (k + 1)) sz []] [] fun q G => Wk (fz G 0 n false q) r)
    (h3 : ACalls P f [.slc 0 0 0 0 none] [⟨ty, 1, [], true, some false⟩] fun q G => Wk (fz G 0 n false q) r) :
    Pu P f [.imm false c sz []] r := by
  refine ⟨h1.1, fun B w0 m w vs rl hvs => ?_⟩
  have fin : ∀ {H : List AObj} {args : List AV}, ACalls P f args H (fun q G => Wk (fz G 0 n false q) r) → Rel B w0 m H w → Tr m [] w m H w → RVs w m H args vs →
      Calls P f vs w fun e w' => ∃ v r1 m' H', e = .returned v ∧ Tr m [] w m' H' w' ∧ Rel B w0 m' H' w' ∧ RV w' m' H' r1 v ∧ H' = [] ∧ r1 = r := by
    intro H args h rl t0 hv
    refine (h.2 B w0 m w vs rl hv).mono ?_
    rintro e w' ⟨v, q, m', H', e1, t, r', hq, hR⟩
    refine ⟨v, r, m', [], e1, ?_, ?_, ?_, rfl, rfl⟩
    · simpa [frzH] using frz_tr (t0.trans t) n (k := 0) (Nat.le_refl _)
    · simpa [frzH] using frz_rel r' 0 n
    · have h1 := frz_ri (k := 0) (nn := n) r' n hq
      exact Wk.rv (.ri (Wk.ri h1 (Wk_fz r'.virt n false q))) hR
  obtain ⟨hs, hv⟩ := hvs
  have hs1 : vs.size = 1 := by simpa using hs.symm
  have hv0 := hv 0 (by simp) (by omega)
  simp only [List.getElem_cons_zero] at hv0
  have one : ∀ {H : List AObj} {a : AV}, RV w m H a vs[0] → RVs w m H [a] vs := fun h => ⟨by simp [hs1], fun j hj _ => by
    have : j = 0 := by simp at hj; omega
    subst this; exact h⟩
  generalize hx : vs[0] = x at hv0 one
  cases hv0 with
  | ri h =>
    cases h with
    | nilx _ _ hc => exact fin h1 rl (Tr.refl _ _ _) (one (.ri (.nil _ _)))
    | @imm ad nn cap _ _ _ cv hn hcap hc hcell hsz hrv =>
      have hn0 : nn = 0 := by simpa using hn.symm
      subst hn0
      cases cap with
      | succ k => exact fin (h2 k) rl (Tr.refl _ _ _) (one (.ri (.imm cv rfl (by omega) (fun k h => by simpa using h.symm) hcell hsz hrv)))
      | zero =>
        have nr : ∀ i, ¬ Real [(⟨ty, 1, [], true, some false⟩ : AObj)] i := by
          rintro i ⟨o, ho, _, hv⟩
          cases i with
          | zero => simp at ho; subst ho; simp at hv
          | succ i => simp at ho
        have get : ∀ {i : Nat} {o : AObj}, [(⟨ty, 1, [], true, some false⟩ : AObj)][i]? = some o → o = ⟨ty, 1, [], true, some false⟩ := by
          intro i o ho
          cases i with
          | zero => simpa using ho.symm
          | succ i => simp at ho
        have rl' : Rel B w0 m [⟨ty, 1, [], true, some false⟩] w := by
          refine ⟨rl.below, rl.hB, fun i o ho => ?_, fun i o ho _ => ?_, fun i h => absurd h (nr i), fun i o ho _ hv => ?_, fun i i' h _ _ => absurd h (nr i), rl.xlt⟩
          · rw [get ho]; exact Nat.one_pos
          · rw [get ho]
          · rw [get ho] at hv; simp at hv
        have t : Tr m [] w m [⟨ty, 1, [], true, some false⟩] w :=
          ⟨Nat.le_refl _, by simp, fun _ _ _ => rfl, fun b _ hn hw => by
            rcases hw with h | ⟨i, hr, _⟩
            · exact hn (.inl h)
            · exact nr i hr, fun i o o' ho => by simp at ho, rfl⟩
        exact fin h3 rl' t (one (.slc _ rfl (Nat.le_refl _) fun _ _ => by simp [SlcOk]))
end Go.Fw
