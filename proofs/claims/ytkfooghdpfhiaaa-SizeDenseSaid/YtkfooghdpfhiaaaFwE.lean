/- The operations, one by one: what 'evK' says is what the model's run does. -/
import Derived.Test.YtkfooghdpfhiaaaFwD
namespace Go.Fw
open Go Go.RowKit

def Did (P : Program) (B : Nat) (w0 : World) (m : BM) (H : List AObj) (w : World) (s : Sem Next) (v : AV) (H' : List AObj) : Prop :=
  ∃ m' w' nx v', s.run P w = .ok nx w' ∧ (nx = .value v' ∨ (nx = .skip ∧ v' = undef)) ∧ Tr m H w m' H' w' ∧ Rel B w0 m' H' w' ∧ RV w' m' H' v v'

section
variable {P : Program} {B : Nat} {w0 w : World} {m : BM} {H : List AObj} {fr : List AV} {a : Act}

theorem Did.read (r : Rel B w0 m H w) {s : Sem Value} {v : AV} {v' : Value} (h : s.run P w = .ok v' w) (hv : RV w m H v v') :
    Did P B w0 m H w (do pure (.value (← s))) v H :=
  ⟨m, w, .value v', v', by simp [h], .inl rfl, Tr.refl _ _ _, r, hv⟩

theorem bin_sound {op : BinOp} {x y v : AV} {u u' : Value} {t : TypeId} (h : binEv op x y = some v) (hx : RV w m H x u) (hy : RV w m H y u') :
    ∃ z, (binOp op t u u').run P w = .ok z w ∧ RV w m H v z := by
  unfold binEv at h
  split at h
  · obtain ⟨rfl, -⟩ := hx.sc_inv
    obtain ⟨rfl, -⟩ := hy.sc_inv
    rename_i k c k' d
    cases op
    case shl =>
      simp only at h
      split at h
      · cases h
      · rename_i hn
        cases h
        exact ⟨_, by simp [binOp, Op.shift, hn], .sc _ rfl⟩
    case shr =>
      simp only at h
      split at h
      · cases h
      · rename_i hn
        cases h
        exact ⟨_, by simp [binOp, Op.shift, hn], .sc _ rfl⟩
    all_goals
      simp only at h
      split at h
      · rename_i hk
        subst hk
        first
          | (cases h; refine ⟨_, ?_, .sc _ rfl⟩; simp [binOp, Op.intArith, Op.intCmp]; done)
          | (cases h; refine ⟨_, ?_, .sc _ rfl⟩; simp only [binOp]; rfl)
          | (cases h; refine ⟨_, ?_, .sc _ rfl⟩; simp only [binOp, ne_eq, not_true_eq_false, if_false]; rfl)
          | (split at h
             · cases h
             · rename_i hd
               cases h; exact ⟨_, by simp [binOp, Op.intDiv, hd], .sc _ rfl⟩)
          | cases h
      · cases h
  · obtain ⟨rfl, -⟩ := hx.sc_inv
    obtain ⟨rfl, -⟩ := hy.sc_inv
    rename_i c d
    cases op
    case add =>
      simp only at h
      split at h
      · rename_i hn
        cases h
        refine ⟨_, ?_, .sc _ rfl⟩
        have hn' : ¬ ((c.size + d.size : Nat) : Int) > IntKind.i64.max := by
          have : IntKind.i64.max = 9223372036854775807 := by decide
          omega
        simp only [binOp, Op.stringOp]
        rw [if_neg hn']; rfl
      · cases h
    all_goals
      simp only at h
      first
        | (cases h; exact ⟨_, by simp [binOp, Op.stringOp], .sc _ rfl⟩)
        | cases h
  · cases h

theorem szT_inv {t : TypeId} {sz : Nat} (h : szT P t = some sz) : ∃ i, P.info? t = some i ∧ i.size = sz := by
  unfold szT at h; exact Option.map_eq_some_iff.1 h

theorem isAgg_run {t : TypeId} {ag : Bool} (h : isAggT P t = some ag) : (isAgg t).run P w = .ok ag w := by
  unfold isAggT at h
  cases hu : P.underlying t with
  | none => simp [hu] at h
  | some d => rw [hu] at h; cases d <;> simp_all [isAgg, run_underlying hu]

theorem part_sound {t : TypeId} {off sz : Nat} {ag : Bool} (hs : szT P t = some sz) (hg : isAggT P t = some ag) {cs : List AV} {vs : Array Value}
    (hn : cs.length = vs.size) (hrv : ∀ j (h : j < cs.length) (h' : j < vs.size), RV w m H cs[j] vs[j]) {v : AV} (hp : partOf ag off sz (.agg cs) = some v) :
    ∃ u, (part t vs off).run P w = .ok u w ∧ RV w m H v u := by
  obtain ⟨i, hi, rfl⟩ := szT_inv hs
  have hagg := isAgg_run (w := w) hg
  unfold partOf at hp
  cases ag with
  | true =>
    simp only [if_true] at hp
    split at hp
    · rename_i hle
      injection hp with hp
      subst hp
      refine ⟨.agg (vs.extract off (off + i.size)), by simp [part, hagg, sizeOf, typeInfo, hi], ?_⟩
      have hlen : (if off = 0 ∧ i.size = cs.length then cs else (cs.drop off).take i.size).length = i.size := by
        split
        · rename_i h; omega
        · simp; omega
      refine .agg (by rw [hlen]; simp; omega) (fun j hj hj' => ?_)
      have hj2 : j < i.size := by rw [hlen] at hj; exact hj
      have e1 : (if off = 0 ∧ i.size = cs.length then cs else (cs.drop off).take i.size)[j] = cs[off + j]'(by omega) := by
        split
        · rename_i h; obtain ⟨rfl, _⟩ := h; simp
        · simp
      rw [e1]
      have := hrv (off + j) (by omega) (by omega)
      simpa using this
    · cases hp
  | false =>
    simp only [Bool.false_eq_true, if_false, cellsOf] at hp
    split at hp
    · obtain ⟨hf, rfl⟩ := List.getElem?_eq_some_iff.1 hp
      have hf' : off < vs.size := by omega
      exact ⟨vs[off], by simp [part, hagg, hf'], hrv off hf hf'⟩
    · cases hp
end
end Go.Fw
