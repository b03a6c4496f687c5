/- What the operations come to: the model's runs. -/
import Derived.Test.YtkfooghdpfhiaaaFwB2
import Derived.Laws.Tables
import Derived.Laws.CopyRow
import Derived.Laws.Entries
namespace Go.Fw
open Go Go.RowKit

structure FRel (w : World) (m : BM) (H : List AObj) (fr : List AV) (tmps : Array Value) : Prop where
  len : fr.length = tmps.size
  rv : ∀ i (h : i < fr.length) (h' : i < tmps.size), RV w m H fr[i] tmps[i]

theorem FRel.mono {w w' : World} {m m' : BM} {H H' : List AObj} {fr : List AV} {tmps : Array Value} (t : Tr m H w m' H' w') (h : FRel w m H fr tmps) : FRel w' m' H' fr tmps :=
  ⟨h.len, fun i a b => (h.rv i a b).mono t⟩

theorem FRel.get {w : World} {m : BM} {H : List AObj} {fr : List AV} {tmps : Array Value} (h : FRel w m H fr tmps) (i : Nat) : RV w m H (fr.getD i .und) (tmps.getD i undef) := by
  by_cases hi : i < fr.length
  · have hi' : i < tmps.size := by have := h.len; omega
    have e1 : fr.getD i .und = fr[i] := by simp [List.getD, hi]
    have e2 : tmps.getD i undef = tmps[i] := by simp [Array.getD, hi']
    rw [e1, e2]; exact h.rv i hi hi'
  · have e1 : fr.getD i .und = .und := by simp [List.getD, hi]
    rw [e1]; exact .und _

theorem FRel.put {w : World} {m : BM} {H : List AObj} {fr : List AV} {tmps : Array Value} (h : FRel w m H fr tmps) (d : Nat) {x : AV} {v : Value} (hx : RV w m H x v) :
    FRel w m H (fr.set d x) (tmps.setIfInBounds d v) := by
  refine ⟨by simp [h.len], fun i a b => ?_⟩
  have b' : i < tmps.size := by simpa using b
  have a' : i < fr.length := by simpa using a
  rw [List.getElem_set, Array.getElem_setIfInBounds b']
  by_cases e : d = i
  · simp [e, hx]
  · simp only [e, if_false]; exact h.rv i a' b'

theorem toAV1_rv {w : World} {W : Nat → Prop} {v : Value} {a : AV} (h : toAV1 v = some a) : RI w W a v := by
  unfold toAV1 at h
  split at h
  · cases h; exact .nil _ _
  · split at h
    · cases h; exact .sc _ (by assumption)
    · cases h

theorem mapM_some {α β : Type} {f : α → Option β} : ∀ {l : List α} {r : List β}, l.mapM f = some r → l.length = r.length ∧ ∀ j (h : j < l.length) (h' : j < r.length), f l[j] = some r[j]
  | [], r, h => by simp at h; subst h; simp
  | a :: l, r, h => by
    rw [List.mapM_cons] at h
    cases ha : f a with
    | none => simp [ha] at h
    | some b =>
      cases hl : l.mapM f with
      | none => simp [ha, hl] at h
      | some bs =>
        simp [ha, hl] at h; subst h
        obtain ⟨h1, h2⟩ := mapM_some hl
        refine ⟨by simp [h1], fun j hj hj' => ?_⟩
        cases j with
        | zero => simpa using ha
        | succ j => simpa using h2 j (by simpa using hj) (by simpa using hj')

theorem toAV_rv {w : World} {W : Nat → Prop} {v : Value} {a : AV} (h : toAV v = some a) : RI w W a v := by
  unfold toAV at h
  split at h
  · rename_i cs
    cases hm : cs.toList.mapM toAV1 with
    | none => simp [hm] at h
    | some l =>
      simp [hm] at h; subst h
      obtain ⟨h1, h2⟩ := mapM_some hm
      refine .agg (by simpa using h1.symm) (fun j hj hj' => toAV1_rv ?_)
      have := h2 j (by simpa using hj') hj
      simpa using this
  · exact toAV1_rv h

theorem trX_rv {w : World} {m : BM} {H : List AObj} {fr : List AV} {a : Act} (hf : FRel w m H fr a.tmps) {x : Operand} {ax : AX} (h : trX x = some ax) :
    RV w m H (ax.ev fr) (a.eval x) := by
  cases x with
  | tmp t => simp [trX] at h; subst h; exact hf.get t
  | const v =>
    simp only [trX, Option.map_eq_some_iff] at h
    obtain ⟨b, hb, rfl⟩ := h
    exact .ri (toAV_rv hb)
  | global g => simp [trX] at h
  | func f =>
    simp [trX] at h; subst h
    exact .fn (by simp) (by simp) (by intro j hj; simp at hj) (by intro j hj; simp at hj)

/-! ### Shapes of values -/
section
variable {w : World} {m : BM} {H : List AObj}
theorem RV.sc_inv {u v : Value} (h : RV w m H (.sc u) v) : v = u ∧ pureV u = true := by
  cases h with
  | ri h => cases h with | sc _ hp => exact ⟨rfl, hp⟩
theorem RV.ptr_inv {i L k f : Nat} {v : Value} (h : RV w m H (.ptr i L k f) v) :
    ∃ a o, v = .pointer (some a) ∧ H[i]? = some o ∧ L ≤ o.es.length ∧ (o.live = true → o.es.length = L → a = ⟨(m i).1, k * o.sz + f, none⟩) := by
  cases h with
  | ri h => cases h
  | ptr o ho hL hv => exact ⟨_, o, rfl, ho, hL, hv⟩
theorem RV.ipt_inv {e : AV} {f : Nat} {v : Value} (h : RV w m H (.ipt e f) v) :
    ∃ a : Addr, ∃ cv : Nat → Value, v = .pointer (some (a.add f)) ∧ (∀ j, j < (cellsOf e).length → w.cell? (a.add j) = some (cv j) ∧ ¬ Wr m H a.block) ∧
      ∀ j (hj : j < (cellsOf e).length), RV w m H (cellsOf e)[j] (cv j) := by
  cases h with
  | ri h => cases h with | ipt cv hc hr => exact ⟨_, cv, rfl, hc, fun j hj => .ri (hr j hj)⟩
theorem live?_some {i L : Nat} {o : AObj} (h : live? H i L = some o) : H[i]? = some o ∧ o.live = true ∧ o.es.length = L := by
  unfold live? at h
  split at h
  · split at h
    · cases h; exact ⟨by assumption, by assumption⟩
    · cases h
  · cases h
theorem RV.agg_inv {cs : List AV} {v : Value} (h : RV w m H (.agg cs) v) : ∃ vs, v = .agg vs ∧ cs.length = vs.size ∧ ∀ j (h : j < cs.length) (h' : j < vs.size), RV w m H cs[j] vs[j] := by
  cases h with
  | ri h => cases h with | agg hn hr => exact ⟨_, rfl, hn, fun j a b => .ri (hr j a b)⟩
  | agg hn hr => exact ⟨_, rfl, hn, hr⟩
theorem RV.tup_inv {cs : List AV} {v : Value} (h : RV w m H (.tup cs) v) : ∃ vs, v = .tuple vs ∧ cs.length = vs.size ∧ ∀ j (h : j < cs.length) (h' : j < vs.size), RV w m H cs[j] vs[j] := by
  cases h with
  | ri h => cases h with | tup hn hr => exact ⟨_, rfl, hn, fun j a b => .ri (hr j a b)⟩
  | tup hn hr => exact ⟨_, rfl, hn, hr⟩
theorem RV.fn_inv {f : Fn} {cs ds : List AV} {v : Value} (h : RV w m H (.fn f cs ds) v) : ∃ us vs, v = .func f us vs ∧ (cs.length = us.size ∧ ∀ j (h : j < cs.length) (h' : j < us.size), RV w m H cs[j] us[j]) ∧
    (ds.length = vs.size ∧ ∀ j (h : j < ds.length) (h' : j < vs.size), RV w m H ds[j] vs[j]) := by
  cases h with
  | ri h => cases h with | fn hn hn' hr hr' => exact ⟨_, _, rfl, ⟨hn, fun j a b => .ri (hr j a b)⟩, ⟨hn', fun j a b => .ri (hr' j a b)⟩⟩
  | fn hn hn' hr hr' => exact ⟨_, _, rfl, ⟨hn, hr⟩, ⟨hn', hr'⟩⟩
theorem RV.ifc_inv {t : TypeId} {a : AV} {v : Value} (h : RV w m H (.ifc t a) v) : ∃ u, v = .iface t u ∧ RV w m H a u := by
  cases h with
  | ri h => cases h with | ifc h => exact ⟨_, rfl, .ri h⟩
  | ifc h => exact ⟨_, rfl, h⟩
theorem RV.slc_inv {i L off n : Nat} {c : Option Nat} {v : Value} (h : RV w m H (.slc i L off n c) v) :
    ∃ A cap o, v = .slice A n cap ∧ H[i]? = some o ∧ L ≤ o.es.length ∧ (o.live = true → o.es.length = L → SlcOk o (m i) A L off n cap c) := by
  cases h with
  | ri h => cases h
  | slc o ho hL hv => exact ⟨_, _, o, rfl, ho, hL, hv⟩
theorem oneC_one {a : AV} {v : Value} (h : RV w m H a v) (ho : oneC a = true) : v.oneCell' = true := by
  cases h with
  | ri h =>
    cases h <;> simp_all [oneC, Value.oneCell']
    rename_i hp; cases v <;> simp_all [pureV]
  | slc => rfl
  | ptr => rfl
  | agg => simp [oneC] at ho
  | tup => simp [oneC] at ho
  | fn => rfl
  | ifc => rfl
/-- A stored value, cell by cell. -/
theorem okEl_cells {sz : Nat} {a : AV} {v : Value} (h : RV w m H a v) (hk : okEl sz a = true) :
    v.cells.size = sz ∧ (cellsOf a).length = sz ∧ (∀ j (hj : j < (cellsOf a).length) (hj' : j < v.cells.size), RV w m H (cellsOf a)[j] v.cells[j]) ∧ ∀ u ∈ v.cells.toList, u.oneCell' = true := by
  simp only [okEl, Bool.and_eq_true, beq_iff_eq] at hk
  obtain ⟨h1, h2⟩ := hk
  have hu : a ≠ .und := by rintro rfl; simp [cellsOf, oneC] at h2
  obtain ⟨h3, h4⟩ := h.cells hu
  refine ⟨by omega, h1, h4, fun u hu' => ?_⟩
  obtain ⟨j, hj, rfl⟩ := List.mem_iff_getElem.1 hu'
  have hj' : j < v.cells.size := by simpa using hj
  have := h4 j (by omega) hj'
  exact oneC_one (a := (cellsOf a)[j]'(by omega)) (by simpa using this) (List.all_eq_true.1 h2 _ (List.getElem_mem _))
end

/-- Where an object's element lies. -/
theorem Rel.elem {B : Nat} {w0 w : World} {m : BM} {H : List AObj} (r : Rel B w0 m H w) {i : Nat} {o : AObj} (ho : H[i]? = some o) (hl : o.live = true) (hv : o.vir = none)
    {k : Nat} {e : AV} (he : o.es[k]? = some e) :
    (cellsOf e).length = o.sz ∧ ∀ j (hj : j < (cellsOf e).length), ∃ v, w.cell? ⟨(m i).1, k * o.sz + j, none⟩ = some v ∧ w.frozen? ⟨(m i).1, k * o.sz + j, none⟩ = false ∧ RV w m H (cellsOf e)[j] v := by
  obtain ⟨arr, h1, h2, h3⟩ := r.obj i o ho hl hv
  obtain ⟨hk, rfl⟩ := List.getElem?_eq_some_iff.1 he
  obtain ⟨h4, h5⟩ := h3 k hk
  refine ⟨h4, fun j hj => ?_⟩
  obtain ⟨v, h6, h7⟩ := h5 j hj
  exact ⟨v, by simp [World.cell?, h1, h6], by simp [World.frozen?, h1], h7⟩

/-- A part of an element, loaded. -/
theorem load_part {P : Program} {w : World} {m : BM} {H : List AObj} {t : TypeId} {sz : Nat} {ag : Bool} (hs : szT P t = some sz) (hg : isAggT P t = some ag)
    {a : Addr} {e : AV} {f : Nat} {v : AV} (hp : partOf ag f sz e = some v) {cv : Nat → Value}
    (hcell : ∀ j, j < (cellsOf e).length → w.cell? (a.add j) = some (cv j)) (hrv : ∀ j (hj : j < (cellsOf e).length), RV w m H (cellsOf e)[j] (cv j)) :
    ∃ u, (Instr.loadAt t (.pointer (some (a.add f)))).run P w = .ok u w ∧ RV w m H v u := by
  unfold szT at hs
  obtain ⟨i, hi, rfl⟩ := Option.map_eq_some_iff.1 hs
  have hagg : (isAgg t).run P w = .ok ag w := by
    unfold isAggT at hg
    cases hu : P.underlying t with
    | none => simp [hu] at hg
    | some d => rw [hu] at hg; cases d <;> simp_all [isAgg, run_underlying hu]
  unfold partOf at hp
  cases ag with
  | true =>
    simp only [if_true] at hp
    split at hp
    · rename_i cs
      split at hp
      · rename_i hle
        injection hp with hp
        subst hp
        simp only [cellsOf] at hcell hrv
        have hl := run_loadCells (P := P) w (a.add f) i.size (fun j => cv (f + j)) (fun j hj => by rw [add_add]; exact hcell _ (by omega))
        refine ⟨.agg ((List.range i.size).map fun j => cv (f + j)).toArray, ?_, ?_⟩
        · simp [Instr.loadAt, Instr.sureAddr, loadVar, hagg, sizeOf, typeInfo, hi, hl]
        · have hlen : (if f = 0 ∧ i.size = cs.length then cs else (cs.drop f).take i.size).length = i.size := by
            split
            · rename_i h; omega
            · simp; omega
          refine .agg (by rw [hlen]; simp) (fun j hj hj' => ?_)
          have hj2 : j < i.size := by rw [hlen] at hj; exact hj
          have := hrv (f + j) (by omega)
          have e1 : (if f = 0 ∧ i.size = cs.length then cs else (cs.drop f).take i.size)[j] = cs[f + j]'(by omega) := by
            split
            · rename_i h; obtain ⟨rfl, _⟩ := h; simp
            · simp
          rw [e1]
          simpa using this
      · cases hp
    · cases hp
  | false =>
    simp only [Bool.false_eq_true, if_false] at hp
    split at hp
    · rename_i h1
      obtain ⟨hf, rfl⟩ := List.getElem?_eq_some_iff.1 hp
      exact ⟨cv f, by simp [Instr.loadAt, Instr.sureAddr, loadVar, hagg, hcell f hf], hrv f hf⟩
    · cases hp

end Go.Fw
