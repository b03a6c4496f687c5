/- The other operations. -/
import Derived.Test.YtkfooghdpfhiaaaFwF
namespace Go.Fw
open Go Go.RowKit

section
variable {P : Program} {B : Nat} {w0 w : World} {m : BM} {H : List AObj} {fr : List AV} {a : Act}

theorem ptr_at (r : Rel B w0 m H w) {i L k f : Nat} {v : Value} (h : RV w m H (.ptr i L k f) v) {o : AObj} (hl : live? H i L = some o) (hv : o.vir = none) {e : AV} (he : o.es[k]? = some e) :
    ∃ cv : Nat → Value, v = .pointer (some ((⟨(m i).1, k * o.sz, none⟩ : Addr).add f)) ∧ (cellsOf e).length = o.sz ∧
      (∀ j, j < (cellsOf e).length → w.cell? ((⟨(m i).1, k * o.sz, none⟩ : Addr).add j) = some (cv j) ∧ w.frozen? ((⟨(m i).1, k * o.sz, none⟩ : Addr).add j) = false) ∧
      ∀ j (hj : j < (cellsOf e).length), RV w m H (cellsOf e)[j] (cv j) := by
  obtain ⟨ho, hlv, hL⟩ := live?_some hl
  obtain ⟨ad, o', rfl, ho', _, had⟩ := h.ptr_inv
  rw [ho] at ho'; cases ho'
  have had := had hlv hL
  subst had
  obtain ⟨h1, h2⟩ := r.elem ho hlv hv he
  have ea : ∀ j, (⟨(m i).1, k * o.sz, none⟩ : Addr).add j = ⟨(m i).1, k * o.sz + j, none⟩ := by intro j; unfold Addr.add; split <;> simp_all
  refine ⟨fun j => (w.cell? ⟨(m i).1, k * o.sz + j, none⟩).getD undef, by rw [ea], h1, fun j hj => ?_, fun j hj => ?_⟩
  · obtain ⟨v, h3, h4, _⟩ := h2 j hj
    simp only [ea, h3, h4, Option.getD_some, and_self]
  · obtain ⟨v, h3, _, h4⟩ := h2 j hj
    simp only [h3, Option.getD_some]; exact h4

theorem ld_sound (r : Rel B w0 m H w) {t : TypeId} {sz : Nat} {ag : Bool} (hs : szT P t = some sz) (hg : isAggT P t = some ag) {p : AX} {u : Value} (hp : RV w m H (p.ev fr) u)
    {v : AV} {H' : List AObj} (h : evK (.ld sz ag p) fr H = some (v, H')) : H' = H ∧ ∃ u', (Instr.loadAt t u).run P w = .ok u' w ∧ RV w m H v u' := by
  simp only [evK] at h
  split at h
  · rename_i i L k f hpe
    rw [hpe] at hp
    cases hlv : live? H i L with
    | none => simp [hlv] at h
    | some o =>
      simp only [hlv] at h
      split at h
      case isFalse => cases h
      rename_i hv
      cases he : o.es[k]? with
      | none => simp [he] at h
      | some e =>
        simp only [he] at h
        cases hpo : partOf ag f sz e with
        | none => simp [hpo] at h
        | some v' =>
          simp only [hpo, Option.some.injEq, Prod.mk.injEq] at h
          obtain ⟨rfl, rfl⟩ := h
          obtain ⟨cv, rfl, h1, h2, h3⟩ := ptr_at r hp hlv hv he
          exact ⟨rfl, load_part hs hg hpo (fun j hj => (h2 j hj).1) h3⟩
  · rename_i e f hpe
    rw [hpe] at hp
    cases hpo : partOf ag f sz e with
    | none => simp [hpo] at h
    | some v' =>
      simp only [hpo, Option.some.injEq, Prod.mk.injEq] at h
      obtain ⟨rfl, rfl⟩ := h
      obtain ⟨ad, cv, rfl, h1, h2⟩ := hp.ipt_inv
      exact ⟨rfl, load_part hs hg hpo (fun j hj => (h1 j hj).1) h2⟩
  · cases h

theorem setAll_length : ∀ (xs : List AV) (cs : List AV) (f : Nat), (setAll cs f xs).length = cs.length
  | [], _, _ => rfl
  | x :: xs, cs, f => by simp [setAll, setAll_length xs]
theorem setAll_get : ∀ (xs : List AV) (cs : List AV) (f : Nat), f + xs.length ≤ cs.length → ∀ j, (setAll cs f xs)[j]? = if f ≤ j ∧ j < f + xs.length then xs[j - f]? else cs[j]?
  | [], cs, f, _, j => by
    have : ¬ (f ≤ j ∧ j < f + ([] : List AV).length) := by simp
    rw [if_neg this, setAll]
  | x :: xs, cs, f, h, j => by
    have h' : f + (xs.length + 1) ≤ cs.length := by simpa using h
    have hx : (x :: xs).length = xs.length + 1 := rfl
    rw [setAll, setAll_get xs (cs.set f x) (f + 1) (by simp; omega) j, hx]
    by_cases h1 : f + 1 ≤ j ∧ j < f + 1 + xs.length
    · have h2 : f ≤ j ∧ j < f + (xs.length + 1) := by omega
      rw [if_pos h1, if_pos h2, show j - f = (j - (f + 1)) + 1 by omega]; simp
    · rw [if_neg h1]
      by_cases e : j = f
      · subst e
        have h2 : j ≤ j ∧ j < j + (xs.length + 1) := by omega
        rw [if_pos h2, List.getElem?_set_self (by omega)]; simp
      · have h2 : ¬ (f ≤ j ∧ j < f + (xs.length + 1)) := by omega
        rw [if_neg h2, List.getElem?_set_ne (by omega)]

/-- The cells of a changed element. -/
theorem setPart_cells {f : Nat} {e x e' : AV} (h : setPart f e x = some e') : (cellsOf e').length = (cellsOf e).length ∧ f + (cellsOf x).length ≤ (cellsOf e).length ∧
    ∀ j, (cellsOf e')[j]? = if f ≤ j ∧ j < f + (cellsOf x).length then (cellsOf x)[j - f]? else (cellsOf e)[j]? := by
  unfold setPart at h
  split at h
  · rename_i cs
    split at h
    · rename_i hle
      cases h
      exact ⟨by simp [cellsOf, setAll_length], hle, fun j => setAll_get _ _ _ hle j⟩
    · cases h
  · rename_i he
    split at h
    · cases h
    · rename_i hx
      split at h
      · rename_i hf
        cases h; subst hf
        have c1 : cellsOf e = [e] := by cases e <;> first | rfl | exact absurd rfl (he _)
        have c2 : cellsOf x = [x] := by cases x <;> first | rfl | exact absurd rfl (hx _)
        rw [c1, c2]
        refine ⟨rfl, by simp, fun j => ?_⟩
        cases j with
        | zero => simp
        | succ j => simp
      · cases h

theorem st_sound (r : Rel B w0 m H w) {t : TypeId} {sz : Nat} (hs : szT P t = some sz) {p x : AX} {u ux : Value} (hp : RV w m H (p.ev fr) u) (hx : RV w m H (x.ev fr) ux)
    {v : AV} {H' : List AObj} (h : evK (.st sz p x) fr H = some (v, H')) :
    v = .tup [] ∧ ∃ w', (Instr.storeAt t u ux).run P w = .ok () w' ∧ Tr m H w m H' w' ∧ Rel B w0 m H' w' := by
  simp only [evK] at h
  split at h
  case h_2 => cases h
  rename_i i L k f hpe
  rw [hpe] at hp
  cases hlv : live? H i L with
  | none => simp [hlv] at h
  | some o =>
    simp only [hlv] at h
    split at h
    case isFalse => cases h
    rename_i hc
    obtain ⟨hv, hok⟩ := hc
    cases he : o.es[k]? with
    | none => simp [he] at h
    | some e =>
      simp only [he] at h
      cases hsp : setPart f e (x.ev fr) with
      | none => simp [hsp] at h
      | some e' =>
        simp only [hsp, Option.some.injEq, Prod.mk.injEq] at h
        obtain ⟨rfl, rfl⟩ := h
        refine ⟨rfl, ?_⟩
        obtain ⟨cv, rfl, h1, h2, h3⟩ := ptr_at r hp hlv hv he
        obtain ⟨ho, hl, hL⟩ := live?_some hlv
        obtain ⟨x1, x2, x3, x4⟩ := okEl_cells hx hok
        obtain ⟨p1, p2, p3⟩ := setPart_cells hsp
        obtain ⟨arr, a1, ⟨a2, a2'⟩, a3⟩ := r.obj i o ho hl hv
        obtain ⟨it, hit, hisz⟩ := szT_inv hs
        have hk : k < o.es.length := (List.getElem?_eq_some_iff.1 he).1
        have hfit : k * o.sz + o.sz ≤ arr.size := by
          have : (k + 1) * o.sz ≤ (m i).2 * o.sz := Nat.mul_le_mul_right _ (by omega)
          rw [Nat.add_mul] at this; omega
        have ea : (⟨(m i).1, k * o.sz, none⟩ : Addr).add f = ⟨(m i).1, k * o.sz + f, none⟩ := by unfold Addr.add; split <;> simp_all
        have hst := run_storeCells_at P (m i).1 (k * o.sz + f) o.ty ux.cells.toList 0 arr w a1 (by simp; omega) x4
        have hrun : (Instr.storeAt t (.pointer (some ((⟨(m i).1, k * o.sz, none⟩ : Addr).add f))) ux).run P w =
            .ok () (w.setRow (m i).1 (arr.toList.take (k * o.sz + f) ++ ux.cells.toList ++ arr.toList.drop (k * o.sz + f + ux.cells.toList.length)).toArray) := by
          rw [ea]
          have hne : ¬ (ux.cells.size ≠ it.size) := by omega
          simp only [Instr.storeAt, Instr.sureAddr, storeVar, Sem.run_bind, Sem.run_pure, Result.andThen_ok, sizeOf, typeInfo, run_program, hit, hne, if_false]
          simpa using hst
        have hgl : ∀ q, (arr.toList.take (k * o.sz + f) ++ ux.cells.toList ++ arr.toList.drop (k * o.sz + f + ux.cells.toList.length))[q]? =
            if k * o.sz + f ≤ q ∧ q < k * o.sz + f + sz then ux.cells.toList[q - (k * o.sz + f)]? else arr[q]? := by
          intro q
          have hl1 : (arr.toList.take (k * o.sz + f)).length = k * o.sz + f := by simp; omega
          by_cases c1 : q < k * o.sz + f
          · rw [if_neg (by omega), List.append_assoc, List.getElem?_append_left (by omega), List.getElem?_take_of_lt c1, Array.getElem?_toList]
          · by_cases c2 : q < k * o.sz + f + sz
            · rw [if_pos ⟨by omega, c2⟩, List.append_assoc, List.getElem?_append_right (by omega), hl1, List.getElem?_append_left (by simp; omega)]
            · rw [if_neg (by omega), List.append_assoc, List.getElem?_append_right (by omega), hl1, List.getElem?_append_right (by simp; omega), List.getElem?_drop, ← Array.getElem?_toList]
              congr 1; simp; omega
        obtain ⟨t2, r2⟩ := r.turn ho hl hv (o.es.set k e') (by simp) (arr.toList.take (k * o.sz + f) ++ ux.cells.toList ++ arr.toList.drop (k * o.sz + f + ux.cells.toList.length)).toArray
          ⟨by simp; omega, by simp; omega⟩ (by
            intro k' hk'
            have hk2 : k' < o.es.length := by simpa using hk'
            obtain ⟨b1, b2⟩ := a3 k' hk2
            rw [List.getElem_set]
            by_cases ek : k = k'
            · subst ek
              simp only [if_true]
              have hee : o.es[k] = e := by
                have := List.getElem?_eq_getElem hk
                rw [he] at this; exact (Option.some.inj this).symm
              refine ⟨by omega, fun j hj => ?_⟩
              have hje : j < (cellsOf e).length := by omega
              simp only [List.getElem?_toArray, hgl]
              have hp3 := p3 j
              by_cases c : f ≤ j ∧ j < f + (cellsOf (x.ev fr)).length
              · rw [if_pos (by omega)]
                rw [if_pos c] at hp3
                have hjx : j - f < (cellsOf (x.ev fr)).length := by omega
                have hju : j - f < ux.cells.size := by omega
                refine ⟨ux.cells[j - f], by rw [show k * o.sz + j - (k * o.sz + f) = j - f by omega]; simp [hju], ?_⟩
                have e3 : (cellsOf e')[j] = (cellsOf (x.ev fr))[j - f] := by
                  rw [List.getElem?_eq_getElem hj, List.getElem?_eq_getElem hjx] at hp3
                  exact Option.some.inj hp3
                rw [e3]; exact x3 _ hjx hju
              · rw [if_neg (by omega)]
                rw [if_neg c] at hp3
                have e3 : (cellsOf e')[j] = (cellsOf e)[j] := by
                  rw [List.getElem?_eq_getElem hj, List.getElem?_eq_getElem hje] at hp3
                  exact Option.some.inj hp3
                subst hee
                obtain ⟨v, c1, c2⟩ := b2 j hje
                exact ⟨v, c1, by rw [e3]; exact c2⟩
            · simp only [ek, if_false]
              refine ⟨b1, fun j hj => ?_⟩
              obtain ⟨v, c1, c2⟩ := b2 j hj
              refine ⟨v, ?_, c2⟩
              simp only [List.getElem?_toArray, hgl]
              rw [if_neg]
              · exact c1
              · intro hh
                rcases Nat.lt_or_gt_of_ne ek with hlt | hlt
                · have : (k + 1) * o.sz ≤ k' * o.sz := Nat.mul_le_mul_right _ hlt
                  rw [Nat.add_mul] at this; omega
                · have : (k' + 1) * o.sz ≤ k * o.sz := Nat.mul_le_mul_right _ hlt
                  rw [Nat.add_mul] at this; omega)
        exact ⟨_, hrun, t2, r2⟩
end
end Go.Fw
