/- What the operations come to: the model's runs. -/
import Derived.Test.YthipbeffhfdamaaFwB2
import Derived.Laws.Tables
import Derived.Laws.CopyRow
import Derived.Laws.Entries
namespace Go.Fw
open Go Go.RowKit
structure FRel (w : World) (m : BM) (H : List AObj) (fr : List AV) (tmps : Array Value) : Prop where
  len : fr.length = tmps.size
  rv : ∀ i (h : i < fr.length) (h' : i < tmps.size), RV w m H fr[i] tmps[i]
theorem FRel.mono {w w' : World} {m m' : BM} {H H' : List AObj} {fr : List AV} {tmps : Array Value} (t : Tr m H w m' H' w') (h : FRel w m H fr tmps) : FRel w' m' H' fr tmps :=
  ⟨h.len, fun i a b => (h.rv i a b).mono t⟩
theorem FRel.get {w : World} {m : BM} {H : List AObj} {fr : List AV} {tmps : Array Value} (h : FRel w m H fr tmps) (i : Nat) : RV w m H (fr.getD i .und) (tmps.getD i undef) := by
  by_cases hi : i < fr.length
  · have hi' : i < tmps.size := by have := h.len; omega
    have e1 : fr.getD i .und = fr[i] := by simp [List.getD, hi]
    have e2 : tmps.getD i undef = tmps[i] := by simp [Array.getD, hi']
    rw [e1, e2]; exact h.rv i hi hi'
  · have e1 : fr.getD i .und = .und := by simp [List.getD, hi]
    rw [e1]; exact .und _
theorem FRel.put {w : World} {m : BM} {H : List AObj} {fr : List AV} {tmps : Array Value} (h : FRel w m H fr tmps) (d : Nat) {x : AV} {v : Value} (hx : RV w m H x v) :
    FRel w m H (fr.set d x) (tmps.setIfInBounds d v) := by
  refine ⟨by simp [h.len], fun i a b => ?_⟩
  have b' : i < tmps.size := by simpa using b
  have a' : i < fr.length := by simpa using a
  rw [List.getElem_set, Array.getElem_setIfInBounds b']
  by_cases e : d = i
  · simp [e, hx]
  · simp only [e, if_false]; exact h.rv i a' b'
theorem toAV1_rv {w : World} {W : Nat → Prop} {v : Value} {a : AV} (h : toAV1 v = some a) : RI w W a v := by
  unfold toAV1 at h
  split at h
  · cases h; exact .nil _ _
  · split at h
    · cases h; exact .sc _ (by assumption)
    · cases h
theorem mapM_some {α β : Type} {f : α → Option β} : ∀ {l : List α} {r : List β}, l.mapM f = some r → l.length = r.length ∧ ∀ j (h : j < l.length) (h' : j < r.length), f l[j] = some r[j]
  | [], r, h => by simp at h; subst h; simp
  | a :: l, r, h => by
    rw [List.mapM_cons] at h
    cases ha : f a with
    | none => simp [ha] at h
    | some b =>
      cases hl : l.mapM f with
      | none => simp [ha, hl] at h
      | some bs =>
        simp [ha, hl] at h; subst h
        obtain ⟨h1, h2⟩ := mapM_some hl
        refine ⟨by simp [h1], fun j hj hj' => ?_⟩
        cases j with
        | zero => simpa using ha
        | succ j => simpa using h2 j (by simpa using hj) (by simpa using hj')
theorem toAV_rv {w : World} {W : Nat → Prop} {v : Value} {a : AV} (h : toAV v = some a) : RI w W a v := by
  unfold toAV at h
  split at h
  · rename_i cs
    cases hm : cs.toList.mapM toAV1 with
    | none => simp [hm] at h
    | some l =>
      simp [hm] at h; subst h
      obtain ⟨h1, h2⟩ := mapM_some hm
      refine .agg (by simpa using h1.symm) (fun j hj hj' => toAV1_rv ?_)
      have := h2 j (by simpa using hj') hj
      simpa using this
  · exact toAV1_rv h
theorem trX_rv {w : World} {m : BM} {H : List AObj} {fr : List AV} {a : Act} (hf : FRel w m H fr a.tmps) {x : Operand} {ax : AX} (h : trX x = some ax) :
    RV w m H (ax.ev fr) (a.eval x) := by
  cases x with
  | tmp t => simp [trX] at h; subst h; exact hf.get t
  | const v =>
    simp only [trX, Option.map_eq_some_iff] at h
    obtain ⟨b, hb, rfl⟩ := h
    exact .ri (toAV_rv hb)
  | global g => simp [trX] at h
  | func f =>
    simp [trX] at h; subst h
    exact .fn (by simp) (by simp) (by intro j hj; simp at hj) (by intro j hj; simp at hj)
section
variable {w : World} {m : BM} {H : List AObj}
theorem RV.sc_inv {u v : Value} (h : RV w m H (.sc u) v) : v = u ∧ pureV u = true := by
  cases h with
  | ri h => cases h with | sc _ hp => exact ⟨rfl, hp⟩
theorem RV.ptr_inv {i L k f : Nat} {v : Value} (h : RV w m H (.ptr i L k f) v) :
    ∃ a o, v = .pointer (some a) ∧ H[i]? = some o ∧ L ≤ o.es.length ∧ (o.live = true → o.es.length = L → a = ⟨(m i).1, k * o.sz + f, none⟩) := by
  cases h with
  | ri h => cases h
  | ptr o ho hL hv => exact ⟨_, o, rfl, ho, hL, hv⟩
theorem RV.ipt_inv {e : AV} {f : Nat} {v : Value} (h : RV w m H (.ipt e f) v) :
    ∃ a : Addr, ∃ cv : Nat → Value, v = .pointer (some (a.add f)) ∧ (∀ j, j < (cellsOf e).length → w.cell? (a.add j) = some (cv j) ∧ ¬ Wr m H a.block) ∧
      ∀ j (hj : j < (cellsOf e).length), RV w m H (cellsOf e)[j] (cv j) := by
  cases h with
  | ri h => cases h with | ipt cv hc hr => exact ⟨_, cv, rfl, hc, fun j hj => .ri (hr j hj)⟩
theorem live?_some {i L : Nat} {o : AObj} (h : live? H i L = some o) : H[i]? = some o ∧ o.live = true ∧ o.es.length = L := by
  unfold live? at h
  split at h
  · split at h
    · cases h; exact ⟨by assumption, by assumption⟩
    · cases h
  · cases h
theorem RV.agg_inv {cs : List AV} {v : Value} (h : RV w m H (.agg cs) v) : ∃ vs, v = .agg vs ∧ cs.length = vs.size ∧ ∀ j (h : j < cs.length) (h' : j < vs.size), RV w m H cs[j] vs[j] := by
  cases h with
  | ri h => cases h with | agg hn hr => exact ⟨_, rfl, hn, fun j a b => .ri (hr j a b)⟩
  | agg hn hr => exact ⟨_, rfl, hn, hr⟩
theorem RV.tup_inv {cs : List AV} {v : Value} (h : RV w m H (.tup cs) v) : ∃ vs, v = .tuple vs ∧ cs.length = vs.size ∧ ∀ j (h : j < cs.length) (h' : j < vs.size), RV w m H cs[j] vs[j] := by
  cases h with
  | ri h => cases h with | tup hn hr => exact ⟨_, rfl, hn, fun j a b => .ri (hr j a b)⟩
  | tup hn hr => exact ⟨_, rfl, hn, hr⟩
theorem RV.fn_inv {f : Fn} {cs ds : List AV} {v : Value} (h : RV w m H (.fn f cs ds) v) : ∃ us vs, v = .func f us vs ∧ (cs.length = us.size ∧ ∀ j (h : j < cs.length) (h' : j < us.size), RV w m H cs[j] us[j]) ∧
    (ds.length = vs.size ∧ ∀ j (h : j < ds.length) (h' : j < vs.size), RV w m H ds[j] vs[j]) := by
  cases h with
  | ri h => cases h with | fn hn hn' hr hr' => exact ⟨_, _, rfl, ⟨hn, fun j a b => .ri (hr j a b)⟩, ⟨hn', fun j a b => .ri (hr' j a b)⟩⟩
  | fn hn hn' hr hr' => exact ⟨_, _, rfl, ⟨hn, hr⟩, ⟨hn', hr'⟩⟩
theorem RV.ifc_inv {t : TypeId} {a : AV} {v : Value} (h : RV w m H (.ifc t a) v) : ∃ u, v = .iface t u ∧ RV w m H a u := by
  cases h with
  | ri h => cases h with | ifc h => exact ⟨_, rfl, .ri h⟩
  | ifc h => exact ⟨_, rfl, h⟩
theorem RV.slc_inv {i L off n : Nat} {c : Option Nat} {v : Value} (h : RV w m H (.slc i L off n c) v) :
    ∃ A cap o, v = .slice A n cap ∧ H[i]? = some o ∧ L ≤ o.es.length ∧ (o.live = true → o.es.length = L → SlcOk o (m i) A L off n cap c) := by
  cases h with
  | ri h => cases h
  | slc o ho hL hv => exact ⟨_, _, o, rfl, ho, hL, hv⟩
theorem oneC_one {a : AV} {v : Value} (h : RV w m H a v) (ho : oneC a = true) : v.oneCell' = true := by
  cases h with
  | ri h =>
    cases h <;> simp_all [oneC, Value.oneCell']
    rename_i hp; cases v <;> simp_all [pureV]
  | slc => rfl
  | ptr => rfl
  | agg => simp [oneC] at ho
  | tup => simp [oneC] at ho
  | fn => rfl
  | ifc => rfl
theorem okEl_cells {sz : Nat} {a : AV} {v : Value} (h : RV w m H a v) (hk : okEl sz a = true) :
    v.cells.size = sz ∧ (cellsOf a).length = sz ∧ (∀ j (hj : j < (cellsOf a).length) (hj' : j < v.cells.size), RV w m H (cellsOf a)[j] v.cells[j]) ∧ ∀ u ∈ v.cells.toList, u.oneCell' = true := by
  simp only [okEl, Bool.and_eq_true, beq_iff_eq] at hk
  obtain ⟨h1, h2⟩ := hk
  have hu : a ≠ .und := by rintro rfl; simp [cellsOf, oneC] at h2
  obtain ⟨h3, h4⟩ := h.cells hu
  refine ⟨by omega, h1, h4, fun u hu' => ?_⟩
  obtain ⟨j, hj, rfl⟩ := List.mem_iff_getElem.1 hu'
  have hj' : j < v.cells.size := by simpa using hj
  have := h4 j (by omega) hj'
  exact oneC_one (a := (cellsOf a)[j]'(by omega)) (by simpa using this) (List.all_eq_true.1 h2 _ (List.getElem_mem _))
end
theorem Rel.elem {B : Nat} {w0 w : World} {m : BM} {H : List AObj} (r : Rel B w0 m H w) {i : Nat} {o : AObj} (ho : H[i]? = some o) (hl : o.live = true) (hv : o.vir = none)
    {k : Nat} {e : AV} (he : o.es[k]? = some e) :
    (cellsOf e).length = o.sz ∧ ∀ j (hj : j < (cellsOf e).length), ∃ v, w.cell? ⟨(m i).1, k * o.sz + j, none⟩ = some v ∧ w.frozen? ⟨(m i).1, k * o.sz + j, none⟩ = false ∧ RV w m H (cellsOf e)[j] v := by
  obtain ⟨arr, h1, h2, h3⟩ := r.obj i o ho hl hv
  obtain ⟨hk, rfl⟩ := List.getElem?_eq_some_iff.1 he
  obtain ⟨h4, h5⟩ := h3 k hk
  refine ⟨h4, fun j hj => ?_⟩
  obtain ⟨v, h6, h7⟩ := h5 j hj
  exact ⟨v, by simp [World.cell?, h1, h6], by simp [World.frozen?, h1], h7⟩
theorem load_part {P : Program} {w : World} {m : BM} {H : List AObj} {t : TypeId} {sz : Nat} {ag : Bool} (hs : szT P t = some sz) (hg : isAggT P t = some ag)
    {a : Addr} {e : AV} {f : Nat} {v : AV} (hp : partOf ag f sz e = some v) {cv : Nat → Value}
    (hcell : ∀ j, j < (cellsOf e).length → w.cell? (a.add j) = some (cv j)) (hrv : ∀ j (hj : j < (cellsOf e).length), RV w m H (cellsOf e)[j] (cv j)) :
    ∃ u, (Instr.loadAt t (.pointer (some (a.add f)))).run P w = .ok u w ∧ RV w m H v u := by
  unfold szT at hs
  obtain ⟨i, hi, rfl⟩ := Option.map_eq_some_iff.1 hs
  have hagg : (isAgg t).run P w = .ok ag w := by
    unfold isAggT at hg
    cases hu : P.underlying t with
    | none => simp [hu] at hg
    | some d => rw [hu] at hg; cases d <;> simp_all [isAgg, run_underlying hu]
  unfold partOf at hp
  cases ag with
  | true =>
    simp only [if_true] at hp
    split at hp
    · rename_i cs
      split at hp
      · rename_i hle
        injection hp with hp
        subst hp
        simp only [cellsOf] at hcell hrv
        have hl := run_loadCells (P := P) w (a.add f) i.size (fun j => cv (f + j)) (fun j hj => by rw [add_add]; exact hcell _ (by omega))
        refine ⟨.agg ((List.range i.size).map fun j => cv (f + j)).toArray, ?_, ?_⟩
        · simp [Instr.loadAt, Instr.sureAddr, loadVar, hagg, sizeOf, typeInfo, hi, hl]
        · have hlen : (if f = 0 ∧ i.size = cs.length then cs else (cs.drop f).take i.size).length = i.size := by
            split
            · rename_i h; omega
            · simp; omega
          refine .agg (by rw [hlen]; simp) (fun j hj hj' => ?_)
          have hj2 : j < i.size := by rw [hlen] at hj; exact hj
          have := hrv (f + j) (by omega)
          have e1 : (if f = 0 ∧ i.size = cs.length then cs else (cs.drop f).take i.size)[j] = cs[f + j]'(by omega) := by
            split
            · rename_i h; obtain ⟨rfl, _⟩ := h; simp
            · simp
          rw [e1]
          simpa using this
      · cases hp
    · cases hp
  | false =>
    simp only [Bool.false_eq_true, if_false] at hp
    split at hp
    · rename_i h1
      obtain ⟨hf, rfl⟩ := List.getElem?_eq_some_iff.1 hp
      exact ⟨cv f, by simp [Instr.loadAt, Instr.sureAddr, loadVar, hagg, hcell f hf], hrv f hf⟩
    · cases hp
end Go.Fw
/- How the relation between objects and world is kept: a new object, an object turned, an object moved. -/
namespace Go.Fw
open Go Go.RowKit
theorem Rel.wr_lt {B : Nat} {w0 w : World} {m : BM} {H : List AObj} (r : Rel B w0 m H w) {b : Nat} (h : Wr m H b) : b < w.heap.size := by
  rcases h with h | ⟨i, ⟨o, ho, hl, hv⟩, rfl⟩
  · exact Nat.lt_of_lt_of_le (r.xlt b h) r.hB
  obtain ⟨arr, h1, _⟩ := r.obj i o ho hl hv
  exact (Array.getElem?_eq_some_iff.1 h1).1
theorem Rel.drew {B : Nat} {w0 w : World} {m : BM} {H : List AObj} (r : Rel B w0 m H w) (n : Nat) : Tr m H w m H { w with drawn := n } ∧ Rel B w0 m H { w with drawn := n } := by
  have t : Tr m H w m H { w with drawn := n } :=
    ⟨Nat.le_refl _, Nat.le_refl _, fun _ _ _ => rfl, fun _ _ h => h, fun i o o' h h' => by rw [h] at h'; cases h'; exact ⟨Nat.le_refl _, fun hl _ => ⟨hl, rfl, rfl, rfl⟩⟩, rfl⟩
  refine ⟨t, ⟨⟨r.below.os, r.below.tape, r.below.output, r.below.size, r.below.block⟩, r.hB, r.szpos, r.virt, r.base, fun i o ho hl hv => ?_, r.inj, r.xlt⟩⟩
  obtain ⟨arr, h1, h2, h3⟩ := r.obj i o ho hl hv
  exact ⟨arr, h1, h2, fun k hk => ⟨(h3 k hk).1, fun j hj => let ⟨v, a, b⟩ := (h3 k hk).2 j hj; ⟨v, a, b.mono t⟩⟩⟩
section
variable {B : Nat} {w0 w : World} {m : BM} {H : List AObj}
def bump (m : BM) (i : Nat) (b : Nat × Nat) : BM := { m with pl := fun k => if k = i then b else m k }
theorem bump_x (m : BM) (i : Nat) (b : Nat × Nat) : (bump m i b).x = m.x := rfl
theorem bump_same (m : BM) (i : Nat) (b : Nat × Nat) : bump m i b i = b := by simp [bump]
theorem bump_same1 (m : BM) (i b c : Nat) : (bump m i (b, c) i).1 = b := by simp [bump]
theorem bump_other (m : BM) {i k : Nat} (b : Nat × Nat) (h : k ≠ i) : bump m i b k = m k := by simp [bump, h]
theorem heap_alloc_old (w : World) (o : Obj) {b : Nat} (h : b < w.heap.size) : (w.alloc o).heap[b]? = w.heap[b]? := Below.heap_alloc w o b h
theorem heap_alloc_new' (w : World) (o : Obj) : (w.alloc o).heap[w.heap.size]? = some o := by
  show (w.heap.push o)[w.heap.size]? = _
  simp
theorem Rel.alloc (r : Rel B w0 m H w) (ty sz cp : Nat) (es : List AV) (arr : Array Value) (hsz : 0 < sz) (harr : es.length ≤ cp ∧ cp * sz ≤ arr.size)
    (hc : ∀ k (hk : k < es.length), (cellsOf es[k]).length = sz ∧ ∀ j (hj : j < (cellsOf es[k]).length), ∃ v, arr[k * sz + j]? = some v ∧ RV w m H (cellsOf es[k])[j] v) :
    Tr m H w (bump m H.length (w.heap.size, cp)) (H ++ [{ ty := ty, sz := sz, es := es }]) (w.alloc (.cells arr ty)) ∧
    Rel B w0 (bump m H.length (w.heap.size, cp)) (H ++ [{ ty := ty, sz := sz, es := es }]) (w.alloc (.cells arr ty)) := by
  have hget : ∀ i o, H[i]? = some o → (H ++ [({ ty := ty, sz := sz, es := es } : AObj)])[i]? = some o ∧ bump m H.length (w.heap.size, cp) i = m i := by
    intro i o h
    have hi := (List.getElem?_eq_some_iff.1 h).1
    exact ⟨by rw [List.getElem?_append_left hi]; exact h, bump_other _ _ (by omega)⟩
  have hinv : ∀ i o, (H ++ [({ ty := ty, sz := sz, es := es } : AObj)])[i]? = some o → (H[i]? = some o ∧ i < H.length) ∨ (i = H.length ∧ o = { ty := ty, sz := sz, es := es }) := by
    intro i o h
    by_cases hi : i < H.length
    · rw [List.getElem?_append_left hi] at h; exact .inl ⟨h, hi⟩
    · have hlt := (List.getElem?_eq_some_iff.1 h).1
      simp at hlt
      have : i = H.length := by omega
      subst this
      simp at h; exact .inr ⟨rfl, h.symm⟩
  have hwr : ∀ b, Wr (bump m H.length (w.heap.size, cp)) (H ++ [{ ty := ty, sz := sz, es := es }]) b → Wr m H b ∨ b = w.heap.size := by
    rintro b (hx | ⟨i, ⟨o, ho, hl, hv⟩, rfl⟩)
    · exact .inl (.inl hx)
    rcases hinv i o ho with ⟨h, hi⟩ | ⟨rfl, rfl⟩
    · exact .inl (.inr ⟨i, ⟨o, h, hl, hv⟩, by rw [bump_other _ _ (by omega)]⟩)
    · exact .inr (bump_same1 _ _ _ _)
  have t : Tr m H w (bump m H.length (w.heap.size, cp)) (H ++ [{ ty := ty, sz := sz, es := es }]) (w.alloc (.cells arr ty)) := by
    refine ⟨by simp, by simp, fun b hb _ => heap_alloc_old _ _ hb, fun b hb hn hw => ?_, fun i o o' h h' => ?_, rfl⟩
    · rcases hwr b hw with h | h
      · exact hn h
      · omega
    · rw [(hget i o h).1] at h'; cases h'
      exact ⟨Nat.le_refl _, fun hl _ => ⟨hl, (hget i o h).2, rfl, rfl⟩⟩
  refine ⟨t, ⟨r.below.alloc r.hB _, by have := r.hB; simp; omega, ?_, ?_, ?_, ?_, ?_, r.xlt⟩⟩
  · intro i o h
    rcases hinv i o h with ⟨h, _⟩ | ⟨rfl, rfl⟩
    · exact r.szpos i o h
    · exact hsz
  · intro i o h hv
    rcases hinv i o h with ⟨h, _⟩ | ⟨rfl, rfl⟩
    · exact r.virt i o h hv
    · exact absurd rfl hv
  · rintro i ⟨o, h, hl, hv⟩
    rcases hinv i o h with ⟨h, hi⟩ | ⟨rfl, rfl⟩
    · rw [bump_other _ _ (by omega)]; exact r.base i ⟨o, h, hl, hv⟩
    · rw [bump_same]; exact r.hB
  · intro i o h hl hv
    rcases hinv i o h with ⟨h, hi⟩ | ⟨rfl, rfl⟩
    · obtain ⟨arr', h1, h2, h3⟩ := r.obj i o h hl hv
      refine ⟨arr', ?_, by rw [bump_other _ _ (by omega)]; exact h2, fun k hk => ⟨(h3 k hk).1, fun j hj => let ⟨v, a, b⟩ := (h3 k hk).2 j hj; ⟨v, a, b.mono t⟩⟩⟩
      rw [bump_other _ _ (by omega), heap_alloc_old _ _ (Array.getElem?_eq_some_iff.1 h1).1]; exact h1
    · refine ⟨arr, ?_, by rw [bump_same]; exact harr, fun k hk => ⟨(hc k hk).1, fun j hj => let ⟨v, a, b⟩ := (hc k hk).2 j hj; ⟨v, a, b.mono t⟩⟩⟩
      rw [bump_same, heap_alloc_new']
  · rintro i i' ⟨o, h, hl, hv⟩ ⟨o', h', hl', hv'⟩ e
    rcases hinv i o h with ⟨h, hi⟩ | ⟨rfl, rfl⟩ <;> rcases hinv i' o' h' with ⟨h', hi'⟩ | ⟨rfl, rfl⟩
    · rw [bump_other _ _ (by omega), bump_other _ _ (by omega)] at e
      exact r.inj i i' ⟨o, h, hl, hv⟩ ⟨o', h', hl', hv'⟩ e
    · rw [bump_other _ _ (by omega), bump_same] at e
      have := r.wr_lt (.inr ⟨i, ⟨o, h, hl, hv⟩, rfl⟩); omega
    · rw [bump_same, bump_other _ _ (by omega)] at e
      have := r.wr_lt (.inr ⟨i', ⟨o', h', hl', hv'⟩, rfl⟩); omega
    · rfl
theorem set_inv {i j : Nat} {o o' q : AObj} (ho : H[i]? = some o) (h : (H.set i o')[j]? = some q) : (j = i ∧ q = o') ∨ (j ≠ i ∧ H[j]? = some q) := by
  by_cases e : j = i
  · subst e
    have hi := (List.getElem?_eq_some_iff.1 ho).1
    rw [List.getElem?_set_self hi] at h
    exact .inl ⟨rfl, (Option.some.inj h).symm⟩
  · rw [List.getElem?_set_ne (by omega)] at h; exact .inr ⟨e, h⟩
theorem Rel.turn (r : Rel B w0 m H w) {i : Nat} {o : AObj} (ho : H[i]? = some o) (hl : o.live = true) (hv : o.vir = none) (es' : List AV) (hlen : o.es.length ≤ es'.length)
    (arr : Array Value) (harr : es'.length ≤ (m i).2 ∧ (m i).2 * o.sz ≤ arr.size)
    (hc : ∀ k (hk : k < es'.length), (cellsOf es'[k]).length = o.sz ∧ ∀ j (hj : j < (cellsOf es'[k]).length), ∃ v, arr[k * o.sz + j]? = some v ∧ RV w m H (cellsOf es'[k])[j] v) :
    Tr m H w m (H.set i { o with es := es' }) (w.setRow (m i).1 arr) ∧ Rel B w0 m (H.set i { o with es := es' }) (w.setRow (m i).1 arr) := by
  obtain ⟨arr0, h0, _, _⟩ := r.obj i o ho hl hv
  have hwr : ∀ b, Wr m (H.set i { o with es := es' }) b → Wr m H b := by
    rintro b (hx | ⟨j, ⟨q, hq, hql, hqv⟩, rfl⟩)
    · exact .inl hx
    rcases set_inv ho hq with ⟨rfl, rfl⟩ | ⟨hne, hq⟩
    · exact .inr ⟨j, ⟨o, ho, hl, hv⟩, rfl⟩
    · exact .inr ⟨j, ⟨q, hq, hql, hqv⟩, rfl⟩
  have t : Tr m H w m (H.set i { o with es := es' }) (w.setRow (m i).1 arr) := by
    refine ⟨by simp, by simp, fun b hb hn => setRow_other _ _ _ _ (fun e => hn (.inr ⟨i, ⟨o, ho, hl, hv⟩, e.symm⟩)), fun b _ hn hw => hn (hwr b hw), fun j q q' h h' => ?_, rfl⟩
    · rcases set_inv ho h' with ⟨rfl, rfl⟩ | ⟨hne, h'⟩
      · rw [ho] at h; cases h; exact ⟨hlen, fun _ _ => ⟨hl, rfl, rfl, rfl⟩⟩
      · rw [h] at h'; cases h'; exact ⟨Nat.le_refl _, fun hl _ => ⟨hl, rfl, rfl, rfl⟩⟩
  have hbelow : Below B w0 (w.setRow (m i).1 arr) := r.below.trans ⟨rfl, rfl, rfl, by simp, fun k hk => setRow_other _ _ _ _ (by have := r.base i ⟨o, ho, hl, hv⟩; omega)⟩
  refine ⟨t, ⟨hbelow, by have := r.hB; simpa using this, ?_, ?_, ?_, ?_, ?_, r.xlt⟩⟩
  · intro j q h
    rcases set_inv ho h with ⟨rfl, rfl⟩ | ⟨_, h⟩
    · exact r.szpos j o ho
    · exact r.szpos j q h
  · intro j q h hvv
    rcases set_inv ho h with ⟨rfl, rfl⟩ | ⟨_, h⟩
    · exact absurd hv hvv
    · exact r.virt j q h hvv
  · rintro j ⟨q, h, hql, hqv⟩
    rcases set_inv ho h with ⟨rfl, rfl⟩ | ⟨_, h⟩
    · exact r.base j ⟨o, ho, hl, hv⟩
    · exact r.base j ⟨q, h, hql, hqv⟩
  · intro j q h hql hqv
    rcases set_inv ho h with ⟨rfl, rfl⟩ | ⟨hne, h⟩
    · refine ⟨arr, setRow_heap _ _ _ _ _ _ h0, harr, fun k hk => ⟨(hc k hk).1, fun j hj => let ⟨v, a, b⟩ := (hc k hk).2 j hj; ⟨v, a, b.mono t⟩⟩⟩
    · obtain ⟨arr', h1, h2, h3⟩ := r.obj j q h hql hqv
      refine ⟨arr', ?_, h2, fun k hk => ⟨(h3 k hk).1, fun j hj => let ⟨v, a, b⟩ := (h3 k hk).2 j hj; ⟨v, a, b.mono t⟩⟩⟩
      rw [setRow_other _ _ _ _ (fun e => hne (r.inj j i ⟨q, h, hql, hqv⟩ ⟨o, ho, hl, hv⟩ e))]; exact h1
  · rintro j j' ⟨q, h, hql, hqv⟩ ⟨q', h', hql', hqv'⟩ e
    have a1 : Real H j := by
      rcases set_inv ho h with ⟨e1, e2⟩ | ⟨_, h2⟩
      · rw [e1]; exact ⟨o, ho, hl, hv⟩
      · exact ⟨q, h2, hql, hqv⟩
    have a2 : Real H j' := by
      rcases set_inv ho h' with ⟨e1, e2⟩ | ⟨_, h2⟩
      · rw [e1]; exact ⟨o, ho, hl, hv⟩
      · exact ⟨q', h2, hql', hqv'⟩
    exact r.inj j j' a1 a2 e
theorem Rel.move (r : Rel B w0 m H w) {i : Nat} {o : AObj} (ho : H[i]? = some o) (_hl : o.live = true) (es' : List AV) (hlen : o.es.length < es'.length)
    (cp : Nat) (arr : Array Value) (harr : es'.length ≤ cp ∧ cp * o.sz ≤ arr.size)
    (hc : ∀ k (hk : k < es'.length), (cellsOf es'[k]).length = o.sz ∧ ∀ j (hj : j < (cellsOf es'[k]).length), ∃ v, arr[k * o.sz + j]? = some v ∧ RV w m H (cellsOf es'[k])[j] v) :
    Tr m H w (bump m i (w.heap.size, cp)) (H.set i { o with es := es', vir := none }) (w.alloc (.cells arr o.ty)) ∧
    Rel B w0 (bump m i (w.heap.size, cp)) (H.set i { o with es := es', vir := none }) (w.alloc (.cells arr o.ty)) := by
  have hi := (List.getElem?_eq_some_iff.1 ho).1
  have hwr : ∀ b, Wr (bump m i (w.heap.size, cp)) (H.set i { o with es := es', vir := none }) b → Wr m H b ∨ b = w.heap.size := by
    rintro b (hx | ⟨j, ⟨q, hq, hql, hqv⟩, rfl⟩)
    · exact .inl (.inl hx)
    rcases set_inv ho hq with ⟨rfl, rfl⟩ | ⟨hne, hq⟩
    · exact .inr (bump_same1 _ _ _ _)
    · exact .inl (.inr ⟨j, ⟨q, hq, hql, hqv⟩, by rw [bump_other _ _ hne]⟩)
  have t : Tr m H w (bump m i (w.heap.size, cp)) (H.set i { o with es := es', vir := none }) (w.alloc (.cells arr o.ty)) := by
    refine ⟨by simp, by simp, fun b hb _ => heap_alloc_old _ _ hb, fun b hb hn hw => ?_, fun j q q' h h' => ?_, rfl⟩
    · rcases hwr b hw with h | h
      · exact hn h
      · omega
    · rcases set_inv ho h' with ⟨rfl, rfl⟩ | ⟨hne, h'⟩
      · rw [ho] at h; cases h; exact ⟨Nat.le_of_lt hlen, fun _ e => absurd e (by simp; omega)⟩
      · rw [h] at h'; cases h'; exact ⟨Nat.le_refl _, fun hl _ => ⟨hl, bump_other _ _ hne, rfl, rfl⟩⟩
  refine ⟨t, ⟨r.below.alloc r.hB _, by have := r.hB; simp; omega, ?_, ?_, ?_, ?_, ?_, r.xlt⟩⟩
  · intro j q h
    rcases set_inv ho h with ⟨rfl, rfl⟩ | ⟨_, h⟩
    · exact r.szpos j o ho
    · exact r.szpos j q h
  · intro j q h hvv
    rcases set_inv ho h with ⟨rfl, rfl⟩ | ⟨_, h⟩
    · exact absurd rfl hvv
    · exact r.virt j q h hvv
  · rintro j ⟨q, h, hql, hqv⟩
    rcases set_inv ho h with ⟨rfl, rfl⟩ | ⟨hne, h⟩
    · rw [bump_same]; exact r.hB
    · rw [bump_other _ _ hne]; exact r.base j ⟨q, h, hql, hqv⟩
  · intro j q h hql hqv
    rcases set_inv ho h with ⟨rfl, rfl⟩ | ⟨hne, h⟩
    · refine ⟨arr, ?_, by rw [bump_same]; exact harr, fun k hk => ⟨(hc k hk).1, fun j hj => let ⟨v, a, b⟩ := (hc k hk).2 j hj; ⟨v, a, b.mono t⟩⟩⟩
      rw [bump_same, heap_alloc_new']
    · obtain ⟨arr', h1, h2, h3⟩ := r.obj j q h hql hqv
      refine ⟨arr', ?_, by rw [bump_other _ _ hne]; exact h2, fun k hk => ⟨(h3 k hk).1, fun j hj => let ⟨v, a, b⟩ := (h3 k hk).2 j hj; ⟨v, a, b.mono t⟩⟩⟩
      rw [bump_other _ _ hne, heap_alloc_old _ _ (Array.getElem?_eq_some_iff.1 h1).1]; exact h1
  · rintro j j' ⟨q, h, hql, hqv⟩ ⟨q', h', hql', hqv'⟩ e
    rcases set_inv ho h with ⟨e1, e2⟩ | ⟨hne, h2⟩ <;> rcases set_inv ho h' with ⟨e1', e2'⟩ | ⟨hne', h2'⟩
    · rw [e1, e1']
    · rw [e1, bump_same, bump_other _ _ hne'] at e
      have := r.wr_lt (.inr ⟨j', ⟨q', h2', hql', hqv'⟩, rfl⟩); omega
    · rw [e1', bump_same, bump_other _ _ hne] at e
      have := r.wr_lt (.inr ⟨j, ⟨q, h2, hql, hqv⟩, rfl⟩); omega
    · rw [bump_other _ _ hne, bump_other _ _ hne'] at e
      exact r.inj j j' ⟨q, h2, hql, hqv⟩ ⟨q', h2', hql', hqv'⟩ e
end
end Go.Fw
/- The operations, one by one: what 'evK' says is what the model's run does. -/
namespace Go.Fw
open Go Go.RowKit
def Did (P : Program) (B : Nat) (w0 : World) (m : BM) (H : List AObj) (w : World) (s : Sem Next) (v : AV) (H' : List AObj) : Prop :=
  ∃ m' w' nx v', s.run P w = .ok nx w' ∧ (nx = .value v' ∨ (nx = .skip ∧ v' = undef)) ∧ Tr m H w m' H' w' ∧ Rel B w0 m' H' w' ∧ RV w' m' H' v v'
section
variable {P : Program} {B : Nat} {w0 w : World} {m : BM} {H : List AObj} {fr : List AV} {a : Act}
theorem Did.read (r : Rel B w0 m H w) {s : Sem Value} {v : AV} {v' : Value} (h : s.run P w = .ok v' w) (hv : RV w m H v v') :
    Did P B w0 m H w (do pure (.value (← s))) v H :=
  ⟨m, w, .value v', v', by simp [h], .inl rfl, Tr.refl _ _ _, r, hv⟩
theorem bin_sound {op : BinOp} {x y v : AV} {u u' : Value} {t : TypeId} (h : binEv op x y = some v) (hx : RV w m H x u) (hy : RV w m H y u') :
    ∃ z, (binOp op t u u').run P w = .ok z w ∧ RV w m H v z := by
  unfold binEv at h
  split at h
  · obtain ⟨rfl, -⟩ := hx.sc_inv
    obtain ⟨rfl, -⟩ := hy.sc_inv
    rename_i k c k' d
    cases op
    case shl =>
      simp only at h
      split at h
      · cases h
      · rename_i hn
        cases h
        exact ⟨_, by simp [binOp, Op.shift, hn], .sc _ rfl⟩
    case shr =>
      simp only at h
      split at h
      · cases h
      · rename_i hn
        cases h
        exact ⟨_, by simp [binOp, Op.shift, hn], .sc _ rfl⟩
    all_goals
      simp only at h
      split at h
      · rename_i hk
        subst hk
        first
          | (cases h; refine ⟨_, ?_, .sc _ rfl⟩; simp [binOp, Op.intArith, Op.intCmp]; done)
          | (cases h; refine ⟨_, ?_, .sc _ rfl⟩; simp only [binOp]; rfl)
          | (cases h; refine ⟨_, ?_, .sc _ rfl⟩; simp only [binOp, ne_eq, not_true_eq_false, if_false]; rfl)
          | (split at h
             · cases h
             · rename_i hd
               cases h; exact ⟨_, by simp [binOp, Op.intDiv, hd], .sc _ rfl⟩)
          | cases h
      · cases h
  · obtain ⟨rfl, -⟩ := hx.sc_inv
    obtain ⟨rfl, -⟩ := hy.sc_inv
    rename_i c d
    cases op
    case add =>
      simp only at h
      split at h
      · rename_i hn
        cases h
        refine ⟨_, ?_, .sc _ rfl⟩
        have hn' : ¬ ((c.size + d.size : Nat) : Int) > IntKind.i64.max := by
          have : IntKind.i64.max = 9223372036854775807 := by decide
          omega
        simp only [binOp, Op.stringOp]
        rw [if_neg hn']; rfl
      · cases h
    all_goals
      simp only at h
      first
        | (cases h; exact ⟨_, by simp [binOp, Op.stringOp], .sc _ rfl⟩)
        | cases h
  · cases h
theorem szT_inv {t : TypeId} {sz : Nat} (h : szT P t = some sz) : ∃ i, P.info? t = some i ∧ i.size = sz := by
  unfold szT at h; exact Option.map_eq_some_iff.1 h
theorem isAgg_run {t : TypeId} {ag : Bool} (h : isAggT P t = some ag) : (isAgg t).run P w = .ok ag w := by
  unfold isAggT at h
  cases hu : P.underlying t with
  | none => simp [hu] at h
  | some d => rw [hu] at h; cases d <;> simp_all [isAgg, run_underlying hu]
theorem part_sound {t : TypeId} {off sz : Nat} {ag : Bool} (hs : szT P t = some sz) (hg : isAggT P t = some ag) {cs : List AV} {vs : Array Value}
    (hn : cs.length = vs.size) (hrv : ∀ j (h : j < cs.length) (h' : j < vs.size), RV w m H cs[j] vs[j]) {v : AV} (hp : partOf ag off sz (.agg cs) = some v) :
    ∃ u, (part t vs off).run P w = .ok u w ∧ RV w m H v u := by
  obtain ⟨i, hi, rfl⟩ := szT_inv hs
  have hagg := isAgg_run (w := w) hg
  unfold partOf at hp
  cases ag with
  | true =>
    simp only [if_true] at hp
    split at hp
    · rename_i hle
      injection hp with hp
      subst hp
      refine ⟨.agg (vs.extract off (off + i.size)), by simp [part, hagg, sizeOf, typeInfo, hi], ?_⟩
      have hlen : (if off = 0 ∧ i.size = cs.length then cs else (cs.drop off).take i.size).length = i.size := by
        split
        · rename_i h; omega
        · simp; omega
      refine .agg (by rw [hlen]; simp; omega) (fun j hj hj' => ?_)
      have hj2 : j < i.size := by rw [hlen] at hj; exact hj
      have e1 : (if off = 0 ∧ i.size = cs.length then cs else (cs.drop off).take i.size)[j] = cs[off + j]'(by omega) := by
        split
        · rename_i h; obtain ⟨rfl, _⟩ := h; simp
        · simp
      rw [e1]
      have := hrv (off + j) (by omega) (by omega)
      simpa using this
    · cases hp
  | false =>
    simp only [Bool.false_eq_true, if_false, cellsOf] at hp
    split at hp
    · obtain ⟨hf, rfl⟩ := List.getElem?_eq_some_iff.1 hp
      have hf' : off < vs.size := by omega
      exact ⟨vs[off], by simp [part, hagg, hf'], hrv off hf hf'⟩
    · cases hp
end
end Go.Fw
