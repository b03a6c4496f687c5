/- Append. -/
import Derived.Test.YthipbeffhfdamaaFwE
import Derived.Laws.Append
namespace Go.Fw
open Go Go.RowKit
theorem idx_div {sz k q : Nat} (hq : q < sz) : (k * sz + q) / sz = k ∧ (k * sz + q) % sz = q := by
  constructor
  · rw [Nat.mul_comm, Nat.mul_add_div (by omega)]; rw [Nat.div_eq_of_lt hq]; omega
  · rw [Nat.mul_comm, Nat.mul_add_mod]; exact Nat.mod_eq_of_lt hq
theorem idx_lt {sz k q n : Nat} (hk : k < n) (hq : q < sz) : k * sz + q < n * sz := by
  have : (k + 1) * sz ≤ n * sz := Nat.mul_le_mul_right _ hk
  rw [Nat.add_mul] at this; omega
section
variable {P : Program} {B : Nat} {w0 w : World} {m : BM} {H : List AObj} {fr : List AV} {a : Act}
def flat (sz n : Nat) (cv : Nat → Nat → Value) : List Value := (List.range (n * sz)).map fun j => cv (j / sz) (j % sz)
theorem flat_length (sz n : Nat) (cv : Nat → Nat → Value) : (flat sz n cv).length = n * sz := by simp [flat]
theorem flat_at {sz n k q : Nat} {cv : Nat → Nat → Value} (hk : k < n) (hq : q < sz) : (flat sz n cv)[k * sz + q]? = some (cv k q) := by
  have := idx_lt hk hq
  have ⟨e1, e2⟩ := idx_div (k := k) hq
  simp [flat, this, e1, e2]
theorem flat_inv {sz n j : Nat} {cv : Nat → Nat → Value} {u : Value} (h : (flat sz n cv)[j]? = some u) : ∃ k q, k < n ∧ q < sz ∧ j = k * sz + q ∧ u = cv k q := by
  obtain ⟨hj, rfl⟩ := List.getElem?_eq_some_iff.1 h
  rw [flat_length] at hj
  have hs : 0 < sz := by
    rcases Nat.eq_zero_or_pos sz with h | h
    · subst h; simp at hj
    · exact h
  refine ⟨j / sz, j % sz, Nat.div_lt_of_lt_mul (by rw [Nat.mul_comm]; exact hj), Nat.mod_lt _ hs, ?_, by simp [flat]⟩
  rw [Nat.mul_comm]; exact (Nat.div_add_mod j sz).symm
def At (w : World) (m : BM) (H : List AObj) (sz : Nat) (ad : Addr) (xs : List AV) (cv : Nat → Nat → Value) : Prop :=
  ∀ k (hk : k < xs.length), (cellsOf xs[k]).length = sz ∧ ∀ j (hj : j < (cellsOf xs[k]).length), w.cell? (ad.add (k * sz + j)) = some (cv k j) ∧ RV w m H (cellsOf xs[k])[j] (cv k j)
theorem At.cells {sz : Nat} {ad : Addr} {xs : List AV} {cv : Nat → Nat → Value} (h : At w m H sz ad xs cv) {j : Nat} {u : Value} (hj : (flat sz xs.length cv)[j]? = some u) : w.cell? (ad.add j) = some u := by
  obtain ⟨k, q, hk, hq, rfl, rfl⟩ := flat_inv hj
  obtain ⟨h1, h2⟩ := h k hk
  exact (h2 q (by omega)).1
theorem At.one {sz : Nat} {ad : Addr} {xs : List AV} {cv : Nat → Nat → Value} (h : At w m H sz ad xs cv) (ho : allOneCell sz xs = true) : ∀ u ∈ flat sz xs.length cv, u.oneCell' = true := by
  intro u hu
  obtain ⟨j, hj, rfl⟩ := List.mem_iff_getElem.1 hu
  obtain ⟨k, q, hk, hq, _, e⟩ := flat_inv (List.getElem?_eq_getElem hj)
  obtain ⟨h1, h2⟩ := h k hk
  rw [e]
  have hx : okEl sz xs[k] = true := List.all_eq_true.1 ho _ (List.getElem_mem _)
  simp only [okEl, Bool.and_eq_true] at hx
  exact oneC_one (h2 q (by omega)).2 (List.all_eq_true.1 hx.2 _ (List.getElem_mem _))
theorem At.part {sz : Nat} {ad : Addr} {xs : List AV} {cv : Nat → Nat → Value} (h : At w m H sz ad xs cv) (off n : Nat) (_hn : off + n ≤ xs.length) :
    At w m H sz (ad.add (off * sz)) ((xs.drop off).take n) (fun k j => cv (off + k) j) := by
  intro k hk
  have hk2 : off + k < xs.length := by simp at hk; omega
  have e : ((xs.drop off).take n)[k] = xs[off + k] := by simp
  rw [e]
  obtain ⟨h1, h2⟩ := h (off + k) hk2
  refine ⟨h1, fun j hj => ?_⟩
  rw [add_add, show off * sz + (k * sz + j) = (off + k) * sz + j by rw [Nat.add_mul]; omega]
  exact h2 j hj
theorem Rel.at (r : Rel B w0 m H w) {i : Nat} {o : AObj} (ho : H[i]? = some o) (hl : o.live = true) (hv : o.vir = none) :
    ∃ cv, At w m H o.sz ⟨(m i).1, 0, none⟩ o.es cv := by
  refine ⟨fun k j => (w.cell? ⟨(m i).1, k * o.sz + j, none⟩).getD undef, fun k hk => ?_⟩
  obtain ⟨h1, h2⟩ := r.elem ho hl hv (List.getElem?_eq_getElem hk)
  refine ⟨h1, fun j hj => ?_⟩
  obtain ⟨v, h3, _, h4⟩ := h2 j hj
  have e : (⟨(m i).1, 0, none⟩ : Addr).add (k * o.sz + j) = ⟨(m i).1, k * o.sz + j, none⟩ := by unfold Addr.add; split <;> simp_all
  simp only [e, h3, Option.getD_some]; exact ⟨trivial, h4⟩
theorem elems_sound (r : Rel B w0 m H w) {sz : Nat} {x : AV} {u : Value} {xs : List AV} (h : elems sz H x = some xs) (hx : RV w m H x u) :
    ∃ A cap, u = .slice A xs.length cap ∧ xs.length ≤ cap ∧ (xs ≠ [] → ∃ ad cv, A = some ad ∧ At w m H sz ad xs cv) := by
  unfold elems at h
  split at h
  · rename_i nl c sz' ys
    split at h
    · rename_i hc
      cases h
      cases hx with
      | ri hx =>
        cases hx with
        | nil => exact ⟨none, 0, rfl, Nat.le_refl _, fun h => absurd rfl h⟩
        | nilx => exact ⟨none, 0, rfl, Nat.le_refl _, fun h => absurd rfl h⟩
        | imm cv hn hcap hc' hcell hsz hrv =>
          subst hn
          have hsz' := hc.resolve_left (by simp)
          subst hsz'
          exact ⟨_, _, rfl, hcap, fun _ => ⟨_, cv, rfl, fun k hk => ⟨hsz k hk, fun j hj => ⟨(hcell k j hk (by have := hsz k hk; omega)).1, .ri (hrv k j hk hj)⟩⟩⟩⟩
    · cases h
  · rename_i i L off n c
    cases hlv : live? H i L with
    | none => simp [hlv] at h
    | some o =>
      simp only [hlv] at h
      split at h
      · rename_i hc
        obtain ⟨rfl, hoff⟩ := hc
        obtain ⟨ho, hl, hL⟩ := live?_some hlv
        obtain ⟨A, cap, o', rfl, ho', hL', hok⟩ := hx.slc_inv
        rw [ho] at ho'; cases ho'
        have hok := hok hl hL
        have hxs : xs = (o.es.drop off).take n := by
          injection h with h
          rw [← h]; split
          · rename_i hh; obtain ⟨rfl, rfl⟩ := hh; rw [List.drop_zero, List.take_of_length_le (by omega)]
          · rfl
        have hlen : xs.length = n := by rw [hxs]; simp; omega
        unfold SlcOk at hok
        cases hv : o.vir with
        | some b =>
          rw [hv] at hok
          obtain ⟨h1, h2, h3, h4⟩ := hok
          subst h2
          exact ⟨A, cap, by rw [hlen], by omega, fun hne => absurd (List.eq_nil_of_length_eq_zero hlen) hne⟩
        | none =>
          rw [hv] at hok
          obtain ⟨h1, h2, h3, h4, h5⟩ := hok
          refine ⟨A, cap, by rw [hlen], by omega, fun hne => ?_⟩
          have hpos : 0 < xs.length := List.length_pos_iff.2 hne
          obtain ⟨cv, hat⟩ := r.at ho hl hv
          have := hat.part off n (by omega)
          rw [← hxs] at this
          refine ⟨⟨(m i).1, off * o.sz, none⟩, fun k j => cv (off + k) j, h2 (by omega), ?_⟩
          have e : (⟨(m i).1, 0, none⟩ : Addr).add (off * o.sz) = ⟨(m i).1, off * o.sz, none⟩ := by unfold Addr.add; split <;> simp_all
          rw [← e]; exact this
      · cases h
  · cases h
theorem flat_row {sz : Nat} {ad : Addr} {xs : List AV} {cv : Nat → Nat → Value} (h : At w m H sz ad xs cv) {ys : List AV} {l : List Value} (hl : l.length = ys.length * sz)
    (hys : ∀ k (hk : k < ys.length), (cellsOf ys[k]).length = sz ∧ ∀ j (hj : j < (cellsOf ys[k]).length), ∃ v, l[k * sz + j]? = some v ∧ RV w m H (cellsOf ys[k])[j] v) (rest : Array Value) :
    ∀ k (hk : k < (ys ++ xs).length), (cellsOf (ys ++ xs)[k]).length = sz ∧ ∀ j (hj : j < (cellsOf (ys ++ xs)[k]).length), ∃ v, (l.toArray ++ (flat sz xs.length cv).toArray ++ rest)[k * sz + j]? = some v ∧ RV w m H (cellsOf (ys ++ xs)[k])[j] v := by
  intro k hk
  have ea : ∀ q : Nat, (l.toArray ++ (flat sz xs.length cv).toArray ++ rest)[q]? = (l ++ flat sz xs.length cv ++ rest.toList)[q]? := by
    intro q; rw [← Array.getElem?_toList]; simp
  simp only [ea]
  by_cases hky : k < ys.length
  · have e : (ys ++ xs)[k] = ys[k] := by rw [List.getElem_append_left hky]
    simp only [e]
    obtain ⟨h1, h2⟩ := hys k hky
    refine ⟨h1, fun j hj => ?_⟩
    obtain ⟨v, h3, h4⟩ := h2 j hj
    refine ⟨v, ?_, h4⟩
    have := (List.getElem?_eq_some_iff.1 h3).1
    rw [List.append_assoc, List.getElem?_append_left this, h3]
  · have hkx : k - ys.length < xs.length := by simp at hk; omega
    have e : (ys ++ xs)[k] = xs[k - ys.length] := by rw [List.getElem_append_right (by omega)]
    simp only [e]
    obtain ⟨h1, h2⟩ := h _ hkx
    refine ⟨h1, fun j hj => ⟨_, ?_, (h2 j hj).2⟩⟩
    have hj' : j < sz := by omega
    have e2 : k * sz + j = l.length + ((k - ys.length) * sz + j) := by
      rw [hl]
      obtain ⟨q, rfl⟩ : ∃ q, k = ys.length + q := ⟨k - ys.length, by omega⟩
      rw [show ys.length + q - ys.length = q by omega, Nat.add_mul]; omega
    rw [e2, List.append_assoc, List.getElem?_append_right (by omega), show l.length + ((k - ys.length) * sz + j) - l.length = (k - ys.length) * sz + j by omega,
      List.getElem?_append_left (by rw [flat_length]; exact idx_lt hkx hj'), flat_at hkx hj']
theorem none_row (sz : Nat) : ∀ k (hk : k < ([] : List AV).length), (cellsOf ([] : List AV)[k]).length = sz ∧ ∀ j (hj : j < (cellsOf ([] : List AV)[k]).length), ∃ v, ([] : List Value)[k * sz + j]? = some v ∧ RV w m H (cellsOf ([] : List AV)[k])[j] v := by
  intro k hk; simp at hk
theorem At.row {sz : Nat} {ad : Addr} {ys : List AV} {cv : Nat → Nat → Value} (h : At w m H sz ad ys cv) :
    ∀ k (hk : k < ys.length), (cellsOf ys[k]).length = sz ∧ ∀ j (hj : j < (cellsOf ys[k]).length), ∃ v, (flat sz ys.length cv)[k * sz + j]? = some v ∧ RV w m H (cellsOf ys[k])[j] v :=
  fun k hk => ⟨(h k hk).1, fun j hj => ⟨_, flat_at hk (by have := (h k hk).1; omega), ((h k hk).2 j hj).2⟩⟩
theorem At.mono {w' : World} {m' : BM} {H' : List AObj} (t : Tr m H w m' H' w') {sz : Nat} {ad : Addr} {xs : List AV} {cv : Nat → Nat → Value} (h : At w m H sz ad xs cv)
    (hc : ∀ k j, k < xs.length → j < sz → w'.cell? (ad.add (k * sz + j)) = w.cell? (ad.add (k * sz + j))) : At w' m' H' sz ad xs cv :=
  fun k hk => ⟨(h k hk).1, fun j hj => ⟨by rw [hc k j hk (by have := (h k hk).1; omega)]; exact ((h k hk).2 j hj).1, ((h k hk).2 j hj).2.mono t⟩⟩
theorem cap_fits {a b c sz l r : Nat} (hl : l = a * sz) (hc : a + b ≤ c) (hr : r = (c - (a + b)) * sz) : c * sz ≤ l + b * sz + r := by
  subst hl; subst hr
  rw [← Nat.add_mul, ← Nat.add_mul]
  exact Nat.mul_le_mul_right _ (by omega)
theorem Rel.over (r : Rel B w0 m H w) {i : Nat} {o : AObj} (ho : H[i]? = some o) (hl : o.live = true) (hv : o.vir = none) {off : Nat} {ys : List AV} {l : List Value} (hlen : l.length = ys.length * o.sz) (hfit : off + ys.length ≤ o.es.length)
    (hys : ∀ k (hk : k < ys.length), (cellsOf ys[k]).length = o.sz ∧ ∀ j (hj : j < (cellsOf ys[k]).length), ∃ v, l[k * o.sz + j]? = some v ∧ RV w m H (cellsOf ys[k])[j] v) :
    ∃ arr, w.heap[(m i).1]? = some (.cells arr o.ty (0, 0)) ∧ off * o.sz + l.length ≤ arr.size ∧
      Tr m H w m (H.set i { o with es := o.es.take off ++ ys ++ o.es.drop (off + ys.length) }) (w.setRow (m i).1 (arr.toList.take (off * o.sz) ++ l ++ arr.toList.drop (off * o.sz + l.length)).toArray) ∧
      Rel B w0 m (H.set i { o with es := o.es.take off ++ ys ++ o.es.drop (off + ys.length) }) (w.setRow (m i).1 (arr.toList.take (off * o.sz) ++ l ++ arr.toList.drop (off * o.sz + l.length)).toArray) := by
  obtain ⟨arr, h1, ⟨h2, h2'⟩, h3⟩ := r.obj i o ho hl hv
  have hfit2 : off * o.sz + l.length ≤ arr.size := by
    rw [hlen, ← Nat.add_mul]
    exact Nat.le_trans (Nat.mul_le_mul_right _ (by omega)) h2'
  have hel : (o.es.take off ++ ys ++ o.es.drop (off + ys.length)).length = o.es.length := by simp; omega
  refine ⟨arr, h1, hfit2, r.turn ho hl hv _ (by omega) _ ⟨by rw [hel]; exact h2, ?_⟩ ?_⟩
  · have e : (arr.toList.take (off * o.sz) ++ l ++ arr.toList.drop (off * o.sz + l.length)).toArray.size = arr.size := by simp; omega
    rw [e]; exact h2'
  intro k hk
  have hk' : k < o.es.length := by omega
  have eg : (o.es.take off ++ ys ++ o.es.drop (off + ys.length))[k]? = if off ≤ k ∧ k < off + ys.length then ys[k - off]? else o.es[k]? := by
    have hl1 : (o.es.take off).length = off := by simp; omega
    by_cases c1 : k < off
    · rw [if_neg (by omega), List.append_assoc, List.getElem?_append_left (by omega), List.getElem?_take_of_lt c1]
    · by_cases c2 : k < off + ys.length
      · rw [if_pos ⟨by omega, c2⟩, List.append_assoc, List.getElem?_append_right (by omega), hl1, List.getElem?_append_left (by omega)]
      · rw [if_neg (by omega), List.append_assoc, List.getElem?_append_right (by omega), hl1, List.getElem?_append_right (by omega), List.getElem?_drop]
        congr 1; omega
  have hgl : ∀ q, (arr.toList.take (off * o.sz) ++ l ++ arr.toList.drop (off * o.sz + l.length)).toArray[q]? = if off * o.sz ≤ q ∧ q < off * o.sz + l.length then l[q - off * o.sz]? else arr[q]? := by
    intro q
    rw [List.getElem?_toArray]
    have hl1 : (arr.toList.take (off * o.sz)).length = off * o.sz := by simp; omega
    by_cases c1 : q < off * o.sz
    · rw [if_neg (by omega), List.append_assoc, List.getElem?_append_left (by omega), List.getElem?_take_of_lt c1, Array.getElem?_toList]
    · by_cases c2 : q < off * o.sz + l.length
      · rw [if_pos ⟨by omega, c2⟩, List.append_assoc, List.getElem?_append_right (by omega), hl1, List.getElem?_append_left (by omega)]
      · rw [if_neg (by omega), List.append_assoc, List.getElem?_append_right (by omega), hl1, List.getElem?_append_right (by omega), List.getElem?_drop, ← Array.getElem?_toList]
        congr 1; omega
  rw [List.getElem?_eq_getElem hk] at eg
  generalize (o.es.take off ++ ys ++ o.es.drop (off + ys.length))[k] = x at eg
  by_cases c : off ≤ k ∧ k < off + ys.length
  · rw [if_pos c, List.getElem?_eq_getElem (by omega)] at eg
    cases eg
    obtain ⟨a1, a2⟩ := hys (k - off) (by omega)
    refine ⟨a1, fun j hj => ?_⟩
    obtain ⟨v, b1, b2⟩ := a2 j hj
    refine ⟨v, ?_, b2⟩
    have e : k * o.sz + j = off * o.sz + ((k - off) * o.sz + j) := by
      obtain ⟨q, rfl⟩ : ∃ q, k = off + q := ⟨k - off, by omega⟩
      rw [show off + q - off = q by omega, Nat.add_mul]; omega
    have hq : (k - off) * o.sz + j < l.length := by rw [hlen]; exact idx_lt (by omega) (by omega)
    rw [hgl, e, if_pos (by omega), show off * o.sz + ((k - off) * o.sz + j) - off * o.sz = (k - off) * o.sz + j by omega]
    exact b1
  · rw [if_neg c, List.getElem?_eq_getElem hk'] at eg
    cases eg
    obtain ⟨a1, a2⟩ := h3 k hk'
    refine ⟨a1, fun j hj => ?_⟩
    obtain ⟨v, b1, b2⟩ := a2 j hj
    refine ⟨v, ?_, b2⟩
    rw [hgl, if_neg, b1]
    intro hh
    by_cases c1 : k < off
    · have : (k + 1) * o.sz ≤ off * o.sz := Nat.mul_le_mul_right _ c1
      rw [Nat.add_mul] at this; omega
    · have : (off + ys.length) * o.sz ≤ k * o.sz := Nat.mul_le_mul_right _ (by omega)
      rw [Nat.add_mul, ← hlen] at this; omega
theorem Rel.grown (r : Rel B w0 m H w) (e : TypeId) {sz : Nat} (hsz : 0 < sz) {ad : Addr} {xs : List AV} {cv : Nat → Nat → Value} (h : At w m H sz ad xs cv) {ys : List AV} {l : List Value} (hl : l.length = ys.length * sz)
    (hys : ∀ k (hk : k < ys.length), (cellsOf ys[k]).length = sz ∧ ∀ j (hj : j < (cellsOf ys[k]).length), ∃ v, l[k * sz + j]? = some v ∧ RV w m H (cellsOf ys[k])[j] v) (cp : Nat) (rest : Array Value)
    (hcp : ys.length + xs.length ≤ cp) (hrest : rest.size = (cp - (ys.length + xs.length)) * sz) :
    Tr m H w (bump m H.length (w.heap.size, cp)) (H ++ [{ ty := e, sz := sz, es := ys ++ xs }]) (w.drew.alloc (.cells (l.toArray ++ (flat sz xs.length cv).toArray ++ rest) e)) ∧
    Rel B w0 (bump m H.length (w.heap.size, cp)) (H ++ [{ ty := e, sz := sz, es := ys ++ xs }]) (w.drew.alloc (.cells (l.toArray ++ (flat sz xs.length cv).toArray ++ rest) e)) := by
  obtain ⟨t1, r1⟩ := r.drew (w.drawn + 1)
  obtain ⟨t2, r2⟩ := r1.alloc e sz cp (ys ++ xs) (l.toArray ++ (flat sz xs.length cv).toArray ++ rest) hsz ⟨by simpa using hcp, by simp only [Array.size_append, List.size_toArray, flat_length]; exact cap_fits hl hcp hrest⟩
    (fun k hk => ⟨(flat_row h hl hys rest k hk).1, fun j hj => let ⟨v, a, b⟩ := (flat_row h hl hys rest k hk).2 j hj; ⟨v, a, b.mono t1⟩⟩)
  exact ⟨t1.trans t2, r2⟩
theorem Rel.gone (r : Rel B w0 m H w) {i : Nat} {o : AObj} (ho : H[i]? = some o) (hlv : o.live = true) {ad : Addr} {xs : List AV} {cv : Nat → Nat → Value} (h : At w m H o.sz ad xs cv) {ys : List AV} {l : List Value} (hl : l.length = ys.length * o.sz)
    (hys : ∀ k (hk : k < ys.length), (cellsOf ys[k]).length = o.sz ∧ ∀ j (hj : j < (cellsOf ys[k]).length), ∃ v, l[k * o.sz + j]? = some v ∧ RV w m H (cellsOf ys[k])[j] v) (cp : Nat) (rest : Array Value)
    (hlen : o.es.length < (ys ++ xs).length) (hcp : ys.length + xs.length ≤ cp) (hrest : rest.size = (cp - (ys.length + xs.length)) * o.sz) :
    Tr m H w (bump m i (w.heap.size, cp)) (H.set i { o with es := ys ++ xs, vir := none }) (w.drew.alloc (.cells (l.toArray ++ (flat o.sz xs.length cv).toArray ++ rest) o.ty)) ∧
    Rel B w0 (bump m i (w.heap.size, cp)) (H.set i { o with es := ys ++ xs, vir := none }) (w.drew.alloc (.cells (l.toArray ++ (flat o.sz xs.length cv).toArray ++ rest) o.ty)) := by
  obtain ⟨t1, r1⟩ := r.drew (w.drawn + 1)
  obtain ⟨t2, r2⟩ := r1.move ho hlv (ys ++ xs) hlen cp (l.toArray ++ (flat o.sz xs.length cv).toArray ++ rest) ⟨by simpa using hcp, by simp only [Array.size_append, List.size_toArray, flat_length]; exact cap_fits hl hcp hrest⟩
    (fun k hk => ⟨(flat_row h hl hys rest k hk).1, fun j hj => let ⟨v, a, b⟩ := (flat_row h hl hys rest k hk).2 j hj; ⟨v, a, b.mono t1⟩⟩)
  exact ⟨t1.trans t2, r2⟩
theorem run_append_nothing {t ty e : TypeId} {i : TypeInfo} (ht : P.underlying t = some (.slice e)) (hi : P.info? e = some i) (A : Option Addr) (n cap : Nat) (A' : Option Addr) (cap' : Nat) (hn : n ≤ cap) :
    (Builtin.append_ #[t, t] ty #[.slice A n cap, .slice A' 0 cap']).run P w = .ok (.slice A n cap) w := by
  cases A <;> cases A' <;> simp [Builtin.append_, run_underlying ht, sizeOf, typeInfo, hi, Builtin.lenOf, Builtin.firstCells, loadCells, loadCellsFrom, storeCells, hn]
theorem new_slc {w' : World} {b n cap : Nat} (o : AObj) (hn : o.es.length = n) (hv : o.vir = none) (hc : n ≤ cap) :
    RV w' (bump m H.length (b, cap)) (H ++ [o]) (.slc H.length n 0 n none) (.slice (some ⟨b, 0, none⟩) n cap) := by
  refine .slc o (by simp) (by omega) (fun _ _ => ?_)
  simp [SlcOk, hv, CapOk, bump, hc]
theorem set_slc {w' : World} {i b n cap : Nat} {o0 : AObj} (h0 : H[i]? = some o0) (o : AObj) (hn : o.es.length = n) (hv : o.vir = none) (hc : n ≤ cap) {m' : BM} (hm : (m' i).1 = b) (hm2 : cap ≤ (m' i).2) :
    RV w' m' (H.set i o) (.slc i n 0 n none) (.slice (some ⟨b, 0, none⟩) n cap) := by
  refine .slc o (List.getElem?_set_self (List.getElem?_eq_some_iff.1 h0).1) (by omega) (fun _ _ => ?_)
  simp [SlcOk, hv, CapOk, hm, hc, hm2]
def AppOk (P : Program) (B : Nat) (w0 : World) (m : BM) (H : List AObj) (w : World) (t rt : TypeId) (us ux : Value) (v : AV) (H' : List AObj) : Prop :=
  ∃ m' w' v', (Builtin.append_ #[t, t] rt #[us, ux]).run P w = .ok v' w' ∧ Tr m H w m' H' w' ∧ Rel B w0 m' H' w' ∧ RV w' m' H' v v'
section
variable {t rt e : TypeId} {i : TypeInfo} {z : Value} (ht : P.underlying t = some (.slice e)) (hi : P.info? e = some i) (hz : i.zero = some z) (hzs : z.cells.size = i.size)
include ht hi hz hzs
theorem app_nil (r : Rel B w0 m H w) (hsz : 0 < i.size) {ad : Addr} {cap' : Nat} {xs : List AV} {cv : Nat → Nat → Value} (hA : At w m H i.size ad xs cv) (hpos : 0 < xs.length)
    (hb : xs.length * i.bytes ≤ 140737488355328) (hb2 : xs.length ≤ 9223372036854775807) :
    AppOk P B w0 m H w t rt (.slice none 0 0) (.slice (some ad) xs.length cap') (.slc H.length xs.length 0 xs.length none) (H ++ [{ ty := e, sz := i.size, es := xs }]) := by
  have hr := run_append_nil (P := P) w t rt e i z ht hi hz ad xs.length cap' (flat i.size xs.length cv) (flat_length _ _ _) (fun j u hj => hA.cells hj) hpos (by omega) (by omega)
  obtain ⟨t2, r2⟩ := r.grown e hsz hA (ys := []) (l := []) (by simp) (none_row _) (grownCap w xs.length 0 e) (Builtin.zeroCells z.cells (grownCap w xs.length 0 e - xs.length)) (by have := grownCap_ge w xs.length 0 e; simpa using this) (by rw [size_zeroCells, hzs]; simp)
  simp only [List.nil_append, Array.empty_append] at t2 r2
  exact ⟨_, _, _, hr, t2, r2, new_slc _ rfl rfl (grownCap_ge w xs.length 0 e)⟩
theorem app_grow (r : Rel B w0 m H w) (hsz : 0 < i.size) {ad sa : Addr} {cap cap' : Nat} {xs ys : List AV} {cv cvs : Nat → Nat → Value} (hA : At w m H i.size ad xs cv) (hS : At w m H i.size sa ys cvs) (hcap : cap < ys.length + xs.length)
    (hb : (ys.length + xs.length) * i.bytes ≤ 140737488355328) (hb2 : ys.length + xs.length ≤ 9223372036854775807) :
    AppOk P B w0 m H w t rt (.slice (some sa) ys.length cap) (.slice (some ad) xs.length cap') (.slc H.length (ys.length + xs.length) 0 (ys.length + xs.length) none) (H ++ [{ ty := e, sz := i.size, es := ys ++ xs }]) := by
  have hr := run_append_grow (P := P) w t rt e i z ht hi hz sa ys.length cap (flat i.size ys.length cvs) (flat_length _ _ _) (fun j u hj => hS.cells hj) ad xs.length cap' (flat i.size xs.length cv) (flat_length _ _ _) (fun j u hj => hA.cells hj) hcap (by omega) (growslice_fits (by omega) hb)
  obtain ⟨t2, r2⟩ := r.grown e hsz hA (ys := ys) (l := flat i.size ys.length cvs) (flat_length _ _ _) hS.row (grownCap w (ys.length + xs.length) cap e) (Builtin.zeroCells z.cells (grownCap w (ys.length + xs.length) cap e - (ys.length + xs.length))) (grownCap_ge w _ cap e) (by rw [size_zeroCells, hzs])
  exact ⟨_, _, _, hr, t2, r2, new_slc _ (by simp) rfl (grownCap_ge w (ys.length + xs.length) cap e)⟩
theorem app_gone (r : Rel B w0 m H w) {j : Nat} {o : AObj} (ho : H[j]? = some o) (hl : o.live = true) (hosz : o.sz = i.size) (hoty : o.ty = e) {ad sa : Addr} {cap cap' : Nat} {xs : List AV} {cv cvs : Nat → Nat → Value}
    (hA : At w m H i.size ad xs cv) (hpos : 0 < xs.length) (hS : At w m H i.size sa o.es cvs) (hcap : cap < o.es.length + xs.length)
    (hb : (o.es.length + xs.length) * i.bytes ≤ 140737488355328) (hb2 : o.es.length + xs.length ≤ 9223372036854775807) :
    AppOk P B w0 m H w t rt (.slice (some sa) o.es.length cap) (.slice (some ad) xs.length cap') (.slc j (o.es.length + xs.length) 0 (o.es.length + xs.length) none) (H.set j { o with es := o.es ++ xs, vir := none }) := by
  subst hoty
  have hr := run_append_grow (P := P) w t rt o.ty i z ht hi hz sa o.es.length cap (flat i.size o.es.length cvs) (flat_length _ _ _) (fun j u hj => hS.cells hj) ad xs.length cap' (flat i.size xs.length cv) (flat_length _ _ _) (fun j u hj => hA.cells hj) hcap (by omega) (growslice_fits (by omega) hb)
  obtain ⟨t2, r2⟩ := r.gone ho hl (ad := ad) (cv := cv) (by rw [hosz]; exact hA) (ys := o.es) (l := flat i.size o.es.length cvs) (by rw [flat_length, hosz]) (by rw [hosz]; exact hS.row) (grownCap w (o.es.length + xs.length) cap o.ty) (Builtin.zeroCells z.cells (grownCap w (o.es.length + xs.length) cap o.ty - (o.es.length + xs.length))) (by simp; omega) (grownCap_ge w _ cap o.ty) (by rw [size_zeroCells, hzs, hosz])
  simp only [← hosz] at hr t2 r2 ⊢
  exact ⟨_, _, _, hr, t2, r2, set_slc ho _ (by simp) rfl (grownCap_ge w _ cap o.ty) (by simp [bump]) (by simp [bump])⟩
theorem app_vir (r : Rel B w0 m H w) {j : Nat} {o : AObj} (ho : H[j]? = some o) (hl : o.live = true) (hosz : o.sz = i.size) (hoty : o.ty = e) {ad : Addr} {A : Option Addr} {cap' : Nat} {xs : List AV} {cv : Nat → Nat → Value}
    (hA : At w m H i.size ad xs cv) (hpos : 0 < xs.length) (hes : o.es = [])
    (hb : xs.length * i.bytes ≤ 140737488355328) (hb2 : xs.length ≤ 9223372036854775807) :
    AppOk P B w0 m H w t rt (.slice A 0 0) (.slice (some ad) xs.length cap') (.slc j xs.length 0 xs.length none) (H.set j { o with es := xs, vir := none }) := by
  cases A with
  | some sa =>
    have := app_gone ht hi hz hzs (rt := rt) r ho hl hosz hoty (cap := 0) (cap' := cap') (sa := sa) hA hpos (cvs := fun _ _ => undef) (by rw [hes]; intro k hk; simp at hk) (by omega) (by simp [hes]; exact hb) (by simp [hes]; exact hb2)
    simpa [hes] using this
  | none =>
    subst hoty
    have hr := run_append_nil (P := P) w t rt o.ty i z ht hi hz ad xs.length cap' (flat i.size xs.length cv) (flat_length _ _ _) (fun j u hj => hA.cells hj) hpos (by omega) (by omega)
    obtain ⟨t2, r2⟩ := r.gone ho hl (ad := ad) (cv := cv) (by rw [hosz]; exact hA) (ys := []) (l := []) (by simp) (none_row _) (grownCap w xs.length 0 o.ty) (Builtin.zeroCells z.cells (grownCap w xs.length 0 o.ty - xs.length)) (by simp [hes]; omega) (by have := grownCap_ge w xs.length 0 o.ty; simpa using this) (by rw [size_zeroCells, hzs, hosz]; simp)
    simp only [List.nil_append, Array.empty_append, ← hosz] at hr t2 r2 ⊢
    exact ⟨_, _, _, hr, t2, r2, set_slc ho _ rfl rfl (grownCap_ge w _ 0 o.ty) (by simp [bump]) (by simp [bump])⟩
omit hz hzs in
theorem app_room (r : Rel B w0 m H w) {j : Nat} {o : AObj} (ho : H[j]? = some o) (hl : o.live = true) (hv : o.vir = none) (hosz : o.sz = i.size) (hoty : o.ty = e) {ad : Addr} {cap cap' : Nat} {xs : List AV} {cv : Nat → Nat → Value}
    (hA : At w m H i.size ad xs cv) (hone : allOneCell i.size xs = true) (hroom : o.es.length + xs.length ≤ cap) (hcap : cap ≤ (m j).2) :
    AppOk P B w0 m H w t rt (.slice (some ⟨(m j).1, 0, none⟩) o.es.length cap) (.slice (some ad) xs.length cap') (.slc j (o.es.length + xs.length) 0 (o.es.length + xs.length) none) (H.set j { o with es := o.es ++ xs }) := by
  subst hoty
  obtain ⟨arr, h1, ⟨h2, h2'⟩, h3⟩ := r.obj j o ho hl hv
  have hf : o.es.length * i.size + xs.length * i.size ≤ arr.size := by
    rw [← Nat.add_mul, ← hosz]
    exact Nat.le_trans (Nat.mul_le_mul_right _ (by omega)) h2'
  have hr := run_append_room (P := P) w t rt o.ty i ht hi (m j).1 o.es.length cap arr h1 ad xs.length cap' (flat i.size xs.length cv) (flat_length _ _ _) (fun j u hj => hA.cells hj) (hA.one hone) hroom (by rw [flat_length]; exact hf)
  have hys : ∀ k (hk : k < o.es.length), (cellsOf o.es[k]).length = i.size ∧ ∀ q (hq : q < (cellsOf o.es[k]).length), ∃ v, (arr.toList.take (o.es.length * i.size))[k * i.size + q]? = some v ∧ RV w m H (cellsOf o.es[k])[q] v := by
    intro k hk
    obtain ⟨a1, a2⟩ := h3 k hk
    refine ⟨by omega, fun q hq => ?_⟩
    obtain ⟨v, b1, b2⟩ := a2 q hq
    refine ⟨v, ?_, b2⟩
    rw [List.getElem?_take_of_lt (idx_lt hk (by omega)), Array.getElem?_toList, ← hosz]; exact b1
  have hrow := flat_row hA (ys := o.es) (l := arr.toList.take (o.es.length * i.size)) (by simp; omega) hys (arr.toList.drop (o.es.length * i.size + (flat i.size xs.length cv).length)).toArray
  obtain ⟨t2, r2⟩ := r.turn ho hl hv (o.es ++ xs) (by simp) ((arr.toList.take (o.es.length * i.size)).toArray ++ (flat i.size xs.length cv).toArray ++ (arr.toList.drop (o.es.length * i.size + (flat i.size xs.length cv).length)).toArray)
    ⟨by simp; omega, by simp [flat_length]; omega⟩ (by rw [hosz]; exact hrow)
  have e1 : ((arr.toList.take (o.es.length * i.size)).toArray ++ (flat i.size xs.length cv).toArray ++ (arr.toList.drop (o.es.length * i.size + (flat i.size xs.length cv).length)).toArray) =
      (arr.toList.take (o.es.length * i.size) ++ flat i.size xs.length cv ++ arr.toList.drop (o.es.length * i.size + (flat i.size xs.length cv).length)).toArray := by simp
  rw [e1] at t2 r2
  exact ⟨_, _, _, hr, t2, r2, set_slc ho { o with es := o.es ++ xs } (by simp) hv hroom rfl hcap⟩
omit hz hzs in
theorem app_in (r : Rel B w0 m H w) {j : Nat} {o : AObj} (ho : H[j]? = some o) (hl : o.live = true) (hv : o.vir = none) (hosz : o.sz = i.size) (hoty : o.ty = e) {ad : Addr} {n cap cap' : Nat} {xs : List AV} {cv : Nat → Nat → Value}
    (hA : At w m H i.size ad xs cv) (hone : allOneCell i.size xs = true) (hfit : n + xs.length ≤ o.es.length) (hc1 : o.es.length ≤ cap) (hcap : cap ≤ (m j).2) :
    AppOk P B w0 m H w t rt (.slice (some ⟨(m j).1, 0, none⟩) n cap) (.slice (some ad) xs.length cap') (.slc j o.es.length 0 (n + xs.length) none) (H.set j { o with es := o.es.take n ++ xs ++ o.es.drop (n + xs.length) }) := by
  subst hoty
  obtain ⟨arr, h1, hf, t2, r2⟩ := r.over ho hl hv (off := n) (ys := xs) (l := flat i.size xs.length cv) (by rw [flat_length, hosz]) hfit (by rw [hosz]; exact hA.row)
  have hr := run_append_room (P := P) w t rt o.ty i ht hi (m j).1 n cap arr h1 ad xs.length cap' (flat i.size xs.length cv) (flat_length _ _ _) (fun j u hj => hA.cells hj) (hA.one hone) (by omega) (by rw [hosz] at hf; exact hf)
  simp only [← hosz] at hr t2 r2 ⊢
  refine ⟨_, _, _, hr, t2, r2, ?_⟩
  refine .slc _ (List.getElem?_set_self (List.getElem?_eq_some_iff.1 ho).1) (by simp; omega) (fun _ _ => ?_)
  simp [SlcOk, hv, CapOk]
  omega
theorem app_sound (r : Rel B w0 m H w) {s x : AX} {us ux : Value} (hs : RV w m H (s.ev fr) us) (hx : RV w m H (x.ev fr) ux) {v : AV} {H' : List AObj} (h : evK (.app e i.size i.bytes s x) fr H = some (v, H')) :
    AppOk P B w0 m H w t rt us ux v H' := by
  simp only [evK] at h
  cases hel : elems i.size H (x.ev fr) with
  | none => simp [hel] at h
  | some xs =>
    simp only [hel] at h
    obtain ⟨A', cap', rfl, hcap', hat⟩ := elems_sound r hel hx
    split at h
    case isFalse => cases h
    rename_i hc1
    obtain ⟨hsz, hone⟩ := hc1
    split at h
    · rename_i nl c sz' ys hse
      rw [hse] at hs
      have hs' : RI w (Wr m H) (.imm nl c sz' ys) us := by cases hs with | ri h => exact h
      split at h
      · rename_i hnl; subst hnl
        cases hs' with | nil =>
        split at h
        · rename_i hxs
          cases h; subst hxs
          exact ⟨m, w, _, run_append_nothing ht hi none 0 0 A' cap' (Nat.le_refl _), Tr.refl _ _ _, r, .ri (.nil _ _)⟩
        · rename_i hne
          split at h
          case isFalse => cases h
          rename_i hb
          cases h
          obtain ⟨ad, cv, rfl, hA⟩ := hat hne
          exact app_nil ht hi hz hzs r hsz hA (List.length_pos_iff.2 hne) hb.1 hb.2
      · rename_i hnl
        have hnl' : nl = false := by simpa using hnl
        subst hnl'
        cases hs' with
        | nilx =>
          split at h
          case isFalse => cases h
          split at h
          · rename_i hxs
            cases h; subst hxs
            exact ⟨m, w, _, run_append_nothing ht hi none 0 0 A' cap' (Nat.le_refl _), Tr.refl _ _ _, r, .ri (.nilx _ _ (by assumption))⟩
          · rename_i hne
            split at h
            case isFalse => cases h
            rename_i hb
            cases h
            obtain ⟨ad, cv, rfl, hA⟩ := hat hne
            simpa using app_nil ht hi hz hzs r hsz hA (List.length_pos_iff.2 hne) (by simpa using hb.1) (by simpa using hb.2)
        | @imm sa n cap _ _ _ cvs hn hcap hcc hcell hszs hrvs =>
        split at h
        case isFalse => cases h
        rename_i hcond
        obtain ⟨hck, rfl, honey⟩ := hcond
        have hk := hcc _ hck
        subst hn
        split at h
        · rename_i hxs
          cases h; subst hxs
          exact ⟨m, w, _, run_append_nothing ht hi (some sa) _ _ A' cap' hcap, Tr.refl _ _ _, r, .ri (.imm cvs rfl hcap hcc hcell hszs hrvs)⟩
        · rename_i hne
          split at h
          case isFalse => cases h
          rename_i hb
          cases h
          obtain ⟨ad, cv, rfl, hA⟩ := hat hne
          have hpos : 0 < xs.length := List.length_pos_iff.2 hne
          exact app_grow ht hi hz hzs r hsz hA (fun k hk => ⟨hszs k hk, fun j hj => ⟨(hcell k j hk (by have := hszs k hk; omega)).1, .ri (hrvs k j hk hj)⟩⟩) (by omega) hb.1 hb.2
    · rename_i j L off n c hse
      rw [hse] at hs
      cases hlv : live? H j L with
      | none => simp [hlv] at h
      | some o =>
        simp only [hlv] at h
        obtain ⟨ho, hl, hL⟩ := live?_some hlv
        obtain ⟨A, cap, o', rfl, ho', hL', hok⟩ := hs.slc_inv
        rw [ho] at ho'; cases ho'
        have hok := hok hl hL
        split at h
        case isFalse =>
          split at h
          case isFalse => cases h
          rename_i hcond
          obtain ⟨hosz, hoty, rfl, rfl, hv, hfit⟩ := hcond
          subst hL
          have hok' := hok
          unfold SlcOk at hok
          rw [hv] at hok
          obtain ⟨hA0, hA1, hA2, hA3, hA4, hA5⟩ := hok
          split at h
          · rename_i hxs
            cases h; subst hxs
            exact ⟨m, w, _, run_append_nothing ht hi A n cap A' cap' hA3, Tr.refl _ _ _, r, hs⟩
          · rename_i hne
            cases h
            obtain ⟨ad, cv, rfl, hA⟩ := hat hne
            have hpos : 0 < xs.length := List.length_pos_iff.2 hne
            simp only [CapOk] at hA4
            have hAe := hA1 (by omega)
            subst hAe
            have := app_in ht hi (rt := rt) (cap' := cap') (cap := cap) (n := n) r ho hl hv hosz hoty hA hone hfit (by omega) (by omega)
            simpa using this
        rename_i hcond
        obtain ⟨hosz, hoty, rfl, rfl, rfl, hb1, hb2, honeo⟩ := hcond
        have hncap : n ≤ cap := by
          unfold SlcOk at hok
          cases hv : o.vir with
          | some b => rw [hv] at hok; omega
          | none => rw [hv] at hok; exact hok.2.2.2.1
        split at h
        · rename_i hxs
          cases h; subst hxs
          exact ⟨m, w, _, run_append_nothing ht hi A n cap A' cap' hncap, Tr.refl _ _ _, r, hs⟩
        · rename_i hne
          cases h
          obtain ⟨ad, cv, rfl, hA⟩ := hat hne
          have hpos : 0 < xs.length := List.length_pos_iff.2 hne
          subst hL
          cases hv : o.vir with
          | some b =>
            unfold SlcOk at hok
            rw [hv] at hok
            obtain ⟨hA0, hn0, -, rfl⟩ := hok
            have hes : o.es = [] := List.eq_nil_of_length_eq_zero hn0
            have := app_vir ht hi hz hzs (rt := rt) (A := A) (cap' := cap') r ho hl hosz hoty hA hpos hes (by simp [hes] at hb1; exact hb1) (by simp [hes] at hb2; exact hb2)
            simpa [hes] using this
          | none =>
            have hok' := hok
            unfold SlcOk at hok
            rw [hv] at hok
            obtain ⟨hA0, hA1, hA2, hA3, hA4, hA5⟩ := hok
            obtain ⟨cvo, hO⟩ := r.at ho hl hv
            rw [hosz] at hO
            by_cases hroom : o.es.length + xs.length ≤ cap
            · have hAe := hA1 (by omega)
              subst hAe
              have := app_room ht hi (rt := rt) (cap' := cap') r ho hl hv hosz hoty hA hone hroom (by omega)
              simpa [hv] using this
            · obtain ⟨sa, rfl⟩ := Option.isSome_iff_exists.1 hA0
              have hS : At w m H i.size sa o.es cvo := by
                by_cases hc0 : 0 < cap
                · have hAe := hA1 hc0
                  simp only [Nat.zero_mul, Option.some.injEq] at hAe
                  rw [hAe]; exact hO
                · have : o.es = [] := List.eq_nil_of_length_eq_zero (by omega)
                  rw [this]; intro k hk; simp at hk
              exact app_gone ht hi hz hzs r ho hl hosz hoty hA hpos hS (by omega) hb1 hb2
    · cases h
end
end
end Go.Fw
/- The other operations. -/
namespace Go.Fw
open Go Go.RowKit
section
variable {P : Program} {B : Nat} {w0 w : World} {m : BM} {H : List AObj} {fr : List AV} {a : Act}
theorem ptr_at (r : Rel B w0 m H w) {i L k f : Nat} {v : Value} (h : RV w m H (.ptr i L k f) v) {o : AObj} (hl : live? H i L = some o) (hv : o.vir = none) {e : AV} (he : o.es[k]? = some e) :
    ∃ cv : Nat → Value, v = .pointer (some ((⟨(m i).1, k * o.sz, none⟩ : Addr).add f)) ∧ (cellsOf e).length = o.sz ∧
      (∀ j, j < (cellsOf e).length → w.cell? ((⟨(m i).1, k * o.sz, none⟩ : Addr).add j) = some (cv j) ∧ w.frozen? ((⟨(m i).1, k * o.sz, none⟩ : Addr).add j) = false) ∧
      ∀ j (hj : j < (cellsOf e).length), RV w m H (cellsOf e)[j] (cv j) := by
  obtain ⟨ho, hlv, hL⟩ := live?_some hl
  obtain ⟨ad, o', rfl, ho', _, had⟩ := h.ptr_inv
  rw [ho] at ho'; cases ho'
  have had := had hlv hL
  subst had
  obtain ⟨h1, h2⟩ := r.elem ho hlv hv he
  have ea : ∀ j, (⟨(m i).1, k * o.sz, none⟩ : Addr).add j = ⟨(m i).1, k * o.sz + j, none⟩ := by intro j; unfold Addr.add; split <;> simp_all
  refine ⟨fun j => (w.cell? ⟨(m i).1, k * o.sz + j, none⟩).getD undef, by rw [ea], h1, fun j hj => ?_, fun j hj => ?_⟩
  · obtain ⟨v, h3, h4, _⟩ := h2 j hj
    simp only [ea, h3, h4, Option.getD_some, and_self]
  · obtain ⟨v, h3, _, h4⟩ := h2 j hj
    simp only [h3, Option.getD_some]; exact h4
theorem ld_sound (r : Rel B w0 m H w) {t : TypeId} {sz : Nat} {ag : Bool} (hs : szT P t = some sz) (hg : isAggT P t = some ag) {p : AX} {u : Value} (hp : RV w m H (p.ev fr) u)
    {v : AV} {H' : List AObj} (h : evK (.ld sz ag p) fr H = some (v, H')) : H' = H ∧ ∃ u', (Instr.loadAt t u).run P w = .ok u' w ∧ RV w m H v u' := by
  simp only [evK] at h
  split at h
  · rename_i i L k f hpe
    rw [hpe] at hp
    cases hlv : live? H i L with
    | none => simp [hlv] at h
    | some o =>
      simp only [hlv] at h
      split at h
      case isFalse => cases h
      rename_i hv
      cases he : o.es[k]? with
      | none => simp [he] at h
      | some e =>
        simp only [he] at h
        cases hpo : partOf ag f sz e with
        | none => simp [hpo] at h
        | some v' =>
          simp only [hpo, Option.some.injEq, Prod.mk.injEq] at h
          obtain ⟨rfl, rfl⟩ := h
          obtain ⟨cv, rfl, h1, h2, h3⟩ := ptr_at r hp hlv hv he
          exact ⟨rfl, load_part hs hg hpo (fun j hj => (h2 j hj).1) h3⟩
  · rename_i e f hpe
    rw [hpe] at hp
    cases hpo : partOf ag f sz e with
    | none => simp [hpo] at h
    | some v' =>
      simp only [hpo, Option.some.injEq, Prod.mk.injEq] at h
      obtain ⟨rfl, rfl⟩ := h
      obtain ⟨ad, cv, rfl, h1, h2⟩ := hp.ipt_inv
      exact ⟨rfl, load_part hs hg hpo (fun j hj => (h1 j hj).1) h2⟩
  · cases h
theorem setAll_length : ∀ (xs : List AV) (cs : List AV) (f : Nat), (setAll cs f xs).length = cs.length
  | [], _, _ => rfl
  | x :: xs, cs, f => by simp [setAll, setAll_length xs]
theorem setAll_get : ∀ (xs : List AV) (cs : List AV) (f : Nat), f + xs.length ≤ cs.length → ∀ j, (setAll cs f xs)[j]? = if f ≤ j ∧ j < f + xs.length then xs[j - f]? else cs[j]?
  | [], cs, f, _, j => by
    have : ¬ (f ≤ j ∧ j < f + ([] : List AV).length) := by simp
    rw [if_neg this, setAll]
  | x :: xs, cs, f, h, j => by
    have h' : f + (xs.length + 1) ≤ cs.length := by simpa using h
    have hx : (x :: xs).length = xs.length + 1 := rfl
    rw [setAll, setAll_get xs (cs.set f x) (f + 1) (by simp; omega) j, hx]
    by_cases h1 : f + 1 ≤ j ∧ j < f + 1 + xs.length
    · have h2 : f ≤ j ∧ j < f + (xs.length + 1) := by omega
      rw [if_pos h1, if_pos h2, show j - f = (j - (f + 1)) + 1 by omega]; simp
    · rw [if_neg h1]
      by_cases e : j = f
      · subst e
        have h2 : j ≤ j ∧ j < j + (xs.length + 1) := by omega
        rw [if_pos h2, List.getElem?_set_self (by omega)]; simp
      · have h2 : ¬ (f ≤ j ∧ j < f + (xs.length + 1)) := by omega
        rw [if_neg h2, List.getElem?_set_ne (by omega)]
theorem setPart_cells {f : Nat} {e x e' : AV} (h : setPart f e x = some e') : (cellsOf e').length = (cellsOf e).length ∧ f + (cellsOf x).length ≤ (cellsOf e).length ∧
    ∀ j, (cellsOf e')[j]? = if f ≤ j ∧ j < f + (cellsOf x).length then (cellsOf x)[j - f]? else (cellsOf e)[j]? := by
  unfold setPart at h
  split at h
  · rename_i cs
    split at h
    · rename_i hle
      cases h
      exact ⟨by simp [cellsOf, setAll_length], hle, fun j => setAll_get _ _ _ hle j⟩
    · cases h
  · rename_i he
    split at h
    · cases h
    · rename_i hx
      split at h
      · rename_i hf
        cases h; subst hf
        have c1 : cellsOf e = [e] := by cases e <;> first | rfl | exact absurd rfl (he _)
        have c2 : cellsOf x = [x] := by cases x <;> first | rfl | exact absurd rfl (hx _)
        rw [c1, c2]
        refine ⟨rfl, by simp, fun j => ?_⟩
        cases j with
        | zero => simp
        | succ j => simp
      · cases h
theorem st_sound (r : Rel B w0 m H w) {t : TypeId} {sz : Nat} (hs : szT P t = some sz) {p x : AX} {u ux : Value} (hp : RV w m H (p.ev fr) u) (hx : RV w m H (x.ev fr) ux)
    {v : AV} {H' : List AObj} (h : evK (.st sz p x) fr H = some (v, H')) :
    v = .tup [] ∧ ∃ w', (Instr.storeAt t u ux).run P w = .ok () w' ∧ Tr m H w m H' w' ∧ Rel B w0 m H' w' := by
  simp only [evK] at h
  split at h
  case h_2 => cases h
  rename_i i L k f hpe
  rw [hpe] at hp
  cases hlv : live? H i L with
  | none => simp [hlv] at h
  | some o =>
    simp only [hlv] at h
    split at h
    case isFalse => cases h
    rename_i hc
    obtain ⟨hv, hok⟩ := hc
    cases he : o.es[k]? with
    | none => simp [he] at h
    | some e =>
      simp only [he] at h
      cases hsp : setPart f e (x.ev fr) with
      | none => simp [hsp] at h
      | some e' =>
        simp only [hsp, Option.some.injEq, Prod.mk.injEq] at h
        obtain ⟨rfl, rfl⟩ := h
        refine ⟨rfl, ?_⟩
        obtain ⟨cv, rfl, h1, h2, h3⟩ := ptr_at r hp hlv hv he
        obtain ⟨ho, hl, hL⟩ := live?_some hlv
        obtain ⟨x1, x2, x3, x4⟩ := okEl_cells hx hok
        obtain ⟨p1, p2, p3⟩ := setPart_cells hsp
        obtain ⟨arr, a1, ⟨a2, a2'⟩, a3⟩ := r.obj i o ho hl hv
        obtain ⟨it, hit, hisz⟩ := szT_inv hs
        have hk : k < o.es.length := (List.getElem?_eq_some_iff.1 he).1
        have hfit : k * o.sz + o.sz ≤ arr.size := by
          have : (k + 1) * o.sz ≤ (m i).2 * o.sz := Nat.mul_le_mul_right _ (by omega)
          rw [Nat.add_mul] at this; omega
        have ea : (⟨(m i).1, k * o.sz, none⟩ : Addr).add f = ⟨(m i).1, k * o.sz + f, none⟩ := by unfold Addr.add; split <;> simp_all
        have hst := run_storeCells_at P (m i).1 (k * o.sz + f) o.ty ux.cells.toList 0 arr w a1 (by simp; omega) x4
        have hrun : (Instr.storeAt t (.pointer (some ((⟨(m i).1, k * o.sz, none⟩ : Addr).add f))) ux).run P w =
            .ok () (w.setRow (m i).1 (arr.toList.take (k * o.sz + f) ++ ux.cells.toList ++ arr.toList.drop (k * o.sz + f + ux.cells.toList.length)).toArray) := by
          rw [ea]
          have hne : ¬ (ux.cells.size ≠ it.size) := by omega
          simp only [Instr.storeAt, Instr.sureAddr, storeVar, Sem.run_bind, Sem.run_pure, Result.andThen_ok, sizeOf, typeInfo, run_program, hit, hne, if_false]
          simpa using hst
        have hgl : ∀ q, (arr.toList.take (k * o.sz + f) ++ ux.cells.toList ++ arr.toList.drop (k * o.sz + f + ux.cells.toList.length))[q]? =
            if k * o.sz + f ≤ q ∧ q < k * o.sz + f + sz then ux.cells.toList[q - (k * o.sz + f)]? else arr[q]? := by
          intro q
          have hl1 : (arr.toList.take (k * o.sz + f)).length = k * o.sz + f := by simp; omega
          by_cases c1 : q < k * o.sz + f
          · rw [if_neg (by omega), List.append_assoc, List.getElem?_append_left (by omega), List.getElem?_take_of_lt c1, Array.getElem?_toList]
          · by_cases c2 : q < k * o.sz + f + sz
            · rw [if_pos ⟨by omega, c2⟩, List.append_assoc, List.getElem?_append_right (by omega), hl1, List.getElem?_append_left (by simp; omega)]
            · rw [if_neg (by omega), List.append_assoc, List.getElem?_append_right (by omega), hl1, List.getElem?_append_right (by simp; omega), List.getElem?_drop, ← Array.getElem?_toList]
              congr 1; simp; omega
        obtain ⟨t2, r2⟩ := r.turn ho hl hv (o.es.set k e') (by simp) (arr.toList.take (k * o.sz + f) ++ ux.cells.toList ++ arr.toList.drop (k * o.sz + f + ux.cells.toList.length)).toArray
          ⟨by simp; omega, by simp; omega⟩ (by
            intro k' hk'
            have hk2 : k' < o.es.length := by simpa using hk'
            obtain ⟨b1, b2⟩ := a3 k' hk2
            rw [List.getElem_set]
            by_cases ek : k = k'
            · subst ek
              simp only [if_true]
              have hee : o.es[k] = e := by
                have := List.getElem?_eq_getElem hk
                rw [he] at this; exact (Option.some.inj this).symm
              refine ⟨by omega, fun j hj => ?_⟩
              have hje : j < (cellsOf e).length := by omega
              simp only [List.getElem?_toArray, hgl]
              have hp3 := p3 j
              by_cases c : f ≤ j ∧ j < f + (cellsOf (x.ev fr)).length
              · rw [if_pos (by omega)]
                rw [if_pos c] at hp3
                have hjx : j - f < (cellsOf (x.ev fr)).length := by omega
                have hju : j - f < ux.cells.size := by omega
                refine ⟨ux.cells[j - f], by rw [show k * o.sz + j - (k * o.sz + f) = j - f by omega]; simp [hju], ?_⟩
                have e3 : (cellsOf e')[j] = (cellsOf (x.ev fr))[j - f] := by
                  rw [List.getElem?_eq_getElem hj, List.getElem?_eq_getElem hjx] at hp3
                  exact Option.some.inj hp3
                rw [e3]; exact x3 _ hjx hju
              · rw [if_neg (by omega)]
                rw [if_neg c] at hp3
                have e3 : (cellsOf e')[j] = (cellsOf e)[j] := by
                  rw [List.getElem?_eq_getElem hj, List.getElem?_eq_getElem hje] at hp3
                  exact Option.some.inj hp3
                subst hee
                obtain ⟨v, c1, c2⟩ := b2 j hje
                exact ⟨v, c1, by rw [e3]; exact c2⟩
            · simp only [ek, if_false]
              refine ⟨b1, fun j hj => ?_⟩
              obtain ⟨v, c1, c2⟩ := b2 j hj
              refine ⟨v, ?_, c2⟩
              simp only [List.getElem?_toArray, hgl]
              rw [if_neg]
              · exact c1
              · intro hh
                rcases Nat.lt_or_gt_of_ne ek with hlt | hlt
                · have : (k + 1) * o.sz ≤ k' * o.sz := Nat.mul_le_mul_right _ hlt
                  rw [Nat.add_mul] at this; omega
                · have : (k' + 1) * o.sz ≤ k * o.sz := Nat.mul_le_mul_right _ hlt
                  rw [Nat.add_mul] at this; omega)
        exact ⟨_, hrun, t2, r2⟩
end
end Go.Fw
