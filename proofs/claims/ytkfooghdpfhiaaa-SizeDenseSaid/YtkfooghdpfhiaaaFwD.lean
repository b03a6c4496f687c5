/- How the relation between objects and world is kept: a new object, an object turned, an object moved. -/
import Derived.Test.YtkfooghdpfhiaaaFwC
namespace Go.Fw
open Go Go.RowKit

theorem Rel.wr_lt {B : Nat} {w0 w : World} {m : BM} {H : List AObj} (r : Rel B w0 m H w) {b : Nat} (h : Wr m H b) : b < w.heap.size := by
  rcases h with h | ⟨i, ⟨o, ho, hl, hv⟩, rfl⟩
  · exact Nat.lt_of_lt_of_le (r.xlt b h) r.hB
  obtain ⟨arr, h1, _⟩ := r.obj i o ho hl hv
  exact (Array.getElem?_eq_some_iff.1 h1).1

theorem Rel.drew {B : Nat} {w0 w : World} {m : BM} {H : List AObj} (r : Rel B w0 m H w) (n : Nat) : Tr m H w m H { w with drawn := n } ∧ Rel B w0 m H { w with drawn := n } := by
  have t : Tr m H w m H { w with drawn := n } :=
    ⟨Nat.le_refl _, Nat.le_refl _, fun a v _ h => h, fun _ _ h => h, fun i o o' h h' => by rw [h] at h'; cases h'; exact ⟨Nat.le_refl _, fun hl _ => ⟨hl, rfl, rfl, rfl⟩⟩, rfl⟩
  refine ⟨t, ⟨⟨r.below.os, r.below.tape, r.below.output, r.below.size, r.below.block⟩, r.hB, r.szpos, r.virt, r.base, fun i o ho hl hv => ?_, r.inj, r.xlt⟩⟩
  obtain ⟨arr, h1, h2, h3⟩ := r.obj i o ho hl hv
  exact ⟨arr, h1, h2, fun k hk => ⟨(h3 k hk).1, fun j hj => let ⟨v, a, b⟩ := (h3 k hk).2 j hj; ⟨v, a, b.mono t⟩⟩⟩

section
variable {B : Nat} {w0 w : World} {m : BM} {H : List AObj}

def bump (m : BM) (i : Nat) (b : Nat × Nat) : BM := { m with pl := fun k => if k = i then b else m k }
theorem bump_x (m : BM) (i : Nat) (b : Nat × Nat) : (bump m i b).x = m.x := rfl
theorem bump_same (m : BM) (i : Nat) (b : Nat × Nat) : bump m i b i = b := by simp [bump]
theorem bump_same1 (m : BM) (i b c : Nat) : (bump m i (b, c) i).1 = b := by simp [bump]
theorem bump_other (m : BM) {i k : Nat} (b : Nat × Nat) (h : k ≠ i) : bump m i b k = m k := by simp [bump, h]

theorem heap_alloc_old (w : World) (o : Obj) {b : Nat} (h : b < w.heap.size) : (w.alloc o).heap[b]? = w.heap[b]? := Below.heap_alloc w o b h
theorem heap_alloc_new' (w : World) (o : Obj) : (w.alloc o).heap[w.heap.size]? = some o := by
  show (w.heap.push o)[w.heap.size]? = _
  simp

/-- A new object. -/
theorem Rel.alloc (r : Rel B w0 m H w) (ty sz cp : Nat) (es : List AV) (arr : Array Value) (hsz : 0 < sz) (harr : es.length ≤ cp ∧ cp * sz ≤ arr.size)
    (hc : ∀ k (hk : k < es.length), (cellsOf es[k]).length = sz ∧ ∀ j (hj : j < (cellsOf es[k]).length), ∃ v, arr[k * sz + j]? = some v ∧ RV w m H (cellsOf es[k])[j] v) :
    Tr m H w (bump m H.length (w.heap.size, cp)) (H ++ [{ ty := ty, sz := sz, es := es }]) (w.alloc (.cells arr ty)) ∧
    Rel B w0 (bump m H.length (w.heap.size, cp)) (H ++ [{ ty := ty, sz := sz, es := es }]) (w.alloc (.cells arr ty)) := by
  have hget : ∀ i o, H[i]? = some o → (H ++ [({ ty := ty, sz := sz, es := es } : AObj)])[i]? = some o ∧ bump m H.length (w.heap.size, cp) i = m i := by
    intro i o h
    have hi := (List.getElem?_eq_some_iff.1 h).1
    exact ⟨by rw [List.getElem?_append_left hi]; exact h, bump_other _ _ (by omega)⟩
  have hinv : ∀ i o, (H ++ [({ ty := ty, sz := sz, es := es } : AObj)])[i]? = some o → (H[i]? = some o ∧ i < H.length) ∨ (i = H.length ∧ o = { ty := ty, sz := sz, es := es }) := by
    intro i o h
    by_cases hi : i < H.length
    · rw [List.getElem?_append_left hi] at h; exact .inl ⟨h, hi⟩
    · have hlt := (List.getElem?_eq_some_iff.1 h).1
      simp at hlt
      have : i = H.length := by omega
      subst this
      simp at h; exact .inr ⟨rfl, h.symm⟩
  have hwr : ∀ b, Wr (bump m H.length (w.heap.size, cp)) (H ++ [{ ty := ty, sz := sz, es := es }]) b → Wr m H b ∨ b = w.heap.size := by
    rintro b (hx | ⟨i, ⟨o, ho, hl, hv⟩, rfl⟩)
    · exact .inl (.inl hx)
    rcases hinv i o ho with ⟨h, hi⟩ | ⟨rfl, rfl⟩
    · exact .inl (.inr ⟨i, ⟨o, h, hl, hv⟩, by rw [bump_other _ _ (by omega)]⟩)
    · exact .inr (bump_same1 _ _ _ _)
  have t : Tr m H w (bump m H.length (w.heap.size, cp)) (H ++ [{ ty := ty, sz := sz, es := es }]) (w.alloc (.cells arr ty)) := by
    refine ⟨by simp, by simp, fun a v _ hcl => ?_, fun b hb hn hw => ?_, fun i o o' h h' => ?_, rfl⟩
    · rw [World.cell?_alloc_lt _ _ _ (block_lt hcl)]; exact hcl
    · rcases hwr b hw with h | h
      · exact hn h
      · omega
    · rw [(hget i o h).1] at h'; cases h'
      exact ⟨Nat.le_refl _, fun hl _ => ⟨hl, (hget i o h).2, rfl, rfl⟩⟩
  refine ⟨t, ⟨r.below.alloc r.hB _, by have := r.hB; simp; omega, ?_, ?_, ?_, ?_, ?_, r.xlt⟩⟩
  · intro i o h
    rcases hinv i o h with ⟨h, _⟩ | ⟨rfl, rfl⟩
    · exact r.szpos i o h
    · exact hsz
  · intro i o h hv
    rcases hinv i o h with ⟨h, _⟩ | ⟨rfl, rfl⟩
    · exact r.virt i o h hv
    · exact absurd rfl hv
  · rintro i ⟨o, h, hl, hv⟩
    rcases hinv i o h with ⟨h, hi⟩ | ⟨rfl, rfl⟩
    · rw [bump_other _ _ (by omega)]; exact r.base i ⟨o, h, hl, hv⟩
    · rw [bump_same]; exact r.hB
  · intro i o h hl hv
    rcases hinv i o h with ⟨h, hi⟩ | ⟨rfl, rfl⟩
    · obtain ⟨arr', h1, h2, h3⟩ := r.obj i o h hl hv
      refine ⟨arr', ?_, by rw [bump_other _ _ (by omega)]; exact h2, fun k hk => ⟨(h3 k hk).1, fun j hj => let ⟨v, a, b⟩ := (h3 k hk).2 j hj; ⟨v, a, b.mono t⟩⟩⟩
      rw [bump_other _ _ (by omega), heap_alloc_old _ _ (Array.getElem?_eq_some_iff.1 h1).1]; exact h1
    · refine ⟨arr, ?_, by rw [bump_same]; exact harr, fun k hk => ⟨(hc k hk).1, fun j hj => let ⟨v, a, b⟩ := (hc k hk).2 j hj; ⟨v, a, b.mono t⟩⟩⟩
      rw [bump_same, heap_alloc_new']
  · rintro i i' ⟨o, h, hl, hv⟩ ⟨o', h', hl', hv'⟩ e
    rcases hinv i o h with ⟨h, hi⟩ | ⟨rfl, rfl⟩ <;> rcases hinv i' o' h' with ⟨h', hi'⟩ | ⟨rfl, rfl⟩
    · rw [bump_other _ _ (by omega), bump_other _ _ (by omega)] at e
      exact r.inj i i' ⟨o, h, hl, hv⟩ ⟨o', h', hl', hv'⟩ e
    · rw [bump_other _ _ (by omega), bump_same] at e
      have := r.wr_lt (.inr ⟨i, ⟨o, h, hl, hv⟩, rfl⟩); omega
    · rw [bump_same, bump_other _ _ (by omega)] at e
      have := r.wr_lt (.inr ⟨i', ⟨o', h', hl', hv'⟩, rfl⟩); omega
    · rfl

theorem set_inv {i j : Nat} {o o' q : AObj} (ho : H[i]? = some o) (h : (H.set i o')[j]? = some q) : (j = i ∧ q = o') ∨ (j ≠ i ∧ H[j]? = some q) := by
  by_cases e : j = i
  · subst e
    have hi := (List.getElem?_eq_some_iff.1 ho).1
    rw [List.getElem?_set_self hi] at h
    exact .inl ⟨rfl, (Option.some.inj h).symm⟩
  · rw [List.getElem?_set_ne (by omega)] at h; exact .inr ⟨e, h⟩

/-- An object turned in its own block. -/
theorem Rel.turn (r : Rel B w0 m H w) {i : Nat} {o : AObj} (ho : H[i]? = some o) (hl : o.live = true) (hv : o.vir = none) (es' : List AV) (hlen : o.es.length ≤ es'.length)
    (arr : Array Value) (harr : es'.length ≤ (m i).2 ∧ (m i).2 * o.sz ≤ arr.size)
    (hc : ∀ k (hk : k < es'.length), (cellsOf es'[k]).length = o.sz ∧ ∀ j (hj : j < (cellsOf es'[k]).length), ∃ v, arr[k * o.sz + j]? = some v ∧ RV w m H (cellsOf es'[k])[j] v) :
    Tr m H w m (H.set i { o with es := es' }) (w.setRow (m i).1 arr) ∧ Rel B w0 m (H.set i { o with es := es' }) (w.setRow (m i).1 arr) := by
  obtain ⟨arr0, h0, _, _⟩ := r.obj i o ho hl hv
  have hwr : ∀ b, Wr m (H.set i { o with es := es' }) b → Wr m H b := by
    rintro b (hx | ⟨j, ⟨q, hq, hql, hqv⟩, rfl⟩)
    · exact .inl hx
    rcases set_inv ho hq with ⟨rfl, rfl⟩ | ⟨hne, hq⟩
    · exact .inr ⟨j, ⟨o, ho, hl, hv⟩, rfl⟩
    · exact .inr ⟨j, ⟨q, hq, hql, hqv⟩, rfl⟩
  have t : Tr m H w m (H.set i { o with es := es' }) (w.setRow (m i).1 arr) := by
    refine ⟨by simp, by simp, fun a v hn hcl => ?_, fun b _ hn hw => hn (hwr b hw), fun j q q' h h' => ?_, rfl⟩
    · rw [cell_setRow_other _ _ _ _ (fun e => hn (.inr ⟨i, ⟨o, ho, hl, hv⟩, e.symm⟩))]; exact hcl
    · rcases set_inv ho h' with ⟨rfl, rfl⟩ | ⟨hne, h'⟩
      · rw [ho] at h; cases h; exact ⟨hlen, fun _ _ => ⟨hl, rfl, rfl, rfl⟩⟩
      · rw [h] at h'; cases h'; exact ⟨Nat.le_refl _, fun hl _ => ⟨hl, rfl, rfl, rfl⟩⟩
  have hbelow : Below B w0 (w.setRow (m i).1 arr) := r.below.trans ⟨rfl, rfl, rfl, by simp, fun k hk => setRow_other _ _ _ _ (by have := r.base i ⟨o, ho, hl, hv⟩; omega)⟩
  refine ⟨t, ⟨hbelow, by have := r.hB; simpa using this, ?_, ?_, ?_, ?_, ?_, r.xlt⟩⟩
  · intro j q h
    rcases set_inv ho h with ⟨rfl, rfl⟩ | ⟨_, h⟩
    · exact r.szpos j o ho
    · exact r.szpos j q h
  · intro j q h hvv
    rcases set_inv ho h with ⟨rfl, rfl⟩ | ⟨_, h⟩
    · exact absurd hv hvv
    · exact r.virt j q h hvv
  · rintro j ⟨q, h, hql, hqv⟩
    rcases set_inv ho h with ⟨rfl, rfl⟩ | ⟨_, h⟩
    · exact r.base j ⟨o, ho, hl, hv⟩
    · exact r.base j ⟨q, h, hql, hqv⟩
  · intro j q h hql hqv
    rcases set_inv ho h with ⟨rfl, rfl⟩ | ⟨hne, h⟩
    · refine ⟨arr, setRow_heap _ _ _ _ _ _ h0, harr, fun k hk => ⟨(hc k hk).1, fun j hj => let ⟨v, a, b⟩ := (hc k hk).2 j hj; ⟨v, a, b.mono t⟩⟩⟩
    · obtain ⟨arr', h1, h2, h3⟩ := r.obj j q h hql hqv
      refine ⟨arr', ?_, h2, fun k hk => ⟨(h3 k hk).1, fun j hj => let ⟨v, a, b⟩ := (h3 k hk).2 j hj; ⟨v, a, b.mono t⟩⟩⟩
      rw [setRow_other _ _ _ _ (fun e => hne (r.inj j i ⟨q, h, hql, hqv⟩ ⟨o, ho, hl, hv⟩ e))]; exact h1
  · rintro j j' ⟨q, h, hql, hqv⟩ ⟨q', h', hql', hqv'⟩ e
    have a1 : Real H j := by
      rcases set_inv ho h with ⟨e1, e2⟩ | ⟨_, h2⟩
      · rw [e1]; exact ⟨o, ho, hl, hv⟩
      · exact ⟨q, h2, hql, hqv⟩
    have a2 : Real H j' := by
      rcases set_inv ho h' with ⟨e1, e2⟩ | ⟨_, h2⟩
      · rw [e1]; exact ⟨o, ho, hl, hv⟩
      · exact ⟨q', h2, hql', hqv'⟩
    exact r.inj j j' a1 a2 e

/-- An object that goes on, longer, in a new block. -/
theorem Rel.move (r : Rel B w0 m H w) {i : Nat} {o : AObj} (ho : H[i]? = some o) (_hl : o.live = true) (es' : List AV) (hlen : o.es.length < es'.length)
    (cp : Nat) (arr : Array Value) (harr : es'.length ≤ cp ∧ cp * o.sz ≤ arr.size)
    (hc : ∀ k (hk : k < es'.length), (cellsOf es'[k]).length = o.sz ∧ ∀ j (hj : j < (cellsOf es'[k]).length), ∃ v, arr[k * o.sz + j]? = some v ∧ RV w m H (cellsOf es'[k])[j] v) :
    Tr m H w (bump m i (w.heap.size, cp)) (H.set i { o with es := es', vir := none }) (w.alloc (.cells arr o.ty)) ∧
    Rel B w0 (bump m i (w.heap.size, cp)) (H.set i { o with es := es', vir := none }) (w.alloc (.cells arr o.ty)) := by
  have hi := (List.getElem?_eq_some_iff.1 ho).1
  have hwr : ∀ b, Wr (bump m i (w.heap.size, cp)) (H.set i { o with es := es', vir := none }) b → Wr m H b ∨ b = w.heap.size := by
    rintro b (hx | ⟨j, ⟨q, hq, hql, hqv⟩, rfl⟩)
    · exact .inl (.inl hx)
    rcases set_inv ho hq with ⟨rfl, rfl⟩ | ⟨hne, hq⟩
    · exact .inr (bump_same1 _ _ _ _)
    · exact .inl (.inr ⟨j, ⟨q, hq, hql, hqv⟩, by rw [bump_other _ _ hne]⟩)
  have t : Tr m H w (bump m i (w.heap.size, cp)) (H.set i { o with es := es', vir := none }) (w.alloc (.cells arr o.ty)) := by
    refine ⟨by simp, by simp, fun a v _ hcl => ?_, fun b hb hn hw => ?_, fun j q q' h h' => ?_, rfl⟩
    · rw [World.cell?_alloc_lt _ _ _ (block_lt hcl)]; exact hcl
    · rcases hwr b hw with h | h
      · exact hn h
      · omega
    · rcases set_inv ho h' with ⟨rfl, rfl⟩ | ⟨hne, h'⟩
      · rw [ho] at h; cases h; exact ⟨Nat.le_of_lt hlen, fun _ e => absurd e (by simp; omega)⟩
      · rw [h] at h'; cases h'; exact ⟨Nat.le_refl _, fun hl _ => ⟨hl, bump_other _ _ hne, rfl, rfl⟩⟩
  refine ⟨t, ⟨r.below.alloc r.hB _, by have := r.hB; simp; omega, ?_, ?_, ?_, ?_, ?_, r.xlt⟩⟩
  · intro j q h
    rcases set_inv ho h with ⟨rfl, rfl⟩ | ⟨_, h⟩
    · exact r.szpos j o ho
    · exact r.szpos j q h
  · intro j q h hvv
    rcases set_inv ho h with ⟨rfl, rfl⟩ | ⟨_, h⟩
    · exact absurd rfl hvv
    · exact r.virt j q h hvv
  · rintro j ⟨q, h, hql, hqv⟩
    rcases set_inv ho h with ⟨rfl, rfl⟩ | ⟨hne, h⟩
    · rw [bump_same]; exact r.hB
    · rw [bump_other _ _ hne]; exact r.base j ⟨q, h, hql, hqv⟩
  · intro j q h hql hqv
    rcases set_inv ho h with ⟨rfl, rfl⟩ | ⟨hne, h⟩
    · refine ⟨arr, ?_, by rw [bump_same]; exact harr, fun k hk => ⟨(hc k hk).1, fun j hj => let ⟨v, a, b⟩ := (hc k hk).2 j hj; ⟨v, a, b.mono t⟩⟩⟩
      rw [bump_same, heap_alloc_new']
    · obtain ⟨arr', h1, h2, h3⟩ := r.obj j q h hql hqv
      refine ⟨arr', ?_, by rw [bump_other _ _ hne]; exact h2, fun k hk => ⟨(h3 k hk).1, fun j hj => let ⟨v, a, b⟩ := (h3 k hk).2 j hj; ⟨v, a, b.mono t⟩⟩⟩
      rw [bump_other _ _ hne, heap_alloc_old _ _ (Array.getElem?_eq_some_iff.1 h1).1]; exact h1
  · rintro j j' ⟨q, h, hql, hqv⟩ ⟨q', h', hql', hqv'⟩ e
    rcases set_inv ho h with ⟨e1, e2⟩ | ⟨hne, h2⟩ <;> rcases set_inv ho h' with ⟨e1', e2'⟩ | ⟨hne', h2'⟩
    · rw [e1, e1']
    · rw [e1, bump_same, bump_other _ _ hne'] at e
      have := r.wr_lt (.inr ⟨j', ⟨q', h2', hql', hqv'⟩, rfl⟩); omega
    · rw [e1', bump_same, bump_other _ _ hne] at e
      have := r.wr_lt (.inr ⟨j, ⟨q, h2, hql, hqv⟩, rfl⟩); omega
    · rw [bump_other _ _ hne, bump_other _ _ hne'] at e
      exact r.inj j j' ⟨q, h2, hql, hqv⟩ ⟨q', h2', hql', hqv'⟩ e
end
end Go.Fw
