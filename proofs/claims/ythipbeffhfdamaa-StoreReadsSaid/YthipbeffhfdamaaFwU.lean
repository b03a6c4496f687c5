/- Other views of the same state: objects let go and taken for immutable; contracts that hold for no objects hold for any. -/
import Derived.Test.YthipbeffhfdamaaFwT
namespace Go.Fw
open Go Go.RowKit
def frz (H : List AObj) (k : Nat) : Nat → Bool → AV → AV
  | 0, _, v =>
    match v with
    | .agg cs => .agg (cs.map fun _ => .und)
    | .sc v => .sc v
    | .imm nl c sz xs => .imm nl c sz xs
    | .ipt e f => .ipt e f
    | _ => .und
  | n + 1, b, v =>
    match v with
    | .agg cs => .agg (cs.map (frz H k n b))
    | .tup cs => .tup (cs.map (frz H k n b))
    | .fn f x y => .fn f (x.map (frz H k n b)) (y.map (frz H k n b))
    | .ifc t v => .ifc t (frz H k n b v)
    | .slc i L off q c =>
      if i < k then (if b then .slc i L off q c else .und)
      else match live? H i L with
        | some o => match o.vir with
          | some true => .imm true none o.sz []
          | some false => .imm false (some 0) o.sz []
          | none => if off + q ≤ L then .imm false c o.sz ((if off = 0 ∧ q = L then o.es else (o.es.drop off).take q).map (frz H k n false)) else .und
        | none => .und
    | .ptr i L q f =>
      if i < k then (if b then .ptr i L q f else .und)
      else match live? H i L with
        | some o => if o.vir = none then match o.es[q]? with
            | some e => .ipt (frz H k n false e) f
            | none => .und
          else .und
        | none => .und
    | v => v
def isA : AV → Bool
  | .agg _ => true
  | _ => false
theorem isA_cells {v : AV} (h : isA v = false) : cellsOf v = [v] := by cases v <;> first | rfl | cases h
theorem frz_isA (H : List AObj) (k n : Nat) (b : Bool) (v : AV) : isA (frz H k n b v) = isA v := by
  cases n <;> cases v <;> simp only [frz]
  all_goals first | rfl | ((repeat' split) <;> rfl)
theorem frz_cells (H : List AObj) (k n : Nat) (b : Bool) (v : AV) : (cellsOf (frz H k n b v)).length = (cellsOf v).length := by
  cases h : isA v with
  | true =>
    cases v <;> first | (cases h; done) | skip
    cases n <;> simp [frz, cellsOf]
  | false => rw [isA_cells h, isA_cells (by rw [frz_isA]; exact h)]; rfl
theorem frz_cell (H : List AObj) (k n : Nat) (b : Bool) (v : AV) (j : Nat) (h : j < (cellsOf (frz H k n b v)).length) (h' : j < (cellsOf v).length) :
    (∃ n', n' ≤ n ∧ (cellsOf (frz H k n b v))[j] = frz H k n' b (cellsOf v)[j]) ∨ (cellsOf (frz H k n b v))[j] = .und := by
  cases hv : isA v with
  | true =>
    cases v <;> first | (cases hv; done) | skip
    cases n with
    | zero => right; simp [frz, cellsOf]
    | succ n => left; exact ⟨n, by omega, by simp [frz, cellsOf]⟩
  | false =>
    left
    refine ⟨n, Nat.le_refl _, ?_⟩
    have e1 := isA_cells hv
    have e2 := isA_cells (v := frz H k n b v) (by rw [frz_isA]; exact hv)
    have hj : j = 0 := by rw [e1] at h'; simpa using h'
    subst hj
    simp only [e1, e2, List.getElem_cons_zero]
def frzH (H : List AObj) (k n : Nat) : List AObj := (H.take k).map fun o => { o with es := o.es.map (frz H k n true) }
theorem frzH_get {H : List AObj} {k n i : Nat} {o' : AObj} (h : (frzH H k n)[i]? = some o') : i < k ∧ ∃ o, H[i]? = some o ∧ o' = { o with es := o.es.map (frz H k n true) } := by
  unfold frzH at h
  rw [List.getElem?_map, Option.map_eq_some_iff] at h
  obtain ⟨o, ho, rfl⟩ := h
  rw [List.getElem?_take] at ho
  split at ho
  · rename_i hi; exact ⟨hi, o, ho, rfl⟩
  · cases ho
theorem frzH_of {H : List AObj} {k i : Nat} (n : Nat) {o : AObj} (hi : i < k) (h : H[i]? = some o) : (frzH H k n)[i]? = some { o with es := o.es.map (frz H k n true) } := by
  unfold frzH
  rw [List.getElem?_map, List.getElem?_take, if_pos hi, h]; rfl
section
variable {B : Nat} {w0 w : World} {m : BM} {H : List AObj}
theorem frz_wr {k n b : Nat} (h : Wr m (frzH H k n) b) : Wr m H b := by
  rcases h with h | ⟨i, ⟨o, ho, hl, hv⟩, rfl⟩
  · exact .inl h
  · obtain ⟨_, q, hq, rfl⟩ := frzH_get ho
    exact .inr ⟨i, ⟨q, hq, hl, hv⟩, rfl⟩
theorem frz_wr_not {k n i : Nat} (r : Rel B w0 m H w) (hr : Real H i) (hi : k ≤ i) : ¬ Wr m (frzH H k n) (m i).1 := by
  rintro (h | ⟨j, ⟨o, ho, hl, hv⟩, e⟩)
  · have := r.xlt _ h
    have := r.base i hr
    omega
  · obtain ⟨hj, q, hq, rfl⟩ := frzH_get ho
    have := r.inj j i ⟨q, hq, hl, hv⟩ hr e
    omega
theorem frz_imm {k n : Nat} {a : AV} {v : Value} (h : RI w (Wr m H) a v) : RI w (Wr m (frzH H k n)) a v := h.mono (fun _ _ _ h => h) fun _ _ hn hw => hn (frz_wr hw)
theorem frz_ri0 {k nn : Nat} {a : AV} {v : Value} (h : RV w m H a v) : RI w (Wr m (frzH H k nn)) (frz H k 0 false a) v := by
  cases h with
  | ri h =>
    have h' := frz_imm (k := k) (n := nn) h
    cases h' with
    | agg hn hr => exact .agg (by simpa using hn) (fun j hj hj' => by simp only [List.getElem_map]; exact .und _)
    | sc v hp => exact .sc v hp
    | nil c sz => exact .nil c sz
    | nilx c sz hc => exact .nilx c sz hc
    | imm cv a b c d e f => exact .imm cv a b c d e f
    | ipt cv a b => exact .ipt cv a b
    | _ => exact .und _
  | agg hn hr => exact .agg (by simpa using hn) (fun j hj hj' => by simp only [List.getElem_map]; exact .und _)
  | _ => exact .und _
theorem frz_ri {k nn : Nat} (r : Rel B w0 m H w) : ∀ (n : Nat) {a : AV} {v : Value}, RV w m H a v → RI w (Wr m (frzH H k nn)) (frz H k n false a) v := by
  intro n
  induction n using Nat.strongRecOn with
  | _ n ih =>
  cases n with
  | zero => intro a v h; exact frz_ri0 h
  | succ n =>
    intro a v h
    have lst : ∀ {as : List AV} {vs : Array Value}, as.length = vs.size → (∀ j (h : j < as.length) (h' : j < vs.size), RV w m H as[j] vs[j]) →
        (as.map (frz H k n false)).length = vs.size ∧ ∀ j (h : j < (as.map (frz H k n false)).length) (h' : j < vs.size), RI w (Wr m (frzH H k nn)) (as.map (frz H k n false))[j] vs[j] := by
      intro as vs hn hr
      refine ⟨by simpa using hn, fun j hj hj' => ?_⟩
      simp only [List.getElem_map]
      exact ih n (by omega) (hr j (by simpa using hj) hj')
    -- an element of an object let go, in its cells
    have el : ∀ {i : Nat} {o : AObj}, H[i]? = some o → o.live = true → o.vir = none → k ≤ i → ∀ (q : Nat) (e : AV), o.es[q]? = some e →
        (cellsOf (frz H k n false e)).length = o.sz ∧ ¬ Wr m (frzH H k nn) (m i).1 ∧ ∀ j (hj : j < (cellsOf (frz H k n false e)).length), ∃ u, w.cell? ⟨(m i).1, q * o.sz + j, none⟩ = some u ∧ RI w (Wr m (frzH H k nn)) (cellsOf (frz H k n false e))[j] u := by
      intro i o ho hl hv hi q e he
      obtain ⟨c1, c2⟩ := r.elem ho hl hv he
      refine ⟨by rw [frz_cells]; exact c1, frz_wr_not r ⟨o, ho, hl, hv⟩ hi, fun j hj => ?_⟩
      have hj' : j < (cellsOf e).length := by rw [frz_cells] at hj; exact hj
      obtain ⟨u, c3, _, c4⟩ := c2 j hj'
      refine ⟨u, c3, ?_⟩
      rcases frz_cell H k n false e j hj hj' with ⟨n', hn', e1⟩ | e1
      · rw [e1]; exact ih n' (by omega) c4
      · rw [e1]; exact .und _
    have slc : ∀ {A : Option Addr} {i L off q cap : Nat} {c : Option Nat} {o : AObj}, H[i]? = some o → L ≤ o.es.length → (o.live = true → o.es.length = L → SlcOk o (m i) A L off q cap c) →
        RI w (Wr m (frzH H k nn)) (frz H k (n + 1) false (.slc i L off q c)) (.slice A q cap) := by
      intro A i L off q cap c o ho hL hv
      simp only [frz]
      split
      · simp only [Bool.false_eq_true, if_false]; exact .und _
      rename_i hik
      cases hlv : live? H i L with
      | none => exact .und _
      | some o' =>
        obtain ⟨h1, h2, h3⟩ := live?_some hlv
        rw [ho] at h1; cases h1
        have hs := hv h2 h3
        unfold SlcOk at hs
        cases hvir : o.vir with
        | some z =>
          rw [hvir] at hs
          obtain ⟨g1, rfl, rfl, rfl⟩ := hs
          cases z with
          | true =>
            have : A = none := by simpa using g1
            subst this
            simp only [hvir]
            exact .nil _ _
          | false =>
            simp only [hvir]
            cases A with
            | none => simp at g1
            | some a => exact .imm (fun _ _ => undef) rfl (Nat.le_refl _) (fun k e => by injection e with e; exact e.symm) (fun k j h => by omega) (fun k h => by simp at h) (fun k j h => by simp at h)
        | none =>
          rw [hvir] at hs
          obtain ⟨g1, g2, g3, g4, g5, g6⟩ := hs
          simp only [hvir]
          rw [if_pos g3]
          cases A with
          | none => simp at g1
          | some a =>
            obtain ⟨xs, hxe, hxs, hxg⟩ : ∃ xs, (if off = 0 ∧ q = L then o.es else (o.es.drop off).take q) = xs ∧ xs.length = q ∧ ∀ x (_ : x < q) (hx' : x < xs.length), ∃ h : off + x < o.es.length, xs[x] = o.es[off + x] := by
              refine ⟨_, rfl, ?_, fun x hx hx' => ⟨by omega, ?_⟩⟩
              · split
                · rename_i h; omega
                · simp; omega
              · split
                · rename_i h; obtain ⟨rfl, _⟩ := h; simp
                · simp
            rw [hxe]
            have hel : ∀ x (hx : x < q), (cellsOf (frz H k n false (xs[x]'(by omega)))).length = o.sz ∧ ¬ Wr m (frzH H k nn) (m i).1 ∧ ∀ j (hj : j < (cellsOf (frz H k n false (xs[x]'(by omega)))).length), ∃ u, w.cell? ⟨(m i).1, (off + x) * o.sz + j, none⟩ = some u ∧ RI w (Wr m (frzH H k nn)) (cellsOf (frz H k n false (xs[x]'(by omega))))[j] u := by
              intro x hx
              obtain ⟨h, e⟩ := hxg x hx (by omega)
              exact el ho h2 hvir (by omega) (off + x) _ (by rw [e]; exact List.getElem?_eq_getElem h)
            have ha : ∀ x, x < q → a = ⟨(m i).1, off * o.sz, none⟩ := fun x hx => by have := g2 (by omega); cases this; rfl
            have hadd : ∀ x j, x < q → a.add (x * o.sz + j) = ⟨(m i).1, (off + x) * o.sz + j, none⟩ := by
              intro x j hx
              rw [ha x hx, Nat.add_mul]
              unfold Addr.add; split <;> simp_all <;> omega
            refine .imm (fun x j => (w.cell? (a.add (x * o.sz + j))).getD undef) (by simpa using hxs) g4 ?_ (fun x j hx hj => ?_) (fun x hx => ?_) (fun x j hx hj => ?_)
            · intro k' e
              subst e
              simpa [CapOk] using g5.symm
            · obtain ⟨d1, d2, d3⟩ := hel x hx
              obtain ⟨u, d4, _⟩ := d3 j (by omega)
              rw [hadd x j hx, d4]
              exact ⟨rfl, by rw [ha x hx]; exact d2⟩
            · simp only [List.getElem_map]
              exact (hel x (by simp at hx; omega)).1
            · have hx' : x < q := by simp at hx; omega
              simp only [List.getElem_map] at hj ⊢
              obtain ⟨d1, d2, d3⟩ := hel x hx'
              obtain ⟨u, d4, d5⟩ := d3 j hj
              rw [hadd x j hx', d4]
              exact d5
    have ptr : ∀ {a : Addr} {i L q f : Nat} {o : AObj}, H[i]? = some o → L ≤ o.es.length → (o.live = true → o.es.length = L → a = ⟨(m i).1, q * o.sz + f, none⟩) →
        RI w (Wr m (frzH H k nn)) (frz H k (n + 1) false (.ptr i L q f)) (.pointer (some a)) := by
      intro a i L q f o ho hL hv
      simp only [frz]
      split
      · simp only [Bool.false_eq_true, if_false]; exact .und _
      rename_i hik
      cases hlv : live? H i L with
      | none => exact .und _
      | some o' =>
        obtain ⟨h1, h2, h3⟩ := live?_some hlv
        rw [ho] at h1; cases h1
        have hs := hv h2 h3
        simp only
        split
        case isFalse => exact .und _
        rename_i hvir
        cases he : o.es[q]? with
        | none => exact .und _
        | some e =>
          obtain ⟨d1, d2, d3⟩ := el ho h2 hvir (by omega) q e he
          have hadd : ∀ j, (⟨(m i).1, q * o.sz, none⟩ : Addr).add j = ⟨(m i).1, q * o.sz + j, none⟩ := by
            intro j; unfold Addr.add; split <;> simp_all
          have : a = (⟨(m i).1, q * o.sz, none⟩ : Addr).add f := by rw [hs, hadd]
          rw [this]
          refine .ipt (fun j => (w.cell? ⟨(m i).1, q * o.sz + j, none⟩).getD undef) (fun j hj => ?_) (fun j hj => ?_)
          · obtain ⟨u, d4, _⟩ := d3 j hj
            rw [hadd, d4]; exact ⟨rfl, d2⟩
          · obtain ⟨u, d4, d5⟩ := d3 j hj
            rw [d4]; exact d5
    cases h with
    | ri h =>
      have h' := frz_imm (k := k) (n := nn) h
      cases h' with
      | sc v hp => exact .sc v hp
      | nil c sz => exact .nil c sz
      | nilx c sz hc => exact .nilx c sz hc
      | imm cv a b c d e f => exact .imm cv a b c d e f
      | ipt cv a b => exact .ipt cv a b
      | und => exact .und _
      | agg hn hr => cases h with | agg hn hr => obtain ⟨a, b⟩ := lst hn (fun j x y => .ri (hr j x y)); exact .agg a b
      | tup hn hr => cases h with | tup hn hr => obtain ⟨a, b⟩ := lst hn (fun j x y => .ri (hr j x y)); exact .tup a b
      | fn hn hn' hr hr' => cases h with | fn hn hn' hr hr' => obtain ⟨a, b⟩ := lst hn (fun j x y => .ri (hr j x y)); obtain ⟨c, d⟩ := lst hn' (fun j x y => .ri (hr' j x y)); exact .fn a c b d
      | ifc h' => cases h with | ifc h => exact .ifc (ih n (by omega) (.ri h))
    | slc o ho hL hv => exact slc ho hL hv
    | ptr o ho hL hv => exact ptr ho hL hv
    | agg hn hr => obtain ⟨a, b⟩ := lst hn hr; exact .agg a b
    | tup hn hr => obtain ⟨a, b⟩ := lst hn hr; exact .tup a b
    | fn hn hn' hr hr' => obtain ⟨a, b⟩ := lst hn hr; obtain ⟨c, d⟩ := lst hn' hr'; exact .fn a c b d
    | ifc h => exact .ifc (ih n (by omega) h)
theorem frz_rv {k nn : Nat} (r : Rel B w0 m H w) : ∀ (n : Nat) {a : AV} {v : Value}, RV w m H a v → RV w m (frzH H k nn) (frz H k n true a) v := by
  intro n
  induction n with
  | zero =>
    intro a v h
    have : frz H k 0 true a = frz H k 0 false a := rfl
    rw [this]; exact .ri (frz_ri0 h)
  | succ n ih =>
    intro a v h
    have lst : ∀ {as : List AV} {vs : Array Value}, as.length = vs.size → (∀ j (h : j < as.length) (h' : j < vs.size), RV w m H as[j] vs[j]) →
        (as.map (frz H k n true)).length = vs.size ∧ ∀ j (h : j < (as.map (frz H k n true)).length) (h' : j < vs.size), RV w m (frzH H k nn) (as.map (frz H k n true))[j] vs[j] := by
      intro as vs hn hr
      refine ⟨by simpa using hn, fun j hj hj' => ?_⟩
      simp only [List.getElem_map]
      exact ih (hr j (by simpa using hj) hj')
    have h0 := h
    cases h with
    | ri h =>
      have h' := frz_imm (k := k) (n := nn) h
      cases h with
      | sc v hp => exact .ri (.sc v hp)
      | nil c sz => exact .ri (.nil c sz)
      | nilx c sz hc => exact .ri h'
      | imm cv a b c d e f => exact .ri h'
      | ipt cv a b => exact .ri h'
      | und => exact .und _
      | agg hn hr => obtain ⟨a, b⟩ := lst hn (fun j x y => .ri (hr j x y)); exact .agg a b
      | tup hn hr => obtain ⟨a, b⟩ := lst hn (fun j x y => .ri (hr j x y)); exact .tup a b
      | fn hn hn' hr hr' => obtain ⟨a, b⟩ := lst hn (fun j x y => .ri (hr j x y)); obtain ⟨c, d⟩ := lst hn' (fun j x y => .ri (hr' j x y)); exact .fn a c b d
      | ifc h => exact .ifc (ih (.ri h))
    | @slc A i L off q cap c o ho hL hv =>
      by_cases hi : i < k
      · simp only [frz, if_pos hi, if_true]
        exact .slc _ (frzH_of nn hi ho) (by simpa using hL) (fun hl he => hv hl (by simpa using he))
      · have : frz H k (n + 1) true (.slc i L off q c) = frz H k (n + 1) false (.slc i L off q c) := by simp only [frz, if_neg hi]
        rw [this]; exact .ri (frz_ri r _ h0)
    | @ptr a i L q f o ho hL hv =>
      by_cases hi : i < k
      · simp only [frz, if_pos hi, if_true]
        exact .ptr _ (frzH_of nn hi ho) (by simpa using hL) (fun hl he => hv hl (by simpa using he))
      · have : frz H k (n + 1) true (.ptr i L q f) = frz H k (n + 1) false (.ptr i L q f) := by simp only [frz, if_neg hi]
        rw [this]; exact .ri (frz_ri r _ h0)
    | agg hn hr => obtain ⟨a, b⟩ := lst hn hr; exact .agg a b
    | tup hn hr => obtain ⟨a, b⟩ := lst hn hr; exact .tup a b
    | fn hn hn' hr hr' => obtain ⟨a, b⟩ := lst hn hr; obtain ⟨c, d⟩ := lst hn' hr'; exact .fn a c b d
    | ifc h => exact .ifc (ih h)
theorem frz_rel (r : Rel B w0 m H w) (k n : Nat) : Rel B w0 m (frzH H k n) w := by
  have real : ∀ {i}, Real (frzH H k n) i → Real H i := by
    rintro i ⟨o, ho, hl, hv⟩
    obtain ⟨_, q, hq, rfl⟩ := frzH_get ho
    exact ⟨q, hq, hl, hv⟩
  refine ⟨r.below, r.hB, fun i o ho => ?_, fun i o ho hv => ?_, fun i h => r.base i (real h), fun i o ho hl hv => ?_, fun i i' h h' e => r.inj i i' (real h) (real h') e, r.xlt⟩
  · obtain ⟨_, q, hq, rfl⟩ := frzH_get ho
    exact r.szpos i q hq
  · obtain ⟨_, q, hq, rfl⟩ := frzH_get ho
    have := r.virt i q hq hv
    simp only [this, List.map_nil]
  · obtain ⟨_, q, hq, rfl⟩ := frzH_get ho
    obtain ⟨arr, h1, h2, h3⟩ := r.obj i q hq hl hv
    refine ⟨arr, h1, by simpa using h2, fun x hx => ?_⟩
    have hx' : x < q.es.length := by simpa using hx
    obtain ⟨c1, c2⟩ := h3 x hx'
    simp only [List.getElem_map]
    refine ⟨by rw [frz_cells]; exact c1, fun j hj => ?_⟩
    have hj' : j < (cellsOf q.es[x]).length := by rw [frz_cells] at hj; exact hj
    obtain ⟨u, c3, c4⟩ := c2 j hj'
    refine ⟨u, c3, ?_⟩
    rcases frz_cell H k n true q.es[x] j hj hj' with ⟨n', hn', e1⟩ | e1
    · rw [e1]; exact frz_rv r n' c4
    · rw [e1]; exact .und _
theorem frz_tr {mb : BM} {Hb : List AObj} {wb : World} (t : Tr mb Hb wb m H w) {k : Nat} (n : Nat) (hk : Hb.length ≤ k) : Tr mb Hb wb m (frzH H k n) w := by
  refine ⟨t.size, ?_, t.blk, fun b hb hn hw => t.wr b hb hn (frz_wr hw), fun i o o' ho ho' => ?_, t.x⟩
  · have := t.len
    simp only [frzH, List.length_map, List.length_take]; omega
  · obtain ⟨_, q, hq, rfl⟩ := frzH_get ho'
    obtain ⟨a1, a2⟩ := t.ref i o q ho hq
    exact ⟨by simpa using a1, fun hl he => a2 hl (by simpa using he)⟩
theorem Weak.freeze {nb : Nat} {fr : List AV} (k n : Nat) (hk : nb ≤ k) : Weak nb fr H (fr.map (frz H k n true)) (frzH H k n) :=
  fun _B _w0 _mb _Hb _wb m _w _tmps hn t r f => ⟨m, frz_tr t n (by omega), frz_rel r k n, ⟨by simpa using f.len, fun i h1 h2 => by simp only [List.getElem_map]; exact frz_rv r n (f.rv i (by simpa using h1) h2)⟩⟩
theorem Weak.forget {nb : Nat} {fr : List AV} (d : Nat) : Weak nb fr H (fr.set d .und) H := by
  intro B w0 mb Hb wb m w tmps hn t r f
  refine ⟨m, t, r, by simpa using f.len, fun i h1 h2 => ?_⟩
  rw [List.getElem_set]
  split
  · exact .und _
  · exact f.rv i (by simpa using h1) h2
theorem Weak.slots {nb : Nat} {fr : List AV} (ks : List Nat) : Weak nb fr H (fr.zipIdx.map fun p => if ks.contains p.2 then p.1 else .und) H := by
  intro B w0 mb Hb wb m w tmps hn t r f
  refine ⟨m, t, r, by simpa using f.len, fun i h1 h2 => ?_⟩
  simp only [List.getElem_map, List.getElem_zipIdx]
  split
  · simpa using f.rv i (by simpa using h1) h2
  · exact .und _
theorem Weak.own {nb : Nat} {fr : List AV} (d ty sz : Nat) (hsz : 0 < sz) (c : Option Nat) (sz' : Nat) (hd : fr[d]? = some (.imm true c sz' [])) :
    Weak nb fr H (fr.set d (.slc H.length 0 0 0 none)) (H ++ [{ ty := ty, sz := sz, es := [], vir := some true }]) := by
  intro B w0 mb Hb wb m w tmps hn t r f
  have hget : ∀ i o, (H ++ [({ ty := ty, sz := sz, es := [], vir := some true } : AObj)])[i]? = some o → (H[i]? = some o) ∨ (i = H.length ∧ o = { ty := ty, sz := sz, es := [], vir := some true }) := by
    intro i o h
    by_cases hi : i < H.length
    · rw [List.getElem?_append_left hi] at h; exact .inl h
    · have hlt := (List.getElem?_eq_some_iff.1 h).1
      simp at hlt
      have : i = H.length := by omega
      subst this
      simp at h; exact .inr ⟨rfl, h.symm⟩
  have hof : ∀ {i : Nat} {o : AObj}, H[i]? = some o → (H ++ [({ ty := ty, sz := sz, es := [], vir := some true } : AObj)])[i]? = some o := by
    intro i o h
    rw [List.getElem?_append_left (List.getElem?_eq_some_iff.1 h).1]; exact h
  have real : ∀ {i}, Real (H ++ [({ ty := ty, sz := sz, es := [], vir := some true } : AObj)]) i → Real H i := by
    rintro i ⟨o, ho, hl, hv⟩
    rcases hget i o ho with h | ⟨_, rfl⟩
    · exact ⟨o, h, hl, hv⟩
    · cases hv
  have hwr : ∀ b, Wr m (H ++ [({ ty := ty, sz := sz, es := [], vir := some true } : AObj)]) b → Wr m H b := by
    rintro b (h | ⟨i, hr, e⟩)
    · exact .inl h
    · exact .inr ⟨i, real hr, e⟩
  have t1 : Tr m H w m (H ++ [({ ty := ty, sz := sz, es := [], vir := some true } : AObj)]) w := by
    refine ⟨Nat.le_refl _, by simp, fun _ _ _ => rfl, fun b _ hn hw => hn (hwr b hw), fun i o o' ho ho' => ?_, rfl⟩
    rw [hof ho] at ho'; cases ho'
    exact ⟨Nat.le_refl _, fun hl _ => ⟨hl, rfl, rfl, rfl⟩⟩
  refine ⟨m, t.trans t1, ⟨r.below, r.hB, fun i o ho => ?_, fun i o ho hv => ?_, fun i h => r.base i (real h), fun i o ho hl hv => ?_, fun i i' h h' e => r.inj i i' (real h) (real h') e, r.xlt⟩, ?_⟩
  · rcases hget i o ho with h | ⟨_, rfl⟩
    · exact r.szpos i o h
    · exact hsz
  · rcases hget i o ho with h | ⟨_, rfl⟩
    · exact r.virt i o h hv
    · rfl
  · rcases hget i o ho with h | ⟨_, rfl⟩
    · obtain ⟨arr, h1, h2, h3⟩ := r.obj i o h hl hv
      exact ⟨arr, h1, h2, fun k hk => ⟨(h3 k hk).1, fun j hj => let ⟨v, a, b⟩ := (h3 k hk).2 j hj; ⟨v, a, b.mono t1⟩⟩⟩
    · cases hv
  · have f1 := f.mono t1
    refine ⟨by simpa using f.len, fun i h1 h2 => ?_⟩
    rw [List.getElem_set]
    split
    · rename_i e; subst e
      have hdl : d < fr.length := by simpa using h1
      have hv := f.rv d hdl h2
      have e2 : fr[d] = .imm true c sz' [] := by
        rw [List.getElem?_eq_getElem hdl] at hd; exact Option.some.inj hd
      rw [e2] at hv
      have nil_inv : ∀ {v : Value}, RV w m H (.imm true c sz' []) v → v = .slice none 0 0 := by
        intro v hv
        cases hv with | ri h => cases h with | nil => rfl
      rw [nil_inv hv]
      exact .slc { ty := ty, sz := sz, es := [], vir := some true } (by simp) (by simp) (fun _ _ => by simp [SlcOk])
    · exact f1.rv i (by simpa using h1) h2
end
def shv (s : Nat) (fl : Bool) : Nat → AV → AV
  | 0, v =>
    match v with
    | .slc i L off q c => .slc (i + s) L off q c
    | .ptr i L k f => .ptr (i + s) L k f
    | .agg cs => .agg (cs.map fun _ => .und)
    | .sc v => .sc v
    | .imm nl c sz xs => if fl = false ∨ xs = [] then .imm nl c sz xs else .und
    | .ipt e f => if fl then .und else .ipt e f
    | _ => .und
  | n + 1, v =>
    match v with
    | .slc i L off q c => .slc (i + s) L off q c
    | .ptr i L k f => .ptr (i + s) L k f
    | .agg cs => .agg (cs.map (shv s fl n))
    | .tup cs => .tup (cs.map (shv s fl n))
    | .fn f a b => .fn f (a.map (shv s fl n)) (b.map (shv s fl n))
    | .ifc t v => .ifc t (shv s fl n v)
    | .sc v => .sc v
    | .imm nl c sz xs => if fl = false ∨ xs = [] then .imm nl c sz xs else .und
    | .ipt e f => if fl then .und else .ipt e f
    | .und => .und
def shH (s : Nat) (fl : Bool) (n : Nat) (H : List AObj) : List AObj := H.map fun o => { o with es := o.es.map (shv s fl n) }
theorem shv_isA (s : Nat) (fl : Bool) (n : Nat) (v : AV) : isA (shv s fl n v) = isA v := by
  cases n <;> cases v <;> simp only [shv]
  all_goals first | rfl | (split <;> rfl)
theorem shv_cells (s : Nat) (fl : Bool) (n : Nat) (v : AV) : (cellsOf (shv s fl n v)).length = (cellsOf v).length := by
  cases h : isA v with
  | true =>
    cases v <;> first | (cases h; done) | skip
    cases n <;> simp [shv, cellsOf]
  | false => rw [isA_cells h, isA_cells (by rw [shv_isA]; exact h)]; rfl
theorem shv_cell (s : Nat) (fl : Bool) (n : Nat) (v : AV) (j : Nat) (h : j < (cellsOf (shv s fl n v)).length) (h' : j < (cellsOf v).length) :
    (∃ n', (cellsOf (shv s fl n v))[j] = shv s fl n' (cellsOf v)[j]) ∨ (cellsOf (shv s fl n v))[j] = .und := by
  cases hv : isA v with
  | true =>
    cases v <;> first | (cases hv; done) | skip
    cases n with
    | zero => right; simp [shv, cellsOf]
    | succ n => left; exact ⟨n, by simp [shv, cellsOf]⟩
  | false =>
    left
    refine ⟨n, ?_⟩
    have e1 := isA_cells hv
    have e2 := isA_cells (v := shv s fl n v) (by rw [shv_isA]; exact hv)
    have hj : j = 0 := by rw [e1] at h'; simpa using h'
    subst hj
    simp only [e1, e2, List.getElem_cons_zero]
section
variable {w : World} {m1 m2 : BM} {G H2 : List AObj}
theorem shv_rv {s : Nat} {fl : Bool} (hW : fl = false → ∀ b, Wr m2 H2 b → Wr m1 G b) (hG : ∀ (i : Nat) (o : AObj), G[i]? = some o → ∃ es', es'.length = o.es.length ∧ H2[i + s]? = some { o with es := es' } ∧ m2 (i + s) = m1 i) :
    ∀ (n : Nat) {a : AV} {v : Value}, RV w m1 G a v → RV w m2 H2 (shv s fl n a) v := by
  have imm : fl = false → ∀ {a : AV} {v : Value}, RI w (Wr m1 G) a v → RI w (Wr m2 H2) a v := fun hf a v h => h.mono (fun _ _ _ h => h) fun b _ hn hw => hn (hW hf b hw)
  have slc : ∀ {A : Option Addr} {i L off q cap : Nat} {c : Option Nat} (o : AObj), G[i]? = some o → L ≤ o.es.length → (o.live = true → o.es.length = L → SlcOk o (m1 i) A L off q cap c) → RV w m2 H2 (.slc (i + s) L off q c) (.slice A q cap) := by
    intro A i L off q cap c o ho hL hv
    obtain ⟨es', e1, e2, e3⟩ := hG i o ho
    exact .slc _ e2 (by simpa [e1] using hL) (fun hl he => by rw [e3]; exact hv hl (by simpa [e1] using he))
  have ptr : ∀ {a : Addr} {i L k f : Nat} (o : AObj), G[i]? = some o → L ≤ o.es.length → (o.live = true → o.es.length = L → a = ⟨(m1 i).1, k * o.sz + f, none⟩) → RV w m2 H2 (.ptr (i + s) L k f) (.pointer (some a)) := by
    intro a i L k f o ho hL hv
    obtain ⟨es', e1, e2, e3⟩ := hG i o ho
    exact .ptr _ e2 (by simpa [e1] using hL) (fun hl he => by rw [e3]; exact hv hl (by simpa [e1] using he))
  have leaf : ∀ {nl : Bool} {c : Option Nat} {sz : Nat} {xs : List AV} {v : Value}, RI w (Wr m1 G) (.imm nl c sz xs) v → RV w m2 H2 (if fl = false ∨ xs = [] then .imm nl c sz xs else .und) v := by
    intro nl c sz xs v h
    split
    · rename_i hc
      rcases hc with hf | rfl
      · exact .ri (imm hf h)
      · cases h with
        | nil => exact .ri (.nil _ _)
        | nilx _ _ hc => exact .ri (.nilx _ _ hc)
        | imm cv hn hcap hc2 hcell hszs hrv =>
          simp at hn
          subst hn
          exact .ri (.imm cv rfl hcap hc2 (fun k j hk => by omega) (fun k hk => by simp at hk) (fun k j hk => by simp at hk))
    · exact .und _
  have leafp : ∀ {e : AV} {f : Nat} {v : Value}, RI w (Wr m1 G) (.ipt e f) v → RV w m2 H2 (if fl = true then .und else .ipt e f) v := by
    intro e f v h
    split
    · exact .und _
    · rename_i hf; exact .ri (imm (by simpa using hf) h)
  intro n
  induction n with
  | zero =>
    intro a v h
    have agg : ∀ {cs : List AV} {vs : Array Value}, cs.length = vs.size → RV w m2 H2 (.agg (cs.map fun _ => .und)) (.agg vs) := by
      intro cs vs hn
      exact .agg (by simpa using hn) (fun j hj hj' => by simp only [List.getElem_map]; exact .und _)
    cases h with
    | ri h =>
      cases h with
      | sc v hp => exact .sc v hp
      | nil c sz => exact leaf (.nil c sz)
      | nilx c sz hc => exact leaf (.nilx c sz hc)
      | imm cv a b c d e f => exact leaf (.imm cv a b c d e f)
      | ipt cv a b => exact leafp (.ipt cv a b)
      | agg hn hr => exact agg hn
      | _ => exact .und _
    | slc o ho hL hv => exact slc o ho hL hv
    | ptr o ho hL hv => exact ptr o ho hL hv
    | agg hn hr => exact agg hn
    | _ => exact .und _
  | succ n ih =>
    intro a v h
    have lst : ∀ {as : List AV} {vs : Array Value}, as.length = vs.size → (∀ j (h : j < as.length) (h' : j < vs.size), RV w m1 G as[j] vs[j]) →
        (as.map (shv s fl n)).length = vs.size ∧ ∀ j (h : j < (as.map (shv s fl n)).length) (h' : j < vs.size), RV w m2 H2 (as.map (shv s fl n))[j] vs[j] := by
      intro as vs hn hr
      refine ⟨by simpa using hn, fun j hj hj' => ?_⟩
      simp only [List.getElem_map]
      exact ih (hr j (by simpa using hj) hj')
    cases h with
    | ri h =>
      cases h with
      | sc v hp => exact .sc v hp
      | nil c sz => exact leaf (.nil c sz)
      | nilx c sz hc => exact leaf (.nilx c sz hc)
      | imm cv a b c d e f => exact leaf (.imm cv a b c d e f)
      | ipt cv a b => exact leafp (.ipt cv a b)
      | und => exact .und _
      | agg hn hr => obtain ⟨a, b⟩ := lst hn (fun j x y => .ri (hr j x y)); exact .agg a b
      | tup hn hr => obtain ⟨a, b⟩ := lst hn (fun j x y => .ri (hr j x y)); exact .tup a b
      | fn hn hn' hr hr' => obtain ⟨a, b⟩ := lst hn (fun j x y => .ri (hr j x y)); obtain ⟨c, d⟩ := lst hn' (fun j x y => .ri (hr' j x y)); exact .fn a c b d
      | ifc h => exact .ifc (ih (.ri h))
    | slc o ho hL hv => exact slc o ho hL hv
    | ptr o ho hL hv => exact ptr o ho hL hv
    | agg hn hr => obtain ⟨a, b⟩ := lst hn hr; exact .agg a b
    | tup hn hr => obtain ⟨a, b⟩ := lst hn hr; exact .tup a b
    | fn hn hn' hr hr' => obtain ⟨a, b⟩ := lst hn hr; obtain ⟨c, d⟩ := lst hn' hr'; exact .fn a c b d
    | ifc h => exact .ifc (ih h)
end
theorem below_more {B B' : Nat} {w0 w w' : World} (h : Below B w0 w) (k : Below B' w w') (hB : B ≤ B') : Below B w0 w' :=
  h.trans ⟨k.os, k.tape, k.output, k.size, fun b hb => k.block b (by omega)⟩
section
variable {P : Program}
theorem local_core {f : FuncId} {args' : List AV} {H : List AObj} {R : AV → List AObj → Prop} (h : ACalls P f args' [] R) (fl : Bool) (n : Nat)
    {B : Nat} {w0 : World} {m : BM} {w : World} {vs : Array Value} (r : Rel B w0 m H w) (X : Nat → Prop) (hX : ∀ b, X b → b < w.heap.size) (hXw : fl = false → ∀ b, Wr m H b → X b) (hvs : RVs w { m with x := X } [] args' vs) :
    Calls P f vs w fun e w' => ∃ v m' r G, e = .returned v ∧ Tr m H w m' (H ++ shH H.length fl n G) w' ∧ Rel B w0 m' (H ++ shH H.length fl n G) w' ∧ R r G ∧
      RV w' m' (H ++ shH H.length fl n G) (shv H.length fl n r) v ∧ (fl = false → noRef r = true → RV w' m' (H ++ shH H.length fl n G) r v) := by
  have r1 : Rel w.heap.size w { m with x := X } [] w :=
    ⟨⟨rfl, rfl, rfl, Nat.le_refl _, fun _ _ => rfl⟩, Nat.le_refl _, fun i o h => by simp at h, fun i o h => by simp at h, (by rintro i ⟨o, h, _⟩; simp at h), fun i o h => by simp at h, (by rintro i i' ⟨o, h, _⟩; simp at h), hX⟩
  refine (h.2 w.heap.size w _ w vs r1 hvs).mono ?_
  rintro e w' ⟨v, q, m', G, rfl, t', r', hv, hR⟩
  let m2 : BM := { pl := fun i => if i < H.length then m i else m' (i - H.length), x := m.x }
  have m2lo : ∀ i, i < H.length → m2 i = m i := fun i hi => by show (if i < H.length then m i else m' (i - H.length)) = _; rw [if_pos hi]
  have m2hi : ∀ i, m2 (i + H.length) = m' i := fun i => by show (if i + H.length < H.length then m (i + H.length) else m' (i + H.length - H.length)) = _; rw [if_neg (by omega), Nat.add_sub_cancel]
  have glo : ∀ {i : Nat}, i < H.length → (H ++ shH H.length fl n G)[i]? = H[i]? := fun hi => List.getElem?_append_left hi
  have ghi : ∀ {i : Nat} {o : AObj}, (H ++ shH H.length fl n G)[i + H.length]? = some o → ∃ p, G[i]? = some p ∧ o = { p with es := p.es.map (shv H.length fl n) } := by
    intro i o ho
    rw [List.getElem?_append_right (by omega), Nat.add_sub_cancel] at ho
    unfold shH at ho
    rw [List.getElem?_map, Option.map_eq_some_iff] at ho
    obtain ⟨p, h1, h2⟩ := ho
    exact ⟨p, h1, h2.symm⟩
  have gof : ∀ (i : Nat) (o : AObj), G[i]? = some o → (H ++ shH H.length fl n G)[i + H.length]? = some { o with es := o.es.map (shv H.length fl n) } := by
    intro i o ho
    rw [List.getElem?_append_right (by omega), Nat.add_sub_cancel]
    unfold shH
    rw [List.getElem?_map, ho]; rfl
  have split : ∀ i, i < H.length ∨ ∃ j, i = j + H.length := fun i => by
    by_cases hi : i < H.length
    · exact .inl hi
    · exact .inr ⟨i - H.length, by omega⟩
  have real : ∀ i, Real (H ++ shH H.length fl n G) i → (i < H.length ∧ Real H i) ∨ ∃ j, i = j + H.length ∧ Real G j := by
    rintro i ⟨o, ho, hl, hvv⟩
    rcases split i with hi | ⟨j, rfl⟩
    · rw [glo hi] at ho; exact .inl ⟨hi, o, ho, hl, hvv⟩
    · obtain ⟨p, hp, rfl⟩ := ghi ho
      exact .inr ⟨j, rfl, p, hp, hl, hvv⟩
  have hwr : ∀ b, Wr m2 (H ++ shH H.length fl n G) b → Wr m H b ∨ ∃ j, Real G j ∧ (m' j).1 = b := by
    rintro b (hb | ⟨i, hr, rfl⟩)
    · exact .inl (.inl hb)
    · rcases real i hr with ⟨hi, hr⟩ | ⟨j, rfl, hq⟩
      · rw [m2lo i hi]; exact .inl (.inr ⟨i, hr, rfl⟩)
      · rw [m2hi]; exact .inr ⟨j, hq, rfl⟩
  have nowr : ∀ b, Wr { m with x := X } [] b → X b := by
    rintro b (hb | ⟨i, ⟨o, ho, _⟩, _⟩)
    · exact hb
    · simp at ho
  have hx' : m'.x = X := t'.x
  have hW : fl = false → ∀ b, Wr m2 (H ++ shH H.length fl n G) b → Wr m' G b := by
    intro hf b hb
    rcases hwr b hb with h | h
    · exact .inl (by rw [hx']; exact hXw hf b h)
    · exact .inr h
  have hG : ∀ (i : Nat) (o : AObj), G[i]? = some o → ∃ es', es'.length = o.es.length ∧ (H ++ shH H.length fl n G)[i + H.length]? = some { o with es := es' } ∧ m2 (i + H.length) = m' i :=
    fun i o ho => ⟨_, by simp, gof i o ho, m2hi i⟩
  have keep : ∀ b, b < w.heap.size → w'.heap[b]? = w.heap[b]? := fun b hb => r'.below.block b hb
  have t2 : Tr m H w m2 (H ++ shH H.length fl n G) w' := by
    refine ⟨t'.size, by simp, fun b hb _ => keep _ hb, fun b hb hn hw => ?_, fun i o o' ho ho' => ?_, rfl⟩
    · rcases hwr b hw with h | ⟨j, hr, rfl⟩
      · exact hn h
      · have := r'.base j hr; omega
    · have hi := (List.getElem?_eq_some_iff.1 ho).1
      rw [glo hi, ho] at ho'; cases ho'
      exact ⟨Nat.le_refl _, fun hl _ => ⟨hl, m2lo i hi, rfl, rfl⟩⟩
  refine ⟨v, m2, q, G, rfl, t2, ⟨below_more r.below r'.below r.hB, Nat.le_trans r.hB r'.hB, fun i o ho => ?_, fun i o ho hvv => ?_, fun i hr => ?_, fun i o ho hl hvv => ?_, fun i i' hr hr' e => ?_, r.xlt⟩, hR, shv_rv hW hG n hv, fun hf hnr => .ri ((hv.toRI hnr).mono (fun _ _ _ h => h) fun b _ hn hw => hn (hW hf b hw))⟩
  · rcases split i with hi | ⟨j, rfl⟩
    · rw [glo hi] at ho; exact r.szpos i o ho
    · obtain ⟨p, hp, rfl⟩ := ghi ho; exact r'.szpos j p hp
  · rcases split i with hi | ⟨j, rfl⟩
    · rw [glo hi] at ho; exact r.virt i o ho hvv
    · obtain ⟨p, hp, rfl⟩ := ghi ho
      have := r'.virt j p hp hvv
      simp only [this, List.map_nil]
  · rcases real i hr with ⟨hi, hr⟩ | ⟨j, rfl, hq⟩
    · rw [m2lo i hi]; exact r.base i hr
    · rw [m2hi]; exact Nat.le_trans r.hB (r'.base j hq)
  · rcases split i with hi | ⟨j, rfl⟩
    · rw [glo hi] at ho
      obtain ⟨arr, h1, h2, h3⟩ := r.obj i o ho hl hvv
      rw [m2lo i hi]
      exact ⟨arr, by rw [keep _ (Array.getElem?_eq_some_iff.1 h1).1]; exact h1, h2, fun k hk => ⟨(h3 k hk).1, fun j hj => let ⟨v, a, b⟩ := (h3 k hk).2 j hj; ⟨v, a, b.mono t2⟩⟩⟩
    · obtain ⟨p, hp, rfl⟩ := ghi ho
      obtain ⟨arr, h1, h2, h3⟩ := r'.obj j p hp hl hvv
      rw [m2hi]
      refine ⟨arr, h1, by simpa using h2, fun k hk => ?_⟩
      have hk' : k < p.es.length := by simpa using hk
      obtain ⟨c1, c2⟩ := h3 k hk'
      simp only [List.getElem_map]
      refine ⟨by rw [shv_cells]; exact c1, fun x hx => ?_⟩
      have hx' : x < (cellsOf p.es[k]).length := by rw [shv_cells] at hx; exact hx
      obtain ⟨u, c3, c4⟩ := c2 x hx'
      refine ⟨u, c3, ?_⟩
      rcases shv_cell H.length fl n p.es[k] x hx hx' with ⟨n', e1⟩ | e1
      · rw [e1]; exact shv_rv hW hG n' c4
      · rw [e1]; exact .und _
  · rcases real i hr with ⟨hi, hr⟩ | ⟨j, rfl, hq⟩ <;> rcases real i' hr' with ⟨hi', hr'⟩ | ⟨j', rfl, hq'⟩
    · rw [m2lo i hi, m2lo i' hi'] at e; exact r.inj i i' hr hr' e
    · rw [m2lo i hi, m2hi] at e
      have a1 := r.wr_lt (.inr ⟨i, hr, rfl⟩)
      have a2 := r'.base j' hq'
      omega
    · rw [m2hi, m2lo i' hi'] at e
      have a1 := r.wr_lt (.inr ⟨i', hr', rfl⟩)
      have a2 := r'.base j hq
      omega
    · rw [m2hi, m2hi] at e
      have := r'.inj j j' hq hq' e
      omega
theorem noref_args {H : List AObj} {B : Nat} {w0 : World} {m : BM} {w : World} {args : List AV} {vs : Array Value} (_r : Rel B w0 m H w) (hvs : RVs w m H args vs) (hno : noRefs args = true) : RVs w { m with x := Wr m H } [] args vs := by
  refine ⟨hvs.1, fun j hj hj' => .ri ?_⟩
  refine ((hvs.2 j hj hj').toRI (noRefs_get hno j hj)).mono (fun _ _ _ h => h) fun b _ hn hw => hn ?_
  rcases hw with hw | ⟨i, ⟨o, ho, _⟩, _⟩
  · exact hw
  · simp at ho
theorem lent_args {H : List AObj} {B : Nat} {w0 : World} {m : BM} {w : World} {args : List AV} {vs : Array Value} (r : Rel B w0 m H w) (hvs : RVs w m H args vs) (n : Nat) : RVs w { m with x := m.x } [] (args.map (frz H 0 n false)) vs := by
  refine ⟨by simpa using hvs.1, fun j hj hj' => .ri ?_⟩
  simp only [List.getElem_map]
  refine (frz_ri (k := 0) (nn := 0) r n (hvs.2 j (by simpa using hj) hj')).mono (fun _ _ _ h => h) fun b _ hn hw => hn ?_
  rcases hw with hw | ⟨i, ⟨o, ho, _⟩, _⟩
  · exact .inl hw
  · simp at ho
theorem ACalls.anywhere {f : FuncId} {args : List AV} {R : AV → List AObj → Prop} (h : ACalls P f args [] R) (hno : noRefs args = true) (n : Nat) (H : List AObj) :
    ACalls P f args H fun q H' => ∃ r G, R r G ∧ q = shv H.length false n r ∧ H' = H ++ shH H.length false n G := by
  refine ⟨h.1, fun B w0 m w vs r hvs => (local_core h false n r (Wr m H) (fun b hb => r.wr_lt hb) (fun _ b hb => hb) (noref_args r hvs hno)).mono ?_⟩
  rintro e w' ⟨v, m', q, G, e1, t', r', hR, h1, _⟩
  exact ⟨v, _, m', _, e1, t', r', h1, q, G, hR, rfl, rfl⟩
theorem ACalls.lent {f : FuncId} {args : List AV} {R : AV → List AObj → Prop} (n n' : Nat) {H : List AObj} (h : ACalls P f (args.map (frz H 0 n' false)) [] R) :
    ACalls P f args H fun q H' => ∃ r G, R r G ∧ q = shv H.length true n r ∧ H' = H ++ shH H.length true n G := by
  refine ⟨h.1, fun B w0 m w vs r hvs => (local_core h true n r m.x (fun b hb => Nat.lt_of_lt_of_le (r.xlt b hb) r.hB) (fun e => by cases e) (lent_args r hvs n')).mono ?_⟩
  rintro e w' ⟨v, m', q, G, e1, t', r', hR, h1, _⟩
  exact ⟨v, _, m', _, e1, t', r', h1, q, G, hR, rfl, rfl⟩
theorem ACalls.pure {f : FuncId} {args : List AV} {R : AV → Prop} (h : ACalls P f args [] fun r H' => H' = [] ∧ R r) (hno : noRefs args = true) (hR : ∀ r, R r → noRef r = true) (H : List AObj) :
    ACalls P f args H fun r H' => H' = H ∧ R r := by
  refine ⟨h.1, fun B w0 m w vs r hvs => (local_core h false 0 r (Wr m H) (fun b hb => r.wr_lt hb) (fun _ b hb => hb) (noref_args r hvs hno)).mono ?_⟩
  rintro e w' ⟨v, m', q, G, e1, t', r', ⟨rfl, hq⟩, h1, h2⟩
  have e0 : H ++ shH H.length false 0 [] = H := by simp [shH]
  rw [e0] at t' r' h2
  exact ⟨v, q, m', H, e1, t', r', h2 rfl (hR q hq), rfl, hq⟩
theorem ACalls.pureLent {f : FuncId} {args : List AV} {R : AV → Prop} (n' : Nat) {H : List AObj} (h : ACalls P f (args.map (frz H 0 n' false)) [] fun r H' => H' = [] ∧ R r) (hR : ∀ r, R r → ∀ s, shv s true 4 r = r) :
    ACalls P f args H fun q H' => H' = H ∧ R q := by
  refine ⟨h.1, fun B w0 m w vs r hvs => (local_core h true 4 r m.x (fun b hb => Nat.lt_of_lt_of_le (r.xlt b hb) r.hB) (fun e => by cases e) (lent_args r hvs n')).mono ?_⟩
  rintro e w' ⟨v, m', q, G, e1, t', r', ⟨rfl, hq⟩, h1, _⟩
  have e0 : H ++ shH H.length true 4 [] = H := by simp [shH]
  rw [e0] at t' r' h1
  rw [hR q hq] at h1
  exact ⟨v, q, m', H, e1, t', r', h1, rfl, hq⟩
theorem ACalls.frozen {f : FuncId} {args : List AV} {R : AV → List AObj → Prop} (n : Nat) (h : ACalls P f args [] R) :
    ACalls P f args [] fun q H' => H' = [] ∧ ∃ r G, R r G ∧ q = frz G 0 n false r := by
  refine ⟨h.1, fun B w0 m w vs r hvs => (h.2 B w0 m w vs r hvs).mono ?_⟩
  rintro e w' ⟨v, q, m', G, rfl, t', r', hv, hR⟩
  have e0 : frzH G 0 0 = [] := rfl
  refine ⟨v, frz G 0 n false q, m', frzH G 0 0, rfl, frz_tr t' 0 (by simp), frz_rel r' 0 0, .ri (frz_ri r' n hv), e0, q, G, hR, rfl⟩
end
end Go.Fw
