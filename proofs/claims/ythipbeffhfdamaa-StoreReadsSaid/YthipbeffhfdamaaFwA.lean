/- Abstract values, the abstract heap, and how they stand to the model's values and world. -/
import Derived.CallsIn
import Derived.Below
namespace Go.Fw
open Go Go.RowKit
inductive AV where
  | und
  | sc (v : Value)
  | imm (nl : Bool) (c : Option Nat) (sz : Nat) (xs : List AV)
  | slc (i L off n : Nat) (c : Option Nat)
  | ptr (i L k f : Nat)
  | ipt (e : AV) (f : Nat)
  | agg (cs : List AV)
  | tup (vs : List AV)
  | fn (f : Fn) (first caps : List AV)
  | ifc (t : TypeId) (v : AV)
  deriving Inhabited
structure AObj where
  ty : TypeId
  sz : Nat
  es : List AV
  live : Bool := true
  vir : Option Bool := none
def cellsOf : AV → List AV
  | .agg cs => cs
  | v => [v]
def pureV : Value → Bool
  | .bool _ | .int _ _ | .float _ _ | .complex _ _ _ | .string _ | .pointer none | .map none | .chan none | .nilFunc | .nilIface => true
  | _ => false
def Valid (H : List AObj) (i L : Nat) : Prop := ∃ o, H[i]? = some o ∧ o.live = true ∧ o.es.length = L
def Real (H : List AObj) (i : Nat) : Prop := ∃ o, H[i]? = some o ∧ o.live = true ∧ o.vir = none
structure BM where
  pl : Nat → Nat × Nat
  x : Nat → Prop
instance : CoeFun BM (fun _ => Nat → Nat × Nat) := ⟨BM.pl⟩
def Wr (m : BM) (H : List AObj) (b : Nat) : Prop := m.x b ∨ ∃ i, Real H i ∧ (m i).1 = b
inductive RI (w : World) (W : Nat → Prop) : AV → Value → Prop
  | und (v : Value) : RI w W .und v
  | sc (v : Value) (h : pureV v = true) : RI w W (.sc v) v
  | nil (c : Option Nat) (sz : Nat) : RI w W (.imm true c sz []) (.slice none 0 0)
  | nilx (c : Option Nat) (sz : Nat) (hc : ∀ k, c = some k → k = 0) : RI w W (.imm false c sz []) (.slice none 0 0)
  | imm {a : Addr} {n cap sz : Nat} {c : Option Nat} {xs : List AV} (cv : Nat → Nat → Value) (hn : xs.length = n) (hcap : n ≤ cap)
      (hc : ∀ k, c = some k → k = cap)
      (hcell : ∀ k j, k < n → j < sz → w.cell? (a.add (k * sz + j)) = some (cv k j) ∧ ¬ W a.block)
      (hsz : ∀ k (h : k < xs.length), (cellsOf xs[k]).length = sz)
      (hrv : ∀ k j (hk : k < xs.length) (hj : j < (cellsOf xs[k]).length), RI w W (cellsOf xs[k])[j] (cv k j)) :
      RI w W (.imm false c sz xs) (.slice (some a) n cap)
  | ipt {a : Addr} {e : AV} {f : Nat} (cv : Nat → Value)
      (hcell : ∀ j, j < (cellsOf e).length → w.cell? (a.add j) = some (cv j) ∧ ¬ W a.block)
      (hrv : ∀ j (hj : j < (cellsOf e).length), RI w W (cellsOf e)[j] (cv j)) :
      RI w W (.ipt e f) (.pointer (some (a.add f)))
  | agg {cs : List AV} {vs : Array Value} (hn : cs.length = vs.size)
      (hrv : ∀ j (h : j < cs.length) (h' : j < vs.size), RI w W cs[j] vs[j]) : RI w W (.agg cs) (.agg vs)
  | tup {cs : List AV} {vs : Array Value} (hn : cs.length = vs.size)
      (hrv : ∀ j (h : j < cs.length) (h' : j < vs.size), RI w W cs[j] vs[j]) : RI w W (.tup cs) (.tuple vs)
  | fn {f : Fn} {cs ds : List AV} {us vs : Array Value} (hn : cs.length = us.size) (hn' : ds.length = vs.size)
      (hrv : ∀ j (h : j < cs.length) (h' : j < us.size), RI w W cs[j] us[j])
      (hrv' : ∀ j (h : j < ds.length) (h' : j < vs.size), RI w W ds[j] vs[j]) : RI w W (.fn f cs ds) (.func f us vs)
  | ifc {t : TypeId} {a : AV} {v : Value} (h : RI w W a v) : RI w W (.ifc t a) (.iface t v)
def CapOk (c : Option Nat) (room cap : Nat) : Prop :=
  match c with
  | none => room ≤ cap
  | some k => cap = k
def SlcOk (o : AObj) (b : Nat × Nat) (A : Option Addr) (L off n cap : Nat) (c : Option Nat) : Prop :=
  match o.vir with
  | some z => A.isNone = z ∧ n = 0 ∧ off = 0 ∧ cap = 0
  | none => A.isSome = true ∧ (0 < cap → A = some ⟨b.1, off * o.sz, none⟩) ∧ off + n ≤ L ∧ n ≤ cap ∧ CapOk c (L - off) cap ∧ off + cap ≤ b.2
inductive RV (w : World) (m : BM) (H : List AObj) : AV → Value → Prop
  | ri {a : AV} {v : Value} (h : RI w (Wr m H) a v) : RV w m H a v
  | slc {A : Option Addr} {i L off n cap : Nat} {c : Option Nat} (o : AObj) (ho : H[i]? = some o) (hL : L ≤ o.es.length)
      (hv : o.live = true → o.es.length = L → SlcOk o (m i) A L off n cap c) :
      RV w m H (.slc i L off n c) (.slice A n cap)
  | ptr {a : Addr} {i L k f : Nat} (o : AObj) (ho : H[i]? = some o) (hL : L ≤ o.es.length)
      (hv : o.live = true → o.es.length = L → a = ⟨(m i).1, k * o.sz + f, none⟩) :
      RV w m H (.ptr i L k f) (.pointer (some a))
  | agg {cs : List AV} {vs : Array Value} (hn : cs.length = vs.size)
      (hrv : ∀ j (h : j < cs.length) (h' : j < vs.size), RV w m H cs[j] vs[j]) : RV w m H (.agg cs) (.agg vs)
  | tup {cs : List AV} {vs : Array Value} (hn : cs.length = vs.size)
      (hrv : ∀ j (h : j < cs.length) (h' : j < vs.size), RV w m H cs[j] vs[j]) : RV w m H (.tup cs) (.tuple vs)
  | fn {f : Fn} {cs ds : List AV} {us vs : Array Value} (hn : cs.length = us.size) (hn' : ds.length = vs.size)
      (hrv : ∀ j (h : j < cs.length) (h' : j < us.size), RV w m H cs[j] us[j])
      (hrv' : ∀ j (h : j < ds.length) (h' : j < vs.size), RV w m H ds[j] vs[j]) : RV w m H (.fn f cs ds) (.func f us vs)
  | ifc {t : TypeId} {a : AV} {v : Value} (h : RV w m H a v) : RV w m H (.ifc t a) (.iface t v)
def RVs (w : World) (m : BM) (H : List AObj) (as : List AV) (vs : Array Value) : Prop :=
  as.length = vs.size ∧ ∀ j (h : j < as.length) (h' : j < vs.size), RV w m H as[j] vs[j]
structure Rel (B : Nat) (w0 : World) (m : BM) (H : List AObj) (w : World) : Prop where
  below : Below B w0 w
  hB : B ≤ w.heap.size
  szpos : ∀ (i : Nat) (o : AObj), H[i]? = some o → 0 < o.sz
  virt : ∀ (i : Nat) (o : AObj), H[i]? = some o → o.vir ≠ none → o.es = []
  base : ∀ i, Real H i → B ≤ (m i).1
  obj : ∀ (i : Nat) (o : AObj), H[i]? = some o → o.live = true → o.vir = none →
    ∃ arr : Array Value, w.heap[(m i).1]? = some (.cells arr o.ty (0, 0)) ∧ (o.es.length ≤ (m i).2 ∧ (m i).2 * o.sz ≤ arr.size) ∧
      ∀ k (hk : k < o.es.length), (cellsOf o.es[k]).length = o.sz ∧
        ∀ j (hj : j < (cellsOf o.es[k]).length), ∃ v, arr[k * o.sz + j]? = some v ∧ RV w m H (cellsOf o.es[k])[j] v
  inj : ∀ i i', Real H i → Real H i' → (m i).1 = (m i').1 → i = i'
  xlt : ∀ b, m.x b → b < B
structure Tr (m : BM) (H : List AObj) (w : World) (m' : BM) (H' : List AObj) (w' : World) : Prop where
  size : w.heap.size ≤ w'.heap.size
  len : H.length ≤ H'.length
  blk : ∀ b, b < w.heap.size → ¬ Wr m H b → w'.heap[b]? = w.heap[b]?
  wr : ∀ b, b < w.heap.size → ¬ Wr m H b → ¬ Wr m' H' b
  ref : ∀ (i : Nat) (o o' : AObj), H[i]? = some o → H'[i]? = some o' → o.es.length ≤ o'.es.length ∧
    (o'.live = true → o.es.length = o'.es.length → o.live = true ∧ m' i = m i ∧ o'.vir = o.vir ∧ o'.sz = o.sz)
  x : m'.x = m.x
theorem Tr.refl (m : BM) (H : List AObj) (w : World) : Tr m H w m H w :=
  ⟨Nat.le_refl _, Nat.le_refl _, fun _ _ _ => rfl, fun _ _ h => h, fun i o o' h h' => by rw [h] at h'; cases h'; exact ⟨Nat.le_refl _, fun hl _ => ⟨hl, rfl, rfl, rfl⟩⟩, rfl⟩
theorem block_lt {w : World} {a : Addr} {v : Value} (h : w.cell? a = some v) : a.block < w.heap.size := World.block_lt_of_cell? w a h
theorem Tr.cell {m m' : BM} {H H' : List AObj} {w w' : World} (t : Tr m H w m' H' w') : ∀ a v, ¬ Wr m H a.block → w.cell? a = some v → w'.cell? a = some v := by
  intro a v hn hc
  have e := t.blk a.block (block_lt hc) hn
  simp only [World.cell?] at hc ⊢
  rw [e]; exact hc
theorem Tr.trans {m m1 m2 : BM} {H H1 H2 : List AObj} {w w1 w2 : World} (h : Tr m H w m1 H1 w1) (k : Tr m1 H1 w1 m2 H2 w2) : Tr m H w m2 H2 w2 := by
  refine ⟨Nat.le_trans h.size k.size, Nat.le_trans h.len k.len, fun b hb hw => ?_, fun b hb hw => k.wr b (Nat.lt_of_lt_of_le hb h.size) (h.wr b hb hw), fun i o o2 ho ho2 => ?_, k.x.trans h.x⟩
  · exact (k.blk b (Nat.lt_of_lt_of_le hb h.size) (h.wr b hb hw)).trans (h.blk b hb hw)
  · have hi : i < H.length := (List.getElem?_eq_some_iff.1 ho).1
    have hi1 : i < H1.length := Nat.lt_of_lt_of_le hi h.len
    have ho1 : H1[i]? = some H1[i] := List.getElem?_eq_getElem hi1
    obtain ⟨a1, a2⟩ := h.ref i o _ ho ho1
    obtain ⟨b1, b2⟩ := k.ref i _ o2 ho1 ho2
    refine ⟨Nat.le_trans a1 b1, fun hl he => ?_⟩
    obtain ⟨c1, c2, c3, c4⟩ := b2 hl (by omega)
    obtain ⟨d1, d2, d3, d4⟩ := a2 c1 (by omega)
    exact ⟨d1, c2.trans d2, c3.trans d3, c4.trans d4⟩
theorem add_block (a : Addr) (n : Nat) : (a.add n).block = a.block := by unfold Addr.add; split <;> rfl
theorem add_add (a : Addr) (x y : Nat) : (a.add x).add y = a.add (x + y) := by
  unfold Addr.add; split <;> split <;> split <;> simp_all <;> omega
theorem add_zero (a : Addr) : a.add 0 = a := by simp [Addr.add]
theorem RI.mono {w w' : World} {W W' : Nat → Prop} (hc : ∀ a v, ¬ W a.block → w.cell? a = some v → w'.cell? a = some v)
    (hw : ∀ b, b < w.heap.size → ¬ W b → ¬ W' b) {a : AV} {v : Value} (h : RI w W a v) : RI w' W' a v := by
  induction h with
  | und v => exact .und v
  | sc v h => exact .sc v h
  | nil c sz => exact .nil c sz
  | nilx c sz hc => exact .nilx c sz hc
  | imm cv hn hcap hc' hcell hsz _ ih =>
    refine .imm cv hn hcap hc' (fun k j hk hj => ?_) hsz (fun k j hk hj => ih k j hk hj)
    obtain ⟨h1, h2⟩ := hcell k j hk hj
    have hb := block_lt h1
    rw [add_block] at hb
    exact ⟨hc _ _ (by rw [add_block]; exact h2) h1, hw _ hb h2⟩
  | ipt cv hcell _ ih =>
    refine .ipt cv (fun j hj => ?_) (fun j hj => ih j hj)
    obtain ⟨h1, h2⟩ := hcell j hj
    have hb := block_lt h1
    rw [add_block] at hb
    exact ⟨hc _ _ (by rw [add_block]; exact h2) h1, hw _ hb h2⟩
  | agg hn _ ih => exact .agg hn ih
  | tup hn _ ih => exact .tup hn ih
  | fn hn hn' _ _ ih ih' => exact .fn hn hn' ih ih'
  | ifc _ ih => exact .ifc ih
theorem RV.mono {w w' : World} {m m' : BM} {H H' : List AObj} (t : Tr m H w m' H' w') {a : AV} {v : Value} (h : RV w m H a v) : RV w' m' H' a v := by
  induction h with
  | ri h => exact .ri (h.mono t.cell t.wr)
  | @slc A i L off n cap c o ho hL hv =>
    have hi : i < H.length := (List.getElem?_eq_some_iff.1 ho).1
    have hi1 : i < H'.length := Nat.lt_of_lt_of_le hi t.len
    have ho1 : H'[i]? = some H'[i] := List.getElem?_eq_getElem hi1
    obtain ⟨a1, a2⟩ := t.ref i o _ ho ho1
    refine .slc _ ho1 (by omega) (fun hl he => ?_)
    obtain ⟨c1, c2, c3, c4⟩ := a2 hl (by omega)
    have := hv c1 (by omega)
    unfold SlcOk at *
    rw [c3, c2, c4]; exact this
  | @ptr a i L k f o ho hL hv =>
    have hi : i < H.length := (List.getElem?_eq_some_iff.1 ho).1
    have hi1 : i < H'.length := Nat.lt_of_lt_of_le hi t.len
    have ho1 : H'[i]? = some H'[i] := List.getElem?_eq_getElem hi1
    obtain ⟨a1, a2⟩ := t.ref i o _ ho ho1
    refine .ptr _ ho1 (by omega) (fun hl he => ?_)
    obtain ⟨c1, c2, c3, c4⟩ := a2 hl (by omega)
    have := hv c1 (by omega)
    rw [c2, c4]; exact this
  | agg hn _ ih => exact .agg hn ih
  | tup hn _ ih => exact .tup hn ih
  | fn hn hn' _ _ ih ih' => exact .fn hn hn' ih ih'
  | ifc _ ih => exact .ifc ih
theorem RVs.mono {w w' : World} {m m' : BM} {H H' : List AObj} (t : Tr m H w m' H' w') {as : List AV} {vs : Array Value} (h : RVs w m H as vs) : RVs w' m' H' as vs :=
  ⟨h.1, fun j hj hj' => (h.2 j hj hj').mono t⟩
theorem RI.cells {w : World} {W : Nat → Prop} {a : AV} {v : Value} (h : RI w W a v) (hu : a ≠ .und) :
    (cellsOf a).length = v.cells.size ∧ ∀ j (hj : j < (cellsOf a).length) (hj' : j < v.cells.size), RI w W (cellsOf a)[j] v.cells[j] := by
  cases h with
  | und => exact absurd rfl hu
  | agg hn hrv => exact ⟨hn, hrv⟩
  | sc v hp =>
    have : v.cells = #[v] := by cases v <;> simp_all [pureV, Value.cells]
    simp only [this, cellsOf]
    exact ⟨rfl, fun j hj hj' => by simp at hj; subst hj; exact .sc v hp⟩
  | nil c sz => exact ⟨rfl, fun j hj hj' => by simp [cellsOf] at hj; subst hj; exact .nil c sz⟩
  | nilx c sz hc => exact ⟨rfl, fun j hj hj' => by simp [cellsOf] at hj; subst hj; exact .nilx c sz hc⟩
  | imm cv hn hcap hc hcell hsz hrv => exact ⟨rfl, fun j hj hj' => by simp [cellsOf] at hj; subst hj; exact .imm cv hn hcap hc hcell hsz hrv⟩
  | ipt cv hcell hrv => exact ⟨rfl, fun j hj hj' => by simp [cellsOf] at hj; subst hj; exact .ipt cv hcell hrv⟩
  | tup hn hrv => exact ⟨rfl, fun j hj hj' => by simp [cellsOf] at hj; subst hj; exact .tup hn hrv⟩
  | fn hn hn' hrv hrv' => exact ⟨rfl, fun j hj hj' => by simp [cellsOf] at hj; subst hj; exact .fn hn hn' hrv hrv'⟩
  | ifc h => exact ⟨rfl, fun j hj hj' => by simp [cellsOf] at hj; subst hj; exact .ifc h⟩
theorem RV.cells {w : World} {m : BM} {H : List AObj} {a : AV} {v : Value} (h : RV w m H a v) (hu : a ≠ .und) :
    (cellsOf a).length = v.cells.size ∧ ∀ j (hj : j < (cellsOf a).length) (hj' : j < v.cells.size), RV w m H (cellsOf a)[j] v.cells[j] := by
  cases h with
  | ri h => exact ⟨(h.cells hu).1, fun j hj hj' => .ri ((h.cells hu).2 j hj hj')⟩
  | agg hn hrv => exact ⟨hn, hrv⟩
  | slc o ho hL hv => exact ⟨rfl, fun j hj hj' => by simp [cellsOf] at hj; subst hj; exact .slc o ho hL hv⟩
  | ptr o ho hL hv => exact ⟨rfl, fun j hj hj' => by simp [cellsOf] at hj; subst hj; exact .ptr o ho hL hv⟩
  | tup hn hrv => exact ⟨rfl, fun j hj hj' => by simp [cellsOf] at hj; subst hj; exact .tup hn hrv⟩
  | fn hn hn' hrv hrv' => exact ⟨rfl, fun j hj hj' => by simp [cellsOf] at hj; subst hj; exact .fn hn hn' hrv hrv'⟩
  | ifc h => exact ⟨rfl, fun j hj hj' => by simp [cellsOf] at hj; subst hj; exact .ifc h⟩
theorem RV.und {w : World} {m : BM} {H : List AObj} (v : Value) : RV w m H .und v := .ri (.und v)
theorem RV.sc {w : World} {m : BM} {H : List AObj} (v : Value) (h : pureV v = true) : RV w m H (.sc v) v := .ri (.sc v h)
end Go.Fw
