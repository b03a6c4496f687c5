/- What is handed in, of any type built of whole numbers, bools, strings, slices and structs, read as immutable values. -/
import Derived.Test.YtkfooghdpfhiaaaFwW
import Derived.WalkKit
import Derived.ProofKit
import Derived.OpenShut
import Derived.ShutString
import Derived.ChangeOld
import Derived.Below
import Derived.SizedLaws
namespace Go.Fw
open Go Go.RowKit Go.ChangeShapes Go.WideShapes

inductive Ty where
  | int (k : IntKind)
  | bool
  | str
  | sl (e : Ty)
  | st (fs : List Ty)

mutual
def Ty.sz : Ty → Nat
  | .st fs => Ty.szs fs
  | _ => 1
def Ty.szs : List Ty → Nat
  | [] => 0
  | t :: r => Ty.sz t + Ty.szs r
end

mutual
def tyOk (P : Program) : Ty → TypeId → Bool
  | .int k, t => match P.underlying t with
    | some (.int k') => decide (k' = k)
    | _ => false
  | .bool, t => match P.underlying t with
    | some .bool => true
    | _ => false
  | .str, t => match P.underlying t with
    | some .string => true
    | _ => false
  | .sl e, t => match P.underlying t with
    | some (.slice te) => decide (P.cellsOf te = e.sz) && tyOk P e te
    | _ => false
  | .st fs, t => match P.underlying t with
    | some (.struct fl) => decide (P.cellsOf t = Ty.szs fs) && fieldsOk P fs fl.toList 0
    | _ => false
def fieldsOk (P : Program) : List Ty → List Field → Nat → Bool
  | [], [], _ => true
  | ty :: r, f :: q, off => decide (f.offset = off) && decide (P.cellsOf f.type = ty.sz) && tyOk P ty f.type && fieldsOk P r q (off + ty.sz)
  | _, _, _ => false
end

def wrapT : Ty → List AV → AV
  | .st _, as => .agg as
  | _, as => as.headD .und

mutual
/-- Cells of a type. -/
def Fits : Ty → List AV → Prop
  | .int k, as => ∃ n, as = [.sc (.int k n)] ∧ (Lit.int k n).wf = true
  | .bool, as => ∃ b, as = [Bo b]
  | .str, as => ∃ s : ByteArray, as = [.sc (.string s)] ∧ s.size ≤ maxLen
  | .sl e, as => ∃ nl c sz xs, as = [.imm nl c sz xs] ∧ (nl = true → xs = []) ∧ (nl = false → sz = e.sz) ∧ xs.length ≤ maxLen ∧ ∀ x ∈ xs, ∃ cs, x = wrapT e cs ∧ Fits e cs
  | .st fs, as => FitsL fs as
def FitsL : List Ty → List AV → Prop
  | [], as => as = []
  | ty :: r, as => ∃ a b, as = a ++ b ∧ Fits ty a ∧ FitsL r b
end

mutual
theorem Fits.len : ∀ {ty : Ty} {as : List AV}, Fits ty as → as.length = ty.sz
  | .int k, as, h => by simp only [Fits] at h; obtain ⟨n, rfl, _⟩ := h; rfl
  | .bool, as, h => by simp only [Fits] at h; obtain ⟨n, rfl⟩ := h; rfl
  | .str, as, h => by simp only [Fits] at h; obtain ⟨n, rfl, _⟩ := h; rfl
  | .sl e, as, h => by simp only [Fits] at h; obtain ⟨_, _, _, _, rfl, _⟩ := h; rfl
  | .st fs, as, h => by simp only [Fits] at h; simp only [Ty.sz]; exact FitsL.len h
theorem FitsL.len : ∀ {tys : List Ty} {as : List AV}, FitsL tys as → as.length = Ty.szs tys
  | [], as, h => by simp only [FitsL] at h; subst h; rfl
  | ty :: r, as, h => by
    simp only [FitsL] at h
    obtain ⟨a, b, rfl, ha, hb⟩ := h
    simp only [Ty.szs, List.length_append, Fits.len ha, FitsL.len hb]
end

theorem Fits.cells {ty : Ty} {as : List AV} (h : Fits ty as) : cellsOf (wrapT ty as) = as := by
  cases ty <;> simp only [Fits] at h
  · obtain ⟨n, rfl, _⟩ := h; rfl
  · obtain ⟨n, rfl⟩ := h; rfl
  · obtain ⟨n, rfl, _⟩ := h; rfl
  · obtain ⟨_, _, _, _, rfl, _⟩ := h; rfl
  · rfl

theorem choose_list {α : Type} {Q : Nat → α → Prop} : ∀ (n : Nat), (∀ i, i < n → ∃ x, Q i x) → ∃ xs : List α, xs.length = n ∧ ∀ i (h : i < xs.length), Q i xs[i]
  | 0, _ => ⟨[], rfl, fun i h => by simp at h⟩
  | n + 1, h => by
    obtain ⟨xs, hl, hq⟩ := choose_list n fun i hi => h i (by omega)
    obtain ⟨x, hx⟩ := h n (by omega)
    refine ⟨xs ++ [x], by simp [hl], fun i hi => ?_⟩
    by_cases h' : i < xs.length
    · rw [List.getElem_append_left h']; exact hq i h'
    · have : i = n := by simp at hi; omega
      subst this
      rw [List.getElem_append_right (by omega)]
      simpa [hl] using hx

section
variable {H : Type} {enc : TypeId × Value → H} {P : Program} {w : World} {base : Nat} {spare : Nat → Bool} {held : Bool}

theorem open_fields {Wr0 : Nat → Prop} {n : Nat} {cs : List Value}
    (ih : ∀ (ty : Ty) (t : TypeId) (cs : List Value) (y : DataW H × List MemPlace), DataW.trod enc P w base spare held n t cs = some y → tyOk P ty t = true →
      ∃ as, Fits ty as ∧ as.length = cs.length ∧ ∀ j (h : j < as.length) (h' : j < cs.length), RI w Wr0 as[j] cs[j]) :
    ∀ (tys : List Ty) (fl : List Field) (off : Nat), fieldsOk P tys fl off = true → off + Ty.szs tys = cs.length →
      (∀ f ∈ fl, ∃ y, DataW.trod enc P w base spare held n f.type ((cs.drop f.offset).take (P.cellsOf f.type)) = some y) →
      ∃ as, FitsL tys as ∧ as.length = Ty.szs tys ∧ ∀ j (h : j < as.length) (h' : off + j < cs.length), RI w Wr0 as[j] cs[off + j]
  | [], [], off, _, _, _ => ⟨[], rfl, rfl, fun j h => by simp at h⟩
  | [], _ :: _, off, h, _, _ => by simp [fieldsOk] at h
  | _ :: _, [], off, h, _, _ => by simp [fieldsOk] at h
  | ty :: r, f :: q, off, h, hl, hy => by
    simp only [fieldsOk, Bool.and_eq_true, decide_eq_true_eq] at h
    obtain ⟨⟨⟨h1, h2⟩, h3⟩, h4⟩ := h
    simp only [Ty.szs] at hl
    obtain ⟨y, hy1⟩ := hy f (by simp)
    rw [h1, h2] at hy1
    obtain ⟨a, fa, la, ra⟩ := ih ty f.type _ y hy1 h3
    obtain ⟨b, fb, lb, rb⟩ := open_fields ih r q (off + ty.sz) h4 (by omega) fun g hg => hy g (by simp [hg])
    have la' : a.length = ty.sz := Fits.len fa
    refine ⟨a ++ b, by simp only [FitsL]; exact ⟨a, b, rfl, fa, fb⟩, by simp [Ty.szs, la', lb], fun j hj hj' => ?_⟩
    by_cases hja : j < a.length
    · rw [List.getElem_append_left hja]
      have := ra j hja (by omega)
      simpa using this
    · rw [List.getElem_append_right (by omega)]
      have hlen : j - a.length < b.length := by simp at hj; omega
      have := rb (j - a.length) hlen (by omega)
      have e : off + ty.sz + (j - a.length) = off + j := by omega
      simpa only [e] using this

theorem open_cells {Wr0 : Nat → Prop} (hW : ∀ b, ¬ Wr0 b) : ∀ (fuel : Nat) (ty : Ty) (t : TypeId) (cs : List Value) (y : DataW H × List MemPlace),
    DataW.trod enc P w base spare held fuel t cs = some y → tyOk P ty t = true →
    ∃ as, Fits ty as ∧ as.length = cs.length ∧ ∀ j (h : j < as.length) (h' : j < cs.length), RI w Wr0 as[j] cs[j]
  | 0, ty, t, cs, y, h, _ => by simp [DataW.trod] at h
  | n + 1, .int k, t, cs, y, h, ht => by
    simp only [tyOk] at ht
    split at ht
    · rename_i k' hu
      obtain ⟨m, rfl, _, hw⟩ := DataW.trod_int hu h
      simp only [decide_eq_true_eq] at ht
      subst ht
      exact ⟨[.sc (.int k' m)], by simp only [Fits]; exact ⟨m, rfl, hw⟩, rfl, fun j h1 h2 => by
        have : j = 0 := by simp at h1; exact h1
        subst this; exact .sc _ rfl⟩
    · cases ht
  | n + 1, .bool, t, cs, y, h, ht => by
    simp only [tyOk] at ht
    split at ht
    · rename_i hu
      obtain ⟨b, rfl, _⟩ := DataW.trod_bool hu h
      exact ⟨[Bo b], by simp only [Fits]; exact ⟨b, rfl⟩, rfl, fun j h1 h2 => by
        have : j = 0 := by simp at h1; exact h1
        subst this; exact .sc _ rfl⟩
    · cases ht
  | n + 1, .str, t, cs, y, h, ht => by
    simp only [tyOk] at ht
    split at ht
    · rename_i hu
      obtain ⟨b, rfl, _, hs⟩ := DataW.trod_string hu h
      exact ⟨[.sc (.string b)], by simp only [Fits]; exact ⟨b, rfl, hs⟩, rfl, fun j h1 h2 => by
        have : j = 0 := by simp at h1; exact h1
        subst this; exact .sc _ rfl⟩
    · cases ht
  | n + 1, .sl e, t, cs, y, h, ht => by
    simp only [tyOk] at ht
    split at ht
    · rename_i te hu
      simp only [Bool.and_eq_true, decide_eq_true_eq] at ht
      obtain ⟨hc, he⟩ := ht
      rcases DataW.trod_slice hu h with ⟨rfl, _⟩ | ⟨a, len, cap, elems, rest, m, hm, rfl, rfl, hb, hl, hcap, hlen, hel, _, _⟩
      · exact ⟨[.imm true none 0 []], by simp only [Fits]; exact ⟨true, none, 0, [], rfl, by simp, by simp, by simp, by simp⟩, rfl, fun j h1 h2 => by
          have : j = 0 := by simp at h1; exact h1
          subst this; exact .nil _ _⟩
      · obtain rfl : n = m := by omega
        have each : ∀ i, i < len → ∃ p : List AV × List Value, Fits e p.1 ∧ p.1.length = p.2.length ∧ (∀ j (h : j < p.1.length) (h' : j < p.2.length), RI w Wr0 p.1[j] p.2[j]) ∧
            p.2.length = e.sz ∧ ∀ j, j < e.sz → w.cell? (a.add (i * e.sz + j)) = p.2[j]? := by
          intro i hi
          have h1 := hel i hi
          rw [List.getElem?_eq_getElem (by omega), Option.bind_eq_some_iff] at h1
          obtain ⟨cs, hcs, hy⟩ := h1
          obtain ⟨as, fa, la, ra⟩ := open_cells hW n e te cs _ hy he
          obtain ⟨_, h2, h3⟩ := World.cells?_some hcs
          rw [hc] at h2 h3
          refine ⟨(as, cs), fa, la, ra, h2, fun j hj => ?_⟩
          rw [← h3 j hj, add_add]
        obtain ⟨ps, hps, hq⟩ := choose_list len each
        refine ⟨[.imm false none e.sz (ps.map fun p => wrapT e p.1)], ?_, rfl, fun j h1 h2 => ?_⟩
        · simp only [Fits]
          refine ⟨false, none, e.sz, _, rfl, by simp, by simp, by simp [hps]; omega, fun x hx => ?_⟩
          obtain ⟨p, hp, rfl⟩ := List.mem_map.1 hx
          obtain ⟨i, hi, rfl⟩ := List.getElem_of_mem hp
          exact ⟨_, rfl, (hq i hi).1⟩
        · have : j = 0 := by simp at h1; exact h1
          subst this
          have hcell : ∀ k (hk : k < ps.length), cellsOf (wrapT e (ps[k]'hk).1) = (ps[k]'hk).1 := fun k hk => (hq k hk).1.cells
          refine .imm (fun k j => (w.cell? (a.add (k * e.sz + j))).getD default) (by simp [hps]) hl (fun k h => by cases h) (fun k j hk hj => ⟨?_, hW _⟩) (fun k hk => ?_) (fun k j hk hj => ?_)
          · have hk' : k < ps.length := by omega
            obtain ⟨_, _, _, q4, q5⟩ := hq k hk'
            rw [q5 j hj, List.getElem?_eq_getElem (by omega)]; rfl
          · have hk' : k < ps.length := by simpa using hk
            simp only [List.getElem_map]
            rw [hcell k hk', (hq k hk').1.len]
          · have hk' : k < ps.length := by simpa using hk
            obtain ⟨q1, q2, q3, q4, q5⟩ := hq k hk'
            have e0 : cellsOf ((ps.map fun p => wrapT e p.1)[k]'hk) = (ps[k]'hk').1 := by rw [List.getElem_map]; exact hcell k hk'
            have hj' : j < (ps[k]'hk').1.length := by have := hj; rw [e0] at this; exact this
            have hj2 : j < (ps[k]'hk').2.length := by omega
            have e1 : (cellsOf ((ps.map fun p => wrapT e p.1)[k]'hk))[j]'hj = (ps[k]'hk').1[j]'hj' := by
              simp only [e0]
            rw [e1, q5 j (by omega), List.getElem?_eq_getElem hj2]
            exact q3 j hj' hj2
    · cases ht
  | n + 1, .st fs, t, cs, y, h, ht => by
    simp only [tyOk] at ht
    split at ht
    · rename_i fl hu
      simp only [Bool.and_eq_true, decide_eq_true_eq] at ht
      obtain ⟨hc, he⟩ := ht
      obtain ⟨xs, m, hm, _, hl, hlen, hf⟩ := DataW.trod_struct hu h
      obtain rfl : n = m := by omega
      obtain ⟨as, fa, la, ra⟩ := open_fields (cs := cs) (fun ty t cs y => open_cells hW n ty t cs y) fs fl.toList 0 he (by omega) fun f hf' => by
        obtain ⟨i, hi, rfl⟩ := List.getElem_of_mem hf'
        have hi' : i < fl.size := by simpa using hi
        have := hf i fl[i] (by simp [hi'])
        rw [List.getElem?_eq_getElem (by omega)] at this
        exact ⟨_, by simpa using this⟩
      refine ⟨as, by simp only [Fits]; exact fa, by omega, fun j h1 h2 => ?_⟩
      have := ra j h1 (by omega)
      simpa using this
    · cases ht

theorem open_any {W : World} {r : Reach} {b : Nat} {ty : Ty} {t : TypeId} {v : Value} {d : DataW H} {ps : List MemPlace} (hty : tyOk P ty t = true) (hval : Value.okWide P W r b t v)
    (h : DataW.Trod enc P w base spare held t v d ps) : ∃ as, RV w m0 [] (wrapT ty as) v ∧ Fits ty as := by
  obtain ⟨fuel, hf⟩ := h
  obtain ⟨as, fa, la, ra⟩ := open_cells (Wr0 := Wr m0 []) nowr0 fuel ty t _ _ hf hty
  refine ⟨as, .ri ?_, fa⟩
  have one : v.cells.toList = [v] → (∀ fs, ty ≠ .st fs) → RI w (Wr m0 []) (wrapT ty as) v := by
    intro h1 h2
    simp only [h1] at la ra
    obtain ⟨a, rfl⟩ := List.length_eq_one_iff.1 la
    have e : wrapT ty [a] = a := by
      cases ty with
      | st fs => exact absurd rfl (h2 fs)
      | _ => rfl
    rw [e]
    exact ra 0 (by simp) (by simp)
  cases ty with
  | int k =>
    simp only [tyOk] at hty
    split at hty
    · rename_i k' hu
      obtain ⟨n, rfl⟩ := okWide_int hu hval
      exact one rfl (by simp)
    · cases hty
  | bool =>
    simp only [tyOk] at hty
    split at hty
    · rename_i hu
      obtain ⟨n, rfl⟩ := okWide_bool hu hval
      exact one rfl (by simp)
    · cases hty
  | str =>
    simp only [tyOk] at hty
    split at hty
    · rename_i hu
      obtain ⟨n, rfl⟩ := okWide_string hu hval
      exact one rfl (by simp)
    · cases hty
  | sl e =>
    simp only [tyOk] at hty
    split at hty
    · rename_i te hu
      obtain ⟨a, l, c, rfl⟩ := okWide_slice hu hval
      exact one rfl (by simp)
    · cases hty
  | st fs =>
    simp only [tyOk] at hty
    split at hty
    · rename_i fl hu
      obtain ⟨cs, rfl, _⟩ := okWide_struct hu hval
      exact .agg (by simpa [Value.cells] using la) fun j h1 h2 => by
        have := ra j h1 (by simpa [Value.cells] using h2)
        simpa [Value.cells] using this
    · cases hty

def tysOk (P : Program) : List Ty → List TypeId → Bool
  | [], [] => true
  | ty :: r, t :: q => tyOk P ty t && tysOk P r q
  | _, _ => false
/-- The arguments, each as cells of its type. -/
inductive Args : List Ty → List AV → Prop
  | nil : Args [] []
  | cons {ty : Ty} {r : List Ty} {as : List AV} {q : List AV} (h : Fits ty as) (t : Args r q) : Args (ty :: r) (wrapT ty as :: q)

theorem openAll {W : World} {r : Reach} {b : Nat} : ∀ {tys : List Ty} {ts : List TypeId} {vs : List Value} {ds : List (DataW H)} {ps : List MemPlace}, DataW.TrodAll enc P w base spare held ts vs ds ps → tysOk P tys ts = true →
    (∀ (j : Nat) t v, ts[j]? = some t → vs[j]? = some v → Value.okWide P W r b t v) → ∃ avs, RVs w m0 [] avs vs.toArray ∧ Args tys avs
  | [], [], [], _, _, _, _, _ => ⟨[], .nil, .nil⟩
  | [], [], _ :: _, [], _, h, _, _ => h.elim
  | [], [], _ :: _, _ :: _, _, h, _, _ => h.elim
  | [], _ :: _, _, _, _, _, h, _ => by simp [tysOk] at h
  | _ :: _, [], _, _, _, _, h, _ => by simp [tysOk] at h
  | _ :: _, _ :: _, [], _, _, h, _, _ => h.elim
  | _ :: _, _ :: _, _ :: _, [], _, h, _, _ => h.elim
  | ty :: tys, t :: ts, v :: vs, d :: ds, ps, h, ht, hv => by
    simp only [tysOk, Bool.and_eq_true] at ht
    obtain ⟨p, q, h1, h2, _⟩ := h
    obtain ⟨as, ra, fa⟩ := open_any ht.1 (hv 0 t v rfl rfl) h1
    obtain ⟨avs, rs, fs⟩ := openAll h2 ht.2 fun j t v ht hv' => hv (j + 1) t v ht hv'
    exact ⟨_, .cons ra rs, .cons fa fs⟩

theorem backAll {W W' : World} (hl : laidOutB P = true) (hb : Below W.heap.size W W') : ∀ {ts : List TypeId} {vs : List Value} {ds : List (DataW H)} {ps : List MemPlace},
    (ts.all fun t => P.readableRec t && decide (t < P.types.size)) = true → DataW.TrodAll enc P W 0 (fun _ => true) true ts vs ds ps → DataW.TrodAll enc P W' 0 (fun b => decide (b < W.heap.size)) true ts vs ds ps
  | [], [], [], _, _, h => h
  | [], _ :: _, [], _, _, h => h.elim
  | [], _, _ :: _, _, _, h => by cases ‹List Value› <;> exact h.elim
  | _ :: _, [], _, _, _, h => h.elim
  | _ :: _, _ :: _, [], _, _, h => h.elim
  | t :: ts, v :: vs, d :: ds, ps, ht, h => by
    simp only [List.all_cons, Bool.and_eq_true, decide_eq_true_eq] at ht
    obtain ⟨p, q, h1, h2, rfl⟩ := h
    have lt : ∀ x ∈ p, x.block < W.heap.size := by obtain ⟨m, hm⟩ := h1; exact DataW.trod_lt m _ _ _ hm
    exact ⟨p, q, Below.trod hl ht.1.1 ht.1.2 h1 hb lt, backAll hl hb (by simpa using ht.2) h2, rfl⟩
end

theorem Fits.ints {as : List AV} (h : Fits (.sl (.int .i64)) as) : ∃ a xs, as = [a] ∧ ISl a xs := by
  simp only [Fits] at h
  obtain ⟨nl, c, sz, xs, rfl, h1, h2, h3, h4⟩ := h
  have : ∃ zs : List Int, xs = zs.map I ∧ ∀ z ∈ zs, -9223372036854775808 ≤ z ∧ z ≤ 9223372036854775807 := by
    clear h1 h2 h3
    induction xs with
    | nil => exact ⟨[], rfl, by simp⟩
    | cons x xs ih =>
      obtain ⟨zs, rfl, hz⟩ := ih fun x hx => h4 x (by simp [hx])
      obtain ⟨cs, rfl, n, rfl, hw⟩ := h4 x (by simp)
      refine ⟨n :: zs, rfl, fun z hz' => ?_⟩
      rcases List.mem_cons.1 hz' with rfl | h
      · simp [Lit.wf, IntKind.min, IntKind.max, IntKind.signed, IntKind.bits] at hw
        omega
      · exact hz z h
  obtain ⟨zs, rfl, hz⟩ := this
  exact ⟨_, zs, rfl, ⟨nl, c, sz, rfl, fun h => by simpa using h1 h, fun h => h2 h⟩, by simpa [maxLen] using h3, hz⟩
theorem Fits.int {as : List AV} (h : Fits (.int .i64) as) : ∃ n, as = [I n] ∧ -9223372036854775808 ≤ n ∧ n ≤ 9223372036854775807 := by
  simp only [Fits] at h
  obtain ⟨n, rfl, hw⟩ := h
  simp [Lit.wf, IntKind.min, IntKind.max, IntKind.signed, IntKind.bits] at hw
  exact ⟨n, rfl, by omega, by omega⟩
end Go.Fw
