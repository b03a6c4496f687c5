/- Literals, structs, slices of slices, make. -/
import Derived.Test.YthipbeffhfdamaaFwG
namespace Go.Fw
open Go Go.RowKit
theorem noRefs_get : ∀ {xs : List AV} (_ : noRefs xs = true) (j : Nat) (h : j < xs.length), noRef xs[j] = true
  | [], _, j, h => by simp at h
  | x :: xs, hn, j, h => by
    simp only [noRefs, Bool.and_eq_true] at hn
    cases j with
    | zero => exact hn.1
    | succ j => exact noRefs_get hn.2 j (by simpa using h)
section
variable {P : Program} {B : Nat} {w0 w : World} {m : BM} {H : List AObj} {fr : List AV} {a : Act}
theorem RV.toRI {a : AV} {v : Value} (h : RV w m H a v) : noRef a = true → RI w (Wr m H) a v := by
  induction h with
  | ri h => exact fun _ => h
  | slc o ho hL hv => intro h; simp [noRef] at h
  | ptr o ho hL hv => intro h; simp [noRef] at h
  | agg hn _ ih => intro h; simp only [noRef] at h; exact .agg hn fun j a b => ih j a b (noRefs_get h j a)
  | tup hn _ ih => intro h; simp only [noRef] at h; exact .tup hn fun j a b => ih j a b (noRefs_get h j a)
  | fn hn hn' _ _ ih ih' =>
    intro h; simp only [noRef, Bool.and_eq_true] at h
    exact .fn hn hn' (fun j a b => ih j a b (noRefs_get h.1 j a)) (fun j a b => ih' j a b (noRefs_get h.2 j a))
  | ifc _ ih => intro h; simp only [noRef] at h; exact .ifc (ih h)
theorem foldl_set (off : Nat) : ∀ (l : List Value) (s : Nat) (cs : Array Value), off + s + l.length ≤ cs.size →
    ((l.zipIdx s).foldl (fun cs (p : Value × Nat) => cs.setIfInBounds (off + p.2) p.1) cs).size = cs.size ∧
    ∀ q : Nat, ((l.zipIdx s).foldl (fun cs (p : Value × Nat) => cs.setIfInBounds (off + p.2) p.1) cs)[q]? = if off + s ≤ q ∧ q < off + s + l.length then l[q - (off + s)]? else cs[q]?
  | [], s, cs, _ => by
    refine ⟨rfl, fun q => ?_⟩
    have hn : ¬ (off + s ≤ q ∧ q < off + s + ([] : List Value).length) := by simp
    rw [if_neg hn]; rfl
  | v :: l, s, cs, h => by
    have hl : (v :: l).length = l.length + 1 := rfl
    obtain ⟨h1, h2⟩ := foldl_set off l (s + 1) (cs.setIfInBounds (off + s) v) (by simp; omega)
    simp only [List.zipIdx_cons, List.foldl_cons]
    refine ⟨by rw [h1]; simp, fun q => ?_⟩
    rw [h2, hl]
    by_cases c1 : off + (s + 1) ≤ q ∧ q < off + (s + 1) + l.length
    · rw [if_pos c1, if_pos (by omega), show q - (off + s) = (q - (off + (s + 1))) + 1 by omega]; simp
    · rw [if_neg c1]
      by_cases c2 : q = off + s
      · subst c2
        rw [if_pos (by omega), Array.getElem?_setIfInBounds_self]
        rw [if_pos (by omega)]; simp
      · rw [if_neg (by omega), Array.getElem?_setIfInBounds_ne (by omega)]
theorem fill_step (v : Value) (off : Nat) (cs : Array Value) (h : off + v.cells.size ≤ cs.size) :
    (v.cells.zipIdx.foldl (fun cs (p : Value × Nat) => cs.setIfInBounds (off + p.2) p.1) cs).size = cs.size ∧
    ∀ q : Nat, (v.cells.zipIdx.foldl (fun cs (p : Value × Nat) => cs.setIfInBounds (off + p.2) p.1) cs)[q]? = if off ≤ q ∧ q < off + v.cells.size then v.cells[q - off]? else cs[q]? := by
  have := foldl_set off v.cells.toList 0 cs (by simpa using h)
  rw [← Array.foldl_toList, Array.toList_zipIdx]
  simpa using this
theorem fill_sound {place : Nat → Option (Nat × Nat)} : ∀ (parts : List (Nat × Value)) (aparts : List (Nat × Nat × AV)) (cells : Array Value) (ac acs : List AV),
    parts.length = aparts.length → (∀ j (h : j < parts.length) (h' : j < aparts.length), place parts[j].1 = some (aparts[j].1, aparts[j].2.1) ∧ RV w m H aparts[j].2.2 parts[j].2) →
    ac.length = cells.size → (∀ j (h : j < ac.length) (h' : j < cells.size), RV w m H ac[j] cells[j]) → fillParts ac aparts = some acs →
    ∃ cs, Instr.fill place cells parts = some cs ∧ acs.length = cs.size ∧ ∀ j (h : j < acs.length) (h' : j < cs.size), RV w m H acs[j] cs[j]
  | [], [], cells, ac, acs, _, _, hn, hrv, h => by
    simp only [fillParts, Option.some.injEq] at h
    subst h
    exact ⟨cells, rfl, hn, hrv⟩
  | [], _ :: _, _, _, _, hl, _, _, _, _ => by simp at hl
  | _ :: _, [], _, _, _, hl, _, _, _, _ => by simp at hl
  | (i, v) :: parts, (off, sz, x) :: aparts, cells, ac, acs, hl, hp, hn, hrv, h => by
    simp only [fillParts] at h
    split at h
    case isFalse => cases h
    rename_i hc
    obtain ⟨hok, hfit⟩ := hc
    have hp0 := hp 0 (by simp) (by simp)
    simp only [List.getElem_cons_zero] at hp0
    obtain ⟨hpl, hx⟩ := hp0
    obtain ⟨x1, x2, x3, _⟩ := okEl_cells hx hok
    obtain ⟨f1, f2⟩ := fill_step v off cells (by omega)
    have hcond : ¬ ((decide (v.cells.size ≠ sz) || decide (off + v.cells.size > cells.size)) = true) := by simp; omega
    have ih := fill_sound (place := place) parts aparts _ (setAll ac off (cellsOf x)) acs (by simpa using hl) (fun j a b => hp (j + 1) (Nat.succ_lt_succ a) (Nat.succ_lt_succ b))
      (by rw [setAll_length, f1]; exact hn) (fun j a b => ?_) h
    · obtain ⟨cs, g1, g2⟩ := ih
      refine ⟨cs, ?_, g2⟩
      simp only [Instr.fill, hpl]
      rw [if_neg hcond]; exact g1
    · have hj : j < ac.length := by rw [setAll_length] at a; exact a
      have hj' : j < cells.size := by omega
      have e1 := setAll_get (cellsOf x) ac off (by omega) j
      have e2 := f2 j
      rw [List.getElem?_eq_getElem a] at e1
      rw [Array.getElem?_eq_getElem b] at e2
      by_cases c : off ≤ j ∧ j < off + sz
      · rw [if_pos (by omega)] at e1 e2
        have q1 : j - off < (cellsOf x).length := by omega
        have q2 : j - off < v.cells.size := by omega
        rw [List.getElem?_eq_getElem q1] at e1
        rw [Array.getElem?_eq_getElem q2] at e2
        rw [Option.some.inj e1, Option.some.inj e2]; exact x3 _ q1 q2
      · rw [if_neg (by omega)] at e1 e2
        rw [List.getElem?_eq_getElem hj] at e1
        rw [Array.getElem?_eq_getElem hj'] at e2
        rw [Option.some.inj e1, Option.some.inj e2]; exact hrv j hj hj'
theorem fill_row (sz : Nat) : ∀ (vs : List Value) (s : Nat) (cells : Array Value), (∀ v ∈ vs, v.cells.size = sz) → (s + vs.length) * sz ≤ cells.size →
    ∃ cs, Instr.fill (fun i => some (i * sz, sz)) cells ((List.range' s vs.length).zip vs) = some cs ∧ cs.size = cells.size ∧ (∀ q, q < s * sz → cs[q]? = cells[q]?) ∧
      ∀ k (hk : k < vs.length) j, j < sz → cs[(s + k) * sz + j]? = vs[k].cells[j]?
  | [], s, cells, _, _ => ⟨cells, by simp [Instr.fill], rfl, fun _ _ => rfl, fun k hk => by simp at hk⟩
  | v :: vs, s, cells, hv, hfit => by
    have hv0 := hv v (by simp)
    have hl : (v :: vs).length = vs.length + 1 := rfl
    have hle : (s + 1) * sz ≤ (s + (v :: vs).length) * sz := Nat.mul_le_mul_right _ (by omega)
    have hs1 : (s + 1) * sz = s * sz + sz := by rw [Nat.add_mul]; omega
    obtain ⟨f1, f2⟩ := fill_step v (s * sz) cells (by omega)
    obtain ⟨cs, g1, g2, g3, g4⟩ := fill_row sz vs (s + 1) _ (fun u hu => hv u (by simp [hu])) (by rw [f1, show s + 1 + vs.length = s + (v :: vs).length by rw [hl]; omega]; exact hfit)
    have hcond : ¬ ((decide (v.cells.size ≠ sz) || decide (s * sz + v.cells.size > cells.size)) = true) := by simp; omega
    refine ⟨cs, ?_, by rw [g2, f1], fun q hq => ?_, fun k hk j hj => ?_⟩
    · simp only [hl, List.range'_succ, List.zip_cons_cons, Instr.fill]
      rw [if_neg hcond]; exact g1
    · rw [g3 q (by omega), f2, if_neg (by omega)]
    · cases k with
      | zero =>
        rw [g3 _ (by simp; omega), f2, if_pos (by simp; omega)]
        simp
      | succ k =>
        have := g4 k (by simpa using hk) j hj
        rw [show s + (k + 1) = s + 1 + k by omega]; simpa using this
end
end Go.Fw
/- Rows made, cut, and looked into. -/
namespace Go.Fw
open Go Go.RowKit
section
variable {P : Program} {B : Nat} {w0 w : World} {m : BM} {H : List AObj} {fr : List AV} {a : Act}
theorem mapX_rv (hf : FRel w m H fr a.tmps) {xs : List Operand} {axs : List AX} (h : xs.mapM trX = some axs) :
    axs.length = xs.length ∧ ∀ j (hj : j < axs.length) (hj' : j < xs.length), RV w m H (axs[j].ev fr) (a.eval xs[j]) := by
  obtain ⟨h1, h2⟩ := mapM_some h
  exact ⟨h1.symm, fun j hj hj' => trX_rv hf (h2 j hj' hj)⟩
theorem allOne_get {sz : Nat} {xs : List AV} (h : allOneCell sz xs = true) (j : Nat) (hj : j < xs.length) : okEl sz xs[j] = true := List.all_eq_true.1 h _ (List.getElem_mem _)
theorem zip_range' (parts : List (Nat × Value)) (h : parts.map (·.1) = List.range parts.length) : parts = (List.range' 0 parts.length).zip (parts.map (·.2)) := by
  rw [← List.range_eq_range', ← h]
  clear h
  induction parts with
  | nil => rfl
  | cons p ps ih =>
    simp only [List.map_cons, List.zip_cons_cons]
    rw [← ih]
theorem run_lit {t e : TypeId} {i : TypeInfo} (ht : P.underlying t = some (.slice e)) (hi : P.info? e = some i) (hz : ∃ z, i.zero = some z) {parts : Array (Nat × Value)}
    (hidx : parts.toList.map (·.1) = List.range parts.size) (hcells : ∀ v ∈ parts.toList.map (·.2), v.cells.size = i.size) (hbig : parts.size * i.size ≤ 16777216) :
    ∃ cs : Array Value, cs.size = parts.size * i.size ∧ (∀ k (hk : k < parts.size) j, j < i.size → cs[k * i.size + j]? = parts[k].2.cells[j]?) ∧
      (Instr.buildSlice t parts.size parts).run P w = .ok (.slice (some ⟨w.heap.size, 0, none⟩) parts.size parts.size) (w.alloc (.cells cs e)) := by
  obtain ⟨z, hz⟩ := hz
  have hlen : (parts.toList.map (·.2)).length = parts.size := by simp
  have run : ∀ base : Array Value, base.size = parts.size * i.size → ∃ cs, Instr.fill (fun q => some (q * i.size, i.size)) base parts.toList = some cs ∧ cs.size = parts.size * i.size ∧
      (∀ k (hk : k < parts.size) j, j < i.size → cs[k * i.size + j]? = parts[k].2.cells[j]?) := by
    intro base hb
    obtain ⟨cs, g1, g2, _, g4⟩ := fill_row i.size (parts.toList.map (·.2)) 0 base hcells (by rw [hlen]; simp; omega)
    have e := zip_range' parts.toList (by simpa using hidx)
    refine ⟨cs, ?_, by omega, fun k hk j hj => ?_⟩
    · rw [e]; simpa using g1
    · have := g4 k (by simpa using hk) j hj
      simpa using this
  by_cases h0 : parts.size * i.size = 0
  · obtain ⟨cs, g1, g2, g3⟩ := run #[] (by simp [h0])
    refine ⟨cs, g2, g3, ?_⟩
    have he : (Array.range 0).map (fun _ => (default : Value)) = #[] := by rw [Array.range_zero', Array.map_empty]
    simp [Instr.buildSlice, run_underlying ht, sizeOf, typeInfo, hi, h0, he, g1, newRow]
  · obtain ⟨cs, g1, g2, g3⟩ := run ((Array.range (parts.size * i.size)).map (z.cells[· % z.cells.size]!)) (by simp)
    refine ⟨cs, g2, g3, ?_⟩
    have hn : ¬ (16777216 < parts.size * i.size) := by omega
    simp [Instr.buildSlice, run_underlying ht, sizeOf, typeInfo, hi, hn, h0, zeroValue, hz, g1, newRow]
theorem lit_cells {sz : Nat} {xs : List AV} {parts : Array (Nat × Value)} (hn : xs.length = parts.size) (hrv : ∀ j (h : j < xs.length) (h' : j < parts.size), RV w m H xs[j] parts[j].2)
    (hone : allOneCell sz xs = true) : (∀ v ∈ parts.toList.map (·.2), v.cells.size = sz) ∧
    ∀ (cs : Array Value), (∀ k (hk : k < parts.size) j, j < sz → cs[k * sz + j]? = parts[k].2.cells[j]?) →
      ∀ k (hk : k < xs.length), (cellsOf xs[k]).length = sz ∧ ∀ j (hj : j < (cellsOf xs[k]).length), ∃ v, cs[k * sz + j]? = some v ∧ RV w m H (cellsOf xs[k])[j] v := by
  constructor
  · intro v hv
    obtain ⟨p, hp, rfl⟩ := List.mem_map.1 hv
    obtain ⟨j, hj, rfl⟩ := List.mem_iff_getElem.1 hp
    have hj' : j < parts.size := by simpa using hj
    have := (okEl_cells (hrv j (by omega) hj') (allOne_get hone j (by omega))).1
    simpa using this
  · intro cs hcs k hk
    obtain ⟨c1, c2, c3, _⟩ := okEl_cells (hrv k hk (by omega)) (allOne_get hone k hk)
    refine ⟨c2, fun j hj => ?_⟩
    have hj' : j < parts[k].2.cells.size := by omega
    exact ⟨parts[k].2.cells[j], by rw [hcs k (by omega) j (by omega)]; simp [hj'], c3 j hj hj'⟩
theorem new_plain (r : Rel B w0 m H w) (o : Obj) : Tr m H w m H (w.alloc o) ∧ Rel B w0 m H (w.alloc o) := by
  have t : Tr m H w m H (w.alloc o) :=
    ⟨by simp, Nat.le_refl _, fun b hb _ => heap_alloc_old _ _ hb, fun _ _ h => h, fun i o o' h h' => by rw [h] at h'; cases h'; exact ⟨Nat.le_refl _, fun hl _ => ⟨hl, rfl, rfl, rfl⟩⟩, rfl⟩
  refine ⟨t, ⟨r.below.alloc r.hB _, by have := r.hB; simp; omega, r.szpos, r.virt, r.base, fun i o ho hl hv => ?_, r.inj, r.xlt⟩⟩
  obtain ⟨arr, h1, h2, h3⟩ := r.obj i o ho hl hv
  exact ⟨arr, by rw [heap_alloc_old _ _ (Array.getElem?_eq_some_iff.1 h1).1]; exact h1, h2, fun k hk => ⟨(h3 k hk).1, fun j hj => let ⟨v, a, b⟩ := (h3 k hk).2 j hj; ⟨v, a, b.mono t⟩⟩⟩
theorem lit_sound (r : Rel B w0 m H w) {t e : TypeId} {i : TypeInfo} (ht : P.underlying t = some (.slice e)) (hi : P.info? e = some i) (hz : ∃ z, i.zero = some z) {parts : Array (Nat × Value)}
    (hidx : parts.toList.map (·.1) = List.range parts.size) (hbig : parts.size * i.size ≤ 16777216) {xs : List AV} (hn : xs.length = parts.size)
    (hrv : ∀ j (h : j < xs.length) (h' : j < parts.size), RV w m H xs[j] parts[j].2) (hone : allOneCell i.size xs = true) (hnr : noRefs xs = true) :
    ∃ w' v', (Instr.buildSlice t parts.size parts).run P w = .ok v' w' ∧ Tr m H w m H w' ∧ Rel B w0 m H w' ∧ RV w' m H (.imm false (some xs.length) i.size xs) v' := by
  obtain ⟨c1, c2⟩ := lit_cells hn hrv hone
  obtain ⟨cs, h1, h2, h3⟩ := run_lit (w := w) ht hi hz hidx c1 hbig
  obtain ⟨t1, r1⟩ := new_plain r (.cells cs e)
  refine ⟨_, _, h3, t1, r1, ?_⟩
  have hcell := c2 cs h2
  have ea : ∀ q, (⟨w.heap.size, 0, none⟩ : Addr).add q = ⟨w.heap.size, q, none⟩ := by intro q; unfold Addr.add; split <;> simp_all
  have hnw : ¬ Wr m H w.heap.size := fun h => by have := r.wr_lt h; omega
  refine .ri (.imm (fun k j => (cs[k * i.size + j]?).getD undef) hn (Nat.le_refl _) (fun k hk => by cases hk; exact hn) (fun k j hk hj => ?_) (fun k hk => (hcell k hk).1) (fun k j hk hj => ?_))
  · have hkx : k < xs.length := by omega
    obtain ⟨v, a1, _⟩ := (hcell k hkx).2 j (by rw [(hcell k hkx).1]; exact hj)
    rw [ea]
    refine ⟨?_, hnw⟩
    rw [World.cell?_alloc_new, a1]; rfl
  · obtain ⟨v, a1, a2⟩ := (hcell k hk).2 j hj
    simp only [a1, Option.getD_some]
    have hnk := noRefs_get hnr k hk
    have hrx := (hrv k hk (by omega)).toRI hnk
    have hu : xs[k] ≠ .und := by
      intro e; have := allOne_get hone k hk; rw [e] at this; simp [okEl, cellsOf, oneC] at this
    obtain ⟨q1, q2⟩ := hrx.cells hu
    have hjv : j < parts[k].2.cells.size := by omega
    have e1 : v = parts[k].2.cells[j] := by
      have := h2 k (by omega) j (by have := (hcell k hk).1; omega)
      rw [a1, Array.getElem?_eq_getElem hjv] at this; exact Option.some.inj this
    rw [e1]
    exact (q2 j hj hjv).mono t1.cell t1.wr
theorem litO_sound (r : Rel B w0 m H w) {t e : TypeId} {i : TypeInfo} (ht : P.underlying t = some (.slice e)) (hi : P.info? e = some i) (hz : ∃ z, i.zero = some z) {parts : Array (Nat × Value)}
    (hidx : parts.toList.map (·.1) = List.range parts.size) (hbig : parts.size * i.size ≤ 16777216) (hsz : 0 < i.size) {xs : List AV} (hn : xs.length = parts.size)
    (hrv : ∀ j (h : j < xs.length) (h' : j < parts.size), RV w m H xs[j] parts[j].2) (hone : allOneCell i.size xs = true) :
    ∃ m' w' v', (Instr.buildSlice t parts.size parts).run P w = .ok v' w' ∧ Tr m H w m' (H ++ [{ ty := e, sz := i.size, es := xs }]) w' ∧ Rel B w0 m' (H ++ [{ ty := e, sz := i.size, es := xs }]) w' ∧
      RV w' m' (H ++ [{ ty := e, sz := i.size, es := xs }]) (.slc H.length xs.length 0 xs.length none) v' := by
  obtain ⟨c1, c2⟩ := lit_cells hn hrv hone
  obtain ⟨cs, h1, h2, h3⟩ := run_lit (w := w) ht hi hz hidx c1 hbig
  obtain ⟨t1, r1⟩ := r.alloc e i.size xs.length xs cs hsz ⟨Nat.le_refl _, by rw [h1, hn]; exact Nat.le_refl _⟩ (c2 cs h2)
  refine ⟨_, _, _, h3, t1, r1, ?_⟩
  rw [← hn]
  exact new_slc _ rfl rfl (Nat.le_refl _)
theorem mkS_sound (r : Rel B w0 m H w) {t e : TypeId} {i : TypeInfo} {z : Value} (ht : P.underlying t = some (.slice e)) (hi : P.info? e = some i) (hz : i.zero = some z) {za : AV} (hza : toAV z = some za)
    {l c : AX} {ul uc : Value} (hl : RV w m H (l.ev fr) ul) (hc : RV w m H (c.ev fr) uc) {v : AV} {H' : List AObj} (h : evK (.mkS e i.size i.bytes za l c) fr H = some (v, H')) :
    ∃ m' w' v', (Instr.makeSlice t ul uc).run P w = .ok v' w' ∧ Tr m H w m' H' w' ∧ Rel B w0 m' H' w' ∧ RV w' m' H' v v' := by
  simp only [evK] at h
  split at h
  case h_2 => cases h
  rename_i n q hle hce
  rw [hle] at hl; rw [hce] at hc
  obtain ⟨rfl, -⟩ := hl.sc_inv
  obtain ⟨rfl, -⟩ := hc.sc_inv
  split at h
  case isFalse => cases h
  rename_i hcond
  obtain ⟨h1, h2, h3, h4, h5, h6⟩ := hcond
  simp only [Option.some.injEq, Prod.mk.injEq] at h
  obtain ⟨rfl, rfl⟩ := h
  have hzr : RV w m H za z := .ri (toAV_rv hza)
  obtain ⟨z1, z2, z3, z4⟩ := okEl_cells hzr h6
  have hr := run_make (P := P) w t e i z ht hi hz .i64 .i64 n q h1 h2 (by rw [Int.mul_comm]; exact h3) h4
  obtain ⟨t1, r1⟩ := r.alloc e i.size q.toNat (List.replicate n.toNat za) (madeCells z.cells (q.toNat * i.size)) h5 ⟨by simp; omega, by rw [size_madeCells]; exact Nat.le_refl _⟩
    (by
      intro k hk
      have hk' : k < n.toNat := by simpa using hk
      simp only [List.getElem_replicate]
      refine ⟨z2, fun j hj => ?_⟩
      have hlt : k * i.size + j < q.toNat * i.size := idx_lt (by omega) (by omega)
      have hjz : j < z.cells.size := by omega
      refine ⟨z.cells[j], ?_, z3 j hj hjz⟩
      have hmod : (k * i.size + j) % i.size = j := (idx_div (by omega)).2
      simp [madeCells, hlt, z1, hmod]
      exact getElem!_pos z.cells j hjz)
  refine ⟨_, _, _, hr, t1, r1, ?_⟩
  exact new_slc _ (by simp) rfl (by omega)
theorem new_sound (r : Rel B w0 m H w) {e : TypeId} {sz : Nat} {x : AX} {u : Value} (hx : RV w m H (x.ev fr) u) {v : AV} {H' : List AObj} (h : evK (.new e sz x) fr H = some (v, H')) :
    ∃ m' w' v', (newVar e u).run P w = .ok v' w' ∧ Tr m H w m' H' w' ∧ Rel B w0 m' H' w' ∧ RV w' m' H' v (.pointer (some v')) := by
  simp only [evK] at h
  split at h
  case isFalse => cases h
  rename_i hc
  obtain ⟨hok, hsz⟩ := hc
  simp only [Option.some.injEq, Prod.mk.injEq] at h
  obtain ⟨rfl, rfl⟩ := h
  obtain ⟨x1, x2, x3, _⟩ := okEl_cells hx hok
  obtain ⟨t1, r1⟩ := r.alloc e sz 1 [x.ev fr] u.cells hsz ⟨by simp, by omega⟩
    (by
      intro k hk
      have : k = 0 := by simpa using hk
      subst this
      refine ⟨x2, fun j hj => ?_⟩
      have hju : j < u.cells.size := by simp at hj; omega
      exact ⟨u.cells[j], by simp [hju], x3 j hj hju⟩)
  refine ⟨_, _, ⟨w.heap.size, 0, none⟩, by simp [newVar, newRow], t1, r1, ?_⟩
  refine .ptr { ty := e, sz := sz, es := [x.ev fr] } (by simp) (by simp) (fun _ _ => ?_)
  simp [bump]
end
theorem clr_sound {P : Program} {B : Nat} {w0 w : World} {m : BM} {H : List AObj} {fr : List AV} (r : Rel B w0 m H w) {t rt e : TypeId} {i : TypeInfo} {z : Value} {za : AV} (ht : P.underlying t = some (.slice e)) (hi : P.info? e = some i) (hz : i.zero = some z) (hza : toAV z = some za)
    {x : AX} {ux : Value} (hx : RV w m H (x.ev fr) ux) {v : AV} {H' : List AObj} (h : evK (.clr i.size za x) fr H = some (v, H')) :
    ∃ m' w' v', (Builtin.clear_ #[t] rt #[ux]).run P w = .ok v' w' ∧ Tr m H w m' H' w' ∧ Rel B w0 m' H' w' ∧ RV w' m' H' v v' := by
  simp only [evK] at h
  have none_ : ∀ (A : Option Addr) (cap : Nat), (Builtin.clear_ #[t] rt #[.slice A 0 cap]).run P w = .ok (.tuple #[]) w := by
    intro A cap
    cases A <;> simp [Builtin.clear_, run_underlying ht]
  have fin : ∀ (w' : World) (m' : BM) (H' : List AObj), RV w' m' H' (.tup []) (.tuple #[]) := fun _ _ _ => .tup rfl (fun j h => by simp at h)
  split at h
  · rename_i nl c sz xs he
    split at h
    case isFalse => cases h
    rename_i hxs
    cases h; subst hxs
    rw [he] at hx
    have hx' : RI w (Wr m H) (.imm nl c sz []) ux := by cases hx with | ri h => exact h
    cases hx' with
    | nil => exact ⟨m, w, _, none_ _ _, Tr.refl _ _ _, r, fin _ _ _⟩
    | nilx => exact ⟨m, w, _, none_ _ _, Tr.refl _ _ _, r, fin _ _ _⟩
    | imm cv hn => simp at hn; subst hn; exact ⟨m, w, _, none_ _ _, Tr.refl _ _ _, r, fin _ _ _⟩
  · rename_i j L off n c he
    rw [he] at hx
    cases hlv : live? H j L with
    | none => simp [hlv] at h
    | some o =>
      simp only [hlv] at h
      obtain ⟨ho, hl, hL⟩ := live?_some hlv
      obtain ⟨A, cap, o', rfl, ho', hL', hok⟩ := hx.slc_inv
      rw [ho] at ho'; cases ho'
      have hok := hok hl hL
      split at h
      · rename_i hn; cases h; subst hn
        exact ⟨m, w, _, none_ _ _, Tr.refl _ _ _, r, fin _ _ _⟩
      · rename_i hn
        split at h
        case isFalse => cases h
        rename_i hcond
        obtain ⟨hv, hosz, hfit, hoke⟩ := hcond
        cases h
        unfold SlcOk at hok
        rw [hv] at hok
        obtain ⟨hA0, hA1, hA2, hA3, hA4, hA5⟩ := hok
        have hAe := hA1 (by omega)
        subst hAe
        obtain ⟨x1, x2, x3, x4⟩ := okEl_cells (w := w) (m := m) (H := H) (.ri (toAV_rv hza)) hoke
        have hsz : 0 < o.sz := r.szpos j o ho
        have hll : (Builtin.zeroCells z.cells n).toList.length = (List.replicate n za).length * o.sz := by
          rw [Array.length_toList, size_zeroCells, List.length_replicate, x1, hosz]
        obtain ⟨arr, h1, hf, t2, r2⟩ := r.over ho hl hv (off := off) (ys := List.replicate n za) (l := (Builtin.zeroCells z.cells n).toList) hll (by simp; omega) (by
          intro k hk
          simp only [List.length_replicate] at hk
          simp only [List.getElem_replicate]
          refine ⟨by omega, fun q hq => ⟨z.cells[q]'(by omega), ?_, x3 q hq (by omega)⟩⟩
          have hq' : k * o.sz + q < n * o.sz := idx_lt hk (by omega)
          rw [Array.getElem?_toList]
          simp only [Builtin.zeroCells]
          rw [Array.getElem?_map, Array.getElem?_eq_getElem (by rw [Array.size_range, x1, ← hosz]; exact hq')]
          simp only [Option.map_some, Array.getElem_range, x1, ← hosz]
          have e : (k * o.sz + q) % o.sz = q := by
            rw [Nat.add_comm, Nat.add_mul_mod_self_right, Nat.mod_eq_of_lt (by omega)]
          rw [e, getElem!_pos z.cells q (by omega)])
        have hone : ∀ u ∈ (Builtin.zeroCells z.cells n).toList, u.oneCell' = true := by
          intro u hu
          rw [Array.mem_toList_iff] at hu
          simp only [Builtin.zeroCells, Array.mem_map, Array.mem_range] at hu
          obtain ⟨q, hq, rfl⟩ := hu
          have : q % z.cells.size < z.cells.size := Nat.mod_lt _ (by omega)
          rw [getElem!_pos z.cells _ this]
          exact x4 _ (Array.mem_toList_iff.2 (Array.getElem_mem this))
        have hst := run_storeCells_at P (m j).1 (off * o.sz) o.ty (Builtin.zeroCells z.cells n).toList 0 arr w h1 (by simpa using hf) hone
        refine ⟨m, _, .tuple #[], ?_, by simpa using t2, by simpa using r2, fin _ _ _⟩
        simp only [Nat.add_zero] at hst
        simp [Builtin.clear_, run_underlying ht, hn, zeroValue, typeInfo, hi, hz, hst]
  · cases h
theorem cpy_sound {P : Program} {B : Nat} {w0 w : World} {m : BM} {H : List AObj} {fr : List AV} (r : Rel B w0 m H w) {t rt e : TypeId} {i : TypeInfo} (ht : P.underlying t = some (.slice e)) (hi : P.info? e = some i)
    {s x : AX} {us ux : Value} (hs : RV w m H (s.ev fr) us) (hx : RV w m H (x.ev fr) ux) {v : AV} {H' : List AObj} (h : evK (.cpy i.size s x) fr H = some (v, H')) :
    ∃ m' w' v', (Builtin.copy_ #[t, t] rt #[us, ux]).run P w = .ok v' w' ∧ Tr m H w m' H' w' ∧ Rel B w0 m' H' w' ∧ RV w' m' H' v v' := by
  simp only [evK] at h
  cases hel : elems i.size H (x.ev fr) with
  | none => simp [hel] at h
  | some xs =>
    simp only [hel] at h
    obtain ⟨A', cap', rfl, hcap', hat⟩ := elems_sound r hel hx
    split at h
    case isFalse => cases h
    rename_i hone
    split at h
    case h_2 => cases h
    rename_i j L off n c hse
    rw [hse] at hs
    cases hlv : live? H j L with
    | none => simp [hlv] at h
    | some o =>
      simp only [hlv] at h
      obtain ⟨ho, hl, hL⟩ := live?_some hlv
      obtain ⟨A, cap, o', rfl, ho', hL', hok⟩ := hs.slc_inv
      rw [ho] at ho'; cases ho'
      have hok := hok hl hL
      split at h
      · rename_i h0; cases h
        refine ⟨m, w, goInt 0, ?_, Tr.refl _ _ _, r, .sc _ rfl⟩
        have hl0 : ∀ a : Addr, (loadCells a 0).run P w = .ok #[] w := fun a => by simp [loadCells, loadCellsFrom]
        have h0' : Nat.min xs.length n = 0 := h0
        cases A <;> cases A' <;> simp [Builtin.copy_, run_underlying ht, Builtin.lenOf, Builtin.firstCells, sizeOf, typeInfo, hi, h0', storeCells, hl0]
      · rename_i h0
        split at h
        case isFalse => cases h
        rename_i hcond
        obtain ⟨hv, hosz, hfit⟩ := hcond
        cases h
        unfold SlcOk at hok
        rw [hv] at hok
        obtain ⟨hA0, hA1, hA2, hA3, hA4, hA5⟩ := hok
        have hAe := hA1 (by omega)
        subst hAe
        obtain ⟨ad, cv, rfl, hA⟩ := hat (by rintro rfl; simp at h0)
        have hP := hA.part 0 (min xs.length n) (by omega)
        have hys : (xs.drop 0).take (min xs.length n) = xs.take n := by
          rw [List.drop_zero]
          rcases Nat.le_total xs.length n with e | e
          · rw [Nat.min_eq_left e, List.take_of_length_le (Nat.le_refl _), List.take_of_length_le e]
          · rw [Nat.min_eq_right e]
        rw [hys, Nat.zero_mul, add_zero] at hP
        have hlen : (xs.take n).length = min xs.length n := by rw [List.length_take, Nat.min_comm]
        have hone' : allOneCell i.size (xs.take n) = true := by
          simp only [allOneCell, List.all_eq_true] at hone ⊢
          exact fun y hy => hone y (List.mem_of_mem_take hy)
        obtain ⟨arr, h1, hf, t2, r2⟩ := r.over ho hl hv (off := off) (ys := xs.take n) (l := flat i.size (xs.take n).length (fun k j => cv (0 + k) j)) (by rw [flat_length, hosz]) (by rw [hlen]; omega) (by rw [hosz]; exact hP.row)
        have hld := run_loadCells_list (P := P) w ad (flat i.size (xs.take n).length (fun k j => cv (0 + k) j)) (fun j v hj => hP.cells hj)
        have hst := run_storeCells_at P (m j).1 (off * o.sz) o.ty (flat i.size (xs.take n).length (fun k j => cv (0 + k) j)) 0 arr w h1 (by simpa using hf) (hP.one hone')
        rw [hlen] at t2 r2
        refine ⟨m, _, goInt (min xs.length n : Nat), ?_, t2, r2, .sc _ rfl⟩
        rw [flat_length, hlen] at hld
        simp only [Nat.add_zero, hlen] at hst
        have hmin : Nat.min xs.length n = min xs.length n := rfl
        simp only [Nat.zero_add] at hld hst ⊢
        simp [Builtin.copy_, run_underlying ht, Builtin.lenOf, Builtin.firstCells, sizeOf, typeInfo, hi, hmin, hld, hst]
end Go.Fw
/- All operations together. -/
namespace Go.Fw
open Go Go.RowKit
section
variable {P : Program} {B : Nat} {w0 w : World} {m : BM} {H : List AObj} {fr : List AV} {a : Act}
theorem bnd_sound (hf : FRel w m H fr a.tmps) {o : Option Operand} {x : Option AX} (ho : opt trX o = some x) {d n : Int} (h : bound? d fr x = some n) :
    (o = none ∧ x = none ∧ n = d) ∨ ∃ k q, o = some q ∧ a.eval q = .int k n := by
  cases o with
  | none => simp [opt] at ho; subst ho; simp [bound?] at h; exact .inl ⟨rfl, rfl, h.symm⟩
  | some q =>
    simp only [opt, Option.map_eq_some_iff] at ho
    obtain ⟨ax, hax, rfl⟩ := ho
    simp only [bound?] at h
    split at h
    · rename_i k z hz
      cases h
      have := trX_rv hf hax
      rw [hz] at this
      exact .inr ⟨k, q, rfl, this.sc_inv.1⟩
    · cases h
theorem run_slice {t e : TypeId} {i : TypeInfo} (ht : P.underlying t = some (.slice e)) (hi : P.info? e = some i) (A : Option Addr) (len cap : Nat) (lo hi' mx : Option Value) (l h M : Nat)
    (hl : (lo = none ∧ l = 0) ∨ ∃ k, lo = some (.int k l)) (hM : (mx = none ∧ M = cap) ∨ (∃ k, mx = some (.int k M)) ∧ M ≤ cap)
    (hh : (hi' = none ∧ h = len ∧ mx = none) ∨ ∃ k, hi' = some (.int k h)) (hlh : l ≤ h) (hhM : h ≤ M) :
    (Instr.sliceAt t (.slice A len cap) lo hi' mx).run P w = .ok (.slice (if M = l then A else A.map (·.add (l * i.size))) (h - l) (M - l)) w := by
  have e1 : ∀ (n b : Nat), n ≤ b → (0 ≤ (n : Int) ∧ (n : Int) ≤ (b : Int)) := by intros; omega
  rcases hl with ⟨rfl, rfl⟩ | ⟨kl, rfl⟩ <;> rcases hM with ⟨rfl, rfl⟩ | ⟨⟨kM, rfl⟩, hMc⟩ <;> rcases hh with ⟨rfl, rfl, hm⟩ | ⟨kh, rfl⟩ <;>
    first
      | cases hm; done
      | simp [Instr.sliceAt, run_underlying ht, Instr.slice, Instr.sliceBounds, Instr.sliceBound, asIntOf, sizeOf, typeInfo, *]
theorem RI.slice {W : Nat → Prop} {ad : Addr} {n cap sz : Nat} {c : Option Nat} {xs : List AV} (h : RI w W (.imm false c sz xs) (.slice (some ad) n cap)) (l hh M : Nat) (hl : l ≤ hh) (hhn : hh ≤ xs.length) (hM : hh ≤ M) (c' : Option Nat)
    (hc' : ∀ k, c' = some k → k = M - l) :
    RI w W (.imm false c' sz ((xs.drop l).take (hh - l))) (.slice (if M = l then some ad else (some ad).map (·.add (l * sz))) (hh - l) (M - l)) := by
  cases h with | imm cv hn hcap hc hcell hsz hrv =>
  have hlen : ((xs.drop l).take (hh - l)).length = hh - l := by simp; omega
  have key : ∀ b : Addr, (hh - l ≠ 0 → b = ad.add (l * sz)) → RI w W (.imm false c' sz ((xs.drop l).take (hh - l))) (.slice (some b) (hh - l) (M - l)) := by
    intro b hb
    refine .imm (fun k j => cv (l + k) j) hlen (by omega) hc' (fun k j hk hj => ?_) (fun k hk => ?_) (fun k j hk hj => ?_)
    · rw [hb (by omega)]
      have := hcell (l + k) j (by omega) hj
      rw [add_add, show l * sz + (k * sz + j) = (l + k) * sz + j by rw [Nat.add_mul]; omega]
      exact ⟨this.1, by rw [add_block]; exact this.2⟩
    · have hk2 : l + k < xs.length := by omega
      have e : ((xs.drop l).take (hh - l))[k] = xs[l + k] := by simp
      rw [e]; exact hsz _ hk2
    · have hk2 : l + k < xs.length := by omega
      have e : ((xs.drop l).take (hh - l))[k] = xs[l + k] := by simp
      simp only [e] at hj ⊢
      exact hrv _ _ hk2 hj
  by_cases he : M = l
  · rw [if_pos he]; exact key ad (fun h => by omega)
  · rw [if_neg he]; exact key _ (fun _ => rfl)
theorem sls_sound (hf : FRel w m H fr a.tmps) {t : TypeId} (ht : P.underlying t = some .string)
    {x : AX} {u : Value} (hx : RV w m H (x.ev fr) u) {lo hi' : Option Operand} {lo' hi'' : Option AX} (h1 : opt trX lo = some lo') (h2 : opt trX hi' = some hi'') {v : AV} {H' : List AObj} (h : evK (.sls x lo' hi'') fr H = some (v, H')) :
    H' = H ∧ ∃ u', (Instr.sliceAt t u (lo.map a.eval) (hi'.map a.eval) none).run P w = .ok u' w ∧ RV w m H v u' := by
  simp only [evK] at h
  split at h
  case h_2 => cases h
  rename_i s hxe
  rw [hxe] at hx
  have hu := hx.sc_inv.1
  subst hu
  split at h
  case h_2 => cases h
  rename_i l hh hbl hbh
  have B1 := bnd_sound hf h1 hbl
  have B2 := bnd_sound hf h2 hbh
  split at h
  case isFalse => cases h
  rename_i hc
  obtain ⟨c1, c2, c3⟩ := hc
  simp only [Option.some.injEq, Prod.mk.injEq] at h
  obtain ⟨rfl, rfl⟩ := h
  refine ⟨rfl, .string (s.extract l.toNat hh.toNat), ?_, .sc _ rfl⟩
  have nb : ∀ (o : Option Operand) (n : Int) (d : Int), 0 ≤ n → ((o = none ∧ n = d) ∨ ∃ k q, o = some q ∧ a.eval q = .int k n) →
      ((o.map a.eval = none ∧ n = d) ∨ ∃ k, o.map a.eval = some (.int k (n.toNat : Int))) := by
    intro o n d h0 h
    rcases h with ⟨rfl, rfl⟩ | ⟨k, q, rfl, hq⟩
    · exact .inl ⟨rfl, rfl⟩
    · exact .inr ⟨k, by simp [hq, Int.toNat_of_nonneg h0]⟩
  have L1 := nb lo l 0 c1 (B1.imp (fun q => ⟨q.1, q.2.2⟩) id)
  have L2 := nb hi' hh s.size (by omega) (B2.imp (fun q => ⟨q.1, q.2.2⟩) id)
  clear nb B1 B2 hbl hbh
  obtain ⟨p, rfl⟩ : ∃ p : Nat, l = p := ⟨l.toNat, by omega⟩
  obtain ⟨q, rfl⟩ : ∃ q : Nat, hh = q := ⟨hh.toNat, by omega⟩
  have d1 : p ≤ q := by omega
  have d2 : q ≤ s.size := by omega
  simp only [Int.toNat_natCast] at L1 L2 ⊢
  rcases L1 with ⟨e1, e2⟩ | ⟨k1, e1⟩ <;> rcases L2 with ⟨e3, e4⟩ | ⟨k2, e3⟩
  · obtain rfl : p = 0 := by omega
    obtain rfl : q = s.size := by omega
    simp [Instr.sliceAt, Instr.slice, Instr.sliceBounds, run_underlying ht, e1, e3]
  · obtain rfl : p = 0 := by omega
    simp [Instr.sliceAt, Instr.slice, Instr.sliceBounds, Instr.sliceBound, asIntOf, run_underlying ht, e1, e3, d2]
  · obtain rfl : q = s.size := by omega
    simp [Instr.sliceAt, Instr.slice, Instr.sliceBounds, Instr.sliceBound, asIntOf, run_underlying ht, e1, e3, d1]
  · simp [Instr.sliceAt, Instr.slice, Instr.sliceBounds, Instr.sliceBound, asIntOf, run_underlying ht, e1, e3, d1, d2]
theorem sl_sound (_r : Rel B w0 m H w) (hf : FRel w m H fr a.tmps) {t e : TypeId} {i : TypeInfo} (ht : P.underlying t = some (.slice e)) (hi : P.info? e = some i)
    {x : AX} {u : Value} (hx : RV w m H (x.ev fr) u) {lo hi' mx : Option Operand} {lo' hi'' mx' : Option AX} (h1 : opt trX lo = some lo') (h2 : opt trX hi' = some hi'') (h3 : opt trX mx = some mx')
    (hmx : ¬ (mx.isSome = true ∧ hi'.isNone = true)) {v : AV} {H' : List AObj} (h : evK (.sl i.size x lo' hi'' mx') fr H = some (v, H')) :
    H' = H ∧ ∃ u', (Instr.sliceAt t u (lo.map a.eval) (hi'.map a.eval) (mx.map a.eval)).run P w = .ok u' w ∧ RV w m H v u' := by
  have nb : ∀ (o : Option Operand) (n : Int) (d : Int), 0 ≤ n → ((o = none ∧ n = d) ∨ ∃ k q, o = some q ∧ a.eval q = .int k n) →
      ((o.map a.eval = none ∧ n = d) ∨ ∃ k, o.map a.eval = some (.int k (n.toNat : Int))) := by
    intro o n d h0 h
    rcases h with ⟨rfl, rfl⟩ | ⟨k, q, rfl, hq⟩
    · exact .inl ⟨rfl, rfl⟩
    · exact .inr ⟨k, by simp [hq, Int.toNat_of_nonneg h0]⟩
  simp only [evK] at h
  split at h
  · -- immutable
    rename_i nl c sz' xs hxe
    rw [hxe] at hx
    have hx' : RI w (Wr m H) (.imm nl c sz' xs) u := by cases hx with | ri h => exact h
    split at h
    case h_2 => cases h
    rename_i l hh hbl hbh
    have B1 := bnd_sound hf h1 hbl
    have B2 := bnd_sound hf h2 hbh
    split at h
    · -- no third bound
      split at h
      case isFalse => cases h
      rename_i hcond
      obtain ⟨c1, c2, c3, c4⟩ := hcond
      simp only [Option.some.injEq, Prod.mk.injEq] at h
      obtain ⟨rfl, rfl⟩ := h
      have hmn : mx = none := by cases mx with | none => rfl | some q => simp [opt] at h3
      subst hmn
      have hxs : (if l = 0 ∧ hh = xs.length then xs else (xs.drop l.toNat).take (hh.toNat - l.toNat)) = (xs.drop l.toNat).take (hh.toNat - l.toNat) := by
        split
        · rename_i hq; obtain ⟨rfl, rfl⟩ := hq; simp
        · rfl
      rw [hxs]
      have L1 := nb lo l 0 c1 (B1.imp (fun q => ⟨q.1, q.2.2⟩) id)
      have L2 := nb hi' hh xs.length (by omega) (B2.imp (fun q => ⟨q.1, q.2.2⟩) id)
      cases hx' with
      | nil =>
        have hl0 : l = 0 := by simp at c3; omega
        have hh0 : hh = 0 := by simp at c3; omega
        subst hl0; subst hh0
        refine ⟨rfl, _, run_slice ht hi none 0 0 _ _ _ 0 0 0 (L1.imp (fun q => ⟨q.1, rfl⟩) id) (.inl ⟨rfl, rfl⟩) (L2.imp (fun q => ⟨q.1, rfl, rfl⟩) id) (Nat.le_refl _) (Nat.le_refl _), ?_⟩
        simpa using RV.ri (RI.nil _ _)
      | nilx _ _ hcx =>
        have hl0 : l = 0 := by simp at c3; omega
        have hh0 : hh = 0 := by simp at c3; omega
        subst hl0; subst hh0
        refine ⟨rfl, _, run_slice ht hi none 0 0 _ _ _ 0 0 0 (L1.imp (fun q => ⟨q.1, rfl⟩) id) (.inl ⟨rfl, rfl⟩) (L2.imp (fun q => ⟨q.1, rfl, rfl⟩) id) (Nat.le_refl _) (Nat.le_refl _), ?_⟩
        simpa using RV.ri (RI.nilx _ _ (by simpa using hcx))
      | @imm ad n cap _ _ _ cv hn hcap hc hcell hsz hrv =>
        have hsz' := c4.resolve_left (by simp)
        subst hsz'
        refine ⟨rfl, _, run_slice ht hi (some ad) n cap _ _ _ l.toNat hh.toNat cap (L1.imp (fun q => ⟨q.1, by omega⟩) id) (.inl ⟨rfl, rfl⟩) (L2.imp (fun q => ⟨q.1, by omega, rfl⟩) id) (by omega) (by omega), ?_⟩
        exact .ri ((RI.imm cv hn hcap hc hcell hsz hrv).slice l.toNat hh.toNat cap (by omega) (by omega) (by omega) _ (fun k hk => by
          cases c with
          | none => simp at hk
          | some k' => have := hc k' rfl; simp at hk; omega))
    · rename_i q
      split at h
      case h_2 => cases h
      rename_i k0 M hqe
      split at h
      case isFalse => cases h
      rename_i hcond
      obtain ⟨c1, c2, c3, c5, c4⟩ := hcond
      simp only [Option.some.injEq, Prod.mk.injEq] at h
      obtain ⟨rfl, rfl⟩ := h
      have B3 := bnd_sound (d := 0) hf h3 (n := M) (by simp [bound?, hqe])
      obtain ⟨k3, q3, rfl, hq3⟩ : ∃ k q', mx = some q' ∧ a.eval q' = .int k M := by
        rcases B3 with ⟨_, q1, _⟩ | q'
        · cases q1
        · exact q'
      have hne : hi' ≠ none := by intro e; exact hmx ⟨rfl, by rw [e]; rfl⟩
      have L1 := nb lo l 0 c1 (B1.imp (fun q => ⟨q.1, q.2.2⟩) id)
      have L2 : ∃ k, hi'.map a.eval = some (.int k (hh.toNat : Int)) := by
        rcases B2 with ⟨q1, _, _⟩ | ⟨k, q', rfl, hq'⟩
        · exact absurd q1 hne
        · exact ⟨k, by simp [hq', Int.toNat_of_nonneg (by omega : 0 ≤ hh)]⟩
      have L3 : ∃ k, (some q3).map a.eval = some (.int k (M.toNat : Int)) := ⟨k3, by simp [hq3, Int.toNat_of_nonneg (by omega : 0 ≤ M)]⟩
      cases hx' with
      | nil =>
        have hM0 : M = 0 := by simp at c5; omega
        have hl0 : l = 0 := by omega
        have hh0 : hh = 0 := by omega
        subst hl0; subst hh0; subst hM0
        refine ⟨rfl, _, run_slice ht hi none 0 0 _ _ _ 0 0 0 (L1.imp (fun q => ⟨q.1, rfl⟩) id) (.inr ⟨L3, Nat.le_refl _⟩) (.inr L2) (Nat.le_refl _) (Nat.le_refl _), ?_⟩
        simpa using RV.ri (RI.nil _ _)
      | nilx _ _ hcx =>
        have hM0 : M = 0 := by simp at c5; omega
        have hl0 : l = 0 := by omega
        have hh0 : hh = 0 := by omega
        subst hl0; subst hh0; subst hM0
        refine ⟨rfl, _, run_slice ht hi none 0 0 _ _ _ 0 0 0 (L1.imp (fun q => ⟨q.1, rfl⟩) id) (.inr ⟨L3, Nat.le_refl _⟩) (.inr L2) (Nat.le_refl _) (Nat.le_refl _), ?_⟩
        simpa using RV.ri (RI.nilx _ _ (by simp))
      | @imm ad n cap _ _ _ cv hn hcap hc hcell hsz hrv =>
        have hsz' := c4.resolve_left (by simp)
        subst hsz'
        refine ⟨rfl, _, run_slice ht hi (some ad) n cap _ _ _ l.toNat hh.toNat M.toNat (L1.imp (fun q => ⟨q.1, by omega⟩) id) (.inr ⟨L3, by omega⟩) (.inr L2) (by omega) (by omega), ?_⟩
        exact .ri ((RI.imm cv hn hcap hc hcell hsz hrv).slice l.toNat hh.toNat M.toNat (by omega) (by omega) (by omega) _ (fun k hk => by simp at hk; omega))
  · -- the call's own
    rename_i j L off n c hxe
    rw [hxe] at hx
    cases hlv : live? H j L with
    | none => simp [hlv] at h
    | some o =>
      simp only [hlv] at h
      obtain ⟨ho, hl, hL⟩ := live?_some hlv
      obtain ⟨A, cap, o', rfl, ho', hL', hok⟩ := hx.slc_inv
      rw [ho] at ho'; cases ho'
      have hok0 := hok
      have hok := hok hl hL
      split at h
      case h_2 => cases h
      rename_i l hh hbl hbh
      have B1 := bnd_sound hf h1 hbl
      have B2 := bnd_sound hf h2 hbh
      split at h
      case isFalse => cases h
      rename_i hcond
      obtain ⟨c1, c2, c3⟩ := hcond
      have L1 := nb lo l 0 c1 (B1.imp (fun q => ⟨q.1, q.2.2⟩) id)
      have L2 := nb hi' hh n (by omega) (B2.imp (fun q => ⟨q.1, q.2.2⟩) id)
      split at h
      · rename_i b hv
        split at h
        case isFalse => cases h
        rename_i hc2
        obtain ⟨rfl, hmxn⟩ := hc2
        simp only [Option.some.injEq, Prod.mk.injEq] at h
        obtain ⟨rfl, rfl⟩ := h
        have hmn : mx = none := by cases mx with | none => rfl | some q => simp only [opt, Option.map_eq_some_iff] at h3; obtain ⟨_, _, rfl⟩ := h3; simp at hmxn
        subst hmn
        have hl0 : l = 0 := by omega
        subst hl0
        unfold SlcOk at hok
        rw [hv] at hok
        obtain ⟨hA0, rfl, rfl, rfl⟩ := hok
        refine ⟨rfl, _, run_slice ht hi A 0 0 _ _ _ 0 0 0 (L1.imp (fun q => ⟨q.1, rfl⟩) id) (.inl ⟨rfl, rfl⟩) (L2.imp (fun q => ⟨q.1, rfl, rfl⟩) id) (Nat.le_refl _) (Nat.le_refl _), ?_⟩
        simpa using hx
      · rename_i hv
        unfold SlcOk at hok
        rw [hv] at hok
        obtain ⟨hA0, hA1, hA2, hA3, hA4, hA5⟩ := hok
        have ea : ∀ q : Nat, (⟨(m j).1, off * o.sz, none⟩ : Addr).add (q * o.sz) = ⟨(m j).1, (off + q) * o.sz, none⟩ := by
          intro q; rw [Nat.add_mul]; unfold Addr.add; split <;> simp_all
        have key : ∀ (M : Nat) (c' : Option Nat), hh.toNat ≤ M → M ≤ cap → l.toNat ≤ hh.toNat → off + hh.toNat ≤ L → CapOk c' (L - (off + l.toNat)) (M - l.toNat) →
            RV w m H (.slc j L (off + l.toNat) (hh.toNat - l.toNat) c') (.slice (if M = l.toNat then A else A.map (·.add (l.toNat * o.sz))) (hh.toNat - l.toNat) (M - l.toNat)) := by
          intro M c' q1 q2 q3 q4 q5
          refine .slc o ho hL' (fun _ _ => ?_)
          unfold SlcOk
          rw [hv]
          refine ⟨?_, fun hpos => ?_, by omega, by omega, q5, by omega⟩
          · split
            · exact hA0
            · obtain ⟨b, rfl⟩ := Option.isSome_iff_exists.1 hA0; rfl
          · rw [if_neg (by omega), hA1 (by omega)]
            simp only [Option.map_some, Option.some.injEq]
            exact ea _
        split at h
        · split at h
          case isFalse => cases h
          rename_i hc2
          obtain ⟨d1, d2⟩ := hc2
          simp only [Option.some.injEq, Prod.mk.injEq] at h
          obtain ⟨rfl, rfl⟩ := h
          have hmn : mx = none := by cases mx with | none => rfl | some q => simp [opt] at h3
          subst hmn
          have hhc : hh.toNat ≤ cap := by
            cases c with
            | none => simp only [CapOk] at hA4; omega
            | some k => simp only [CapOk] at hA4; have := d2 k rfl; omega
          refine ⟨rfl, _, run_slice ht hi A n cap _ _ _ l.toNat hh.toNat cap (L1.imp (fun q => ⟨q.1, by omega⟩) id) (.inl ⟨rfl, rfl⟩) (L2.imp (fun q => ⟨q.1, by omega, rfl⟩) id) (by omega) hhc, ?_⟩
          rw [← c3]
          refine key cap _ hhc (Nat.le_refl _) (by omega) (by omega) ?_
          cases c with
          | none => simp only [CapOk, Option.map_none] at hA4 ⊢; omega
          | some k => simp only [CapOk, Option.map_some] at hA4 ⊢; omega
        · rename_i q
          split at h
          case h_2 => cases h
          rename_i k0 M hqe
          split at h
          case isFalse => cases h
          rename_i hc2
          obtain ⟨d1, d2, rfl⟩ := hc2
          simp only [Option.some.injEq, Prod.mk.injEq] at h
          obtain ⟨rfl, rfl⟩ := h
          have B3 := bnd_sound (d := 0) hf h3 (n := M) (by simp [bound?, hqe])
          obtain ⟨k3, q3, rfl, hq3⟩ : ∃ k q', mx = some q' ∧ a.eval q' = .int k M := by
            rcases B3 with ⟨_, q1, _⟩ | q'
            · cases q1
            · exact q'
          have hne : hi' ≠ none := by intro e; exact hmx ⟨rfl, by rw [e]; rfl⟩
          have L2' : ∃ k, hi'.map a.eval = some (.int k (hh.toNat : Int)) := by
            rcases B2 with ⟨q1, _, _⟩ | ⟨k, q', rfl, hq'⟩
            · exact absurd q1 hne
            · exact ⟨k, by simp [hq', Int.toNat_of_nonneg (by omega : 0 ≤ hh)]⟩
          have L3 : ∃ k, (some q3).map a.eval = some (.int k (M.toNat : Int)) := ⟨k3, by simp [hq3, Int.toNat_of_nonneg (by omega : 0 ≤ M)]⟩
          simp only [CapOk] at hA4
          refine ⟨rfl, _, run_slice ht hi A n cap _ _ _ l.toNat hh.toNat M.toNat (L1.imp (fun q => ⟨q.1, by omega⟩) id) (.inr ⟨L3, by omega⟩) (.inr L2') (by omega) (by omega), ?_⟩
          rw [← c3]
          exact key M.toNat _ (by omega) (by omega) (by omega) (by omega) rfl
  · cases h
end
end Go.Fw
