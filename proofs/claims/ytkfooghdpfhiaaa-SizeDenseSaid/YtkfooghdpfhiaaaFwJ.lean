/- Rows made, cut, and looked into. -/
import Derived.Test.YtkfooghdpfhiaaaFwH
namespace Go.Fw
open Go Go.RowKit

section
variable {P : Program} {B : Nat} {w0 w : World} {m : BM} {H : List AObj} {fr : List AV} {a : Act}

theorem mapX_rv (hf : FRel w m H fr a.tmps) {xs : List Operand} {axs : List AX} (h : xs.mapM trX = some axs) :
    axs.length = xs.length ∧ ∀ j (hj : j < axs.length) (hj' : j < xs.length), RV w m H (axs[j].ev fr) (a.eval xs[j]) := by
  obtain ⟨h1, h2⟩ := mapM_some h
  exact ⟨h1.symm, fun j hj hj' => trX_rv hf (h2 j hj' hj)⟩

theorem allOne_get {sz : Nat} {xs : List AV} (h : allOneCell sz xs = true) (j : Nat) (hj : j < xs.length) : okEl sz xs[j] = true := List.all_eq_true.1 h _ (List.getElem_mem _)

theorem zip_range' (parts : List (Nat × Value)) (h : parts.map (·.1) = List.range parts.length) : parts = (List.range' 0 parts.length).zip (parts.map (·.2)) := by
  rw [← List.range_eq_range', ← h]
  clear h
  induction parts with
  | nil => rfl
  | cons p ps ih =>
    simp only [List.map_cons, List.zip_cons_cons]
    rw [← ih]

/-- A row literal, run. -/
theorem run_lit {t e : TypeId} {i : TypeInfo} (ht : P.underlying t = some (.slice e)) (hi : P.info? e = some i) (hz : ∃ z, i.zero = some z) {parts : Array (Nat × Value)}
    (hidx : parts.toList.map (·.1) = List.range parts.size) (hcells : ∀ v ∈ parts.toList.map (·.2), v.cells.size = i.size) (hbig : parts.size * i.size ≤ 16777216) :
    ∃ cs : Array Value, cs.size = parts.size * i.size ∧ (∀ k (hk : k < parts.size) j, j < i.size → cs[k * i.size + j]? = parts[k].2.cells[j]?) ∧
      (Instr.buildSlice t parts.size parts).run P w = .ok (.slice (some ⟨w.heap.size, 0, none⟩) parts.size parts.size) (w.alloc (.cells cs e)) := by
  obtain ⟨z, hz⟩ := hz
  have hlen : (parts.toList.map (·.2)).length = parts.size := by simp
  have run : ∀ base : Array Value, base.size = parts.size * i.size → ∃ cs, Instr.fill (fun q => some (q * i.size, i.size)) base parts.toList = some cs ∧ cs.size = parts.size * i.size ∧
      (∀ k (hk : k < parts.size) j, j < i.size → cs[k * i.size + j]? = parts[k].2.cells[j]?) := by
    intro base hb
    obtain ⟨cs, g1, g2, _, g4⟩ := fill_row i.size (parts.toList.map (·.2)) 0 base hcells (by rw [hlen]; simp; omega)
    have e := zip_range' parts.toList (by simpa using hidx)
    refine ⟨cs, ?_, by omega, fun k hk j hj => ?_⟩
    · rw [e]; simpa using g1
    · have := g4 k (by simpa using hk) j hj
      simpa using this
  by_cases h0 : parts.size * i.size = 0
  · obtain ⟨cs, g1, g2, g3⟩ := run #[] (by simp [h0])
    refine ⟨cs, g2, g3, ?_⟩
    have he : (Array.range 0).map (fun _ => (default : Value)) = #[] := by rw [Array.range_zero', Array.map_empty]
    simp [Instr.buildSlice, run_underlying ht, sizeOf, typeInfo, hi, h0, he, g1, newRow]
  · obtain ⟨cs, g1, g2, g3⟩ := run ((Array.range (parts.size * i.size)).map (z.cells[· % z.cells.size]!)) (by simp)
    refine ⟨cs, g2, g3, ?_⟩
    have hn : ¬ (16777216 < parts.size * i.size) := by omega
    simp [Instr.buildSlice, run_underlying ht, sizeOf, typeInfo, hi, hn, h0, zeroValue, hz, g1, newRow]

/-- The abstract elements of a literal, held against its cells. -/
theorem lit_cells {sz : Nat} {xs : List AV} {parts : Array (Nat × Value)} (hn : xs.length = parts.size) (hrv : ∀ j (h : j < xs.length) (h' : j < parts.size), RV w m H xs[j] parts[j].2)
    (hone : allOneCell sz xs = true) : (∀ v ∈ parts.toList.map (·.2), v.cells.size = sz) ∧
    ∀ (cs : Array Value), (∀ k (hk : k < parts.size) j, j < sz → cs[k * sz + j]? = parts[k].2.cells[j]?) →
      ∀ k (hk : k < xs.length), (cellsOf xs[k]).length = sz ∧ ∀ j (hj : j < (cellsOf xs[k]).length), ∃ v, cs[k * sz + j]? = some v ∧ RV w m H (cellsOf xs[k])[j] v := by
  constructor
  · intro v hv
    obtain ⟨p, hp, rfl⟩ := List.mem_map.1 hv
    obtain ⟨j, hj, rfl⟩ := List.mem_iff_getElem.1 hp
    have hj' : j < parts.size := by simpa using hj
    have := (okEl_cells (hrv j (by omega) hj') (allOne_get hone j (by omega))).1
    simpa using this
  · intro cs hcs k hk
    obtain ⟨c1, c2, c3, _⟩ := okEl_cells (hrv k hk (by omega)) (allOne_get hone k hk)
    refine ⟨c2, fun j hj => ?_⟩
    have hj' : j < parts[k].2.cells.size := by omega
    exact ⟨parts[k].2.cells[j], by rw [hcs k (by omega) j (by omega)]; simp [hj'], c3 j hj hj'⟩

theorem new_plain (r : Rel B w0 m H w) (o : Obj) : Tr m H w m H (w.alloc o) ∧ Rel B w0 m H (w.alloc o) := by
  have t : Tr m H w m H (w.alloc o) :=
    ⟨by simp, Nat.le_refl _, fun a v _ h => by rw [World.cell?_alloc_lt _ _ _ (block_lt h)]; exact h, fun _ _ h => h, fun i o o' h h' => by rw [h] at h'; cases h'; exact ⟨Nat.le_refl _, fun hl _ => ⟨hl, rfl, rfl, rfl⟩⟩, rfl⟩
  refine ⟨t, ⟨r.below.alloc r.hB _, by have := r.hB; simp; omega, r.szpos, r.virt, r.base, fun i o ho hl hv => ?_, r.inj, r.xlt⟩⟩
  obtain ⟨arr, h1, h2, h3⟩ := r.obj i o ho hl hv
  exact ⟨arr, by rw [heap_alloc_old _ _ (Array.getElem?_eq_some_iff.1 h1).1]; exact h1, h2, fun k hk => ⟨(h3 k hk).1, fun j hj => let ⟨v, a, b⟩ := (h3 k hk).2 j hj; ⟨v, a, b.mono t⟩⟩⟩

theorem lit_sound (r : Rel B w0 m H w) {t e : TypeId} {i : TypeInfo} (ht : P.underlying t = some (.slice e)) (hi : P.info? e = some i) (hz : ∃ z, i.zero = some z) {parts : Array (Nat × Value)}
    (hidx : parts.toList.map (·.1) = List.range parts.size) (hbig : parts.size * i.size ≤ 16777216) {xs : List AV} (hn : xs.length = parts.size)
    (hrv : ∀ j (h : j < xs.length) (h' : j < parts.size), RV w m H xs[j] parts[j].2) (hone : allOneCell i.size xs = true) (hnr : noRefs xs = true) :
    ∃ w' v', (Instr.buildSlice t parts.size parts).run P w = .ok v' w' ∧ Tr m H w m H w' ∧ Rel B w0 m H w' ∧ RV w' m H (.imm false (some xs.length) i.size xs) v' := by
  obtain ⟨c1, c2⟩ := lit_cells hn hrv hone
  obtain ⟨cs, h1, h2, h3⟩ := run_lit (w := w) ht hi hz hidx c1 hbig
  obtain ⟨t1, r1⟩ := new_plain r (.cells cs e)
  refine ⟨_, _, h3, t1, r1, ?_⟩
  have hcell := c2 cs h2
  have ea : ∀ q, (⟨w.heap.size, 0, none⟩ : Addr).add q = ⟨w.heap.size, q, none⟩ := by intro q; unfold Addr.add; split <;> simp_all
  have hnw : ¬ Wr m H w.heap.size := fun h => by have := r.wr_lt h; omega
  refine .ri (.imm (fun k j => (cs[k * i.size + j]?).getD undef) hn (Nat.le_refl _) (fun k hk => by cases hk; exact hn) (fun k j hk hj => ?_) (fun k hk => (hcell k hk).1) (fun k j hk hj => ?_))
  · have hkx : k < xs.length := by omega
    obtain ⟨v, a1, _⟩ := (hcell k hkx).2 j (by rw [(hcell k hkx).1]; exact hj)
    rw [ea]
    refine ⟨?_, hnw⟩
    rw [World.cell?_alloc_new, a1]; rfl
  · obtain ⟨v, a1, a2⟩ := (hcell k hk).2 j hj
    simp only [a1, Option.getD_some]
    have hnk := noRefs_get hnr k hk
    have hrx := (hrv k hk (by omega)).toRI hnk
    have hu : xs[k] ≠ .und := by
      intro e; have := allOne_get hone k hk; rw [e] at this; simp [okEl, cellsOf, oneC] at this
    obtain ⟨q1, q2⟩ := hrx.cells hu
    have hjv : j < parts[k].2.cells.size := by omega
    have e1 : v = parts[k].2.cells[j] := by
      have := h2 k (by omega) j (by have := (hcell k hk).1; omega)
      rw [a1, Array.getElem?_eq_getElem hjv] at this; exact Option.some.inj this
    rw [e1]
    exact (q2 j hj hjv).mono t1.cell t1.wr

theorem litO_sound (r : Rel B w0 m H w) {t e : TypeId} {i : TypeInfo} (ht : P.underlying t = some (.slice e)) (hi : P.info? e = some i) (hz : ∃ z, i.zero = some z) {parts : Array (Nat × Value)}
    (hidx : parts.toList.map (·.1) = List.range parts.size) (hbig : parts.size * i.size ≤ 16777216) (hsz : 0 < i.size) {xs : List AV} (hn : xs.length = parts.size)
    (hrv : ∀ j (h : j < xs.length) (h' : j < parts.size), RV w m H xs[j] parts[j].2) (hone : allOneCell i.size xs = true) :
    ∃ m' w' v', (Instr.buildSlice t parts.size parts).run P w = .ok v' w' ∧ Tr m H w m' (H ++ [{ ty := e, sz := i.size, es := xs }]) w' ∧ Rel B w0 m' (H ++ [{ ty := e, sz := i.size, es := xs }]) w' ∧
      RV w' m' (H ++ [{ ty := e, sz := i.size, es := xs }]) (.slc H.length xs.length 0 xs.length none) v' := by
  obtain ⟨c1, c2⟩ := lit_cells hn hrv hone
  obtain ⟨cs, h1, h2, h3⟩ := run_lit (w := w) ht hi hz hidx c1 hbig
  obtain ⟨t1, r1⟩ := r.alloc e i.size xs.length xs cs hsz ⟨Nat.le_refl _, by rw [h1, hn]; exact Nat.le_refl _⟩ (c2 cs h2)
  refine ⟨_, _, _, h3, t1, r1, ?_⟩
  rw [← hn]
  exact new_slc _ rfl rfl (Nat.le_refl _)

theorem mkS_sound (r : Rel B w0 m H w) {t e : TypeId} {i : TypeInfo} {z : Value} (ht : P.underlying t = some (.slice e)) (hi : P.info? e = some i) (hz : i.zero = some z) {za : AV} (hza : toAV z = some za)
    {l c : AX} {ul uc : Value} (hl : RV w m H (l.ev fr) ul) (hc : RV w m H (c.ev fr) uc) {v : AV} {H' : List AObj} (h : evK (.mkS e i.size i.bytes za l c) fr H = some (v, H')) :
    ∃ m' w' v', (Instr.makeSlice t ul uc).run P w = .ok v' w' ∧ Tr m H w m' H' w' ∧ Rel B w0 m' H' w' ∧ RV w' m' H' v v' := by
  simp only [evK] at h
  split at h
  case h_2 => cases h
  rename_i n q hle hce
  rw [hle] at hl; rw [hce] at hc
  obtain ⟨rfl, -⟩ := hl.sc_inv
  obtain ⟨rfl, -⟩ := hc.sc_inv
  split at h
  case isFalse => cases h
  rename_i hcond
  obtain ⟨h1, h2, h3, h4, h5, h6⟩ := hcond
  simp only [Option.some.injEq, Prod.mk.injEq] at h
  obtain ⟨rfl, rfl⟩ := h
  have hzr : RV w m H za z := .ri (toAV_rv hza)
  obtain ⟨z1, z2, z3, z4⟩ := okEl_cells hzr h6
  have hr := run_make (P := P) w t e i z ht hi hz .i64 .i64 n q h1 h2 (by rw [Int.mul_comm]; exact h3) h4
  obtain ⟨t1, r1⟩ := r.alloc e i.size q.toNat (List.replicate n.toNat za) (madeCells z.cells (q.toNat * i.size)) h5 ⟨by simp; omega, by rw [size_madeCells]; exact Nat.le_refl _⟩
    (by
      intro k hk
      have hk' : k < n.toNat := by simpa using hk
      simp only [List.getElem_replicate]
      refine ⟨z2, fun j hj => ?_⟩
      have hlt : k * i.size + j < q.toNat * i.size := idx_lt (by omega) (by omega)
      have hjz : j < z.cells.size := by omega
      refine ⟨z.cells[j], ?_, z3 j hj hjz⟩
      have hmod : (k * i.size + j) % i.size = j := (idx_div (by omega)).2
      simp [madeCells, hlt, z1, hmod]
      exact getElem!_pos z.cells j hjz)
  refine ⟨_, _, _, hr, t1, r1, ?_⟩
  exact new_slc _ (by simp) rfl (by omega)

theorem new_sound (r : Rel B w0 m H w) {e : TypeId} {sz : Nat} {x : AX} {u : Value} (hx : RV w m H (x.ev fr) u) {v : AV} {H' : List AObj} (h : evK (.new e sz x) fr H = some (v, H')) :
    ∃ m' w' v', (newVar e u).run P w = .ok v' w' ∧ Tr m H w m' H' w' ∧ Rel B w0 m' H' w' ∧ RV w' m' H' v (.pointer (some v')) := by
  simp only [evK] at h
  split at h
  case isFalse => cases h
  rename_i hc
  obtain ⟨hok, hsz⟩ := hc
  simp only [Option.some.injEq, Prod.mk.injEq] at h
  obtain ⟨rfl, rfl⟩ := h
  obtain ⟨x1, x2, x3, _⟩ := okEl_cells hx hok
  obtain ⟨t1, r1⟩ := r.alloc e sz 1 [x.ev fr] u.cells hsz ⟨by simp, by omega⟩
    (by
      intro k hk
      have : k = 0 := by simpa using hk
      subst this
      refine ⟨x2, fun j hj => ?_⟩
      have hju : j < u.cells.size := by simp at hj; omega
      exact ⟨u.cells[j], by simp [hju], x3 j hj hju⟩)
  refine ⟨_, _, ⟨w.heap.size, 0, none⟩, by simp [newVar, newRow], t1, r1, ?_⟩
  refine .ptr { ty := e, sz := sz, es := [x.ev fr] } (by simp) (by simp) (fun _ _ => ?_)
  simp [bump]
end

/-- A slice cleared. -/
theorem clr_sound {P : Program} {B : Nat} {w0 w : World} {m : BM} {H : List AObj} {fr : List AV} (r : Rel B w0 m H w) {t rt e : TypeId} {i : TypeInfo} {z : Value} {za : AV} (ht : P.underlying t = some (.slice e)) (hi : P.info? e = some i) (hz : i.zero = some z) (hza : toAV z = some za)
    {x : AX} {ux : Value} (hx : RV w m H (x.ev fr) ux) {v : AV} {H' : List AObj} (h : evK (.clr i.size za x) fr H = some (v, H')) :
    ∃ m' w' v', (Builtin.clear_ #[t] rt #[ux]).run P w = .ok v' w' ∧ Tr m H w m' H' w' ∧ Rel B w0 m' H' w' ∧ RV w' m' H' v v' := by
  simp only [evK] at h
  have none_ : ∀ (A : Option Addr) (cap : Nat), (Builtin.clear_ #[t] rt #[.slice A 0 cap]).run P w = .ok (.tuple #[]) w := by
    intro A cap
    cases A <;> simp [Builtin.clear_, run_underlying ht]
  have fin : ∀ (w' : World) (m' : BM) (H' : List AObj), RV w' m' H' (.tup []) (.tuple #[]) := fun _ _ _ => .tup rfl (fun j h => by simp at h)
  split at h
  · rename_i nl c sz xs he
    split at h
    case isFalse => cases h
    rename_i hxs
    cases h; subst hxs
    rw [he] at hx
    have hx' : RI w (Wr m H) (.imm nl c sz []) ux := by cases hx with | ri h => exact h
    cases hx' with
    | nil => exact ⟨m, w, _, none_ _ _, Tr.refl _ _ _, r, fin _ _ _⟩
    | imm cv hn => simp at hn; subst hn; exact ⟨m, w, _, none_ _ _, Tr.refl _ _ _, r, fin _ _ _⟩
  · rename_i j L off n c he
    rw [he] at hx
    cases hlv : live? H j L with
    | none => simp [hlv] at h
    | some o =>
      simp only [hlv] at h
      obtain ⟨ho, hl, hL⟩ := live?_some hlv
      obtain ⟨A, cap, o', rfl, ho', hL', hok⟩ := hx.slc_inv
      rw [ho] at ho'; cases ho'
      have hok := hok hl hL
      split at h
      · rename_i hn; cases h; subst hn
        exact ⟨m, w, _, none_ _ _, Tr.refl _ _ _, r, fin _ _ _⟩
      · rename_i hn
        split at h
        case isFalse => cases h
        rename_i hcond
        obtain ⟨hv, hosz, hfit, hoke⟩ := hcond
        cases h
        unfold SlcOk at hok
        rw [hv] at hok
        obtain ⟨hA0, hA1, hA2, hA3, hA4, hA5⟩ := hok
        have hAe := hA1 (by omega)
        subst hAe
        obtain ⟨x1, x2, x3, x4⟩ := okEl_cells (w := w) (m := m) (H := H) (.ri (toAV_rv hza)) hoke
        have hsz : 0 < o.sz := r.szpos j o ho
        have hll : (Builtin.zeroCells z.cells n).toList.length = (List.replicate n za).length * o.sz := by
          rw [Array.length_toList, size_zeroCells, List.length_replicate, x1, hosz]
        obtain ⟨arr, h1, hf, t2, r2⟩ := r.over ho hl hv (off := off) (ys := List.replicate n za) (l := (Builtin.zeroCells z.cells n).toList) hll (by simp; omega) (by
          intro k hk
          simp only [List.length_replicate] at hk
          simp only [List.getElem_replicate]
          refine ⟨by omega, fun q hq => ⟨z.cells[q]'(by omega), ?_, x3 q hq (by omega)⟩⟩
          have hq' : k * o.sz + q < n * o.sz := idx_lt hk (by omega)
          rw [Array.getElem?_toList]
          simp only [Builtin.zeroCells]
          rw [Array.getElem?_map, Array.getElem?_eq_getElem (by rw [Array.size_range, x1, ← hosz]; exact hq')]
          simp only [Option.map_some, Array.getElem_range, x1, ← hosz]
          have e : (k * o.sz + q) % o.sz = q := by
            rw [Nat.add_comm, Nat.add_mul_mod_self_right, Nat.mod_eq_of_lt (by omega)]
          rw [e, getElem!_pos z.cells q (by omega)])
        have hone : ∀ u ∈ (Builtin.zeroCells z.cells n).toList, u.oneCell' = true := by
          intro u hu
          rw [Array.mem_toList_iff] at hu
          simp only [Builtin.zeroCells, Array.mem_map, Array.mem_range] at hu
          obtain ⟨q, hq, rfl⟩ := hu
          have : q % z.cells.size < z.cells.size := Nat.mod_lt _ (by omega)
          rw [getElem!_pos z.cells _ this]
          exact x4 _ (Array.mem_toList_iff.2 (Array.getElem_mem this))
        have hst := run_storeCells_at P (m j).1 (off * o.sz) o.ty (Builtin.zeroCells z.cells n).toList 0 arr w h1 (by simpa using hf) hone
        refine ⟨m, _, .tuple #[], ?_, by simpa using t2, by simpa using r2, fin _ _ _⟩
        simp only [Nat.add_zero] at hst
        simp [Builtin.clear_, run_underlying ht, hn, zeroValue, typeInfo, hi, hz, hst]
  · cases h
end Go.Fw
