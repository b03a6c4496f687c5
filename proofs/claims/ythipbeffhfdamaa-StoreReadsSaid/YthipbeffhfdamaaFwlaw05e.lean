import Derived.Test.YthipbeffhfdamaaFwstore13
import Derived.Test.YthipbeffhfdamaaFwstore7
import Derived.Test.YthipbeffhfdamaaFwargsT
import Derived.Test.YthipbeffhfdamaaFwX
import Derived.Test.YthipbeffhfdamaaFwcopy05
import Derived.Test.YthipbeffhfdamaaFwslices64
namespace Go.Fw
open Go
set_option maxRecDepth 100000
set_option linter.unusedSimpArgs false
set_option linter.unusedVariables false
def deadO (o : AObj) : AObj := ⟨o.ty, o.sz, o.es.map fun _ => .und, false, o.vir⟩
def deadH (keep : Nat → Bool) (H : List AObj) : List AObj := H.mapIdx fun i o => if keep i then o else deadO o
theorem deadH_len (keep : Nat → Bool) (H : List AObj) : (deadH keep H).length = H.length := by simp [deadH]
theorem deadH_keep {keep : Nat → Bool} {H : List AObj} {i : Nat} (h : keep i = true) : (deadH keep H)[i]? = H[i]? := by
  simp [deadH, List.getElem?_mapIdx, h]
theorem deadH_get {keep : Nat → Bool} {H : List AObj} {i : Nat} {x : AObj} (h : (deadH keep H)[i]? = some x) : ∃ o, H[i]? = some o ∧ ((keep i = true ∧ x = o) ∨ (keep i = false ∧ x = deadO o)) := by
  simp only [deadH, List.getElem?_mapIdx, Option.map_eq_some_iff] at h
  obtain ⟨o, h1, h2⟩ := h
  refine ⟨o, h1, ?_⟩
  cases hk : keep i with
  | true => rw [hk] at h2; exact .inl ⟨rfl, h2.symm⟩
  | false => rw [hk] at h2; exact .inr ⟨rfl, h2.symm⟩
theorem Weak.dead {nb : Nat} {fr : List AV} {H : List AObj} (keep : Nat → Bool) : Weak nb fr H fr (deadH keep H) := by
  intro B w0 mb Hb wb m w tmps hn tr r f
  have get : ∀ i x, (deadH keep H)[i]? = some x → ∃ o, H[i]? = some o ∧ ((keep i = true ∧ x = o) ∨ (keep i = false ∧ x = deadO o)) := fun i x h => deadH_get h
  have real : ∀ {i}, Real (deadH keep H) i → Real H i := by
    rintro i ⟨x, hx, hl, hv⟩
    obtain ⟨o, ho, ⟨_, rfl⟩ | ⟨_, rfl⟩⟩ := get i x hx
    · exact ⟨_, ho, hl, hv⟩
    · simp [deadO] at hl
  have hwr : ∀ b, Wr m (deadH keep H) b → Wr m H b := by
    rintro b (h | ⟨i, hr, e⟩)
    · exact .inl h
    · exact .inr ⟨i, real hr, e⟩
  have t1 : Tr m H w m (deadH keep H) w := by
    refine ⟨Nat.le_refl _, by rw [deadH_len]; exact Nat.le_refl _, fun _ _ _ => rfl, fun b _ hn hw => hn (hwr b hw), fun i o o' ho ho' => ?_, rfl⟩
    obtain ⟨o2, h2, ⟨_, rfl⟩ | ⟨_, rfl⟩⟩ := get i o' ho'
    · rw [ho] at h2; cases h2
      exact ⟨Nat.le_refl _, fun hl _ => ⟨hl, rfl, rfl, rfl⟩⟩
    · rw [ho] at h2; cases h2
      exact ⟨by simp [deadO], fun hl _ => by simp [deadO] at hl⟩
  refine ⟨m, tr.trans t1, ⟨r.below, r.hB, fun i x hx => ?_, fun i x hx hvx => ?_, fun i h => r.base i (real h), fun i x hx hl hvx => ?_, fun i i' h h' e => r.inj i i' (real h) (real h') e, r.xlt⟩, f.mono t1⟩
  · obtain ⟨o, ho, ⟨_, rfl⟩ | ⟨_, rfl⟩⟩ := get i x hx
    · exact r.szpos _ _ ho
    · exact r.szpos i o ho
  · obtain ⟨o, ho, ⟨_, rfl⟩ | ⟨_, rfl⟩⟩ := get i x hx
    · exact r.virt i _ ho hvx
    · have := r.virt i o ho hvx
      simp [deadO, this]
  · obtain ⟨o, ho, ⟨_, rfl⟩ | ⟨_, rfl⟩⟩ := get i x hx
    · obtain ⟨arr, h1, h2, h3⟩ := r.obj i _ ho hl hvx
      exact ⟨arr, h1, h2, fun k hk => ⟨(h3 k hk).1, fun j hj => let ⟨v, a, b⟩ := (h3 k hk).2 j hj; ⟨v, a, b.mono t1⟩⟩⟩
    · simp [deadO] at hl
def blankA : AV → AV
  | .agg cs => .agg (cs.map fun _ => .und)
  | _ => .und
theorem blank_cells (e : AV) : (cellsOf (blankA e)).length = (cellsOf e).length := by cases e <;> simp [blankA, cellsOf]
theorem blank_und (e : AV) (j : Nat) (h : j < (cellsOf (blankA e)).length) : (cellsOf (blankA e))[j] = .und := by
  cases e <;> simp [blankA, cellsOf]
def blankO (o : AObj) : AObj := { o with es := o.es.map blankA }
theorem Weak.blank {nb : Nat} {fr : List AV} {H : List AObj} {j : Nat} {o : AObj} (hj : H[j]? = some o) : Weak nb fr H fr (H.set j (blankO o)) := by
  intro B w0 mb Hb wb m w tmps hn tr r f
  have hjl := (List.getElem?_eq_some_iff.1 hj).1
  have get : ∀ i x, (H.set j (blankO o))[i]? = some x → (i = j ∧ x = blankO o) ∨ (i ≠ j ∧ H[i]? = some x) := by
    intro i x h
    by_cases e : i = j
    · subst e; rw [List.getElem?_set_self hjl] at h; exact .inl ⟨rfl, (Option.some.inj h).symm⟩
    · rw [List.getElem?_set_ne (Ne.symm e)] at h; exact .inr ⟨e, h⟩
  have real : ∀ {i}, Real (H.set j (blankO o)) i → Real H i := by
    rintro i ⟨x, hx, hl, hv⟩
    rcases get i x hx with ⟨rfl, rfl⟩ | ⟨_, h⟩
    · exact ⟨o, hj, hl, hv⟩
    · exact ⟨_, h, hl, hv⟩
  have hwr : ∀ b, Wr m (H.set j (blankO o)) b → Wr m H b := by
    rintro b (h | ⟨i, hr, e⟩)
    · exact .inl h
    · exact .inr ⟨i, real hr, e⟩
  have t1 : Tr m H w m (H.set j (blankO o)) w := by
    refine ⟨Nat.le_refl _, by simp, fun _ _ _ => rfl, fun b _ hn hw => hn (hwr b hw), fun i x x' hx hx' => ?_, rfl⟩
    rcases get i x' hx' with ⟨rfl, rfl⟩ | ⟨_, h⟩
    · rw [hj] at hx; cases hx
      exact ⟨by simp [blankO], fun hl _ => ⟨hl, rfl, rfl, rfl⟩⟩
    · rw [h] at hx; cases hx
      exact ⟨Nat.le_refl _, fun hl _ => ⟨hl, rfl, rfl, rfl⟩⟩
  refine ⟨m, tr.trans t1, ⟨r.below, r.hB, fun i x hx => ?_, fun i x hx hvx => ?_, fun i h => r.base i (real h), fun i x hx hl hvx => ?_, fun i i' h h' e => r.inj i i' (real h) (real h') e, r.xlt⟩, f.mono t1⟩
  · rcases get i x hx with ⟨rfl, rfl⟩ | ⟨_, h⟩
    · exact r.szpos _ o hj
    · exact r.szpos i x h
  · rcases get i x hx with ⟨rfl, rfl⟩ | ⟨_, h⟩
    · have := r.virt i o hj hvx
      simp [blankO, this]
    · exact r.virt i x h hvx
  · rcases get i x hx with ⟨rfl, rfl⟩ | ⟨_, h⟩
    · obtain ⟨arr, h1, h2, h3⟩ := r.obj i o hj hl hvx
      refine ⟨arr, h1, by simpa [blankO] using h2, fun k hk => ?_⟩
      have hk' : k < o.es.length := by simpa [blankO] using hk
      have e : (blankO o).es[k] = blankA o.es[k] := by simp [blankO]
      have hlen : (cellsOf (blankO o).es[k]).length = (cellsOf o.es[k]).length := by rw [e, blank_cells]
      refine ⟨by rw [hlen]; exact (h3 k hk').1, fun q hq => ?_⟩
      obtain ⟨v, a, b⟩ := (h3 k hk').2 q (by rw [← hlen]; exact hq)
      refine ⟨v, a, ?_⟩
      have : (cellsOf (blankO o).es[k])[q] = .und := by
        have := blank_und o.es[k] q (by rw [← e]; exact hq)
        simpa only [e] using this
      rw [this]
      exact .und v
    · obtain ⟨arr, h1, h2, h3⟩ := r.obj i x h hl hvx
      exact ⟨arr, h1, h2, fun k hk => ⟨(h3 k hk).1, fun j hj => let ⟨v, a, b⟩ := (h3 k hk).2 j hj; ⟨v, a, b.mono t1⟩⟩⟩
end Go.Fw
namespace Go.Fw
open Go Go.RowKit Go.Proofs
set_option maxRecDepth 100000
set_option linter.unusedSimpArgs false
set_option linter.unusedVariables false
theorem fitF_at : ∀ {xs : List LvA} {F : List (Int × Int × Int)} {Z : List Int}, fitF xs F Z = true → xs.length = F.length → Z.length = F.length → ∀ i (h : i < xs.length) (h2 : i < F.length) (h3 : i < Z.length), xs[i].lv.k = F[i].1 ∧ xs[i].lv.sz = Z[i]
  | [], _, _, _, _, _ => fun i h => by simp at h
  | x :: xs, [], _, _, h, _ => by simp at h
  | x :: xs, f :: F, [], _, _, h => by simp at h
  | x :: xs, f :: F, z :: Z, h, h1, h2 => by
    simp only [fitF, Bool.and_eq_true, decide_eq_true_eq] at h
    intro i hi hi2 hi3
    cases i with
    | zero => exact h.1
    | succ i =>
      have := fitF_at h.2 (by simpa using h1) (by simpa using h2) i (by simpa using hi) (by simpa using hi2) (by simpa using hi3)
      simpa using this
theorem fitF_of : ∀ {xs : List LvA} {F : List (Int × Int × Int)} {Z : List Int}, (∀ i (h : i < xs.length) (h2 : i < F.length) (h3 : i < Z.length), xs[i].lv.k = F[i].1 ∧ xs[i].lv.sz = Z[i]) → fitF xs F Z = true
  | [], _, _, _ => by simp [fitF]
  | x :: xs, [], _, _ => by simp [fitF]
  | x :: xs, f :: F, [], _ => by simp [fitF]
  | x :: xs, f :: F, z :: Z, h => by
    simp only [fitF, Bool.and_eq_true, decide_eq_true_eq]
    refine ⟨h 0 (by simp) (by simp) (by simp), fitF_of fun i h1 h2 h3 => ?_⟩
    have := h (i + 1) (by simpa using h1) (by simpa using h2) (by simpa using h3)
    simpa using this
theorem cntGo_congr : ∀ {xs ys : List LvA} {n : Nat}, ys.map (·.lv) = xs.map (·.lv) → cntGo ys n = cntGo xs n
  | [], [], _, _ => rfl
  | [], y :: ys, _, h => by simp at h
  | x :: xs, [], _, h => by simp at h
  | x :: xs, y :: ys, n, h => by
    simp only [List.map_cons, List.cons.injEq] at h
    simp only [cntGo, h.1, cntGo_congr h.2]
theorem cntF_congr {xs ys : List LvA} (h : ys.map (·.lv) = xs.map (·.lv)) : cntF ys = cntF xs := by simp only [cntF, cntGo_congr h]
theorem bends_v {S : List Int} {F : List (Int × Int × Int)} {xs ys : List LvA} {V W : List Int} (h : tnCheck S F xs V = 0) (hy : ys.map (·.lv) = xs.map (·.lv)) (hW : W.length ≠ V.length) : tnCheck S F ys W ≠ 0 := by
  intro h2
  obtain ⟨-, -, -, -, a, -⟩ := tnCheck_ok h
  obtain ⟨-, -, -, -, b, -⟩ := tnCheck_ok h2
  rw [cntF_congr hy] at b
  omega
theorem bends_z {S : List Int} {F : List (Int × Int × Int)} {xs ys : List LvA} {V W : List Int} (hZ : (sizesF S F).1.length = F.length) (h : tnCheck S F xs V = 0) {i : Nat} (hi : i < xs.length) (hi2 : i < ys.length) (hs : ys[i].lv.sz ≠ xs[i].lv.sz) : tnCheck S F ys W ≠ 0 := by
  intro h2
  obtain ⟨-, a1, a2, -⟩ := tnCheck_ok h
  obtain ⟨-, b1, b2, -⟩ := tnCheck_ok h2
  have e1 := (fitF_at a2 a1 hZ i hi (by omega) (by omega)).2
  have e2 := (fitF_at b2 b1 hZ i hi2 (by omega) (by omega)).2
  omega
theorem cntGo_bad : ∀ {xs ys : List LvA} {n : Nat} {l : List Int} {i : Nat}, cntGo xs n = .ok l → (hl : ys.length = xs.length) → (hi : i < xs.length) → (∀ k (h : k < i), ys[k].lv = xs[k].lv) →
    (ys[i].lv.k = xs[i].lv.k ∧ ys[i].lv.sz = xs[i].lv.sz ∧ ys[i].lv.pos = xs[i].lv.pos ∧ ys[i].lv.crd.length = xs[i].lv.crd.length) → (∃ c ∈ ys[i].lv.crd, ys[i].lv.sz ≤ c) → cntGo ys n = .error 3
  | [], _, _, _, _, _, _, hi, _, _, _ => by simp at hi
  | x :: xs, [], _, _, _, _, hl, _, _, _, _ => by simp at hl
  | x :: xs, y :: ys, n, l, i, h, hl, hi, hk, he, hc => by
    simp only [cntGo] at h
    split at h
    case isFalse => cases h
    rename_i h0
    cases i with
    | zero =>
      simp only [List.getElem_cons_zero] at he hc
      obtain ⟨e1, e2, e3, e4⟩ := he
      obtain ⟨b1, b2, b3, b4, b5, b6, b7, b8⟩ := lvBelow_ok h0
      have f1 : lvFormed y.lv n = true := by
        rw [← b3]; simp only [lvFormed, e1, e2, e3, e4]
      have f2 : lvBelow y.lv n = lvBelow x.lv n := by simp only [lvBelow, e1, e2, e4]
      have f3 : y.lv.crd.any (lvOut y.lv) = true := by
        obtain ⟨c, hc1, hc2⟩ := hc
        rw [List.any_eq_true]
        refine ⟨c, hc1, ?_⟩
        simp [lvOut]
        omega
      have : lvCheck y.lv n = 3 := by
        unfold lvCheck
        rw [if_neg (by rw [f1, e2]; simp; omega), if_neg (by rw [f2, e4]; omega), if_pos f3]
      simp only [cntGo, this]
      simp
    | succ i =>
      have e0 : y.lv = x.lv := hk 0 (by omega)
      cases hr : cntGo xs (lvBelow x.lv n).toNat with
      | error e => rw [hr] at h; simp [Except.map] at h
      | ok l' =>
        have := cntGo_bad (ys := ys) (i := i) hr (by simpa using hl) (by simpa using hi) (fun k h => by simpa using hk (k + 1) (by omega)) (by simpa using he) (by simpa using hc)
        simp only [cntGo, e0, this]
        rw [if_pos h0]
        simp [Except.map]
theorem bends_c {S : List Int} {F : List (Int × Int × Int)} {xs ys : List LvA} {V W : List Int} (hZ : (sizesF S F).1.length = F.length) (h : tnCheck S F xs V = 0) {i : Nat} (hl : ys.length = xs.length) (hi : i < xs.length) (hk : ∀ k (_ : k < xs.length), k ≠ i → ys[k].lv = xs[k].lv)
    (he : ys[i].lv.k = xs[i].lv.k ∧ ys[i].lv.sz = xs[i].lv.sz ∧ ys[i].lv.pos = xs[i].lv.pos ∧ ys[i].lv.crd.length = xs[i].lv.crd.length) (hc : ∃ c ∈ ys[i].lv.crd, ys[i].lv.sz ≤ c) : tnCheck S F ys W = 3 := by
  obtain ⟨a0, a1, a2, a3, -⟩ := tnCheck_ok h
  have f : fitF ys F (sizesF S F).1 = true := fitF_of fun k h1 h2 h3 => by
    have := fitF_at a2 a1 hZ k (by omega) h2 h3
    by_cases e : k = i
    · subst e
      rw [he.1, he.2.1]; exact this
    · rw [hk k (by omega) e]; exact this
  have c := cntGo_bad (cntF_ok a3) hl hi (fun k h => hk k (by omega) (by omega)) he hc
  have c2 : (cntF ys).2 = 3 := by simp only [cntF, c]
  unfold tnCheck
  rw [if_neg (by omega), if_neg (by omega), if_neg (by rw [f]; simp), if_pos (by omega), c2]
end Go.Fw
namespace Go.Fw
open Go
theorem mode_at {x : Int} {L : Nat} (hL : 0 < L) (hL2 : L ≤ 1000000) : ∃ m : Nat, m < L ∧ (IntKind.i64.wrap (x.tmod L + L)).tmod L = (m : Int) := by
  have h1 : x.tmod L < L := Int.tmod_lt_of_pos _ (by omega)
  have h2 : -(L : Int) < x.tmod L := by
    have := Int.tmod_lt_of_pos (-x) (b := (L : Int)) (by omega)
    rw [Int.neg_tmod] at this
    omega
  rw [wrap_i64 (by omega) (by omega), Int.tmod_eq_emod_of_nonneg (by omega)]
  exact ⟨((x.tmod L + L) % L).toNat, by have := Int.emod_lt_of_pos (x.tmod L + L) (b := (L : Int)) (by omega); have := Int.emod_nonneg (x.tmod L + L) (b := (L : Int)) (by omega); omega, by have := Int.emod_nonneg (x.tmod L + L) (b := (L : Int)) (by omega); omega⟩
theorem mode_at1 {x : Int} {L : Nat} (hL2 : L ≤ 1000000) : ∃ m : Nat, m ≤ L ∧ (IntKind.i64.wrap (IntKind.i64.wrap (x.tmod ((L : Int) + 1) + L) + 1)).tmod ((L : Int) + 1) = (m : Int) := by
  have h1 : x.tmod ((L : Int) + 1) < (L : Int) + 1 := Int.tmod_lt_of_pos _ (by omega)
  have h2 : -((L : Int) + 1) < x.tmod ((L : Int) + 1) := by
    have := Int.tmod_lt_of_pos (-x) (b := (L : Int) + 1) (by omega)
    rw [Int.neg_tmod] at this
    omega
  rw [wrap_i64 (n := x.tmod ((L : Int) + 1) + L) (by omega) (by omega), wrap_i64 (by omega) (by omega), Int.tmod_eq_emod_of_nonneg (by omega)]
  have h3 := Int.emod_lt_of_pos (x.tmod ((L : Int) + 1) + L + 1) (b := (L : Int) + 1) (by omega)
  have h4 := Int.emod_nonneg (x.tmod ((L : Int) + 1) + L + 1) (b := (L : Int) + 1) (by omega)
  exact ⟨((x.tmod ((L : Int) + 1) + L + 1) % ((L : Int) + 1)).toNat, by omega, by omega⟩
end Go.Fw
namespace Go.Fw
open Go Go.RowKit Go.Proofs
set_option maxRecDepth 100000
set_option linter.unusedSimpArgs false
set_option linter.unusedVariables false
def OwnR (K : List AObj) (sh f l v : AV) (S : List Int) (F : List (Int × Int × Int)) (xs : List LvA) (V : List Int) : Prop :=
  ISl (frz K 0 6 false sh) S ∧ Sp (frz K 0 6 false f) F ∧ (∃ ys, Ls (frz K 0 6 false l) ys ∧ ys.map (·.lv) = xs.map (·.lv)) ∧ ISl (frz K 0 6 false v) V
theorem check_own {K : List AObj} {sh f l v : AV} {S : List Int} {F : List (Int × Int × Int)} {xs : List LvA} {V : List Int} (h : OwnR K sh f l v S F xs V) (hn : xs.length ≤ 1000) (hf : F.length ≤ 1000) :
    ACalls Try.prog 11 [.agg [sh, f, l, v]] K fun r H' => H' = K ∧ ∃ ys : List LvA, ys.map (·.lv) = xs.map (·.lv) ∧ r = I (tnCheck S F ys V) := by
  obtain ⟨h1, h2, ⟨ys, h3, h4⟩, h5⟩ := h
  refine ACalls.mono (ACalls.pureLent 7 (R := fun r => ∃ ys : List LvA, ys.map (·.lv) = xs.map (·.lv) ∧ r = I (tnCheck S F ys V)) ?_ ?_) ?_
  · simp
    have hl : ys.length = xs.length := by simpa using congrArg List.length h4
    exact (sCheck_spec h1 h2 h3 h5 (by omega) hf).mono fun r H h => ⟨h.1, ys, h4, by rw [h.2]⟩
  · rintro r ⟨ys, _, rfl⟩ s
    simp
  · rintro r H' ⟨h, ys, h', rfl⟩
    exact ⟨h, ys, h', rfl⟩
theorem lvsO.read {b j : Nat} {K : List AObj} {es : List AV} {xs : List LvA} (h : lvsO b j K es xs) (hx : ∀ x ∈ xs, InI x.lv.pos ∧ InI x.lv.crd ∧ i64r x.lv.k ∧ i64r x.lv.sz) (hxl : xs.length ≤ 1000) {lO : Nat} {vr : Option Bool}
    (hl : K[lO]? = some ⟨34, 4, es, true, vr⟩) (v1 : vr = some true → es = []) (v2 : vr ≠ some false) : ∃ ys, Ls (frz K 0 6 false (.slc lO xs.length 0 xs.length none)) ys ∧ ys.map (·.lv) = xs.map (·.lv) := by
  obtain ⟨hel, hes⟩ := h
  have ex : ∀ i, i < es.length → ∃ y : LvA, (es[i]?.map (frz K 0 5 false)) = some (lvV y) ∧ (xs[i]?.map (·.lv)) = some y.lv ∧ LvOk y.lv y.p y.q := by
    intro i hi
    have hix : i < xs.length := by omega
    obtain ⟨p, q, a1, a2, a3⟩ := hes i hix
    obtain ⟨c1, c2, c3, c4⟩ := hx xs[i] (List.getElem_mem hix)
    by_cases hj : i = j
    · obtain ⟨d, d1, d2, d3⟩ := a3 hj
      have d2' : rowO b K p 3 1 (xs[i].lv.pos.map I) := d2.to fun k _ hK => by
        rw [List.getElem?_take] at hK
        split at hK
        · exact hK
        · cases hK
      refine ⟨⟨xs[i].lv, frz K 0 4 false p, frz K 0 4 false q⟩, ?_, ?_, d2'.ints c1 3, d3.ints c2 3, c3, c4⟩
      · rw [a1]; simp [lvV]
      · rw [List.getElem?_eq_getElem hix]; rfl
    · obtain ⟨d1, d2⟩ := a2 hj
      refine ⟨⟨xs[i].lv, p, q⟩, ?_, ?_, d1, d2, c3, c4⟩
      · obtain ⟨⟨⟨_, _, _, rfl, _⟩, _⟩, ⟨⟨_, _, _, rfl, _⟩, _⟩⟩ := And.intro d1 d2
        rw [a1]; simp [lvV]
      · rw [List.getElem?_eq_getElem hix]; rfl
  obtain ⟨ys, hyl, hy⟩ := choose_list es.length ex
  have e1 : es.map (frz K 0 5 false) = ys.map lvV := by
    apply List.ext_getElem? 
    intro i
    by_cases hi : i < es.length
    · have := (hy i (by omega)).1
      rw [List.getElem?_map, this, List.getElem?_map, List.getElem?_eq_getElem (by omega)]; rfl
    · rw [List.getElem?_eq_none (by simp; omega), List.getElem?_eq_none (by simp; omega)]
  have e2 : ys.map (·.lv) = xs.map (·.lv) := by
    apply List.ext_getElem? 
    intro i
    by_cases hi : i < es.length
    · have := (hy i (by omega)).2.1
      rw [List.getElem?_map, List.getElem?_map, this, List.getElem?_eq_getElem (by omega)]; rfl
    · rw [List.getElem?_eq_none (by simp; omega), List.getElem?_eq_none (by simp; omega)]
  have e3 : ∀ y ∈ ys, LvOk y.lv y.p y.q := fun y hm => by
    obtain ⟨i, hi, rfl⟩ := List.mem_iff_getElem.1 hm
    exact (hy i hi).2.2
  refine ⟨ys, ?_, e2⟩
  match vr, v1, v2 with
  | none, _, _ =>
    refine ⟨⟨false, none, 4, ?_, by simp, by simp⟩, by omega, e3⟩
    simp [hl, hel, e1]
  | some true, v1, _ =>
    have h0 := v1 rfl
    have hy0 : ys = [] := List.length_eq_zero_iff.1 (by rw [hyl, h0]; rfl)
    have hx0 : xs = [] := List.length_eq_zero_iff.1 (by rw [← hel, h0]; rfl)
    refine ⟨⟨true, none, 4, ?_, by simp [hy0], by simp⟩, by omega, e3⟩
    simp [hl, h0, hy0, hx0]
  | some false, _, h => exact absurd rfl h
theorem specs_read {b : Nat} {K : List AObj} {a : AV} {ty : Nat} {F : List (Int × Int × Int)} (h : rowO b K a ty 3 (F.map specV)) (hF : F.length ≤ 9223372036854775807 ∧ ∀ s ∈ F, (-9223372036854775808 ≤ s.1 ∧ s.1 ≤ 9223372036854775807) ∧ (-9223372036854775808 ≤ s.2.1 ∧ s.2.1 ≤ 9223372036854775807) ∧ (-9223372036854775808 ≤ s.2.2 ∧ s.2.2 ≤ 9223372036854775807)) (n : Nat) : Sp (frz K 0 (n + 2) false a) F := by
  rcases h.read (n + 1) with ⟨h0, e⟩ | e
  · have : F = [] := by simpa using h0
    subst this
    rw [e]
    exact ⟨⟨true, none, 0, rfl, by simp, by simp⟩, by simp, by simp⟩
  · rw [e]
    refine ⟨⟨false, none, 3, ?_, by simp, by simp⟩, hF⟩
    congr 1
    rw [List.map_map]
    apply List.map_congr_left
    intro s _
    simp [specV]
structure OwnX (b lO j : Nat) (sh f v : AV) (S : List Int) (F : List (Int × Int × Int)) (V : List Int) (K : List AObj) (es : List AV) (xs : List LvA) (vr : Option Bool) : Prop where
  rs : rowO b (K.take lO) sh 3 1 (S.map I)
  rf : rowO b (K.take lO) f 43 3 (F.map specV)
  rv : rowO b K v 2 1 (V.map I)
  lo : K[lO]? = some ⟨34, 4, es, true, vr⟩
  v1 : vr = some true → es = []
  v2 : vr ≠ some false
  lv : lvsO (lO + 1) j K es xs
  bl : b ≤ lO
theorem untake {K : List AObj} {l k : Nat} {o : AObj} (h : (K.take l)[k]? = some o) : K[k]? = some o ∧ k < l := by
  rw [List.getElem?_take] at h
  split at h
  · exact ⟨h, ‹_›⟩
  · cases h
theorem CpI.own {b o lO j : Nat} {H : List AObj} {a sh f v : AV} {S : List Int} {F : List (Int × Int × Int)} {V : List Int} {K : List AObj} {es : List AV} {xs : List LvA} {vr : Option Bool}
    (h : CpI b o lO j H a sh f v S F V K es xs vr) : OwnX (b + 1) lO j sh f v S F V K es xs vr :=
  ⟨h.rs, h.rf, h.rv.to fun k _ hk => (untake hk).1, h.lo, h.v1, h.v2, h.lv, by have := h.bo; have := h.ol; omega⟩
theorem OwnX.to {b lO j : Nat} {sh f v : AV} {S : List Int} {F : List (Int × Int × Int)} {V : List Int} {K K' : List AObj} {es : List AV} {xs : List LvA} {vr : Option Bool}
    (h : OwnX b lO j sh f v S F V K es xs vr) (hK : ∀ k ob, b ≤ k → ob.ty ≠ 2 → ob.ty ≠ 27 → K[k]? = some ob → K'[k]? = some ob) {v' : AV} {V' : List Int} (hv : rowO b K' v' 2 1 (V'.map I)) : OwnX b lO j sh f v' S F V' K' es xs vr := by
  have hbl := h.bl
  refine ⟨h.rs.to fun k hk hk2 => ?_, h.rf.to fun k hk hk2 => ?_, hv, hK _ _ hbl (by simp) (by simp) h.lo, h.v1, h.v2, ⟨h.lv.1, fun i hi => ?_⟩, hbl⟩
  · obtain ⟨h1, h2⟩ := untake hk2
    rw [List.getElem?_take, if_pos h2]; exact hK _ _ hk (by simp) (by simp) h1
  · obtain ⟨h1, h2⟩ := untake hk2
    rw [List.getElem?_take, if_pos h2]; exact hK _ _ hk (by simp) (by simp) h1
  · obtain ⟨p, q, a1, a2, a3⟩ := h.lv.2 i hi
    refine ⟨p, q, a1, a2, fun e => ?_⟩
    obtain ⟨d, d1, d2, d3⟩ := a3 e
    refine ⟨d, d1, d2.to fun k hk hk2 => ?_, d3.to fun k hk hk2 => hK _ _ (by omega) (by simp) (by simp) hk2⟩
    obtain ⟨h1, h2⟩ := untake hk2
    rw [List.getElem?_take, if_pos h2]; exact hK _ _ (by omega) (by simp) (by simp) h1
theorem OwnX.read {b lO j : Nat} {sh f v : AV} {S : List Int} {F : List (Int × Int × Int)} {V : List Int} {K : List AObj} {es : List AV} {xs : List LvA} {vr : Option Bool}
    (h : OwnX b lO j sh f v S F V K es xs vr) (hS : InI S) (hF : F.length ≤ 9223372036854775807 ∧ ∀ s ∈ F, (-9223372036854775808 ≤ s.1 ∧ s.1 ≤ 9223372036854775807) ∧ (-9223372036854775808 ≤ s.2.1 ∧ s.2.1 ≤ 9223372036854775807) ∧ (-9223372036854775808 ≤ s.2.2 ∧ s.2.2 ≤ 9223372036854775807))
    (hx : ∀ x ∈ xs, InI x.lv.pos ∧ InI x.lv.crd ∧ i64r x.lv.k ∧ i64r x.lv.sz) (hxl : xs.length ≤ 1000) {v' : AV} {V' : List Int} (hV : ISl (frz K 0 6 false v') V') : OwnR K sh f (.slc lO xs.length 0 xs.length none) v' S F xs V' :=
  ⟨(h.rs.to fun k _ hk => (untake hk).1 : rowO b K sh _ _ _).ints hS 5, (h.rf.to fun k _ hk => (untake hk).1 : rowO b K f _ _ _) |> fun h => specs_read h hF 4, h.lv.read hx hxl h.lo h.v1 h.v2, hV⟩
theorem lvsO.setsz {b j : Nat} {K : List AObj} {es : List AV} {xs : List LvA} (h : lvsO b j K es xs) {i : Nat} (hi : i < xs.length) {k s : AV} {p q : AV} (he : es[i]? = some (.agg [k, s, p, q])) (z : Int) :
    lvsO b j K (es.set i (.agg [k, I z, p, q])) (xs.set i ⟨{ xs[i].lv with sz := z }, xs[i].p, xs[i].q⟩) := by
  refine ⟨by simpa using h.1, fun r hr => ?_⟩
  have hr' : r < xs.length := by simpa using hr
  obtain ⟨p', q', a1, a2, a3⟩ := h.2 r hr'
  by_cases e : i = r
  · subst e
    rw [he] at a1
    simp only [Option.some.injEq, AV.agg.injEq, List.cons.injEq, and_true] at a1
    obtain ⟨rfl, rfl, rfl, rfl⟩ := a1
    refine ⟨p, q, ?_, ?_, ?_⟩
    · rw [List.getElem?_set_self (by rw [h.1]; exact hi)]; simp
    · simpa using a2
    · simpa using a3
  · refine ⟨p', q', ?_, ?_, ?_⟩
    · rw [List.getElem?_set_ne e]; simpa [List.getElem_set_ne e] using a1
    · simpa [List.getElem_set_ne e] using a2
    · simpa [List.getElem_set_ne e] using a3
theorem OwnX.setL {b lO j : Nat} {sh f v : AV} {S : List Int} {F : List (Int × Int × Int)} {V : List Int} {K : List AObj} {es : List AV} {xs : List LvA} {vr : Option Bool}
    (h : OwnX b lO j sh f v S F V K es xs vr) {es' : List AV} {xs' : List LvA} (hl : lvsO (lO + 1) j K es' xs') : OwnX b lO j sh f v S F V (K.set lO ⟨34, 4, es', true, none⟩) es' xs' none := by
  refine ⟨h.rs.to fun k _ hk => ?_, h.rf.to fun k _ hk => ?_, h.rv.set h.lo (by simp) _, gs_eq h.lo, by simp, by simp, ⟨hl.1, fun i hi => ?_⟩, h.bl⟩
  · obtain ⟨h1, h2⟩ := untake hk
    rw [List.getElem?_take, if_pos h2, gs_ne (by omega)]; exact h1
  · obtain ⟨h1, h2⟩ := untake hk
    rw [List.getElem?_take, if_pos h2, gs_ne (by omega)]; exact h1
  · obtain ⟨p, q, a1, a2, a3⟩ := hl.2 i hi
    refine ⟨p, q, a1, a2, fun e => ?_⟩
    obtain ⟨d, d1, d2, d3⟩ := a3 e
    refine ⟨d, d1, ?_, d3.setlt (by omega) _⟩
    rw [List.take_set]; exact d2.setlt (by omega) _
theorem OwnX.setC {b lO i : Nat} {sh f v : AV} {S : List Int} {F : List (Int × Int × Int)} {V : List Int} {K : List AObj} {es : List AV} {xs : List LvA} {vr : Option Bool}
    (h : OwnX b lO i sh f v S F V K es xs vr) (hi : i < xs.length) {k s p : AV} {L n kq : Nat} {c : Option Nat} (he : es[i]? = some (.agg [k, s, p, .slc kq L 0 n c])) (hq : xs[i].lv.crd ≠ []) {c' : List Int} (hc : c'.length = xs[i].lv.crd.length) :
    OwnX b lO i sh f v S F V (K.set kq (intOb c')) es (xs.set i ⟨{ xs[i].lv with crd := c' }, xs[i].p, xs[i].q⟩) vr := by
  obtain ⟨p', q', a1, a2, a3⟩ := h.lv.2 i hi
  rw [he] at a1
  simp only [Option.some.injEq, AV.agg.injEq, List.cons.injEq, and_true] at a1
  obtain ⟨rfl, rfl, rfl, rfl⟩ := a1
  obtain ⟨d, d1, d2, d3⟩ := a3 rfl
  rcases d3 with ⟨e, _⟩ | ⟨kk, k1, k2, k3⟩
  · exact absurd (by simpa using e) hq
  simp only [AV.slc.injEq] at k2
  obtain ⟨rfl, rfl, -, rfl, rfl⟩ := k2
  have hbl := h.bl
  refine ⟨h.rs.to fun k _ hk => ?_, h.rf.to fun k _ hk => ?_, h.rv.set k3 (by simp) _, by rw [gs_ne (by omega)]; exact h.lo, h.v1, h.v2, ⟨by simpa using h.lv.1, fun r hr => ?_⟩, h.bl⟩
  · obtain ⟨h1, h2⟩ := untake hk
    rw [List.getElem?_take, if_pos h2, gs_ne (by omega)]; exact h1
  · obtain ⟨h1, h2⟩ := untake hk
    rw [List.getElem?_take, if_pos h2, gs_ne (by omega)]; exact h1
  · have hr' : r < xs.length := by simpa using hr
    obtain ⟨p', q', a1, a2, a3⟩ := h.lv.2 r hr'
    by_cases e : i = r
    · subst e
      refine ⟨_, _, by simpa using he, fun h => absurd rfl h, fun _ => ⟨d, d1, ?_, .inr ⟨kq, k1, ?_, ?_⟩⟩⟩
      · simp only [List.getElem_set_self]
        refine d2.to fun k hk hk2 => ?_
        obtain ⟨h1, h2⟩ := untake hk2
        rw [List.getElem?_take, if_pos h2, gs_ne (by omega)]; exact h1
      · simp [hc]
      · rw [gs_eq k3]; simp
    · refine ⟨p', q', ?_, ?_, fun e2 => absurd e2.symm e⟩
      · simpa [List.getElem_set_ne e] using a1
      · simpa [List.getElem_set_ne e] using a2
theorem wrap_succ {z : Int} (h : i64r z) : i64r (IntKind.i64.wrap (z + 1)) ∧ IntKind.i64.wrap (z + 1) ≠ z := by
  by_cases e : z = 9223372036854775807
  · subst e
    have : IntKind.i64.wrap (9223372036854775807 + 1) = -9223372036854775808 := by decide
    rw [this]
    omega
  · rw [wrap_i64 (by omega) (by omega)]
    omega
theorem dead_stable {K : List AObj} {a y : AV} {x : Nat} (h0 : K[0]? = some (tnO a)) (hx : K[x]? = some (tnO y)) (ha : ∀ K k, frz K k 3 true a = a) (hy : ∀ K' k, frz K' k 3 true y = y) :
    ∀ K' k, (deadH (fun i => i == 0 || i == x) K).map (fun o => { o with es := o.es.map (frz K' k 3 true) }) = deadH (fun i => i == 0 || i == x) K := by
  intro K' k
  apply List.ext_getElem?
  intro i
  rw [List.getElem?_map]
  cases hd : (deadH (fun i => i == 0 || i == x) K)[i]? with
  | none => rfl
  | some ob =>
    obtain ⟨o, ho, ⟨hk, rfl⟩ | ⟨hk, rfl⟩⟩ := deadH_get hd
    · simp only [Bool.or_eq_true, beq_iff_eq] at hk
      rcases hk with rfl | rfl
      · rw [h0] at ho; cases ho
        simp [ha]
      · rw [hx] at ho; cases ho
        simp [hy]
    · simp [deadO]
end Go.Fw
