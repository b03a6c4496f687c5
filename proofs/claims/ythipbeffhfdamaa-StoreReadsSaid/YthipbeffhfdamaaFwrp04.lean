/- Tensors as plain values; what is known of store and of the document's layer, as contracts of what is only read. -/
import Derived.Test.YthipbeffhfdamaaFwstore7
import Derived.Test.YthipbeffhfdamaaFwargsT
import Derived.Test.YthipbeffhfdamaaFwref05j
import Derived.Test.YthipbeffhfdamaaFwpar2
import Derived.Test.YthipbeffhfdamaaFwY4
import Derived.Test.YthipbeffhfdamaaFwref04b
namespace Go.Fw
open Go Go.RowKit Go.Proofs
set_option maxRecDepth 100000
set_option linter.unusedSimpArgs false
set_option linter.unusedVariables false
abbrev lvW (l : Lv) : AV := .agg [I l.k, I l.sz, Is l.pos, Is l.crd]
abbrev fW (F : List (Int × Int × Int)) : AV := .imm false none 3 (F.map specV)
abbrev tnW (S : List Int) (F : List (Int × Int × Int)) (L : List Lv) (V : List Int) : AV := .agg [Is S, fW F, .imm false none 4 (L.map lvW), Is V]
instance : DecidableEq Lv := fun x y => decidable_of_iff (x.k = y.k ∧ x.sz = y.sz ∧ x.pos = y.pos ∧ x.crd = y.crd) (by cases x; cases y; simp)
def toA (l : Lv) : LvA := ⟨l, Is l.pos, Is l.crd⟩
@[simp] theorem toA_lv (l : Lv) : (toA l).lv = l := rfl
theorem toA_map (L : List Lv) : (L.map toA).map LvA.lv = L := by rw [List.map_map]; exact List.map_id _
structure TnOk (S : List Int) (F : List (Int × Int × Int)) (L : List Lv) (V : List Int) : Prop where
  s : InI S
  f : F.length ≤ 9223372036854775807 ∧ ∀ s ∈ F, i64r s.1 ∧ i64r s.2.1 ∧ i64r s.2.2
  l : L.length ≤ 9223372036854775807 ∧ ∀ x ∈ L, InI x.pos ∧ InI x.crd ∧ i64r x.k ∧ i64r x.sz
  v : InI V
theorem ISl.wk {a : AV} {xs : List Int} (h : ISl a xs) : Wk a (Is xs) := by
  obtain ⟨⟨nl, c, sz, rfl, h1, h2⟩, _⟩ := h
  cases nl with
  | true => have := h1 rfl; subst this; simp
  | false => have := h2 rfl; subst this; simp
theorem Is_sl {xs : List Int} (h : InI xs) : ISl (Is xs) xs := ISl.of none h.1 h.2
theorem Sp.wk {a : AV} {F : List (Int × Int × Int)} (h : Sp a F) : Wk a (fW F) := by
  obtain ⟨⟨nl, c, sz, rfl, h1, h2⟩, _⟩ := h
  cases nl with
  | true => have := h1 rfl; subst this; simp
  | false => have := h2 rfl; subst this; simp
theorem Ls.wk {a : AV} {xs : List LvA} (h : Ls a xs) : Wk a (.imm false none 4 ((xs.map LvA.lv).map lvW)) := by
  obtain ⟨⟨nl, c, sz, rfl, h1, h2⟩, h4, h3⟩ := h
  clear h4
  have hw : Wks (xs.map lvV) ((xs.map LvA.lv).map lvW) := by
    clear h1 h2
    induction xs with
    | nil => rfl
    | cons x xs ih =>
      have hx := h3 x (by simp)
      simp only [List.map_cons, Wks]
      refine ⟨?_, ih fun y hy => h3 y (by simp [hy])⟩
      obtain ⟨a1, a2, _⟩ := hx
      simp only [lvV, Wk, Wks, a1.wk, a2.wk]
      simp
  cases nl with
  | true => have := h1 rfl; subst this; simp
  | false =>
    have := h2 rfl; subst this
    simp only [Wk]
    exact ⟨.inl trivial, .inl ⟨trivial, trivial, hw⟩⟩
theorem Tns.wk {a : AV} {T : Tn} (h : Tns a T) : Wk a (tnW T.sh T.f (T.l.map LvA.lv) T.v) := by
  obtain ⟨x, y, z, w, rfl, h1, h2, h3, h4⟩ := h
  simp only [Wk, Wks, h1.wk, h2.wk, h3.wk, h4.wk, true_and]
theorem Tns.ok {a : AV} {T : Tn} (h : Tns a T) : TnOk T.sh T.f (T.l.map LvA.lv) T.v := by
  obtain ⟨x, y, z, w, rfl, h1, h2, h3, h4⟩ := h
  refine ⟨h1.2, h2.2, ⟨by simpa using h3.2.1, fun x hx => ?_⟩, h4.2⟩
  obtain ⟨y, hy, rfl⟩ := List.mem_map.1 hx
  obtain ⟨a1, a2, a3, a4⟩ := h3.2.2 y hy
  exact ⟨a1.2, a2.2, a3, a4⟩
section
variable {S : List Int} {F : List (Int × Int × Int)} {L : List Lv} {V : List Int} (h : TnOk S F L V)
include h
theorem TnOk.sp : Sp (fW F) F := ⟨⟨false, none, 3, rfl, by simp, by simp⟩, h.f⟩
theorem TnOk.ls : Ls (.imm false none 4 (L.map lvW)) (L.map toA) := by
  refine ⟨⟨false, none, 4, ?_, by simp, by simp⟩, by simpa using h.l.1, fun x hx => ?_⟩
  · rw [List.map_map]; rfl
  · obtain ⟨y, hy, rfl⟩ := List.mem_map.1 hx
    obtain ⟨a1, a2, a3, a4⟩ := h.l.2 y hy
    exact ⟨Is_sl a1, Is_sl a2, a3, a4⟩
theorem TnOk.tns : Tns (tnW S F L V) ⟨S, F, L.map toA, V⟩ := ⟨_, _, _, _, rfl, Is_sl h.s, h.sp, h.ls, Is_sl h.v⟩
end
structure Few (S : List Int) (F : List (Int × Int × Int)) (L : List Lv) (V : List Int) : Prop where
  s : S.length ≤ 20
  f : F.length ≤ 40
  l : L.length ≤ 40
  v : V.length ≤ 3000
  c : ∀ x ∈ L, x.pos.length ≤ 3000 ∧ x.crd.length ≤ 3000
abbrev tnC (S : List Int) (F : List (Int × Int × Int)) (L : List Lv) (V : List Int) : Int := tnCheck S F (L.map toA) V
section
variable {S : List Int} {F : List (Int × Int × Int)} {L : List Lv} {V : List Int} (h : TnOk S F L V) (k : Few S F L V)
include h k
theorem sCheck_p : Pu Try.prog 11 [tnW S F L V] (I (tnC S F L V)) :=
  Pu.mk (sCheck_spec (Is_sl h.s) h.sp h.ls (Is_sl h.v) (by have := k.l; simp; omega) (by have := k.f; omega))
theorem rtCheck_p : Pu Try.prog 26 [tnW S F L V] (I (tnC S F L V)) :=
  Pu.mk (rCheck_spec (Is_sl h.s) h.sp h.ls (Is_sl h.v) (by have := k.l; simp; omega) (by have := k.f; omega) (by have := k.s; omega) (fun x hx => by
    obtain ⟨y, hy, rfl⟩ := List.mem_map.1 hx
    have := k.c y hy
    simp only [toA_lv]
    omega))
end
end Go.Fw
/- The document's parent of a number on a level. -/
namespace Go.Fw
open Go Go.RowKit Go.Proofs
set_option maxRecDepth 100000
set_option linter.unusedSimpArgs false
set_option linter.unusedVariables false
structure LvF (l : Lv) : Prop where
  pos : InI l.pos
  crd : InI l.crd
  rk : i64r l.k
  rsz : i64r l.sz
  sm : l.pos.length ≤ 4611686018427387903 ∧ l.crd.length ≤ 4611686018427387903
theorem LvF.ok {l : Lv} (h : LvF l) : LvOk l (Is l.pos) (Is l.crd) := ⟨Is_sl h.pos, Is_sl h.crd, h.rk, h.rsz⟩
def r4Parent_1 : AC := (.seq (.seq (.ops [.o 47 (.fad 2 (.t 3)), .o 48 (.ld 1 false (.t 47)), .m 49 (.t 10), .o 50 (.bin .add (.t 49) (.i 1)), .o 51 (.iad 1 (.t 48) (.t 50)), .o 52 (.ld 1 false (.t 51)), .m 53 (.t 2), .o 54 (.bin .leq (.t 52) (.t 53))]) (.cond (.t 54) .skip (.exit 1))) (.block 2 (.ops [.m 55 (.t 10), .o 56 (.bin .add (.t 55) (.i 1)), .m 10 (.t 56)])))
def r4Parent_ac : AC := (.seq (.ops [.o 3 (.new 34 4 (.t 0)), .m 6 (.i 0), .m 7 (.i 0), .m 8 (.i 0)]) (.seq (.seq (.ops [.o 11 (.ld 4 true (.t 3)), .m 12 (.t 1), .c 13 false (.f 86) [(.t 11), (.t 12)], .m 9 (.t 13)]) (.seq (.ops [.m 14 (.t 9), .o 15 (.bin .neq (.t 14) (.i 0))]) (.cond (.t 15) (.seq (.ops [.m 16 (.t 9), .m 6 (.i 0), .m 7 (.i 0), .m 8 (.t 16)]) .ret) .skip))) (.seq (.seq (.ops [.m 17 (.t 2), .o 18 (.bin .lss (.t 17) (.i 0)), .m 19 (.t 18), .mg 20 19 false (.t 2), .og 21 19 false (.ld 4 true (.t 3)), .mg 22 19 false (.t 1), .cg 23 19 false false (.f 87) [(.t 21), (.t 22)], .og 24 19 false (.bin .geq (.t 20) (.t 23)), .o 25 (.pick (.t 19) (.b true) (.t 24))]) (.cond (.t 25) (.seq (.ops [.m 6 (.i 0), .m 7 (.i 0), .m 8 (.i 5)]) .ret) .skip)) (.seq (.block 0 (.seq (.ops [.o 27 (.ld 4 true (.t 3)), .c 28 false (.f 88) [(.t 27)], .m 26 (.t 28)]) (.cond (.t 26) (.seq (.ops [.m 29 (.t 2), .o 30 (.fad 1 (.t 3)), .o 31 (.ld 1 false (.t 30)), .o 32 (.bin .quo (.t 29) (.t 31)), .m 33 (.t 2), .o 34 (.fad 1 (.t 3)), .o 35 (.ld 1 false (.t 34)), .o 36 (.bin .rem (.t 33) (.t 35)), .m 6 (.t 32), .m 7 (.t 36), .m 8 (.i 0)]) .ret) (.seq (.ops [.o 38 (.fad 0 (.t 3)), .o 39 (.ld 1 false (.t 38)), .o 40 (.bin .eql (.t 39) (.i 3)), .m 37 (.t 40)]) (.cond (.t 37) (.seq (.ops [.m 41 (.t 2), .o 42 (.fad 3 (.t 3)), .o 43 (.ld 1 false (.t 42)), .m 44 (.t 2), .o 45 (.iad 1 (.t 43) (.t 44)), .o 46 (.ld 1 false (.t 45)), .m 6 (.t 41), .m 7 (.t 46), .m 8 (.i 0)]) .ret) .skip))))) (.seq (.ops [.m 10 (.i 0)]) (.seq (.block 1 (.loop r4Parent_1)) (.seq (.ops [.m 57 (.t 10), .o 58 (.fad 3 (.t 3)), .o 59 (.ld 1 false (.t 58)), .m 60 (.t 2), .o 61 (.iad 1 (.t 59) (.t 60)), .o 62 (.ld 1 false (.t 61)), .m 6 (.t 57), .m 7 (.t 62), .m 8 (.i 0)]) .ret)))))))
theorem r4Parent_w {args : List AV} {H : List AObj} {R : AV → List AObj → Prop} (h : wp Try.prog [] H.length r4Parent_ac (bodyW [(.t 6), (.t 7), (.t 8)] (Nr R .mk)) (args ++ List.replicate (63 - args.length) .und) H) : ACalls Try.prog 81 args H R :=
  ACalls.of_wp Try.func81 rfl (by kernel_rfl) rfl Try.ntmps81 h
section
variable {l : Lv} {a n : Nat} (h : LvF l)
include h
theorem r4Check_p (ha : a ≤ 1048576) : Pu Try.prog 86 [lvW l, I a] (I (lvCheck l a)) := Pu.mk (r4Check_spec h.ok h.sm ha)
theorem r4many_p (ha : a ≤ 1048576) (hz : 0 ≤ l.sz ∧ l.sz ≤ 2147483648) : Pu Try.prog 87 [lvW l, I a] (I (lvBelow l a)) := Pu.mk (r4many_spec h.ok ⟨by omega, by omega⟩ hz)
theorem r4Whole_p : Pu Try.prog 88 [lvW l] (Bo (lvWhole l)) := Pu.mk (r4Whole_spec h.ok)
set_option maxHeartbeats 1000000 in
theorem r4Parent_p (ha : a ≤ 1048576) (hc : lvCheck l a = 0) (hn : n < (lvBelow l a).toNat) : Pu Try.prog 81 [lvW l, I a, I n] (.tup [I (parF l n).1, I (parF l n).2, I 0]) := by
  refine Pu.of 4 (r4Parent_w ?_)
  obtain ⟨z0, z1, hf, hcl, b0, b1, hcr, -⟩ := lvBelow_ok hc
  have hch := r4Check_p h ha
  have hmn := r4many_p h ha ⟨z0, z1⟩
  have hwh := r4Whole_p h
  have hn2 : (n : Int) < lvBelow l a := by omega
  have hpp := par_pos hc hn
  rw [hc] at hch
  have hs3 : l.k = 3 → n < l.crd.length := fun e => by
    have : lvBelow l a = l.crd.length := by rw [lvBelow, if_neg (by omega)]
    omega
  have hw0 : l.k = 0 ∨ l.k = 4 → 0 < l.sz := fun e => by
    have : lvBelow l a = a * l.sz := by rw [lvBelow, if_pos e]
    rcases Int.lt_or_le 0 l.sz with h | h
    · exact h
    · have : l.sz = 0 := by omega
      simp [this, lvBelow, e] at hn2
      omega
  clear hf hcl hcr hn h hc
  obtain ⟨k, z, ps, cs⟩ := l
  simp only at hch hmn hwh hn2 hpp hs3 hw0 z0 z1 b0 b1 ⊢
  simp (disch := omega) [ar, -List.take_append_getElem, r4Parent_ac]
  refine Pu.c hch ?_
  simp (disch := omega) [ar, -List.take_append_getElem]
  refine Pu.c hmn ?_
  simp (disch := omega) [ar, -List.take_append_getElem]
  refine Pu.c hwh ?_
  by_cases hw : k = 0 ∨ k = 4
  · have hz := hw0 hw
    obtain ⟨zn, rfl⟩ : ∃ zn : Nat, z = zn := ⟨z.toNat, by omega⟩
    have e : parF ⟨k, zn, ps, cs⟩ n = (n / zn, ((n % zn : Nat) : Int)) := by simp [parF, hw]
    rw [e]
    have e1 : lvWhole ⟨k, zn, ps, cs⟩ = true := by simp [lvWhole, hw]
    have hz2 : ¬ (zn : Int) = 0 := by omega
    simp (disch := omega) [ar, -List.take_append_getElem, e1, hz2]
    refine ⟨?_, (Int.tmod_eq_emod_of_nonneg (by omega)).symm⟩
    have g1 : 0 ≤ (n : Int) / zn := Int.ediv_nonneg (by omega) (by omega)
    have g2 : (n : Int) / zn ≤ n := Int.ediv_le_self _ (by omega)
    rw [wrap_i64 (by omega) (by omega)]
  · have e1 : lvWhole ⟨k, z, ps, cs⟩ = false := by simp [lvWhole, hw]
    by_cases k3 : k = 3
    · have h3 := hs3 k3
      have e : parF ⟨k, z, ps, cs⟩ n = (n, cs.getD n 0) := by simp [parF, k3]
      have e2 : cs.getD n 0 = cs[n] := by simp [h3]
      rw [e, e2]
      subst k3
      simp (disch := omega) [ar, -List.take_append_getElem, e1]
    · obtain ⟨p, hp, h1, h2, h3, h4, e⟩ := hpp hw k3
      have e2 : cs.getD n 0 = cs[n] := by simp [h4]
      rw [e, e2]
      simp (disch := omega) [ar, -List.take_append_getElem, e1, k3]
      refine Lp.to 1 [] p (fun _ => True) (fun i => fm 63 [(2, I n), (3, .ptr 0 1 0 0), (10, I i)]) (fun _ => [bx 34 4 (lvW ⟨k, z, ps, cs⟩)]) ⟨trivial, by simp⟩ fun i hi _ => ?_
      have hpi : i + 1 < ps.length := by omega
      have hgi : ps.getD (i + 1) 0 = ps[i + 1] := by simp [hpi]
      simp (disch := omega) [ar, -List.take_append_getElem, r4Parent_1]
      by_cases hip : i < p
      · have g := h1 i hip
        rw [hgi] at g
        simp (disch := omega) [ar, -List.take_append_getElem, g]
      · obtain rfl : i = p := by omega
        rw [hgi] at h3
        simp (disch := omega) [ar, -List.take_append_getElem, h3]
end
end Go.Fw
