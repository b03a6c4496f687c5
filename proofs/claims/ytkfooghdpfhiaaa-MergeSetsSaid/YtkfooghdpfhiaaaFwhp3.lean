/- The heaps of merge: lists that are read, and numbers. -/
import Derived.Test.YtkfooghdpfhiaaaFwhp2
namespace Go.Fw
open Go Go.RowKit Go.Proofs
set_option maxRecDepth 100000
set_option linter.unusedSimpArgs false
set_option linter.unusedVariables false

theorem rdLess : methP Try.prog 72 "Less" = some (124, (some (1, (false, 0)))) := by kernel_rfl
theorem rdSwap : methP Try.prog 72 "Swap" = some (127, (some (1, (false, 0)))) := by kernel_rfl
theorem rdLen : methP Try.prog 72 "Len" = some (42, (some (1, (false, 0)))) := by kernel_rfl
theorem rdPop : methP Try.prog 72 "Pop" = some (125, none) := by kernel_rfl
theorem nuLess : methP Try.prog 83 "Less" = some (128, (some (1, (false, 0)))) := by kernel_rfl
theorem nuSwap : methP Try.prog 83 "Swap" = some (132, (some (1, (false, 0)))) := by kernel_rfl
theorem nuLen : methP Try.prog 83 "Len" = some (47, (some (1, (false, 0)))) := by kernel_rfl
theorem nuPop : methP Try.prog 83 "Pop" = some (129, none) := by kernel_rfl
theorem nuPush : methP Try.prog 83 "Push" = some (130, none) := by kernel_rfl
def rLess_ac : AC := (.seq (.ops [.m 6 (.b false)]) (.seq (.ops [.m 7 (.t 0), .m 8 (.t 1), .o 9 (.iad 3 (.t 7) (.t 8)), .o 10 (.fad 0 (.t 9)), .o 11 (.ld 1 false (.t 10)), .m 12 (.t 0), .m 13 (.t 1), .o 14 (.iad 3 (.t 12) (.t 13)), .o 15 (.fad 1 (.t 14)), .o 16 (.ld 1 false (.t 15)), .o 17 (.iad 1 (.t 11) (.t 16)), .o 18 (.ld 1 false (.t 17)), .m 19 (.t 0), .m 20 (.t 2), .o 21 (.iad 3 (.t 19) (.t 20)), .o 22 (.fad 0 (.t 21)), .o 23 (.ld 1 false (.t 22)), .m 24 (.t 0), .m 25 (.t 2), .o 26 (.iad 3 (.t 24) (.t 25)), .o 27 (.fad 1 (.t 26)), .o 28 (.ld 1 false (.t 27)), .o 29 (.iad 1 (.t 23) (.t 28)), .o 30 (.ld 1 false (.t 29)), .o 31 (.bin .lss (.t 18) (.t 30)), .m 6 (.t 31)]) .ret))
theorem rLess_w {args : List AV} {H : List AObj} {R : AV → List AObj → Prop} (h : wp Try.prog [] H.length rLess_ac (bodyW [(.t 6)] (Nr R .mk)) (args ++ List.replicate (32 - args.length) .und) H) : ACalls Try.prog 124 args H R :=
  ACalls.of_wp Try.func124 rfl (by kernel_rfl) rfl Try.ntmps124 h
def rSwap_ac : AC := (.ops [.m 6 (.t 0), .m 7 (.t 1), .m 8 (.t 0), .m 9 (.t 2), .m 10 (.t 0), .m 11 (.t 2), .o 12 (.iad 3 (.t 10) (.t 11)), .o 13 (.ld 3 true (.t 12)), .m 14 (.t 0), .m 15 (.t 1), .o 16 (.iad 3 (.t 14) (.t 15)), .o 17 (.ld 3 true (.t 16)), .o 18 (.iad 3 (.t 6) (.t 7)), .on (.st 3 (.t 18) (.t 13)), .o 19 (.iad 3 (.t 8) (.t 9)), .on (.st 3 (.t 19) (.t 17))])
theorem rSwap_w {args : List AV} {H : List AObj} {R : AV → List AObj → Prop} (h : wp Try.prog [] H.length rSwap_ac (bodyW [] (Nr R .mk)) (args ++ List.replicate (20 - args.length) .und) H) : ACalls Try.prog 127 args H R :=
  ACalls.of_wp Try.func127 rfl (by kernel_rfl) rfl Try.ntmps127 h
def rLen_ac : AC := (.seq (.ops [.m 2 (.i 0)]) (.seq (.ops [.m 3 (.t 0), .o 4 (.len (.t 3)), .m 2 (.t 4)]) .ret))
theorem rLen_w {args : List AV} {H : List AObj} {R : AV → List AObj → Prop} (h : wp Try.prog [] H.length rLen_ac (bodyW [(.t 2)] (Nr R .mk)) (args ++ List.replicate (5 - args.length) .und) H) : ACalls Try.prog 42 args H R :=
  ACalls.of_wp Try.func42 rfl (by kernel_rfl) rfl Try.ntmps42 h
def rPop_ac : AC := (.seq (.ops [.m 2 (.c (.sc .nilIface))]) (.seq (.ops [.m 4 (.t 0), .o 5 (.nck (.t 4)), .o 6 (.ld 1 false (.t 5)), .m 3 (.t 6)]) (.seq (.ops [.m 7 (.t 0), .m 8 (.t 3), .m 9 (.t 3), .o 10 (.len (.t 9)), .o 11 (.bin .sub (.t 10) (.i 1)), .o 12 (.sl 3 (.t 8) none (some (.t 11)) none), .o 13 (.nck (.t 7)), .on (.st 1 (.t 13) (.t 12))]) (.seq (.ops [.m 14 (.t 3), .m 15 (.t 3), .o 16 (.len (.t 15)), .o 17 (.bin .sub (.t 16) (.i 1)), .o 18 (.iad 3 (.t 14) (.t 17)), .o 19 (.ld 3 true (.t 18)), .o 20 (.mkI 76 (.t 19)), .m 2 (.t 20)]) .ret))))
theorem rPop_w {args : List AV} {H : List AObj} {R : AV → List AObj → Prop} (h : wp Try.prog [] H.length rPop_ac (bodyW [(.t 2)] (Nr R .mk)) (args ++ List.replicate (21 - args.length) .und) H) : ACalls Try.prog 125 args H R :=
  ACalls.of_wp Try.func125 rfl (by kernel_rfl) rfl Try.ntmps125 h
def nLess_ac : AC := (.seq (.ops [.m 6 (.b false)]) (.seq (.ops [.m 7 (.t 0), .m 8 (.t 1), .o 9 (.iad 1 (.t 7) (.t 8)), .o 10 (.ld 1 false (.t 9)), .m 11 (.t 0), .m 12 (.t 2), .o 13 (.iad 1 (.t 11) (.t 12)), .o 14 (.ld 1 false (.t 13)), .o 15 (.bin .lss (.t 10) (.t 14)), .m 6 (.t 15)]) .ret))
theorem nLess_w {args : List AV} {H : List AObj} {R : AV → List AObj → Prop} (h : wp Try.prog [] H.length nLess_ac (bodyW [(.t 6)] (Nr R .mk)) (args ++ List.replicate (16 - args.length) .und) H) : ACalls Try.prog 128 args H R :=
  ACalls.of_wp Try.func128 rfl (by kernel_rfl) rfl Try.ntmps128 h
def nSwap_ac : AC := (.ops [.m 6 (.t 0), .m 7 (.t 1), .m 8 (.t 0), .m 9 (.t 2), .m 10 (.t 0), .m 11 (.t 2), .o 12 (.iad 1 (.t 10) (.t 11)), .o 13 (.ld 1 false (.t 12)), .m 14 (.t 0), .m 15 (.t 1), .o 16 (.iad 1 (.t 14) (.t 15)), .o 17 (.ld 1 false (.t 16)), .o 18 (.iad 1 (.t 6) (.t 7)), .on (.st 1 (.t 18) (.t 13)), .o 19 (.iad 1 (.t 8) (.t 9)), .on (.st 1 (.t 19) (.t 17))])
theorem nSwap_w {args : List AV} {H : List AObj} {R : AV → List AObj → Prop} (h : wp Try.prog [] H.length nSwap_ac (bodyW [] (Nr R .mk)) (args ++ List.replicate (20 - args.length) .und) H) : ACalls Try.prog 132 args H R :=
  ACalls.of_wp Try.func132 rfl (by kernel_rfl) rfl Try.ntmps132 h
def nLen_ac : AC := (.seq (.ops [.m 2 (.i 0)]) (.seq (.ops [.m 3 (.t 0), .o 4 (.len (.t 3)), .m 2 (.t 4)]) .ret))
theorem nLen_w {args : List AV} {H : List AObj} {R : AV → List AObj → Prop} (h : wp Try.prog [] H.length nLen_ac (bodyW [(.t 2)] (Nr R .mk)) (args ++ List.replicate (5 - args.length) .und) H) : ACalls Try.prog 47 args H R :=
  ACalls.of_wp Try.func47 rfl (by kernel_rfl) rfl Try.ntmps47 h
def nPop_ac : AC := (.seq (.ops [.m 2 (.c (.sc .nilIface))]) (.seq (.ops [.m 4 (.t 0), .o 5 (.nck (.t 4)), .o 6 (.fad 0 (.t 5)), .o 7 (.ld 1 false (.t 6)), .m 8 (.t 0), .o 9 (.nck (.t 8)), .o 10 (.fad 0 (.t 9)), .o 11 (.ld 1 false (.t 10)), .o 12 (.len (.t 11)), .o 13 (.bin .sub (.t 12) (.i 1)), .o 14 (.iad 1 (.t 7) (.t 13)), .o 15 (.ld 1 false (.t 14)), .m 3 (.t 15)]) (.seq (.ops [.m 16 (.t 0), .m 17 (.t 0), .o 18 (.nck (.t 17)), .o 19 (.fad 0 (.t 18)), .o 20 (.ld 1 false (.t 19)), .m 21 (.t 0), .o 22 (.nck (.t 21)), .o 23 (.fad 0 (.t 22)), .o 24 (.ld 1 false (.t 23)), .o 25 (.len (.t 24)), .o 26 (.bin .sub (.t 25) (.i 1)), .o 27 (.sl 1 (.t 20) none (some (.t 26)) none), .o 28 (.nck (.t 16)), .o 29 (.fad 0 (.t 28)), .on (.st 1 (.t 29) (.t 27))]) (.seq (.ops [.m 30 (.t 3), .o 31 (.mkI 3 (.t 30)), .m 2 (.t 31)]) .ret))))
theorem nPop_w {args : List AV} {H : List AObj} {R : AV → List AObj → Prop} (h : wp Try.prog [] H.length nPop_ac (bodyW [(.t 2)] (Nr R .mk)) (args ++ List.replicate (32 - args.length) .und) H) : ACalls Try.prog 129 args H R :=
  ACalls.of_wp Try.func129 rfl (by kernel_rfl) rfl Try.ntmps129 h
def nPush_ac : AC := (.ops [.m 4 (.t 0), .m 5 (.t 0), .o 6 (.nck (.t 5)), .o 7 (.fad 0 (.t 6)), .o 8 (.ld 1 false (.t 7)), .m 9 (.t 1), .o 10 (.asrt 3 false (.t 9)), .o 11 (.lit 1 [(.t 10)]), .o 12 (.app 3 1 8 (.t 8) (.t 11)), .o 13 (.nck (.t 4)), .o 14 (.fad 0 (.t 13)), .on (.st 1 (.t 14) (.t 12))])
theorem nPush_w {args : List AV} {H : List AObj} {R : AV → List AObj → Prop} (h : wp Try.prog [] H.length nPush_ac (bodyW [] (Nr R .mk)) (args ++ List.replicate (15 - args.length) .und) H) : ACalls Try.prog 130 args H R :=
  ACalls.of_wp Try.func130 rfl (by kernel_rfl) rfl Try.ntmps130 h

def keyN : AV → Int
  | .sc (.int _ n) => n
  | _ => 0
def okN (e : AV) : Prop := ∃ n, e = I n
/-- A list that is read. -/
def rdr (l : List Int) (i k : Nat) : AV := .agg [Is l, I i, I k]
def keyR : AV → Int
  | .agg (.imm _ _ _ xs :: .sc (.int _ i) :: _) => keyN (xs.getD i.toNat .und)
  | _ => 0
def okR (e : AV) : Prop := ∃ l i k, e = rdr l i k ∧ i < l.length
def okS (e : AV) : Prop := ∃ l i k, e = rdr l i k
@[simp] theorem keyN_I (n : Int) : keyN (I n) = n := rfl
theorem keyR_rdr {l : List Int} {i k : Nat} (h : i < l.length) : keyR (rdr l i k) = l[i] := by simp [keyR, rdr, h]

section
variable {v0 : Option Bool} {w : AV → AV} {tp tr sz : Nat} {H : List AObj} {p j : Nat} {es : List AV} {n x : Nat} {ok : AV → Prop}
theorem HS.el (h : HS v0 w tp tr sz H p j es n) (hx : x < n) (ho : ok (es.getD x .und)) : ∃ e, ∃ hl : x < es.length, es[x] = e ∧ ok e ∧ es.getD x .und = e := by
  have hl : x < es.length := by have := h.le; omega
  have e : es.getD x .und = es[x] := by simp [hl]
  exact ⟨es[x], hl, rfl, by rw [← e]; exact ho, e⟩
theorem HS.jlt (h : HS v0 w tp tr sz H p j es n) : j < H.length := (List.getElem?_eq_some_iff.1 h.hj).1
theorem HS.plt (h : HS v0 w tp tr sz H p j es n) : p < H.length := (List.getElem?_eq_some_iff.1 h.hp).1
theorem HS.gj (h : HS v0 w tp tr sz H p j es n) : H[j]'h.jlt = ov v0 tr sz es := by
  have := h.hj
  rw [List.getElem?_eq_getElem h.jlt] at this
  exact Option.some.inj this
theorem HS.gp (h : HS v0 w tp tr sz H p j es n) : H[p]'h.plt = ob tp 1 [w (.slc j es.length 0 n none)] := by
  have := h.hp
  rw [List.getElem?_eq_getElem h.plt] at this
  exact Option.some.inj this
theorem HS.ne0 (h : HS v0 w tp tr sz H p j es n) (hx : x < n) : es ≠ [] := by
  rintro rfl
  have := h.le
  simp at this; omega
end

set_option maxHeartbeats 2000000 in
theorem rd_HM : HM none 72 74 76 76 3 id keyR okR okS where
  wk := fun e ⟨l, i, k, h, _⟩ => ⟨l, i, k, h⟩
  less := by
    rintro H p j es n x y xi yi h rfl rfl hx hy ho ho'
    obtain ⟨e1, q1, h1, ⟨l1, i1, k1, rfl, b1⟩, d1⟩ := h.el hx ho
    obtain ⟨e2, q2, h2, ⟨l2, i2, k2, rfl, b2⟩, d2⟩ := h.el hy ho'
    have hv := ov_real (v0 := none) (ty := 76) (sz := 3) (h.ne0 hx)
    have hle := h.le
    simp only [kAt, d1, d2, keyR_rdr b1, keyR_rdr b2]
    rw [invV_ld rdLess]
    simp (disch := omega) [ar, -List.take_append_getElem, h.hp]
    refine rLess_w ?_
    simp (disch := omega) [ar, -List.take_append_getElem, rLess_ac, h.hj, hv, h1, h2, rdr]
  swap := by
    rintro H p j es n x y xi yi h rfl rfl hx hy ho ho'
    obtain ⟨e1, q1, h1, ⟨l1, i1, k1, rfl⟩, d1⟩ := h.el hx ho
    obtain ⟨e2, q2, h2, ⟨l2, i2, k2, rfl⟩, d2⟩ := h.el hy ho'
    have hv := ov_real (v0 := none) (ty := 76) (sz := 3) (h.ne0 hx)
    have hle := h.le
    rw [invV_ld rdSwap]
    simp (disch := omega) [ar, -List.take_append_getElem, h.hp]
    refine rSwap_w ?_
    have hj := h.jlt
    by_cases hxy : x = y
    · subst hxy
      rw [h1] at h2
      obtain ⟨rfl, rfl, rfl⟩ : l1 = l2 ∧ i1 = i2 ∧ k1 = k2 := by simp [rdr] at h2; exact ⟨(List.map_inj_right (by simp)).1 h2.1, by omega, by omega⟩
      simp (disch := omega) [ar, -List.take_append_getElem, rSwap_ac, h.gj, hv, h1, rdr, swL, d1]
      exact congrArg _ (ov_mk (by simp [h.ne0 hx]))
    · simp (disch := omega) [ar, -List.take_append_getElem, rSwap_ac, h.gj, hv, h1, h2, rdr, swL, d1, d2, List.getElem?_set_ne hxy]
      exact congrArg _ (ov_mk (by simp [h.ne0 hx]))
  len := by
    rintro H p j es n h
    rw [invV_ld rdLen]
    simp (disch := omega) [ar, -List.take_append_getElem, h.hp]
    refine rLen_w ?_
    simp (disch := omega) [ar, -List.take_append_getElem, rLen_ac]

set_option maxHeartbeats 2000000 in
/-- Taking away the last list. -/
theorem rd_pop0 {H : List AObj} {p j : Nat} {es : List AV} {n : Nat} (h : HS none id 74 76 3 H p j es (n + 1)) (ho : okS (es.getD n .und)) (hn : n < 1000000) :
    invV Try.prog false "Pop" [.ifc 72 (.ptr p 1 0 0)] H fun r H' => r = .ifc 76 (es.getD n .und) ∧ H' = hset none id 74 76 3 H p j es n := by
  obtain ⟨e1, q1, h1, ⟨l1, i1, k1, rfl⟩, d1⟩ := h.el (Nat.lt_succ_self n) ho
  have hv := ov_real (v0 := none) (ty := 76) (sz := 3) (h.ne0 (Nat.lt_succ_self n))
  have hle := h.le
  have hj := h.jlt
  have hp := h.plt
  rw [invV_of rdPop]
  refine rPop_w ?_
  simp (disch := omega) [ar, -List.take_append_getElem, rPop_ac, h.gp, h.gj, hv, h1, List.getElem?_set_ne h.ne, rdr]
  simp only [hset, h.same, id]

set_option maxHeartbeats 2000000 in
theorem nu_HM : HM (some true) 83 86 3 3 1 (fun v => .agg [v]) keyN okN okN where
  wk := fun _ h => h
  less := by
    rintro H p j es n x y xi yi h rfl rfl hx hy ho ho'
    obtain ⟨e1, q1, h1, ⟨m1, rfl⟩, d1⟩ := h.el hx ho
    obtain ⟨e2, q2, h2, ⟨m2, rfl⟩, d2⟩ := h.el hy ho'
    have hv := ov_real (v0 := some true) (ty := 3) (sz := 1) (h.ne0 hx)
    have hle := h.le
    simp only [kAt, d1, d2]
    rw [invV_ld nuLess]
    simp (disch := omega) [ar, -List.take_append_getElem, h.hp]
    refine nLess_w ?_
    simp (disch := omega) [ar, -List.take_append_getElem, nLess_ac, h.hj, hv, h1, h2]
    rfl
  swap := by
    rintro H p j es n x y xi yi h rfl rfl hx hy ho ho'
    obtain ⟨e1, q1, h1, ⟨m1, rfl⟩, d1⟩ := h.el hx ho
    obtain ⟨e2, q2, h2, ⟨m2, rfl⟩, d2⟩ := h.el hy ho'
    have hv := ov_real (v0 := some true) (ty := 3) (sz := 1) (h.ne0 hx)
    have hle := h.le
    rw [invV_ld nuSwap]
    simp (disch := omega) [ar, -List.take_append_getElem, h.hp]
    refine nSwap_w ?_
    have hj := h.jlt
    by_cases hxy : x = y
    · subst hxy
      simp (disch := omega) [ar, -List.take_append_getElem, nSwap_ac, h.gj, hv, h1, swL, d1]
      exact congrArg _ (ov_mk (by simp [h.ne0 hx]))
    · simp (disch := omega) [ar, -List.take_append_getElem, nSwap_ac, h.gj, hv, h1, h2, swL, d1, d2, List.getElem?_set_ne hxy]
      exact congrArg _ (ov_mk (by simp [h.ne0 hx]))
  len := by
    rintro H p j es n h
    rw [invV_ld nuLen]
    simp (disch := omega) [ar, -List.take_append_getElem, h.hp]
    refine nLen_w ?_
    simp (disch := omega) [ar, -List.take_append_getElem, nLen_ac]

set_option maxHeartbeats 2000000 in
theorem nu_HP : HP (some true) 83 86 3 3 1 (fun v => .agg [v]) okN where
  pop := by
    rintro H p j es n h ho hn
    obtain ⟨e1, q1, h1, ⟨m1, rfl⟩, d1⟩ := h.el (Nat.lt_succ_self n) ho
    have hv := ov_real (v0 := some true) (ty := 3) (sz := 1) (h.ne0 (Nat.lt_succ_self n))
    have hle := h.le
    have hj := h.jlt
    have hp := h.plt
    rw [invV_of nuPop]
    refine nPop_w ?_
    simp (disch := omega) [ar, -List.take_append_getElem, nPop_ac, h.gp, h.gj, hv, h1]
    simp only [hset, h.same]

set_option maxHeartbeats 2000000 in
theorem nu_HQ : HQ (some true) 83 86 3 3 1 (fun v => .agg [v]) okN where
  push := by
    rintro H p j es n x h ho ⟨m, rfl⟩ hn hl
    have hle := h.le
    have hj := h.jlt
    have hp := h.plt
    rw [invV_of nuPush]
    refine nPush_w ?_
    have hone : allOneCell 1 es = true := by
      simp only [allOneCell, List.all_eq_true]
      intro e he
      obtain ⟨m, rfl⟩ := ho e he
      rfl
    by_cases hnl : n = es.length
    · subst hnl
      simp (disch := omega) [ar, -List.take_append_getElem, nPush_ac, h.gp, h.gj, hone, List.getElem?_set_ne h.ne.symm]
      simp [hset, ov, List.drop_of_length_le (Nat.le_succ es.length)]
    · have hv := ov_real (v0 := some true) (ty := 3) (sz := 1) (es := es) (by rintro rfl; simp at hle hnl; omega)
      simp (disch := omega) [ar, -List.take_append_getElem, nPush_ac, h.gp, h.gj, hone, hnl, hv, List.getElem?_set_ne h.ne.symm]
      have hlen : (es.take n ++ I m :: es.drop (n + 1)).length = es.length := by simp; omega
      simp only [hset, hlen]
      simp [ov]
theorem rd_HP : HP none 72 74 76 76 3 id okS := ⟨rd_pop0⟩
end Go.Fw
