/- container/heap, for any rows that tell their methods. -/
import Derived.Test.YtkfooghdpfhiaaaFwhp0
import Derived.Test.YtkfooghdpfhiaaaProg
namespace Go.Fw
open Go Go.RowKit Go.Proofs
set_option maxRecDepth 100000
set_option linter.unusedSimpArgs false
set_option linter.unusedVariables false

/-- A heap's objects: what leads to the row, and the row, of which n are told. -/
structure HS (v0 : Option Bool) (w : AV → AV) (tp tr sz : Nat) (H : List AObj) (p j : Nat) (es : List AV) (n : Nat) : Prop where
  hp : H[p]? = some (ob tp 1 [w (.slc j es.length 0 n none)])
  hj : H[j]? = some (ov v0 tr sz es)
  ne : p ≠ j
  le : n ≤ es.length
/-- What its methods do. -/
structure HM (v0 : Option Bool) (t tp te tr sz : Nat) (w : AV → AV) (key : AV → Int) (ok okw : AV → Prop) : Prop where
  wk : ∀ e, ok e → okw e
  less : ∀ {H : List AObj} {p j : Nat} {es : List AV} {n x y : Nat} {xi yi : Int}, HS v0 w tp tr sz H p j es n → xi = x → yi = y → x < n → y < n → ok (es.getD x .und) → ok (es.getD y .und) →
    invV Try.prog false "Less" [.ifc t (.ptr p 1 0 0), I xi, I yi] H fun r H' => H' = H ∧ r = Bo (decide (kAt key es x < kAt key es y))
  swap : ∀ {H : List AObj} {p j : Nat} {es : List AV} {n x y : Nat} {xi yi : Int}, HS v0 w tp tr sz H p j es n → xi = x → yi = y → x < n → y < n → okw (es.getD x .und) → okw (es.getD y .und) →
    invV Try.prog false "Swap" [.ifc t (.ptr p 1 0 0), I xi, I yi] H fun _ H' => H' = H.set j (ov v0 tr sz (swL es x y))
  len : ∀ {H : List AObj} {p j : Nat} {es : List AV} {n : Nat}, HS v0 w tp tr sz H p j es n → invV Try.prog false "Len" [.ifc t (.ptr p 1 0 0)] H fun r H' => H' = H ∧ r = I n

/-- The objects, with another row of which n are told. -/
def hset (v0 : Option Bool) (w : AV → AV) (tp tr sz : Nat) (H : List AObj) (p j : Nat) (es : List AV) (n : Nat) : List AObj := (H.set j (ov v0 tr sz es)).set p (ob tp 1 [w (.slc j es.length 0 n none)])
/-- What taking away does. -/
structure HP (v0 : Option Bool) (t tp te tr sz : Nat) (w : AV → AV) (ok : AV → Prop) : Prop where
  pop : ∀ {H : List AObj} {p j : Nat} {es : List AV} {n : Nat}, HS v0 w tp tr sz H p j es (n + 1) → ok (es.getD n .und) → n < 1000000 →
    invV Try.prog false "Pop" [.ifc t (.ptr p 1 0 0)] H fun r H' => r = .ifc te (es.getD n .und) ∧ H' = hset v0 w tp tr sz H p j es n
/-- What putting behind does. -/
structure HQ (v0 : Option Bool) (t tp te tr sz : Nat) (w : AV → AV) (ok : AV → Prop) : Prop where
  push : ∀ {H : List AObj} {p j : Nat} {es : List AV} {n : Nat} {x : AV}, HS v0 w tp tr sz H p j es n → (∀ e ∈ es, ok e) → ok x → n < 1000000 → es.length ≤ 1000000 →
    invV Try.prog false "Push" [.ifc t (.ptr p 1 0 0), .ifc te x] H fun _ H' => H' = hset v0 w tp tr sz H p j (es.take n ++ [x] ++ es.drop (n + 1)) (n + 1)

section
variable {v0 : Option Bool} {w : AV → AV} {tp tr sz : Nat} {H : List AObj} {p j : Nat} {es es' : List AV} {n : Nat}
theorem HS.same (h : HS v0 w tp tr sz H p j es n) : H.set j (ov v0 tr sz es) = H := by
  apply List.ext_getElem? 
  intro i
  by_cases e : i = j
  · subst e; rw [List.getElem?_set_self (List.getElem?_eq_some_iff.1 h.hj).1, h.hj]
  · rw [List.getElem?_set_ne (Ne.symm e)]
theorem HS.hset {n' : Nat} (h : HS v0 w tp tr sz H p j es n) (hl : n' ≤ es'.length) : HS v0 w tp tr sz (hset v0 w tp tr sz H p j es' n') p j es' n' :=
  ⟨List.getElem?_set_self (by simpa using (List.getElem?_eq_some_iff.1 h.hp).1), by rw [Fw.hset, List.getElem?_set_ne h.ne, List.getElem?_set_self (List.getElem?_eq_some_iff.1 h.hj).1], h.ne, hl⟩
theorem HS.set (h : HS v0 w tp tr sz H p j es n) (hl : es'.length = es.length) : HS v0 w tp tr sz (H.set j (ov v0 tr sz es')) p j es' n :=
  ⟨by rw [List.getElem?_set_ne (Ne.symm h.ne), h.hp, hl], List.getElem?_set_self (List.getElem?_eq_some_iff.1 h.hj).1, h.ne, by rw [hl]; exact h.le⟩
end

/-- What moving within n leaves. -/
structure Mv (es es' : List AV) (n : Nat) : Prop where
  len : es'.length = es.length
  perm : (es'.take n).Perm (es.take n)
  drop : es'.drop n = es.drop n
theorem Mv.refl (es : List AV) (n : Nat) : Mv es es n := ⟨rfl, List.Perm.refl _, rfl⟩
theorem Mv.swap {es es' : List AV} {n i j : Nat} (h : Mv es es' n) (hi : i < n) (hj : j < n) (hn : n ≤ es.length) : Mv es (swL es' i j) n := by
  obtain ⟨h1, h2⟩ := swL_perm (es := es') hi hj (by rw [h.len]; exact hn)
  exact ⟨by rw [swL_len, h.len], h1.trans h.perm, h2.trans h.drop⟩
theorem Mv.ok {es es' : List AV} {n : Nat} {ok : AV → Prop} (h : Mv es es' n) (ho : ∀ e ∈ es.take n, ok e) : ∀ e ∈ es'.take n, ok e := fun e he => ho e (h.perm.mem_iff.1 he)
theorem Mv.okAt {es es' : List AV} {n x : Nat} {ok : AV → Prop} (h : Mv es es' n) (hn : n ≤ es.length) (ho : ∀ e ∈ es.take n, ok e) (hx : x < n) : ok (es'.getD x .und) := by
  have hl : x < es'.length := by rw [h.len]; omega
  refine h.ok ho _ ?_
  rw [List.mem_take_iff_getElem]
  exact ⟨x, by omega, by simp [List.getD, hl]⟩
theorem Mv.mono {es es' : List AV} {n N : Nat} (h : Mv es es' n) (hn : n ≤ N) : Mv es es' N := by
  obtain ⟨k, rfl⟩ := Nat.exists_eq_add_of_le hn
  refine ⟨h.len, ?_, ?_⟩
  · rw [List.take_add, List.take_add, h.drop]; exact h.perm.append_right _
  · rw [← List.drop_drop, ← List.drop_drop, h.drop]
theorem Mv.trans {es es' es2 : List AV} {n : Nat} (h : Mv es es' n) (k : Mv es' es2 n) : Mv es es2 n := ⟨k.len.trans h.len, k.perm.trans h.perm, k.drop.trans h.drop⟩

def hdown_1 : AC := (.block 1 (.seq (.ops [.m 12 (.t 7), .o 13 (.bin .mul (.i 2) (.t 12)), .o 14 (.bin .add (.t 13) (.i 1)), .m 8 (.t 14)]) (.seq (.seq (.ops [.m 15 (.t 8), .m 16 (.t 2), .o 17 (.bin .geq (.t 15) (.t 16)), .m 18 (.t 17), .mg 19 18 false (.t 8), .og 20 18 false (.bin .lss (.t 19) (.i 0)), .o 21 (.pick (.t 18) (.b true) (.t 20))]) (.cond (.t 21) (.exit 0) .skip)) (.seq (.ops [.m 22 (.t 8), .m 9 (.t 22)]) (.seq (.seq (.ops [.m 23 (.t 8), .o 24 (.bin .add (.t 23) (.i 1)), .m 10 (.t 24)]) (.seq (.ops [.m 25 (.t 10), .m 26 (.t 2), .o 27 (.bin .lss (.t 25) (.t 26)), .m 28 (.t 27), .mg 29 28 true (.t 0), .mg 30 28 true (.t 10), .mg 31 28 true (.t 8), .vg 32 28 true false "Less" [(.t 29), (.t 30), (.t 31)], .o 33 (.pick (.t 28) (.t 32) (.b false))]) (.cond (.t 33) (.ops [.m 34 (.t 10), .m 9 (.t 34)]) .skip))) (.seq (.seq (.ops [.m 35 (.t 0), .m 36 (.t 9), .m 37 (.t 7), .v 38 false "Less" [(.t 35), (.t 36), (.t 37)], .o 39 (.un .not (.t 38))]) (.cond (.t 39) (.exit 0) .skip)) (.seq (.ops [.m 40 (.t 0), .m 41 (.t 7), .m 42 (.t 9), .v 43 false "Swap" [(.t 40), (.t 41), (.t 42)]]) (.ops [.m 44 (.t 9), .m 7 (.t 44)]))))))))
def hdown_ac : AC := (.seq (.ops [.m 6 (.b false)]) (.seq (.ops [.m 11 (.t 1), .m 7 (.t 11)]) (.seq (.block 0 (.loop hdown_1)) (.seq (.ops [.m 45 (.t 7), .m 46 (.t 1), .o 47 (.bin .gtr (.t 45) (.t 46)), .m 6 (.t 47)]) .ret))))
theorem hdown_w {args : List AV} {H : List AObj} {R : AV → List AObj → Prop} (h : wp Try.prog [] H.length hdown_ac (bodyW [(.t 6)] (Nr R .mk)) (args ++ List.replicate (48 - args.length) .und) H) : ACalls Try.prog 74 args H R :=
  ACalls.of_wp Try.func74 rfl (by kernel_rfl) rfl Try.ntmps74 h
section
variable {v0 : Option Bool} {t tp te tr sz : Nat} {w : AV → AV} {key : AV → Int} {ok okw : AV → Prop} {H : List AObj} {p j : Nat} {es : List AV} {n N lo i0 : Nat}
set_option maxHeartbeats 2000000 in
theorem hdown_spec (M : HM v0 t tp te tr sz w key ok okw) (h : HS v0 w tp tr sz H p j es N) (ho : ∀ e ∈ es.take n, ok e) (hN : n ≤ N) (hD : HoleD (kAt key es) n lo i0) (hlo : lo ≤ i0) (hn : n ≤ 1000000) (hi0 : i0 ≤ n) :
    ACalls Try.prog 74 [.ifc t (.ptr p 1 0 0), I i0, I n] H fun r H' => ∃ b es', r = Bo b ∧ H' = H.set j (ov v0 tr sz es') ∧ Mv es es' n ∧ Hp (kAt key es') n lo := by
  refine hdown_w ?_
  simp (disch := omega) [ar, -List.take_append_getElem, hdown_ac]
  refine Lp.op (σ := Nat × List AV) (fun s => Mv es s.2 n ∧ HoleD (kAt key s.2) n lo s.1 ∧ lo ≤ s.1 ∧ s.1 ≤ n) (fun s => n - s.1) (fun s => fm 48 [(0, .ifc t (.ptr p 1 0 0)), (1, I i0), (2, I n), (7, I s.1)]) (fun s => H.set j (ov v0 tr sz s.2)) (i0, es) ⟨⟨Mv.refl _ _, hD, hlo, hi0⟩, by simp, h.same.symm⟩ ?_
  rintro ⟨i, es'⟩ ⟨hM, hD, hlo, hi⟩
  simp only at hM hD hlo hi
  have hs := h.set hM.len
  have hle := h.le
  have ho' : ∀ x, x < n → ok (es'.getD x .und) := fun x hx => hM.okAt (by omega) ho hx
  have hlen := hM.len
  simp (disch := omega) [ar, -List.take_append_getElem, hdown_1]
  (first | refine Cnd.sp (fun h1 => ?_) fun h1 => ?_ | refine Gd.sp (fun h1 => ?_) fun h1 => ?_) <;> (try simp at h1) <;> (try simp (disch := omega) [ar, -List.take_append_getElem, h1])
  · exact ⟨es', rfl, hM, hD.done fun c _ _ _ => by omega⟩
  (first | refine Cnd.sp (fun h2 => ?_) fun h2 => ?_ | refine Gd.sp (fun h2 => ?_) fun h2 => ?_) <;> (try simp at h2) <;> (try simp (disch := omega) [ar, -List.take_append_getElem, h2])
  rotate_left
  obtain ⟨c, hc, hce⟩ : ∃ c : Nat, c = 2 * i + 1 ∧ 2 * (i : Int) + 1 = c := ⟨_, rfl, by omega⟩
  have hm : ∀ c', 0 < c' → c' < n → (c' - 1) / 2 = i → kAt key es' c ≤ kAt key es' c' := fun c' _ _ _ => by
    obtain rfl : c' = c := by omega
    omega
  rotate_left
  refine invV.c (M.less hs (x := 2 * i + 1 + 1) (y := 2 * i + 1) (by omega) (by omega) (by omega) (by omega) (ho' (2 * i + 1 + 1) (by omega)) (ho' (2 * i + 1) (by omega))) ?_
  rintro r H' ⟨rfl, rfl⟩
  simp (disch := omega) [ar, -List.take_append_getElem]
  (first | refine Cnd.sp (fun h3 => ?_) fun h3 => ?_ | refine Gd.sp (fun h3 => ?_) fun h3 => ?_) <;> (try simp at h3) <;> (try simp (disch := omega) [ar, -List.take_append_getElem, h3])
  obtain ⟨c, hc, hce⟩ : ∃ c : Nat, c = 2 * i + 1 + 1 ∧ 2 * (i : Int) + 1 + 1 = c := ⟨_, rfl, by omega⟩
  have hm : ∀ c', 0 < c' → c' < n → (c' - 1) / 2 = i → kAt key es' c ≤ kAt key es' c' := fun c' _ _ _ => by
    rcases (by omega : c' = 2 * i + 1 ∨ c' = c) with rfl | rfl
    · rw [hc]; omega
    · omega
  rotate_left
  obtain ⟨c, hc, hce⟩ : ∃ c : Nat, c = 2 * i + 1 ∧ 2 * (i : Int) + 1 = c := ⟨_, rfl, by omega⟩
  have hm : ∀ c', 0 < c' → c' < n → (c' - 1) / 2 = i → kAt key es' c ≤ kAt key es' c' := fun c' _ _ _ => by
    rcases (by omega : c' = 2 * i + 1 + 1 ∨ c' = c) with rfl | rfl
    · rw [hc]; omega
    · omega
  all_goals
    refine invV.c (M.less hs (x := c) (y := i) (by omega) (by omega) (by omega) (by omega) (ho' (c) (by omega)) (ho' (i) (by omega))) ?_
    rintro r H' ⟨rfl, rfl⟩
    simp (disch := omega) [ar, -List.take_append_getElem]
    (first | refine Cnd.sp (fun h4 => ?_) fun h4 => ?_ | refine Gd.sp (fun h4 => ?_) fun h4 => ?_) <;> (try simp at h4) <;> (try simp (disch := omega) [ar, -List.take_append_getElem, h4])
    · exact ⟨es', rfl, hM, hD.done fun c' a b d => by have := hm c' a b d; omega⟩
    · refine invV.c (M.swap hs (x := i) (y := c) (by omega) (by omega) (by omega) (by omega) (M.wk _ (ho' (i) (by omega))) (M.wk _ (ho' (c) (by omega)))) ?_
      rintro r H' rfl
      simp (disch := omega) [ar, -List.take_append_getElem]
      refine ⟨c, swL es' i c, ⟨hM.swap (by omega) (by omega) (by omega), ?_, by omega, by omega⟩, by omega, by omega, rfl⟩
      rw [swL_kAt (by omega) (by omega) (by omega)]
      exact hD.down (by omega) (by omega) (by omega) hm h4 hlo
end

def hup_1 : AC := (.block 1 (.seq (.ops [.m 5 (.t 1), .o 6 (.bin .sub (.t 5) (.i 1)), .o 7 (.bin .quo (.t 6) (.i 2)), .m 4 (.t 7)]) (.seq (.seq (.ops [.m 8 (.t 4), .m 9 (.t 1), .o 10 (.bin .eql (.t 8) (.t 9)), .m 11 (.t 10), .mg 12 11 false (.t 0), .mg 13 11 false (.t 1), .mg 14 11 false (.t 4), .vg 15 11 false false "Less" [(.t 12), (.t 13), (.t 14)], .og 16 11 false (.un .not (.t 15)), .o 17 (.pick (.t 11) (.b true) (.t 16))]) (.cond (.t 17) (.exit 0) .skip)) (.seq (.ops [.m 18 (.t 0), .m 19 (.t 4), .m 20 (.t 1), .v 21 false "Swap" [(.t 18), (.t 19), (.t 20)]]) (.ops [.m 22 (.t 4), .m 1 (.t 22)])))))
def hup_ac : AC := (.block 0 (.loop hup_1))
theorem hup_w {args : List AV} {H : List AObj} {R : AV → List AObj → Prop} (h : wp Try.prog [] H.length hup_ac (bodyW [] (Nr R .mk)) (args ++ List.replicate (23 - args.length) .und) H) : ACalls Try.prog 76 args H R :=
  ACalls.of_wp Try.func76 rfl (by kernel_rfl) rfl Try.ntmps76 h
section
variable {v0 : Option Bool} {t tp te tr sz : Nat} {w : AV → AV} {key : AV → Int} {ok okw : AV → Prop} {H : List AObj} {p j : Nat} {es : List AV} {n i0 : Nat}
set_option maxHeartbeats 2000000 in
theorem hup_spec (M : HM v0 t tp te tr sz w key ok okw) (h : HS v0 w tp tr sz H p j es n) (ho : ∀ e ∈ es.take n, ok e) (hD : HoleU (kAt key es) n i0) (hn : n ≤ 1000000) (hi0 : i0 < n) :
    ACalls Try.prog 76 [.ifc t (.ptr p 1 0 0), I i0] H fun _ H' => ∃ es', H' = H.set j (ov v0 tr sz es') ∧ Mv es es' n ∧ Hp (kAt key es') n 0 := by
  refine hup_w ?_
  simp (disch := omega) [ar, -List.take_append_getElem, hup_ac]
  refine Lp.op (σ := Nat × List AV) (fun s => Mv es s.2 n ∧ HoleU (kAt key s.2) n s.1 ∧ s.1 < n) (fun s => s.1) (fun s => fm 23 [(0, .ifc t (.ptr p 1 0 0)), (1, I s.1)]) (fun s => H.set j (ov v0 tr sz s.2)) (i0, es) ⟨⟨Mv.refl _ _, hD, hi0⟩, by simp, h.same.symm⟩ ?_
  rintro ⟨i, es'⟩ ⟨hM, hD, hi⟩
  simp only at hM hD hi
  have hs := h.set hM.len
  have hle := h.le
  have ho' : ∀ x, x < n → ok (es'.getD x .und) := fun x hx => hM.okAt (by omega) ho hx
  have hlen := hM.len
  obtain ⟨q, hq0⟩ : ∃ q, q = (i - 1) / 2 := ⟨_, rfl⟩
  have hq : ((i : Int) - 1).tdiv 2 = q := by
    by_cases e : i = 0
    · subst e; subst hq0; rfl
    · rw [Int.tdiv_eq_ediv_of_nonneg (by omega)]; omega
  have hq1 : i = 0 ∧ q = 0 ∨ 2 * q + 1 ≤ i ∧ i ≤ 2 * q + 2 := by omega
  clear hq0
  simp (disch := omega) [ar, -List.take_append_getElem, hup_1, hq]
  clear hq
  (first | refine Cnd.sp (fun h1 => ?_) fun h1 => ?_ | refine Gd.sp (fun h1 => ?_) fun h1 => ?_) <;> (try simp at h1) <;> (try simp (disch := omega) [ar, -List.take_append_getElem, h1])
  · exact ⟨es', rfl, hM, hD.done fun _ => by omega⟩
  refine invV.c (M.less hs (x := i) (y := q) rfl rfl (by omega) (by omega) (ho' (i) (by omega)) (ho' (q) (by omega))) ?_
  rintro r H' ⟨rfl, rfl⟩
  simp (disch := omega) [ar, -List.take_append_getElem]
  (first | refine Cnd.sp (fun h2 => ?_) fun h2 => ?_ | refine Gd.sp (fun h2 => ?_) fun h2 => ?_) <;> (try simp at h2) <;> (try simp (disch := omega) [ar, -List.take_append_getElem, h2])
  · exact ⟨es', rfl, hM, hD.done fun _ => by rw [show (i - 1) / 2 = q by omega]; exact h2⟩
  refine invV.c (M.swap hs (x := q) (y := i) rfl rfl (by omega) (by omega) (M.wk _ (ho' (q) (by omega))) (M.wk _ (ho' (i) (by omega)))) ?_
  rintro r H' rfl
  simp (disch := omega) [ar, -List.take_append_getElem]
  refine ⟨q, swL es' q i, ⟨hM.swap (by omega) (by omega) (by omega), ?_, by omega⟩, by omega, rfl, rfl⟩
  rw [swL_kAt (by omega) (by omega) (by omega)]
  exact hD.up (by omega) (by omega) hi h2

end
end Go.Fw
