/- container/heap: Init, Fix of the first, Pop and Push. -/
import Derived.Test.YtkfooghdpfhiaaaFwhp1
namespace Go.Fw
open Go Go.RowKit Go.Proofs
set_option maxRecDepth 100000
set_option linter.unusedSimpArgs false
set_option linter.unusedVariables false

theorem Hp.le {f : Nat → Int} {n : Nat} (h : Hp f n 0) : ∀ c, c < n → f 0 ≤ f c := by
  intro c
  induction c using Nat.strongRecOn with
  | _ c ih =>
    intro hc
    by_cases h0 : c = 0
    · subst h0; exact Int.le_refl _
    · have h1 := ih ((c - 1) / 2) (by omega) (by omega)
      have h2 := h c (by omega) hc (by omega)
      omega

def hinit_1 : AC := (.seq (.seq (.ops [.m 9 (.t 3), .o 10 (.bin .geq (.t 9) (.i 0))]) (.cond (.t 10) .skip (.exit 0))) (.seq (.block 1 (.ops [.m 13 (.t 0), .m 14 (.t 3), .m 15 (.t 2), .c 16 false (.f 74) [(.t 13), (.t 14), (.t 15)]])) (.ops [.m 11 (.t 3), .o 12 (.bin .sub (.t 11) (.i 1)), .m 3 (.t 12)])))
def hinit_ac : AC := (.seq (.ops [.m 4 (.t 0), .v 5 false "Len" [(.t 4)], .m 2 (.t 5)]) (.seq (.ops [.m 6 (.t 2), .o 7 (.bin .quo (.t 6) (.i 2)), .o 8 (.bin .sub (.t 7) (.i 1)), .m 3 (.t 8)]) (.block 0 (.loop hinit_1))))
theorem hinit_w {args : List AV} {H : List AObj} {R : AV → List AObj → Prop} (h : wp Try.prog [] H.length hinit_ac (bodyW [] (Nr R .mk)) (args ++ List.replicate (17 - args.length) .und) H) : ACalls Try.prog 41 args H R :=
  ACalls.of_wp Try.func41 rfl (by kernel_rfl) rfl Try.ntmps41 h
def hfix_ac : AC := (.seq (.ops [.m 4 (.t 0), .m 5 (.t 1), .m 6 (.t 0), .v 7 false "Len" [(.t 6)], .c 8 false (.f 74) [(.t 4), (.t 5), (.t 7)], .o 9 (.un .not (.t 8))]) (.cond (.t 9) (.ops [.m 10 (.t 0), .m 11 (.t 1), .c 12 false (.f 76) [(.t 10), (.t 11)]]) .skip))
theorem hfix_w {args : List AV} {H : List AObj} {R : AV → List AObj → Prop} (h : wp Try.prog [] H.length hfix_ac (bodyW [] (Nr R .mk)) (args ++ List.replicate (13 - args.length) .und) H) : ACalls Try.prog 44 args H R :=
  ACalls.of_wp Try.func44 rfl (by kernel_rfl) rfl Try.ntmps44 h
def hpop_ac : AC := (.seq (.ops [.m 2 (.c (.sc .nilIface))]) (.seq (.ops [.m 4 (.t 0), .v 5 false "Len" [(.t 4)], .o 6 (.bin .sub (.t 5) (.i 1)), .m 3 (.t 6)]) (.seq (.ops [.m 7 (.t 0), .m 8 (.t 3), .v 9 false "Swap" [(.t 7), (.i 0), (.t 8)]]) (.seq (.ops [.m 10 (.t 0), .m 11 (.t 3), .c 12 false (.f 74) [(.t 10), (.i 0), (.t 11)]]) (.seq (.ops [.m 13 (.t 0), .v 14 false "Pop" [(.t 13)], .m 2 (.t 14)]) .ret)))))
theorem hpop_w {args : List AV} {H : List AObj} {R : AV → List AObj → Prop} (h : wp Try.prog [] H.length hpop_ac (bodyW [(.t 2)] (Nr R .mk)) (args ++ List.replicate (15 - args.length) .und) H) : ACalls Try.prog 45 args H R :=
  ACalls.of_wp Try.func45 rfl (by kernel_rfl) rfl Try.ntmps45 h
def hpush_ac : AC := (.seq (.ops [.m 4 (.t 0), .m 5 (.t 1), .v 6 false "Push" [(.t 4), (.t 5)]]) (.ops [.m 7 (.t 0), .m 8 (.t 0), .v 9 false "Len" [(.t 8)], .o 10 (.bin .sub (.t 9) (.i 1)), .c 11 false (.f 76) [(.t 7), (.t 10)]]))
theorem hpush_w {args : List AV} {H : List AObj} {R : AV → List AObj → Prop} (h : wp Try.prog [] H.length hpush_ac (bodyW [] (Nr R .mk)) (args ++ List.replicate (12 - args.length) .und) H) : ACalls Try.prog 46 args H R :=
  ACalls.of_wp Try.func46 rfl (by kernel_rfl) rfl Try.ntmps46 h
section
variable {v0 : Option Bool} {t tp te tr sz : Nat} {w : AV → AV} {key : AV → Int} {ok okw : AV → Prop} {H : List AObj} {p j : Nat} {es : List AV} {n : Nat}
set_option maxHeartbeats 2000000 in
theorem hinit_spec (M : HM v0 t tp te tr sz w key ok okw) (h : HS v0 w tp tr sz H p j es n) (ho : ∀ e ∈ es.take n, ok e) (hn : n ≤ 1000000) :
    ACalls Try.prog 41 [.ifc t (.ptr p 1 0 0)] H fun _ H' => ∃ es', H' = H.set j (ov v0 tr sz es') ∧ Mv es es' n ∧ Hp (kAt key es') n 0 := by
  refine hinit_w ?_
  simp (disch := omega) [ar, -List.take_append_getElem, hinit_ac]
  refine invV.c (M.len h) ?_
  rintro r H' ⟨rfl, rfl⟩
  have hq : (n : Int).tdiv 2 = (n / 2 : Nat) := by rw [Int.tdiv_eq_ediv_of_nonneg (by omega)]; omega
  obtain ⟨q, hq0⟩ : ∃ q, q = n / 2 := ⟨_, rfl⟩
  rw [← hq0] at hq
  simp (disch := omega) [ar, -List.take_append_getElem, hq]
  clear hq
  refine Lp.op (σ := Nat × List AV) (fun s => Mv es s.2 n ∧ Hp (kAt key s.2) n s.1 ∧ s.1 ≤ q) (fun s => s.1) (fun s => fm 17 [(0, .ifc t (.ptr p 1 0 0)), (2, I n), (3, I ((s.1 : Int) - 1))]) (fun s => H'.set j (ov v0 tr sz s.2)) (q, es) ⟨⟨Mv.refl _ _, fun c _ _ _ => by omega, by omega⟩, by simp, h.same.symm⟩ ?_
  rintro ⟨i, es'⟩ ⟨hM, hD, hi⟩
  simp only at hM hD hi
  simp (disch := omega) [ar, -List.take_append_getElem, hinit_1]
  (first | refine Cnd.sp (fun h1 => ?_) fun h1 => ?_ | refine Gd.sp (fun h1 => ?_) fun h1 => ?_) <;> (try simp at h1) <;> (try simp (disch := omega) [ar, -List.take_append_getElem, h1])
  · obtain ⟨k, rfl⟩ : ∃ k, i = k + 1 := ⟨i - 1, by omega⟩
    simp only [show ((k + 1 : Nat) : Int) - 1 = k by omega]
    refine ACalls.c (hdown_spec (i0 := k) (lo := k) M (h.set hM.len) (hM.ok ho) (Nat.le_refl _) (HoleD.of hD rfl) (by omega) hn (by omega)) ?_
    rintro r H2 ⟨b, es2, rfl, rfl, hM2, hD2⟩
    simp (disch := omega) [ar, -List.take_append_getElem]
    exact ⟨k, es2, ⟨hM.trans hM2, hD2, by omega⟩, by omega, by omega, rfl⟩
  · obtain rfl : i = 0 := by omega
    exact ⟨es', rfl, hM, hD⟩

set_option maxHeartbeats 2000000 in
/-- The first one, put at its place. -/
theorem hfix_spec (M : HM v0 t tp te tr sz w key ok okw) (h : HS v0 w tp tr sz H p j es n) (ho : ∀ e ∈ es.take n, ok e) (hD : HoleD (kAt key es) n 0 0) (hn : n ≤ 1000000) (h0 : 0 < n) :
    ACalls Try.prog 44 [.ifc t (.ptr p 1 0 0), I 0] H fun _ H' => ∃ es', H' = H.set j (ov v0 tr sz es') ∧ Mv es es' n ∧ Hp (kAt key es') n 0 := by
  refine hfix_w ?_
  simp (disch := omega) [ar, -List.take_append_getElem, hfix_ac]
  refine invV.c (M.len h) ?_
  rintro r H' ⟨rfl, rfl⟩
  simp (disch := omega) [ar, -List.take_append_getElem]
  refine ACalls.c (hdown_spec (i0 := 0) (lo := 0) M h ho (Nat.le_refl _) hD (by omega) hn (by omega)) ?_
  rintro r H2 ⟨b, es', rfl, rfl, hM, hD2⟩
  simp (disch := omega) [ar, -List.take_append_getElem]
  (first | refine Cnd.sp (fun h1 => ?_) fun h1 => ?_ | refine Gd.sp (fun h1 => ?_) fun h1 => ?_) <;> (try simp at h1) <;> (try simp (disch := omega) [ar, -List.take_append_getElem, h1])
  · refine ACalls.c (hup_spec (i0 := 0) M (h.set hM.len) (hM.ok ho) ⟨fun c a b d => hD2 c a b (by omega), fun h => by omega⟩ hn h0) ?_
    rintro r H2 ⟨es2, rfl, hM2, hD3⟩
    simp (disch := omega) [ar, -List.take_append_getElem]
    exact ⟨es2, rfl, hM.trans hM2, hD3⟩
  · exact ⟨es', rfl, hM, hD2⟩

set_option maxHeartbeats 2000000 in
/-- The first one, taken away; it may be greater than others. -/
theorem hpop_gen (M : HM v0 t tp te tr sz w key ok okw) (Q : HP v0 t tp te tr sz w okw) (h : HS v0 w tp tr sz H p j es (n + 1)) (h0 : okw (es.getD 0 .und)) (ho : ∀ x, 0 < x → x ≤ n → ok (es.getD x .und)) (hD : HoleD (kAt key es) (n + 1) 0 0) (hn : n < 1000000) :
    ACalls Try.prog 45 [.ifc t (.ptr p 1 0 0)] H fun r H' => ∃ es', r = .ifc te (es.getD 0 .und) ∧ H' = hset v0 w tp tr sz H p j es' n ∧ es'.length = es.length ∧ (es'.take n ++ [es.getD 0 .und]).Perm (es.take (n + 1)) ∧ Hp (kAt key es') n 0 ∧ Mv es es' (n + 1) := by
  have hwn : okw (es.getD n .und) := by
    by_cases e : n = 0
    · subst e; exact h0
    · exact M.wk _ (ho n (by omega) (Nat.le_refl _))
  refine hpop_w ?_
  simp (disch := omega) [ar, -List.take_append_getElem, hpop_ac]
  refine invV.c (M.len h) ?_
  rintro r H' ⟨rfl, rfl⟩
  simp (disch := omega) [ar, -List.take_append_getElem]
  refine invV.c (M.swap h (x := 0) (y := n) rfl (by omega) (by omega) (by omega) h0 hwn) ?_
  rintro r H2 rfl
  simp (disch := omega) [ar, -List.take_append_getElem]
  have hle := h.le
  have hM0 : Mv es (swL es 0 n) (n + 1) := (Mv.refl es (n + 1)).swap (by omega) (by omega) hle
  have hD1 : HoleD (kAt key (swL es 0 n)) n 0 0 := by
    refine ⟨fun c a b _ d => ?_, fun h => by omega⟩
    rw [swL_kAt (by omega) (by omega) (by omega)]
    simp only [sw]
    rw [if_neg d, if_neg (by omega), if_neg (by omega), if_neg (by omega)]
    exact hD.1 c a (by omega) (by omega) d
  have hok1 : ∀ e ∈ (swL es 0 n).take n, ok e := by
    intro e he
    rw [List.mem_take_iff_getElem] at he
    obtain ⟨x, hx, rfl⟩ := he
    have hxn : x < n := by omega
    have e1 : (swL es 0 n)[x]'(by simp; omega) = es.getD (if x = 0 then n else x) .und := by
      simp only [swL]
      rw [List.getElem_set_ne (by omega), List.getElem_set]
      by_cases hx0 : x = 0
      · subst hx0; simp
      · rw [if_neg (Ne.symm hx0), if_neg hx0]; simp [List.getD, show x < es.length by omega]
    rw [e1]
    split
    · exact ho n (by omega) (Nat.le_refl _)
    · exact ho x (by omega) (by omega)
  refine ACalls.c (hdown_spec (i0 := 0) (lo := 0) M (h.set hM0.len) hok1 (Nat.le_succ n) hD1 (by omega) (by omega) (by omega)) ?_
  rintro r H2 ⟨b, es', rfl, rfl, hM, hD2⟩
  simp (disch := omega) [ar, -List.take_append_getElem]
  have hs2 := h.set (es' := es') (by rw [hM.len, hM0.len])
  have hz : es'.getD n .und = es.getD 0 .und := by
    have h1 : es'[n]? = (swL es 0 n)[n]? := by
      have := congrArg (fun l => l[0]?) hM.drop
      simpa using this
    simp only [List.getD, h1, swL]
    rw [List.getElem?_set_self (by simp; omega)]; simp
  refine invV.c (Q.pop hs2 (by rw [hz]; exact h0) hn) ?_
  rintro r H2 ⟨rfl, rfl⟩
  simp (disch := omega) [ar, -List.take_append_getElem]
  refine ⟨by simpa [show 0 < es.length by omega] using hz, es', by simp [hset], by rw [hM.len, hM0.len], ?_, hD2, hM0.trans (hM.mono (Nat.le_succ n))⟩
  have h1 := (hM0.trans (hM.mono (Nat.le_succ n))).perm
  have h2 : es'.take (n + 1) = es'.take n ++ [es'.getD n .und] := by
    rw [List.take_succ_eq_append_getElem (by rw [hM.len, hM0.len]; omega)]
    simp [List.getD, show n < es'.length by rw [hM.len, hM0.len]; omega]
  rw [h2, hz] at h1
  simpa [show 0 < es.length by omega, show n < es.length by omega, List.take_succ_eq_append_getElem (show n < es.length by omega), -List.take_append_getElem] using h1

theorem hpop_spec (M : HM v0 t tp te tr sz w key ok okw) (Q : HP v0 t tp te tr sz w okw) (h : HS v0 w tp tr sz H p j es (n + 1)) (ho : ∀ e ∈ es.take (n + 1), ok e) (hD : Hp (kAt key es) (n + 1) 0) (hn : n < 1000000) :
    ACalls Try.prog 45 [.ifc t (.ptr p 1 0 0)] H fun r H' => ∃ es', r = .ifc te (es.getD 0 .und) ∧ H' = hset v0 w tp tr sz H p j es' n ∧ es'.length = es.length ∧ (es'.take n ++ [es.getD 0 .und]).Perm (es.take (n + 1)) ∧ Hp (kAt key es') n 0 ∧ Mv es es' (n + 1) :=
  hpop_gen M Q h (M.wk _ ((Mv.refl es (n + 1)).okAt h.le ho (by omega))) (fun x _ hx => (Mv.refl es (n + 1)).okAt h.le ho (by omega)) ⟨fun c a b _ _ => hD c a b (by omega), fun h => by omega⟩ hn

set_option maxHeartbeats 2000000 in
/-- One more. -/
theorem hpush_spec {x : AV} (M : HM v0 t tp te tr sz w key ok okw) (Q : HQ v0 t tp te tr sz w ok) (h : HS v0 w tp tr sz H p j es n) (ho : ∀ e ∈ es, ok e) (hx : ok x) (hD : Hp (kAt key es) n 0) (hn : n < 1000000) (hl : es.length ≤ 1000000) :
    ACalls Try.prog 46 [.ifc t (.ptr p 1 0 0), .ifc te x] H fun _ H' => ∃ es', H' = hset v0 w tp tr sz H p j es' (n + 1) ∧ es'.length = (es.take n ++ [x] ++ es.drop (n + 1)).length ∧ (es'.take (n + 1)).Perm (es.take n ++ [x]) ∧ es'.drop (n + 1) = es.drop (n + 1) ∧ Hp (kAt key es') (n + 1) 0 := by
  refine hpush_w ?_
  simp (disch := omega) [ar, -List.take_append_getElem, hpush_ac]
  refine invV.c (Q.push h ho hx hn hl) ?_
  rintro r H2 rfl
  have hle := h.le
  obtain ⟨E, hE⟩ : ∃ E, E = es.take n ++ [x] ++ es.drop (n + 1) := ⟨_, rfl⟩
  have hEl : n + 1 ≤ E.length := by rw [hE]; simp; omega
  have hEt : E.take (n + 1) = es.take n ++ [x] := by rw [hE, List.take_append_of_le_length (by simp; omega), List.take_of_length_le (by simp; omega)]
  have hEd : E.drop (n + 1) = es.drop (n + 1) := by rw [hE, List.drop_append_of_le_length (by simp; omega), List.drop_of_length_le (by simp; omega)]; rfl
  have hok : ∀ e ∈ E.take (n + 1), ok e := by
    rw [hEt]; intro e he
    rcases List.mem_append.1 he with h | h
    · exact ho e (List.mem_of_mem_take h)
    · rw [List.mem_singleton.1 h]; exact hx
  rw [← hE]
  have hs := h.hset (n' := n + 1) hEl
  simp (disch := omega) [ar, -List.take_append_getElem]
  refine invV.c (M.len hs) ?_
  rintro r H2 ⟨rfl, rfl⟩
  simp (disch := omega) [ar, -List.take_append_getElem]
  have hU : HoleU (kAt key E) (n + 1) n := by
    have hk : ∀ c, c < n → kAt key E c = kAt key es c := fun c hc => by
      simp only [kAt, List.getD, hE]
      rw [List.append_assoc, List.getElem?_append_left (by simp; omega), List.getElem?_take_of_lt hc]
    refine ⟨fun c a b d => ?_, fun _ c a b d => by omega⟩
    rw [hk _ (by omega), hk _ (by omega)]
    exact hD c a (by omega) (by omega)
  refine ACalls.c (hup_spec (i0 := n) M hs hok hU (by omega) (by omega)) ?_
  rintro r H2 ⟨es', rfl, hM, hD2⟩
  simp (disch := omega) [ar, -List.take_append_getElem]
  refine ⟨es', ?_, by rw [hM.len], by rw [← hEt]; exact hM.perm, by rw [← hEd]; exact hM.drop, hD2⟩
  simp only [hset, hM.len]
  rw [List.set_comm _ _ h.ne]
  simp
end
end Go.Fw
