/- The document's sorted list. -/
import Derived.Test.YtgdkdojjfijipaaFwcov1
import Derived.Test.YtgdkdojjfijipaaFwcoo6
import Derived.Test.YtgdkdojjfijipaaFwref02a
namespace Go.Fw
open Go Go.RowKit Go.Proofs
set_option maxRecDepth 100000
set_option linter.unusedSimpArgs false
set_option linter.unusedVariables false
theorem merge_snoc {α : Type} {le : α → α → Bool} (x y : α) (a b : List α) : List.merge (x :: a) (y :: b) le = if le x y = true then x :: List.merge a (y :: b) le else y :: List.merge (x :: a) b le := List.cons_merge_cons ..
def rSorted_1 : AC := (.seq (.seq (.ops [.m 26 (.t 5), .o 27 (.len (.t 26)), .o 28 (.bin .gtr (.t 27) (.i 0)), .m 29 (.t 28), .mg 30 29 false (.t 6), .og 31 29 false (.len (.t 30)), .og 32 29 false (.bin .gtr (.t 31) (.i 0)), .o 33 (.pick (.t 29) (.b true) (.t 32))]) (.cond (.t 33) .skip (.exit 0))) (.block 1 (.seq (.ops [.m 34 (.t 5), .o 35 (.len (.t 34)), .o 36 (.bin .eql (.t 35) (.i 0)), .m 37 (.t 36), .mg 38 37 false (.t 6), .og 39 37 false (.len (.t 38)), .og 40 37 false (.bin .gtr (.t 39) (.i 0)), .mg 41 37 false (.t 40), .mg 42 41 true (.t 6), .og 43 41 true (.iad 2 (.t 42) (.i 0)), .og 44 41 true (.fad 0 (.t 43)), .og 45 41 true (.ld 1 false (.t 44)), .mg 46 41 true (.t 5), .og 47 41 true (.iad 2 (.t 46) (.i 0)), .og 48 41 true (.fad 0 (.t 47)), .og 49 41 true (.ld 1 false (.t 48)), .mg 50 41 true (.t 1), .cg 51 41 true true (.f 18) [(.t 45), (.t 49), (.t 50)], .og 52 37 false (.pick (.t 41) (.t 51) (.b false)), .o 53 (.pick (.t 37) (.b true) (.t 52))]) (.cond (.t 53) (.seq (.ops [.m 54 (.t 7), .m 55 (.t 6), .o 56 (.iad 2 (.t 55) (.i 0)), .o 57 (.ld 2 true (.t 56)), .o 58 (.lit 2 [(.t 57)]), .o 59 (.app 38 2 32 (.t 54) (.t 58)), .m 7 (.t 59)]) (.ops [.m 60 (.t 6), .o 61 (.sl 2 (.t 60) (some (.i 1)) none none), .m 6 (.t 61)])) (.seq (.ops [.m 62 (.t 7), .m 63 (.t 5), .o 64 (.iad 2 (.t 63) (.i 0)), .o 65 (.ld 2 true (.t 64)), .o 66 (.lit 2 [(.t 65)]), .o 67 (.app 38 2 32 (.t 62) (.t 66)), .m 7 (.t 67)]) (.ops [.m 68 (.t 5), .o 69 (.sl 2 (.t 68) (some (.i 1)) none none), .m 5 (.t 69)]))))))
def rSorted_ac : AC := (.seq (.ops [.m 4 .z]) (.seq (.seq (.ops [.m 8 (.t 0), .o 9 (.len (.t 8)), .o 10 (.bin .lss (.t 9) (.i 2))]) (.cond (.t 10) (.seq (.ops [.m 11 (.t 0), .m 4 (.t 11)]) .ret) .skip)) (.seq (.ops [.m 12 (.t 0), .m 13 (.t 0), .o 14 (.len (.t 13)), .o 15 (.bin .quo (.t 14) (.i 2)), .o 16 (.sl 2 (.t 12) none (some (.t 15)) none), .m 17 (.t 1), .c 18 false (.f 53) [(.t 16), (.t 17)], .m 5 (.t 18)]) (.seq (.ops [.m 19 (.t 0), .m 20 (.t 0), .o 21 (.len (.t 20)), .o 22 (.bin .quo (.t 21) (.i 2)), .o 23 (.sl 2 (.t 19) (some (.t 22)) none none), .m 24 (.t 1), .c 25 false (.f 53) [(.t 23), (.t 24)], .m 6 (.t 25)]) (.seq (.ops [.m 7 .z]) (.seq (.block 0 (.loop rSorted_1)) (.seq (.ops [.m 70 (.t 7), .m 4 (.t 70)]) .ret)))))))
theorem rSorted_w {args : List AV} {H : List AObj} {R : AV → List AObj → Prop} (h : wp Try.prog [] H.length rSorted_ac (bodyW [(.t 4)] (Nr R .mk)) (args ++ List.replicate (71 - args.length) .und) H) : ACalls Try.prog 53 args H R :=
  ACalls.of_wp Try.func53 rfl (by kernel_rfl) rfl Try.ntmps53 h
set_option maxHeartbeats 1000000 in
theorem rSorted_p (O : List Int) (hO : InI O) (hl : O.length ≤ 1000000) (n : Nat) : ∀ (l : List (List Int × Int)), l.length ≤ n → n ≤ 1000000 → (∀ t ∈ l, InI t.1) → (∀ t ∈ l, ∀ m ∈ O, 0 ≤ m ∧ m < t.1.length) →
    Pu Try.prog 53 [eV l, Is O] (eV (l.mergeSort (leO O))) := by
  induction n with
  | zero =>
    intro l h1 h2 h3 h4
    obtain rfl : l = [] := List.length_eq_zero_iff.1 (by omega)
    refine Pu.of 6 (rSorted_w ?_)
    simp (disch := omega) [ar, -List.take_append_getElem, rSorted_ac]
  | succ n ih =>
    intro l h1 h2 h3 h4
    refine Pu.of 6 (rSorted_w ?_)
    by_cases hs : l.length < 2
    · simp (disch := omega) [ar, -List.take_append_getElem, rSorted_ac]
      rw [mergeSort_short (by omega)]; simp
    obtain ⟨A, hA⟩ : ∃ A, l.take (l.length / 2) = A := ⟨_, rfl⟩
    obtain ⟨B, hB⟩ : ∃ B, l.drop (l.length / 2) = B := ⟨_, rfl⟩
    have hAB : l = A ++ B := by rw [← hA, ← hB, List.take_append_drop]
    have hAl : A.length = l.length / 2 := by rw [← hA]; simp; omega
    have hBl : B.length = l.length - l.length / 2 := by rw [← hB]; simp
    have hmA : ∀ t ∈ A, t ∈ l := fun t ht => by rw [hAB]; simp [ht]
    have hmB : ∀ t ∈ B, t ∈ l := fun t ht => by rw [hAB]; simp [ht]
    have hd : (l.length : Int).tdiv 2 = (l.length / 2 : Nat) := (Int.ofNat_tdiv l.length 2).symm
    have hd2 : ((l.length : Int) / 2).toNat = l.length / 2 := by omega
    have eA : List.take (l.length / 2) (l.map tV) = A.map tV := by rw [← List.map_take, hA]
    have eB : List.drop (l.length / 2) (l.map tV) = B.map tV := by rw [← List.map_drop, hB]
    have eB2 : List.take (l.length - l.length / 2) (B.map tV) = B.map tV := List.take_of_length_le (by simp; omega)
    have pA := ih A (by omega) (by omega) (fun t ht => h3 t (hmA t ht)) (fun t ht => h4 t (hmA t ht))
    have pB := ih B (by omega) (by omega) (fun t ht => h3 t (hmB t ht)) (fun t ht => h4 t (hmB t ht))
    simp (disch := omega) [ar, -List.take_append_getElem, rSorted_ac, hd, hd2, eA]
    refine Pu.c pA ?_
    simp (disch := omega) [ar, -List.take_append_getElem, hd, hd2, eB, eB2]
    refine Pu.c pB ?_
    simp (disch := omega) [ar, -List.take_append_getElem]
    have hms := merge_sorts (leO_trans O) (leO_total O) A B
    rw [← hAB] at hms
    have sA : ∀ t ∈ A.mergeSort (leO O), t ∈ l := fun t ht => hmA t (List.mem_mergeSort.1 ht)
    have sB : ∀ t ∈ B.mergeSort (leO O), t ∈ l := fun t ht => hmB t (List.mem_mergeSort.1 ht)
    rw [← hms]
    generalize A.mergeSort (leO O) = a0 at sA hms ⊢
    generalize B.mergeSort (leO O) = b0 at sB hms ⊢
    have hlen := congrArg List.length hms
    rw [List.length_merge, List.length_mergeSort] at hlen
    clear pA pB eA eB eB2 hd2 hmA hmB hAB hms hA hB hAl hBl hd
    obtain ⟨T, hT⟩ : ∃ T, List.merge a0 b0 (leO O) = T := ⟨_, rfl⟩
    have hTl : T.length = l.length := by rw [← hT, List.length_merge]; exact hlen
    rw [hT]
    refine Lp.st (σ := List (List Int × Int) × List (List Int × Int) × List (List Int × Int)) 1 [(7, 38, 2)]
      (fun s => (∀ t ∈ s.1, t ∈ l) ∧ (∀ t ∈ s.2.1, t ∈ l) ∧ s.2.2 ++ List.merge s.1 s.2.1 (leO O) = T) (fun s => s.1.length + s.2.1.length)
      (fun s => fm 71 [(1, Is O), (5, eV s.1), (6, eV s.2.1), (7, .slc 0 s.2.2.length 0 s.2.2.length none)]) (fun s => [ow 38 2 (s.2.2.map tV)]) (a0, b0, []) ⟨⟨sA, sB, by simpa using hT⟩, by simp [ow]⟩ ?_
    clear hT hlen sA sB
    rintro ⟨a, b, o⟩ ⟨i1, i2, i3⟩
    simp only at i1 i2 i3 ⊢
    have il := congrArg List.length i3
    rw [List.length_append, List.length_merge] at il
    have ho1 := tV_one o
    have ho2 : ∀ (H : List AObj) (k n : Nat) (b : Bool), (o.map tV).map (fz H k (n + 1) b) = o.map tV := fun H k n b => by rw [List.map_map, fz_tV]
    have ahead : ∀ x y : List Int × Int, x ∈ l → y ∈ l → Pu Try.prog 18 [Is y.1, Is x.1, Is O] (Bo (!leO O x y)) := fun x y hx hy => by
      have h := rAhead_spec (Is_sl (h3 y hy).1 (h3 y hy)) (Is_sl (h3 x hx).1 (h3 x hx)) (Is_sl hO.1 hO) hl (fun m hm => ⟨(h4 y hy m hm).1, (h4 y hy m hm).2, (h4 x hx m hm).2⟩)
      have e : decide (cmpO O y.1 x.1 < 0) = !leO O x y := by
        have := cmpO_neg O y.1 x.1
        rw [leO, Bool.eq_iff_iff]
        simp
        omega
      rw [e] at h
      exact Pu.mk h
    clear ih h3 h4 hO hl
    have tk : ∀ b : List (List Int × Int), Wks (List.take b.length (b.map tV)) (b.map tV) := fun b => by rw [List.take_of_length_le (by simp)]; exact Wks.refl _
    cases a with
    | nil =>
      cases b with
      | nil =>
        simp at i3
        subst i3
        clear ahead
        simp (disch := omega) [ar, -List.take_append_getElem, rSorted_1]
      | cons y b =>
        have e : List.merge [] (y :: b) (leO O) = y :: b := List.nil_merge ..
        rw [e] at i3
        simp at il
        clear ahead
        simp (disch := omega) [ar, -List.take_append_getElem, rSorted_1, ho1]
        exact ⟨[], b, o ++ [y], ⟨by simp, fun c v h => i2 _ (by simp [h]), by rw [List.nil_merge]; simpa using i3⟩, by simp, ⟨rfl, .inl (tk b), by simp⟩, by simp, by simp⟩
    | cons x a =>
      cases b with
      | nil =>
        have e : List.merge (x :: a) [] (leO O) = x :: a := List.merge_right ..
        rw [e] at i3
        simp at il
        clear ahead
        simp (disch := omega) [ar, -List.take_append_getElem, rSorted_1, ho1]
        exact ⟨a, [], o ++ [x], ⟨fun c v h => i1 _ (by simp [h]), by simp, by rw [List.merge_right]; simpa using i3⟩, by simp, ⟨.inl (tk a), rfl, by simp⟩, by simp, by simp⟩
      | cons y b =>
        rw [merge_snoc] at i3
        simp at il
        have ah := ahead x y (i1 _ (by simp)) (i2 _ (by simp))
        clear ahead
        simp (disch := omega) [ar, -List.take_append_getElem, rSorted_1, ho1]
        refine Pu.c ah ?_
        cases hle : leO O x y with
        | true =>
          rw [hle, if_pos rfl] at i3
          simp (disch := omega) [ar, -List.take_append_getElem, ho1]
          refine ⟨a, y :: b, o ++ [x], ⟨fun c v h => i1 _ (by simp [h]), fun c v h => i2 _ h, by simpa using i3⟩, by simp, ?_⟩
          simp [tk]
        | false =>
          rw [hle, if_neg (by simp)] at i3
          simp (disch := omega) [ar, -List.take_append_getElem, ho1]
          refine ⟨x :: a, b, o ++ [y], ⟨fun c v h => i1 _ h, fun c v h => i2 _ (by simp [h]), by simpa using i3⟩, by simp, ?_⟩
          simp [tk]
end Go.Fw
