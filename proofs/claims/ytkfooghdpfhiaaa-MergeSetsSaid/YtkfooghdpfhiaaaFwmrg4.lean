/- The document's Walk; whether stops are the same. -/
import Derived.Test.YtkfooghdpfhiaaaFwmrg3
namespace Go.Fw
open Go Go.RowKit Go.Proofs
set_option maxRecDepth 100000
set_option linter.unusedSimpArgs false
set_option linter.unusedVariables false

def rSame_1 : AC := (.seq (.ops [.o 14 (.bin .lss (.t 13) (.t 12))]) (.seq (.cond (.t 14) .skip (.exit 0)) (.seq (.block 1 (.seq (.ops [.m 15 (.t 13), .m 5 (.t 15)]) (.seq (.ops [.m 16 (.t 0), .m 17 (.t 5), .o 18 (.iad 2 (.t 16) (.t 17)), .o 19 (.fad 0 (.t 18)), .o 20 (.ld 1 false (.t 19)), .m 21 (.t 1), .m 22 (.t 5), .o 23 (.iad 2 (.t 21) (.t 22)), .o 24 (.fad 0 (.t 23)), .o 25 (.ld 1 false (.t 24)), .o 26 (.bin .neq (.t 20) (.t 25)), .m 27 (.t 26), .mg 28 27 false (.t 0), .mg 29 27 false (.t 5), .og 30 27 false (.iad 2 (.t 28) (.t 29)), .og 31 27 false (.fad 1 (.t 30)), .og 32 27 false (.ld 1 false (.t 31)), .mg 33 27 false (.t 1), .mg 34 27 false (.t 5), .og 35 27 false (.iad 2 (.t 33) (.t 34)), .og 36 27 false (.fad 1 (.t 35)), .og 37 27 false (.ld 1 false (.t 36)), .cg 38 27 false true (.f 27) [(.t 32), (.t 37)], .og 39 27 false (.un .not (.t 38)), .o 40 (.pick (.t 27) (.b true) (.t 39))]) (.cond (.t 40) (.seq (.ops [.m 4 (.b false)]) .ret) .skip)))) (.ops [.o 41 (.bin .add (.t 13) (.i 1)), .m 13 (.t 41)]))))
def rSame_ac : AC := (.seq (.ops [.m 4 (.b false)]) (.seq (.seq (.ops [.m 6 (.t 0), .o 7 (.len (.t 6)), .m 8 (.t 1), .o 9 (.len (.t 8)), .o 10 (.bin .neq (.t 7) (.t 9))]) (.cond (.t 10) (.seq (.ops [.m 4 (.b false)]) .ret) .skip)) (.seq (.seq (.ops [.m 11 (.t 0), .o 12 (.len (.t 11)), .m 13 (.i 0)]) (.block 0 (.loop rSame_1))) (.seq (.ops [.m 4 (.b true)]) .ret))))
theorem rSame_w {args : List AV} {H : List AObj} {R : AV → List AObj → Prop} (h : wp Try.prog [] H.length rSame_ac (bodyW [(.t 4)] (Nr R .mk)) (args ++ List.replicate (42 - args.length) .und) H) : ACalls Try.prog 28 args H R :=
  ACalls.of_wp Try.func28 rfl (by kernel_rfl) rfl Try.ntmps28 h
theorem rSame_p (S T : List (Int × List Int)) (hS : S.length ≤ 1000000) (hT : T.length ≤ 1000000) (h1 : ∀ s ∈ S, s.2.length ≤ 1000000000) (h2 : ∀ s ∈ T, s.2.length ≤ 1000000000) :
    Pu Try.prog 28 [Ss S, Ss T] (Bo (decide (S = T))) := by
  refine Pu.of 4 (rSame_w ?_)
  simp (disch := omega) [ar, -List.take_append_getElem, rSame_ac]
  (first | refine Cnd.sp (fun h3 => ?_) fun h3 => ?_ | refine Gd.sp (fun h3 => ?_) fun h3 => ?_) <;> (try simp at h3) <;> (try simp (disch := omega) [ar, -List.take_append_getElem, h3])
  · intro e; subst e; exact h3 rfl
  · refine Lp.to 0 [] S.length (fun i => S.take i = T.take i) (fun i => fm 42 [(0, Ss S), (1, Ss T), (11, Ss S), (12, I S.length), (13, I i)]) (fun _ => []) ⟨by simp, by simp [h3]⟩ fun i hi hJ => ?_
    simp (disch := omega) [ar, -List.take_append_getElem, rSame_1]
    (first | refine Cnd.sp (fun h4 => ?_) fun h4 => ?_ | refine Gd.sp (fun h4 => ?_) fun h4 => ?_) <;> (try simp at h4) <;> (try simp (disch := omega) [ar, -List.take_append_getElem, h4])
    · have h5 : i < T.length := by omega
      have h6 : i < S.length := by omega
      have h7 := h1 _ (List.getElem_mem h6)
      have h8 := h2 _ (List.getElem_mem h5)
      (first | refine Cnd.sp (fun h9 => ?_) fun h9 => ?_ | refine Gd.sp (fun h9 => ?_) fun h9 => ?_) <;> (try simp at h9) <;> (try simp (disch := omega) [ar, -List.take_append_getElem, h9])
      · intro e; subst e; exact h9 rfl
      · refine Pu.c (rEqual_p _ _ h7 h8) ?_
        simp (disch := omega) [ar, -List.take_append_getElem]
        (first | refine Cnd.sp (fun h10 => ?_) fun h10 => ?_ | refine Gd.sp (fun h10 => ?_) fun h10 => ?_) <;> (try simp at h10) <;> (try simp (disch := omega) [ar, -List.take_append_getElem, h10])
        · intro e; subst e; exact h10 rfl
        · exact ⟨hJ, Prod.ext h9 h10⟩
    · rw [List.take_of_length_le (by omega), List.take_of_length_le (by omega)] at hJ; exact hJ
def rWalk_2 : AC := (.seq (.ops [.o 31 (.bin .lss (.t 30) (.t 29))]) (.seq (.cond (.t 31) .skip (.exit 2)) (.seq (.block 3 (.seq (.ops [.o 32 (.iad 1 (.t 28) (.t 30)), .o 33 (.ld 1 false (.t 32)), .m 11 (.t 33)]) (.ops [.o 34 (.fad 1 (.t 9)), .o 35 (.ld 1 false (.t 34)), .m 36 (.t 11), .m 37 (.t 8), .c 38 true (.f 53) [(.t 36), (.t 37)], .o 39 (.lit 1 [(.t 38)]), .o 40 (.app 3 1 8 (.t 35) (.t 39)), .o 41 (.fad 1 (.t 9)), .on (.st 1 (.t 41) (.t 40))]))) (.ops [.o 42 (.bin .add (.t 30) (.i 1)), .m 30 (.t 42)]))))
def rWalk_1 : AC := (.seq (.ops [.o 23 (.bin .lss (.t 22) (.t 21))]) (.seq (.cond (.t 23) .skip (.exit 0)) (.seq (.block 1 (.seq (.ops [.o 24 (.iad 1 (.t 20) (.t 22)), .o 25 (.ld 1 false (.t 24)), .m 8 (.t 25)]) (.seq (.ops [.m 26 (.t 8), .o 27 (.mk [(.sc (.int .i64 0)), nil0] [(0, (1, (.t 26)))]), .o 9 (.new 37 2 (.c (.agg [(.sc (.int .i64 0)), nil0]))), .on (.st 2 (.t 9) (.t 27))]) (.seq (.seq (.ops [.m 28 (.t 0), .o 29 (.len (.t 28)), .m 30 (.i 0)]) (.block 2 (.loop rWalk_2))) (.ops [.m 43 (.t 6), .o 44 (.ld 2 true (.t 9)), .o 45 (.litO 37 2 [(.t 44)]), .o 46 (.app 37 2 32 (.t 43) (.t 45)), .m 6 (.t 46)]))))) (.ops [.o 47 (.bin .add (.t 22) (.i 1)), .m 22 (.t 47)]))))
def rWalk_ac : AC := (.seq (.ops [.m 2 .z, .m 3 (.i 0)]) (.seq (.ops [.m 13 (.t 0), .c 14 false (.f 23) [(.t 13)], .m 12 (.t 14), .o 15 (.ext (.t 12) 0), .o 16 (.ext (.t 12) 1), .m 4 (.t 15), .m 5 (.t 16)]) (.seq (.seq (.ops [.m 17 (.t 5), .o 18 (.bin .neq (.t 17) (.i 0))]) (.cond (.t 18) (.seq (.ops [.m 19 (.t 5), .m 2 .z, .m 3 (.t 19)]) .ret) .skip)) (.seq (.ops [.m 6 .z]) (.seq (.seq (.ops [.m 20 (.t 4), .o 21 (.len (.t 20)), .m 22 (.i 0)]) (.block 0 (.loop rWalk_1))) (.seq (.ops [.m 48 (.t 6), .m 2 (.t 48), .m 3 (.i 0)]) .ret))))))
theorem rWalk_w {args : List AV} {H : List AObj} {R : AV → List AObj → Prop} (h : wp Try.prog [45] H.length rWalk_ac (bodyW [(.t 2), (.t 3)] (Nr R .mk)) (args ++ List.replicate (49 - args.length) .und) H) : ACalls Try.prog 26 args H R :=
  ACalls.of_wp Try.func26 rfl (by kernel_rfl) rfl Try.ntmps26 h
set_option maxHeartbeats 2000000 in
theorem rWalk_p (A : List (List Int)) (hn : A.length ≤ 1000000) (hF : A.flatten.length ≤ 1000000) : Pu Try.prog 26 [Ls A] (.tup [Ss (walkF A).1, I (walkF A).2]) := by
  refine Pu.of 4 (rWalk_w ?_)
  simp (disch := omega) [ar, -List.take_append_getElem, rWalk_ac]
  refine Pu.c (rUnion_p A hn hF) ?_
  simp (disch := omega) [ar, -List.take_append_getElem]
  (first | refine Cnd.sp (fun h0 => ?_) fun h0 => ?_ | refine Gd.sp (fun h0 => ?_) fun h0 => ?_) <;> (try simp at h0) <;> (try simp (disch := omega) [ar, -List.take_append_getElem, h0])
  · obtain ⟨e1, _, e2⟩ := unionF_bad (by simpa using h0)
    simp [e1, e2]
  obtain ⟨e1, _, e2⟩ := unionF_good h0
  have hl := unionF_len (A := A)
  rw [e1] at hl
  obtain ⟨U, hU⟩ : ∃ U, uni A.flatten = U := ⟨_, rfl⟩
  rw [stops, hU] at e2
  rw [hU] at hl
  simp only at hl
  have hu1 : (unionF A).1 = U := by rw [e1, hU]
  simp (disch := omega) [ar, -List.take_append_getElem, hu1]
  obtain ⟨V, hV⟩ : ∃ V, V = (U.map fun n => (n, A.map (whr n))).map stopV := ⟨_, rfl⟩
  have hVl : V.length = U.length := by rw [hV]; simp
  have hVi : ∀ i (h : i < U.length), V[i]'(by omega) = stopV (U[i], A.map (whr U[i])) := fun i h => by simp [hV]
  have hone : ∀ i, allOneCell 2 (V.take i) = true := fun i => by
    simp only [allOneCell, List.all_eq_true]
    intro x hx
    have hx := List.mem_of_mem_take hx
    rw [hV] at hx
    obtain ⟨st, _, rfl⟩ := List.mem_map.1 hx
    rfl
  have hfz : ∀ i H k n b, (V.take i).map (fz H k (n + 1) b) = V.take i := fun i H k n b => by
    conv => rhs; rw [← List.map_id (V.take i)]
    apply List.map_congr_left
    intro x hx
    have hx := List.mem_of_mem_take hx
    rw [hV] at hx
    obtain ⟨st, _, rfl⟩ := List.mem_map.1 hx
    simp
  refine Lp.to 1 [(6, 37, 2)] U.length (fun j => True) (fun j => fm 49 [(0, Ls A), (6, .slc 0 (V.take j).length 0 (V.take j).length none), (20, Is U), (21, I U.length), (22, I j)])
    (fun j => [ow 37 2 (V.take j)]) ⟨trivial, by simp [ow]⟩ fun i hi _ => ?_
  simp (disch := omega) [ar, -List.take_append_getElem, rWalk_1]
  (first | refine Cnd.sp (fun h1 => ?_) fun h1 => ?_ | refine Gd.sp (fun h1 => ?_) fun h1 => ?_) <;> (try simp at h1) <;> (try simp (disch := omega) [ar, -List.take_append_getElem, h1])
  · have hil : i < U.length := by omega
    obtain ⟨n, hnn⟩ : ∃ n, U[i] = n := ⟨_, rfl⟩
    have e : V.take (i + 1) = V.take i ++ [stopV (n, A.map (whr n))] := by
      rw [List.take_succ_eq_append_getElem (by omega), hVi i hil, hnn]
    have hl2 : (V.take i).length = i := by simp; omega
    have honei := hone i
    have hfzi := hfz i
    rw [e]
    have hl3 : min i V.length = i := by omega
    generalize V.take i = K at hl2 honei hfzi ⊢
    obtain ⟨R, hR⟩ : ∃ R, A.map (whr n) = R := ⟨_, rfl⟩
    have hRl : R.length = A.length := by rw [← hR]; simp
    have hRi : ∀ m (h : m < A.length), whr n A[m] = R[m]'(by omega) := fun m h => by simp [← hR]
    have hRo : ∀ m, allOneCell 1 ((R.take m).map I) = true := fun m => by
      simp only [allOneCell, List.all_eq_true, List.mem_map]
      rintro _ ⟨x, _, rfl⟩
      rfl
    rw [hR]
    simp (disch := omega) [ar, -List.take_append_getElem, hnn, hl3]
    refine Lp.opw (σ := Nat) (fun m => m ≤ A.length) (fun m => A.length - m) (fun m => fm 49 [(0, Ls A), (6, .slc 0 i 0 i none), (8, I n), (9, .ptr 1 1 0 0), (20, Is U), (21, I U.length), (22, I i), (28, Ls A), (29, I A.length), (30, I m)])
      (fun m => [ow 37 2 K, bx 37 2 (.agg [I n, .slc 2 m 0 m none]), ow 3 1 ((R.take m).map I)]) 0 (Nat.zero_le _) ?_ ?_
    · refine (Weak.ownAt 1 0 1 3 1 (by omega) (o := bx 37 2 (.agg [I n, nil0])) (e0 := .agg [I n, nil0]) (e1 := .agg [I n, .slc 2 0 0 0 none]) (c := none) (sz' := 0) rfl rfl rfl rfl (by simp [cellsOf])).trans (Weak.le (by simp) ?_)
      simp [leH.refl]
    intro m hm
    have hRm := hRo m
    have hRl2 : ((R.take m).map I).length = m := by simp; omega
    have hRs : ∀ h : m < A.length, (R.take (m + 1)).map I = (R.take m).map I ++ [I (R[m]'(hRl.symm ▸ h))] := fun h => by
      rw [List.take_succ_eq_append_getElem (hRl.symm ▸ h)]; simp [-List.take_append_getElem]
    have hRn : (R.take m).map I = [] ↔ m = 0 := by rw [← List.length_eq_zero_iff, hRl2]
    generalize hLL : (R.take m).map I = L at hRm hRl2 hRs hRn ⊢
    simp (disch := omega) [ar, -List.take_append_getElem, rWalk_2]
    (first | refine Cnd.sp (fun h2 => ?_) fun h2 => ?_ | refine Gd.sp (fun h2 => ?_) fun h2 => ?_) <;> (try simp at h2) <;> (try simp (disch := omega) [ar, -List.take_append_getElem, h2])
    · refine Pu.c (rWhere_p A[m] n (by have := ll_len h2 hF; omega)) ?_
      have hRs2 := hRs h2
      have hRi2 := hRi m h2
      have hml : m < R.length := by omega
      clear hRs hRi hRo hVi hone e hVl
      simp (disch := omega) [ar, -List.take_append_getElem, hRm, hRl2, hRi2]
      refine ⟨m + 1, by omega, by omega, by omega, ?_⟩
      rw [← List.map_take, hRs2]
      simp [ow]
    · have h3 : m = A.length := by omega
      have hL2 : L = R.map I := by rw [← hLL, List.take_of_length_le (by omega)]
      subst h3
      simp (disch := omega) [ar, -List.take_append_getElem, honei, hl2, elems, live?]
      rw [hfzi, hL2]
      simp
  · have h5 : i = U.length := by omega
    subst h5
    have h6 := hfz U.length [ow 37 2 V] 0 1 false
    rw [List.take_of_length_le (by omega)] at h6
    rw [h6, e2, hV]
    exact ⟨.inl (Wks.refl _), rfl⟩
end Go.Fw
