/- The document's Dense. -/
import Derived.Test.YthipbeffhfdamaaFwrrd2
import Derived.Test.YthipbeffhfdamaaFwzr05
namespace Go.Fw
open Go Go.RowKit Go.Proofs
set_option maxRecDepth 100000
set_option linter.unusedSimpArgs false
set_option linter.unusedVariables false
structure DnG (q j : Nat) (s : AV) (tn xv : AV) (S : List Int) (H : List AObj) (D : List Int) : Prop where
  o0 : H[0]? = some ⟨27, 4, [tn], true, none⟩
  o1 : H[1]? = some ⟨57, 2, [.agg [nil0, nil0]], true, none⟩
  o2 : H[2]? = some ⟨48, 2, [xv], true, none⟩
  oq : H[q]? = some ⟨57, 2, [.agg [s, .slc j D.length 0 D.length none]], true, none⟩
  oj : H[j]? = some ⟨2, 1, D.map I, true, none⟩
  sh : shapeOk 3 H j s S
  j3 : 3 ≤ j
  qj : j < q
theorem DnG.app {q j : Nat} {s tn xv : AV} {S : List Int} {H : List AObj} {D : List Int} (h : DnG q j s tn xv S H D) (G : List AObj) : DnG q j s tn xv S (H ++ G) D :=
  ⟨gap h.o0, gap h.o1, gap h.o2, gap h.oq, gap h.oj, h.sh.app G, h.j3, h.qj⟩
theorem DnG.set {q j : Nat} {s tn xv : AV} {S : List Int} {H : List AObj} {D E : List Int} (h : DnG q j s tn xv S H D) (hE : E.length = D.length) : DnG q j s tn xv S (H.set j ⟨2, 1, E.map I, true, none⟩) E := by
  have hj := h.j3
  have hq := h.qj
  have hl := (List.getElem?_eq_some_iff.1 h.oj).1
  exact ⟨by rw [List.getElem?_set_ne (by omega)]; exact h.o0, by rw [List.getElem?_set_ne (by omega)]; exact h.o1, by rw [List.getElem?_set_ne (by omega)]; exact h.o2, by rw [List.getElem?_set_ne (by omega), hE]; exact h.oq,
    by rw [List.getElem?_set_self hl], h.sh.set _, h.j3, h.qj⟩
theorem sets_len (S : List Int) : ∀ (A : List (List Int × Int)) (Z : List Int), (A.foldl (fun ws e => ws.set (atF S e.1).1.toNat e.2) Z).length = Z.length
  | [], Z => rfl
  | x :: A, Z => by rw [List.foldl_cons, sets_len S A]; simp
def rDs_1 : AC := (.seq (.ops [.o 34 (.bin .lss (.t 33) (.t 32))]) (.seq (.cond (.t 34) .skip (.exit 0)) (.seq (.block 1 (.seq (.ops [.o 35 (.iad 2 (.t 31) (.t 33)), .o 36 (.ld 2 true (.t 35)), .o 8 (.new 52 2 (.c (.agg [nil0, (.sc (.int .i64 0))]))), .on (.st 2 (.t 8) (.t 36))]) (.seq (.ops [.o 38 (.fad 0 (.t 1)), .o 39 (.ld 1 false (.t 38)), .o 40 (.fad 0 (.t 8)), .o 41 (.ld 1 false (.t 40)), .c 42 false (.f 67) [(.t 39), (.t 41)], .m 37 (.t 42), .o 43 (.ext (.t 37) 0), .o 44 (.ext (.t 37) 1), .m 9 (.t 43), .m 10 (.t 44)]) (.ops [.o 45 (.fad 1 (.t 6)), .o 46 (.ld 1 false (.t 45)), .m 47 (.t 9), .o 48 (.fad 1 (.t 8)), .o 49 (.ld 1 false (.t 48)), .o 50 (.iad 1 (.t 46) (.t 47)), .on (.st 1 (.t 50) (.t 49))])))) (.ops [.o 51 (.bin .add (.t 33) (.i 1)), .m 33 (.t 51)]))))
def rDs_ac : AC := (.seq (.ops [.o 1 (.new 27 4 (.t 0)), .o 2 (.new 57 2 (.c (.agg [nil0, nil0]))), .m 3 (.i 0)]) (.seq (.ops [.o 12 (.ld 4 true (.t 1)), .c 13 false (.f 29) [(.t 12)], .m 11 (.t 13), .o 14 (.ext (.t 11) 0), .o 15 (.ext (.t 11) 1), .o 4 (.new 48 2 (.c (.agg [nil0, nil0]))), .on (.st 2 (.t 4) (.t 14)), .m 5 (.t 15)]) (.seq (.seq (.ops [.m 16 (.t 5), .o 17 (.bin .neq (.t 16) (.i 0))]) (.cond (.t 17) (.seq (.ops [.o 18 (.mk [nil0, nil0] []), .m 19 (.t 5), .on (.st 2 (.t 2) (.t 18)), .m 3 (.t 19)]) .ret) .skip)) (.seq (.ops [.o 21 (.fad 0 (.t 1)), .o 22 (.ld 1 false (.t 21)), .c 23 false (.f 66) [(.t 22)], .m 20 (.t 23), .o 24 (.ext (.t 20) 0), .o 25 (.ext (.t 20) 1), .o 6 (.new 57 2 (.c (.agg [nil0, nil0]))), .on (.st 2 (.t 6) (.t 24)), .m 5 (.t 25)]) (.seq (.seq (.ops [.m 26 (.t 5), .o 27 (.bin .neq (.t 26) (.i 0))]) (.cond (.t 27) (.seq (.ops [.o 28 (.mk [nil0, nil0] []), .m 29 (.t 5), .on (.st 2 (.t 2) (.t 28)), .m 3 (.t 29)]) .ret) .skip)) (.seq (.seq (.ops [.o 30 (.fad 1 (.t 4)), .o 31 (.ld 1 false (.t 30)), .o 32 (.len (.t 31)), .m 33 (.i 0)]) (.block 0 (.loop rDs_1))) (.seq (.ops [.o 52 (.ld 2 true (.t 6)), .on (.st 2 (.t 2) (.t 52)), .m 3 (.i 0)]) .ret)))))))
theorem rDs_w {args : List AV} {H : List AObj} {R : AV → List AObj → Prop} (h : wp Try.prog [] H.length rDs_ac (bodyW [(.cell 2 2 true), (.t 3)] (Nr R .mk)) (args ++ List.replicate (53 - args.length) .und) H) : ACalls Try.prog 30 args H R :=
  ACalls.of_wp Try.func30 rfl (by kernel_rfl) rfl Try.ntmps30 h
section
variable {S : List Int} {F : List (Int × Int × Int)} {L : List Lv} {V : List Int}
set_option maxHeartbeats 2000000 in
theorem rDs_p (h : TnOk S F L V) (k : Few S F L V) : Pu Try.prog 30 [tnW S F L V] (.tup [dnW (denP S F L V).1, I (denP S F L V).2]) := by
  refine Pu.of 6 (rDs_w ?_)
  have hr := rRd_p h k
  have hin := fun h0 => entP_in h (V := V) h0
  have hEl := entP_len S F L V
  have hV := k.v
  have hS := h.s
  have hz := fun H => dense_at (rZero_dense (Is_sl h.s)) (by simp) H
  clear h k
  simp (disch := omega) [ar, -List.take_append_getElem, rDs_ac]
  refine Pu.c hr ?_
  clear hr
  by_cases h0 : tnC S F L V = 0
  case neg =>
    have e : lstP S F L V = (([], []), tnC S F L V) := by rw [lstP, if_pos h0]
    have e2 : denP S F L V = (([], []), tnC S F L V) := by rw [denP, if_pos h0]
    rw [e2]
    simp (disch := omega) [ar, -List.take_append_getElem, e, h0]
  have e : lstP S F L V = ((S, entP S F L V), 0) := by rw [lstP, if_neg (by simpa using h0)]
  have hin := hin h0
  simp (disch := omega) [ar, -List.take_append_getElem, e]
  refine (hz _).c ?_
  clear hz
  rintro r K ⟨G, hK, ⟨h1, h2, rfl⟩ | ⟨h1, d, rfl, hd⟩⟩
  · have e2 : denP S F L V = (([], []), (zeroF S).2) := by rw [denP, if_neg (by omega), if_pos h1]
    rw [e2]
    have g1 := gcc K
    have g2 := scc K
    have k1 : ∀ o, (K ++ [o])[1]? = some (bx 57 2 (.agg [nil0, nil0])) := fun o => gap (by rw [hK]; rfl)
    have k2 : ∀ o x, ((K ++ [o]).set 1 x)[1]? = some x := fun o x => List.getElem?_set_self (List.getElem?_eq_some_iff.1 (k1 o)).1
    clear hK hin hEl e
    simp (disch := omega) [ar, -List.take_append_getElem, h1, g1, g2, k1, k2]
  have e2 : denP S F L V = ((S, (entP S F L V).foldl (fun ws e => ws.set (atF S e.1).1.toNat e.2) (zeroF S).1.2), 0) := by rw [denP, if_neg (by omega), if_neg (by omega)]
  rw [e2]
  obtain ⟨-, hz1, hz2, -⟩ := zero_len h1
  obtain ⟨s, j, hj3, rfl, hjD, hsh⟩ := hd
  rw [hz1] at hsh
  rw [← hK] at hjD hsh
  generalize (zeroF S).1.2 = Z at hjD hz2 ⊢
  clear e e2 h1 hz1
  generalize entP S F L V = E at hin hEl hK ⊢
  have g1 := gcc K
  have g2 := scc K
  have hone := hsh.one
  have hD0 : DnG K.length j s (tnW S F L V) (cooV (S, E)) S (K ++ [⟨57, 2, [.agg [s, .slc j Z.length 0 Z.length none]], true, none⟩]) Z := by
    refine ⟨by rw [hK]; rfl, by rw [hK]; rfl, by rw [hK]; rfl, g1 _, gap hjD, hsh.app _, by simpa using hj3, (List.getElem?_eq_some_iff.1 hjD).1⟩
  clear hjD hsh hK hj3
  simp (disch := omega) [ar, -List.take_append_getElem, hone, g1, g2]
  generalize K ++ [⟨57, 2, [.agg [s, .slc j Z.length 0 Z.length none]], true, none⟩] = H0 at *
  generalize K.length = q at *
  clear g1 g2
  have o2 := hD0.o2
  simp (disch := omega) [ar, -List.take_append_getElem, o2]
  have fl := fun i => sets_len S (E.take i) Z
  refine Lp.op (σ := Nat × List AObj) (fun t => t.1 ≤ E.length ∧ DnG q j s (tnW S F L V) (cooV (S, E)) S t.2 ((E.take t.1).foldl (fun ws e => ws.set (atF S e.1).1.toNat e.2) Z)) (fun t => E.length - t.1)
    (fun t => fm 53 [(1, .ptr 0 1 0 0), (2, .ptr 1 1 0 0), (3, I 0), (4, .ptr 2 1 0 0), (6, .ptr q 1 0 0), (31, eV E), (32, I E.length), (33, I t.1)]) (fun t => t.2) (0, H0) ⟨⟨Nat.zero_le _, by simpa using hD0⟩, by simp, rfl⟩ ?_
  clear hD0 o2
  rintro ⟨i, H⟩ ⟨hi, hD⟩
  simp only at hi hD ⊢
  have fli := fl i
  have fli1 := fl (i + 1)
  have hst : ∀ h : i < E.length, (E.take (i + 1)).foldl (fun ws e => ws.set (atF S e.1).1.toNat e.2) Z = ((E.take i).foldl (fun ws e => ws.set (atF S e.1).1.toNat e.2) Z).set (atF S E[i].1).1.toNat E[i].2 := fun h => by
    rw [List.take_succ_eq_append_getElem h, List.foldl_append]; rfl
  have hend : i = E.length → (E.take i).foldl (fun ws e => ws.set (atF S e.1).1.toNat e.2) Z = E.foldl (fun ws e => ws.set (atF S e.1).1.toNat e.2) Z := fun h => by rw [List.take_of_length_le (by omega)]
  clear fl
  generalize hq1 : (E.take (i + 1)).foldl (fun ws e => ws.set (atF S e.1).1.toNat e.2) Z = D1 at fli1 hst
  generalize (E.take i).foldl (fun ws e => ws.set (atF S e.1).1.toNat e.2) Z = D at hD fli hst hend
  simp (disch := omega) [ar, -List.take_append_getElem, rDs_1]
  (first | refine Cnd.sp (fun h4 => ?_) fun h4 => ?_ | refine Gd.sp (fun h4 => ?_) fun h4 => ?_) <;> (try simp at h4) <;> (try simp (disch := omega) [ar, -List.take_append_getElem, h4])
  · have h6 : i < E.length := by omega
    have hst := hst h6
    obtain ⟨c1, c2, c3, c4⟩ := hin _ (List.getElem_mem h6)
    have hat := rAtT_p hS c1
    clear hend hin hS
    obtain ⟨⟨ec, ev⟩, hei⟩ : ∃ x, E[i] = x := ⟨_, rfl⟩
    simp only [hei] at hst c1 c2 c3 c4 hat
    generalize (atF S ec).2 = at2 at *
    subst c2
    obtain ⟨n, hn⟩ : ∃ n : Nat, (atF S ec).1 = n := ⟨_, (Int.toNat_of_nonneg c3).symm⟩
    rw [hn] at hst hat c4
    simp only [Int.toNat_natCast] at hst
    have hnD : n < D.length := by omega
    have hDa := hD.app [bx 52 2 (.agg [Is ec, I ev])]
    have g1 := gcc H
    have g2 := scc H
    have g3 := g1 (bx 52 2 (.agg [Is ec, I ev]))
    have g0 : ∀ o, (H ++ [o])[0]? = some _ := fun o => gap hD.o0
    clear hD hn c1 c3 c4
    simp (disch := omega) [ar, -List.take_append_getElem, hei, g1, g2, g0]
    refine Pu.c hat ?_
    have oq := hDa.oq
    have oj := hDa.oj
    have hDn := hDa.set (E := D1) (by omega)
    generalize H ++ [bx 52 2 (.agg [Is ec, I ev])] = H1 at *
    generalize H.length = q2 at *
    clear hDa g1 g2 g0
    subst hst
    rw [List.map_set] at hDn
    simp (disch := omega) [ar, -List.take_append_getElem, oq, oj, g3, hnD]
    exact ⟨i + 1, _, ⟨by omega, by rw [hq1]; exact hDn⟩, by omega, by simp, rfl⟩
  · have h7 : i = E.length := by omega
    have oq := hD.oq
    have oj := hD.oj
    have o1 := hD.o1
    have hj3 := hD.j3
    rw [hend h7] at oq oj fli
    have sj : ∀ o, (H.set 1 o)[j]? = some _ := fun o => by rw [List.getElem?_set_ne (by omega)]; exact oj
    have s1 : ∀ o, (H.set 1 o)[1]? = some o := fun o => List.getElem?_set_self (List.getElem?_eq_some_iff.1 o1).1
    have hsh := hD.sh
    have hend := hend h7
    clear hD hin
    generalize E.foldl (fun ws e => ws.set (atF S e.1).1.toNat e.2) Z = D2 at *
    rcases hsh with ⟨rfl, nl, c, sz, rfl, hs⟩ | ⟨k, hk3, hkj, rfl, hk⟩
    · simp (disch := omega) [ar, -List.take_append_getElem, oq, o1, s1, sj, oj]
    · have sk : ∀ o, (H.set 1 o)[k]? = some _ := fun o => by rw [List.getElem?_set_ne (by omega)]; exact hk
      simp (disch := omega) [ar, -List.take_append_getElem, oq, o1, s1, sj, sk]
end
end Go.Fw
