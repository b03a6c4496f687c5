/- Counts, Dense, Get, Empty of store, and Counts of the document's layer, as contracts of what is only read. -/
import Derived.Test.YthipbeffhfdamaaFwrp04
import Derived.Test.YthipbeffhfdamaaFwslices64
import Derived.Test.YthipbeffhfdamaaFwempty1
import Derived.Test.YthipbeffhfdamaaFwreads1
namespace Go.Fw
open Go Go.RowKit Go.Proofs
set_option maxRecDepth 100000
set_option linter.unusedSimpArgs false
set_option linter.unusedVariables false
theorem ACalls.pu {P : Program} {f : FuncId} {args : List AV} {v : AV} (h : ACalls P f args [] fun r H' => H' = [] ∧ Wk r v) : Pu P f args v := h.wk fun r H' hr => ⟨v, hr.2, hr.1, rfl⟩
abbrev dnW (D : List Int × List Int) : AV := .agg [Is D.1, Is D.2]
theorem Dn.wk {a : AV} {D : List Int × List Int} (h : Dn a D) : Wk a (dnW D) := by
  obtain ⟨s, v, rfl, h1, h2⟩ := h
  simp only [Wk, Wks, h1.wk, h2.wk, true_and]
def denP (S : List Int) (F : List (Int × Int × Int)) (L : List Lv) (V : List Int) : (List Int × List Int) × Int :=
  if tnC S F L V ≠ 0 then (([], []), tnC S F L V) else if (zeroF S).2 ≠ 0 then (([], []), (zeroF S).2)
  else ((S, (entP S F L V).foldl (fun ws e => ws.set (atF S e.1).1.toNat e.2) (zeroF S).1.2), 0)
def getP (S : List Int) (F : List (Int × Int × Int)) (L : List Lv) (V c : List Int) : (Int × Bool) × Int :=
  if tnC S F L V ≠ 0 then ((0, false), tnC S F L V) else if (atF S c).2 ≠ 0 then ((0, false), 3) else (firstF (entP S F L V) c, 0)
def empP (S : List Int) (F : List (Int × Int × Int)) (L : List Lv) (V : List Int) : Bool × Int := emptyF S F (L.map toA) V
def cntP (S : List Int) (F : List (Int × Int × Int)) (L : List Lv) (V : List Int) : List Int × Int := countsF S F (L.map toA) V
section
variable {S : List Int} {F : List (Int × Int × Int)} {L : List Lv} {V : List Int} (h : TnOk S F L V) (k : Few S F L V)
include h k
theorem sCounts_p : Pu Try.prog 18 [tnW S F L V] (.tup [Is (cntP S F L V).1, I (cntP S F L V).2]) := by
  refine ((sCounts_spec (Is_sl h.s) h.sp h.ls (Is_sl h.v) (by have := k.l; simp; omega) (by have := k.f; omega)).mono ?_).pu
  rintro r H' ⟨hH, o, rfl, ho⟩
  exact ⟨hH, by simp [cntP, ho.wk]⟩
theorem rCounts_p : Pu Try.prog 32 [tnW S F L V] (.tup [Is (cntP S F L V).1, I (cntP S F L V).2]) := by
  refine ((rCounts_spec (Is_sl h.s) h.sp h.ls (Is_sl h.v) (by have := k.l; simp; omega) (by have := k.f; omega) (by have := k.s; omega) (fun x hx => by
    obtain ⟨y, hy, rfl⟩ := List.mem_map.1 hx
    have := k.c y hy
    simp only [toA_lv]
    omega)).mono ?_).pu
  rintro r H' ⟨hH, o, rfl, ho⟩
  exact ⟨hH, by simp [cntP, ho.wk]⟩
theorem sEmpty_p : Pu Try.prog 24 [tnW S F L V] (.tup [Bo (empP S F L V).1, I (empP S F L V).2]) :=
  Pu.mk (sEmpty_spec (Is_sl h.s) h.sp h.ls (Is_sl h.v) (by have := k.l; simp; omega) (by have := k.f; omega))
theorem sGet_p {c : List Int} (hc : InI c) : Pu Try.prog 22 [tnW S F L V, Is c] (.tup [I (getP S F L V c).1.1, Bo (getP S F L V c).1.2, I (getP S F L V c).2]) := by
  have e : getF S F (L.map toA) V c = getP S F L V c := by
    unfold getF getP
    split
    · rfl
    · rename_i h1
      split
      · rfl
      · rename_i h2
        have hl : c.length = S.length := by
          have h2 : (atF S c).2 = 0 := by omega
          unfold atF at h2
          split at h2
          · rename_i h3; exact absurd h2 h3
          split at h2
          · simp at h2
          · rename_i h3; omega
        have := get_ent h.s.2 (by omega : tnCheck S F (L.map toA) V = 0) hl
        rw [toA_map] at this
        rw [this]
  rw [← e]
  exact Pu.mk (sGet_spec (Is_sl h.s) h.sp h.ls (Is_sl h.v) (Is_sl hc) (by have := k.l; simp; omega) (by have := k.f; omega))
theorem sDense_p : Pu Try.prog 23 [tnW S F L V] (.tup [dnW (denP S F L V).1, I (denP S F L V).2]) := by
  have e : denseF S F (L.map toA) V = denP S F L V := by
    unfold denseF denP
    split
    · rfl
    · rename_i h1
      split
      · rfl
      · have := dense_ent h.s.2 (by omega : tnCheck S F (L.map toA) V = 0) (zeroF S).1.2
        rw [toA_map] at this
        rw [this]
  rw [← e]
  refine ((sDense_spec (Is_sl h.s) h.sp h.ls (Is_sl h.v) (by have := k.l; simp; omega) (by have := k.f; omega) (fun h1 h2 => den_good h.s h1 h2)).mono ?_).pu
  rintro r H' ⟨hH, d, rfl, hd⟩
  exact ⟨hH, by simp [hd.wk]⟩
end
end Go.Fw
/- The document's place of a number. -/
namespace Go.Fw
open Go Go.RowKit Go.Proofs
set_option maxRecDepth 100000
set_option linter.unusedSimpArgs false
set_option linter.unusedVariables false
theorem putF_take : ∀ (F : List (Int × Int × Int)) (A : List Int) (c : List Int) (i : Nat) (h : i < F.length) (h' : i < A.length), putF (F.take (i + 1)) A c = stepC F[i] (putF (F.take i) A c) A[i]
  | f :: F, a :: A, c, 0, _, _ => by simp [putF]
  | f :: F, a :: A, c, i + 1, h, h' => by
    simp only [List.take_succ_cons, putF, List.getElem_cons_succ]
    exact putF_take F A _ i (by simpa using h) (by simpa using h')
theorem putF_len : ∀ (F : List (Int × Int × Int)) (A : List Int) (c : List Int), (putF F A c).length = c.length
  | [], _, c => by simp [putF]
  | f :: F, [], c => by simp [putF]
  | f :: F, a :: A, c => by simp only [putF]; rw [putF_len]; simp [stepC]
theorem upF_len : ∀ (L : List Lv) (n : Nat), (upF L n).1.length = L.length
  | [], n => rfl
  | x :: L, n => by simp [upF, upF_len L n]
structure UpOk (L : List Lv) (ws : List Int) (n : Nat) : Prop where
  len : ws.length = L.length
  chk : ∀ i (h : i < L.length), lvCheck L[i] (ahF 1 ws i) = 0 ∧ (upF (L.drop (i + 1)) n).2 < (lvBelow L[i] (ahF 1 ws i)).toNat ∧ ahF 1 ws i ≤ 1048576 ∧ (((1 : Nat) : Int) :: ws).getD i 0 = ahF 1 ws i ∧ upF (L.drop i) n = ((parF L[i] (upF (L.drop (i + 1)) n).2).2 :: (upF (L.drop (i + 1)) n).1, (parF L[i] (upF (L.drop (i + 1)) n).2).1)
  at64 : ∀ i (h : i < L.length), -9223372036854775808 ≤ (parF L[i] (upF (L.drop (i + 1)) n).2).2 ∧ (parF L[i] (upF (L.drop (i + 1)) n).2).2 ≤ 9223372036854775807
theorem up_64 : ∀ (L : List Lv) (n : Nat), (∀ i (h : i < L.length), -9223372036854775808 ≤ (parF L[i] (upF (L.drop (i + 1)) n).2).2 ∧ (parF L[i] (upF (L.drop (i + 1)) n).2).2 ≤ 9223372036854775807) → ∀ a ∈ (upF L n).1, -9223372036854775808 ≤ a ∧ a ≤ 9223372036854775807
  | [], n, _, a, ha => by simp [upF] at ha
  | x :: L, n, h, a, ha => by
    simp only [upF, List.mem_cons] at ha
    rcases ha with rfl | ha
    · have := h 0 (by simp)
      simpa using this
    · exact up_64 L n (fun i hi => by have := h (i + 1) (by simpa using hi); simpa using this) a ha
def rPl_1 : AC := (.seq (.seq (.ops [.m 23 (.t 8), .o 24 (.bin .geq (.t 23) (.i 0))]) (.cond (.t 24) .skip (.exit 0))) (.seq (.block 1 (.seq (.ops [.o 28 (.fad 2 (.t 3)), .o 29 (.ld 1 false (.t 28)), .m 30 (.t 8), .o 31 (.iad 4 (.t 29) (.t 30)), .o 32 (.ld 4 true (.t 31)), .m 33 (.t 1), .m 34 (.t 8), .o 35 (.iad 1 (.t 33) (.t 34)), .o 36 (.ld 1 false (.t 35)), .m 37 (.t 2), .c 38 true (.f 81) [(.t 32), (.t 36), (.t 37)], .m 27 (.t 38), .o 39 (.ext (.t 27) 0), .o 40 (.ext (.t 27) 1), .o 41 (.ext (.t 27) 2), .m 9 (.t 39), .m 10 (.t 40), .m 11 (.t 41)]) (.seq (.ops [.m 42 (.t 7), .m 43 (.t 8), .m 44 (.t 10), .o 45 (.iad 1 (.t 42) (.t 43)), .on (.st 1 (.t 45) (.t 44))]) (.ops [.m 46 (.t 9), .m 2 (.t 46)])))) (.ops [.m 25 (.t 8), .o 26 (.bin .sub (.t 25) (.i 1)), .m 8 (.t 26)])))
def rPl_2 : AC := (.seq (.ops [.o 55 (.bin .lss (.t 54) (.t 53))]) (.seq (.cond (.t 55) .skip (.exit 2)) (.seq (.block 3 (.seq (.ops [.m 56 (.t 54), .o 57 (.iad 3 (.t 52) (.t 54)), .o 58 (.ld 3 true (.t 57)), .o 14 (.new 43 3 (.c (.agg [(.sc (.int .i64 0)), (.sc (.int .i64 0)), (.sc (.int .i64 0))]))), .m 13 (.t 56), .on (.st 3 (.t 14) (.t 58))]) (.seq (.ops [.o 59 (.fad 0 (.t 14)), .o 60 (.ld 1 false (.t 59)), .o 61 (.bin .eql (.t 60) (.i 4))]) (.cond (.t 61) (.ops [.m 62 (.t 12), .o 63 (.fad 1 (.t 14)), .o 64 (.ld 1 false (.t 63)), .m 65 (.t 12), .o 66 (.fad 1 (.t 14)), .o 67 (.ld 1 false (.t 66)), .o 68 (.iad 1 (.t 65) (.t 67)), .o 69 (.ld 1 false (.t 68)), .o 70 (.fad 2 (.t 14)), .o 71 (.ld 1 false (.t 70)), .o 72 (.bin .mul (.t 69) (.t 71)), .m 73 (.t 7), .m 74 (.t 13), .o 75 (.iad 1 (.t 73) (.t 74)), .o 76 (.ld 1 false (.t 75)), .o 77 (.bin .add (.t 72) (.t 76)), .o 78 (.iad 1 (.t 62) (.t 64)), .on (.st 1 (.t 78) (.t 77))]) (.ops [.m 79 (.t 12), .o 80 (.fad 1 (.t 14)), .o 81 (.ld 1 false (.t 80)), .m 82 (.t 7), .m 83 (.t 13), .o 84 (.iad 1 (.t 82) (.t 83)), .o 85 (.ld 1 false (.t 84)), .o 86 (.iad 1 (.t 79) (.t 81)), .on (.st 1 (.t 86) (.t 85))]))))) (.ops [.o 87 (.bin .add (.t 54) (.i 1)), .m 54 (.t 87)]))))
def rPl_ac : AC := (.seq (.ops [.o 3 (.new 27 4 (.t 0)), .m 6 .z]) (.seq (.ops [.o 15 (.fad 1 (.t 3)), .o 16 (.ld 1 false (.t 15)), .o 17 (.len (.t 16)), .o 18 (.mkS 3 1 8 (.sc (.int .i64 0)) (.t 17) (.t 17)), .m 7 (.t 18)]) (.seq (.seq (.ops [.o 19 (.fad 2 (.t 3)), .o 20 (.ld 1 false (.t 19)), .o 21 (.len (.t 20)), .o 22 (.bin .sub (.t 21) (.i 1)), .m 8 (.t 22)]) (.block 0 (.loop rPl_1))) (.seq (.ops [.o 47 (.fad 0 (.t 3)), .o 48 (.ld 1 false (.t 47)), .o 49 (.len (.t 48)), .o 50 (.mkS 3 1 8 (.sc (.int .i64 0)) (.t 49) (.t 49)), .m 12 (.t 50)]) (.seq (.seq (.ops [.o 51 (.fad 1 (.t 3)), .o 52 (.ld 1 false (.t 51)), .o 53 (.len (.t 52)), .m 54 (.i 0)]) (.block 2 (.loop rPl_2))) (.seq (.ops [.m 88 (.t 12), .m 6 (.t 88)]) .ret))))))
theorem rPl_w {args : List AV} {H : List AObj} {R : AV → List AObj → Prop} (h : wp Try.prog [] H.length rPl_ac (bodyW [(.t 6)] (Nr R .mk)) (args ++ List.replicate (89 - args.length) .und) H) : ACalls Try.prog 65 args H R :=
  ACalls.of_wp Try.func65 rfl (by kernel_rfl) rfl Try.ntmps65 h
section
variable {S Vs : List Int} {F : List (Int × Int × Int)} {L : List Lv}
set_option maxHeartbeats 4000000 in
theorem rPl_p (hF : F.length = L.length) (hLl : L.length ≤ 1000) (hlv : ∀ l ∈ L, LvF l) (hmo : ∀ s ∈ F, 0 ≤ s.2.1 ∧ s.2.1 < S.length) (hS : S.length ≤ 1000) {ws : List Int} {n : Nat} (hu : UpOk L ws n) :
    Pu Try.prog 65 [tnW S F L Vs, Is (1 :: ws), I n] (Is (plcF S F L n)) := by
  refine Pu.of 4 (rPl_w ?_)
  have hwl := hu.len
  have hul := upF_len L n
  simp (disch := omega) [ar, -List.take_append_getElem, rPl_ac]
  refine Lp.st (σ := Nat) 2 [] (fun i => i ≤ L.length) (fun i => i) (fun i => fm 89 [(1, Is (1 :: ws)), (2, I (upF (L.drop i) n).2), (3, .ptr 0 1 0 0), (7, .slc 1 F.length 0 F.length none), (8, I ((i : Int) - 1))])
    (fun i => [bx 27 4 (tnW S F L Vs), ob 3 1 ((List.replicate i (0 : Int) ++ (upF (L.drop i) n).1).map I)]) L.length ⟨Nat.le_refl _, by simp [upF, hF]⟩ ?_
  intro i hi
  have hil := upF_len (L.drop i) n
  cases i with
  | zero =>
    clear hil
    rw [List.drop_zero]
    simp (disch := omega) [ar, -List.take_append_getElem, rPl_1]
    have hA := hu.at64
    clear hi hlv
    obtain ⟨A, hAe⟩ : ∃ A, (upF L n).1 = A := ⟨_, rfl⟩
    have hz : List.replicate S.length (AV.sc (Value.int IntKind.i64 0)) = (List.replicate S.length (0 : Int)).map I := by simp
    rw [hz]
    have hA64 := up_64 L n hu.at64
    rw [hAe] at hul hA64
    simp only [plcF, hAe]
    clear hu hA hz
    have hFA : ∀ i (h : i < F.length), _ := fun i h => putF_take F A (List.replicate S.length 0) i h (by omega)
    refine Lp.to 3 [] F.length (fun _ => True) (fun i => fm 89 [(3, .ptr 0 1 0 0), (7, .slc 1 F.length 0 F.length none), (12, .slc 2 S.length 0 S.length none), (52, fW F), (53, I F.length), (54, I i)])
      (fun i => [bx 27 4 (tnW S F L Vs), ob 3 1 (A.map I), ob 3 1 ((putF (F.take i) A (List.replicate S.length 0)).map I)]) ⟨trivial, by simp [putF, hAe, hul, hF]⟩ fun i hi _ => ?_
    simp (disch := omega) [ar, -List.take_append_getElem, rPl_2]
    (first | refine Cnd.sp (fun h4 => ?_) fun h4 => ?_ | refine Gd.sp (fun h4 => ?_) fun h4 => ?_) <;> (try simp at h4) <;> (try simp (disch := omega) [ar, -List.take_append_getElem, h4])
    · have h5 : i < F.length := by omega
      have h6 : i < A.length := by omega
      have hp := hFA i h5
      have hO := putF_len (F.take i) A (List.replicate S.length 0)
      have hai := hA64 _ (List.getElem_mem h6)
      have hm := hmo _ (List.getElem_mem h5)
      obtain ⟨⟨kk, mm, zz⟩, hfi⟩ : ∃ x, F[i] = x := ⟨_, rfl⟩
      rw [hfi] at hp hm
      rw [List.length_replicate] at hO
      generalize putF (F.take i) A (List.replicate S.length 0) = O at hp hO ⊢
      generalize hj : putF (F.take (i + 1)) A (List.replicate S.length 0) = N at hp
      generalize hai2 : A[i] = av at hp hai
      simp only at hm
      obtain ⟨m, rfl⟩ : ∃ m : Nat, mm = m := ⟨mm.toNat, by omega⟩
      have hmS : m < S.length := by omega
      have hmO : m < O.length := by omega
      have hOd : O.getD m 0 = O[m] := by simp [hmO]
      rw [stepC, fromF] at hp
      simp only [Int.toNat_natCast, hOd] at hp
      clear hFA hA64 hmo
      by_cases hk : kk = 4
      · subst hk
        rw [if_pos rfl] at hp
        simp (disch := omega) [ar, -List.take_append_getElem, hfi, hmO, hai2]
        rw [hp, List.map_set]
        exact Wks.refl _
      · rw [if_neg hk] at hp
        simp (disch := omega) [ar, -List.take_append_getElem, hfi, hk, hmO, hai2]
        rw [hp, List.map_set, Int.zero_add, show w64 av = av from wrap_i64 hai.1 hai.2]
        exact Wks.refl _
    · have h7 : i = F.length := by omega
      subst h7
      have hO0 : (putF F A (List.replicate S.length 0)).length = S.length := by rw [putF_len]; simp
      rw [hAe]
      simp [hO0]
  | succ i =>
    have hi2 : i < L.length := by omega
    obtain ⟨c1, c2, c3, c4, c5⟩ := hu.chk i hi2
    have hpar := r4Parent_p (hlv _ (List.getElem_mem hi2)) c3 c1 c2
    have hlt : i < ((1 : Int) :: ws).length := by simp; omega
    have hw0 : ((1 : Int) :: ws)[i]? = some (ahF 1 ws i : Int) := by
      have e := c4
      rw [List.getD_eq_getElem?_getD] at e
      have e2 := List.getElem?_eq_getElem hlt
      rw [e2]
      rw [show (((1 : Nat) : Int) :: ws) = (1 : Int) :: ws from rfl, e2] at e
      exact congrArg some e
    have hgw : (I 1 :: List.map I ws)[i]? = some (I (ahF 1 ws i)) := by
      show (((1 : Int) :: ws).map I)[i]? = _
      rw [List.getElem?_map, hw0]; rfl
    have hgl : (L.map lvW)[i]? = some (lvW L[i]) := by simp [hi2]
    clear hw0 hlt c1 c2 c3 c4 hu
    generalize (upF (L.drop (i + 1)) n).2 = nn at *
    generalize (upF (L.drop (i + 1)) n).1 = X at *
    generalize ahF 1 ws i = aw at *
    generalize parF L[i] nn = Q at *
    simp only [List.length_drop] at hil
    have hset : ∀ v, (List.replicate (i + 1) (I 0) ++ List.map I X).set i v = List.replicate i (I 0) ++ v :: List.map I X := fun v => by
      rw [List.replicate_succ', List.append_assoc, List.set_append_right _ _ (by simp)]
      simp
    have hget : (List.replicate (i + 1) (I 0) ++ List.map I X)[i]? = some (I 0) := by
      rw [List.getElem?_append_left (by simp), List.getElem?_replicate, if_pos (by omega)]
    simp (disch := omega) [ar, -List.take_append_getElem, rPl_1, hgw, hgl]
    refine Pu.c hpar ?_
    have hXl : i + 1 + X.length = F.length := by omega
    simp (disch := omega) [ar, -List.take_append_getElem, hXl, hset, hget]
    refine ⟨i, by omega, by omega, ?_⟩
    simp (disch := omega) [ar, -List.take_append_getElem, c5]
end
end Go.Fw
/- What is ahead of each level of a tensor that may be. -/
namespace Go.Fw
open Go Go.RowKit Go.Proofs
set_option maxRecDepth 100000
set_option linter.unusedSimpArgs false
set_option linter.unusedVariables false
theorem par_64 {l : Lv} (hl : LvF l) {a n : Nat} (hc : lvCheck l a = 0) (h : n < (lvBelow l a).toNat) : -9223372036854775808 ≤ (parF l n).2 ∧ (parF l n).2 ≤ 9223372036854775807 := by
  obtain ⟨z0, z1, -, -, b0, b1, -, -⟩ := lvBelow_ok hc
  have hcr : ∀ j, -9223372036854775808 ≤ l.crd.getD j 0 ∧ l.crd.getD j 0 ≤ 9223372036854775807 := fun j => by
    by_cases hj : j < l.crd.length
    · have e : l.crd.getD j 0 = l.crd[j] := by simp [hj]
      rw [e]
      exact hl.crd.2 _ (List.getElem_mem hj)
    · have e : l.crd.getD j 0 = 0 := by simp [List.getElem?_eq_none (show l.crd.length ≤ j by omega)]
      rw [e]; omega
  unfold parF
  split
  · have := Nat.mod_le n l.sz.toNat
    simp only
    omega
  split
  · exact hcr _
  · exact hcr _
section
variable {S : List Int} {F : List (Int × Int × Int)} {L : List Lv} {V : List Int}
theorem TnOk.lvf (h : TnOk S F L V) (k : Few S F L V) : ∀ l ∈ L, LvF l := fun l hl => by
  obtain ⟨a1, a2, a3, a4⟩ := h.l.2 l hl
  have := k.c l hl
  exact ⟨a1, a2, a3, a4, by omega, by omega⟩
theorem up_ok (h : TnOk S F L V) (k : Few S F L V) (hc : tnC S F L V = 0) : ∃ ws, cntP S F L V = (ws, 0) ∧ ws.length = L.length ∧ ∀ n, n < V.length → UpOk L ws n := by
  have hck : tnCheck S F (L.map toA) V = 0 := hc
  obtain ⟨-, M, -, -, hway⟩ := tn_way h.s.2 hck
  obtain ⟨ws, hws, hN⟩ := hway.hc
  refine ⟨ws, ?_, by simpa using cnt_len _ _ _ hws, fun n hn => ?_⟩
  · rw [cntP, countsF, if_neg (by omega), cntF, hws]
  have hwl := cnt_len _ _ _ hws
  have hnn := cntGo_nonneg hws
  have hah : ∀ i, (((1 : Nat) : Int) :: ws).getD i 0 = ahF 1 ws i ∧ ahF 1 ws i ≤ 1048576 := fun i => by
    have : 0 ≤ (((1 : Nat) : Int) :: ws).getD i 0 ∧ (((1 : Nat) : Int) :: ws).getD i 0 ≤ 1048576 := by
      cases i with
      | zero => simp
      | succ i =>
        by_cases hi : i < ws.length
        · have := hnn _ (List.getElem_mem hi)
          simpa [hi] using this
        · simp [List.getElem?_eq_none (show ws.length ≤ i by omega)]
    rw [ahF]
    omega
  have cnt : ∀ i (hi : i < L.length), _ := fun i hi => cnt_at hws (n := n) (by omega) (i := i) (by simpa using hi)
  have hd : ∀ i, ((L.map toA).drop i).map LvA.lv = L.drop i := fun i => by rw [List.map_drop, toA_map]
  refine ⟨by simpa using hwl, fun i hi => ?_, fun i hi => ?_⟩
  · obtain ⟨c1, c2, c3⟩ := cnt i hi
    simp only [List.getElem_map, toA_lv, hd] at c1 c2 c3
    exact ⟨c1, c2, (hah i).2, (hah i).1, c3⟩
  · obtain ⟨c1, c2, c3⟩ := cnt i hi
    simp only [List.getElem_map, toA_lv, hd] at c1 c2 c3
    exact par_64 (h.lvf k _ (List.getElem_mem hi)) c1 c2
theorem TnOk.modes (h : TnOk S F L V) (hc : tnC S F L V = 0) : F.length = L.length ∧ ∀ s ∈ F, 0 ≤ s.2.1 ∧ s.2.1 < S.length := by
  have hck : tnCheck S F (L.map toA) V = 0 := hc
  obtain ⟨-, M, hM, -, -⟩ := tn_way h.s.2 hck
  exact ⟨by have := (tnCheck_ok hck).2.1; simp at this; omega, fun s hs => ((readF_ok hM).1 s hs).1⟩
end
end Go.Fw
