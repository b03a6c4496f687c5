/- MergeOrder. -/
import Derived.Test.YtkfooghdpfhiaaaFwlaw07l
namespace Go.Fw
open Go Go.RowKit Go.Proofs
set_option maxRecDepth 100000
set_option linter.unusedSimpArgs false
set_option linter.unusedVariables false

theorem OrdR.next {A : List (List Int)} {out L : List Nat} (h : OrdR A out L) : (∃ t, L = out ++ t ∧ ∀ m (hm : m < t.length), nextF A (out ++ t.take m) = some t[m]) ∧ nextF A L = none := by
  induction h with
  | done h0 => exact ⟨⟨[], by simp, fun m hm => by simp at hm⟩, h0⟩
  | @step out k l h0 _ ih =>
    obtain ⟨⟨t, rfl, h2⟩, h3⟩ := ih
    refine ⟨⟨k :: t, by simp, fun m hm => ?_⟩, h3⟩
    cases m with
    | zero => simpa using h0
    | succ m =>
      have := h2 m (by simpa using hm)
      simpa using this
theorem next_may {A : List (List Int)} {out : List Nat} {k : Nat} (h : nextF A out = some k) : k < A.length ∧ may A out k = true ∧ ∀ j, j < k → may A out j = false := by
  rw [nextF, List.find?_range_eq_some] at h
  obtain ⟨h1, h2, h3⟩ := h
  exact ⟨by simpa using h2, h1, fun j hj => by simpa using h3 j hj⟩
/-- May it come, by what has come? -/
def mayB (A : List (List Int)) (c : List Bool) (i : Nat) : Bool := !(c.getD i false) && (A.getD i []).all fun x => c.getD x.toNat false
theorem mayB_may {A : List (List Int)} {out : List Nat} {c : List Bool} (hc : c = (List.range A.length).map fun j => decide (j ∈ out)) (hA : inA A) {i : Nat} (hi : i < A.length) : mayB A c i = may A out i := by
  have hg : ∀ j, j < A.length → c.getD j false = decide (j ∈ out) := fun j hj => by simp [hc, List.getD, hj]
  rw [mayB, hg i hi, may]
  congr 1
  · simp
  · rw [Bool.eq_iff_iff]
    simp only [List.all_eq_true, decide_eq_true_eq, wt, List.length_eq_zero_iff, List.filter_eq_nil_iff]
    have hAi : ∀ x ∈ A.getD i [], 0 ≤ x ∧ x < A.length := fun x hx => by
      simp only [List.getD, List.getElem?_eq_getElem hi, Option.getD_some] at hx
      exact hA _ (List.getElem_mem hi) x hx
    constructor
    · intro h x hx
      have h1 := h x hx
      have h2 := hAi x hx
      rw [hg _ (by omega)] at h1
      simpa using h1
    · intro h x hx
      have h2 := hAi x hx
      rw [hg _ (by omega)]
      have := h x hx
      simpa using this
abbrev HO (A : List (List Int)) (c : List Bool) : List AObj := [bx 31 1 (Ls A), ob 4 1 (c.map Bo), bx 39 1 (.slc 1 c.length 0 c.length none)]
def lMay_1 : AC := (.seq (.ops [.o 17 (.bin .lss (.t 16) (.t 15))]) (.seq (.cond (.t 17) .skip (.exit 0)) (.seq (.block 1 (.seq (.ops [.o 18 (.iad 1 (.t 14) (.t 16)), .o 19 (.ld 1 false (.t 18)), .m 6 (.t 19)]) (.seq (.ops [.o 20 (.ld 1 false (.t 1)), .m 21 (.t 6), .o 22 (.iad 1 (.t 20) (.t 21)), .o 23 (.ld 1 false (.t 22)), .o 24 (.un .not (.t 23))]) (.cond (.t 24) (.seq (.ops [.m 4 (.b false)]) .ret) .skip)))) (.ops [.o 25 (.bin .add (.t 16) (.i 1)), .m 16 (.t 25)]))))
def lMay_ac : AC := (.seq (.ops [.m 4 (.b false)]) (.seq (.seq (.ops [.o 7 (.ld 1 false (.t 1)), .m 8 (.t 0), .o 9 (.iad 1 (.t 7) (.t 8)), .o 10 (.ld 1 false (.t 9))]) (.cond (.t 10) (.seq (.ops [.m 4 (.b false)]) .ret) .skip)) (.seq (.seq (.ops [.o 11 (.ld 1 false (.t 2)), .m 12 (.t 0), .o 13 (.iad 1 (.t 11) (.t 12)), .o 14 (.ld 1 false (.t 13)), .o 15 (.len (.t 14)), .m 16 (.i 0)]) (.block 0 (.loop lMay_1))) (.seq (.ops [.m 4 (.b true)]) .ret))))
theorem lMay_w {args : List AV} {H : List AObj} {R : AV → List AObj → Prop} (h : wp Try.prog [] H.length lMay_ac (bodyW [(.t 4)] (Nr R .mk)) (args ++ List.replicate (26 - args.length) .und) H) : ACalls Try.prog 18 args H R :=
  ACalls.of_wp Try.func18 rfl (by kernel_rfl) rfl Try.ntmps18 h
set_option maxHeartbeats 2000000 in
theorem lMay_c (A : List (List Int)) (c : List Bool) (hc : c.length = A.length) (hn : A.length ≤ 1000000) (hF : A.flatten.length ≤ 1000000) (hA : inA A) (i : Nat) (hi : i < A.length) :
    ACalls Try.prog 18 [I i, .ptr 2 1 0 0, .ptr 0 1 0 0] (HO A c) fun r H' => H' = HO A c ∧ r = Bo (mayB A c i) := by
  refine lMay_w ?_
  have hic : i < c.length := by omega
  simp (disch := omega) [ar, -List.take_append_getElem, lMay_ac]
  cases hci : c[i]
  rotate_left
  · simp (disch := omega) [ar, -List.take_append_getElem]
    simp [mayB, List.getD, hic, hci]
  have hll := ll_len hi hF
  obtain ⟨l, hl⟩ : ∃ l, A[i] = l := ⟨_, rfl⟩
  rw [hl] at hll
  have hlr : ∀ x ∈ l, 0 ≤ x ∧ x < A.length := fun x hx => hA l (by rw [← hl]; exact List.getElem_mem hi) x hx
  have hm : mayB A c i = l.all fun x => c.getD x.toNat false := by
    simp only [mayB, List.getD, List.getElem?_eq_getElem hic, List.getElem?_eq_getElem hi, Option.getD_some, hci, hl]; simp
  simp (disch := omega) [ar, -List.take_append_getElem, hl]
  refine Lp.op (σ := Nat) (fun m => m ≤ l.length ∧ ∀ x ∈ l.take m, c.getD x.toNat false = true) (fun m => l.length - m) (fun m => fm 26 [(1, .ptr 2 1 0 0), (14, Is l), (15, I l.length), (16, I m)]) (fun _ => HO A c) 0 ⟨⟨Nat.zero_le _, by simp⟩, by simp, rfl⟩ ?_
  rintro m ⟨hml, hx⟩
  simp (disch := omega) [ar, -List.take_append_getElem, lMay_1]
  (first | refine Cnd.sp (fun h1 => ?_) fun h1 => ?_ | refine Gd.sp (fun h1 => ?_) fun h1 => ?_) <;> (try simp at h1) <;> (try simp (disch := omega) [ar, -List.take_append_getElem, h1])
  · have h2 : m < l.length := by omega
    obtain ⟨x, hxe⟩ : ∃ x, l[m] = x := ⟨_, rfl⟩
    have hxl : x ∈ l := by rw [← hxe]; exact List.getElem_mem h2
    obtain ⟨h3, h4⟩ := hlr x hxl
    obtain ⟨k, rfl⟩ : ∃ k : Nat, x = k := ⟨x.toNat, by omega⟩
    have h5 : k < c.length := by omega
    have hg : c.getD k false = c[k] := by simp [List.getD, h5]
    simp (disch := omega) [ar, -List.take_append_getElem, hxe]
    cases h6 : c[k]
    · simp (disch := omega) [ar, -List.take_append_getElem]
      rw [hm]
      simp only [List.all_eq_false]
      exact ⟨_, hxl, by simp [List.getD, h5, h6]⟩
    · simp (disch := omega) [ar, -List.take_append_getElem]
      refine ⟨m + 1, ⟨by omega, fun y hy => ?_⟩, by omega, by omega⟩
      rw [List.take_succ_eq_append_getElem h2] at hy
      rcases List.mem_append.1 hy with h | h
      · exact hx y h
      · rw [List.mem_singleton.1 h, hxe]; simp [List.getD, h5, h6]
  · rw [hm]
    rw [List.take_of_length_le (by omega)] at hx
    simp only [List.all_eq_true]
    exact hx
theorem ACalls.cp {P : Program} {g : FuncId} {args : List AV} {H : List AObj} {R : AV → Prop} {prot : Bool} {next : List AV → List AObj → Prop} {d : Option Nat} {fr : List AV} {b : Kb next d fr} {bb : Cb (Kp next d fr b)} (h : ACalls P g args H fun r H' => H' = H ∧ R r) (k : ∀ r, R r → Kp next d fr b r H) : ACalls P g args H (Cp prot H (Kp next d fr b) bb) :=
  h.mono fun r H' ⟨e, hr⟩ => by subst e; exact ⟨fun _ => ⟨[], by simp⟩, k r hr⟩
theorem steps_len {A : List (List Int)} {L : List Nat} (h : ∀ (m : Nat) (hm : m < L.length), nextF A (List.take m L) = some L[m]) : ∀ m, m ≤ L.length → m + leftN A.length (L.take m) = A.length
  | 0, _ => by simp [leftN, List.filter_eq_self.2]
  | m + 1, hm => by
    have ih := steps_len h m (by omega)
    obtain ⟨h1, h2, _⟩ := next_may (h m (by omega))
    have h3 : L[m] ∉ L.take m := by simp [may] at h2; exact h2.1
    have h4 := leftN_snoc h1 h3
    rw [List.take_succ_eq_append_getElem (by omega)]
    omega
def lOrder_2 : AC := (.seq (.ops [.o 37 (.bin .lss (.t 36) (.t 35))]) (.seq (.cond (.t 37) .skip (.exit 2)) (.seq (.block 3 (.seq (.ops [.o 38 (.iad 1 (.t 34) (.t 36)), .o 39 (.ld 1 false (.t 38)), .m 9 (.t 39)]) (.seq (.ops [.m 40 (.t 9), .o 41 (.bin .lss (.t 40) (.i 0)), .m 42 (.t 41), .mg 43 42 false (.t 9), .og 44 42 false (.ld 1 false (.t 1)), .og 45 42 false (.len (.t 44)), .og 46 42 false (.bin .geq (.t 43) (.t 45)), .o 47 (.pick (.t 42) (.b true) (.t 46))]) (.cond (.t 47) (.seq (.ops [.m 48 (.t 3), .m 49 (.t 48), .mg 50 49 true (.t 5), .og 51 49 true (.bin .eql (.t 50) (.i 3)), .o 52 (.pick (.t 49) (.t 51) (.b false)), .m 53 (.t 52), .mg 54 53 true (.t 4), .og 55 53 true (.len (.t 54)), .og 56 53 true (.bin .eql (.t 55) (.i 0)), .o 57 (.pick (.t 53) (.t 56) (.b false)), .m 2 (.t 57)]) .ret) .skip)))) (.ops [.o 58 (.bin .add (.t 36) (.i 1)), .m 36 (.t 58)]))))
def lOrder_1 : AC := (.seq (.ops [.o 31 (.bin .lss (.t 30) (.t 29))]) (.seq (.cond (.t 31) .skip (.exit 0)) (.seq (.block 1 (.seq (.ops [.o 32 (.iad 1 (.t 28) (.t 30)), .o 33 (.ld 1 false (.t 32)), .m 7 (.t 33)]) (.seq (.ops [.m 34 (.t 7), .o 35 (.len (.t 34)), .m 36 (.i 0)]) (.block 2 (.loop lOrder_2))))) (.ops [.o 59 (.bin .add (.t 30) (.i 1)), .m 30 (.t 59)]))))
def lOrder_4 : AC := (.seq (.ops [.o 93 (.bin .lss (.t 92) (.t 91))]) (.seq (.cond (.t 93) .skip (.exit 6)) (.seq (.block 7 (.seq (.ops [.m 94 (.t 92), .m 14 (.t 94)]) (.seq (.ops [.m 95 (.t 11), .m 96 (.t 14), .c 97 false (.t 95) [(.t 96)]]) (.cond (.t 97) (.seq (.ops [.m 2 (.b false)]) .ret) .skip)))) (.ops [.o 98 (.bin .add (.t 92) (.i 1)), .m 92 (.t 98)]))))
def lOrder_3 : AC := (.seq (.ops [.o 74 (.bin .lss (.t 73) (.t 72))]) (.seq (.cond (.t 74) .skip (.exit 4)) (.seq (.block 5 (.seq (.ops [.o 75 (.iad 1 (.t 71) (.t 73)), .o 76 (.ld 1 false (.t 75)), .m 13 (.t 76)]) (.seq (.seq (.ops [.m 77 (.t 13), .o 78 (.bin .lss (.t 77) (.i 0)), .m 79 (.t 78), .mg 80 79 false (.t 13), .og 81 79 false (.ld 1 false (.t 1)), .og 82 79 false (.len (.t 81)), .og 83 79 false (.bin .geq (.t 80) (.t 82)), .o 84 (.pick (.t 79) (.b true) (.t 83)), .m 85 (.t 84), .mg 86 85 false (.t 11), .mg 87 85 false (.t 13), .cg 88 85 false false (.t 86) [(.t 87)], .og 89 85 false (.un .not (.t 88)), .o 90 (.pick (.t 85) (.b true) (.t 89))]) (.cond (.t 90) (.seq (.ops [.m 2 (.b false)]) .ret) .skip)) (.seq (.seq (.ops [.m 91 (.t 13), .m 92 (.i 0)]) (.block 6 (.loop lOrder_4))) (.ops [.o 99 (.ld 1 false (.t 10)), .m 100 (.t 13), .o 101 (.iad 1 (.t 99) (.t 100)), .on (.st 1 (.t 101) (.b true))]))))) (.ops [.o 102 (.bin .add (.t 73) (.i 1)), .m 73 (.t 102)]))))
def lOrder_6 : AC := (.seq (.ops [.o 118 (.bin .lss (.t 117) (.t 116))]) (.seq (.cond (.t 118) .skip (.exit 10)) (.seq (.block 11 (.seq (.ops [.m 119 (.t 117), .m 15 (.t 119)]) (.ops [.o 120 (.ld 1 false (.t 10)), .m 121 (.t 15), .o 122 (.ld 1 false (.t 10)), .m 123 (.t 15), .o 124 (.iad 1 (.t 122) (.t 123)), .o 125 (.ld 1 false (.t 124)), .m 126 (.t 125), .mg 127 126 false (.t 11), .mg 128 126 false (.t 15), .cg 129 126 false true (.t 127) [(.t 128)], .o 130 (.pick (.t 126) (.b true) (.t 129)), .o 131 (.iad 1 (.t 120) (.t 121)), .on (.st 1 (.t 131) (.t 130))]))) (.ops [.o 132 (.bin .add (.t 117) (.i 1)), .m 117 (.t 132)]))))
def lOrder_5 : AC := (.seq (.ops [.o 114 (.bin .lss (.t 113) (.t 112))]) (.seq (.cond (.t 114) .skip (.exit 8)) (.seq (.block 9 (.seq (.ops [.o 115 (.ld 1 false (.t 1)), .o 116 (.len (.t 115)), .m 117 (.i 0)]) (.block 10 (.loop lOrder_6)))) (.ops [.o 133 (.bin .add (.t 113) (.i 1)), .m 113 (.t 133)]))))
def lOrder_7 : AC := (.seq (.ops [.o 137 (.bin .lss (.t 136) (.t 135))]) (.seq (.cond (.t 137) .skip (.exit 12)) (.seq (.block 13 (.seq (.ops [.o 138 (.iad 1 (.t 134) (.t 136)), .o 139 (.ld 1 false (.t 138)), .m 17 (.t 139)]) (.seq (.ops [.m 140 (.t 17), .o 141 (.un .not (.t 140))]) (.cond (.t 141) (.seq (.ops [.m 142 (.t 3), .m 2 (.t 142)]) .ret) .skip)))) (.ops [.o 143 (.bin .add (.t 136) (.i 1)), .m 136 (.t 143)]))))
def lOrder_ac : AC := (.seq (.ops [.o 1 (.new 31 1 (.t 0)), .m 2 (.b false)]) (.seq (.ops [.c 18 false (.f 14) [], .m 3 (.t 18)]) (.seq (.seq (.ops [.o 19 (.ld 1 false (.t 1)), .c 20 false (.f 15) [(.t 19)], .o 21 (.un .not (.t 20))]) (.cond (.t 21) (.seq (.ops [.m 22 (.t 3), .m 2 (.t 22)]) .ret) .skip)) (.seq (.ops [.o 24 (.ld 1 false (.t 1)), .c 25 false (.f 17) [(.t 24)], .m 23 (.t 25), .o 26 (.ext (.t 23) 0), .o 27 (.ext (.t 23) 1), .m 4 (.t 26), .m 5 (.t 27)]) (.seq (.seq (.ops [.o 28 (.ld 1 false (.t 1)), .o 29 (.len (.t 28)), .m 30 (.i 0)]) (.block 0 (.loop lOrder_1))) (.seq (.ops [.o 60 (.ld 1 false (.t 1)), .o 61 (.len (.t 60)), .o 62 (.mkS 4 1 1 (.sc (.bool false)) (.t 61) (.t 61)), .o 10 (.new 39 1 .z), .on (.st 1 (.t 10) (.t 62))]) (.seq (.ops [.o 63 (.mkF (.func 18) [] [(.t 10), (.t 1)]), .m 11 (.t 63)]) (.seq (.seq (.ops [.m 64 (.t 5), .o 65 (.bin .eql (.t 64) (.i 0))]) (.cond (.t 65) (.seq (.seq (.ops [.m 66 (.t 4), .o 67 (.len (.t 66)), .o 68 (.ld 1 false (.t 1)), .o 69 (.len (.t 68)), .o 70 (.bin .neq (.t 67) (.t 69))]) (.cond (.t 70) (.seq (.ops [.m 2 (.b false)]) .ret) .skip)) (.seq (.seq (.ops [.m 71 (.t 4), .o 72 (.len (.t 71)), .m 73 (.i 0)]) (.block 4 (.loop lOrder_3))) (.seq (.ops [.m 103 (.t 3), .m 2 (.t 103)]) .ret))) .skip)) (.seq (.seq (.ops [.m 104 (.t 5), .o 105 (.bin .neq (.t 104) (.i 5)), .m 106 (.t 105), .mg 107 106 false (.t 4), .og 108 106 false (.len (.t 107)), .og 109 106 false (.bin .gtr (.t 108) (.i 0)), .o 110 (.pick (.t 106) (.b true) (.t 109))]) (.cond (.t 110) (.seq (.ops [.m 2 (.b false)]) .ret) .skip)) (.seq (.seq (.ops [.o 111 (.ld 1 false (.t 1)), .o 112 (.len (.t 111)), .m 113 (.i 0)]) (.block 8 (.loop lOrder_5))) (.seq (.seq (.ops [.o 134 (.ld 1 false (.t 10)), .o 135 (.len (.t 134)), .m 136 (.i 0)]) (.block 12 (.loop lOrder_7))) (.seq (.ops [.m 2 (.b false)]) .ret))))))))))))
theorem lOrder_w {args : List AV} {H : List AObj} {R : AV → List AObj → Prop} (h : wp Try.prog [] H.length lOrder_ac (bodyW [(.t 2)] (Nr R .mk)) (args ++ List.replicate (144 - args.length) .und) H) : ACalls Try.prog 5 args H R :=
  ACalls.of_wp Try.func5 rfl (by kernel_rfl) rfl Try.ntmps5 h
/-- What has come, as the program has it. -/
def cameF (n : Nat) (out : List Nat) : List Bool := (List.range n).map fun j => decide (j ∈ out)
@[simp] theorem cameF_len {n : Nat} {out : List Nat} : (cameF n out).length = n := by simp [cameF]
theorem cameF_nil {n : Nat} : cameF n [] = List.replicate n false := by simp [cameF, List.map_const']
theorem cameF_set {n : Nat} {out : List Nat} {k : Nat} (hk : k < n) : (cameF n out).set k true = cameF n (out ++ [k]) := by
  apply List.ext_getElem (by simp)
  intro i h1 h2
  simp at h1
  rw [List.getElem_set]
  by_cases e : k = i
  · subst e; simp [cameF]
  · rw [if_neg e]; simp [cameF, Ne.symm e]
/-- Where no more may come, what comes anyway has come. -/
theorem mayB_out {A : List (List Int)} {L : List Nat} {c : List Bool} (hc : ∀ j, c.getD j false = true → j ∈ L) (hA : inA A) (hL : nextF A L = none) {i : Nat} (hi : i < A.length) (h : mayB A c i = true) : i ∈ L := by
  refine Classical.byContradiction fun hn => ?_
  rw [nextF, List.find?_eq_none] at hL
  refine hL i (by simpa using hi) ?_
  simp only [mayB, Bool.and_eq_true, List.all_eq_true] at h
  simp only [may, hn, not_false_eq_true, decide_true, Bool.true_and, decide_eq_true_eq, wt, List.length_eq_zero_iff, List.filter_eq_nil_iff]
  intro x hx
  have := hc _ (h.2 x hx)
  simpa using this
abbrev FO (A : List (List Int)) (o : List Int) (e : Int) (n : Nat) (r : List (Nat × AV)) : List AV := fm 144 ([(1, .ptr 0 1 0 0), (3, Bo true), (4, Is o), (5, I e), (10, .ptr 2 1 0 0), (11, .fn (.func 18) [] [.ptr 2 1 0 0, .ptr 0 1 0 0])] ++ r)
set_option maxHeartbeats 4000000 in
theorem lOrder_p (A : List (List Int)) (hA1 : A.length ≤ 140737488351232) (hAl : ∀ l ∈ A, OkI l) : Pu Try.prog 5 [Ls A] (Bo true) := by
  refine Pu.of 4 (lOrder_w ?_)
  simp (disch := omega) [ar, -List.take_append_getElem, lOrder_ac]
  refine Pu.c live7_p ?_
  simp (disch := omega) [ar, -List.take_append_getElem]
  refine Pu.c (few7_p A hA1 fun l h => (hAl l h).1) ?_
  cases h0 : fewF A
  · simp (disch := omega) [ar, -List.take_append_getElem]
  simp (disch := omega) [ar, -List.take_append_getElem]
  obtain ⟨hn, hF⟩ := few_of h0
  refine Pu.c (mord_p A (by omega) (by omega)) ?_
  simp (disch := omega) [ar, -List.take_append_getElem]
  obtain ⟨o, ho⟩ : ∃ o, o = (ordF A).1 := ⟨_, rfl⟩
  obtain ⟨e, he⟩ : ∃ e, e = (ordF A).2 := ⟨_, rfl⟩
  rw [← ho, ← he]
  refine Lp.op (σ := Nat) (fun i => i ≤ A.length ∧ ∀ l ∈ A.take i, ∀ x ∈ l, 0 ≤ x ∧ x < (A.length : Int)) (fun i => A.length - i) (fun i => fm 144 [(1, .ptr 0 1 0 0), (3, Bo true), (4, Is o), (5, I e), (28, Ls A), (29, I A.length), (30, I i)])
    (fun i => [bx 31 1 (Ls A)]) 0 ⟨⟨Nat.zero_le _, by simp⟩, by simp, rfl⟩ ?_
  rintro i ⟨hi, hin⟩
  simp (disch := omega) [ar, -List.take_append_getElem, lOrder_1]
  (first | refine Cnd.sp (fun h1 => ?_) fun h1 => ?_ | refine Gd.sp (fun h1 => ?_) fun h1 => ?_) <;> (try simp at h1) <;> (try simp (disch := omega) [ar, -List.take_append_getElem, h1])
  · have hil : i < A.length := by omega
    have hll := ll_len hil (by omega)
    obtain ⟨l, hl⟩ : ∃ l, A[i] = l := ⟨_, rfl⟩
    rw [hl] at hll
    have bad : ∀ x ∈ l, ¬ (0 ≤ x ∧ x < (A.length : Int)) → ordF A = ([], 3) := fun x hx h => by
      rw [ordF, if_neg]
      intro hA; exact h (hA l (by rw [← hl]; exact List.getElem_mem hil) x hx)
    simp (disch := omega) [ar, -List.take_append_getElem, hl]
    refine Lp.op (σ := Nat) (fun m => m ≤ l.length ∧ ∀ x ∈ l.take m, 0 ≤ x ∧ x < (A.length : Int)) (fun m => l.length - m) (fun m => fm 144 [(1, .ptr 0 1 0 0), (3, Bo true), (4, Is o), (5, I e), (28, Ls A), (29, I A.length), (30, I i), (34, Is l), (35, I l.length), (36, I m)])
      (fun m => [bx 31 1 (Ls A)]) 0 ⟨⟨Nat.zero_le _, by simp⟩, by simp, rfl⟩ ?_
    rintro m ⟨hm, hx⟩
    simp (disch := omega) [ar, -List.take_append_getElem, lOrder_2]
    (first | refine Cnd.sp (fun h2 => ?_) fun h2 => ?_ | refine Gd.sp (fun h2 => ?_) fun h2 => ?_) <;> (try simp at h2) <;> (try simp (disch := omega) [ar, -List.take_append_getElem, h2])
    · have hml : m < l.length := by omega
      have hxl : l[m] ∈ l := List.getElem_mem hml
      (first | refine Cnd.sp (fun h3 => ?_) fun h3 => ?_ | refine Gd.sp (fun h3 => ?_) fun h3 => ?_) <;> (try simp at h3) <;> (try simp (disch := omega) [ar, -List.take_append_getElem, h3])
      · have hb := bad _ hxl (by omega)
        simp (disch := omega) [ar, -List.take_append_getElem, ho, he, hb]
      · (first | refine Cnd.sp (fun h4 => ?_) fun h4 => ?_ | refine Gd.sp (fun h4 => ?_) fun h4 => ?_) <;> (try simp at h4) <;> (try simp (disch := omega) [ar, -List.take_append_getElem, h4])
        · have hb := bad _ hxl (by omega)
          simp (disch := omega) [ar, -List.take_append_getElem, ho, he, hb]
        · refine ⟨m + 1, ⟨by omega, fun x hx1 => ?_⟩, by omega, by omega⟩
          rw [List.take_succ_eq_append_getElem hml] at hx1
          rcases List.mem_append.1 hx1 with h | h
          · exact hx x h
          · rw [List.mem_singleton.1 h]; omega
    · rw [List.take_of_length_le (by omega)] at hx
      refine ⟨i + 1, ⟨by omega, fun l' hl' x hx' => ?_⟩, by omega, by omega⟩
      rw [List.take_succ_eq_append_getElem hil, hl] at hl'
      rcases List.mem_append.1 hl' with h | h
      · exact hin l' h x hx'
      · rw [List.mem_singleton.1 h] at hx'; exact hx x hx'
  · have hinA : inA A := fun l hl x hx => by
      have := hin l (by rw [List.take_of_length_le (by omega)]; exact hl) x hx
      omega
    obtain ⟨L, hL⟩ : ∃ L, L = ordL A := ⟨_, rfl⟩
    obtain ⟨⟨t, ht, hstep⟩, hnone⟩ := (ordL_spec A).next
    simp only [List.nil_append] at ht hstep
    subst ht
    rw [← hL] at hstep hnone
    have hF0 : ordF A = if L.length < A.length then ([], 5) else (L.map fun (k : Nat) => (k : Int), 0) := by rw [ordF, if_pos hinA, hL]
    clear hin hi h1
    have hLn := steps_len hstep L.length (Nat.le_refl _)
    rw [List.take_of_length_le (Nat.le_refl _)] at hLn
    have e0 : cameF A.length [] = List.replicate A.length false := cameF_nil
    obtain ⟨n, hnA⟩ : ∃ n, A.length = n := ⟨_, rfl⟩
    by_cases hLl : L.length < A.length
    · rw [if_pos hLl] at hF0
      have ho' : o = [] := by rw [ho, hF0]
      have he' : e = 5 := by rw [he, hF0]
      subst ho' he'
      clear ho he hF0
      simp (disch := omega) [ar, -List.take_append_getElem]
      refine Lp.op (σ := Nat × List Bool) (fun s => s.1 ≤ A.length ∧ s.2.length = A.length ∧ ∀ j, s.2.getD j false = true → j ∈ L) (fun s => A.length - s.1) (fun s => FO A [] 5 A.length [(112, I A.length), (113, I s.1)]) (fun s => HO A s.2) (0, cameF A.length []) ⟨⟨Nat.zero_le _, by simp, fun j h => ?_⟩, by simp, by simp [e0]⟩ ?_
      · exfalso
        rw [e0] at h
        simp only [List.getD, List.getElem?_replicate] at h
        split at h <;> simp at h
      rintro ⟨i, c⟩ ⟨hi, hcl, hc⟩
      simp only at hi hcl hc
      simp (disch := omega) [ar, -List.take_append_getElem, lOrder_5]
      (first | refine Cnd.sp (fun h1 => ?_) fun h1 => ?_ | refine Gd.sp (fun h1 => ?_) fun h1 => ?_) <;> (try simp at h1) <;> (try simp (disch := omega) [ar, -List.take_append_getElem, h1])
      · refine Lp.op (σ := Nat × List Bool) (fun s => s.1 ≤ A.length ∧ s.2.length = A.length ∧ ∀ j, s.2.getD j false = true → j ∈ L) (fun s => A.length - s.1) (fun s => FO A [] 5 A.length [(112, I A.length), (113, I i), (116, I A.length), (117, I s.1)]) (fun s => HO A s.2) (0, c) ⟨⟨Nat.zero_le _, hcl, hc⟩, by simp, rfl⟩ ?_
        clear hc hcl
        rintro ⟨m, c⟩ ⟨hm, hcl, hc⟩
        simp only at hm hcl hc
        simp (disch := omega) [ar, -List.take_append_getElem, lOrder_6]
        (first | refine Cnd.sp (fun h2 => ?_) fun h2 => ?_ | refine Gd.sp (fun h2 => ?_) fun h2 => ?_) <;> (try simp at h2) <;> (try simp (disch := omega) [ar, -List.take_append_getElem, h2])
        · have hmc : m < c.length := by omega
          have hset : ∀ b, (b = true → m ∈ L) → ∀ j, (c.set m b).getD j false = true → j ∈ L := fun b hb j h => by
            by_cases ej : j = m
            · subst ej; simp [List.getD, hmc] at h; exact hb h
            · simp only [List.getD, List.getElem?_set_ne (Ne.symm ej)] at h; exact hc j h
          cases hcm : c[m]
          · simp (disch := omega) [ar, -List.take_append_getElem]
            refine ACalls.cp (lMay_c A c hcl (by omega) (by omega) hinA m (by omega)) ?_
            rintro r rfl
            obtain ⟨b, hb⟩ : ∃ b, mayB A c m = b := ⟨_, rfl⟩
            have hb2 : b = true → m ∈ L := fun e => mayB_out hc hinA hnone (by omega) (by rw [hb, e])
            rw [hb]
            simp (disch := omega) [ar, -List.take_append_getElem]
            exact ⟨m + 1, c.set m b, ⟨by omega, by simpa using hcl, hset b hb2⟩, by omega, by omega, List.map_set.symm, by simp⟩
          · simp (disch := omega) [ar, -List.take_append_getElem]
            refine ⟨m + 1, c.set m true, ⟨by omega, by simpa using hcl, hset true fun _ => hc m (by simp [List.getD, hmc, hcm])⟩, by omega, by omega, ?_⟩
            exact ⟨List.map_set.symm, by simp⟩
        · exact ⟨i + 1, c, ⟨by omega, hcl, hc⟩, by omega, by omega, rfl, rfl⟩
      · have hq : ∃ q, q < c.length ∧ c.getD q false = false := by
          refine Classical.byContradiction fun hno => ?_
          have hall : ∀ j, j < A.length → j ∈ L := fun j hj => hc j (by
            cases hb : c.getD j false
            · exact absurd ⟨j, by omega, hb⟩ hno
            · rfl)
          have : leftN A.length L = 0 := by
            rw [leftN, List.length_eq_zero_iff, List.filter_eq_nil_iff]
            intro j hj
            simpa using hall j (by simpa using hj)
          omega
        refine Lp.op (σ := Nat) (fun s => s ≤ A.length ∧ ∀ j, j < s → c.getD j false = true) (fun s => A.length - s) (fun s => FO A [] 5 A.length [(134, .slc 1 A.length 0 A.length none), (135, I A.length), (136, I s)]) (fun s => HO A c) 0 ⟨⟨Nat.zero_le _, fun j h => by omega⟩, by simp [hcl], rfl⟩ ?_
        rintro m ⟨hm, hcm⟩
        simp (disch := omega) [ar, -List.take_append_getElem, lOrder_7]
        (first | refine Cnd.sp (fun h2 => ?_) fun h2 => ?_ | refine Gd.sp (fun h2 => ?_) fun h2 => ?_) <;> (try simp at h2) <;> (try simp (disch := omega) [ar, -List.take_append_getElem, h2])
        · have hmc : m < c.length := by omega
          cases hb : c[m]
          · simp (disch := omega) [ar, -List.take_append_getElem]
          · simp (disch := omega) [ar, -List.take_append_getElem]
            refine ⟨m + 1, ⟨by omega, fun j hj => ?_⟩, by omega, by omega⟩
            by_cases ej : j = m
            · subst ej; simp [List.getD, hmc, hb]
            · exact hcm j (by omega)
        · obtain ⟨q, hq1, hq2⟩ := hq
          rw [hcm q (by omega)] at hq2
          cases hq2
    · rw [if_neg hLl] at hF0
      have ho' : o = L.map fun (k : Nat) => (k : Int) := by rw [ho, hF0]
      have he' : e = 0 := by rw [he, hF0]
      subst he'
      clear ho he hF0
      have hol : o.length = A.length := by rw [ho']; simp; omega
      have hoi : ∀ i (h : i < o.length), o[i] = (L[i]'(by rw [ho'] at h; simpa using h) : Nat) := fun i h => by simp [ho']
      have hLl2 : L.length = A.length := by omega
      simp (disch := omega) [ar, -List.take_append_getElem, hol]
      refine Lp.op (σ := Nat) (fun m => m ≤ L.length) (fun m => L.length - m) (fun m => FO A o 0 A.length [(71, Is o), (72, I A.length), (73, I m)]) (fun m => HO A (cameF A.length (L.take m))) 0 ⟨Nat.zero_le _, by simp, by simp [e0]⟩ ?_
      intro m hm
      simp (disch := omega) [ar, -List.take_append_getElem, lOrder_3]
      (first | refine Cnd.sp (fun h1 => ?_) fun h1 => ?_ | refine Gd.sp (fun h1 => ?_) fun h1 => ?_) <;> (try simp at h1) <;> (try simp (disch := omega) [ar, -List.take_append_getElem, h1])
      · have hmL : m < L.length := by omega
        obtain ⟨g1, g2, g3⟩ := next_may (hstep m hmL)
        have g4 := hoi m (by omega)
        obtain ⟨k, hk⟩ : ∃ k, L[m] = k := ⟨_, rfl⟩
        rw [hk] at g1 g2 g3 g4
        have g5 : ∀ j, j < A.length → mayB A (cameF A.length (L.take m)) j = may A (L.take m) j := fun j hj => mayB_may rfl hinA hj
        simp (disch := omega) [ar, -List.take_append_getElem, g4]
        refine ACalls.cp (lMay_c A (cameF A.length (L.take m)) (by simp) (by omega) (by omega) hinA k g1) ?_
        rintro r rfl
        simp (disch := omega) [ar, -List.take_append_getElem, g5 k g1, g2]
        have hck : k < (cameF A.length (L.take m)).length := by simpa using g1
        have hcs := cameF_set (out := L.take m) g1
        have hLm : L.take (m + 1) = L.take m ++ [k] := by rw [List.take_succ_eq_append_getElem hmL, hk]
        refine Lp.op (σ := Nat) (fun j => j ≤ k) (fun j => k - j) (fun j => FO A o 0 A.length [(13, I k), (71, Is o), (72, I A.length), (73, I m), (91, I k), (92, I j)]) (fun _ => HO A (cameF A.length (L.take m))) 0 ⟨Nat.zero_le _, by simp, rfl⟩ ?_
        intro j hj
        simp (disch := omega) [ar, -List.take_append_getElem, lOrder_4]
        (first | refine Cnd.sp (fun h2 => ?_) fun h2 => ?_ | refine Gd.sp (fun h2 => ?_) fun h2 => ?_) <;> (try simp at h2) <;> (try simp (disch := omega) [ar, -List.take_append_getElem, h2])
        · have h3 : j < k := by omega
          refine ACalls.cp (lMay_c A (cameF A.length (L.take m)) (by simp) (by omega) (by omega) hinA j (by omega)) ?_
          rintro r rfl
          simp (disch := omega) [ar, -List.take_append_getElem, g5 j (by omega), g3 j h3]
          exact ⟨j + 1, by omega, by omega, by omega⟩
        · exact ⟨m + 1, by omega, by omega, by omega, by rw [hLm, ← hcs, List.map_set]⟩
end Go.Fw
