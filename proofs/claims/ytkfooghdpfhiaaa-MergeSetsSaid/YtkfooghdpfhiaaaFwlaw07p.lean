/- merge.Pick. -/
import Derived.Test.YtkfooghdpfhiaaaFwlaw07l
namespace Go.Fw
open Go Go.RowKit Go.Proofs
set_option maxRecDepth 100000
set_option linter.unusedSimpArgs false
set_option linter.unusedVariables false

section
variable {α : Type} {l : List α} {p : α → Bool} {i : Nat}
theorem any_take (h : i < l.length) : (l.take (i + 1)).any p = ((l.take i).any p || p l[i]) := by
  rw [List.take_succ_eq_append_getElem h]; simp [-List.take_append_getElem]
end
def sIF_1 : AC := (.seq (.ops [.o 9 (.bin .lss (.t 8) (.t 7))]) (.seq (.cond (.t 9) .skip (.exit 0)) (.seq (.block 1 (.seq (.ops [.m 10 (.t 8), .m 5 (.t 10)]) (.seq (.ops [.m 11 (.t 1), .m 12 (.t 0), .m 13 (.t 5), .o 14 (.iad 1 (.t 12) (.t 13)), .o 15 (.ld 1 false (.t 14)), .c 16 false (.t 11) [(.t 15)]]) (.cond (.t 16) (.seq (.ops [.m 17 (.t 5), .m 4 (.t 17)]) .ret) .skip)))) (.ops [.o 18 (.bin .add (.t 8) (.i 1)), .m 8 (.t 18)]))))
def sIF_ac : AC := (.seq (.ops [.m 4 (.i 0)]) (.seq (.seq (.ops [.m 6 (.t 0), .o 7 (.len (.t 6)), .m 8 (.i 0)]) (.block 0 (.loop sIF_1))) (.seq (.ops [.m 4 (.i (-1))]) .ret)))
theorem sIF_w {args : List AV} {H : List AObj} {R : AV → List AObj → Prop} (h : wp Try.prog [] H.length sIF_ac (bodyW [(.t 4)] (Nr R .mk)) (args ++ List.replicate (19 - args.length) .und) H) : ACalls Try.prog 77 args H R :=
  ACalls.of_wp Try.func77 rfl (by kernel_rfl) rfl Try.ntmps77 h
theorem sIF_p (l : List Int) (g : FuncId) (caps : List AV) (p : Int → Bool) (hl : l.length ≤ 1000000000) (hc : noRefs caps = true) (hg : ∀ x ∈ l, Pu Try.prog g (I x :: caps) (Bo (p x))) :
    ∃ n : Int, (0 ≤ n ↔ l.any p = true) ∧ Pu Try.prog 77 [Is l, .fn (.func g) [] caps] (I n) := by
  obtain ⟨n, hn⟩ : ∃ n : Int, n = if l.any p then (l.findIdx p : Int) else -1 := ⟨_, rfl⟩
  refine ⟨n, ?_, ?_⟩
  · rw [hn]; cases l.any p <;> simp
  refine Pu.of 4 (sIF_w ?_)
  simp (disch := omega) [ar, -List.take_append_getElem, sIF_ac]
  have hfi : ∀ i (h : i < l.length), p l[i] = true → (∀ x ∈ l.take i, p x = false) → l.any p = true ∧ l.findIdx p = i := fun i h e hn => by
    refine ⟨List.any_eq_true.2 ⟨_, List.getElem_mem h, e⟩, ?_⟩
    rw [List.findIdx_eq h]
    exact ⟨e, fun j hj => hn _ (by rw [List.mem_take_iff_getElem]; exact ⟨j, by omega, rfl⟩)⟩
  refine Lp.op (σ := Nat) (fun i => i ≤ l.length ∧ ∀ x ∈ l.take i, p x = false) (fun i => l.length - i) (fun i => fm 19 [(0, Is l), (1, .fn (.func g) [] caps), (7, I l.length), (8, I i)]) (fun _ => []) 0 ⟨⟨Nat.zero_le _, by simp⟩, by simp, rfl⟩ ?_
  rintro i ⟨hi, hJ⟩
  simp (disch := omega) [ar, -List.take_append_getElem, sIF_1]
  (first | refine Cnd.sp (fun h1 => ?_) fun h1 => ?_ | refine Gd.sp (fun h1 => ?_) fun h1 => ?_) <;> (try simp at h1) <;> (try simp (disch := omega) [ar, -List.take_append_getElem, h1])
  · have h3 : i < l.length := by omega
    refine Pu.c (hg l[i] (List.getElem_mem h3)) ?_ (hn := by simp [hc])
    cases hp : p l[i]
    · simp (disch := omega) [ar, -List.take_append_getElem]
      refine ⟨i + 1, ⟨by omega, fun x hx => ?_⟩, by omega, by omega⟩
      rw [List.take_succ_eq_append_getElem h3] at hx
      rcases List.mem_append.1 hx with h | h
      · exact hJ x h
      · rw [List.mem_singleton.1 h]; exact hp
    · obtain ⟨g1, g2⟩ := hfi i h3 hp hJ
      have g3 : n = i := by rw [hn, g1, if_pos rfl, g2]
      simp (disch := omega) [ar, -List.take_append_getElem, g3]
  · have h4 : l.any p = false := by
      rw [List.take_of_length_le (by omega)] at hJ
      rw [List.any_eq_false]; intro x hx; simp [hJ x hx]
    have h5 : n = -1 := by rw [hn, h4]; rfl
    simp [h5]
def sCF_ac : AC := (.seq (.ops [.m 4 (.b false)]) (.seq (.ops [.m 5 (.t 0), .m 6 (.t 1), .c 7 false (.f 77) [(.t 5), (.t 6)], .o 8 (.bin .geq (.t 7) (.i 0)), .m 4 (.t 8)]) .ret))
theorem sCF_w {args : List AV} {H : List AObj} {R : AV → List AObj → Prop} (h : wp Try.prog [] H.length sCF_ac (bodyW [(.t 4)] (Nr R .mk)) (args ++ List.replicate (9 - args.length) .und) H) : ACalls Try.prog 56 args H R :=
  ACalls.of_wp Try.func56 rfl (by kernel_rfl) rfl Try.ntmps56 h
theorem sCF_p (l : List Int) (g : FuncId) (caps : List AV) (p : Int → Bool) (hl : l.length ≤ 1000000000) (hc : noRefs caps = true) (hg : ∀ x ∈ l, Pu Try.prog g (I x :: caps) (Bo (p x))) :
    Pu Try.prog 56 [Is l, .fn (.func g) [] caps] (Bo (l.any p)) := by
  obtain ⟨n, h1, h2⟩ := sIF_p l g caps p hl hc hg
  refine Pu.of 4 (sCF_w ?_)
  simp (disch := omega) [ar, -List.take_append_getElem, sCF_ac]
  refine Pu.c h2 ?_ (hn := by simp [noRef, hc])
  simp (disch := omega) [ar, -List.take_append_getElem]
  rw [Bool.eq_iff_iff, decide_eq_true_eq]; exact h1.symm
def sIFL_1 : AC := (.seq (.ops [.o 9 (.bin .lss (.t 8) (.t 7))]) (.seq (.cond (.t 9) .skip (.exit 0)) (.seq (.block 1 (.seq (.ops [.m 10 (.t 8), .m 5 (.t 10)]) (.seq (.ops [.m 11 (.t 1), .m 12 (.t 0), .m 13 (.t 5), .o 14 (.iad 1 (.t 12) (.t 13)), .o 15 (.ld 1 false (.t 14)), .c 16 false (.t 11) [(.t 15)]]) (.cond (.t 16) (.seq (.ops [.m 17 (.t 5), .m 4 (.t 17)]) .ret) .skip)))) (.ops [.o 18 (.bin .add (.t 8) (.i 1)), .m 8 (.t 18)]))))
def sIFL_ac : AC := (.seq (.ops [.m 4 (.i 0)]) (.seq (.seq (.ops [.m 6 (.t 0), .o 7 (.len (.t 6)), .m 8 (.i 0)]) (.block 0 (.loop sIFL_1))) (.seq (.ops [.m 4 (.i (-1))]) .ret)))
theorem sIFL_w {args : List AV} {H : List AObj} {R : AV → List AObj → Prop} (h : wp Try.prog [] H.length sIFL_ac (bodyW [(.t 4)] (Nr R .mk)) (args ++ List.replicate (19 - args.length) .und) H) : ACalls Try.prog 78 args H R :=
  ACalls.of_wp Try.func78 rfl (by kernel_rfl) rfl Try.ntmps78 h
theorem sIFL_p (l : List (List Int)) (g : FuncId) (caps : List AV) (p : List Int → Bool) (hl : l.length ≤ 1000000000) (hc : noRefs caps = true) (hg : ∀ x ∈ l, Pu Try.prog g (Is x :: caps) (Bo (p x))) :
    ∃ n : Int, (0 ≤ n ↔ l.any p = true) ∧ Pu Try.prog 78 [Ls l, .fn (.func g) [] caps] (I n) := by
  obtain ⟨n, hn⟩ : ∃ n : Int, n = if l.any p then (l.findIdx p : Int) else -1 := ⟨_, rfl⟩
  refine ⟨n, ?_, ?_⟩
  · rw [hn]; cases l.any p <;> simp
  refine Pu.of 4 (sIFL_w ?_)
  simp (disch := omega) [ar, -List.take_append_getElem, sIFL_ac]
  have hfi : ∀ i (h : i < l.length), p l[i] = true → (∀ x ∈ l.take i, p x = false) → l.any p = true ∧ l.findIdx p = i := fun i h e hn => by
    refine ⟨List.any_eq_true.2 ⟨_, List.getElem_mem h, e⟩, ?_⟩
    rw [List.findIdx_eq h]
    exact ⟨e, fun j hj => hn _ (by rw [List.mem_take_iff_getElem]; exact ⟨j, by omega, rfl⟩)⟩
  refine Lp.op (σ := Nat) (fun i => i ≤ l.length ∧ ∀ x ∈ l.take i, p x = false) (fun i => l.length - i) (fun i => fm 19 [(0, Ls l), (1, .fn (.func g) [] caps), (7, I l.length), (8, I i)]) (fun _ => []) 0 ⟨⟨Nat.zero_le _, by simp⟩, by simp, rfl⟩ ?_
  rintro i ⟨hi, hJ⟩
  simp (disch := omega) [ar, -List.take_append_getElem, sIFL_1]
  (first | refine Cnd.sp (fun h1 => ?_) fun h1 => ?_ | refine Gd.sp (fun h1 => ?_) fun h1 => ?_) <;> (try simp at h1) <;> (try simp (disch := omega) [ar, -List.take_append_getElem, h1])
  · have h3 : i < l.length := by omega
    refine Pu.c (hg l[i] (List.getElem_mem h3)) ?_ (hn := by simp [hc])
    cases hp : p l[i]
    · simp (disch := omega) [ar, -List.take_append_getElem]
      refine ⟨i + 1, ⟨by omega, fun x hx => ?_⟩, by omega, by omega⟩
      rw [List.take_succ_eq_append_getElem h3] at hx
      rcases List.mem_append.1 hx with h | h
      · exact hJ x h
      · rw [List.mem_singleton.1 h]; exact hp
    · obtain ⟨g1, g2⟩ := hfi i h3 hp hJ
      have g3 : n = i := by rw [hn, g1, if_pos rfl, g2]
      simp (disch := omega) [ar, -List.take_append_getElem, g3]
  · have h4 : l.any p = false := by
      rw [List.take_of_length_le (by omega)] at hJ
      rw [List.any_eq_false]; intro x hx; simp [hJ x hx]
    have h5 : n = -1 := by rw [hn, h4]; rfl
    simp [h5]
def sCFL_ac : AC := (.seq (.ops [.m 4 (.b false)]) (.seq (.ops [.m 5 (.t 0), .m 6 (.t 1), .c 7 false (.f 78) [(.t 5), (.t 6)], .o 8 (.bin .geq (.t 7) (.i 0)), .m 4 (.t 8)]) .ret))
theorem sCFL_w {args : List AV} {H : List AObj} {R : AV → List AObj → Prop} (h : wp Try.prog [] H.length sCFL_ac (bodyW [(.t 4)] (Nr R .mk)) (args ++ List.replicate (9 - args.length) .und) H) : ACalls Try.prog 59 args H R :=
  ACalls.of_wp Try.func59 rfl (by kernel_rfl) rfl Try.ntmps59 h
theorem sCFL_p (l : List (List Int)) (g : FuncId) (caps : List AV) (p : List Int → Bool) (hl : l.length ≤ 1000000000) (hc : noRefs caps = true) (hg : ∀ x ∈ l, Pu Try.prog g (Is x :: caps) (Bo (p x))) :
    Pu Try.prog 59 [Ls l, .fn (.func g) [] caps] (Bo (l.any p)) := by
  obtain ⟨n, h1, h2⟩ := sIFL_p l g caps p hl hc hg
  refine Pu.of 4 (sCFL_w ?_)
  simp (disch := omega) [ar, -List.take_append_getElem, sCFL_ac]
  refine Pu.c h2 ?_ (hn := by simp [noRef, hc])
  simp (disch := omega) [ar, -List.take_append_getElem]
  rw [Bool.eq_iff_iff, decide_eq_true_eq]; exact h1.symm
def mPick1_ac : AC := (.seq (.ops [.m 3 (.b false)]) (.seq (.ops [.m 4 (.t 0), .o 5 (.bin .lss (.t 4) (.i 0)), .m 6 (.t 5), .mg 7 6 false (.t 0), .og 8 6 false (.fad 1 (.t 1)), .og 9 6 false (.ld 1 false (.t 8)), .og 10 6 false (.len (.t 9)), .og 11 6 false (.bin .geq (.t 7) (.t 10)), .o 12 (.pick (.t 6) (.b true) (.t 11)), .m 3 (.t 12)]) .ret))
theorem mPick1_w {args : List AV} {H : List AObj} {R : AV → List AObj → Prop} (h : wp Try.prog [] H.length mPick1_ac (bodyW [(.t 3)] (Nr R .mk)) (args ++ List.replicate (13 - args.length) .und) H) : ACalls Try.prog 57 args H R :=
  ACalls.of_wp Try.func57 rfl (by kernel_rfl) rfl Try.ntmps57 h
theorem mPick1_p (st : Int × List Int) (i : Int) (hl : st.2.length ≤ 1000000000) : Pu Try.prog 57 [I i, .ipt (stopV st) 0] (Bo (decide (i < 0) || decide ((st.2.length : Int) ≤ i))) := by
  refine Pu.of 4 (mPick1_w ?_)
  simp (disch := omega) [ar, -List.take_append_getElem, mPick1_ac]
  (first | refine Cnd.sp (fun h1 => ?_) fun h1 => ?_ | refine Gd.sp (fun h1 => ?_) fun h1 => ?_) <;> (try simp at h1) <;> (try simp (disch := omega) [ar, -List.take_append_getElem, h1])
def mPick2_ac : AC := (.seq (.ops [.m 3 (.b false)]) (.seq (.ops [.o 4 (.fad 1 (.t 1)), .o 5 (.ld 1 false (.t 4)), .m 6 (.t 0), .o 7 (.iad 1 (.t 5) (.t 6)), .o 8 (.ld 1 false (.t 7)), .o 9 (.bin .lss (.t 8) (.i 0)), .m 3 (.t 9)]) .ret))
theorem mPick2_w {args : List AV} {H : List AObj} {R : AV → List AObj → Prop} (h : wp Try.prog [] H.length mPick2_ac (bodyW [(.t 3)] (Nr R .mk)) (args ++ List.replicate (10 - args.length) .und) H) : ACalls Try.prog 58 args H R :=
  ACalls.of_wp Try.func58 rfl (by kernel_rfl) rfl Try.ntmps58 h
theorem mPick2_p (st : Int × List Int) (i : Int) (hi : 0 ≤ i ∧ i < st.2.length) : Pu Try.prog 58 [I i, .ipt (stopV st) 0] (Bo (decide (st.2.getD i.toNat 0 < 0))) := by
  obtain ⟨k, rfl⟩ : ∃ k : Nat, i = k := ⟨i.toNat, by omega⟩
  have hk : k < st.2.length := by omega
  refine Pu.of 4 (mPick2_w ?_)
  simp (disch := omega) [ar, -List.take_append_getElem, mPick2_ac]
def mPick3_ac : AC := (.seq (.ops [.m 3 (.b false)]) (.seq (.ops [.m 4 (.t 0), .o 5 (.ld 1 false (.t 1)), .c 6 false (.f 56) [(.t 4), (.t 5)], .o 7 (.un .not (.t 6)), .m 3 (.t 7)]) .ret))
theorem mPick3_w {args : List AV} {H : List AObj} {R : AV → List AObj → Prop} (h : wp Try.prog [] H.length mPick3_ac (bodyW [(.t 3)] (Nr R .mk)) (args ++ List.replicate (8 - args.length) .und) H) : ACalls Try.prog 60 args H R :=
  ACalls.of_wp Try.func60 rfl (by kernel_rfl) rfl Try.ntmps60 h
theorem mPick3_p (st : Int × List Int) (l : List Int) (hl : l.length ≤ 1000000000) (hi : ∀ i ∈ l, 0 ≤ i ∧ i < st.2.length) :
    Pu Try.prog 60 [Is l, .ipt (.fn (.func 58) [] [.ipt (stopV st) 0]) 0] (Bo (!l.any fun i => decide (st.2.getD i.toNat 0 < 0))) := by
  refine Pu.of 4 (mPick3_w ?_)
  simp (disch := omega) [ar, -List.take_append_getElem, mPick3_ac]
  refine Pu.c (sCF_p l _ [.ipt (stopV st) 0] (fun i => decide (st.2.getD i.toNat 0 < 0)) hl (by simp) fun x hx => mPick2_p st x (hi x hx)) ?_
  simp (disch := omega) [ar, -List.take_append_getElem]
def sClone_ac : AC := (.seq (.ops [.m 2 .z]) (.seq (.seq (.ops [.m 3 (.t 0), .o 4 (.nileq false (.t 3))]) (.cond (.t 4) (.seq (.ops [.m 2 .z]) .ret) .skip)) (.seq (.ops [.o 5 (.lit 1 []), .m 6 (.t 0), .o 7 (.app 3 1 8 (.t 5) (.t 6)), .m 2 (.t 7)]) .ret)))
theorem sClone_w {args : List AV} {H : List AObj} {R : AV → List AObj → Prop} (h : wp Try.prog [] H.length sClone_ac (bodyW [(.t 2)] (Nr R .mk)) (args ++ List.replicate (8 - args.length) .und) H) : ACalls Try.prog 61 args H R :=
  ACalls.of_wp Try.func61 rfl (by kernel_rfl) rfl Try.ntmps61 h
theorem sClone_p (l : List Int) (h0 : l ≠ []) (hl : l.length ≤ 1000000000) : Pu Try.prog 61 [Is l] (Is l) := by
  refine Pu.of 4 (sClone_w ?_)
  have hone : allOneCell 1 (l.map I) = true := by simp [allOneCell, okEl, cellsOf, oneC]
  simp (disch := omega) [ar, -List.take_append_getElem, sClone_ac, h0, hone]
/-- Whether a stop is picked. -/
def pickB (sets : List (List Int)) (st : Int × List Int) : Bool := sets.any fun set => !set.any fun i => decide (st.2.getD i.toNat 0 < 0)
def pickF (S : List (Int × List Int)) (sets : List (List Int)) : List (Int × List Int) := S.filter (pickB sets)
def mPick_2 : AC := (.seq (.ops [.o 23 (.bin .lss (.t 22) (.t 21))]) (.seq (.cond (.t 23) .skip (.exit 2)) (.seq (.block 3 (.seq (.ops [.o 24 (.iad 1 (.t 20) (.t 22)), .o 25 (.ld 1 false (.t 24)), .m 9 (.t 25)]) (.seq (.ops [.m 26 (.t 9), .o 27 (.mkF (.func 57) [] [(.t 7)]), .c 28 false (.f 56) [(.t 26), (.t 27)]]) (.cond (.t 28) (.seq (.ops [.m 4 .z, .m 5 (.i 3)]) .ret) .skip)))) (.ops [.o 29 (.bin .add (.t 22) (.i 1)), .m 22 (.t 29)]))))
def mPick_1 : AC := (.seq (.ops [.o 17 (.bin .lss (.t 16) (.t 15))]) (.seq (.cond (.t 17) .skip (.exit 0)) (.seq (.block 1 (.seq (.ops [.o 18 (.iad 2 (.t 14) (.t 16)), .o 19 (.ld 2 true (.t 18)), .o 7 (.new 37 2 (.c (.agg [(.sc (.int .i64 0)), nil0]))), .on (.st 2 (.t 7) (.t 19))]) (.seq (.ops [.m 20 (.t 1), .o 21 (.len (.t 20)), .m 22 (.i 0)]) (.block 2 (.loop mPick_2))))) (.ops [.o 30 (.bin .add (.t 16) (.i 1)), .m 16 (.t 30)]))))
def mPick_3 : AC := (.seq (.ops [.o 34 (.bin .lss (.t 33) (.t 32))]) (.seq (.cond (.t 34) .skip (.exit 4)) (.seq (.block 5 (.seq (.ops [.o 35 (.iad 2 (.t 31) (.t 33)), .o 36 (.ld 2 true (.t 35)), .o 12 (.new 37 2 (.c (.agg [(.sc (.int .i64 0)), nil0]))), .on (.st 2 (.t 12) (.t 36))]) (.seq (.ops [.o 37 (.mkF (.func 58) [] [(.t 12)]), .o 13 (.new 40 1 (.c (.sc .nilFunc))), .on (.st 1 (.t 13) (.t 37))]) (.seq (.ops [.m 38 (.t 1), .o 39 (.mkF (.func 60) [] [(.t 13)]), .c 40 false (.f 59) [(.t 38), (.t 39)]]) (.cond (.t 40) (.ops [.m 41 (.t 10), .o 42 (.fad 0 (.t 12)), .o 43 (.ld 1 false (.t 42)), .o 44 (.fad 1 (.t 12)), .o 45 (.ld 1 false (.t 44)), .c 46 true (.f 61) [(.t 45)], .o 47 (.mk [(.sc (.int .i64 0)), nil0] [(0, (1, (.t 43))), (1, (1, (.t 46)))]), .o 48 (.lit 2 [(.t 47)]), .o 49 (.app 37 2 32 (.t 41) (.t 48)), .m 10 (.t 49)]) .skip))))) (.ops [.o 50 (.bin .add (.t 33) (.i 1)), .m 33 (.t 50)]))))
def mPick_ac : AC := (.seq (.ops [.m 4 .z, .m 5 (.i 0)]) (.seq (.seq (.ops [.m 14 (.t 0), .o 15 (.len (.t 14)), .m 16 (.i 0)]) (.block 0 (.loop mPick_1))) (.seq (.ops [.m 10 .z]) (.seq (.seq (.ops [.m 31 (.t 0), .o 32 (.len (.t 31)), .m 33 (.i 0)]) (.block 4 (.loop mPick_3))) (.seq (.ops [.m 51 (.t 10), .m 4 (.t 51), .m 5 (.i 0)]) .ret)))))
theorem mPick_w {args : List AV} {H : List AObj} {R : AV → List AObj → Prop} (h : wp Try.prog [] H.length mPick_ac (bodyW [(.t 4), (.t 5)] (Nr R .mk)) (args ++ List.replicate (52 - args.length) .und) H) : ACalls Try.prog 29 args H R :=
  ACalls.of_wp Try.func29 rfl (by kernel_rfl) rfl Try.ntmps29 h
set_option maxHeartbeats 4000000 in
theorem mPick_p (S : List (Int × List Int)) (sets : List (List Int)) (hS : S.length ≤ 1000000) (hT : sets.length ≤ 1000000) (hl : ∀ s ∈ sets, s.length ≤ 1000000) (hN : ∀ st ∈ S, st.2 ≠ [] ∧ st.2.length ≤ 1000000)
    (hi : ∀ st ∈ S, ∀ s ∈ sets, ∀ i ∈ s, 0 ≤ i ∧ i < (st.2.length : Int)) : Pu Try.prog 29 [Ss S, Ls sets] (.tup [Ss (pickF S sets), I 0]) := by
  refine Pu.of 4 (mPick_w ?_)
  simp (disch := omega) [ar, -List.take_append_getElem, mPick_ac]
  refine Lp.to 0 [] S.length (fun i => True) (fun i => fm 52 [(0, Ss S), (1, Ls sets), (5, I 0), (14, Ss S), (15, I S.length), (16, I i)]) (fun _ => []) ⟨trivial, by simp⟩ fun i hi1 _ => ?_
  simp (disch := omega) [ar, -List.take_append_getElem, mPick_1]
  (first | refine Cnd.sp (fun h1 => ?_) fun h1 => ?_ | refine Gd.sp (fun h1 => ?_) fun h1 => ?_) <;> (try simp at h1) <;> (try simp (disch := omega) [ar, -List.take_append_getElem, h1])
  · have hiS : i < S.length := by omega
    obtain ⟨st, hst⟩ : ∃ st, S[i] = st := ⟨_, rfl⟩
    have hstm : st ∈ S := by rw [← hst]; exact List.getElem_mem hiS
    have hiw := hi st hstm
    obtain ⟨hN1, hN2⟩ := hN st hstm
    simp (disch := omega) [ar, -List.take_append_getElem, hst]
    refine Lp.op (σ := Nat) (fun k => k ≤ sets.length) (fun k => sets.length - k) (fun k => fm 52 [(0, Ss S), (1, Ls sets), (5, I 0), (7, .ptr 0 1 0 0), (14, Ss S), (15, I S.length), (16, I i), (20, Ls sets), (21, I sets.length), (22, I k)]) (fun _ => [bx 37 2 (stopV st)]) 0 ⟨Nat.zero_le _, by simp, rfl⟩ ?_
    intro k hk
    simp (disch := omega) [ar, -List.take_append_getElem, mPick_2]
    (first | refine Cnd.sp (fun h2 => ?_) fun h2 => ?_ | refine Gd.sp (fun h2 => ?_) fun h2 => ?_) <;> (try simp at h2) <;> (try simp (disch := omega) [ar, -List.take_append_getElem, h2])
    · have hks : k < sets.length := by omega
      have hkl := hl _ (List.getElem_mem hks)
      have hkw := hiw _ (List.getElem_mem hks)
      have hno : sets[k].any (fun i => decide (i < 0) || decide ((st.2.length : Int) ≤ i)) = false := by
        rw [List.any_eq_false]
        intro x hx
        have := hkw x hx
        simp; omega
      have hc := sCF_p sets[k] 57 [.ipt (stopV st) 0] (fun i => decide (i < 0) || decide ((st.2.length : Int) ≤ i)) (by omega) (by simp) (fun x hx => mPick1_p st x (by omega))
      rw [hno] at hc
      refine Pu.l 8 hc ?_ (fun _ => by simp [frz, live?])
      simp (disch := omega) [ar, -List.take_append_getElem]
      exact ⟨k + 1, by omega, by omega, by omega⟩
  · have hone : ∀ (K : List (Int × List Int)), allOneCell 2 (K.map stopV) = true := fun K => by
      simp only [allOneCell, List.all_eq_true, List.mem_map]
      rintro _ ⟨x, _, rfl⟩
      rfl
    have hfz : ∀ (K : List (Int × List Int)) H k n b, (K.map stopV).map (fz H k (n + 1) b) = K.map stopV := fun K H k n b => by
      rw [List.map_map]; apply List.map_congr_left; intro x _; simp
    clear hi1 h1
    refine Lp.to 1 [(10, 37, 2)] S.length (fun i => True) (fun i => fm 52 [(1, Ls sets), (5, I 0), (10, .slc 0 (pickF (S.take i) sets).length 0 (pickF (S.take i) sets).length none), (31, Ss S), (32, I S.length), (33, I i)]) (fun i => [ow 37 2 ((pickF (S.take i) sets).map stopV)]) ⟨trivial, by simp [ow, pickF]⟩ fun i hi1 _ => ?_
    simp (disch := omega) [ar, -List.take_append_getElem, mPick_3]
    (first | refine Cnd.sp (fun h1 => ?_) fun h1 => ?_ | refine Gd.sp (fun h1 => ?_) fun h1 => ?_) <;> (try simp at h1) <;> (try simp (disch := omega) [ar, -List.take_append_getElem, h1])
    · have hiS : i < S.length := by omega
      obtain ⟨st, hst⟩ : ∃ st, S[i] = st := ⟨_, rfl⟩
      have hstm : st ∈ S := by rw [← hst]; exact List.getElem_mem hiS
      have hiw := hi st hstm
      obtain ⟨hN1, hN2⟩ := hN st hstm
      have e : pickF (S.take (i + 1)) sets = pickF (S.take i) sets ++ if pickB sets st then [st] else [] := by
        rw [pickF, List.take_succ_eq_append_getElem hiS, List.filter_append, List.filter_cons, List.filter_nil, hst]; rfl
      have hKl : (pickF (S.take i) sets).length ≤ i := by
        have := List.length_filter_le (pickB sets) (S.take i)
        rw [List.length_take] at this
        simp only [pickF]; omega
      rw [e]
      generalize pickF (S.take i) sets = K at hKl ⊢
      have honeK := hone K
      have hfzK := hfz K
      have hc := sCFL_p sets 60 [.ipt (.fn (.func 58) [] [.ipt (stopV st) 0]) 0] (fun set => !set.any fun i => decide (st.2.getD i.toNat 0 < 0)) (by omega) (by simp) (fun x hx => mPick3_p st x (by have := hl x hx; omega) (hiw x hx))
      have hb : (sets.any fun set => !set.any fun i => decide (st.2.getD i.toNat 0 < 0)) = pickB sets st := rfl
      rw [hb] at hc
      clear hi hl hone hfz e hb
      simp (disch := omega) [ar, -List.take_append_getElem, hst]
      refine Pu.l 8 hc ?_ (fun _ => by simp [frz, live?])
      clear hc
      cases pickB sets st
      · simp (disch := omega) [ar, -List.take_append_getElem, hfzK]
      · simp (disch := omega) [ar, -List.take_append_getElem]
        refine Pu.c (sClone_p st.2 hN1 (by omega)) ?_
        simp (disch := omega) [ar, -List.take_append_getElem, honeK, hfzK]
    · have h2 : i = S.length := by omega
      subst h2
      have h3 := hfz (pickF S sets) [ow 37 2 ((pickF S sets).map stopV)] 0 1 false
      rw [← List.map_map, h3]
      exact .inl (Wks.refl _)
end Go.Fw
