/- Lists of entries as plain values; the document's Copy. -/
import Derived.Test.YtgdkdojjfijipaaFwento1
import Derived.Test.YtgdkdojjfijipaaFwY4
namespace Go.Fw
open Go Go.RowKit Go.Proofs
set_option maxRecDepth 100000
set_option linter.unusedSimpArgs false
set_option linter.unusedVariables false

/-- An entry, a list of them, one with a shape. -/
abbrev tV (t : List Int × Int) : AV := .agg [Is t.1, I t.2]
abbrev eV (E : List (List Int × Int)) : AV := .imm false none 2 (E.map tV)
abbrev cooV (X : List Int × List (List Int × Int)) : AV := .agg [Is X.1, eV X.2]
theorem ISl.wk {a : AV} {xs : List Int} (h : ISl a xs) : Wk a (Is xs) := by
  obtain ⟨⟨nl, c, sz, rfl, h1, h2⟩, _⟩ := h
  cases nl with
  | true => have := h1 rfl; subst this; simp
  | false => have := h2 rfl; subst this; simp
theorem Ents.wk {es : List AV} {W : List (List Int × Int)} (h : Ents es W) : Wks es (W.map tV) := by
  induction es generalizing W with
  | nil =>
    have := h.1
    obtain rfl : W = [] := List.length_eq_zero_iff.1 (by simpa using this.symm)
    rfl
  | cons x es ih =>
    cases W with
    | nil => have := h.1; simp at this
    | cons w W =>
      obtain ⟨a, h1, h2⟩ := h.2 0 (by simp) (by simp)
      simp only [List.getElem_cons_zero] at h1 h2
      subst h1
      simp only [List.map_cons, Wks, Wk, h2.wk, true_and]
      refine ⟨by simp, ih ⟨by have := h.1; simpa using this, fun i h3 h4 => ?_⟩⟩
      have := h.2 (i + 1) (by simpa using h3) (by simpa using h4)
      simpa using this
theorem EnL.wk {a : AV} {W : List (List Int × Int)} (h : EnL a W) : Wk a (eV W) := by
  obtain ⟨nl, c, sz, es, rfl, h1, h2, h3⟩ := h
  cases nl with
  | true =>
    have := h1 rfl; subst this
    have := h3.1
    obtain rfl : es = [] := List.length_eq_zero_iff.1 (by simpa using this)
    simp
  | false => have := h2 rfl; subst this; simp [h3.wk]
theorem Coo.wk {a : AV} {X : List Int × List (List Int × Int)} (h : Coo a X) : Wk a (cooV X) := by
  obtain ⟨s, e, rfl, h1, h2⟩ := h
  simp only [Wk, Wks, h1.wk, h2.wk, true_and]
theorem Is_sl {xs : List Int} (h : xs.length ≤ 9223372036854775807) (hi : InI xs) : ISl (Is xs) xs := ISl.of none h hi.2
theorem eV_en {W : List (List Int × Int)} (h : ∀ w ∈ W, InI w.1) : EnL (eV W) W :=
  ⟨false, none, 2, _, rfl, by simp, by simp, by simp, fun i h1 h2 => ⟨Is W[i].1, by simp, Is_sl (h _ (List.getElem_mem h2)).1 (h _ (List.getElem_mem h2))⟩⟩
theorem cooV_coo {X : List Int × List (List Int × Int)} (h : InX X) : Coo (cooV X) X := ⟨_, _, rfl, Is_sl h.1.1 h.1, eV_en h.2⟩
@[simp] theorem fz_tV {H : List AObj} {k n : Nat} {b : Bool} : fz H k (n + 1) b ∘ tV = tV := by funext t; simp [fz]
theorem tV_one (W : List (List Int × Int)) : allOneCell 2 (W.map tV) = true := by simp [allOneCell, okEl, cellsOf, oneC]
theorem I_one (W : List Int) : allOneCell 1 (W.map I) = true := by simp [allOneCell, okEl, cellsOf, oneC]

section
variable {P : Program} {own : List Nat} {nb : Nat} {a : AC} {Q : Exit → List AV → List AObj → Prop} {fr : List AV} {H : List AObj}
/-- As Lp.st; it is gone in by any weaker view. -/
theorem Lp.stw {σ : Type} {b : Blk1 (.loop a) Q} (k : Nat) (J : σ → Prop) (μ : σ → Nat) (F : σ → List AV) (G : σ → List AObj) (s0 : σ) (h0 : J s0) (hw : Weak nb fr H (F s0) (G s0))
    (step : ∀ s, J s → wp P own nb a (qSeq (Nx (fun fr' H' => ∃ s', J s' ∧ μ s' < μ s ∧ wkN nb k 8 fr' H' (F s') (G s')) .mk) Q) (F s) (G s)) : Lp P own nb (.loop a) Q b fr H := by
  refine Lp.on J μ F G s0 hw h0 fun s hs => wp.mono (fun e fr H hq => ?_) (step s hs)
  cases e with
  | normal => obtain ⟨s', h1, h2, h3⟩ := hq; exact ⟨s', h1, h2, Weak.next k 8 h3⟩
  | _ => exact hq
end
def rOwn_ac : AC := (.seq (.ops [.o 1 (.new 38 2 (.t 0)), .o 2 (.new 38 2 (.c (.agg [nil0, (.sc (.int .i64 0))])))]) (.seq (.ops [.o 3 (.fad 0 (.t 1)), .o 4 (.ld 1 false (.t 3)), .o 6 (.fad 1 (.t 1)), .o 7 (.ld 1 false (.t 6)), .o 5 (.app 3 1 8 .z (.t 4)), .o 8 (.mk [nil0, (.sc (.int .i64 0))] [(0, (1, (.t 5))), (1, (1, (.t 7)))]), .on (.st 2 (.t 2) (.t 8))]) .ret))
theorem rOwn_w {args : List AV} {H : List AObj} {R : AV → List AObj → Prop} (h : wp Try.prog [] H.length rOwn_ac (bodyW [(.cell 2 2 true)] (Nr R .mk)) (args ++ List.replicate (9 - args.length) .und) H) : ACalls Try.prog 52 args H R :=
  ACalls.of_wp Try.func52 rfl (by kernel_rfl) rfl Try.ntmps52 h
theorem rOwn_p (t : List Int × Int) (h : t.1.length ≤ 1000000) : Pu Try.prog 52 [tV t] (tV t) := by
  refine Pu.of 4 (rOwn_w ?_)
  by_cases h0 : t.1 = []
  · simp (disch := omega) [ar, -List.take_append_getElem, rOwn_ac, elems, h0]
  · have h1 := I_one t.1
    simp (disch := omega) [ar, -List.take_append_getElem, rOwn_ac, elems, h0, h1]
theorem tk_fz (E : List (List Int × Int)) (i : Nat) (H : List AObj) (k n : Nat) (b : Bool) : (List.take i (E.map tV)).map (fz H k (n + 1) b) = List.take i (E.map tV) := by
  rw [← List.map_take, List.map_map, fz_tV]
def rCopy_1 : AC := (.seq (.ops [.o 14 (.bin .lss (.t 13) (.t 12))]) (.seq (.cond (.t 14) .skip (.exit 0)) (.seq (.block 1 (.seq (.ops [.o 15 (.iad 2 (.t 11) (.t 13)), .o 16 (.ld 2 true (.t 15)), .o 5 (.new 38 2 (.c (.agg [nil0, (.sc (.int .i64 0))]))), .on (.st 2 (.t 5) (.t 16))]) (.ops [.o 17 (.fad 1 (.t 3)), .o 18 (.ld 1 false (.t 17)), .o 19 (.ld 2 true (.t 5)), .c 20 true (.f 52) [(.t 19)], .o 21 (.lit 2 [(.t 20)]), .o 22 (.app 38 2 32 (.t 18) (.t 21)), .o 23 (.fad 1 (.t 3)), .on (.st 1 (.t 23) (.t 22))]))) (.ops [.o 24 (.bin .add (.t 13) (.i 1)), .m 13 (.t 24)]))))
def rCopy_ac : AC := (.seq (.ops [.o 1 (.new 25 2 (.t 0)), .o 2 (.new 25 2 (.c (.agg [nil0, nil0])))]) (.seq (.ops [.o 6 (.fad 0 (.t 1)), .o 7 (.ld 1 false (.t 6)), .o 8 (.app 3 1 8 .z (.t 7)), .o 9 (.mk [nil0, nil0] [(0, (1, (.t 8)))]), .o 3 (.new 25 2 (.c (.agg [nil0, nil0]))), .on (.st 2 (.t 3) (.t 9))]) (.seq (.seq (.ops [.o 10 (.fad 1 (.t 1)), .o 11 (.ld 1 false (.t 10)), .o 12 (.len (.t 11)), .m 13 (.i 0)]) (.block 0 (.loop rCopy_1))) (.seq (.ops [.o 25 (.ld 2 true (.t 3)), .on (.st 2 (.t 2) (.t 25))]) .ret))))
theorem rCopy_w {args : List AV} {H : List AObj} {R : AV → List AObj → Prop} (h : wp Try.prog [] H.length rCopy_ac (bodyW [(.cell 2 2 true)] (Nr R .mk)) (args ++ List.replicate (26 - args.length) .und) H) : ACalls Try.prog 20 args H R :=
  ACalls.of_wp Try.func20 rfl (by kernel_rfl) rfl Try.ntmps20 h
theorem rCopy_p (X : List Int × List (List Int × Int)) (h : X.1.length ≤ 1000000) (hE : X.2.length ≤ 1000000) (hi : ∀ t ∈ X.2, t.1.length ≤ 1000000) : Pu Try.prog 20 [cooV X] (cooV X) := by
  refine Pu.of 6 (rCopy_w ?_)
  obtain ⟨S, E⟩ := X
  simp only at h hE hi ⊢
  have hS1 := I_one S
  have hi2 := hi
  clear hi
  by_cases h0 : S = []
  · subst h0
    simp (disch := omega) [ar, -List.take_append_getElem, rCopy_ac, elems]
    refine Lp.stw (σ := Nat) 4 (fun i => i ≤ E.length) (fun i => E.length - i) (fun i => fm 26 [(2, .ptr 1 1 0 0), (3, .ptr 2 1 0 0), (11, eV E), (12, I E.length), (13, I i)])
      (fun i => [bx 25 2 (cooV ([], E)), bx 25 2 (.agg [nil0, nil0])] ++ [bx 25 2 (.agg [nil0, .slc 3 i 0 i none]), ow 38 2 (List.take i (E.map tV))]) 0 (Nat.zero_le _) ?_ ?_
    · refine (Weak.ownAt 2 0 1 38 2 (by omega) (o := bx 25 2 (.agg [nil0, nil0])) (e0 := .agg [nil0, nil0]) (e1 := .agg [nil0, .slc 3 0 0 0 none]) (c := none) (sz' := 0) rfl rfl rfl rfl (by simp [cellsOf])).trans (Weak.le (by simp) ?_)
      simp [leH.refl]
    intro i hi
    simp (disch := omega) [ar, -List.take_append_getElem, rCopy_1]
    (first | refine Cnd.sp (fun h1 => ?_) fun h1 => ?_ | refine Gd.sp (fun h1 => ?_) fun h1 => ?_) <;> (try simp at h1) <;> (try simp (disch := omega) [ar, -List.take_append_getElem, h1])
    · have e : List.take (i + 1) (E.map tV) = List.take i (E.map tV) ++ [tV E[i]] := by
        rw [List.take_succ_eq_append_getElem (by simp; omega)]; simp [-List.take_append_getElem]
      have hl : (List.take i (E.map tV)).length = i := by simp; omega
      have h1c : allOneCell 2 (List.take i (E.map tV)) = true := by rw [← List.map_take]; exact tV_one _
      have hn : List.take i (E.map tV) = [] ↔ i = 0 := by rw [← List.length_eq_zero_iff, hl]
      have hf := tk_fz E i
      refine Pu.c (rOwn_p E[i] (hi2 _ (List.getElem_mem h1))) ?_
      generalize hL : List.take i (E.map tV) = L at e hl h1c hn hf ⊢
      simp (disch := omega) [ar, -List.take_append_getElem, hl, h1c]
      refine ⟨i + 1, by omega, by omega, by omega, ?_⟩
      simp (disch := omega) [ar, -List.take_append_getElem, e, hf, ow]
      rintro rfl; simp at h1
    · have h2 : i = E.length := by omega
      subst h2
      simp (disch := omega) [ar, -List.take_append_getElem]
      rw [List.take_of_length_le (by simp)]
      exact .inl (Wks.refl _)
  · simp (disch := omega) [ar, -List.take_append_getElem, rCopy_ac, elems, h0, hS1]
    refine Lp.stw (σ := Nat) 5 (fun i => i ≤ E.length) (fun i => E.length - i) (fun i => fm 26 [(2, .ptr 1 1 0 0), (3, .ptr 3 1 0 0), (11, eV E), (12, I E.length), (13, I i)])
      (fun i => [bx 25 2 (cooV (S, E)), bx 25 2 (.agg [nil0, nil0]), ow 3 1 (S.map I)] ++ [bx 25 2 (.agg [.slc 2 S.length 0 S.length none, .slc 4 i 0 i none]), ow 38 2 (List.take i (E.map tV))]) 0 (Nat.zero_le _) ?_ ?_
    · refine (Weak.ownAt 3 0 1 38 2 (by omega) (o := bx 25 2 (.agg [.slc 2 S.length 0 S.length none, nil0])) (e0 := .agg [.slc 2 S.length 0 S.length none, nil0]) (e1 := .agg [.slc 2 S.length 0 S.length none, .slc 4 0 0 0 none]) (c := none) (sz' := 0) rfl rfl rfl rfl (by simp [cellsOf])).trans (Weak.le (by simp) ?_)
      simp [leH.refl, h0, ow]
    intro i hi
    simp (disch := omega) [ar, -List.take_append_getElem, rCopy_1]
    (first | refine Cnd.sp (fun h1 => ?_) fun h1 => ?_ | refine Gd.sp (fun h1 => ?_) fun h1 => ?_) <;> (try simp at h1) <;> (try simp (disch := omega) [ar, -List.take_append_getElem, h1])
    · have e : List.take (i + 1) (E.map tV) = List.take i (E.map tV) ++ [tV E[i]] := by
        rw [List.take_succ_eq_append_getElem (by simp; omega)]; simp [-List.take_append_getElem]
      have hl : (List.take i (E.map tV)).length = i := by simp; omega
      have h1c : allOneCell 2 (List.take i (E.map tV)) = true := by rw [← List.map_take]; exact tV_one _
      have hn : List.take i (E.map tV) = [] ↔ i = 0 := by rw [← List.length_eq_zero_iff, hl]
      have hf := tk_fz E i
      refine Pu.c (rOwn_p E[i] (hi2 _ (List.getElem_mem h1))) ?_
      generalize hL : List.take i (E.map tV) = L at e hl h1c hn hf ⊢
      simp (disch := omega) [ar, -List.take_append_getElem, hl, h1c]
      refine ⟨i + 1, by omega, by omega, by omega, ?_⟩
      simp (disch := omega) [ar, -List.take_append_getElem, e, hf, ow]
      rintro rfl; simp at h1
    · have h2 : i = E.length := by omega
      subst h2
      simp (disch := omega) [ar, -List.take_append_getElem]
      rw [List.take_of_length_le (by simp)]
      exact .inl (Wks.refl _)
end Go.Fw
