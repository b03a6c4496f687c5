import Derived.Test.YtgdkdojjfijipaaFwcoo6
namespace Go.Fw
open Go Go.RowKit Go.Proofs
set_option maxRecDepth 100000
set_option linter.unusedSimpArgs false
set_option linter.unusedVariables false

/-- One entry more, joined to the last one, if that is at its place. -/
def joinS (acc : List (List Int × Int)) (t : List Int × Int) : List (List Int × Int) :=
  match acc.getLast? with
  | some l => if l.1 = t.1 then acc.dropLast ++ [(l.1, IntKind.i64.wrap (l.2 + t.2))] else acc ++ [t]
  | none => [t]
def joinL (W : List (List Int × Int)) : List (List Int × Int) := W.foldl joinS []
/-- A joined list. -/
def joinF (X : List Int × List (List Int × Int)) (O : List Int) : (List Int × List (List Int × Int)) × Int := (((sortF X O).1.1, joinL (sortF X O).1.2), (sortF X O).2)
theorem joinS_len (acc : List (List Int × Int)) (t : List Int × Int) : (joinS acc t).length ≤ acc.length + 1 := by
  unfold joinS
  split
  · split
    · simp
    · simp
  · simp
theorem joinS_mem {acc : List (List Int × Int)} {t x : List Int × Int} (h : x ∈ joinS acc t) : x ∈ acc ∨ x.1 = t.1 := by
  unfold joinS at h
  split at h
  · rename_i l hl
    split at h
    · rename_i he
      rcases List.mem_append.1 h with h | h
      · exact .inl ((List.dropLast_sublist _).subset h)
      · simp at h; subst h; exact .inr he
    · rcases List.mem_append.1 h with h | h
      · exact .inl h
      · simp at h; subst h; exact .inr rfl
  · simp at h; subst h; exact .inr rfl
@[simp] theorem joinL_nil : joinL [] = [] := rfl
theorem joinS_nil (t : List Int × Int) : joinS [] t = [t] := rfl
theorem joinS_eq {A : List (List Int × Int)} (h : 0 < A.length) {t : List Int × Int} (he : (A[A.length - 1]'(by omega)).1 = t.1) : joinS A t = A.set (A.length - 1) ((A[A.length - 1]'(by omega)).1, IntKind.i64.wrap ((A[A.length - 1]'(by omega)).2 + t.2)) := by
  have hn : A ≠ [] := List.length_pos_iff.1 h
  have e1 : A.getLast? = some (A[A.length - 1]'(by omega)) := by rw [List.getLast?_eq_getElem?, List.getElem?_eq_getElem]
  simp only [joinS, e1, he, if_true]
  apply List.ext_getElem?
  intro k
  by_cases hk : k < A.length - 1
  · rw [List.getElem?_append_left (by simp; omega), List.getElem?_set_ne (by omega), List.getElem?_dropLast, if_pos hk]
  · by_cases hk2 : k = A.length - 1
    · subst hk2
      rw [List.getElem?_append_right (by simp), List.getElem?_set_self (by omega)]
      simp
    · rw [List.getElem?_append_right (by simp; omega), List.getElem?_eq_none (by simp; omega), List.getElem?_eq_none (by simp; omega)]
theorem joinS_ne {A : List (List Int × Int)} (h : 0 < A.length) {t : List Int × Int} (he : (A[A.length - 1]'(by omega)).1 ≠ t.1) : joinS A t = A ++ [t] := by
  have e1 : A.getLast? = some (A[A.length - 1]'(by omega)) := by rw [List.getLast?_eq_getElem?, List.getElem?_eq_getElem]
  simp only [joinS, e1]
  rw [if_neg he]
theorem joinL_snoc (W : List (List Int × Int)) (t : List Int × Int) : joinL (W ++ [t]) = joinS (joinL W) t := by simp [joinL]
theorem joinL_len (W : List (List Int × Int)) : ∀ i ≤ W.length, (joinL (W.take i)).length ≤ i := by
  intro i
  induction i with
  | zero => intro _; simp [joinL]
  | succ i ih =>
    intro h
    rw [List.take_succ_eq_append_getElem (by omega), joinL_snoc]
    have := joinS_len (joinL (W.take i)) W[i]
    have := ih (by omega)
    omega
theorem foldl_joinS_mem : ∀ (W acc : List (List Int × Int)) (x : List Int × Int), x ∈ W.foldl joinS acc → x ∈ acc ∨ ∃ t ∈ W, x.1 = t.1
  | [], acc, x, h => .inl h
  | t :: W, acc, x, h => by
    rcases foldl_joinS_mem W _ x h with h | ⟨u, hu, he⟩
    · rcases joinS_mem h with h | h
      · exact .inl h
      · exact .inr ⟨t, by simp, h⟩
    · exact .inr ⟨u, by simp [hu], he⟩
theorem joinL_mem {W : List (List Int × Int)} {x : List Int × Int} (h : x ∈ joinL W) : ∃ t ∈ W, x.1 = t.1 := by
  rcases foldl_joinS_mem W [] x h with h | h
  · simp at h
  · exact h
theorem joinF_in {X : List Int × List (List Int × Int)} {O : List Int} (hX : InX X) : InX (joinF X O).1 := by
  have h := sortF_in (O := O) hX
  refine ⟨h.1, fun w hw => ?_⟩
  obtain ⟨t, ht, he⟩ := joinL_mem hw
  rw [he]; exact h.2 t ht

def cJoin_18 : AC := (.seq (.ops [⟨(some 62), none, (.k (.ld 2 true (.t 2)))⟩, ⟨(some 63), none, (.k (.mov (.t 6)))⟩, ⟨none, none, (.k (.st 2 (.t 4) (.t 62)))⟩, ⟨(some 5), none, (.k (.mov (.t 63)))⟩]) .ret)
def cJoin_17 : AC := (.seq (.ops [⟨(some 57), none, (.k (.fad 1 (.t 2)))⟩, ⟨(some 58), none, (.k (.ld 1 false (.t 57)))⟩, ⟨(some 59), none, (.k (.mov (.t 7)))⟩, ⟨(some 60), none, (.k (.sl 2 (.t 58) none (some (.t 59)) none))⟩, ⟨(some 61), none, (.k (.fad 1 (.t 2)))⟩, ⟨none, none, (.k (.st 1 (.t 61) (.t 60)))⟩]) cJoin_18)
def cJoin_16 : AC := (.seq (.ops [⟨(some 49), none, (.k (.fad 1 (.t 2)))⟩, ⟨(some 50), none, (.k (.ld 1 false (.t 49)))⟩, ⟨(some 51), none, (.k (.mov (.t 7)))⟩, ⟨(some 52), none, (.k (.ld 2 true (.t 9)))⟩, ⟨(some 53), none, (.k (.iad 2 (.t 50) (.t 51)))⟩, ⟨none, none, (.k (.st 2 (.t 53) (.t 52)))⟩]) (.ops [⟨(some 54), none, (.k (.mov (.t 7)))⟩, ⟨(some 55), none, (.k (.bin .add (.t 54) (.c (.sc (.int .i64 1)))))⟩, ⟨(some 7), none, (.k (.mov (.t 55)))⟩]))
def cJoin_15 : AC := (.seq (.ops [⟨(some 37), none, (.k (.fad 1 (.t 2)))⟩, ⟨(some 38), none, (.k (.ld 1 false (.t 37)))⟩, ⟨(some 39), none, (.k (.mov (.t 7)))⟩, ⟨(some 40), none, (.k (.bin .sub (.t 39) (.c (.sc (.int .i64 1)))))⟩, ⟨(some 41), none, (.k (.iad 2 (.t 38) (.t 40)))⟩, ⟨(some 42), none, (.k (.fad 1 (.t 41)))⟩, ⟨(some 43), none, (.k (.ld 1 false (.t 42)))⟩, ⟨(some 44), none, (.k (.fad 1 (.t 9)))⟩, ⟨(some 45), none, (.k (.ld 1 false (.t 44)))⟩, ⟨(some 46), none, (.k (.bin .add (.t 43) (.t 45)))⟩, ⟨(some 47), none, (.k (.iad 2 (.t 38) (.t 40)))⟩, ⟨(some 48), none, (.k (.fad 1 (.t 47)))⟩, ⟨none, none, (.k (.st 1 (.t 48) (.t 46)))⟩]) (.exit 1))
def cJoin_14 : AC := (.cond (.t 36) cJoin_15 .skip)
def cJoin_13 : AC := (.seq (.ops [⟨(some 23), none, (.k (.mov (.t 7)))⟩, ⟨(some 24), none, (.k (.bin .gtr (.t 23) (.c (.sc (.int .i64 0)))))⟩, ⟨(some 25), none, (.k (.mov (.t 24)))⟩, ⟨(some 26), (some (25, true)), (.k (.fad 1 (.t 2)))⟩, ⟨(some 27), (some (25, true)), (.k (.ld 1 false (.t 26)))⟩, ⟨(some 28), (some (25, true)), (.k (.mov (.t 7)))⟩, ⟨(some 29), (some (25, true)), (.k (.bin .sub (.t 28) (.c (.sc (.int .i64 1)))))⟩, ⟨(some 30), (some (25, true)), (.k (.iad 2 (.t 27) (.t 29)))⟩, ⟨(some 31), (some (25, true)), (.k (.fad 0 (.t 30)))⟩, ⟨(some 32), (some (25, true)), (.k (.ld 1 false (.t 31)))⟩, ⟨(some 33), (some (25, true)), (.k (.fad 0 (.t 9)))⟩, ⟨(some 34), (some (25, true)), (.k (.ld 1 false (.t 33)))⟩, ⟨(some 35), (some (25, true)), (.call true (.c (.fn (.func 49) [] [])) [(.t 32), (.t 34)])⟩, ⟨(some 36), none, (.k (.pick (.t 25) (.t 35) (.c (.sc (.bool false)))))⟩]) cJoin_14)
def cJoin_12 : AC := (.seq cJoin_13 cJoin_16)
def cJoin_11 : AC := (.seq (.ops [⟨(some 21), none, (.k (.iad 2 (.t 17) (.t 19)))⟩, ⟨(some 22), none, (.k (.ld 2 true (.t 21)))⟩, ⟨(some 9), none, (.k (.new 38 2 (.c (.agg [(.imm true none 0 []), (.sc (.int .i64 0))]))))⟩, ⟨none, none, (.k (.st 2 (.t 9) (.t 22)))⟩]) cJoin_12)
def cJoin_10 : AC := (.block 1 cJoin_11)
def cJoin_9 : AC := (.seq cJoin_10 (.ops [⟨(some 56), none, (.k (.bin .add (.t 19) (.c (.sc (.int .i64 1)))))⟩, ⟨(some 19), none, (.k (.mov (.t 56)))⟩]))
def cJoin_8 : AC := (.seq (.cond (.t 20) .skip (.exit 0)) cJoin_9)
def cJoin_7 : AC := (.seq (.ops [⟨(some 20), none, (.k (.bin .lss (.t 19) (.t 18)))⟩]) cJoin_8)
def cJoin_6 : AC := (.loop cJoin_7)
def cJoin_5 : AC := (.block 0 cJoin_6)
def cJoin_4 : AC := (.seq (.ops [⟨(some 16), none, (.k (.fad 1 (.t 2)))⟩, ⟨(some 17), none, (.k (.ld 1 false (.t 16)))⟩, ⟨(some 18), none, (.k (.len (.t 17)))⟩, ⟨(some 19), none, (.k (.mov (.c (.sc (.int .i64 0)))))⟩]) cJoin_5)
def cJoin_3 : AC := (.seq cJoin_4 cJoin_17)
def cJoin_2 : AC := (.seq (.ops [⟨(some 7), none, (.k (.mov (.c (.sc (.int .i64 0)))))⟩]) cJoin_3)
def cJoin_1 : AC := (.seq (.ops [⟨(some 11), none, (.k (.ld 2 true (.t 2)))⟩, ⟨(some 12), none, (.k (.mov (.t 1)))⟩, ⟨(some 13), none, (.call false (.c (.fn (.func 15) [] [])) [(.t 11), (.t 12)])⟩, ⟨(some 10), none, (.k (.mov (.t 13)))⟩, ⟨(some 14), none, (.k (.ext (.t 10) 0))⟩, ⟨(some 15), none, (.k (.ext (.t 10) 1))⟩, ⟨none, none, (.k (.st 2 (.t 2) (.t 14)))⟩, ⟨(some 6), none, (.k (.mov (.t 15)))⟩]) cJoin_2)
def cJoin_ac : AC := (.seq (.ops [⟨(some 2), none, (.k (.new 25 2 (.t 0)))⟩, ⟨(some 4), none, (.k (.new 25 2 (.c (.agg [(.imm true none 0 []), (.imm true none 0 [])]))))⟩, ⟨(some 5), none, (.k (.mov (.c (.sc (.int .i64 0)))))⟩]) cJoin_1)
theorem cJoin_call {args : List AV} {H : List AObj} {R : AV → List AObj → Prop} (h : AWp Try.prog [] H.length cJoin_ac (bodyQ H.length [(.cell 4 2 true), (.t 5)] R) (args ++ List.replicate (64 - args.length) .und) H) : ACalls Try.prog 16 args H R :=
  ACalls.of_fn Try.func16 rfl (by kernel_rfl) rfl Try.ntmps16 h

/-- The objects of Join. -/
structure JnI (b p : Nat) (s : AV) (S : List Int) (es0 : List AV) (W : List (List Int × Int)) (K : List AObj) (cur : List AV) (i : Nat) (A : List (List Int × Int)) : Prop where
  b2 : 2 ≤ b
  bp : b ≤ p
  k0 : K[0]? = some (cooO (.agg [s, .slc p es0.length 0 W.length none]))
  k1 : K[1]? = some (cooO (.agg [.imm true none 0 [], .imm true none 0 []]))
  kp : K[p]? = some (ensO cur)
  cl : cur.length = es0.length
  st : ∀ k, i ≤ k → cur[k]? = es0[k]?
  al : A.length ≤ i
  hs : rowC b K s S
  h0 : EntsO b K (es0.take W.length) W
  ha : EntsO b K (cur.take A.length) A
  ag : ∀ k, k < W.length → ∃ x y, cur[k]? = some (.agg [x, y])
theorem JnI.to {b p : Nat} {s : AV} {S : List Int} {es0 : List AV} {W : List (List Int × Int)} {K K' : List AObj} {cur : List AV} {i : Nat} {A : List (List Int × Int)} (h : JnI b p s S es0 W K cur i A)
    (hK : ∀ k o, k < K.length → k ≠ p → K[k]? = some o → K'[k]? = some o) {cur' : List AV} {i' : Nat} {A' : List (List Int × Int)} (kp : K'[p]? = some (ensO cur')) (cl : cur'.length = es0.length) (st : ∀ k, i' ≤ k → cur'[k]? = es0[k]?) (al : A'.length ≤ i') (ha : EntsO b K' (cur'.take A'.length) A') (ag : ∀ k, k < W.length → ∃ x y, cur'[k]? = some (.agg [x, y])) : JnI b p s S es0 W K' cur' i' A' := by
  have hb := h.b2
  have hp := h.bp
  have ni : ∀ k c, K[k]? = some (intOb c) → K'[k]? = some (intOb c) := fun k c hk => hK k _ (List.getElem?_eq_some_iff.1 hk).1 (by
    rintro rfl
    rw [h.kp] at hk
    simp at hk) hk
  exact ⟨hb, hp, hK 0 _ (List.getElem?_eq_some_iff.1 h.k0).1 (by omega) h.k0, hK 1 _ (List.getElem?_eq_some_iff.1 h.k1).1 (by omega) h.k1, kp, cl, st, al, h.hs.to (Nat.le_refl _) fun k _ hk => ni k _ hk, h.h0.to (Nat.le_refl _) fun k c _ hk => ni k c hk, ha, ag⟩

set_option maxHeartbeats 8000000 in
theorem cJoin_spec {a o : AV} {X : List Int × List (List Int × Int)} {O : List Int} (ha : Coo a X) (ho : ISl o O) (hO : O.length ≤ 1000) (hX : InX X) (hXE : X.2.length ≤ 1000000) : ACalls Try.prog 16 [a, o] [] (cooR (joinF X O)) := by
  have ha' := ha
  have ho' := ho
  have hano := ha.noRef
  obtain ⟨⟨nlo, co, szo, rfl, hso⟩, hlo, hxo⟩ := ho
  have hone : ∃ x y, a = .agg [x, y] ∧ oneC x = true ∧ oneC y = true := by
    obtain ⟨s, e, rfl, ⟨⟨_, _, _, rfl, _⟩, _⟩, ⟨_, _, _, _, rfl, _⟩⟩ := ha
    exact ⟨_, _, rfl, rfl, rfl⟩
  obtain ⟨a1, a2, rfl, ha1, ha2⟩ := hone
  apply cJoin_call
  repeat first | refine AWp.seq ?_ | refine AWp.block ?_
  refine AWp.ops ?_
  simp [ha1, ha2]
  repeat first | refine AWp.seq ?_ | refine AWp.block ?_
  refine AWp.ops ?_
  simp
  refine (coo_at (cSort_spec ha' ho' hO hX) (by simpa using hano) _).mono ?_
  rintro r H' ⟨G, x, rfl, rfl, hx⟩
  obtain ⟨s, e, rfl, hs, he⟩ := hx
  simp at hs he
  have hFin := sortF_in (O := O) hX
  have hFl : (sortF X O).1.2.length ≤ 1000000 := by
    unfold sortF
    split
    · simp
    · simp; omega
  have hj : joinF X O = (((sortF X O).1.1, joinL (sortF X O).1.2), (sortF X O).2) := rfl
  rw [hj]
  obtain ⟨⟨⟨S, W⟩, er⟩, hF⟩ : ∃ F, F = sortF X O := ⟨_, rfl⟩
  rw [← hF] at hs he hFin hFl ⊢
  simp only at hs he hFin hFl ⊢
  have hs1 := hs.one
  rcases he with ⟨rfl, rfl⟩ | ⟨p, es0, hp2, rfl, hle, hes0, hE⟩
  · simp [hs1]
    repeat first | refine AWp.seq ?_ | refine AWp.block ?_
    refine AWp.ops ?_
    simp
    repeat first | refine AWp.seq ?_ | refine AWp.block ?_
    refine AWp.ops ?_
    simp
    obtain ⟨K, hK⟩ : ∃ K, K = cooO (.agg [s, .imm true none 0 []]) :: cooO (.agg [.imm true none 0 [], .imm true none 0 []]) :: G := ⟨_, rfl⟩
    rw [← hK]
    refine AWp.block (AWp.loop (fun (_ : Nat) fr H => H = K ∧ fr = [.und, .und, .ptr 0 1 0 0, .und, .ptr 1 1 0 0, I 0, I er, I 0, .und, .und, .und, .und, .und, .und, .und, .und, .und, .imm true none 0 [], I 0, I 0, .und, .und, .und, .und, .und, .und, .und, .und, .und, .und, .und, .und, .und, .und, .und, .und, .und, .und, .und, .und, .und, .und, .und, .und, .und, .und, .und, .und, .und, .und, .und, .und, .und, .und, .und, .und, .und, .und, .und, .und, .und, .und, .und, .und]) (fun _ => 0) 0 (Weak.slots [2, 4, 5, 6, 7, 17, 18, 19]) ⟨rfl, by simp⟩ ?_)
    rintro - fr H ⟨rfl, rfl⟩
    repeat first | refine AWp.seq ?_ | refine AWp.block ?_
    refine AWp.ops ?_
    simp
    refine AWp.seq (AWp.cond (b := false) (by simp) (fun h => by cases h) (fun _ => ?_))
    · refine AWp.exit ?_
      simp [qSeq, qBlock]
      have k0 : H[0]? = some (cooO (.agg [s, .imm true none 0 []])) := by rw [hK]; rfl
      have k1 : H[1]? = some (cooO (.agg [.imm true none 0 [], .imm true none 0 []])) := by rw [hK]; rfl
      have g1 : ∀ x, (H.set 0 x)[1]? = some (cooO (.agg [.imm true none 0 [], .imm true none 0 []])) := fun x => by rw [gs_ne (by omega)]; exact k1
      repeat first | refine AWp.seq ?_ | refine AWp.block ?_
      refine AWp.ops ?_
      simp [k0]
      repeat first | refine AWp.seq ?_ | refine AWp.block ?_
      refine AWp.ops ?_
      simp [gs_eq k0, g1, hs1]
      refine AWp.ret ?_
      simp
      refine retOk.of (vs := [.agg [s, .imm true none 0 []], I er]) (by simp [gs_eq (g1 _)]) ?_
      refine ⟨_, rfl, s, _, rfl, hs.to (by omega) fun k hk h => ?_, .inl ⟨rfl, rfl⟩⟩
      rw [gs_ne (by omega), gs_ne (by omega), hK]
      obtain ⟨j, rfl⟩ := Nat.exists_eq_add_of_le' hk
      simpa using h
  · simp [hs1]
    repeat first | refine AWp.seq ?_ | refine AWp.block ?_
    refine AWp.ops ?_
    simp
    repeat first | refine AWp.seq ?_ | refine AWp.block ?_
    refine AWp.ops ?_
    simp
    obtain ⟨K, hK⟩ : ∃ K, K = cooO (.agg [s, .slc p es0.length 0 W.length none]) :: cooO (.agg [.imm true none 0 [], .imm true none 0 []]) :: G := ⟨_, rfl⟩
    rw [← hK]
    have gK : ∀ (a b c d : AObj) k, 2 ≤ k → (a :: b :: G)[k]? = (c :: d :: G)[k]? := fun a b c d k hk => by
      obtain ⟨j, rfl⟩ := Nat.exists_eq_add_of_le' hk
      simp
    have I0 : JnI 2 p s S es0 W K es0 0 [] := by
      refine ⟨by omega, by omega, by rw [hK]; rfl, by rw [hK]; rfl, by rw [hK, gK _ _ _ _ _ (by omega)]; exact hes0, rfl, fun _ _ => rfl, by simp, hs.to (by omega) fun k hk h => by rw [hK, gK _ _ _ _ _ (by omega)]; exact h,
        hE.to (by omega) fun k c hk h => by rw [hK, gK _ _ _ _ _ (by omega)]; exact h, by simp; exact EntsO.nil, fun k hk => by
        obtain ⟨a, h1, _⟩ := hE.get hk
        rw [List.getElem?_take, if_pos hk] at h1
        exact ⟨_, _, h1⟩⟩
    clear hK gK hs hE hes0
    obtain ⟨J, hJ⟩ : ∃ J : Nat → List AV → List AObj → Prop, J = fun i fr H => i ≤ W.length ∧ ∃ (K : List AObj) (cur : List AV), (JnI 2 p s S es0 W K cur i (joinL (W.take i))) ∧ H = K ∧
      fr = [.und, .und, .ptr 0 1 0 0, .und, .ptr 1 1 0 0, I 0, I er, I (joinL (W.take i)).length, .und, .und, .und, .und, .und, .und, .und, .und, .und, .slc p es0.length 0 W.length none, I W.length, I i, .und, .und, .und, .und, .und, .und, .und, .und, .und, .und, .und, .und, .und, .und, .und, .und, .und, .und, .und, .und, .und, .und, .und, .und, .und, .und, .und, .und, .und, .und, .und, .und, .und, .und, .und, .und, .und, .und, .und, .und, .und, .und, .und, .und] := ⟨_, rfl⟩
    refine AWp.block (AWp.loop J (fun i => W.length - i) 0 (Weak.slots [2, 4, 5, 6, 7, 17, 18, 19]) (by rw [hJ]; exact ⟨by omega, K, es0, by simpa [joinL] using I0, by simp, by simp⟩) ?_)
    intro i fr H hI
    rw [hJ] at hI
    obtain ⟨hi, K, cur, hinv, rfl, rfl⟩ := hI
    repeat first | refine AWp.seq ?_ | refine AWp.block ?_
    refine AWp.ops ?_
    simp
    refine AWp.seq (AWp.cond (b := decide (i < W.length)) (by simp <;> omega) ?_ ?_)
    ·
      intro hb
      have hb : i < W.length := by simpa using hb
      refine AWp.skip ?_
      simp only [qSeq]
      obtain ⟨A, hA⟩ : ∃ A, A = joinL (W.take i) := ⟨_, rfl⟩
      have hxt : joinL (W.take (i + 1)) = joinS A W[i] := by rw [List.take_succ_eq_append_getElem hb, joinL_snoc, hA]
      rw [← hA] at hinv ⊢
      obtain ⟨ai, hai, hai2⟩ := hinv.h0.get hb
      have hli : i < es0.length := by omega
      rw [List.getElem?_take, if_pos hb] at hai
      have hci := hinv.st i (Nat.le_refl _)
      rw [hai] at hci
      have hWi := hFin.2 W[i] (List.getElem_mem hb)
      have hWm : ∀ x ∈ A, InI x.1 := fun x hx => by
        rw [hA] at hx
        obtain ⟨t, ht, he⟩ := joinL_mem hx
        rw [he]; exact hFin.2 t (List.mem_of_mem_take ht)
      generalize W[i] = t at hxt hai2 hWi hci hai
      obtain ⟨c, v⟩ := t
      simp only at hxt hai2 hWi hci hai
      have hcl := hinv.cl
      have hal := hinv.al
      have hkp := hinv.kp
      have hk0 := hinv.k0
      have hp2 := hinv.bp
      obtain ⟨m, hm⟩ : ∃ m, m = H.length := ⟨_, rfl⟩
      have hpm : p < m := by rw [hm]; exact (List.getElem?_eq_some_iff.1 hkp).1
      have gL : ∀ x, (H ++ [x])[m]? = some x := fun x => by rw [List.getElem?_append_right (by omega), show m - H.length = 0 by omega]; rfl
      have sL : ∀ x y, (H ++ [x]).set m y = H ++ [y] := fun x y => by rw [List.set_append_right _ _ (by omega), show m - H.length = 0 by omega]; rfl
      have gR : ∀ G r, r < m → (H ++ G)[r]? = H[r]? := fun G r hr => List.getElem?_append_left (by omega)
      have gp : ∀ x, (H ++ [x])[p]? = some (ensO cur) := fun x => by rw [gR _ _ hpm]; exact hkp
      have g0 : ∀ x, (H ++ [x])[0]? = some (cooO (.agg [s, .slc p es0.length 0 W.length none])) := fun x => by rw [gR _ _ (by omega)]; exact hk0
      have hwi := wrap_i64 (n := (i : Int) + 1) (by omega) (by omega)
      have ha1 := hai2.one
      obtain ⟨hici, hci'⟩ := List.getElem?_eq_some_iff.1 hci
      repeat first | refine AWp.seq ?_ | refine AWp.block ?_
      refine AWp.ops ?_
      simp [hkp, hcl, hci, hci', hb, ← hm, gL, sL, hle, ha1]
      obtain ⟨K1, hK1⟩ : ∃ K1, K1 = H ++ [enO (.agg [ai, I v])] := ⟨_, rfl⟩
      rw [← hK1]
      replace gp : K1[p]? = some (ensO cur) := by rw [hK1]; exact gp _
      replace g0 : K1[0]? = some (cooO (.agg [s, .slc p es0.length 0 W.length none])) := by rw [hK1]; exact g0 _
      replace gL : K1[m]? = some (enO (.agg [ai, I v])) := by rw [hK1]; exact gL _
      have far : ∀ (cur' : List AV) (A' : List (List Int × Int)), joinS A (c, v) = A' → cur'.length = cur.length → (∀ k, i + 1 ≤ k → cur'[k]? = cur[k]?) → A'.length ≤ i + 1 → (∀ k, k < W.length → ∃ x y, cur'[k]? = some (.agg [x, y])) →
          (∀ K', (∀ k c', 2 ≤ k → H[k]? = some (intOb c') → K'[k]? = some (intOb c')) → EntsO 2 K' (cur'.take A'.length) A') → JnI 2 p s S es0 W (K1.set p (ensO cur')) cur' (i + 1) (joinS A (c, v)) := by
        intro cur' A' e1 e2 e3 e4 e6 e5
        rw [e1]
        have hK : ∀ k o, k < H.length → k ≠ p → H[k]? = some o → (K1.set p (ensO cur'))[k]? = some o := fun k o h1 h2 h3 => by rw [gs_ne (Ne.symm h2), hK1, gR _ _ (by omega)]; exact h3
        refine hinv.to hK (gs_eq gp) (by omega) (fun k hk => by rw [e3 k hk]; exact hinv.st k (by omega)) e4 (e5 _ fun k c' _ h => hK k _ (List.getElem?_eq_some_iff.1 h).1 ?_ h) e6
        rintro rfl
        rw [hkp] at h
        simp at h
      have agS : ∀ n x y, ∀ k, k < W.length → ∃ x' y', (cur.set n (.agg [x, y]))[k]? = some (.agg [x', y']) := by
        intro n x y k hk
        by_cases e : n = k
        · subst e
          exact ⟨x, y, List.getElem?_set_self (by omega)⟩
        · rw [List.getElem?_set_ne e]; exact hinv.ag k hk
      have put : ∀ (hne : joinS A (c, v) = A ++ [(c, v)]), JnI 2 p s S es0 W (K1.set p (ensO (cur.set A.length (.agg [ai, I v])))) (cur.set A.length (.agg [ai, I v])) (i + 1) (joinS A (c, v)) := by
        intro hne
        refine far _ _ hne (by simp) (fun k hk => List.getElem?_set_ne (by omega)) (by simp; omega) (agS _ _ _) fun K' hK' => ?_
        have e : (cur.set A.length (.agg [ai, I v])).take (A ++ [(c, v)]).length = cur.take A.length ++ [.agg [ai, I v]] := by
          rw [List.length_append, List.length_singleton, List.take_succ_eq_append_getElem (by simp; omega), List.take_set_of_le (by omega)]
          simp
        rw [e]
        exact (hinv.ha.to (Nat.le_refl _) fun k c' hk h => hK' k c' hk h).snoc (hai2.to (Nat.le_refl _) fun k hk h => hK' k _ hk h)
      have w7 := wrap_i64 (n := (A.length : Int) + 1) (by omega) (by omega)
      have hnL : A.length < es0.length := by omega
      have hcn : A.length < cur.length := by omega
      have hAW : A.length < W.length := by omega
      obtain ⟨a9, v9, hc9⟩ := hinv.ag A.length hAW
      obtain ⟨_, hc9'⟩ := List.getElem?_eq_some_iff.1 hc9
      have putq : ∀ (hne : joinS A (c, v) = A ++ [(c, v)]), ∃ s' fr'' H'', Weak 0 [.und, .und, .ptr 0 1 0 0, .und, .ptr 1 1 0 0, I 0, I er, I ((A.length : Int) + 1), .und, .und, .und, .und, .und, .und, .und, .und, .und, .slc p es0.length 0 W.length none, I W.length, I ((i : Int) + 1), .und, .und, .und, .und, .und, .und, .und, .und, .und, .und, .und, .und, .und, .und, .und, .und, .und, .und, .und, .und, .und, .und, .und, .und, .und, .und, .und, .und, .und, .und, .und, .und, .und, .und, .und, .und, .und, .und, .und, .und, .und, .und, .und, .und] (K1.set p (ensO (cur.set A.length (.agg [ai, I v])))) fr'' H'' ∧ J s' fr'' H'' ∧ W.length - s' < W.length - i := by
        intro hne
        refine ⟨i + 1, _, _, Weak.refl _ _ _, ?_, by omega⟩
        rw [hJ]
        refine ⟨by omega, _, _, by rw [hxt]; exact put hne, rfl, ?_⟩
        rw [hxt, hne]
        simp
      have hW0 : 0 < W.length := by omega
      by_cases hn : A.length = 0
      · have hA0 : A = [] := List.length_eq_zero_iff.1 hn
        have hc0' : cur[0]'(by omega) = .agg [a9, v9] := by simp only [hn] at hc9'; exact hc9'
        have hc0 : cur[0]? = some (.agg [a9, v9]) := by rw [List.getElem?_eq_getElem (by omega), hc0']
        have hne : joinS A (c, v) = A ++ [(c, v)] := by rw [hA0]; rfl
        repeat first | refine AWp.seq ?_ | refine AWp.block ?_
        refine AWp.ops ?_
        simp [hn]
        refine AWp.cond (b := false) (by simp) (fun h => by cases h) (fun _ => ?_)
        refine AWp.skip ?_
        simp only [qSeq]
        repeat first | refine AWp.seq ?_ | refine AWp.block ?_
        refine AWp.ops ?_
        simp [gp, g0, gL, hcl, hnL, hAW, hn, hc0, hc0', ha1, hle, hW0]
        repeat first | refine AWp.seq ?_ | refine AWp.block ?_
        refine AWp.ops ?_
        simp
        repeat first | refine AWp.seq ?_ | refine AWp.block ?_
        refine AWp.ops ?_
        simp [hwi]
        obtain ⟨s', fr'', H'', q1, q2, q3⟩ := putq hne
        refine ⟨s', fr'', H'', (((Weak.slots [2, 4, 5, 6, 7, 17, 18, 19]).to (by simp [hn, show IntKind.i64.wrap 1 = 1 from by decide]) (by simp [hn]))).trans q1, q2, q3⟩
      · have hnp : 0 < A.length := by omega
        obtain ⟨b1, hb1, hb2⟩ := hinv.ha.get (i := A.length - 1) (by omega)
        rw [List.getElem?_take, if_pos (by omega)] at hb1
        have hWl := hWm _ (List.getElem_mem (l := A) (n := A.length - 1) (by omega))
        obtain ⟨hq1, hq2⟩ := List.getElem?_eq_some_iff.1 hb1
        obtain ⟨cl, vl⟩ : ∃ cl vl, A[A.length - 1]'(by omega) = (cl, vl) := ⟨_, _, rfl⟩
        have g1 : (0 : Int) < A.length := by omega
        have w1 := wrap_i64 (n := (A.length : Int) - 1) (by omega) (by omega)
        have g2 : ((A.length : Int) - 1).toNat = A.length - 1 := by omega
        have g3 : (1 : Int) ≤ A.length := by omega
        have g4 : (A.length : Int) - 1 < W.length := by omega
        have hb1o := hb2.one
        obtain ⟨cv, hcv⟩ : ∃ cv, cv = A[A.length - 1]'(by omega) := ⟨_, rfl⟩
        rw [← hcv] at hb1 hb2 hWl hq2
        repeat first | refine AWp.seq ?_ | refine AWp.block ?_
        refine AWp.ops ?_
        simp [gp, g0, gL, hcl, hnL, hAW, hn, g1, w1, g2, g3, g4, hle, hb1, hq1, hq2, hnp]
        have hni : ∀ k c', H[k]? = some (intOb c') → K1[k]? = some (intOb c') := fun k c' h => by rw [hK1, List.getElem?_append_left (List.getElem?_eq_some_iff.1 h).1]; exact h
        have e1 : rowC 2 K1 b1 cv.1 := hb2.to (Nat.le_refl _) fun k _ h => hni k _ h
        have e2 : rowC 2 K1 ai c := hai2.to (Nat.le_refl _) fun k _ h => hni k _ h
        refine ACalls.mono (ACalls.pureLent 3 (R := fun r => r = Bo (decide (cv.1 = c))) ?_ (by rintro r rfl s; simp)) ?_
        · simp
          exact (sEqual_spec (e1.read hWl 2) (e2.read hWi 2)).mono fun r H h => ⟨h.1, by rw [h.2]⟩
        rintro r H' ⟨hH', rfl⟩
        subst H'
        simp [g1]
        by_cases heq : cv.1 = c
        · have hje := joinS_eq (t := (c, v)) hnp (by rw [← hcv]; exact heq)
          rw [← hcv] at hje
          refine AWp.cond (b := true) (by simp [heq]) (fun _ => ?_) (fun h => by cases h)
          repeat first | refine AWp.seq ?_ | refine AWp.block ?_
          refine AWp.ops ?_
          simp [gp, g0, gL, hcl, hnL, hAW, hn, g1, w1, g2, g3, g4, hle, hb1, hq1, hq2, hnp]
          refine AWp.exit ?_
          simp [qBlock, qSeq]
          repeat first | refine AWp.seq ?_ | refine AWp.block ?_
          refine AWp.ops ?_
          simp [hwi]
          have hset := far (cur.set (A.length - 1) (.agg [b1, I (IntKind.i64.wrap (cv.2 + v))])) _ hje (by simp) (fun k hk => List.getElem?_set_ne (by omega)) (by simp; omega) (agS _ _ _) (fun K' hK' => by
            rw [List.length_set, List.take_set]
            exact (hinv.ha.to (Nat.le_refl _) fun k c' hk h => hK' k c' hk h).set (hb2.to (Nat.le_refl _) fun k hk h => hK' k _ hk h) _)
          refine ⟨i + 1, _, _, Weak.slots [2, 4, 5, 6, 7, 17, 18, 19], ?_, by omega⟩
          rw [hJ]
          refine ⟨by omega, _, _, by rw [hxt]; exact hset, rfl, ?_⟩
          rw [hxt, hje]
          simp
        · have hjn := joinS_ne (t := (c, v)) hnp (by rw [← hcv]; exact heq)
          refine AWp.cond (b := false) (by simp [heq]) (fun h => by cases h) (fun _ => ?_)
          refine AWp.skip ?_
          simp only [qSeq]
          repeat first | refine AWp.seq ?_ | refine AWp.block ?_
          refine AWp.ops ?_
          simp [gp, g0, gL, hcl, hnL, hAW, hn, hc9, hc9', ha1, hle]
          repeat first | refine AWp.seq ?_ | refine AWp.block ?_
          refine AWp.ops ?_
          simp [w7]
          repeat first | refine AWp.seq ?_ | refine AWp.block ?_
          refine AWp.ops ?_
          simp [hwi]
          obtain ⟨s', fr'', H'', q1, q2, q3⟩ := putq hjn
          exact ⟨s', fr'', H'', (((Weak.slots [2, 4, 5, 6, 7, 17, 18, 19]).to (by simp) (by simp))).trans q1, q2, q3⟩
    ·
      intro hb
      have hb : ¬ i < W.length := by simpa using hb
      refine AWp.exit ?_
      simp [qSeq, qBlock]
      rw [List.take_of_length_le (by omega)] at hinv
      have k0 := hinv.k0
      have k1 := hinv.k1
      have kp := hinv.kp
      have hcl := hinv.cl
      have hal := hinv.al
      have hbp := hinv.bp
      have g1 : ∀ x, (H.set 0 x)[1]? = some (cooO (.agg [.imm true none 0 [], .imm true none 0 []])) := fun x => by rw [gs_ne (by omega)]; exact k1
      have c1 : (joinL W).length ≤ es0.length := by omega
      rw [List.take_of_length_le (by omega)]
      repeat first | refine AWp.seq ?_ | refine AWp.block ?_
      refine AWp.ops ?_
      simp [k0, kp, hcl, c1]
      repeat first | refine AWp.seq ?_ | refine AWp.block ?_
      refine AWp.ops ?_
      simp [gs_eq k0, g1, hs1]
      refine AWp.ret ?_
      simp
      refine retOk.of (vs := [.agg [s, .slc p es0.length 0 (joinL W).length none], I er]) (by simp [gs_eq (g1 _)]) ?_
      have gg : ∀ x y k, 2 ≤ k → ((H.set 0 x).set 1 y)[k]? = H[k]? := fun x y k hk => by rw [gs_ne (by omega), gs_ne (by omega)]
      refine ⟨_, rfl, s, _, rfl, hinv.hs.to (by omega) fun k hk h => by rw [gg _ _ k hk]; exact h, .inr ⟨p, cur, by omega, by rw [hcl], by simp; omega, by rw [gg _ _ p hbp]; exact kp, hinv.ha.to (by omega) fun k c hk h => by rw [gg _ _ k hk]; exact h⟩⟩
end Go.Fw
