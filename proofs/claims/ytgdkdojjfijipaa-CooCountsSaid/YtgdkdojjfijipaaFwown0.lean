import Derived.Test.YtgdkdojjfijipaaFwzero1
namespace Go.Fw
open Go Go.RowKit Go.Proofs
set_option maxRecDepth 100000
set_option linter.unusedSimpArgs false
set_option linter.unusedVariables false

/-- Whole numbers that a slice may have. -/
abbrev InR (xs : List Int) : Prop := xs.length ≤ 9223372036854775807 ∧ ∀ x ∈ xs, -9223372036854775808 ≤ x ∧ x ≤ 9223372036854775807
abbrev nilD : AV := .agg [.imm true none 0 [], .imm true none 0 []]
abbrev i64O (vs : List Int) : AObj := ⟨2, 1, vs.map I, true, none⟩
abbrev denO (d : AV) : AObj := ⟨49, 2, [d], true, none⟩
def shapeOk (b : Nat) (H : List AObj) (j : Nat) (s : AV) (xs : List Int) : Prop :=
  (xs = [] ∧ ∃ nl c sz, s = .imm nl c sz [] ∧ (nl = false → sz = 1)) ∨ ∃ k, b ≤ k ∧ k ≠ j ∧ s = .slc k xs.length 0 xs.length none ∧ H[k]? = some ⟨3, 1, xs.map I, true, none⟩
/-- A tensor of the call's own: its numbers may be turned. -/
def ownD (b : Nat) (H : List AObj) (d : AV) (D : List Int × List Int) : Prop :=
  ∃ s j, b ≤ j ∧ d = .agg [s, .slc j D.2.length 0 D.2.length none] ∧ H[j]? = some (i64O D.2) ∧ shapeOk b H j s D.1
theorem ownD.frz {b : Nat} {G : List AObj} {d : AV} {D : List Int × List Int} (h : ownD b G d D) (hx : InR D.1) (hv : InR D.2) : Dn (frz G 0 8 false d) D := by
  obtain ⟨s, j, _, rfl, hj, hs⟩ := h
  refine ⟨_, _, by simp; exact ⟨rfl, rfl⟩, ?_, ?_⟩
  · rcases hs with ⟨h0, nl, c, sz, rfl, hs⟩ | ⟨k, _, _, rfl, hG⟩
    · exact ⟨⟨nl, c, sz, by simp [h0], ⟨fun _ => h0, hs⟩⟩, hx⟩
    · refine ⟨⟨false, none, 1, ?_, by simp, by simp⟩, hx⟩
      simp [hG]
  · refine ⟨⟨false, none, 1, ?_, by simp, by simp⟩, hv⟩
    simp [hj]
theorem ownD.tail {A A' G : List AObj} {b : Nat} {d : AV} {D : List Int × List Int} (h : ownD A.length (A ++ G) d D) (hl : A.length = A'.length) (hb : b ≤ A.length) : ownD b (A' ++ G) d D := by
  obtain ⟨s, j, hj, rfl, hjo, hs⟩ := h
  have get : ∀ k, A.length ≤ k → (A' ++ G)[k]? = (A ++ G)[k]? := by
    intro k hk
    rw [List.getElem?_append_right (by omega), List.getElem?_append_right hk, hl]
  refine ⟨s, j, by omega, rfl, by rw [get j hj]; exact hjo, ?_⟩
  rcases hs with h | ⟨k, h1, h2, h3, h4⟩
  · exact .inl h
  · exact .inr ⟨k, by omega, h2, h3, by rw [get k h1]; exact h4⟩
def denseR (F : (List Int × List Int) × Int) (r : AV) (G : List AObj) : Prop :=
  (F.2 ≠ 0 ∧ F.1 = ([], []) ∧ r = .tup [nilD, I F.2]) ∨ (F.2 = 0 ∧ ∃ d, r = .tup [d, I 0] ∧ ownD 0 G d F.1)
theorem dense_pure {P : Program} {f : FuncId} {args : List AV} {F : (List Int × List Int) × Int} (h : ACalls P f args [] (denseR F)) (hx : InR F.1.1) (hv : InR F.1.2) :
    ACalls P f args [] fun r H' => H' = [] ∧ ∃ d, r = .tup [d, I F.2] ∧ Dn d F.1 := by
  refine (h.frozen 9).mono ?_
  rintro q H' ⟨rfl, r, G, ⟨h1, h2, rfl⟩ | ⟨h1, d, rfl, hd⟩, rfl⟩
  · refine ⟨rfl, nilD, by simp, ?_⟩
    rw [h2]
    exact ⟨_, _, rfl, ISl.nil, ISl.nil⟩
  · refine ⟨rfl, _, by simp [h1]; rfl, ?_⟩
    exact hd.frz hx hv
theorem shH_get {s n : Nat} {fl : Bool} {G : List AObj} {i : Nat} {o : AObj} (h : G[i]? = some o) (H : List AObj) (hs : s = H.length) : (H ++ shH s fl n G)[i + s]? = some { o with es := o.es.map (shv s fl n) } := by
  subst hs
  rw [List.getElem?_append_right (by omega), show i + H.length - H.length = i by omega, shH, List.getElem?_map, h]; rfl
@[simp] theorem shv_I {s n : Nat} {fl : Bool} : shv s fl n ∘ I = I := by
  funext x; cases n <;> rfl
theorem dense_at {P : Program} {f : FuncId} {args : List AV} {F : (List Int × List Int) × Int} (h : ACalls P f args [] (denseR F)) (hno : noRefs args = true) (H : List AObj) :
    ACalls P f args H fun q H' => ∃ G, H' = H ++ G ∧ ((F.2 ≠ 0 ∧ F.1 = ([], []) ∧ q = .tup [nilD, I F.2]) ∨ (F.2 = 0 ∧ ∃ d, q = .tup [d, I 0] ∧ ownD H.length (H ++ G) d F.1)) := by
  refine (h.anywhere hno 8 H).mono ?_
  rintro q H' ⟨r, G, hr, rfl, rfl⟩
  refine ⟨_, rfl, ?_⟩
  rcases hr with ⟨h1, h2, rfl⟩ | ⟨h1, d, rfl, s, j, _, rfl, hj, hs⟩
  · exact .inl ⟨h1, h2, by simp [shv]⟩
  · refine .inr ⟨h1, _, by simp [shv]; rfl, shv H.length false 6 s, j + H.length, by omega, by simp [shv], ?_, ?_⟩
    · rw [shH_get hj H rfl]
      simp
    · rcases hs with ⟨h0, nl, c, sz, rfl, hs⟩ | ⟨k, _, hk, rfl, hG⟩
      · exact .inl ⟨h0, nl, c, sz, by simp [shv], hs⟩
      · refine .inr ⟨k + H.length, by omega, by omega, by simp [shv], ?_⟩
        rw [shH_get hG H rfl]
        simp
theorem dense_lent {P : Program} {f : FuncId} {args : List AV} {F : (List Int × List Int) × Int} (n' : Nat) {H : List AObj} (h : ACalls P f (args.map (frz H 0 n' false)) [] (denseR F)) :
    ACalls P f args H fun q H' => ∃ G, H' = H ++ G ∧ ((F.2 ≠ 0 ∧ F.1 = ([], []) ∧ q = .tup [nilD, I F.2]) ∨ (F.2 = 0 ∧ ∃ d, q = .tup [d, I 0] ∧ ownD H.length (H ++ G) d F.1)) := by
  refine (h.lent 8 n').mono ?_
  rintro q H' ⟨r, G, hr, rfl, rfl⟩
  refine ⟨_, rfl, ?_⟩
  rcases hr with ⟨h1, h2, rfl⟩ | ⟨h1, d, rfl, s, j, _, rfl, hj, hs⟩
  · exact .inl ⟨h1, h2, by simp [shv]⟩
  · refine .inr ⟨h1, _, by simp [shv]; rfl, shv H.length true 6 s, j + H.length, by omega, by simp [shv], ?_, ?_⟩
    · rw [shH_get hj H rfl]
      simp
    · rcases hs with ⟨h0, nl, c, sz, rfl, hs⟩ | ⟨k, _, hk, rfl, hG⟩
      · exact .inl ⟨h0, nl, c, sz, by simp [shv], hs⟩
      · refine .inr ⟨k + H.length, by omega, by omega, by simp [shv], ?_⟩
        rw [shH_get hG H rfl]
        simp
theorem zeroR.dense {xs : List Int} {r : AV} {G : List AObj} (h : zeroR xs r G) : denseR (zeroF xs) r G := by
  obtain ⟨e, ⟨h1, h2, rfl⟩ | ⟨rfl, h2, s, j, n, hn, rfl, hj, hs⟩⟩ := h
  · refine .inl ⟨?_, ?_, ?_⟩ <;> simp [zeroF, h2, h1]
  · have ez : zeroF xs = ((xs, List.replicate n 0), 0) := by simp [zeroF, h2, hn]
    rw [ez]
    refine .inr ⟨rfl, _, rfl, s, j, by omega, by simp, by simp [hj], ?_⟩
    rcases hs with h | ⟨k, h1, h2, h3⟩
    · exact .inl h
    · exact .inr ⟨k, by omega, h1, h2, h3⟩
theorem Zero_dense {a : AV} {xs : List Int} (ha : ISl a xs) : ACalls Try.prog 59 [a] [] (denseR (zeroF xs)) := (Zero_spec ha).mono fun _ _ h => h.dense
theorem gs_ne {K : List AObj} {q k : Nat} {o : AObj} (h : q ≠ k) : (K.set q o)[k]? = K[k]? := List.getElem?_set_ne h
theorem gs_eq {K : List AObj} {q : Nat} {o o0 : AObj} (h : K[q]? = some o0) : (K.set q o)[q]? = some o := List.getElem?_set_self (List.getElem?_eq_some_iff.1 h).1
theorem shapeOk.one {b : Nat} {H : List AObj} {j : Nat} {s : AV} {xs : List Int} (h : shapeOk b H j s xs) : oneC s = true := by
  rcases h with ⟨_, _, _, _, rfl, _⟩ | ⟨_, _, _, rfl, _⟩ <;> rfl
theorem shapeOk.set {b : Nat} {H : List AObj} {j : Nat} {s : AV} {xs : List Int} (h : shapeOk b H j s xs) (o : AObj) : shapeOk b (H.set j o) j s xs := by
  rcases h with h | ⟨k, h1, h2, h3, h4⟩
  · exact .inl h
  · exact .inr ⟨k, h1, h2, h3, by rw [gs_ne (by omega)]; exact h4⟩
theorem shapeOk.set_lt {b : Nat} {H : List AObj} {j : Nat} {s : AV} {xs : List Int} (h : shapeOk b H j s xs) (i : Nat) (hi : i < b) (o : AObj) : shapeOk b (H.set i o) j s xs := by
  rcases h with h | ⟨k, h1, h2, h3, h4⟩
  · exact .inl h
  · exact .inr ⟨k, h1, h2, h3, by rw [gs_ne (by omega)]; exact h4⟩
theorem shapeOk.app {b : Nat} {H : List AObj} {j : Nat} {s : AV} {xs : List Int} (h : shapeOk b H j s xs) (G : List AObj) : shapeOk b (H ++ G) j s xs := by
  rcases h with h | ⟨k, h1, h2, h3, h4⟩
  · exact .inl h
  · exact .inr ⟨k, h1, h2, h3, by rw [List.getElem?_append_left (List.getElem?_eq_some_iff.1 h4).1]; exact h4⟩
theorem shapeOk.mono {b b' : Nat} {H : List AObj} {j : Nat} {s : AV} {xs : List Int} (h : shapeOk b H j s xs) (hb : b' ≤ b) : shapeOk b' H j s xs := by
  rcases h with h | ⟨k, h1, h2, h3, h4⟩
  · exact .inl h
  · exact .inr ⟨k, by omega, h2, h3, h4⟩

end Go.Fw
