/- merge.Order: its objects. -/
import Derived.Test.YtkfooghdpfhiaaaFword0
import Derived.Test.YtkfooghdpfhiaaaFwstp0
import Derived.Test.YtkfooghdpfhiaaaFwhp3
import Derived.Test.YtkfooghdpfhiaaaFwY4
namespace Go.Fw
open Go Go.RowKit Go.Proofs
set_option maxRecDepth 100000
set_option linter.unusedSimpArgs false
set_option linter.unusedVariables false

/-- Rows of the call's own, and what leads to them. -/
def rowS (b n : Nat) (f : Nat → List Int) : List AV := (List.range n).map fun x => .slc (x + b) (f x).length 0 (f x).length none
def rowsO (ty n : Nat) (f : Nat → List Int) : List AObj := (List.range n).map fun x => ow ty 1 ((f x).map I)
def upd (f : Nat → List Int) (x : Nat) (l : List Int) : Nat → List Int := fun y => if y = x then l else f y
section
variable {b n ty x : Nat} {f g : Nat → List Int} {l : List Int}
@[simp] theorem rowS_len : (rowS b n f).length = n := by simp [rowS]
@[simp] theorem rowsO_len : (rowsO ty n f).length = n := by simp [rowsO]
theorem rowS_get (h : x < n) : (rowS b n f)[x]? = some (.slc (x + b) (f x).length 0 (f x).length none) := by simp [rowS, h]
theorem rowsO_get (h : x < n) : (rowsO ty n f)[x]? = some (ow ty 1 ((f x).map I)) := by simp [rowsO, h]
theorem rowS_set (h : x < n) : (rowS b n f).set x (.slc (x + b) l.length 0 l.length none) = rowS b n (upd f x l) := by
  apply List.ext_getElem (by simp)
  intro i h1 h2
  simp only [List.getElem_set, rowS, List.getElem_map, List.getElem_range, upd]
  split
  · rename_i e; subst e; simp
  · rename_i e; rw [if_neg (Ne.symm e)]
theorem rowsO_set (h : x < n) : (rowsO ty n f).set x (ow ty 1 (l.map I)) = rowsO ty n (upd f x l) := by
  apply List.ext_getElem (by simp)
  intro i h1 h2
  simp only [List.getElem_set, rowsO, List.getElem_map, List.getElem_range, upd]
  split
  · rename_i e; subst e; simp
  · rename_i e; rw [if_neg (Ne.symm e)]
theorem rowS_congr (h : ∀ x < n, f x = g x) : rowS b n f = rowS b n g := List.map_congr_left fun x hx => by rw [h x (by simpa using hx)]
theorem rowsO_congr (h : ∀ x < n, f x = g x) : rowsO ty n f = rowsO ty n g := List.map_congr_left fun x hx => by rw [h x (by simpa using hx)]
theorem rowS_nil : rowS b n (fun _ => []) = (List.range n).map fun x => .slc (b + x) 0 0 0 none := by simp [rowS, Nat.add_comm]
theorem rowsO_nil : rowsO ty n (fun _ => []) = List.replicate n (ow ty 1 []) := by simp [rowsO, List.map_const']
end
theorem bhF_len (A : List (List Int)) (x : Nat) : (bhF A x).length ≤ A.flatten.length := by
  have h : ∀ (L : List (List Int)) (m : Nat), ((L.zipIdx m).flatMap fun p => (p.1.filter fun y => decide (y = (x : Int))).map fun _ => (p.2 : Int)).length ≤ L.flatten.length := by
    intro L
    induction L with
    | nil => simp
    | cons l L ih =>
      intro m
      have := ih (m + 1)
      have h2 := List.length_filter_le (fun y => decide (y = (x : Int))) l
      simp only [List.zipIdx_cons, List.flatMap_cons, List.length_append, List.length_map, List.flatten_cons]
      omega
  exact h A 0

/-- What each waits for, up to the i-th list, and m of that. -/
def wsF (A : List (List Int)) (i m : Nat) : List Int := (List.range A.length).map fun k => if k < i then ((A.getD k []).length : Int) else if k = i then m else 0
theorem wsF_set {A : List (List Int)} {i m : Nat} (hi : i < A.length) : (wsF A i m).set i ((m : Int) + 1) = wsF A i (m + 1) := by
  apply List.ext_getElem (by simp [wsF])
  intro j h1 h2
  simp only [List.getElem_set, wsF, List.getElem_map, List.getElem_range]
  split
  · rename_i e; subst e; simp
  · rename_i e; rw [if_neg (c := j = i) (Ne.symm e), if_neg (c := j = i) (Ne.symm e)]
theorem wsF_next {A : List (List Int)} {i : Nat} (hi : i < A.length) : wsF A i A[i].length = wsF A (i + 1) 0 := by
  apply List.map_congr_left
  intro k hk
  by_cases h1 : k < i
  · rw [if_pos h1, if_pos (by omega)]
  · by_cases h2 : k = i
    · subst h2; simp [hi]
    · rw [if_neg h1, if_neg h2, if_neg (by omega)]; simp
theorem bh_step {A : List (List Int)} {i m k : Nat} {l : List Int} (hi : i < A.length) (hm : m < l.length) (hk : l[m] = k) (x : Nat) : bhF (A.take i ++ [l.take (m + 1)]) x = upd (bhF (A.take i ++ [l.take m])) k (bhF (A.take i ++ [l.take m]) k ++ [(i : Int)]) x := by
  have hil : (A.take i).length = i := by simp; omega
  simp only [upd, bhF_snoc, List.take_succ_eq_append_getElem hm, List.filter_append, List.map_append, hk, hil]
  by_cases e : x = k
  · subst e; simp
  · have e2 : ¬ (k : Int) = x := by omega
    simp [e, e2]
theorem ordR_ex (A : List (List Int)) (out : List Nat) : ∃ o, OrdR A out o := by
  obtain ⟨m, hm⟩ : ∃ m, m = leftN A.length out := ⟨_, rfl⟩
  induction m generalizing out with
  | zero =>
    refine ⟨out, .done ?_⟩
    rw [nextF, List.find?_eq_none]
    intro k hk hmay
    have : k ∉ out := by simp [may] at hmay; exact hmay.1
    have h1 := leftN_snoc (n := A.length) (by simpa using hk) this
    omega
  | succ m ih =>
    cases h : nextF A out with
    | none => exact ⟨out, .done h⟩
    | some k =>
      have h1 := List.find?_some h
      have h2 := List.mem_of_find?_eq_some h
      have h3 := leftN_snoc (n := A.length) (k := k) (out := out) (by simpa using h2) (by simp [may] at h1; exact h1.1)
      obtain ⟨o, ho⟩ := ih (out ++ [k]) (by omega)
      exact ⟨o, .step h ho⟩
noncomputable def ordL (A : List (List Int)) : List Nat := Classical.choose (ordR_ex A [])
theorem ordL_spec (A : List (List Int)) : OrdR A [] (ordL A) := Classical.choose_spec (ordR_ex A [])
instance (A : List (List Int)) : Decidable (inA A) := by unfold inA; infer_instance
noncomputable def ordF (A : List (List Int)) : List Int × Int :=
  if inA A then (if (ordL A).length < A.length then ([], 5) else ((ordL A).map fun (k : Nat) => (k : Int), 0)) else ([], 3)

/-- The objects of Order: what each waits for, which wait for each, the heap, and what came. -/
structure OS (n : Nat) (f : Nat → List Int) (H : List AObj) (wl : List Int) (es : List AV) (m : Nat) (out : Option (List Nat)) : Prop where
  len : H.length = n + 4 + out.toList.length
  w0 : H[0]? = some (ob 3 1 (wl.map I))
  b1 : H[1]? = some (ob 22 1 (rowS 2 n f))
  bx : ∀ x, x < n → H[x + 2]? = some (ow 3 1 ((f x).map I))
  hs : HS (some true) (fun v => .agg [v]) 86 3 1 H (n + 2) (n + 3) es m
  ho : ∀ l, out = some l → H[n + 4]? = some (ow 3 1 (l.map fun (k : Nat) => I k))
section
variable {n : Nat} {f : Nat → List Int} {H : List AObj} {wl wl' : List Int} {es es' : List AV} {m m' : Nat} {out : Option (List Nat)}
theorem OS.wait (h : OS n f H wl es m out) : OS n f (H.set 0 (ob 3 1 (wl'.map I))) wl' es m out := by
  have ne : ∀ k, k ≠ 0 → (H.set 0 (ob 3 1 (wl'.map I)))[k]? = H[k]? := fun k hk => List.getElem?_set_ne (Ne.symm hk)
  exact ⟨by simpa using h.len, List.getElem?_set_self (by have := h.len; omega), by rw [ne _ (by omega)]; exact h.b1, fun x hx => by rw [ne _ (by omega)]; exact h.bx x hx,
    ⟨by rw [ne _ (by omega)]; exact h.hs.hp, by rw [ne _ (by omega)]; exact h.hs.hj, h.hs.ne, h.hs.le⟩, fun l hl => by rw [ne _ (by omega)]; exact h.ho l hl⟩
theorem OS.heap (h : OS n f H wl es m out) (hm : m' ≤ es'.length) : OS n f (hset (some true) (fun v => .agg [v]) 86 3 1 H (n + 2) (n + 3) es' m') wl es' m' out := by
  have ne : ∀ k, k ≠ n + 2 → k ≠ n + 3 → (hset (some true) (fun v => .agg [v]) 86 3 1 H (n + 2) (n + 3) es' m')[k]? = H[k]? := fun k h1 h2 => by
    rw [hset, List.getElem?_set_ne (Ne.symm h1), List.getElem?_set_ne (Ne.symm h2)]
  exact ⟨by simpa [hset] using h.len, by rw [ne _ (by omega) (by omega)]; exact h.w0, by rw [ne _ (by omega) (by omega)]; exact h.b1, fun x hx => by rw [ne _ (by omega) (by omega)]; exact h.bx x hx,
    h.hs.hset hm, fun l hl => by rw [ne _ (by omega) (by omega)]; exact h.ho l hl⟩
theorem OS.come {l l' : List Nat} (h : OS n f H wl es m (some l)) : OS n f (H.set (n + 4) (ow 3 1 (l'.map fun (k : Nat) => I k))) wl es m (some l') := by
  have hl := (List.getElem?_eq_some_iff.1 (h.ho l rfl)).1
  have ne : ∀ k, k ≠ n + 4 → (H.set (n + 4) (ow 3 1 (l'.map fun (k : Nat) => I k)))[k]? = H[k]? := fun k hk => List.getElem?_set_ne (Ne.symm hk)
  exact ⟨by simpa using h.len, by rw [ne _ (by omega)]; exact h.w0, by rw [ne _ (by omega)]; exact h.b1, fun x hx => by rw [ne _ (by omega)]; exact h.bx x hx,
    ⟨by rw [ne _ (by omega)]; exact h.hs.hp, by rw [ne _ (by omega)]; exact h.hs.hj, h.hs.ne, h.hs.le⟩, fun k hk => by cases hk; exact List.getElem?_set_self hl⟩
end

theorem OS.out0 {n : Nat} {f : Nat → List Int} {H : List AObj} {wl : List Int} {es : List AV} {m : Nat} (h : OS n f H wl es m none) : OS n f (H ++ [ow 3 1 []]) wl es m (some []) := by
  have hl : H.length = n + 4 := by simpa using h.len
  have ap : ∀ {k : Nat} {o : AObj}, H[k]? = some o → (H ++ [ow 3 1 []])[k]? = some o := fun {k o} e => by rw [List.getElem?_append_left (List.getElem?_eq_some_iff.1 e).1]; exact e
  exact ⟨by simp [hl], ap h.w0, ap h.b1, fun x hx => ap (h.bx x hx), ⟨ap h.hs.hp, ap h.hs.hj, h.hs.ne, h.hs.le⟩, fun l hl2 => by cases hl2; rw [List.getElem?_append_right (by omega)]; simp [hl]⟩
theorem nLen_c {i L off m : Nat} {c : Option Nat} {H : List AObj} : ACalls Try.prog 47 [.slc i L off m c] H fun r H' => H' = H ∧ r = I m := by
  refine nLen_w ?_
  simp (disch := omega) [ar, -List.take_append_getElem, nLen_ac]
/-- How often k stands in the first q. -/
def cq (l : List Int) (q k : Nat) : Nat := ((l.take q).filter fun y => decide (y = (k : Int))).length
theorem cq_succ {l : List Int} {q k : Nat} (h : q < l.length) (hk : l[q] = k) (x : Nat) : cq l (q + 1) x = cq l q x + if x = k then 1 else 0 := by
  simp only [cq, List.take_succ_eq_append_getElem h, List.filter_append, List.length_append, hk]
  by_cases e : x = k
  · subst e; simp
  · rw [if_neg e, List.filter_cons_of_neg (by simp; omega)]; simp
theorem cq_le (l : List Int) (q k : Nat) : cq l q k ≤ (l.filter fun y => decide (y = (k : Int))).length :=
  ((List.take_sublist q l).filter _).length_le

def mord_2 : AC := (.seq (.ops [.o 33 (.bin .lss (.t 32) (.t 31))]) (.seq (.cond (.t 33) .skip (.exit 2)) (.seq (.block 3 (.seq (.ops [.o 34 (.iad 1 (.t 30) (.t 32)), .o 35 (.ld 1 false (.t 34)), .m 9 (.t 35)]) (.seq (.seq (.ops [.m 36 (.t 9), .o 37 (.bin .lss (.t 36) (.i 0)), .m 38 (.t 37), .mg 39 38 false (.t 9), .mg 40 38 false (.t 0), .og 41 38 false (.len (.t 40)), .og 42 38 false (.bin .geq (.t 39) (.t 41)), .o 43 (.pick (.t 38) (.b true) (.t 42))]) (.cond (.t 43) (.seq (.ops [.m 2 .z, .m 3 (.i 3)]) .ret) .skip)) (.seq (.ops [.m 44 (.t 5), .m 45 (.t 9), .m 46 (.t 5), .m 47 (.t 9), .o 48 (.iad 1 (.t 46) (.t 47)), .o 49 (.ld 1 false (.t 48)), .m 50 (.t 6), .o 51 (.lit 1 [(.t 50)]), .o 52 (.app 3 1 8 (.t 49) (.t 51)), .o 53 (.iad 1 (.t 44) (.t 45)), .on (.st 1 (.t 53) (.t 52))]) (.ops [.m 54 (.t 4), .m 55 (.t 6), .o 56 (.iad 1 (.t 54) (.t 55)), .o 57 (.ld 1 false (.t 56)), .o 58 (.bin .add (.t 57) (.i 1)), .o 59 (.iad 1 (.t 54) (.t 55)), .on (.st 1 (.t 59) (.t 58))]))))) (.ops [.o 60 (.bin .add (.t 32) (.i 1)), .m 32 (.t 60)]))))
def mord_1 : AC := (.seq (.ops [.o 26 (.bin .lss (.t 25) (.t 24))]) (.seq (.cond (.t 26) .skip (.exit 0)) (.seq (.block 1 (.seq (.ops [.m 27 (.t 25), .o 28 (.iad 1 (.t 23) (.t 25)), .o 29 (.ld 1 false (.t 28)), .m 6 (.t 27), .m 7 (.t 29)]) (.seq (.ops [.m 30 (.t 7), .o 31 (.len (.t 30)), .m 32 (.i 0)]) (.block 2 (.loop mord_2))))) (.ops [.o 61 (.bin .add (.t 25) (.i 1)), .m 25 (.t 61)]))))
def mord_3 : AC := (.seq (.ops [.o 67 (.bin .lss (.t 66) (.t 65))]) (.seq (.cond (.t 67) .skip (.exit 4)) (.seq (.block 5 (.seq (.ops [.m 68 (.t 66), .o 69 (.iad 1 (.t 64) (.t 66)), .o 70 (.ld 1 false (.t 69)), .m 11 (.t 68), .m 12 (.t 70)]) (.seq (.ops [.m 71 (.t 12), .o 72 (.bin .eql (.t 71) (.i 0))]) (.cond (.t 72) (.ops [.m 73 (.t 10), .o 74 (.mkI 83 (.t 73)), .m 75 (.t 11), .o 76 (.mkI 3 (.t 75)), .c 77 false (.f 46) [(.t 74), (.t 76)]]) .skip)))) (.ops [.o 78 (.bin .add (.t 66) (.i 1)), .m 66 (.t 78)]))))
def mord_5 : AC := (.seq (.ops [.o 99 (.bin .lss (.t 98) (.t 97))]) (.seq (.cond (.t 99) .skip (.exit 8)) (.seq (.block 9 (.seq (.ops [.o 100 (.iad 1 (.t 96) (.t 98)), .o 101 (.ld 1 false (.t 100)), .m 16 (.t 101)]) (.seq (.ops [.m 102 (.t 4), .m 103 (.t 16), .o 104 (.iad 1 (.t 102) (.t 103)), .o 105 (.ld 1 false (.t 104)), .o 106 (.bin .sub (.t 105) (.i 1)), .o 107 (.iad 1 (.t 102) (.t 103)), .on (.st 1 (.t 107) (.t 106))]) (.seq (.ops [.m 108 (.t 4), .m 109 (.t 16), .o 110 (.iad 1 (.t 108) (.t 109)), .o 111 (.ld 1 false (.t 110)), .o 112 (.bin .eql (.t 111) (.i 0))]) (.cond (.t 112) (.ops [.m 113 (.t 10), .o 114 (.mkI 83 (.t 113)), .m 115 (.t 16), .o 116 (.mkI 3 (.t 115)), .c 117 false (.f 46) [(.t 114), (.t 116)]]) .skip))))) (.ops [.o 118 (.bin .add (.t 98) (.i 1)), .m 98 (.t 118)]))))
def mord_4 : AC := (.seq (.seq (.ops [.m 79 (.t 10), .o 80 (.nck (.t 79)), .o 81 (.fad 0 (.t 80)), .o 82 (.ld 1 false (.t 81)), .c 83 false (.f 47) [(.t 82)], .o 84 (.bin .gtr (.t 83) (.i 0))]) (.cond (.t 84) .skip (.exit 6))) (.block 7 (.seq (.ops [.m 85 (.t 10), .o 86 (.mkI 83 (.t 85)), .c 87 false (.f 45) [(.t 86)], .o 88 (.asrt 3 false (.t 87)), .m 14 (.t 88)]) (.seq (.ops [.m 89 (.t 13), .m 90 (.t 14), .o 91 (.lit 1 [(.t 90)]), .o 92 (.app 3 1 8 (.t 89) (.t 91)), .m 13 (.t 92)]) (.seq (.ops [.m 93 (.t 5), .m 94 (.t 14), .o 95 (.iad 1 (.t 93) (.t 94)), .o 96 (.ld 1 false (.t 95)), .o 97 (.len (.t 96)), .m 98 (.i 0)]) (.block 8 (.loop mord_5)))))))
def mord_ac : AC := (.seq (.ops [.m 2 .z, .m 3 (.i 0)]) (.seq (.ops [.m 17 (.t 0), .o 18 (.len (.t 17)), .o 19 (.mkS 3 1 8 (.sc (.int .i64 0)) (.t 18) (.t 18)), .m 4 (.t 19)]) (.seq (.ops [.m 20 (.t 0), .o 21 (.len (.t 20)), .o 22 (.mkS 22 1 24 nil0 (.t 21) (.t 21)), .m 5 (.t 22)]) (.seq (.seq (.ops [.m 23 (.t 0), .o 24 (.len (.t 23)), .m 25 (.i 0)]) (.block 0 (.loop mord_1))) (.seq (.ops [.o 62 (.mk [nil0] []), .o 63 (.new 86 1 (.t 62)), .m 10 (.t 63)]) (.seq (.seq (.ops [.m 64 (.t 4), .o 65 (.len (.t 64)), .m 66 (.i 0)]) (.block 4 (.loop mord_3))) (.seq (.ops [.m 13 .z]) (.seq (.block 6 (.loop mord_4)) (.seq (.seq (.ops [.m 119 (.t 13), .o 120 (.len (.t 119)), .m 121 (.t 0), .o 122 (.len (.t 121)), .o 123 (.bin .lss (.t 120) (.t 122))]) (.cond (.t 123) (.seq (.ops [.m 2 .z, .m 3 (.i 5)]) .ret) .skip)) (.seq (.ops [.m 124 (.t 13), .m 2 (.t 124), .m 3 (.i 0)]) .ret))))))))))
theorem mord_w {args : List AV} {H : List AObj} {R : AV → List AObj → Prop} (h : wp Try.prog [] H.length mord_ac (bodyW [(.t 2), (.t 3)] (Nr R .mk)) (args ++ List.replicate (125 - args.length) .und) H) : ACalls Try.prog 17 args H R :=
  ACalls.of_wp Try.func17 rfl (by kernel_rfl) rfl Try.ntmps17 h
end Go.Fw
