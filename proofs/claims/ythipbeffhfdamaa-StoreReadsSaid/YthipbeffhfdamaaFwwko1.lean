/- store.walk, with what each number makes kept as the call's own. -/
import Derived.Test.YthipbeffhfdamaaFwbox2
import Derived.Test.YthipbeffhfdamaaFwrp04
namespace Go.Fw
open Go Go.RowKit Go.Proofs
set_option maxRecDepth 100000
set_option linter.unusedSimpArgs false
set_option linter.unusedVariables false
def Fr (n : Nat) (K K' : List AObj) : Prop := ∀ (k : Nat) (o : AObj), n ≤ k → K[k]? = some o → K'[k]? = some o
theorem Fr.refl (n : Nat) (K : List AObj) : Fr n K K := fun _ _ _ h => h
theorem Fr.trans {n : Nat} {K K' K2 : List AObj} (h : Fr n K K') (k : Fr n K' K2) : Fr n K K2 := fun i o hi ho => k i o hi (h i o hi ho)
theorem gap {K G : List AObj} {p : Nat} {o : AObj} (h : K[p]? = some o) : (K ++ G)[p]? = some o := by rw [List.getElem?_append_left (List.getElem?_eq_some_iff.1 h).1]; exact h
theorem Fr.app (n : Nat) (K G : List AObj) : Fr n K (K ++ G) := fun _ _ _ h => gap h
theorem Fr.set {n i : Nat} (K : List AObj) (o : AObj) (h : i < n) : Fr n K (K.set i o) := fun k x hk hx => by rw [List.getElem?_set_ne (by omega)]; exact hx
theorem gcc (K : List AObj) (o : AObj) : (K ++ [o])[K.length]? = some o := by simp
theorem scc (K : List AObj) (o x : AObj) : (K ++ [o]).set K.length x = K ++ [x] := by simp
structure WG (n0 : Nat) (tn : AV) (g : FuncId) (gc : List AV) (K : List AObj) (c : List Int) : Prop where
  o0 : K[n0]? = some ⟨27, 4, [tn], true, none⟩
  o1 : K[n0 + 1]? = some ⟨83, 1, [.fn (.func g) [] gc], true, none⟩
  o2 : K[n0 + 2]? = some ⟨3, 1, c.map I, true, none⟩
  o3 : K[n0 + 3]? = some ⟨22, 1, [.slc (n0 + 2) c.length 0 c.length none], true, none⟩
  o4 : K[n0 + 4]? = some ⟨84, 1, [.fn (.func 76) [] [.ptr n0 1 0 0, .ptr (n0 + 1) 1 0 0, .ptr (n0 + 3) 1 0 0, .ptr (n0 + 4) 1 0 0]], true, none⟩
section
variable {n0 : Nat} {tn : AV} {g : FuncId} {gc : List AV} {K : List AObj} {c : List Int}
theorem WG.app (h : WG n0 tn g gc K c) (G : List AObj) : WG n0 tn g gc (K ++ G) c := ⟨gap h.o0, gap h.o1, gap h.o2, gap h.o3, gap h.o4⟩
theorem WG.lt (h : WG n0 tn g gc K c) : n0 + 5 ≤ K.length := by have := (List.getElem?_eq_some_iff.1 h.o4).1; omega
theorem WG.set (h : WG n0 tn g gc K c) {c' : List Int} (hc : c'.length = c.length) : WG n0 tn g gc (K.set (n0 + 2) ⟨3, 1, c'.map I, true, none⟩) c' := by
  have := h.lt
  refine ⟨?_, ?_, ?_, ?_, ?_⟩
  · rw [List.getElem?_set_ne (by omega)]; exact h.o0
  · rw [List.getElem?_set_ne (by omega)]; exact h.o1
  · rw [List.getElem?_set_self (by omega)]
  · rw [List.getElem?_set_ne (by omega), hc]; exact h.o3
  · rw [List.getElem?_set_ne (by omega)]; exact h.o4
end
theorem Ch.wk {a : AV} {ys : List (Int × Int)} (h : Ch a ys) : Wk a (.imm false none 2 (ys.map chV)) := by
  obtain ⟨⟨nl, c, sz, rfl, h1, h2⟩, _⟩ := h
  cases nl with
  | true => have := h1 rfl; subst this; simp
  | false => have := h2 rfl; subst this; simp
theorem kids_p {l : Lv} (hl : LvOk l (Is l.pos) (Is l.crd)) {n : Nat} (hn : n ≤ 1048576) (hc : lvCheck l n = 0) {q : Nat} (hq : q < n) : Pu Try.prog 52 [lvW l, I q] (.imm false none 2 ((kidsF l q).map chV)) :=
  ((kids_spec hl hn hc hq).wk fun r H' h => ⟨_, h.2.wk, h.1, rfl⟩)
theorem kids_len {l : Lv} (hl : LvOk l (Is l.pos) (Is l.crd)) {n : Nat} (hc : lvCheck l n = 0) (p : Nat) : (kidsF l p).length ≤ 9223372036854775807 := by
  obtain ⟨z0, z1, -, -, -, -, -, -⟩ := lvBelow_ok hc
  unfold kidsF
  split
  · simp; omega
  split
  · simp
  · simp only [List.length_map, List.length_range']
    have h : (l.pos.getD (p + 1) 0).toNat ≤ 9223372036854775807 := by
      by_cases hp : p + 1 < l.pos.length
      · have e : l.pos.getD (p + 1) 0 = l.pos[p + 1] := by simp [hp]
        have := hl.pos.2.2 _ (List.getElem_mem hp)
        rw [e]; omega
      · have e : l.pos.getD (p + 1) 0 = 0 := by simp [List.getElem?_eq_none (show l.pos.length ≤ p + 1 by omega)]
        rw [e]; omega
    omega
def dwn_1 : AC := (.seq (.ops [.o 48 (.bin .lss (.t 47) (.t 46))]) (.seq (.cond (.t 48) .skip (.exit 0)) (.seq (.block 1 (.seq (.ops [.o 49 (.iad 2 (.t 45) (.t 47)), .o 50 (.ld 2 true (.t 49)), .o 12 (.new 88 2 (.c (.agg [(.sc (.int .i64 0)), (.sc (.int .i64 0))]))), .on (.st 2 (.t 12) (.t 50))]) (.seq (.ops [.o 51 (.ld 1 false (.t 4)), .o 52 (.fad 1 (.t 8)), .o 53 (.ld 1 false (.t 52)), .m 54 (.t 10), .o 55 (.fad 0 (.t 12)), .o 56 (.ld 1 false (.t 55)), .o 57 (.bin .add (.t 54) (.t 56)), .o 58 (.iad 1 (.t 51) (.t 53)), .on (.st 1 (.t 58) (.t 57))]) (.ops [.o 59 (.ld 1 false (.t 5)), .m 60 (.t 0), .o 61 (.bin .add (.t 60) (.i 1)), .o 62 (.fad 1 (.t 12)), .o 63 (.ld 1 false (.t 62)), .c 64 false (.t 59) [(.t 61), (.t 63)]])))) (.ops [.o 65 (.bin .add (.t 47) (.i 1)), .m 47 (.t 65)]))))
def dwn_c39 : AC := (.seq (.seq (.ops [.o 39 (.fad 2 (.t 2)), .o 40 (.ld 1 false (.t 39)), .m 41 (.t 0), .o 42 (.iad 4 (.t 40) (.t 41)), .o 43 (.ld 4 true (.t 42)), .m 44 (.t 1), .c 45 false (.f 52) [(.t 43), (.t 44)], .o 46 (.len (.t 45)), .m 47 (.i 0)]) (.block 0 (.loop dwn_1))) (.ops [.o 66 (.ld 1 false (.t 4)), .o 67 (.fad 1 (.t 8)), .o 68 (.ld 1 false (.t 67)), .m 69 (.t 9), .o 70 (.iad 1 (.t 66) (.t 68)), .on (.st 1 (.t 70) (.t 69))]))
def dwn_ac : AC := (.seq (.seq (.ops [.m 13 (.t 0), .o 14 (.fad 2 (.t 2)), .o 15 (.ld 1 false (.t 14)), .o 16 (.len (.t 15)), .o 17 (.bin .eql (.t 13) (.t 16))]) (.cond (.t 17) (.seq (.ops [.o 18 (.ld 1 false (.t 3)), .o 19 (.ld 1 false (.t 4)), .m 20 (.t 1), .c 21 false (.t 18) [(.t 19), (.t 20)]]) .ret) .skip)) (.seq (.ops [.o 22 (.fad 1 (.t 2)), .o 23 (.ld 1 false (.t 22)), .m 24 (.t 0), .o 25 (.iad 3 (.t 23) (.t 24)), .o 26 (.ld 3 true (.t 25)), .o 8 (.new 43 3 (.c (.agg [(.sc (.int .i64 0)), (.sc (.int .i64 0)), (.sc (.int .i64 0))]))), .on (.st 3 (.t 8) (.t 26))]) (.seq (.ops [.o 27 (.ld 1 false (.t 4)), .o 28 (.fad 1 (.t 8)), .o 29 (.ld 1 false (.t 28)), .o 30 (.iad 1 (.t 27) (.t 29)), .o 31 (.ld 1 false (.t 30)), .m 9 (.t 31)]) (.seq (.ops [.m 10 (.i 0)]) (.seq (.seq (.ops [.o 32 (.fad 0 (.t 8)), .o 33 (.ld 1 false (.t 32)), .o 34 (.bin .eql (.t 33) (.i 4))]) (.cond (.t 34) (.ops [.m 35 (.t 9), .o 36 (.fad 2 (.t 8)), .o 37 (.ld 1 false (.t 36)), .o 38 (.bin .mul (.t 35) (.t 37)), .m 10 (.t 38)]) .skip)) (.here dwn_c39))))))
theorem dwn_w {args : List AV} {H : List AObj} {R : AV → List AObj → Prop} (h : wp Try.prog [] H.length dwn_ac (bodyW [] (Nr R .mk)) (args ++ List.replicate (71 - args.length) .und) H) : ACalls Try.prog 76 args H R :=
  ACalls.of_wp Try.func76 rfl (by kernel_rfl) rfl Try.ntmps76 h
abbrev dwn_e : AC := .ops [.o 66 (.ld 1 false (.t 4)), .o 67 (.fad 1 (.t 8)), .o 68 (.ld 1 false (.t 67)), .m 69 (.t 9), .o 70 (.iad 1 (.t 66) (.t 68)), .on (.st 1 (.t 70) (.t 69))]
section
variable {σ : Type} {n0 : Nat} {g : FuncId} {gc : List AV} {P : List AObj → σ → Prop} {tn : AV}
set_option maxHeartbeats 4000000 in
theorem dwn_loop {st : σ → Int × Int → σ} {Y : List (Int × Int)} {i m q nb : Nat} {k z fr0 : Int} {c : List Int} {K1 : List AObj} {s : σ} {fr : List AV} {R : AV → List AObj → Prop} {b : Blk1 (.loop dwn_1) (qBlock 0 (sq Try.prog [] nb dwn_e (bodyW [] (Nr R .mk))))}
    (hm1 : m < c.length) (hq5 : n0 + 5 ≤ q) (hs1 : K1[q]? = some (bx 43 3 (.agg [I k, I m, I z]))) (hfr0 : fr0 = fromF (k, (m : Int), z) c)
    (hPset : ∀ K s o, P K s → P (K.set (n0 + 2) o) s) (hPapp : ∀ K s G, P K s → P (K ++ G) s) (hi : i < 1000) (hYl : Y.length ≤ 9223372036854775807)
    (hrec : ∀ a (h : a < Y.length), 0 ≤ Y[a].2 ∧ ∀ H cN, cN = stepC (k, (m : Int), z) c Y[a].1 → WG n0 tn g gc H cN → P H ((Y.take a).foldl st s) → ACalls Try.prog 76 [I ((i : Int) + 1), I Y[a].2, .ptr n0 1 0 0, .ptr (n0 + 1) 1 0 0, .ptr (n0 + 3) 1 0 0, .ptr (n0 + 4) 1 0 0] H fun r K' => r = .tup [] ∧ WG n0 tn g gc K' cN ∧ P K' ((Y.take (a + 1)).foldl st s) ∧ Fr (n0 + 5) H K')
    (hR : ∀ H, WG n0 tn g gc H c → P H (Y.foldl st s) → Fr (n0 + 5) K1 H → R (.tup []) H) (hw1 : WG n0 tn g gc K1 c) (hP1 : P K1 s)
    (hf : leF fr (fm 71 [(0, I i), (2, .ptr n0 1 0 0), (3, .ptr (n0 + 1) 1 0 0), (4, .ptr (n0 + 3) 1 0 0), (5, .ptr (n0 + 4) 1 0 0), (8, .ptr q 1 0 0), (9, I c[m]), (10, I fr0), (45, .imm false none 2 (Y.map chV)), (46, I Y.length), (47, I 0)]) := by simp) :
    Lp Try.prog [] nb (.loop dwn_1) (qBlock 0 (sq Try.prog [] nb dwn_e (bodyW [] (Nr R .mk)))) b fr K1 := by
  refine Lp.op (σ := Nat × List AObj × Int) (fun t => t.1 ≤ Y.length ∧ WG n0 tn g gc t.2.1 (c.set m t.2.2) ∧ P t.2.1 ((Y.take t.1).foldl st s) ∧ Fr (n0 + 5) K1 t.2.1) (fun t => Y.length - t.1)
    (fun t => fm 71 [(0, I i), (2, .ptr n0 1 0 0), (3, .ptr (n0 + 1) 1 0 0), (4, .ptr (n0 + 3) 1 0 0), (5, .ptr (n0 + 4) 1 0 0), (8, .ptr q 1 0 0), (9, I c[m]), (10, I fr0), (45, .imm false none 2 (Y.map chV)), (46, I Y.length), (47, I t.1)]) (fun t => t.2.1) (0, K1, c[m])
    ⟨⟨Nat.zero_le _, by simpa using hw1, by simpa using hP1, Fr.refl _ _⟩, hf, rfl⟩ ?_
  clear hf hw1 hP1
  rintro ⟨a, H, w⟩ ⟨ha, hwa, hPa, hFa⟩
  simp only at ha hwa hPa hFa ⊢
  have hcl : (c.set m w).length = c.length := by simp
  have hq2 := hFa q _ hq5 hs1
  clear hs1 hq5
  by_cases hb : a < Y.length
  · have hfin := hrec a hb
    have hy : (Y.map chV)[a]? = some (.agg [I Y[a].1, I Y[a].2]) := by simp [hb, chV]
    have e1 := gcc H
    have e2 := scc H
    have hwG := hwa.app [bx 88 2 (.agg [I Y[a].1, I Y[a].2])]
    have hPG := hPapp _ _ [bx 88 2 (.agg [I Y[a].1, I Y[a].2])] hPa
    have hFG := hFa.trans (Fr.app (n0 + 5) H [bx 88 2 (.agg [I Y[a].1, I Y[a].2])])
    have hqG : (H ++ [bx 88 2 (.agg [I Y[a].1, I Y[a].2])])[q]? = _ := gap hq2
    have ecc := e1 (bx 88 2 (.agg [I Y[a].1, I Y[a].2]))
    obtain ⟨y1, hy1⟩ : ∃ y1, Y[a].1 = y1 := ⟨_, rfl⟩
    obtain ⟨y2, hy2⟩ : ∃ y2, Y[a].2 = y2 := ⟨_, rfl⟩
    have hcN : stepC (k, (m : Int), z) c y1 = c.set m (w64 (fr0 + y1)) := by rw [stepC, ← hfr0, Int.toNat_natCast]
    simp only [hy1, hy2] at hy hwG hPG hFG hqG hfin ecc
    have hch : chV Y[a] = .agg [I y1, I y2] := by rw [chV, hy1, hy2]
    have hHl : ∃ x, x = H.length ∧ n0 + 5 ≤ x := ⟨_, rfl, hwa.lt⟩
    clear hwa hPa hFa hrec hR hq2 hfr0
    simp (disch := omega) [ar, -List.take_append_getElem, dwn_1, hch, e1, e2]
    obtain ⟨_, rfl, hHl⟩ := hHl
    have b2 := hwG.o2
    have b3 := hwG.o3
    have b4 := hwG.o4
    have hl := hwG.lt
    have hql : n0 + 5 ≤ H.length := hHl
    clear hHl
    generalize H ++ [bx 88 2 (.agg [I y1, I y2])] = H1 at *
    have hset : ((c.map I).set m (I w)).set m (I (w64 (fr0 + y1))) = (c.set m (w64 (fr0 + y1))).map I := by rw [← List.map_set, ← List.map_set, List.set_set]
    have r4 : ∀ o, (H1.set (n0 + 2) o)[n0 + 4]? = some _ := fun o => by rw [List.getElem?_set_ne (by omega)]; exact b4
    have rq : ∀ o, (H1.set (n0 + 2) o)[H.length]? = some _ := fun o => by rw [List.getElem?_set_ne (by omega)]; exact ecc
    have cal := hfin.2 (H1.set (n0 + 2) ⟨3, 1, (c.set m (w64 (fr0 + y1))).map I, true, none⟩) _ hcN.symm (hwG.set (by simp)) (hPset _ _ _ hPG)
    have frN := hFG.trans (Fr.set (n := n0 + 5) (i := n0 + 2) H1 (⟨3, 1, (c.set m (w64 (fr0 + y1))).map I, true, none⟩ : AObj) (by omega))
    generalize H.length = q2 at *
    clear hfin hwG hPG hFG hPset hPapp hcN hl hql hy hch e1 e2 hcl
    have hsg : ((c.map I).set m (I w))[m]? = some (I w) := by simp [hm1]
    rw [List.map_set] at cal frN
    have hset2 : ((c.map I).set m (I w)).set m (I (IntKind.i64.wrap (fr0 + y1))) = (c.map I).set m (I (IntKind.i64.wrap (fr0 + y1))) := by rw [List.set_set]
    simp (disch := omega) [ar, -List.take_append_getElem, b2, b3, hqG, ecc, hm1, hsg, r4, rq]
    refine cal.c ?_
    rintro r K' ⟨rfl, hw', hP', hF'⟩
    simp (disch := omega) [ar, -List.take_append_getElem]
    exact ⟨a + 1, K', ⟨by omega, ⟨_, hw'⟩, hP', frN.trans hF'⟩, by omega, by simp, rfl⟩
  · have b2 := hwa.o2
    have b3 := hwa.o3
    have hback : (c.map I).set m (I c[m]) = c.map I := by rw [← List.map_set]; simp
    have hsg : ((c.map I).set m (I w))[m]? = some (I w) := by simp [hm1]
    rw [List.take_of_length_le (by omega)] at hPa
    have R1 := hwa.set (c' := c) (by simp)
    have R2 := hPset _ _ (⟨3, 1, c.map I, true, none⟩ : AObj) hPa
    have R3 := hFa.trans (Fr.set (n := n0 + 5) (i := n0 + 2) H (⟨3, 1, c.map I, true, none⟩ : AObj) (by omega))
    have fin := hR _ R1 R2 R3
    have hae : a = Y.length := by omega
    subst hae
    clear hrec hPset hPapp hR R1 R2 R3 hwa hPa hFa hfr0 ha hb
    simp (disch := omega) [ar, -List.take_append_getElem, dwn_1, dwn_e, b2, b3, hq2, hback, hsg, hm1]
    exact fin
end
section
variable {σ : Type} {n0 : Nat} {g : FuncId} {gc : List AV} {P : List AObj → σ → Prop} {step : σ → List Int → Nat → σ} {V : σ → List Int → Nat → Prop} {S Vs : List Int} {F : List (Int × Int × Int)} {L : List Lv}
set_option maxHeartbeats 4000000 in
theorem dwn_p (hT : TnOk S F L Vs) (hfl : F.length = L.length) (hLl : L.length ≤ 1000)
    (hPset : ∀ K s o, P K s → P (K.set (n0 + 2) o) s) (hPapp : ∀ K s G, P K s → P (K ++ G) s)
    (hE : ∀ K s c p, WG n0 (tnW S F L Vs) g gc K c → P K s → V s c p → ACalls Try.prog g ([.slc (n0 + 2) c.length 0 c.length none, I p] ++ gc) K fun r K' => r = .tup [] ∧ WG n0 (tnW S F L Vs) g gc K' c ∧ P K' (step s c p) ∧ Fr (n0 + 5) K K') :
    ∀ (j i : Nat), i + j = L.length → ∀ K s c p, WG n0 (tnW S F L Vs) g gc K c → P K s → GoodS V step ((L.map toA).drop i) (F.drop i) c p s →
      ACalls Try.prog 76 [I i, I p, .ptr n0 1 0 0, .ptr (n0 + 1) 1 0 0, .ptr (n0 + 3) 1 0 0, .ptr (n0 + 4) 1 0 0] K fun r K' => r = .tup [] ∧ WG n0 (tnW S F L Vs) g gc K' c ∧ P K' (walkF step ((L.map toA).drop i) (F.drop i) c p s) ∧ Fr (n0 + 5) K K' := by
  intro j
  induction j with
  | zero =>
    intro i hij K s c p hw hP hg
    have hi : i = L.length := by omega
    subst hi
    rw [List.drop_eq_nil_of_le (by simp)] at hg ⊢
    simp only [GoodS] at hg
    have o0 := hw.o0
    have o1 := hw.o1
    have o3 := hw.o3
    refine dwn_w ?_
    simp (disch := omega) [ar, -List.take_append_getElem, dwn_ac, o0, o1, o3]
    refine (hE K s c p hw hP hg).c ?_
    rintro r K' ⟨rfl, hw', hP', hf⟩
    simp (disch := omega) [ar, -List.take_append_getElem]
    exact ⟨hw', by simpa only [walkF] using hP', hf⟩
  | succ j ih =>
    intro i hij K s c p hw hP hg
    have hi : i < L.length := by omega
    have hiF : i < F.length := by omega
    have o0 := hw.o0
    have o1 := hw.o1
    have o2 := hw.o2
    have o3 := hw.o3
    have o4 := hw.o4
    have hgl : (L.map lvW)[i]? = some (lvW L[i]) := by simp [hi]
    have hgf : (F.map specV)[i]? = some (specV F[i]) := by simp [hiF]
    have hok : LvOk L[i] (Is L[i].pos) (Is L[i].crd) := by
      obtain ⟨a1, a2, a3, a4⟩ := hT.l.2 _ (List.getElem_mem hi)
      exact ⟨Is_sl a1, Is_sl a2, a3, a4⟩
    have hi2 : i < (L.map toA).length := by simpa using hi
    rw [List.drop_eq_getElem_cons hi2, List.drop_eq_getElem_cons hiF] at hg ⊢
    simp only [List.getElem_map, GoodS, toA_lv, walkF] at hg ⊢
    obtain ⟨l, hl⟩ : ∃ l, L[i] = l := ⟨_, rfl⟩
    obtain ⟨f, hf⟩ : ∃ f, F[i] = f := ⟨_, rfl⟩
    simp only [hl, hf] at hgl hok hgf hg ⊢
    obtain ⟨k, mo, z⟩ := f
    obtain ⟨⟨⟨hm0, hm1⟩, na, hna, hchk, hpn⟩, hkids⟩ := hg
    simp only at hm0 hm1 hkids ⊢
    obtain ⟨m, rfl⟩ : ∃ m : Nat, mo = m := ⟨mo.toNat, by omega⟩
    rw [Int.toNat_natCast] at hm1
    have hkp := kids_p hok hna hchk hpn
    have hYl := kids_len hok hchk p
    obtain ⟨fr0, hfr0⟩ : ∃ fr0, fr0 = fromF (k, (m : Int), z) c := ⟨_, rfl⟩
    have hwasD : c.getD m 0 = c[m] := by simp [hm1]
    have hfr : fr0 = if k = 4 then w64 (c[m] * z) else 0 := by rw [hfr0]; simp only [fromF, Int.toNat_natCast, hwasD]
    have hne : ¬ (i : Int) = L.length := by omega
    obtain ⟨Y, hY⟩ : ∃ Y, kidsF l p = Y := ⟨_, rfl⟩
    simp only [hY] at hkp hkids hYl ⊢
    have e1 := gcc K
    have e2 := scc K
    refine dwn_w ?_
    have a2 : ∀ o, (K ++ [o])[n0 + 2]? = some ⟨3, 1, c.map I, true, none⟩ := fun o => gap o2
    have a3 : ∀ o, (K ++ [o])[n0 + 3]? = some ⟨22, 1, [.slc (n0 + 2) c.length 0 c.length none], true, none⟩ := fun o => gap o3
    have a0 : ∀ o, (K ++ [o])[n0]? = some ⟨27, 4, [tnW S F L Vs], true, none⟩ := fun o => gap o0
    have key : wp Try.prog [] K.length dwn_c39 (bodyW [] (Nr (fun r K' => r = .tup [] ∧ WG n0 (tnW S F L Vs) g gc K' c ∧ P K' (Y.foldl (fun s y => walkF step ((L.map toA).drop (i + 1)) (F.drop (i + 1)) (stepC (k, (m : Int), z) c y.1) y.2.toNat s) s) ∧ Fr (n0 + 5) K K') .mk))
        (fm 71 [(0, I i), (1, I p), (2, .ptr n0 1 0 0), (3, .ptr (n0 + 1) 1 0 0), (4, .ptr (n0 + 3) 1 0 0), (5, .ptr (n0 + 4) 1 0 0), (8, .ptr K.length 1 0 0), (9, I c[m]), (10, I fr0)]) (K ++ [bx 43 3 (.agg [I k, I m, I z])]) := by
      have hw1 := hw.app [bx 43 3 (.agg [I k, I m, I z])]
      have hP1 := hPapp _ _ [bx 43 3 (.agg [I k, I m, I z])] hP
      have hs1 := gcc K (bx 43 3 (.agg [I k, I m, I z]))
      have hF1 := Fr.app (n0 + 5) K [bx 43 3 (.agg [I k, I m, I z])]
      have hKl := hw.lt
      clear hw hP o0 o1 o2 o3 o4 a0 a2 a3 e1 e2
      generalize K ++ [bx 43 3 (.agg [I k, I m, I z])] = K1 at *
      obtain ⟨q, hq⟩ : ∃ q, q = K.length := ⟨_, rfl⟩
      rw [← hq] at hs1 ⊢
      have o0 := hw1.o0
      obtain ⟨hq5, -⟩ : n0 + 5 ≤ q ∧ True := ⟨by omega, trivial⟩
      clear hKl
      simp (disch := omega) [ar, -List.take_append_getElem, dwn_c39, o0, hgl]
      refine Pu.c hkp ?_
      simp (disch := omega) [ar, -List.take_append_getElem]
      refine dwn_loop (Y := Y) (st := fun s y => walkF step ((L.map toA).drop (i + 1)) (F.drop (i + 1)) (stepC (k, (m : Int), z) c y.1) y.2.toNat s) hm1 hq5 hs1 hfr0 hPset hPapp (i := i) (by omega) hYl (fun a ha => ⟨(hkids a ha).1, fun H cN hcN hwN hPN => ?_⟩) (fun H hwH hPH hFH => ⟨rfl, hwH, hPH, hF1.trans hFH⟩) hw1 hP1
      obtain ⟨hy0, hgood⟩ := hkids a ha
      subst hcN
      have hih := ih (i + 1) (by omega) H _ _ _ hwN hPN hgood
      rw [show ((i + 1 : Nat) : Int) = (i : Int) + 1 by omega, Int.toNat_of_nonneg hy0] at hih
      refine hih.mono ?_
      rintro r K' ⟨h1, h2, h3, h4⟩
      refine ⟨h1, h2, ?_, h4⟩
      rw [List.take_succ_eq_append_getElem ha, List.foldl_append]
      exact h3
    simp (disch := omega) [ar, -List.take_append_getElem, dwn_ac, o0, hne, hgf, e1, e2, a2, a3, hm1]
    by_cases k4 : k = 4
    · rw [if_pos k4] at hfr
      subst k4
      simp (disch := omega) [ar, -List.take_append_getElem, e1, ← hfr]
      exact Hr.w (Weak.le (by simp) (leH.refl _)) key
    · rw [if_neg k4] at hfr
      subst hfr
      simp (disch := omega) [ar, -List.take_append_getElem, k4]
      exact Hr.w (Weak.le (by simp) (leH.refl _)) key
def wlk_ac : AC := (.seq (.ops [.o 2 (.new 27 4 (.t 0)), .o 3 (.new 83 1 (.t 1))]) (.seq (.ops [.o 6 (.fad 0 (.t 2)), .o 7 (.ld 1 false (.t 6)), .o 8 (.len (.t 7)), .o 9 (.mkS 3 1 8 (.sc (.int .i64 0)) (.t 8) (.t 8)), .o 4 (.new 22 1 .z), .on (.st 1 (.t 4) (.t 9))]) (.seq (.ops [.o 5 (.new 84 1 (.c (.sc .nilFunc)))]) (.seq (.ops [.o 10 (.mkF (.func 76) [] [(.t 2), (.t 3), (.t 4), (.t 5)]), .on (.st 1 (.t 5) (.t 10))]) (.ops [.o 11 (.ld 1 false (.t 5)), .c 12 false (.t 11) [(.i 0), (.i 0)]])))))
theorem wlk_w {args : List AV} {H : List AObj} {R : AV → List AObj → Prop} (h : wp Try.prog [] H.length wlk_ac (bodyW [] (Nr R .mk)) (args ++ List.replicate (13 - args.length) .und) H) : ACalls Try.prog 49 args H R :=
  ACalls.of_wp Try.func49 rfl (by kernel_rfl) rfl Try.ntmps49 h
set_option maxHeartbeats 2000000 in
theorem wlk_p (hT : TnOk S F L Vs) (hfl : F.length = L.length) (hLl : L.length ≤ 999) (hS : S.length ≤ 1000)
    (hPset : ∀ K s o, P K s → P (K.set (n0 + 2) o) s) (hPapp : ∀ K s G, P K s → P (K ++ G) s)
    (hE : ∀ K s c p, WG n0 (tnW S F L Vs) g gc K c → P K s → V s c p → ACalls Try.prog g ([.slc (n0 + 2) c.length 0 c.length none, I p] ++ gc) K fun r K' => r = .tup [] ∧ WG n0 (tnW S F L Vs) g gc K' c ∧ P K' (step s c p) ∧ Fr (n0 + 5) K K')
    {K : List AObj} {s : σ} (hK : K.length = n0) (hP : P K s) (hg : GoodS V step (L.map toA) F (List.replicate S.length 0) 0 s) :
    ACalls Try.prog 49 [tnW S F L Vs, .fn (.func g) [] gc] K fun r K' => r = .tup [] ∧ P K' (walkF step (L.map toA) F (List.replicate S.length 0) 0 s) := by
  subst hK
  refine wlk_w ?_
  have getR : ∀ G j, (K ++ G)[K.length + j]? = G[j]? := fun G j => by rw [List.getElem?_append_right (by omega)]; congr 1; omega
  have getR0 : ∀ G, (K ++ G)[K.length]? = G[0]? := fun G => getR G 0
  have setR : ∀ G j o, (K ++ G).set (K.length + j) o = K ++ G.set j o := fun G j o => by rw [List.set_append_right _ _ (by omega)]; congr 2; omega
  have hd := fun G (hw : WG K.length (tnW S F L Vs) g gc (K ++ G) (List.replicate S.length 0)) => dwn_p hT hfl (by omega) hPset hPapp hE L.length 0 (by omega) (K ++ G) s _ 0 hw (hPapp _ _ _ hP) hg
  simp only [List.drop_zero] at hd
  clear hE hPset hPapp hP hg
  simp (disch := omega) [ar, -List.take_append_getElem, wlk_ac, getR, getR0, setR]
  refine ((hd _ ⟨by rw [getR0]; rfl, by rw [getR]; rfl, by rw [getR]; simp, by rw [getR]; simp, by rw [getR]; rfl⟩).c ?_)
  rintro r K' ⟨rfl, hw', hP', hF'⟩
  have := hw'.lt
  simp (disch := omega) [ar, -List.take_append_getElem]
  exact hP'
end
end Go.Fw
