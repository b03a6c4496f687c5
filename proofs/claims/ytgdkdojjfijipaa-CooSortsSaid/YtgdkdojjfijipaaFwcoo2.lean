import Derived.Test.YtgdkdojjfijipaaFwento1
namespace Go.Fw
open Go Go.RowKit Go.Proofs
set_option maxRecDepth 100000
set_option linter.unusedSimpArgs false
set_option linter.unusedVariables false

theorem rowC.fit {b : Nat} {K K' : List AObj} {r : AV} {S : List Int} (h : rowC b K r S) {pre pre' G T : List AObj} (hK : K = pre ++ G) (hK' : K' = pre' ++ (G ++ T)) (hp : pre.length = b) (hp' : pre'.length = b) (hb : 2 ≤ b) : rowC 2 K' r S :=
  h.to hb fun k hk hk2 => by
    rw [hK, List.getElem?_append_right (by omega), hp] at hk2
    rw [hK', List.getElem?_append_right (by omega), hp', List.getElem?_append_left (List.getElem?_eq_some_iff.1 hk2).1]
    exact hk2

def owned_10 : AC := (.seq (.ops [⟨(some 19), none, (.k (.iad 2 (.t 15) (.t 17)))⟩, ⟨(some 20), none, (.k (.ld 2 true (.t 19)))⟩, ⟨(some 5), none, (.k (.new 38 2 (.c (.agg [(.imm true none 0 []), (.sc (.int .i64 0))]))))⟩, ⟨none, none, (.k (.st 2 (.t 5) (.t 20)))⟩]) (.ops [⟨(some 21), none, (.k (.fad 1 (.t 3)))⟩, ⟨(some 22), none, (.k (.ld 1 false (.t 21)))⟩, ⟨(some 23), none, (.k (.ld 2 true (.t 5)))⟩, ⟨(some 24), none, (.call true (.c (.fn (.func 75) [] [])) [(.t 23)])⟩, ⟨(some 25), none, (.k (.litO 38 2 [(.t 24)]))⟩, ⟨(some 26), none, (.k (.app 38 2 32 (.t 22) (.t 25)))⟩, ⟨(some 27), none, (.k (.fad 1 (.t 3)))⟩, ⟨none, none, (.k (.st 1 (.t 27) (.t 26)))⟩]))
def owned_9 : AC := (.block 1 owned_10)
def owned_8 : AC := (.seq owned_9 (.ops [⟨(some 28), none, (.k (.bin .add (.t 17) (.c (.sc (.int .i64 1)))))⟩, ⟨(some 17), none, (.k (.mov (.t 28)))⟩]))
def owned_7 : AC := (.seq (.cond (.t 18) .skip (.exit 0)) owned_8)
def owned_6 : AC := (.seq (.ops [⟨(some 18), none, (.k (.bin .lss (.t 17) (.t 16)))⟩]) owned_7)
def owned_5 : AC := (.loop owned_6)
def owned_4 : AC := (.block 0 owned_5)
def owned_3 : AC := (.seq (.ops [⟨(some 14), none, (.k (.fad 1 (.t 1)))⟩, ⟨(some 15), none, (.k (.ld 1 false (.t 14)))⟩, ⟨(some 16), none, (.k (.len (.t 15)))⟩, ⟨(some 17), none, (.k (.mov (.c (.sc (.int .i64 0)))))⟩]) owned_4)
def owned_2 : AC := (.seq owned_3 (.seq (.ops [⟨(some 29), none, (.k (.ld 2 true (.t 3)))⟩, ⟨none, none, (.k (.st 2 (.t 2) (.t 29)))⟩]) .ret))
def owned_1 : AC := (.seq (.par [[⟨(some 6), none, (.k (.fad 0 (.t 1)))⟩, ⟨(some 7), none, (.k (.ld 1 false (.t 6)))⟩, ⟨(some 9), none, (.k (.fad 1 (.t 1)))⟩, ⟨(some 10), none, (.k (.ld 1 false (.t 9)))⟩, ⟨(some 11), none, (.k (.len (.t 10)))⟩, ⟨(some 8), none, (.call true (.c (.fn (.func 65) [] [])) [(.t 7)])⟩, ⟨(some 12), none, (.k (.mkS 38 2 32 (.agg [(.imm true none 0 []), (.sc (.int .i64 0))]) (.c (.sc (.int .i64 0))) (.t 11)))⟩, ⟨(some 13), none, (.k (.mk [(.imm true none 0 []), (.imm true none 0 [])] [(0, (1, (.t 8))), (1, (1, (.t 12)))]))⟩, ⟨(some 3), none, (.k (.new 25 2 (.c (.agg [(.imm true none 0 []), (.imm true none 0 [])]))))⟩, ⟨none, none, (.k (.st 2 (.t 3) (.t 13)))⟩], [⟨(some 6), none, (.k (.fad 0 (.t 1)))⟩, ⟨(some 7), none, (.k (.ld 1 false (.t 6)))⟩, ⟨(some 9), none, (.k (.fad 1 (.t 1)))⟩, ⟨(some 10), none, (.k (.ld 1 false (.t 9)))⟩, ⟨(some 11), none, (.k (.len (.t 10)))⟩, ⟨(some 8), none, (.call true (.c (.fn (.func 65) [] [])) [(.t 7)])⟩, ⟨(some 12), none, (.k (.mkS 38 2 32 (.agg [(.imm true none 0 []), (.sc (.int .i64 0))]) (.c (.sc (.int .i64 0))) (.t 11)))⟩, ⟨(some 3), none, (.k (.new 25 2 (.c (.agg [(.imm true none 0 []), (.imm true none 0 [])]))))⟩, ⟨(some 13), none, (.k (.mk [(.imm true none 0 []), (.imm true none 0 [])] [(0, (1, (.t 8))), (1, (1, (.t 12)))]))⟩, ⟨none, none, (.k (.st 2 (.t 3) (.t 13)))⟩], [⟨(some 6), none, (.k (.fad 0 (.t 1)))⟩, ⟨(some 7), none, (.k (.ld 1 false (.t 6)))⟩, ⟨(some 9), none, (.k (.fad 1 (.t 1)))⟩, ⟨(some 10), none, (.k (.ld 1 false (.t 9)))⟩, ⟨(some 11), none, (.k (.len (.t 10)))⟩, ⟨(some 8), none, (.call true (.c (.fn (.func 65) [] [])) [(.t 7)])⟩, ⟨(some 3), none, (.k (.new 25 2 (.c (.agg [(.imm true none 0 []), (.imm true none 0 [])]))))⟩, ⟨(some 12), none, (.k (.mkS 38 2 32 (.agg [(.imm true none 0 []), (.sc (.int .i64 0))]) (.c (.sc (.int .i64 0))) (.t 11)))⟩, ⟨(some 13), none, (.k (.mk [(.imm true none 0 []), (.imm true none 0 [])] [(0, (1, (.t 8))), (1, (1, (.t 12)))]))⟩, ⟨none, none, (.k (.st 2 (.t 3) (.t 13)))⟩], [⟨(some 6), none, (.k (.fad 0 (.t 1)))⟩, ⟨(some 7), none, (.k (.ld 1 false (.t 6)))⟩, ⟨(some 9), none, (.k (.fad 1 (.t 1)))⟩, ⟨(some 10), none, (.k (.ld 1 false (.t 9)))⟩, ⟨(some 11), none, (.k (.len (.t 10)))⟩, ⟨(some 12), none, (.k (.mkS 38 2 32 (.agg [(.imm true none 0 []), (.sc (.int .i64 0))]) (.c (.sc (.int .i64 0))) (.t 11)))⟩, ⟨(some 8), none, (.call true (.c (.fn (.func 65) [] [])) [(.t 7)])⟩, ⟨(some 13), none, (.k (.mk [(.imm true none 0 []), (.imm true none 0 [])] [(0, (1, (.t 8))), (1, (1, (.t 12)))]))⟩, ⟨(some 3), none, (.k (.new 25 2 (.c (.agg [(.imm true none 0 []), (.imm true none 0 [])]))))⟩, ⟨none, none, (.k (.st 2 (.t 3) (.t 13)))⟩], [⟨(some 6), none, (.k (.fad 0 (.t 1)))⟩, ⟨(some 7), none, (.k (.ld 1 false (.t 6)))⟩, ⟨(some 9), none, (.k (.fad 1 (.t 1)))⟩, ⟨(some 10), none, (.k (.ld 1 false (.t 9)))⟩, ⟨(some 11), none, (.k (.len (.t 10)))⟩, ⟨(some 12), none, (.k (.mkS 38 2 32 (.agg [(.imm true none 0 []), (.sc (.int .i64 0))]) (.c (.sc (.int .i64 0))) (.t 11)))⟩, ⟨(some 8), none, (.call true (.c (.fn (.func 65) [] [])) [(.t 7)])⟩, ⟨(some 3), none, (.k (.new 25 2 (.c (.agg [(.imm true none 0 []), (.imm true none 0 [])]))))⟩, ⟨(some 13), none, (.k (.mk [(.imm true none 0 []), (.imm true none 0 [])] [(0, (1, (.t 8))), (1, (1, (.t 12)))]))⟩, ⟨none, none, (.k (.st 2 (.t 3) (.t 13)))⟩], [⟨(some 6), none, (.k (.fad 0 (.t 1)))⟩, ⟨(some 7), none, (.k (.ld 1 false (.t 6)))⟩, ⟨(some 9), none, (.k (.fad 1 (.t 1)))⟩, ⟨(some 10), none, (.k (.ld 1 false (.t 9)))⟩, ⟨(some 11), none, (.k (.len (.t 10)))⟩, ⟨(some 12), none, (.k (.mkS 38 2 32 (.agg [(.imm true none 0 []), (.sc (.int .i64 0))]) (.c (.sc (.int .i64 0))) (.t 11)))⟩, ⟨(some 3), none, (.k (.new 25 2 (.c (.agg [(.imm true none 0 []), (.imm true none 0 [])]))))⟩, ⟨(some 8), none, (.call true (.c (.fn (.func 65) [] [])) [(.t 7)])⟩, ⟨(some 13), none, (.k (.mk [(.imm true none 0 []), (.imm true none 0 [])] [(0, (1, (.t 8))), (1, (1, (.t 12)))]))⟩, ⟨none, none, (.k (.st 2 (.t 3) (.t 13)))⟩], [⟨(some 6), none, (.k (.fad 0 (.t 1)))⟩, ⟨(some 7), none, (.k (.ld 1 false (.t 6)))⟩, ⟨(some 9), none, (.k (.fad 1 (.t 1)))⟩, ⟨(some 10), none, (.k (.ld 1 false (.t 9)))⟩, ⟨(some 11), none, (.k (.len (.t 10)))⟩, ⟨(some 3), none, (.k (.new 25 2 (.c (.agg [(.imm true none 0 []), (.imm true none 0 [])]))))⟩, ⟨(some 8), none, (.call true (.c (.fn (.func 65) [] [])) [(.t 7)])⟩, ⟨(some 12), none, (.k (.mkS 38 2 32 (.agg [(.imm true none 0 []), (.sc (.int .i64 0))]) (.c (.sc (.int .i64 0))) (.t 11)))⟩, ⟨(some 13), none, (.k (.mk [(.imm true none 0 []), (.imm true none 0 [])] [(0, (1, (.t 8))), (1, (1, (.t 12)))]))⟩, ⟨none, none, (.k (.st 2 (.t 3) (.t 13)))⟩], [⟨(some 6), none, (.k (.fad 0 (.t 1)))⟩, ⟨(some 7), none, (.k (.ld 1 false (.t 6)))⟩, ⟨(some 9), none, (.k (.fad 1 (.t 1)))⟩, ⟨(some 10), none, (.k (.ld 1 false (.t 9)))⟩, ⟨(some 11), none, (.k (.len (.t 10)))⟩, ⟨(some 3), none, (.k (.new 25 2 (.c (.agg [(.imm true none 0 []), (.imm true none 0 [])]))))⟩, ⟨(some 12), none, (.k (.mkS 38 2 32 (.agg [(.imm true none 0 []), (.sc (.int .i64 0))]) (.c (.sc (.int .i64 0))) (.t 11)))⟩, ⟨(some 8), none, (.call true (.c (.fn (.func 65) [] [])) [(.t 7)])⟩, ⟨(some 13), none, (.k (.mk [(.imm true none 0 []), (.imm true none 0 [])] [(0, (1, (.t 8))), (1, (1, (.t 12)))]))⟩, ⟨none, none, (.k (.st 2 (.t 3) (.t 13)))⟩]]) owned_2)
def owned_ac : AC := (.seq (.ops [⟨(some 1), none, (.k (.new 25 2 (.t 0)))⟩, ⟨(some 2), none, (.k (.new 25 2 (.c (.agg [(.imm true none 0 []), (.imm true none 0 [])]))))⟩]) owned_1)
theorem owned_call {args : List AV} {H : List AObj} {R : AV → List AObj → Prop} (h : AWp Try.prog [25] H.length owned_ac (bodyQ H.length [(.cell 2 2 true)] R) (args ++ List.replicate (30 - args.length) .und) H) : ACalls Try.prog 45 args H R :=
  ACalls.of_fn Try.func45 rfl (by kernel_rfl) rfl Try.ntmps45 h

/-- The objects of owned. -/
structure OwI (o e : Nat) (x s : AV) (S : List Int) (K : List AObj) (es : List AV) (W : List (List Int × Int)) : Prop where
  o2 : 2 ≤ o
  e2 : 2 ≤ e
  k0 : K[0]? = some (cooO x)
  k1 : K[1]? = some (cooO (.agg [.imm true none 0 [], .imm true none 0 []]))
  ko : K[o]? = some (cooO (.agg [s, .slc e W.length 0 W.length none]))
  ke : K[e]? = some (ensO es)
  hs : rowC 2 K s S
  he : EntsO 2 K es W

set_option maxHeartbeats 4000000 in
theorem owned_spec {a : AV} {X : List Int × List (List Int × Int)} (ha : Coo a X) (hl : X.1.length ≤ 1000000) (hE : X.2.length ≤ 1000000) (hC : ∀ w ∈ X.2, w.1.length ≤ 1000000) : ACalls Try.prog 45 [a] [] fun r G => CooF 0 G r X := by
  obtain ⟨S, E⟩ := X
  obtain ⟨s, e, rfl, hS, he⟩ := ha
  simp only at hS he hl hE hC
  have hS' := hS
  obtain ⟨⟨nl1, c01, sz1, rfl, hs1⟩, hlen1, hx1⟩ := hS
  obtain ⟨nl, cl, sz, es, rfl, he1, he2, hEn⟩ := he
  have hel := hEn.1
  obtain ⟨x, hx⟩ : ∃ x, x = AV.agg [.imm nl1 c01 sz1 (S.map I), .imm nl cl sz es] := ⟨_, rfl⟩
  have b1 : (es.length : Int) * 32 ≤ 281474976710656 := by omega
  have b2 : (es.length : Int) ≤ 9223372036854775807 := by omega
  apply owned_call
  repeat first | refine AWp.seq ?_ | refine AWp.block ?_
  refine AWp.ops ?_
  simp
  refine AWp.cutE (σ := Nat × Nat × AV × List AObj) (fun q => OwI q.1 q.2.1 x q.2.2.1 S q.2.2.2 [] []) (fun q => [.und, .ptr 0 1 0 0, .ptr 1 1 0 0, .ptr q.1 1 0 0, .und, .und, .und, .und, .und, .und, .und, .und, .und, .und, .und, .und, .und, .und, .und, .und, .und, .und, .und, .und, .und, .und, .und, .und, .und, .und]) (fun q => q.2.2.2) ?_ ?_
  · refine AWp.par ?_
    intro l hll
    simp at hll
    have hc := Clone_at hS' hl
    rcases hll with rfl | rfl | rfl | rfl | rfl | rfl | rfl | rfl
    · simp [hx, b1, b2]
      refine (hc _).mono ?_
      rintro r K ⟨G, rfl, hr⟩
      have h1 := hr.cells
      have h2 := hr.one
      simp only [cellsOf] at h1
      simp at hr
      simp [h1, h2, b1, b2]
      exact ⟨_, G.length + 2, r, _, ⟨by omega, by omega, by simp, by simp, by simp, by simp, hr.fit (pre := [_, _]) (pre' := [_, _]) (G := G)  rfl rfl rfl rfl (by omega), EntsO.nil⟩, (Weak.slots [1, 2, 3]).to rfl rfl⟩
    · simp [hx, b1, b2]
      refine (hc _).mono ?_
      rintro r K ⟨G, rfl, hr⟩
      have h1 := hr.cells
      have h2 := hr.one
      simp only [cellsOf] at h1
      simp at hr
      simp [h1, h2, b1, b2]
      exact ⟨_, G.length + 2, r, _, ⟨by omega, by omega, by simp, by simp, by simp, by simp, hr.fit (pre := [_, _]) (pre' := [_, _]) (G := G)  rfl rfl rfl rfl (by omega), EntsO.nil⟩, (Weak.slots [1, 2, 3]).to rfl rfl⟩
    · simp [hx, b1, b2]
      refine (hc _).mono ?_
      rintro r K ⟨G, rfl, hr⟩
      have h1 := hr.cells
      have h2 := hr.one
      simp only [cellsOf] at h1
      simp at hr
      simp [h1, h2, b1, b2]
      exact ⟨_, G.length + 3, r, _, ⟨by omega, by omega, by simp, by simp, by simp, by simp, hr.fit (pre := [_, _]) (pre' := [_, _]) (G := G)  rfl rfl rfl rfl (by omega), EntsO.nil⟩, (Weak.slots [1, 2, 3]).to rfl rfl⟩
    · simp [hx, b1, b2]
      refine (hc _).mono ?_
      rintro r K ⟨G, rfl, hr⟩
      have h1 := hr.cells
      have h2 := hr.one
      simp only [cellsOf] at h1
      simp at hr
      simp [h1, h2, b1, b2]
      exact ⟨_, 2, r, _, ⟨by omega, by omega, by simp, by simp, by simp, by simp, hr.fit (pre := [_, _, _]) (pre' := [_, _, _]) (G := G)  rfl rfl rfl rfl (by omega), EntsO.nil⟩, (Weak.slots [1, 2, 3]).to rfl rfl⟩
    · simp [hx, b1, b2]
      refine (hc _).mono ?_
      rintro r K ⟨G, rfl, hr⟩
      have h1 := hr.cells
      have h2 := hr.one
      simp only [cellsOf] at h1
      simp at hr
      simp [h1, h2, b1, b2]
      exact ⟨_, 2, r, _, ⟨by omega, by omega, by simp, by simp, by simp, by simp, hr.fit (pre := [_, _, _]) (pre' := [_, _, _]) (G := G)  rfl rfl rfl rfl (by omega), EntsO.nil⟩, (Weak.slots [1, 2, 3]).to rfl rfl⟩
    · simp [hx, b1, b2]
      refine (hc _).mono ?_
      rintro r K ⟨G, rfl, hr⟩
      have h1 := hr.cells
      have h2 := hr.one
      simp only [cellsOf] at h1
      simp at hr
      simp [h1, h2, b1, b2]
      exact ⟨_, 2, r, _, ⟨by omega, by omega, by simp, by simp, by simp, by simp, hr.fit (pre := [_, _, _, _]) (pre' := [_, _, _, _]) (G := G) (T := []) rfl (by simp; exact ⟨rfl, rfl, rfl, rfl⟩) rfl rfl (by omega), EntsO.nil⟩, (Weak.slots [1, 2, 3]).to rfl rfl⟩
    · simp [hx, b1, b2]
      refine (hc _).mono ?_
      rintro r K ⟨G, rfl, hr⟩
      have h1 := hr.cells
      have h2 := hr.one
      simp only [cellsOf] at h1
      simp at hr
      simp [h1, h2, b1, b2]
      exact ⟨_, G.length + 3, r, _, ⟨by omega, by omega, by simp, by simp, by simp, by simp, hr.fit (pre := [_, _, _]) (pre' := [_, _, _]) (G := G)  rfl rfl rfl rfl (by omega), EntsO.nil⟩, (Weak.slots [1, 2, 3]).to rfl rfl⟩
    · simp [hx, b1, b2]
      refine (hc _).mono ?_
      rintro r K ⟨G, rfl, hr⟩
      have h1 := hr.cells
      have h2 := hr.one
      simp only [cellsOf] at h1
      simp at hr
      simp [h1, h2, b1, b2]
      exact ⟨_, 3, r, _, ⟨by omega, by omega, by simp, by simp, by simp, by simp, hr.fit (pre := [_, _, _, _]) (pre' := [_, _, _, _]) (G := G) (T := []) rfl (by simp; exact ⟨rfl, rfl, rfl, rfl⟩) rfl rfl (by omega), EntsO.nil⟩, (Weak.slots [1, 2, 3]).to rfl rfl⟩
  rintro ⟨o, e, s, K0⟩ hI
  simp only at hI ⊢
  have k0 := hI.k0
  rw [hx] at k0
  repeat first | refine AWp.seq ?_ | refine AWp.block ?_
  refine AWp.ops ?_
  simp [k0]
  obtain ⟨J, hJ⟩ : ∃ J : Nat → List AV → List AObj → Prop, J = fun i fr H => i ≤ es.length ∧ ∃ (K : List AObj) (fs : List AV), (OwI o e x s S K fs (E.take i)) ∧ H = K ∧
    fr = [.und, .ptr 0 1 0 0, .ptr 1 1 0 0, .ptr o 1 0 0, .und, .und, .und, .und, .und, .und, .und, .und, .und, .und, .und, .imm nl cl sz es, I es.length, I i, .und, .und, .und, .und, .und, .und, .und, .und, .und, .und, .und, .und] := ⟨_, rfl⟩
  refine AWp.block (AWp.loop J (fun i => es.length - i) 0 (Weak.slots [1, 2, 3, 15, 16, 17]) (by rw [hJ]; exact ⟨by omega, K0, [], by simpa using hI, by simp, by simp⟩) ?_)
  intro i fr H hI
  rw [hJ] at hI
  obtain ⟨hi, K, fs, hinv, rfl, rfl⟩ := hI
  repeat first | refine AWp.seq ?_ | refine AWp.block ?_
  refine AWp.ops ?_
  simp
  refine AWp.seq (AWp.cond (b := decide (i < es.length)) (by simp <;> omega) ?_ ?_)
  ·
    intro hb
    have hb : i < es.length := by simpa using hb
    refine AWp.skip ?_
    simp only [qSeq]
    have hbE : i < E.length := by omega
    obtain ⟨ai, hai, hai2⟩ := hEn.get hbE
    have hnl : nl = false := by
      cases nl with
      | false => rfl
      | true => have := he1 rfl; rw [this] at hbE; simp at hbE
    have hsz := he2 hnl
    subst hnl hsz
    have hCi := hC E[i] (List.getElem_mem hbE)
    have hxt := List.take_succ_eq_append_getElem hbE
    have hil : (E.take i).length = i := by simp; omega
    have hwi := wrap_i64 (n := (i : Int) + 1) (by omega) (by omega)
    generalize E[i] = t at hai hai2 hCi hxt
    obtain ⟨c, v⟩ := t
    simp only at hai hai2 hCi
    have hai1 : es[i] = .agg [ai, I v] := by rw [List.getElem?_eq_getElem hb] at hai; exact Option.some.inj hai
    have h1a : oneC ai = true := by obtain ⟨⟨_, _, _, rfl, _⟩, _⟩ := hai2; rfl
    obtain ⟨m, hm⟩ : ∃ m, m = H.length := ⟨_, rfl⟩
    have gL : ∀ x G, (H ++ x :: G)[m]? = some x := fun x G => by rw [List.getElem?_append_right (by omega), show m - H.length = 0 by omega]; rfl
    have sL : ∀ x y G, (H ++ x :: G).set m y = H ++ y :: G := fun x y G => by rw [List.set_append_right _ _ (by omega), show m - H.length = 0 by omega]; rfl
    have hko := hinv.ko
    have hke := hinv.ke
    rw [hil] at hko
    have hom : o < m := by rw [hm]; exact (List.getElem?_eq_some_iff.1 hko).1
    have hem : e < m := by rw [hm]; exact (List.getElem?_eq_some_iff.1 hke).1
    have gR : ∀ G r, r < m → (H ++ G)[r]? = H[r]? := fun G r hr => List.getElem?_append_left (by omega)
    have hko1 : ∀ G, (H ++ G)[o]? = some (cooO (.agg [s, .slc e i 0 i none])) := fun G => by rw [gR _ _ hom]; exact hko
    repeat first | refine AWp.seq ?_ | refine AWp.block ?_
    refine AWp.ops ?_
    simp [hai, h1a, gL, sL, ← hm]
    repeat first | refine AWp.seq ?_ | refine AWp.block ?_
    refine AWp.ops ?_
    simp [gL, sL, hko1]
    refine (letter_spec hai2 hCi _).mono ?_
    rintro r K2 ⟨G, a', hK2, rfl, hr⟩
    have g2 : ∀ r, r < m → K2[r]? = H[r]? := fun r hr => by rw [hK2, List.append_assoc]; exact gR _ _ hr
    have hml : m < K2.length := by rw [hK2]; simp; omega
    have hoe : o ≠ e := by
      rintro rfl
      rw [hko] at hke
      simp at hke
    have hel := hinv.he.1
    rw [hil] at hel
    have hone := hinv.he.one
    have q1 := hr.cells
    have q2 := hr.one
    simp only [cellsOf] at q1
    have hke2 : ∀ G, (K2 ++ G)[e]? = some (ensO fs) := fun G => by rw [List.getElem?_append_left (by omega), g2 _ hem]; exact hke
    have hko2 : ∀ y z, ((K2 ++ [y]).set e z)[o]? = some (cooO (.agg [s, .slc e i 0 i none])) := fun y z => by rw [gs_ne (Ne.symm hoe), List.getElem?_append_left (by omega), g2 _ hom]; exact hko
    have w5 : (i + 1) * 32 ≤ 140737488355328 := by omega
    have w6 : i + 1 ≤ 9223372036854775807 := by omega
    have hs1c := hinv.hs.one
    simp [q1, q2, hke2, hko2, hone, hel, w5, w6, elems, hs1c]
    refine ⟨⟨G, by simpa using hK2⟩, ?_⟩
    repeat first | refine AWp.seq ?_ | refine AWp.block ?_
    refine AWp.ops ?_
    simp [hwi]
    refine ⟨i + 1, _, _, Weak.slots [1, 2, 3, 15, 16, 17], ?_, by omega⟩
    rw [hJ]
    refine ⟨by omega, _, fs ++ [.agg [a', I v]], ?_, rfl, by simp⟩
    rw [hxt]
    have kk : ∀ k o', k < m → k ≠ o → k ≠ e → H[k]? = some o' → (((K2 ++ [enO (.agg [a', I v])]).set e (ensO (fs ++ [.agg [a', I v]]))).set o (cooO (.agg [s, .slc e (i + 1) 0 (i + 1) none])))[k]? = some o' := fun k o' h1 h2 h3 h4 => by
      rw [gs_ne (Ne.symm h2), gs_ne (Ne.symm h3), List.getElem?_append_left (by omega), g2 _ h1]; exact h4
    have ni : ∀ k c', H[k]? = some (intOb c') → k < m ∧ k ≠ o ∧ k ≠ e := fun k c' h => by
      refine ⟨by rw [hm]; exact (List.getElem?_eq_some_iff.1 h).1, ?_, ?_⟩
      · rintro rfl
        rw [hko] at h
        simp at h
      · rintro rfl
        rw [hke] at h
        simp at h
    have o2 := hinv.o2
    have e2 := hinv.e2
    have he4 : EntsO 2 (((K2 ++ [enO (.agg [a', I v])]).set e (ensO (fs ++ [.agg [a', I v]]))).set o (cooO (.agg [s, .slc e (i + 1) 0 (i + 1) none]))) fs (E.take i) :=
      hinv.he.to (Nat.le_refl _) fun k c' _ h => let ⟨n1, n2, n3⟩ := ni k c' h; kk k _ n1 n2 n3 h
    have hrl : H.length + 1 = m + 1 := by omega
    refine ⟨o2, e2, kk 0 _ (by omega) (by omega) (by omega) hinv.k0, kk 1 _ (by omega) (by omega) (by omega) hinv.k1, ?_, ?_, ?_, ?_⟩
    · rw [gs_eq (hko2 _ _)]
      simp [hil]
    · rw [gs_ne hoe, gs_eq (hke2 _)]
    · exact hinv.hs.to (Nat.le_refl _) fun k _ h => let ⟨n1, n2, n3⟩ := ni k _ h; kk k _ n1 n2 n3 h
    · refine he4.snoc (hr.to (by simp; omega) fun k hk hk2 => ?_)
      have hkl := (List.getElem?_eq_some_iff.1 hk2).1
      simp at hk
      rw [gs_ne (by omega), gs_ne (by omega), List.getElem?_append_left hkl]
      exact hk2
  ·
    intro hb
    have hb : ¬ i < es.length := by simpa using hb
    refine AWp.exit ?_
    simp [qSeq, qBlock]
    rw [List.take_of_length_le (by omega)] at hinv
    have hko := hinv.ko
    have hk1 := hinv.k1
    have hs1c := hinv.hs.one
    have o2 := hinv.o2
    have e2 := hinv.e2
    repeat first | refine AWp.seq ?_ | refine AWp.block ?_
    refine AWp.ops ?_
    simp [hko, hk1, hs1c]
    refine AWp.ret ?_
    simp
    refine retOk.of (vs := [.agg [s, .slc e E.length 0 E.length none]]) (by simp [gs_eq hk1]) ?_
    have ki : ∀ k o', 2 ≤ k → H[k]? = some o' → (H.set 1 (cooO (.agg [s, .slc e E.length 0 E.length none])))[k]? = some o' := fun k o' h1 h2 => by rw [gs_ne (by omega)]; exact h2
    have hel := hinv.he.1
    exact ⟨s, e, fs, rfl, hinv.hs.to (by omega) fun k hk h => ki k _ hk h, by omega, ki e _ e2 hinv.ke, hinv.he.to (by omega) fun k c hk h => ki k _ hk h⟩
end Go.Fw
