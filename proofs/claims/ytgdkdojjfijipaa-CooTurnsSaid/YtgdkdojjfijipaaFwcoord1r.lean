import Derived.Test.YtgdkdojjfijipaaFwplace0
import Derived.Test.YtgdkdojjfijipaaFwslices
import Derived.Test.YtgdkdojjfijipaaFwcoord1
import Derived.Test.YtgdkdojjfijipaaFwref01a
namespace Go.Fw
open Go Go.RowKit Go.Proofs
set_option maxRecDepth 100000
set_option linter.unusedSimpArgs false
set_option linter.unusedVariables false

def rPlace_10 : AC := (.seq (.ops [⟨(some 17), none, (.k (.mov (.t 5)))⟩, ⟨(some 18), none, (.k (.mov (.t 6)))⟩, ⟨(some 19), none, (.k (.mov (.t 1)))⟩, ⟨(some 20), none, (.k (.mov (.t 0)))⟩, ⟨(some 21), none, (.k (.mov (.t 6)))⟩, ⟨(some 22), none, (.k (.iad 1 (.t 20) (.t 21)))⟩, ⟨(some 23), none, (.k (.ld 1 false (.t 22)))⟩, ⟨(some 24), none, (.k (.bin .rem (.t 19) (.t 23)))⟩, ⟨(some 25), none, (.k (.iad 1 (.t 17) (.t 18)))⟩, ⟨none, none, (.k (.st 1 (.t 25) (.t 24)))⟩]) (.ops [⟨(some 26), none, (.k (.mov (.t 1)))⟩, ⟨(some 27), none, (.k (.mov (.t 0)))⟩, ⟨(some 28), none, (.k (.mov (.t 6)))⟩, ⟨(some 29), none, (.k (.iad 1 (.t 27) (.t 28)))⟩, ⟨(some 30), none, (.k (.ld 1 false (.t 29)))⟩, ⟨(some 31), none, (.k (.bin .quo (.t 26) (.t 30)))⟩, ⟨(some 1), none, (.k (.mov (.t 31)))⟩]))
def rPlace_9 : AC := (.block 1 rPlace_10)
def rPlace_8 : AC := (.seq rPlace_9 (.ops [⟨(some 15), none, (.k (.mov (.t 6)))⟩, ⟨(some 16), none, (.k (.bin .sub (.t 15) (.c (.sc (.int .i64 1)))))⟩, ⟨(some 6), none, (.k (.mov (.t 16)))⟩]))
def rPlace_7 : AC := (.seq (.ops [⟨(some 13), none, (.k (.mov (.t 6)))⟩, ⟨(some 14), none, (.k (.bin .geq (.t 13) (.c (.sc (.int .i64 0)))))⟩]) (.cond (.t 14) .skip (.exit 0)))
def rPlace_6 : AC := (.seq rPlace_7 rPlace_8)
def rPlace_5 : AC := (.loop rPlace_6)
def rPlace_4 : AC := (.block 0 rPlace_5)
def rPlace_3 : AC := (.seq (.ops [⟨(some 10), none, (.k (.mov (.t 0)))⟩, ⟨(some 11), none, (.k (.len (.t 10)))⟩, ⟨(some 12), none, (.k (.bin .sub (.t 11) (.c (.sc (.int .i64 1)))))⟩, ⟨(some 6), none, (.k (.mov (.t 12)))⟩]) rPlace_4)
def rPlace_2 : AC := (.seq rPlace_3 (.seq (.ops [⟨(some 32), none, (.k (.mov (.t 5)))⟩, ⟨(some 4), none, (.k (.mov (.t 32)))⟩]) .ret))
def rPlace_1 : AC := (.seq (.ops [⟨(some 7), none, (.k (.mov (.t 0)))⟩, ⟨(some 8), none, (.k (.len (.t 7)))⟩, ⟨(some 9), none, (.k (.mkS 3 1 8 (.sc (.int .i64 0)) (.t 8) (.t 8)))⟩, ⟨(some 5), none, (.k (.mov (.t 9)))⟩]) rPlace_2)
def rPlace_ac : AC := (.seq (.ops [⟨(some 4), none, (.k (.mov (.c (.imm true none 0 []))))⟩]) rPlace_1)
theorem rPlace_call {args : List AV} {H : List AObj} {R : AV → List AObj → Prop} (h : AWp Try.prog [] H.length rPlace_ac (bodyQ H.length [(.t 4)] R) (args ++ List.replicate (33 - args.length) .und) H) : ACalls Try.prog 82 args H R :=
  ACalls.of_fn Try.func82 rfl (by kernel_rfl) rfl Try.ntmps82 h

theorem rPlace_spec {a : AV} {xs : List Int} {n : Int} (ha : ISl a xs) (hx1 : ∀ x ∈ xs, 1 ≤ x) (hl : xs.length ≤ 1000) (hn : 0 ≤ n) (hn2 : n ≤ 9223372036854775807) :
    ACalls Try.prog 82 [a, I n] [] fun r H' => H' = [] ∧ ISl r (placeF xs n) := by
  have hin : ∀ x ∈ placeF xs n, -9223372036854775808 ≤ x ∧ x ≤ 9223372036854775807 := by
    intro x hx
    obtain ⟨k, hk, rfl⟩ := List.getElem_of_mem hx
    have hk' : k < xs.length := by rw [placeF_len] at hk; exact hk
    rw [placeF_get xs n k hk hk']
    have h1 := hx1 _ (List.getElem_mem hk')
    have h2 := ha.2.2 _ (List.getElem_mem hk')
    have h3 := Int.emod_nonneg (n / prd (xs.drop (k + 1))) (b := xs[k]) (by omega)
    have h4 := Int.emod_lt_of_pos (n / prd (xs.drop (k + 1))) (b := xs[k]) (by omega)
    omega
  obtain ⟨⟨nl, c, sz, rfl, hs⟩, hlen, hx⟩ := ha
  have base : ACalls Try.prog 82 [.imm nl c sz (xs.map I), I n] [] fun r H' => r = .slc 0 xs.length 0 xs.length none ∧ H' = [⟨3, 1, (placeF xs n).map I, true, none⟩] := by
    apply rPlace_call
    repeat first | refine AWp.seq ?_ | refine AWp.block ?_
    refine AWp.ops ?_
    simp
    have b1 : (xs.length : Int) * 8 ≤ 281474976710656 := by omega
    have b2 : (xs.length : Int) ≤ 9223372036854775807 := by omega
    repeat first | refine AWp.seq ?_ | refine AWp.block ?_
    refine AWp.ops ?_
    simp [b1, b2]
    have hwl : IntKind.i64.wrap ((xs.length : Int) - 1) = (xs.length : Int) - 1 := wrap_i64 (by omega) (by omega)
    repeat first | refine AWp.seq ?_ | refine AWp.block ?_
    refine AWp.ops ?_
    simp [hwl]
    obtain ⟨J, hJ⟩ : ∃ J : Nat → List AV → List AObj → Prop, J = fun j fr H => j ≤ xs.length ∧ ∃ ws : List Int, (ws.length = xs.length ∧ ∀ k, j ≤ k → ws[k]? = (if k < xs.length then (placeF xs n)[k]? else none)) ∧ H = [⟨3, 1, ws.map I, true, none⟩] ∧
      fr = [.imm nl c sz (xs.map I), I (n / prd (xs.drop j)), .und, .und, .und, .slc 0 xs.length 0 xs.length none, I ((j : Int) - 1), .und, .und, .und, .und, .und, .und, .und, .und, .und, .und, .und, .und, .und, .und, .und, .und, .und, .und, .und, .und, .und, .und, .und, .und, .und, .und] := ⟨_, rfl⟩
    refine AWp.block (AWp.loop J (fun j => j) xs.length (Weak.slots [0, 1, 5, 6]) (by
      rw [hJ]
      refine ⟨by omega, List.replicate xs.length 0, ⟨by simp, fun k hk => ?_⟩, by simp, by simp [prd]⟩
      rw [List.getElem?_eq_none (by simp; omega), if_neg (by omega)]) ?_)
    intro j fr H hI
    rw [hJ] at hI
    obtain ⟨hj, ws, ⟨hwl1, hwv⟩, rfl, rfl⟩ := hI
    repeat first | refine AWp.seq ?_ | refine AWp.block ?_
    refine AWp.ops ?_
    simp
    refine AWp.cond (b := decide (0 < j)) (by simp; omega) ?_ ?_
    · intro h0
      have h0 : 0 < j := by simpa using h0
      obtain ⟨i, rfl⟩ : ∃ i, j = i + 1 := ⟨j - 1, by omega⟩
      have hb : i < xs.length := by omega
      have hb2 : i < ws.length := by omega
      have hsz := sz_of hs hb
      subst hsz
      have hxi := hx1 _ (List.getElem_mem hb)
      have hxr := hx _ (List.getElem_mem hb)
      have hp1 := prd_pos (xs := xs.drop (i + 1)) fun y hy => hx1 y (List.mem_of_mem_drop hy)
      obtain ⟨q, hq⟩ : ∃ q, q = n / prd (xs.drop (i + 1)) := ⟨_, rfl⟩
      have hq0 : 0 ≤ q := by rw [hq]; exact Int.ediv_nonneg hn (by omega)
      have hqn : q ≤ n := by rw [hq]; exact Int.ediv_le_self _ hn
      have hne : ¬ xs[i] = 0 := by omega
      have hqx0 : 0 ≤ q / xs[i] := Int.ediv_nonneg hq0 (by omega)
      have hqx1 : q / xs[i] ≤ q := Int.ediv_le_self _ hq0
      have d1 : q.tmod xs[i] = q % xs[i] := Int.tmod_eq_emod_of_nonneg hq0
      have d2 : IntKind.i64.wrap (q.tdiv xs[i]) = q / xs[i] := by rw [Int.tdiv_eq_ediv_of_nonneg hq0]; exact wrap_i64 (by omega) (by omega)
      have d3 : IntKind.i64.wrap ((i : Int) - 1) = (i : Int) - 1 := wrap_i64 (by omega) (by omega)
      have d4 : n / prd (xs.drop i) = q / xs[i] := by
        rw [List.drop_eq_getElem_cons hb, prd, hq, Int.ediv_ediv_of_nonneg (by omega), Int.mul_comm]
      rw [← hq]
      refine AWp.skip ?_
      simp only [qSeq]
      repeat first | refine AWp.seq ?_ | refine AWp.block ?_
      refine AWp.ops ?_
      simp [hb, hb2, hwl1, d1, hne]
      repeat first | refine AWp.seq ?_ | refine AWp.block ?_
      refine AWp.ops ?_
      simp [hb, hb2, hwl1, d2, hne]
      repeat first | refine AWp.seq ?_ | refine AWp.block ?_
      refine AWp.ops ?_
      simp [d3]
      refine ⟨i, _, _, Weak.slots [0, 1, 5, 6], ?_, by omega⟩
      rw [hJ]
      refine ⟨by omega, ws.set i (q % xs[i]), ⟨by simpa using hwl1, fun k hk => ?_⟩, by simp [List.map_set], by simp [d4]⟩
      by_cases e : k = i
      · subst e
        have hpl : k < (placeF xs n).length := by rw [placeF_len]; exact hb
        rw [List.getElem?_set_self hb2, if_pos hb, List.getElem?_eq_getElem hpl, placeF_get xs n k hpl hb, ← hq]
      · rw [List.getElem?_set_ne (by omega)]
        exact hwv k (by omega)
    · intro h0
      have h0 : j = 0 := by
        have : ¬ 0 < j := by simpa using h0
        omega
      subst h0
      have hw : ws = placeF xs n := by
        apply List.ext_getElem?
        intro k
        rw [hwv k (by omega)]
        split
        · rfl
        · rw [List.getElem?_eq_none (by rw [placeF_len]; omega)]
      refine AWp.exit ?_
      simp [qSeq, qBlock]
      repeat first | refine AWp.seq ?_ | refine AWp.block ?_
      refine AWp.ops ?_
      simp
      refine AWp.ret ?_
      simp
      refine retOk.of rfl ⟨by simp, by rw [hw]⟩
  refine (base.frozen 2).mono ?_
  rintro q H' ⟨rfl, r, G, ⟨rfl, rfl⟩, rfl⟩
  refine ⟨rfl, ?_⟩
  have hl2 := placeF_len xs n
  exact ⟨⟨false, none, 1, by simp [hl2], by simp, by simp⟩, by omega, hin⟩
end Go.Fw
namespace Go.Fw
open Go Go.RowKit Go.Proofs
set_option maxRecDepth 100000
set_option linter.unusedSimpArgs false
set_option linter.unusedVariables false

def rCoord_9 : AC := (.seq (.ops [⟨(some 23), none, (.k (.mov (.t 0)))⟩, ⟨(some 24), none, (.k (.mov (.t 1)))⟩, ⟨(some 25), none, (.call false (.c (.fn (.func 82) [] [])) [(.t 23), (.t 24)])⟩, ⟨(some 4), none, (.k (.mov (.t 25)))⟩, ⟨(some 5), none, (.k (.mov (.c (.sc (.int .i64 0)))))⟩]) .ret)
def rCoord_8 : AC := (.cond (.t 22) (.seq (.ops [⟨(some 4), none, (.k (.mov (.c (.imm true none 0 []))))⟩, ⟨(some 5), none, (.k (.mov (.c (.sc (.int .i64 3)))))⟩]) .ret) .skip)
def rCoord_7 : AC := (.seq (.ops [⟨(some 16), none, (.k (.mov (.t 1)))⟩, ⟨(some 17), none, (.k (.bin .lss (.t 16) (.c (.sc (.int .i64 0)))))⟩, ⟨(some 18), none, (.k (.mov (.t 17)))⟩, ⟨(some 19), (some (18, false)), (.k (.mov (.t 1)))⟩, ⟨(some 20), (some (18, false)), (.k (.mov (.t 6)))⟩, ⟨(some 21), (some (18, false)), (.k (.bin .geq (.t 19) (.t 20)))⟩, ⟨(some 22), none, (.k (.pick (.t 18) (.c (.sc (.bool true))) (.t 21)))⟩]) rCoord_8)
def rCoord_6 : AC := (.seq rCoord_7 rCoord_9)
def rCoord_5 : AC := (.seq (.ops [⟨(some 15), none, (.k (.mov (.t 7)))⟩, ⟨(some 4), none, (.k (.mov (.c (.imm true none 0 []))))⟩, ⟨(some 5), none, (.k (.mov (.t 15)))⟩]) .ret)
def rCoord_4 : AC := (.cond (.t 14) rCoord_5 .skip)
def rCoord_3 : AC := (.seq (.ops [⟨(some 13), none, (.k (.mov (.t 7)))⟩, ⟨(some 14), none, (.k (.bin .neq (.t 13) (.c (.sc (.int .i64 0)))))⟩]) rCoord_4)
def rCoord_2 : AC := (.seq rCoord_3 rCoord_6)
def rCoord_1 : AC := (.seq (.ops [⟨(some 9), none, (.k (.mov (.t 0)))⟩, ⟨(some 10), none, (.call false (.c (.fn (.func 56) [] [])) [(.t 9)])⟩, ⟨(some 8), none, (.k (.mov (.t 10)))⟩, ⟨(some 11), none, (.k (.ext (.t 8) 0))⟩, ⟨(some 12), none, (.k (.ext (.t 8) 1))⟩, ⟨(some 6), none, (.k (.mov (.t 11)))⟩, ⟨(some 7), none, (.k (.mov (.t 12)))⟩]) rCoord_2)
def rCoord_ac : AC := (.seq (.ops [⟨(some 4), none, (.k (.mov (.c (.imm true none 0 []))))⟩, ⟨(some 5), none, (.k (.mov (.c (.sc (.int .i64 0)))))⟩]) rCoord_1)
theorem rCoord_call {args : List AV} {H : List AObj} {R : AV → List AObj → Prop} (h : AWp Try.prog [] H.length rCoord_ac (bodyQ H.length [(.t 4), (.t 5)] R) (args ++ List.replicate (26 - args.length) .und) H) : ACalls Try.prog 68 args H R :=
  ACalls.of_fn Try.func68 rfl (by kernel_rfl) rfl Try.ntmps68 h

theorem rCoord_spec {a : AV} {xs : List Int} {n : Int} (ha : ISl a xs) (hn1 : -9223372036854775808 ≤ n) (hn2 : n ≤ 9223372036854775807) :
    ACalls Try.prog 68 [a, I n] [] fun r H' => H' = [] ∧ ∃ s, r = .tup [s, I (coordF xs n).2] ∧ ISl s (coordF xs n).1 := by
  have ha' := ha
  obtain ⟨⟨nl, c, sz, rfl, hs⟩, hlen, hx⟩ := ha
  apply rCoord_call
  repeat first | refine AWp.seq ?_ | refine AWp.block ?_
  refine AWp.ops ?_
  simp
  repeat first | refine AWp.seq ?_ | refine AWp.block ?_
  refine AWp.ops ?_
  simp
  refine (rCells_spec ha').mono ?_
  rintro r H' ⟨rfl, rfl⟩
  simp
  repeat first | refine AWp.seq ?_ | refine AWp.block ?_
  refine AWp.ops ?_
  simp
  refine AWp.cond (b := (cells xs).2 != 0) (by simp) ?_ ?_
  · intro h
    have h : (cells xs).2 ≠ 0 := by simpa using h
    have e : coordF xs n = ([], (cells xs).2) := by simp [coordF, h]
    rw [e]
    repeat first | refine AWp.seq ?_ | refine AWp.block ?_
    refine AWp.ops ?_
    simp
    refine AWp.ret ?_
    simp
    refine retOk.of rfl ⟨rfl, _, rfl, ISl.nil⟩
  intro h
  have h : (cells xs).2 = 0 := by simpa using h
  refine AWp.skip ?_
  simp only [qSeq]
  by_cases hbad : n < 0 ∨ (cells xs).1 ≤ n
  · have e : coordF xs n = ([], 3) := by simp [coordF, h, hbad]
    rw [e]
    rcases Int.lt_or_le n 0 with h1 | h1
    ·
      repeat first | refine AWp.seq ?_ | refine AWp.block ?_
      refine AWp.ops ?_
      simp [h1]
      refine AWp.cond (b := true) (by simp) (fun _ => ?_) (fun h => by cases h)
      repeat first | refine AWp.seq ?_ | refine AWp.block ?_
      refine AWp.ops ?_
      simp
      refine AWp.ret ?_
      simp
      refine retOk.of rfl ⟨rfl, _, rfl, ISl.nil⟩
    · have h2 : (cells xs).1 ≤ n := by omega
      have h1' : ¬ n < 0 := by omega
      repeat first | refine AWp.seq ?_ | refine AWp.block ?_
      refine AWp.ops ?_
      simp [h1, h1', h2]
      refine AWp.cond (b := true) (by simp) (fun _ => ?_) (fun h => by cases h)
      repeat first | refine AWp.seq ?_ | refine AWp.block ?_
      refine AWp.ops ?_
      simp
      refine AWp.ret ?_
      simp
      refine retOk.of rfl ⟨rfl, _, rfl, ISl.nil⟩
  have h1 : 0 ≤ n := by omega
  have h1' : ¬ n < 0 := by omega
  have h2 : n < (cells xs).1 := by omega
  have h2' : ¬ (cells xs).1 ≤ n := by omega
  have hl4 := cells_len h
  have hx1 := (cells_nz h (by omega)).1
  have e : coordF xs n = (placeF xs n, 0) := by simp [coordF, h, h1', h2']
  rw [e]
  repeat first | refine AWp.seq ?_ | refine AWp.block ?_
  refine AWp.ops ?_
  simp [h1, h1', h2, h2']
  refine AWp.cond (b := false) (by simp) (fun h => by cases h) (fun _ => ?_)
  refine AWp.skip ?_
  simp only [qSeq]
  repeat first | refine AWp.seq ?_ | refine AWp.block ?_
  refine AWp.ops ?_
  simp
  refine ((rPlace_spec ha' hx1 (by omega) h1 hn2).pure (by simp) (by rintro r h; obtain ⟨⟨nl, c, sz, rfl, _⟩, _⟩ := h; simp) _).mono ?_
  rintro r H' ⟨rfl, hr⟩
  simp
  refine AWp.ret ?_
  simp
  refine retOk.of rfl ⟨rfl, _, rfl, hr⟩
end Go.Fw
