import Derived.Test.YtbhkoeaecngdhaaFwprd1
import Derived.Test.YtbhkoeaecngdhaaFwref01b
namespace Go.Fw
open Go Go.RowKit Go.Proofs
set_option maxRecDepth 100000
set_option linter.unusedSimpArgs false
set_option linter.unusedVariables false

/-- A number's place. -/
def placeF : List Int → Int → List Int
  | [], _ => []
  | s :: r, n => ((n / prd r) % s) :: placeF r n
theorem placeF_len : ∀ (xs : List Int) (n : Int), (placeF xs n).length = xs.length
  | [], _ => rfl
  | s :: r, n => by simp only [placeF, List.length_cons, placeF_len r n]
theorem placeF_get : ∀ (xs : List Int) (n : Int) (k : Nat) (h : k < (placeF xs n).length) (h' : k < xs.length), (placeF xs n)[k] = (n / prd (xs.drop (k + 1))) % xs[k]
  | [], _, k, h, _ => by simp [placeF] at h
  | s :: r, n, 0, _, _ => by simp [placeF]
  | s :: r, n, k + 1, h, h' => by
    simp only [placeF, List.getElem_cons_succ, List.drop_succ_cons]
    exact placeF_get r n k _ _

theorem numGo_place : ∀ (r : List Int) (a n : Int), (∀ x ∈ r, 1 ≤ x) → 0 ≤ a → 0 ≤ n → (a + 1) * prd r ≤ 4611686018427387904 → numGo r (placeF r n) a = a * prd r + n % prd r
  | [], a, n, _, _, _, _ => by simp [numGo, placeF, prd, Int.emod_one]
  | s :: r, a, n, hx, ha, hn, hb => by
    have hs := hx s (by simp)
    have hp := prd_pos (xs := r) fun y hy => hx y (by simp [hy])
    simp only [placeF, numGo, prd] at hb ⊢
    obtain ⟨c, hc⟩ : ∃ c, c = (n / prd r) % s := ⟨_, rfl⟩
    have c0 : 0 ≤ c := by rw [hc]; exact Int.emod_nonneg _ (by omega)
    have c1 : c < s := by rw [hc]; exact Int.emod_lt_of_pos _ (by omega)
    rw [← hc]
    have e1 : (a + 1) * (s * prd r) = (a * s + s) * prd r := by rw [← Int.mul_assoc, Int.add_mul, Int.one_mul]
    have e2 : (a * s + c + 1) * prd r ≤ (a * s + s) * prd r := Int.mul_le_mul_of_nonneg_right (by omega) (by omega)
    have e3 : 0 ≤ a * s := Int.mul_nonneg ha (by omega)
    have e4 : (a * s + s) * 1 ≤ (a * s + s) * prd r := Int.mul_le_mul_of_nonneg_left hp (by omega)
    rw [wrap_i64 (n := a * s) (by omega) (by omega), wrap_i64 (n := a * s + c) (by omega) (by omega)]
    rw [numGo_place r (a * s + c) n (fun y hy => hx y (by simp [hy])) (by omega) hn (by omega)]
    have q1 : n = prd r * (n / prd r) + n % prd r := (Int.mul_ediv_add_emod n (prd r)).symm
    have q2 : n / prd r = s * (n / prd r / s) + c := by rw [hc]; exact (Int.mul_ediv_add_emod _ _).symm
    have t0 : 0 ≤ n % prd r := Int.emod_nonneg _ (by omega)
    have t1 : n % prd r < prd r := Int.emod_lt_of_pos _ (by omega)
    have e5 : (c + 1) * prd r ≤ s * prd r := Int.mul_le_mul_of_nonneg_right (by omega) (by omega)
    have e6 : 0 ≤ c * prd r := Int.mul_nonneg c0 (by omega)
    rw [Int.add_mul, Int.one_mul] at e5
    have key : n % (s * prd r) = c * prd r + n % prd r := by
      have : n = (c * prd r + n % prd r) + (s * prd r) * (n / prd r / s) := by
        have h1 : prd r * (n / prd r) = prd r * (s * (n / prd r / s) + c) := by rw [← q2]
        rw [Int.mul_add] at h1
        have h2 : prd r * (s * (n / prd r / s)) = (s * prd r) * (n / prd r / s) := by ac_rfl
        have h3 : prd r * c = c * prd r := Int.mul_comm _ _
        omega
      have h4 : n % (s * prd r) = ((c * prd r + n % prd r) + (s * prd r) * (n / prd r / s)) % (s * prd r) := by rw [← this]
      rw [h4, Int.add_mul_emod_self_left, Int.emod_eq_of_lt (by omega) (by omega)]
    rw [key, Int.add_mul, Int.mul_assoc]
    omega

def rPlace_10 : AC := (.seq (.ops [⟨(some 17), none, (.k (.mov (.t 5)))⟩, ⟨(some 18), none, (.k (.mov (.t 6)))⟩, ⟨(some 19), none, (.k (.mov (.t 1)))⟩, ⟨(some 20), none, (.k (.mov (.t 0)))⟩, ⟨(some 21), none, (.k (.mov (.t 6)))⟩, ⟨(some 22), none, (.k (.iad 1 (.t 20) (.t 21)))⟩, ⟨(some 23), none, (.k (.ld 1 false (.t 22)))⟩, ⟨(some 24), none, (.k (.bin .rem (.t 19) (.t 23)))⟩, ⟨(some 25), none, (.k (.iad 1 (.t 17) (.t 18)))⟩, ⟨none, none, (.k (.st 1 (.t 25) (.t 24)))⟩]) (.ops [⟨(some 26), none, (.k (.mov (.t 1)))⟩, ⟨(some 27), none, (.k (.mov (.t 0)))⟩, ⟨(some 28), none, (.k (.mov (.t 6)))⟩, ⟨(some 29), none, (.k (.iad 1 (.t 27) (.t 28)))⟩, ⟨(some 30), none, (.k (.ld 1 false (.t 29)))⟩, ⟨(some 31), none, (.k (.bin .quo (.t 26) (.t 30)))⟩, ⟨(some 1), none, (.k (.mov (.t 31)))⟩]))
def rPlace_9 : AC := (.block 1 rPlace_10)
def rPlace_8 : AC := (.seq rPlace_9 (.ops [⟨(some 15), none, (.k (.mov (.t 6)))⟩, ⟨(some 16), none, (.k (.bin .sub (.t 15) (.c (.sc (.int .i64 1)))))⟩, ⟨(some 6), none, (.k (.mov (.t 16)))⟩]))
def rPlace_7 : AC := (.seq (.ops [⟨(some 13), none, (.k (.mov (.t 6)))⟩, ⟨(some 14), none, (.k (.bin .geq (.t 13) (.c (.sc (.int .i64 0)))))⟩]) (.cond (.t 14) .skip (.exit 0)))
def rPlace_6 : AC := (.seq rPlace_7 rPlace_8)
def rPlace_5 : AC := (.loop rPlace_6)
def rPlace_4 : AC := (.block 0 rPlace_5)
def rPlace_3 : AC := (.seq (.ops [⟨(some 10), none, (.k (.mov (.t 0)))⟩, ⟨(some 11), none, (.k (.len (.t 10)))⟩, ⟨(some 12), none, (.k (.bin .sub (.t 11) (.c (.sc (.int .i64 1)))))⟩, ⟨(some 6), none, (.k (.mov (.t 12)))⟩]) rPlace_4)
def rPlace_2 : AC := (.seq rPlace_3 (.seq (.ops [⟨(some 32), none, (.k (.mov (.t 5)))⟩, ⟨(some 4), none, (.k (.mov (.t 32)))⟩]) .ret))
def rPlace_1 : AC := (.seq (.ops [⟨(some 7), none, (.k (.mov (.t 0)))⟩, ⟨(some 8), none, (.k (.len (.t 7)))⟩, ⟨(some 9), none, (.k (.mkS 3 1 8 (.sc (.int .i64 0)) (.t 8) (.t 8)))⟩, ⟨(some 5), none, (.k (.mov (.t 9)))⟩]) rPlace_2)
def rPlace_ac : AC := (.seq (.ops [⟨(some 4), none, (.k (.mov (.c (.imm true none 0 []))))⟩]) rPlace_1)
theorem rPlace_call {args : List AV} {H : List AObj} {R : AV → List AObj → Prop} (h : AWp Try.prog [] H.length rPlace_ac (bodyQ H.length [(.t 4)] R) (args ++ List.replicate (33 - args.length) .und) H) : ACalls Try.prog 46 args H R :=
  ACalls.of_fn Try.func46 rfl (by kernel_rfl) rfl Try.ntmps46 h

theorem rPlace_spec {a : AV} {xs : List Int} {n : Int} (ha : ISl a xs) (hx1 : ∀ x ∈ xs, 1 ≤ x) (hl : xs.length ≤ 1000) (hn : 0 ≤ n) (hn2 : n ≤ 9223372036854775807) :
    ACalls Try.prog 46 [a, I n] [] fun r H' => H' = [] ∧ ISl r (placeF xs n) := by
  have hin : ∀ x ∈ placeF xs n, -9223372036854775808 ≤ x ∧ x ≤ 9223372036854775807 := by
    intro x hx
    obtain ⟨k, hk, rfl⟩ := List.getElem_of_mem hx
    have hk' : k < xs.length := by rw [placeF_len] at hk; exact hk
    rw [placeF_get xs n k hk hk']
    have h1 := hx1 _ (List.getElem_mem hk')
    have h2 := ha.2.2 _ (List.getElem_mem hk')
    have h3 := Int.emod_nonneg (n / prd (xs.drop (k + 1))) (b := xs[k]) (by omega)
    have h4 := Int.emod_lt_of_pos (n / prd (xs.drop (k + 1))) (b := xs[k]) (by omega)
    omega
  obtain ⟨⟨nl, c, sz, rfl, hs⟩, hlen, hx⟩ := ha
  have base : ACalls Try.prog 46 [.imm nl c sz (xs.map I), I n] [] fun r H' => r = .slc 0 xs.length 0 xs.length none ∧ H' = [⟨3, 1, (placeF xs n).map I, true, none⟩] := by
    apply rPlace_call
    repeat first | refine AWp.seq ?_ | refine AWp.block ?_
    refine AWp.ops ?_
    simp
    have b1 : (xs.length : Int) * 8 ≤ 281474976710656 := by omega
    have b2 : (xs.length : Int) ≤ 9223372036854775807 := by omega
    repeat first | refine AWp.seq ?_ | refine AWp.block ?_
    refine AWp.ops ?_
    simp [b1, b2]
    have hwl : IntKind.i64.wrap ((xs.length : Int) - 1) = (xs.length : Int) - 1 := wrap_i64 (by omega) (by omega)
    repeat first | refine AWp.seq ?_ | refine AWp.block ?_
    refine AWp.ops ?_
    simp [hwl]
    obtain ⟨J, hJ⟩ : ∃ J : Nat → List AV → List AObj → Prop, J = fun j fr H => j ≤ xs.length ∧ ∃ ws : List Int, (ws.length = xs.length ∧ ∀ k, j ≤ k → ws[k]? = (if k < xs.length then (placeF xs n)[k]? else none)) ∧ H = [⟨3, 1, ws.map I, true, none⟩] ∧
      fr = [.imm nl c sz (xs.map I), I (n / prd (xs.drop j)), .und, .und, .und, .slc 0 xs.length 0 xs.length none, I ((j : Int) - 1), .und, .und, .und, .und, .und, .und, .und, .und, .und, .und, .und, .und, .und, .und, .und, .und, .und, .und, .und, .und, .und, .und, .und, .und, .und, .und] := ⟨_, rfl⟩
    refine AWp.block (AWp.loop J (fun j => j) xs.length (Weak.slots [0, 1, 5, 6]) (by
      rw [hJ]
      refine ⟨by omega, List.replicate xs.length 0, ⟨by simp, fun k hk => ?_⟩, by simp, by simp [prd]⟩
      rw [List.getElem?_eq_none (by simp; omega), if_neg (by omega)]) ?_)
    intro j fr H hI
    rw [hJ] at hI
    obtain ⟨hj, ws, ⟨hwl1, hwv⟩, rfl, rfl⟩ := hI
    repeat first | refine AWp.seq ?_ | refine AWp.block ?_
    refine AWp.ops ?_
    simp
    refine AWp.cond (b := decide (0 < j)) (by simp; omega) ?_ ?_
    · intro h0
      have h0 : 0 < j := by simpa using h0
      obtain ⟨i, rfl⟩ : ∃ i, j = i + 1 := ⟨j - 1, by omega⟩
      have hb : i < xs.length := by omega
      have hb2 : i < ws.length := by omega
      have hsz := sz_of hs hb
      subst hsz
      have hxi := hx1 _ (List.getElem_mem hb)
      have hxr := hx _ (List.getElem_mem hb)
      have hp1 := prd_pos (xs := xs.drop (i + 1)) fun y hy => hx1 y (List.mem_of_mem_drop hy)
      obtain ⟨q, hq⟩ : ∃ q, q = n / prd (xs.drop (i + 1)) := ⟨_, rfl⟩
      have hq0 : 0 ≤ q := by rw [hq]; exact Int.ediv_nonneg hn (by omega)
      have hqn : q ≤ n := by rw [hq]; exact Int.ediv_le_self _ hn
      have hne : ¬ xs[i] = 0 := by omega
      have hqx0 : 0 ≤ q / xs[i] := Int.ediv_nonneg hq0 (by omega)
      have hqx1 : q / xs[i] ≤ q := Int.ediv_le_self _ hq0
      have d1 : q.tmod xs[i] = q % xs[i] := Int.tmod_eq_emod_of_nonneg hq0
      have d2 : IntKind.i64.wrap (q.tdiv xs[i]) = q / xs[i] := by rw [Int.tdiv_eq_ediv_of_nonneg hq0]; exact wrap_i64 (by omega) (by omega)
      have d3 : IntKind.i64.wrap ((i : Int) - 1) = (i : Int) - 1 := wrap_i64 (by omega) (by omega)
      have d4 : n / prd (xs.drop i) = q / xs[i] := by
        rw [List.drop_eq_getElem_cons hb, prd, hq, Int.ediv_ediv_of_nonneg (by omega), Int.mul_comm]
      rw [← hq]
      refine AWp.skip ?_
      simp only [qSeq]
      repeat first | refine AWp.seq ?_ | refine AWp.block ?_
      refine AWp.ops ?_
      simp [hb, hb2, hwl1, d1, hne]
      repeat first | refine AWp.seq ?_ | refine AWp.block ?_
      refine AWp.ops ?_
      simp [hb, hb2, hwl1, d2, hne]
      repeat first | refine AWp.seq ?_ | refine AWp.block ?_
      refine AWp.ops ?_
      simp [d3]
      refine ⟨i, _, _, Weak.slots [0, 1, 5, 6], ?_, by omega⟩
      rw [hJ]
      refine ⟨by omega, ws.set i (q % xs[i]), ⟨by simpa using hwl1, fun k hk => ?_⟩, by simp [List.map_set], by simp [d4]⟩
      by_cases e : k = i
      · subst e
        have hpl : k < (placeF xs n).length := by rw [placeF_len]; exact hb
        rw [List.getElem?_set_self hb2, if_pos hb, List.getElem?_eq_getElem hpl, placeF_get xs n k hpl hb, ← hq]
      · rw [List.getElem?_set_ne (by omega)]
        exact hwv k (by omega)
    · intro h0
      have h0 : j = 0 := by
        have : ¬ 0 < j := by simpa using h0
        omega
      subst h0
      have hw : ws = placeF xs n := by
        apply List.ext_getElem?
        intro k
        rw [hwv k (by omega)]
        split
        · rfl
        · rw [List.getElem?_eq_none (by rw [placeF_len]; omega)]
      refine AWp.exit ?_
      simp [qSeq, qBlock]
      repeat first | refine AWp.seq ?_ | refine AWp.block ?_
      refine AWp.ops ?_
      simp
      refine AWp.ret ?_
      simp
      refine retOk.of rfl ⟨by simp, by rw [hw]⟩
  refine (base.frozen 2).mono ?_
  rintro q H' ⟨rfl, r, G, ⟨rfl, rfl⟩, rfl⟩
  refine ⟨rfl, ?_⟩
  have hl2 := placeF_len xs n
  exact ⟨⟨false, none, 1, by simp [hl2], by simp, by simp⟩, by omega, hin⟩
end Go.Fw
