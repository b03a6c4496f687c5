import Derived.Test.YtbhkoeaecngdhaaFwsum2
namespace Go.Fw
open Go Go.RowKit Go.Proofs
set_option maxRecDepth 100000
set_option linter.unusedSimpArgs false
set_option linter.unusedVariables false

/-- A number's place. -/
def placeF : List Int → Int → List Int
  | [], _ => []
  | s :: r, n => ((n / prd r) % s) :: placeF r n
theorem placeF_len : ∀ (xs : List Int) (n : Int), (placeF xs n).length = xs.length
  | [], _ => rfl
  | s :: r, n => by simp only [placeF, List.length_cons, placeF_len r n]
theorem placeF_get : ∀ (xs : List Int) (n : Int) (k : Nat) (h : k < (placeF xs n).length) (h' : k < xs.length), (placeF xs n)[k] = (n / prd (xs.drop (k + 1))) % xs[k]
  | [], _, k, h, _ => by simp [placeF] at h
  | s :: r, n, 0, _, _ => by simp [placeF]
  | s :: r, n, k + 1, h, h' => by
    simp only [placeF, List.getElem_cons_succ, List.drop_succ_cons]
    exact placeF_get r n k _ _

theorem numGo_place : ∀ (r : List Int) (a n : Int), (∀ x ∈ r, 1 ≤ x) → 0 ≤ a → 0 ≤ n → (a + 1) * prd r ≤ 4611686018427387904 → numGo r (placeF r n) a = a * prd r + n % prd r
  | [], a, n, _, _, _, _ => by simp [numGo, placeF, prd, Int.emod_one]
  | s :: r, a, n, hx, ha, hn, hb => by
    have hs := hx s (by simp)
    have hp := prd_pos (xs := r) fun y hy => hx y (by simp [hy])
    simp only [placeF, numGo, prd] at hb ⊢
    obtain ⟨c, hc⟩ : ∃ c, c = (n / prd r) % s := ⟨_, rfl⟩
    have c0 : 0 ≤ c := by rw [hc]; exact Int.emod_nonneg _ (by omega)
    have c1 : c < s := by rw [hc]; exact Int.emod_lt_of_pos _ (by omega)
    rw [← hc]
    have e1 : (a + 1) * (s * prd r) = (a * s + s) * prd r := by rw [← Int.mul_assoc, Int.add_mul, Int.one_mul]
    have e2 : (a * s + c + 1) * prd r ≤ (a * s + s) * prd r := Int.mul_le_mul_of_nonneg_right (by omega) (by omega)
    have e3 : 0 ≤ a * s := Int.mul_nonneg ha (by omega)
    have e4 : (a * s + s) * 1 ≤ (a * s + s) * prd r := Int.mul_le_mul_of_nonneg_left hp (by omega)
    rw [wrap_i64 (n := a * s) (by omega) (by omega), wrap_i64 (n := a * s + c) (by omega) (by omega)]
    rw [numGo_place r (a * s + c) n (fun y hy => hx y (by simp [hy])) (by omega) hn (by omega)]
    have q1 : n = prd r * (n / prd r) + n % prd r := (Int.mul_ediv_add_emod n (prd r)).symm
    have q2 : n / prd r = s * (n / prd r / s) + c := by rw [hc]; exact (Int.mul_ediv_add_emod _ _).symm
    have t0 : 0 ≤ n % prd r := Int.emod_nonneg _ (by omega)
    have t1 : n % prd r < prd r := Int.emod_lt_of_pos _ (by omega)
    have e5 : (c + 1) * prd r ≤ s * prd r := Int.mul_le_mul_of_nonneg_right (by omega) (by omega)
    have e6 : 0 ≤ c * prd r := Int.mul_nonneg c0 (by omega)
    rw [Int.add_mul, Int.one_mul] at e5
    have key : n % (s * prd r) = c * prd r + n % prd r := by
      have : n = (c * prd r + n % prd r) + (s * prd r) * (n / prd r / s) := by
        have h1 : prd r * (n / prd r) = prd r * (s * (n / prd r / s) + c) := by rw [← q2]
        rw [Int.mul_add] at h1
        have h2 : prd r * (s * (n / prd r / s)) = (s * prd r) * (n / prd r / s) := by ac_rfl
        have h3 : prd r * c = c * prd r := Int.mul_comm _ _
        omega
      have h4 : n % (s * prd r) = ((c * prd r + n % prd r) + (s * prd r) * (n / prd r / s)) % (s * prd r) := by rw [← this]
      rw [h4, Int.add_mul_emod_self_left, Int.emod_eq_of_lt (by omega) (by omega)]
    rw [key, Int.add_mul, Int.mul_assoc]
    omega
theorem numGo_erase : ∀ (k : Nat) (S : List Int) (a n : Int) (hk : k < S.length), (∀ x ∈ S, 1 ≤ x) → 0 ≤ a → 0 ≤ n → (a + 1) * prd (S.eraseIdx k) ≤ 4611686018427387904 →
    numGo (S.eraseIdx k) ((placeF S n).eraseIdx k) a = a * prd (S.eraseIdx k) + ((n % prd S) / (S[k] * prd (S.drop (k + 1))) * prd (S.drop (k + 1)) + n % prd (S.drop (k + 1)))
  | k, [], a, n, hk, _, _, _, _ => by simp at hk
  | 0, s :: r, a, n, _, hx, ha, hn, hb => by
    have hs := hx s (by simp)
    have hp := prd_pos (xs := r) fun y hy => hx y (by simp [hy])
    simp only [List.eraseIdx_cons_zero, placeF, List.getElem_cons_zero, List.drop_succ_cons, List.drop_zero, prd] at hb ⊢
    rw [numGo_place r a n (fun y hy => hx y (by simp [hy])) ha hn hb]
    have h1 : 1 ≤ s * prd r := by
      have := Int.mul_le_mul hs hp (by omega) (by omega)
      omega
    rw [Int.ediv_eq_zero_of_lt (Int.emod_nonneg _ (by omega)) (Int.emod_lt_of_pos _ (by omega))]
    omega
  | k + 1, p :: r, a, n, hk, hx, ha, hn, hb => by
    have hk' : k < r.length := by simpa using hk
    have hs := hx p (by simp)
    have hxr : ∀ x ∈ r, 1 ≤ x := fun y hy => hx y (by simp [hy])
    have hp := prd_pos hxr
    have hpe := prd_pos (xs := r.eraseIdx k) fun y hy => hxr y (List.mem_of_mem_eraseIdx hy)
    simp only [List.eraseIdx_cons_succ, placeF, List.getElem_cons_succ, List.drop_succ_cons, prd, numGo] at hb ⊢
    obtain ⟨c, hc⟩ : ∃ c, c = (n / prd r) % p := ⟨_, rfl⟩
    have c0 : 0 ≤ c := by rw [hc]; exact Int.emod_nonneg _ (by omega)
    have c1 : c < p := by rw [hc]; exact Int.emod_lt_of_pos _ (by omega)
    rw [← hc]
    have e1 : (a + 1) * (p * prd (r.eraseIdx k)) = (a * p + p) * prd (r.eraseIdx k) := by rw [← Int.mul_assoc, Int.add_mul, Int.one_mul]
    have e2 : (a * p + c + 1) * prd (r.eraseIdx k) ≤ (a * p + p) * prd (r.eraseIdx k) := Int.mul_le_mul_of_nonneg_right (by omega) (by omega)
    have e3 : 0 ≤ a * p := Int.mul_nonneg ha (by omega)
    have e4 : (a * p + p) * 1 ≤ (a * p + p) * prd (r.eraseIdx k) := Int.mul_le_mul_of_nonneg_left hpe (by omega)
    rw [wrap_i64 (n := a * p) (by omega) (by omega), wrap_i64 (n := a * p + c) (by omega) (by omega)]
    rw [numGo_erase k r (a * p + c) n hk' hxr (by omega) hn (by omega)]
    have q2 : n / prd r = p * (n / prd r / p) + c := by rw [hc]; exact (Int.mul_ediv_add_emod _ _).symm
    have q1 : n = prd r * (n / prd r) + n % prd r := (Int.mul_ediv_add_emod n (prd r)).symm
    have t0 : 0 ≤ n % prd r := Int.emod_nonneg _ (by omega)
    have t1 : n % prd r < prd r := Int.emod_lt_of_pos _ (by omega)
    have e5 : (c + 1) * prd r ≤ p * prd r := Int.mul_le_mul_of_nonneg_right (by omega) (by omega)
    have e6 : 0 ≤ c * prd r := Int.mul_nonneg c0 (by omega)
    rw [Int.add_mul, Int.one_mul] at e5
    have key : n % (p * prd r) = n % prd r + c * prd r := by
      have : n = (n % prd r + c * prd r) + (p * prd r) * (n / prd r / p) := by
        have h1 : prd r * (n / prd r) = prd r * (p * (n / prd r / p) + c) := by rw [← q2]
        rw [Int.mul_add] at h1
        have h2 : prd r * (p * (n / prd r / p)) = (p * prd r) * (n / prd r / p) := by ac_rfl
        have h3 : prd r * c = c * prd r := Int.mul_comm _ _
        omega
      have h4 : n % (p * prd r) = ((n % prd r + c * prd r) + (p * prd r) * (n / prd r / p)) % (p * prd r) := by rw [← this]
      rw [h4, Int.add_mul_emod_self_left, Int.emod_eq_of_lt (by omega) (by omega)]
    obtain ⟨s1, s2⟩ := prd_split hk'
    obtain ⟨far, hfar⟩ : ∃ f, f = prd (r.drop (k + 1)) := ⟨_, rfl⟩
    obtain ⟨pre, hpre⟩ : ∃ f, f = prd (r.take k) := ⟨_, rfl⟩
    obtain ⟨s, hsd⟩ : ∃ s, s = r[k] := ⟨_, rfl⟩
    have hsp : 1 ≤ s := by rw [hsd]; exact hxr _ (List.getElem_mem hk')
    have hfp : 1 ≤ far := by rw [hfar]; exact prd_pos fun y hy => hxr y (List.mem_of_mem_drop hy)
    rw [← hfar, ← hpre] at s2
    rw [← hfar, ← hpre, ← hsd] at s1
    rw [← hfar, ← hsd, key]
    have hlp : 1 ≤ s * far := by
      have := Int.mul_le_mul hsp hfp (by omega) (by omega)
      omega
    have e7 : (n % prd r + c * prd r) / (s * far) = n % prd r / (s * far) + c * pre := by
      have : c * prd r = (s * far) * (c * pre) := by rw [s1]; ac_rfl
      rw [this, Int.add_mul_ediv_left _ _ (by omega)]
    rw [e7, s2, Int.add_mul, Int.add_mul]
    have e8 : c * pre * far = c * (pre * far) := Int.mul_assoc _ _ _
    have e9 : a * p * (pre * far) = a * (p * (pre * far)) := Int.mul_assoc _ _ _
    omega

def rPlace_10 : AC := (.seq (.ops [⟨(some 17), none, (.k (.mov (.t 5)))⟩, ⟨(some 18), none, (.k (.mov (.t 6)))⟩, ⟨(some 19), none, (.k (.mov (.t 1)))⟩, ⟨(some 20), none, (.k (.mov (.t 0)))⟩, ⟨(some 21), none, (.k (.mov (.t 6)))⟩, ⟨(some 22), none, (.k (.iad 1 (.t 20) (.t 21)))⟩, ⟨(some 23), none, (.k (.ld 1 false (.t 22)))⟩, ⟨(some 24), none, (.k (.bin .rem (.t 19) (.t 23)))⟩, ⟨(some 25), none, (.k (.iad 1 (.t 17) (.t 18)))⟩, ⟨none, none, (.k (.st 1 (.t 25) (.t 24)))⟩]) (.ops [⟨(some 26), none, (.k (.mov (.t 1)))⟩, ⟨(some 27), none, (.k (.mov (.t 0)))⟩, ⟨(some 28), none, (.k (.mov (.t 6)))⟩, ⟨(some 29), none, (.k (.iad 1 (.t 27) (.t 28)))⟩, ⟨(some 30), none, (.k (.ld 1 false (.t 29)))⟩, ⟨(some 31), none, (.k (.bin .quo (.t 26) (.t 30)))⟩, ⟨(some 1), none, (.k (.mov (.t 31)))⟩]))
def rPlace_9 : AC := (.block 1 rPlace_10)
def rPlace_8 : AC := (.seq rPlace_9 (.ops [⟨(some 15), none, (.k (.mov (.t 6)))⟩, ⟨(some 16), none, (.k (.bin .sub (.t 15) (.c (.sc (.int .i64 1)))))⟩, ⟨(some 6), none, (.k (.mov (.t 16)))⟩]))
def rPlace_7 : AC := (.seq (.ops [⟨(some 13), none, (.k (.mov (.t 6)))⟩, ⟨(some 14), none, (.k (.bin .geq (.t 13) (.c (.sc (.int .i64 0)))))⟩]) (.cond (.t 14) .skip (.exit 0)))
def rPlace_6 : AC := (.seq rPlace_7 rPlace_8)
def rPlace_5 : AC := (.loop rPlace_6)
def rPlace_4 : AC := (.block 0 rPlace_5)
def rPlace_3 : AC := (.seq (.ops [⟨(some 10), none, (.k (.mov (.t 0)))⟩, ⟨(some 11), none, (.k (.len (.t 10)))⟩, ⟨(some 12), none, (.k (.bin .sub (.t 11) (.c (.sc (.int .i64 1)))))⟩, ⟨(some 6), none, (.k (.mov (.t 12)))⟩]) rPlace_4)
def rPlace_2 : AC := (.seq rPlace_3 (.seq (.ops [⟨(some 32), none, (.k (.mov (.t 5)))⟩, ⟨(some 4), none, (.k (.mov (.t 32)))⟩]) .ret))
def rPlace_1 : AC := (.seq (.ops [⟨(some 7), none, (.k (.mov (.t 0)))⟩, ⟨(some 8), none, (.k (.len (.t 7)))⟩, ⟨(some 9), none, (.k (.mkS 3 1 8 (.sc (.int .i64 0)) (.t 8) (.t 8)))⟩, ⟨(some 5), none, (.k (.mov (.t 9)))⟩]) rPlace_2)
def rPlace_ac : AC := (.seq (.ops [⟨(some 4), none, (.k (.mov (.c (.imm true none 0 []))))⟩]) rPlace_1)
theorem rPlace_call {args : List AV} {H : List AObj} {R : AV → List AObj → Prop} (h : AWp Try.prog [] H.length rPlace_ac (bodyQ H.length [(.t 4)] R) (args ++ List.replicate (33 - args.length) .und) H) : ACalls Try.prog 46 args H R :=
  ACalls.of_fn Try.func46 rfl (by kernel_rfl) rfl Try.ntmps46 h

theorem rPlace_spec {a : AV} {xs : List Int} {n : Int} (ha : ISl a xs) (hx1 : ∀ x ∈ xs, 1 ≤ x) (hl : xs.length ≤ 1000) (hn : 0 ≤ n) (hn2 : n ≤ 9223372036854775807) :
    ACalls Try.prog 46 [a, I n] [] fun r H' => H' = [] ∧ ISl r (placeF xs n) := by
  have hin : ∀ x ∈ placeF xs n, -9223372036854775808 ≤ x ∧ x ≤ 9223372036854775807 := by
    intro x hx
    obtain ⟨k, hk, rfl⟩ := List.getElem_of_mem hx
    have hk' : k < xs.length := by rw [placeF_len] at hk; exact hk
    rw [placeF_get xs n k hk hk']
    have h1 := hx1 _ (List.getElem_mem hk')
    have h2 := ha.2.2 _ (List.getElem_mem hk')
    have h3 := Int.emod_nonneg (n / prd (xs.drop (k + 1))) (b := xs[k]) (by omega)
    have h4 := Int.emod_lt_of_pos (n / prd (xs.drop (k + 1))) (b := xs[k]) (by omega)
    omega
  obtain ⟨⟨nl, c, sz, rfl, hs⟩, hlen, hx⟩ := ha
  have base : ACalls Try.prog 46 [.imm nl c sz (xs.map I), I n] [] fun r H' => r = .slc 0 xs.length 0 xs.length none ∧ H' = [⟨3, 1, (placeF xs n).map I, true, none⟩] := by
    apply rPlace_call
    first | refine AWp.seq (AWp.ops ?_) | refine AWp.seq (AWp.seq (AWp.ops ?_)) | refine AWp.ops ?_ | refine AWp.seq (AWp.block (AWp.seq (AWp.ops ?_))) | refine AWp.seq (AWp.seq (AWp.seq (AWp.ops ?_)))
    simp
    have b1 : (xs.length : Int) * 8 ≤ 281474976710656 := by omega
    have b2 : (xs.length : Int) ≤ 9223372036854775807 := by omega
    first | refine AWp.seq (AWp.ops ?_) | refine AWp.seq (AWp.seq (AWp.ops ?_)) | refine AWp.ops ?_ | refine AWp.seq (AWp.block (AWp.seq (AWp.ops ?_))) | refine AWp.seq (AWp.seq (AWp.seq (AWp.ops ?_)))
    simp [b1, b2]
    have hwl : IntKind.i64.wrap ((xs.length : Int) - 1) = (xs.length : Int) - 1 := wrap_i64 (by omega) (by omega)
    first | refine AWp.seq (AWp.ops ?_) | refine AWp.seq (AWp.seq (AWp.ops ?_)) | refine AWp.ops ?_ | refine AWp.seq (AWp.block (AWp.seq (AWp.ops ?_))) | refine AWp.seq (AWp.seq (AWp.seq (AWp.ops ?_)))
    simp [hwl]
    obtain ⟨J, hJ⟩ : ∃ J : Nat → List AV → List AObj → Prop, J = fun j fr H => j ≤ xs.length ∧ ∃ ws : List Int, (ws.length = xs.length ∧ ∀ k, j ≤ k → ws[k]? = (if k < xs.length then (placeF xs n)[k]? else none)) ∧ H = [⟨3, 1, ws.map I, true, none⟩] ∧
      fr = [.imm nl c sz (xs.map I), I (n / prd (xs.drop j)), .und, .und, .und, .slc 0 xs.length 0 xs.length none, I ((j : Int) - 1), .und, .und, .und, .und, .und, .und, .und, .und, .und, .und, .und, .und, .und, .und, .und, .und, .und, .und, .und, .und, .und, .und, .und, .und, .und, .und] := ⟨_, rfl⟩
    refine AWp.block (AWp.loop J (fun j => j) xs.length (Weak.slots [0, 1, 5, 6]) (by
      rw [hJ]
      refine ⟨by omega, List.replicate xs.length 0, ⟨by simp, fun k hk => ?_⟩, by simp, by simp [prd]⟩
      rw [List.getElem?_eq_none (by simp; omega), if_neg (by omega)]) ?_)
    intro j fr H hI
    rw [hJ] at hI
    obtain ⟨hj, ws, ⟨hwl1, hwv⟩, rfl, rfl⟩ := hI
    first | refine AWp.seq (AWp.ops ?_) | refine AWp.seq (AWp.seq (AWp.ops ?_)) | refine AWp.ops ?_ | refine AWp.seq (AWp.block (AWp.seq (AWp.ops ?_))) | refine AWp.seq (AWp.seq (AWp.seq (AWp.ops ?_)))
    simp
    refine AWp.cond (b := decide (0 < j)) (by simp; omega) ?_ ?_
    · intro h0
      have h0 : 0 < j := by simpa using h0
      obtain ⟨i, rfl⟩ : ∃ i, j = i + 1 := ⟨j - 1, by omega⟩
      have hb : i < xs.length := by omega
      have hb2 : i < ws.length := by omega
      have hsz := sz_of hs hb
      subst hsz
      have hxi := hx1 _ (List.getElem_mem hb)
      have hxr := hx _ (List.getElem_mem hb)
      have hp1 := prd_pos (xs := xs.drop (i + 1)) fun y hy => hx1 y (List.mem_of_mem_drop hy)
      obtain ⟨q, hq⟩ : ∃ q, q = n / prd (xs.drop (i + 1)) := ⟨_, rfl⟩
      have hq0 : 0 ≤ q := by rw [hq]; exact Int.ediv_nonneg hn (by omega)
      have hqn : q ≤ n := by rw [hq]; exact Int.ediv_le_self _ hn
      have hne : ¬ xs[i] = 0 := by omega
      have hqx0 : 0 ≤ q / xs[i] := Int.ediv_nonneg hq0 (by omega)
      have hqx1 : q / xs[i] ≤ q := Int.ediv_le_self _ hq0
      have d1 : q.tmod xs[i] = q % xs[i] := Int.tmod_eq_emod_of_nonneg hq0
      have d2 : IntKind.i64.wrap (q.tdiv xs[i]) = q / xs[i] := by rw [Int.tdiv_eq_ediv_of_nonneg hq0]; exact wrap_i64 (by omega) (by omega)
      have d3 : IntKind.i64.wrap ((i : Int) - 1) = (i : Int) - 1 := wrap_i64 (by omega) (by omega)
      have d4 : n / prd (xs.drop i) = q / xs[i] := by
        rw [List.drop_eq_getElem_cons hb, prd, hq, Int.ediv_ediv_of_nonneg (by omega), Int.mul_comm]
      rw [← hq]
      refine AWp.skip ?_
      simp only [qSeq]
      first | refine AWp.seq (AWp.ops ?_) | refine AWp.seq (AWp.seq (AWp.ops ?_)) | refine AWp.ops ?_ | refine AWp.seq (AWp.block (AWp.seq (AWp.ops ?_))) | refine AWp.seq (AWp.seq (AWp.seq (AWp.ops ?_)))
      simp [hb, hb2, hwl1, d1, hne]
      first | refine AWp.seq (AWp.ops ?_) | refine AWp.seq (AWp.seq (AWp.ops ?_)) | refine AWp.ops ?_ | refine AWp.seq (AWp.block (AWp.seq (AWp.ops ?_))) | refine AWp.seq (AWp.seq (AWp.seq (AWp.ops ?_)))
      simp [hb, hb2, hwl1, d2, hne]
      first | refine AWp.seq (AWp.ops ?_) | refine AWp.seq (AWp.seq (AWp.ops ?_)) | refine AWp.ops ?_ | refine AWp.seq (AWp.block (AWp.seq (AWp.ops ?_))) | refine AWp.seq (AWp.seq (AWp.seq (AWp.ops ?_)))
      simp [d3]
      refine ⟨i, _, _, Weak.slots [0, 1, 5, 6], ?_, by omega⟩
      rw [hJ]
      refine ⟨by omega, ws.set i (q % xs[i]), ⟨by simpa using hwl1, fun k hk => ?_⟩, by simp [List.map_set], by simp [d4]⟩
      by_cases e : k = i
      · subst e
        have hpl : k < (placeF xs n).length := by rw [placeF_len]; exact hb
        rw [List.getElem?_set_self hb2, if_pos hb, List.getElem?_eq_getElem hpl, placeF_get xs n k hpl hb, ← hq]
      · rw [List.getElem?_set_ne (by omega)]
        exact hwv k (by omega)
    · intro h0
      have h0 : j = 0 := by
        have : ¬ 0 < j := by simpa using h0
        omega
      subst h0
      have hw : ws = placeF xs n := by
        apply List.ext_getElem?
        intro k
        rw [hwv k (by omega)]
        split
        · rfl
        · rw [List.getElem?_eq_none (by rw [placeF_len]; omega)]
      refine AWp.exit ?_
      simp [qSeq, qBlock]
      first | refine AWp.seq (AWp.ops ?_) | refine AWp.seq (AWp.seq (AWp.ops ?_)) | refine AWp.ops ?_ | refine AWp.seq (AWp.block (AWp.seq (AWp.ops ?_))) | refine AWp.seq (AWp.seq (AWp.seq (AWp.ops ?_)))
      simp
      refine AWp.ret ?_
      simp
      refine retOk.of rfl ⟨by simp, by rw [hw]⟩
  refine (base.frozen 2).mono ?_
  rintro q H' ⟨rfl, r, G, ⟨rfl, rfl⟩, rfl⟩
  refine ⟨rfl, ?_⟩
  have hl2 := placeF_len xs n
  exact ⟨⟨false, none, 1, by simp [hl2], by simp, by simp⟩, by omega, hin⟩

def rWithout_12 : AC := (.cond (.t 17) (.ops [⟨(some 18), none, (.k (.mov (.t 5)))⟩, ⟨(some 19), none, (.k (.mov (.t 7)))⟩, ⟨(some 20), none, (.k (.lit 1 [(.t 19)]))⟩, ⟨(some 21), none, (.k (.app 3 1 8 (.t 18) (.t 20)))⟩, ⟨(some 5), none, (.k (.mov (.t 21)))⟩]) .skip)
def rWithout_11 : AC := (.seq (.ops [⟨(some 15), none, (.k (.mov (.t 6)))⟩, ⟨(some 16), none, (.k (.mov (.t 1)))⟩, ⟨(some 17), none, (.k (.bin .neq (.t 15) (.t 16)))⟩]) rWithout_12)
def rWithout_10 : AC := (.seq (.ops [⟨(some 12), none, (.k (.mov (.t 10)))⟩, ⟨(some 13), none, (.k (.iad 1 (.t 8) (.t 10)))⟩, ⟨(some 14), none, (.k (.ld 1 false (.t 13)))⟩, ⟨(some 6), none, (.k (.mov (.t 12)))⟩, ⟨(some 7), none, (.k (.mov (.t 14)))⟩]) rWithout_11)
def rWithout_9 : AC := (.block 1 rWithout_10)
def rWithout_8 : AC := (.seq rWithout_9 (.ops [⟨(some 22), none, (.k (.bin .add (.t 10) (.c (.sc (.int .i64 1)))))⟩, ⟨(some 10), none, (.k (.mov (.t 22)))⟩]))
def rWithout_7 : AC := (.seq (.cond (.t 11) .skip (.exit 0)) rWithout_8)
def rWithout_6 : AC := (.seq (.ops [⟨(some 11), none, (.k (.bin .lss (.t 10) (.t 9)))⟩]) rWithout_7)
def rWithout_5 : AC := (.loop rWithout_6)
def rWithout_4 : AC := (.block 0 rWithout_5)
def rWithout_3 : AC := (.seq (.ops [⟨(some 8), none, (.k (.mov (.t 0)))⟩, ⟨(some 9), none, (.k (.len (.t 8)))⟩, ⟨(some 10), none, (.k (.mov (.c (.sc (.int .i64 0)))))⟩]) rWithout_4)
def rWithout_2 : AC := (.seq rWithout_3 (.seq (.ops [⟨(some 23), none, (.k (.mov (.t 5)))⟩, ⟨(some 4), none, (.k (.mov (.t 23)))⟩]) .ret))
def rWithout_1 : AC := (.seq (.ops [⟨(some 5), none, (.k (.mov (.c (.imm true none 0 []))))⟩]) rWithout_2)
def rWithout_ac : AC := (.seq (.ops [⟨(some 4), none, (.k (.mov (.c (.imm true none 0 []))))⟩]) rWithout_1)
theorem rWithout_call {args : List AV} {H : List AObj} {R : AV → List AObj → Prop} (h : AWp Try.prog [] H.length rWithout_ac (bodyQ H.length [(.t 4)] R) (args ++ List.replicate (24 - args.length) .und) H) : ACalls Try.prog 57 args H R :=
  ACalls.of_fn Try.func57 rfl (by kernel_rfl) rfl Try.ntmps57 h

theorem erase_step {xs : List Int} {m i : Nat} (hi : i < xs.length) : (xs.take (i + 1)).eraseIdx m = (xs.take i).eraseIdx m ++ if i = m then [] else [xs[i]] := by
  rw [List.take_succ_eq_append_getElem hi]
  have hl : (xs.take i).length = i := by simp; omega
  by_cases h1 : m < i
  · rw [if_neg (by omega), List.eraseIdx_append_of_lt_length (by omega)]
  · by_cases h2 : i = m
    · subst h2
      rw [if_pos rfl, List.eraseIdx_append_of_length_le (by omega), hl, List.eraseIdx_of_length_le (l := xs.take i) (by omega)]
      simp
    · rw [if_neg h2, List.eraseIdx_of_length_le (by simp; omega), List.eraseIdx_of_length_le (by simp; omega)]

theorem rWithout_spec {a : AV} {xs : List Int} {m : Nat} (ha : ISl a xs) (hl : xs.length ≤ 1000) : ACalls Try.prog 57 [a, I m] [] fun r H' => H' = [] ∧ ISl r (xs.eraseIdx m) := by
  have hin : ∀ x ∈ xs.eraseIdx m, -9223372036854775808 ≤ x ∧ x ≤ 9223372036854775807 := fun x hx => ha.2.2 x (List.mem_of_mem_eraseIdx hx)
  have hll : (xs.eraseIdx m).length ≤ xs.length := by rw [List.length_eraseIdx]; split <;> omega
  obtain ⟨⟨nl, c, sz, rfl, hs⟩, hlen, hx⟩ := ha
  have base : ACalls Try.prog 57 [.imm nl c sz (xs.map I), I m] [] fun r H' => ∃ v, (v = some true → xs.eraseIdx m = []) ∧ v ≠ some false ∧ r = .slc 0 (xs.eraseIdx m).length 0 (xs.eraseIdx m).length none ∧ H' = [⟨3, 1, (xs.eraseIdx m).map I, true, v⟩] := by
    apply rWithout_call
    first | refine AWp.seq (AWp.ops ?_) | refine AWp.seq (AWp.seq (AWp.ops ?_)) | refine AWp.ops ?_ | refine AWp.seq (AWp.block (AWp.seq (AWp.ops ?_))) | refine AWp.seq (AWp.seq (AWp.seq (AWp.ops ?_)))
    simp
    first | refine AWp.seq (AWp.ops ?_) | refine AWp.seq (AWp.seq (AWp.ops ?_)) | refine AWp.ops ?_ | refine AWp.seq (AWp.block (AWp.seq (AWp.ops ?_))) | refine AWp.seq (AWp.seq (AWp.seq (AWp.ops ?_)))
    simp
    refine AWp.weak (Weak.own 5 3 1 (by omega) none 0 (by simp)) ?_
    simp
    first | refine AWp.seq (AWp.ops ?_) | refine AWp.seq (AWp.seq (AWp.ops ?_)) | refine AWp.ops ?_ | refine AWp.seq (AWp.block (AWp.seq (AWp.ops ?_))) | refine AWp.seq (AWp.seq (AWp.seq (AWp.ops ?_)))
    simp
    obtain ⟨J, hJ⟩ : ∃ J : Nat → List AV → List AObj → Prop, J = fun i fr H => i ≤ xs.length ∧ ∃ (ws : List Int) (v : Option Bool), (ws = (xs.take i).eraseIdx m ∧ (v = some true → ws = []) ∧ v ≠ some false) ∧ H = [⟨3, 1, ws.map I, true, v⟩] ∧
      fr = [.und, I m, .und, .und, .und, .slc 0 ws.length 0 ws.length none, .und, .und, .imm nl c sz (xs.map I), I xs.length, I i, .und, .und, .und, .und, .und, .und, .und, .und, .und, .und, .und, .und, .und] := ⟨_, rfl⟩
    refine AWp.block (AWp.loop J (fun i => xs.length - i) 0 (Weak.slots [1, 5, 8, 9, 10]) (by rw [hJ]; exact ⟨by omega, [], some true, ⟨by simp, by simp, by simp⟩, by simp, by simp⟩) ?_)
    intro i fr H hI
    rw [hJ] at hI
    obtain ⟨hi, ws, v, hinv, rfl, rfl⟩ := hI
    first | refine AWp.seq (AWp.ops ?_) | refine AWp.seq (AWp.seq (AWp.ops ?_)) | refine AWp.ops ?_ | refine AWp.seq (AWp.block (AWp.seq (AWp.ops ?_))) | refine AWp.seq (AWp.seq (AWp.seq (AWp.ops ?_)))
    simp
    refine AWp.seq (AWp.cond (b := decide (i < xs.length)) (by simp <;> omega) ?_ ?_)
    ·
      intro hb
      have hb : i < xs.length := by simpa using hb
      refine AWp.skip ?_
      simp only [qSeq]
      obtain ⟨hws, hv1, hv2⟩ := hinv
      have hsz := sz_of hs hb
      subst hsz
      have hst := erase_step (m := m) hb
      have hwl : ws.length ≤ 1000 := by
        have : ws.length ≤ (xs.take i).length := by rw [hws, List.length_eraseIdx]; split <;> omega
        simp at this
        omega
      first | refine AWp.seq (AWp.ops ?_) | refine AWp.seq (AWp.seq (AWp.ops ?_)) | refine AWp.ops ?_ | refine AWp.seq (AWp.block (AWp.seq (AWp.ops ?_))) | refine AWp.seq (AWp.seq (AWp.seq (AWp.ops ?_)))
      simp [hb]
      first | refine AWp.seq (AWp.ops ?_) | refine AWp.seq (AWp.seq (AWp.ops ?_)) | refine AWp.ops ?_ | refine AWp.seq (AWp.block (AWp.seq (AWp.ops ?_))) | refine AWp.seq (AWp.seq (AWp.seq (AWp.ops ?_)))
      simp
      refine AWp.cond (b := (i : Int) != m) (by simp) ?_ ?_
      · intro hne
        have hne : ¬ i = m := by rintro rfl; simp at hne
        rw [if_neg hne, ← hws] at hst
        have b1 : (ws.length + 1) * 8 ≤ 140737488355328 := by omega
        have b2 : ws.length + 1 ≤ 9223372036854775807 := by omega
        first | refine AWp.seq (AWp.ops ?_) | refine AWp.seq (AWp.seq (AWp.ops ?_)) | refine AWp.ops ?_ | refine AWp.seq (AWp.block (AWp.seq (AWp.ops ?_))) | refine AWp.seq (AWp.seq (AWp.seq (AWp.ops ?_)))
        simp [b1, b2, elems]
        first | refine AWp.seq (AWp.ops ?_) | refine AWp.seq (AWp.seq (AWp.ops ?_)) | refine AWp.ops ?_ | refine AWp.seq (AWp.block (AWp.seq (AWp.ops ?_))) | refine AWp.seq (AWp.seq (AWp.seq (AWp.ops ?_)))
        simp
        refine ⟨i + 1, _, _, Weak.slots [1, 5, 8, 9, 10], ?_, by omega⟩
        rw [hJ]
        refine ⟨by omega, ws ++ [xs[i]], none, ?_, by simp, by simp [wrap_i64 (n := (i : Int) + 1) (by omega) (by omega)]⟩
        exact ⟨hst.symm, by simp, by simp⟩
      · intro hne
        have hne : i = m := by
          have : (i : Int) = m := by simpa using hne
          omega
        rw [if_pos hne, ← hws, List.append_nil] at hst
        refine AWp.skip ?_
        simp only [qSeq, qBlock]
        first | refine AWp.seq (AWp.ops ?_) | refine AWp.seq (AWp.seq (AWp.ops ?_)) | refine AWp.ops ?_ | refine AWp.seq (AWp.block (AWp.seq (AWp.ops ?_))) | refine AWp.seq (AWp.seq (AWp.seq (AWp.ops ?_)))
        simp
        refine ⟨i + 1, _, _, Weak.slots [1, 5, 8, 9, 10], ?_, by omega⟩
        rw [hJ]
        refine ⟨by omega, ws, v, ?_, by simp, by simp [wrap_i64 (n := (i : Int) + 1) (by omega) (by omega)]⟩
        exact ⟨hst.symm, hv1, hv2⟩
    ·
      intro hb
      have hb : ¬ i < xs.length := by simpa using hb
      refine AWp.exit ?_
      simp [qSeq, qBlock]
      obtain ⟨hws, hv1, hv2⟩ := hinv
      have e : xs.take i = xs := List.take_of_length_le (by omega)
      rw [e] at hws
      first | refine AWp.seq (AWp.ops ?_) | refine AWp.seq (AWp.seq (AWp.ops ?_)) | refine AWp.ops ?_ | refine AWp.seq (AWp.block (AWp.seq (AWp.ops ?_))) | refine AWp.seq (AWp.seq (AWp.seq (AWp.ops ?_)))
      simp
      refine AWp.ret ?_
      simp
      refine retOk.of rfl ⟨v, fun h => ?_, hv2, by simp [hws], by rw [hws]⟩
      have := hv1 h
      rw [hws] at this
      simpa using this
  refine (base.frozen 2).mono ?_
  rintro q H' ⟨rfl, r, G, ⟨v, hv1, hv2, rfl, rfl⟩, rfl⟩
  refine ⟨rfl, ?_⟩
  match v, hv1, hv2 with
  | some true, hv1, _ =>
    have h0 := hv1 rfl
    rw [h0]
    exact ⟨⟨true, none, 1, by simp, by simp, by simp⟩, by simp, by simp⟩
  | none, _, _ => exact ⟨⟨false, none, 1, by simp, by simp, by simp⟩, by omega, hin⟩
  | some false, _, h => exact absurd rfl h
end Go.Fw
