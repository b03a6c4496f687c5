import Derived.Test.YtkfooghdpfhiaaaFwstore2
namespace Go.Fw
open Go Go.RowKit Go.Proofs
set_option maxRecDepth 100000
set_option linter.unusedSimpArgs false
set_option linter.unusedVariables false

abbrev talO (b : Bool) : AObj := ⟨65, 1, [.agg [Bo b]], true, none⟩

def times_5 : AC := (.seq (.ops [⟨(some 23), none, (.k (.mov (.t 0)))⟩, ⟨(some 24), none, (.k (.nck (.t 23)))⟩, ⟨(some 25), none, (.k (.fad 0 (.t 24)))⟩, ⟨none, none, (.k (.st 1 (.t 25) (.c (.sc (.bool true)))))⟩]) (.seq (.ops [⟨(some 6), none, (.k (.mov (.c (.sc (.int .i64 0)))))⟩]) .ret))
def times_4 : AC := (.cond (.t 22) times_5 .skip)
def times_3 : AC := (.seq (.ops [⟨(some 17), none, (.k (.mov (.t 7)))⟩, ⟨(some 18), none, (.k (.bin .gtr (.t 17) (.c (.sc (.int .u64 0)))))⟩, ⟨(some 19), none, (.k (.mov (.t 18)))⟩, ⟨(some 20), (some (19, false)), (.k (.mov (.t 8)))⟩, ⟨(some 21), (some (19, false)), (.k (.bin .geq (.t 20) (.c (.sc (.int .u64 4611686018427387904)))))⟩, ⟨(some 22), none, (.k (.pick (.t 19) (.c (.sc (.bool true))) (.t 21)))⟩]) times_4)
def times_2 : AC := (.seq times_3 (.seq (.ops [⟨(some 26), none, (.k (.mov (.t 8)))⟩, ⟨(some 27), none, (.k (.cvi .i64 (.t 26)))⟩, ⟨(some 6), none, (.k (.mov (.t 27)))⟩]) .ret))
def times_1 : AC := (.seq (.ops [⟨(some 10), none, (.k (.mov (.t 1)))⟩, ⟨(some 11), none, (.k (.cvi .u64 (.t 10)))⟩, ⟨(some 12), none, (.k (.mov (.t 2)))⟩, ⟨(some 13), none, (.k (.cvi .u64 (.t 12)))⟩, ⟨(some 14), none, (.call false (.c (.fn (.func 73) [] [])) [(.t 11), (.t 13)])⟩, ⟨(some 9), none, (.k (.mov (.t 14)))⟩, ⟨(some 15), none, (.k (.ext (.t 9) 0))⟩, ⟨(some 16), none, (.k (.ext (.t 9) 1))⟩, ⟨(some 7), none, (.k (.mov (.t 15)))⟩, ⟨(some 8), none, (.k (.mov (.t 16)))⟩]) times_2)
def times_ac : AC := (.seq (.ops [⟨(some 6), none, (.k (.mov (.c (.sc (.int .i64 0)))))⟩]) times_1)
theorem times_call {args : List AV} {H : List AObj} {R : AV → List AObj → Prop} (h : AWp Try.prog [] H.length times_ac (bodyQ H.length [(.t 6)] R) (args ++ List.replicate (28 - args.length) .und) H) : ACalls Try.prog 39 args H R :=
  ACalls.of_fn Try.func39 rfl (by kernel_rfl) rfl Try.ntmps39 h

def timesR (x y p : Nat) (H : List AObj) (r : AV) (H' : List AObj) : Prop :=
  (4611686018427387904 ≤ x * y → r = I 0 ∧ H' = H.set p (talO true)) ∧ (x * y < 4611686018427387904 → r = I ((x * y : Nat) : Int) ∧ H' = H)
theorem times_spec {H : List AObj} {p : Nat} {ov : Bool} {x y : Nat} (hp : H[p]? = some (talO ov)) (hx : x < 9223372036854775808) (hy : y < 9223372036854775808) :
    ACalls Try.prog 39 [.ptr p 1 0 0, I x, I y] H (timesR x y p H) := by
  apply times_call
  first | refine AWp.seq (AWp.ops ?_) | refine AWp.seq (AWp.seq (AWp.ops ?_)) | refine AWp.ops ?_ | refine AWp.seq (AWp.block (AWp.seq (AWp.ops ?_))) | refine AWp.seq (AWp.seq (AWp.seq (AWp.ops ?_))) | refine AWp.block (AWp.seq (AWp.ops ?_)) | refine AWp.block (AWp.seq (AWp.seq (AWp.ops ?_))) | refine AWp.seq (AWp.block (AWp.seq (AWp.seq (AWp.ops ?_))))
  simp
  have wx := wrap_u64 (n := (x : Int)) (by omega) (by omega)
  have wy := wrap_u64 (n := (y : Int)) (by omega) (by omega)
  obtain ⟨hi, hhi⟩ : ∃ hi, hi = x * y / 18446744073709551616 := ⟨_, rfl⟩
  obtain ⟨lo, hlo⟩ : ∃ lo, lo = x * y % 18446744073709551616 := ⟨_, rfl⟩
  first | refine AWp.seq (AWp.ops ?_) | refine AWp.seq (AWp.seq (AWp.ops ?_)) | refine AWp.ops ?_ | refine AWp.seq (AWp.block (AWp.seq (AWp.ops ?_))) | refine AWp.seq (AWp.seq (AWp.seq (AWp.ops ?_))) | refine AWp.block (AWp.seq (AWp.ops ?_)) | refine AWp.block (AWp.seq (AWp.seq (AWp.ops ?_))) | refine AWp.seq (AWp.block (AWp.seq (AWp.seq (AWp.ops ?_))))
  simp [wx, wy]
  refine ((Mul64_spec x y (by omega) (by omega)).pure (by simp) (by rintro r rfl; simp) _).mono ?_
  rintro r H' ⟨rfl, e⟩
  rw [← hhi, ← hlo] at e
  subst e
  simp
  first | refine AWp.seq (AWp.ops ?_) | refine AWp.seq (AWp.seq (AWp.ops ?_)) | refine AWp.ops ?_ | refine AWp.seq (AWp.block (AWp.seq (AWp.ops ?_))) | refine AWp.seq (AWp.seq (AWp.seq (AWp.ops ?_))) | refine AWp.block (AWp.seq (AWp.ops ?_)) | refine AWp.block (AWp.seq (AWp.seq (AWp.ops ?_))) | refine AWp.seq (AWp.block (AWp.seq (AWp.seq (AWp.ops ?_))))
  simp
  have bad : 4611686018427387904 ≤ x * y → ∀ r H2, r = I 0 ∧ H2 = H'.set p (talO true) → timesR x y p H' r H2 := fun h r H2 h2 => ⟨fun _ => h2, fun h3 => by omega⟩
  rcases Nat.eq_zero_or_pos hi with h0 | h0
  · subst h0
    by_cases hl : 4611686018427387904 ≤ lo
    · have hl' : (4611686018427387904 : Int) ≤ lo := by omega
      simp [hl, hl']
      refine AWp.cond (b := true) (by simp [hl, hl']) (fun _ => ?_) (fun h => by cases h)
      first | refine AWp.seq (AWp.ops ?_) | refine AWp.seq (AWp.seq (AWp.ops ?_)) | refine AWp.ops ?_ | refine AWp.seq (AWp.block (AWp.seq (AWp.ops ?_))) | refine AWp.seq (AWp.seq (AWp.seq (AWp.ops ?_))) | refine AWp.block (AWp.seq (AWp.ops ?_)) | refine AWp.block (AWp.seq (AWp.seq (AWp.ops ?_))) | refine AWp.seq (AWp.block (AWp.seq (AWp.seq (AWp.ops ?_))))
      simp [hp]
      first | refine AWp.seq (AWp.ops ?_) | refine AWp.seq (AWp.seq (AWp.ops ?_)) | refine AWp.ops ?_ | refine AWp.seq (AWp.block (AWp.seq (AWp.ops ?_))) | refine AWp.seq (AWp.seq (AWp.seq (AWp.ops ?_))) | refine AWp.block (AWp.seq (AWp.ops ?_)) | refine AWp.block (AWp.seq (AWp.seq (AWp.ops ?_))) | refine AWp.seq (AWp.block (AWp.seq (AWp.seq (AWp.ops ?_))))
      simp
      refine AWp.ret ?_
      simp
      refine retOk.of rfl (bad (by omega) _ _ ⟨by simp, rfl⟩)
    · have hl' : ¬ (4611686018427387904 : Int) ≤ lo := by omega
      have hxy : lo = x * y := by omega
      have wl := wrap_i64 (n := (lo : Int)) (by omega) (by omega)
      simp [hl, hl']
      refine AWp.cond (b := false) (by simp [hl, hl'] <;> omega) (fun h => by cases h) (fun _ => ?_)
      refine AWp.skip ?_
      simp only [qSeq]
      first | refine AWp.seq (AWp.ops ?_) | refine AWp.seq (AWp.seq (AWp.ops ?_)) | refine AWp.ops ?_ | refine AWp.seq (AWp.block (AWp.seq (AWp.ops ?_))) | refine AWp.seq (AWp.seq (AWp.seq (AWp.ops ?_))) | refine AWp.block (AWp.seq (AWp.ops ?_)) | refine AWp.block (AWp.seq (AWp.seq (AWp.ops ?_))) | refine AWp.seq (AWp.block (AWp.seq (AWp.seq (AWp.ops ?_))))
      simp [wl]
      refine AWp.ret ?_
      simp
      refine retOk.of rfl ⟨fun h => by omega, fun _ => ⟨by rw [← hxy]; simp, rfl⟩⟩
  · have h0' : (0 : Int) < hi := by omega
    simp [h0, h0', Nat.not_le.2 h0, Int.not_le.2 h0', Nat.pos_iff_ne_zero.1 h0]
    refine AWp.cond (b := true) (by simp [h0]) (fun _ => ?_) (fun h => by cases h)
    first | refine AWp.seq (AWp.ops ?_) | refine AWp.seq (AWp.seq (AWp.ops ?_)) | refine AWp.ops ?_ | refine AWp.seq (AWp.block (AWp.seq (AWp.ops ?_))) | refine AWp.seq (AWp.seq (AWp.seq (AWp.ops ?_))) | refine AWp.block (AWp.seq (AWp.ops ?_)) | refine AWp.block (AWp.seq (AWp.seq (AWp.ops ?_))) | refine AWp.seq (AWp.block (AWp.seq (AWp.seq (AWp.ops ?_))))
    simp [hp]
    first | refine AWp.seq (AWp.ops ?_) | refine AWp.seq (AWp.seq (AWp.ops ?_)) | refine AWp.ops ?_ | refine AWp.seq (AWp.block (AWp.seq (AWp.ops ?_))) | refine AWp.seq (AWp.seq (AWp.seq (AWp.ops ?_))) | refine AWp.block (AWp.seq (AWp.ops ?_)) | refine AWp.block (AWp.seq (AWp.seq (AWp.ops ?_))) | refine AWp.seq (AWp.block (AWp.seq (AWp.seq (AWp.ops ?_))))
    simp
    refine AWp.ret ?_
    simp
    refine retOk.of rfl (bad (by omega) _ _ ⟨by simp, rfl⟩)

theorem sizesF_ok {xs : List Int} {fs : List (Int × Int × Int)} (h : (sizesF xs fs).2 = 0) (hz : ∀ s ∈ fs, s.2.2 ≤ 9223372036854775807) :
    (cells xs).2 = 0 ∧ (sizesF xs fs).1.length = fs.length ∧ (∀ v ∈ (sizesF xs fs).1, 0 ≤ v ∧ v ≤ 2147483648) ∧ ∀ s ∈ fs, (s.1 = 0 ∨ s.1 = 1 ∨ s.1 = 2 ∨ s.1 = 3 ∨ s.1 = 4) := by
  by_cases hc : (cells xs).2 = 0
  case neg =>
    simp only [sizesF, ne_eq, hc, not_false_eq_true, if_true] at h
  obtain ⟨hxn, hx4⟩ := cells_nonneg' hc
  cases hr : readF xs fs with
  | none => simp [sizesF, hc, hr] at h
  | some M =>
    obtain ⟨hm, hb⟩ := readF_ok hr
    have hb := hb hz
    by_cases ha : (fs.map (lvlOf xs M)).any (fun v => decide (2147483648 < v)) = true
    · have : sizesF xs fs = ([], 2) := by simp only [sizesF, hc, ne_eq, not_true_eq_false, if_false, hr]; rw [if_pos ha]
      rw [this] at h; simp at h
    · have e : sizesF xs fs = (fs.map (lvlOf xs M), 0) := by simp only [sizesF, hc, ne_eq, not_true_eq_false, if_false, hr]; rw [if_neg ha]
      rw [e]
      refine ⟨hc, by simp, fun v hv => ?_, fun s hs => (hm s hs).2⟩
      have ha' : (fs.map (lvlOf xs M)).any (fun v => decide (2147483648 < v)) = false := by simpa only [Bool.not_eq_true] using ha
      have h1 := (List.any_eq_false.1 ha') v hv
      refine ⟨?_, by simpa using h1⟩
      obtain ⟨s, hs, rfl⟩ := List.mem_map.1 hv
      have hg : 0 ≤ (M.getD s.2.1.toNat (false, 0)).2 := by
        rw [List.getD]
        cases hg : M[s.2.1.toNat]? with
        | none => simp
        | some p => exact (hb p (List.mem_of_getElem? hg)).1
      have hx : 0 ≤ xs.getD s.2.1.toNat 0 := by
        rw [List.getD]
        cases hg : xs[s.2.1.toNat]? with
        | none => simp
        | some p => exact hxn p (List.mem_of_getElem? hg)
      unfold lvlOf
      split
      · exact hg
      · split
        · exact Int.tdiv_nonneg hx hg
        · exact hx

def minI (a b : Int) : Int := if b < a then b else a
/-- How many one level has at the worst; none: too many. -/
def wStep (cs n k z : Int) : Option Int :=
  if k = 3 then some n
  else if k = 2 then some (minI cs 65536)
  else if k = 1 then some (minI (minI (if 4611686018427387904 ≤ n * z then 65536 else n * z) cs) 65536)
  else if 4611686018427387904 ≤ n * z then none else some (n * z)
def wGo (cs : Int) : List (Int × Int × Int) → List Int → Int → Option (List Int)
  | s :: r, z :: q, n => (wStep cs n s.1 z).bind fun m => (wGo cs r q m).map (m :: ·)
  | _, _, _ => some []
def worstF (xs : List Int) (fs : List (Int × Int × Int)) : List Int × Int :=
  if (sizesF xs fs).2 ≠ 0 then ([], (sizesF xs fs).2) else
  match wGo (cells xs).1 fs (sizesF xs fs).1 1 with
  | none => ([], 2)
  | some l => (l, 0)
theorem wStep_range {cs n k z m : Int} (h : wStep cs n k z = some m) (hn : 0 ≤ n ∧ n < 4611686018427387904) (hc : 0 ≤ cs) (hz : 0 ≤ z) : 0 ≤ m ∧ m < 4611686018427387904 := by
  have hp : 0 ≤ n * z := Int.mul_nonneg hn.1 hz
  unfold wStep minI at h
  split at h
  · cases h; exact hn
  · split at h
    · cases h; split <;> omega
    · split at h
      · cases h
        split <;> split <;> (try split) <;> omega
      · split at h
        · cases h
        · cases h; omega
end Go.Fw
