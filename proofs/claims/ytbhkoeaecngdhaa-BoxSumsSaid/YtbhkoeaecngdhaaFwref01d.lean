import Derived.Test.YtbhkoeaecngdhaaFwref01c
namespace Go.Fw
open Go Go.RowKit Go.Proofs
set_option maxRecDepth 100000
set_option linter.unusedSimpArgs false
set_option linter.unusedVariables false

theorem mulAll_ge : ∀ (xs : List Int) (m : Int), (∀ x ∈ xs, 1 ≤ x) → 1 ≤ m → m < 4611686018427387904 → (mulAll xs m).2 = 0 → m ≤ (mulAll xs m).1 ∧ (mulAll xs m).1 < 4611686018427387904
  | [], m, _, _, h2, _ => by simp [mulAll, h2]
  | s :: r, m, hx, h1, h2, h => by
    simp only [mulAll] at h ⊢
    by_cases hc : m * s ≥ 4611686018427387904
    · rw [if_pos hc] at h; simp at h
    · rw [if_neg hc] at h ⊢
      have hs := hx s (by simp)
      have hm : m * 1 ≤ m * s := Int.mul_le_mul_of_nonneg_left hs (by omega)
      have := mulAll_ge r (m * s) (fun x h => hx x (by simp [h])) (by omega) (by omega) h
      omega

theorem atGo_lt : ∀ (xs cs : List Int) (n m : Int), (∀ x ∈ xs, 1 ≤ x) → 1 ≤ m → m < 4611686018427387904 → (mulAll xs m).2 = 0 → 0 ≤ n → n < m → cs.length = xs.length → (atGo xs cs n).2 = 0 →
    0 ≤ (atGo xs cs n).1 ∧ (atGo xs cs n).1 < (mulAll xs m).1
  | [], [], n, m, _, _, _, _, h0, h1, _, _ => by simp [atGo, mulAll, h0, h1]
  | [], c :: q, n, m, _, _, _, _, _, _, hl, _ => by simp at hl
  | s :: r, [], n, m, _, _, _, _, _, _, hl, _ => by simp at hl
  | s :: r, c :: q, n, m, hx, hm1, hm2, h, h0, h1, hl, ha => by
    simp only [mulAll] at h ⊢
    simp only [atGo] at ha ⊢
    by_cases hc : m * s ≥ 4611686018427387904
    · rw [if_pos hc] at h; simp at h
    · rw [if_neg hc] at h ⊢
      by_cases hb : c < 0 ∨ s ≤ c
      · rw [if_pos hb] at ha; simp at ha
      · rw [if_neg hb] at ha ⊢
        have hs := hx s (by simp)
        have hm : m * 1 ≤ m * s := Int.mul_le_mul_of_nonneg_left hs (by omega)
        have e1 : n * s ≤ (m - 1) * s := Int.mul_le_mul_of_nonneg_right (by omega) (by omega)
        have e2 : 0 ≤ n * s := Int.mul_nonneg h0 (by omega)
        rw [Int.sub_mul] at e1
        have w1 := wrap_i64 (n := n * s) (by omega) (by omega)
        have w2 := wrap_i64 (n := n * s + c) (by omega) (by omega)
        rw [w1, w2] at ha ⊢
        exact atGo_lt r q _ _ (fun x h => hx x (by simp [h])) (by omega) (by omega) h (by omega) (by omega) (by simpa using hl) ha
theorem atGo_zero : ∀ (xs cs : List Int) (n : Int), cs.length = xs.length → 0 ∈ xs → (atGo xs cs n).2 ≠ 0
  | [], cs, n, _, h => by simp at h
  | s :: r, [], n, hl, _ => by simp at hl
  | s :: r, c :: q, n, hl, h => by
    simp only [atGo]
    by_cases hb : c < 0 ∨ s ≤ c
    · rw [if_pos hb]; simp
    · rw [if_neg hb]
      have hs : s ≠ 0 := by omega
      rcases List.mem_cons.1 h with h | h
      · exact absurd h.symm hs
      · exact atGo_zero r q _ (by simpa using hl) h
theorem atF_lt {xs cs : List Int} (h : (cells xs).2 = 0) (ha : (atF xs cs).2 = 0) : 0 ≤ (atF xs cs).1 ∧ (atF xs cs).1 < (cells xs).1 := by
  unfold atF at *
  rw [if_neg (by simpa using h)] at *
  by_cases hl : cs.length = xs.length
  · rw [if_neg (by simpa using hl)] at *
    by_cases h0 : 0 ∈ xs
    · exact absurd ha (atGo_zero xs cs 0 hl h0)
    · unfold cells at *
      split at h
      · simp at h
      · rename_i h1
        rw [if_neg h1, if_neg h0] at *
        have hx : ∀ x ∈ xs, 1 ≤ x := by
          intro x hx
          have : ¬ (xs.any fun x => decide (x < 0)) = true := fun h => h1 (.inr h)
          simp at this
          have := this x hx
          have : x ≠ 0 := by rintro rfl; exact h0 hx
          omega
        exact atGo_lt xs cs 0 1 hx (by omega) (by omega) h (by omega) (by omega) hl ha
  · rw [if_pos hl] at ha; simp at ha

theorem check_cells {D : List Int × List Int} (h : checkF D = 0) : (cells D.1).2 = 0 ∧ (D.2.length : Int) = (cells D.1).1 := by
  unfold checkF at h
  by_cases h1 : (laidF D.1).2 = 0
  · rw [if_neg (by simpa using h1)] at h
    by_cases h2 : (D.2.length : Int) = (laidF D.1).1
    · unfold laidF at h1 h2
      by_cases h3 : (cells D.1).2 = 0 ∧ (cells D.1).1 > 65536
      · rw [if_pos h3] at h1; simp at h1
      · rw [if_neg h3] at h1 h2; exact ⟨h1, h2⟩
    · rw [if_pos h2] at h; simp at h
  · rw [if_pos h1] at h; exact absurd h h1

/-- A cell's number. -/
def getF (D : List Int × List Int) (cs : List Int) : Int × Int :=
  if checkF D ≠ 0 then (0, checkF D) else if (atF D.1 cs).2 ≠ 0 then (0, (atF D.1 cs).2) else (D.2.getD (atF D.1 cs).1.toNat 0, 0)

def bGet_11 : AC := (.seq (.ops [⟨(some 24), none, (.k (.fad 1 (.t 2)))⟩, ⟨(some 25), none, (.k (.ld 1 false (.t 24)))⟩, ⟨(some 26), none, (.k (.mov (.t 7)))⟩, ⟨(some 27), none, (.k (.iad 1 (.t 25) (.t 26)))⟩, ⟨(some 28), none, (.k (.ld 1 false (.t 27)))⟩, ⟨(some 4), none, (.k (.mov (.t 28)))⟩, ⟨(some 5), none, (.k (.mov (.c (.sc (.int .i64 0)))))⟩]) .ret)
def bGet_10 : AC := (.seq (.ops [⟨(some 23), none, (.k (.mov (.t 8)))⟩, ⟨(some 4), none, (.k (.mov (.c (.sc (.int .i64 0)))))⟩, ⟨(some 5), none, (.k (.mov (.t 23)))⟩]) .ret)
def bGet_9 : AC := (.cond (.t 22) bGet_10 .skip)
def bGet_8 : AC := (.seq (.ops [⟨(some 21), none, (.k (.mov (.t 8)))⟩, ⟨(some 22), none, (.k (.bin .neq (.t 21) (.c (.sc (.int .i64 0)))))⟩]) bGet_9)
def bGet_7 : AC := (.seq bGet_8 bGet_11)
def bGet_6 : AC := (.seq (.ops [⟨(some 15), none, (.k (.fad 0 (.t 2)))⟩, ⟨(some 16), none, (.k (.ld 1 false (.t 15)))⟩, ⟨(some 17), none, (.k (.mov (.t 1)))⟩, ⟨(some 18), none, (.call false (.c (.fn (.func 13) [] [])) [(.t 16), (.t 17)])⟩, ⟨(some 14), none, (.k (.mov (.t 18)))⟩, ⟨(some 19), none, (.k (.ext (.t 14) 0))⟩, ⟨(some 20), none, (.k (.ext (.t 14) 1))⟩, ⟨(some 7), none, (.k (.mov (.t 19)))⟩, ⟨(some 8), none, (.k (.mov (.t 20)))⟩]) bGet_7)
def bGet_5 : AC := (.seq (.ops [⟨(some 13), none, (.k (.mov (.t 6)))⟩, ⟨(some 4), none, (.k (.mov (.c (.sc (.int .i64 0)))))⟩, ⟨(some 5), none, (.k (.mov (.t 13)))⟩]) .ret)
def bGet_4 : AC := (.cond (.t 12) bGet_5 .skip)
def bGet_3 : AC := (.seq (.ops [⟨(some 11), none, (.k (.mov (.t 6)))⟩, ⟨(some 12), none, (.k (.bin .neq (.t 11) (.c (.sc (.int .i64 0)))))⟩]) bGet_4)
def bGet_2 : AC := (.seq (.ops [⟨(some 9), none, (.k (.ld 2 true (.t 2)))⟩, ⟨(some 10), none, (.call false (.c (.fn (.func 25) [] [])) [(.t 9)])⟩, ⟨(some 6), none, (.k (.mov (.t 10)))⟩]) bGet_3)
def bGet_1 : AC := (.seq bGet_2 bGet_6)
def bGet_ac : AC := (.seq (.ops [⟨(some 2), none, (.k (.new 35 2 (.t 0)))⟩, ⟨(some 4), none, (.k (.mov (.c (.sc (.int .i64 0)))))⟩, ⟨(some 5), none, (.k (.mov (.c (.sc (.int .i64 0)))))⟩]) bGet_1)
theorem bGet_call {args : List AV} {H : List AObj} {R : AV → List AObj → Prop} (h : AWp Try.prog [] H.length bGet_ac (bodyQ H.length [(.t 4), (.t 5)] R) (args ++ List.replicate (29 - args.length) .und) H) : ACalls Try.prog 22 args H R :=
  ACalls.of_fn Try.func22 rfl (by kernel_rfl) rfl Try.ntmps22 h

theorem bGet_spec {d b : AV} {D : List Int × List Int} {cs : List Int} (hd : Dn d D) (hb : ISl b cs) : ACalls Try.prog 22 [d, b] [] fun r H' => H' = [] ∧ r = .tup [I (getF D cs).1, I (getF D cs).2] := by
  have hd' := hd
  have hb' := hb
  obtain ⟨⟨nl1, c1, sz1, rfl, hs1⟩, _⟩ := hb
  obtain ⟨s, v, rfl, ha, ⟨⟨nl, c, sz, rfl, hs⟩, hlen, hx⟩⟩ := hd
  have ha' := ha
  obtain ⟨⟨nl', c', sz', rfl, hs'⟩, hlen', hx'⟩ := ha
  refine ACalls.res 1 ?_ (fun _ => rfl)
  apply bGet_call
  first | refine AWp.seq (AWp.ops ?_) | refine AWp.seq (AWp.seq (AWp.ops ?_)) | refine AWp.ops ?_ | refine AWp.seq (AWp.block (AWp.seq (AWp.ops ?_))) | refine AWp.seq (AWp.seq (AWp.seq (AWp.ops ?_)))
  simp
  first | refine AWp.seq (AWp.ops ?_) | refine AWp.seq (AWp.seq (AWp.ops ?_)) | refine AWp.ops ?_ | refine AWp.seq (AWp.block (AWp.seq (AWp.ops ?_))) | refine AWp.seq (AWp.seq (AWp.seq (AWp.ops ?_)))
  simp
  refine ((bCheck_spec hd').pure (by simp) (by rintro r rfl; simp) _).mono ?_
  rintro r H' ⟨rfl, rfl⟩
  simp
  first | refine AWp.seq (AWp.ops ?_) | refine AWp.seq (AWp.seq (AWp.ops ?_)) | refine AWp.ops ?_ | refine AWp.seq (AWp.block (AWp.seq (AWp.ops ?_))) | refine AWp.seq (AWp.seq (AWp.seq (AWp.ops ?_)))
  simp
  refine AWp.cond (b := checkF D != 0) (by simp) ?_ ?_
  · intro h
    have h : checkF D ≠ 0 := by simpa using h
    first | refine AWp.seq (AWp.ops ?_) | refine AWp.seq (AWp.seq (AWp.ops ?_)) | refine AWp.ops ?_ | refine AWp.seq (AWp.block (AWp.seq (AWp.ops ?_))) | refine AWp.seq (AWp.seq (AWp.seq (AWp.ops ?_)))
    simp
    refine AWp.ret ?_
    simp
    refine retOk.of rfl ?_
    simp [getF, h]
  intro h
  have h : checkF D = 0 := by simpa using h
  obtain ⟨hc, hv⟩ := check_cells h
  refine AWp.skip ?_
  simp only [qSeq]
  first | refine AWp.seq (AWp.ops ?_) | refine AWp.seq (AWp.seq (AWp.ops ?_)) | refine AWp.ops ?_ | refine AWp.seq (AWp.block (AWp.seq (AWp.ops ?_))) | refine AWp.seq (AWp.seq (AWp.seq (AWp.ops ?_)))
  simp
  refine ((At_spec ha' hb').pure (by simp) (by rintro r rfl; simp) _).mono ?_
  rintro r H' ⟨rfl, rfl⟩
  simp
  first | refine AWp.seq (AWp.ops ?_) | refine AWp.seq (AWp.seq (AWp.ops ?_)) | refine AWp.ops ?_ | refine AWp.seq (AWp.block (AWp.seq (AWp.ops ?_))) | refine AWp.seq (AWp.seq (AWp.seq (AWp.ops ?_)))
  simp
  refine AWp.cond (b := (atF D.1 cs).2 != 0) (by simp) ?_ ?_
  · intro h2
    have h2 : (atF D.1 cs).2 ≠ 0 := by simpa using h2
    first | refine AWp.seq (AWp.ops ?_) | refine AWp.seq (AWp.seq (AWp.ops ?_)) | refine AWp.ops ?_ | refine AWp.seq (AWp.block (AWp.seq (AWp.ops ?_))) | refine AWp.seq (AWp.seq (AWp.seq (AWp.ops ?_)))
    simp
    refine AWp.ret ?_
    simp
    refine retOk.of rfl ?_
    simp [getF, h, h2]
  intro h2
  have h2 : (atF D.1 cs).2 = 0 := by simpa using h2
  obtain ⟨h3, h4⟩ := atF_lt hc h2
  have hi : (atF D.1 cs).1.toNat < D.2.length := by omega
  have hsz := sz_of hs hi
  subst hsz
  refine AWp.skip ?_
  simp only [qSeq]
  first | refine AWp.seq (AWp.ops ?_) | refine AWp.seq (AWp.seq (AWp.ops ?_)) | refine AWp.ops ?_ | refine AWp.seq (AWp.block (AWp.seq (AWp.ops ?_))) | refine AWp.seq (AWp.seq (AWp.seq (AWp.ops ?_)))
  simp [hi, h3]
  refine AWp.ret ?_
  simp
  refine retOk.of rfl ?_
  simp [getF, h, h2, hi]

def rGet_11 : AC := (.seq (.ops [⟨(some 24), none, (.k (.fad 1 (.t 2)))⟩, ⟨(some 25), none, (.k (.ld 1 false (.t 24)))⟩, ⟨(some 26), none, (.k (.mov (.t 7)))⟩, ⟨(some 27), none, (.k (.iad 1 (.t 25) (.t 26)))⟩, ⟨(some 28), none, (.k (.ld 1 false (.t 27)))⟩, ⟨(some 4), none, (.k (.mov (.t 28)))⟩, ⟨(some 5), none, (.k (.mov (.c (.sc (.int .i64 0)))))⟩]) .ret)
def rGet_10 : AC := (.seq (.ops [⟨(some 23), none, (.k (.mov (.t 8)))⟩, ⟨(some 4), none, (.k (.mov (.c (.sc (.int .i64 0)))))⟩, ⟨(some 5), none, (.k (.mov (.t 23)))⟩]) .ret)
def rGet_9 : AC := (.cond (.t 22) rGet_10 .skip)
def rGet_8 : AC := (.seq (.ops [⟨(some 21), none, (.k (.mov (.t 8)))⟩, ⟨(some 22), none, (.k (.bin .neq (.t 21) (.c (.sc (.int .i64 0)))))⟩]) rGet_9)
def rGet_7 : AC := (.seq rGet_8 rGet_11)
def rGet_6 : AC := (.seq (.ops [⟨(some 15), none, (.k (.fad 0 (.t 2)))⟩, ⟨(some 16), none, (.k (.ld 1 false (.t 15)))⟩, ⟨(some 17), none, (.k (.mov (.t 1)))⟩, ⟨(some 18), none, (.call false (.c (.fn (.func 15) [] [])) [(.t 16), (.t 17)])⟩, ⟨(some 14), none, (.k (.mov (.t 18)))⟩, ⟨(some 19), none, (.k (.ext (.t 14) 0))⟩, ⟨(some 20), none, (.k (.ext (.t 14) 1))⟩, ⟨(some 7), none, (.k (.mov (.t 19)))⟩, ⟨(some 8), none, (.k (.mov (.t 20)))⟩]) rGet_7)
def rGet_5 : AC := (.seq (.ops [⟨(some 13), none, (.k (.mov (.t 6)))⟩, ⟨(some 4), none, (.k (.mov (.c (.sc (.int .i64 0)))))⟩, ⟨(some 5), none, (.k (.mov (.t 13)))⟩]) .ret)
def rGet_4 : AC := (.cond (.t 12) rGet_5 .skip)
def rGet_3 : AC := (.seq (.ops [⟨(some 11), none, (.k (.mov (.t 6)))⟩, ⟨(some 12), none, (.k (.bin .neq (.t 11) (.c (.sc (.int .i64 0)))))⟩]) rGet_4)
def rGet_2 : AC := (.seq (.ops [⟨(some 9), none, (.k (.ld 2 true (.t 2)))⟩, ⟨(some 10), none, (.call false (.c (.fn (.func 26) [] [])) [(.t 9)])⟩, ⟨(some 6), none, (.k (.mov (.t 10)))⟩]) rGet_3)
def rGet_1 : AC := (.seq rGet_2 rGet_6)
def rGet_ac : AC := (.seq (.ops [⟨(some 2), none, (.k (.new 35 2 (.t 0)))⟩, ⟨(some 4), none, (.k (.mov (.c (.sc (.int .i64 0)))))⟩, ⟨(some 5), none, (.k (.mov (.c (.sc (.int .i64 0)))))⟩]) rGet_1)
theorem rGet_call {args : List AV} {H : List AObj} {R : AV → List AObj → Prop} (h : AWp Try.prog [] H.length rGet_ac (bodyQ H.length [(.t 4), (.t 5)] R) (args ++ List.replicate (29 - args.length) .und) H) : ACalls Try.prog 23 args H R :=
  ACalls.of_fn Try.func23 rfl (by kernel_rfl) rfl Try.ntmps23 h

theorem rGet_spec {d b : AV} {D : List Int × List Int} {cs : List Int} (hd : Dn d D) (hb : ISl b cs) : ACalls Try.prog 23 [d, b] [] fun r H' => H' = [] ∧ r = .tup [I (getF D cs).1, I (getF D cs).2] := by
  have hd' := hd
  have hb' := hb
  obtain ⟨⟨nl1, c1, sz1, rfl, hs1⟩, _⟩ := hb
  obtain ⟨s, v, rfl, ha, ⟨⟨nl, c, sz, rfl, hs⟩, hlen, hx⟩⟩ := hd
  have ha' := ha
  obtain ⟨⟨nl', c', sz', rfl, hs'⟩, hlen', hx'⟩ := ha
  refine ACalls.res 1 ?_ (fun _ => rfl)
  apply rGet_call
  first | refine AWp.seq (AWp.ops ?_) | refine AWp.seq (AWp.seq (AWp.ops ?_)) | refine AWp.ops ?_ | refine AWp.seq (AWp.block (AWp.seq (AWp.ops ?_))) | refine AWp.seq (AWp.seq (AWp.seq (AWp.ops ?_)))
  simp
  first | refine AWp.seq (AWp.ops ?_) | refine AWp.seq (AWp.seq (AWp.ops ?_)) | refine AWp.ops ?_ | refine AWp.seq (AWp.block (AWp.seq (AWp.ops ?_))) | refine AWp.seq (AWp.seq (AWp.seq (AWp.ops ?_)))
  simp
  refine ((rCheck_spec hd').pure (by simp) (by rintro r rfl; simp) _).mono ?_
  rintro r H' ⟨rfl, rfl⟩
  simp
  first | refine AWp.seq (AWp.ops ?_) | refine AWp.seq (AWp.seq (AWp.ops ?_)) | refine AWp.ops ?_ | refine AWp.seq (AWp.block (AWp.seq (AWp.ops ?_))) | refine AWp.seq (AWp.seq (AWp.seq (AWp.ops ?_)))
  simp
  refine AWp.cond (b := checkF D != 0) (by simp) ?_ ?_
  · intro h
    have h : checkF D ≠ 0 := by simpa using h
    first | refine AWp.seq (AWp.ops ?_) | refine AWp.seq (AWp.seq (AWp.ops ?_)) | refine AWp.ops ?_ | refine AWp.seq (AWp.block (AWp.seq (AWp.ops ?_))) | refine AWp.seq (AWp.seq (AWp.seq (AWp.ops ?_)))
    simp
    refine AWp.ret ?_
    simp
    refine retOk.of rfl ?_
    simp [getF, h]
  intro h
  have h : checkF D = 0 := by simpa using h
  obtain ⟨hc, hv⟩ := check_cells h
  refine AWp.skip ?_
  simp only [qSeq]
  first | refine AWp.seq (AWp.ops ?_) | refine AWp.seq (AWp.seq (AWp.ops ?_)) | refine AWp.ops ?_ | refine AWp.seq (AWp.block (AWp.seq (AWp.ops ?_))) | refine AWp.seq (AWp.seq (AWp.seq (AWp.ops ?_)))
  simp
  refine ((rAt_spec ha' hb').pure (by simp) (by rintro r rfl; simp) _).mono ?_
  rintro r H' ⟨rfl, rfl⟩
  simp
  first | refine AWp.seq (AWp.ops ?_) | refine AWp.seq (AWp.seq (AWp.ops ?_)) | refine AWp.ops ?_ | refine AWp.seq (AWp.block (AWp.seq (AWp.ops ?_))) | refine AWp.seq (AWp.seq (AWp.seq (AWp.ops ?_)))
  simp
  refine AWp.cond (b := (atF D.1 cs).2 != 0) (by simp) ?_ ?_
  · intro h2
    have h2 : (atF D.1 cs).2 ≠ 0 := by simpa using h2
    first | refine AWp.seq (AWp.ops ?_) | refine AWp.seq (AWp.seq (AWp.ops ?_)) | refine AWp.ops ?_ | refine AWp.seq (AWp.block (AWp.seq (AWp.ops ?_))) | refine AWp.seq (AWp.seq (AWp.seq (AWp.ops ?_)))
    simp
    refine AWp.ret ?_
    simp
    refine retOk.of rfl ?_
    simp [getF, h, h2]
  intro h2
  have h2 : (atF D.1 cs).2 = 0 := by simpa using h2
  obtain ⟨h3, h4⟩ := atF_lt hc h2
  have hi : (atF D.1 cs).1.toNat < D.2.length := by omega
  have hsz := sz_of hs hi
  subst hsz
  refine AWp.skip ?_
  simp only [qSeq]
  first | refine AWp.seq (AWp.ops ?_) | refine AWp.seq (AWp.seq (AWp.ops ?_)) | refine AWp.ops ?_ | refine AWp.seq (AWp.block (AWp.seq (AWp.ops ?_))) | refine AWp.seq (AWp.seq (AWp.seq (AWp.ops ?_)))
  simp [hi, h3]
  refine AWp.ret ?_
  simp
  refine retOk.of rfl ?_
  simp [getF, h, h2, hi]

def rZero_10 : AC := (.seq (.par [[⟨(some 18), none, (.k (.mov (.t 0)))⟩, ⟨(some 20), none, (.k (.mov (.t 4)))⟩, ⟨(some 19), none, (.k (.app 3 1 8 (.c (.imm true none 0 [])) (.t 18)))⟩, ⟨(some 21), none, (.k (.mkS 2 1 8 (.sc (.int .i64 0)) (.t 20) (.t 20)))⟩, ⟨(some 22), none, (.k (.mk [(.imm true none 0 []), (.imm true none 0 [])] [(0, (1, (.t 19))), (1, (1, (.t 21)))]))⟩, ⟨none, none, (.k (.st 2 (.t 2) (.t 22)))⟩, ⟨(some 3), none, (.k (.mov (.c (.sc (.int .i64 0)))))⟩], [⟨(some 18), none, (.k (.mov (.t 0)))⟩, ⟨(some 20), none, (.k (.mov (.t 4)))⟩, ⟨(some 21), none, (.k (.mkS 2 1 8 (.sc (.int .i64 0)) (.t 20) (.t 20)))⟩, ⟨(some 19), none, (.k (.app 3 1 8 (.c (.imm true none 0 [])) (.t 18)))⟩, ⟨(some 22), none, (.k (.mk [(.imm true none 0 []), (.imm true none 0 [])] [(0, (1, (.t 19))), (1, (1, (.t 21)))]))⟩, ⟨none, none, (.k (.st 2 (.t 2) (.t 22)))⟩, ⟨(some 3), none, (.k (.mov (.c (.sc (.int .i64 0)))))⟩]]) .ret)
def rZero_9 : AC := (.seq (.ops [⟨(some 17), none, (.k (.mk [(.imm true none 0 []), (.imm true none 0 [])] []))⟩, ⟨none, none, (.k (.st 2 (.t 2) (.t 17)))⟩, ⟨(some 3), none, (.k (.mov (.c (.sc (.int .i64 2)))))⟩]) .ret)
def rZero_8 : AC := (.cond (.t 16) rZero_9 .skip)
def rZero_7 : AC := (.seq (.ops [⟨(some 15), none, (.k (.mov (.t 4)))⟩, ⟨(some 16), none, (.k (.bin .gtr (.t 15) (.c (.sc (.int .i64 65536)))))⟩]) rZero_8)
def rZero_6 : AC := (.seq rZero_7 rZero_10)
def rZero_5 : AC := (.seq (.ops [⟨(some 13), none, (.k (.mk [(.imm true none 0 []), (.imm true none 0 [])] []))⟩, ⟨(some 14), none, (.k (.mov (.t 5)))⟩, ⟨none, none, (.k (.st 2 (.t 2) (.t 13)))⟩, ⟨(some 3), none, (.k (.mov (.t 14)))⟩]) .ret)
def rZero_4 : AC := (.cond (.t 12) rZero_5 .skip)
def rZero_3 : AC := (.seq (.ops [⟨(some 11), none, (.k (.mov (.t 5)))⟩, ⟨(some 12), none, (.k (.bin .neq (.t 11) (.c (.sc (.int .i64 0)))))⟩]) rZero_4)
def rZero_2 : AC := (.seq rZero_3 rZero_6)
def rZero_1 : AC := (.seq (.ops [⟨(some 7), none, (.k (.mov (.t 0)))⟩, ⟨(some 8), none, (.call false (.c (.fn (.func 14) [] [])) [(.t 7)])⟩, ⟨(some 6), none, (.k (.mov (.t 8)))⟩, ⟨(some 9), none, (.k (.ext (.t 6) 0))⟩, ⟨(some 10), none, (.k (.ext (.t 6) 1))⟩, ⟨(some 4), none, (.k (.mov (.t 9)))⟩, ⟨(some 5), none, (.k (.mov (.t 10)))⟩]) rZero_2)
def rZero_ac : AC := (.seq (.ops [⟨(some 2), none, (.k (.new 35 2 (.c (.agg [(.imm true none 0 []), (.imm true none 0 [])]))))⟩, ⟨(some 3), none, (.k (.mov (.c (.sc (.int .i64 0)))))⟩]) rZero_1)
theorem rZero_call {args : List AV} {H : List AObj} {R : AV → List AObj → Prop} (h : AWp Try.prog [] H.length rZero_ac (bodyQ H.length [(.cell 2 2 true), (.t 3)] R) (args ++ List.replicate (23 - args.length) .und) H) : ACalls Try.prog 21 args H R :=
  ACalls.of_fn Try.func21 rfl (by kernel_rfl) rfl Try.ntmps21 h

theorem rZero_spec {a : AV} {xs : List Int} (ha : ISl a xs) : ACalls Try.prog 21 [a] [] fun r G => zeroR xs r G := by
  have ha' := ha
  obtain ⟨⟨nl, c, sz, rfl, hs⟩, hlen, hx⟩ := ha
  apply rZero_call
  first | refine AWp.seq (AWp.ops ?_) | refine AWp.seq (AWp.seq (AWp.ops ?_)) | refine AWp.ops ?_ | refine AWp.seq (AWp.block (AWp.seq (AWp.ops ?_))) | refine AWp.seq (AWp.seq (AWp.seq (AWp.ops ?_)))
  simp
  first | refine AWp.seq (AWp.ops ?_) | refine AWp.seq (AWp.seq (AWp.ops ?_)) | refine AWp.ops ?_ | refine AWp.seq (AWp.block (AWp.seq (AWp.ops ?_))) | refine AWp.seq (AWp.seq (AWp.seq (AWp.ops ?_)))
  simp
  refine ((rCells_spec ha').pure (by simp) (by rintro r rfl; simp) _).mono ?_
  rintro r H' ⟨rfl, rfl⟩
  simp
  first | refine AWp.seq (AWp.ops ?_) | refine AWp.seq (AWp.seq (AWp.ops ?_)) | refine AWp.ops ?_ | refine AWp.seq (AWp.block (AWp.seq (AWp.ops ?_))) | refine AWp.seq (AWp.seq (AWp.seq (AWp.ops ?_)))
  simp
  refine AWp.cond (b := (cells xs).2 != 0) (by simp) ?_ ?_
  · intro h
    have h : (cells xs).2 ≠ 0 := by simpa using h
    first | refine AWp.seq (AWp.ops ?_) | refine AWp.seq (AWp.seq (AWp.ops ?_)) | refine AWp.ops ?_ | refine AWp.seq (AWp.block (AWp.seq (AWp.ops ?_))) | refine AWp.seq (AWp.seq (AWp.seq (AWp.ops ?_)))
    simp
    refine AWp.ret ?_
    simp
    refine retOk.of rfl ⟨(cells xs).2, .inl ⟨h, ?_, by simp⟩⟩
    have e : laidF xs = cells xs := by simp [laidF, h]
    rw [e, ← cells_err h]
  intro h
  have h : (cells xs).2 = 0 := by simpa using h
  refine AWp.skip ?_
  simp only [qSeq]
  first | refine AWp.seq (AWp.ops ?_) | refine AWp.seq (AWp.seq (AWp.ops ?_)) | refine AWp.ops ?_ | refine AWp.seq (AWp.block (AWp.seq (AWp.ops ?_))) | refine AWp.seq (AWp.seq (AWp.seq (AWp.ops ?_)))
  simp
  refine AWp.cond (b := decide (65536 < (cells xs).1)) (by simp) ?_ ?_
  · intro h1
    have h1 : 65536 < (cells xs).1 := by simpa using h1
    first | refine AWp.seq (AWp.ops ?_) | refine AWp.seq (AWp.seq (AWp.ops ?_)) | refine AWp.ops ?_ | refine AWp.seq (AWp.block (AWp.seq (AWp.ops ?_))) | refine AWp.seq (AWp.seq (AWp.seq (AWp.ops ?_)))
    simp
    refine AWp.ret ?_
    simp
    refine retOk.of rfl ⟨2, .inl ⟨by omega, ?_, by simp⟩⟩
    simp [laidF, h, h1]
  intro h1
  have h1 : ¬ 65536 < (cells xs).1 := by simpa using h1
  have hlf : laidF xs = cells xs := by simp [laidF, h1]
  have h' : (laidF xs).2 = 0 := by rw [hlf]; exact h
  obtain ⟨hxl, n, hn, hn'⟩ := laid_ok h'
  have hnc : (cells xs).1 = n := by rw [← hlf]; exact hn
  refine AWp.skip ?_
  simp only [qSeq]
  refine AWp.seq (AWp.par ?_)
  have b1 : (n : Int) * 8 ≤ 281474976710656 := by omega
  have b2 : (n : Int) ≤ 9223372036854775807 := by omega
  have b3 : xs.length * 8 ≤ 140737488355328 := by omega
  have b4 : xs.length ≤ 9223372036854775807 := by omega
  simp [hnc, elems_of _ hs]
  by_cases hx0 : xs = []
  · subst hx0
    simp [b1, b2]
    refine AWp.ret ?_
    simp
    refine retOk.of rfl ⟨0, .inr ⟨rfl, h', _, 1, n, hn, by simp; rfl, by simp, .inl ⟨rfl, true, none, 0, by simp, by simp⟩⟩⟩
  · simp [hx0, b1, b2, b3, b4]
    refine ⟨?_, ?_⟩
    ·
      refine AWp.ret ?_
      simp
      refine retOk.of rfl ⟨0, .inr ⟨rfl, h', _, 2, n, hn, by simp, by simp, .inr ⟨1, by omega, rfl, by simp⟩⟩⟩
    ·
      refine AWp.ret ?_
      simp
      refine retOk.of rfl ⟨0, .inr ⟨rfl, h', _, 1, n, hn, by simp, by simp, .inr ⟨2, by omega, rfl, by simp⟩⟩⟩

theorem rZero_pure {a : AV} {xs : List Int} (ha : ISl a xs) : ACalls Try.prog 21 [a] [] fun r H' => H' = [] ∧ ∃ d, r = .tup [d, I (zeroF xs).2] ∧ Dn d (zeroF xs).1 := by
  refine ((rZero_spec ha).frozen 8).mono ?_
  rintro q H' ⟨rfl, r, G, ⟨e, ⟨h1, h2, rfl⟩ | ⟨rfl, h2, s, j, n, hn, rfl, hj, hs⟩⟩, rfl⟩
  · refine ⟨rfl, _, by simp [zeroF, h2, h1]; rfl, ?_⟩
    simp only [zeroF, h2]
    rw [if_pos h1]
    exact ⟨_, _, rfl, ISl.nil, ISl.nil⟩
  · obtain ⟨hl, n', hn', hb⟩ := laid_ok h2
    have hnn : n' = n := by omega
    subst hnn
    refine ⟨rfl, _, by simp [zeroF, h2]; rfl, ?_⟩
    have ez : (zeroF xs).1 = (xs, List.replicate n' 0) := by simp [zeroF, h2, hn]
    rw [ez]
    refine ⟨_, _, rfl, ?_, ?_⟩
    · rcases hs with ⟨h0, nl, c, sz, rfl, hs⟩ | ⟨k, hk, rfl, hG⟩
      · exact ⟨⟨nl, c, sz, by simp [h0], ⟨fun _ => h0, hs⟩⟩, ha.2⟩
      · refine ⟨⟨false, none, 1, ?_, by simp, by simp⟩, ha.2⟩
        simp [hG]
    · refine ⟨⟨false, none, 1, ?_, by simp, by simp⟩, by simp; omega, ?_⟩
      · simp [hj]
      · intro x hx
        simp at hx
        omega
end Go.Fw
