import Derived.Test.YthipbeffhfdamaaFwref05f
namespace Go.Fw
open Go Go.RowKit Go.Proofs
set_option maxRecDepth 100000
set_option linter.unusedSimpArgs false
set_option linter.unusedVariables false

def rForm_15 : AC := (.seq (.ops [⟨(some 29), none, (.k (.mov (.t 8)))⟩, ⟨(some 30), none, (.k (.bin .gtr (.t 29) (.c (.sc (.int .i64 2147483648)))))⟩]) (.cond (.t 30) (.seq (.ops [⟨(some 4), none, (.k (.mov (.c (.sc (.int .i64 2)))))⟩]) .ret) .skip))
def rForm_14 : AC := (.seq (.ops [⟨(some 27), none, (.k (.iad 1 (.t 23) (.t 25)))⟩, ⟨(some 28), none, (.k (.ld 1 false (.t 27)))⟩, ⟨(some 8), none, (.k (.mov (.t 28)))⟩]) rForm_15)
def rForm_13 : AC := (.block 1 rForm_14)
def rForm_12 : AC := (.seq rForm_13 (.ops [⟨(some 31), none, (.k (.bin .add (.t 25) (.c (.sc (.int .i64 1)))))⟩, ⟨(some 25), none, (.k (.mov (.t 31)))⟩]))
def rForm_11 : AC := (.seq (.cond (.t 26) .skip (.exit 0)) rForm_12)
def rForm_10 : AC := (.seq (.ops [⟨(some 26), none, (.k (.bin .lss (.t 25) (.t 24)))⟩]) rForm_11)
def rForm_9 : AC := (.loop rForm_10)
def rForm_8 : AC := (.block 0 rForm_9)
def rForm_7 : AC := (.seq (.ops [⟨(some 21), none, (.k (.mov (.t 0)))⟩, ⟨(some 22), none, (.k (.mov (.t 1)))⟩, ⟨(some 23), none, (.call false (.c (.fn (.func 41) [] [])) [(.t 21), (.t 22)])⟩, ⟨(some 24), none, (.k (.len (.t 23)))⟩, ⟨(some 25), none, (.k (.mov (.c (.sc (.int .i64 0)))))⟩]) rForm_8)
def rForm_6 : AC := (.seq rForm_7 (.seq (.ops [⟨(some 4), none, (.k (.mov (.c (.sc (.int .i64 0)))))⟩]) .ret))
def rForm_5 : AC := (.seq (.ops [⟨(some 17), none, (.k (.mov (.t 0)))⟩, ⟨(some 18), none, (.k (.mov (.t 1)))⟩, ⟨(some 19), none, (.call false (.c (.fn (.func 43) [] [])) [(.t 17), (.t 18)])⟩, ⟨(some 20), none, (.k (.un .not (.t 19)))⟩]) (.cond (.t 20) (.seq (.ops [⟨(some 4), none, (.k (.mov (.c (.sc (.int .i64 4)))))⟩]) .ret) .skip))
def rForm_4 : AC := (.seq rForm_5 rForm_6)
def rForm_3 : AC := (.seq (.ops [⟨(some 14), none, (.k (.mov (.t 6)))⟩, ⟨(some 15), none, (.k (.bin .neq (.t 14) (.c (.sc (.int .i64 0)))))⟩]) (.cond (.t 15) (.seq (.ops [⟨(some 16), none, (.k (.mov (.t 6)))⟩, ⟨(some 4), none, (.k (.mov (.t 16)))⟩]) .ret) .skip))
def rForm_2 : AC := (.seq (.ops [⟨(some 10), none, (.k (.mov (.t 0)))⟩, ⟨(some 11), none, (.call false (.c (.fn (.func 42) [] [])) [(.t 10)])⟩, ⟨(some 9), none, (.k (.mov (.t 11)))⟩, ⟨(some 12), none, (.k (.ext (.t 9) 0))⟩, ⟨(some 13), none, (.k (.ext (.t 9) 1))⟩, ⟨(some 5), none, (.k (.mov (.t 12)))⟩, ⟨(some 6), none, (.k (.mov (.t 13)))⟩]) rForm_3)
def rForm_1 : AC := (.seq rForm_2 rForm_4)
def rForm_ac : AC := (.seq (.ops [⟨(some 4), none, (.k (.mov (.c (.sc (.int .i64 0)))))⟩]) rForm_1)
theorem rForm_call {args : List AV} {H : List AObj} {R : AV → List AObj → Prop} (h : AWp Try.prog [] H.length rForm_ac (bodyQ H.length [(.t 4)] R) (args ++ List.replicate (32 - args.length) .und) H) : ACalls Try.prog 17 args H R :=
  ACalls.of_fn Try.func17 rfl (by kernel_rfl) rfl Try.ntmps17 h

set_option maxHeartbeats 4000000 in
theorem rForm_spec {a b : AV} {xs : List Int} {fs : List (Int × Int × Int)} (ha : ISl a xs) (hb : Sp b fs) (hf : fs.length ≤ 1000) (hxl : xs.length ≤ 1000) : ACalls Try.prog 17 [a, b] [] fun r H' => H' = [] ∧ r = I (sizesF xs fs).2 := by
  have ha' := ha
  have hb' := hb
  obtain ⟨⟨nl, c, sz, rfl, hs⟩, hlen, hx⟩ := ha
  obtain ⟨⟨nl', c', sz', rfl, hs'⟩, hlen', hx'⟩ := hb
  apply rForm_call
  repeat first | refine AWp.seq ?_ | refine AWp.block ?_
  refine AWp.ops ?_
  simp
  repeat first | refine AWp.seq ?_ | refine AWp.block ?_
  refine AWp.ops ?_
  simp
  refine (rCells_spec ha').mono ?_
  rintro r H' ⟨rfl, rfl⟩
  simp
  repeat first | refine AWp.seq ?_ | refine AWp.block ?_
  refine AWp.ops ?_
  simp
  refine AWp.cond (b := (cells xs).2 != 0) (by simp) ?_ ?_
  · intro h
    have h : (cells xs).2 ≠ 0 := by simpa using h
    repeat first | refine AWp.seq ?_ | refine AWp.block ?_
    refine AWp.ops ?_
    simp
    refine AWp.ret ?_
    simp
    refine retOk.of rfl ⟨rfl, ?_⟩
    simp [sizesF, h]
  intro h
  have hc : (cells xs).2 = 0 := by simpa using h
  obtain ⟨hxn, hx4⟩ := cells_nonneg' hc
  refine AWp.skip ?_
  simp only [qSeq]
  repeat first | refine AWp.seq ?_ | refine AWp.block ?_
  refine AWp.ops ?_
  simp
  refine (rIs_spec ha' hb' hf hxl).mono ?_
  rintro r H' ⟨rfl, rfl⟩
  rw [isF_read hx4]
  simp
  cases hr : readF xs fs with
  | none =>
    refine AWp.cond (b := true) (by simp) (fun _ => ?_) (fun h => by cases h)
    repeat first | refine AWp.seq ?_ | refine AWp.block ?_
    refine AWp.ops ?_
    simp
    refine AWp.ret ?_
    simp
    refine retOk.of rfl ⟨rfl, ?_⟩
    simp [sizesF, hc, hr]
  | some M =>
    refine AWp.cond (b := false) (by simp) (fun h => by cases h) (fun _ => ?_)
    refine AWp.skip ?_
    simp only [qSeq]
    obtain ⟨hmodes, hblk⟩ := readF_ok hr
    have hblk := hblk fun s hs => (hx' s hs).2.2.2
    have hbl : ∀ s ∈ fs, 0 ≤ blockF fs s.2.1 ∧ blockF fs s.2.1 ≤ 9223372036854775807 := by
      intro s hsm
      obtain ⟨⟨m0, m1⟩, _⟩ := hmodes s hsm
      have hg : readGo xs fs (List.replicate 4 (false, 0)) 0 = some M := by
        unfold readF at hr
        rw [Option.bind_eq_some_iff] at hr
        obtain ⟨M1, h1, h2⟩ := hr
        split at h2
        · cases h2; exact h1
        · cases h2
      obtain ⟨b1, _, _⟩ := readGo_blk fs (by simpa using hx4) hg s.2.1.toNat (by omega)
      have e0 : ((List.replicate 4 ((false, 0) : Bool × Int)).getD s.2.1.toNat (false, 0)).2 = 0 := by
        rw [List.getD, List.getElem?_replicate]
        split <;> rfl
      rw [if_neg (by simpa using e0)] at b1
      have e1 : ((s.2.1.toNat : Nat) : Int) = s.2.1 := by omega
      rw [e1] at b1
      rw [← b1, List.getD]
      cases hgm : M[s.2.1.toNat]? with
      | none => simp
      | some p => exact hblk p (List.mem_of_getElem? hgm)
    have hls := lvl_same hx4 hr
    repeat first | refine AWp.seq ?_ | refine AWp.block ?_
    refine AWp.ops ?_
    simp
    refine (rsizes_spec ha' hb' hf hxn (fun s hs => (hmodes s hs).1) hbl).mono ?_
    rintro r H' ⟨rfl, hl⟩
    rw [← hls] at hl
    obtain ⟨L, hL⟩ : ∃ L, L = fs.map (lvlOf xs M) := ⟨_, rfl⟩
    rw [← hL] at hl
    obtain ⟨⟨nl2, c2, z2, rfl, hz2⟩, hlr⟩ := hl
    have hsz : ∀ {any : Bool}, (L.any fun v => decide (2147483648 < v)) = any → sizesF xs fs = if any = true then ([], 2) else (L, 0) := by
      rintro _ rfl
      simp only [sizesF, hc, ne_eq, not_true_eq_false, if_false, hr, ← hL]
    simp
    obtain ⟨J, hJ⟩ : ∃ J : Nat → List AV → List AObj → Prop, J = fun i fr H => i ≤ L.length ∧ ((L.take i).any (fun v => decide (2147483648 < v)) = false) ∧ H = [] ∧
      fr = [.und, .und, .und, .und, .und, .und, .und, .und, .und, .und, .und, .und, .und, .und, .und, .und, .und, .und, .und, .und, .und, .und, .und, .imm nl2 c2 z2 (L.map I), I L.length, I i, .und, .und, .und, .und, .und, .und] := ⟨_, rfl⟩
    refine AWp.block (AWp.loop J (fun i => L.length - i) 0 (Weak.slots [23, 24, 25]) (by rw [hJ]; exact ⟨by omega, by simp, by simp, by simp⟩) ?_)
    intro i fr H hI
    rw [hJ] at hI
    obtain ⟨hi, hinv, rfl, rfl⟩ := hI
    repeat first | refine AWp.seq ?_ | refine AWp.block ?_
    refine AWp.ops ?_
    simp
    refine AWp.seq (AWp.cond (b := decide (i < L.length)) (by simp <;> omega) ?_ ?_)
    ·
      intro hb
      have hb : i < L.length := by simpa using hb
      refine AWp.skip ?_
      simp only [qSeq]
      have hsz2 := sz_of hz2 hb
      subst hsz2
      have hst : (L.take (i + 1)).any (fun v => decide (2147483648 < v)) = decide (2147483648 < L[i]) := by
        rw [List.take_succ_eq_append_getElem hb, List.any_append, hinv]; simp
      repeat first | refine AWp.seq ?_ | refine AWp.block ?_
      refine AWp.ops ?_
      simp [hb]
      repeat first | refine AWp.seq ?_ | refine AWp.block ?_
      refine AWp.ops ?_
      simp
      refine AWp.cond (b := decide (2147483648 < L[i])) (by simp) ?_ ?_
      · intro h
        repeat first | refine AWp.seq ?_ | refine AWp.block ?_
        refine AWp.ops ?_
        simp
        refine AWp.ret ?_
        simp
        refine retOk.of rfl ⟨rfl, ?_⟩
        have hany : (L.any fun v => decide (2147483648 < v)) = true := List.any_eq_true.2 ⟨L[i], List.getElem_mem hb, h⟩
        rw [hsz hany]
        simp
      · intro h
        refine AWp.skip ?_
        simp only [qSeq, qBlock]
        repeat first | refine AWp.seq ?_ | refine AWp.block ?_
        refine AWp.ops ?_
        simp
        refine ⟨i + 1, _, _, Weak.slots [23, 24, 25], ?_, by omega⟩
        rw [hJ]
        refine ⟨by omega, ?_, by simp, by simp [wrap_i64 (n := (i : Int) + 1) (by omega) (by omega)]⟩
        rw [hst, h]
    ·
      intro hb
      have hb : ¬ i < L.length := by simpa using hb
      refine AWp.exit ?_
      simp [qSeq, qBlock]
      have e : L.take i = L := List.take_of_length_le (by omega)
      rw [e] at hinv
      repeat first | refine AWp.seq ?_ | refine AWp.block ?_
      refine AWp.ops ?_
      simp
      refine AWp.ret ?_
      simp
      refine retOk.of rfl ⟨rfl, ?_⟩
      rw [hsz hinv]
      simp

def rSizes_6 : AC := (.seq (.ops [⟨(some 13), none, (.k (.mov (.t 0)))⟩, ⟨(some 14), none, (.k (.mov (.t 1)))⟩, ⟨(some 15), none, (.call false (.c (.fn (.func 41) [] [])) [(.t 13), (.t 14)])⟩, ⟨(some 4), none, (.k (.mov (.t 15)))⟩, ⟨(some 5), none, (.k (.mov (.c (.sc (.int .i64 0)))))⟩]) .ret)
def rSizes_5 : AC := (.seq (.ops [⟨(some 12), none, (.k (.mov (.t 6)))⟩, ⟨(some 4), none, (.k (.mov (.c (.imm true none 0 []))))⟩, ⟨(some 5), none, (.k (.mov (.t 12)))⟩]) .ret)
def rSizes_4 : AC := (.cond (.t 11) rSizes_5 .skip)
def rSizes_3 : AC := (.seq (.ops [⟨(some 10), none, (.k (.mov (.t 6)))⟩, ⟨(some 11), none, (.k (.bin .neq (.t 10) (.c (.sc (.int .i64 0)))))⟩]) rSizes_4)
def rSizes_2 : AC := (.seq (.ops [⟨(some 7), none, (.k (.mov (.t 0)))⟩, ⟨(some 8), none, (.k (.mov (.t 1)))⟩, ⟨(some 9), none, (.call false (.c (.fn (.func 17) [] [])) [(.t 7), (.t 8)])⟩, ⟨(some 6), none, (.k (.mov (.t 9)))⟩]) rSizes_3)
def rSizes_1 : AC := (.seq rSizes_2 rSizes_6)
def rSizes_ac : AC := (.seq (.ops [⟨(some 4), none, (.k (.mov (.c (.imm true none 0 []))))⟩, ⟨(some 5), none, (.k (.mov (.c (.sc (.int .i64 0)))))⟩]) rSizes_1)
theorem rSizes_call {args : List AV} {H : List AObj} {R : AV → List AObj → Prop} (h : AWp Try.prog [] H.length rSizes_ac (bodyQ H.length [(.t 4), (.t 5)] R) (args ++ List.replicate (16 - args.length) .und) H) : ACalls Try.prog 14 args H R :=
  ACalls.of_fn Try.func14 rfl (by kernel_rfl) rfl Try.ntmps14 h

theorem rSizes_spec {a b : AV} {xs : List Int} {fs : List (Int × Int × Int)} (ha : ISl a xs) (hb : Sp b fs) (hf : fs.length ≤ 1000) (hxl : xs.length ≤ 1000) : ACalls Try.prog 14 [a, b] [] fun r H' => H' = [] ∧ ∃ l, r = .tup [l, I (sizesF xs fs).2] ∧ ISl l (sizesF xs fs).1 := by
  have ha' := ha
  have hb' := hb
  obtain ⟨⟨nl, c, sz, rfl, hs⟩, hlen, hx⟩ := ha
  obtain ⟨⟨nl', c', sz', rfl, hs'⟩, hlen', hx'⟩ := hb
  apply rSizes_call
  repeat first | refine AWp.seq ?_ | refine AWp.block ?_
  refine AWp.ops ?_
  simp
  repeat first | refine AWp.seq ?_ | refine AWp.block ?_
  refine AWp.ops ?_
  simp
  refine (rForm_spec ha' hb' hf hxl).mono ?_
  rintro r H' ⟨rfl, rfl⟩
  simp
  repeat first | refine AWp.seq ?_ | refine AWp.block ?_
  refine AWp.ops ?_
  simp
  refine AWp.cond (b := (sizesF xs fs).2 != 0) (by simp) ?_ ?_
  · intro h
    have h : (sizesF xs fs).2 ≠ 0 := by simpa using h
    have h1 : (sizesF xs fs).1 = [] := by
      unfold sizesF at h ⊢
      by_cases hc : (cells xs).2 = 0
      · rw [if_neg (by simpa using hc)] at h ⊢
        cases hr : readF xs fs with
        | none => rfl
        | some M =>
          rw [hr] at h
          simp only at h ⊢
          split at h
          · rename_i hany; rw [if_pos hany]
          · simp at h
      · rw [if_pos hc]
    repeat first | refine AWp.seq ?_ | refine AWp.block ?_
    refine AWp.ops ?_
    simp
    refine AWp.ret ?_
    simp
    refine retOk.of rfl ⟨rfl, ?_⟩
    exact ⟨_, by simp; rfl, by rw [h1]; exact ⟨⟨true, none, 0, rfl, by simp, by simp⟩, by simp, by simp⟩⟩
  intro h
  have h0 : (sizesF xs fs).2 = 0 := by simpa using h
  refine AWp.skip ?_
  simp only [qSeq]
  have hc : (cells xs).2 = 0 := by
    by_cases hc : (cells xs).2 = 0
    · exact hc
    · simp only [sizesF, ne_eq, hc, not_false_eq_true, if_true] at h0
  obtain ⟨hxn, hx4⟩ := cells_nonneg' hc
  cases hr : readF xs fs with
  | none => simp [sizesF, hc, hr] at h0
  | some M =>
    obtain ⟨hmodes, hblk⟩ := readF_ok hr
    have hblk := hblk fun s hs => (hx' s hs).2.2.2
    have hbl : ∀ s ∈ fs, 0 ≤ blockF fs s.2.1 ∧ blockF fs s.2.1 ≤ 9223372036854775807 := by
      intro s hsm
      obtain ⟨⟨m0, m1⟩, _⟩ := hmodes s hsm
      have hg : readGo xs fs (List.replicate 4 (false, 0)) 0 = some M := by
        unfold readF at hr
        rw [Option.bind_eq_some_iff] at hr
        obtain ⟨M1, h1, h2⟩ := hr
        split at h2
        · cases h2; exact h1
        · cases h2
      obtain ⟨b1, _, _⟩ := readGo_blk fs (by simpa using hx4) hg s.2.1.toNat (by omega)
      have e0 : ((List.replicate 4 ((false, 0) : Bool × Int)).getD s.2.1.toNat (false, 0)).2 = 0 := by
        rw [List.getD, List.getElem?_replicate]
        split <;> rfl
      rw [if_neg (by simpa using e0)] at b1
      have e1 : ((s.2.1.toNat : Nat) : Int) = s.2.1 := by omega
      rw [e1] at b1
      rw [← b1, List.getD]
      cases hgm : M[s.2.1.toNat]? with
      | none => simp
      | some p => exact hblk p (List.mem_of_getElem? hgm)
    have hls := lvl_same hx4 hr
    have hS : (sizesF xs fs).1 = fs.map (lvlR xs fs) := by
      by_cases ha : (fs.map (lvlOf xs M)).any (fun v => decide (2147483648 < v)) = true
      · have : sizesF xs fs = ([], 2) := by simp only [sizesF, hc, ne_eq, not_true_eq_false, if_false, hr]; rw [if_pos ha]
        rw [this] at h0; simp at h0
      · have e : sizesF xs fs = (fs.map (lvlOf xs M), 0) := by simp only [sizesF, hc, ne_eq, not_true_eq_false, if_false, hr]; rw [if_neg ha]
        rw [e, ← hls]
    repeat first | refine AWp.seq ?_ | refine AWp.block ?_
    refine AWp.ops ?_
    simp
    refine (rsizes_spec ha' hb' hf hxn (fun s hs => (hmodes s hs).1) hbl).mono ?_
    rintro r H' ⟨rfl, hl⟩
    rw [← hS] at hl
    simp
    refine AWp.ret ?_
    simp
    refine retOk.of rfl ⟨rfl, ?_⟩
    exact ⟨r, by simp [h0], hl⟩
end Go.Fw
