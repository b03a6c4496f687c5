import Derived.Test.YthipbeffhfdamaaFwstore5
import Derived.Test.YthipbeffhfdamaaFwstore2b
namespace Go.Fw
open Go Go.RowKit Go.Proofs
set_option maxRecDepth 100000
set_option linter.unusedSimpArgs false
set_option linter.unusedVariables false

theorem readStep_chain {xs : List Int} {s : Int × Int × Int} {M M' : List (Bool × Int)} {b : Int} (h : readStep xs s M b = some M') : (b = 2 ∨ b = 3) ↔ s.1 = 3 := by
  unfold readStep at h
  split at h
  · cases h
  split at h
  · split at h
    · rename_i h2
      exact h2.2.2
    · cases h
  · split at h
    · rename_i h3
      split at h
      · rename_i h2
        exact ⟨fun hb => absurd hb h2.2.2.1, fun hs => by omega⟩
      · cases h
    · cases h
/-- Whether levels are of a form's kinds and sizes. -/
def fitF : List LvA → List (Int × Int × Int) → List Int → Bool
  | x :: r, s :: fs, z :: zs => decide (x.lv.k = s.1 ∧ x.lv.sz = z) && fitF r fs zs
  | _, _, _ => true
/-- Levels, of which single ones stand behind loose and single ones, and nowhere else. -/
def Chn : Int → List LvA → Prop
  | _, [] => True
  | b, x :: r => ((b = 2 ∨ b = 3) ↔ x.lv.k = 3) ∧ Chn x.lv.k r
theorem chn_of {S : List Int} : ∀ {fs : List (Int × Int × Int)} {xs : List LvA} {zs : List Int} {M M' : List (Bool × Int)} {b : Int}, xs.length = fs.length → zs.length = fs.length → readGo S fs M b = some M' → fitF xs fs zs = true → Chn b xs
  | [], [], _, _, _, _, _, _, _, _ => trivial
  | s :: fs, x :: r, z :: zs, M, M', b, h1, h2, h3, h4 => by
    simp only [readGo, Option.bind_eq_some_iff] at h3
    obtain ⟨M1, e1, e2⟩ := h3
    simp only [fitF, Bool.and_eq_true, decide_eq_true_eq] at h4
    obtain ⟨⟨e3, _⟩, e4⟩ := h4
    have c1 := readStep_chain e1
    refine ⟨by rw [e3]; exact c1, ?_⟩
    rw [e3]
    exact chn_of (by simpa using h1) (by simpa using h2) e2 e4
  | [], x :: r, _, _, _, _, h, _, _, _ => by simp at h
  | s :: fs, [], _, _, _, _, h, _, _, _ => by simp at h
  | s :: fs, x :: r, [], _, _, _, _, h, _, _ => by simp at h
theorem chn_single : ∀ {xs : List LvA} {b : Int}, Chn b xs → (b = 2 ∨ b = 3) → ∀ x ∈ xs, x.lv.k = 3
  | x :: r, b, h, hb, y, hy => by
    obtain ⟨h1, h2⟩ := h
    have hk := h1.1 hb
    rcases List.mem_cons.1 hy with rfl | hy
    · exact hk
    · exact chn_single h2 (.inr hk) y hy
theorem exMap_ok {o : Except Int (List Int)} {f : List Int → List Int} {l : List Int} (h : o.map f = .ok l) : ∃ r, o = .ok r := by
  cases o with
  | error e => simp [Except.map] at h
  | ok r => exact ⟨r, rfl⟩
theorem singles : ∀ {xs : List LvA} {n : Nat} {l : List Int}, cntGo xs n = .ok l → n ≤ 1048576 → (∀ x ∈ xs, x.lv.k = 3) → ∀ x ∈ xs, x.lv.crd.length = n ∧ ∀ c ∈ x.lv.crd, 0 ≤ c ∧ c < 4294967296
  | x :: r, n, l, h, hn, hk, y, hy => by
    simp only [cntGo] at h
    split at h
    case isFalse => cases h
    rename_i hc
    obtain ⟨b1, b2, b3, b4, b5, b6, b7, b8⟩ := lvBelow_ok hc
    obtain ⟨r', e⟩ := exMap_ok h
    have k3 := hk x (by simp)
    have hlen : x.lv.crd.length = n := by
      simp only [lvFormed, k3] at b3
      simpa using (of_decide_eq_true b3).2
    have hbl : (lvBelow x.lv n).toNat = n := by
      simp only [lvBelow, k3]
      simp [hlen]
    rw [hbl] at e
    rcases List.mem_cons.1 hy with rfl | hy
    · exact ⟨hlen, fun c hc => ⟨(b7 c hc).1, by have := (b7 c hc).2; omega⟩⟩
    · exact singles e hn (fun z hz => hk z (by simp [hz])) y hy
theorem lvFormed_pos {l : Lv} {n : Nat} (h : lvFormed l n = true) (hk : l.k = 1 ∨ l.k = 2) : PosOk l.pos l.crd.length n := by
  simp only [lvFormed] at h
  rw [if_neg (by omega), if_neg (by omega), if_neg (by omega), if_pos hk] at h
  have h := of_decide_eq_true h
  exact ⟨h.1, h.2.1, h.2.2.1, h.2.2.2⟩
theorem riseOk_of : ∀ {xs : List LvA} {n : Nat} {l : List Int} {b : Int}, cntGo xs n = .ok l → n ≤ 1048576 → Chn b xs → RiseOk xs
  | [], _, _, _, _, _, _ => fun i h => by simp at h
  | x :: r, n, l, b, h, hn, hch => by
    simp only [cntGo] at h
    split at h
    case isFalse => cases h
    rename_i hc
    obtain ⟨b1, b2, b3, b4, b5, b6, b7, b8⟩ := lvBelow_ok hc
    obtain ⟨r', e⟩ := exMap_ok h
    obtain ⟨_, hch⟩ := hch
    have rec_ := riseOk_of e (by omega) hch
    intro i hi hk
    cases i with
    | succ i =>
      have := rec_ i (by simpa using hi) (by simpa using hk)
      simpa using this
    | zero =>
      simp only [List.getElem_cons_zero] at hk ⊢
      have hs := chn_single hch (.inl hk)
      have hbl : (lvBelow x.lv n).toNat = x.lv.crd.length := by
        simp only [lvBelow, hk]
        simp
      rw [hbl] at e
      have h1 := singles e (by omega) hs
      refine ⟨fun y hy => ?_, ⟨n, hn, lvFormed_pos b3 (.inr hk)⟩, by omega, fun y hy => ?_⟩
      · simp only [List.drop_zero] at hy
        rcases List.mem_cons.1 hy with rfl | hy
        · exact ⟨rfl, fun c hc => ⟨(b7 c hc).1, by have := (b7 c hc).2; omega⟩⟩
        · exact h1 y hy
      · have : y ∈ r := by simpa using hy
        have := hs y this
        omega

def lastF (ws : List Int) : Int := (1 :: ws).getD ws.length 0
/-- What is wrong with a tensor. -/
def tnCheck (S : List Int) (F : List (Int × Int × Int)) (xs : List LvA) (V : List Int) : Int :=
  if (sizesF S F).2 ≠ 0 then (sizesF S F).2
  else if xs.length ≠ F.length then 1
  else if fitF xs F (sizesF S F).1 = false then 1
  else if (cntF xs).2 ≠ 0 then (cntF xs).2
  else if (V.length : Int) ≠ lastF (cntF xs).1 ∨ riseF xs = false then 1 else 0
theorem sizesF_read {xs : List Int} {fs : List (Int × Int × Int)} (h : (sizesF xs fs).2 = 0) : ∃ M, readF xs fs = some M := by
  unfold sizesF at h
  split at h
  · exact absurd h ‹_›
  · cases hr : readF xs fs with
    | none => simp [hr] at h
    | some M => exact ⟨M, rfl⟩
theorem cntF_ok {xs : List LvA} (h : (cntF xs).2 = 0) : cntGo xs 1 = .ok (cntF xs).1 := by
  unfold cntF at h ⊢
  cases hc : cntGo xs 1 with
  | ok l => rfl
  | error e =>
    exfalso
    simp only [hc] at h
    subst h
    revert hc
    have : ∀ (xs : List LvA) (n : Nat), cntGo xs n ≠ .error 0 := by
      intro xs
      induction xs with
      | nil => intro n h; cases h
      | cons x r ih =>
        intro n h
        simp only [cntGo] at h
        split at h
        · cases hr : cntGo r (lvBelow x.lv n).toNat with
          | ok l => rw [hr] at h; simp [Except.map] at h
          | error e =>
            rw [hr] at h
            simp [Except.map] at h
            exact ih _ (by rw [hr, h])
        · rename_i hne
          injection h with h
          exact hne h
    exact this xs 1
theorem cntGo_len : ∀ {xs : List LvA} {n : Nat} {l : List Int}, cntGo xs n = .ok l → l.length = xs.length
  | [], n, l, h => by cases h; rfl
  | x :: r, n, l, h => by
    simp only [cntGo] at h
    split at h
    · cases hr : cntGo r (lvBelow x.lv n).toNat with
      | error e => rw [hr] at h; simp [Except.map] at h
      | ok l' =>
        rw [hr] at h
        simp [Except.map] at h
        subst h
        simp [cntGo_len hr]
    · cases h
theorem rise_ok {S : List Int} {F : List (Int × Int × Int)} {xs : List LvA} (h1 : (sizesF S F).2 = 0) (h2 : xs.length = F.length) (hz : (sizesF S F).1.length = F.length) (h3 : fitF xs F (sizesF S F).1 = true) (h4 : (cntF xs).2 = 0) : RiseOk xs := by
  obtain ⟨M, hM⟩ := sizesF_read h1
  unfold readF at hM
  rw [Option.bind_eq_some_iff] at hM
  obtain ⟨M1, hM1, _⟩ := hM
  exact riseOk_of (cntF_ok h4) (by omega) (chn_of h2 hz hM1 h3)

def sCheck_22 : AC := (.seq (.ops [⟨(some 71), none, (.k (.fad 3 (.t 1)))⟩, ⟨(some 72), none, (.k (.ld 1 false (.t 71)))⟩, ⟨(some 73), none, (.k (.len (.t 72)))⟩, ⟨(some 74), none, (.k (.mov (.t 8)))⟩, ⟨(some 75), none, (.k (.bin .neq (.t 73) (.t 74)))⟩, ⟨(some 76), none, (.k (.mov (.t 75)))⟩, ⟨(some 77), (some (76, false)), (.k (.ld 4 true (.t 1)))⟩, ⟨(some 78), (some (76, false)), (.call false (.c (.fn (.func 39) [] [])) [(.t 77)])⟩, ⟨(some 79), (some (76, false)), (.k (.un .not (.t 78)))⟩, ⟨(some 80), none, (.k (.pick (.t 76) (.c (.sc (.bool true))) (.t 79)))⟩]) (.cond (.t 80) (.seq (.ops [⟨(some 2), none, (.k (.mov (.c (.sc (.int .i64 1)))))⟩]) .ret) .skip))
def sCheck_21 : AC := (.seq (.ops [⟨(some 64), none, (.k (.lit 1 [(.c (.sc (.int .i64 1)))]))⟩, ⟨(some 65), none, (.k (.mov (.t 7)))⟩, ⟨(some 66), none, (.k (.app 3 1 8 (.t 64) (.t 65)))⟩, ⟨(some 67), none, (.k (.mov (.t 7)))⟩, ⟨(some 68), none, (.k (.len (.t 67)))⟩, ⟨(some 69), none, (.k (.iad 1 (.t 66) (.t 68)))⟩, ⟨(some 70), none, (.k (.ld 1 false (.t 69)))⟩, ⟨(some 8), none, (.k (.mov (.t 70)))⟩]) sCheck_22)
def sCheck_20 : AC := (.seq sCheck_21 (.seq (.ops [⟨(some 2), none, (.k (.mov (.c (.sc (.int .i64 0)))))⟩]) .ret))
def sCheck_19 : AC := (.seq (.ops [⟨(some 61), none, (.k (.mov (.t 4)))⟩, ⟨(some 62), none, (.k (.bin .neq (.t 61) (.c (.sc (.int .i64 0)))))⟩]) (.cond (.t 62) (.seq (.ops [⟨(some 63), none, (.k (.mov (.t 4)))⟩, ⟨(some 2), none, (.k (.mov (.t 63)))⟩]) .ret) .skip))
def sCheck_18 : AC := (.seq sCheck_19 sCheck_20)
def sCheck_17 : AC := (.seq (.ops [⟨(some 57), none, (.k (.ld 4 true (.t 1)))⟩, ⟨(some 58), none, (.call false (.c (.fn (.func 38) [] [])) [(.t 57)])⟩, ⟨(some 56), none, (.k (.mov (.t 58)))⟩, ⟨(some 59), none, (.k (.ext (.t 56) 0))⟩, ⟨(some 60), none, (.k (.ext (.t 56) 1))⟩, ⟨(some 7), none, (.k (.mov (.t 59)))⟩, ⟨(some 4), none, (.k (.mov (.t 60)))⟩]) sCheck_18)
def sCheck_16 : AC := (.seq (.ops [⟨(some 37), none, (.k (.fad 0 (.t 6)))⟩, ⟨(some 38), none, (.k (.ld 1 false (.t 37)))⟩, ⟨(some 39), none, (.k (.fad 1 (.t 1)))⟩, ⟨(some 40), none, (.k (.ld 1 false (.t 39)))⟩, ⟨(some 41), none, (.k (.mov (.t 5)))⟩, ⟨(some 42), none, (.k (.iad 3 (.t 40) (.t 41)))⟩, ⟨(some 43), none, (.k (.fad 0 (.t 42)))⟩, ⟨(some 44), none, (.k (.ld 1 false (.t 43)))⟩, ⟨(some 45), none, (.k (.bin .neq (.t 38) (.t 44)))⟩, ⟨(some 46), none, (.k (.mov (.t 45)))⟩, ⟨(some 47), (some (46, false)), (.k (.fad 1 (.t 6)))⟩, ⟨(some 48), (some (46, false)), (.k (.ld 1 false (.t 47)))⟩, ⟨(some 49), (some (46, false)), (.k (.mov (.t 3)))⟩, ⟨(some 50), (some (46, false)), (.k (.mov (.t 5)))⟩, ⟨(some 51), (some (46, false)), (.k (.iad 1 (.t 49) (.t 50)))⟩, ⟨(some 52), (some (46, false)), (.k (.ld 1 false (.t 51)))⟩, ⟨(some 53), (some (46, false)), (.k (.bin .neq (.t 48) (.t 52)))⟩, ⟨(some 54), none, (.k (.pick (.t 46) (.c (.sc (.bool true))) (.t 53)))⟩]) (.cond (.t 54) (.seq (.ops [⟨(some 2), none, (.k (.mov (.c (.sc (.int .i64 1)))))⟩]) .ret) .skip))
def sCheck_15 : AC := (.seq (.ops [⟨(some 34), none, (.k (.mov (.t 32)))⟩, ⟨(some 35), none, (.k (.iad 4 (.t 30) (.t 32)))⟩, ⟨(some 36), none, (.k (.ld 4 true (.t 35)))⟩, ⟨(some 6), none, (.k (.new 34 4 (.c (.agg [(.sc (.int .i64 0)), (.sc (.int .i64 0)), (.imm true none 0 []), (.imm true none 0 [])]))))⟩, ⟨(some 5), none, (.k (.mov (.t 34)))⟩, ⟨none, none, (.k (.st 4 (.t 6) (.t 36)))⟩]) sCheck_16)
def sCheck_14 : AC := (.block 2 sCheck_15)
def sCheck_13 : AC := (.seq sCheck_14 (.ops [⟨(some 55), none, (.k (.bin .add (.t 32) (.c (.sc (.int .i64 1)))))⟩, ⟨(some 32), none, (.k (.mov (.t 55)))⟩]))
def sCheck_12 : AC := (.seq (.cond (.t 33) .skip (.exit 1)) sCheck_13)
def sCheck_11 : AC := (.seq (.ops [⟨(some 33), none, (.k (.bin .lss (.t 32) (.t 31)))⟩]) sCheck_12)
def sCheck_10 : AC := (.loop sCheck_11)
def sCheck_9 : AC := (.block 1 sCheck_10)
def sCheck_8 : AC := (.seq (.ops [⟨(some 29), none, (.k (.fad 2 (.t 1)))⟩, ⟨(some 30), none, (.k (.ld 1 false (.t 29)))⟩, ⟨(some 31), none, (.k (.len (.t 30)))⟩, ⟨(some 32), none, (.k (.mov (.c (.sc (.int .i64 0)))))⟩]) sCheck_9)
def sCheck_7 : AC := (.seq sCheck_8 sCheck_17)
def sCheck_6 : AC := (.seq (.ops [⟨(some 22), none, (.k (.fad 2 (.t 1)))⟩, ⟨(some 23), none, (.k (.ld 1 false (.t 22)))⟩, ⟨(some 24), none, (.k (.len (.t 23)))⟩, ⟨(some 25), none, (.k (.fad 1 (.t 1)))⟩, ⟨(some 26), none, (.k (.ld 1 false (.t 25)))⟩, ⟨(some 27), none, (.k (.len (.t 26)))⟩, ⟨(some 28), none, (.k (.bin .neq (.t 24) (.t 27)))⟩, ⟨(some 21), none, (.k (.mov (.t 28)))⟩]) (.cond (.t 21) (.seq (.ops [⟨(some 2), none, (.k (.mov (.c (.sc (.int .i64 1)))))⟩]) .ret) .skip))
def sCheck_5 : AC := (.cond (.t 17) (.seq (.ops [⟨(some 20), none, (.k (.mov (.t 4)))⟩, ⟨(some 2), none, (.k (.mov (.t 20)))⟩]) .ret) sCheck_6)
def sCheck_4 : AC := (.seq (.ops [⟨(some 18), none, (.k (.mov (.t 4)))⟩, ⟨(some 19), none, (.k (.bin .neq (.t 18) (.c (.sc (.int .i64 0)))))⟩, ⟨(some 17), none, (.k (.mov (.t 19)))⟩]) sCheck_5)
def sCheck_3 : AC := (.block 0 sCheck_4)
def sCheck_2 : AC := (.seq sCheck_3 sCheck_7)
def sCheck_1 : AC := (.seq (.ops [⟨(some 10), none, (.k (.fad 0 (.t 1)))⟩, ⟨(some 11), none, (.k (.ld 1 false (.t 10)))⟩, ⟨(some 12), none, (.k (.fad 1 (.t 1)))⟩, ⟨(some 13), none, (.k (.ld 1 false (.t 12)))⟩, ⟨(some 14), none, (.call false (.c (.fn (.func 13) [] [])) [(.t 11), (.t 13)])⟩, ⟨(some 9), none, (.k (.mov (.t 14)))⟩, ⟨(some 15), none, (.k (.ext (.t 9) 0))⟩, ⟨(some 16), none, (.k (.ext (.t 9) 1))⟩, ⟨(some 3), none, (.k (.mov (.t 15)))⟩, ⟨(some 4), none, (.k (.mov (.t 16)))⟩]) sCheck_2)
def sCheck_ac : AC := (.seq (.ops [⟨(some 1), none, (.k (.new 27 4 (.t 0)))⟩, ⟨(some 2), none, (.k (.mov (.c (.sc (.int .i64 0)))))⟩]) sCheck_1)
theorem sCheck_call {args : List AV} {H : List AObj} {R : AV → List AObj → Prop} (h : AWp Try.prog [] H.length sCheck_ac (bodyQ H.length [(.t 2)] R) (args ++ List.replicate (81 - args.length) .und) H) : ACalls Try.prog 11 args H R :=
  ACalls.of_fn Try.func11 rfl (by kernel_rfl) rfl Try.ntmps11 h

set_option maxHeartbeats 4000000 in
theorem sCheck_spec {sh f l v : AV} {S V : List Int} {F : List (Int × Int × Int)} {xs : List LvA} (hS : ISl sh S) (hF : Sp f F) (hl : Ls l xs) (hV : ISl v V) (hn : xs.length ≤ 1000) (hfn : F.length ≤ 1000) :
    ACalls Try.prog 11 [.agg [sh, f, l, v]] [] fun r H' => H' = [] ∧ r = I (tnCheck S F xs V) := by
  have hS' := hS
  have hF' := hF
  have hl' := hl
  have hV' := hV
  obtain ⟨⟨nl, c, sz, rfl, hs⟩, hlen, hx⟩ := hl
  obtain ⟨⟨nl1, c01, sz1, rfl, hs1⟩, hlen1, hx1⟩ := hS
  obtain ⟨⟨nl2, c02, sz2, rfl, hs2⟩, hlen2, hx2⟩ := hF
  obtain ⟨⟨nl3, c3, sz3, rfl, hs3⟩, hlen3, hx3⟩ := hV
  have base : ACalls Try.prog 11 [.agg [.imm nl1 c01 sz1 (S.map I), .imm nl2 c02 sz2 (F.map specV), .imm nl c sz (xs.map lvV), .imm nl3 c3 sz3 (V.map I)]] [] fun r H' => r = I (tnCheck S F xs V) := by
    apply sCheck_call
    repeat first | refine AWp.seq ?_ | refine AWp.block ?_
    refine AWp.ops ?_
    simp
    repeat first | refine AWp.seq ?_ | refine AWp.block ?_
    refine AWp.ops ?_
    simp
    refine ((Sizes_spec hS' hF' hfn).pure (by simp) (by rintro r ⟨o, rfl, ⟨⟨_, _, _, rfl, _⟩, _⟩⟩; simp) _).mono ?_
    rintro r H' ⟨rfl, o, rfl, hZ⟩
    simp
    have hsok := fun h0 => sizesF_ok (xs := S) (fs := F) h0 (fun s hs => (hx2 s hs).2.2.2)
    obtain ⟨Z, hZe⟩ : ∃ Z, Z = (sizesF S F).1 := ⟨_, rfl⟩
    rw [← hZe] at hZ hsok
    obtain ⟨⟨nlz, cz, szz, rfl, hsz⟩, hlz, hxz⟩ := hZ
    repeat first | refine AWp.seq ?_ | refine AWp.block ?_
    refine AWp.ops ?_
    simp
    refine AWp.cond (b := (sizesF S F).2 != 0) (by simp) ?_ ?_
    · intro h
      have h : (sizesF S F).2 ≠ 0 := by simpa using h
      repeat first | refine AWp.seq ?_ | refine AWp.block ?_
      refine AWp.ops ?_
      simp
      refine AWp.ret ?_
      simp
      refine retOk.of rfl ?_
      rw [tnCheck, if_pos h]; simp
    intro h0
    have h0 : (sizesF S F).2 = 0 := by simpa using h0
    obtain ⟨-, hzl, -, -⟩ := hsok h0
    repeat first | refine AWp.seq ?_ | refine AWp.block ?_
    refine AWp.ops ?_
    simp
    refine AWp.cond (b := (xs.length : Int) != F.length) (by simp) ?_ ?_
    · intro h
      have h : ¬ xs.length = F.length := by
        have : ¬ (xs.length : Int) = F.length := by simpa using h
        omega
      repeat first | refine AWp.seq ?_ | refine AWp.block ?_
      refine AWp.ops ?_
      simp
      refine AWp.ret ?_
      simp
      refine retOk.of rfl ?_
      rw [tnCheck, if_neg (by omega), if_pos h]; simp
    intro h1
    have h1 : xs.length = F.length := by
      have : (xs.length : Int) = F.length := by simpa using h1
      omega
    refine AWp.skip ?_
    simp only [qSeq, qBlock]
    repeat first | refine AWp.seq ?_ | refine AWp.block ?_
    refine AWp.ops ?_
    simp
    have hret1 : fitF xs F Z = false → tnCheck S F xs V = 1 := by
      intro h
      rw [tnCheck, if_neg (by omega), if_neg (by omega), if_pos (by rw [← hZe]; exact h)]
    obtain ⟨J, hJ⟩ : ∃ J : Nat → List AV → List AObj → Prop, J = fun i fr H => i ≤ xs.length ∧ (fitF xs F Z = fitF (xs.drop i) (F.drop i) (Z.drop i)) ∧ H = [tnO (.agg [.imm nl1 c01 sz1 (S.map I), .imm nl2 c02 sz2 (F.map specV), .imm nl c sz (xs.map lvV), .imm nl3 c3 sz3 (V.map I)])] ∧
      fr = [.und, .ptr 0 1 0 0, .und, .imm nlz cz szz (Z.map I), .und, .und, .und, .und, .und, .und, .und, .und, .und, .und, .und, .und, .und, .und, .und, .und, .und, .und, .und, .und, .und, .und, .und, .und, .und, .und, .imm nl c sz (xs.map lvV), I xs.length, I i, .und, .und, .und, .und, .und, .und, .und, .und, .und, .und, .und, .und, .und, .und, .und, .und, .und, .und, .und, .und, .und, .und, .und, .und, .und, .und, .und, .und, .und, .und, .und, .und, .und, .und, .und, .und, .und, .und, .und, .und, .und, .und, .und, .und, .und, .und, .und, .und] := ⟨_, rfl⟩
    refine AWp.block (AWp.loop J (fun i => xs.length - i) 0 (Weak.slots [1, 3, 30, 31, 32]) (by rw [hJ]; exact ⟨by omega, rfl, by simp, by simp⟩) ?_)
    intro i fr H hI
    rw [hJ] at hI
    obtain ⟨hi, hinv, rfl, rfl⟩ := hI
    repeat first | refine AWp.seq ?_ | refine AWp.block ?_
    refine AWp.ops ?_
    simp
    refine AWp.seq (AWp.cond (b := decide (i < xs.length)) (by simp <;> omega) ?_ ?_)
    ·
      intro hb
      have hb : i < xs.length := by simpa using hb
      refine AWp.skip ?_
      simp only [qSeq]
      have hbF : i < F.length := by omega
      have hbZ : i < Z.length := by omega
      have hsz4 := sz4_of hs hb
      have hsz3 := sz3_of hs2 hbF
      have hsz1 := sz_of hsz hbZ
      subst hsz4 hsz3 hsz1
      have hgs := lv_get hb
      have hgF := spec_get hbF
      have hok := hx xs[i] (List.getElem_mem hb)
      rw [List.drop_eq_getElem_cons hb, List.drop_eq_getElem_cons hbF, List.drop_eq_getElem_cons hbZ] at hinv
      simp only [fitF] at hinv
      generalize xs[i] = x at hgs hok hinv
      generalize F[i] = sp at hgF hinv
      obtain ⟨lv, p, q⟩ := x
      obtain ⟨k, mo, z⟩ := sp
      simp only at hgs hok hinv hgF
      have hok' := hok
      obtain ⟨⟨⟨nlp, cp, szp, rfl, _⟩, _⟩, ⟨⟨nlq, cq, szq, rfl, _⟩, _⟩, _⟩ := hok'
      repeat first | refine AWp.seq ?_ | refine AWp.block ?_
      refine AWp.ops ?_
      simp [hgs]
      by_cases e1 : lv.k = k
      case neg =>
        have e1' : (lv.k == k) = false := by simp [e1]
        repeat first | refine AWp.seq ?_ | refine AWp.block ?_
        refine AWp.ops ?_
        simp [hgF, e1]
        refine AWp.cond (b := true) (by simp) (fun _ => ?_) (fun h => by cases h)
        repeat first | refine AWp.seq ?_ | refine AWp.block ?_
        refine AWp.ops ?_
        simp
        refine AWp.ret ?_
        simp
        refine retOk.of rfl ?_
        rw [hret1 (by rw [hinv]; simp [e1])]; simp
      by_cases e2 : lv.sz = Z[i]
      case neg =>
        repeat first | refine AWp.seq ?_ | refine AWp.block ?_
        refine AWp.ops ?_
        simp [hgF, e1, hbZ, e2]
        refine AWp.cond (b := true) (by simp [e2]) (fun _ => ?_) (fun h => by cases h)
        repeat first | refine AWp.seq ?_ | refine AWp.block ?_
        refine AWp.ops ?_
        simp
        refine AWp.ret ?_
        simp
        refine retOk.of rfl ?_
        rw [hret1 (by rw [hinv]; simp [e2])]; simp
      repeat first | refine AWp.seq ?_ | refine AWp.block ?_
      refine AWp.ops ?_
      simp [hgF, e1, hbZ, e2]
      refine AWp.cond (b := false) (by simp) (fun h => by cases h) (fun _ => ?_)
      refine AWp.skip ?_
      simp only [qSeq, qBlock]
      repeat first | refine AWp.seq ?_ | refine AWp.block ?_
      refine AWp.ops ?_
      simp
      refine ⟨i + 1, _, _, (Weak.slots [1, 3, 30, 31, 32]).trans (Weak.freeze 1 3 (by simp)), ?_, by omega⟩
      rw [hJ]
      refine ⟨by omega, ?_, by simp [frzH], by simp [wrap_i64 (n := (i : Int) + 1) (by omega) (by omega)]⟩
      rw [hinv]; simp [e1, e2]
    ·
      intro hb
      have hb : ¬ i < xs.length := by simpa using hb
      refine AWp.exit ?_
      simp [qSeq, qBlock]
      rw [List.drop_eq_nil_of_le (by omega)] at hinv
      have hfit : fitF xs F Z = true := by rw [hinv]; simp [fitF]
      have hfit' : ¬ fitF xs F (sizesF S F).1 = false := by rw [← hZe, hfit]; simp
      repeat first | refine AWp.seq ?_ | refine AWp.block ?_
      refine AWp.ops ?_
      simp
      refine ((counted_spec hS' hF' hl' hV' hn).pure (by simp) (by rintro r ⟨o, rfl, ⟨⟨_, _, _, rfl, _⟩, _⟩⟩; simp) _).mono ?_
      rintro r H' ⟨rfl, o, rfl, hC⟩
      simp
      obtain ⟨N, hN⟩ : ∃ N, N = (cntF xs).1 := ⟨_, rfl⟩
      rw [← hN] at hC
      obtain ⟨⟨nlw, cw, szw, rfl, hsw⟩, hlw, hxw⟩ := hC
      repeat first | refine AWp.seq ?_ | refine AWp.block ?_
      refine AWp.ops ?_
      simp
      refine AWp.cond (b := (cntF xs).2 != 0) (by simp) ?_ ?_
      · intro h
        have h : (cntF xs).2 ≠ 0 := by simpa using h
        repeat first | refine AWp.seq ?_ | refine AWp.block ?_
        refine AWp.ops ?_
        simp
        refine AWp.ret ?_
        simp
        refine retOk.of rfl ?_
        rw [tnCheck, if_neg (by omega), if_neg (by omega), if_neg hfit', if_pos h]; simp
      intro h2
      have h2 : (cntF xs).2 = 0 := by simpa using h2
      have hok := rise_ok h0 h1 (by rw [← hZe]; exact hzl) (by rw [← hZe]; exact hfit) h2
      have hlen2 : N.length = xs.length := by rw [hN]; exact cntGo_len (cntF_ok h2)
      refine AWp.skip ?_
      simp only [qSeq]
      have hfin : ¬ (sizesF S F).2 ≠ 0 := by omega
      have hfin2 : ¬ xs.length ≠ F.length := by omega
      obtain ⟨la, hla⟩ : ∃ la, la = lastF N := ⟨_, rfl⟩
      have hres : tnCheck S F xs V = if (V.length : Int) ≠ la ∨ riseF xs = false then 1 else 0 := by
        rw [tnCheck, if_neg hfin, if_neg hfin2, if_neg hfit', if_neg (by omega), ← hN, ← hla]
      rw [hres]
      refine AWp.seq (AWp.cut [.und, .ptr 0 1 0 0, .und, .und, .und, .und, .und, .und, I la, .und, .und, .und, .und, .und, .und, .und, .und, .und, .und, .und, .und, .und, .und, .und, .und, .und, .und, .und, .und, .und, .und, .und, .und, .und, .und, .und, .und, .und, .und, .und, .und, .und, .und, .und, .und, .und, .und, .und, .und, .und, .und, .und, .und, .und, .und, .und, .und, .und, .und, .und, .und, .und, .und, .und, .und, .und, .und, .und, .und, .und, .und, .und, .und, .und, .und, .und, .und, .und, .und, .und, .und] [tnO (.agg [.imm nl1 c01 sz1 (S.map I), .imm nl2 c02 sz2 (F.map specV), .imm nl c sz (xs.map lvV), .imm nl3 c3 sz3 (V.map I)])] ?_ ?_)
      · by_cases hN0 : N = []
        · have hel : ∀ H, elems 1 H (.imm nlw cw szw []) = some [] := fun H => by
            have := elems_of (c := cw) H hsw
            rw [hN0] at this
            exact this
          have hl1 : la = 1 := by rw [hla, hN0]; rfl
          repeat first | refine AWp.seq ?_ | refine AWp.block ?_
          refine AWp.ops ?_
          simp [hel, hN0]
          exact ((Weak.slots [1, 8]).trans (Weak.freeze 1 3 (by simp))).to (by simp [hl1]) (by simp [frzH])
        · have hel := fun H => elems_of (c := cw) H hsw
          have b1 : (1 + N.length) * 8 ≤ 140737488355328 := by omega
          have b2 : 1 + N.length ≤ 9223372036854775807 := by omega
          have b3 : N.length < 1 + N.length := by omega
          have b5 : (N.length : Int) < 1 + (N.length : Int) := by omega
          have b4 : N.length + 1 = 1 + N.length := by omega
          have hg : (AV.sc (Value.int IntKind.i64 1) :: N.map I)[N.length]? = some (I la) := by
            have : (AV.sc (Value.int IntKind.i64 1) :: N.map I) = (1 :: N).map I := rfl
            rw [this, List.getElem?_map, hla, lastF, List.getElem?_eq_getElem (by simp)]
            simp
          have hg2 : (AV.sc (Value.int IntKind.i64 1) :: N.map I)[N.length]'(by simp) = I la := by
            rw [List.getElem?_eq_getElem (by simp)] at hg
            simpa using hg
          repeat first | refine AWp.seq ?_ | refine AWp.block ?_
          refine AWp.ops ?_
          simp [hel, hN0, b1, b2, b3, b4, b5, hg2]
          exact ((Weak.slots [1, 8]).trans (Weak.freeze 1 3 (by simp))).to (by simp) (by simp [frzH])
      have hsr := (srising_spec hS' hF' hl' hV' hok).pure (by simp) (by rintro r rfl; simp) [tnO (.agg [.imm nl1 c01 sz1 (S.map I), .imm nl2 c02 sz2 (F.map specV), .imm nl c sz (xs.map lvV), .imm nl3 c3 sz3 (V.map I)])]
      by_cases hv : (V.length : Int) = la
      case neg =>
        repeat first | refine AWp.seq ?_ | refine AWp.block ?_
        refine AWp.ops ?_
        simp [hv]
        refine AWp.cond (b := true) (by simp) (fun _ => ?_) (fun h => by cases h)
        repeat first | refine AWp.seq ?_ | refine AWp.block ?_
        refine AWp.ops ?_
        simp
        refine AWp.ret ?_
        simp
        refine retOk.of rfl ?_
        simp [hv]
      repeat first | refine AWp.seq ?_ | refine AWp.block ?_
      refine AWp.ops ?_
      simp [hv]
      refine hsr.mono ?_
      rintro r H' ⟨rfl, rfl⟩
      simp
      cases hr : riseF xs with
      | false =>
        simp
        refine AWp.cond (b := true) (by simp) (fun _ => ?_) (fun h => by cases h)
        repeat first | refine AWp.seq ?_ | refine AWp.block ?_
        refine AWp.ops ?_
        simp
        refine AWp.ret ?_
        simp
        refine retOk.of rfl ?_
        simp
      | true =>
        simp
        refine AWp.cond (b := false) (by simp) (fun h => by cases h) (fun _ => ?_)
        refine AWp.skip ?_
        simp only [qSeq]
        repeat first | refine AWp.seq ?_ | refine AWp.block ?_
        refine AWp.ops ?_
        simp
        refine AWp.ret ?_
        simp
        refine retOk.of rfl ?_
        simp [hv]
  refine (base.frozen 2).mono ?_
  rintro q H' ⟨rfl, r, G, rfl, rfl⟩
  exact ⟨rfl, by simp⟩

end Go.Fw
