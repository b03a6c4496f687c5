import Derived.Test.YthipbeffhfdamaaFwget1
namespace Go.Fw
open Go Go.RowKit Go.Proofs
set_option maxRecDepth 100000
set_option linter.unusedSimpArgs false
set_option linter.unusedVariables false

/-! ### The numbers come one behind the other. -/
theorem range_flat (n z : Nat) : ((List.range n).flatMap fun p => (List.range z).map fun a => p * z + a) = List.range (n * z) := by
  induction n with
  | zero => simp
  | succ n ih =>
    rw [List.range_succ, List.flatMap_append, ih, Nat.succ_mul, List.range_add]
    simp
theorem seg_flat (g : Nat → Nat) : ∀ n, (∀ p < n, g p ≤ g (p + 1)) → g 0 = 0 → ((List.range n).flatMap fun p => List.range' (g p) (g (p + 1) - g p)) = List.range (g n)
  | 0, _, h0 => by simp [h0]
  | n + 1, h, h0 => by
    rw [List.range_succ, List.flatMap_append, seg_flat g n (fun p hp => h p (by omega)) h0]
    have hle := h n (by omega)
    simp only [List.flatMap_cons, List.flatMap_nil, List.append_nil]
    have e : g (n + 1) = g n + (g (n + 1) - g n) := by omega
    rw [e, List.range_add, Nat.add_sub_cancel_left]
    congr 1
    rw [List.range'_eq_map_range]
theorem flat_same {α β : Type} {f g : α → List β} : ∀ (l : List α), (∀ x ∈ l, f x = g x) → l.flatMap f = l.flatMap g
  | [], _ => rfl
  | x :: r, h => by rw [List.flatMap_cons, List.flatMap_cons, h x (by simp), flat_same r fun y hy => h y (by simp [hy])]
theorem kids_all {l : Lv} {n : Nat} (hc : lvCheck l n = 0) : ((List.range n).flatMap fun p => (kidsF l p).map fun y => y.2.toNat) = List.range (lvBelow l n).toNat := by
  obtain ⟨z0, z1, hf, hcl, b0, b1, hcr, -⟩ := lvBelow_ok hc
  obtain ⟨k, z, ps, cs⟩ := l
  simp only at z0 z1 hf hcl b0 b1 hcr
  simp only [kidsF, lvBelow]
  by_cases hw : k = 0 ∨ k = 4
  · simp only [if_pos hw]
    obtain ⟨zn, rfl⟩ : ∃ zn : Nat, z = zn := ⟨z.toNat, by omega⟩
    have e : ((n : Int) * zn).toNat = n * zn := by rw [← Int.natCast_mul]; exact Int.toNat_natCast _
    rw [e, ← range_flat]
    refine flat_same _ fun p _ => ?_
    rw [List.map_map, Int.toNat_natCast]
    apply List.map_congr_left
    intro a _
    simp only [Function.comp]
    rw [← Int.natCast_mul, ← Int.natCast_add, Int.toNat_natCast]
  simp only [if_neg hw, Int.toNat_natCast]
  by_cases k3 : k = 3
  · have hcn : cs.length = n := by
      simp only [lvFormed] at hf
      rw [if_neg (by omega), if_neg (by omega), if_pos k3] at hf
      exact (of_decide_eq_true hf).2
    simp only [if_pos k3, List.map_cons, List.map_nil, Int.toNat_natCast]
    rw [hcn]
    simp
  have k12 : k = 1 ∨ k = 2 := by
    by_cases h : k = 1 ∨ k = 2
    · exact h
    · simp only [lvFormed] at hf
      rw [if_neg (by omega), if_neg (by omega), if_neg k3, if_neg h] at hf
      cases hf
  have hP := lvFormed_pos hf k12
  simp only at hP
  simp only [if_neg k3, List.map_map]
  have hg := seg_flat (fun p => (ps.getD p 0).toNat) n (fun p hp => by
    obtain ⟨f, t, h1, h2, h3, -⟩ := hP.at hp
    simp only [h1, h2, Int.toNat_natCast]
    exact h3) (by simp only [hP.zero]; rfl)
  simp only [hP.last, Int.toNat_natCast] at hg
  rw [← hg]
  refine flat_same _ fun p _ => ?_
  simp [Function.comp_def]

def walkP : List LvA → Nat → List Nat
  | [], p => [p]
  | x :: r, p => (kidsF x.lv p).flatMap fun y => walkP r y.2.toNat
theorem walkL_nums : ∀ (xs : List LvA) (fs : List (Int × Int × Int)) (c : List Int) (p : Nat), xs.length = fs.length → (walkL xs fs c p).map (·.2) = walkP xs p
  | [], fs, c, p, _ => by cases fs <;> rfl
  | x :: xs, [], c, p, h => by simp at h
  | x :: xs, f :: fs, c, p, h => by
    simp only [walkL, walkP, List.map_flatMap]
    exact flat_same _ fun y _ => walkL_nums xs fs _ _ (by simpa using h)
theorem walkP_all : ∀ (xs : List LvA) (n N : Nat) (ws : List Int), cntGo xs n = .ok ws → lastG ws n = N → (List.range n).flatMap (walkP xs) = List.range N
  | [], n, N, ws, h, hN => by
    cases h
    simp only [lastG] at hN
    subst hN
    have : walkP [] = fun p => [p] := by funext p; rfl
    rw [this]
    simp
  | x :: r, n, N, ws, h, hN => by
    simp only [cntGo] at h
    split at h
    case isFalse => cases h
    rename_i hchk
    have hcs : ∃ ws', cntGo r (lvBelow x.lv n).toNat = .ok ws' ∧ ws = lvBelow x.lv n :: ws' := by
      cases h' : cntGo r (lvBelow x.lv n).toNat with
      | error e => rw [h'] at h; simp [Except.map] at h
      | ok l => rw [h'] at h; simp [Except.map] at h; exact ⟨l, rfl, h.symm⟩
    obtain ⟨ws', hc', rfl⟩ := hcs
    have ih := walkP_all r _ N ws' hc' (by simpa [lastG] using hN)
    rw [← kids_all hchk, List.flatMap_assoc] at ih
    rw [← ih]
    refine flat_same _ fun p _ => ?_
    rw [walkP, List.flatMap_map]

/-! ### No place comes twice. -/
theorem Way.kind {S : List Int} {M : List (Bool × Int)} {N : Nat} {f : Int × Int × Int} {fs : List (Int × Int × Int)} {x : LvA} {xs : List LvA} {M0 : List (Bool × Int)} {b : Int} {c : List Int} {n p : Nat}
    (h : Way S M N (f :: fs) (x :: xs) M0 b c n p) : x.lv.k = f.1 := by
  have := h.hfit
  simp only [List.map_cons, fitF, Bool.and_eq_true, decide_eq_true_eq] at this
  exact this.1.1
theorem Way.place {S : List Int} {M : List (Bool × Int)} {N : Nat} (hS : ∀ x ∈ S, 0 ≤ x ∧ x ≤ 9223372036854775807) {f : Int × Int × Int} {fs : List (Int × Int × Int)} {x : LvA} {xs : List LvA} {M0 : List (Bool × Int)} {b : Int} {c : List Int} {n p : Nat}
    (h : Way S M N (f :: fs) (x :: xs) M0 b c n p) {y : Int × Int} (hy : y ∈ kidsF x.lv p) {q : List Int × Nat} (hq : q ∈ walkL xs fs (stepC f c y.1) y.2.toNat) :
    (f.1 ≠ 4 → y.1 = if 0 < (M.getD f.2.1.toNat (false, 0)).2 then q.1.getD f.2.1.toNat 0 / (M.getD f.2.1.toNat (false, 0)).2 else q.1.getD f.2.1.toNat 0) ∧
    (f.1 = 4 → q.1.getD f.2.1.toNat 0 = c.getD f.2.1.toNat 0 * f.2.2 + y.1) := by
  have hcl := h.hP.1
  obtain ⟨⟨f0, f1⟩, -, f4, f3, M1, hM1, hk⟩ := h.step hS
  obtain ⟨-, -, he, hw⟩ := hk y hy
  have hcd : (stepC f c y.1).getD f.2.1.toNat 0 = newF f c y.1 := by rw [he, getD_set _ _ _ _ _ (by omega), if_pos rfl]
  have hag := hw.agree hS q hq _ f1 (by rw [hM1, if_pos rfl])
  rw [hM1, if_pos rfl, hcd] at hag
  simp only at hag
  constructor
  · intro k4
    rw [if_neg k4, newF, if_neg k4] at hag
    by_cases hb : 0 < (M.getD f.2.1.toNat (false, 0)).2
    · rw [if_pos hb]
      rw [if_pos ⟨rfl, hb⟩] at hag
      exact hag.symm
    · rw [if_neg hb]
      rw [if_neg (by rintro ⟨_, h⟩; exact hb h)] at hag
      exact hag.symm
  · intro k4
    obtain ⟨g1, g2, g3, g4⟩ := f4 k4
    rw [if_pos k4, if_neg (by rintro ⟨h1, _⟩; omega), newF, if_pos k4] at hag
    exact hag
/-- Lists of places, level by level, one ahead of the other. -/
def Lex : List LvA → Nat → Nat → Prop
  | [], _, _ => False
  | x :: r, a, b => x.lv.crd.getD a 0 < x.lv.crd.getD b 0 ∨ (x.lv.crd.getD a 0 = x.lv.crd.getD b 0 ∧ Lex r a b)
theorem Lex.trans : ∀ {xs : List LvA} {a b c : Nat}, Lex xs a b → Lex xs b c → Lex xs a c
  | [], _, _, _, h, _ => h.elim
  | x :: r, a, b, c, h1, h2 => by
    rcases h1 with h1 | ⟨e1, h1⟩ <;> rcases h2 with h2 | ⟨e2, h2⟩
    · exact .inl (by omega)
    · exact .inl (by omega)
    · exact .inl (by omega)
    · exact .inr ⟨by omega, h1.trans h2⟩
theorem lessF_lex : ∀ {xs : List LvA} {q : Nat}, lessF xs q = true → Lex xs (q - 1) q
  | [], _, h => by cases h
  | x :: r, q, h => by
    simp only [lessF] at h
    split at h
    · rename_i e; exact .inr ⟨e.symm, lessF_lex h⟩
    · exact .inl (of_decide_eq_true h)
theorem RiseT.lex {xs : List LvA} {ps : List Int} {m p : Nat} (h : RiseT xs ps m) (hp : p < ps.length - 1) (a : Nat) (ha : ps.getD p 0 ≤ a) : ∀ d, ((a + d + 1 : Nat) : Int) < ps.getD (p + 1) 0 → a + d + 1 < m → Lex xs a (a + d + 1)
  | 0, h1, h2 => lessF_lex (h p hp (a + 0 + 1) h2 (by omega) h1)
  | d + 1, h1, h2 => (RiseT.lex h hp a ha d (by omega) (by omega)).trans (lessF_lex (h p hp (a + (d + 1) + 1) h2 (by omega) h1))
theorem single_diff {S : List Int} {M : List (Bool × Int)} {N : Nat} (hS : ∀ x ∈ S, 0 ≤ x ∧ x ≤ 9223372036854775807) : ∀ {fs : List (Int × Int × Int)} {xs : List LvA} {M0 M0' : List (Bool × Int)} {b b' : Int} {c c' : List Int} {n p n' p' : Nat},
    Way S M N fs xs M0 b c n p → Way S M N fs xs M0' b' c' n' p' → (∀ x ∈ xs, x.lv.k = 3) → Lex xs p p' → ∀ q ∈ walkL xs fs c p, ∀ q' ∈ walkL xs fs c' p', q.1 ≠ q'.1
  | _, [], _, _, _, _, _, _, _, _, _, _, _, _, _, hx, _, _, _, _ => hx.elim
  | [], x :: xs, _, _, _, _, _, _, _, _, _, _, h, _, _, _, _, _, _, _ => by have := h.hl; simp at this
  | f :: fs, x :: xs, M0, M0', b, b', c, c', n, p, n', p', h, h', h3, hx, q, hq, q', hq' => by
    have k3 := h3 x (by simp)
    have hkf := h.kind
    have kk : ∀ p, kidsF x.lv p = [(x.lv.crd.getD p 0, (p : Int))] := fun p => by simp only [kidsF]; rw [if_neg (by omega), if_pos k3]
    simp only [walkL, kk, List.flatMap_cons, List.flatMap_nil, List.append_nil, Int.toNat_natCast] at hq hq'
    have p1 := (h.place hS (y := (x.lv.crd.getD p 0, (p : Int))) (by rw [kk]; simp) (q := q) (by simpa using hq)).1 (by omega)
    have p2 := (h'.place hS (y := (x.lv.crd.getD p' 0, (p' : Int))) (by rw [kk]; simp) (q := q') (by simpa using hq')).1 (by omega)
    rcases hx with hx | ⟨e, hx⟩
    · intro heq
      rw [heq] at p1
      simp only at p1 p2
      omega
    · obtain ⟨-, -, -, -, M1, -, hk⟩ := h.step hS
      obtain ⟨-, -, -, -, M1', -, hk'⟩ := h'.step hS
      obtain ⟨-, -, -, hw⟩ := hk (x.lv.crd.getD p 0, (p : Int)) (by rw [kk]; simp)
      obtain ⟨-, -, -, hw'⟩ := hk' (x.lv.crd.getD p' 0, (p' : Int)) (by rw [kk]; simp)
      simp only [Int.toNat_natCast] at hw hw'
      exact single_diff hS hw hw' (fun y hy => h3 y (by simp [hy])) hx q hq q' hq'

theorem Way.pair {S : List Int} {M : List (Bool × Int)} {N : Nat} (hS : ∀ x ∈ S, 0 ≤ x ∧ x ≤ 9223372036854775807) : ∀ {fs : List (Int × Int × Int)} {xs : List LvA} {M0 : List (Bool × Int)} {b : Int} {c : List Int} {n p : Nat},
    Way S M N fs xs M0 b c n p → Chn b xs → riseF xs = true → (walkL xs fs c p).Pairwise fun q r => q.1 ≠ r.1
  | [], [], _, _, _, _, _, _, _, _ => by simp [walkL]
  | [], x :: xs, _, _, _, _, _, h, _, _ => by have := h.hl; simp at this
  | f :: fs, [], _, _, _, _, _, h, _, _ => by have := h.hl; simp at this
  | f :: fs, x :: xs, M0, b, c, n, p, h, hch, hri => by
    have hkf := h.kind
    have hpl := fun {y} (hy : y ∈ kidsF x.lv p) {q} hq => h.place hS (y := y) hy (q := q) hq
    have hp := h.hp
    have hn := h.hn
    obtain ⟨-, hchk, f4, -, M1, -, hk⟩ := h.step hS
    obtain ⟨hc3, hch'⟩ := hch
    have hri' : riseF xs = true := by
      simp only [riseF] at hri
      split at hri
      · rename_i k2
        exact riseF_none fun y hy => by
          have := chn_single hch' (.inl k2) y hy
          simp [this]
      · exact hri
    simp only [walkL]
    rw [List.pairwise_flatMap]
    refine ⟨fun y hy => (hk y hy).2.2.2.pair hS (by rw [← hkf]; exact hch') hri', ?_⟩
    -- children of different places
    have far : ∀ y ∈ kidsF x.lv p, ∀ y' ∈ kidsF x.lv p, y.1 ≠ y'.1 → ∀ q ∈ walkL xs fs (stepC f c y.1) y.2.toNat, ∀ q' ∈ walkL xs fs (stepC f c y'.1) y'.2.toNat, q.1 ≠ q'.1 := by
      intro y hy y' hy' hne q hq q' hq' heq
      obtain ⟨a1, a2⟩ := hpl hy hq
      obtain ⟨b1, b2⟩ := hpl hy' hq'
      rw [heq] at a1 a2
      by_cases k4 : f.1 = 4
      · have := a2 k4
        have := b2 k4
        omega
      · exact hne ((a1 k4).trans (b1 k4).symm)
    obtain ⟨z0, z1, hf, hcl, b0, b1, hcr, hrise⟩ := lvBelow_ok hchk
    obtain ⟨⟨k, z, ps, cs⟩, px, qx⟩ := x
    simp only at z0 z1 hf hcl b0 b1 hcr hkf hrise hc3 hch'
    obtain ⟨Y, hY⟩ : ∃ Y, Y = kidsF ⟨k, z, ps, cs⟩ p := ⟨_, rfl⟩
    have hfar : Y.Pairwise (fun y y' => y.1 ≠ y'.1) → Y.Pairwise (fun y y' => ∀ q ∈ walkL xs fs (stepC f c y.1) y.2.toNat, ∀ q' ∈ walkL xs fs (stepC f c y'.1) y'.2.toNat, q.1 ≠ q'.1) := by
      intro hpw
      refine hpw.imp_of_mem ?_
      intro y y' hy hy' hne
      rw [hY] at hy hy'
      exact far y hy y' hy' hne
    simp only [← hY] at hk far ⊢
    simp only [kidsF] at hY
    by_cases hw : k = 0 ∨ k = 4
    · rw [if_pos hw] at hY
      apply hfar
      rw [hY, List.pairwise_map]
      exact List.nodup_range.imp fun h h' => h (by simp at h'; omega)
    rw [if_neg hw] at hY
    by_cases k3 : k = 3
    · rw [if_pos k3] at hY
      rw [hY]
      simp
    rw [if_neg k3] at hY
    have k12 : k = 1 ∨ k = 2 := by
      by_cases h : k = 1 ∨ k = 2
      · exact h
      · simp only [lvFormed] at hf
        rw [if_neg (by omega), if_neg (by omega), if_neg k3, if_neg h] at hf
        cases hf
    have hP := lvFormed_pos hf k12
    simp only at hP
    obtain ⟨f', t, hf', ht', hft, htc⟩ := hP.at hp
    rw [hf', ht', Int.toNat_natCast, Int.toNat_natCast] at hY
    have hpps : p < ps.length - 1 := by have := hP.len; omega
    have hlt : (List.range' f' (t - f')).Pairwise fun a b => a < b := List.pairwise_lt_range' 
    by_cases k1 : k = 1
    · apply hfar
      simp only [lvRise] at hrise
      rw [if_pos k1] at hrise
      have hR := of_decide_eq_true hrise p hpps
      rw [hf', ht'] at hR
      have hst : ∀ d a, f' ≤ a → a + d + 1 < t → cs.getD a 0 < cs.getD (a + d + 1) 0 := by
        intro d
        induction d with
        | zero =>
          intro a h1 h2
          have := hR (a + 1) (by omega) (by omega) (by omega)
          simp only [Nat.add_sub_cancel] at this
          simp only [Nat.add_zero]
          omega
        | succ d ih =>
          intro a h1 h2
          have i1 := ih a h1 (by omega)
          have := hR (a + (d + 1) + 1) (by omega) (by omega) (by omega)
          simp only [Nat.add_sub_cancel] at this
          have e : a + d + 1 = a + (d + 1) := by omega
          rw [e] at i1
          omega
      rw [hY, List.pairwise_map]
      refine hlt.imp_of_mem ?_
      intro a b ha hb hab
      rw [List.mem_range'_1] at ha hb
      have := hst (b - a - 1) a ha.1 (by omega)
      rw [show a + (b - a - 1) + 1 = b by omega] at this
      simp only
      omega
    · have k2 : k = 2 := by omega
      have hs := chn_single hch' (.inl k2)
      simp only [riseF] at hri
      rw [if_pos k2] at hri
      have hR := of_decide_eq_true hri
      have hmem : ∀ a ∈ List.range' f' (t - f'), (cs.getD a 0, (a : Int)) ∈ Y := by
        intro a ha
        rw [hY]
        exact List.mem_map.2 ⟨a, ha, rfl⟩
      rw [hY, List.pairwise_map]
      refine hlt.imp_of_mem ?_
      intro a b ha hb hab
      have hya := hmem a ha
      have hyb := hmem b hb
      rw [List.mem_range'_1] at ha hb
      have hL := hR.lex hpps a (by rw [hf']; omega) (b - a - 1) (by rw [ht']; omega) (by omega)
      rw [show a + (b - a - 1) + 1 = b by omega] at hL
      rcases hL with hL | ⟨-, hL⟩
      · exact far _ hya _ hyb (by simp only at hL ⊢; omega)
      · have wa := (hk _ hya).2.2.2
        have wb := (hk _ hyb).2.2.2
        simp only [Int.toNat_natCast] at wa wb ⊢
        exact single_diff hS wa wb hs hL

/-- **What is gone through: all numbers, one behind the other, and no place twice.** -/
theorem tn_walk {S : List Int} {F : List (Int × Int × Int)} {xs : List LvA} {Vs : List Int} (hS : ∀ x ∈ S, -9223372036854775808 ≤ x ∧ x ≤ 9223372036854775807) (h : tnCheck S F xs Vs = 0) :
    (walkL xs F (List.replicate S.length 0) 0).map (·.2) = List.range Vs.length ∧ ((walkL xs F (List.replicate S.length 0) 0).Pairwise fun q r => q.1 ≠ r.1) ∧ ∀ q ∈ walkL xs F (List.replicate S.length 0) 0, InS S q.1 ∧ q.2 < Vs.length := by
  obtain ⟨hS0, M, hM, hmet, hway⟩ := tn_way hS h
  obtain ⟨h1, h2, h3, h4, h5, h6⟩ := tnCheck_ok h
  have hgood := tn_good hS h
  refine ⟨?_, ?_, fun q hq => hgood.mem h2 q hq⟩
  · rw [walkL_nums _ _ _ _ h2]
    obtain ⟨ws, hc, hN⟩ := hway.hc
    have := walkP_all xs 1 Vs.length ws hc hN
    simpa using this
  · refine hway.pair hS0 ?_ h6
    have hr := hway.hr
    have hfit := hway.hfit
    exact chn_of h2 (by simp) hr hfit
end Go.Fw
