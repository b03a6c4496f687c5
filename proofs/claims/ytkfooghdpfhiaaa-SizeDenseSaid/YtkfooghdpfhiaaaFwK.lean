/- All operations together. -/
import Derived.Test.YtkfooghdpfhiaaaFwJ
namespace Go.Fw
open Go Go.RowKit

section
variable {P : Program} {B : Nat} {w0 w : World} {m : BM} {H : List AObj} {fr : List AV} {a : Act}

theorem bnd_sound (hf : FRel w m H fr a.tmps) {o : Option Operand} {x : Option AX} (ho : opt trX o = some x) {d n : Int} (h : bound? d fr x = some n) :
    (o = none ∧ x = none ∧ n = d) ∨ ∃ k q, o = some q ∧ a.eval q = .int k n := by
  cases o with
  | none => simp [opt] at ho; subst ho; simp [bound?] at h; exact .inl ⟨rfl, rfl, h.symm⟩
  | some q =>
    simp only [opt, Option.map_eq_some_iff] at ho
    obtain ⟨ax, hax, rfl⟩ := ho
    simp only [bound?] at h
    split at h
    · rename_i k z hz
      cases h
      have := trX_rv hf hax
      rw [hz] at this
      exact .inr ⟨k, q, rfl, this.sc_inv.1⟩
    · cases h

theorem run_slice {t e : TypeId} {i : TypeInfo} (ht : P.underlying t = some (.slice e)) (hi : P.info? e = some i) (A : Option Addr) (len cap : Nat) (lo hi' mx : Option Value) (l h M : Nat)
    (hl : (lo = none ∧ l = 0) ∨ ∃ k, lo = some (.int k l)) (hM : (mx = none ∧ M = cap) ∨ (∃ k, mx = some (.int k M)) ∧ M ≤ cap)
    (hh : (hi' = none ∧ h = len ∧ mx = none) ∨ ∃ k, hi' = some (.int k h)) (hlh : l ≤ h) (hhM : h ≤ M) :
    (Instr.sliceAt t (.slice A len cap) lo hi' mx).run P w = .ok (.slice (if M = l then A else A.map (·.add (l * i.size))) (h - l) (M - l)) w := by
  have e1 : ∀ (n b : Nat), n ≤ b → (0 ≤ (n : Int) ∧ (n : Int) ≤ (b : Int)) := by intros; omega
  rcases hl with ⟨rfl, rfl⟩ | ⟨kl, rfl⟩ <;> rcases hM with ⟨rfl, rfl⟩ | ⟨⟨kM, rfl⟩, hMc⟩ <;> rcases hh with ⟨rfl, rfl, hm⟩ | ⟨kh, rfl⟩ <;>
    first
      | cases hm; done
      | simp [Instr.sliceAt, run_underlying ht, Instr.slice, Instr.sliceBounds, Instr.sliceBound, asIntOf, sizeOf, typeInfo, *]

theorem RI.slice {W : Nat → Prop} {ad : Addr} {n cap sz : Nat} {c : Option Nat} {xs : List AV} (h : RI w W (.imm false c sz xs) (.slice (some ad) n cap)) (l hh M : Nat) (hl : l ≤ hh) (hhn : hh ≤ xs.length) (hM : hh ≤ M) (c' : Option Nat)
    (hc' : ∀ k, c' = some k → k = M - l) :
    RI w W (.imm false c' sz ((xs.drop l).take (hh - l))) (.slice (if M = l then some ad else (some ad).map (·.add (l * sz))) (hh - l) (M - l)) := by
  cases h with | imm cv hn hcap hc hcell hsz hrv =>
  have hlen : ((xs.drop l).take (hh - l)).length = hh - l := by simp; omega
  have key : ∀ b : Addr, (hh - l ≠ 0 → b = ad.add (l * sz)) → RI w W (.imm false c' sz ((xs.drop l).take (hh - l))) (.slice (some b) (hh - l) (M - l)) := by
    intro b hb
    refine .imm (fun k j => cv (l + k) j) hlen (by omega) hc' (fun k j hk hj => ?_) (fun k hk => ?_) (fun k j hk hj => ?_)
    · rw [hb (by omega)]
      have := hcell (l + k) j (by omega) hj
      rw [add_add, show l * sz + (k * sz + j) = (l + k) * sz + j by rw [Nat.add_mul]; omega]
      exact ⟨this.1, by rw [add_block]; exact this.2⟩
    · have hk2 : l + k < xs.length := by omega
      have e : ((xs.drop l).take (hh - l))[k] = xs[l + k] := by simp
      rw [e]; exact hsz _ hk2
    · have hk2 : l + k < xs.length := by omega
      have e : ((xs.drop l).take (hh - l))[k] = xs[l + k] := by simp
      simp only [e] at hj ⊢
      exact hrv _ _ hk2 hj
  by_cases he : M = l
  · rw [if_pos he]; exact key ad (fun h => by omega)
  · rw [if_neg he]; exact key _ (fun _ => rfl)

theorem sl_sound (_r : Rel B w0 m H w) (hf : FRel w m H fr a.tmps) {t e : TypeId} {i : TypeInfo} (ht : P.underlying t = some (.slice e)) (hi : P.info? e = some i)
    {x : AX} {u : Value} (hx : RV w m H (x.ev fr) u) {lo hi' mx : Option Operand} {lo' hi'' mx' : Option AX} (h1 : opt trX lo = some lo') (h2 : opt trX hi' = some hi'') (h3 : opt trX mx = some mx')
    (hmx : ¬ (mx.isSome = true ∧ hi'.isNone = true)) {v : AV} {H' : List AObj} (h : evK (.sl i.size x lo' hi'' mx') fr H = some (v, H')) :
    H' = H ∧ ∃ u', (Instr.sliceAt t u (lo.map a.eval) (hi'.map a.eval) (mx.map a.eval)).run P w = .ok u' w ∧ RV w m H v u' := by
  have nb : ∀ (o : Option Operand) (n : Int) (d : Int), 0 ≤ n → ((o = none ∧ n = d) ∨ ∃ k q, o = some q ∧ a.eval q = .int k n) →
      ((o.map a.eval = none ∧ n = d) ∨ ∃ k, o.map a.eval = some (.int k (n.toNat : Int))) := by
    intro o n d h0 h
    rcases h with ⟨rfl, rfl⟩ | ⟨k, q, rfl, hq⟩
    · exact .inl ⟨rfl, rfl⟩
    · exact .inr ⟨k, by simp [hq, Int.toNat_of_nonneg h0]⟩
  simp only [evK] at h
  split at h
  · -- immutable
    rename_i nl c sz' xs hxe
    rw [hxe] at hx
    have hx' : RI w (Wr m H) (.imm nl c sz' xs) u := by cases hx with | ri h => exact h
    split at h
    case h_2 => cases h
    rename_i l hh hbl hbh
    have B1 := bnd_sound hf h1 hbl
    have B2 := bnd_sound hf h2 hbh
    split at h
    · -- no third bound
      split at h
      case isFalse => cases h
      rename_i hcond
      obtain ⟨c1, c2, c3, c4⟩ := hcond
      simp only [Option.some.injEq, Prod.mk.injEq] at h
      obtain ⟨rfl, rfl⟩ := h
      have hmn : mx = none := by cases mx with | none => rfl | some q => simp [opt] at h3
      subst hmn
      have hxs : (if l = 0 ∧ hh = xs.length then xs else (xs.drop l.toNat).take (hh.toNat - l.toNat)) = (xs.drop l.toNat).take (hh.toNat - l.toNat) := by
        split
        · rename_i hq; obtain ⟨rfl, rfl⟩ := hq; simp
        · rfl
      rw [hxs]
      have L1 := nb lo l 0 c1 (B1.imp (fun q => ⟨q.1, q.2.2⟩) id)
      have L2 := nb hi' hh xs.length (by omega) (B2.imp (fun q => ⟨q.1, q.2.2⟩) id)
      cases hx' with
      | nil =>
        have hl0 : l = 0 := by simp at c3; omega
        have hh0 : hh = 0 := by simp at c3; omega
        subst hl0; subst hh0
        refine ⟨rfl, _, run_slice ht hi none 0 0 _ _ _ 0 0 0 (L1.imp (fun q => ⟨q.1, rfl⟩) id) (.inl ⟨rfl, rfl⟩) (L2.imp (fun q => ⟨q.1, rfl, rfl⟩) id) (Nat.le_refl _) (Nat.le_refl _), ?_⟩
        simpa using RV.ri (RI.nil _ _)
      | @imm ad n cap _ _ _ cv hn hcap hc hcell hsz hrv =>
        have hsz' := c4.resolve_left (by simp)
        subst hsz'
        refine ⟨rfl, _, run_slice ht hi (some ad) n cap _ _ _ l.toNat hh.toNat cap (L1.imp (fun q => ⟨q.1, by omega⟩) id) (.inl ⟨rfl, rfl⟩) (L2.imp (fun q => ⟨q.1, by omega, rfl⟩) id) (by omega) (by omega), ?_⟩
        exact .ri ((RI.imm cv hn hcap hc hcell hsz hrv).slice l.toNat hh.toNat cap (by omega) (by omega) (by omega) _ (fun k hk => by
          cases c with
          | none => simp at hk
          | some k' => have := hc k' rfl; simp at hk; omega))
    · rename_i q
      split at h
      case h_2 => cases h
      rename_i k0 M hqe
      split at h
      case isFalse => cases h
      rename_i hcond
      obtain ⟨c1, c2, c3, c5, c4⟩ := hcond
      simp only [Option.some.injEq, Prod.mk.injEq] at h
      obtain ⟨rfl, rfl⟩ := h
      have B3 := bnd_sound (d := 0) hf h3 (n := M) (by simp [bound?, hqe])
      obtain ⟨k3, q3, rfl, hq3⟩ : ∃ k q', mx = some q' ∧ a.eval q' = .int k M := by
        rcases B3 with ⟨_, q1, _⟩ | q'
        · cases q1
        · exact q'
      have hne : hi' ≠ none := by intro e; exact hmx ⟨rfl, by rw [e]; rfl⟩
      have L1 := nb lo l 0 c1 (B1.imp (fun q => ⟨q.1, q.2.2⟩) id)
      have L2 : ∃ k, hi'.map a.eval = some (.int k (hh.toNat : Int)) := by
        rcases B2 with ⟨q1, _, _⟩ | ⟨k, q', rfl, hq'⟩
        · exact absurd q1 hne
        · exact ⟨k, by simp [hq', Int.toNat_of_nonneg (by omega : 0 ≤ hh)]⟩
      have L3 : ∃ k, (some q3).map a.eval = some (.int k (M.toNat : Int)) := ⟨k3, by simp [hq3, Int.toNat_of_nonneg (by omega : 0 ≤ M)]⟩
      cases hx' with
      | nil =>
        have hM0 : M = 0 := by simp at c5; omega
        have hl0 : l = 0 := by omega
        have hh0 : hh = 0 := by omega
        subst hl0; subst hh0; subst hM0
        refine ⟨rfl, _, run_slice ht hi none 0 0 _ _ _ 0 0 0 (L1.imp (fun q => ⟨q.1, rfl⟩) id) (.inr ⟨L3, Nat.le_refl _⟩) (.inr L2) (Nat.le_refl _) (Nat.le_refl _), ?_⟩
        simpa using RV.ri (RI.nil _ _)
      | @imm ad n cap _ _ _ cv hn hcap hc hcell hsz hrv =>
        have hsz' := c4.resolve_left (by simp)
        subst hsz'
        refine ⟨rfl, _, run_slice ht hi (some ad) n cap _ _ _ l.toNat hh.toNat M.toNat (L1.imp (fun q => ⟨q.1, by omega⟩) id) (.inr ⟨L3, by omega⟩) (.inr L2) (by omega) (by omega), ?_⟩
        exact .ri ((RI.imm cv hn hcap hc hcell hsz hrv).slice l.toNat hh.toNat M.toNat (by omega) (by omega) (by omega) _ (fun k hk => by simp at hk; omega))
  · -- the call's own
    rename_i j L off n c hxe
    rw [hxe] at hx
    cases hlv : live? H j L with
    | none => simp [hlv] at h
    | some o =>
      simp only [hlv] at h
      obtain ⟨ho, hl, hL⟩ := live?_some hlv
      obtain ⟨A, cap, o', rfl, ho', hL', hok⟩ := hx.slc_inv
      rw [ho] at ho'; cases ho'
      have hok0 := hok
      have hok := hok hl hL
      split at h
      case h_2 => cases h
      rename_i l hh hbl hbh
      have B1 := bnd_sound hf h1 hbl
      have B2 := bnd_sound hf h2 hbh
      split at h
      case isFalse => cases h
      rename_i hcond
      obtain ⟨c1, c2, c3⟩ := hcond
      have L1 := nb lo l 0 c1 (B1.imp (fun q => ⟨q.1, q.2.2⟩) id)
      have L2 := nb hi' hh n (by omega) (B2.imp (fun q => ⟨q.1, q.2.2⟩) id)
      split at h
      · rename_i b hv
        split at h
        case isFalse => cases h
        rename_i hc2
        obtain ⟨rfl, hmxn⟩ := hc2
        simp only [Option.some.injEq, Prod.mk.injEq] at h
        obtain ⟨rfl, rfl⟩ := h
        have hmn : mx = none := by cases mx with | none => rfl | some q => simp only [opt, Option.map_eq_some_iff] at h3; obtain ⟨_, _, rfl⟩ := h3; simp at hmxn
        subst hmn
        have hl0 : l = 0 := by omega
        subst hl0
        unfold SlcOk at hok
        rw [hv] at hok
        obtain ⟨hA0, rfl, rfl, rfl⟩ := hok
        refine ⟨rfl, _, run_slice ht hi A 0 0 _ _ _ 0 0 0 (L1.imp (fun q => ⟨q.1, rfl⟩) id) (.inl ⟨rfl, rfl⟩) (L2.imp (fun q => ⟨q.1, rfl, rfl⟩) id) (Nat.le_refl _) (Nat.le_refl _), ?_⟩
        simpa using hx
      · rename_i hv
        unfold SlcOk at hok
        rw [hv] at hok
        obtain ⟨hA0, hA1, hA2, hA3, hA4, hA5⟩ := hok
        have ea : ∀ q : Nat, (⟨(m j).1, off * o.sz, none⟩ : Addr).add (q * o.sz) = ⟨(m j).1, (off + q) * o.sz, none⟩ := by
          intro q; rw [Nat.add_mul]; unfold Addr.add; split <;> simp_all
        have key : ∀ (M : Nat) (c' : Option Nat), hh.toNat ≤ M → M ≤ cap → l.toNat ≤ hh.toNat → off + hh.toNat ≤ L → CapOk c' (L - (off + l.toNat)) (M - l.toNat) →
            RV w m H (.slc j L (off + l.toNat) (hh.toNat - l.toNat) c') (.slice (if M = l.toNat then A else A.map (·.add (l.toNat * o.sz))) (hh.toNat - l.toNat) (M - l.toNat)) := by
          intro M c' q1 q2 q3 q4 q5
          refine .slc o ho hL' (fun _ _ => ?_)
          unfold SlcOk
          rw [hv]
          refine ⟨?_, fun hpos => ?_, by omega, by omega, q5, by omega⟩
          · split
            · exact hA0
            · obtain ⟨b, rfl⟩ := Option.isSome_iff_exists.1 hA0; rfl
          · rw [if_neg (by omega), hA1 (by omega)]
            simp only [Option.map_some, Option.some.injEq]
            exact ea _
        split at h
        · split at h
          case isFalse => cases h
          rename_i hc2
          obtain ⟨d1, d2⟩ := hc2
          simp only [Option.some.injEq, Prod.mk.injEq] at h
          obtain ⟨rfl, rfl⟩ := h
          have hmn : mx = none := by cases mx with | none => rfl | some q => simp [opt] at h3
          subst hmn
          have hhc : hh.toNat ≤ cap := by
            cases c with
            | none => simp only [CapOk] at hA4; omega
            | some k => simp only [CapOk] at hA4; have := d2 k rfl; omega
          refine ⟨rfl, _, run_slice ht hi A n cap _ _ _ l.toNat hh.toNat cap (L1.imp (fun q => ⟨q.1, by omega⟩) id) (.inl ⟨rfl, rfl⟩) (L2.imp (fun q => ⟨q.1, by omega, rfl⟩) id) (by omega) hhc, ?_⟩
          rw [← c3]
          refine key cap _ hhc (Nat.le_refl _) (by omega) (by omega) ?_
          cases c with
          | none => simp only [CapOk, Option.map_none] at hA4 ⊢; omega
          | some k => simp only [CapOk, Option.map_some] at hA4 ⊢; omega
        · rename_i q
          split at h
          case h_2 => cases h
          rename_i k0 M hqe
          split at h
          case isFalse => cases h
          rename_i hc2
          obtain ⟨d1, d2, rfl⟩ := hc2
          simp only [Option.some.injEq, Prod.mk.injEq] at h
          obtain ⟨rfl, rfl⟩ := h
          have B3 := bnd_sound (d := 0) hf h3 (n := M) (by simp [bound?, hqe])
          obtain ⟨k3, q3, rfl, hq3⟩ : ∃ k q', mx = some q' ∧ a.eval q' = .int k M := by
            rcases B3 with ⟨_, q1, _⟩ | q'
            · cases q1
            · exact q'
          have hne : hi' ≠ none := by intro e; exact hmx ⟨rfl, by rw [e]; rfl⟩
          have L2' : ∃ k, hi'.map a.eval = some (.int k (hh.toNat : Int)) := by
            rcases B2 with ⟨q1, _, _⟩ | ⟨k, q', rfl, hq'⟩
            · exact absurd q1 hne
            · exact ⟨k, by simp [hq', Int.toNat_of_nonneg (by omega : 0 ≤ hh)]⟩
          have L3 : ∃ k, (some q3).map a.eval = some (.int k (M.toNat : Int)) := ⟨k3, by simp [hq3, Int.toNat_of_nonneg (by omega : 0 ≤ M)]⟩
          simp only [CapOk] at hA4
          refine ⟨rfl, _, run_slice ht hi A n cap _ _ _ l.toNat hh.toNat M.toNat (L1.imp (fun q => ⟨q.1, by omega⟩) id) (.inr ⟨L3, by omega⟩) (.inr L2') (by omega) (by omega), ?_⟩
          rw [← c3]
          exact key M.toNat _ (by omega) (by omega) (by omega) (by omega) rfl
  · cases h
end
end Go.Fw
