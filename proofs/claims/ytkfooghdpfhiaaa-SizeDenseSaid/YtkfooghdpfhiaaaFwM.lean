/- Each operation that is no call: the model's run does what 'evK' says. -/
import Derived.Test.YtkfooghdpfhiaaaFwK
namespace Go.Fw
open Go Go.RowKit

section
variable {P : Program} {B : Nat} {w0 w : World} {m : BM} {H : List AObj} {fr : List AV} {a : Act}

theorem Did.of {s : Sem Value} {v : AV} {H' : List AObj} (h : ∃ m' w' v', s.run P w = .ok v' w' ∧ Tr m H w m' H' w' ∧ Rel B w0 m' H' w' ∧ RV w' m' H' v v') :
    Did P B w0 m H w (do pure (.value (← s))) v H' := by
  obtain ⟨m', w', v', h1, h2, h3, h4⟩ := h
  exact ⟨m', w', .value v', v', by simp [h1], .inl rfl, h2, h3, h4⟩

theorem Did.read' (r : Rel B w0 m H w) {s : Sem Value} {v : AV} {H' : List AObj} (h : H' = H ∧ ∃ u', s.run P w = .ok u' w ∧ RV w m H v u') :
    Did P B w0 m H w (do pure (.value (← s))) v H' := by
  obtain ⟨rfl, u', h1, h2⟩ := h
  exact Did.read r h1 h2

theorem eqGuard_quiet {op : BinOp} {t : TypeId} {x y : Operand} {u u' : Value} (h1 : u ≠ .nilIface) (h2 : ∀ cs, u ≠ .agg cs) : (eqGuard op t x y u u').run P w = .ok () w := by
  unfold eqGuard
  cases op <;> first
    | rfl
    | (cases u <;> first
        | exact absurd rfl h1
        | exact absurd rfl (h2 _)
        | rfl
        | (cases u' <;> rfl))

theorem equal_bool {t : TypeId} (hu : P.underlying t = some .bool) (p q : Bool) : (Op.equal t (.bool p) (.bool q)).run P w = .ok (p == q) w := by
  have h : ∀ d, (Op.equalIn (d + 1) t (.bool p) (.bool q)).run P w = .ok (p == q) w := by intro d; simp [Op.equalIn, run_underlying hu]
  exact h 9999
theorem equal_nil {t e : TypeId} (hu : P.underlying t = some (.slice e)) (A : Option Addr) (n c : Nat) : (Op.equal t (.slice A n c) (.slice none 0 0)).run P w = .ok A.isNone w := by
  have h : ∀ d, (Op.equalIn (d + 1) t (.slice A n c) (.slice none 0 0)).run P w = .ok A.isNone w := by intro d; cases A <;> simp [Op.equalIn, run_underlying hu]
  exact h 9999

theorem eqGuard_sc {op : BinOp} {t : TypeId} {x y : Operand} {k : IntKind} {n : Int} {u' : Value} : (eqGuard op t x y (.int k n) u').run P w = .ok () w := eqGuard_quiet (by simp) (by simp)

theorem bin_pure {op : BinOp} {x y v : AV} (h : binEv op x y = some v) : (∃ k n, x = .sc (.int k n)) ∨ ∃ s, x = .sc (.string s) := by
  unfold binEv at h
  split at h
  · exact .inl ⟨_, _, rfl⟩
  · exact .inr ⟨_, rfl⟩
  · cases h

theorem trBin_sound (r : Rel B w0 m H w) (hf : FRel w m H fr a.tmps) {op : BinOp} {t : TypeId} {x y : Operand} {k : AK} (htr : trBin P op t x y = some k) {v : AV} {H' : List AObj} (hev : evK k fr H = some (v, H')) :
    H' = H ∧ ∃ u', (do eqGuard op t x y (a.eval x) (a.eval y); binOp op t (a.eval x) (a.eval y) : Sem Value).run P w = .ok u' w ∧ RV w m H v u' := by
  have plain : ∀ ax ay, trX x = some ax → trX y = some ay → k = .bin op ax ay → H' = H ∧ ∃ u', (do eqGuard op t x y (a.eval x) (a.eval y); binOp op t (a.eval x) (a.eval y) : Sem Value).run P w = .ok u' w ∧ RV w m H v u' := by
    intro ax ay hx hy hk
    subst hk
    simp only [evK] at hev
    cases hb : binEv op (ax.ev fr) (ay.ev fr) with
    | none => simp [hb] at hev
    | some z =>
      simp only [hb, Option.some.injEq, Prod.mk.injEq] at hev
      obtain ⟨rfl, rfl⟩ := hev
      have hx' := trX_rv hf hx
      have hy' := trX_rv hf hy
      obtain ⟨u, h1, h2⟩ := bin_sound (P := P) (t := t) hb hx' hy'
      refine ⟨rfl, u, ?_, h2⟩
      have hg : (eqGuard op t x y (a.eval x) (a.eval y)).run P w = .ok () w := by
        rcases bin_pure hb with ⟨k, n, he⟩ | ⟨s, he⟩
        · rw [he] at hx'; rw [hx'.sc_inv.1]; exact eqGuard_sc
        · rw [he] at hx'; rw [hx'.sc_inv.1]; exact eqGuard_quiet (by simp) (by simp)
      simp [hg, h1]
  have beq : ∀ neg ax ay, (op = .eql ∧ neg = false ∨ op = .neq ∧ neg = true) → P.underlying t = some .bool → trX x = some ax → trX y = some ay → k = .beq neg ax ay → H' = H ∧ ∃ u', (do eqGuard op t x y (a.eval x) (a.eval y); binOp op t (a.eval x) (a.eval y) : Sem Value).run P w = .ok u' w ∧ RV w m H v u' := by
    intro neg ax ay hop hu hx hy hk
    subst hk
    simp only [evK] at hev
    have hx' := trX_rv hf hx
    have hy' := trX_rv hf hy
    split at hev
    · rename_i p q hp hq
      simp only [Option.some.injEq, Prod.mk.injEq] at hev
      obtain ⟨rfl, rfl⟩ := hev
      rw [hp] at hx'; rw [hq] at hy'
      have e1 := hx'.sc_inv.1
      have e2 := hy'.sc_inv.1
      rw [e1, e2]
      have hg : (eqGuard op t x y (.bool p) (.bool q)).run P w = .ok () w := eqGuard_quiet (by simp) (by simp)
      rcases hop with ⟨rfl, rfl⟩ | ⟨rfl, rfl⟩
      · have h0 := equal_bool (w := w) hu p q
        exact ⟨rfl, .bool (p == q), by simp [hg, binOp, h0], .sc _ rfl⟩
      · have h0 := equal_bool (w := w) hu p q
        exact ⟨rfl, .bool (!(p == q)), by simp [hg, binOp, h0], .sc _ rfl⟩
    · cases hev
  have nq : ∀ neg ax e, (op = .eql ∧ neg = false ∨ op = .neq ∧ neg = true) → P.underlying t = some (.slice e) → y = .const (.slice none 0 0) → trX x = some ax → k = .nileq neg ax → H' = H ∧ ∃ u', (do eqGuard op t x y (a.eval x) (a.eval y); binOp op t (a.eval x) (a.eval y) : Sem Value).run P w = .ok u' w ∧ RV w m H v u' := by
    intro neg ax e hop hu hy hx hk
    subst hk; subst hy
    have hx' := trX_rv hf hx
    have fin : ∀ (A : Option Addr) (n c : Nat) (b : Bool), a.eval x = .slice A n c → A.isNone = b → v = Bo (if neg then !b else b) → H' = H → H' = H ∧ ∃ u', (do eqGuard op t x (.const (.slice none 0 0)) (a.eval x) (a.eval (.const (.slice none 0 0))); binOp op t (a.eval x) (a.eval (.const (.slice none 0 0))) : Sem Value).run P w = .ok u' w ∧ RV w m H v u' := by
      intro A n c b he hA hv hH
      subst hv; subst hH
      rw [he]
      have hg : (eqGuard op t x (.const (.slice none 0 0)) (.slice A n c) (.slice none 0 0)).run P w = .ok () w := eqGuard_quiet (by simp) (by simp)
      subst hA
      have h0 := equal_nil (w := w) hu A n c
      rcases hop with ⟨rfl, rfl⟩ | ⟨rfl, rfl⟩
      · exact ⟨rfl, .bool A.isNone, by simp [hg, binOp, h0, Act.eval], .sc _ rfl⟩
      · exact ⟨rfl, .bool (!A.isNone), by simp [hg, binOp, h0, Act.eval], .sc _ rfl⟩
    simp only [evK] at hev
    split at hev
    · rename_i nl c sz xs he
      simp only [Option.some.injEq, Prod.mk.injEq] at hev
      obtain ⟨rfl, rfl⟩ := hev
      rw [he] at hx'
      have hx'' : RI w (Wr m H) (.imm nl c sz xs) (a.eval x) := by cases hx' with | ri h => exact h
      generalize hev2 : a.eval x = ux at hx'' fin ⊢
      cases hx'' with
      | nil => exact fin none 0 0 true rfl rfl rfl rfl
      | imm => exact fin (some _) _ _ false rfl rfl rfl rfl
    · rename_i i L off n c he
      rw [he] at hx'
      cases hlv : live? H i L with
      | none => simp [hlv] at hev
      | some o =>
        simp only [hlv, Option.some.injEq, Prod.mk.injEq] at hev
        obtain ⟨rfl, rfl⟩ := hev
        obtain ⟨ho, hl, hL⟩ := live?_some hlv
        obtain ⟨A, cap, o', hu', ho', _, hok⟩ := hx'.slc_inv
        rw [ho] at ho'; cases ho'
        have hok := hok hl hL
        unfold SlcOk at hok
        refine fin A n cap (o.vir == some true) hu' ?_ rfl rfl
        cases hv : o.vir with
        | none => rw [hv] at hok; obtain ⟨b, rfl⟩ := Option.isSome_iff_exists.1 hok.1; rfl
        | some b => rw [hv] at hok; rw [hok.1]; cases b <;> rfl
    · cases hev
  unfold trBin at htr
  have two : ∀ {r : AX → AX → AK}, ((trX x).bind fun ax => (trX y).bind fun ay => some (r ax ay)) = some k → ∃ ax ay, trX x = some ax ∧ trX y = some ay ∧ k = r ax ay := by
    intro r h
    simp only [Option.bind_eq_some_iff, Option.some.injEq] at h
    obtain ⟨ax, hx, ay, hy, rfl⟩ := h
    exact ⟨ax, ay, hx, hy, rfl⟩
  have pl : ((trX x).bind fun ax => (trX y).bind fun ay => some (AK.bin op ax ay)) = some k → H' = H ∧ ∃ u', (do eqGuard op t x y (a.eval x) (a.eval y); binOp op t (a.eval x) (a.eval y) : Sem Value).run P w = .ok u' w ∧ RV w m H v u' := by
    intro h
    obtain ⟨ax, ay, hx, hy, hk⟩ := two h
    exact plain ax ay hx hy hk
  cases hu : P.underlying t with
  | none => cases op <;> simp [hu] at htr
  | some d =>
    cases d
    case bool =>
      cases op <;> simp only [hu, Option.bind_eq_bind, Option.bind_some] at htr
      case eql => obtain ⟨ax, ay, hx, hy, hk⟩ := two htr; exact beq false ax ay (.inl ⟨rfl, rfl⟩) hu hx hy hk
      case neq => obtain ⟨ax, ay, hx, hy, hk⟩ := two htr; exact beq true ax ay (.inr ⟨rfl, rfl⟩) hu hx hy hk
      all_goals cases htr
    case slice e =>
      cases op <;> simp only [hu, Option.bind_eq_bind, Option.bind_some] at htr
      case eql =>
        split at htr
        · simp only [Option.bind_eq_some_iff, Option.some.injEq] at htr
          obtain ⟨ax, hx, hk⟩ := htr
          exact nq false ax e (.inl ⟨rfl, rfl⟩) hu rfl hx hk.symm
        · cases htr
      case neq =>
        split at htr
        · simp only [Option.bind_eq_some_iff, Option.some.injEq] at htr
          obtain ⟨ax, hx, hk⟩ := htr
          exact nq true ax e (.inr ⟨rfl, rfl⟩) hu rfl hx hk.symm
        · cases htr
      all_goals cases htr
    case int => cases op <;> simp only [hu, Option.bind_eq_bind, Option.bind_some] at htr <;> exact pl htr
    case string => cases op <;> simp only [hu, Option.bind_eq_bind, Option.bind_some] at htr <;> exact pl htr
    all_goals cases op <;> simp [hu] at htr
end
end Go.Fw
