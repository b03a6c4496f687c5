/- Each operation that is no call: the model's run does what 'evK' says. -/
import Derived.ChangeKeysEq
import Derived.Test.YthipbeffhfdamaaFwK
import Derived.Laws.StructEq
namespace Go.Fw
open Go Go.RowKit
section
variable {P : Program} {B : Nat} {w0 w : World} {m : BM} {H : List AObj} {fr : List AV} {a : Act}
theorem Did.of {s : Sem Value} {v : AV} {H' : List AObj} (h : ∃ m' w' v', s.run P w = .ok v' w' ∧ Tr m H w m' H' w' ∧ Rel B w0 m' H' w' ∧ RV w' m' H' v v') :
    Did P B w0 m H w (do pure (.value (← s))) v H' := by
  obtain ⟨m', w', v', h1, h2, h3, h4⟩ := h
  exact ⟨m', w', .value v', v', by simp [h1], .inl rfl, h2, h3, h4⟩
theorem Did.read' (r : Rel B w0 m H w) {s : Sem Value} {v : AV} {H' : List AObj} (h : H' = H ∧ ∃ u', s.run P w = .ok u' w ∧ RV w m H v u') :
    Did P B w0 m H w (do pure (.value (← s))) v H' := by
  obtain ⟨rfl, u', h1, h2⟩ := h
  exact Did.read r h1 h2
theorem eqGuard_quiet {op : BinOp} {t : TypeId} {x y : Operand} {u u' : Value} (h1 : u ≠ .nilIface) (h2 : ∀ cs, u ≠ .agg cs) : (eqGuard op t x y u u').run P w = .ok () w := by
  unfold eqGuard
  cases op <;> first
    | rfl
    | (cases u <;> first
        | exact absurd rfl h1
        | exact absurd rfl (h2 _)
        | rfl
        | (cases u' <;> rfl))
theorem equal_bool {t : TypeId} (hu : P.underlying t = some .bool) (p q : Bool) : (Op.equal t (.bool p) (.bool q)).run P w = .ok (p == q) w := by
  have h : ∀ d, (Op.equalIn (d + 1) t (.bool p) (.bool q)).run P w = .ok (p == q) w := by intro d; simp [Op.equalIn, run_underlying hu]
  exact h 9999
theorem equal_nil {t e : TypeId} (hu : P.underlying t = some (.slice e)) (A : Option Addr) (n c : Nat) : (Op.equal t (.slice A n c) (.slice none 0 0)).run P w = .ok A.isNone w := by
  have h : ∀ d, (Op.equalIn (d + 1) t (.slice A n c) (.slice none 0 0)).run P w = .ok A.isNone w := by intro d; cases A <;> simp [Op.equalIn, run_underlying hu]
  exact h 9999
theorem eqGuard_sc {op : BinOp} {t : TypeId} {x y : Operand} {k : IntKind} {n : Int} {u' : Value} : (eqGuard op t x y (.int k n) u').run P w = .ok () w := eqGuard_quiet (by simp) (by simp)
theorem bin_pure {op : BinOp} {x y v : AV} (h : binEv op x y = some v) : (∃ k n, x = .sc (.int k n)) ∨ ∃ s, x = .sc (.string s) := by
  unfold binEv at h
  split at h
  · exact .inl ⟨_, _, rfl⟩
  · exact .inr ⟨_, rfl⟩
  · cases h
theorem aeqS_cons {k : Nat} {ks : List Nat} {a b : AV} {as bs : List AV} {r : Bool} (h : aeqS (k :: ks) (a :: as) (b :: bs) = some r) : ∃ r', aeqS ks as bs = some r' ∧
    ((k = 0 ∧ ∃ i m n, a = .sc (.int i m) ∧ b = .sc (.int i n) ∧ r = ((m == n) && r')) ∨ (k = 1 ∧ ∃ p q, a = .sc (.bool p) ∧ b = .sc (.bool q) ∧ r = ((p == q) && r')) ∨
      (k = 2 ∧ ∃ s t, a = .sc (.string s) ∧ b = .sc (.string t) ∧ r = ((s.toList == t.toList) && r'))) := by
  simp only [aeqS] at h
  split at h
  · split at h
    · rename_i e; subst e
      obtain ⟨r', h', rfl⟩ := Option.map_eq_some_iff.1 h
      exact ⟨r', h', .inl ⟨rfl, _, _, _, rfl, rfl, rfl⟩⟩
    · cases h
  · obtain ⟨r', h', rfl⟩ := Option.map_eq_some_iff.1 h
    exact ⟨r', h', .inr (.inl ⟨rfl, _, _, rfl, rfl, rfl⟩)⟩
  · obtain ⟨r', h', rfl⟩ := Option.map_eq_some_iff.1 h
    exact ⟨r', h', .inr (.inr ⟨rfl, _, _, rfl, rfl, rfl⟩)⟩
  · cases h
theorem eqFields_run {xs ys : Array Value} : ∀ (fl : List Field) (ks : List Nat) (o : Nat) (cs ds : List AV) (r : Bool), fl.mapM (eqKind P) = some ks → fl.map (·.offset) = List.range' o fl.length → fl.all (fun f => f.name != "_") = true → aeqS ks cs ds = some r →
    (∀ j (h : j < cs.length), ∃ v, xs[o + j]? = some v ∧ RV w m H cs[j] v) → (∀ j (h : j < ds.length), ∃ v, ys[o + j]? = some v ∧ RV w m H ds[j] v) → (Op.eqFields 9999 xs ys fl).run P w = .ok r w
  | [], ks, o, cs, ds, r, hk, _, _, h, _, _ => by
    simp at hk; subst hk
    cases cs <;> cases ds <;> simp [aeqS] at h
    subst h
    simp [Op.eqFields]
  | f :: fl, ks, o, cs, ds, r, hk, ho, hn, h, hx, hy => by
    simp only [List.mapM_cons, Option.bind_eq_bind, Option.bind_eq_some_iff] at hk
    obtain ⟨k, hk1, ks', hk2, hk3⟩ := hk
    cases hk3
    simp only [List.map_cons, List.length_cons, List.range'_succ, List.cons.injEq] at ho
    simp only [List.all_cons, Bool.and_eq_true, bne_iff_ne, ne_eq] at hn
    cases cs with
    | nil => simp [aeqS] at h
    | cons a as =>
    cases ds with
    | nil => simp [aeqS] at h
    | cons b bs =>
    obtain ⟨v, hv, rv⟩ := hx 0 (by simp)
    obtain ⟨u, hu, ru⟩ := hy 0 (by simp)
    simp only [Nat.add_zero, List.getElem_cons_zero] at hv rv hu ru
    have ih := fun r' h' => eqFields_run (xs := xs) (ys := ys) fl ks' (o + 1) as bs r' hk2 ho.2 hn.2 h'
      (fun j hj => by have := hx (j + 1) (by simpa using hj); simpa [Nat.add_assoc, Nat.add_comm 1] using this)
      (fun j hj => by have := hy (j + 1) (by simpa using hj); simpa [Nat.add_assoc, Nat.add_comm 1] using this)
    have agg : ∀ d, P.underlying f.type = some d → (∀ x, d ≠ .struct x) → (∀ n e, d ≠ .array n e) → (part f.type xs f.offset).run P w = .ok v w ∧ (part f.type ys f.offset).run P w = .ok u w := by
      intro d hd h1 h2
      have hag : isAggT P f.type = some false := by
        simp only [isAggT, hd]
      have := isAgg_run (w := w) hag
      simp [part, this, ho.1, hv, hu]
    unfold eqKind at hk1
    simp only [Op.eqFields, hn.1, not_false_eq_true, ne_eq, if_true]
    obtain ⟨r', h', hc⟩ := aeqS_cons h
    have ih := ih r' h'
    rcases hc with ⟨rfl, i, m, n, rfl, rfl, rfl⟩ | ⟨rfl, p, q, rfl, rfl, rfl⟩ | ⟨rfl, s1, s2, rfl, rfl, rfl⟩
    all_goals
      have ev := rv.sc_inv.1
      have eu := ru.sc_inv.1
      subst ev eu
    · split at hk1 <;> first | (cases hk1; done) | skip
      rename_i k' hd
      obtain ⟨p1, p2⟩ := agg _ hd (by simp) (by simp)
      have he := run_equalIn_int (P := P) w 9998 f.type i k' m n hd
      simp only [Sem.run_bind, p1, p2, Result.andThen_ok, he]
      cases hb : m == n <;> simp [ih]
    · split at hk1 <;> first | (cases hk1; done) | skip
      rename_i hd
      obtain ⟨p1, p2⟩ := agg _ hd (by simp) (by simp)
      have he := run_equalIn_bool' (P := P) w 9998 f.type p q hd
      simp only [Sem.run_bind, p1, p2, Result.andThen_ok, he]
      cases hb : p == q <;> simp [ih]
    · split at hk1 <;> first | (cases hk1; done) | skip
      rename_i hd
      obtain ⟨p1, p2⟩ := agg _ hd (by simp) (by simp)
      have he := run_equalIn_string (P := P) w 9998 f.type s1 s2 hd
      simp only [Sem.run_bind, p1, p2, Result.andThen_ok, he]
      cases hb : s1.toList == s2.toList <;> simp [ih]
theorem eqItems_run {xs ys : Array Value} {e : TypeId} {kk : IntKind} (hd : P.underlying e = some (.int kk)) : ∀ (n o : Nat) (cs ds : List AV) (r : Bool), aeqS (List.replicate n 0) cs ds = some r →
    (∀ j (h : j < cs.length), ∃ v, xs[o + j]? = some v ∧ RV w m H cs[j] v) → (∀ j (h : j < ds.length), ∃ v, ys[o + j]? = some v ∧ RV w m H ds[j] v) → (Op.eqItems 9999 e 1 xs ys (List.range' o n)).run P w = .ok r w
  | 0, o, cs, ds, r, h, _, _ => by
    cases cs <;> cases ds <;> simp [aeqS] at h
    subst h
    simp [Op.eqItems]
  | n + 1, o, cs, ds, r, h, hx, hy => by
    rw [List.replicate_succ] at h
    cases cs with
    | nil => simp [aeqS] at h
    | cons a as =>
    cases ds with
    | nil => simp [aeqS] at h
    | cons b bs =>
    obtain ⟨v, hv, rv⟩ := hx 0 (by simp)
    obtain ⟨u, hu, ru⟩ := hy 0 (by simp)
    simp only [Nat.add_zero, List.getElem_cons_zero] at hv rv hu ru
    obtain ⟨r', h', hc⟩ := aeqS_cons h
    have ih := eqItems_run (xs := xs) (ys := ys) hd n (o + 1) as bs r' h'
      (fun j hj => by have := hx (j + 1) (by simpa using hj); simpa [Nat.add_assoc, Nat.add_comm 1] using this)
      (fun j hj => by have := hy (j + 1) (by simpa using hj); simpa [Nat.add_assoc, Nat.add_comm 1] using this)
    have hag : isAggT P e = some false := by simp only [isAggT, hd]
    have h1 := isAgg_run (w := w) hag
    have p1 : (part e xs (o * 1)).run P w = .ok v w := by simp [part, h1, hv]
    have p2 : (part e ys (o * 1)).run P w = .ok u w := by simp [part, h1, hu]
    rcases hc with ⟨-, i, m, n, rfl, rfl, rfl⟩ | ⟨hk, _⟩ | ⟨hk, _⟩
    · have ev := rv.sc_inv.1
      have eu := ru.sc_inv.1
      subst ev eu
      have he := run_equalIn_int (P := P) w 9998 e i kk m n hd
      simp only [List.range'_succ, Op.eqItems, Sem.run_bind, p1, p2, Result.andThen_ok, he]
      cases hb : m == n <;> simp [ih]
    · cases hk
    · cases hk
theorem trBin_sound (r : Rel B w0 m H w) (hf : FRel w m H fr a.tmps) {op : BinOp} {t : TypeId} {x y : Operand} {k : AK} (htr : trBin P op t x y = some k) {v : AV} {H' : List AObj} (hev : evK k fr H = some (v, H')) :
    H' = H ∧ ∃ u', (do eqGuard op t x y (a.eval x) (a.eval y); binOp op t (a.eval x) (a.eval y) : Sem Value).run P w = .ok u' w ∧ RV w m H v u' := by
  have plain : ∀ ax ay, trX x = some ax → trX y = some ay → k = .bin op ax ay → H' = H ∧ ∃ u', (do eqGuard op t x y (a.eval x) (a.eval y); binOp op t (a.eval x) (a.eval y) : Sem Value).run P w = .ok u' w ∧ RV w m H v u' := by
    intro ax ay hx hy hk
    subst hk
    simp only [evK] at hev
    cases hb : binEv op (ax.ev fr) (ay.ev fr) with
    | none => simp [hb] at hev
    | some z =>
      simp only [hb, Option.some.injEq, Prod.mk.injEq] at hev
      obtain ⟨rfl, rfl⟩ := hev
      have hx' := trX_rv hf hx
      have hy' := trX_rv hf hy
      obtain ⟨u, h1, h2⟩ := bin_sound (P := P) (t := t) hb hx' hy'
      refine ⟨rfl, u, ?_, h2⟩
      have hg : (eqGuard op t x y (a.eval x) (a.eval y)).run P w = .ok () w := by
        rcases bin_pure hb with ⟨k, n, he⟩ | ⟨s, he⟩
        · rw [he] at hx'; rw [hx'.sc_inv.1]; exact eqGuard_sc
        · rw [he] at hx'; rw [hx'.sc_inv.1]; exact eqGuard_quiet (by simp) (by simp)
      simp [hg, h1]
  have beq : ∀ neg ax ay, (op = .eql ∧ neg = false ∨ op = .neq ∧ neg = true) → P.underlying t = some .bool → trX x = some ax → trX y = some ay → k = .beq neg ax ay → H' = H ∧ ∃ u', (do eqGuard op t x y (a.eval x) (a.eval y); binOp op t (a.eval x) (a.eval y) : Sem Value).run P w = .ok u' w ∧ RV w m H v u' := by
    intro neg ax ay hop hu hx hy hk
    subst hk
    simp only [evK] at hev
    have hx' := trX_rv hf hx
    have hy' := trX_rv hf hy
    split at hev
    · rename_i p q hp hq
      simp only [Option.some.injEq, Prod.mk.injEq] at hev
      obtain ⟨rfl, rfl⟩ := hev
      rw [hp] at hx'; rw [hq] at hy'
      have e1 := hx'.sc_inv.1
      have e2 := hy'.sc_inv.1
      rw [e1, e2]
      have hg : (eqGuard op t x y (.bool p) (.bool q)).run P w = .ok () w := eqGuard_quiet (by simp) (by simp)
      rcases hop with ⟨rfl, rfl⟩ | ⟨rfl, rfl⟩
      · have h0 := equal_bool (w := w) hu p q
        exact ⟨rfl, .bool (p == q), by simp [hg, binOp, h0], .sc _ rfl⟩
      · have h0 := equal_bool (w := w) hu p q
        exact ⟨rfl, .bool (!(p == q)), by simp [hg, binOp, h0], .sc _ rfl⟩
    · cases hev
  have nq : ∀ neg ax e, (op = .eql ∧ neg = false ∨ op = .neq ∧ neg = true) → P.underlying t = some (.slice e) → y = .const (.slice none 0 0) → trX x = some ax → k = .nileq neg ax → H' = H ∧ ∃ u', (do eqGuard op t x y (a.eval x) (a.eval y); binOp op t (a.eval x) (a.eval y) : Sem Value).run P w = .ok u' w ∧ RV w m H v u' := by
    intro neg ax e hop hu hy hx hk
    subst hk; subst hy
    have hx' := trX_rv hf hx
    have fin : ∀ (A : Option Addr) (n c : Nat) (b : Bool), a.eval x = .slice A n c → A.isNone = b → v = Bo (if neg then !b else b) → H' = H → H' = H ∧ ∃ u', (do eqGuard op t x (.const (.slice none 0 0)) (a.eval x) (a.eval (.const (.slice none 0 0))); binOp op t (a.eval x) (a.eval (.const (.slice none 0 0))) : Sem Value).run P w = .ok u' w ∧ RV w m H v u' := by
      intro A n c b he hA hv hH
      subst hv; subst hH
      rw [he]
      have hg : (eqGuard op t x (.const (.slice none 0 0)) (.slice A n c) (.slice none 0 0)).run P w = .ok () w := eqGuard_quiet (by simp) (by simp)
      subst hA
      have h0 := equal_nil (w := w) hu A n c
      rcases hop with ⟨rfl, rfl⟩ | ⟨rfl, rfl⟩
      · exact ⟨rfl, .bool A.isNone, by simp [hg, binOp, h0, Act.eval], .sc _ rfl⟩
      · exact ⟨rfl, .bool (!A.isNone), by simp [hg, binOp, h0, Act.eval], .sc _ rfl⟩
    simp only [evK] at hev
    split at hev
    · rename_i nl c sz xs he
      split at hev
      case isFalse => cases hev
      rename_i hne
      simp only [Option.some.injEq, Prod.mk.injEq] at hev
      obtain ⟨rfl, rfl⟩ := hev
      rw [he] at hx'
      have hx'' : RI w (Wr m H) (.imm nl c sz xs) (a.eval x) := by cases hx' with | ri h => exact h
      generalize hev2 : a.eval x = ux at hx'' fin ⊢
      cases hx'' with
      | nil => exact fin none 0 0 true rfl rfl rfl rfl
      | nilx _ _ hcx =>
        cases c with
        | none => simp at hne
        | some k => have := hcx k rfl; subst this; simp at hne
      | imm => exact fin (some _) _ _ false rfl rfl rfl rfl
    · rename_i i L off n c he
      rw [he] at hx'
      cases hlv : live? H i L with
      | none => simp [hlv] at hev
      | some o =>
        simp only [hlv, Option.some.injEq, Prod.mk.injEq] at hev
        obtain ⟨rfl, rfl⟩ := hev
        obtain ⟨ho, hl, hL⟩ := live?_some hlv
        obtain ⟨A, cap, o', hu', ho', _, hok⟩ := hx'.slc_inv
        rw [ho] at ho'; cases ho'
        have hok := hok hl hL
        unfold SlcOk at hok
        refine fin A n cap (o.vir == some true) hu' ?_ rfl rfl
        cases hv : o.vir with
        | none => rw [hv] at hok; obtain ⟨b, rfl⟩ := Option.isSome_iff_exists.1 hok.1; rfl
        | some b => rw [hv] at hok; rw [hok.1]; cases b <;> rfl
    · cases hev
  unfold trBin at htr
  have two : ∀ {r : AX → AX → AK}, ((trX x).bind fun ax => (trX y).bind fun ay => some (r ax ay)) = some k → ∃ ax ay, trX x = some ax ∧ trX y = some ay ∧ k = r ax ay := by
    intro r h
    simp only [Option.bind_eq_some_iff, Option.some.injEq] at h
    obtain ⟨ax, hx, ay, hy, rfl⟩ := h
    exact ⟨ax, ay, hx, hy, rfl⟩
  have pl : ((trX x).bind fun ax => (trX y).bind fun ay => some (AK.bin op ax ay)) = some k → H' = H ∧ ∃ u', (do eqGuard op t x y (a.eval x) (a.eval y); binOp op t (a.eval x) (a.eval y) : Sem Value).run P w = .ok u' w ∧ RV w m H v u' := by
    intro h
    obtain ⟨ax, ay, hx, hy, hk⟩ := two h
    exact plain ax ay hx hy hk
  cases hu : P.underlying t with
  | none => cases op <;> simp [hu] at htr
  | some d =>
    cases d
    case bool =>
      cases op <;> simp only [hu, Option.bind_eq_bind, Option.bind_some] at htr
      case eql => obtain ⟨ax, ay, hx, hy, hk⟩ := two htr; exact beq false ax ay (.inl ⟨rfl, rfl⟩) hu hx hy hk
      case neq => obtain ⟨ax, ay, hx, hy, hk⟩ := two htr; exact beq true ax ay (.inr ⟨rfl, rfl⟩) hu hx hy hk
      all_goals cases htr
    case slice e =>
      cases op <;> simp only [hu, Option.bind_eq_bind, Option.bind_some] at htr
      case eql =>
        split at htr
        · simp only [Option.bind_eq_some_iff, Option.some.injEq] at htr
          obtain ⟨ax, hx, hk⟩ := htr
          exact nq false ax e (.inl ⟨rfl, rfl⟩) hu rfl hx hk.symm
        · cases htr
      case neq =>
        split at htr
        · simp only [Option.bind_eq_some_iff, Option.some.injEq] at htr
          obtain ⟨ax, hx, hk⟩ := htr
          exact nq true ax e (.inr ⟨rfl, rfl⟩) hu rfl hx hk.symm
        · cases htr
      all_goals cases htr
    case int => cases op <;> simp only [hu, Option.bind_eq_bind, Option.bind_some] at htr <;> exact pl htr
    case string => cases op <;> simp only [hu, Option.bind_eq_bind, Option.bind_some] at htr <;> exact pl htr
    case struct fs =>
      have go : ∀ neg, (op = .eql ∧ neg = false ∨ op = .neq ∧ neg = true) → ((eqKinds P t fs).bind fun ks => (trX x).bind fun ax => (trX y).bind fun ay => some (AK.aeq neg ks ax ay)) = some k →
          H' = H ∧ ∃ u', (do eqGuard op t x y (a.eval x) (a.eval y); binOp op t (a.eval x) (a.eval y) : Sem Value).run P w = .ok u' w ∧ RV w m H v u' := by
        intro neg hop h
        simp only [Option.bind_eq_some_iff, Option.some.injEq] at h
        obtain ⟨ks, hks, ax, hx, ay, hy, rfl⟩ := h
        have hx' := trX_rv hf hx
        have hy' := trX_rv hf hy
        simp only [evK] at hev
        split at hev
        case h_2 => cases hev
        rename_i cs ds ex ey
        cases hq : aeqS ks cs ds with
        | none => simp [hq] at hev
        | some q =>
          simp only [hq, Option.some.injEq, Prod.mk.injEq] at hev
          obtain ⟨rfl, rfl⟩ := hev
          rw [ex] at hx'
          rw [ey] at hy'
          obtain ⟨xs, hax, hxn, hxr⟩ := hx'.agg_inv
          obtain ⟨ys, hay, hyn, hyr⟩ := hy'.agg_inv
          unfold eqKinds at hks
          split at hks
          case isFalse => cases hks
          rename_i hc
          obtain ⟨c1, c2, c3, c4⟩ := hc
          have hfo : P.fieldsOf t = fs := by simp [Program.fieldsOf, hu]
          have he := eqFields_run (P := P) (w := w) (xs := xs) (ys := ys) fs.toList ks 0 cs ds q hks (by simpa using c3) c4 hq
            (fun j h => ⟨xs[j]'(by omega), by simp [show j < xs.size by omega], hxr j h (by omega)⟩) (fun j h => ⟨ys[j]'(by omega), by simp [show j < ys.size by omega], hyr j h (by omega)⟩)
          have he2 : (Op.equalIn 10000 t (.agg xs) (.agg ys)).run P w = .ok q w := by
            rw [show (10000 : Nat) = 9999 + 1 from rfl, run_equalIn_agg w 9999 t xs ys (by rw [hfo]; exact hu) c1, hfo, he]
          refine ⟨rfl, .bool (if neg then !q else q), ?_, .sc _ rfl⟩
          rw [hax, hay]
          simp only [Sem.run_bind, run_eqGuard_agg w op t x y xs ys c2, Result.andThen_ok]
          rcases hop with ⟨rfl, rfl⟩ | ⟨rfl, rfl⟩
          · rw [run_eql_struct, he2]; simp
          · rw [run_neq_struct, he2]; simp
      cases op <;> simp only [hu, Option.bind_eq_bind, Option.bind_some] at htr
      case eql => exact go false (.inl ⟨rfl, rfl⟩) htr
      case neq => exact go true (.inr ⟨rfl, rfl⟩) htr
      all_goals cases htr
    case array na ea =>
      have go : ∀ neg, (op = .eql ∧ neg = false ∨ op = .neq ∧ neg = true) → ((eqArr P t na ea).bind fun ks => (trX x).bind fun ax => (trX y).bind fun ay => some (AK.aeq neg ks ax ay)) = some k →
          H' = H ∧ ∃ u', (do eqGuard op t x y (a.eval x) (a.eval y); binOp op t (a.eval x) (a.eval y) : Sem Value).run P w = .ok u' w ∧ RV w m H v u' := by
        intro neg hop h
        simp only [Option.bind_eq_some_iff, Option.some.injEq] at h
        obtain ⟨ks, hks, ax, hx, ay, hy, rfl⟩ := h
        have hx' := trX_rv hf hx
        have hy' := trX_rv hf hy
        simp only [evK] at hev
        split at hev
        case h_2 => cases hev
        rename_i cs ds ex ey
        cases hq : aeqS ks cs ds with
        | none => simp [hq] at hev
        | some q =>
          simp only [hq, Option.some.injEq, Prod.mk.injEq] at hev
          obtain ⟨rfl, rfl⟩ := hev
          rw [ex] at hx'
          rw [ey] at hy'
          obtain ⟨xs, hax, hxn, hxr⟩ := hx'.agg_inv
          obtain ⟨ys, hay, hyn, hyr⟩ := hy'.agg_inv
          unfold eqArr at hks
          split at hks
          case h_2 => cases hks
          rename_i kk hd
          split at hks
          case isFalse => cases hks
          rename_i hc
          obtain ⟨c2, c3, c4⟩ := hc
          simp only [Option.some.injEq] at hks
          subst hks
          obtain ⟨ie, hie⟩ := Option.isSome_iff_exists.1 c4
          have he := eqItems_run (P := P) (w := w) (xs := xs) (ys := ys) hd na 0 cs ds q hq
            (fun j h => ⟨xs[j]'(by omega), by simp [show j < xs.size by omega], hxr j h (by omega)⟩) (fun j h => ⟨ys[j]'(by omega), by simp [show j < ys.size by omega], hyr j h (by omega)⟩)
          have he2 : (Op.equalIn 10000 t (.agg xs) (.agg ys)).run P w = .ok q w := by
            rw [show (10000 : Nat) = 9999 + 1 from rfl, run_equalIn_array w 9999 xs ys hu hie, c3, List.range_eq_range', he]
          refine ⟨rfl, .bool (if neg then !q else q), ?_, .sc _ rfl⟩
          rw [hax, hay]
          simp only [Sem.run_bind, run_eqGuard_agg w op t x y xs ys c2, Result.andThen_ok]
          rcases hop with ⟨rfl, rfl⟩ | ⟨rfl, rfl⟩
          · rw [run_eql_struct, he2]; simp
          · rw [run_neq_struct, he2]; simp
      cases op <;> simp only [hu, Option.bind_eq_bind, Option.bind_some] at htr
      case eql => exact go false (.inl ⟨rfl, rfl⟩) htr
      case neq => exact go true (.inr ⟨rfl, rfl⟩) htr
      all_goals cases htr
    all_goals cases op <;> simp [hu] at htr
end
end Go.Fw
/- 'evK' is sound. -/
namespace Go.Fw
open Go Go.RowKit
section
variable {P : Program} {B : Nat} {w0 w : World} {m : BM} {H : List AObj} {fr : List AV} {a : Act}
theorem RVs_of_mapM (hf : FRel w m H fr a.tmps) {xs : Array Operand} {axs : List AX} (h : xs.toList.mapM trX = some axs) :
    (axs.map (·.ev fr)).length = (xs.map a.eval).size ∧ ∀ j (hj : j < (axs.map (·.ev fr)).length) (hj' : j < (xs.map a.eval).size), RV w m H (axs.map (·.ev fr))[j] (xs.map a.eval)[j] := by
  obtain ⟨h1, h2⟩ := mapX_rv hf h
  refine ⟨by simpa using h1, fun j hj hj' => ?_⟩
  have := h2 j (by simpa using hj) (by simpa using hj')
  simpa using this
set_option maxHeartbeats 1000000 in
theorem evK_sound (r : Rel B w0 m H w) (hf : FRel w m H fr a.tmps) {own : List Nat} {o : Oper} {k : AK} (htr : trK P own o = some k) {v : AV} {H' : List AObj} (hev : evK k fr H = some (v, H')) :
    Did P B w0 m H w (execOp a.eval o) v H' := by
  unfold trK at htr
  unfold execOp
  split at htr
  case h_1 x hop =>
    simp only [Option.bind_eq_bind, Option.bind_eq_some_iff, Option.some.injEq] at htr
    obtain ⟨ax, hx, rfl⟩ := htr
    simp only [evK, Option.some.injEq, Prod.mk.injEq] at hev
    obtain ⟨rfl, rfl⟩ := hev
    simp only [hop]
    exact ⟨m, w, _, _, by simp, .inl rfl, Tr.refl _ _ _, r, trX_rv hf hx⟩
  case h_2 x hop =>
    simp only [Option.bind_eq_bind, Option.bind_eq_some_iff, Option.some.injEq] at htr
    obtain ⟨ax, hx, rfl⟩ := htr
    simp only [evK, Option.some.injEq, Prod.mk.injEq] at hev
    obtain ⟨rfl, rfl⟩ := hev
    simp only [hop]
    exact ⟨m, w, _, _, by simp, .inl rfl, Tr.refl _ _ _, r, trX_rv hf hx⟩
  case h_3 c x y hop =>
    simp only [Option.bind_eq_bind, Option.bind_eq_some_iff, Option.some.injEq] at htr
    obtain ⟨ac, hc, ax, hx, ay, hy, rfl⟩ := htr
    simp only [evK] at hev
    split at hev
    case h_2 => cases hev
    rename_i t ht
    simp only [Option.some.injEq, Prod.mk.injEq] at hev
    obtain ⟨rfl, rfl⟩ := hev
    have hc' := trX_rv hf hc
    rw [ht] at hc'
    simp only [hop, hc'.sc_inv.1]
    refine ⟨m, w, _, if t then a.eval x else a.eval y, by cases t <;> simp [asBool], .inl rfl, Tr.refl _ _ _, r, ?_⟩
    cases t
    · exact trX_rv hf hy
    · exact trX_rv hf hx
  case h_4 e hop =>
    simp only [Option.bind_eq_bind, Option.bind_eq_some_iff, Option.some.injEq] at htr
    obtain ⟨i, hi, z, hz, az, haz, rfl⟩ := htr
    obtain ⟨m', w', v', h1, h2, h3, h4⟩ := new_sound (P := P) (fr := fr) (x := .c az) (u := z) r (.ri (toAV_rv haz)) hev
    simp only [hop]
    exact Did.of ⟨m', w', _, by simp [Instr.alloc, zeroValue, typeInfo, hi, hz, h1], h2, h3, h4⟩
  case h_5 e x hop =>
    simp only [Option.bind_eq_bind, Option.bind_eq_some_iff, Option.some.injEq] at htr
    obtain ⟨sz, hs, ax, hx, rfl⟩ := htr
    obtain ⟨m', w', v', h1, h2, h3, h4⟩ := new_sound (P := P) (fr := fr) r (trX_rv hf hx) hev
    simp only [hop]
    exact Did.of ⟨m', w', _, by simp [Instr.box, h1], h2, h3, h4⟩
  case h_6 t parts hop =>
    simp only [Option.bind_eq_bind, Option.bind_eq_some_iff] at htr
    obtain ⟨i, hi, z, hz, az, haz, htr⟩ := htr
    split at htr
    case h_2 => cases htr
    rename_i zs
    split at htr
    · rename_i fields hu
      simp only [Option.bind_eq_some_iff, Option.some.injEq] at htr
      obtain ⟨places, hpl, ps, hps, rfl⟩ := htr
      simp only [evK] at hev
      cases hfp : fillParts zs (ps.map fun p => (p.1, p.2.1, p.2.2.ev fr)) with
      | none => simp [hfp] at hev
      | some cs =>
        simp only [hfp, Option.some.injEq, Prod.mk.injEq] at hev
        obtain ⟨rfl, rfl⟩ := hev
        obtain ⟨p1, p2⟩ := mapM_some hps
        have hzr : RV w m H (.agg zs) z := .ri (toAV_rv haz)
        obtain ⟨vs, rfl, q1, q2⟩ := hzr.agg_inv
        obtain ⟨cells, f1, f2, f3⟩ := fill_sound (w := w) (m := m) (H := H) (place := (places.toArray[·]?)) ((parts.map fun (i, x) => (i, a.eval x)).toList) (ps.map fun p => (p.1, p.2.1, p.2.2.ev fr)) vs zs cs
          (by simpa using p1) (fun j hj hj' => by
            have hj1 : j < parts.toList.length := by simpa using hj
            have hj2 : j < ps.length := by simpa using hj'
            have := p2 j hj1 hj2
            simp only [Option.bind_eq_some_iff, Option.map_eq_some_iff] at this
            obtain ⟨pl, hp, x, hx, he⟩ := this
            have he2 : ps[j] = (pl.1, pl.2, x) := he.symm
            simp only [List.getElem_map, he2, Array.toList_map]
            exact ⟨by simpa using hp, trX_rv hf hx⟩) q1 q2 hfp
        simp only [hop]
        refine Did.read r (run_build w t _ cells ?_) (.agg f2 f3)
        unfold Program.built
        simp only [hi, hu, hz, hpl]
        exact f1
    · rename_i nn e hu
      simp only [Option.bind_eq_some_iff, Option.some.injEq] at htr
      obtain ⟨sz, hsz, ps, hps, rfl⟩ := htr
      simp only [szT, Option.map_eq_some_iff] at hsz
      obtain ⟨ie, hie, rfl⟩ := hsz
      simp only [evK] at hev
      cases hfp : fillParts zs (ps.map fun p => (p.1, p.2.1, p.2.2.ev fr)) with
      | none => simp [hfp] at hev
      | some cs =>
        simp only [hfp, Option.some.injEq, Prod.mk.injEq] at hev
        obtain ⟨rfl, rfl⟩ := hev
        obtain ⟨p1, p2⟩ := mapM_some hps
        have hzr : RV w m H (.agg zs) z := .ri (toAV_rv haz)
        obtain ⟨vs, rfl, q1, q2⟩ := hzr.agg_inv
        obtain ⟨cells, f1, f2, f3⟩ := fill_sound (w := w) (m := m) (H := H) (place := fun i => some (i * ie.size, ie.size)) ((parts.map fun (i, x) => (i, a.eval x)).toList) (ps.map fun p => (p.1, p.2.1, p.2.2.ev fr)) vs zs cs
          (by simpa using p1) (fun j hj hj' => by
            have hj1 : j < parts.toList.length := by simpa using hj
            have hj2 : j < ps.length := by simpa using hj'
            have := p2 j hj1 hj2
            simp only [Option.map_eq_some_iff] at this
            obtain ⟨x, hx, he⟩ := this
            have he2 : ps[j] = (_, _, x) := he.symm
            simp only [List.getElem_map, he2, Array.toList_map]
            exact ⟨by simp, trX_rv hf hx⟩) q1 q2 hfp
        simp only [hop]
        refine Did.read r (run_build w t _ cells ?_) (.agg f2 f3)
        unfold Program.built
        simp only [hi, hu, hz, hie]
        exact f1
    · cases htr
  case h_7 t len parts hop =>
    split at htr
    case h_2 => cases htr
    rename_i e hu
    simp only [Option.bind_eq_bind, Option.bind_eq_some_iff] at htr
    obtain ⟨i, hi, z, hz, htr⟩ := htr
    split at htr
    case isFalse => cases htr
    rename_i hcond
    obtain ⟨rfl, hidx, hsz, hbig⟩ := hcond
    simp only [Option.bind_eq_some_iff] at htr
    obtain ⟨ps, hps, htr⟩ := htr
    obtain ⟨p1, p2⟩ := mapM_some hps
    obtain ⟨vp, hvp⟩ : ∃ vp : Array (Nat × Value), vp = parts.map fun (p : Nat × Operand) => (p.1, a.eval p.2) := ⟨_, rfl⟩
    have hrv : ∀ j (h : j < (ps.map (·.ev fr)).length) (h' : j < vp.size), RV w m H (ps.map (·.ev fr))[j] vp[j].2 := by
      intro j h h'
      subst hvp
      have hj2 : j < ps.length := by simpa using h
      have := p2 j (by omega) hj2
      simpa using trX_rv hf this
    have hidx' : vp.toList.map (·.1) = List.range vp.size := by
      subst hvp
      simp only [Array.size_map, ← hidx, Array.toList_map, List.map_map]; rfl
    have hlen : (ps.map (·.ev fr)).length = vp.size := by subst hvp; simp; simpa using p1.symm
    have hsame : vp.size = parts.size := by subst hvp; simp
    have own_lit : ∀ (_ : k = .litO e i.size ps), Did P B w0 m H w (execOp a.eval o) v H' := by
      intro hk
      subst hk
      simp only [evK] at hev
      split at hev
      case isFalse => cases hev
      rename_i hc
      simp only [Option.some.injEq, Prod.mk.injEq] at hev
      obtain ⟨rfl, rfl⟩ := hev
      obtain ⟨m', w', v', h1, h2, h3, h4⟩ := litO_sound r hu hi ⟨z, hz⟩ hidx' (by rw [hsame]; exact hbig) hsz hlen hrv hc.1
      unfold execOp
      simp only [hop]
      exact Did.of ⟨m', w', v', by rw [← hsame]; subst hvp; exact h1, h2, h3, h4⟩
    have imm_lit : ∀ (_ : k = .lit i.size ps), Did P B w0 m H w (execOp a.eval o) v H' := by
      intro hk
      subst hk
      simp only [evK] at hev
      split at hev
      case isFalse => cases hev
      rename_i hc
      simp only [Option.some.injEq, Prod.mk.injEq] at hev
      obtain ⟨rfl, rfl⟩ := hev
      obtain ⟨w', v', h1, h2, h3, h4⟩ := lit_sound r hu hi ⟨z, hz⟩ hidx' (by rw [hsame]; exact hbig) hlen hrv hc.1 hc.2
      unfold execOp
      simp only [hop]
      exact Did.of ⟨m, w', v', by rw [← hsame]; subst hvp; exact h1, h2, h3, by simpa using h4⟩
    have key : Did P B w0 m H w (execOp a.eval o) v H' := by
      (repeat' split at htr) <;> first
        | exact own_lit (Option.some.inj htr).symm
        | exact imm_lit (Option.some.inj htr).symm
    unfold execOp at key
    exact key
  case h_8 t p hop =>
    simp only [Option.bind_eq_bind, Option.bind_eq_some_iff, Option.some.injEq] at htr
    obtain ⟨sz, hs, ag, hg, ap, hp, rfl⟩ := htr
    simp only [hop]
    exact Did.read' r (ld_sound r hs hg (trX_rv hf hp) hev)
  case h_9 t p x hop =>
    simp only [Option.bind_eq_bind, Option.bind_eq_some_iff, Option.some.injEq] at htr
    obtain ⟨sz, hs, ap, hp, ax, hx, rfl⟩ := htr
    obtain ⟨rfl, w', h1, h2, h3⟩ := st_sound r hs (trX_rv hf hp) (trX_rv hf hx) hev
    simp only [hop]
    exact ⟨m, w', .skip, undef, by simp [h1], .inr ⟨rfl, rfl⟩, h2, h3, .tup (by simp) (by intro j hj; simp at hj)⟩
  case h_10 x hop =>
    simp only [Option.bind_eq_bind, Option.bind_eq_some_iff, Option.some.injEq] at htr
    obtain ⟨ax, hx, rfl⟩ := htr
    have hx' := trX_rv hf hx
    simp only [evK] at hev
    simp only [hop]
    split at hev
    · rename_i i L k f he
      simp only [Option.some.injEq, Prod.mk.injEq] at hev
      obtain ⟨rfl, rfl⟩ := hev
      rw [he] at hx'
      obtain ⟨ad, o', hu, _⟩ := hx'.ptr_inv
      refine ⟨m, w, _, a.eval x, by rw [hu]; rfl, .inl rfl, Tr.refl _ _ _, r, hx'⟩
    · rename_i e f he
      simp only [Option.some.injEq, Prod.mk.injEq] at hev
      obtain ⟨rfl, rfl⟩ := hev
      rw [he] at hx'
      obtain ⟨ad, cv, hu, _⟩ := hx'.ipt_inv
      refine ⟨m, w, _, a.eval x, by rw [hu]; rfl, .inl rfl, Tr.refl _ _ _, r, hx'⟩
    · rename_i g p q he
      simp only [Option.some.injEq, Prod.mk.injEq] at hev
      obtain ⟨rfl, rfl⟩ := hev
      rw [he] at hx'
      obtain ⟨us, vs, hu, _⟩ := hx'.fn_inv
      refine ⟨m, w, _, a.eval x, by rw [hu]; rfl, .inl rfl, Tr.refl _ _ _, r, hx'⟩
    · rename_i t v' he
      simp only [Option.some.injEq, Prod.mk.injEq] at hev
      obtain ⟨rfl, rfl⟩ := hev
      rw [he] at hx'
      obtain ⟨u, hu, _⟩ := hx'.ifc_inv
      refine ⟨m, w, _, a.eval x, by rw [hu]; rfl, .inl rfl, Tr.refl _ _ _, r, hx'⟩
    · cases hev
  case h_11 op t x y yt hop =>
    simp only [hop]
    exact Did.read' r (trBin_sound r hf htr hev)
  case h_12 op t x hop =>
    simp only [Option.bind_eq_bind, Option.bind_eq_some_iff, Option.some.injEq] at htr
    obtain ⟨ax, hx, rfl⟩ := htr
    have hx' := trX_rv hf hx
    simp only [evK] at hev
    simp only [hop]
    split at hev
    · rename_i k n he
      simp only [Option.some.injEq, Prod.mk.injEq] at hev
      obtain ⟨rfl, rfl⟩ := hev
      rw [he] at hx'
      rw [hx'.sc_inv.1]
      exact Did.read r (v' := .int k (k.wrap (0 - n))) (by simp [Op.unary, Op.intArith]) (.sc _ rfl)
    · rename_i b he
      simp only [Option.some.injEq, Prod.mk.injEq] at hev
      obtain ⟨rfl, rfl⟩ := hev
      rw [he] at hx'
      rw [hx'.sc_inv.1]
      exact Did.read r (v' := .bool (!b)) (by simp [Op.unary]) (.sc _ rfl)
    · cases hev
  case h_13 s d x hop =>
    split at htr
    case h_2 => cases htr
    rename_i ks kd hs hd
    simp only [Option.bind_eq_bind, Option.bind_eq_some_iff, Option.some.injEq] at htr
    obtain ⟨ax, hx, rfl⟩ := htr
    have hx' := trX_rv hf hx
    simp only [evK] at hev
    simp only [hop]
    split at hev
    · rename_i k n he
      simp only [Option.some.injEq, Prod.mk.injEq] at hev
      obtain ⟨rfl, rfl⟩ := hev
      rw [he] at hx'
      rw [hx'.sc_inv.1]
      exact Did.read r (v' := .int kd (kd.wrap n)) (by simp [convert, run_underlying hs, run_underlying hd, Conv.intToInt]) (.sc _ rfl)
    · cases hev
  case h_14 t x hop =>
    split at htr
    · cases htr
    · cases htr
    rename_i d hd hu
    simp only [Option.bind_eq_bind, Option.bind_eq_some_iff, Option.some.injEq] at htr
    obtain ⟨ax, hx, rfl⟩ := htr
    simp only [evK, Option.some.injEq, Prod.mk.injEq] at hev
    obtain ⟨rfl, rfl⟩ := hev
    simp only [hop]
    refine Did.read r (v' := .iface t (a.eval x)) ?_ (.ifc (trX_rv hf hx))
    cases d <;> first
      | exact absurd rfl (hd _)
      | simp [Instr.makeInterface, run_underlying hu]
  case h_15 f p q hop =>
    simp only [Option.bind_eq_bind, Option.bind_eq_some_iff, Option.some.injEq] at htr
    obtain ⟨ap, hp, aq, hq, rfl⟩ := htr
    simp only [evK, Option.some.injEq, Prod.mk.injEq] at hev
    obtain ⟨rfl, rfl⟩ := hev
    simp only [hop]
    have h1 := RVs_of_mapM hf hp
    have h2 := RVs_of_mapM hf hq
    exact Did.read r (v' := .func f (p.map a.eval) (q.map a.eval)) (by simp [Instr.makeFunc]) (.fn h1.1 h2.1 h1.2 h2.2)
  case h_16 t l c hop =>
    split at htr
    case h_2 => cases htr
    rename_i e hu
    simp only [Option.bind_eq_bind, Option.bind_eq_some_iff, Option.some.injEq] at htr
    obtain ⟨i, hi, z, hz, az, haz, al, hl, ac, hc, rfl⟩ := htr
    simp only [hop]
    exact Did.of (mkS_sound r hu hi hz haz (trX_rv hf hl) (trX_rv hf hc) hev)
  case h_17 t x lo hi' mx hop =>
    split at htr
    case h_3 => cases htr
    case h_1 =>
      rename_i hu
      split at htr
      · cases htr
      rename_i hmx
      obtain rfl : mx = none := by cases mx with | none => rfl | some q => simp at hmx
      simp only [Option.bind_eq_bind, Option.bind_eq_some_iff, Option.some.injEq] at htr
      obtain ⟨ax, hx, lo', h1, hi'', h2, rfl⟩ := htr
      simp only [hop]
      exact Did.read' r (sls_sound hf hu (trX_rv hf hx) h1 h2 hev)
    rename_i e hu
    split at htr
    · cases htr
    rename_i hmx
    simp only [Option.bind_eq_bind, Option.bind_eq_some_iff, Option.some.injEq] at htr
    obtain ⟨sz, hs, ax, hx, lo', h1, hi'', h2, mx', h3, rfl⟩ := htr
    obtain ⟨i, hi, rfl⟩ := szT_inv hs
    simp only [hop]
    exact Did.read' r (sl_sound r hf hu hi (trX_rv hf hx) h1 h2 h3 hmx hev)
  case h_18 st x f hop =>
    split at htr
    case h_2 => cases htr
    rename_i fields hu
    simp only [Option.bind_eq_bind, Option.bind_eq_some_iff] at htr
    obtain ⟨fd, hfd, sz, hs, htr⟩ := htr
    split at htr
    · cases htr
    rename_i hs0
    simp only [Option.bind_eq_some_iff, Option.some.injEq] at htr
    obtain ⟨ax, hx, rfl⟩ := htr
    obtain ⟨i, hi, rfl⟩ := szT_inv hs
    have hx' := trX_rv hf hx
    simp only [evK] at hev
    simp only [hop]
    have run : ∀ ad : Addr, (Instr.fieldAt st (.pointer (some ad)) f).run P w = .ok (.pointer (some (ad.add fd.offset))) w := by
      intro ad
      simp [Instr.fieldAt, run_underlying hu, hfd, Instr.sureAddr, fieldPlace, sizeOf, typeInfo, hi, hs0]
    split at hev
    · rename_i j L q g he
      simp only [Option.some.injEq, Prod.mk.injEq] at hev
      obtain ⟨rfl, rfl⟩ := hev
      rw [he] at hx'
      obtain ⟨ad, o', hau, ho, hL, hv⟩ := hx'.ptr_inv
      rw [hau]
      refine Did.read r (run ad) (.ptr o' ho hL fun a1 a2 => ?_)
      rw [hv a1 a2]
      unfold Addr.add; split <;> simp_all <;> omega
    · rename_i e' q he
      simp only [Option.some.injEq, Prod.mk.injEq] at hev
      obtain ⟨rfl, rfl⟩ := hev
      rw [he] at hx'
      generalize a.eval x = ux at hx' ⊢
      cases hx' with | ri hx'' =>
      cases hx'' with | ipt cv hc hr =>
      refine Did.read r (run _) ?_
      rw [add_add]
      exact .ri (.ipt cv hc hr)
    · cases hev
  case h_19 st x f hop =>
    split at htr
    case h_2 => cases htr
    rename_i fields hu
    simp only [Option.bind_eq_bind, Option.bind_eq_some_iff, Option.some.injEq] at htr
    obtain ⟨fd, hfd, sz, hs, ag, hg, ax, hx, rfl⟩ := htr
    have hx' := trX_rv hf hx
    simp only [evK] at hev
    simp only [hop]
    split at hev
    case h_2 => cases hev
    rename_i cs he
    cases hp : partOf ag fd.offset sz (.agg cs) with
    | none => simp [hp] at hev
    | some z =>
      simp only [hp, Option.some.injEq, Prod.mk.injEq] at hev
      obtain ⟨rfl, rfl⟩ := hev
      rw [he] at hx'
      obtain ⟨vs, hau, hn, hrv⟩ := hx'.agg_inv
      obtain ⟨u, h1, h2⟩ := part_sound (P := P) (w := w) hs hg hn hrv hp
      rw [hau]
      exact Did.read r (by simp [Instr.field, run_underlying hu, hfd, asAgg, h1]) h2
  case h_20 t x ix hop =>
    split at htr
    case h_3 => cases htr
    case h_2 =>
      rename_i n e hu
      simp only [Option.bind_eq_bind, Option.bind_eq_some_iff, Option.some.injEq] at htr
      obtain ⟨sz, hs, ax, hx, ai, hix, rfl⟩ := htr
      obtain ⟨i, hi, rfl⟩ := szT_inv hs
      have hx' := trX_rv hf hx
      have hi' := trX_rv hf hix
      simp only [evK] at hev
      simp only [hop]
      split at hev
      case h_2 => cases hev
      rename_i k z hz
      rw [hz] at hi'
      rw [hi'.sc_inv.1]
      split at hev
      case isFalse => cases hev
      rename_i hc
      obtain ⟨h0, h1⟩ := hc
      have run : ∀ ad : Addr, (Instr.indexAt t (.pointer (some ad)) (.int k z)).run P w = .ok (.pointer (some (ad.add (z.toNat * i.size)))) w := by
        intro ad
        simp [Instr.indexAt, asIntOf, run_underlying hu, Instr.sureAddr, h0, h1, sizeOf, typeInfo, hi]
      split at hev
      · rename_i j L q g he
        simp only [Option.some.injEq, Prod.mk.injEq] at hev
        obtain ⟨rfl, rfl⟩ := hev
        rw [he] at hx'
        obtain ⟨ad, o', hau, ho, hL, hv⟩ := hx'.ptr_inv
        rw [hau]
        refine Did.read r (run ad) (.ptr o' ho hL fun a1 a2 => ?_)
        rw [hv a1 a2]
        unfold Addr.add; split <;> simp_all <;> omega
      · rename_i e' q he
        simp only [Option.some.injEq, Prod.mk.injEq] at hev
        obtain ⟨rfl, rfl⟩ := hev
        rw [he] at hx'
        generalize a.eval x = ux at hx' ⊢
        cases hx' with | ri hx'' =>
        cases hx'' with | ipt cv hc hr =>
        refine Did.read r (run _) ?_
        rw [add_add]
        exact .ri (.ipt cv hc hr)
      · cases hev
    rename_i e hu
    simp only [Option.bind_eq_bind, Option.bind_eq_some_iff, Option.some.injEq] at htr
    obtain ⟨sz, hs, ax, hx, ai, hix, rfl⟩ := htr
    obtain ⟨i, hi, rfl⟩ := szT_inv hs
    have hx' := trX_rv hf hx
    have hi' := trX_rv hf hix
    simp only [evK] at hev
    simp only [hop]
    split at hev
    case h_2 => cases hev
    rename_i k z hz
    rw [hz] at hi'
    rw [hi'.sc_inv.1]
    have run : ∀ (ad : Addr) (n c : Nat), 0 ≤ z → z < n → (Instr.indexAt t (.slice (some ad) n c) (.int k z)).run P w = .ok (.pointer (some (ad.add (z.toNat * i.size)))) w := by
      intro ad n c h0 h1
      simp [Instr.indexAt, asIntOf, run_underlying hu, h0, h1, sizeOf, typeInfo, hi]
    split at hev
    · rename_i nl c sz' xs he
      rw [he] at hx'
      have hx'' : RI w (Wr m H) (.imm nl c sz' xs) (a.eval x) := by cases hx' with | ri h => exact h
      generalize a.eval x = ux at hx'' ⊢
      cases hxi : xs[z.toNat]? with
      | none => simp [hxi] at hev
      | some el =>
        simp only [hxi] at hev
        split at hev
        case isFalse => cases hev
        rename_i hc
        obtain ⟨rfl, h0⟩ := hc
        simp only [Option.some.injEq, Prod.mk.injEq] at hev
        obtain ⟨rfl, rfl⟩ := hev
        obtain ⟨hlt, rfl⟩ := List.getElem?_eq_some_iff.1 hxi
        cases hx'' with
        | nil => simp at hlt
        | nilx => simp at hlt
        | @imm ad n cap _ _ _ cv hn hcap hc hcell hsz hrv =>
        refine Did.read r (run ad n cap h0 (by omega)) ?_
        have hz1 : z.toNat < n := by omega
        have := RI.ipt (w := w) (W := Wr m H) (a := ad.add (z.toNat * i.size)) (e := xs[z.toNat]) (f := 0) (fun j => cv z.toNat j) (fun j hj => by
          have := hcell z.toNat j hz1 (by have := hsz z.toNat hlt; omega)
          rw [add_add]; exact ⟨this.1, by rw [add_block]; exact this.2⟩) (fun j hj => hrv z.toNat j hlt hj)
        rw [add_zero] at this
        exact .ri this
    · rename_i j L off n c he
      rw [he] at hx'
      cases hlv : live? H j L with
      | none => simp [hlv] at hev
      | some o' =>
        simp only [hlv] at hev
        split at hev
        case isFalse => cases hev
        rename_i hc
        obtain ⟨hv, hsz, h0, h1, h2⟩ := hc
        simp only [Option.some.injEq, Prod.mk.injEq] at hev
        obtain ⟨rfl, rfl⟩ := hev
        obtain ⟨ho, hl, hL⟩ := live?_some hlv
        obtain ⟨A, cap, o2, hau, ho2, hL2, hok⟩ := hx'.slc_inv
        rw [ho] at ho2; cases ho2
        have hok := hok hl hL
        unfold SlcOk at hok
        rw [hv] at hok
        obtain ⟨q1, q2, q3, q4, _⟩ := hok
        have hA := q2 (by omega)
        subst hA
        rw [hau]
        refine Did.read r (run _ n cap h0 h1) (.ptr o' ho hL2 fun _ _ => ?_)
        rw [hsz, Nat.add_mul, Nat.add_zero]
        unfold Addr.add; split <;> simp_all
    · cases hev
  case h_21 x ix hop =>
    simp only [Option.bind_eq_bind, Option.bind_eq_some_iff, Option.some.injEq] at htr
    obtain ⟨ax, hx, rfl⟩ := htr
    have hx' := trX_rv hf hx
    simp only [evK] at hev
    simp only [hop]
    split at hev
    case h_2 => cases hev
    rename_i vs he
    cases hvi : vs[ix]? with
    | none => simp [hvi] at hev
    | some z =>
      simp only [hvi, Option.some.injEq, Prod.mk.injEq] at hev
      obtain ⟨rfl, rfl⟩ := hev
      obtain ⟨hlt, rfl⟩ := List.getElem?_eq_some_iff.1 hvi
      rw [he] at hx'
      obtain ⟨us, hau, hn, hrv⟩ := hx'.tup_inv
      have hlt' : ix < us.size := by omega
      rw [hau]
      exact Did.read r (v' := us[ix]) (by simp [Instr.extract, hlt']) (hrv ix hlt hlt')
  case h_22 args argTypes hop =>
    simp only [Option.bind_eq_bind, Option.bind_eq_some_iff] at htr
    obtain ⟨t, ht, htr⟩ := htr
    simp only [hop]
    split at htr
    · rename_i e x hu hargs
      simp only [Option.bind_eq_some_iff, Option.some.injEq] at htr
      obtain ⟨ax, hx, rfl⟩ := htr
      have hargs' : args = #[x] := by rw [← Array.toArray_toList (xs := args), hargs]
      subst hargs'
      have hx' := trX_rv hf hx
      simp only [evK] at hev
      have run : ∀ A n c, (Builtin.len_ argTypes o.type #[.slice A n c]).run P w = .ok (.int .i64 n) w := by intro A n c; simp [Builtin.len_, ht, run_underlying hu, goInt]
      have fin : ∀ A n c, a.eval x = .slice A n c → Did P B w0 m H w (do let d ← resolve a.eval { callee := .builtin .len, args := #[x], argTypes := argTypes } o.type; invoke d.target d.args) (I n) H := by
        intro A n c he
        exact ⟨m, w, .value (.int .i64 n), .int .i64 n, by simp [resolve, invoke, builtin, he, run], .inl rfl, Tr.refl _ _ _, r, .sc _ rfl⟩
      split at hev
      · rename_i nl c sz xs he
        simp only [Option.some.injEq, Prod.mk.injEq] at hev
        obtain ⟨rfl, rfl⟩ := hev
        rw [he] at hx'
        have hx'' : RI w (Wr m H) (.imm nl c sz xs) (a.eval x) := by cases hx' with | ri h => exact h
        generalize hux : a.eval x = ux at hx''
        cases hx'' with
        | nil => exact fin none 0 0 hux
        | nilx => exact fin none 0 0 hux
        | imm cv hn => subst hn; exact fin _ _ _ hux
      · rename_i j L off n c he
        simp only [Option.some.injEq, Prod.mk.injEq] at hev
        obtain ⟨rfl, rfl⟩ := hev
        rw [he] at hx'
        obtain ⟨A, cap, o', hau, _⟩ := hx'.slc_inv
        exact fin A n cap hau
      · cases hev
    · rename_i x hu hargs
      simp only [Option.bind_eq_some_iff, Option.some.injEq] at htr
      obtain ⟨ax, hx, rfl⟩ := htr
      have hargs' : args = #[x] := by rw [← Array.toArray_toList (xs := args), hargs]
      subst hargs'
      have hx' := trX_rv hf hx
      simp only [evK] at hev
      split at hev
      case h_2 => cases hev
      rename_i s he
      simp only [Option.some.injEq, Prod.mk.injEq] at hev
      obtain ⟨rfl, rfl⟩ := hev
      rw [he] at hx'
      have hau := hx'.sc_inv.1
      have run : (Builtin.len_ argTypes o.type #[.string s]).run P w = .ok (.int .i64 s.size) w := by simp [Builtin.len_, ht, run_underlying hu, goInt]
      exact ⟨m, w, .value (.int .i64 s.size), .int .i64 s.size, by simp [resolve, invoke, builtin, hau, run], .inl rfl, Tr.refl _ _ _, r, .sc _ rfl⟩
    · cases htr
  case h_23 args argTypes hop =>
    simp only [Option.bind_eq_bind, Option.bind_eq_some_iff] at htr
    obtain ⟨t, ht, t', ht', htr⟩ := htr
    split at htr
    case h_2 => cases htr
    rename_i e hu
    split at htr
    · cases htr
    rename_i htt
    have htt' : t' = t := by simpa using htt
    subst htt'
    simp only [Option.bind_eq_some_iff] at htr
    obtain ⟨i, hi, z, hz, htr⟩ := htr
    split at htr
    · cases htr
    rename_i hzs
    split at htr
    case h_2 => cases htr
    rename_i sx xx hargs
    simp only [Option.bind_eq_some_iff, Option.some.injEq] at htr
    obtain ⟨as', hs, ax, hx, rfl⟩ := htr
    have hargs' : args = #[sx, xx] := by rw [← Array.toArray_toList (xs := args), hargs]
    subst hargs'
    obtain ⟨m', w', v', h1, h2, h3, h4⟩ := app_sound (rt := o.type) hu hi hz (by simpa using hzs) r (trX_rv hf hs) (trX_rv hf hx) hev
    simp only [hop]
    have hcong : (Builtin.append_ argTypes o.type #[a.eval sx, a.eval xx]).run P w = (Builtin.append_ #[t', t'] o.type #[a.eval sx, a.eval xx]).run P w := by
      simp [Builtin.append_, ht, ht']
    exact ⟨m', w', .value v', v', by simp [resolve, invoke, builtin, hcong, h1], .inl rfl, h2, h3, h4⟩
  case h_24 args argTypes hop =>
    simp only [Option.bind_eq_bind, Option.bind_eq_some_iff] at htr
    obtain ⟨t, ht, htr⟩ := htr
    split at htr
    case h_2 => cases htr
    rename_i e hu
    simp only [Option.bind_eq_some_iff] at htr
    obtain ⟨i, hi, z, hz, htr⟩ := htr
    split at htr
    case h_2 => cases htr
    rename_i xx hargs
    simp only [Option.bind_eq_some_iff, Option.some.injEq] at htr
    obtain ⟨za, hza, ax, hx, rfl⟩ := htr
    have hargs' : args = #[xx] := by rw [← Array.toArray_toList (xs := args), hargs]
    subst hargs'
    obtain ⟨m', w', v', h1, h2, h3, h4⟩ := clr_sound (rt := o.type) r hu hi hz hza (trX_rv hf hx) hev
    simp only [hop]
    have hcong : (Builtin.clear_ argTypes o.type #[a.eval xx]).run P w = (Builtin.clear_ #[t] o.type #[a.eval xx]).run P w := by
      simp [Builtin.clear_, ht]
    exact ⟨m', w', .value v', v', by simp [resolve, invoke, builtin, hcong, h1], .inl rfl, h2, h3, h4⟩
  case h_25 args argTypes hop =>
    split at htr
    case h_3 => cases htr
    case h_2 =>
      rename_i xx yy zz hargs
      simp only [Option.bind_eq_bind, Option.bind_eq_some_iff, Option.some.injEq] at htr
      obtain ⟨ax, hx, ay, hy, az, hz, rfl⟩ := htr
      have hargs' : args = #[xx, yy, zz] := by rw [← Array.toArray_toList (xs := args), hargs]
      subst hargs'
      have hx' := trX_rv hf hx
      have hy' := trX_rv hf hy
      have hz' := trX_rv hf hz
      simp only [evK] at hev
      split at hev
      case h_2 => cases hev
      rename_i k1 b1 k2 b2 k3 b3 e1 e2 e3
      split at hev
      case isFalse => cases hev
      rename_i hk
      simp only [Option.some.injEq, Prod.mk.injEq] at hev
      obtain ⟨rfl, rfl⟩ := hev
      rw [e1] at hx'
      rw [e2] at hy'
      rw [e3] at hz'
      have hxv := hx'.sc_inv.1
      have hyv := hy'.sc_inv.1
      have hzv := hz'.sc_inv.1
      simp only [hop]
      exact ⟨m, w, _, _, by simp [resolve, invoke, builtin, hxv, hyv, hzv, Builtin.min_, Builtin.min2], .inl rfl, Tr.refl _ _ _, r, .sc _ rfl⟩
    rename_i xx yy hargs
    simp only [Option.bind_eq_bind, Option.bind_eq_some_iff, Option.some.injEq] at htr
    obtain ⟨ax, hx, ay, hy, rfl⟩ := htr
    have hargs' : args = #[xx, yy] := by rw [← Array.toArray_toList (xs := args), hargs]
    subst hargs'
    have hx' := trX_rv hf hx
    have hy' := trX_rv hf hy
    simp only [evK] at hev
    split at hev
    case h_2 => cases hev
    rename_i k1 b1 k2 b2 e1 e2
    split at hev
    case isFalse => cases hev
    rename_i hk
    simp only [Option.some.injEq, Prod.mk.injEq] at hev
    obtain ⟨rfl, rfl⟩ := hev
    rw [e1] at hx'
    rw [e2] at hy'
    have hxv := hx'.sc_inv.1
    have hyv := hy'.sc_inv.1
    simp only [hop]
    exact ⟨m, w, _, _, by simp [resolve, invoke, builtin, hxv, hyv, Builtin.min_, Builtin.min2], .inl rfl, Tr.refl _ _ _, r, .sc _ rfl⟩
  case h_26 args argTypes hop =>
    split at htr
    case h_3 => cases htr
    case h_2 =>
      rename_i xx yy zz hargs
      simp only [Option.bind_eq_bind, Option.bind_eq_some_iff, Option.some.injEq] at htr
      obtain ⟨ax, hx, ay, hy, az, hz, rfl⟩ := htr
      have hargs' : args = #[xx, yy, zz] := by rw [← Array.toArray_toList (xs := args), hargs]
      subst hargs'
      have hx' := trX_rv hf hx
      have hy' := trX_rv hf hy
      have hz' := trX_rv hf hz
      simp only [evK] at hev
      split at hev
      case h_2 => cases hev
      rename_i k1 b1 k2 b2 k3 b3 e1 e2 e3
      split at hev
      case isFalse => cases hev
      rename_i hk
      simp only [Option.some.injEq, Prod.mk.injEq] at hev
      obtain ⟨rfl, rfl⟩ := hev
      rw [e1] at hx'
      rw [e2] at hy'
      rw [e3] at hz'
      have hxv := hx'.sc_inv.1
      have hyv := hy'.sc_inv.1
      have hzv := hz'.sc_inv.1
      simp only [hop]
      exact ⟨m, w, _, _, by simp [resolve, invoke, builtin, hxv, hyv, hzv, Builtin.max_, Builtin.max2], .inl rfl, Tr.refl _ _ _, r, .sc _ rfl⟩
    rename_i xx yy hargs
    simp only [Option.bind_eq_bind, Option.bind_eq_some_iff, Option.some.injEq] at htr
    obtain ⟨ax, hx, ay, hy, rfl⟩ := htr
    have hargs' : args = #[xx, yy] := by rw [← Array.toArray_toList (xs := args), hargs]
    subst hargs'
    have hx' := trX_rv hf hx
    have hy' := trX_rv hf hy
    simp only [evK] at hev
    split at hev
    case h_2 => cases hev
    rename_i k1 b1 k2 b2 e1 e2
    split at hev
    case isFalse => cases hev
    rename_i hk
    simp only [Option.some.injEq, Prod.mk.injEq] at hev
    obtain ⟨rfl, rfl⟩ := hev
    rw [e1] at hx'
    rw [e2] at hy'
    have hxv := hx'.sc_inv.1
    have hyv := hy'.sc_inv.1
    simp only [hop]
    exact ⟨m, w, _, _, by simp [resolve, invoke, builtin, hxv, hyv, Builtin.max_, Builtin.max2], .inl rfl, Tr.refl _ _ _, r, .sc _ rfl⟩
  case h_27 t x ix hop =>
    split at htr
    case h_3 => cases htr
    case h_1 =>
      rename_i n e hu
      simp only [Option.bind_eq_bind, Option.bind_eq_some_iff, Option.some.injEq] at htr
      obtain ⟨sz, hs, ag, hg, ax, hx, ai, hix, rfl⟩ := htr
      have hsz := szT_inv hs
      have hx' := trX_rv hf hx
      have hi' := trX_rv hf hix
      simp only [evK] at hev
      simp only [hop]
      split at hev
      case h_2 => cases hev
      rename_i k z cs hz he
      rw [hz] at hi'
      rw [he] at hx'
      split at hev
      case isFalse => cases hev
      rename_i hc
      obtain ⟨h0, h1⟩ := hc
      cases hp : partOf ag (z.toNat * sz) sz (.agg cs) with
      | none => simp [hp] at hev
      | some u =>
        simp only [hp, Option.some.injEq, Prod.mk.injEq] at hev
        obtain ⟨rfl, rfl⟩ := hev
        obtain ⟨vs, hau, hn, hrv⟩ := hx'.agg_inv
        obtain ⟨u, h3, h4⟩ := part_sound (P := P) (w := w) hs hg hn hrv hp
        obtain ⟨i, hi, rfl⟩ := hsz
        rw [hau, hi'.sc_inv.1]
        exact Did.read r (by simp [Instr.index, asIntOf, run_underlying hu, h0, h1, sizeOf, typeInfo, hi, h3]) h4
    rename_i hu
    simp only [Option.bind_eq_bind, Option.bind_eq_some_iff, Option.some.injEq] at htr
    obtain ⟨ax, hx, ai, hix, rfl⟩ := htr
    have hx' := trX_rv hf hx
    have hi' := trX_rv hf hix
    simp only [evK] at hev
    simp only [hop]
    split at hev
    case h_2 => cases hev
    rename_i k z s hz he
    rw [hz] at hi'
    rw [he] at hx'
    split at hev
    case isFalse => cases hev
    rename_i h0
    cases hp : s[z.toNat]? with
    | none => simp [hp] at hev
    | some u =>
      simp only [hp, Option.some.injEq, Prod.mk.injEq] at hev
      obtain ⟨rfl, rfl⟩ := hev
      rw [hx'.sc_inv.1, hi'.sc_inv.1]
      exact Did.read r (by simp [Instr.index, asIntOf, run_underlying hu, h0, hp]) (.ri (.sc _ rfl))
  case h_28 x xt t ok hop =>
    split at htr
    case h_1 => cases htr
    case h_3 => cases htr
    case h_2 => 
    rename_i d hni hu
    simp only [Option.bind_eq_bind, Option.bind_eq_some_iff, Option.some.injEq] at htr
    obtain ⟨ax, hx, rfl⟩ := htr
    have hx' := trX_rv hf hx
    simp only [evK] at hev
    simp only [hop]
    split at hev
    case h_2 => cases hev
    rename_i t' v0 he
    split at hev
    case isFalse => cases hev
    rename_i ht
    subst ht
    simp only [Option.some.injEq, Prod.mk.injEq] at hev
    obtain ⟨rfl, rfl⟩ := hev
    rw [he] at hx'
    obtain ⟨u, hau, hv⟩ := hx'.ifc_inv
    rw [hau]
    cases ok with
    | true =>
      refine Did.read r (v' := .tuple #[u, .bool true]) ?_ (.tup (by simp) (fun j h1 h2 => ?_))
      · cases d <;> first | (exact (hni _ rfl).elim) | simp [Instr.typeAssert, run_underlying hu]
      · match j, h1 with
        | 0, _ => exact hv
        | 1, _ => exact .sc _ rfl
    | false =>
      refine Did.read r (v' := u) ?_ hv
      cases d <;> first | (exact (hni _ rfl).elim) | simp [Instr.typeAssert, run_underlying hu]
  case h_29 x hop =>
    cases htr
    simp only [evK] at hev
    cases hev
  case h_30 args argTypes hop =>
    simp only [Option.bind_eq_bind, Option.bind_eq_some_iff] at htr
    obtain ⟨t, ht, t', ht', htr⟩ := htr
    split at htr
    case h_2 => cases htr
    rename_i e hu
    split at htr
    · cases htr
    rename_i htt
    have htt' : t' = t := by simpa using htt
    subst htt'
    simp only [Option.bind_eq_some_iff] at htr
    obtain ⟨i, hi, htr⟩ := htr
    split at htr
    case h_2 => cases htr
    rename_i sx xx hargs
    simp only [Option.bind_eq_some_iff, Option.some.injEq] at htr
    obtain ⟨as', hs, ax, hx, rfl⟩ := htr
    have hargs' : args = #[sx, xx] := by rw [← Array.toArray_toList (xs := args), hargs]
    subst hargs'
    obtain ⟨m', w', v', h1, h2, h3, h4⟩ := cpy_sound (rt := o.type) r hu hi (trX_rv hf hs) (trX_rv hf hx) hev
    simp only [hop]
    have hcong : (Builtin.copy_ argTypes o.type #[a.eval sx, a.eval xx]).run P w = (Builtin.copy_ #[t', t'] o.type #[a.eval sx, a.eval xx]).run P w := by
      simp [Builtin.copy_, ht]
    exact ⟨m', w', .value v', v', by simp [resolve, invoke, builtin, hcong, h1], .inl rfl, h2, h3, h4⟩
  case h_31 => cases htr
end
end Go.Fw
