/- The logic: what a piece of code does to frame and objects ('AWp'), what a call does ('ACalls'), and the rules. -/
import Derived.Test.YthipbeffhfdamaaFwN
namespace Go.Fw
open Go Go.RowKit

/-- A call of function f on abstract arguments. -/
def ACalls (P : Program) (f : FuncId) (args : List AV) (H : List AObj) (R : AV → List AObj → Prop) : Prop :=
  (∃ fn, P.funcs[f]? = some fn ∧ (fn.name == "runtime.NumGoroutine") = false ∧ fn.body.isNone = false) ∧
  ∀ (B : Nat) (w0 : World) (m : BM) (w : World) (vs : Array Value), Rel B w0 m H w → RVs w m H args vs →
    Calls P f vs w fun e w' => ∃ v r m' H', e = .returned v ∧ Tr m H w m' H' w' ∧ Rel B w0 m' H' w' ∧ RV w' m' H' r v ∧ R r H'

def putD (fr : List AV) (d : Option Nat) (v : AV) : List AV :=
  match d with
  | some d => fr.set d v
  | none => fr

def callV (P : Program) (prot : Bool) (f : AV) (args : List AV) (H : List AObj) (next : AV → List AObj → Prop) : Prop :=
  match f with
  | .fn (.func g) first caps => ACalls P g (first ++ args ++ caps) H fun r H' => (prot = true → ∃ G, H' = H ++ G) ∧ next r H'
  | _ => False

def kWp (P : Program) (k : AKK) (dst : Option Nat) (next : List AV → List AObj → Prop) (fr : List AV) (H : List AObj) : Prop :=
  match k with
  | .call prot f args => callV P prot (f.ev fr) (args.map (·.ev fr)) H fun r H' => next (putD fr dst r) H'
  | .k k => ∃ v H', evK k fr H = some (v, H') ∧ next (putD fr dst v) H'

def opWp (P : Program) (o : AOp) (next : List AV → List AObj → Prop) (fr : List AV) (H : List AObj) : Prop :=
  match o.guard with
  | none => kWp P o.k o.dst next fr H
  | some (t, b) => match fr.getD t .und with
    | .sc (.bool c) => if c = b then kWp P o.k o.dst next fr H else next (putD fr o.dst (.tup [])) H
    | .tup [] => next (putD fr o.dst (.tup [])) H
    | _ => False

def opsWp (P : Program) : List AOp → (List AV → List AObj → Prop) → List AV → List AObj → Prop
  | [], next, fr, H => next fr H
  | o :: l, next, fr, H => opWp P o (opsWp P l next) fr H

def fenceR (r : Option Nat) : Fence := { Fence.wide with round := r }
theorem fenceR_fn (r : Option Nat) (f : FuncId) : (fenceR r).fn f := trivial
theorem fenceR_depth (r : Option Nat) : (fenceR r).depth.isSome = true → 1 ≤ 0 := by intro h; simp [fenceR, Fence.wide] at h

section
variable {P : Program} {own : List Nat}

theorem calls_fenceR {r : Option Nat} {n : Nat} {f : FuncId} {args : Array Value} {w : World} {R : Ending → World → Prop} (h : Calls P f args w R) : CallsIn (fenceR r) n P f args w R :=
  (callsIn_wide (n := n)).2 h

/-- The state that a piece of code leaves, seen from a base line. -/
def After (mb : BM) (Hb : List AObj) (wb : World) (B : Nat) (w0 : World) (Q : List AV → List AObj → Prop) (a : Act) (w : World) : Prop :=
  ∃ m fr H, Tr mb Hb wb m H w ∧ Rel B w0 m H w ∧ FRel w m H fr a.tmps ∧ a.defers = [] ∧ Q fr H

theorem putD_rel {w : World} {m : BM} {H : List AObj} {fr : List AV} {a : Act} (h : FRel w m H fr a.tmps) (d : Option Nat) {x : AV} {v : Value} (hx : RV w m H x v) : FRel w m H (putD fr d x) (a.put d v).tmps := by
  cases d with
  | none => exact h
  | some d => exact h.put d hx
theorem put_defers (a : Act) (d : Option Nat) (v : Value) : (a.put d v).defers = a.defers := by cases d <;> rfl

theorem no_defer {draw : Bool} {o : Oper} {k : AKK} (h : trKK P own draw o = some k) : ∀ c, o.op ≠ .defer c := by
  intro c hc
  unfold trKK trK at h
  rw [hc] at h
  cases h

/-- One operation. -/
theorem op_sound {r : Option Nat} {B : Nat} {w0 : World} {mb : BM} {Hb : List AObj} {wb : World} {m : BM} {H : List AObj} {w : World} {fr : List AV} {a : Act} {draw : Bool} {o : Oper} {k : AKK}
    (ht : Tr mb Hb wb m H w) (hr : Rel B w0 m H w) (hf : FRel w m H fr a.tmps) (hd : a.defers = []) (htr : trKK P own draw o = some k) {next : List AV → List AObj → Prop} (h : kWp P k o.dst next fr H)
    {K : Act → World → Prop} (hK : ∀ a w, After mb Hb wb B w0 next a w → K a w) (Q : Exit → Act → World → Prop) : o.wpIn (fenceR r) 0 P a w K Q := by
  refine ⟨fun f _ => fenceR_fn r f, ?_⟩
  rw [show (fenceR r).round = r from rfl, Oper.semAt_eq r a.eval o (no_defer htr)]
  unfold trKK at htr
  split at htr
  · rename_i g as' ts hop
    simp only [Option.bind_eq_bind, Option.bind_eq_some_iff, Option.some.injEq] at htr
    obtain ⟨f, hg, args, has, rfl⟩ := htr
    simp only [kWp, callV] at h
    split at h
    case h_2 => exact h.elim
    rename_i gf first caps hfe
    obtain ⟨⟨fn, hfn, hname, hbody⟩, hcalls⟩ := h
    have hgr := trX_rv hf hg
    rw [hfe] at hgr
    obtain ⟨us, vs, hge, ⟨hu1, hu2⟩, ⟨hv1, hv2⟩⟩ := hgr.fn_inv
    obtain ⟨ha1, ha2⟩ := RVs_of_mapM hf has
    have hargs : RVs w m H (first ++ args.map (·.ev fr) ++ caps) (us ++ as'.map a.eval ++ vs) := by
      refine ⟨by simp only [List.length_append, Array.size_append]; omega, fun j h1 h2 => ?_⟩
      simp only [List.getElem_append, Array.getElem_append]
      by_cases c1 : j < first.length + (args.map (·.ev fr)).length
      · have c1' : j < (us ++ as'.map a.eval).size := by simp only [Array.size_append]; omega
        have c1'' : j < (first ++ args.map (·.ev fr)).length := by simp only [List.length_append]; omega
        rw [dif_pos c1'', dif_pos c1']
        by_cases c2 : j < first.length
        · have c2' : j < us.size := by omega
          rw [dif_pos c2, dif_pos c2']; exact hu2 j c2 c2'
        · have c2' : ¬ j < us.size := by omega
          rw [dif_neg c2, dif_neg c2']
          have := ha2 (j - first.length) (by omega) (by omega)
          simpa [hu1] using this
      · have c1' : ¬ j < (us ++ as'.map a.eval).size := by simp only [Array.size_append]; omega
        have c1'' : ¬ j < (first ++ args.map (·.ev fr)).length := by simp only [List.length_append]; omega
        rw [dif_neg c1'', dif_neg c1']
        have h3 : j - (first ++ args.map (·.ev fr)).length < caps.length := by simp only [List.length_append] at h1 ⊢; omega
        have h4 : j - (us ++ as'.map a.eval).size < vs.size := by simp only [Array.size_append, List.length_append] at h3 ⊢; omega
        have e : (us ++ as'.map a.eval).size = (first ++ args.map (·.ev fr)).length := by simp only [Array.size_append, List.length_append]; omega
        have h5 : j - (first ++ args.map (·.ev fr)).length < vs.size := by omega
        have := hv2 _ h3 h5
        simp only [e]
        exact this
    have hrun : (execOp a.eval o).run P w = .ok (.enter gf (us ++ as'.map a.eval ++ vs)) w := by
      have hname' : ¬ fn.name = "runtime.NumGoroutine" := by simpa using hname
      have hbody' : ¬ fn.body = none := by intro e; rw [e] at hbody; cases hbody
      simp [execOp, hop, resolve, hge, Deferred.ofValue, invoke, callFunc, hfn, hname', hbody', Array.append_assoc]
    rw [hrun]
    refine ⟨fenceR_depth r, calls_fenceR ((hcalls B w0 m w _ hr hargs).mono ?_)⟩
    rintro e w' ⟨v, rv, m', H', rfl, t', r', hv, _, hn⟩
    exact hK _ _ ⟨m', _, H', ht.trans t', r', putD_rel (hf.mono t') o.dst hv, by rw [put_defers]; exact hd, hn⟩
  · simp only [Option.map_eq_some_iff] at htr
    obtain ⟨k, htr, rfl⟩ := htr
    obtain ⟨v, H', hev, hn⟩ := h
    obtain ⟨m', w', nx, v', hrun, hnx, t', r', hv⟩ := evK_sound hr hf htr hev
    rw [hrun]
    have fin : K (a.put o.dst v') w' := hK _ _ ⟨m', _, H', ht.trans t', r', putD_rel (hf.mono t') o.dst hv, by rw [put_defers]; exact hd, hn⟩
    rcases hnx with rfl | ⟨rfl, rfl⟩
    · exact fin
    · exact fin

theorem guard_sound {w : World} {m : BM} {H : List AObj} {fr : List AV} {a : Act} (hf : FRel w m H fr a.tmps) {ops : Array Oper} {j : Nat} {q : Oper} (hq : ops[j]? = some q) {t : Nat} (ht : q.dst = some t) :
    (∀ c, fr.getD t .und = .sc (.bool c) → yielded ops a.tmps j = some c) ∧ (fr.getD t .und = .tup [] → yielded ops a.tmps j = none) := by
  have hg := hf.get t
  constructor
  · intro c hc
    rw [hc] at hg
    have h1 := hg.sc_inv.1
    have h2 : a.tmps[t]? = some (.bool c) := by
      by_cases hlt : t < a.tmps.size
      · rw [Array.getElem?_eq_getElem hlt]
        have : a.tmps.getD t undef = a.tmps[t] := by simp [Array.getD, hlt]
        rw [← this, h1]
      · have : a.tmps.getD t undef = undef := by simp [Array.getD, hlt]
        rw [this] at h1; simp [undef] at h1
    simp [yielded, hq, ht, h2]
  · intro hc
    rw [hc] at hg
    obtain ⟨vs, h1, hn, _⟩ := hg.tup_inv
    by_cases hlt : t < a.tmps.size
    · have : a.tmps.getD t undef = a.tmps[t] := by simp [Array.getD, hlt]
      have h3 : a.tmps[t]? = some (.tuple vs) := by rw [Array.getElem?_eq_getElem hlt, ← this, h1]
      simp [yielded, hq, ht, h3]
    · have h3 : a.tmps[t]? = none := Array.getElem?_eq_none (by omega)
      simp [yielded, hq, ht, h3]

/-- Operations, in an order. -/
theorem ops_sound {r : Option Nat} {B : Nat} {w0 : World} {mb : BM} {Hb : List AObj} {wb : World} {draw : Bool} {ops : Array Oper} {Q : Exit → Act → World → Prop} {next : List AV → List AObj → Prop}
    (hK : ∀ a w, After mb Hb wb B w0 next a w → Q .normal a w) :
    ∀ (ord : List Nat) (l : List AOp), ord.length = l.length → (∀ j (h : j < ord.length) (h' : j < l.length), ∃ o, ops[ord[j]]? = some o ∧ trOp P own draw ops o = some l[j]) →
      ∀ (m : BM) (H : List AObj) (w : World) (fr : List AV) (a : Act), Tr mb Hb wb m H w → Rel B w0 m H w → FRel w m H fr a.tmps → a.defers = [] → opsWp P l next fr H → wpOpsIn (fenceR r) 0 P ops Q ord a w
  | [], [], _, _, m, H, w, fr, a, ht, hr, hf, hd, h => hK a w ⟨m, fr, H, ht, hr, hf, hd, h⟩
  | [], _ :: _, hl, _, _, _, _, _, _, _, _, _, _, _ => by simp at hl
  | _ :: _, [], hl, _, _, _, _, _, _, _, _, _, _, _ => by simp at hl
  | i :: ord, ao :: l, hl, htr, m, H, w, fr, a, ht, hr, hf, hd, h => by
    obtain ⟨o, ho, hto⟩ := htr 0 (by simp) (by simp)
    simp only [List.getElem_cons_zero] at ho hto
    have ih := ops_sound (r := r) (B := B) (w0 := w0) (draw := draw) (ops := ops) hK ord l (by simpa using hl) (fun j h1 h2 => htr (j + 1) (Nat.succ_lt_succ h1) (Nat.succ_lt_succ h2))
    have ihK : ∀ a w, After mb Hb wb B w0 (opsWp P l next) a w → wpOpsIn (fenceR r) 0 P ops Q ord a w := by
      rintro a w ⟨m, fr, H, ht, hr, hf, hd, h⟩
      exact ih m H w fr a ht hr hf hd h
    simp only [trOp, Option.bind_eq_bind, Option.bind_eq_some_iff] at hto
    obtain ⟨k, hk, hto⟩ := hto
    simp only [wpOpsIn, ho]
    simp only [opsWp, opWp] at h
    cases hg : o.guard with
    | none =>
      simp only [hg, Option.some.injEq] at hto
      subst hto
      simp only at h
      rw [if_pos (by simp [Region.wanted, hg])]
      exact op_sound ht hr hf hd hk h ihK Q
    | some gb =>
      obtain ⟨j, b⟩ := gb
      simp only [hg, Option.bind_eq_some_iff, Option.some.injEq] at hto
      obtain ⟨q, hq, t, hqt, rfl⟩ := hto
      simp only at h
      obtain ⟨g1, g2⟩ := guard_sound hf hq hqt
      have skip : next = next → opsWp P l next (putD fr o.dst (.tup [])) H → (∀ f, o.about P w a.eval = some f → (fenceR r).fn f) ∧ wpOpsIn (fenceR r) 0 P ops Q ord (a.put o.dst undef) w := by
        intro _ hs
        exact ⟨fun f _ => fenceR_fn r f, ihK _ _ ⟨m, _, H, ht, hr, putD_rel hf o.dst (.tup (by simp) (by intro j hj; simp at hj)), by rw [put_defers]; exact hd, hs⟩⟩
      split at h
      · rename_i c hc
        have hy := g1 c hc
        by_cases hcb : c = b
        · rw [if_pos hcb] at h
          rw [if_pos (by simp [Region.wanted, hg, hy, hcb])]
          exact op_sound ht hr hf hd hk h ihK Q
        · rw [if_neg hcb] at h
          rw [if_neg (by simp [Region.wanted, hg, hy, hcb])]
          exact skip rfl h
      · rename_i hc
        have hy := g2 hc
        rw [if_neg (by simp [Region.wanted, hg, hy])]
        exact skip rfl h
      · exact h.elim
end
end Go.Fw
/- Code, rule by rule; functions. -/
namespace Go.Fw
open Go Go.RowKit

def AWpC (P : Program) (nb : Nat) (c : Code) (Q : Exit → List AV → List AObj → Prop) (fr : List AV) (H : List AObj) : Prop :=
  ∀ (r : Option Nat) (B : Nat) (w0 : World) (mb : BM) (Hb : List AObj) (wb : World) (m : BM) (w : World) (a : Act),
    Hb.length = nb → Tr mb Hb wb m H w → Rel B w0 m H w → FRel w m H fr a.tmps → a.defers = [] →
    c.wpIn (fenceR r) 0 P (fun e a' w' => After mb Hb wb B w0 (Q e) a' w') a w

def AWp (P : Program) (own : List Nat) (nb : Nat) (ac : AC) (Q : Exit → List AV → List AObj → Prop) (fr : List AV) (H : List AObj) : Prop :=
  ∀ c, trC P own c = some ac → AWpC P nb c Q fr H

/-- A step that the machine does not make: another view of the same state. -/
def Weak (nb : Nat) (fr : List AV) (H : List AObj) (fr' : List AV) (H' : List AObj) : Prop :=
  ∀ (B : Nat) (w0 : World) (mb : BM) (Hb : List AObj) (wb : World) (m : BM) (w : World) (tmps : Array Value),
    Hb.length = nb → Tr mb Hb wb m H w → Rel B w0 m H w → FRel w m H fr tmps → ∃ m', Tr mb Hb wb m' H' w ∧ Rel B w0 m' H' w ∧ FRel w m' H' fr' tmps

theorem Weak.refl (nb : Nat) (fr : List AV) (H : List AObj) : Weak nb fr H fr H := fun _ _ _ _ _ m _ _ _ t r f => ⟨m, t, r, f⟩
theorem Weak.trans {nb : Nat} {fr fr1 fr2 : List AV} {H H1 H2 : List AObj} (h : Weak nb fr H fr1 H1) (k : Weak nb fr1 H1 fr2 H2) : Weak nb fr H fr2 H2 :=
  fun B w0 mb Hb wb m w tmps hn t r f => let ⟨m1, t1, r1, f1⟩ := h B w0 mb Hb wb m w tmps hn t r f; k B w0 mb Hb wb m1 w tmps hn t1 r1 f1

def qSeq (n : List AV → List AObj → Prop) (Q : Exit → List AV → List AObj → Prop) : Exit → List AV → List AObj → Prop
  | .normal => n
  | e => Q e
def qBlock (id : Nat) (Q : Exit → List AV → List AObj → Prop) : Exit → List AV → List AObj → Prop
  | .exit i => if i = id then Q .normal else Q (.exit i)
  | e => Q e

section
variable {P : Program} {own : List Nat} {nb : Nat} {Q Q' : Exit → List AV → List AObj → Prop} {fr : List AV} {H : List AObj}

theorem AWp.mono {ac : AC} (h : AWp P own nb ac Q fr H) (hq : ∀ e fr H, Q e fr H → Q' e fr H) : AWp P own nb ac Q' fr H := by
  intro c hc r B w0 mb Hb wb m w a hn t rl f hd
  refine wpIn_mono (h c hc r B w0 mb Hb wb m w a hn t rl f hd) ?_
  rintro e a' w' ⟨m', fr', H', x1, x2, x3, x4, x5⟩
  exact ⟨m', fr', H', x1, x2, x3, x4, hq _ _ _ x5⟩

theorem AWp.weak {ac : AC} {fr' : List AV} {H' : List AObj} (hw : Weak nb fr H fr' H') (h : AWp P own nb ac Q fr' H') : AWp P own nb ac Q fr H := by
  intro c hc r B w0 mb Hb wb m w a hn t rl f hd
  obtain ⟨m', t', r', f'⟩ := hw B w0 mb Hb wb m w a.tmps hn t rl f
  exact h c hc r B w0 mb Hb wb m' w a hn t' r' f' hd

theorem AWp.skip (h : Q .normal fr H) : AWp P own nb .skip Q fr H := by
  intro c hc r B w0 mb Hb wb m w a hn t rl f hd
  have fin : After mb Hb wb B w0 (Q .normal) a w := ⟨m, fr, H, t, rl, f, hd, h⟩
  cases c <;> try simp [trC, Option.bind_eq_some_iff] at hc
  · exact wpIn_skip fin
  · rcases trC_region hc with ⟨_, h⟩ | ⟨_, h⟩ <;> cases h

theorem AWp.exit {id : Nat} (h : Q (.exit id) fr H) : AWp P own nb (.exit id) Q fr H := by
  intro c hc r B w0 mb Hb wb m w a hn t rl f hd
  have fin : After mb Hb wb B w0 (Q (.exit id)) a w := ⟨m, fr, H, t, rl, f, hd, h⟩
  cases c <;> try simp [trC, Option.bind_eq_some_iff] at hc
  · rcases trC_region hc with ⟨_, h⟩ | ⟨_, h⟩ <;> cases h
  · subst hc; exact wpIn_exit fin

theorem AWp.ret (h : Q .ret fr H) : AWp P own nb .ret Q fr H := by
  intro c hc r B w0 mb Hb wb m w a hn t rl f hd
  have fin : After mb Hb wb B w0 (Q .ret) a w := ⟨m, fr, H, t, rl, f, hd, h⟩
  cases c <;> try simp [trC, Option.bind_eq_some_iff] at hc
  · rcases trC_region hc with ⟨_, h⟩ | ⟨_, h⟩ <;> cases h
  · exact wpIn_ret fin

theorem AWp.seq {x y : AC} (h : AWp P own nb x (qSeq (fun fr H => AWp P own nb y Q fr H) Q) fr H) : AWp P own nb (.seq x y) Q fr H := by
  intro c hc r B w0 mb Hb wb m w a hn t rl f hd
  cases c <;> try simp [trC, Option.bind_eq_some_iff] at hc
  · rcases trC_region hc with ⟨_, h⟩ | ⟨_, h⟩ <;> cases h
  · rename_i cx cy
    obtain ⟨hx, hy⟩ := hc
    refine wpIn_seq (wpIn_mono (h cx hx r B w0 mb Hb wb m w a hn t rl f hd) ?_)
    rintro e a' w' ⟨m', fr', H', x1, x2, x3, x4, x5⟩
    cases e with
    | normal => exact x5 cy hy r B w0 mb Hb wb m' w' a' hn x1 x2 x3 x4
    | exit id => exact ⟨m', fr', H', x1, x2, x3, x4, x5⟩
    | goto l => exact ⟨m', fr', H', x1, x2, x3, x4, x5⟩
    | ret => exact ⟨m', fr', H', x1, x2, x3, x4, x5⟩
    | panic ch => exact ⟨m', fr', H', x1, x2, x3, x4, x5⟩
    | outgrown => exact ⟨m', fr', H', x1, x2, x3, x4, x5⟩

theorem AWp.cond {c : AX} {x y : AC} {b : Bool} (hb : c.ev fr = .sc (.bool b)) (ht : b = true → AWp P own nb x Q fr H) (hf : b = false → AWp P own nb y Q fr H) : AWp P own nb (.cond c x y) Q fr H := by
  intro cc hc r B w0 mb Hb wb m w a hn t rl f hd
  cases cc <;> try simp [trC, Option.bind_eq_some_iff] at hc
  · rcases trC_region hc with ⟨_, h⟩ | ⟨_, h⟩ <;> cases h
  · rename_i oc cx cy
    obtain ⟨ac, hcx, ax, hx, ay, hy, rfl, rfl, rfl⟩ := hc
    have hv := trX_rv f hcx
    rw [hb] at hv
    refine wpIn_cond (t := b) hv.sc_inv.1 ?_
    cases b
    · exact hf rfl cy hy r B w0 mb Hb wb m w a hn t rl f hd
    · exact ht rfl cx hx r B w0 mb Hb wb m w a hn t rl f hd

theorem AWp.block {id : Nat} {x : AC} (h : AWp P own nb x (qBlock id Q) fr H) : AWp P own nb (.block id x) Q fr H := by
  intro c hc r B w0 mb Hb wb m w a hn t rl f hd
  cases c <;> try simp [trC, Option.bind_eq_some_iff] at hc
  · rcases trC_region hc with ⟨_, h⟩ | ⟨_, h⟩ <;> cases h
  · rename_i id' cx
    obtain ⟨hx, hid⟩ : trC P own cx = some x ∧ id' = id := by first | exact hc | exact ⟨hc.2, hc.1⟩
    subst hid
    refine wpIn_block (wpIn_mono (h cx hx r B w0 mb Hb wb m w a hn t rl f hd) ?_)
    rintro e a' w' ⟨m', fr', H', x1, x2, x3, x4, x5⟩
    cases e with
    | normal => exact ⟨m', fr', H', x1, x2, x3, x4, x5⟩
    | exit i =>
      simp only [qBlock] at x5
      simp only [Exit.inBlock]
      split
      · rename_i h; rw [if_pos h] at x5; exact ⟨m', fr', H', x1, x2, x3, x4, x5⟩
      · rename_i h; rw [if_neg h] at x5; exact ⟨m', fr', H', x1, x2, x3, x4, x5⟩
    | goto l => exact ⟨m', fr', H', x1, x2, x3, x4, x5⟩
    | ret => exact ⟨m', fr', H', x1, x2, x3, x4, x5⟩
    | panic ch => exact ⟨m', fr', H', x1, x2, x3, x4, x5⟩
    | outgrown => exact ⟨m', fr', H', x1, x2, x3, x4, x5⟩

theorem exists_min {p : Nat → Prop} (h : ∃ n, p n) : ∃ n, p n ∧ ∀ k, p k → n ≤ k := by
  obtain ⟨n, hn⟩ := h
  induction n using Nat.strongRecOn with
  | _ n ih =>
    by_cases hk : ∃ k, k < n ∧ p k
    · obtain ⟨k, hk, hp⟩ := hk; exact ih k hk hp
    · exact ⟨n, hn, fun k hp => Nat.le_of_not_lt fun hlt => hk ⟨k, hlt, hp⟩⟩

open Classical in
noncomputable def least (p : Nat → Prop) : Nat := if h : ∃ n, p n then Classical.choose (exists_min h) else 0
theorem least_le {p : Nat → Prop} {n : Nat} (h : p n) : least p ≤ n := by
  unfold least
  rw [dif_pos ⟨n, h⟩]
  exact (Classical.choose_spec (exists_min ⟨n, h⟩)).2 n h
theorem least_mem {p : Nat → Prop} {n : Nat} (h : p n) : p (least p) := by
  unfold least
  rw [dif_pos ⟨n, h⟩]
  exact (Classical.choose_spec (exists_min ⟨n, h⟩)).1

/-- A loop: a relation over ghost states, and a measure. -/
theorem AWp.loop {σ : Type} {x : AC} (J : σ → List AV → List AObj → Prop) (μ : σ → Nat) (s0 : σ) {fr0 : List AV} {H0 : List AObj} (hw : Weak nb fr H fr0 H0) (h0 : J s0 fr0 H0)
    (step : ∀ s fr H, J s fr H → AWp P own nb x (qSeq (fun fr' H' => ∃ s' fr'' H'', Weak nb fr' H' fr'' H'' ∧ J s' fr'' H'' ∧ μ s' < μ s) Q) fr H) : AWp P own nb (.loop x) Q fr H := by
  intro c hc r B w0 mb Hb wb m w a hn t rl f hd
  cases c <;> try simp [trC, Option.bind_eq_some_iff] at hc
  · rcases trC_region hc with ⟨_, h⟩ | ⟨_, h⟩ <;> cases h
  · rename_i cx
    have hx := hc
    let p : Act → World → Nat → Prop := fun a w n => ∃ s, μ s = n ∧ After mb Hb wb B w0 (J s) a w
    have hinit : p a w (μ s0) := by
      obtain ⟨m', t', r', f'⟩ := hw B w0 mb Hb wb m w a.tmps hn t rl f
      exact ⟨s0, rfl, m', fr0, H0, t', r', f', hd, h0⟩
    refine wpIn_loop (I := fun a w => ∃ n, p a w n) (μ := fun a w => least (p a w)) ⟨_, hinit⟩ ?_
    rintro a w ⟨n, hp⟩
    obtain ⟨s, hs, m, fr, H, t, rl, f, hd, hJ⟩ := least_mem hp
    refine wpIn_mono (step s fr H hJ cx hx r B w0 mb Hb wb m w a hn t rl f hd) ?_
    rintro e a' w' ⟨m', fr', H', x1, x2, x3, x4, x5⟩
    cases e with
    | normal =>
      obtain ⟨s', fr'', H'', hwk, hJ', hlt⟩ := x5
      obtain ⟨m2, t2, r2, f2⟩ := hwk B w0 mb Hb wb m' w' a'.tmps hn x1 x2 x3
      have hp' : p a' w' (μ s') := ⟨s', rfl, m2, fr'', H'', t2, r2, f2, x4, hJ'⟩
      refine ⟨⟨_, hp'⟩, ?_⟩
      have := least_le hp'
      omega
    | exit id => exact ⟨m', fr', H', x1, x2, x3, x4, x5⟩
    | goto l => exact ⟨m', fr', H', x1, x2, x3, x4, x5⟩
    | ret => exact ⟨m', fr', H', x1, x2, x3, x4, x5⟩
    | panic ch => exact ⟨m', fr', H', x1, x2, x3, x4, x5⟩
    | outgrown => exact ⟨m', fr', H', x1, x2, x3, x4, x5⟩

/-! ### Functions -/
inductive ARes where
  | t (n : Nat)
  | cell (n sz : Nat) (ag : Bool)

def trRes (P : Program) : ResultVar → Option ARes
  | .tmp t => some (.t t)
  | .cell a t => do some (.cell a (← szT P t) (← isAggT P t))

def resVal (fr : List AV) (H : List AObj) : ARes → Option AV
  | .t n => some (fr.getD n .und)
  | .cell n sz ag => (evK (.ld sz ag (.t n)) fr H).map (·.1)

def tupV : List AV → AV
  | [v] => v
  | vs => .tup vs

def retOk (nb : Nat) (rs : List ARes) (R : AV → List AObj → Prop) (fr : List AV) (H : List AObj) : Prop :=
  ∃ vs v' H', rs.mapM (resVal fr H) = some vs ∧ Weak nb [tupV vs] H [v'] H' ∧ R v' H'

def bodyQ (nb : Nat) (rs : List ARes) (R : AV → List AObj → Prop) : Exit → List AV → List AObj → Prop
  | .normal | .ret => retOk nb rs R
  | _ => fun _ _ => False

def resOne (tmps : Array Value) : ResultVar → Sem Value
  | .tmp t => pure (tmps.getD t undef)
  | .cell a t => do loadVar t (← asAddr (tmps.getD a undef))
theorem results_eq (fn : Func) (tmps : Array Value) : results fn tmps = (do let vs ← fn.results.mapM (resOne tmps); pure (if h : vs.size = 1 then vs[0] else .tuple vs)) := rfl

theorem results_run {w : World} {m : BM} {B : Nat} {w0 : World} (rl : Rel B w0 m H w) {tmps : Array Value} (f : FRel w m H fr tmps) : ∀ (l : List ResultVar) (rs : List ARes) (vs : List AV), l.mapM (trRes P) = some rs → rs.mapM (resVal fr H) = some vs →
    ∃ us : List Value, (l.mapM (resOne tmps)).run P w = .ok us w ∧ vs.length = us.length ∧ ∀ j (h : j < vs.length) (h' : j < us.length), RV w m H vs[j] us[j]
  | [], rs, vs, h1, h2 => by
    simp at h1; subst h1; simp at h2; subst h2
    exact ⟨[], by simp, rfl, fun j h => by simp at h⟩
  | x :: l, rs, vs, h1, h2 => by
    simp only [List.mapM_cons, Option.bind_eq_bind, Option.bind_eq_some_iff, Option.pure_def, Option.some.injEq] at h1
    obtain ⟨y, hy, ys, hys, rfl⟩ := h1
    simp only [List.mapM_cons, Option.bind_eq_bind, Option.bind_eq_some_iff, Option.pure_def, Option.some.injEq] at h2
    obtain ⟨v, hv, vs', hvs, rfl⟩ := h2
    obtain ⟨us, g1, g2, g3⟩ := results_run rl f l ys vs' hys hvs
    have one : ∃ u, (resOne tmps x).run P w = .ok u w ∧ RV w m H v u := by
      cases x with
      | tmp t =>
        simp only [trRes, Option.some.injEq] at hy
        subst hy
        simp only [resVal, Option.some.injEq] at hv
        subst hv
        exact ⟨_, rfl, f.get t⟩
      | cell p t =>
        simp only [trRes, Option.bind_eq_bind, Option.bind_eq_some_iff, Option.some.injEq] at hy
        obtain ⟨sz, hs, ag, hg, rfl⟩ := hy
        simp only [resVal, Option.map_eq_some_iff] at hv
        obtain ⟨⟨v1, H1⟩, hev, rfl⟩ := hv
        have hp : RV w m H ((AX.t p).ev fr) (tmps.getD p undef) := f.get p
        obtain ⟨_, u', hu, hr⟩ := ld_sound (P := P) rl hs hg hp hev
        refine ⟨u', ?_, hr⟩
        simp only [evK] at hev
        have : ∃ ad, tmps.getD p undef = .pointer (some ad) := by
          split at hev
          · rename_i he; rw [he] at hp; obtain ⟨ad, _, h, _⟩ := hp.ptr_inv; exact ⟨ad, h⟩
          · rename_i he; rw [he] at hp; obtain ⟨ad, _, h, _⟩ := hp.ipt_inv; exact ⟨_, h⟩
          · cases hev
        obtain ⟨ad, had⟩ := this
        rw [had] at hu
        have e : resOne tmps (.cell p t) = (do loadVar t (← asAddr (tmps.getD p undef))) := rfl
        rw [e, had]
        simpa [Instr.loadAt, Instr.sureAddr, asAddr] using hu
    obtain ⟨u, hu, hr⟩ := one
    refine ⟨u :: us, ?_, by simp [g2], fun j h h' => ?_⟩
    · simp only [List.mapM_cons, Sem.run_bind, hu, Result.andThen_ok, g1, Sem.run_pure]
    · cases j with
      | zero => exact hr
      | succ j => exact g3 j (by simpa using h) (by simpa using h')

theorem ACalls.of_body {f : FuncId} {fn : Func} {c : Code} {ac : AC} {rs : List ARes} {args : List AV} {R : AV → List AObj → Prop} (hfn : P.funcs[f]? = some fn) (hname : (fn.name == "runtime.NumGoroutine") = false)
    (hb : fn.body = some c) (htr : trC P own c = some ac) (hrs : fn.results.toList.mapM (trRes P) = some rs)
    (h : AWp P own H.length ac (bodyQ H.length rs R) (args ++ List.replicate (fn.ntmps - args.length) .und) H) : ACalls P f args H R := by
  refine ⟨⟨fn, hfn, hname, by rw [hb]; rfl⟩, fun B w0 m w vs rl hvs => ?_⟩
  refine (callsIn_wide (n := 0)).1 (callsIn_of_wp hfn hb trivial ?_)
  have hf : FRel w m H (args ++ List.replicate (fn.ntmps - args.length) .und) (vs ++ Array.replicate (fn.ntmps - vs.size) undef) := by
    have hl := hvs.1
    refine ⟨by simp [hl], fun i h1 h2 => ?_⟩
    simp only [List.getElem_append, Array.getElem_append]
    by_cases c1 : i < args.length
    · rw [dif_pos c1, dif_pos (by omega)]; exact hvs.2 i c1 (by omega)
    · rw [dif_neg c1, dif_neg (by omega)]; simp only [List.getElem_replicate]; exact .und _
  refine wpIn_mono (h c htr none B w0 m H w m w { tmps := vs ++ Array.replicate (fn.ntmps - vs.size) undef, defers := [] } rfl (Tr.refl _ _ _) rl hf rfl) ?_
  rintro e a' w' ⟨m', fr', H', x1, x2, x3, x4, x5⟩
  have fin : retOk H.length rs R fr' H' → a'.defers = [] ∧ ∃ v, (results fn a'.tmps).run P w' = .ok v w' ∧ ∃ v1 r m1 H1, (Ending.returned v) = .returned v1 ∧ Tr m H w m1 H1 w' ∧ Rel B w0 m1 H1 w' ∧ RV w' m1 H1 r v1 ∧ R r H1 := by
    rintro ⟨us, v', H2, hm, hw, hR⟩
    obtain ⟨zs, g1, g2, g3⟩ := results_run (P := P) x2 x3 fn.results.toList rs us hrs hm
    obtain ⟨zv, hzv, hrun⟩ : ∃ zv, RV w' m' H' (tupV us) zv ∧ (results fn a'.tmps).run P w' = .ok zv w' := by
      have hmm : (fn.results.mapM (resOne a'.tmps)).run P w' = .ok zs.toArray w' := by
        rw [← Array.toArray_toList (xs := fn.results), List.mapM_toArray]
        rw [Sem.run_map, g1]; rfl
      refine ⟨if h : zs.toArray.size = 1 then zs.toArray[0] else .tuple zs.toArray, ?_, ?_⟩
      · match us, zs, g2, g3 with
        | [], [], _, _ => exact .tup (by simp) (by intro j h; simp at h)
        | [u], [z], _, g3 => exact g3 0 (by simp) (by simp)
        | u :: u' :: us, z :: z' :: zs, g2, g3 => exact .tup (by simpa using g2) (fun j h h' => by simpa using g3 j h (by simpa using h'))
      · rw [results_eq]
        simp only [Sem.run_bind, hmm, Result.andThen_ok, Sem.run_pure]
    obtain ⟨m1, t1, r1, f1⟩ := hw B w0 m H w m' w' #[zv] rfl x1 x2 ⟨rfl, fun i h1 h2 => by simp at h1; subst h1; exact hzv⟩
    exact ⟨x4, zv, hrun, zv, v', m1, H2, rfl, t1, r1, f1.rv 0 (by simp) (by simp), hR⟩
  cases e with
  | normal => exact fin x5
  | ret => exact fin x5
  | exit id => exact x5.elim
  | goto l => exact x5.elim
  | panic ch => exact x5.elim
  | outgrown => exact x5.elim
end
end Go.Fw
