/- The logic: what a piece of code does to frame and objects ('AWp'), what a call does ('ACalls'), and the rules. -/
import Derived.Test.YtkfooghdpfhiaaaFwN
namespace Go.Fw
open Go Go.RowKit

/-- A call of function f on abstract arguments. -/
def ACalls (P : Program) (f : FuncId) (args : List AV) (H : List AObj) (R : AV → List AObj → Prop) : Prop :=
  (∃ fn, P.funcs[f]? = some fn ∧ (fn.name == "runtime.NumGoroutine") = false ∧ fn.body.isNone = false) ∧
  ∀ (B : Nat) (w0 : World) (m : BM) (w : World) (vs : Array Value), Rel B w0 m H w → RVs w m H args vs →
    Calls P f vs w fun e w' => ∃ v r m' H', e = .returned v ∧ Tr m H w m' H' w' ∧ Rel B w0 m' H' w' ∧ RV w' m' H' r v ∧ R r H'

def putD (fr : List AV) (d : Option Nat) (v : AV) : List AV :=
  match d with
  | some d => fr.set d v
  | none => fr

def callV (P : Program) (prot : Bool) (f : AV) (args : List AV) (H : List AObj) (next : AV → List AObj → Prop) : Prop :=
  match f with
  | .fn (.func g) first caps => ACalls P g (first ++ args ++ caps) H fun r H' => (prot = true → ∃ G, H' = H ++ G) ∧ next r H'
  | _ => False

def kWp (P : Program) (k : AKK) (dst : Option Nat) (next : List AV → List AObj → Prop) (fr : List AV) (H : List AObj) : Prop :=
  match k with
  | .call prot f args => callV P prot (f.ev fr) (args.map (·.ev fr)) H fun r H' => next (putD fr dst r) H'
  | .k k => ∃ v H', evK k fr H = some (v, H') ∧ next (putD fr dst v) H'

def opWp (P : Program) (o : AOp) (next : List AV → List AObj → Prop) (fr : List AV) (H : List AObj) : Prop :=
  match o.guard with
  | none => kWp P o.k o.dst next fr H
  | some (t, b) => match fr.getD t .und with
    | .sc (.bool c) => if c = b then kWp P o.k o.dst next fr H else next (putD fr o.dst (.tup [])) H
    | .tup [] => next (putD fr o.dst (.tup [])) H
    | _ => False

def opsWp (P : Program) : List AOp → (List AV → List AObj → Prop) → List AV → List AObj → Prop
  | [], next, fr, H => next fr H
  | o :: l, next, fr, H => opWp P o (opsWp P l next) fr H

def fenceR (r : Option Nat) : Fence := { Fence.wide with round := r }
theorem fenceR_fn (r : Option Nat) (f : FuncId) : (fenceR r).fn f := trivial
theorem fenceR_depth (r : Option Nat) : (fenceR r).depth.isSome = true → 1 ≤ 0 := by intro h; simp [fenceR, Fence.wide] at h

section
variable {P : Program} {own : List Nat}

theorem calls_fenceR {r : Option Nat} {n : Nat} {f : FuncId} {args : Array Value} {w : World} {R : Ending → World → Prop} (h : Calls P f args w R) : CallsIn (fenceR r) n P f args w R :=
  (callsIn_wide (n := n)).2 h

/-- The state that a piece of code leaves, seen from a base line. -/
def After (mb : BM) (Hb : List AObj) (wb : World) (B : Nat) (w0 : World) (Q : List AV → List AObj → Prop) (a : Act) (w : World) : Prop :=
  ∃ m fr H, Tr mb Hb wb m H w ∧ Rel B w0 m H w ∧ FRel w m H fr a.tmps ∧ a.defers = [] ∧ Q fr H

theorem putD_rel {w : World} {m : BM} {H : List AObj} {fr : List AV} {a : Act} (h : FRel w m H fr a.tmps) (d : Option Nat) {x : AV} {v : Value} (hx : RV w m H x v) : FRel w m H (putD fr d x) (a.put d v).tmps := by
  cases d with
  | none => exact h
  | some d => exact h.put d hx
theorem put_defers (a : Act) (d : Option Nat) (v : Value) : (a.put d v).defers = a.defers := by cases d <;> rfl

theorem no_defer {draw : Bool} {o : Oper} {k : AKK} (h : trKK P own draw o = some k) : ∀ c, o.op ≠ .defer c := by
  intro c hc
  unfold trKK trK at h
  rw [hc] at h
  cases h

/-- One operation. -/
theorem op_sound {r : Option Nat} {B : Nat} {w0 : World} {mb : BM} {Hb : List AObj} {wb : World} {m : BM} {H : List AObj} {w : World} {fr : List AV} {a : Act} {draw : Bool} {o : Oper} {k : AKK}
    (ht : Tr mb Hb wb m H w) (hr : Rel B w0 m H w) (hf : FRel w m H fr a.tmps) (hd : a.defers = []) (htr : trKK P own draw o = some k) {next : List AV → List AObj → Prop} (h : kWp P k o.dst next fr H)
    {K : Act → World → Prop} (hK : ∀ a w, After mb Hb wb B w0 next a w → K a w) (Q : Exit → Act → World → Prop) : o.wpIn (fenceR r) 0 P a w K Q := by
  refine ⟨fun f _ => fenceR_fn r f, ?_⟩
  rw [show (fenceR r).round = r from rfl, Oper.semAt_eq r a.eval o (no_defer htr)]
  unfold trKK at htr
  split at htr
  · rename_i g as' ts hop
    simp only [Option.bind_eq_bind, Option.bind_eq_some_iff, Option.some.injEq] at htr
    obtain ⟨f, hg, args, has, rfl⟩ := htr
    simp only [kWp, callV] at h
    split at h
    case h_2 => exact h.elim
    rename_i gf first caps hfe
    obtain ⟨⟨fn, hfn, hname, hbody⟩, hcalls⟩ := h
    have hgr := trX_rv hf hg
    rw [hfe] at hgr
    obtain ⟨us, vs, hge, ⟨hu1, hu2⟩, ⟨hv1, hv2⟩⟩ := hgr.fn_inv
    obtain ⟨ha1, ha2⟩ := RVs_of_mapM hf has
    have hargs : RVs w m H (first ++ args.map (·.ev fr) ++ caps) (us ++ as'.map a.eval ++ vs) := by
      refine ⟨by simp only [List.length_append, Array.size_append]; omega, fun j h1 h2 => ?_⟩
      simp only [List.getElem_append, Array.getElem_append]
      by_cases c1 : j < first.length + (args.map (·.ev fr)).length
      · have c1' : j < (us ++ as'.map a.eval).size := by simp only [Array.size_append]; omega
        have c1'' : j < (first ++ args.map (·.ev fr)).length := by simp only [List.length_append]; omega
        rw [dif_pos c1'', dif_pos c1']
        by_cases c2 : j < first.length
        · have c2' : j < us.size := by omega
          rw [dif_pos c2, dif_pos c2']; exact hu2 j c2 c2'
        · have c2' : ¬ j < us.size := by omega
          rw [dif_neg c2, dif_neg c2']
          have := ha2 (j - first.length) (by omega) (by omega)
          simpa [hu1] using this
      · have c1' : ¬ j < (us ++ as'.map a.eval).size := by simp only [Array.size_append]; omega
        have c1'' : ¬ j < (first ++ args.map (·.ev fr)).length := by simp only [List.length_append]; omega
        rw [dif_neg c1'', dif_neg c1']
        have h3 : j - (first ++ args.map (·.ev fr)).length < caps.length := by simp only [List.length_append] at h1 ⊢; omega
        have h4 : j - (us ++ as'.map a.eval).size < vs.size := by simp only [Array.size_append, List.length_append] at h3 ⊢; omega
        have e : (us ++ as'.map a.eval).size = (first ++ args.map (·.ev fr)).length := by simp only [Array.size_append, List.length_append]; omega
        have h5 : j - (first ++ args.map (·.ev fr)).length < vs.size := by omega
        have := hv2 _ h3 h5
        simp only [e]
        exact this
    have hrun : (execOp a.eval o).run P w = .ok (.enter gf (us ++ as'.map a.eval ++ vs)) w := by
      have hname' : ¬ fn.name = "runtime.NumGoroutine" := by simpa using hname
      have hbody' : ¬ fn.body = none := by intro e; rw [e] at hbody; cases hbody
      simp [execOp, hop, resolve, hge, Deferred.ofValue, invoke, callFunc, hfn, hname', hbody', Array.append_assoc]
    rw [hrun]
    refine ⟨fenceR_depth r, calls_fenceR ((hcalls B w0 m w _ hr hargs).mono ?_)⟩
    rintro e w' ⟨v, rv, m', H', rfl, t', r', hv, _, hn⟩
    exact hK _ _ ⟨m', _, H', ht.trans t', r', putD_rel (hf.mono t') o.dst hv, by rw [put_defers]; exact hd, hn⟩
  · simp only [Option.map_eq_some_iff] at htr
    obtain ⟨k, htr, rfl⟩ := htr
    obtain ⟨v, H', hev, hn⟩ := h
    obtain ⟨m', w', nx, v', hrun, hnx, t', r', hv⟩ := evK_sound hr hf htr hev
    rw [hrun]
    have fin : K (a.put o.dst v') w' := hK _ _ ⟨m', _, H', ht.trans t', r', putD_rel (hf.mono t') o.dst hv, by rw [put_defers]; exact hd, hn⟩
    rcases hnx with rfl | ⟨rfl, rfl⟩
    · exact fin
    · exact fin

theorem guard_sound {w : World} {m : BM} {H : List AObj} {fr : List AV} {a : Act} (hf : FRel w m H fr a.tmps) {ops : Array Oper} {j : Nat} {q : Oper} (hq : ops[j]? = some q) {t : Nat} (ht : q.dst = some t) :
    (∀ c, fr.getD t .und = .sc (.bool c) → yielded ops a.tmps j = some c) ∧ (fr.getD t .und = .tup [] → yielded ops a.tmps j = none) := by
  have hg := hf.get t
  constructor
  · intro c hc
    rw [hc] at hg
    have h1 := hg.sc_inv.1
    have h2 : a.tmps[t]? = some (.bool c) := by
      by_cases hlt : t < a.tmps.size
      · rw [Array.getElem?_eq_getElem hlt]
        have : a.tmps.getD t undef = a.tmps[t] := by simp [Array.getD, hlt]
        rw [← this, h1]
      · have : a.tmps.getD t undef = undef := by simp [Array.getD, hlt]
        rw [this] at h1; simp [undef] at h1
    simp [yielded, hq, ht, h2]
  · intro hc
    rw [hc] at hg
    obtain ⟨vs, h1, hn, _⟩ := hg.tup_inv
    by_cases hlt : t < a.tmps.size
    · have : a.tmps.getD t undef = a.tmps[t] := by simp [Array.getD, hlt]
      have h3 : a.tmps[t]? = some (.tuple vs) := by rw [Array.getElem?_eq_getElem hlt, ← this, h1]
      simp [yielded, hq, ht, h3]
    · have h3 : a.tmps[t]? = none := Array.getElem?_eq_none (by omega)
      simp [yielded, hq, ht, h3]

/-- Operations, in an order. -/
theorem ops_sound {r : Option Nat} {B : Nat} {w0 : World} {mb : BM} {Hb : List AObj} {wb : World} {draw : Bool} {ops : Array Oper} {Q : Exit → Act → World → Prop} {next : List AV → List AObj → Prop}
    (hK : ∀ a w, After mb Hb wb B w0 next a w → Q .normal a w) :
    ∀ (ord : List Nat) (l : List AOp), ord.length = l.length → (∀ j (h : j < ord.length) (h' : j < l.length), ∃ o, ops[ord[j]]? = some o ∧ trOp P own draw ops o = some l[j]) →
      ∀ (m : BM) (H : List AObj) (w : World) (fr : List AV) (a : Act), Tr mb Hb wb m H w → Rel B w0 m H w → FRel w m H fr a.tmps → a.defers = [] → opsWp P l next fr H → wpOpsIn (fenceR r) 0 P ops Q ord a w
  | [], [], _, _, m, H, w, fr, a, ht, hr, hf, hd, h => hK a w ⟨m, fr, H, ht, hr, hf, hd, h⟩
  | [], _ :: _, hl, _, _, _, _, _, _, _, _, _, _, _ => by simp at hl
  | _ :: _, [], hl, _, _, _, _, _, _, _, _, _, _, _ => by simp at hl
  | i :: ord, ao :: l, hl, htr, m, H, w, fr, a, ht, hr, hf, hd, h => by
    obtain ⟨o, ho, hto⟩ := htr 0 (by simp) (by simp)
    simp only [List.getElem_cons_zero] at ho hto
    have ih := ops_sound (r := r) (B := B) (w0 := w0) (draw := draw) (ops := ops) hK ord l (by simpa using hl) (fun j h1 h2 => htr (j + 1) (Nat.succ_lt_succ h1) (Nat.succ_lt_succ h2))
    have ihK : ∀ a w, After mb Hb wb B w0 (opsWp P l next) a w → wpOpsIn (fenceR r) 0 P ops Q ord a w := by
      rintro a w ⟨m, fr, H, ht, hr, hf, hd, h⟩
      exact ih m H w fr a ht hr hf hd h
    simp only [trOp, Option.bind_eq_bind, Option.bind_eq_some_iff] at hto
    obtain ⟨k, hk, hto⟩ := hto
    simp only [wpOpsIn, ho]
    simp only [opsWp, opWp] at h
    cases hg : o.guard with
    | none =>
      simp only [hg, Option.some.injEq] at hto
      subst hto
      simp only at h
      rw [if_pos (by simp [Region.wanted, hg])]
      exact op_sound ht hr hf hd hk h ihK Q
    | some gb =>
      obtain ⟨j, b⟩ := gb
      simp only [hg, Option.bind_eq_some_iff, Option.some.injEq] at hto
      obtain ⟨q, hq, t, hqt, rfl⟩ := hto
      simp only at h
      obtain ⟨g1, g2⟩ := guard_sound hf hq hqt
      have skip : next = next → opsWp P l next (putD fr o.dst (.tup [])) H → (∀ f, o.about P w a.eval = some f → (fenceR r).fn f) ∧ wpOpsIn (fenceR r) 0 P ops Q ord (a.put o.dst undef) w := by
        intro _ hs
        exact ⟨fun f _ => fenceR_fn r f, ihK _ _ ⟨m, _, H, ht, hr, putD_rel hf o.dst (.tup (by simp) (by intro j hj; simp at hj)), by rw [put_defers]; exact hd, hs⟩⟩
      split at h
      · rename_i c hc
        have hy := g1 c hc
        by_cases hcb : c = b
        · rw [if_pos hcb] at h
          rw [if_pos (by simp [Region.wanted, hg, hy, hcb])]
          exact op_sound ht hr hf hd hk h ihK Q
        · rw [if_neg hcb] at h
          rw [if_neg (by simp [Region.wanted, hg, hy, hcb])]
          exact skip rfl h
      · rename_i hc
        have hy := g2 hc
        rw [if_neg (by simp [Region.wanted, hg, hy])]
        exact skip rfl h
      · exact h.elim
end
end Go.Fw
