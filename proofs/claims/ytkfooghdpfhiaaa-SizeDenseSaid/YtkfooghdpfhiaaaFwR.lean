/- Code, rule by rule; functions. -/
import Derived.Test.YtkfooghdpfhiaaaFwQ
namespace Go.Fw
open Go Go.RowKit

def AWpC (P : Program) (nb : Nat) (c : Code) (Q : Exit → List AV → List AObj → Prop) (fr : List AV) (H : List AObj) : Prop :=
  ∀ (r : Option Nat) (B : Nat) (w0 : World) (mb : BM) (Hb : List AObj) (wb : World) (m : BM) (w : World) (a : Act),
    Hb.length = nb → Tr mb Hb wb m H w → Rel B w0 m H w → FRel w m H fr a.tmps → a.defers = [] →
    c.wpIn (fenceR r) 0 P (fun e a' w' => After mb Hb wb B w0 (Q e) a' w') a w

def AWp (P : Program) (own : List Nat) (nb : Nat) (ac : AC) (Q : Exit → List AV → List AObj → Prop) (fr : List AV) (H : List AObj) : Prop :=
  ∀ c, trC P own c = some ac → AWpC P nb c Q fr H

/-- A step that the machine does not make: another view of the same state. -/
def Weak (nb : Nat) (fr : List AV) (H : List AObj) (fr' : List AV) (H' : List AObj) : Prop :=
  ∀ (B : Nat) (w0 : World) (mb : BM) (Hb : List AObj) (wb : World) (m : BM) (w : World) (tmps : Array Value),
    Hb.length = nb → Tr mb Hb wb m H w → Rel B w0 m H w → FRel w m H fr tmps → ∃ m', Tr mb Hb wb m' H' w ∧ Rel B w0 m' H' w ∧ FRel w m' H' fr' tmps

theorem Weak.refl (nb : Nat) (fr : List AV) (H : List AObj) : Weak nb fr H fr H := fun _ _ _ _ _ m _ _ _ t r f => ⟨m, t, r, f⟩
theorem Weak.trans {nb : Nat} {fr fr1 fr2 : List AV} {H H1 H2 : List AObj} (h : Weak nb fr H fr1 H1) (k : Weak nb fr1 H1 fr2 H2) : Weak nb fr H fr2 H2 :=
  fun B w0 mb Hb wb m w tmps hn t r f => let ⟨m1, t1, r1, f1⟩ := h B w0 mb Hb wb m w tmps hn t r f; k B w0 mb Hb wb m1 w tmps hn t1 r1 f1

def qSeq (n : List AV → List AObj → Prop) (Q : Exit → List AV → List AObj → Prop) : Exit → List AV → List AObj → Prop
  | .normal => n
  | e => Q e
def qBlock (id : Nat) (Q : Exit → List AV → List AObj → Prop) : Exit → List AV → List AObj → Prop
  | .exit i => if i = id then Q .normal else Q (.exit i)
  | e => Q e

section
variable {P : Program} {own : List Nat} {nb : Nat} {Q Q' : Exit → List AV → List AObj → Prop} {fr : List AV} {H : List AObj}

theorem AWp.mono {ac : AC} (h : AWp P own nb ac Q fr H) (hq : ∀ e fr H, Q e fr H → Q' e fr H) : AWp P own nb ac Q' fr H := by
  intro c hc r B w0 mb Hb wb m w a hn t rl f hd
  refine wpIn_mono (h c hc r B w0 mb Hb wb m w a hn t rl f hd) ?_
  rintro e a' w' ⟨m', fr', H', x1, x2, x3, x4, x5⟩
  exact ⟨m', fr', H', x1, x2, x3, x4, hq _ _ _ x5⟩

theorem AWp.weak {ac : AC} {fr' : List AV} {H' : List AObj} (hw : Weak nb fr H fr' H') (h : AWp P own nb ac Q fr' H') : AWp P own nb ac Q fr H := by
  intro c hc r B w0 mb Hb wb m w a hn t rl f hd
  obtain ⟨m', t', r', f'⟩ := hw B w0 mb Hb wb m w a.tmps hn t rl f
  exact h c hc r B w0 mb Hb wb m' w a hn t' r' f' hd

theorem AWp.skip (h : Q .normal fr H) : AWp P own nb .skip Q fr H := by
  intro c hc r B w0 mb Hb wb m w a hn t rl f hd
  have fin : After mb Hb wb B w0 (Q .normal) a w := ⟨m, fr, H, t, rl, f, hd, h⟩
  cases c <;> try simp [trC, Option.bind_eq_some_iff] at hc
  · exact wpIn_skip fin
  · rcases trC_region hc with ⟨_, h⟩ | ⟨_, h⟩ <;> cases h

theorem AWp.exit {id : Nat} (h : Q (.exit id) fr H) : AWp P own nb (.exit id) Q fr H := by
  intro c hc r B w0 mb Hb wb m w a hn t rl f hd
  have fin : After mb Hb wb B w0 (Q (.exit id)) a w := ⟨m, fr, H, t, rl, f, hd, h⟩
  cases c <;> try simp [trC, Option.bind_eq_some_iff] at hc
  · rcases trC_region hc with ⟨_, h⟩ | ⟨_, h⟩ <;> cases h
  · subst hc; exact wpIn_exit fin

theorem AWp.ret (h : Q .ret fr H) : AWp P own nb .ret Q fr H := by
  intro c hc r B w0 mb Hb wb m w a hn t rl f hd
  have fin : After mb Hb wb B w0 (Q .ret) a w := ⟨m, fr, H, t, rl, f, hd, h⟩
  cases c <;> try simp [trC, Option.bind_eq_some_iff] at hc
  · rcases trC_region hc with ⟨_, h⟩ | ⟨_, h⟩ <;> cases h
  · exact wpIn_ret fin

theorem AWp.seq {x y : AC} (h : AWp P own nb x (qSeq (fun fr H => AWp P own nb y Q fr H) Q) fr H) : AWp P own nb (.seq x y) Q fr H := by
  intro c hc r B w0 mb Hb wb m w a hn t rl f hd
  cases c <;> try simp [trC, Option.bind_eq_some_iff] at hc
  · rcases trC_region hc with ⟨_, h⟩ | ⟨_, h⟩ <;> cases h
  · rename_i cx cy
    obtain ⟨hx, hy⟩ := hc
    refine wpIn_seq (wpIn_mono (h cx hx r B w0 mb Hb wb m w a hn t rl f hd) ?_)
    rintro e a' w' ⟨m', fr', H', x1, x2, x3, x4, x5⟩
    cases e with
    | normal => exact x5 cy hy r B w0 mb Hb wb m' w' a' hn x1 x2 x3 x4
    | exit id => exact ⟨m', fr', H', x1, x2, x3, x4, x5⟩
    | goto l => exact ⟨m', fr', H', x1, x2, x3, x4, x5⟩
    | ret => exact ⟨m', fr', H', x1, x2, x3, x4, x5⟩
    | panic ch => exact ⟨m', fr', H', x1, x2, x3, x4, x5⟩
    | outgrown => exact ⟨m', fr', H', x1, x2, x3, x4, x5⟩

theorem AWp.cond {c : AX} {x y : AC} {b : Bool} (hb : c.ev fr = .sc (.bool b)) (ht : b = true → AWp P own nb x Q fr H) (hf : b = false → AWp P own nb y Q fr H) : AWp P own nb (.cond c x y) Q fr H := by
  intro cc hc r B w0 mb Hb wb m w a hn t rl f hd
  cases cc <;> try simp [trC, Option.bind_eq_some_iff] at hc
  · rcases trC_region hc with ⟨_, h⟩ | ⟨_, h⟩ <;> cases h
  · rename_i oc cx cy
    obtain ⟨ac, hcx, ax, hx, ay, hy, rfl, rfl, rfl⟩ := hc
    have hv := trX_rv f hcx
    rw [hb] at hv
    refine wpIn_cond (t := b) hv.sc_inv.1 ?_
    cases b
    · exact hf rfl cy hy r B w0 mb Hb wb m w a hn t rl f hd
    · exact ht rfl cx hx r B w0 mb Hb wb m w a hn t rl f hd

theorem AWp.block {id : Nat} {x : AC} (h : AWp P own nb x (qBlock id Q) fr H) : AWp P own nb (.block id x) Q fr H := by
  intro c hc r B w0 mb Hb wb m w a hn t rl f hd
  cases c <;> try simp [trC, Option.bind_eq_some_iff] at hc
  · rcases trC_region hc with ⟨_, h⟩ | ⟨_, h⟩ <;> cases h
  · rename_i id' cx
    obtain ⟨hx, hid⟩ : trC P own cx = some x ∧ id' = id := by first | exact hc | exact ⟨hc.2, hc.1⟩
    subst hid
    refine wpIn_block (wpIn_mono (h cx hx r B w0 mb Hb wb m w a hn t rl f hd) ?_)
    rintro e a' w' ⟨m', fr', H', x1, x2, x3, x4, x5⟩
    cases e with
    | normal => exact ⟨m', fr', H', x1, x2, x3, x4, x5⟩
    | exit i =>
      simp only [qBlock] at x5
      simp only [Exit.inBlock]
      split
      · rename_i h; rw [if_pos h] at x5; exact ⟨m', fr', H', x1, x2, x3, x4, x5⟩
      · rename_i h; rw [if_neg h] at x5; exact ⟨m', fr', H', x1, x2, x3, x4, x5⟩
    | goto l => exact ⟨m', fr', H', x1, x2, x3, x4, x5⟩
    | ret => exact ⟨m', fr', H', x1, x2, x3, x4, x5⟩
    | panic ch => exact ⟨m', fr', H', x1, x2, x3, x4, x5⟩
    | outgrown => exact ⟨m', fr', H', x1, x2, x3, x4, x5⟩

theorem exists_min {p : Nat → Prop} (h : ∃ n, p n) : ∃ n, p n ∧ ∀ k, p k → n ≤ k := by
  obtain ⟨n, hn⟩ := h
  induction n using Nat.strongRecOn with
  | _ n ih =>
    by_cases hk : ∃ k, k < n ∧ p k
    · obtain ⟨k, hk, hp⟩ := hk; exact ih k hk hp
    · exact ⟨n, hn, fun k hp => Nat.le_of_not_lt fun hlt => hk ⟨k, hlt, hp⟩⟩

open Classical in
noncomputable def least (p : Nat → Prop) : Nat := if h : ∃ n, p n then Classical.choose (exists_min h) else 0
theorem least_le {p : Nat → Prop} {n : Nat} (h : p n) : least p ≤ n := by
  unfold least
  rw [dif_pos ⟨n, h⟩]
  exact (Classical.choose_spec (exists_min ⟨n, h⟩)).2 n h
theorem least_mem {p : Nat → Prop} {n : Nat} (h : p n) : p (least p) := by
  unfold least
  rw [dif_pos ⟨n, h⟩]
  exact (Classical.choose_spec (exists_min ⟨n, h⟩)).1

/-- A loop: a relation over ghost states, and a measure. -/
theorem AWp.loop {σ : Type} {x : AC} (J : σ → List AV → List AObj → Prop) (μ : σ → Nat) (s0 : σ) {fr0 : List AV} {H0 : List AObj} (hw : Weak nb fr H fr0 H0) (h0 : J s0 fr0 H0)
    (step : ∀ s fr H, J s fr H → AWp P own nb x (qSeq (fun fr' H' => ∃ s' fr'' H'', Weak nb fr' H' fr'' H'' ∧ J s' fr'' H'' ∧ μ s' < μ s) Q) fr H) : AWp P own nb (.loop x) Q fr H := by
  intro c hc r B w0 mb Hb wb m w a hn t rl f hd
  cases c <;> try simp [trC, Option.bind_eq_some_iff] at hc
  · rcases trC_region hc with ⟨_, h⟩ | ⟨_, h⟩ <;> cases h
  · rename_i cx
    have hx := hc
    let p : Act → World → Nat → Prop := fun a w n => ∃ s, μ s = n ∧ After mb Hb wb B w0 (J s) a w
    have hinit : p a w (μ s0) := by
      obtain ⟨m', t', r', f'⟩ := hw B w0 mb Hb wb m w a.tmps hn t rl f
      exact ⟨s0, rfl, m', fr0, H0, t', r', f', hd, h0⟩
    refine wpIn_loop (I := fun a w => ∃ n, p a w n) (μ := fun a w => least (p a w)) ⟨_, hinit⟩ ?_
    rintro a w ⟨n, hp⟩
    obtain ⟨s, hs, m, fr, H, t, rl, f, hd, hJ⟩ := least_mem hp
    refine wpIn_mono (step s fr H hJ cx hx r B w0 mb Hb wb m w a hn t rl f hd) ?_
    rintro e a' w' ⟨m', fr', H', x1, x2, x3, x4, x5⟩
    cases e with
    | normal =>
      obtain ⟨s', fr'', H'', hwk, hJ', hlt⟩ := x5
      obtain ⟨m2, t2, r2, f2⟩ := hwk B w0 mb Hb wb m' w' a'.tmps hn x1 x2 x3
      have hp' : p a' w' (μ s') := ⟨s', rfl, m2, fr'', H'', t2, r2, f2, x4, hJ'⟩
      refine ⟨⟨_, hp'⟩, ?_⟩
      have := least_le hp'
      omega
    | exit id => exact ⟨m', fr', H', x1, x2, x3, x4, x5⟩
    | goto l => exact ⟨m', fr', H', x1, x2, x3, x4, x5⟩
    | ret => exact ⟨m', fr', H', x1, x2, x3, x4, x5⟩
    | panic ch => exact ⟨m', fr', H', x1, x2, x3, x4, x5⟩
    | outgrown => exact ⟨m', fr', H', x1, x2, x3, x4, x5⟩

/-! ### Functions -/
inductive ARes where
  | t (n : Nat)
  | cell (n sz : Nat) (ag : Bool)

def trRes (P : Program) : ResultVar → Option ARes
  | .tmp t => some (.t t)
  | .cell a t => do some (.cell a (← szT P t) (← isAggT P t))

def resVal (fr : List AV) (H : List AObj) : ARes → Option AV
  | .t n => some (fr.getD n .und)
  | .cell n sz ag => (evK (.ld sz ag (.t n)) fr H).map (·.1)

def tupV : List AV → AV
  | [v] => v
  | vs => .tup vs

def retOk (nb : Nat) (rs : List ARes) (R : AV → List AObj → Prop) (fr : List AV) (H : List AObj) : Prop :=
  ∃ vs v' H', rs.mapM (resVal fr H) = some vs ∧ Weak nb [tupV vs] H [v'] H' ∧ R v' H'

def bodyQ (nb : Nat) (rs : List ARes) (R : AV → List AObj → Prop) : Exit → List AV → List AObj → Prop
  | .normal | .ret => retOk nb rs R
  | _ => fun _ _ => False

def resOne (tmps : Array Value) : ResultVar → Sem Value
  | .tmp t => pure (tmps.getD t undef)
  | .cell a t => do loadVar t (← asAddr (tmps.getD a undef))
theorem results_eq (fn : Func) (tmps : Array Value) : results fn tmps = (do let vs ← fn.results.mapM (resOne tmps); pure (if h : vs.size = 1 then vs[0] else .tuple vs)) := rfl

theorem results_run {w : World} {m : BM} {B : Nat} {w0 : World} (rl : Rel B w0 m H w) {tmps : Array Value} (f : FRel w m H fr tmps) : ∀ (l : List ResultVar) (rs : List ARes) (vs : List AV), l.mapM (trRes P) = some rs → rs.mapM (resVal fr H) = some vs →
    ∃ us : List Value, (l.mapM (resOne tmps)).run P w = .ok us w ∧ vs.length = us.length ∧ ∀ j (h : j < vs.length) (h' : j < us.length), RV w m H vs[j] us[j]
  | [], rs, vs, h1, h2 => by
    simp at h1; subst h1; simp at h2; subst h2
    exact ⟨[], by simp, rfl, fun j h => by simp at h⟩
  | x :: l, rs, vs, h1, h2 => by
    simp only [List.mapM_cons, Option.bind_eq_bind, Option.bind_eq_some_iff, Option.pure_def, Option.some.injEq] at h1
    obtain ⟨y, hy, ys, hys, rfl⟩ := h1
    simp only [List.mapM_cons, Option.bind_eq_bind, Option.bind_eq_some_iff, Option.pure_def, Option.some.injEq] at h2
    obtain ⟨v, hv, vs', hvs, rfl⟩ := h2
    obtain ⟨us, g1, g2, g3⟩ := results_run rl f l ys vs' hys hvs
    have one : ∃ u, (resOne tmps x).run P w = .ok u w ∧ RV w m H v u := by
      cases x with
      | tmp t =>
        simp only [trRes, Option.some.injEq] at hy
        subst hy
        simp only [resVal, Option.some.injEq] at hv
        subst hv
        exact ⟨_, rfl, f.get t⟩
      | cell p t =>
        simp only [trRes, Option.bind_eq_bind, Option.bind_eq_some_iff, Option.some.injEq] at hy
        obtain ⟨sz, hs, ag, hg, rfl⟩ := hy
        simp only [resVal, Option.map_eq_some_iff] at hv
        obtain ⟨⟨v1, H1⟩, hev, rfl⟩ := hv
        have hp : RV w m H ((AX.t p).ev fr) (tmps.getD p undef) := f.get p
        obtain ⟨_, u', hu, hr⟩ := ld_sound (P := P) rl hs hg hp hev
        refine ⟨u', ?_, hr⟩
        simp only [evK] at hev
        have : ∃ ad, tmps.getD p undef = .pointer (some ad) := by
          split at hev
          · rename_i he; rw [he] at hp; obtain ⟨ad, _, h, _⟩ := hp.ptr_inv; exact ⟨ad, h⟩
          · rename_i he; rw [he] at hp; obtain ⟨ad, _, h, _⟩ := hp.ipt_inv; exact ⟨_, h⟩
          · cases hev
        obtain ⟨ad, had⟩ := this
        rw [had] at hu
        have e : resOne tmps (.cell p t) = (do loadVar t (← asAddr (tmps.getD p undef))) := rfl
        rw [e, had]
        simpa [Instr.loadAt, Instr.sureAddr, asAddr] using hu
    obtain ⟨u, hu, hr⟩ := one
    refine ⟨u :: us, ?_, by simp [g2], fun j h h' => ?_⟩
    · simp only [List.mapM_cons, Sem.run_bind, hu, Result.andThen_ok, g1, Sem.run_pure]
    · cases j with
      | zero => exact hr
      | succ j => exact g3 j (by simpa using h) (by simpa using h')

theorem ACalls.of_body {f : FuncId} {fn : Func} {c : Code} {ac : AC} {rs : List ARes} {args : List AV} {R : AV → List AObj → Prop} (hfn : P.funcs[f]? = some fn) (hname : (fn.name == "runtime.NumGoroutine") = false)
    (hb : fn.body = some c) (htr : trC P own c = some ac) (hrs : fn.results.toList.mapM (trRes P) = some rs)
    (h : AWp P own H.length ac (bodyQ H.length rs R) (args ++ List.replicate (fn.ntmps - args.length) .und) H) : ACalls P f args H R := by
  refine ⟨⟨fn, hfn, hname, by rw [hb]; rfl⟩, fun B w0 m w vs rl hvs => ?_⟩
  refine (callsIn_wide (n := 0)).1 (callsIn_of_wp hfn hb trivial ?_)
  have hf : FRel w m H (args ++ List.replicate (fn.ntmps - args.length) .und) (vs ++ Array.replicate (fn.ntmps - vs.size) undef) := by
    have hl := hvs.1
    refine ⟨by simp [hl], fun i h1 h2 => ?_⟩
    simp only [List.getElem_append, Array.getElem_append]
    by_cases c1 : i < args.length
    · rw [dif_pos c1, dif_pos (by omega)]; exact hvs.2 i c1 (by omega)
    · rw [dif_neg c1, dif_neg (by omega)]; simp only [List.getElem_replicate]; exact .und _
  refine wpIn_mono (h c htr none B w0 m H w m w { tmps := vs ++ Array.replicate (fn.ntmps - vs.size) undef, defers := [] } rfl (Tr.refl _ _ _) rl hf rfl) ?_
  rintro e a' w' ⟨m', fr', H', x1, x2, x3, x4, x5⟩
  have fin : retOk H.length rs R fr' H' → a'.defers = [] ∧ ∃ v, (results fn a'.tmps).run P w' = .ok v w' ∧ ∃ v1 r m1 H1, (Ending.returned v) = .returned v1 ∧ Tr m H w m1 H1 w' ∧ Rel B w0 m1 H1 w' ∧ RV w' m1 H1 r v1 ∧ R r H1 := by
    rintro ⟨us, v', H2, hm, hw, hR⟩
    obtain ⟨zs, g1, g2, g3⟩ := results_run (P := P) x2 x3 fn.results.toList rs us hrs hm
    obtain ⟨zv, hzv, hrun⟩ : ∃ zv, RV w' m' H' (tupV us) zv ∧ (results fn a'.tmps).run P w' = .ok zv w' := by
      have hmm : (fn.results.mapM (resOne a'.tmps)).run P w' = .ok zs.toArray w' := by
        rw [← Array.toArray_toList (xs := fn.results), List.mapM_toArray]
        rw [Sem.run_map, g1]; rfl
      refine ⟨if h : zs.toArray.size = 1 then zs.toArray[0] else .tuple zs.toArray, ?_, ?_⟩
      · match us, zs, g2, g3 with
        | [], [], _, _ => exact .tup (by simp) (by intro j h; simp at h)
        | [u], [z], _, g3 => exact g3 0 (by simp) (by simp)
        | u :: u' :: us, z :: z' :: zs, g2, g3 => exact .tup (by simpa using g2) (fun j h h' => by simpa using g3 j h (by simpa using h'))
      · rw [results_eq]
        simp only [Sem.run_bind, hmm, Result.andThen_ok, Sem.run_pure]
    obtain ⟨m1, t1, r1, f1⟩ := hw B w0 m H w m' w' #[zv] rfl x1 x2 ⟨rfl, fun i h1 h2 => by simp at h1; subst h1; exact hzv⟩
    exact ⟨x4, zv, hrun, zv, v', m1, H2, rfl, t1, r1, f1.rv 0 (by simp) (by simp), hR⟩
  cases e with
  | normal => exact fin x5
  | ret => exact fin x5
  | exit id => exact x5.elim
  | goto l => exact x5.elim
  | panic ch => exact x5.elim
  | outgrown => exact x5.elim
end
end Go.Fw
