/- The logic: what a piece of code does to frame and objects ('AWp'), what a call does ('ACalls'), and the rules. -/
import Derived.Test.YthipbeffhfdamaaFwN
import Derived.RangeFuncNested
namespace Go.Fw
open Go Go.RowKit
def ACalls (P : Program) (f : FuncId) (args : List AV) (H : List AObj) (R : AV → List AObj → Prop) : Prop :=
  (∃ fn, P.funcs[f]? = some fn ∧ (fn.name == "runtime.NumGoroutine") = false ∧ fn.body.isNone = false) ∧
  ∀ (B : Nat) (w0 : World) (m : BM) (w : World) (vs : Array Value), Rel B w0 m H w → RVs w m H args vs →
    Calls P f vs w fun e w' => ∃ v r m' H', e = .returned v ∧ Tr m H w m' H' w' ∧ Rel B w0 m' H' w' ∧ RV w' m' H' r v ∧ R r H'
def putD (fr : List AV) (d : Option Nat) (v : AV) : List AV :=
  match d with
  | some d => fr.set d v
  | none => fr
def methP (P : Program) (t : TypeId) (name : String) : Option (FuncId × Option (Nat × Bool × Nat)) :=
  match P.info? t with
  | none => none
  | some i => match i.methods.find? (·.name == name) with
    | none => none
    | some m => match m.func with
      | none => none
      | some (f, pr) => match m.path.toList with
        | [] => match P.underlying t with
          | some (.pointer e) => if pr = true then some (f, none) else match szT P e, isAggT P e with
            | some sz, some ag => some (f, some (sz, ag, 0))
            | _, _ => none
          | some _ => if pr = true then none else some (f, none)
          | none => none
        | [s] => if s.deref = true ∧ pr = false then match P.underlying s.struct with
            | some (.struct fields) => match fields[s.index]? with
              | some fd => match P.underlying fd.type with
                | some (.pointer _) => none
                | some _ => match szT P fd.type, isAggT P fd.type with
                  | some sz, some ag => if sz = 0 then none else some (f, some (sz, ag, fd.offset))
                  | _, _ => none
                | none => none
              | none => none
            | _ => none
          else none
        | _ => none
def offV (off : Nat) : AV → AV
  | .ptr i L k f => .ptr i L k (f + off)
  | .ipt e f => .ipt e (f + off)
  | v => v
def callV (P : Program) (prot : Bool) (f : AV) (args : List AV) (H : List AObj) (next : AV → List AObj → Prop) : Prop :=
  match f with
  | .fn (.func g) first caps => ACalls P g (first ++ args ++ caps) H fun r H' => (prot = true → ∃ G, H' = H ++ G) ∧ next r H'
  | _ => False
def invV (P : Program) (prot : Bool) (name : String) (args : List AV) (H : List AObj) (next : AV → List AObj → Prop) : Prop :=
  match args with
  | .ifc t v :: rest => match methP P t name with
    | some (g, none) => ACalls P g (v :: rest) H fun r H' => (prot = true → ∃ G, H' = H ++ G) ∧ next r H'
    | some (g, some (sz, ag, off)) => match evK (.ld sz ag (.c (offV off v))) [] H with
      | some (u, _) => ACalls P g (u :: rest) H fun r H' => (prot = true → ∃ G, H' = H ++ G) ∧ next r H'
      | none => False
    | none => False
  | _ => False
def kWp (P : Program) (k : AKK) (dst : Option Nat) (next : List AV → List AObj → Prop) (fr : List AV) (H : List AObj) : Prop :=
  match k with
  | .call prot f args => callV P prot (f.ev fr) (args.map (·.ev fr)) H fun r H' => next (putD fr dst r) H'
  | .inv prot m args => invV P prot m (args.map (·.ev fr)) H fun r H' => next (putD fr dst r) H'
  | .k k => ∃ v H', evK k fr H = some (v, H') ∧ next (putD fr dst v) H'
def opWp (P : Program) (o : AOp) (next : List AV → List AObj → Prop) (fr : List AV) (H : List AObj) : Prop :=
  match o.guard with
  | none => kWp P o.k o.dst next fr H
  | some (t, b) => match fr.getD t .und with
    | .sc (.bool c) => if c = b then kWp P o.k o.dst next fr H else next (putD fr o.dst (.tup [])) H
    | .tup [] => next (putD fr o.dst (.tup [])) H
    | _ => False
def opsWp (P : Program) : List AOp → (List AV → List AObj → Prop) → List AV → List AObj → Prop
  | [], next, fr, H => next fr H
  | o :: l, next, fr, H => opWp P o (opsWp P l next) fr H
def fenceR (r : Option Nat) : Fence := { Fence.wide with round := r }
theorem fenceR_fn (r : Option Nat) (f : FuncId) : (fenceR r).fn f := trivial
theorem fenceR_depth (r : Option Nat) : (fenceR r).depth.isSome = true → 1 ≤ 0 := by intro h; simp [fenceR, Fence.wide] at h
section
variable {P : Program} {own : List Nat}
theorem calls_fenceR {r : Option Nat} {n : Nat} {f : FuncId} {args : Array Value} {w : World} {R : Ending → World → Prop} (h : Calls P f args w R) : CallsIn (fenceR r) n P f args w R :=
  (callsIn_wide (n := n)).2 h
structure DefOk (r : Option Nat) (B N : Nat) (a : Act) (w : World) : Prop where
  le : B ≤ N
  marks : ∀ d ∈ a.defers, ∃ D, d = { target := .collected D, args := #[] } ∧ N ≤ D ∧ w.heap[D]? = some (.deferred (some []))
  nodup : a.defers.Nodup
  round : ∀ l, r = some l → B ≤ l ∧ ∃ rec, w.heap[l]? = some (.loop rec)
theorem not_wr {B : Nat} {w0 w : World} {m : BM} {H : List AObj} (rl : Rel B w0 m H w) {D : Nat} {o : Obj} (hB : B ≤ D) (hD : w.heap[D]? = some o) (ho : ∀ arr ty q, o ≠ .cells arr ty q) : ¬ Wr m H D := by
  rintro (h | ⟨i, ⟨q, hq, hl, hv⟩, rfl⟩)
  · have := rl.xlt D h; omega
  · obtain ⟨arr, h1, _⟩ := rl.obj i q hq hl hv
    rw [h1] at hD
    exact ho _ _ _ (Option.some.inj hD).symm
theorem DefOk.mono {r : Option Nat} {B N : Nat} {a : Act} {w0 w w' : World} {m m' : BM} {H H' : List AObj} (h : DefOk r B N a w) (rl : Rel B w0 m H w) (t : Tr m H w m' H' w') : DefOk r B N a w' := by
  have keep : ∀ {D : Nat} {o : Obj}, B ≤ D → w.heap[D]? = some o → (∀ arr ty q, o ≠ .cells arr ty q) → w'.heap[D]? = some o := fun hB hD ho =>
    (t.blk _ (Array.getElem?_eq_some_iff.1 hD).1 (not_wr rl hB hD ho)).trans hD
  refine ⟨h.le, fun d hd => ?_, h.nodup, fun l hl => ?_⟩
  · obtain ⟨D, e, hB, hD⟩ := h.marks d hd
    exact ⟨D, e, hB, keep (Nat.le_trans h.le hB) hD (by intro _ _ _ e; cases e)⟩
  · obtain ⟨hB, rec, hD⟩ := h.round l hl
    exact ⟨hB, rec, keep hB hD (by intro _ _ _ e; cases e)⟩
theorem DefOk.put {r : Option Nat} {B N : Nat} {a : Act} {w : World} (h : DefOk r B N a w) (d : Option Nat) (v : Value) : DefOk r B N (a.put d v) w := by
  have e : (a.put d v).defers = a.defers := by cases d <;> rfl
  exact ⟨h.le, by rw [e]; exact h.marks, by rw [e]; exact h.nodup, h.round⟩
theorem DefOk.act {r : Option Nat} {B N : Nat} {a a' : Act} {w : World} (h : DefOk r B N a w) (e : a'.defers = a.defers) : DefOk r B N a' w :=
  ⟨h.le, by rw [e]; exact h.marks, by rw [e]; exact h.nodup, h.round⟩
def After (r : Option Nat) (mb : BM) (Hb : List AObj) (wb : World) (B : Nat) (w0 : World) (Q : List AV → List AObj → Prop) (a : Act) (w : World) : Prop :=
  ∃ m fr H, Tr mb Hb wb m H w ∧ Rel B w0 m H w ∧ FRel w m H fr a.tmps ∧ DefOk r B wb.heap.size a w ∧ Q fr H
theorem putD_rel {w : World} {m : BM} {H : List AObj} {fr : List AV} {a : Act} (h : FRel w m H fr a.tmps) (d : Option Nat) {x : AV} {v : Value} (hx : RV w m H x v) : FRel w m H (putD fr d x) (a.put d v).tmps := by
  cases d with
  | none => exact h
  | some d => exact h.put d hx
theorem put_defers (a : Act) (d : Option Nat) (v : Value) : (a.put d v).defers = a.defers := by cases d <;> rfl
theorem no_defer {draw : Bool} {o : Oper} {k : AKK} (h : trKK P own draw o = some k) : ∀ c, o.op ≠ .defer c := by
  intro c hc
  unfold trKK trK at h
  rw [hc] at h
  cases h
theorem offV_rv {w : World} {m : BM} {H : List AObj} {v : AV} {u : Value} {off : Nat} (h : RV w m H v u) (hp : ∃ ad, u = .pointer (some ad)) : ∃ ad, u = .pointer (some ad) ∧ RV w m H (offV off v) (.pointer (some (ad.add off))) := by
  obtain ⟨ad, rfl⟩ := hp
  refine ⟨ad, rfl, ?_⟩
  cases h with
  | ri h =>
    cases h with
    | ipt cv hc hr => rw [add_add]; exact .ri (.ipt cv hc hr)
    | und => exact .und _
    | sc v h => simp [pureV] at h
  | ptr o ho hL hv =>
    refine .ptr o ho hL fun a1 a2 => ?_
    rw [hv a1 a2]
    unfold Addr.add; split <;> simp_all <;> omega
theorem wrapchk_run {w : World} (xt : TypeId) (ad : Addr) (name : String) : (Builtin.ssaWrapNilChk_ #[xt] xt #[.pointer (some ad), strVal "", strVal name]).run P w = .ok (.pointer (some ad)) w := rfl
theorem meth_sound {w : World} {m : BM} {H : List AObj} {B : Nat} {w0 : World} (r : Rel B w0 m H w) {t : TypeId} {name : String} {v : AV} {u : Value} (hv : RV w m H v u) {g : FuncId} {x : AV}
    (hm : methP P t name = some (g, none) ∧ x = v ∨ ∃ sz ag off H', methP P t name = some (g, some (sz, ag, off)) ∧ evK (.ld sz ag (.c (offV off v))) [] H = some (x, H')) : ∀ fuel, ∃ y, (method (fuel + 1) t u name).run P w = .ok (g, y) w ∧ RV w m H x y := by
  intro fuel
  have ptr : ∀ {off : Nat} {sz : Nat} {ag : Bool} {H' : List AObj}, evK (.ld sz ag (.c (offV off v))) [] H = some (x, H') → ∃ ad, u = .pointer (some ad) := by
    intro off sz ag H' h
    simp only [evK, AX.ev] at h
    cases v with
    | ptr i L k f => obtain ⟨ad, _, h, _⟩ := hv.ptr_inv; exact ⟨ad, h⟩
    | ipt e f => obtain ⟨ad, _, h, _⟩ := hv.ipt_inv; exact ⟨_, h⟩
    | _ => simp [offV] at h
  have ld : ∀ {ty : TypeId} {off : Nat} {sz : Nat} {ag : Bool} {H' : List AObj} {ad : Addr}, szT P ty = some sz → isAggT P ty = some ag → u = .pointer (some ad) → evK (.ld sz ag (.c (offV off v))) [] H = some (x, H') → ∃ y, (loadVar ty (ad.add off)).run P w = .ok y w ∧ RV w m H x y := by
    intro ty off sz ag H' ad hs hg hu h
    obtain ⟨ad', e, hp⟩ := offV_rv (off := off) hv ⟨ad, hu⟩
    rw [hu] at e; cases e
    obtain ⟨_, y, hy, hr⟩ := ld_sound (P := P) (fr := []) r hs hg (p := .c (offV off v)) hp h
    exact ⟨y, by simpa [Instr.loadAt, Instr.sureAddr] using hy, hr⟩
  obtain ⟨o, hm, hx⟩ : ∃ o, methP P t name = some (g, o) ∧ (o = none ∧ x = v ∨ ∃ sz ag off H', o = some (sz, ag, off) ∧ evK (.ld sz ag (.c (offV off v))) [] H = some (x, H')) := by
    rcases hm with ⟨h, e⟩ | ⟨sz, ag, off, H', h, e⟩
    · exact ⟨_, h, .inl ⟨rfl, e⟩⟩
    · exact ⟨_, h, .inr ⟨sz, ag, off, H', rfl, e⟩⟩
  have hx0 : o = none → x = v := by rintro rfl; rcases hx with ⟨_, h⟩ | ⟨_, _, _, _, h, _⟩; exact h; cases h
  have hx1 : ∀ {sz ag off}, o = some (sz, ag, off) → ∃ H', evK (.ld sz ag (.c (offV off v))) [] H = some (x, H') := by
    rintro sz ag off rfl
    rcases hx with ⟨h, _⟩ | ⟨_, _, _, H', h, e⟩
    · cases h
    · cases h; exact ⟨H', e⟩
  clear hx
  unfold methP at hm
  split at hm
  · cases hm
  rename_i i hi
  split at hm
  · cases hm
  rename_i md hmd
  split at hm
  · cases hm
  rename_i f pr hfn
  split at hm
  · rename_i hpath
    split at hm
    · rename_i e hu
      split at hm
      · rename_i hpr
        cases hm; subst hpr
        have hx := hx0 rfl; subst hx
        exact ⟨u, by simp [method, typeInfo, hi, hmd, hpath, follow, hfn, receiverAt, run_underlying hu, Place.get], hv⟩
      · rename_i hpr
        have hpr : pr = false := by simpa using hpr
        subst hpr
        split at hm
        · rename_i sz ag hs hg
          cases hm
          obtain ⟨H', hx⟩ := hx1 rfl
          obtain ⟨ad, hu'⟩ := ptr hx
          obtain ⟨y, hy, hr⟩ := ld hs hg hu' hx
          rw [add_zero] at hy
          refine ⟨y, ?_, hr⟩
          subst hu'
          have hp0 : md.path = #[] := by simpa using hpath
          simp [method, typeInfo, hi, hmd, hp0, follow, hfn, receiverAt, run_underlying hu, Place.get, wrapchk_run, asAddr, hy]
        · cases hm
    · rename_i d hnp hu
      split at hm
      · cases hm
      · rename_i hpr
        have hpr : pr = false := by simpa using hpr
        subst hpr
        cases hm
        have hx := hx0 rfl; subst hx
        refine ⟨u, ?_, hv⟩
        cases d <;> first | (exact (hnp _ rfl).elim) | simp [method, typeInfo, hi, hmd, hpath, follow, hfn, receiverAt, run_underlying hu, Place.get]
    · cases hm
  · rename_i s hpath
    split at hm
    case isFalse => cases hm
    rename_i hc
    obtain ⟨hd, hpr⟩ := hc
    subst hpr
    split at hm
    case h_2 => cases hm
    rename_i fields hus
    split at hm
    case h_2 => cases hm
    rename_i fd hfd
    split at hm
    · cases hm
    · rename_i d hnp hu
      split at hm
      · rename_i sz ag hs hg
        split at hm
        · cases hm
        rename_i hs0
        cases hm
        obtain ⟨H', hx⟩ := hx1 rfl
        obtain ⟨ad, hu'⟩ := ptr hx
        obtain ⟨y, hy, hr⟩ := ld hs hg hu' hx
        refine ⟨y, ?_, hr⟩
        subst hu'
        obtain ⟨i2, hi2, e2⟩ := szT_inv hs
        have hs1 : ¬ i2.size = 0 := by first | (rw [← e2]; exact hs0) | (rw [e2]; exact hs0)
        have hfp : (fieldPlace ad fd).run P w = .ok (ad.add fd.offset) w := by simp [fieldPlace, sizeOf, typeInfo, hi2, hs1]
        cases d <;> first | (exact (hnp _ rfl).elim) | simp [method, typeInfo, hi, hmd, hpath, follow, hfn, receiverAt, run_underlying hus, run_underlying hu, hfd, hd, Place.get, asAddr, hfp, hy]
      · cases hm
    · cases hm
  · cases hm
theorem op_sound {r : Option Nat} {B : Nat} {w0 : World} {mb : BM} {Hb : List AObj} {wb : World} {m : BM} {H : List AObj} {w : World} {fr : List AV} {a : Act} {draw : Bool} {o : Oper} {k : AKK}
    (ht : Tr mb Hb wb m H w) (hr : Rel B w0 m H w) (hf : FRel w m H fr a.tmps) (hd : DefOk r B wb.heap.size a w) (htr : trKK P own draw o = some k) {next : List AV → List AObj → Prop} (h : kWp P k o.dst next fr H)
    {K : Act → World → Prop} (hK : ∀ a w, After r mb Hb wb B w0 next a w → K a w) (Q : Exit → Act → World → Prop) : o.wpIn (fenceR r) 0 P a w K Q := by
  refine ⟨fun f _ => fenceR_fn r f, ?_⟩
  rw [show (fenceR r).round = r from rfl, Oper.semAt_eq r a.eval o (no_defer htr)]
  unfold trKK at htr
  split at htr
  · rename_i g as' ts hop
    simp only [Option.bind_eq_bind, Option.bind_eq_some_iff, Option.some.injEq] at htr
    obtain ⟨f, hg, args, has, rfl⟩ := htr
    simp only [kWp, callV] at h
    split at h
    case h_2 => exact h.elim
    rename_i gf first caps hfe
    obtain ⟨⟨fn, hfn, hname, hbody⟩, hcalls⟩ := h
    have hgr := trX_rv hf hg
    rw [hfe] at hgr
    obtain ⟨us, vs, hge, ⟨hu1, hu2⟩, ⟨hv1, hv2⟩⟩ := hgr.fn_inv
    obtain ⟨ha1, ha2⟩ := RVs_of_mapM hf has
    have hargs : RVs w m H (first ++ args.map (·.ev fr) ++ caps) (us ++ as'.map a.eval ++ vs) := by
      refine ⟨by simp only [List.length_append, Array.size_append]; omega, fun j h1 h2 => ?_⟩
      simp only [List.getElem_append, Array.getElem_append]
      by_cases c1 : j < first.length + (args.map (·.ev fr)).length
      · have c1' : j < (us ++ as'.map a.eval).size := by simp only [Array.size_append]; omega
        have c1'' : j < (first ++ args.map (·.ev fr)).length := by simp only [List.length_append]; omega
        rw [dif_pos c1'', dif_pos c1']
        by_cases c2 : j < first.length
        · have c2' : j < us.size := by omega
          rw [dif_pos c2, dif_pos c2']; exact hu2 j c2 c2'
        · have c2' : ¬ j < us.size := by omega
          rw [dif_neg c2, dif_neg c2']
          have := ha2 (j - first.length) (by omega) (by omega)
          simpa [hu1] using this
      · have c1' : ¬ j < (us ++ as'.map a.eval).size := by simp only [Array.size_append]; omega
        have c1'' : ¬ j < (first ++ args.map (·.ev fr)).length := by simp only [List.length_append]; omega
        rw [dif_neg c1'', dif_neg c1']
        have h3 : j - (first ++ args.map (·.ev fr)).length < caps.length := by simp only [List.length_append] at h1 ⊢; omega
        have h4 : j - (us ++ as'.map a.eval).size < vs.size := by simp only [Array.size_append, List.length_append] at h3 ⊢; omega
        have e : (us ++ as'.map a.eval).size = (first ++ args.map (·.ev fr)).length := by simp only [Array.size_append, List.length_append]; omega
        have h5 : j - (first ++ args.map (·.ev fr)).length < vs.size := by omega
        have := hv2 _ h3 h5
        simp only [e]
        exact this
    have hrun : (execOp a.eval o).run P w = .ok (.enter gf (us ++ as'.map a.eval ++ vs)) w := by
      have hname' : ¬ fn.name = "runtime.NumGoroutine" := by simpa using hname
      have hbody' : ¬ fn.body = none := by intro e; rw [e] at hbody; cases hbody
      simp [execOp, hop, resolve, hge, Deferred.ofValue, invoke, callFunc, hfn, hname', hbody', Array.append_assoc]
    rw [hrun]
    refine ⟨fenceR_depth r, calls_fenceR ((hcalls B w0 m w _ hr hargs).mono ?_)⟩
    rintro e w' ⟨v, rv, m', H', rfl, t', r', hv, _, hn⟩
    exact hK _ _ ⟨m', _, H', ht.trans t', r', putD_rel (hf.mono t') o.dst hv, (hd.mono hr t').put o.dst _, hn⟩
  · rename_i rx name as' ts hop
    simp only [Option.bind_eq_bind, Option.bind_eq_some_iff, Option.some.injEq] at htr
    obtain ⟨xr, hxr, args, has, rfl⟩ := htr
    obtain ⟨ha1, ha2⟩ := RVs_of_mapM hf has
    have hrv := trX_rv hf hxr
    simp only [kWp, invV, List.map_cons] at h
    have go : ∀ {t : TypeId} {v x : AV} {g : FuncId}, xr.ev fr = .ifc t v → (methP P t name = some (g, none) ∧ x = v ∨ ∃ sz ag off H', methP P t name = some (g, some (sz, ag, off)) ∧ evK (.ld sz ag (.c (offV off v))) [] H = some (x, H')) → ACalls P g (x :: args.map (·.ev fr)) H (fun r H' => (draw = true → ∃ G, H' = H ++ G) ∧ next (putD fr o.dst r) H') → o.uponIn (fenceR r) 0 P a K Q ((execOp a.eval o).run P w) := by
      intro t v x g he hm hc
      obtain ⟨⟨fn, hfn, hname, hbody⟩, hcalls⟩ := hc
      rw [he] at hrv
      obtain ⟨u, hau, hv⟩ := hrv.ifc_inv
      obtain ⟨y, hy, hr'⟩ := meth_sound hr hv hm (P.types.size + Made.depth - 1)
      have hf1 : P.types.size + Made.depth - 1 + 1 = P.types.size + Made.depth := by simp only [Made.depth]; omega
      rw [hf1] at hy
      have hargs : RVs w m H (x :: args.map (·.ev fr)) (#[y] ++ as'.map a.eval) := by
        refine ⟨by simp only [List.length_cons, Array.size_append]; simp at ha1 ⊢; omega, fun j h1 h2 => ?_⟩
        cases j with
        | zero => simpa using hr'
        | succ j =>
          have := ha2 j (by simpa using h1) (by simp at h2 ⊢; omega)
          simpa [Array.getElem_append] using this
      have hrun : (execOp a.eval o).run P w = .ok (.enter g (#[y] ++ as'.map a.eval)) w := by
        have hname' : ¬ fn.name = "runtime.NumGoroutine" := by simpa using hname
        have hbody' : ¬ fn.body = none := by intro e; rw [e] at hbody; cases hbody
        have e0 : (#[Value.iface t u] ++ as'.map a.eval)[0]? = some (Value.iface t u) := by rw [Array.getElem?_append_left (by simp)]; rfl
        have e1 : (#[Value.iface t u] ++ as'.map a.eval).extract 1 (#[Value.iface t u] ++ as'.map a.eval).size = as'.map a.eval := by
          apply Array.toList_inj.1
          simp
          exact List.take_of_length_le (by simp)
        simp only [execOp, hop, resolve, hau, pure_bind, invoke, e0, e1]
        simp [callMethod, callFunc, hy, hfn, hname', hbody']
      rw [hrun]
      refine ⟨fenceR_depth r, calls_fenceR ((hcalls B w0 m w _ hr hargs).mono ?_)⟩
      rintro e w' ⟨v, rv, m', H', rfl, t', r', hv, _, hn⟩
      exact hK _ _ ⟨m', _, H', ht.trans t', r', putD_rel (hf.mono t') o.dst hv, (hd.mono hr t').put o.dst _, hn⟩
    split at h
    · rename_i t v rest he
      simp only [List.cons.injEq] at he
      obtain ⟨he, rfl⟩ := he
      split at h
      · rename_i g hm; exact go he (.inl ⟨hm, rfl⟩) h
      · rename_i g sz ag off hm
        split at h
        · rename_i x H' hev; exact go he (.inr ⟨_, _, _, H', hm, hev⟩) h
        · exact h.elim
      · exact h.elim
    · exact h.elim
  · simp only [Option.map_eq_some_iff] at htr
    obtain ⟨k, htr, rfl⟩ := htr
    obtain ⟨v, H', hev, hn⟩ := h
    obtain ⟨m', w', nx, v', hrun, hnx, t', r', hv⟩ := evK_sound hr hf htr hev
    rw [hrun]
    have fin : K (a.put o.dst v') w' := hK _ _ ⟨m', _, H', ht.trans t', r', putD_rel (hf.mono t') o.dst hv, (hd.mono hr t').put o.dst _, hn⟩
    rcases hnx with rfl | ⟨rfl, rfl⟩
    · exact fin
    · exact fin
theorem guard_sound {w : World} {m : BM} {H : List AObj} {fr : List AV} {a : Act} (hf : FRel w m H fr a.tmps) {ops : Array Oper} {j : Nat} {q : Oper} (hq : ops[j]? = some q) {t : Nat} (ht : q.dst = some t) :
    (∀ c, fr.getD t .und = .sc (.bool c) → yielded ops a.tmps j = some c) ∧ (fr.getD t .und = .tup [] → yielded ops a.tmps j = none) := by
  have hg := hf.get t
  constructor
  · intro c hc
    rw [hc] at hg
    have h1 := hg.sc_inv.1
    have h2 : a.tmps[t]? = some (.bool c) := by
      by_cases hlt : t < a.tmps.size
      · rw [Array.getElem?_eq_getElem hlt]
        have : a.tmps.getD t undef = a.tmps[t] := by simp [Array.getD, hlt]
        rw [← this, h1]
      · have : a.tmps.getD t undef = undef := by simp [Array.getD, hlt]
        rw [this] at h1; simp [undef] at h1
    simp [yielded, hq, ht, h2]
  · intro hc
    rw [hc] at hg
    obtain ⟨vs, h1, hn, _⟩ := hg.tup_inv
    by_cases hlt : t < a.tmps.size
    · have : a.tmps.getD t undef = a.tmps[t] := by simp [Array.getD, hlt]
      have h3 : a.tmps[t]? = some (.tuple vs) := by rw [Array.getElem?_eq_getElem hlt, ← this, h1]
      simp [yielded, hq, ht, h3]
    · have h3 : a.tmps[t]? = none := Array.getElem?_eq_none (by omega)
      simp [yielded, hq, ht, h3]
theorem ops_sound {r : Option Nat} {B : Nat} {w0 : World} {mb : BM} {Hb : List AObj} {wb : World} {draw : Bool} {ops : Array Oper} {Q : Exit → Act → World → Prop} {next : List AV → List AObj → Prop}
    (hK : ∀ a w, After r mb Hb wb B w0 next a w → Q .normal a w) :
    ∀ (ord : List Nat) (l : List AOp), ord.length = l.length → (∀ j (h : j < ord.length) (h' : j < l.length), ∃ o, ops[ord[j]]? = some o ∧ trOp P own draw ops o = some l[j]) →
      ∀ (m : BM) (H : List AObj) (w : World) (fr : List AV) (a : Act), Tr mb Hb wb m H w → Rel B w0 m H w → FRel w m H fr a.tmps → DefOk r B wb.heap.size a w → opsWp P l next fr H → wpOpsIn (fenceR r) 0 P ops Q ord a w
  | [], [], _, _, m, H, w, fr, a, ht, hr, hf, hd, h => hK a w ⟨m, fr, H, ht, hr, hf, hd, h⟩
  | [], _ :: _, hl, _, _, _, _, _, _, _, _, _, _, _ => by simp at hl
  | _ :: _, [], hl, _, _, _, _, _, _, _, _, _, _, _ => by simp at hl
  | i :: ord, ao :: l, hl, htr, m, H, w, fr, a, ht, hr, hf, hd, h => by
    obtain ⟨o, ho, hto⟩ := htr 0 (by simp) (by simp)
    simp only [List.getElem_cons_zero] at ho hto
    have ih := ops_sound (r := r) (B := B) (w0 := w0) (draw := draw) (ops := ops) hK ord l (by simpa using hl) (fun j h1 h2 => htr (j + 1) (Nat.succ_lt_succ h1) (Nat.succ_lt_succ h2))
    have ihK : ∀ a w, After r mb Hb wb B w0 (opsWp P l next) a w → wpOpsIn (fenceR r) 0 P ops Q ord a w := by
      rintro a w ⟨m, fr, H, ht, hr, hf, hd, h⟩
      exact ih m H w fr a ht hr hf hd h
    simp only [trOp, Option.bind_eq_bind, Option.bind_eq_some_iff] at hto
    obtain ⟨k, hk, hto⟩ := hto
    simp only [wpOpsIn, ho]
    simp only [opsWp, opWp] at h
    cases hg : o.guard with
    | none =>
      simp only [hg, Option.some.injEq] at hto
      subst hto
      simp only at h
      rw [if_pos (by simp [Region.wanted, hg])]
      exact op_sound ht hr hf hd hk h ihK Q
    | some gb =>
      obtain ⟨j, b⟩ := gb
      simp only [hg, Option.bind_eq_some_iff, Option.some.injEq] at hto
      obtain ⟨q, hq, t, hqt, rfl⟩ := hto
      simp only at h
      obtain ⟨g1, g2⟩ := guard_sound hf hq hqt
      have skip : next = next → opsWp P l next (putD fr o.dst (.tup [])) H → (∀ f, o.about P w a.eval = some f → (fenceR r).fn f) ∧ wpOpsIn (fenceR r) 0 P ops Q ord (a.put o.dst undef) w := by
        intro _ hs
        exact ⟨fun f _ => fenceR_fn r f, ihK _ _ ⟨m, _, H, ht, hr, putD_rel hf o.dst (.tup (by simp) (by intro j hj; simp at hj)), hd.put o.dst _, hs⟩⟩
      split at h
      · rename_i c hc
        have hy := g1 c hc
        by_cases hcb : c = b
        · rw [if_pos hcb] at h
          rw [if_pos (by simp [Region.wanted, hg, hy, hcb])]
          exact op_sound ht hr hf hd hk h ihK Q
        · rw [if_neg hcb] at h
          rw [if_neg (by simp [Region.wanted, hg, hy, hcb])]
          exact skip rfl h
      · rename_i hc
        have hy := g2 hc
        rw [if_neg (by simp [Region.wanted, hg, hy])]
        exact skip rfl h
      · exact h.elim
end
end Go.Fw
/- Code, rule by rule; functions. -/
namespace Go.Fw
open Go Go.RowKit
def AWpC (P : Program) (nb : Nat) (c : Code) (Q : Exit → List AV → List AObj → Prop) (fr : List AV) (H : List AObj) : Prop :=
  ∀ (r : Option Nat) (B : Nat) (w0 : World) (mb : BM) (Hb : List AObj) (wb : World) (m : BM) (w : World) (a : Act),
    Hb.length = nb → Tr mb Hb wb m H w → Rel B w0 m H w → FRel w m H fr a.tmps → DefOk r B wb.heap.size a w →
    c.wpIn (fenceR r) 0 P (fun e a' w' => After r mb Hb wb B w0 (Q e) a' w') a w
def AWp (P : Program) (own : List Nat) (nb : Nat) (ac : AC) (Q : Exit → List AV → List AObj → Prop) (fr : List AV) (H : List AObj) : Prop :=
  ∀ c, trC P own c = some ac → AWpC P nb c Q fr H
def Weak (nb : Nat) (fr : List AV) (H : List AObj) (fr' : List AV) (H' : List AObj) : Prop :=
  ∀ (B : Nat) (w0 : World) (mb : BM) (Hb : List AObj) (wb : World) (m : BM) (w : World) (tmps : Array Value),
    Hb.length = nb → Tr mb Hb wb m H w → Rel B w0 m H w → FRel w m H fr tmps → ∃ m', Tr mb Hb wb m' H' w ∧ Rel B w0 m' H' w ∧ FRel w m' H' fr' tmps
theorem Weak.refl (nb : Nat) (fr : List AV) (H : List AObj) : Weak nb fr H fr H := fun _ _ _ _ _ m _ _ _ t r f => ⟨m, t, r, f⟩
theorem Weak.trans {nb : Nat} {fr fr1 fr2 : List AV} {H H1 H2 : List AObj} (h : Weak nb fr H fr1 H1) (k : Weak nb fr1 H1 fr2 H2) : Weak nb fr H fr2 H2 :=
  fun B w0 mb Hb wb m w tmps hn t r f => let ⟨m1, t1, r1, f1⟩ := h B w0 mb Hb wb m w tmps hn t r f; k B w0 mb Hb wb m1 w tmps hn t1 r1 f1
def qSeq (n : List AV → List AObj → Prop) (Q : Exit → List AV → List AObj → Prop) : Exit → List AV → List AObj → Prop
  | .normal => n
  | e => Q e
def qBlock (id : Nat) (Q : Exit → List AV → List AObj → Prop) : Exit → List AV → List AObj → Prop
  | .exit i => if i = id then Q .normal else Q (.exit i)
  | e => Q e
section
variable {P : Program} {own : List Nat} {nb : Nat} {Q Q' : Exit → List AV → List AObj → Prop} {fr : List AV} {H : List AObj}
theorem AWp.mono {ac : AC} (h : AWp P own nb ac Q fr H) (hq : ∀ e fr H, Q e fr H → Q' e fr H) : AWp P own nb ac Q' fr H := by
  intro c hc r B w0 mb Hb wb m w a hn t rl f hd
  refine wpIn_mono (h c hc r B w0 mb Hb wb m w a hn t rl f hd) ?_
  rintro e a' w' ⟨m', fr', H', x1, x2, x3, x4, x5⟩
  exact ⟨m', fr', H', x1, x2, x3, x4, hq _ _ _ x5⟩
theorem AWp.weak {ac : AC} {fr' : List AV} {H' : List AObj} (hw : Weak nb fr H fr' H') (h : AWp P own nb ac Q fr' H') : AWp P own nb ac Q fr H := by
  intro c hc r B w0 mb Hb wb m w a hn t rl f hd
  obtain ⟨m', t', r', f'⟩ := hw B w0 mb Hb wb m w a.tmps hn t rl f
  exact h c hc r B w0 mb Hb wb m' w a hn t' r' f' hd
theorem AWp.skip (h : Q .normal fr H) : AWp P own nb .skip Q fr H := by
  intro c hc r B w0 mb Hb wb m w a hn t rl f hd
  have fin : After r mb Hb wb B w0 (Q .normal) a w := ⟨m, fr, H, t, rl, f, hd, h⟩
  cases c <;> try simp [trC, Option.bind_eq_some_iff] at hc
  · exact wpIn_skip fin
  · rcases trC_region hc with ⟨_, h⟩ | ⟨_, h⟩ <;> cases h
theorem AWp.exit {id : Nat} (h : Q (.exit id) fr H) : AWp P own nb (.exit id) Q fr H := by
  intro c hc r B w0 mb Hb wb m w a hn t rl f hd
  have fin : After r mb Hb wb B w0 (Q (.exit id)) a w := ⟨m, fr, H, t, rl, f, hd, h⟩
  cases c <;> try simp [trC, Option.bind_eq_some_iff] at hc
  · rcases trC_region hc with ⟨_, h⟩ | ⟨_, h⟩ <;> cases h
  · subst hc; exact wpIn_exit fin
theorem AWp.ret (h : Q .ret fr H) : AWp P own nb .ret Q fr H := by
  intro c hc r B w0 mb Hb wb m w a hn t rl f hd
  have fin : After r mb Hb wb B w0 (Q .ret) a w := ⟨m, fr, H, t, rl, f, hd, h⟩
  cases c <;> try simp [trC, Option.bind_eq_some_iff] at hc
  · rcases trC_region hc with ⟨_, h⟩ | ⟨_, h⟩ <;> cases h
  · exact wpIn_ret fin
theorem AWp.seq {x y : AC} (h : AWp P own nb x (qSeq (fun fr H => AWp P own nb y Q fr H) Q) fr H) : AWp P own nb (.seq x y) Q fr H := by
  intro c hc r B w0 mb Hb wb m w a hn t rl f hd
  cases c <;> try simp [trC, Option.bind_eq_some_iff] at hc
  · rcases trC_region hc with ⟨_, h⟩ | ⟨_, h⟩ <;> cases h
  · rename_i cx cy
    obtain ⟨hx, hy⟩ := hc
    refine wpIn_seq (wpIn_mono (h cx hx r B w0 mb Hb wb m w a hn t rl f hd) ?_)
    rintro e a' w' ⟨m', fr', H', x1, x2, x3, x4, x5⟩
    cases e with
    | normal => exact x5 cy hy r B w0 mb Hb wb m' w' a' hn x1 x2 x3 x4
    | exit id => exact ⟨m', fr', H', x1, x2, x3, x4, x5⟩
    | goto l => exact ⟨m', fr', H', x1, x2, x3, x4, x5⟩
    | ret => exact ⟨m', fr', H', x1, x2, x3, x4, x5⟩
    | panic ch => exact ⟨m', fr', H', x1, x2, x3, x4, x5⟩
    | outgrown => exact ⟨m', fr', H', x1, x2, x3, x4, x5⟩
theorem AWp.cond {c : AX} {x y : AC} {b : Bool} (hb : c.ev fr = .sc (.bool b)) (ht : b = true → AWp P own nb x Q fr H) (hf : b = false → AWp P own nb y Q fr H) : AWp P own nb (.cond c x y) Q fr H := by
  intro cc hc r B w0 mb Hb wb m w a hn t rl f hd
  cases cc <;> try simp [trC, Option.bind_eq_some_iff] at hc
  · rcases trC_region hc with ⟨_, h⟩ | ⟨_, h⟩ <;> cases h
  · rename_i oc cx cy
    obtain ⟨ac, hcx, ax, hx, ay, hy, rfl, rfl, rfl⟩ := hc
    have hv := trX_rv f hcx
    rw [hb] at hv
    refine wpIn_cond (t := b) hv.sc_inv.1 ?_
    cases b
    · exact hf rfl cy hy r B w0 mb Hb wb m w a hn t rl f hd
    · exact ht rfl cx hx r B w0 mb Hb wb m w a hn t rl f hd
theorem AWp.block {id : Nat} {x : AC} (h : AWp P own nb x (qBlock id Q) fr H) : AWp P own nb (.block id x) Q fr H := by
  intro c hc r B w0 mb Hb wb m w a hn t rl f hd
  cases c <;> try simp [trC, Option.bind_eq_some_iff] at hc
  · rcases trC_region hc with ⟨_, h⟩ | ⟨_, h⟩ <;> cases h
  · rename_i id' cx
    obtain ⟨hx, hid⟩ : trC P own cx = some x ∧ id' = id := by first | exact hc | exact ⟨hc.2, hc.1⟩
    subst hid
    refine wpIn_block (wpIn_mono (h cx hx r B w0 mb Hb wb m w a hn t rl f hd) ?_)
    rintro e a' w' ⟨m', fr', H', x1, x2, x3, x4, x5⟩
    cases e with
    | normal => exact ⟨m', fr', H', x1, x2, x3, x4, x5⟩
    | exit i =>
      simp only [qBlock] at x5
      simp only [Exit.inBlock]
      split
      · rename_i h; rw [if_pos h] at x5; exact ⟨m', fr', H', x1, x2, x3, x4, x5⟩
      · rename_i h; rw [if_neg h] at x5; exact ⟨m', fr', H', x1, x2, x3, x4, x5⟩
    | goto l => exact ⟨m', fr', H', x1, x2, x3, x4, x5⟩
    | ret => exact ⟨m', fr', H', x1, x2, x3, x4, x5⟩
    | panic ch => exact ⟨m', fr', H', x1, x2, x3, x4, x5⟩
    | outgrown => exact ⟨m', fr', H', x1, x2, x3, x4, x5⟩
theorem exists_min {p : Nat → Prop} (h : ∃ n, p n) : ∃ n, p n ∧ ∀ k, p k → n ≤ k := by
  obtain ⟨n, hn⟩ := h
  induction n using Nat.strongRecOn with
  | _ n ih =>
    by_cases hk : ∃ k, k < n ∧ p k
    · obtain ⟨k, hk, hp⟩ := hk; exact ih k hk hp
    · exact ⟨n, hn, fun k hp => Nat.le_of_not_lt fun hlt => hk ⟨k, hlt, hp⟩⟩
open Classical in
noncomputable def least (p : Nat → Prop) : Nat := if h : ∃ n, p n then Classical.choose (exists_min h) else 0
theorem least_le {p : Nat → Prop} {n : Nat} (h : p n) : least p ≤ n := by
  unfold least
  rw [dif_pos ⟨n, h⟩]
  exact (Classical.choose_spec (exists_min ⟨n, h⟩)).2 n h
theorem least_mem {p : Nat → Prop} {n : Nat} (h : p n) : p (least p) := by
  unfold least
  rw [dif_pos ⟨n, h⟩]
  exact (Classical.choose_spec (exists_min ⟨n, h⟩)).1
theorem AWp.loop {σ : Type} {x : AC} (J : σ → List AV → List AObj → Prop) (μ : σ → Nat) (s0 : σ) {fr0 : List AV} {H0 : List AObj} (hw : Weak nb fr H fr0 H0) (h0 : J s0 fr0 H0)
    (step : ∀ s fr H, J s fr H → AWp P own nb x (qSeq (fun fr' H' => ∃ s' fr'' H'', Weak nb fr' H' fr'' H'' ∧ J s' fr'' H'' ∧ μ s' < μ s) Q) fr H) : AWp P own nb (.loop x) Q fr H := by
  intro c hc r B w0 mb Hb wb m w a hn t rl f hd
  cases c <;> try simp [trC, Option.bind_eq_some_iff] at hc
  · rcases trC_region hc with ⟨_, h⟩ | ⟨_, h⟩ <;> cases h
  · rename_i cx
    have hx := hc
    let p : Act → World → Nat → Prop := fun a w n => ∃ s, μ s = n ∧ After r mb Hb wb B w0 (J s) a w
    have hinit : p a w (μ s0) := by
      obtain ⟨m', t', r', f'⟩ := hw B w0 mb Hb wb m w a.tmps hn t rl f
      exact ⟨s0, rfl, m', fr0, H0, t', r', f', hd, h0⟩
    refine wpIn_loop (I := fun a w => ∃ n, p a w n) (μ := fun a w => least (p a w)) ⟨_, hinit⟩ ?_
    rintro a w ⟨n, hp⟩
    obtain ⟨s, hs, m, fr, H, t, rl, f, hd, hJ⟩ := least_mem hp
    refine wpIn_mono (step s fr H hJ cx hx r B w0 mb Hb wb m w a hn t rl f hd) ?_
    rintro e a' w' ⟨m', fr', H', x1, x2, x3, x4, x5⟩
    cases e with
    | normal =>
      obtain ⟨s', fr'', H'', hwk, hJ', hlt⟩ := x5
      obtain ⟨m2, t2, r2, f2⟩ := hwk B w0 mb Hb wb m' w' a'.tmps hn x1 x2 x3
      have hp' : p a' w' (μ s') := ⟨s', rfl, m2, fr'', H'', t2, r2, f2, x4, hJ'⟩
      refine ⟨⟨_, hp'⟩, ?_⟩
      have := least_le hp'
      omega
    | exit id => exact ⟨m', fr', H', x1, x2, x3, x4, x5⟩
    | goto l => exact ⟨m', fr', H', x1, x2, x3, x4, x5⟩
    | ret => exact ⟨m', fr', H', x1, x2, x3, x4, x5⟩
    | panic ch => exact ⟨m', fr', H', x1, x2, x3, x4, x5⟩
    | outgrown => exact ⟨m', fr', H', x1, x2, x3, x4, x5⟩
inductive ARes where
  | t (n : Nat)
  | cell (n sz : Nat) (ag : Bool)
def trRes (P : Program) : ResultVar → Option ARes
  | .tmp t => some (.t t)
  | .cell a t => do some (.cell a (← szT P t) (← isAggT P t))
def resVal (fr : List AV) (H : List AObj) : ARes → Option AV
  | .t n => some (fr.getD n .und)
  | .cell n sz ag => (evK (.ld sz ag (.t n)) fr H).map (·.1)
def tupV : List AV → AV
  | [v] => v
  | vs => .tup vs
def retOk (nb : Nat) (rs : List ARes) (R : AV → List AObj → Prop) (fr : List AV) (H : List AObj) : Prop :=
  ∃ vs v' H', rs.mapM (resVal fr H) = some vs ∧ Weak nb [tupV vs] H [v'] H' ∧ R v' H'
def bodyQ (nb : Nat) (rs : List ARes) (R : AV → List AObj → Prop) : Exit → List AV → List AObj → Prop
  | .normal | .ret => retOk nb rs R
  | _ => fun _ _ => False
def resOne (tmps : Array Value) : ResultVar → Sem Value
  | .tmp t => pure (tmps.getD t undef)
  | .cell a t => do loadVar t (← asAddr (tmps.getD a undef))
theorem results_eq (fn : Func) (tmps : Array Value) : results fn tmps = (do let vs ← fn.results.mapM (resOne tmps); pure (if h : vs.size = 1 then vs[0] else .tuple vs)) := rfl
theorem results_run {w : World} {m : BM} {B : Nat} {w0 : World} (rl : Rel B w0 m H w) {tmps : Array Value} (f : FRel w m H fr tmps) : ∀ (l : List ResultVar) (rs : List ARes) (vs : List AV), l.mapM (trRes P) = some rs → rs.mapM (resVal fr H) = some vs →
    ∃ us : List Value, (l.mapM (resOne tmps)).run P w = .ok us w ∧ vs.length = us.length ∧ ∀ j (h : j < vs.length) (h' : j < us.length), RV w m H vs[j] us[j]
  | [], rs, vs, h1, h2 => by
    simp at h1; subst h1; simp at h2; subst h2
    exact ⟨[], by simp, rfl, fun j h => by simp at h⟩
  | x :: l, rs, vs, h1, h2 => by
    simp only [List.mapM_cons, Option.bind_eq_bind, Option.bind_eq_some_iff, Option.pure_def, Option.some.injEq] at h1
    obtain ⟨y, hy, ys, hys, rfl⟩ := h1
    simp only [List.mapM_cons, Option.bind_eq_bind, Option.bind_eq_some_iff, Option.pure_def, Option.some.injEq] at h2
    obtain ⟨v, hv, vs', hvs, rfl⟩ := h2
    obtain ⟨us, g1, g2, g3⟩ := results_run rl f l ys vs' hys hvs
    have one : ∃ u, (resOne tmps x).run P w = .ok u w ∧ RV w m H v u := by
      cases x with
      | tmp t =>
        simp only [trRes, Option.some.injEq] at hy
        subst hy
        simp only [resVal, Option.some.injEq] at hv
        subst hv
        exact ⟨_, rfl, f.get t⟩
      | cell p t =>
        simp only [trRes, Option.bind_eq_bind, Option.bind_eq_some_iff, Option.some.injEq] at hy
        obtain ⟨sz, hs, ag, hg, rfl⟩ := hy
        simp only [resVal, Option.map_eq_some_iff] at hv
        obtain ⟨⟨v1, H1⟩, hev, rfl⟩ := hv
        have hp : RV w m H ((AX.t p).ev fr) (tmps.getD p undef) := f.get p
        obtain ⟨_, u', hu, hr⟩ := ld_sound (P := P) rl hs hg hp hev
        refine ⟨u', ?_, hr⟩
        simp only [evK] at hev
        have : ∃ ad, tmps.getD p undef = .pointer (some ad) := by
          split at hev
          · rename_i he; rw [he] at hp; obtain ⟨ad, _, h, _⟩ := hp.ptr_inv; exact ⟨ad, h⟩
          · rename_i he; rw [he] at hp; obtain ⟨ad, _, h, _⟩ := hp.ipt_inv; exact ⟨_, h⟩
          · cases hev
        obtain ⟨ad, had⟩ := this
        rw [had] at hu
        have e : resOne tmps (.cell p t) = (do loadVar t (← asAddr (tmps.getD p undef))) := rfl
        rw [e, had]
        simpa [Instr.loadAt, Instr.sureAddr, asAddr] using hu
    obtain ⟨u, hu, hr⟩ := one
    refine ⟨u :: us, ?_, by simp [g2], fun j h h' => ?_⟩
    · simp only [List.mapM_cons, Sem.run_bind, hu, Result.andThen_ok, g1, Sem.run_pure]
    · cases j with
      | zero => exact hr
      | succ j => exact g3 j (by simpa using h) (by simpa using h')
theorem put_rel {B : Nat} {w0 w wb : World} {m mb : BM} {H Hb : List AObj} {fr : List AV} {tmps : Array Value} {D : Nat} {o o' : Obj} (hN : wb.heap.size ≤ D) (hBD : B ≤ D) (hD : w.heap[D]? = some o) (ho : ∀ arr ty q, o ≠ .cells arr ty q)
    (t : Tr mb Hb wb m H w) (rl : Rel B w0 m H w) (f : FRel w m H fr tmps) : Tr mb Hb wb m H (w.putObj D o') ∧ Rel B w0 m H (w.putObj D o') ∧ FRel (w.putObj D o') m H fr tmps := by
  have hnw := not_wr rl hBD hD ho
  have keep : ∀ {b : Nat}, b ≠ D → (w.putObj D o').heap[b]? = w.heap[b]? := fun h => World.putObj_heap_other h
  have hcell : ∀ (a : Addr) (v : Value), w.cell? a = some v → (w.putObj D o').cell? a = some v := by
    intro a v hv
    by_cases e : a.block = D
    · exfalso
      simp only [World.cell?] at hv
      rw [e, hD] at hv
      cases o <;> simp_all
    · simp only [World.cell?] at hv ⊢
      rw [keep e]; exact hv
  have hrv : ∀ {a : AV} {v : Value}, RV w m H a v → RV (w.putObj D o') m H a v := by
    intro a v h
    induction h with
    | ri h => exact .ri (h.mono (fun a v _ h => hcell a v h) fun b _ h => h)
    | slc o ho hL hv => exact .slc o ho hL hv
    | ptr o ho hL hv => exact .ptr o ho hL hv
    | agg hn _ ih => exact .agg hn ih
    | tup hn _ ih => exact .tup hn ih
    | fn hn hn' _ _ ih ih' => exact .fn hn hn' ih ih'
    | ifc _ ih => exact .ifc ih
  have hsize : (w.putObj D o').heap.size = w.heap.size := by simp
  refine ⟨⟨by rw [hsize]; exact t.size, t.len, fun b hb hn => (keep (by omega)).trans (t.blk b hb hn), t.wr, t.ref, t.x⟩, ⟨?_, by rw [hsize]; exact rl.hB, rl.szpos, rl.virt, rl.base, fun i q hq hl hv => ?_, rl.inj, rl.xlt⟩, ⟨f.len, fun i h1 h2 => hrv (f.rv i h1 h2)⟩⟩
  · exact rl.below.trans ⟨rfl, rfl, rfl, by rw [hsize]; exact Nat.le_refl _, fun b hb => keep (by omega)⟩
  · obtain ⟨arr, h1, h2, h3⟩ := rl.obj i q hq hl hv
    refine ⟨arr, ?_, h2, fun k hk => ⟨(h3 k hk).1, fun j hj => let ⟨v, a, b⟩ := (h3 k hk).2 j hj; ⟨v, a, hrv b⟩⟩⟩
    rw [keep (fun e => hnw (.inr ⟨i, ⟨q, hq, hl, hv⟩, e⟩))]; exact h1
theorem leaves_marks {fn : Func} {tmps : Array Value} {Q : Ending → World → Prop} {B : Nat} {w0 wb : World} {m mb : BM} {H Hb : List AObj} {fr : List AV} (hle : B ≤ wb.heap.size)
    (h : ∀ w, Tr mb Hb wb m H w → Rel B w0 m H w → FRel w m H fr tmps → ∃ v, (results fn tmps).run P w = .ok v w ∧ Q (.returned v) w) :
    ∀ (ds : List Deferred) (w : World), Tr mb Hb wb m H w → Rel B w0 m H w → FRel w m H fr tmps → (∀ d ∈ ds, ∃ D, d = { target := .collected D, args := #[] } ∧ wb.heap.size ≤ D ∧ w.heap[D]? = some (.deferred (some []))) → ds.Nodup →
      LeavesInM Fence.wide 0 P fn tmps Q ds .returning w
  | [], w, t, rl, f, _, _ => by
    obtain ⟨v, h1, h2⟩ := h w t rl f
    exact ⟨v, h1, h2⟩
  | d :: ds, w, t, rl, f, hm, hn => by
    obtain ⟨D, rfl, hN, hD⟩ := hm d (by simp)
    obtain ⟨hn1, hn2⟩ := List.nodup_cons.1 hn
    obtain ⟨t', r', f'⟩ := put_rel (o' := .deferred none) hN (Nat.le_trans hle hN) hD (by intro _ _ _ e; cases e) t rl f
    refine ⟨by simp, .inl ⟨D, _, rfl, run_takeDeferred hD, leaves_marks hle h ds _ t' r' f' (fun d' hd' => ?_) hn2⟩⟩
    obtain ⟨D', rfl, hN', hD'⟩ := hm d' (by simp [hd'])
    refine ⟨D', rfl, hN', ?_⟩
    rw [World.putObj_heap_other (fun e => hn1 (by rw [e] at hd'; exact hd'))]
    exact hD'
theorem ACalls.of_body {f : FuncId} {fn : Func} {c : Code} {ac : AC} {rs : List ARes} {args : List AV} {R : AV → List AObj → Prop} (hfn : P.funcs[f]? = some fn) (hname : (fn.name == "runtime.NumGoroutine") = false)
    (hb : fn.body = some c) (htr : trC P own c = some ac) (hrs : fn.results.toList.mapM (trRes P) = some rs)
    (h : AWp P own H.length ac (bodyQ H.length rs R) (args ++ List.replicate (fn.ntmps - args.length) .und) H) : ACalls P f args H R := by
  refine ⟨⟨fn, hfn, hname, by rw [hb]; rfl⟩, fun B w0 m w vs rl hvs => ?_⟩
  refine (callsIn_wide (n := 0)).1 (callsIn_of_wp_marks hfn hb trivial ?_)
  have hf : FRel w m H (args ++ List.replicate (fn.ntmps - args.length) .und) (vs ++ Array.replicate (fn.ntmps - vs.size) undef) := by
    have hl := hvs.1
    refine ⟨by simp [hl], fun i h1 h2 => ?_⟩
    simp only [List.getElem_append, Array.getElem_append]
    by_cases c1 : i < args.length
    · rw [dif_pos c1, dif_pos (by omega)]; exact hvs.2 i c1 (by omega)
    · rw [dif_neg c1, dif_neg (by omega)]; simp only [List.getElem_replicate]; exact .und _
  refine wpIn_mono (h c htr none B w0 m H w m w { tmps := vs ++ Array.replicate (fn.ntmps - vs.size) undef, defers := [] } rfl (Tr.refl _ _ _) rl hf ⟨rl.hB, by simp, by simp, by simp⟩) ?_
  rintro e a' w' ⟨m', fr', H', x1, x2, x3, x4, x5⟩
  have fin : retOk H.length rs R fr' H' → LeavesInM Fence.wide 0 P fn a'.tmps (fun e w' => ∃ v r m' H', e = .returned v ∧ Tr m H w m' H' w' ∧ Rel B w0 m' H' w' ∧ RV w' m' H' r v ∧ R r H') a'.defers .returning w' := by
    rintro ⟨us, v', H2, hm, hw, hR⟩
    refine leaves_marks (Q := fun e w' => ∃ v r m' H', e = .returned v ∧ Tr m H w m' H' w' ∧ Rel B w0 m' H' w' ∧ RV w' m' H' r v ∧ R r H') x4.le (fun w2 y1 y2 y3 => ?_) a'.defers w' x1 x2 x3 x4.marks x4.nodup
    obtain ⟨zs, g1, g2, g3⟩ := results_run (P := P) y2 y3 fn.results.toList rs us hrs hm
    obtain ⟨zv, hzv, hrun⟩ : ∃ zv, RV w2 m' H' (tupV us) zv ∧ (results fn a'.tmps).run P w2 = .ok zv w2 := by
      have hmm : (fn.results.mapM (resOne a'.tmps)).run P w2 = .ok zs.toArray w2 := by
        rw [← Array.toArray_toList (xs := fn.results), List.mapM_toArray]
        rw [Sem.run_map, g1]; rfl
      refine ⟨if h : zs.toArray.size = 1 then zs.toArray[0] else .tuple zs.toArray, ?_, ?_⟩
      · match us, zs, g2, g3 with
        | [], [], _, _ => exact .tup (by simp) (by intro j h; simp at h)
        | [u], [z], _, g3 => exact g3 0 (by simp) (by simp)
        | u :: u' :: us, z :: z' :: zs, g2, g3 => exact .tup (by simpa using g2) (fun j h h' => by simpa using g3 j h (by simpa using h'))
      · rw [results_eq]
        simp only [Sem.run_bind, hmm, Result.andThen_ok, Sem.run_pure]
    obtain ⟨m1, t1, r1, f1⟩ := hw B w0 m H w m' w2 #[zv] rfl y1 y2 ⟨rfl, fun i h1 h2 => by simp at h1; subst h1; exact hzv⟩
    exact ⟨zv, hrun, zv, v', m1, H2, rfl, t1, r1, f1.rv 0 (by simp) (by simp), hR⟩
  cases e with
  | normal => exact fin x5
  | ret => exact fin x5
  | exit id => exact x5.elim
  | goto l => exact x5.elim
  | panic ch => exact x5.elim
  | outgrown => exact x5.elim
end
end Go.Fw
/- A loop over an iterator, whose body goes on till the iterator ends. -/
namespace Go.Fw
open Go Go.RowKit
section
variable {P : Program}
theorem wpIn_room {F : Fence} (hF : F.depth = none) {n k : Nat} {c : Code} {Q : Exit → Act → World → Prop} {a : Act} {w : World} (h : c.wpIn F n P Q a w) : c.wpIn F k P Q a w :=
  fun b q cs h1 h2 _ => h b q cs h1 h2 (fun d hd => by rw [hF] at hd; cases hd)
theorem fenceR_dep (r : Option Nat) : (fenceR r).depth = none := rfl
def mvT (mv : List (Nat × Nat)) (t : Array Value) : Array Value := mv.foldl (fun t p => t.setIfInBounds p.1 (t.getD p.2 undef)) t
def mvF (mv : List (Nat × Nat)) (fr : List AV) : List AV := mv.foldl (fun f p => f.set p.1 (f.getD p.2 .und)) fr
def psF (ps : List Nat) (vs : List Value) (fr : List AV) : List AV := (ps.zip vs).foldl (fun f p => f.set p.1 (.sc p.2)) fr
theorem mv_rel {w : World} {m : BM} {H : List AObj} : ∀ (mv : List (Nat × Nat)) {fr : List AV} {t : Array Value}, FRel w m H fr t → FRel w m H (mvF mv fr) (mvT mv t)
  | [], _, _, h => h
  | p :: mv, _, _, h => mv_rel mv (h.put p.1 (h.get p.2))
theorem ps_rel {w : World} {m : BM} {H : List AObj} : ∀ (l : List (Nat × Value)) {fr : List AV} {t : Array Value}, (∀ p ∈ l, pureV p.2 = true) → FRel w m H fr t →
    FRel w m H (l.foldl (fun f p => f.set p.1 (.sc p.2)) fr) (l.foldl (fun t p => t.setIfInBounds p.1 p.2) t)
  | [], _, _, _, h => h
  | p :: l, _, _, hp, h => ps_rel l (fun q hq => hp q (by simp [hq])) (h.put p.1 (.ri (.sc _ (hp p (by simp)))))
theorem ps_fold (ps : Array Nat) (vs : List Value) (t : Array Value) : (ps.zip vs.toArray).foldl (fun t (x : Nat × Value) => t.setIfInBounds x.1 x.2) t = (ps.toList.zip vs).foldl (fun t p => t.setIfInBounds p.1 p.2) t := by
  rw [← Array.foldl_toList]
  simp
theorem mvT_app (a b : List (Nat × Nat)) (t : Array Value) : mvT (a ++ b) t = mvT b (mvT a t) := by simp [mvT, List.foldl_append]
theorem trMv_sound : ∀ (c : Code) (mv : List (Nat × Nat)), trMv c = some mv → ∀ {F : Fence} {n : Nat} {K : Act → World → Prop} {a : Act} {w : World}, K { a with tmps := mvT mv a.tmps } w → c.wpIn F n P (Exit.then K (fun _ _ _ => False)) a w := by
  intro c
  induction c with
  | skip =>
    intro mv h F n K a w hK
    simp only [trMv, Option.some.injEq] at h
    subst h
    exact wpIn_skip hK
  | seq x y ihx ihy =>
    intro mv h F n K a w hK
    simp only [trMv, Option.bind_eq_bind, Option.bind_eq_some_iff, Option.some.injEq] at h
    obtain ⟨m1, h1, m2, h2, rfl⟩ := h
    refine wpIn_seq (wpIn_mono (ihx m1 h1 (K := fun a w => y.wpIn F n P (Exit.then K fun _ _ _ => False) a w) (ihy m2 h2 (by simpa only [mvT_app] using hK))) ?_)
    intro e a w h
    cases e <;> first | exact h | exact h.elim
  | region id ops d =>
    intro mv h F n K a w hK
    cases d with
    | true => simp [trMv] at h
    | false =>
      simp only [trMv] at h
      split at h
      case h_2 => cases h
      rename_i o ho
      split at h
      case h_2 => cases h
      rename_i d s h1 h2 h3
      cases h
      have hops : ops = #[o] := by
        apply Array.toList_inj.1
        simpa using ho
      subst hops
      refine wpIn_region ?_
      show wpOpsIn F n P #[o] _ (List.range 1) a w
      simp only [List.range_succ, List.range_zero, List.nil_append, wpOpsIn]
      simp only [List.getElem?_toArray, List.getElem?_cons_zero]
      rw [if_pos (by simp [Region.wanted, h3])]
      refine ⟨fun f hf => by simp [Oper.about, h2] at hf, ?_⟩
      rw [Oper.semAt_eq _ _ _ (by simp [h2])]
      unfold execOp
      rw [h2]
      have hfin : wpOpsIn F n P #[o] (Exit.then K fun _ _ _ => False) [] (a.put o.dst (a.eval (.tmp s))) w := by
        rw [h1]; exact hK
      exact hfin
  | _ => intro mv h; simp [trMv] at h
theorem grown_rel {B : Nat} {w0 w wl W' : World} {m ml : BM} {H Hl : List AObj} {row : Option Nat} (hg : w.grownBy W' row) (hrow : ∀ r, row = some r → wl.heap.size ≤ r ∧ ∃ o : Obj, w.heap[r]? = some o ∧ o.isCells = false) (hBl : B ≤ wl.heap.size)
    (t : Tr ml Hl wl m H w) (rl : Rel B w0 m H w) : Tr ml Hl wl m H W' ∧ Rel B w0 m H W' := by
  have keep : ∀ {b : Nat} {o : Obj}, w.heap[b]? = some o → (o.isCells = true ∨ b < wl.heap.size) → W'.heap[b]? = some o := by
    intro b o hb hc
    refine (hg.block b (Array.getElem?_eq_some_iff.1 hb).1 ?_).trans hb
    intro e
    obtain ⟨h1, o', h2, h3⟩ := hrow b e.symm
    rw [hb] at h2; cases h2
    rcases hc with h | h
    · rw [h] at h3; cases h3
    · omega
  have hcell : ∀ (a : Addr) (v : Value), w.cell? a = some v → W'.cell? a = some v := by
    intro a v hv
    obtain ⟨o, ho, hc⟩ := cells_of_cell hv
    simp only [World.cell?] at hv ⊢
    rw [keep ho (.inl hc)]
    rw [ho] at hv; exact hv
  have hrv : ∀ {a : AV} {v : Value}, RV w m H a v → RV W' m H a v := by
    intro a v h
    induction h with
    | ri h => exact .ri (h.mono (fun a v _ h => hcell a v h) fun b _ h => h)
    | slc o ho hL hv => exact .slc o ho hL hv
    | ptr o ho hL hv => exact .ptr o ho hL hv
    | agg hn _ ih => exact .agg hn ih
    | tup hn _ ih => exact .tup hn ih
    | fn hn hn' _ _ ih ih' => exact .fn hn hn' ih ih'
    | ifc _ ih => exact .ifc ih
  have old : ∀ {b : Nat}, b < wl.heap.size → W'.heap[b]? = w.heap[b]? := by
    intro b hb
    have hlt : b < w.heap.size := Nat.lt_of_lt_of_le hb t.size
    rw [keep (Array.getElem?_eq_getElem hlt) (.inr hb), Array.getElem?_eq_getElem hlt]
  refine ⟨⟨Nat.le_trans t.size hg.size, t.len, fun b hb hn => (old hb).trans (t.blk b hb hn), t.wr, t.ref, t.x⟩, ⟨?_, Nat.le_trans rl.hB hg.size, rl.szpos, rl.virt, rl.base, fun i q hq hl hv => ?_, rl.inj, rl.xlt⟩⟩
  · exact rl.below.trans ⟨hg.os, hg.tape, hg.output, Nat.le_trans (by exact Nat.le_refl _) hg.size, fun b hb => old (by omega)⟩
  · obtain ⟨arr, h1, h2, h3⟩ := rl.obj i q hq hl hv
    exact ⟨arr, keep h1 (.inl rfl), h2, fun k hk => ⟨(h3 k hk).1, fun j hj => let ⟨v, a, b⟩ := (h3 k hk).2 j hj; ⟨v, a, hrv b⟩⟩⟩
def KeepP (Pr : Nat → Prop) (A B : World) : Prop := ∀ b, Pr b → B.heap[b]? = A.heap[b]?
variable {own : List Nat} {nb : Nat} {Q : Exit → List AV → List AObj → Prop} {fr : List AV} {H : List AObj}
theorem AWp.rangeN {N : Nat} {vals : Fin N → List Value} (hpure : ∀ x, ∀ v ∈ vals x, pureV v = true) {order : List (Fin N)} {g : AX} {gf : FuncId} {fn : Func} {cap : AV} {ps : List Nat} {mv : List (Nat × Nat)} {body : AC} (hps : ∀ x, (vals x).length = ps.length)
    (hfn : P.funcs[gf]? = some fn) (hname : (fn.name == "runtime.NumGoroutine") = false) (hb : fn.body.isNone = false) (hg : g.ev fr = .fn (.func gf) [] [cap]) (hcap : noRef cap = true)
    (hit : ∀ (w : World) (W : Nat → Prop) (v : Value), RI w W cap v → (∀ b, W b → b < w.heap.size) → SeqStopsK (fenceR none) 8 P gf #[v] (fun x => (vals x).toArray) (KeepP fun b => b < w.heap.size ∧ ¬ W b) (fun ys => ys = order) (fun _ => True) N w)
    (J : List (Fin N) → List AObj → Prop) (h0 : J [] H)
    (hbody : ∀ (pre : List (Fin N)) (x : Fin N) (H : List AObj), pre.length < N → J pre H → AWp P own H.length body (fun e _ H' => match e with
      | .normal => ∃ H'', Weak H.length [] H' [] H'' ∧ J (pre ++ [x]) H''
      | _ => False) (mvF mv (psF ps (vals x) fr)) H)
    (hdone : ∀ H, J order H → Q .normal fr H) : AWp P own nb (.range g ps mv body) Q fr H := by
  intro c hc r B w0 mb Hb wb m w a hn t rl f hd
  cases c <;> try simp [trC, Option.bind_eq_some_iff] at hc
  · rcases trC_region hc with ⟨_, h⟩ | ⟨_, h⟩ <;> cases h
  rename_i gop pa asg bc
  obtain ⟨g', hg', mv', hmv, b', hb', rfl, rfl, rfl, rfl⟩ := hc
  have hgr := trX_rv f hg'
  rw [hg] at hgr
  obtain ⟨us, vs, hge, ⟨hu1, hu2⟩, ⟨hv1, hv2⟩⟩ := hgr.fn_inv
  obtain rfl : us = #[] := by
    have : us.size = 0 := hu1.symm
    exact Array.eq_empty_of_size_eq_zero this
  obtain ⟨v, rfl⟩ : ∃ v, vs = #[v] := by
    have h1 : vs.size = 1 := hv1.symm
    exact ⟨vs[0], by apply Array.ext (by simp [h1]); intro i h2 h3; simp at h3; subst h3; rfl⟩
  have hcv : RI w (Wr m H) cap v := (hv2 0 (by simp) (by simp)).toRI hcap
  have hwl : ∀ b, Wr m H b → b < w.heap.size := fun b hb => rl.wr_lt hb
  refine wpIn_room (fenceR_dep r) (n := 9) (k := 0) ?_
  have hF : (fenceR r).fn gf := trivial
  have hent : ∀ args w, (callFunc gf args).run P w = .ok (.enter gf args) w := by
    intro args w
    have hname' : ¬ fn.name = "runtime.NumGoroutine" := by simpa using hname
    have hbody' : ¬ fn.body = none := by intro e; rw [e] at hb; cases hb
    simp [callFunc, hfn, hname', hbody']
  have hBw : B ≤ w.heap.size := rl.hB
  -- between two rounds
  obtain ⟨Iv, hIv⟩ : ∃ Iv : List (Fin N) → World → Prop, Iv = fun pre W => ∃ m1 H1, Tr m H w m1 H1 W ∧ Rel B w0 m1 H1 W ∧ J pre H1 := ⟨_, rfl⟩
  have hOwn : OwnFrom w.heap.size Iv := by
    intro pre X Y row hs hgr hr
    rw [hIv] at hs ⊢
    obtain ⟨m1, H1, t1, r1, hj⟩ := hs
    obtain ⟨t2, r2⟩ := grown_rel hgr hr hBw t1 r1
    exact ⟨m1, H1, t2, r2, hj⟩
  have hKt : ∀ {A B C : World}, KeepP (fun b => b < w.heap.size ∧ ¬ Wr m H b) A B → KeepP (fun b => b < w.heap.size ∧ ¬ Wr m H b) B C → KeepP (fun b => b < w.heap.size ∧ ¬ Wr m H b) A C :=
    fun h k b hb => (k b hb).trans (h b hb)
  have hKb : ∀ (W : World) (l : Nat) (o o' : Obj), w.heap.size ≤ l → W.heap[l]? = some o → o.isCells = false → o.isWalk = false → KeepP (fun b => b < w.heap.size ∧ ¬ Wr m H b) W (W.putObj l o') :=
    fun W l o o' hl _ _ _ b hb => World.putObj_heap_other (by omega)
  have hseq := hit w (Wr m H) v hcv hwl
  have hps' : ∀ x, ((fun x => (vals x).toArray) x).size = pa.size := fun x => by simpa using hps x
  obtain ⟨a1, ha1⟩ : ∃ a1 : Fin N → Act, a1 = fun x => { tmps := mvT mv' ((pa.toList.zip (vals x)).foldl (fun t p => t.setIfInBounds p.1 p.2) a.tmps), defers := [] } := ⟨_, rfl⟩
  have hI0 : Iv [] w := by rw [hIv]; exact ⟨m, H, Tr.refl _ _ _, rl, h0⟩
  have hassign : ∀ (n : Nat) (l : Nat) (x : Fin N) (W : World) (K : Act → World → Prop), K (a1 x) W →
      asg.wpIn ((fenceR r).inRound l) n P (Exit.then K (fun _ _ _ => False)) { tmps := (pa.zip (vals x).toArray).foldl (fun t (p, v) => t.setIfInBounds p v) a.tmps, defers := [] } W := by
    intro n l x W K hK
    refine trMv_sound asg mv' hmv ?_
    rw [ha1] at hK
    rw [ps_fold]
    exact hK
  have hround : ∀ (l : Nat) (pre : List (Fin N)) (x : Fin N) (W : World), w.heap.size ≤ l → (∃ r, W.heap[l]? = some (.loop r)) → pre.length < N → Iv pre W →
      bc.wpIn (fenceR (some l)) 0 P (ownPostG w.heap.size (KeepP fun b => b < w.heap.size ∧ ¬ Wr m H b) Iv (fun _ _ _ => False) (pre ++ [x]) W) (a1 x) W := by
    intro l pre x W hl hrec hlen hiv
    rw [hIv] at hiv
    obtain ⟨m1, H1, t1, r1, hj⟩ := hiv
    have f1 := f.mono t1
    have hfr : FRel W m1 H1 (mvF mv' (psF pa.toList (vals x) fr)) (a1 x).tmps := by
      rw [ha1]
      exact mv_rel mv' (ps_rel _ (fun p hp => hpure x p.2 (List.of_mem_zip hp).2) f1)
    refine wpIn_mono (hbody pre x H1 hlen hj bc hb' (some l) B w0 m1 H1 W m1 W (a1 x) rfl (Tr.refl _ _ _) r1 hfr ⟨r1.hB, by rw [ha1]; simp, by rw [ha1]; simp, ?_⟩) ?_
    · intro l' e
      cases e
      exact ⟨by omega, hrec⟩
    · rintro e a' W' ⟨m2, fr2, H2, t2, r2, f2, d2, hq⟩
      cases e with
      | normal =>
        obtain ⟨H3, hw3, hj3⟩ := hq
        obtain ⟨m3, t3, r3, -⟩ := hw3 B w0 m1 H1 W m2 W' #[] rfl t2 r2 ⟨rfl, fun i h => by simp at h⟩
        refine ⟨⟨t2.size, fun k o hk hk1 hk2 => ?_⟩, fun b hb => ?_, ?_⟩
        · refine (t2.blk k (Array.getElem?_eq_some_iff.1 hk1).1 (not_wr r1 (by omega) hk1 ?_)).trans hk1
          intro arr ty q e
          rw [e] at hk2; cases hk2
        · exact t2.blk b (Nat.lt_of_lt_of_le hb.1 t1.size) (t1.wr b hb.1 hb.2)
        · rw [hIv]; exact ⟨m3, H3, t1.trans t3, r3, hj3⟩
      | exit id => exact hq.elim
      | goto l => exact hq.elim
      | ret => exact hq.elim
      | panic ch => exact hq.elim
      | outgrown => exact hq.elim
  have hfin : ∀ (a' : Act) (W : World), a'.tmps = a.tmps → DefOk r B wb.heap.size a' W → Iv order W → After r mb Hb wb B w0 (Q .normal) a' W := by
    intro a' W ea hd' hiv
    rw [hIv] at hiv
    obtain ⟨m1, H1, t1, r1, hj⟩ := hiv
    exact ⟨m1, fr, H1, t.trans t1, r1, by rw [ea]; exact f.mono t1, hd', hdone H1 hj⟩
  cases r with
  | none =>
    refine wpIn_rangeFunc_ownH (F := fenceR none) rfl (by omega) hge hF hent hseq (fun h k => hKt h k) hKb (Below.refl _ _) hps' Iv (fun _ _ _ => False) hOwn (fun _ _ _ _ _ hs _ _ => hs) hI0
      (fun x a' _ => a' = a1 x) (fun _ _ _ _ _ _ hs _ _ => hs)
      (fun l pre x W K hi hK => hassign _ l x W K (hK _ _ (KeepsFrom.refl _ _) (fun b _ => rfl) hi rfl)) ?_ ?_ (fun _ _ _ _ _ _ h _ => h.elim)
    · rintro l pre x a' W hl hrec hiv rfl hlen
      exact wpIn_room (fenceR_dep (some l)) (hround l pre x W hl hrec hlen hiv)
    · intro D ys W hD hS hiv hk
      subst hS
      refine hfin _ W rfl ⟨hd.le, fun d hdm => ?_, ?_, fun l e => by cases e⟩ hiv
      · rcases List.mem_cons.1 hdm with rfl | hdm
        · exact ⟨D, rfl, Nat.le_trans t.size hD, hk⟩
        · obtain ⟨m1, H1, t1, r1, _⟩ := (by rw [hIv] at hiv; exact hiv : ∃ m1 H1, Tr m H w m1 H1 W ∧ Rel B w0 m1 H1 W ∧ J ys H1)
          exact (hd.mono rl t1).marks d hdm
      · refine List.nodup_cons.2 ⟨fun hmem => ?_, hd.nodup⟩
        obtain ⟨D', e, _, hD'⟩ := hd.marks _ hmem
        have hlt := (Array.getElem?_eq_some_iff.1 hD').1
        cases e
        omega
  | some l0 =>
    obtain ⟨hl0B, rec0, hrec0⟩ := hd.round l0 rfl
    refine wpIn_rangeFunc_ownN (F := fenceR (some l0)) (l₀ := l0) (r₀ := rec0) rfl hrec0 (by omega) hge hF hent (hseq.inRound l0) (fun h k => hKt h k) hKb (Below.refl _ _) hps' Iv (fun _ _ _ => False) hOwn (fun _ _ _ _ _ hs _ _ => hs) hI0
      (fun x a' _ => a' = a1 x) (fun _ _ _ _ _ _ hs _ _ => hs)
      (fun l pre x W K hi hK => hassign _ l x W K (hK _ _ (KeepsFrom.refl _ _) (fun b _ => rfl) hi rfl)) ?_ ?_ (fun _ _ _ _ h => h.elim)
    · rintro l pre x a' W hl hrec hiv rfl hlen
      exact wpIn_room (fenceR_dep (some l)) (hround l pre x W hl hrec hlen hiv)
    · intro ys W hS hiv
      subst hS
      obtain ⟨m1, H1, t1, r1, _⟩ := (by rw [hIv] at hiv; exact hiv : ∃ m1 H1, Tr m H w m1 H1 W ∧ Rel B w0 m1 H1 W ∧ J ys H1)
      exact hfin _ W rfl (hd.mono rl t1) hiv
theorem AWp.range {N : Nat} {vals : Fin N → List Value} (hpure : ∀ x, ∀ v ∈ vals x, pureV v = true) {order : List (Fin N)} {g : AX} {gf : FuncId} {fn : Func} {cap : AV} {ps : List Nat} {mv : List (Nat × Nat)} {body : AC} (hps : ∀ x, (vals x).length = ps.length)
    (hfn : P.funcs[gf]? = some fn) (hname : (fn.name == "runtime.NumGoroutine") = false) (hb : fn.body.isNone = false) (hg : g.ev fr = .fn (.func gf) [] [cap]) (hcap : noRef cap = true)
    (hit : ∀ (w : World) (W : Nat → Prop) (v : Value), RI w W cap v → (∀ b, W b → b < w.heap.size) → SeqStopsK (fenceR none) 8 P gf #[v] (fun x => (vals x).toArray) (KeepP fun b => b < w.heap.size ∧ ¬ W b) (fun ys => ys = order) (fun _ => True) N w)
    (J : List (Fin N) → List AObj → Prop) (h0 : J [] H)
    (hbody : ∀ (pre : List (Fin N)) (x : Fin N) (H : List AObj), J pre H → AWp P own H.length body (fun e _ H' => match e with
      | .normal => ∃ H'', Weak H.length [] H' [] H'' ∧ J (pre ++ [x]) H''
      | _ => False) (mvF mv (psF ps (vals x) fr)) H)
    (hdone : ∀ H, J order H → Q .normal fr H) : AWp P own nb (.range g ps mv body) Q fr H :=
  AWp.rangeN hpure hps hfn hname hb hg hcap hit J h0 (fun pre x H _ hj => hbody pre x H hj) hdone
end
end Go.Fw
