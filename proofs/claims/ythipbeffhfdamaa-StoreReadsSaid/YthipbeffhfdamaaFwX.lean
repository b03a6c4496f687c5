/- For contracts: functions by their number, and what the steps are reckoned with. -/
import Derived.Test.YthipbeffhfdamaaFwU
import Derived.WalkKit
import Derived.ProofKit
import Derived.OpenShut
import Derived.ShutString
import Derived.ChangeOld
import Derived.Below
import Derived.SizedLaws
namespace Go.Fw
open Go Go.RowKit
section
variable {P : Program}
theorem ACalls.of_fn {own : List Nat} {f : FuncId} {fn : Func} {ac : AC} {rs : List ARes} {args : List AV} {H : List AObj} {R : AV → List AObj → Prop} (hfn : P.funcs[f]? = some fn) (hname : (fn.name == "runtime.NumGoroutine") = false)
    (htr : fn.body.bind (trC P own) = some ac) (hrs : fn.results.toList.mapM (trRes P) = some rs) {n : Nat} (hn : fn.ntmps = n)
    (h : AWp P own H.length ac (bodyQ H.length rs R) (args ++ List.replicate (n - args.length) .und) H) : ACalls P f args H R := by
  obtain ⟨c, hb, hc⟩ := Option.bind_eq_some_iff.1 htr
  subst hn
  exact ACalls.of_body hfn hname hb hc hrs h
theorem retOk.of {nb : Nat} {rs : List ARes} {R : AV → List AObj → Prop} {fr : List AV} {H : List AObj} {vs : List AV} (h : rs.mapM (resVal fr H) = some vs) (hR : R (tupV vs) H) : retOk nb rs R fr H :=
  ⟨vs, _, H, h, Weak.refl _ _ _, hR⟩
theorem kWp_k {k : AK} {d : Option Nat} {next : List AV → List AObj → Prop} {fr : List AV} {H : List AObj} {v : AV} {H' : List AObj} (h : evK k fr H = some (v, H')) (hn : next (putD fr d v) H') : kWp P (.k k) d next fr H := ⟨v, H', h, hn⟩
theorem kWp_eq {k : AK} {d : Option Nat} {next : List AV → List AObj → Prop} {fr : List AV} {H : List AObj} :
    kWp P (.k k) d next fr H = match evK k fr H with
      | some (v, H') => next (putD fr d v) H'
      | none => False := by
  apply propext
  simp only [kWp]
  constructor
  · rintro ⟨v, H', h, hn⟩; rw [h]; exact hn
  · intro h
    cases he : evK k fr H with
    | none => rw [he] at h; exact h.elim
    | some p => rw [he] at h; exact ⟨p.1, p.2, rfl, h⟩
@[simp] theorem opsWp_nil {next : List AV → List AObj → Prop} {fr : List AV} {H : List AObj} : opsWp P [] next fr H = next fr H := id rfl
@[simp] theorem opsWp_cons {o : AOp} {l : List AOp} {next : List AV → List AObj → Prop} {fr : List AV} {H : List AObj} : opsWp P (o :: l) next fr H = opWp P o (opsWp P l next) fr H := id rfl
@[simp] theorem opWp_plain {d : Option Nat} {k : AKK} {next : List AV → List AObj → Prop} {fr : List AV} {H : List AObj} : opWp P ⟨d, none, k⟩ next fr H = kWp P k d next fr H := id rfl
@[simp] theorem opWp_guard {d : Option Nat} {t : Nat} {b : Bool} {k : AKK} {next : List AV → List AObj → Prop} {fr : List AV} {H : List AObj} :
    opWp P ⟨d, some (t, b), k⟩ next fr H = match fr.getD t .und with
      | .sc (.bool c) => if c = b then kWp P k d next fr H else next (putD fr d (.tup [])) H
      | .tup [] => next (putD fr d (.tup [])) H
      | _ => False := id rfl
inductive Kb (next : List AV → List AObj → Prop) (d : Option Nat) (fr : List AV) : Type
  | mk
def Kp (next : List AV → List AObj → Prop) (d : Option Nat) (fr : List AV) (_ : Kb next d fr) (r : AV) (H' : List AObj) : Prop := next (putD fr d r) H'
@[simp] theorem Kp_eq {next : List AV → List AObj → Prop} {d : Option Nat} {fr : List AV} {b : Kb next d fr} {r : AV} {H' : List AObj} : Kp next d fr b r H' = next (putD fr d r) H' := id rfl
inductive Cb (next : AV → List AObj → Prop) : Type
  | mk
def Cp (prot : Bool) (H : List AObj) (next : AV → List AObj → Prop) (_ : Cb next) (r : AV) (H' : List AObj) : Prop := (prot = true → ∃ G, H' = H ++ G) ∧ next r H'
@[simp] theorem Cp_eq {prot : Bool} {H : List AObj} {next : AV → List AObj → Prop} {b : Cb next} {r : AV} {H' : List AObj} : Cp prot H next b r H' = ((prot = true → ∃ G, H' = H ++ G) ∧ next r H') := id rfl
@[simp] theorem kWp_call {prot : Bool} {f : AX} {args : List AX} {d : Option Nat} {next : List AV → List AObj → Prop} {fr : List AV} {H : List AObj} :
    kWp P (.call prot f args) d next fr H = callV P prot (f.ev fr) (args.map (·.ev fr)) H (Kp next d fr .mk) := id rfl
@[simp] theorem kWp_inv {prot : Bool} {m : String} {args : List AX} {d : Option Nat} {next : List AV → List AObj → Prop} {fr : List AV} {H : List AObj} :
    kWp P (.inv prot m args) d next fr H = invV P prot m (args.map (·.ev fr)) H (Kp next d fr .mk) := id rfl
theorem invV_of {prot : Bool} {m : String} {t : TypeId} {v : AV} {rest : List AV} {H : List AObj} {next : AV → List AObj → Prop} {g : FuncId} (hm : methP P t m = some (g, none)) :
    invV P prot m (.ifc t v :: rest) H next = ACalls P g (v :: rest) H (Cp prot H next .mk) := by
  simp only [invV, hm]; rfl
theorem invV_ld {prot : Bool} {m : String} {t : TypeId} {v : AV} {rest : List AV} {H : List AObj} {next : AV → List AObj → Prop} {g : FuncId} {sz : Nat} {ag : Bool} {off : Nat} (hm : methP P t m = some (g, some (sz, ag, off))) :
    invV P prot m (.ifc t v :: rest) H next = match evK (.ld sz ag (.c (offV off v))) [] H with
      | some (u, _) => ACalls P g (u :: rest) H (Cp prot H next .mk)
      | none => False := by
  simp only [invV, hm]; rfl
@[simp] theorem offV_ptr (off i L k f : Nat) : offV off (.ptr i L k f) = .ptr i L k (f + off) := rfl
@[simp] theorem offV_ipt (off f : Nat) (e : AV) : offV off (.ipt e f) = .ipt e (f + off) := rfl
@[simp] theorem callV_fn {prot : Bool} {g : FuncId} {first caps args : List AV} {H : List AObj} {next : AV → List AObj → Prop} :
    callV P prot (.fn (.func g) first caps) args H next = ACalls P g (first ++ args ++ caps) H (Cp prot H next .mk) := id rfl
end
theorem Weak.to {nb : Nat} {fr fr1 fr2 : List AV} {H H1 H2 : List AObj} (h : Weak nb fr H fr1 H1) (e : fr1 = fr2) (e' : H1 = H2) : Weak nb fr H fr2 H2 := by subst e e'; exact h
theorem AWp.cut {P : Program} {own : List Nat} {nb : Nat} {x y : AC} {Q : Exit → List AV → List AObj → Prop} {fr : List AV} {H : List AObj} (F : List AV) (HF : List AObj)
    (h : AWp P own nb x (qSeq (fun fr H => Weak nb fr H F HF) Q) fr H) (k : AWp P own nb y Q F HF) : AWp P own nb (.seq x y) Q fr H := by
  refine AWp.seq (h.mono ?_)
  intro e fr H hq
  cases e with
  | normal => exact AWp.weak hq k
  | _ => exact hq
theorem AWp.cutp {P : Program} {own : List Nat} {nb : Nat} {x y : AC} {Q : Exit → List AV → List AObj → Prop} {fr : List AV} {H : List AObj} (p : Prop) (F : List AV) (HF : List AObj)
    (h : AWp P own nb x (qSeq (fun fr H => p ∧ Weak nb fr H F HF) Q) fr H) (k : p → AWp P own nb y Q F HF) : AWp P own nb (.seq x y) Q fr H := by
  refine AWp.seq (h.mono ?_)
  intro e fr H hq
  cases e with
  | normal => exact AWp.weak hq.2 (k hq.1)
  | _ => exact hq
theorem AWp.cut2 {P : Program} {own : List Nat} {nb : Nat} {x y z : AC} {Q : Exit → List AV → List AObj → Prop} {fr : List AV} {H : List AObj} (F : List AV) (HF : List AObj)
    (h : AWp P own nb x (qSeq (fun fr H => AWp P own nb y (qSeq (fun fr H => Weak nb fr H F HF) Q) fr H) Q) fr H) (k : AWp P own nb z Q F HF) : AWp P own nb (.seq x (.seq y z)) Q fr H := by
  refine AWp.seq (h.mono ?_)
  intro e fr H hq
  cases e with
  | normal => exact AWp.cut F HF hq k
  | _ => exact hq
theorem AWp.cutE {P : Program} {own : List Nat} {nb : Nat} {x y : AC} {Q : Exit → List AV → List AObj → Prop} {fr : List AV} {H : List AObj} {σ : Type} (p : σ → Prop) (F : σ → List AV) (HF : σ → List AObj)
    (h : AWp P own nb x (qSeq (fun fr H => ∃ s, p s ∧ Weak nb fr H (F s) (HF s)) Q) fr H) (k : ∀ s, p s → AWp P own nb y Q (F s) (HF s)) : AWp P own nb (.seq x y) Q fr H := by
  refine AWp.seq (h.mono ?_)
  intro e fr H hq
  cases e with
  | normal => exact let ⟨s, hs, hw⟩ := hq; AWp.weak hw (k s hs)
  | _ => exact hq
section
variable {H : List AObj} {k n : Nat} {b : Bool}
@[simp] theorem frz_und : frz H k n b .und = .und := by cases n <;> rfl
@[simp] theorem frz_sc (v : Value) : frz H k n b (.sc v) = .sc v := by cases n <;> rfl
@[simp] theorem frz_imm' (nl : Bool) (c : Option Nat) (sz : Nat) (xs : List AV) : frz H k n b (.imm nl c sz xs) = .imm nl c sz xs := by cases n <;> rfl
@[simp] theorem frz_ipt (e : AV) (f : Nat) : frz H k n b (.ipt e f) = .ipt e f := by cases n <;> rfl
@[simp] theorem frz_agg (cs : List AV) : frz H k (n + 1) b (.agg cs) = .agg (cs.map (frz H k n b)) := rfl
@[simp] theorem frz_tup (cs : List AV) : frz H k (n + 1) b (.tup cs) = .tup (cs.map (frz H k n b)) := rfl
@[simp] theorem frz_fn (f : Fn) (x y : List AV) : frz H k (n + 1) b (.fn f x y) = .fn f (x.map (frz H k n b)) (y.map (frz H k n b)) := rfl
@[simp] theorem frz_ifc (t : TypeId) (v : AV) : frz H k (n + 1) b (.ifc t v) = .ifc t (frz H k n b v) := rfl
@[simp] theorem frz_slc (i L off q : Nat) (c : Option Nat) : frz H k (n + 1) b (.slc i L off q c) =
    if i < k then (if b then .slc i L off q c else .und)
    else match live? H i L with
      | some o => match o.vir with
        | some true => .imm true none o.sz []
        | some false => .imm false (some 0) o.sz []
        | none => if off + q ≤ L then .imm false c o.sz ((if off = 0 ∧ q = L then o.es else (o.es.drop off).take q).map (frz H k n false)) else .und
      | none => .und := rfl
@[simp] theorem frz_ptr (i L q f : Nat) : frz H k (n + 1) b (.ptr i L q f) =
    if i < k then (if b then .ptr i L q f else .und)
    else match live? H i L with
      | some o => if o.vir = none then match o.es[q]? with
          | some e => .ipt (frz H k n false e) f
          | none => .und
        else .und
      | none => .und := rfl
@[simp] theorem frz_I : frz H k n b ∘ I = I := by funext x; exact frz_sc _
@[simp] theorem frz_ints (xs : List Int) : (xs.map I).map (frz H k n b) = xs.map I := by rw [List.map_map, frz_I]
end
@[simp] theorem allOneCell_nil (sz : Nat) : allOneCell sz [] = true := rfl
@[simp] theorem allOneCell_cons (sz : Nat) (x : AV) (l : List AV) : allOneCell sz (x :: l) = (okEl sz x && allOneCell sz l) := by simp [allOneCell]
@[simp] theorem allOneCell_append (sz : Nat) (l r : List AV) : allOneCell sz (l ++ r) = (allOneCell sz l && allOneCell sz r) := by simp [allOneCell]
@[simp] theorem allOneCell_ints (l : List Int) : allOneCell 1 (l.map I) = true := by simp [allOneCell, okEl, cellsOf, oneC]
@[simp] theorem allOneCell_rep (sz n : Nat) (x : AV) (h : okEl sz x = true) : allOneCell sz (List.replicate n x) = true := by
  simp only [allOneCell, List.all_replicate, h]
  simp
@[simp] theorem noRefs_ints (l : List Int) : noRefs (l.map I) = true := by induction l <;> simp_all [noRefs, noRef]
theorem elems_imm {sz sz' : Nat} {H : List AObj} {nl : Bool} {c : Option Nat} {xs : List AV} (h : nl = true ∨ sz' = sz) : elems sz H (.imm nl c sz' xs) = some xs := by simp [elems, h]
@[simp] theorem elems_imm1 {sz : Nat} {H : List AObj} {nl : Bool} {c : Option Nat} {xs : List AV} : elems sz H (.imm nl c sz xs) = some xs := by simp [elems]
@[simp] theorem elems_nil {sz sz' : Nat} {H : List AObj} {c : Option Nat} {xs : List AV} : elems sz H (.imm true c sz' xs) = some xs := by simp [elems]
attribute [simp] kWp_eq fillParts setAll setPart resVal shv shH evK putD AX.ev qSeq qBlock bodyQ binEv live? partOf cellsOf bound? okEl noRef noRefs tupV
@[simp] theorem oneC_sc (v : Value) : oneC (.sc v) = true := rfl
@[simp] theorem oneC_imm (nl : Bool) (c : Option Nat) (sz : Nat) (xs : List AV) : oneC (.imm nl c sz xs) = true := rfl
@[simp] theorem oneC_slc (i L off n : Nat) (c : Option Nat) : oneC (.slc i L off n c) = true := rfl
@[simp] theorem oneC_ptr (i L k f : Nat) : oneC (.ptr i L k f) = true := rfl
@[simp] theorem oneC_ipt (e : AV) (f : Nat) : oneC (.ipt e f) = true := rfl
@[simp] theorem oneC_fn (f : Fn) (a b : List AV) : oneC (.fn f a b) = true := rfl
@[simp] theorem oneC_ifc (t : TypeId) (v : AV) : oneC (.ifc t v) = true := rfl
@[simp] theorem oneC_agg (cs : List AV) : oneC (.agg cs) = false := rfl
@[simp] theorem oneC_tup (cs : List AV) : oneC (.tup cs) = false := rfl
@[simp] theorem oneC_und : oneC .und = false := rfl
theorem wrap_i64 {n : Int} (h1 : -9223372036854775808 ≤ n) (h2 : n ≤ 9223372036854775807) : IntKind.i64.wrap n = n := by
  have e : IntKind.i64.wrap n = if (n % 18446744073709551616) ≥ 9223372036854775808 then n % 18446744073709551616 - 18446744073709551616 else n % 18446744073709551616 := by
    unfold IntKind.wrap
    simp [IntKind.bits, IntKind.signed]
  rw [e]
  split <;> omega
theorem wrap_u64 {n : Int} (h1 : 0 ≤ n) (h2 : n ≤ 18446744073709551615) : IntKind.u64.wrap n = n := by
  unfold IntKind.wrap
  simp only [IntKind.bits, IntKind.signed, Bool.false_and]
  simp
  omega
def ISl (a : AV) (xs : List Int) : Prop :=
  (∃ nl c sz, a = .imm nl c sz (xs.map I) ∧ ((nl = true → xs = []) ∧ (nl = false → sz = 1))) ∧ xs.length ≤ 9223372036854775807 ∧ ∀ x ∈ xs, -9223372036854775808 ≤ x ∧ x ≤ 9223372036854775807
theorem sz_of {nl : Bool} {xs : List Int} {sz i : Nat} (hs : (nl = true → xs = []) ∧ (nl = false → sz = 1)) (h : i < xs.length) : sz = 1 := by
  cases nl with
  | true => have := hs.1 rfl; subst this; simp at h
  | false => exact hs.2 rfl
theorem elems_of {nl : Bool} {c : Option Nat} {xs : List Int} {sz : Nat} (H : List AObj) (hs : (nl = true → xs = []) ∧ (nl = false → sz = 1)) : elems 1 H (.imm nl c sz (xs.map I)) = some (xs.map I) := by
  cases nl with
  | true => simp [elems]
  | false => simp [elems, hs.2 rfl]
end Go.Fw
/- From contracts to the claims' form: what is handed in is read as immutable values. -/
namespace Go.Fw
open Go Go.RowKit
def m0 : BM := { pl := fun _ => (0, 0), x := fun _ => False }
theorem rel0 (W : World) : Rel W.heap.size W m0 [] W :=
  ⟨⟨rfl, rfl, rfl, Nat.le_refl _, fun _ _ => rfl⟩, Nat.le_refl _, fun i o h => by simp at h, fun i o h => by simp at h, (by rintro i ⟨o, h, _⟩; simp at h), fun i o h => by simp at h, (by rintro i i' ⟨o, h, _⟩; simp at h), fun _ h => h.elim⟩
theorem nowr0 (b : Nat) : ¬ Wr m0 [] b := by
  rintro (h | ⟨i, ⟨o, h, _⟩, _⟩)
  · exact h
  · simp at h
theorem ACalls.told {P : Program} {f : FuncId} {avs : List AV} {v : Value} (h : ACalls P f avs [] fun r G => G = [] ∧ r = .sc v) {W : World} {args : Array Value} (ha : RVs W m0 [] avs args) :
    Calls P f args W fun e W' => e = .returned v ∧ Below W.heap.size W W' := by
  refine (h.2 W.heap.size W m0 W args (rel0 W) ha).mono ?_
  rintro e W' ⟨u, q, m', H', rfl, t, r, hr, rfl, rfl⟩
  exact ⟨by rw [hr.sc_inv.1], r.below⟩
theorem RVs.nil {W : World} {m : BM} {H : List AObj} : RVs W m H [] #[] := ⟨rfl, fun j h => by simp at h⟩
theorem RVs.cons {W : World} {m : BM} {H : List AObj} {a : AV} {as : List AV} {v : Value} {vs : List Value} (h : RV W m H a v) (t : RVs W m H as vs.toArray) : RVs W m H (a :: as) (v :: vs).toArray := by
  refine ⟨by have := t.1; simp at this ⊢; exact this, fun j h1 h2 => ?_⟩
  cases j with
  | zero => exact h
  | succ j => exact t.2 j (by simpa using h1) (by simpa using h2)
theorem row_rv {W : World} {a : Option Addr} {len cap : Nat} {zs : List Int} (h : (a = none ∧ len = 0 ∧ cap = 0 ∧ zs = []) ∨
    ∃ x, a = some x ∧ len ≤ cap ∧ cap ≤ 9223372036854775807 ∧ zs.length = cap ∧ (∀ i, i < zs.length → W.cell? (x.add i) = some (.int .i64 (zs.getD i 0))) ∧ ∀ n ∈ zs, -9223372036854775808 ≤ n ∧ n ≤ 9223372036854775807) :
    ∃ av, RV W m0 [] av (.slice a len cap) ∧ ISl av (zs.take len) := by
  rcases h with ⟨rfl, rfl, rfl, rfl⟩ | ⟨x, rfl, hl, hc, hz, hcell, hr⟩
  · exact ⟨.imm true none 0 [], .ri (.nil _ _), ⟨⟨true, none, 0, rfl, by simp, by simp⟩, by simp, by simp⟩⟩
  · have hlen : (zs.take len).length = len := by simp; omega
    refine ⟨.imm false none 1 ((zs.take len).map I), .ri ?_, ⟨⟨false, none, 1, rfl, by simp, by simp⟩, by omega, fun n hn => hr n (List.mem_of_mem_take hn)⟩⟩
    refine .imm (fun k _ => .int .i64 (zs.getD k 0)) (by simpa using hlen) hl (fun k e => by cases e) (fun k j hk hj => ?_) (fun k hk => by simp [cellsOf]) (fun k j hk hj => ?_)
    · have : j = 0 := by omega
      subst this
      rw [Nat.mul_one, Nat.add_zero]
      exact ⟨hcell k (by omega), nowr0 _⟩
    · have hk' : k < zs.length := by simp at hk; omega
      have hj0 : j = 0 := by simp [cellsOf] at hj; exact hj
      subst hj0
      have e : (cellsOf ((zs.take len).map I)[k])[0]'hj = I zs[k] := by simp [cellsOf]
      rw [e]
      have e2 : zs.getD k 0 = zs[k] := by simp [List.getD, hk']
      rw [e2]
      exact .sc _ rfl
end Go.Fw
/- What is handed in, of any type built of whole numbers, bools, strings, slices and structs, read as immutable values. -/
namespace Go.Fw
open Go Go.RowKit Go.ChangeShapes Go.WideShapes
inductive Ty where
  | int (k : IntKind)
  | bool
  | str
  | sl (e : Ty)
  | st (fs : List Ty)
mutual
def Ty.sz : Ty → Nat
  | .st fs => Ty.szs fs
  | _ => 1
def Ty.szs : List Ty → Nat
  | [] => 0
  | t :: r => Ty.sz t + Ty.szs r
end
mutual
def tyOk (P : Program) : Ty → TypeId → Bool
  | .int k, t => match P.underlying t with
    | some (.int k') => decide (k' = k)
    | _ => false
  | .bool, t => match P.underlying t with
    | some .bool => true
    | _ => false
  | .str, t => match P.underlying t with
    | some .string => true
    | _ => false
  | .sl e, t => match P.underlying t with
    | some (.slice te) => decide (P.cellsOf te = e.sz) && decide (0 < P.bytesOf te) && tyOk P e te
    | _ => false
  | .st fs, t => match P.underlying t with
    | some (.struct fl) => decide (P.cellsOf t = Ty.szs fs) && fieldsOk P fs fl.toList 0
    | _ => false
def fieldsOk (P : Program) : List Ty → List Field → Nat → Bool
  | [], [], _ => true
  | ty :: r, f :: q, off => decide (f.offset = off) && decide (P.cellsOf f.type = ty.sz) && tyOk P ty f.type && fieldsOk P r q (off + ty.sz)
  | _, _, _ => false
end
def wrapT : Ty → List AV → AV
  | .st _, as => .agg as
  | _, as => as.headD .und
mutual
def Fits : Ty → List AV → Prop
  | .int k, as => ∃ n, as = [.sc (.int k n)] ∧ (Lit.int k n).wf = true
  | .bool, as => ∃ b, as = [Bo b]
  | .str, as => ∃ s : ByteArray, as = [.sc (.string s)] ∧ s.size ≤ reachBytes
  | .sl e, as => ∃ nl c sz xs, as = [.imm nl c sz xs] ∧ (nl = true → xs = []) ∧ (nl = false → sz = e.sz) ∧ xs.length ≤ reachBytes ∧ ∀ x ∈ xs, ∃ cs, x = wrapT e cs ∧ Fits e cs
  | .st fs, as => FitsL fs as
def FitsL : List Ty → List AV → Prop
  | [], as => as = []
  | ty :: r, as => ∃ a b, as = a ++ b ∧ Fits ty a ∧ FitsL r b
end
mutual
theorem Fits.len : ∀ {ty : Ty} {as : List AV}, Fits ty as → as.length = ty.sz
  | .int k, as, h => by simp only [Fits] at h; obtain ⟨n, rfl, _⟩ := h; rfl
  | .bool, as, h => by simp only [Fits] at h; obtain ⟨n, rfl⟩ := h; rfl
  | .str, as, h => by simp only [Fits] at h; obtain ⟨n, rfl, _⟩ := h; rfl
  | .sl e, as, h => by simp only [Fits] at h; obtain ⟨_, _, _, _, rfl, _⟩ := h; rfl
  | .st fs, as, h => by simp only [Fits] at h; simp only [Ty.sz]; exact FitsL.len h
theorem FitsL.len : ∀ {tys : List Ty} {as : List AV}, FitsL tys as → as.length = Ty.szs tys
  | [], as, h => by simp only [FitsL] at h; subst h; rfl
  | ty :: r, as, h => by
    simp only [FitsL] at h
    obtain ⟨a, b, rfl, ha, hb⟩ := h
    simp only [Ty.szs, List.length_append, Fits.len ha, FitsL.len hb]
end
theorem Fits.cells {ty : Ty} {as : List AV} (h : Fits ty as) : cellsOf (wrapT ty as) = as := by
  cases ty <;> simp only [Fits] at h
  · obtain ⟨n, rfl, _⟩ := h; rfl
  · obtain ⟨n, rfl⟩ := h; rfl
  · obtain ⟨n, rfl, _⟩ := h; rfl
  · obtain ⟨_, _, _, _, rfl, _⟩ := h; rfl
  · rfl
theorem choose_list {α : Type} {Q : Nat → α → Prop} : ∀ (n : Nat), (∀ i, i < n → ∃ x, Q i x) → ∃ xs : List α, xs.length = n ∧ ∀ i (h : i < xs.length), Q i xs[i]
  | 0, _ => ⟨[], rfl, fun i h => by simp at h⟩
  | n + 1, h => by
    obtain ⟨xs, hl, hq⟩ := choose_list n fun i hi => h i (by omega)
    obtain ⟨x, hx⟩ := h n (by omega)
    refine ⟨xs ++ [x], by simp [hl], fun i hi => ?_⟩
    by_cases h' : i < xs.length
    · rw [List.getElem_append_left h']; exact hq i h'
    · have : i = n := by simp at hi; omega
      subst this
      rw [List.getElem_append_right (by omega)]
      simpa [hl] using hx
section
variable {H : Type} {enc : TypeId × Value → H} {P : Program} {w : World} {base : Nat} {spare : Nat → Bool} {held : Bool}
theorem open_fields {Wr0 : Nat → Prop} {n : Nat} {cs : List Value}
    (ih : ∀ (ty : Ty) (t : TypeId) (cs : List Value) (y : DataW H × List MemPlace), DataW.trod enc P w base spare held n t cs = some y → (∀ k ∈ y.1.weights P t, k ≤ reachBytes) → tyOk P ty t = true →
      ∃ as, Fits ty as ∧ as.length = cs.length ∧ ∀ j (h : j < as.length) (h' : j < cs.length), RI w Wr0 as[j] cs[j]) :
    ∀ (tys : List Ty) (fl : List Field) (off : Nat), fieldsOk P tys fl off = true → off + Ty.szs tys = cs.length →
      (∀ f ∈ fl, ∃ y, DataW.trod enc P w base spare held n f.type ((cs.drop f.offset).take (P.cellsOf f.type)) = some y ∧ ∀ k ∈ y.1.weights P f.type, k ≤ reachBytes) →
      ∃ as, FitsL tys as ∧ as.length = Ty.szs tys ∧ ∀ j (h : j < as.length) (h' : off + j < cs.length), RI w Wr0 as[j] cs[off + j]
  | [], [], off, _, _, _ => ⟨[], rfl, rfl, fun j h => by simp at h⟩
  | [], _ :: _, off, h, _, _ => by simp [fieldsOk] at h
  | _ :: _, [], off, h, _, _ => by simp [fieldsOk] at h
  | ty :: r, f :: q, off, h, hl, hy => by
    simp only [fieldsOk, Bool.and_eq_true, decide_eq_true_eq] at h
    obtain ⟨⟨⟨h1, h2⟩, h3⟩, h4⟩ := h
    simp only [Ty.szs] at hl
    obtain ⟨y, hy1, hyw⟩ := hy f (by simp)
    rw [h1, h2] at hy1
    obtain ⟨a, fa, la, ra⟩ := ih ty f.type _ y hy1 hyw h3
    obtain ⟨b, fb, lb, rb⟩ := open_fields ih r q (off + ty.sz) h4 (by omega) fun g hg => hy g (by simp [hg])
    have la' : a.length = ty.sz := Fits.len fa
    refine ⟨a ++ b, by simp only [FitsL]; exact ⟨a, b, rfl, fa, fb⟩, by simp [Ty.szs, la', lb], fun j hj hj' => ?_⟩
    by_cases hja : j < a.length
    · rw [List.getElem_append_left hja]
      have := ra j hja (by omega)
      simpa using this
    · rw [List.getElem_append_right (by omega)]
      have hlen : j - a.length < b.length := by simp at hj; omega
      have := rb (j - a.length) hlen (by omega)
      have e : off + ty.sz + (j - a.length) = off + j := by omega
      simpa only [e] using this
theorem open_cells {Wr0 : Nat → Prop} (hW : ∀ b, ¬ Wr0 b) : ∀ (fuel : Nat) (ty : Ty) (t : TypeId) (cs : List Value) (y : DataW H × List MemPlace),
    DataW.trod enc P w base spare held fuel t cs = some y → (∀ k ∈ y.1.weights P t, k ≤ reachBytes) → tyOk P ty t = true →
    ∃ as, Fits ty as ∧ as.length = cs.length ∧ ∀ j (h : j < as.length) (h' : j < cs.length), RI w Wr0 as[j] cs[j]
  | 0, ty, t, cs, y, h, _, _ => by simp [DataW.trod] at h
  | n + 1, .int k, t, cs, y, h, hws, ht => by
    simp only [tyOk] at ht
    split at ht
    · rename_i k' hu
      obtain ⟨m, rfl, _, hw⟩ := DataW.trod_int hu h
      simp only [decide_eq_true_eq] at ht
      subst ht
      exact ⟨[.sc (.int k' m)], by simp only [Fits]; exact ⟨m, rfl, hw⟩, rfl, fun j h1 h2 => by
        have : j = 0 := by simp at h1; exact h1
        subst this; exact .sc _ rfl⟩
    · cases ht
  | n + 1, .bool, t, cs, y, h, hws, ht => by
    simp only [tyOk] at ht
    split at ht
    · rename_i hu
      obtain ⟨b, rfl, _⟩ := DataW.trod_bool hu h
      exact ⟨[Bo b], by simp only [Fits]; exact ⟨b, rfl⟩, rfl, fun j h1 h2 => by
        have : j = 0 := by simp at h1; exact h1
        subst this; exact .sc _ rfl⟩
    · cases ht
  | n + 1, .str, t, cs, y, h, hws, ht => by
    simp only [tyOk] at ht
    split at ht
    · rename_i hu
      obtain ⟨b, rfl, hy0, _⟩ := DataW.trod_string hu h
      have hs : b.size ≤ reachBytes := by
        subst hy0
        have := hws b.data.toList.length (by simp [DataW.weights])
        rw [Array.length_toList] at this
        exact this
      exact ⟨[.sc (.string b)], by simp only [Fits]; exact ⟨b, rfl, hs⟩, rfl, fun j h1 h2 => by
        have : j = 0 := by simp at h1; exact h1
        subst this; exact .sc _ rfl⟩
    · cases ht
  | n + 1, .sl e, t, cs, y, h, hws, ht => by
    simp only [tyOk] at ht
    split at ht
    · rename_i te hu
      simp only [Bool.and_eq_true, decide_eq_true_eq] at ht
      obtain ⟨⟨hc, hby⟩, he⟩ := ht
      rcases DataW.trod_slice hu h with ⟨rfl, _⟩ | ⟨a, len, cap, elems, rest, m, hm, rfl, rfl, hb, hl, hcap, hlen, hel, _, _⟩
      · exact ⟨[.imm true none 0 []], by simp only [Fits]; exact ⟨true, none, 0, [], rfl, by simp, by simp, Nat.zero_le _, by simp⟩, rfl, fun j h1 h2 => by
          have : j = 0 := by simp at h1; exact h1
          subst this; exact .nil _ _⟩
      · obtain rfl : n = m := by omega
        have hw0 : (elems.length + rest.length) * P.bytesOf te ≤ reachBytes := hws _ (by simp [DataW.weights, hu])
        have hreach : len ≤ reachBytes := by
          have h1 := Nat.mul_le_mul_left (elems.length + rest.length) hby
          omega
        have hwe : ∀ i (hi : i < elems.length), ∀ k ∈ (elems[i]).1.weights P te, k ≤ reachBytes := fun i hi k hk => by
          refine hws k ?_
          simp only [DataW.weights, hu, List.mem_cons, List.mem_append]
          refine .inr (.inl ?_)
          have hall : ∀ (l : List (DataW H)) (x : DataW H), x ∈ l → ∀ k ∈ x.weights P te, k ∈ DataW.weightsAll P te l := by
            intro l
            induction l with
            | nil => intro x hx; simp at hx
            | cons y l ih =>
              intro x hx k hk
              simp only [DataW.weightsAll, List.mem_append]
              rcases List.mem_cons.1 hx with rfl | h
              · exact .inl hk
              · exact .inr (ih x h k hk)
          exact hall _ _ (List.mem_map.2 ⟨_, List.getElem_mem hi, rfl⟩) k hk
        have each : ∀ i, i < len → ∃ p : List AV × List Value, Fits e p.1 ∧ p.1.length = p.2.length ∧ (∀ j (h : j < p.1.length) (h' : j < p.2.length), RI w Wr0 p.1[j] p.2[j]) ∧
            p.2.length = e.sz ∧ ∀ j, j < e.sz → w.cell? (a.add (i * e.sz + j)) = p.2[j]? := by
          intro i hi
          have h1 := hel i hi
          rw [List.getElem?_eq_getElem (by omega), Option.bind_eq_some_iff] at h1
          obtain ⟨cs, hcs, hy⟩ := h1
          obtain ⟨as, fa, la, ra⟩ := open_cells hW n e te cs _ hy (hwe i (by omega)) he
          obtain ⟨_, h2, h3⟩ := World.cells?_some hcs
          rw [hc] at h2 h3
          refine ⟨(as, cs), fa, la, ra, h2, fun j hj => ?_⟩
          rw [← h3 j hj, add_add]
        obtain ⟨ps, hps, hq⟩ := choose_list len each
        refine ⟨[.imm false none e.sz (ps.map fun p => wrapT e p.1)], ?_, rfl, fun j h1 h2 => ?_⟩
        · simp only [Fits]
          refine ⟨false, none, e.sz, _, rfl, by simp, by simp, by simp only [List.length_map]; omega, fun x hx => ?_⟩
          obtain ⟨p, hp, rfl⟩ := List.mem_map.1 hx
          obtain ⟨i, hi, rfl⟩ := List.getElem_of_mem hp
          exact ⟨_, rfl, (hq i hi).1⟩
        · have : j = 0 := by simp at h1; exact h1
          subst this
          have hcell : ∀ k (hk : k < ps.length), cellsOf (wrapT e (ps[k]'hk).1) = (ps[k]'hk).1 := fun k hk => (hq k hk).1.cells
          refine .imm (fun k j => (w.cell? (a.add (k * e.sz + j))).getD default) (by simp [hps]) hl (fun k h => by cases h) (fun k j hk hj => ⟨?_, hW _⟩) (fun k hk => ?_) (fun k j hk hj => ?_)
          · have hk' : k < ps.length := by omega
            obtain ⟨_, _, _, q4, q5⟩ := hq k hk'
            rw [q5 j hj, List.getElem?_eq_getElem (by omega)]; rfl
          · have hk' : k < ps.length := by simpa using hk
            simp only [List.getElem_map]
            rw [hcell k hk', (hq k hk').1.len]
          · have hk' : k < ps.length := by simpa using hk
            obtain ⟨q1, q2, q3, q4, q5⟩ := hq k hk'
            have e0 : cellsOf ((ps.map fun p => wrapT e p.1)[k]'hk) = (ps[k]'hk').1 := by rw [List.getElem_map]; exact hcell k hk'
            have hj' : j < (ps[k]'hk').1.length := by have := hj; rw [e0] at this; exact this
            have hj2 : j < (ps[k]'hk').2.length := by omega
            have e1 : (cellsOf ((ps.map fun p => wrapT e p.1)[k]'hk))[j]'hj = (ps[k]'hk').1[j]'hj' := by
              simp only [e0]
            rw [e1, q5 j (by omega), List.getElem?_eq_getElem hj2]
            exact q3 j hj' hj2
    · cases ht
  | n + 1, .st fs, t, cs, y, h, hws, ht => by
    simp only [tyOk] at ht
    split at ht
    · rename_i fl hu
      simp only [Bool.and_eq_true, decide_eq_true_eq] at ht
      obtain ⟨hc, he⟩ := ht
      obtain ⟨xs, m, hm, hy0, hl, hlen, hf⟩ := DataW.trod_struct hu h
      obtain rfl : n = m := by omega
      obtain ⟨as, fa, la, ra⟩ := open_fields (cs := cs) (fun ty t cs y => open_cells hW n ty t cs y) fs fl.toList 0 he (by omega) fun f hf' => by
        obtain ⟨i, hi, rfl⟩ := List.getElem_of_mem hf'
        have hi' : i < fl.size := by simpa using hi
        have := hf i fl[i] (by simp [hi'])
        rw [List.getElem?_eq_getElem (by omega)] at this
        refine ⟨_, by simpa using this, fun k hk => hws k ?_⟩
        subst hy0
        simp only [DataW.weights, hu]
        exact DataW.weights_mem_each (j := i) (t := fl.toList[i].type) (d := (xs[i]'(by omega)).1) (by simp [hi']) (by simp [show i < xs.length by omega]) k hk
      refine ⟨as, by simp only [Fits]; exact fa, by omega, fun j h1 h2 => ?_⟩
      have := ra j h1 (by omega)
      simpa using this
    · cases ht
theorem open_any {W : World} {r : Reach} {b : Nat} {ty : Ty} {t : TypeId} {v : Value} {d : DataW H} {ps : List MemPlace} (hty : tyOk P ty t = true) (hval : Value.okWide P W r b t v)
    (h : DataW.Trod enc P w base spare held t v d ps) (hws : ∀ k ∈ d.weights P t, k ≤ reachBytes) : ∃ as, RV w m0 [] (wrapT ty as) v ∧ Fits ty as := by
  obtain ⟨fuel, hf⟩ := h
  obtain ⟨as, fa, la, ra⟩ := open_cells (Wr0 := Wr m0 []) nowr0 fuel ty t _ _ hf hws hty
  refine ⟨as, .ri ?_, fa⟩
  have one : v.cells.toList = [v] → (∀ fs, ty ≠ .st fs) → RI w (Wr m0 []) (wrapT ty as) v := by
    intro h1 h2
    simp only [h1] at la ra
    obtain ⟨a, rfl⟩ := List.length_eq_one_iff.1 la
    have e : wrapT ty [a] = a := by
      cases ty with
      | st fs => exact absurd rfl (h2 fs)
      | _ => rfl
    rw [e]
    exact ra 0 (by simp) (by simp)
  cases ty with
  | int k =>
    simp only [tyOk] at hty
    split at hty
    · rename_i k' hu
      obtain ⟨n, rfl⟩ := okWide_int hu hval
      exact one rfl (by simp)
    · cases hty
  | bool =>
    simp only [tyOk] at hty
    split at hty
    · rename_i hu
      obtain ⟨n, rfl⟩ := okWide_bool hu hval
      exact one rfl (by simp)
    · cases hty
  | str =>
    simp only [tyOk] at hty
    split at hty
    · rename_i hu
      obtain ⟨n, rfl⟩ := okWide_string hu hval
      exact one rfl (by simp)
    · cases hty
  | sl e =>
    simp only [tyOk] at hty
    split at hty
    · rename_i te hu
      obtain ⟨a, l, c, rfl⟩ := okWide_slice hu hval
      exact one rfl (by simp)
    · cases hty
  | st fs =>
    simp only [tyOk] at hty
    split at hty
    · rename_i fl hu
      obtain ⟨cs, rfl, _⟩ := okWide_struct hu hval
      exact .agg (by simpa [Value.cells] using la) fun j h1 h2 => by
        have := ra j h1 (by simpa [Value.cells] using h2)
        simpa [Value.cells] using this
    · cases hty
def tysOk (P : Program) : List Ty → List TypeId → Bool
  | [], [] => true
  | ty :: r, t :: q => tyOk P ty t && tysOk P r q
  | _, _ => false
inductive Args : List Ty → List AV → Prop
  | nil : Args [] []
  | cons {ty : Ty} {r : List Ty} {as : List AV} {q : List AV} (h : Fits ty as) (t : Args r q) : Args (ty :: r) (wrapT ty as :: q)
theorem openAll {W : World} {r : Reach} {b : Nat} : ∀ {tys : List Ty} {ts : List TypeId} {vs : List Value} {ds : List (DataW H)} {ps : List MemPlace}, DataW.TrodAll enc P w base spare held ts vs ds ps → tysOk P tys ts = true →
    (∀ (j : Nat) t v, ts[j]? = some t → vs[j]? = some v → Value.okWide P W r b t v) → (∀ (j : Nat) t (d : DataW H), ts[j]? = some t → ds[j]? = some d → ∀ k ∈ d.weights P t, k ≤ reachBytes) → ∃ avs, RVs w m0 [] avs vs.toArray ∧ Args tys avs
  | [], [], [], _, _, _, _, _, _ => ⟨[], .nil, .nil⟩
  | [], [], _ :: _, [], _, h, _, _, _ => h.elim
  | [], [], _ :: _, _ :: _, _, h, _, _, _ => h.elim
  | [], _ :: _, _, _, _, _, h, _, _ => by simp [tysOk] at h
  | _ :: _, [], _, _, _, _, h, _, _ => by simp [tysOk] at h
  | _ :: _, _ :: _, [], _, _, h, _, _, _ => h.elim
  | _ :: _, _ :: _, _ :: _, [], _, h, _, _, _ => h.elim
  | ty :: tys, t :: ts, v :: vs, d :: ds, ps, h, ht, hv, hw => by
    simp only [tysOk, Bool.and_eq_true] at ht
    obtain ⟨p, q, h1, h2, _⟩ := h
    obtain ⟨as, ra, fa⟩ := open_any ht.1 (hv 0 t v rfl rfl) h1 (hw 0 t d rfl rfl)
    obtain ⟨avs, rs, fs⟩ := openAll h2 ht.2 (fun j t v ht hv' => hv (j + 1) t v ht hv') fun j t d ht hd => hw (j + 1) t d ht hd
    exact ⟨_, .cons ra rs, .cons fa fs⟩
theorem sizedAll {ts us : List TypeId} {ds gs : List (DataW H)} (h : (DataW.weightsEach P (ts ++ us) (ds ++ gs)).all (· ≤ reachBytes) = true) :
    ∀ (j : Nat) t (d : DataW H), ts[j]? = some t → ds[j]? = some d → ∀ k ∈ d.weights P t, k ≤ reachBytes := fun j t d ht hd k hk => by
  have := List.all_eq_true.1 h k (DataW.weights_mem_each (j := j) (t := t) (d := d) (by rw [List.getElem?_append_left (List.getElem?_eq_some_iff.1 ht).1]; exact ht) (by rw [List.getElem?_append_left (List.getElem?_eq_some_iff.1 hd).1]; exact hd) k hk)
  simpa using this
theorem backAll {W W' : World} (hl : laidOutB P = true) (hb : Below W.heap.size W W') : ∀ {ts : List TypeId} {vs : List Value} {ds : List (DataW H)} {ps : List MemPlace},
    (ts.all fun t => P.readableRec t && decide (t < P.types.size)) = true → DataW.TrodAll enc P W 0 (fun _ => true) true ts vs ds ps → DataW.TrodAll enc P W' 0 (fun b => decide (b < W.heap.size)) true ts vs ds ps
  | [], [], [], _, _, h => h
  | [], _ :: _, [], _, _, h => h.elim
  | [], _, _ :: _, _, _, h => by cases ‹List Value› <;> exact h.elim
  | _ :: _, [], _, _, _, h => h.elim
  | _ :: _, _ :: _, [], _, _, h => h.elim
  | t :: ts, v :: vs, d :: ds, ps, ht, h => by
    simp only [List.all_cons, Bool.and_eq_true, decide_eq_true_eq] at ht
    obtain ⟨p, q, h1, h2, rfl⟩ := h
    have lt : ∀ x ∈ p, x.block < W.heap.size := by obtain ⟨m, hm⟩ := h1; exact DataW.trod_lt m _ _ _ hm
    exact ⟨p, q, Below.trod hl ht.1.1 ht.1.2 h1 hb lt, backAll hl hb (by simpa using ht.2) h2, rfl⟩
end
theorem Fits.ints {as : List AV} (h : Fits (.sl (.int .i64)) as) : ∃ a xs, as = [a] ∧ ISl a xs := by
  simp only [Fits] at h
  obtain ⟨nl, c, sz, xs, rfl, h1, h2, h3, h4⟩ := h
  have : ∃ zs : List Int, xs = zs.map I ∧ ∀ z ∈ zs, -9223372036854775808 ≤ z ∧ z ≤ 9223372036854775807 := by
    clear h1 h2 h3
    induction xs with
    | nil => exact ⟨[], rfl, by simp⟩
    | cons x xs ih =>
      obtain ⟨zs, rfl, hz⟩ := ih fun x hx => h4 x (by simp [hx])
      obtain ⟨cs, rfl, n, rfl, hw⟩ := h4 x (by simp)
      refine ⟨n :: zs, rfl, fun z hz' => ?_⟩
      rcases List.mem_cons.1 hz' with rfl | h
      · simp [Lit.wf, IntKind.min, IntKind.max, IntKind.signed, IntKind.bits] at hw
        omega
      · exact hz z h
  obtain ⟨zs, rfl, hz⟩ := this
  exact ⟨_, zs, rfl, ⟨nl, c, sz, rfl, fun h => by simpa using h1 h, fun h => h2 h⟩, by rw [List.length_map] at h3; exact Nat.le_trans h3 (by decide), hz⟩
theorem Fits.int {as : List AV} (h : Fits (.int .i64) as) : ∃ n, as = [I n] ∧ -9223372036854775808 ≤ n ∧ n ≤ 9223372036854775807 := by
  simp only [Fits] at h
  obtain ⟨n, rfl, hw⟩ := h
  simp [Lit.wf, IntKind.min, IntKind.max, IntKind.signed, IntKind.bits] at hw
  exact ⟨n, rfl, by omega, by omega⟩
end Go.Fw
