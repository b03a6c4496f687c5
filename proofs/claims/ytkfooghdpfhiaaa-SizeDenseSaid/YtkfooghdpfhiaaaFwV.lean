/- For contracts: functions by their number, and what the steps are reckoned with. -/
import Derived.Test.YtkfooghdpfhiaaaFwU
namespace Go.Fw
open Go Go.RowKit

section
variable {P : Program}
theorem ACalls.of_fn {own : List Nat} {f : FuncId} {fn : Func} {ac : AC} {rs : List ARes} {args : List AV} {H : List AObj} {R : AV → List AObj → Prop} (hfn : P.funcs[f]? = some fn) (hname : (fn.name == "runtime.NumGoroutine") = false)
    (htr : fn.body.bind (trC P own) = some ac) (hrs : fn.results.toList.mapM (trRes P) = some rs) {n : Nat} (hn : fn.ntmps = n)
    (h : AWp P own H.length ac (bodyQ H.length rs R) (args ++ List.replicate (n - args.length) .und) H) : ACalls P f args H R := by
  obtain ⟨c, hb, hc⟩ := Option.bind_eq_some_iff.1 htr
  subst hn
  exact ACalls.of_body hfn hname hb hc hrs h

/-- What is returned, as it stands. -/
theorem retOk.of {nb : Nat} {rs : List ARes} {R : AV → List AObj → Prop} {fr : List AV} {H : List AObj} {vs : List AV} (h : rs.mapM (resVal fr H) = some vs) (hR : R (tupV vs) H) : retOk nb rs R fr H :=
  ⟨vs, _, H, h, Weak.refl _ _ _, hR⟩

theorem kWp_k {k : AK} {d : Option Nat} {next : List AV → List AObj → Prop} {fr : List AV} {H : List AObj} {v : AV} {H' : List AObj} (h : evK k fr H = some (v, H')) (hn : next (putD fr d v) H') : kWp P (.k k) d next fr H := ⟨v, H', h, hn⟩

theorem kWp_eq {k : AK} {d : Option Nat} {next : List AV → List AObj → Prop} {fr : List AV} {H : List AObj} :
    kWp P (.k k) d next fr H = match evK k fr H with
      | some (v, H') => next (putD fr d v) H'
      | none => False := by
  apply propext
  simp only [kWp]
  constructor
  · rintro ⟨v, H', h, hn⟩; rw [h]; exact hn
  · intro h
    cases he : evK k fr H with
    | none => rw [he] at h; exact h.elim
    | some p => rw [he] at h; exact ⟨p.1, p.2, rfl, h⟩

@[simp] theorem opsWp_nil {next : List AV → List AObj → Prop} {fr : List AV} {H : List AObj} : opsWp P [] next fr H = next fr H := rfl
@[simp] theorem opsWp_cons {o : AOp} {l : List AOp} {next : List AV → List AObj → Prop} {fr : List AV} {H : List AObj} : opsWp P (o :: l) next fr H = opWp P o (opsWp P l next) fr H := rfl
@[simp] theorem opWp_plain {d : Option Nat} {k : AKK} {next : List AV → List AObj → Prop} {fr : List AV} {H : List AObj} : opWp P ⟨d, none, k⟩ next fr H = kWp P k d next fr H := rfl
@[simp] theorem opWp_guard {d : Option Nat} {t : Nat} {b : Bool} {k : AKK} {next : List AV → List AObj → Prop} {fr : List AV} {H : List AObj} :
    opWp P ⟨d, some (t, b), k⟩ next fr H = match fr.getD t .und with
      | .sc (.bool c) => if c = b then kWp P k d next fr H else next (putD fr d (.tup [])) H
      | .tup [] => next (putD fr d (.tup [])) H
      | _ => False := rfl
/-- What comes behind a call is left alone until the call has told what it comes to. -/
inductive Kb (next : List AV → List AObj → Prop) (d : Option Nat) (fr : List AV) : Type
  | mk
def Kp (next : List AV → List AObj → Prop) (d : Option Nat) (fr : List AV) (_ : Kb next d fr) (r : AV) (H' : List AObj) : Prop := next (putD fr d r) H'
@[simp] theorem Kp_eq {next : List AV → List AObj → Prop} {d : Option Nat} {fr : List AV} {b : Kb next d fr} {r : AV} {H' : List AObj} : Kp next d fr b r H' = next (putD fr d r) H' := rfl
inductive Cb (next : AV → List AObj → Prop) : Type
  | mk
def Cp (prot : Bool) (H : List AObj) (next : AV → List AObj → Prop) (_ : Cb next) (r : AV) (H' : List AObj) : Prop := (prot = true → ∃ G, H' = H ++ G) ∧ next r H'
@[simp] theorem Cp_eq {prot : Bool} {H : List AObj} {next : AV → List AObj → Prop} {b : Cb next} {r : AV} {H' : List AObj} : Cp prot H next b r H' = ((prot = true → ∃ G, H' = H ++ G) ∧ next r H') := rfl
@[simp] theorem kWp_call {prot : Bool} {f : AX} {args : List AX} {d : Option Nat} {next : List AV → List AObj → Prop} {fr : List AV} {H : List AObj} :
    kWp P (.call prot f args) d next fr H = callV P prot (f.ev fr) (args.map (·.ev fr)) H (Kp next d fr .mk) := rfl
@[simp] theorem callV_fn {prot : Bool} {g : FuncId} {first caps args : List AV} {H : List AObj} {next : AV → List AObj → Prop} :
    callV P prot (.fn (.func g) first caps) args H next = ACalls P g (first ++ args ++ caps) H (Cp prot H next .mk) := rfl
end
theorem Weak.to {nb : Nat} {fr fr1 fr2 : List AV} {H H1 H2 : List AObj} (h : Weak nb fr H fr1 H1) (e : fr1 = fr2) (e' : H1 = H2) : Weak nb fr H fr2 H2 := by subst e e'; exact h
/-- Another view of the state between two pieces. -/
theorem AWp.cut {P : Program} {own : List Nat} {nb : Nat} {x y : AC} {Q : Exit → List AV → List AObj → Prop} {fr : List AV} {H : List AObj} (F : List AV) (HF : List AObj)
    (h : AWp P own nb x (qSeq (fun fr H => Weak nb fr H F HF) Q) fr H) (k : AWp P own nb y Q F HF) : AWp P own nb (.seq x y) Q fr H := by
  refine AWp.seq (h.mono ?_)
  intro e fr H hq
  cases e with
  | normal => exact AWp.weak hq k
  | _ => exact hq
/-- The same, with what is known. -/
theorem AWp.cutp {P : Program} {own : List Nat} {nb : Nat} {x y : AC} {Q : Exit → List AV → List AObj → Prop} {fr : List AV} {H : List AObj} (p : Prop) (F : List AV) (HF : List AObj)
    (h : AWp P own nb x (qSeq (fun fr H => p ∧ Weak nb fr H F HF) Q) fr H) (k : p → AWp P own nb y Q F HF) : AWp P own nb (.seq x y) Q fr H := by
  refine AWp.seq (h.mono ?_)
  intro e fr H hq
  cases e with
  | normal => exact AWp.weak hq.2 (k hq.1)
  | _ => exact hq
theorem AWp.cut2 {P : Program} {own : List Nat} {nb : Nat} {x y z : AC} {Q : Exit → List AV → List AObj → Prop} {fr : List AV} {H : List AObj} (F : List AV) (HF : List AObj)
    (h : AWp P own nb x (qSeq (fun fr H => AWp P own nb y (qSeq (fun fr H => Weak nb fr H F HF) Q) fr H) Q) fr H) (k : AWp P own nb z Q F HF) : AWp P own nb (.seq x (.seq y z)) Q fr H := by
  refine AWp.seq (h.mono ?_)
  intro e fr H hq
  cases e with
  | normal => exact AWp.cut F HF hq k
  | _ => exact hq
/-- Another view between two pieces, with what is known of it. -/
theorem AWp.cutE {P : Program} {own : List Nat} {nb : Nat} {x y : AC} {Q : Exit → List AV → List AObj → Prop} {fr : List AV} {H : List AObj} {σ : Type} (p : σ → Prop) (F : σ → List AV) (HF : σ → List AObj)
    (h : AWp P own nb x (qSeq (fun fr H => ∃ s, p s ∧ Weak nb fr H (F s) (HF s)) Q) fr H) (k : ∀ s, p s → AWp P own nb y Q (F s) (HF s)) : AWp P own nb (.seq x y) Q fr H := by
  refine AWp.seq (h.mono ?_)
  intro e fr H hq
  cases e with
  | normal => exact let ⟨s, hs, hw⟩ := hq; AWp.weak hw (k s hs)
  | _ => exact hq

section
variable {H : List AObj} {k n : Nat} {b : Bool}
@[simp] theorem frz_und : frz H k n b .und = .und := by cases n <;> rfl
@[simp] theorem frz_sc (v : Value) : frz H k n b (.sc v) = .sc v := by cases n <;> rfl
@[simp] theorem frz_imm' (nl : Bool) (c : Option Nat) (sz : Nat) (xs : List AV) : frz H k n b (.imm nl c sz xs) = .imm nl c sz xs := by cases n <;> rfl
@[simp] theorem frz_ipt (e : AV) (f : Nat) : frz H k n b (.ipt e f) = .ipt e f := by cases n <;> rfl
@[simp] theorem frz_agg (cs : List AV) : frz H k (n + 1) b (.agg cs) = .agg (cs.map (frz H k n b)) := rfl
@[simp] theorem frz_tup (cs : List AV) : frz H k (n + 1) b (.tup cs) = .tup (cs.map (frz H k n b)) := rfl
@[simp] theorem frz_fn (f : Fn) (x y : List AV) : frz H k (n + 1) b (.fn f x y) = .fn f (x.map (frz H k n b)) (y.map (frz H k n b)) := rfl
@[simp] theorem frz_ifc (t : TypeId) (v : AV) : frz H k (n + 1) b (.ifc t v) = .ifc t (frz H k n b v) := rfl
@[simp] theorem frz_slc (i L off q : Nat) (c : Option Nat) : frz H k (n + 1) b (.slc i L off q c) =
    if i < k then (if b then .slc i L off q c else .und)
    else match live? H i L with
      | some o => match o.vir with
        | some true => .imm true none o.sz []
        | some false => .imm false (some 0) o.sz []
        | none => if off + q ≤ L then .imm false c o.sz ((if off = 0 ∧ q = L then o.es else (o.es.drop off).take q).map (frz H k n false)) else .und
      | none => .und := rfl
@[simp] theorem frz_ptr (i L q f : Nat) : frz H k (n + 1) b (.ptr i L q f) =
    if i < k then (if b then .ptr i L q f else .und)
    else match live? H i L with
      | some o => if o.vir = none then match o.es[q]? with
          | some e => .ipt (frz H k n false e) f
          | none => .und
        else .und
      | none => .und := rfl
@[simp] theorem frz_I : frz H k n b ∘ I = I := by funext x; exact frz_sc _
@[simp] theorem frz_ints (xs : List Int) : (xs.map I).map (frz H k n b) = xs.map I := by rw [List.map_map, frz_I]
end
@[simp] theorem allOneCell_nil (sz : Nat) : allOneCell sz [] = true := rfl
@[simp] theorem allOneCell_cons (sz : Nat) (x : AV) (l : List AV) : allOneCell sz (x :: l) = (okEl sz x && allOneCell sz l) := by simp [allOneCell]
@[simp] theorem allOneCell_append (sz : Nat) (l r : List AV) : allOneCell sz (l ++ r) = (allOneCell sz l && allOneCell sz r) := by simp [allOneCell]
@[simp] theorem allOneCell_ints (l : List Int) : allOneCell 1 (l.map I) = true := by simp [allOneCell, okEl, cellsOf, oneC]
@[simp] theorem allOneCell_rep (sz n : Nat) (x : AV) (h : okEl sz x = true) : allOneCell sz (List.replicate n x) = true := by
  simp only [allOneCell, List.all_replicate, h]
  simp
@[simp] theorem noRefs_ints (l : List Int) : noRefs (l.map I) = true := by induction l <;> simp_all [noRefs, noRef]
theorem elems_imm {sz sz' : Nat} {H : List AObj} {nl : Bool} {c : Option Nat} {xs : List AV} (h : nl = true ∨ sz' = sz) : elems sz H (.imm nl c sz' xs) = some xs := by simp [elems, h]
@[simp] theorem elems_imm1 {sz : Nat} {H : List AObj} {nl : Bool} {c : Option Nat} {xs : List AV} : elems sz H (.imm nl c sz xs) = some xs := by simp [elems]
@[simp] theorem elems_nil {sz sz' : Nat} {H : List AObj} {c : Option Nat} {xs : List AV} : elems sz H (.imm true c sz' xs) = some xs := by simp [elems]
attribute [simp] kWp_eq fillParts setAll setPart resVal shv shH evK putD AX.ev qSeq qBlock bodyQ binEv live? partOf cellsOf bound? okEl noRef noRefs tupV
@[simp] theorem oneC_sc (v : Value) : oneC (.sc v) = true := rfl
@[simp] theorem oneC_imm (nl : Bool) (c : Option Nat) (sz : Nat) (xs : List AV) : oneC (.imm nl c sz xs) = true := rfl
@[simp] theorem oneC_slc (i L off n : Nat) (c : Option Nat) : oneC (.slc i L off n c) = true := rfl
@[simp] theorem oneC_ptr (i L k f : Nat) : oneC (.ptr i L k f) = true := rfl
@[simp] theorem oneC_ipt (e : AV) (f : Nat) : oneC (.ipt e f) = true := rfl
@[simp] theorem oneC_fn (f : Fn) (a b : List AV) : oneC (.fn f a b) = true := rfl
@[simp] theorem oneC_ifc (t : TypeId) (v : AV) : oneC (.ifc t v) = true := rfl
@[simp] theorem oneC_agg (cs : List AV) : oneC (.agg cs) = false := rfl
@[simp] theorem oneC_tup (cs : List AV) : oneC (.tup cs) = false := rfl
@[simp] theorem oneC_und : oneC .und = false := rfl

theorem wrap_i64 {n : Int} (h1 : -9223372036854775808 ≤ n) (h2 : n ≤ 9223372036854775807) : IntKind.i64.wrap n = n := by
  have e : IntKind.i64.wrap n = if (n % 18446744073709551616) ≥ 9223372036854775808 then n % 18446744073709551616 - 18446744073709551616 else n % 18446744073709551616 := by
    unfold IntKind.wrap
    simp [IntKind.bits, IntKind.signed]
  rw [e]
  split <;> omega
theorem wrap_u64 {n : Int} (h1 : 0 ≤ n) (h2 : n ≤ 18446744073709551615) : IntKind.u64.wrap n = n := by
  unfold IntKind.wrap
  simp only [IntKind.bits, IntKind.signed, Bool.false_and]
  simp
  omega

/-- A slice of integers, immutable. -/
def ISl (a : AV) (xs : List Int) : Prop :=
  (∃ nl c sz, a = .imm nl c sz (xs.map I) ∧ ((nl = true → xs = []) ∧ (nl = false → sz = 1))) ∧ xs.length ≤ 9223372036854775807 ∧ ∀ x ∈ xs, -9223372036854775808 ≤ x ∧ x ≤ 9223372036854775807
theorem sz_of {nl : Bool} {xs : List Int} {sz i : Nat} (hs : (nl = true → xs = []) ∧ (nl = false → sz = 1)) (h : i < xs.length) : sz = 1 := by
  cases nl with
  | true => have := hs.1 rfl; subst this; simp at h
  | false => exact hs.2 rfl
theorem elems_of {nl : Bool} {c : Option Nat} {xs : List Int} {sz : Nat} (H : List AObj) (hs : (nl = true → xs = []) ∧ (nl = false → sz = 1)) : elems 1 H (.imm nl c sz (xs.map I)) = some (xs.map I) := by
  cases nl with
  | true => simp [elems]
  | false => simp [elems, hs.2 rfl]
end Go.Fw
