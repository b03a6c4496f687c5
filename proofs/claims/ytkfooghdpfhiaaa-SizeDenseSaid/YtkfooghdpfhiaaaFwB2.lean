/- Which operations may be taken the one ahead of the other; the orders of a region that draws; the translation of code. -/
import Derived.Test.YtkfooghdpfhiaaaFwB
namespace Go.Fw
open Go Go.RowKit

def AX.uses : AX → List Nat
  | .t n => [n]
  | .c _ => []
def oUses : Option AX → List Nat
  | some x => x.uses
  | none => []
def AK.uses : AK → List Nat
  | .mov x | .new _ _ x | .ld _ _ x | .nck x | .nileq _ x | .un _ x | .cvi _ x | .mkI _ x | .fad _ x | .fld _ _ _ x | .ext x _ | .len x | .slen x | .clr _ _ x => x.uses
  | .pick a b c | .mm3 _ a b c => a.uses ++ b.uses ++ c.uses
  | .mk _ ps => ps.flatMap fun p => p.2.2.uses
  | .lit _ ps | .litO _ _ ps => ps.flatMap AX.uses
  | .st _ x y | .bin _ x y | .beq _ x y | .mkS _ _ _ _ x y | .iad _ x y | .app _ _ _ x y | .mm _ x y | .iar _ _ x y | .ixa _ _ _ x y | .ixs x y => x.uses ++ y.uses
  | .mkF _ a b => a.flatMap AX.uses ++ b.flatMap AX.uses
  | .sl _ x a b c => x.uses ++ oUses a ++ oUses b ++ oUses c
def AKK.uses : AKK → List Nat
  | .k q => q.uses
  | .call _ f as => f.uses ++ as.flatMap AX.uses
def AOp.uses (o : AOp) : List Nat := (match o.guard with | some (t, _) => [t] | none => []) ++ o.k.uses

def AX.isImm : AX → Bool
  | .c (.imm ..) => true
  | _ => false
def AK.cls : AK → Nat
  | .ld .. | .iad .. | .sl .. | .nileq .. => 1
  | .new .. | .litO .. | .mkS .. => 2
  | .st .. | .clr .. => 3
  | .app _ _ _ s _ => if s.isImm then 2 else 3
  | _ => 0
def AKK.cls : AKK → Nat
  | .k q => q.cls
  | .call prot _ _ => if prot then 2 else 3

def clear (d : Option Nat) (us : List Nat) : Bool := us.all fun n => d != some n
/-- May x, that stands ahead of y, be taken behind it? -/
def commB (x y : AOp) : Bool :=
  clear x.dst y.uses && clear y.dst x.uses && (x.dst.isNone || y.dst.isNone || x.dst != y.dst) && (x.k.cls == 0 || (x.k.cls == 1 && decide (y.k.cls ≤ 2)))

def depsOf (o : Oper) : List Nat := (o.after.toList.filter fun e => Region.binds .any e).map (·.on)
/-! The kernel reckons with literals if what it is handed is one: 'forceN' hands on the literal. -/
def forceN {α : Type} (n : Nat) (f : Nat → α) : α :=
  match n + 1 with
  | 0 => f 0
  | k + 1 => f k
theorem forceN_eq {α : Type} (n : Nat) (f : Nat → α) : forceN n f = f n := rfl
def forceL {α : Type} : List Nat → (List Nat → α) → α
  | [], f => f []
  | x :: l, f => forceN x fun x => forceL l fun l => f (x :: l)
theorem forceL_eq {α : Type} : ∀ (l : List Nat) (f : List Nat → α), forceL l f = f l
  | [], _ => rfl
  | x :: l, f => by simp only [forceL, forceN_eq, forceL_eq l]
def forceLL {α : Type} : List (List Nat) → (List (List Nat) → α) → α
  | [], f => f []
  | x :: l, f => forceL x fun x => forceLL l fun l => f (x :: l)
theorem forceLL_eq {α : Type} : ∀ (l : List (List Nat)) (f : List (List Nat) → α), forceLL l f = f l
  | [], _ => rfl
  | x :: l, f => by simp only [forceLL, forceL_eq, forceLL_eq l]

def maskOf (l : List Nat) : Nat := l.foldl (fun a n => a ||| 2 ^ n) 0
def dstM (o : AOp) : Nat :=
  match o.dst with
  | some d => 2 ^ d
  | none => 0
def useM (o : AOp) : Nat := maskOf o.uses
def commM (cs ds us : List Nat) (x y : Nat) : Bool :=
  (ds.getD x 0 &&& us.getD y 0) == 0 && (ds.getD y 0 &&& us.getD x 0) == 0 && (ds.getD x 0 &&& ds.getD y 0) == 0 && (cs.getD x 0 == 0 || (cs.getD x 0 == 1 && decide (cs.getD y 0 ≤ 2)))

/-- What must stand ahead, and what must stand ahead of that. -/
def unionM (cl : List Nat) (ds : List Nat) : Nat := ds.foldl (fun a d => a ||| (2 ^ d ||| cl.getD d 0)) 0
def clM : List Oper → List Nat → List Nat
  | [], acc => acc
  | o :: l, acc => forceL (acc ++ [unionM acc (depsOf o)]) fun acc => clM l acc
def checkCl (ops : List Oper) (cl : List Nat) : Bool :=
  ops.zipIdx.all fun p => (depsOf p.1).all (fun d => decide (d < p.2)) && (cl.getD p.2 0 &&& unionM cl (depsOf p.1)) == cl.getD p.2 0

def linExts (cl : List Nat) : Nat → List Nat → List (List Nat)
  | _, [] => [[]]
  | 0, _ => []
  | n + 1, hs => hs.flatMap fun x => if hs.all (fun y => y == x || !(cl.getD x 0).testBit y) then (linExts cl n (hs.erase x)).map (x :: ·) else []
def pairsOk (cl : List Nat) (hv : Nat) (cm : Nat → Nat → Bool) : List Nat → Bool
  | [] => true
  | x :: r => r.all (fun y => (cl.getD y 0).testBit x || (hv.testBit x && hv.testBit y) || cm x y) && pairsOk cl hv cm r
def checkDraw (cl : List Nat) (hv : Nat) (cm : Nat → Nat → Bool) (n : Nat) (ords : List (List Nat)) : Bool :=
  (linExts cl n ((List.range n).filter fun i => hv.testBit i)).all (fun τ => ords.any fun ord => ord.filter (fun i => hv.testBit i) == τ) &&
  ords.all (fun ord => decide (ord.Nodup) && decide (ord.length = n) && ord.all (fun i => decide (i < n)) && pairsOk cl hv cm ord)

/-- A region that draws: all its operations in one of a few orders. -/
def trDraw (P : Program) (own : List Nat) (ops : Array Oper) (cl : List Nat) (hv : Nat) (ords : List (List Nat)) : Option (List (List AOp)) := do
  let l ← ops.toList.mapM (trOp P own true ops)
  forceL (l.map fun o => o.k.cls) fun cs => forceL (l.map dstM) fun ds => forceL (l.map useM) fun us =>
    if checkCl ops.toList cl = true ∧ checkDraw cl hv (commM cs ds us) l.length ords = true ∧ P.follows .mixedOrders = true then
      some (ords.map fun ord => ord.map fun i => l.getD i default)
    else none

/-! What is tried: one order of each order of the heavy ones; what is light and ready goes first. -/
def hvOf (cl cs : List Nat) : Nat :=
  let r := List.range cs.length
  maskOf (r.filter fun i =>
    match cs.getD i 0 with
    | 0 => false
    | 1 => r.any fun j => cs.getD j 0 == 3 && !(cl.getD i 0).testBit j && !(cl.getD j 0).testBit i
    | _ => true)
def autoGo (cl : List Nat) (hv : Nat) : Nat → List Nat → Nat → List Nat → List Nat
  | 0, _, _, _ => []
  | n + 1, rest, rm, τ =>
    match rest.find? (fun i => !hv.testBit i && (cl.getD i 0 &&& rm) == 0) with
    | some i => i :: forceL (rest.filter (· != i)) fun rest => forceN (rm ^^^ 2 ^ i) fun rm => autoGo cl hv n rest rm τ
    | none => match τ with
      | h :: τ => h :: forceL (rest.filter (· != h)) fun rest => forceN (rm ^^^ 2 ^ h) fun rm => autoGo cl hv n rest rm τ
      | [] => []
def autoOrds (cl : List Nat) (hv : Nat) (n : Nat) : List (List Nat) :=
  (linExts cl n ((List.range n).filter fun i => hv.testBit i)).map (autoGo cl hv n (List.range n) (2 ^ n - 1))

def parC : List (List AOp) → AC
  | [l] => .ops l
  | ls => .par ls

def trC (P : Program) (own : List Nat) : Code → Option AC
  | .skip => some .skip
  | .region _ ops false => (ops.toList.mapM (trOp P own false ops)).map .ops
  | .region _ ops true => do
    let l ← ops.toList.mapM (trOp P own true ops)
    forceL (clM ops.toList []) fun cl => forceL (l.map fun o => o.k.cls) fun cs => forceN (hvOf cl cs) fun hv => forceLL (autoOrds cl hv l.length) fun ords => (trDraw P own ops cl hv ords).map parC
  | .seq a b => do some (.seq (← trC P own a) (← trC P own b))
  | .cond c a b => do some (.cond (← trX c) (← trC P own a) (← trC P own b))
  | .block id c => do some (.block id (← trC P own c))
  | .loop c => do some (.loop (← trC P own c))
  | .exit id => some (.exit id)
  | .ret => some .ret
  | _ => none

theorem trC_region {P : Program} {own : List Nat} {id : Nat} {ops : Array Oper} {d : Bool} {ac : AC} (h : trC P own (.region id ops d) = some ac) : (∃ l, ac = .ops l) ∨ ∃ ls, ac = .par ls := by
  cases d with
  | false =>
    simp only [trC, Option.map_eq_some_iff] at h
    obtain ⟨l, _, rfl⟩ := h
    exact .inl ⟨l, rfl⟩
  | true =>
    simp only [trC, Option.bind_eq_bind, Option.bind_eq_some_iff, forceL_eq, forceN_eq, forceLL_eq, Option.map_eq_some_iff] at h
    obtain ⟨_, _, ls, _, rfl⟩ := h
    unfold parC
    split
    · exact .inl ⟨_, rfl⟩
    · exact .inr ⟨_, rfl⟩

end Go.Fw
