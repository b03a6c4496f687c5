/- The abstract code: operations with their types looked up; what each comes to on abstract values; the translation out of the model's code. -/
import Derived.Test.YthipbeffhfdamaaFwA
namespace Go.Fw
open Go Go.RowKit
inductive AX where
  | t (n : Nat)
  | c (a : AV)
  deriving Inhabited
def AX.ev (fr : List AV) : AX → AV
  | .t n => fr.getD n .und
  | .c a => a
inductive AK where
  | mov (x : AX)
  | pick (c a b : AX)
  | new (ty sz : Nat) (z : AX)
  | mk (zero : List AV) (parts : List (Nat × Nat × AX))
  | lit (sz : Nat) (parts : List AX)
  | litO (ty sz : Nat) (parts : List AX)
  | ld (sz : Nat) (ag : Bool) (p : AX)
  | st (sz : Nat) (p x : AX)
  | nck (x : AX)
  | bin (op : BinOp) (x y : AX)
  | beq (neg : Bool) (x y : AX)
  | nileq (neg : Bool) (x : AX)
  | un (op : UnOp) (x : AX)
  | cvi (k : IntKind) (x : AX)
  | mkI (t : TypeId) (x : AX)
  | mkF (f : Fn) (first caps : List AX)
  | mkS (ty sz bytes : Nat) (z : AV) (l c : AX)
  | sl (sz : Nat) (x : AX) (lo hi mx : Option AX)
  | fad (off : Nat) (x : AX)
  | fld (off sz : Nat) (ag : Bool) (x : AX)
  | iad (sz : Nat) (x i : AX)
  | ext (x : AX) (i : Nat)
  | len (x : AX)
  | slen (x : AX)
  | app (ty sz bytes : Nat) (s x : AX)
  | clr (sz : Nat) (z : AV) (x : AX)
  | mm (mx : Bool) (x y : AX)
  | mm3 (mx : Bool) (x y z : AX)
  | iar (n sz : Nat) (x i : AX)
  | ixa (n sz : Nat) (ag : Bool) (x i : AX)
  | ixs (x i : AX)
  | asrt (t : TypeId) (ok : Bool) (x : AX)
  | pan
  | cpy (sz : Nat) (s x : AX)
  | sls (x : AX) (lo hi : Option AX)
  | aeq (neg : Bool) (ks : List Nat) (x y : AX)
  deriving Inhabited
inductive AKK where
  | k (k : AK)
  | call (prot : Bool) (f : AX) (args : List AX)
  | inv (prot : Bool) (m : String) (args : List AX)
  deriving Inhabited
structure AOp where
  dst : Option Nat
  guard : Option (Nat × Bool)
  k : AKK
  deriving Inhabited
inductive AC where
  | skip
  | ops (l : List AOp)
  | par (ls : List (List AOp))
  | seq (a b : AC)
  | cond (x : AX) (a b : AC)
  | block (id : Nat) (a : AC)
  | loop (a : AC)
  | range (g : AX) (ps : List Nat) (mv : List (Nat × Nat)) (a : AC)
  | exit (id : Nat)
  | ret
  | here (a : AC)
  deriving Inhabited
abbrev nil0 : AV := .imm true none 0 []
abbrev I (n : Int) : AV := .sc (.int .i64 n)
abbrev Bo (b : Bool) : AV := .sc (.bool b)
abbrev AX.i (n : Int) : AX := .c (I n)
abbrev AX.b (b : Bool) : AX := .c (Bo b)
abbrev AX.f (n : Nat) : AX := .c (.fn (.func n) [] [])
abbrev AX.z : AX := .c (.imm true none 0 [])
abbrev AOp.o (d : Nat) (k : AK) : AOp := ⟨some d, none, .k k⟩
abbrev AOp.on (k : AK) : AOp := ⟨none, none, .k k⟩
abbrev AOp.og (d g : Nat) (b : Bool) (k : AK) : AOp := ⟨some d, some (g, b), .k k⟩
abbrev AOp.ong (g : Nat) (b : Bool) (k : AK) : AOp := ⟨none, some (g, b), .k k⟩
abbrev AOp.m (d : Nat) (x : AX) : AOp := ⟨some d, none, .k (.mov x)⟩
abbrev AOp.mg (d g : Nat) (b : Bool) (x : AX) : AOp := ⟨some d, some (g, b), .k (.mov x)⟩
abbrev AOp.c (d : Nat) (p : Bool) (f : AX) (as : List AX) : AOp := ⟨some d, none, .call p f as⟩
abbrev AOp.cn (p : Bool) (f : AX) (as : List AX) : AOp := ⟨none, none, .call p f as⟩
abbrev AOp.cg (d g : Nat) (b : Bool) (p : Bool) (f : AX) (as : List AX) : AOp := ⟨some d, some (g, b), .call p f as⟩
abbrev AOp.cng (g : Nat) (b : Bool) (p : Bool) (f : AX) (as : List AX) : AOp := ⟨none, some (g, b), .call p f as⟩
abbrev AOp.v (d : Nat) (p : Bool) (m : String) (as : List AX) : AOp := ⟨some d, none, .inv p m as⟩
abbrev AOp.vn (p : Bool) (m : String) (as : List AX) : AOp := ⟨none, none, .inv p m as⟩
abbrev AOp.vg (d g : Nat) (b : Bool) (p : Bool) (m : String) (as : List AX) : AOp := ⟨some d, some (g, b), .inv p m as⟩
def oneC : AV → Bool
  | .und | .agg _ | .tup _ => false
  | _ => true
def okEl (sz : Nat) (x : AV) : Bool := (cellsOf x).length == sz && (cellsOf x).all oneC
mutual
def noRef : AV → Bool
  | .slc _ _ _ _ _ => false
  | .ptr _ _ _ _ => false
  | .agg cs => noRefs cs
  | .tup cs => noRefs cs
  | .fn _ a b => noRefs a && noRefs b
  | .ifc _ v => noRef v
  | _ => true
def noRefs : List AV → Bool
  | [] => true
  | x :: xs => noRef x && noRefs xs
end
def partOf (ag : Bool) (f sz : Nat) (e : AV) : Option AV :=
  if ag then
    match e with
    | .agg cs => if f + sz ≤ cs.length then some (.agg (if f = 0 ∧ sz = cs.length then cs else (cs.drop f).take sz)) else none
    | _ => none
  else if sz = 1 then (cellsOf e)[f]? else none
def setAll : List AV → Nat → List AV → List AV
  | cs, _, [] => cs
  | cs, f, x :: xs => setAll (cs.set f x) (f + 1) xs
def setPart (f : Nat) (e x : AV) : Option AV :=
  match e with
  | .agg cs => if f + (cellsOf x).length ≤ cs.length then some (.agg (setAll cs f (cellsOf x))) else none
  | _ => match x with
    | .agg _ => none
    | _ => if f = 0 then some x else none
def binEv (op : BinOp) (x y : AV) : Option AV :=
  match x, y with
  | .sc (.int k a), .sc (.int k' b) =>
    match op with
    | .shl => if b < 0 then none else some (.sc (.int k (k.wrap (a * 2 ^ (min b.toNat k.bits)))))
    | .shr => if b < 0 then none else some (.sc (.int k (a.fdiv (2 ^ (min b.toNat k.bits)))))
    | _ =>
      if k = k' then
        match op with
        | .add => some (.sc (.int k (k.wrap (a + b))))
        | .sub => some (.sc (.int k (k.wrap (a - b))))
        | .mul => some (.sc (.int k (k.wrap (a * b))))
        | .quo => if b = 0 then none else some (.sc (.int k (k.wrap (a.tdiv b))))
        | .rem => if b = 0 then none else some (.sc (.int k (a.tmod b)))
        | .eql => some (Bo (a == b))
        | .neq => some (Bo (a != b))
        | .lss => some (Bo (decide (a < b)))
        | .leq => some (Bo (decide (a ≤ b)))
        | .gtr => some (Bo (decide (a > b)))
        | .geq => some (Bo (decide (a ≥ b)))
        | .and => some (.sc (.int k (k.wrap (BitVec.ofInt k.bits a &&& BitVec.ofInt k.bits b).toNat)))
        | .or => some (.sc (.int k (k.wrap (BitVec.ofInt k.bits a ||| BitVec.ofInt k.bits b).toNat)))
        | .xor => some (.sc (.int k (k.wrap (BitVec.ofInt k.bits a ^^^ BitVec.ofInt k.bits b).toNat)))
        | .andNot => some (.sc (.int k (k.wrap (BitVec.ofInt k.bits a &&& ~~~BitVec.ofInt k.bits b).toNat)))
        | _ => none
      else none
  | .sc (.string a), .sc (.string b) =>
    match op with
    | .add => if ((a.size + b.size : Nat) : Int) ≤ 9223372036854775807 then some (.sc (.string (a ++ b))) else none
    | .eql => some (Bo (a.toList == b.toList))
    | .neq => some (Bo (!(a.toList == b.toList)))
    | .lss => some (Bo (Op.bytesLess a.toList b.toList))
    | .leq => some (Bo (Op.bytesLess a.toList b.toList || a.toList == b.toList))
    | .gtr => some (Bo (!(Op.bytesLess a.toList b.toList || a.toList == b.toList)))
    | .geq => some (Bo (!(Op.bytesLess a.toList b.toList)))
    | _ => none
  | _, _ => none
def live? (H : List AObj) (i L : Nat) : Option AObj :=
  match H[i]? with
  | some o => if o.live = true ∧ o.es.length = L then some o else none
  | none => none
def elems (sz : Nat) (H : List AObj) : AV → Option (List AV)
  | .imm nl _ sz' xs => if nl = true ∨ sz' = sz then some xs else none
  | .slc i L off n _ => match live? H i L with
    | some o => if o.sz = sz ∧ off + n ≤ L then some (if off = 0 ∧ n = L then o.es else (o.es.drop off).take n) else none
    | none => none
  | _ => none
def bound? (d : Int) (fr : List AV) : Option AX → Option Int
  | none => some d
  | some x => match x.ev fr with
    | .sc (.int _ n) => some n
    | _ => none
def allOneCell (sz : Nat) (xs : List AV) : Bool := xs.all (okEl sz)
def fillParts : List AV → List (Nat × Nat × AV) → Option (List AV)
  | cs, [] => some cs
  | cs, (off, sz, v) :: r => if okEl sz v = true ∧ off + sz ≤ cs.length then fillParts (setAll cs off (cellsOf v)) r else none
def aeqS : List Nat → List AV → List AV → Option Bool
  | [], [], [] => some true
  | k :: ks, a :: as, b :: bs => match k, a, b with
    | 0, .sc (.int i m), .sc (.int j n) => if i = j then (aeqS ks as bs).map fun r => (m == n) && r else none
    | 1, .sc (.bool p), .sc (.bool q) => (aeqS ks as bs).map fun r => (p == q) && r
    | 2, .sc (.string s), .sc (.string t) => (aeqS ks as bs).map fun r => (s.toList == t.toList) && r
    | _, _, _ => none
  | _, _, _ => none
def evK (k : AK) (fr : List AV) (H : List AObj) : Option (AV × List AObj) :=
  match k with
  | .mov x => some (x.ev fr, H)
  | .pick c a b => match c.ev fr with
    | .sc (.bool t) => some (if t then a.ev fr else b.ev fr, H)
    | _ => none
  | .new ty sz z =>
    let v := z.ev fr
    if okEl sz v = true ∧ 0 < sz then some (.ptr H.length 1 0 0, H ++ [{ ty := ty, sz := sz, es := [v] }]) else none
  | .mk zero parts => match fillParts zero (parts.map fun p => (p.1, p.2.1, p.2.2.ev fr)) with
    | some cs => some (.agg cs, H)
    | none => none
  | .lit sz parts =>
    let xs := parts.map (·.ev fr)
    if allOneCell sz xs = true ∧ noRefs xs = true then some (.imm false (some xs.length) sz xs, H) else none
  | .litO ty sz parts =>
    let xs := parts.map (·.ev fr)
    if allOneCell sz xs = true ∧ 0 < sz then some (.slc H.length xs.length 0 xs.length none, H ++ [{ ty := ty, sz := sz, es := xs }]) else none
  | .ld sz ag p => match p.ev fr with
    | .ptr i L k f => match live? H i L with
      | some o => if o.vir = none then match o.es[k]? with
        | some e => match partOf ag f sz e with
          | some v => some (v, H)
          | none => none
        | none => none
        else none
      | none => none
    | .ipt e f => match partOf ag f sz e with
      | some v => some (v, H)
      | none => none
    | _ => none
  | .st sz p x => match p.ev fr with
    | .ptr i L k f => match live? H i L with
      | some o => if o.vir = none ∧ okEl sz (x.ev fr) = true then match o.es[k]? with
        | some e => match setPart f e (x.ev fr) with
          | some e' => some (.tup [], H.set i { o with es := o.es.set k e' })
          | none => none
        | none => none
        else none
      | none => none
    | _ => none
  | .nck x => match x.ev fr with
    | .ptr i L k f => some (.ptr i L k f, H)
    | .ipt e f => some (.ipt e f, H)
    | .fn (.func g) a b => some (.fn (.func g) a b, H)
    | .ifc t v => some (.ifc t v, H)
    | _ => none
  | .bin op x y => match binEv op (x.ev fr) (y.ev fr) with
    | some v => some (v, H)
    | none => none
  | .beq neg x y => match x.ev fr, y.ev fr with
    | .sc (.bool a), .sc (.bool b) => some (Bo (if neg then !(a == b) else a == b), H)
    | _, _ => none
  | .nileq neg x => match x.ev fr with
    | .imm nl c _ xs => if nl = true ∨ xs ≠ [] ∨ 0 < c.getD 0 then some (Bo (if neg then !nl else nl), H) else none
    | .slc i L _ _ _ => match live? H i L with
      | some o => some (Bo (let b := o.vir == some true; if neg then !b else b), H)
      | none => none
    | _ => none
  | .un op x => match op, x.ev fr with
    | .neg, .sc (.int k n) => some (.sc (.int k (k.wrap (0 - n))), H)
    | .not, .sc (.bool b) => some (Bo (!b), H)
    | _, _ => none
  | .cvi k x => match x.ev fr with
    | .sc (.int _ n) => some (.sc (.int k (k.wrap n)), H)
    | _ => none
  | .mkI t x => some (.ifc t (x.ev fr), H)
  | .mkF f a b => some (.fn f (a.map (·.ev fr)) (b.map (·.ev fr)), H)
  | .mkS ty sz bytes z l c => match l.ev fr, c.ev fr with
    | .sc (.int .i64 n), .sc (.int .i64 m) =>
      if 0 ≤ n ∧ n ≤ m ∧ m * bytes ≤ 281474976710656 ∧ m ≤ 9223372036854775807 ∧ 0 < sz ∧ okEl sz z = true then
        some (.slc H.length n.toNat 0 n.toNat none, H ++ [{ ty := ty, sz := sz, es := List.replicate n.toNat z }])
      else none
    | _, _ => none
  | .sl sz x lo hi mx => match x.ev fr with
    | .imm nl c sz' xs => match bound? 0 fr lo, bound? xs.length fr hi with
      | some l, some h => match mx with
        | none => if 0 ≤ l ∧ l ≤ h ∧ h ≤ xs.length ∧ (nl = true ∨ sz' = sz) then
            some (.imm nl (c.map (· - l.toNat)) sz' (if l = 0 ∧ h = xs.length then xs else (xs.drop l.toNat).take (h.toNat - l.toNat)), H) else none
        | some q => match q.ev fr with
          | .sc (.int _ m) => if 0 ≤ l ∧ l ≤ h ∧ h ≤ m ∧ m ≤ xs.length ∧ (nl = true ∨ sz' = sz) then
              some (.imm nl (some (m.toNat - l.toNat)) sz' ((xs.drop l.toNat).take (h.toNat - l.toNat)), H) else none
          | _ => none
      | _, _ => none
    | .slc i L off n c => match live? H i L with
      | some o => match bound? 0 fr lo, bound? n fr hi with
        | some l, some h =>
          if 0 ≤ l ∧ l ≤ h ∧ o.sz = sz then
            match o.vir with
            | some _ => if h = 0 ∧ mx.isNone = true then some (.slc i L off n c, H) else none
            | none => match mx with
              | none => if off + h ≤ L ∧ (∀ k, c = some k → h ≤ k) then some (.slc i L (off + l.toNat) (h.toNat - l.toNat) (c.map (· - l.toNat)), H) else none
              | some q => match q.ev fr with
                | .sc (.int _ m) => if h ≤ m ∧ off + m ≤ L ∧ c = none then some (.slc i L (off + l.toNat) (h.toNat - l.toNat) (some (m.toNat - l.toNat)), H) else none
                | _ => none
          else none
        | _, _ => none
      | none => none
    | _ => none
  | .fad off x => match x.ev fr with
    | .ptr i L k f => some (.ptr i L k (f + off), H)
    | .ipt e f => some (.ipt e (f + off), H)
    | _ => none
  | .fld off sz ag x => match x.ev fr with
    | .agg cs => match partOf ag off sz (.agg cs) with
      | some v => some (v, H)
      | none => none
    | _ => none
  | .iad sz x i => match i.ev fr with
    | .sc (.int _ z) => match x.ev fr with
      | .imm _ _ sz' xs => match xs[z.toNat]? with
        | some e => if sz' = sz ∧ 0 ≤ z then some (.ipt e 0, H) else none
        | none => none
      | .slc i L off n _ => match live? H i L with
        | some o => if o.vir = none ∧ o.sz = sz ∧ 0 ≤ z ∧ z < n ∧ off + n ≤ L then some (.ptr i L (off + z.toNat) 0, H) else none
        | none => none
      | _ => none
    | _ => none
  | .ext x i => match x.ev fr with
    | .tup vs => match vs[i]? with
      | some v => some (v, H)
      | none => none
    | _ => none
  | .len x => match x.ev fr with
    | .imm _ _ _ xs => some (I xs.length, H)
    | .slc _ _ _ n _ => some (I n, H)
    | _ => none
  | .slen x => match x.ev fr with
    | .sc (.string s) => some (I s.size, H)
    | _ => none
  | .app ty sz bytes s x => match elems sz H (x.ev fr) with
    | some xs =>
      if 0 < sz ∧ allOneCell sz xs = true then
      match s.ev fr with
      | .imm nl c sz' ys =>
        if nl = true then
          if xs = [] then some (.imm true c sz' ys, H)
          else if xs.length * bytes ≤ 140737488355328 ∧ xs.length ≤ 9223372036854775807 then some (.slc H.length xs.length 0 xs.length none, H ++ [{ ty := ty, sz := sz, es := xs }]) else none
        else if c = some ys.length ∧ sz' = sz ∧ allOneCell sz ys = true then
          if xs = [] then some (.imm false c sz' ys, H)
          else if (ys.length + xs.length) * bytes ≤ 140737488355328 ∧ ys.length + xs.length ≤ 9223372036854775807 then
            some (.slc H.length (ys.length + xs.length) 0 (ys.length + xs.length) none, H ++ [{ ty := ty, sz := sz, es := ys ++ xs }]) else none
        else none
      | .slc i L off n c => match live? H i L with
        | some o =>
          if o.sz = sz ∧ o.ty = ty ∧ off = 0 ∧ n = L ∧ c = none ∧ (L + xs.length) * bytes ≤ 140737488355328 ∧ L + xs.length ≤ 9223372036854775807 ∧ allOneCell sz o.es = true then
            if xs = [] then some (.slc i L 0 L none, H)
            else some (.slc i (L + xs.length) 0 (L + xs.length) none, H.set i { o with es := o.es ++ xs, vir := none })
          else if o.sz = sz ∧ o.ty = ty ∧ off = 0 ∧ c = none ∧ o.vir = none ∧ n + xs.length ≤ L then
            if xs = [] then some (.slc i L 0 n none, H)
            else some (.slc i L 0 (n + xs.length) none, H.set i { o with es := o.es.take n ++ xs ++ o.es.drop (n + xs.length) })
          else none
        | none => none
      | _ => none
      else none
    | none => none
  | .clr sz z x => match x.ev fr with
    | .imm _ _ _ xs => if xs = [] then some (.tup [], H) else none
    | .slc i L off n _ => match live? H i L with
      | some o =>
        if n = 0 then some (.tup [], H)
        else if o.vir = none ∧ o.sz = sz ∧ off + n ≤ L ∧ okEl sz z = true then some (.tup [], H.set i { o with es := o.es.take off ++ List.replicate n z ++ o.es.drop (off + n) })
        else none
      | none => none
    | _ => none
  | .mm mx x y => match x.ev fr, y.ev fr with
    | .sc (.int k a), .sc (.int k' b) => if k = k' then some (.sc (.int k (if mx then (if b > a then b else a) else (if b < a then b else a))), H) else none
    | _, _ => none
  | .mm3 mx x y z => match x.ev fr, y.ev fr, z.ev fr with
    | .sc (.int k a), .sc (.int k' b), .sc (.int k2 c) => if k = k' ∧ k = k2 then
        some (.sc (.int k (if mx then (if c > (if b > a then b else a) then c else (if b > a then b else a)) else (if c < (if b < a then b else a) then c else (if b < a then b else a)))), H) else none
    | _, _, _ => none
  | .iar n sz x i => match i.ev fr with
    | .sc (.int _ z) => if 0 ≤ z ∧ z < n then
        match x.ev fr with
        | .ptr j L k f => some (.ptr j L k (f + z.toNat * sz), H)
        | .ipt e f => some (.ipt e (f + z.toNat * sz), H)
        | _ => none
      else none
    | _ => none
  | .ixa n sz ag x i => match i.ev fr, x.ev fr with
    | .sc (.int _ z), .agg cs => if 0 ≤ z ∧ z < n then
        match partOf ag (z.toNat * sz) sz (.agg cs) with
        | some v => some (v, H)
        | none => none
      else none
    | _, _ => none
  | .ixs x i => match i.ev fr, x.ev fr with
    | .sc (.int _ z), .sc (.string s) => if 0 ≤ z then
        match s[z.toNat]? with
        | some b => some (.sc (.int .u8 b.toNat), H)
        | none => none
      else none
    | _, _ => none
  | .asrt t ok x => match x.ev fr with
    | .ifc t' v => if t' = t then some (if ok then .tup [v, Bo true] else v, H) else none
    | _ => none
  | .pan => none
  | .aeq neg ks x y => match x.ev fr, y.ev fr with
    | .agg cs, .agg ds => match aeqS ks cs ds with
      | some r => some (Bo (if neg then !r else r), H)
      | none => none
    | _, _ => none
  | .sls x lo hi => match x.ev fr with
    | .sc (.string s) => match bound? 0 fr lo, bound? s.size fr hi with
      | some l, some h => if 0 ≤ l ∧ l ≤ h ∧ h ≤ s.size then some (.sc (.string (s.extract l.toNat h.toNat)), H) else none
      | _, _ => none
    | _ => none
  | .cpy sz s x => match elems sz H (x.ev fr) with
    | some xs => if allOneCell sz xs = true then
      match s.ev fr with
      | .slc i L off n _ => match live? H i L with
        | some o =>
          if min xs.length n = 0 then some (I 0, H)
          else if o.vir = none ∧ o.sz = sz ∧ off + n ≤ L then some (I (min xs.length n : Nat), H.set i { o with es := o.es.take off ++ xs.take n ++ o.es.drop (off + min xs.length n) })
          else none
        | none => none
      | _ => none
      else none
    | none => none
def toAV1 : Value → Option AV
  | .slice none 0 0 => some (.imm true none 0 [])
  | v => if pureV v then some (.sc v) else none
def toAV : Value → Option AV
  | .agg cs => (cs.toList.mapM toAV1).map .agg
  | v => toAV1 v
def trX : Operand → Option AX
  | .tmp t => some (.t t)
  | .const v => (toAV v).map .c
  | .func f => some (.c (.fn (.func f) [] []))
  | .global _ => none
def isAggT (P : Program) (t : TypeId) : Option Bool :=
  match P.underlying t with
  | some (.struct _) | some (.array _ _) => some true
  | some _ => some false
  | none => none
def szT (P : Program) (t : TypeId) : Option Nat := (P.info? t).map (·.size)
def eqKind (P : Program) (f : Field) : Option Nat :=
  match P.underlying f.type with
  | some (.int _) => some 0
  | some .bool => some 1
  | some .string => some 2
  | _ => none
def eqKinds (P : Program) (t : TypeId) (fs : Array Field) : Option (List Nat) :=
  if P.stoodInHeld t = false ∧ P.eqGuardType P.depth t = false ∧ fs.toList.map (·.offset) = List.range' 0 fs.size ∧ fs.toList.all (fun f => f.name != "_") = true then fs.toList.mapM (eqKind P) else none
def eqArr (P : Program) (t : TypeId) (n : Nat) (e : TypeId) : Option (List Nat) :=
  match P.underlying e with
  | some (.int _) => if P.eqGuardType P.depth t = false ∧ P.cellsOf e = 1 ∧ (P.info? e).isSome = true then some (List.replicate n 0) else none
  | _ => none
def trBin (P : Program) (op : BinOp) (t : TypeId) (x y : Operand) : Option AK := do
  let eqOp ← match op with
    | .eql => some (some false)
    | .neq => some (some true)
    | _ => some none
  match eqOp, P.underlying t with
  | some neg, some .bool => some (.beq neg (← trX x) (← trX y))
  | some neg, some (.slice _) => match y with
    | .const (.slice none 0 0) => some (.nileq neg (← trX x))
    | _ => none
  | some neg, some (.struct fs) => some (.aeq neg (← eqKinds P t fs) (← trX x) (← trX y))
  | some neg, some (.array n e) => some (.aeq neg (← eqArr P t n e) (← trX x) (← trX y))
  | _, some (.int _) => some (.bin op (← trX x) (← trX y))
  | _, some .string => some (.bin op (← trX x) (← trX y))
  | _, _ => none
def opt {α β : Type} (f : α → Option β) : Option α → Option (Option β)
  | none => some none
  | some x => (f x).map some
def trK (P : Program) (own : List Nat) (o : Oper) : Option AK :=
  match o.op with
  | .move x | .assign x => do some (.mov (← trX x))
  | .pick c a b => do some (.pick (← trX c) (← trX a) (← trX b))
  | .alloc e => do
    let i ← P.info? e
    let z ← i.zero
    some (.new e i.size (.c (← toAV z)))
  | .box e x => do some (.new e (← szT P e) (← trX x))
  | .build t parts => do
    let i ← P.info? t
    let z ← i.zero
    let .agg zs ← toAV z | none
    match P.underlying t with
    | some (.struct fields) => do
      let places ← fields.toList.mapM fun f => (P.info? f.type).map fun i => (f.offset, i.size)
      let ps ← parts.toList.mapM fun p => (places[p.1]?).bind fun pl => (trX p.2).map fun x => (pl.1, pl.2, x)
      some (.mk zs ps)
    | some (.array _ e) => do
      let sz ← szT P e
      let ps ← parts.toList.mapM fun p => (trX p.2).map fun x => (p.1 * sz, sz, x)
      some (.mk zs ps)
    | _ => none
  | .buildSlice t len parts => do
    let some (.slice e) := P.underlying t | none
    let i ← P.info? e
    let _ ← i.zero
    let sz := i.size
    if len = parts.size ∧ parts.toList.map (·.1) = List.range len ∧ 0 < sz ∧ len * sz ≤ 16777216 then
      let ps ← parts.toList.mapM fun p => trX p.2
      if (match o.dst with | some d => own.contains d | none => false) then some (.litO e sz ps) else some (.lit sz ps)
    else none
  | .load t p => do some (.ld (← szT P t) (← isAggT P t) (← trX p))
  | .store t p x => do some (.st (← szT P t) (← trX p) (← trX x))
  | .nilCheck x => do some (.nck (← trX x))
  | .binOp op t x y _ => trBin P op t x y
  | .unOp op _ x => do some (.un op (← trX x))
  | .convert s d x => match P.underlying s, P.underlying d with
    | some (.int _), some (.int k) => do some (.cvi k (← trX x))
    | _, _ => none
  | .makeInterface t x => match P.underlying t with
    | some (.interface _) | none => none
    | some _ => do some (.mkI t (← trX x))
  | .makeFunc f a b => do some (.mkF f (← a.toList.mapM trX) (← b.toList.mapM trX))
  | .makeSlice t l c => do
    let some (.slice e) := P.underlying t | none
    let i ← P.info? e
    let z ← i.zero
    some (.mkS e i.size i.bytes (← toAV z) (← trX l) (← trX c))
  | .slice t x lo hi mx => match P.underlying t with
    | some .string => if mx.isSome = true then none else do some (.sls (← trX x) (← opt trX lo) (← opt trX hi))
    | some (.slice e) => if mx.isSome = true ∧ hi.isNone = true then none else do
      some (.sl (← szT P e) (← trX x) (← opt trX lo) (← opt trX hi) (← opt trX mx))
    | _ => none
  | .fieldAddr s x f => do
    let some (.struct fields) := P.underlying s | none
    let fd ← fields[f]?
    if (← szT P fd.type) = 0 then none else some (.fad fd.offset (← trX x))
  | .field s x f => do
    let some (.struct fields) := P.underlying s | none
    let fd ← fields[f]?
    some (.fld fd.offset (← szT P fd.type) (← isAggT P fd.type) (← trX x))
  | .indexAddr t x i => match P.underlying t with
    | some (.slice e) => do some (.iad (← szT P e) (← trX x) (← trX i))
    | some (.array n e) => do some (.iar n (← szT P e) (← trX x) (← trX i))
    | _ => none
  | .extract x i => do some (.ext (← trX x) i)
  | .call { callee := .builtin .len, args, argTypes } => do
    let t ← argTypes[0]?
    match P.underlying t, args.toList with
    | some (.slice _), [x] => some (.len (← trX x))
    | some .string, [x] => some (.slen (← trX x))
    | _, _ => none
  | .call { callee := .builtin .append, args, argTypes } => do
    let t ← argTypes[0]?
    let t' ← argTypes[1]?
    let some (.slice e) := P.underlying t | none
    if t' ≠ t then none
    let i ← P.info? e
    let z ← i.zero
    if z.cells.size ≠ i.size then none
    match args.toList with
    | [s, x] => some (.app e i.size i.bytes (← trX s) (← trX x))
    | _ => none
  | .call { callee := .builtin .clear, args, argTypes } => do
    let t ← argTypes[0]?
    let some (.slice e) := P.underlying t | none
    let i ← P.info? e
    let z ← i.zero
    match args.toList with
    | [x] => some (.clr i.size (← toAV z) (← trX x))
    | _ => none
  | .call { callee := .builtin .min, args, .. } => do
    match args.toList with
    | [x, y] => some (.mm false (← trX x) (← trX y))
    | [x, y, z] => some (.mm3 false (← trX x) (← trX y) (← trX z))
    | _ => none
  | .call { callee := .builtin .max, args, .. } => do
    match args.toList with
    | [x, y] => some (.mm true (← trX x) (← trX y))
    | [x, y, z] => some (.mm3 true (← trX x) (← trX y) (← trX z))
    | _ => none
  | .index t x i => match P.underlying t with
    | some (.array n e) => do some (.ixa n (← szT P e) (← isAggT P e) (← trX x) (← trX i))
    | some .string => do some (.ixs (← trX x) (← trX i))
    | _ => none
  | .typeAssert x _ t ok => match P.underlying t with
    | some (.interface _) => none
    | some _ => do some (.asrt t ok (← trX x))
    | none => none
  | .panic _ => some .pan
  | .call { callee := .builtin .copy, args, argTypes } => do
    let t ← argTypes[0]?
    let t' ← argTypes[1]?
    let some (.slice e) := P.underlying t | none
    if t' ≠ t then none
    let i ← P.info? e
    match args.toList with
    | [s, x] => some (.cpy i.size (← trX s) (← trX x))
    | _ => none
  | _ => none
def trKK (P : Program) (own : List Nat) (draw : Bool) (o : Oper) : Option AKK :=
  match o.op with
  | .call { callee := .value f, args, .. } => do some (.call draw (← trX f) (← args.toList.mapM trX))
  | .call { callee := .invoke x m, args, .. } => do some (.inv draw m ((← trX x) :: (← args.toList.mapM trX)))
  | _ => (trK P own o).map .k
def trOp (P : Program) (own : List Nat) (draw : Bool) (ops : Array Oper) (o : Oper) : Option AOp := do
  let k ← trKK P own draw o
  match o.guard with
  | none => some { dst := o.dst, guard := none, k := k }
  | some (j, b) => do
    let q ← ops[j]?
    let t ← q.dst
    some { dst := o.dst, guard := some (t, b), k := k }
end Go.Fw
/- Which operations may be taken the one ahead of the other; the orders of a region that draws; the translation of code. -/
namespace Go.Fw
open Go Go.RowKit
def AX.uses : AX → List Nat
  | .t n => [n]
  | .c _ => []
def oUses : Option AX → List Nat
  | some x => x.uses
  | none => []
def AK.uses : AK → List Nat
  | .mov x | .new _ _ x | .ld _ _ x | .nck x | .nileq _ x | .un _ x | .cvi _ x | .mkI _ x | .fad _ x | .fld _ _ _ x | .ext x _ | .len x | .slen x | .clr _ _ x | .asrt _ _ x => x.uses
  | .pick a b c | .mm3 _ a b c => a.uses ++ b.uses ++ c.uses
  | .mk _ ps => ps.flatMap fun p => p.2.2.uses
  | .lit _ ps | .litO _ _ ps => ps.flatMap AX.uses
  | .st _ x y | .bin _ x y | .beq _ x y | .mkS _ _ _ _ x y | .iad _ x y | .app _ _ _ x y | .mm _ x y | .iar _ _ x y | .ixa _ _ _ x y | .ixs x y | .cpy _ x y | .aeq _ _ x y => x.uses ++ y.uses
  | .pan => []
  | .mkF _ a b => a.flatMap AX.uses ++ b.flatMap AX.uses
  | .sl _ x a b c => x.uses ++ oUses a ++ oUses b ++ oUses c
  | .sls x a b => x.uses ++ oUses a ++ oUses b
def AKK.uses : AKK → List Nat
  | .k q => q.uses
  | .call _ f as => f.uses ++ as.flatMap AX.uses
  | .inv _ _ as => as.flatMap AX.uses
def AOp.uses (o : AOp) : List Nat := (match o.guard with | some (t, _) => [t] | none => []) ++ o.k.uses
def AX.isImm : AX → Bool
  | .c (.imm ..) => true
  | _ => false
def AK.cls : AK → Nat
  | .ld .. | .iad .. | .sl .. | .nileq .. => 1
  | .new .. | .litO .. | .mkS .. => 2
  | .st .. | .clr .. | .cpy .. => 3
  | .app _ _ _ s _ => if s.isImm then 2 else 3
  | _ => 0
def AKK.cls : AKK → Nat
  | .k q => q.cls
  | .call prot _ _ | .inv prot _ _ => if prot then 2 else 4
def clear (d : Option Nat) (us : List Nat) : Bool := us.all fun n => d != some n
def commB (x y : AOp) : Bool :=
  clear x.dst y.uses && clear y.dst x.uses && (x.dst.isNone || y.dst.isNone || x.dst != y.dst) && (x.k.cls == 0 || (x.k.cls == 1 && decide (y.k.cls ≤ 2)) || (x.k.cls == 3 && y.k.cls == 0))
def depsOf (o : Oper) : List Nat := (o.after.toList.filter fun e => Region.binds .any e).map (·.on)
def forceN {α : Type} (n : Nat) (f : Nat → α) : α :=
  match n + 1 with
  | 0 => f 0
  | k + 1 => f k
theorem forceN_eq {α : Type} (n : Nat) (f : Nat → α) : forceN n f = f n := rfl
def forceL {α : Type} : List Nat → (List Nat → α) → α
  | [], f => f []
  | x :: l, f => forceN x fun x => forceL l fun l => f (x :: l)
theorem forceL_eq {α : Type} : ∀ (l : List Nat) (f : List Nat → α), forceL l f = f l
  | [], _ => rfl
  | x :: l, f => by simp only [forceL, forceN_eq, forceL_eq l]
def forceLL {α : Type} : List (List Nat) → (List (List Nat) → α) → α
  | [], f => f []
  | x :: l, f => forceL x fun x => forceLL l fun l => f (x :: l)
theorem forceLL_eq {α : Type} : ∀ (l : List (List Nat)) (f : List (List Nat) → α), forceLL l f = f l
  | [], _ => rfl
  | x :: l, f => by simp only [forceLL, forceL_eq, forceLL_eq l]
def maskOf (l : List Nat) : Nat := l.foldl (fun a n => a ||| 2 ^ n) 0
def dstM (o : AOp) : Nat :=
  match o.dst with
  | some d => 2 ^ d
  | none => 0
def useM (o : AOp) : Nat := maskOf o.uses
def commM (cs ds us : List Nat) (x y : Nat) : Bool :=
  (ds.getD x 0 &&& us.getD y 0) == 0 && (ds.getD y 0 &&& us.getD x 0) == 0 && (ds.getD x 0 &&& ds.getD y 0) == 0 && (cs.getD x 0 == 0 || (cs.getD x 0 == 1 && decide (cs.getD y 0 ≤ 2)) || (cs.getD x 0 == 3 && cs.getD y 0 == 0))
def unionM (cl : List Nat) (ds : List Nat) : Nat := ds.foldl (fun a d => a ||| (2 ^ d ||| cl.getD d 0)) 0
def clM : List Oper → List Nat → List Nat
  | [], acc => acc
  | o :: l, acc => forceL (acc ++ [unionM acc (depsOf o)]) fun acc => clM l acc
def checkCl (ops : List Oper) (cl : List Nat) : Bool :=
  ops.zipIdx.all fun p => (depsOf p.1).all (fun d => decide (d < p.2)) && (cl.getD p.2 0 &&& unionM cl (depsOf p.1)) == cl.getD p.2 0
def linExts (cl : List Nat) : Nat → List Nat → List (List Nat)
  | _, [] => [[]]
  | 0, _ => []
  | n + 1, hs => hs.flatMap fun x => if hs.all (fun y => y == x || !(cl.getD x 0).testBit y) then (linExts cl n (hs.erase x)).map (x :: ·) else []
def pairsOk (cl : List Nat) (hv : Nat) (cm : Nat → Nat → Bool) : List Nat → Bool
  | [] => true
  | x :: r => r.all (fun y => (cl.getD y 0).testBit x || (hv.testBit x && hv.testBit y) || cm x y) && pairsOk cl hv cm r
def checkDraw (cl : List Nat) (hv : Nat) (cm : Nat → Nat → Bool) (n : Nat) (ords : List (List Nat)) : Bool :=
  (linExts cl n ((List.range n).filter fun i => hv.testBit i)).all (fun τ => ords.any fun ord => ord.filter (fun i => hv.testBit i) == τ) &&
  ords.all (fun ord => decide (ord.Nodup) && decide (ord.length = n) && ord.all (fun i => decide (i < n)) && pairsOk cl hv cm ord)
def trDraw (P : Program) (own : List Nat) (ops : Array Oper) (cl : List Nat) (hv : Nat) (ords : List (List Nat)) : Option (List (List AOp)) := do
  let l ← ops.toList.mapM (trOp P own true ops)
  forceL (l.map fun o => o.k.cls) fun cs => forceL (l.map dstM) fun ds => forceL (l.map useM) fun us =>
    if checkCl ops.toList cl = true ∧ checkDraw cl hv (commM cs ds us) l.length ords = true ∧ P.follows .mixedOrders = true then
      some (ords.map fun ord => ord.map fun i => l.getD i default)
    else none
def hvOf (cl cs : List Nat) : Nat :=
  let r := List.range cs.length
  maskOf (r.filter fun i =>
    match cs.getD i 0 with
    | 0 => false
    | 1 => r.any fun j => decide (3 ≤ cs.getD j 0) && !(cl.getD i 0).testBit j && !(cl.getD j 0).testBit i
    | _ => true)
def hv2Of (cl cs : List Nat) : Nat :=
  let r := List.range cs.length
  maskOf (r.filter fun i =>
    match cs.getD i 0 with
    | 0 => r.any fun j => decide (2 ≤ cs.getD j 0) && (cl.getD i 0).testBit j && r.any fun k => decide (2 ≤ cs.getD k 0) && !(cl.getD i 0).testBit k && !(cl.getD k 0).testBit i
    | 1 => (r.any fun j => decide (3 ≤ cs.getD j 0) && !(cl.getD i 0).testBit j && !(cl.getD j 0).testBit i) ||
        r.any fun j => decide (2 ≤ cs.getD j 0) && (cl.getD i 0).testBit j && r.any fun k => decide (2 ≤ cs.getD k 0) && !(cl.getD i 0).testBit k && !(cl.getD k 0).testBit i
    | _ => true)
def autoGo (cl : List Nat) (hv : Nat) : Nat → List Nat → Nat → List Nat → List Nat
  | 0, _, _, _ => []
  | n + 1, rest, rm, τ =>
    match rest.find? (fun i => !hv.testBit i && (cl.getD i 0 &&& rm) == 0) with
    | some i => i :: forceL (rest.filter (· != i)) fun rest => forceN (rm ^^^ 2 ^ i) fun rm => autoGo cl hv n rest rm τ
    | none => match τ with
      | h :: τ => h :: forceL (rest.filter (· != h)) fun rest => forceN (rm ^^^ 2 ^ h) fun rm => autoGo cl hv n rest rm τ
      | [] => []
def autoOrds (cl : List Nat) (hv : Nat) (n : Nat) : List (List Nat) :=
  (linExts cl n ((List.range n).filter fun i => hv.testBit i)).map (autoGo cl hv n (List.range n) (2 ^ n - 1))
def trHv (P : Program) (own : List Nat) (ops : Array Oper) (n : Nat) (cl : List Nat) (hv : Nat) : Option (List (List AOp)) :=
  forceN hv fun hv => forceLL (autoOrds cl hv n) fun ords => trDraw P own ops cl hv ords
def trReg (P : Program) (own : List Nat) (ops : Array Oper) : Option (List (List AOp)) := do
  let l ← ops.toList.mapM (trOp P own true ops)
  forceL (clM ops.toList []) fun cl => forceL (l.map fun o => o.k.cls) fun cs =>
    match trHv P own ops l.length cl (hvOf cl cs) with
    | some ls => some ls
    | none => trHv P own ops l.length cl (hv2Of cl cs)
theorem trReg_some {P : Program} {own : List Nat} {ops : Array Oper} {ls : List (List AOp)} (h : trReg P own ops = some ls) : ∃ cl hv ords, trDraw P own ops cl hv ords = some ls := by
  simp only [trReg, Option.bind_eq_bind, Option.bind_eq_some_iff, forceL_eq] at h
  obtain ⟨l, _, h⟩ := h
  split at h
  · rename_i ls' h'
    cases h
    simp only [trHv, forceN_eq, forceLL_eq] at h'
    exact ⟨_, _, _, h'⟩
  · simp only [trHv, forceN_eq, forceLL_eq] at h
    exact ⟨_, _, _, h⟩
def parC : List (List AOp) → AC
  | [l] => .ops l
  | ls => .par ls
def trMv : Code → Option (List (Nat × Nat))
  | .skip => some []
  | .region _ ops false => match ops.toList with
    | [o] => match o.dst, o.op, o.guard with
      | some d, .assign (.tmp s), none => some [(d, s)]
      | _, _, _ => none
    | _ => none
  | .seq a b => do some ((← trMv a) ++ (← trMv b))
  | _ => none
def trC (P : Program) (own : List Nat) : Code → Option AC
  | .skip => some .skip
  | .region _ ops false => (ops.toList.mapM (trOp P own false ops)).map .ops
  | .region _ ops true => (trReg P own ops).map parC
  | .seq a b => do some (.seq (← trC P own a) (← trC P own b))
  | .cond c a b => do some (.cond (← trX c) (← trC P own a) (← trC P own b))
  | .block id c => do some (.block id (← trC P own c))
  | .loop c => do some (.loop (← trC P own c))
  | .exit id => some (.exit id)
  | .ret => some .ret
  | .rangeFunc g ps asg body => do some (.range (← trX g) ps.toList (← trMv asg) (← trC P own body))
  | _ => none
theorem trC_region {P : Program} {own : List Nat} {id : Nat} {ops : Array Oper} {d : Bool} {ac : AC} (h : trC P own (.region id ops d) = some ac) : (∃ l, ac = .ops l) ∨ ∃ ls, ac = .par ls := by
  cases d with
  | false =>
    simp only [trC, Option.map_eq_some_iff] at h
    obtain ⟨l, _, rfl⟩ := h
    exact .inl ⟨l, rfl⟩
  | true =>
    simp only [trC, Option.map_eq_some_iff] at h
    obtain ⟨ls, _, rfl⟩ := h
    unfold parC
    split
    · exact .inl ⟨_, rfl⟩
    · exact .inr ⟨_, rfl⟩
end Go.Fw
