/- The abstract machine: values, heaps, code, the interpreter. Nothing here is trusted. -/
import Derived.Calls
namespace Go.Am
open Go

/-- A value of one cell without an address. -/
inductive S where
  | int (k : IntKind) (n : Int)
  | bool (b : Bool)
  | str (s : ByteArray)

def S.val : S → Value
  | .int k n => .int k n
  | .bool b => .bool b
  | .str s => .string s

def S.zero : S := .int .i64 0

/-- What is known of a slice's capacity. -/
inductive Cp where
  | ex (k : Nat)
  | unk
  | whole

inductive V where
  | s (x : S)
  | agg (n : Nat) (g : Nat → S)
  | aggv (l : List V)
  | ptr (b o z : Nat)
  | pnil
  | sl (b o n z : Nat) (m : Cp)
  | slz
  | snil
  | map (b : Nat)
  | mnil
  | fn (f : FuncId) (l : List V)
  | fnil
  | iface (t : TypeId) (x : V)
  | inil
  | tup (l : List V)
  | undef

inductive Md where
  | ro
  | var
  | grow

inductive Blk where
  | sc (m : Md) (n : Nat) (g : Nat → S)
  | vs (m : Md) (l : List V)
  | mp (m : Md) (l : List (S × V))
  | dead

abbrev Env := List V
abbrev Heap := List Blk

/-- Zero values. -/
inductive Z where
  | ints (n : Nat)
  | scl (l : List S)
  | vl (l : List V)
  | one (v : V)

inductive O where
  | t (n : Nat)
  | k (v : V)

def O.ev (x : O) (e : Env) : V :=
  match x with
  | .t n => e.getD n .undef
  | .k v => v

inductive PIns where
  | mv (x : O)
  | pick (c a b : O)
  | build (z : Z) (parts : List (Nat × Nat × O))
  | nilck (x : O)
  | bin (op : BinOp) (x y : O)
  | eqb (neg : Bool) (x y : O)
  | eqa (neg : Bool) (n : Nat) (x y : O)
  | eqn (neg : Bool) (x y : O)
  | un (op : UnOp) (x : O)
  | conv (k : IntKind) (x : O)
  | mkfn (f : FuncId) (caps : List O)
  | fa (off z : Nat) (x : O)
  | fld (agg : Bool) (off n : Nat) (x : O)
  | ixa (len z : Nat) (x i : O)
  | ixs (z : Nat) (x i : O)
  | ix (len z : Nat) (agg : Bool) (x i : O)
  | ixstr (x i : O)
  | slS (x : O) (lo hi : Option O)
  | slV (z : Nat) (x : O) (lo hi : Option O)
  | slA (len z : Nat) (x : O) (lo hi : Option O)
  | ext (x : O) (i : Nat)
  | len (x : O)
  | lenS (x : O)
  | lenK (n : Nat)
  | mn (xs : List O)
  | mx (xs : List O)

inductive HIns where
  | alloc (z : Z)
  | box (x : O)
  | mksl (len z : Nat) (zero : Z) (parts : List (Nat × O))
  | load (agg : Bool) (n : Nat) (a : O)
  | store (n : Nat) (a x : O)
  | call (f : O) (args : List O)
  | callq (f : O) (args : List O)
  | append (z bytes : Nat) (s x : O)
  | mkslice (z : Nat) (bytes : Nat) (zero : Z) (len cap : O)
  | b2s (x : O)
  | mkmap
  | mput (m k v : O)
  | mget (zero : Z) (ok : Bool) (m k : O)
  | allocd (n : Nat)
  | init0 (n : Nat) (a x : O)
  | revive (n : Nat) (a x : O)

inductive Ins where
  | p (i : PIns)
  | h (i : HIns)

structure I where
  dst : Option Nat
  g : Option (Nat × Bool)
  ins : Ins

inductive Rv where
  | tmp (t : Nat)
  | cell (a : Nat) (agg : Bool) (n : Nat)

inductive AC where
  | skip
  | ops (l : List I)
  | seq (a b : AC)
  | cond (c : O) (a b : AC)
  | block (id : Nat) (b : AC)
  | loop (b : AC)
  | exit (id : Nat)
  | ret

structure AF where
  nt : Nat
  res : List Rv
  body : AC

/-! ### Scalars -/

def andB {n : Nat} (a b : BitVec n) : BitVec n := a &&& b

def intBits (op : BinOp) (k : IntKind) (x y : Int) : Option S :=
  let a := BitVec.ofInt k.bits x
  let b := BitVec.ofInt k.bits y
  match op with
  | .and => some (.int k (k.wrap (a &&& b).toNat))
  | .or => some (.int k (k.wrap (a ||| b).toNat))
  | .xor => some (.int k (k.wrap (a ^^^ b).toNat))
  | .andNot => some (.int k (k.wrap (a &&& ~~~b).toNat))
  | _ => none

def binInt (op : BinOp) (k : IntKind) (a b : Int) : Option S :=
  match op with
  | .add => some (.int k (k.wrap (a + b)))
  | .sub => some (.int k (k.wrap (a - b)))
  | .mul => some (.int k (k.wrap (a * b)))
  | .quo => if b = 0 then none else some (.int k (k.wrap (a.tdiv b)))
  | .rem => if b = 0 then none else some (.int k (a.tmod b))
  | .eql => some (.bool (a == b))
  | .neq => some (.bool (a != b))
  | .lss => some (.bool (decide (a < b)))
  | .leq => some (.bool (decide (a ≤ b)))
  | .gtr => some (.bool (decide (a > b)))
  | .geq => some (.bool (decide (a ≥ b)))
  | op => intBits op k a b

def shiftS (op : BinOp) (k : IntKind) (a b : Int) : Option S :=
  if b < 0 then none else
  match op with
  | .shl => some (.int k (k.wrap (a * 2 ^ (min b.toNat k.bits))))
  | .shr => some (.int k (a.fdiv (2 ^ (min b.toNat k.bits))))
  | _ => none

def binStr (op : BinOp) (x y : ByteArray) : Option S :=
  match op with
  | .add => if ((x.size + y.size : Nat) : Int) > IntKind.i64.max then none else some (.str (x ++ y))
  | .eql => some (.bool (x.toList == y.toList))
  | .neq => some (.bool (!(x.toList == y.toList)))
  | _ => none

def binS (op : BinOp) (a b : S) : Option S :=
  match op, a, b with
  | .shl, .int k a, .int _ b => shiftS .shl k a b
  | .shr, .int k a, .int _ b => shiftS .shr k a b
  | op, .int k a, .int k' b => if k = k' then binInt op k a b else none
  | op, .str a, .str b => binStr op a b
  | _, _, _ => none

/-- Two whole numbers of one kind. -/
def S.fits (a b : S) : Bool :=
  match a, b with
  | .int k _, .int k' _ => decide (k = k')
  | _, _ => false

def S.eqB (a b : S) : Bool :=
  match a, b with
  | .int _ a, .int _ b => decide (a = b)
  | .bool a, .bool b => a == b
  | .str a, .str b => a == b
  | _, _ => false

/-- All of the first n. -/
def allB (n : Nat) (f : Nat → Bool) : Bool :=
  match n with
  | 0 => true
  | n + 1 => allB n f && f n

def unS (op : UnOp) (x : S) : Option S :=
  match op, x with
  | .neg, .int k n => some (.int k (k.wrap (0 - n)))
  | .not, .bool b => some (.bool (!b))
  | _, _ => none

/-! ### Cells -/

def V.isS : V → Option S
  | .s x => some x
  | _ => none

/-- A list of cells, as scalars, if all are. -/
def scals : List V → Option (List S)
  | [] => some []
  | x :: l => match x.isS, scals l with
    | some a, some r => some (a :: r)
    | _, _ => none

def mkAgg (l : List V) : V :=
  match scals l with
  | some r => .agg r.length (fun i => r.getD i S.zero)
  | none => .aggv l

/-- May it lie in one cell? -/
def V.one : V → Bool
  | .s _ | .ptr .. | .pnil | .sl .. | .slz | .snil | .map _ | .mnil | .fn .. | .fnil | .iface .. | .inil => true
  | _ => false

/-- The scalar cells of a value, as a function, if it has n. -/
def V.scells (x : V) (n : Nat) : Option (Nat → S) :=
  match x with
  | .s y => if n = 1 then some (fun _ => y) else none
  | .agg m g => if m = n then some g else none
  | _ => none

/-- The cells of a value, as a list, if it has n. -/
def V.vcells (x : V) (n : Nat) : Option (List V) :=
  match x with
  | .agg m g => if m = n then some ((List.range n).map fun i => .s (g i)) else none
  | .aggv l => if l.length = n then some l else none
  | x => if x.one && n == 1 then some [x] else none

def over (g : Nat → S) (off n : Nat) (h : Nat → S) : Nat → S := fun i => bif Nat.ble off i && Nat.blt i (off + n) then h (i - off) else g i

def Z.size : Z → Nat
  | .ints n => n
  | .scl l => l.length
  | .vl l => l.length
  | .one _ => 1

/-- Zero cells as scalars. -/
def Z.sc : Z → Option (Nat → S)
  | .ints _ => some fun _ => S.zero
  | .scl l => some fun i => l.getD i S.zero
  | .one (.s x) => some fun _ => x
  | _ => none

def Z.vc : Z → List V
  | .ints n => List.replicate n (.s S.zero)
  | .scl l => l.map .s
  | .vl l => l
  | .one v => [v]

def Z.v : Z → V
  | .ints n => .agg n fun _ => S.zero
  | .scl l => .agg l.length fun i => l.getD i S.zero
  | .vl l => .aggv l
  | .one v => v

def fillS (e : Env) : List (Nat × Nat × O) → (Nat → S) → Option (Nat → S)
  | [], g => some g
  | (off, n, x) :: r, g => match (x.ev e).scells n with
    | some h => fillS e r (over g off n h)
    | none => none

def fillV (e : Env) : List (Nat × Nat × O) → List V → Option (List V)
  | [], l => some l
  | (off, n, x) :: r, l => match (x.ev e).vcells n with
    | some c => if off + n ≤ l.length then fillV e r (l.take off ++ c ++ l.drop (off + n)) else none
    | none => none

/-- Do all parts lie within n cells? -/
def inside (n : Nat) : List (Nat × Nat × O) → Bool
  | [] => true
  | (off, m, _) :: r => decide (off + m ≤ n) && inside n r

def num? : V → Option Int
  | .s (.int _ n) => some n
  | _ => none

def bound (e : Env) (x : Option O) (d : Nat) : Option Int :=
  match x with
  | none => some d
  | some x => num? (x.ev e)

def foldInt (f : Int → Int → Int) (k : IntKind) (a : Int) : List V → Option V
  | [] => some (.s (.int k a))
  | .s (.int _ b) :: r => foldInt f k (f a b) r
  | _ => none

def foldInts (f : Int → Int → Int) : List V → Option V
  | .s (.int k a) :: r => foldInt f k a r
  | _ => none

def ebuild (e : Env) (z : Z) (parts : List (Nat × Nat × O)) : Option V :=
  match (if inside z.size parts then z.sc.bind (fillS e parts) else none) with
  | some g => some (.agg z.size g)
  | none => (fillV e parts z.vc).map mkAgg

def pureV (i : PIns) (e : Env) : Option V :=
  match i with
  | .mv x => some (x.ev e)
  | .pick c a b => match c.ev e with
    | .s (.bool t) => some (bif t then a.ev e else b.ev e)
    | _ => none
  | .build z parts => ebuild e z parts
  | .nilck x => match x.ev e with
    | .ptr b o z => some (.ptr b o z)
    | .fn f l => some (.fn f l)
    | _ => none
  | .bin op x y => match x.ev e, y.ev e with
    | .s a, .s b => (binS op a b).map .s
    | _, _ => none
  | .eqb neg x y => match x.ev e, y.ev e with
    | .s (.bool a), .s (.bool b) => some (.s (.bool (bif neg then !(a == b) else a == b)))
    | _, _ => none
  | .eqa neg n x y => match x.ev e, y.ev e with
    | .agg n1 g, .agg n2 h => if n1 = n ∧ n2 = n then (bif allB n (fun i => (g i).fits (h i)) then some (.s (.bool (bif neg then !(allB n fun i => (g i).eqB (h i)) else allB n fun i => (g i).eqB (h i)))) else none) else none
    | _, _ => none
  | .eqn neg x y => match x.ev e, y.ev e with
    | .snil, .snil | .fnil, .fnil | .pnil, .pnil | .mnil, .mnil => some (.s (.bool (!neg)))
    | .sl .., .snil | .snil, .sl .. | .slz, .snil | .snil, .slz | .fn .., .fnil | .fnil, .fn .. | .ptr .., .pnil | .pnil, .ptr .. | .map _, .mnil | .mnil, .map _ => some (.s (.bool neg))
    | _, _ => none
  | .un op x => match x.ev e with
    | .s a => (unS op a).map .s
    | _ => none
  | .conv k x => match x.ev e with
    | .s (.int _ n) => some (.s (.int k (k.wrap n)))
    | _ => none
  | .mkfn f caps => some (.fn f (caps.map (·.ev e)))
  | .fa off z x => match x.ev e with
    | .ptr b o z' => if off + z ≤ z' then some (.ptr b (o + off) z) else none
    | _ => none
  | .fld agg off n x => match x.ev e with
    | .agg m g => if off + n ≤ m then some (bif agg then .agg n (fun i => g (off + i)) else .s (g off)) else none
    | .aggv l => if off + n ≤ l.length then (bif agg then some (mkAgg ((l.drop off).take n)) else l[off]?) else none
    | _ => none
  | .ixa len z x i => match x.ev e, i.ev e with
    | .ptr b o z', .s (.int _ k) => if len * z ≤ z' then (if 0 ≤ k ∧ k < len then some (.ptr b (o + k.toNat * z) z) else none) else none
    | _, _ => none
  | .ixs z x i => match x.ev e, i.ev e with
    | .sl b o n z' _, .s (.int _ k) => if z = z' then (if 0 ≤ k ∧ k < n then some (.ptr b (o + k.toNat * z) z) else none) else none
    | _, _ => none
  | .ix len z agg x i => match x.ev e, i.ev e with
    | .agg m g, .s (.int _ k) => if len * z ≤ m then (if 0 ≤ k ∧ k < len then some (bif agg then .agg z (fun j => g (k.toNat * z + j)) else .s (g (k.toNat * z))) else none) else none
    | .aggv l, .s (.int _ k) => if len * z ≤ l.length then (if 0 ≤ k ∧ k < len then (bif agg then some (mkAgg ((l.drop (k.toNat * z)).take z)) else l[k.toNat * z]?) else none) else none
    | _, _ => none
  | .ixstr x i => match x.ev e, i.ev e with
    | .s (.str s), .s (.int _ k) => if 0 ≤ k ∧ k < s.size then some (.s (.int .u8 (s.data.getD k.toNat 0).toNat)) else none
    | _, _ => none
  | .slS x lo hi => match x.ev e with
    | .s (.str s) => match bound e lo 0, bound e hi s.size with
      | some l, some h => if 0 ≤ l ∧ l ≤ h ∧ h ≤ s.size then some (.s (.str (s.extract l.toNat h.toNat))) else none
      | _, _ => none
    | _ => none
  | .slV z x lo hi => match x.ev e with
    | .sl b o n z' m => match bound e lo 0, bound e hi n with
      | some l, some h =>
        if z = z' then
          match m with
          | .ex c => if 0 ≤ l ∧ l ≤ h ∧ h ≤ c then some (.sl b (if c = l.toNat then o else o + l.toNat * z) (h.toNat - l.toNat) z (.ex (c - l.toNat))) else none
          | _ => if 0 ≤ l ∧ l ≤ h ∧ h ≤ n then (if l < n then some (.sl b (o + l.toNat * z) (h.toNat - l.toNat) z .unk) else some .slz) else none
        else none
      | _, _ => none
    | .slz => match bound e lo 0, bound e hi 0 with
      | some 0, some 0 => some .slz
      | _, _ => none
    | .snil => match bound e lo 0, bound e hi 0 with
      | some 0, some 0 => some .snil
      | _, _ => none
    | _ => none
  | .slA len z x lo hi => match x.ev e with
    | .ptr b o z' => match bound e lo 0, bound e hi len with
      | some l, some h => if len * z ≤ z' then (if 0 ≤ l ∧ l ≤ h ∧ h ≤ len then (if l < len then some (.sl b (o + l.toNat * z) (h.toNat - l.toNat) z (.ex (len - l.toNat))) else some .slz) else none) else none
      | _, _ => none
    | _ => none
  | .ext x i => match x.ev e with
    | .tup l => l[i]?
    | _ => none
  | .len x => match x.ev e with
    | .sl _ _ n _ _ => some (.s (.int .i64 n))
    | .slz | .snil => some (.s (.int .i64 0))
    | _ => none
  | .lenS x => match x.ev e with
    | .s (.str s) => some (.s (.int .i64 s.size))
    | _ => none
  | .lenK n => some (.s (.int .i64 n))
  | .mn xs => foldInts (fun a b => if b < a then b else a) (xs.map (·.ev e))
  | .mx xs => foldInts (fun a b => if a < b then b else a) (xs.map (·.ev e))

/-! ### The heap -/

def Md.mut : Md → Bool
  | .ro => false
  | _ => true

def rdV (σ : Heap) (b o n : Nat) (agg : Bool) : Option V :=
  match σ[b]? with
  | some (.sc _ _ g) => some (bif agg then .agg n (fun i => g (o + i)) else .s (g o))
  | some (.vs _ l) => bif agg then (if o + n ≤ l.length then some (mkAgg ((l.drop o).take n)) else none) else l[o]?
  | _ => none

def wrV (σ : Heap) (b o n : Nat) (x : V) : Option Heap :=
  match σ[b]? with
  | some (.sc m k g) => if m.mut then (x.scells n).map fun h => σ.set b (.sc m k (over g o n h)) else none
  | some (.vs m l) => if m.mut then (x.vcells n).bind fun c => if o + n ≤ l.length ∧ c.all V.one = true then some (σ.set b (.vs m (l.take o ++ c ++ l.drop (o + n)))) else none else none
  | _ => none

/-- The cells of a slice that is read: m elements of z cells. -/
inductive Src where
  | sc (g : Nat → S)
  | vs (l : List V)

def srcOf (σ : Heap) (z : Nat) (x : V) : Option (Nat × Src) :=
  match x with
  | .snil | .slz => some (0, .sc fun _ => S.zero)
  | .sl b o m z' _ => if z = z' then (match σ[b]? with
    | some (.sc _ _ g) => some (m, .sc fun i => g (o + i))
    | some (.vs _ l) => if o + m * z ≤ l.length ∧ ((l.drop o).take (m * z)).all V.one = true then some (m, .vs ((l.drop o).take (m * z))) else none
    | _ => none) else none
  | _ => none

def joinSrc (n m : Nat) (a b : Src) : Option Blk :=
  match a, b with
  | .sc g, .sc h => some (.sc .grow (n + m) (fun i => bif Nat.blt i n then g i else h (i - n)))
  | .vs l, .vs r => if l.length = n ∧ r.length = m then some (.vs .grow (l ++ r)) else none
  | .vs [], .sc h => if n = 0 then some (.sc .grow m h) else none
  | .sc g, .vs [] => if m = 0 then some (.sc .grow n g) else none
  | _, _ => none

def kill (σ : Heap) (b : Nat) : Heap := σ.set b .dead

def roomy (n bytes : Nat) : Bool := Nat.ble (n * bytes) 140737488355328

def appendV (σ : Heap) (z bytes : Nat) (s x : V) : Option (V × Heap) :=
  match srcOf σ z x with
  | none => none
  | some (m, r) =>
    match s with
    | .snil => if m = 0 then some (.snil, σ) else bif roomy m bytes then (joinSrc 0 (m * z) (.vs []) r).map fun b => (.sl σ.length 0 m z .whole, σ ++ [b]) else none
    | .sl b o n z' (.ex c) => if z = z' then
        if n + m ≤ c then
          match r with
          | .sc h => (wrV σ b (o + n * z) (m * z) (.agg (m * z) h)).map fun σ' => (.sl b o (n + m) z (.ex c), σ')
          | .vs l => (wrV σ b (o + n * z) (m * z) (.aggv l)).map fun σ' => (.sl b o (n + m) z (.ex c), σ')
        else bif roomy (n + m) bytes then match srcOf σ z s with
          | some (_, q) => (joinSrc (n * z) (m * z) q r).map fun b => (.sl σ.length 0 (n + m) z .whole, σ ++ [b])
          | none => none
        else none
      else none
    | .sl b _ n z' .whole => if z = z' then
        bif roomy (n + m) bytes then match srcOf σ z s, σ[b]? with
          | some (_, q), some (.sc .grow _ _) => (joinSrc (n * z) (m * z) q r).map fun nb => (.sl σ.length 0 (n + m) z .whole, kill σ b ++ [nb])
          | some (_, q), some (.vs .grow _) => (joinSrc (n * z) (m * z) q r).map fun nb => (.sl σ.length 0 (n + m) z .whole, kill σ b ++ [nb])
          | _, _ => none
        else none
      else none
    | _ => none

def boxB (x : V) : Option Blk :=
  match x with
  | .s y => some (.sc .var 1 fun _ => y)
  | .agg n g => some (.sc .var n g)
  | .aggv l => some (.vs .var l)
  | x => if x.one then some (.vs .var [x]) else none

def Z.blk : Z → Blk
  | .ints n => .sc .var n fun _ => S.zero
  | .scl l => .sc .var l.length fun i => l.getD i S.zero
  | .vl l => .vs .var l
  | .one (.s x) => .sc .var 1 fun _ => x
  | .one v => .vs .var [v]

/-- len times the cells of a zero value. -/
def Z.row (z : Z) (len : Nat) : Blk :=
  match z with
  | .ints n => .sc .var (len * n) fun _ => S.zero
  | .scl l => .sc .var (len * l.length) fun i => l.getD (i % l.length) S.zero
  | .one (.s x) => .sc .var len fun _ => x
  | .vl l => .vs .var ((List.replicate len l).flatten)
  | .one v => .vs .var (List.replicate len v)

def fillRow (e : Env) (b : Blk) (parts : List (Nat × Nat × O)) : Option Blk :=
  match b with
  | .sc m n g => if inside n parts then (match fillS e parts g with
    | some h => some (.sc m n h)
    | none => none) else none
  | .vs m l => (fillV e parts l).map (.vs m)
  | _ => none

/-! ### Renaming, and the part of a heap that some values lead to -/

mutual
def V.refs : V → List Nat
  | .ptr b _ _ => [b]
  | .sl b _ _ _ _ => [b]
  | .map b => [b]
  | .aggv l => V.refsL l
  | .fn _ l => V.refsL l
  | .tup l => V.refsL l
  | .iface _ x => V.refs x
  | _ => []
def V.refsL : List V → List Nat
  | [] => []
  | x :: l => V.refs x ++ V.refsL l
end

def Blk.refs : Blk → List Nat
  | .vs _ l => V.refsL l
  | .mp _ l => V.refsL (l.map (·.2))
  | _ => []

mutual
def V.ren (f : Nat → Option Nat) : V → Option V
  | .ptr b o z => (f b).map fun b => .ptr b o z
  | .sl b o n z m => (f b).map fun b => .sl b o n z m
  | .map b => (f b).map .map
  | .aggv l => (V.renL f l).map .aggv
  | .fn g l => (V.renL f l).map (.fn g)
  | .tup l => (V.renL f l).map .tup
  | .iface t x => (V.ren f x).map (.iface t)
  | .s x => some (.s x)
  | .agg n g => some (.agg n g)
  | .pnil => some .pnil
  | .slz => some .slz
  | .snil => some .snil
  | .mnil => some .mnil
  | .fnil => some .fnil
  | .inil => some .inil
  | .undef => some .undef
def V.renL (f : Nat → Option Nat) : List V → Option (List V)
  | [] => some []
  | x :: l => match V.ren f x, V.renL f l with
    | some y, some r => some (y :: r)
    | _, _ => none
end

def lower (q : Bool) (m : Md) : Md := bif q then .ro else m

def renM (f : Nat → Option Nat) : List (S × V) → Option (List (S × V))
  | [] => some []
  | (k, x) :: l => match V.ren f x, renM f l with
    | some y, some r => some ((k, y) :: r)
    | _, _ => none

def Blk.ren (q : Bool) (f : Nat → Option Nat) : Blk → Option Blk
  | .sc m n g => some (.sc (lower q m) n g)
  | .vs m l => (V.renL f l).map (.vs (lower q m))
  | .mp m l => (renM f l).map (.mp (lower q m))
  | .dead => some .dead

def reach (σ : Heap) : Nat → List Nat → List Nat → List Nat
  | 0, _, acc => acc
  | _ + 1, [], acc => acc
  | n + 1, b :: w, acc => bif acc.contains b then reach σ n w acc else reach σ n ((σ.getD b .dead).refs ++ w) (acc ++ [b])

def pos (b : Nat) : List Nat → Option Nat
  | [] => none
  | c :: l => bif c == b then some 0 else (pos b l).map (· + 1)

/-- The blocks named, renamed. -/
def pickB (q : Bool) (f : Nat → Option Nat) (σ : Heap) : List Nat → Option (List Blk)
  | [] => some []
  | b :: l => match (σ[b]?).bind (Blk.ren q f), pickB q f σ l with
    | some x, some r => some (x :: r)
    | _, _ => none

/-- Blocks put back at their places. -/
def putB (σ : Heap) : List Nat → List Blk → Heap
  | b :: l, x :: r => putB (σ.set b x) l r
  | _, _ => σ

abbrev Runner := FuncId → List V → Heap → Option (V × Heap)

def nodup : List Nat → Bool
  | [] => true
  | b :: l => !l.contains b && nodup l

/-- A call over the blocks that its arguments lead to; q: these may not be written. -/
def enterC (q : Bool) (all : List V) (σ : Heap) : Option (List Nat × List V × Heap) :=
  let rs := reach σ 64 (V.refsL all) []
  match V.renL (pos · rs) all, pickB q (pos · rs) σ rs with
  | some as, some σ0 => some (rs, as, σ0)
  | _, _ => none

/-- The callee's new blocks that the caller keeps. -/
def newIds (q : Bool) (k : Nat) (r : V) (σ1 : Heap) : List Nat :=
  (reach σ1 64 (r.refs ++ bif q then [] else (σ1.take k).flatMap Blk.refs) []).filter (fun b => Nat.ble k b)

def backF (rs ns : List Nat) (n k : Nat) : Nat → Option Nat := fun b => bif Nat.blt b k then rs[b]? else (pos b ns).map (n + ·)

def leaveC (q : Bool) (σ : Heap) (rs : List Nat) (r : V) (σ1 : Heap) : Option (V × Heap) :=
  let ns := newIds q rs.length r σ1
  bif nodup rs && nodup ns && Nat.ble rs.length σ1.length then
    match V.ren (backF rs ns σ.length rs.length) r, pickB false (backF rs ns σ.length rs.length) σ1 ns with
    | some r', some new => bif q then some (r', σ ++ new) else
      (match pickB false (backF rs ns σ.length rs.length) σ1 (List.range rs.length) with
      | some old => some (r', putB σ rs old ++ new)
      | none => none)
    | _, _ => none
  else none

def callWith (run : Runner) (q : Bool) (v : V) (args : List V) (σ : Heap) : Option (V × Heap) :=
  match v with
  | .fn f caps => (enterC q (args ++ caps) σ).bind fun x => (run f x.2.1 x.2.2).bind fun y => leaveC q σ x.1 y.1 y.2
  | _ => none

def mfind (k : S) : List (S × V) → Option V
  | [] => none
  | (j, v) :: l => bif j.eqB k then some v else mfind k l

def mput (k : S) (v : V) : List (S × V) → List (S × V)
  | [] => [(k, v)]
  | (j, u) :: l => bif j.eqB k then (j, v) :: l else (j, u) :: mput k v l

def byteOf : S → Nat
  | .int _ n => n.toNat
  | _ => 0
def isByte : S → Bool
  | .int .u8 _ => true
  | _ => false

def heapV (run : Runner) (i : HIns) (e : Env) (σ : Heap) : Option (V × Heap) :=
  match i with
  | .alloc z => some (.ptr σ.length 0 z.size, σ ++ [z.blk])
  | .box x => match boxB (x.ev e) with
    | some (.sc m n g) => some (.ptr σ.length 0 n, σ ++ [.sc m n g])
    | some (.vs m l) => some (.ptr σ.length 0 l.length, σ ++ [.vs m l])
    | _ => none
  | .mksl len z zero parts => (fillRow e (zero.row len) (parts.map fun p => (p.1 * z, z, p.2))).map fun b => (.sl σ.length 0 len z (.ex len), σ ++ [b])
  | .load agg n a => match a.ev e with
    | .ptr b o z => if n ≤ z then (rdV σ b o n agg).map (·, σ) else none
    | _ => none
  | .store n a x => match a.ev e with
    | .ptr b o z => if n ≤ z then (wrV σ b o n (x.ev e)).map (.undef, ·) else none
    | _ => none
  | .call f args => callWith run false (f.ev e) (args.map (·.ev e)) σ
  | .callq f args => callWith run true (f.ev e) (args.map (·.ev e)) σ
  | .append z bytes s x => appendV σ z bytes (s.ev e) (x.ev e)
  | .mkslice z bytes zero len cap => match len.ev e, cap.ev e with
    | .s (.int .i64 l), .s (.int .i64 c) => if 0 ≤ l ∧ l ≤ c ∧ zero.size = z ∧ c ≤ 9223372036854775807 then (bif roomy c.toNat bytes then some (.sl σ.length 0 l.toNat z (.ex c.toNat), σ ++ [zero.row c.toNat]) else none) else none
    | _, _ => none
  | .b2s x => match x.ev e with
    | .sl b o n z _ => match σ[b]? with
      | some (.sc _ _ g) => if z = 1 then bif allB n (fun i => isByte (g (o + i))) then some (.s (.str ⟨((List.range n).map fun i => UInt8.ofNat (byteOf (g (o + i)))).toArray⟩), σ) else none else none
      | _ => none
    | .snil => some (.s (.str ⟨#[]⟩), σ)
    | _ => none
  | .mkmap => some (.map σ.length, σ ++ [.mp .var []])
  | .mput m k v => match m.ev e, k.ev e with
    | .map b, .s j => match σ[b]? with
      | some (.mp md l) => if md.mut then (bif l.all (fun p => p.1.fits j) && j.fits j then some (.undef, σ.set b (.mp md (Am.mput j (v.ev e) l))) else none) else none
      | _ => none
    | _, _ => none
  | .mget zero ok m k => match m.ev e, k.ev e with
    | .map b, .s j => match σ[b]? with
      | some (.mp _ l) => bif l.all (fun p => p.1.fits j) then (match mfind j l with
        | some v => some (bif ok then .tup [v, .s (.bool true)] else v, σ)
        | none => some (bif ok then .tup [zero.v, .s (.bool false)] else zero.v, σ)) else none
      | _ => none
    | _, _ => none
  | .allocd n => some (.ptr σ.length 0 n, σ ++ [.dead])
  | .init0 n a x => match a.ev e, (x.ev e).scells n with
    | .ptr b _ _, some _ => match σ[b]? with
      | some .dead => some (.undef, σ)
      | _ => none
    | _, _ => none
  | .revive n a x => match a.ev e, (x.ev e).scells n with
    | .ptr b _ _, some g => match σ[b]? with
      | some .dead => some (.undef, σ.set b (.sc .var n g))
      | _ => none
    | _, _ => none

/-! ### Code -/

inductive Ex where
  | normal
  | exit (id : Nat)
  | ret

def putT (e : Env) (d : Option Nat) (v : V) : Env :=
  match d with
  | some d => e.set d v
  | none => e

def insV (run : Runner) (i : Ins) (e : Env) (σ : Heap) : Option (V × Heap) :=
  match i with
  | .p i => (pureV i e).map (·, σ)
  | .h i => heapV run i e σ

def stepI (run : Runner) (o : I) (e : Env) (σ : Heap) : Option (Env × Heap) :=
  match o.g with
  | none => (insV run o.ins e σ).map fun r => (putT e o.dst r.1, r.2)
  | some (t, want) => match e.getD t .undef with
    | .s (.bool b) => bif b == want then (insV run o.ins e σ).map fun r => (putT e o.dst r.1, r.2) else some (putT e o.dst (.tup []), σ)
    | .tup [] => some (putT e o.dst (.tup []), σ)
    | _ => none

def opsV (run : Runner) : List I → Env → Heap → Option (Env × Heap)
  | [], e, σ => some (e, σ)
  | o :: l, e, σ => (stepI run o e σ).bind fun r => opsV run l r.1 r.2

abbrev Res := Option (Ex × Env × Heap)

def Ex.then (r : Res) (f : Env → Heap → Res) : Res :=
  match r with
  | some (.normal, e, σ) => f e σ
  | r => r

def loopF (body : Env → Heap → Res) : Nat → Env → Heap → Res
  | 0, _, _ => none
  | n + 1, e, σ => Ex.then (body e σ) (loopF body n)

def exec (run : Runner) (n : Nat) : AC → Env → Heap → Res
  | .skip, e, σ => some (.normal, e, σ)
  | .ops l, e, σ => (opsV run l e σ).map fun r => (.normal, r.1, r.2)
  | .seq a b, e, σ => Ex.then (exec run n a e σ) (exec run n b)
  | .cond c a b, e, σ => match c.ev e with
    | .s (.bool t) => bif t then exec run n a e σ else exec run n b e σ
    | _ => none
  | .block id b, e, σ => match exec run n b e σ with
    | some (.exit j, e', σ') => bif j == id then some (.normal, e', σ') else some (.exit j, e', σ')
    | r => r
  | .loop b, e, σ => loopF (exec run n b) n e σ
  | .exit id, e, σ => some (.exit id, e, σ)
  | .ret, e, σ => some (.ret, e, σ)

def resV (e : Env) (σ : Heap) : Rv → Option V
  | .tmp t => some (e.getD t .undef)
  | .cell a agg n => match e.getD a .undef with
    | .ptr b o z => if n ≤ z then rdV σ b o n agg else none
    | _ => none

def resL (e : Env) (σ : Heap) : List Rv → Option (List V)
  | [] => some []
  | r :: l => match resV e σ r, resL e σ l with
    | some x, some y => some (x :: y)
    | _, _ => none

def resOf (e : Env) (σ : Heap) (l : List Rv) : Option V :=
  match resL e σ l with
  | some [x] => some x
  | some l => some (.tup l)
  | none => none

structure AP where
  fns : FuncId → Option AF
  prims : FuncId → Option (List V → Heap → Option (V × Heap))

def finish (a : AF) (r : Res) : Option (V × Heap) :=
  match r with
  | some (.exit _, _, _) => none
  | some (_, e, σ) => (resOf e σ a.res).map (·, σ)
  | none => none

def entry (a : AF) (args : List V) : Env := args ++ List.replicate (a.nt - args.length) .undef

def runF (A : AP) : Nat → Runner
  | 0, _, _, _ => none
  | n + 1, f, args, σ => match A.prims f with
    | some pf => pf args σ
    | none => match A.fns f with
      | some a => finish a (exec (runF A n) n a.body (entry a args) σ)
      | none => none

end Go.Am
