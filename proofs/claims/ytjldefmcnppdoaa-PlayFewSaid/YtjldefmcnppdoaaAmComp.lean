/- The abstract machine's code, made from the loaded functions' code; what it can't serve it leaves out. -/
import Derived.Test.YtjldefmcnppdoaaAmDefs
namespace Go.Am
open Go

def constV : Value → Option V
  | .int k n => some (.s (.int k n))
  | .bool b => some (.s (.bool b))
  | .string s => some (.s (.str s))
  | .pointer none => some .pnil
  | .slice none 0 0 => some .snil
  | .map none => some .mnil
  | .nilFunc => some .fnil
  | .nilIface => some .inil
  | _ => none

def opd : Operand → Option O
  | .tmp t => some (.t t)
  | .const v => (constV v).map .k
  | .func f => some (.k (.fn f []))
  | .global _ => none

def opds : List Operand → Option (List O)
  | [] => some []
  | x :: l => match opd x, opds l with
    | some a, some r => some (a :: r)
    | _, _ => none

def isZ : Value → Bool
  | .int .i64 0 => true
  | _ => false

def constVs : List Value → Option (List V)
  | [] => some []
  | x :: l => match constV x, constVs l with
    | some a, some r => some (a :: r)
    | _, _ => none

/-- A type's zero value. -/
def zeroZ : Value → Option Z
  | .agg cs => if cs.toList.all isZ then some (.ints cs.toList.length) else
    match constVs cs.toList with
    | some l => match scals l with
      | some r => some (.scl r)
      | none => some (.vl l)
    | none => none
  | v => (constV v).map .one

def sizeT (P : Program) (t : TypeId) : Option Nat := (P.info? t).map (·.size)
def bytesT (P : Program) (t : TypeId) : Option Nat := (P.info? t).map (·.bytes)
def zeroT (P : Program) (t : TypeId) : Option Z :=
  match P.info? t with
  | some i => match i.zero with
    | some v => zeroZ v
    | none => none
  | none => none

def aggT (P : Program) (t : TypeId) : Option Bool :=
  match P.underlying t with
  | some (.struct _) => some true
  | some (.array _ _) => some true
  | some _ => some false
  | none => none

def flatGo (P : Program) (fl : TypeId → Option Nat) : List Field → Nat → Option Nat
  | [], acc => some acc
  | f :: r, acc => if f.name = "_" then none else if f.offset = acc then
      match fl f.type, sizeT P f.type with
      | some k, some k' => if k = k' then flatGo P fl r (acc + k) else none
      | _, _ => none
    else none

/-- How many cells a type has that is made of whole numbers alone, and compared cell by cell. -/
def flatN (P : Program) : Nat → TypeId → Option Nat
  | 0, _ => none
  | d + 1, t =>
    match P.underlying t with
    | some (.int _) => some 1
    | some (.struct fs) => if P.stoodInHeld t then none else flatGo P (flatN P d) fs.toList 0
    | some (.array n e) => match flatN P d e, sizeT P e with
      | some k, some k' => if k = k' then some (n * k) else none
      | _, _ => none
    | _ => none

def fieldsOf (P : Program) (t : TypeId) : Option (List Field) :=
  match P.underlying t with
  | some (.struct fs) => some fs.toList
  | _ => none

/-- Where a struct's fields lie, and how many cells they have. -/
def placesOf (P : Program) (fs : List Field) : Option (List (Nat × Nat)) := fs.mapM fun f => (P.info? f.type).map fun i => (f.offset, i.size)

def structParts (places : List (Nat × Nat)) : List (Nat × Operand) → Option (List (Nat × Nat × O))
  | [] => some []
  | (i, x) :: r => match places[i]?, opd x, structParts places r with
    | some (off, n), some o, some l => some ((off, n, o) :: l)
    | _, _, _ => none

def rowParts (z : Nat) : List (Nat × Operand) → Option (List (Nat × Nat × O))
  | [] => some []
  | (i, x) :: r => match opd x, rowParts z r with
    | some o, some l => some ((i * z, z, o) :: l)
    | _, _ => none

def slParts : List (Nat × Operand) → Option (List (Nat × O))
  | [] => some []
  | (i, x) :: r => match opd x, slParts r with
    | some o, some l => some ((i, o) :: l)
    | _, _ => none

def opt (x : Option Operand) : Option (Option O) :=
  match x with
  | none => some none
  | some x => (opd x).map some

def scalarT (P : Program) (t : TypeId) : Bool :=
  match P.underlying t with
  | some (.int _) => true
  | _ => false

def compEq (P : Program) (neg : Bool) (op : BinOp) (t : TypeId) (x y : O) : Option PIns :=
  match P.underlying t with
  | some (.int _) => some (.bin op x y)
  | some .string => some (.bin op x y)
  | some .bool => some (.eqb neg x y)
  | some (.struct _) => if P.eqGuardType P.depth t then none else (flatN P 12 t).map fun n => .eqa neg n x y
  | some (.array _ _) => if P.eqGuardType P.depth t then none else (flatN P 12 t).map fun n => .eqa neg n x y
  | _ => none

def compP (P : Program) (op : Op) : Option PIns :=
  match op with
  | .move x => (opd x).map .mv
  | .assign x => (opd x).map .mv
  | .pick c a b => match opd c, opd a, opd b with
    | some c, some a, some b => some (.pick c a b)
    | _, _, _ => none
  | .build t parts => match zeroT P t, P.underlying t with
    | some z, some (.struct fs) => (placesOf P fs.toList).bind fun ps => (structParts ps parts.toList).map (.build z)
    | some z, some (.array _ e) => (sizeT P e).bind fun n => (rowParts n parts.toList).map (.build z)
    | _, _ => none
  | .nilCheck x => (opd x).map .nilck
  | .binOp op t x y _ => match opd x, opd y with
    | some x, some y => match op with
      | .eql => compEq P false .eql t x y
      | .neq => compEq P true .neq t x y
      | op => some (.bin op x y)
    | _, _ => none
  | .unOp op _ x => (opd x).map (.un op)
  | .convert s d x => match P.underlying s, P.underlying d with
    | some (.int _), some (.int k) => (opd x).map (.conv k)
    | _, _ => none
  | .makeFunc (.func f) first caps => if first.size = 0 then (opds caps.toList).map (.mkfn f) else none
  | .fieldAddr t x i => match fieldsOf P t with
    | some fs => match fs[i]? with
      | some f => match sizeT P f.type with
        | some n => if n = 0 then none else (opd x).map (.fa f.offset n)
        | none => none
      | none => none
    | none => none
  | .field t x i => match fieldsOf P t with
    | some fs => match fs[i]? with
      | some f => match sizeT P f.type, aggT P f.type with
        | some n, some a => if a || n == 1 then (opd x).map (.fld a f.offset n) else none
        | _, _ => none
      | none => none
    | none => none
  | .indexAddr t x i => match P.underlying t with
    | some (.array len e) => match sizeT P e, opd x, opd i with
      | some n, some x, some i => some (.ixa len n x i)
      | _, _, _ => none
    | some (.slice e) => match sizeT P e, opd x, opd i with
      | some n, some x, some i => some (.ixs n x i)
      | _, _, _ => none
    | _ => none
  | .index t x i => match P.underlying t with
    | some (.array len e) => match sizeT P e, aggT P e, opd x, opd i with
      | some n, some a, some x, some i => if a || n == 1 then some (.ix len n a x i) else none
      | _, _, _, _ => none
    | some .string => match opd x, opd i with
      | some x, some i => some (.ixstr x i)
      | _, _ => none
    | _ => none
  | .slice t x lo hi none => match opd x, opt lo, opt hi with
    | some x, some lo, some hi => match P.underlying t with
      | some .string => some (.slS x lo hi)
      | some (.slice e) => (sizeT P e).map fun n => .slV n x lo hi
      | some (.array len e) => (sizeT P e).map fun n => .slA len n x lo hi
      | _ => none
    | _, _, _ => none
  | .extract x i => (opd x).map (.ext · i)
  | .call c => match c.callee with
    | .builtin .len => match c.argTypes[0]?, c.args.toList with
      | some t, [x] => match P.underlying t with
        | some .string => (opd x).map .lenS
        | some (.slice _) => (opd x).map .len
        | some (.array n _) => some (.lenK n)
        | _ => none
      | _, _ => none
    | .builtin .min => (opds c.args.toList).map .mn
    | .builtin .max => (opds c.args.toList).map .mx
    | _ => none
  | _ => none

def compH (P : Program) (q : Bool) (op : Op) : Option HIns :=
  match op with
  | .alloc t => (zeroT P t).map .alloc
  | .box _ x => (opd x).map .box
  | .buildSlice t len parts => match P.underlying t with
    | some (.slice e) => match sizeT P e, zeroT P e, slParts parts.toList with
      | some n, some z, some ps => if z.size = n ∧ n ≠ 0 ∧ len * n ≤ 2 ^ 24 then some (.mksl len n z ps) else none
      | _, _, _ => none
    | _ => none
  | .load t a => match aggT P t, sizeT P t with
    | some g, some n => if g || n == 1 then (opd a).map (.load g n) else none
    | _, _ => none
  | .store t a x => match sizeT P t, opd a, opd x with
    | some n, some a, some x => some (.store n a x)
    | _, _, _ => none
  | .convert s d x => match P.underlying s, P.underlying d with
    | some (.slice e), some .string => match P.underlying e with
      | some (.int .u8) => (opd x).map .b2s
      | _ => none
    | _, _ => none
  | .makeSlice t l c => match P.underlying t with
    | some (.slice e) => match sizeT P e, bytesT P e, zeroT P e, opd l, opd c with
      | some n, some b, some z, some l, some c => if n = 0 then none else some (.mkslice n b z l c)
      | _, _, _, _, _ => none
    | _ => none
  | .makeMap _ none => some .mkmap
  | .insert t m k v => match P.underlying t with
    | some (.map kt _) => if scalarT P kt then (match opd m, opd k, opd v with
      | some m, some k, some v => some (.mput m k v)
      | _, _, _ => none) else none
    | _ => none
  | .mapUpdate t m k v => match P.underlying t with
    | some (.map kt _) => if scalarT P kt then (match opd m, opd k, opd v with
      | some m, some k, some v => some (.mput m k v)
      | _, _, _ => none) else none
    | _ => none
  | .lookup t m k ok => match P.underlying t with
    | some (.map kt et) => if scalarT P kt then (match zeroT P et, opd m, opd k with
      | some z, some m, some k => some (.mget z ok m k)
      | _, _, _ => none) else none
    | _ => none
  | .call c => match c.callee with
    | .value f => match opd f, opds c.args.toList with
      | some f, some as => some (bif q then .callq f as else .call f as)
      | _, _ => none
    | .builtin .append => match c.argTypes[0]?, c.argTypes[1]?, c.args.toList with
      | some t, some u, [s, x] => match P.underlying t, P.underlying u with
        | some (.slice e), some (.slice _) => match sizeT P e, bytesT P e, opd s, opd x with
          | some n, some b, some s, some x => if n = 0 ∨ b = 0 ∨ c.argTypes ≠ #[t, t] ∨ (zeroT P e).map Z.size ≠ some n then none else some (.append n b s x)
          | _, _, _, _ => none
        | _, _ => none
      | _, _, _ => none
    | _ => none
  | _ => none

def compIns (P : Program) (q : Bool) (op : Op) : Option Ins :=
  match compP P op with
  | some i => some (.p i)
  | none => (compH P q op).map .h

/-- The guard's temporary: that of the operation that it names. -/
def compG (ops : List Oper) (g : Option (Nat × Bool)) : Option (Option (Nat × Bool)) :=
  match g with
  | none => some none
  | some (j, want) => match ops[j]? with
    | some o => o.dst.map fun d => some (d, want)
    | none => none

def compI (P : Program) (ops : List Oper) (q : Bool) (o : Oper) : Option I :=
  match compG ops o.guard, compIns P q o.op with
  | some g, some i => some ⟨o.dst, g, i⟩
  | _, _ => none

def compL (P : Program) (ops : List Oper) : List Oper → Option (List I)
  | [] => some []
  | o :: l => match compI P ops false o, compL P ops l with
    | some i, some r => some (i :: r)
    | _, _ => none

/-! ### Regions that draw their order -/

def bm (acc : List Nat) : List Edge → Nat
  | [] => 0
  | e :: r => if Region.binds .any e then 2 ^ e.on ||| acc.getD e.on 0 ||| bm acc r else bm acc r

/-- Of each operation: which ones stand ahead of it in every order. -/
def bmasks : List Oper → List Nat → List Nat
  | [], acc => acc
  | o :: l, acc => bmasks l (acc ++ [bm acc o.after.toList])

/-- Each operation waits for earlier ones alone. -/
def edgesOK : List (Oper × Nat) → Bool
  | [] => true
  | (o, j) :: l => o.after.toList.all (fun e => !Region.binds .any e || decide (e.on < j)) && edgesOK l

inductive Kd where
  | pure
  | quiet
  | eff

def HIns.kd : HIns → Kd
  | .store .. | .call .. | .append .. | .mput .. | .init0 .. | .revive .. => .eff
  | _ => .quiet

def Ins.kd : Ins → Kd
  | .p _ => .pure
  | .h i => i.kd

/-- Does an operation touch no memory? (by its form alone) -/
def rawPure (P : Program) (op : Op) : Bool := (compP P op).isSome

def ordered (m : List Nat) (i j : Nat) : Bool := (m.getD j 0).testBit i || (m.getD i 0).testBit j

/-- Is an operation ordered against all that touch memory? -/
def fullAt (P : Program) (ops : List Oper) (m : List Nat) (j : Nat) : Bool :=
  ops.zipIdx.all fun p => p.2 == j || rawPure P p.1.op || ordered m p.2 j

def compPar (P : Program) (ops : List Oper) (m : List Nat) : List (Oper × Nat) → Option (List I)
  | [] => some []
  | (o, j) :: l => match compI P ops (!fullAt P ops m j) o, compPar P ops m l with
    | some i, some r => some (i :: r)
    | _, _ => none

def oT : O → List Nat
  | .t n => [n]
  | .k _ => []

def oTs (l : List O) : List Nat := l.flatMap oT
def oTo : Option O → List Nat
  | some x => oT x
  | none => []

def PIns.reads : PIns → List Nat
  | .mv x | .nilck x | .un _ x | .conv _ x | .fa _ _ x | .fld _ _ _ x | .ext x _ | .len x | .lenS x => oT x
  | .pick c a b => oT c ++ oT a ++ oT b
  | .build _ ps => ps.flatMap fun p => oT p.2.2
  | .bin _ x y | .eqb _ x y | .eqa _ _ x y | .eqn _ x y | .ixa _ _ x y | .ixs _ x y | .ix _ _ _ x y | .ixstr x y => oT x ++ oT y
  | .mkfn _ l | .mn l | .mx l => oTs l
  | .slS x lo hi | .slV _ x lo hi | .slA _ _ x lo hi => oT x ++ oTo lo ++ oTo hi
  | .lenK _ => []

def HIns.reads : HIns → List Nat
  | .alloc _ | .mkmap | .allocd _ => []
  | .box x | .load _ _ x | .b2s x => oT x
  | .mksl _ _ _ ps => ps.flatMap fun p => oT p.2
  | .store _ x y | .init0 _ x y | .revive _ x y | .append _ _ x y | .mkslice _ _ _ x y | .mget _ _ x y => oT x ++ oT y
  | .call f l | .callq f l => oT f ++ oTs l
  | .mput m k v => oT m ++ oT k ++ oT v

def I.reads (i : I) : List Nat :=
  (match i.g with
  | some (t, _) => [t]
  | none => []) ++ match i.ins with
  | .p p => p.reads
  | .h h => h.reads

def tmpFree (i j : I) : Bool :=
  (match i.dst with
  | some d => !j.reads.contains d && !(j.dst == some d)
  | none => true) &&
  (match j.dst with
  | some d => !i.reads.contains d
  | none => true)

def kdFree (i j : I) : Bool :=
  match i.ins.kd, j.ins.kd with
  | .pure, _ => true
  | _, .pure => true
  | .quiet, .quiet => true
  | _, _ => false

/-- One operation against those behind it. -/
def parOne (m : List Nat) (i : Nat) (x : I) : List (I × Nat) → Bool
  | [] => true
  | (y, j) :: r => ((m.getD j 0).testBit i || (tmpFree x y && kdFree x y)) && !(x.dst.isSome && x.dst == y.dst) && parOne m i x r

def parAll (m : List Nat) : List (I × Nat) → Bool
  | [] => true
  | (x, i) :: r => parOne m i x r && parAll m r

/-! ### Fresh cells that are laid once, in open order -/

/-- Cells made in a region (at i, by temporary d) and laid once in it (at j, by x). -/
structure Pr where
  i : Nat
  j : Nat
  d : Nat
  n : Nat
  x : O

def Z.isSc (z : Z) : Bool :=
  match z.blk with
  | .sc .var n _ => n == z.size
  | _ => false

def allocOf (d n : Nat) : List (I × Nat) → Option Nat
  | [] => none
  | (⟨some d', none, .h (.alloc z)⟩, k) :: r => if d' = d ∧ z.size = n ∧ z.isSc = true then some k else allocOf d n r
  | _ :: r => allocOf d n r

def iniPrs (is : List (I × Nat)) : List (I × Nat) → List Pr
  | [] => []
  | (⟨none, none, .h (.store n (.t d) x)⟩, j) :: r => match allocOf d n is with
    | some i => ⟨i, j, d, n, x⟩ :: iniPrs is r
    | none => iniPrs is r
  | _ :: r => iniPrs is r

def iniI (prs : List Pr) (y : I) (k : Nat) : I :=
  match prs.find? (fun p => p.i == k) with
  | some p => ⟨some p.d, none, .h (.allocd p.n)⟩
  | none => match prs.find? (fun p => p.j == k) with
    | some p => ⟨none, none, .h (.init0 p.n (.t p.d) p.x)⟩
    | none => y

def iniL (prs : List Pr) (l : List I) : List I := l.zipIdx.map fun y => iniI prs y.1 y.2

def revs (prs : List Pr) : List I := prs.map fun p => ⟨none, none, .h (.revive p.n (.t p.d) p.x)⟩

def parOne0 (m : List Nat) (i : Nat) (x : I) : List (I × Nat) → Bool
  | [] => true
  | (y, j) :: r => ((m.getD j 0).testBit i || tmpFree x y) && !(x.dst.isSome && x.dst == y.dst) && parOne0 m i x r

def parAll0 (m : List Nat) : List (I × Nat) → Bool
  | [] => true
  | (x, i) :: r => parOne0 m i x r && parAll0 m r

def isEff (y : I) : Bool :=
  match y.ins.kd with
  | .eff => true
  | _ => false

def distinct : List Nat → Bool
  | [] => true
  | x :: l => !l.contains x && distinct l

def laterOK (l : List (I × Nat)) (p : Pr) : Bool :=
  match p.x with
  | .t s => l.all fun y => Nat.blt y.2 p.j || !(y.1.dst == some s)
  | .k _ => true

def iniOK (m : List Nat) (prs : List Pr) (l : List I) : Bool :=
  parAll0 m (iniL prs l).zipIdx && l.zipIdx.all (fun y => !isEff y.1 || prs.any fun p => p.j == y.2) && prs.all (fun p => Nat.blt p.i p.j && laterOK (iniL prs l).zipIdx p) && distinct (prs.map (·.i)) && distinct (prs.map (·.j))

def compC (P : Program) : Code → Option AC
  | .skip => some .skip
  | .region _ ops false => (compL P ops.toList ops.toList).map .ops
  | .region _ ops true =>
    let m := bmasks ops.toList []
    match compPar P ops.toList m ops.toList.zipIdx with
    | some l => if parAll m l.zipIdx && edgesOK ops.toList.zipIdx then some (.ops l)
      else let prs := iniPrs l.zipIdx l.zipIdx
        if iniOK m prs l && edgesOK ops.toList.zipIdx then some (.ops (iniL prs l ++ revs prs)) else none
    | none => none
  | .seq a b => match compC P a, compC P b with
    | some a, some b => some (.seq a b)
    | _, _ => none
  | .cond c a b => match opd c, compC P a, compC P b with
    | some c, some a, some b => some (.cond c a b)
    | _, _, _ => none
  | .block id b => (compC P b).map (.block id)
  | .loop b => (compC P b).map .loop
  | .exit id => some (.exit id)
  | .ret => some .ret
  | _ => none

def compR (P : Program) : List ResultVar → Option (List Rv)
  | [] => some []
  | .tmp t :: l => (compR P l).map (.tmp t :: ·)
  | .cell a t :: l => match aggT P t, sizeT P t, compR P l with
    | some g, some n, some r => if g || n == 1 then some (.cell a g n :: r) else none
    | _, _, _ => none

def compF (P : Program) (fn : Func) : Option AF :=
  match fn.body with
  | some c => match compC P c, compR P fn.results.toList with
    | some b, some r => if fn.name = "runtime.NumGoroutine" then none else some ⟨fn.ntmps, r, b⟩
    | _, _ => none
  | none => none

end Go.Am
