/- Texts of this seat,joined. -/
import Derived.Calls
import Derived.WalkKit
import Derived.Orders
import Derived.Laws.Tables
import Derived.Laws.StructEq
import Derived.Laws.BytesString
import Derived.Laws.RangeString
set_option linter.defProp false
set_option linter.unusedSimpArgs false
set_option linter.unusedVariables false
namespace Go.Am
abbrev ZbB:=@List.sublist_append_of_sublist_right
abbrev ZbC:=@Array.getD_eq_getD_getElem?
abbrev ZbD:=@List.getD_eq_getElem?_getD
abbrev ZbE:=@List.getElem?_append_right
abbrev ZbF:=@List.getElem?_append_left
abbrev ZbG:=@Array.getElem?_eq_getElem
abbrev ZbH:=@List.getElem?_eq_getElem
abbrev ZbI:=@Option.bind_eq_some_iff
abbrev ZbJ:=@decide_eq_false_iff_not
abbrev ZbK:=@Option.map_eq_some_iff
abbrev ZbL:=@List.getElem?_set_self
abbrev ZbM:=@List.mem_append_right
abbrev ZbN:=@Nat.ble_eq_true_of_le
abbrev ZbO:=@Bool.and_eq_false_iff
abbrev ZbP:=@ByteArray.size_append
abbrev ZbQ:=@List.getElem?_eq_none
abbrev ZbR:=@Nat.eq_of_beq_eq_true
abbrev ZbS:=@Array.getElem?_toList
abbrev ZbT:=@Nat.le_of_ble_eq_true
abbrev ZbU:=@List.length_filter_le
abbrev ZbV:=@List.mem_append_left
abbrev ZbW:=@Nat.mul_le_mul_right
abbrev ZbX:=@List.getElem?_set_ne
abbrev ZbY:=@List.Sublist.append
abbrev ZbZ:=@List.getElem?_range
abbrev Zb0:=@Array.length_toList
abbrev Zb1:=@Bool.false_eq_true
abbrev Zb2:=@List.length_append
abbrev Zb3:=@Nat.lt_of_lt_of_le
abbrev Zb4:=@Option.some.injEq
abbrev Zb5:=@List.append_assoc
abbrev Zb6:=@Bool.not_eq_true'
abbrev Zb7:=@decide_eq_true_eq
abbrev Zb8:=@List.flatMap_cons
abbrev Zb9:=@List.getElem?_map
abbrev Zca:=@Bool.and_eq_true
abbrev Zcb:=@List.length_take
abbrev Zcc:=@List.all_eq_true
abbrev Zcd:=@List.length_cons
abbrev Zce:=@Bool.eq_iff_iff
abbrev Zcf:=@List.append_nil
abbrev Zcg:=@List.mem_append
abbrev Zch:=@List.mem_filter
abbrev Zci:=@decide_eq_false
abbrev Zcj:=@List.Perm.trans
abbrev Zck:=@List.mem_range
abbrev Zcl:=@decide_eq_true
abbrev Zcm:=@List.Perm.cons
abbrev Zcn:=@Prod.mk.injEq
abbrev Zco:=@List.mem_cons
abbrev Zcp:=@Nat.zero_add
abbrev Zcq:=@Nat.le_trans
abbrev Zcr:=@Nat.lt_or_ge
abbrev Zcs:=@Nat.le_refl
abbrev Zct:=@Nat.zero_le
abbrev Zcu:=@beq_iff_eq
abbrev Zcv:=@false_iff
abbrev Zcw:=@iff_false
abbrev Zcx:=@true_iff
abbrev Zcy:=@iff_true
abbrev Zcz:=@if_neg
abbrev ZcA:=@if_pos
end Go.Am
namespace Go.Am
open Go
inductive S where
 |int (k:IntKind) (n:Int)
 |bool (b:Bool)
 |str (s:ByteArray)
def S.val:S->Value
 |.int k n=>.int k n
 |.bool b=>.bool b
 |.str s=>.string s
def S.zero:S:=.int .i64 0
inductive Cp where
 |ex (k:Nat)
 |unk
 |whole
inductive V where
 |s (x:S)
 |agg (n:Nat) (g:Nat->S)
 |aggv (l:List V)
 |ptr (b o z:Nat)
 |pnil
 |sl (b o n z:Nat) (m:Cp)
 |slz
 |snil
 |map (b:Nat)
 |mnil
 |fn (f:FuncId) (l:List V)
 |fnil
 |iface (t:TypeId) (x:V)
 |inil
 |tup (l:List V)
 |undef
 |bm (f:FuncId) (x:V)
 |pan (x:V)
 |yv (b:Nat)
inductive Md where
 |ro
 |var
 |grow
 |ty (t:TypeId)
 |gty (t:TypeId)
structure RD where
 ps:Array Tmp
 asg:Code
 body:Code
inductive Blk where
 |sc (m:Md) (n:Nat) (g:Nat->S)
 |vs (m:Md) (l:List V)
 |mp (m:Md) (l:List (S×V))
 |dead
 |sit (s:ByteArray) (pos:Nat)
 |lp (k:Nat) (rd:RD) (caps:List V) (st:Nat)
abbrev Env:=List V
abbrev Heap:=List Blk
inductive Z where
 |ints (n:Nat)
 |scl (l:List S)
 |vl (l:List V)
 |one (v:V)
inductive O where
 |t (n:Nat)
 |k (v:V)
def O.ev(x:O)(e:Env):V :=
 match x with
 |.t n=>e.getD n .undef
 |.k v=>v
inductive PIns where
 |mv (x:O)
 |pick (c a b:O)
 |build (z:Z) (parts:List (Nat×Nat×O))
 |nilck (x:O)
 |bin (op:BinOp) (x y:O)
 |eqa (neg:Bool) (n:Nat) (x y:O)
 |un (op:UnOp) (x:O)
 |conv (k:IntKind) (x:O)
 |mkfn (f:FuncId) (caps:List O)
 |mkb (f:FuncId) (x:O)
 |mkif (t:TypeId) (x:O)
 |fa (off z:Nat) (x:O)
 |fld (agg:Bool) (off n:Nat) (x:O)
 |ixa (len z:Nat) (x i:O)
 |ixs (z:Nat) (x i:O)
 |ix (len z:Nat) (agg:Bool) (x i:O)
 |ixstr (x i:O)
 |slS (x:O) (lo hi:Option O)
 |slV (z:Nat) (x:O) (lo hi:Option O)
 |slA (len z:Nat) (x:O) (lo hi:Option O)
 |ext (x:O) (i:Nat)
 |len (x:O)
 |lenS (x:O)
 |mn (xs:List O)
 |mx (xs:List O)
inductive HIns where
 |alloc (z:Z)
 |box (x:O)
 |mksl (len z:Nat) (zero:Z) (parts:List (Nat×O))
 |load (agg:Bool) (n:Nat) (a:O)
 |store (n:Nat) (a x:O)
 |call (f:O) (args:List O)
 |callq (f:O) (args:List O)
 |append (z bytes:Nat) (s x:O)
 |b2s (x:O)
 |mkmap
 |mput (m k v:O)
 |mget (zero:Z) (ok:Bool) (m k:O)
 |alloct (t:TypeId) (l:List V)
 |boxt (t:TypeId) (x:O)
 |appendb (el:TypeId) (bytes:Nat) (s x:O)
 |pnc (x:O)
 |bad
inductive Ins where
 |p (i:PIns)
 |h (i:HIns)
structure I where
 dst:Option Nat
 g:Option (Nat×Bool)
 ins:Ins
inductive Rv where
 |tmp (t:Nat)
 |cell (a:Nat) (agg:Bool) (n:Nat)
inductive AC where
 |skip
 |ops (l:List I)
 |par (l:List I)
 |parc (ps:List (List Nat)) (l:List I)
 |bad
 |seq (a b:AC)
 |cond (c:O) (a b:AC)
 |block (id:Nat) (b:AC)
 |loop (b:AC)
 |exit (id:Nat)
 |ret
 |rfn (g:O) (k:Nat) (rd:RD)
structure AF where
 nt:Nat
 res:List Rv
 body:AC
def intBits(op:BinOp)(k:IntKind)(x y:Int):Option S :=
 let a:=BitVec.ofInt k.bits x
 let b:=BitVec.ofInt k.bits y
 match op with
 |.and=>some (.int k (k.wrap (a &&& b).toNat))
 |.or=>some (.int k (k.wrap (a ||| b).toNat))
 |.xor=>some (.int k (k.wrap (a ^^^ b).toNat))
 |.andNot=>some (.int k (k.wrap (a &&& ~~~b).toNat))
 |_=>none
def Um(op:BinOp)(k:IntKind)(a b:Int):Option S :=
 match op with
 |.add=>some (.int k (k.wrap (a+b)))
 |.sub=>some (.int k (k.wrap (a-b)))
 |.mul=>some (.int k (k.wrap (a*b)))
 |.quo=>if b=0 then none else some (.int k (k.wrap (a.tdiv b)))
 |.rem=>if b=0 then none else some (.int k (a.tmod b))
 |.eql=>some (.bool (a==b))
 |.neq=>some (.bool (a != b))
 |.lss=>some (.bool (decide (a<b)))
 |.leq=>some (.bool (decide (a<=b)))
 |.gtr=>some (.bool (decide (a > b)))
 |.geq=>some (.bool (decide (a ≥ b)))
 |op=>intBits op k a b
def wb(op:BinOp)(k:IntKind)(a b:Int):Option S :=
 if b<0 then none else
 match op with
 |.shl=>some (.int k (k.wrap (a*2 ^ (min b.toNat k.bits))))
 |.shr=>some (.int k (a.fdiv (2 ^ (min b.toNat k.bits))))
 |_=>none
def vJ(op:BinOp)(x y:ByteArray):Option S :=
 match op with
 |.add=>if ((x.size+y.size:Nat):Int) > IntKind.i64.max then none else some (.str (x++y))
 |.eql=>some (.bool (x.toList==y.toList))
 |.neq=>some (.bool (!(x.toList==y.toList)))
 |_=>none
def Wc(op:BinOp)(a b:S):Option S :=
 match op,a,b with
 |.shl,.int k a,.int _ b=>wb .shl k a b
 |.shr,.int k a,.int _ b=>wb .shr k a b
 |op,.int k a,.int k' b=>if k=k' then Um op k a b else none
 |op,.str a,.str b=>vJ op a b
 |_,_,_=>none
def S.fits(a b:S):Bool :=
 match a,b with
 |.int k _,.int k' _=>decide (k=k')
 |_,_=>false
def S.eqB(a b:S):Bool :=
 match a,b with
 |.int _ a,.int _ b=>decide (a=b)
 |.bool a,.bool b=>a==b
 |.str a,.str b=>a==b
 |_,_=>false
def Xp(n:Nat)(f:Nat->Bool):Bool :=
 match n with
 |0=>true
 |n+1=>Xp n f&&f n
def unS(op:UnOp)(x:S):Option S :=
 match op,x with
 |.neg,.int k n=>some (.int k (k.wrap (0-n)))
 |.not,.bool b=>some (.bool (!b))
 |_,_=>none
def V.isS:V->Option S
 |.s x=>some x
 |_=>none
def zg:List V->Option (List S)
 |[]=>some []
 |x::l=>match x.isS,zg l with
  |some a,some r=>some (a::r)
  |_,_=>none
def TU(l:List V):V :=
 match zg l with
 |some r=>.agg r.length (fun i=>r.getD i S.zero)
 |none=>.aggv l
def V.one:V->Bool
 |.s _|.ptr ..|.pnil|.sl ..|.slz|.snil|.map _|.mnil|.fn ..|.fnil|.iface ..|.inil|.bm ..=>true
 |_=>false
def V.scells(x:V)(n:Nat):Option (Nat->S) :=
 match x with
 |.s y=>if n=1 then some (fun _=>y) else none
 |.agg m g=>if m=n then some g else none
 |_=>none
def V.vcells(x:V)(n:Nat):Option (List V) :=
 match x with
 |.agg m g=>if m=n then some ((List.range n).map fun i=>.s (g i)) else none
 |.aggv l=>if l.length=n then some l else none
 |x=>if x.one&&n==1 then some [x] else none
def WE(g:Nat->S)(off n:Nat)(h:Nat->S):Nat->S:=fun i=>bif Nat.ble off i&&Nat.blt i (off+n) then h (i-off) else g i
def Z.size:Z->Nat
 |.ints n=>n
 |.scl l=>l.length
 |.vl l=>l.length
 |.one _=>1
def Z.sc:Z->Option (Nat->S)
 |.ints _=>some fun _=>S.zero
 |.scl l=>some fun i=>l.getD i S.zero
 |.one (.s x)=>some fun _=>x
 |_=>none
def Z.vc:Z->List V
 |.ints n=>List.replicate n (.s S.zero)
 |.scl l=>l.map .s
 |.vl l=>l
 |.one v=>[v]
def Z.v:Z->V
 |.ints n=>.agg n fun _=>S.zero
 |.scl l=>.agg l.length fun i=>l.getD i S.zero
 |.vl l=>.aggv l
 |.one v=>v
def WJ(e:Env):List (Nat×Nat×O)->(Nat->S)->Option (Nat->S)
 |[],g=>some g
 |(off,n,x)::r,g=>match (x.ev e).scells n with
  |some h=>WJ e r (WE g off n h)
  |none=>none
def Ql(e:Env):List (Nat×Nat×O)->List V->Option (List V)
 |[],l=>some l
 |(off,n,x)::r,l=>match (x.ev e).vcells n with
  |some c=>if off+n<=l.length then Ql e r (l.take off++c++l.drop (off+n)) else none
  |none=>none
def QH(n:Nat):List (Nat×Nat×O)->Bool
 |[]=>true
 |(off,m,_)::r=>decide (off+m<=n)&&QH n r
def num?:V->Option Int
 |.s (.int _ n)=>some n
 |_=>none
def WB(e:Env)(x:Option O)(d:Nat):Option Int :=
 match x with
 |none=>some d
 |some x=>num? (x.ev e)
def KY(f:Int->Int->Int)(k:IntKind)(a:Int):List V->Option V
 |[]=>some (.s (.int k a))
 |.s (.int _ b)::r=>KY f k (f a b) r
 |_=>none
def U0(f:Int->Int->Int):List V->Option V
 |.s (.int k a)::r=>KY f k a r
 |_=>none
def Rs(e:Env)(z:Z)(parts:List (Nat×Nat×O)):Option V :=
 match (if QH z.size parts then z.sc.bind (WJ e parts) else none) with
 |some g=>some (.agg z.size g)
 |none=>(Ql e parts z.vc).map TU
def YY(i:PIns)(e:Env):Option V :=
 match i with
 |.mv x=>some (x.ev e)
 |.pick c a b=>match c.ev e with
  |.s (.bool t)=>some (bif t then a.ev e else b.ev e)
  |_=>none
 |.build z parts=>Rs e z parts
 |.nilck x=>match x.ev e with
  |.ptr b o z=>some (.ptr b o z)
  |.fn f l=>some (.fn f l)
  |_=>none
 |.bin op x y=>match x.ev e,y.ev e with
  |.s a,.s b=>(Wc op a b).map .s
  |_,_=>none
 |.eqa neg n x y=>match x.ev e,y.ev e with
  |.agg n1 g,.agg n2 h=>if n1=n/\n2=n then (bif Xp n (fun i=>(g i).fits (h i)) then some (.s (.bool (bif neg then !(Xp n fun i=>(g i).eqB (h i)) else Xp n fun i=>(g i).eqB (h i)))) else none) else none
  |_,_=>none
 |.un op x=>match x.ev e with
  |.s a=>(unS op a).map .s
  |_=>none
 |.conv k x=>match x.ev e with
  |.s (.int _ n)=>some (.s (.int k (k.wrap n)))
  |_=>none
 |.mkfn f caps=>some (.fn f (caps.map (·.ev e)))
 |.mkb f x=>some (.bm f (x.ev e))
 |.mkif t x=>some (.iface t (x.ev e))
 |.fa off z x=>match x.ev e with
  |.ptr b o z'=>if off+z<=z' then some (.ptr b (o+off) z) else none
  |_=>none
 |.fld agg off n x=>match x.ev e with
  |.agg m g=>if off+n<=m then some (bif agg then .agg n (fun i=>g (off+i)) else .s (g off)) else none
  |.aggv l=>if off+n<=l.length then (bif agg then some (TU ((l.drop off).take n)) else l[off]?) else none
  |_=>none
 |.ixa len z x i=>match x.ev e,i.ev e with
  |.ptr b o z',.s (.int _ k)=>if len*z<=z' then (if 0<=k/\k<len then some (.ptr b (o+k.toNat*z) z) else none) else none
  |_,_=>none
 |.ixs z x i=>match x.ev e,i.ev e with
  |.sl b o n z' _,.s (.int _ k)=>if z=z' then (if 0<=k/\k<n then some (.ptr b (o+k.toNat*z) z) else none) else none
  |_,_=>none
 |.ix len z agg x i=>match x.ev e,i.ev e with
  |.agg m g,.s (.int _ k)=>if len*z<=m then (if 0<=k/\k<len then some (bif agg then .agg z (fun j=>g (k.toNat*z+j)) else .s (g (k.toNat*z))) else none) else none
  |.aggv l,.s (.int _ k)=>if len*z<=l.length then (if 0<=k/\k<len then (bif agg then some (TU ((l.drop (k.toNat*z)).take z)) else l[k.toNat*z]?) else none) else none
  |_,_=>none
 |.ixstr x i=>match x.ev e,i.ev e with
  |.s (.str s),.s (.int _ k)=>if 0<=k/\k<s.size then some (.s (.int .u8 (s.data.getD k.toNat 0).toNat)) else none
  |_,_=>none
 |.slS x lo hi=>match x.ev e with
  |.s (.str s)=>match WB e lo 0,WB e hi s.size with
   |some l,some h=>if 0<=l/\l<=h/\h<=s.size then some (.s (.str (s.extract l.toNat h.toNat))) else none
   |_,_=>none
  |_=>none
 |.slV z x lo hi=>match x.ev e with
  |.sl b o n z' m=>match WB e lo 0,WB e hi n with
   |some l,some h=>
    if z=z' then
     match m with
     |.ex c=>if 0<=l/\l<=h/\h<=c then some (.sl b (if c=l.toNat then o else o+l.toNat*z) (h.toNat-l.toNat) z (.ex (c-l.toNat))) else none
     |_=>if 0<=l/\l<=h/\h<=n then (if l<n then some (.sl b (o+l.toNat*z) (h.toNat-l.toNat) z .unk) else some .slz) else none
    else none
   |_,_=>none
  |.slz=>match WB e lo 0,WB e hi 0 with
   |some 0,some 0=>some .slz
   |_,_=>none
  |.snil=>match WB e lo 0,WB e hi 0 with
   |some 0,some 0=>some .snil
   |_,_=>none
  |_=>none
 |.slA len z x lo hi=>match x.ev e with
  |.ptr b o z'=>match WB e lo 0,WB e hi len with
   |some l,some h=>if len*z<=z' then (if 0<=l/\l<=h/\h<=len then (if l<len then some (.sl b (o+l.toNat*z) (h.toNat-l.toNat) z (.ex (len-l.toNat))) else some .slz) else none) else none
   |_,_=>none
  |_=>none
 |.ext x i=>match x.ev e with
  |.tup l=>l[i]?
  |_=>none
 |.len x=>match x.ev e with
  |.sl _ _ n _ _=>some (.s (.int .i64 n))
  |.slz|.snil=>some (.s (.int .i64 0))
  |_=>none
 |.lenS x=>match x.ev e with
  |.s (.str s)=>some (.s (.int .i64 s.size))
  |_=>none
 |.mn xs=>U0 (fun a b=>if b<a then b else a) (xs.map (·.ev e))
 |.mx xs=>U0 (fun a b=>if a<b then b else a) (xs.map (·.ev e))
def Md.mut:Md->Bool
 |.ro=>false
 |_=>true
def rdV(σ:Heap)(b o n:Nat)(agg:Bool):Option V :=
 match σ[b]? with
 |some (.sc _ _ g)=>some (bif agg then .agg n (fun i=>g (o+i)) else .s (g o))
 |some (.vs _ l)=>bif agg then (if o+n<=l.length then some (TU ((l.drop o).take n)) else none) else l[o]?
 |_=>none
def wrV(σ:Heap)(b o n:Nat)(x:V):Option Heap :=
 match σ[b]? with
 |some (.sc m k g)=>if m.mut then (x.scells n).map fun h=>σ.set b (.sc m k (WE g o n h)) else none
 |some (.vs m l)=>if m.mut then (x.vcells n).bind fun c=>if o+n<=l.length/\c.all V.one=true then some (σ.set b (.vs m (l.take o++c++l.drop (o+n)))) else none else none
 |_=>none
inductive Src where
 |sc (g:Nat->S)
 |vs (l:List V)
def Vf(σ:Heap)(z:Nat)(x:V):Option (Nat×Src) :=
 match x with
 |.snil|.slz=>some (0,.sc fun _=>S.zero)
 |.sl b o m z' _=>if z=z' then (match σ[b]? with
  |some (.sc _ _ g)=>some (m,.sc fun i=>g (o+i))
  |some (.vs _ l)=>if o+m*z<=l.length/\((l.drop o).take (m*z)).all V.one=true then some (m,.vs ((l.drop o).take (m*z))) else none
  |_=>none) else none
 |_=>none
def W5(n m:Nat)(a b:Src):Option Blk :=
 match a,b with
 |.sc g,.sc h=>some (.sc .grow (n+m) (fun i=>bif Nat.blt i n then g i else h (i-n)))
 |.vs l,.vs r=>if l.length=n/\r.length=m then some (.vs .grow (l++r)) else none
 |.vs [],.sc h=>if n=0 then some (.sc .grow m h) else none
 |.sc g,.vs []=>if m=0 then some (.sc .grow n g) else none
 |_,_=>none
def wf(σ:Heap)(b:Nat):Heap:=σ.set b .dead
def XC(n bytes:Nat):Bool:=Nat.ble (n*bytes) 140737488355328
def WL(σ:Heap)(z bytes:Nat)(s x:V):Option (V×Heap) :=
 match Vf σ z x with
 |none=>none
 |some (m,r)=>
  match s with
  |.snil=>if m=0 then some (.snil,σ) else bif XC m bytes then (W5 0 (m*z) (.vs []) r).map fun b=>(.sl σ.length 0 m z .whole,σ++[b]) else none
  |.sl b o n z' (.ex c)=> if z = z' then
    if n+m<=c then
     match r with
     |.sc h=>(wrV σ b (o+n*z) (m*z) (.agg (m*z) h)).map fun σ'=>(.sl b o (n+m) z (.ex c),σ')
     |.vs l=>(wrV σ b (o+n*z) (m*z) (.aggv l)).map fun σ'=>(.sl b o (n+m) z (.ex c),σ')
    else bif XC (n+m) bytes then match Vf σ z s with
     |some (_,q)=>(W5 (n*z) (m*z) q r).map fun b=>(.sl σ.length 0 (n+m) z .whole,σ++[b])
     |none=>none
    else none
   else none
  |.sl b _ n z' .whole=> if z = z' then
    bif XC (n+m) bytes then match Vf σ z s,σ[b]? with
     |some (_,q),some (.sc .grow _ _)=>(W5 (n*z) (m*z) q r).map fun nb=>(.sl σ.length 0 (n+m) z .whole,wf σ b++[nb])
     |some (_,q),some (.vs .grow _)=>(W5 (n*z) (m*z) q r).map fun nb=>(.sl σ.length 0 (n+m) z .whole,wf σ b++[nb])
     |some (_,q),some (.sc (.gty _) _ _)=>(W5 (n*z) (m*z) q r).map fun nb=>(.sl σ.length 0 (n+m) z .whole,wf σ b++[nb])
     |_,_=>none
    else none
   else none
  |_=>none
def D4(x:V):Option Blk :=
 match x with
 |.s y=>some (.sc .var 1 fun _=>y)
 |.agg n g=>some (.sc .var n g)
 |.aggv l=>some (.vs .var l)
 |x=>if x.one then some (.vs .var [x]) else none
def Z.blk:Z->Blk
 |.ints n=>.sc .var n fun _=>S.zero
 |.scl l=>.sc .var l.length fun i=>l.getD i S.zero
 |.vl l=>.vs .var l
 |.one (.s x)=>.sc .var 1 fun _=>x
 |.one v=>.vs .var [v]
def Z.row(z:Z)(len:Nat):Blk :=
 match z with
 |.ints n=>.sc .var (len*n) fun _=>S.zero
 |.scl l=>.sc .var (len*l.length) fun i=>l.getD (i%l.length) S.zero
 |.one (.s x)=>.sc .var len fun _=>x
 |.vl l=>.vs .var ((List.replicate len l).flatten)
 |.one v=>.vs .var (List.replicate len v)
def Ws(e:Env)(b:Blk)(parts:List (Nat×Nat×O)):Option Blk :=
 match b with
 |.sc m n g=>if QH n parts then (match WJ e parts g with
  |some h=>some (.sc m n h)
  |none=>none) else none
 |.vs m l=>(Ql e parts l).map (.vs m)
 |_=>none
mutual
def V.refs:V->List Nat
 |.ptr b _ _=>[b]
 |.sl b _ _ _ _=>[b]
 |.map b=>[b]
 |.aggv l=>V.refsL l
 |.fn _ l=>V.refsL l
 |.tup l=>V.refsL l
 |.iface _ x=>V.refs x
 |.bm _ x=>V.refs x
 |.pan x=>V.refs x
 |.yv b=>[b]
 |_=>[]
def V.refsL:List V->List Nat
 |[]=>[]
 |x::l=>V.refs x++V.refsL l
end
def ddp:List Nat->List Nat
 |[]=>[]
 |b::l=>bif l.contains b then ddp l else b::ddp l
def Blk.refs:Blk->List Nat
 |.lp _ _ l _=>ddp (V.refsL l)
 |.vs _ l=>V.refsL l
 |.mp _ l=>V.refsL (l.map (·.2))
 |_=>[]
mutual
def V.ren(f:Nat->Option Nat):V->Option V
 |.ptr b o z=>(f b).map fun b=>.ptr b o z
 |.sl b o n z m=>(f b).map fun b=>.sl b o n z m
 |.map b=>(f b).map .map
 |.aggv l=>(V.renL f l).map .aggv
 |.fn g l=>(V.renL f l).map (.fn g)
 |.tup l=>(V.renL f l).map .tup
 |.iface t x=>(V.ren f x).map (.iface t)
 |.s x=>some (.s x)
 |.agg n g=>some (.agg n g)
 |.pnil=>some .pnil
 |.slz=>some .slz
 |.snil=>some .snil
 |.mnil=>some .mnil
 |.fnil=>some .fnil
 |.inil=>some .inil
 |.undef=>some .undef
 |.bm g x=>(V.ren f x).map (.bm g)
 |.pan _=>none
 |.yv b=>(f b).map .yv
def V.renL(f:Nat->Option Nat):List V->Option (List V)
 |[]=>some []
 |x::l=>match V.ren f x,V.renL f l with
  |some y,some r=>some (y::r)
  |_,_=>none
end
def XG(q:Bool)(m:Md):Md:=bif q then .ro else m
def yB(f:Nat->Option Nat):List (S×V)->Option (List (S×V))
 |[]=>some []
 |(k,x)::l=>match V.ren f x,yB f l with
  |some y,some r=>some ((k,y)::r)
  |_,_=>none
def Blk.ren(q:Bool)(f:Nat->Option Nat):Blk->Option Blk
 |.sc m n g=>some (.sc (XG q m) n g)
 |.vs m l=>(V.renL f l).map (.vs (XG q m))
 |.mp m l=>(yB f l).map (.mp (XG q m))
 |.dead=>some .dead
 |.sit _ _=>none
 |.lp k rd l st=>bif q then none else (V.renL f l).map (.lp k rd · st)
def YN(σ:Heap):Nat->List Nat->List Nat->List Nat
 |0,_,acc=>acc
 |_+1,[],acc=>acc
 |n+1,b::w,acc=>bif acc.contains b then YN σ n w acc else YN σ n ((σ.getD b .dead).refs++w) (acc++[b])
def pos(b:Nat):List Nat->Option Nat
 |[]=>none
 |c::l=>bif c==b then some 0 else (pos b l).map (·+1)
def Y6(q:Bool)(f:Nat->Option Nat)(σ:Heap):List Nat->Option (List Blk)
 |[]=>some []
 |b::l=>match (σ[b]?).bind (Blk.ren q f),Y6 q f σ l with
  |some x,some r=>some (x::r)
  |_,_=>none
def XD(σ:Heap):List Nat->List Blk->Heap
 |b::l,x::r=>XD (σ.set b x) l r
 |_,_=>σ
abbrev Runner:=FuncId->List V->Heap->Option (V×Heap)
def nodup:List Nat->Bool
 |[]=>true
 |b::l=>!l.contains b&&nodup l
def Xq(q:Bool)(all:List V)(σ:Heap):Option (List Nat×List V×Heap) :=
 let rs:=YN σ 64 (V.refsL all) []
 match V.renL (pos · rs) all,Y6 q (pos · rs) σ rs with
 |some as,some σ0=>some (rs,as,σ0)
 |_,_=>none
def Xi(q:Bool)(k:Nat)(r:V)(σ1:Heap):List Nat :=
 (YN σ1 64 (r.refs++bif q then [] else (σ1.take k).flatMap Blk.refs) []).filter (fun b=>Nat.ble k b)
def Xa(rs ns:List Nat)(n k:Nat):Nat->Option Nat:=fun b=>bif Nat.blt b k then rs[b]? else (pos b ns).map (n+·)
def Xn(q:Bool)(σ:Heap)(rs:List Nat)(r:V)(σ1:Heap):Option (V×Heap) :=
 let ns:=Xi q rs.length r σ1
 bif nodup rs&&nodup ns&&Nat.ble rs.length σ1.length then
  match V.ren (Xa rs ns σ.length rs.length) r,Y6 false (Xa rs ns σ.length rs.length) σ1 ns with
  |some r',some new=>bif q then some (r',σ++new) else
   (match Y6 false (Xa rs ns σ.length rs.length) σ1 (List.range rs.length) with
   |some old=>some (r',XD σ rs old++new)
   |none=>none)
  |_,_=>none
 else none
def target(v:V)(args:List V):Option (FuncId×List V) :=
 match v with
 |.fn f caps=>some (f,args++caps)
 |.bm f x=>some (f,x::args)
 |_=>none
def Y5(run:Runner)(q:Bool)(v:V)(args:List V)(σ:Heap):Option (V×Heap) :=
 (target v args).bind fun t=>(Xq q t.2 σ).bind fun x=>(run t.1 x.2.1 x.2.2).bind fun y=>Xn q σ x.1 y.1 y.2
def V1(run:Runner)(fid:FuncId)(av:List V)(σ:Heap):Option (V×Heap) :=
 (Xq false av σ).bind fun x=>(run fid x.2.1 x.2.2).bind fun y=>Xn false σ x.1 y.1 y.2
def U9:List V->Bool
 |.pan .undef::_=>true
 |_=>false
def Qr(run:Runner)(k:Nat)(av:List V)(σ:Heap):Option (V×Heap) :=
 (Xq false av σ).bind fun x=>(run k (.pan .undef::x.2.1) x.2.2).bind fun y=>Xn false σ x.1 y.1 y.2
def Vh(run:Runner)(v:V)(args:List V)(σ:Heap):Option (V×Heap) :=
 (target v args).bind fun t=>(Xq false t.2 σ).bind fun x=>(run t.1 x.2.1 x.2.2).bind fun y=>match y.1 with
  |.pan p=>Xn false σ x.1 p y.2
  |_=>none
def Xv(s:ByteArray):Nat->S:=fun i=>.int .u8 (s.data.getD i 0).toNat
def Q4(σ:Heap)(el:TypeId)(bytes:Nat)(s x:V):Option (V×Heap) :=
 match x with
 |.s (.str t)=>match s with
  |.snil=>if t.size=0 then some (.snil,σ) else bif XC t.size bytes then some (.sl σ.length 0 t.size 1 .whole,σ++[.sc (.gty el) t.size (Xv t)]) else none
  |.sl b _ n 1 .whole=>match σ[b]? with
   |some (.sc (.gty el') _ g)=>if el'=el then (bif XC (n+t.size) bytes then some (.sl σ.length 0 (n+t.size) 1 .whole,wf σ b++[.sc (.gty el) (n+t.size) (fun i=>bif Nat.blt i n then g i else Xv t (i-n))]) else none) else none
   |some (.sc .grow _ g)=>bif XC (n+t.size) bytes then some (.sl σ.length 0 (n+t.size) 1 .whole,wf σ b++[.sc .grow (n+t.size) (fun i=>bif Nat.blt i n then g i else Xv t (i-n))]) else none
   |_=>none
  |_=>none
 |_=>none
def QT(k:S):List (S×V)->Option V
 |[]=>none
 |(j,v)::l=>bif j.eqB k then some v else QT k l
def mput(k:S)(v:V):List (S×V)->List (S×V)
 |[]=>[(k,v)]
 |(j,u)::l=>bif j.eqB k then (j,v)::l else (j,u)::mput k v l
def byteOf:S->Nat
 |.int _ n=>n.toNat
 |_=>0
def Jh:S->Bool
 |.int .u8 _=>true
 |_=>false
def YK(run:Runner)(i:HIns)(e:Env)(σ:Heap):Option (V×Heap) :=
 match i with
 |.alloc z=>some (.ptr σ.length 0 z.size,σ++[z.blk])
 |.box x=>match D4 (x.ev e) with
  |some (.sc m n g)=>some (.ptr σ.length 0 n,σ++[.sc m n g])
  |some (.vs m l)=>some (.ptr σ.length 0 l.length,σ++[.vs m l])
  |_=>none
 |.mksl len z zero parts=>(Ws e (zero.row len) (parts.map fun p=>(p.1*z,z,p.2))).map fun b=>(.sl σ.length 0 len z (.ex len),σ++[b])
 |.load agg n a=>match a.ev e with
  |.ptr b o z=>if n<=z then (rdV σ b o n agg).map (·,σ) else none
  |_=>none
 |.store n a x=>match a.ev e with
  |.ptr b o z=>if n<=z then (wrV σ b o n (x.ev e)).map (.undef,·) else none
  |_=>none
 |.call f args=>Y5 run false (f.ev e) (args.map (·.ev e)) σ
 |.callq f args=>Y5 run true (f.ev e) (args.map (·.ev e)) σ
 |.append z bytes s x=>WL σ z bytes (s.ev e) (x.ev e)
 |.b2s x=>match x.ev e with
  |.sl b o n z _=>match σ[b]? with
   |some (.sc _ _ g)=>if z=1 then bif Xp n (fun i=>Jh (g (o+i))) then some (.s (.str ⟨((List.range n).map fun i=>UInt8.ofNat (byteOf (g (o+i)))).toArray⟩),σ) else none else none
   |_=>none
  |.snil=>some (.s (.str ⟨#[]⟩),σ)
  |_=>none
 |.mkmap=>some (.map σ.length,σ++[.mp .var []])
 |.mput m k v=>match m.ev e,k.ev e with
  |.map b,.s j=>match σ[b]? with
   |some (.mp md l)=>if md.mut then (bif l.all (fun p=>p.1.fits j)&&j.fits j then some (.undef,σ.set b (.mp md (Am.mput j (v.ev e) l))) else none) else none
   |_=>none
  |_,_=>none
 |.mget zero ok m k=>match m.ev e,k.ev e with
  |.map b,.s j=>match σ[b]? with
   |some (.mp _ l)=>bif l.all (fun p=>p.1.fits j) then (match QT j l with
    |some v=>some (bif ok then .tup [v,.s (.bool true)] else v,σ)
    |none=>some (bif ok then .tup [zero.v,.s (.bool false)] else zero.v,σ)) else none
   |_=>none
  |_,_=>none
 |.alloct t l=>some (.ptr σ.length 0 l.length,σ++[.vs (.ty t) l])
 |.boxt t x=>match x.ev e with
  |.aggv l=>some (.ptr σ.length 0 l.length,σ++[.vs (.ty t) l])
  |_=>none
 |.appendb el bytes s x=>Q4 σ el bytes (s.ev e) (x.ev e)
 |.pnc _=>none
 |.bad=>none
inductive Ex where
 |normal
 |exit (id:Nat)
 |ret
 |panic (x:V)
def XK(e:Env)(d:Option Nat)(v:V):Env :=
 match d with
 |some d=>e.set d v
 |none=>e
def Xr(run:Runner)(i:Ins)(e:Env)(σ:Heap):Option (V×Heap) :=
 match i with
 |.p i=>(YY i e).map (·,σ)
 |.h i=>YK run i e σ
def XO(run:Runner)(o:I)(e:Env)(σ:Heap):Option (Env×Heap) :=
 match o.g with
 |none=>(Xr run o.ins e σ).map fun r=>(XK e o.dst r.1,r.2)
 |some (t,want)=>match e.getD t .undef with
  |.s (.bool b)=>bif b==want then (Xr run o.ins e σ).map fun r=>(XK e o.dst r.1,r.2) else some (XK e o.dst (.tup []),σ)
  |.tup []=>some (XK e o.dst (.tup []),σ)
  |_=>none
def Vc(run:Runner):List I->Env->Heap->Option (Env×Heap)
 |[],e,σ=>some (e,σ)
 |o::l,e,σ=>(XO run o e σ).bind fun r=>Vc run l r.1 r.2
abbrev Res:=Option (Ex×Env×Heap)
def XY(o:I)(e:Env):Bool :=
 match o.g with
 |none=>true
 |some (t,want)=>match e.getD t .undef with
  |.s (.bool b)=>b==want
  |_=>false
def WZ(run:Runner)(o:I)(e:Env)(σ:Heap):Option (V×Heap) :=
 bif XY o e then (match o.ins with
  |.h (.call f args)=>Vh run (f.ev e) (args.map (·.ev e)) σ
  |.h (.pnc x)=>match x.ev e with
   |.iface t y=>some (.iface t y,σ)
   |_=>none
  |_=>none) else none
def VL(run:Runner)(o:I)(e:Env)(σ:Heap):Option (Env×Heap) :=
 bif XY o e then (match o.ins with
  |.h (.call f args)=>match f.ev e with
   |.yv b=>match σ[b]? with
    |some (.lp k _ _ _)=>(Qr run k (.yv b::args.map (·.ev e)) σ).map fun r=>(XK e o.dst r.1,r.2)
    |_=>none
   |_=>none
  |_=>none) else none
def YX(run:Runner):List I->Env->Heap->Res
 |[],e,σ=>some (.normal,e,σ)
 |o::l,e,σ=>match XO run o e σ with
  |some r=>YX run l r.1 r.2
  |none=>match VL run o e σ with
   |some r=>YX run l r.1 r.2
   |none=>(WZ run o e σ).map fun r=>(.panic r.1,e,r.2)
def WF(run:Runner):List I->Env->Heap->Res
 |[],e,σ=>some (.normal,e,σ)
 |o::l,e,σ=>match XO run o e σ with
  |some r=>WF run l r.1 r.2
  |none=>(WZ run o e σ).map fun r=>(.panic r.1,e,r.2)
def Qb(run:Runner)(g:O)(k:Nat)(rd:RD)(e:Env)(σ:Heap):Res :=
 match g.ev e with
 |.fn gf caps=>match V1 run gf (.yv σ.length::caps) (σ++[.lp k rd e 0]) with
  |some r=>match r.2[σ.length]? with
   |some (.lp _ _ _ 0)=>some (.normal,e,wf r.2 σ.length)
   |some (.lp _ _ _ 2)=>some (.ret,e,wf r.2 σ.length)
   |some (.lp _ _ _ (j+3))=>some (.exit j,e,wf r.2 σ.length)
   |_=>none
  |none=>none
 |_=>none
def Ex.then(r:Res)(f:Env->Heap->Res):Res :=
 match r with
 |some (.normal,e,σ)=>f e σ
 |r=>r
def Xy(l:List I):List Nat->List I
 |[]=>[]
 |i::r=>match l[i]? with
  |some o=>o::Xy l r
  |none=>Xy l r
def UV(r r':Res):Prop :=
 match r,r' with
 |some (.panic x,_,σ),some (.panic y,_,τ)=>x=y/\σ=τ
 |a,b=>a=b
def Qx(body:Env->Heap->Res):Nat->Env->Heap->Res
 |0,_,_=>none
 |n+1,e,σ=>Ex.then (body e σ) (Qx body n)
open Classical in
noncomputable def Xh(run:Runner)(n:Nat):AC->Env->Heap->Res
 |.skip,e,σ=>some (.normal,e,σ)
 |.ops l,e,σ=>YX run l e σ
 |.par l,e,σ=>(Vc run l e σ).map fun r=>(.normal,r.1,r.2)
 |.parc ps l,e,σ=>if ∀ p∈ps,UV (YX run (Xy l p) e σ) (YX run l e σ) then YX run l e σ else none
 |.bad,_,_=>none
 |.seq a b,e,σ=>Ex.then (Xh run n a e σ) (Xh run n b)
 |.cond c a b,e,σ=>match c.ev e with
  |.s (.bool t)=>bif t then Xh run n a e σ else Xh run n b e σ
  |_=>none
 |.block id b,e,σ=>match Xh run n b e σ with
  |some (.exit j,e',σ')=>bif j==id then some (.normal,e',σ') else some (.exit j,e',σ')
  |r=>r
 |.loop b,e,σ=>Qx (Xh run n b) n e σ
 |.exit id,e,σ=>some (.exit id,e,σ)
 |.ret,e,σ=>some (.ret,e,σ)
 |.rfn g k rd,e,σ=>Qb run g k rd e σ
def wD(e:Env)(σ:Heap):Rv->Option V
 |.tmp t=>some (e.getD t .undef)
 |.cell a agg n=>match e.getD a .undef with
  |.ptr b o z=>if n<=z then rdV σ b o n agg else none
  |_=>none
def Ru(e:Env)(σ:Heap):List Rv->Option (List V)
 |[]=>some []
 |r::l=>match wD e σ r,Ru e σ l with
  |some x,some y=>some (x::y)
  |_,_=>none
def Eg(e:Env)(σ:Heap)(l:List Rv):Option V :=
 match Ru e σ l with
 |some [x]=>some x
 |some l=>some (.tup l)
 |none=>none
structure BF where
 rd:RD
 ps:List Nat
 asg:AC
 body:AC
structure AP where
 fns:FuncId->Option AF
 prims:FuncId->Option (List V->Heap->Option (V×Heap))
 bods:Nat->Option BF:=fun _=>none
def EH(e:Env):List Nat->List V->Env
 |t::ps,x::xs=>EH (e.set t x) ps xs
 |_,_=>e
def yO(σ:Heap)(b:Nat)(ex:Ex):Option (V×Heap) :=
 match σ[b]? with
 |some (.lp k rd caps 1)=>match ex with
  |.normal=>some (.s (.bool true),σ.set b (.lp k rd caps 0))
  |.ret=>some (.s (.bool false),σ.set b (.lp k rd caps 2))
  |.exit j=>some (.s (.bool false),σ.set b (.lp k rd caps (j+3)))
  |.panic _=>none
 |_=>none
open Classical in
noncomputable def wH(A:AP)(run:Runner)(n k:Nat)(args:List V)(σ:Heap):Option (V×Heap) :=
 match A.bods k,args with
 |some B,.yv b::xs=>match σ[b]? with
  |some (.lp k' rd caps 0)=>if k'=k/\rd=B.rd/\xs.length=B.ps.length then
   (match Xh run n B.asg (EH caps B.ps xs) σ with
   |some (.normal,e1,σ1)=>match σ1[b]? with
    |some (.lp k1 rd1 caps1 0)=>match Xh run n B.body e1 (σ1.set b (.lp k1 rd1 caps1 1)) with
     |some (ex,_,σ2)=>yO σ2 b ex
     |none=>none
    |_=>none
   |_=>none) else none
  |_=>none
 |_,_=>none
def QB(a:AF)(r:Res):Option (V×Heap) :=
 match r with
 |some (.exit _,_,_)=>none
 |some (.panic x,_,σ)=>some (.pan x,σ)
 |some (_,e,σ)=>(Eg e σ a.res).map (·,σ)
 |none=>none
def K4(a:AF)(args:List V):Env:=args++List.replicate (a.nt-args.length) .undef
noncomputable def XQ(A:AP):Nat->Runner
 |0,_,_,_=>none
 |n+1,f,args,σ=>bif U9 args then wH A (XQ A n) n f args.tail σ else (match A.prims f with
  |some pf=>pf args σ
  |none=>match A.fns f with
   |some a=>QB a (Xh (XQ A n) n a.body (K4 a args) σ)
   |none=>none)
end Go.Am
namespace Go.Am
open Go
structure Place where
 c:Nat
 base:Nat
 n:Nat
 cap:Nat
 sz:Nat
abbrev Inj:=Nat->Option Place
def Jt(p:Place)(o n z:Nat)(m:Cp)(c:Nat):Prop :=
 match m with
 |.ex k=>c=k/\n<=k/\o+k*z<=p.n
 |.unk=>n<=c
 |.whole=>o=0/\p.base=0/\c=p.cap/\n<=c/\c*z=p.sz/\n*z=p.n
mutual
def VR(ι:Inj):V->Value->Prop
 |.s x,v=>v=x.val
 |.agg n g,v=>∃ cs:Array Value,v=.agg cs/\cs.size=n/\∀ i,i<n->cs[i]? = some (g i).val
 |.aggv l,v=>∃ cs:List Value,v=.agg cs.toArray/\VRL ι l cs
 |.ptr b o z,v=>∃ p,ι b=some p/\o+z<=p.n/\v=.pointer (some ⟨p.c,p.base+o,none⟩)
 |.pnil,v=>v=.pointer none
 |.sl b o n z m,v=>∃ p c,ι b=some p/\o+n*z<=p.n/\v=.slice (some ⟨p.c,p.base+o,none⟩) n c/\Jt p o n z m c
 |.slz,v=>∃ a c,v=.slice (some a) 0 c
 |.snil,v=>v=.slice none 0 0
 |.map b,v=>∃ p,ι b=some p/\v=.map (some p.c)
 |.mnil,v=>v=.map none
 |.fn f l,v=>∃ cs:List Value,v=.func (.func f) #[] cs.toArray/\VRL ι l cs
 |.fnil,v=>v=.nilFunc
 |.iface t x,v=>∃ u,v=.iface t u/\VR ι x u
 |.inil,v=>v=.nilIface
 |.tup l,v=>∃ cs:List Value,v=.tuple cs.toArray/\VRL ι l cs
 |.undef,_=>True
 |.bm f x,v=>∃ u,v=.func (.func f) #[u] #[]/\VR ι x u
 |.pan _,_=>False
 |.yv b,v=>∃ p,ι b=some p/\v=.func (.yield p.c) #[] #[]
def VRL(ι:Inj):List V->List Value->Prop
 |[],vs=>vs=[]
 |x::l,vs=>∃ v r,vs=v::r/\VR ι x v/\VRL ι l r
end
def Md.tyOK(m:Md)(T:TypeId)(n sz:Nat):Prop :=
 match m with
 |.ty t=>T=t/\sz=n
 |.gty t=>T=t
 |_=>True
def Md.tyOK_same{m:Md}{T:TypeId}(h:m.tyOK T 0 0)(n:Nat):m.tyOK T n n:=by
 cases m <;> simp_all [Md.tyOK]
def Own(m:Md)(W:World)(p:Place):Prop :=
 m.mut=true->p.base=0/\p.n<=p.sz/\∃ cs T,W.heap[p.c]? = some (.cells cs T (0,0))/\cs.size=p.sz/\m.tyOK T p.n p.sz
def MR(ι:Inj):List (S×V)->List MapEntry->Prop
 |[],es=>es=[]
 |(k,x)::l,es=>∃ e r,es=e::r/\e.key=k.val/\VR ι x e.val/\MR ι l r
def Stamps(es:List MapEntry)(ck:Nat):Prop:=(∀ x∈es,x.born<ck)∧(es.map (·.born)).Nodup
def Stamps.nil:Stamps [] 0:=⟨by simp,List.nodup_nil⟩
def Stamps.push{es:List MapEntry}{ck:Nat}(h:Stamps es ck)(k v:Value):Stamps (es++[⟨k,v,ck⟩]) (ck+1):=by
 refine⟨fun x hx=>?_,?_⟩
 ·rcases Zcg.1 hx with hx|hx
  ·exact Nat.lt_succ_of_lt (h.1 x hx)
  rw[List.mem_singleton.1 hx];exact Nat.lt_succ_self _
 rw[List.map_append];refine List.nodup_append.2 ⟨h.2,by simp,?_⟩;intro a ha b hb;obtain⟨x,hx,rfl⟩:=List.mem_map.1 ha;have h1:=h.1 x hx;have:b=ck:=by simpa using hb
 omega
def Stamps.modify{es:List MapEntry}{ck:Nat}(h:Stamps es ck)(q:Nat)(k v:Value):Stamps (es.modify q fun e=>{ e with key:=k,val:=v }) ck:=by
 have hb:(es.modify q fun e=>{ e with key:=k,val:=v }).map (·.born)=es.map (·.born):=by
  clear h;induction es generalizing q with
  |nil=>cases q <;> rfl
  |cons x es ih=>
   cases q with
   |zero=>rfl
   |succ q=>rw[List.modify_succ_cons,List.map_cons,List.map_cons,ih]
 refine⟨fun x hx=>?_,by rw[hb];exact h.2⟩;have:x.born∈es.map (·.born):=by rw[<-hb];exact List.mem_map.2 ⟨x,hx,rfl⟩
 obtain⟨y,hy,e⟩:=List.mem_map.1 this;rw[<-e];exact h.1 y hy
def stOK(st:Nat)(r:Loop):Prop :=
 match st with
 |0=>r.state=.ready/\r.pending=none
 |1=>r.state=.busy
 |2=>r.state=.done/\r.pending=some .ret
 |j+3=>r.state=.done/\r.pending=some (.exit j)
def LpR(ι:Inj)(W:World)(rd:RD)(caps:List V)(st:Nat)(p:Place):Prop :=
 ∃ r,W.heap[p.c]? = some (.loop r)/\VRL ι caps r.tmps.toList/\r.params=rd.ps/\r.assign=rd.asg/\r.body=rd.body/\stOK st r
def BlkR(ι:Inj)(W:World)(x:Blk)(p:Place):Prop :=
 match x with
 |.sc m n g=>n=p.n/\(∀ i,i<n->W.cell? ⟨p.c,p.base+i,none⟩=some (g i).val)/\Own m W p
 |.vs m l=>l.length=p.n/\(∀ i x,l[i]? = some x->∃ v,W.cell? ⟨p.c,p.base+i,none⟩=some v/\VR ι x v)/\Own m W p
 |.mp _ l=>∃ es ck,W.heap[p.c]? = some (.map es ck)/\MR ι l es.toList/\Stamps es.toList ck
 |.dead=>True
 |.sit s pos=>p.base=0/\W.heap[p.c]? = some (.stringIter s pos)
 |.lp _ rd caps st=>LpR ι W rd caps st p
def Blk.mut:Blk->Bool
 |.sc m _ _=>m.mut
 |.vs m _=>m.mut
 |.mp m _=>m.mut
 |.dead=>false
 |.sit _ _=>true
 |.lp _ _ _ _=>true
def Blk.live:Blk->Bool
 |.dead=>false
 |_=>true
def mutb(σ:Heap)(b:Nat):Prop:=∃ x,σ[b]? = some x/\x.mut=true
def X9(σ:Heap)(b:Nat):Prop:=∃ x,σ[b]? = some x/\x.live=true
def mutb.live{σ:Heap}{b:Nat}(h:mutb σ b):X9 σ b:=by
 obtain⟨x,hx,hm⟩:=h;refine⟨x,hx,?_⟩
 cases x <;> simp_all [Blk.mut,Blk.live]
class Bas where
 w:World
structure RelW[Bas](ι:Inj)(σ:Heap)(W:World):Prop where
 lt:∀ b p,ι b=some p->p.c<W.heap.size
 blk:∀ b p x,ι b=some p->σ[b]? = some x->BlkR ι W x p
 sep:∀ b b' p p',ι b=some p->ι b'=some p'->b≠b'->mutb σ b->X9 σ b'->p.c≠p'.c
 gap:∀ b p,ι b=some p->mutb σ b->Bas.w.heap.size<=p.c
 bsz:Bas.w.heap.size<=W.heap.size
 bas:∀ c,c<Bas.w.heap.size->W.heap[c]? = Bas.w.heap[c]?
def Ext(ι ι':Inj):Prop:=∀ b p,ι b=some p->ι' b=some p
def Ext.refl(ι:Inj):Ext ι ι:=fun _ _ h=>h
def Ext.trans{a b c:Inj}(h:Ext a b)(k:Ext b c):Ext a c:=fun _ _ x=>k _ _ (h _ _ x)
mutual
def VR.ext{ι ι':Inj}(h:Ext ι ι'):∀ (x:V) (v:Value),VR ι x v->VR ι' x v
 |.s _,_,hx=>by simpa only[VR] using hx
 |.agg _ _,_,hx=>by simpa only[VR] using hx
 |.aggv l,_,hx=>by
  simp only[VR]at hx ⊢;obtain⟨cs,e,hl⟩:=hx;exact⟨cs,e,VRL.ext h l cs hl⟩
 |.ptr b o z,_,hx=>by
  simp only[VR]at hx ⊢;obtain⟨p,hp,r⟩:=hx;exact⟨p,h _ _ hp,r⟩
 |.pnil,_,hx=>by simpa only[VR] using hx
 |.sl b o n z m,_,hx=>by
  simp only[VR]at hx ⊢;obtain⟨p,c,hp,r⟩:=hx;exact⟨p,c,h _ _ hp,r⟩
 |.slz,_,hx=>by simpa only[VR] using hx
 |.snil,_,hx=>by simpa only[VR] using hx
 |.map b,_,hx=>by
  simp only[VR]at hx ⊢;obtain⟨p,hp,r⟩:=hx;exact⟨p,h _ _ hp,r⟩
 |.mnil,_,hx=>by simpa only[VR] using hx
 |.fn f l,_,hx=>by
  simp only[VR]at hx ⊢;obtain⟨cs,e,hl⟩:=hx;exact⟨cs,e,VRL.ext h l cs hl⟩
 |.fnil,_,hx=>by simpa only[VR] using hx
 |.iface t x,_,hx=>by
  simp only[VR]at hx ⊢;obtain⟨u,e,hu⟩:=hx;exact⟨u,e,VR.ext h x u hu⟩
 |.inil,_,hx=>by simpa only[VR] using hx
 |.tup l,_,hx=>by
  simp only[VR]at hx ⊢;obtain⟨cs,e,hl⟩:=hx;exact⟨cs,e,VRL.ext h l cs hl⟩
 |.undef,_,_=>by simp only[VR]
 |.bm f x,_,hx=>by
  simp only[VR]at hx ⊢;obtain⟨u,e,hu⟩:=hx;exact⟨u,e,VR.ext h x u hu⟩
 |.pan _,_,hx=>by simp only[VR]at hx
 |.yv b,_,hx=>by
  simp only[VR]at hx ⊢;obtain⟨p,hp,r⟩:=hx;exact⟨p,h _ _ hp,r⟩
def VRL.ext{ι ι':Inj}(h:Ext ι ι'):∀ (l:List V) (vs:List Value),VRL ι l vs->VRL ι' l vs
 |[],_,hx=>by simpa only[VRL] using hx
 |x::l,_,hx=>by
  simp only[VRL]at hx ⊢;obtain⟨v,r,e,hv,hr⟩:=hx;exact⟨v,r,e,VR.ext h x v hv,VRL.ext h l r hr⟩
end
def MR.ext{ι ι':Inj}(h:Ext ι ι'):∀ (l:List (S×V)) (es:List MapEntry),MR ι l es->MR ι' l es
 |[],_,hx=>by simpa only[MR] using hx
 |(k,x)::l,_,hx=>by
  simp only[MR]at hx ⊢;obtain⟨e,r,e1,hk,hv,hr⟩:=hx;exact⟨e,r,e1,hk,VR.ext h x _ hv,MR.ext h l r hr⟩
def VRL.length{ι:Inj}:∀ {l:List V} {vs:List Value},VRL ι l vs->l.length=vs.length
 |[],_,h=>by simp only[VRL]at h;subst h;rfl
 |x::l,_,h=>by
  simp only[VRL]at h;obtain⟨v,r,rfl,_,hr⟩:=h;simp[VRL.length hr]
def VRL.at{ι:Inj}:∀ {l:List V} {vs:List Value},VRL ι l vs->∀ (i:Nat) x,l[i]? = some x->∃ v,vs[i]? = some v/\VR ι x v
 |[],_,_,i,x,hx=>by simp at hx
 |y::l,_,h,i,x,hx=>by
  simp only[VRL]at h;obtain⟨v,r,rfl,hv,hr⟩:=h
  cases i with
  |zero=>simp at hx;subst hx;exact⟨v,by simp,hv⟩
  |succ i=>simp at hx;simpa using VRL.at hr i x hx
def VRL.of_at{ι:Inj}:∀ {l:List V} {vs:List Value},l.length=vs.length->(∀ (i:Nat) x v,l[i]? = some x->vs[i]? = some v->VR ι x v)->VRL ι l vs
 |[],vs,h,_=>by simp only[VRL];exact List.length_eq_zero_iff.1 h.symm
 |x::l,[],h,_=>by simp at h
 |x::l,v::vs,h,ha=>by
  simp only[VRL];exact⟨v,vs,rfl,ha 0 x v rfl rfl,VRL.of_at (by simpa using h) fun i y u hy hu=>ha (i+1) y u (by simpa using hy) (by simpa using hu)⟩
def VRL.append{ι:Inj}:∀ {l:List V} {vs:List Value} {m:List V} {ws:List Value},VRL ι l vs->VRL ι m ws->VRL ι (l++m) (vs++ws)
 |[],_,_,_,h,k=>by simp only[VRL]at h;subst h;simpa using k
 |x::l,_,_,_,h,k=>by
  simp only[VRL]at h;obtain⟨v,r,rfl,hv,hr⟩:=h;simp only[List.cons_append,VRL];exact⟨v,_,rfl,hv,VRL.append hr k⟩
def VRL.drop{ι:Inj}:∀ (n:Nat) {l:List V} {vs:List Value},VRL ι l vs->VRL ι (l.drop n) (vs.drop n)
 |0,_,_,h=>by simpa using h
 |n+1,[],_,h=>by simp only[VRL]at h;subst h;simp[VRL]
 |n+1,x::l,_,h=>by
  simp only[VRL]at h;obtain⟨v,r,rfl,hv,hr⟩:=h;simpa using VRL.drop n hr
def VRL.take{ι:Inj}:∀ (n:Nat) {l:List V} {vs:List Value},VRL ι l vs->VRL ι (l.take n) (vs.take n)
 |0,_,_,h=>by simp[VRL]
 |n+1,[],_,h=>by simp only[VRL]at h;subst h;simp[VRL]
 |n+1,x::l,_,h=>by
  simp only[VRL]at h;obtain⟨v,r,rfl,hv,hr⟩:=h;simp only[List.take_succ_cons,VRL];exact⟨v,_,rfl,hv,VRL.take n hr⟩
structure Same(W W':World):Prop where
 os:W'.os=W.os
 tape:W'.tape=W.tape
 output:W'.output=W.output
 size:W.heap.size<=W'.heap.size
def Same.refl(W:World):Same W W:=⟨rfl,rfl,rfl,Zcs _⟩
def Same.trans{a b c:World}(h:Same a b)(k:Same b c):Same a c:=⟨k.os.trans h.os,k.tape.trans h.tape,k.output.trans h.output,Zcq h.size k.size⟩
structure Post[Bas](ι:Inj)(σ:Heap)(W:World)(ι':Inj)(σ':Heap)(W':World):Prop where
 same:Same W W'
 ext:Ext ι ι'
 rel:RelW ι' σ' W'
 len:σ.length<=σ'.length
 frame:∀ c,c<W.heap.size->(∀ b p,ι b=some p->mutb σ b->p.c≠c)->W'.heap[c]? = W.heap[c]?
 fresh:∀ b p,ι' b=some p->ι b=none->(σ.length<=b/\b<σ'.length)/\(W.heap.size<=p.c\/∃ b0 p0,ι b0=some p0/\mutb σ b0/\p0.c=p.c)
 mono:∀ b,b<σ.length->mutb σ' b->mutb σ b
 lives:∀ b,b<σ.length->X9 σ' b->X9 σ b
structure QPost[Bas](ι:Inj)(σ:Heap)(W:World)(ι':Inj)(σ':Heap)(W':World):Prop where
 same:Same W W'
 ext:Ext ι ι'
 rel:RelW ι' σ' W'
 pre:∃ new,σ'=σ++new
 frame:∀ c,c<W.heap.size->W'.heap[c]? = W.heap[c]?
 fresh:∀ b p,ι' b=some p->ι b=none->(σ.length<=b/\b<σ'.length)/\W.heap.size<=p.c
def QPost.post[Bas]{ι:Inj}{σ:Heap}{W:World}{ι':Inj}{σ':Heap}{W':World}(h:QPost ι σ W ι' σ' W'):Post ι σ W ι' σ' W' where
 same:=h.same
 ext:=h.ext
 rel:=h.rel
 len:=by obtain⟨new,rfl⟩:=h.pre;simp
 frame:=fun c hc _=>h.frame c hc
 fresh:=fun b p hb hn=>let⟨r,s⟩:=h.fresh b p hb hn;⟨r,.inl s⟩
 mono:=fun b hb ⟨x,hx,hm⟩=>by
  obtain⟨new,rfl⟩:=h.pre;rw[ZbF hb]at hx;exact⟨x,hx,hm⟩
 lives:=fun b hb ⟨x,hx,hm⟩=>by
  obtain⟨new,rfl⟩:=h.pre;rw[ZbF hb]at hx;exact⟨x,hx,hm⟩
def QPost.refl[Bas]{ι:Inj}{σ:Heap}{W:World}(h:RelW ι σ W):QPost ι σ W ι σ W :=
 ⟨.refl W,.refl ι,h,⟨[],by simp⟩,fun _ _=>rfl,fun b p hb hn=>by simp[hb]at hn⟩
def Dom(ι:Inj)(σ:Heap):Prop:=∀ b p,ι b=some p->b<σ.length
def Post.dom[Bas]{ι:Inj}{σ:Heap}{W:World}{ι':Inj}{σ':Heap}{W':World}(h:Post ι σ W ι' σ' W')(hd:Dom ι σ):Dom ι' σ':=by
 intro b p hb
 cases hn:ι b with
 |none=>exact(h.fresh b p hb hn).1.2
 |some q=>exact Zb3 (hd b q hn) h.len
def Post.trans[Bas]{ι:Inj}{σ:Heap}{W:World}{ι1:Inj}{σ1:Heap}{W1:World}{ι2:Inj}{σ2:Heap}{W2:World}
  (hd:Dom ι σ) (h:Post ι σ W ι1 σ1 W1) (k:Post ι1 σ1 W1 ι2 σ2 W2):Post ι σ W ι2 σ2 W2 where
 same:=h.same.trans k.same
 ext:=h.ext.trans k.ext
 rel:=k.rel
 len:=Zcq h.len k.len
 frame:=fun c hc hm=>by
  rw[k.frame c (Zb3 hc h.same.size) ?_,h.frame c hc hm];intro b p hb hmut
  cases hn:ι b with
  |some q=>
   have e:=h.ext b q hn;rw[hb]at e;injection e with e
   subst e;exact hm b p hn (h.mono b (hd b p hn) hmut)
  |none=>
   rcases(h.fresh b p hb hn).2 with hf|⟨b0,p0,h0,m0,e0⟩
   ·omega
   rw[<-e0];exact hm b0 p0 h0 m0
 fresh:=fun b p hb hn=>by
  cases hn1:ι1 b with
  |some q=>
   have e:=k.ext b q hn1;rw[hb]at e;injection e with e
   subst e;have:=h.fresh b p hn1 hn;exact⟨⟨this.1.1,Zb3 this.1.2 k.len⟩,this.2⟩
  |none=>
   obtain⟨⟨r1,r2⟩,r3⟩:=k.fresh b p hb hn1;refine⟨⟨Zcq h.len r1,r2⟩,?_⟩;rcases r3 with hf|⟨b0,p0,h0,m0,e0⟩
   ·exact .inl (Zcq h.same.size hf)
   cases hn0:ι b0 with
   |some q=>
    have e:=h.ext b0 q hn0;rw[h0]at e;injection e with e
    subst e;exact .inr ⟨b0,p0,hn0,h.mono b0 (hd b0 p0 hn0) m0,e0⟩
   |none=>
    rcases(h.fresh b0 p0 h0 hn0).2 with hf|⟨b1,p1,h1,m1,e1⟩
    ·exact .inl (by omega)
    exact .inr ⟨b1,p1,h1,m1,e1.trans e0⟩
 mono:=fun b hb hm=>h.mono b hb (k.mono b (Zb3 hb h.len) hm)
 lives:=fun b hb hm=>h.lives b hb (k.lives b (Zb3 hb h.len) hm)
def BlkR.keep{ι ι':Inj}{W W':World}{x:Blk}{p:Place}(he:Ext ι ι')(hw:W'.heap[p.c]? = W.heap[p.c]?)(h:BlkR ι W x p):BlkR ι' W' x p:=by
 have hcell:∀ i,W'.cell? ⟨p.c,i,none⟩=W.cell? ⟨p.c,i,none⟩:=fun i=>by simp[World.cell?,hw]
 cases x with
 |sc m n g=>
  obtain⟨h1,h2,h3⟩:=h;exact⟨h1,fun i hi=>by rw[hcell];exact h2 i hi,fun hm=>by rw[hw];exact h3 hm⟩
 |vs m l=>
  obtain⟨h1,h2,h3⟩:=h;refine⟨h1,fun i y hy=>?_,fun hm=>by rw[hw];exact h3 hm⟩;obtain⟨v,hv,hr⟩:=h2 i y hy;exact⟨v,by rw[hcell];exact hv,VR.ext he _ _ hr⟩
 |mp m l=>
  obtain⟨es,ck,h1,h2,h3⟩:=h;exact⟨es,ck,by rw[hw];exact h1,MR.ext he _ _ h2,h3⟩
 |dead=>trivial
 |sit s pos=>exact⟨h.1,by rw[hw];exact h.2⟩
 |lp k rd caps st=>
  obtain⟨r,h1,h2,h3⟩:=h;exact⟨r,by rw[hw];exact h1,VRL.ext he _ _ h2,h3⟩
def Inj.put(ι:Inj)(b:Nat)(p:Place):Inj:=fun c=>if c=b then some p else ι c
def Inj.put_same(ι:Inj)(b:Nat)(p:Place):ι.put b p b=some p:=by simp[Inj.put]
def Inj.put_ext{ι:Inj}{b:Nat}(p:Place)(h:ι b=none):Ext ι (ι.put b p):=by
 intro c q hq;unfold Inj.put;split
 ·rename_i e;subst e;simp[h]at hq
 exact hq
def Vs(W:World)(o:Obj)(c:Nat)(h:c<W.heap.size):(W.alloc o).heap[c]? = W.heap[c]?:=by
 show(W.heap.push o)[c]? = _;rw[Array.getElem?_push,Zcz (by omega)]
def WN(W:World)(o:Obj):(W.alloc o).heap[W.heap.size]? = some o:=by
 show(W.heap.push o)[W.heap.size]? = _;simp
def pp{σ:Heap}{x:Blk}{c:Nat}(hc:c≠σ.length)(h:mutb (σ++[x]) c):mutb σ c:=by
 obtain⟨y,hy,hm⟩:=h;rw[List.getElem?_append]at hy;split at hy
 ·exact⟨y,hy,hm⟩
 rw[List.getElem?_singleton,Zcz (by omega)]at hy;simp at hy
def TC[Bas]{ι:Inj}{σ:Heap}{W:World}(h:RelW ι σ W)(hn:ι σ.length=none)(o:Obj)(x:Blk)(p:Place)
  (hc:p.c=W.heap.size) (hb:BlkR (ι.put σ.length p) (W.alloc o) x p):QPost ι σ W (ι.put σ.length p) (σ++[x]) (W.alloc o) where
 same:=⟨rfl,rfl,rfl,by simp⟩
 ext:=Inj.put_ext p hn
 pre:=⟨[x],rfl⟩
 frame:=fun c hc=>Vs W o c hc
 fresh:=fun b q hq hnone=>by
  unfold Inj.put at hq;split at hq
  ·injection hq with hq;subst hq;simp_all
  simp[hnone]at hq
 rel:=by
  have hext:=Inj.put_ext p hn;refine⟨fun b q hq=>?_,fun b q y hq hy=>?_,fun b b' q q' hq hq' hne hm hl=>?_,fun b q hq hm=>?_,Zcq h.bsz (by simp),fun c hcc=>(Vs W o c (Zb3 hcc h.bsz)).trans (h.bas c hcc)⟩
  case refine_4=>
   unfold Inj.put at hq;split at hq
   ·injection hq with hq;subst hq;rw[hc];exact h.bsz
   rename_i e;exact h.gap b q hq (pp e hm)
  ·unfold Inj.put at hq;split at hq
   ·injection hq with hq;subst hq;simp[hc]
   have:=h.lt b q hq;simp;omega
  ·unfold Inj.put at hq;split at hq
   ·rename_i e;injection hq with hq;subst hq;subst e
    simp at hy;subst hy;exact hb
   rename_i e;have hy':σ[b]? = some y:=by
    rw[List.getElem?_append]at hy;split at hy
    ·exact hy
    rename_i hge;have:b-σ.length≠0:=by omega
    rw[List.getElem?_singleton,Zcz this]at hy;simp at hy
   exact(h.blk b q y hq hy').keep hext (Vs W o _ (h.lt b q hq))
  have hmono:∀ c,c≠σ.length->mutb (σ++[x]) c->mutb σ c:=by
   rintro c hc ⟨y,hy,hm⟩;rw[List.getElem?_append]at hy;split at hy
   ·exact⟨y,hy,hm⟩
   rw[List.getElem?_singleton,Zcz (by omega)]at hy;simp at hy
  have hlono:∀ c,c≠σ.length->X9 (σ++[x]) c->X9 σ c:=by
   rintro c hc ⟨y,hy,hm⟩;rw[List.getElem?_append]at hy;split at hy
   ·exact⟨y,hy,hm⟩
   rw[List.getElem?_singleton,Zcz (by omega)]at hy;simp at hy
  unfold Inj.put at hq hq';split at hq <;> split at hq'
  ·omega
  ·injection hq with hq;subst hq
   have:=h.lt b' q' hq';omega
  ·injection hq' with hq';subst hq'
   have:=h.lt b q hq;omega
  rename_i e1 e2;exact h.sep b b' q q' hq hq' hne (hmono b e1 hm) (hlono b' e2 hl)
def EnvR(ι:Inj)(e:Env)(tmps:Array Value):Prop:=VRL ι e tmps.toList
def EnvR.ext{ι ι':Inj}{e:Env}{tmps:Array Value}(h:EnvR ι e tmps)(he:Ext ι ι'):EnvR ι' e tmps:=VRL.ext he _ _ h
def EnvR.get{ι:Inj}{e:Env}{tmps:Array Value}(h:EnvR ι e tmps)(t:Nat):VR ι (e.getD t .undef) (tmps.getD t Go.undef):=by
 cases hx:e[t]? with
 |none=>simp[List.getD,hx,VR]
 |some x=>
  obtain⟨v,hv,hr⟩:=VRL.at h t x hx;have hv':tmps[t]? = some v:=by simpa using hv
  simp[List.getD,hx,hv',hr]
def VRL.set{ι:Inj}{x:V}{v:Value}(hx:VR ι x v):∀ {l:List V} {vs:List Value} (t:Nat),VRL ι l vs->VRL ι (l.set t x) (vs.set t v)
 |[],_,t,h=>by simp only[VRL]at h;subst h;simp[VRL]
 |y::l,_,0,h=>by
  simp only[VRL]at h;obtain⟨u,r,rfl,hu,hr⟩:=h;simp only[List.set_cons_zero,VRL];exact⟨v,r,rfl,hx,hr⟩
 |y::l,_,t+1,h=>by
  simp only[VRL]at h;obtain⟨u,r,rfl,hu,hr⟩:=h;simp only[List.set_cons_succ,VRL];exact⟨u,_,rfl,hu,VRL.set hx t hr⟩
def EnvR.put{ι:Inj}{e:Env}{a:Act}(h:EnvR ι e a.tmps)(d:Option Nat){x:V}{v:Value}(hx:VR ι x v):EnvR ι (XK e d x) (a.put d v).tmps:=by
 cases d with
 |none=>exact h
 |some d=>
  show VRL ι (e.set d x) (a.tmps.setIfInBounds d v).toList;rw[Array.toList_setIfInBounds];exact VRL.set hx d h
end Go.Am
namespace Go.Am
open Go
def K9:Value->Option V
 |.int k n=>some (.s (.int k n))
 |.bool b=>some (.s (.bool b))
 |.string s=>some (.s (.str s))
 |.pointer none=>some .pnil
 |.slice none 0 0=>some .snil
 |.map none=>some .mnil
 |.nilFunc=>some .fnil
 |.nilIface=>some .inil
 |_=>none
def opd:Operand->Option O
 |.tmp t=>some (.t t)
 |.const v=>(K9 v).map .k
 |.func f=>some (.k (.fn f []))
 |.global _=>none
def KP:List Operand->Option (List O)
 |[]=>some []
 |x::l=>match opd x,KP l with
  |some a,some r=>some (a::r)
  |_,_=>none
def isZ:Value->Bool
 |.int .i64 0=>true
 |_=>false
def Tt:List Value->Option (List V)
 |[]=>some []
 |x::l=>match K9 x,Tt l with
  |some a,some r=>some (a::r)
  |_,_=>none
def Ue:Value->Option Z
 |.agg cs=>if cs.toList.all isZ then some (.ints cs.toList.length) else
  match Tt cs.toList with
  |some l=>match zg l with
   |some r=>some (.scl r)
   |none=>some (.vl l)
  |none=>none
 |v=>(K9 v).map .one
def Xz(P:Program)(t:TypeId):Option Nat:=(P.info? t).map (·.size)
def Kr(P:Program)(t:TypeId):Option Nat:=(P.info? t).map (·.bytes)
def Wu(P:Program)(t:TypeId):Option Z :=
 match P.info? t with
 |some i=>match i.zero with
  |some v=>Ue v
  |none=>none
 |none=>none
def Uc(P:Program)(t:TypeId):Option Bool :=
 match P.underlying t with
 |some (.struct _)=>some true
 |some (.array _ _)=>some true
 |some _=>some false
 |none=>none
def D6(P:Program)(fl:TypeId->Option Nat):List Field->Nat->Option Nat
 |[],acc=>some acc
 |f :: r,acc=> if f.name = "_" then none else if f.offset = acc then
   match fl f.type,Xz P f.type with
   |some k,some k'=>if k=k' then D6 P fl r (acc+k) else none
   |_,_=>none
  else none
def Qp(P:Program):Nat->TypeId->Option Nat
 |0,_=>none
 |d+1,t=>
  match P.underlying t with
  |some (.int _)=>some 1
  |some (.struct fs)=>if P.stoodInHeld t then none else D6 P (Qp P d) fs.toList 0
  |some (.array n e)=>match Qp P d e,Xz P e with
   |some k,some k'=>if k=k' then some (n*k) else none
   |_,_=>none
  |_=>none
def fieldsOf(P:Program)(t:TypeId):Option (List Field) :=
 match P.underlying t with
 |some (.struct fs)=>some fs.toList
 |_=>none
def j9(P:Program)(fs:List Field):Option (List (Nat×Nat)):=fs.mapM fun f=>(P.info? f.type).map fun i=>(f.offset,i.size)
def UM(places:List (Nat×Nat)):List (Nat×Operand)->Option (List (Nat×Nat×O))
 |[]=>some []
 |(i,x)::r=>match places[i]?,opd x,UM places r with
  |some (off,n),some o,some l=>some ((off,n,o)::l)
  |_,_,_=>none
def KB(z:Nat):List (Nat×Operand)->Option (List (Nat×Nat×O))
 |[]=>some []
 |(i,x)::r=>match opd x,KB z r with
  |some o,some l=>some ((i*z,z,o)::l)
  |_,_=>none
def JP:List (Nat×Operand)->Option (List (Nat×O))
 |[]=>some []
 |(i,x)::r=>match opd x,JP r with
  |some o,some l=>some ((i,o)::l)
  |_,_=>none
def opt(x:Option Operand):Option (Option O) :=
 match x with
 |none=>some none
 |some x=>(opd x).map some
def KK(P:Program)(t:TypeId):Bool :=
 match P.underlying t with
 |some (.int _)=>true
 |_=>false
def yY(P:Program)(neg:Bool)(op:BinOp)(t:TypeId)(x y:O):Option PIns :=
 match P.underlying t with
 |some (.int _)=>some (.bin op x y)
 |some .string=>some (.bin op x y)
 |some (.struct _)=>if P.eqGuardType P.depth t then none else (Qp P 12 t).map fun n=>.eqa neg n x y
 |some (.array _ _)=>if P.eqGuardType P.depth t then none else (Qp P 12 t).map fun n=>.eqa neg n x y
 |_=>none
def WT(P:Program)(op:Op):Option PIns :=
 match op with
 |.move x=>(opd x).map .mv
 |.assign x=>(opd x).map .mv
 |.pick c a b=>match opd c,opd a,opd b with
  |some c,some a,some b=>some (.pick c a b)
  |_,_,_=>none
 |.build t parts=>match Wu P t,P.underlying t with
  |some z,some (.struct fs)=>(j9 P fs.toList).bind fun ps=>(UM ps parts.toList).map (.build z)
  |some z,some (.array _ e)=>(Xz P e).bind fun n=>(KB n parts.toList).map (.build z)
  |_,_=>none
 |.nilCheck x=>(opd x).map .nilck
 |.binOp op t x y _=>match opd x,opd y with
  |some x,some y=>match op with
   |.eql=>yY P false .eql t x y
   |.neq=>yY P true .neq t x y
   |op=>some (.bin op x y)
  |_,_=>none
 |.unOp op _ x=>(opd x).map (.un op)
 |.convert s d x=>match P.underlying s,P.underlying d with
  |some (.int _),some (.int k)=>(opd x).map (.conv k)
  |_,_=>none
 |.makeFunc (.func f) first caps=>if first.size=0 then (KP caps.toList).map (.mkfn f) else (match first.toList,caps.toList with
  |[x],[]=>(opd x).map (.mkb f)
  |_,_=>none)
 |.makeInterface t x=>match P.underlying t with
  |some (.interface _)=>none
  |some _=>(opd x).map (.mkif t)
  |none=>none
 |.fieldAddr t x i=>match fieldsOf P t with
  |some fs=>match fs[i]? with
   |some f=>match Xz P f.type with
    |some n=>if n=0 then none else (opd x).map (.fa f.offset n)
    |none=>none
   |none=>none
  |none=>none
 |.field t x i=>match fieldsOf P t with
  |some fs=>match fs[i]? with
   |some f=>match Xz P f.type,Uc P f.type with
    |some n,some a=>if a||n==1 then (opd x).map (.fld a f.offset n) else none
    |_,_=>none
   |none=>none
  |none=>none
 |.indexAddr t x i=>match P.underlying t with
  |some (.array len e)=>match Xz P e,opd x,opd i with
   |some n,some x,some i=>some (.ixa len n x i)
   |_,_,_=>none
  |some (.slice e)=>match Xz P e,opd x,opd i with
   |some n,some x,some i=>some (.ixs n x i)
   |_,_,_=>none
  |_=>none
 |.index t x i=>match P.underlying t with
  |some (.array len e)=>match Xz P e,Uc P e,opd x,opd i with
   |some n,some a,some x,some i=>if a||n==1 then some (.ix len n a x i) else none
   |_,_,_,_=>none
  |some .string=>match opd x,opd i with
   |some x,some i=>some (.ixstr x i)
   |_,_=>none
  |_=>none
 |.slice t x lo hi none=>match opd x,opt lo,opt hi with
  |some x,some lo,some hi=>match P.underlying t with
   |some .string=>some (.slS x lo hi)
   |some (.slice e)=>(Xz P e).map fun n=>.slV n x lo hi
   |some (.array len e)=>(Xz P e).map fun n=>.slA len n x lo hi
   |_=>none
  |_,_,_=>none
 |.extract x i=>(opd x).map (.ext · i)
 |.call c=>match c.callee with
  |.builtin .len=>match c.argTypes[0]?,c.args.toList with
   |some t,[x]=>match P.underlying t with
    |some .string=>(opd x).map .lenS
    |some (.slice _)=>(opd x).map .len
    |_=>none
   |_,_=>none
  |.builtin .min=>(KP c.args.toList).map .mn
  |.builtin .max=>(KP c.args.toList).map .mx
  |_=>none
 |_=>none
def Xw(P:Program)(q:Bool)(op:Op):Option HIns :=
 match op with
 |.alloc t=>(Wu P t).map fun z=>match z with
  |.vl l=>.alloct t l
  |z=>.alloc z
 |.panic x=>(opd x).map .pnc
 |.box t x=>(opd x).map fun o=>match Wu P t with
  |some (.vl _)=>.boxt t o
  |_=>.box o
 |.buildSlice t len parts=>match P.underlying t with
  |some (.slice e)=>match Xz P e,Wu P e,JP parts.toList with
   |some n,some z,some ps=>if z.size=n/\n≠0/\len*n<=2 ^ 24 then some (.mksl len n z ps) else none
   |_,_,_=>none
  |_=>none
 |.load t a=>match Uc P t,Xz P t with
  |some g,some n=>if g||n==1 then (opd a).map (.load g n) else none
  |_,_=>none
 |.store t a x=>match Xz P t,opd a,opd x with
  |some n,some a,some x=>some (.store n a x)
  |_,_,_=>none
 |.convert s d x=>match P.underlying s,P.underlying d with
  |some (.slice e),some .string=>match P.underlying e with
   |some (.int .u8)=>(opd x).map .b2s
   |_=>none
  |_,_=>none
 |.makeMap _ none=>some .mkmap
 |.insert t m k v=>match P.underlying t with
  |some (.map kt _)=>if KK P kt then (match opd m,opd k,opd v with
   |some m,some k,some v=>some (.mput m k v)
   |_,_,_=>none) else none
  |_=>none
 |.mapUpdate t m k v=>match P.underlying t with
  |some (.map kt _)=>if KK P kt then (match opd m,opd k,opd v with
   |some m,some k,some v=>some (.mput m k v)
   |_,_,_=>none) else none
  |_=>none
 |.lookup t m k ok=>match P.underlying t with
  |some (.map kt et)=>if KK P kt then (match Wu P et,opd m,opd k with
   |some z,some m,some k=>some (.mget z ok m k)
   |_,_,_=>none) else none
  |_=>none
 |.call c=>match c.callee with
  |.value f=>match opd f,KP c.args.toList with
   |some f,some as=>some (bif q then .callq f as else .call f as)
   |_,_=>none
  |.builtin .append=>match c.argTypes[0]?,c.argTypes[1]?,c.args.toList with
   |some t,some u,[s,x]=>match P.underlying t,P.underlying u with
    |some (.slice e),some (.slice _)=>match Xz P e,Kr P e,opd s,opd x with
     |some n,some b,some s,some x=>if n=0\/b=0\/c.argTypes≠#[t,t]\/(Wu P e).map Z.size≠some n then none else some (.append n b s x)
     |_,_,_,_=>none
    |some (.slice e),some .string=>match P.underlying e,Kr P e,opd s,opd x with
     |some (.int .u8),some b,some s,some x=>if b=0\/c.argTypes≠#[t,u]\/Xz P e≠some 1\/(Wu P e).map Z.size≠some 1 then none else some (.appendb e b s x)
     |_,_,_,_=>none
    |_,_=>none
   |_,_,_=>none
  |_=>none
 |_=>none
def VP(P:Program)(q:Bool)(op:Op):Ins :=
 match WT P op with
 |some i=>.p i
 |none=>match Xw P q op with
  |some i=>.h i
  |none=>.h .bad
def Eb(ops:List Oper)(g:Option (Nat×Bool)):Option (Option (Nat×Bool)) :=
 match g with
 |none=>some none
 |some (j,want)=>match ops[j]? with
  |some o=>o.dst.map fun d=>some (d,want)
  |none=>none
def Qj(P:Program)(ops:List Oper)(q:Bool)(o:Oper):Option I :=
 match Eb ops o.guard with
 |some g=>some ⟨o.dst,g,VP P q o.op⟩
 |none=>none
def Js(P:Program)(ops:List Oper):List Oper->Option (List I)
 |[]=>some []
 |o::l=>match Qj P ops false o,Js P ops l with
  |some i,some r=>some (i::r)
  |_,_=>none
def bm(acc:List Nat):List Edge->Nat
 |[]=>0
 |e::r=>if Region.binds .any e then 2 ^ e.on ||| acc.getD e.on 0 ||| bm acc r else bm acc r
def Wt:List Oper->List Nat->List Nat
 |[],acc=>acc
 |o::l,acc=>Wt l (acc++[bm acc o.after.toList])
def UQ:List (Oper×Nat)->Bool
 |[]=>true
 |(o,j)::l=>o.after.toList.all (fun e=>!Region.binds .any e||decide (e.on<j))&&UQ l
inductive Kd where
 |pure
 |quiet
 |eff
def HIns.kd:HIns->Kd
 |.store ..|.call ..|.append ..|.mput ..|.appendb ..|.pnc ..|.bad=>.eff
 |_=>.quiet
def Ins.kd:Ins->Kd
 |.p _=>.pure
 |.h i=>i.kd
def rawPure(P:Program)(op:Op):Bool:=(WT P op).isSome
def ordered(m:List Nat)(i j:Nat):Bool:=(m.getD j 0).testBit i||(m.getD i 0).testBit j
def fullAt(P:Program)(ops:List Oper)(m:List Nat)(j:Nat):Bool :=
 ops.zipIdx.all fun p=>p.2==j||rawPure P p.1.op||ordered m p.2 j
def KZ(P:Program)(ops:List Oper)(m:List Nat):List (Oper×Nat)->Option (List I)
 |[]=>some []
 |(o,j)::l=>match Qj P ops (!fullAt P ops m j) o,KZ P ops m l with
  |some i,some r=>some (i::r)
  |_,_=>none
def oT:O->List Nat
 |.t n=>[n]
 |.k _=>[]
def oTs(l:List O):List Nat:=l.flatMap oT
def oTo:Option O->List Nat
 |some x=>oT x
 |none=>[]
def PIns.reads:PIns->List Nat
 |.mkb _ x|.mkif _ x|.mv x|.nilck x|.un _ x|.conv _ x|.fa _ _ x|.fld _ _ _ x|.ext x _|.len x|.lenS x=>oT x
 |.pick c a b=>oT c++oT a++oT b
 |.build _ ps=>ps.flatMap fun p=>oT p.2.2
 |.bin _ x y|.eqa _ _ x y|.ixa _ _ x y|.ixs _ x y|.ix _ _ _ x y|.ixstr x y=>oT x++oT y
 |.mkfn _ l|.mn l|.mx l=>oTs l
 |.slS x lo hi|.slV _ x lo hi|.slA _ _ x lo hi=>oT x++oTo lo++oTo hi
def HIns.reads:HIns->List Nat
 |.alloc _|.mkmap|.alloct _ _|.bad=>[]
 |.pnc x|.box x|.boxt _ x|.load _ _ x|.b2s x=>oT x
 |.mksl _ _ _ ps=>ps.flatMap fun p=>oT p.2
 |.appendb _ _ x y|.store _ x y|.append _ _ x y|.mget _ _ x y=>oT x++oT y
 |.call f l|.callq f l=>oT f++oTs l
 |.mput m k v=>oT m++oT k++oT v
def I.reads(i:I):List Nat :=
 (match i.g with
 |some (t,_)=>[t]
 |none=>[])++match i.ins with
 |.p p=>p.reads
 |.h h=>h.reads
def Wx(i j:I):Bool :=
 (match i.dst with
 |some d=>!j.reads.contains d&&!(j.dst==some d)
 |none=>true) &&
 (match j.dst with
 |some d=>!i.reads.contains d
 |none=>true)
def QA(i j:I):Bool :=
 match i.ins.kd,j.ins.kd with
 |.pure,_=>true
 |_,.pure=>true
 |.quiet,.quiet=>true
 |_,_=>false
def xf(m:List Nat)(i:Nat)(x:I):List (I×Nat)->Bool
 |[]=>true
 |(y,j)::r=>((m.getD j 0).testBit i||(Wx x y&&QA x y))&&!(x.dst.isSome&&x.dst==y.dst)&&xf m i x r
def TB(m:List Nat):List (I×Nat)->Bool
 |[]=>true
 |(x,i)::r=>xf m i x r&&TB m r
def VC(ops:Array Oper):Nat->Array Bool->List (List Nat)
 |0,_=>[[]]
 |n+1,listed=>match Region.ready .any ops listed with
  |[]=>[[]]
  |rs=>rs.flatMap fun i=>(VC ops n (listed.setIfInBounds i true)).map (i::·)
def opOK(o:Oper):Bool :=
 match o.op with
 |.defer _=>false
 |_=>true
def WC:Code->Bool
 |.region _ ops _=>ops.toList.all opOK
 |.seq a b=>WC a&&WC b
 |.cond _ a b=>WC a&&WC b
 |.block _ b=>WC b
 |.loop b=>WC b
 |_=>true
def WQ:Code->Bool
 |.seq a b=>WQ a&&WQ b
 |.cond _ a b=>WQ a&&WQ b
 |.block _ b=>WQ b
 |.loop b=>WQ b
 |.rangeFunc _ _ _ _=>false
 |_=>true
def rkey(ps:Array Tmp):Nat:=ps.toList.foldl (fun n t=>100*n+t) 0
def Wg(P:Program)(pc:Bool):Code->Option AC
 |.skip=>some .skip
 |.region _ ops false=>match Js P ops.toList ops.toList with
  |some l=>some (.ops l)
  |none=>some .bad
 |.region _ ops true=> if pc then (match Js P ops.toList ops.toList with
   |some l=>some (.parc (VC ops ops.size (Array.replicate ops.size false)) l)
   |none=>some .bad) else
  let m:=Wt ops.toList []
  match KZ P ops.toList m ops.toList.zipIdx with
  |some l=>if TB m l.zipIdx&&UQ ops.toList.zipIdx then some (.par l) else some .bad
  |none=>some .bad
 |.seq a b=>match Wg P pc a,Wg P pc b with
  |some a,some b=>some (.seq a b)
  |_,_=>none
 |.cond c a b=>match opd c,Wg P pc a,Wg P pc b with
  |some c,some a,some b=>some (.cond c a b)
  |none,some _,some _=>some .bad
  |_,_,_=>none
 |.block id b=>(Wg P pc b).map (.block id)
 |.loop b=>(Wg P pc b).map .loop
 |.exit id=>some (.exit id)
 |.ret=>some .ret
 |.rangeFunc g ps asg body=>match opd g with
  |some g'=>some (.rfn g' (rkey ps) ⟨ps,asg,body⟩)
  |none=>some .bad
 |_=>some .bad
def RO(P:Program):List ResultVar->Option (List Rv)
 |[]=>some []
 |.tmp t::l=>(RO P l).map (.tmp t::·)
 |.cell a t::l=>match Uc P t,Xz P t,RO P l with
  |some g,some n,some r=>if g||n==1 then some (.cell a g n::r) else none
  |_,_,_=>none
def jw(P:Program)(pc:Bool)(fn:Func):Option AF :=
 match fn.body with
 |some c=>match Wg P pc c,RO P fn.results.toList with
  |some b,some r=> if fn.name = "runtime.NumGoroutine" ∨ WC c = false then none else some ⟨fn.ntmps,r,b⟩
  |_,_=>none
 |none=>none
end Go.Am
namespace Go.Am
open Go
def JY{v:Value}{x:V}(h:K9 v=some x)(ι:Inj):VR ι x v:=by
 unfold K9 at h;split at h <;> simp at h <;> subst h <;> simp[VR,S.val]
def Y9{ι:Inj}{e:Env}{a:Act}{x:Operand}{o:O}(h:opd x=some o)(hE:EnvR ι e a.tmps):VR ι (o.ev e) (a.eval x):=by
 cases x with
 |tmp t=>simp[opd]at h;subst h;exact hE.get t
 |const v=>
  simp[opd]at h;obtain⟨y,hy,rfl⟩:=h;exact JY hy ι
 |global g=>simp[opd]at h
 |func f=>simp[opd]at h;subst h;exact⟨[],by simp[Act.eval],by simp[VRL]⟩
def Jj{ι:Inj}{e:Env}{a:Act}(hE:EnvR ι e a.tmps):∀ {l:List Operand} {os:List O},KP l=some os->VRL ι (os.map (·.ev e)) (l.map a.eval)
 |[],_,h=>by simp[KP]at h;subst h;simp[VRL]
 |x::l,_,h=>by
  unfold KP at h;split at h
  ·rename_i o os h1 h2;injection h with h
   subst h;simp only[List.map_cons,VRL];exact⟨_,_,rfl,Y9 h1 hE,Jj hE h2⟩
  simp at h
def XJ(P:Program)(op:Op)(i:PIns):Prop :=
 ∀ (ι:Inj) (e:Env) (a:Act) (x:V) (o:Oper),o.op=op->EnvR ι e a.tmps->YY i e=some x ->
  ∃ v,VR ι x v/\∀ W,(execOp a.eval o).run P W=.ok (.value v) W
def pV{P:Program}{x:Operand}{o:O}(h:opd x=some o):XJ P (.move x) (.mv o):=by
 intro ι e a y op ho hE hv;simp only[YY,Zb4]at hv;subst hv;exact⟨_,Y9 h hE,fun W=>by simp[execOp,ho]⟩
def ug{P:Program}{x:Operand}{o:O}(h:opd x=some o):XJ P (.assign x) (.mv o):=by
 intro ι e a y op ho hE hv;simp only[YY,Zb4]at hv;subst hv;exact⟨_,Y9 h hE,fun W=>by simp[execOp,ho]⟩
def oS{P:Program}{c x y:Operand}{c' x' y':O}(hc:opd c=some c')(hx:opd x=some x')(hy:opd y=some y'):XJ P (.pick c x y) (.pick c' x' y'):=by
 intro ι e a z op ho hE hv;have rc:=Y9 hc hE;have rx:=Y9 hx hE;have ry:=Y9 hy hE;simp only[YY]at hv;split at hv
 ·rename_i t ht;rw[ht]at rc;simp only[VR,S.val]at rc;injection hv with hv
  subst hv
  cases t
  ·exact⟨_,ry,fun W=>by simp[execOp,ho,rc,asBool]⟩
  exact⟨_,rx,fun W=>by simp[execOp,ho,rc,asBool]⟩
 simp at hv
def sf{P:Program}{x:Operand}{x':O}(hx:opd x=some x'):XJ P (.nilCheck x) (.nilck x'):=by
 intro ι e a z op ho hE hv;have rx:=Y9 hx hE;simp only[YY]at hv;split at hv
 ·rename_i b o z' hb;injection hv with hv
  subst hv;rw[hb]at rx;refine⟨_,rx,fun W=>?_⟩;simp only[VR]at rx;obtain⟨p,_,_,rx⟩:=rx;simp[execOp,ho,rx]
 ·rename_i f l hb;injection hv with hv
  subst hv;rw[hb]at rx;refine⟨_,rx,fun W=>?_⟩;simp only[VR]at rx;obtain⟨p,rx,_⟩:=rx;simp[execOp,ho,rx]
 simp at hv
def ZaO{P:Program}{op:BinOp}{a b c:S}(t:TypeId)(h:Wc op a b=some c)(W:World):(binOp op t a.val b.val).run P W=.ok c.val W:=by
 cases a with
 |int k a=>
  cases b with
  |int k' b=>
   by_cases hs:op=.shl\/op=.shr
   ·rcases hs with rfl|rfl
    ·simp only[Wc,wb]at h;split at h
     ·simp at h
     rename_i hb;injection h with h
     subst h;simp[binOp,S.val,Op.shift,hb]
    simp only[Wc,wb]at h;split at h
    ·simp at h
    rename_i hb;injection h with h
    subst h;simp[binOp,S.val,Op.shift,hb]
   have h':(if k=k' then Um op k a b else none)=some c:=by
    revert h
    cases op <;> simp_all [Wc]
   split at h'
   ·rename_i hk;subst hk;unfold Um at h';split at h' <;> simp_all [binOp,S.val,Op.intArith,Op.intDiv,Op.intCmp]
    all_goals try (subst h';rfl)
    ·obtain⟨_,rfl⟩:=h';rfl
    ·obtain⟨_,rfl⟩:=h';rfl
    unfold intBits at h'
    cases op <;> simp_all [Op.intBits] <;> (subst h';rfl)
   simp at h'
  |bool b=>cases op <;> simp[Wc]at h
  |str b=>cases op <;> simp[Wc]at h
 |bool a=>cases op <;> cases b <;> simp[Wc]at h
 |str a=>
  cases b with
  |int k' b=>cases op <;> simp[Wc]at h
  |bool b=>cases op <;> simp[Wc]at h
  |str b=>
   have h':vJ op a b=some c:=by
    revert h
    cases op <;> simp[Wc]
   unfold vJ at h';split at h'
   ·split at h'
    ·simp at h'
    rename_i hb;injection h' with h'
    subst h';simp only[binOp,S.val,Op.stringOp];rw[Zcz hb];rfl
   ·injection h' with h';subst h';simp[binOp,S.val,Op.stringOp]
   ·injection h' with h';subst h';simp[binOp,S.val,Op.stringOp]
   simp at h'
def qU{P:Program}(op:BinOp)(t:TypeId)(x y:Operand)(a b:S)(W:World):(eqGuard op t x y a.val b.val).run P W=.ok () W:=by
 cases op <;> cases a <;> cases b <;> simp[eqGuard,S.val]
def yK{P:Program}{op:BinOp}{t u:TypeId}{x y:Operand}{x' y':O}(hx:opd x=some x')(hy:opd y=some y'):XJ P (.binOp op t x y u) (.bin op x' y'):=by
 intro ι e a z o ho hE hv;have rx:=Y9 hx hE;have ry:=Y9 hy hE;simp only[YY]at hv;split at hv
 ·rename_i p q hp hq;rw[hp]at rx;rw[hq]at ry;simp only[VR]at rx ry
  cases hb:Wc op p q with
  |none=>simp[hb]at hv
  |some c=>
   simp[hb]at hv;subst hv;exact⟨c.val,by simp[VR],fun W=>by simp[execOp,ho,rx,ry,qU,ZaO t hb]⟩
 simp at hv
def unS_val{P:Program}{op:UnOp}{a c:S}(h:unS op a=some c)(W:World):(Op.unary op a.val).run P W=.ok c.val W:=by
 unfold unS at h;split at h <;> simp at h <;> subst h <;> simp[Op.unary,Op.intArith,S.val]
def pure_un{P:Program}{op:UnOp}{t:TypeId}{x:Operand}{x':O}(hx:opd x=some x'):XJ P (.unOp op t x) (.un op x'):=by
 intro ι e a z o ho hE hv;have rx:=Y9 hx hE;simp only[YY]at hv;split at hv
 ·rename_i p hp;rw[hp]at rx;simp only[VR]at rx
  cases hb:unS op p with
  |none=>simp[hb]at hv
  |some c=>
   simp[hb]at hv;subst hv;exact⟨c.val,by simp[VR],fun W=>by simp[execOp,ho,rx,unS_val hb]⟩
 simp at hv
def gF{P:Program}{s d:TypeId}{x:Operand}{x':O}{k k0:IntKind}(hs:P.underlying s=some (.int k0))(hd:P.underlying d=some (.int k))(hx:opd x=some x'):XJ P (.convert s d x) (.conv k x'):=by
 intro ι e a z o ho hE hv;have rx:=Y9 hx hE;simp only[YY]at hv;split at hv
 ·rename_i j n hp;rw[hp]at rx;simp only[VR,S.val]at rx;injection hv with hv
  subst hv;refine⟨_,rfl,fun W=>?_⟩;have h1:(underlying s).run P W=.ok (.int k0) W:=run_underlying hs W;have h2:(underlying d).run P W=.ok (.int k) W:=run_underlying hd W;simp[execOp,ho,rx,convert,h1,h2,Conv.intToInt,S.val]
 simp at hv
def rT{P:Program}{f:FuncId}{first caps:Array Operand}{os:List O}(hf:first.size=0)(hc:KP caps.toList=some os):XJ P (.makeFunc (.func f) first caps) (.mkfn f os):=by
 intro ι e a z o ho hE hv;simp only[YY,Zb4]at hv;subst hv;have h0:first=#[]:=by simpa using hf
 subst h0;refine⟨.func (.func f) #[] (caps.map a.eval),?_,fun W=>by simp[execOp,ho,Instr.makeFunc]⟩;exact⟨caps.toList.map a.eval,by rw[Value.func.injEq];exact⟨rfl,rfl,Array.toList_inj.1 (by simp)⟩,Jj hE hc⟩
def Zbz{P:Program}{f:FuncId}{first caps:Array Operand}{x:Operand}{x':O}(h1:first.toList=[x])(h2:caps.toList=[])(hx:opd x=some x'):XJ P (.makeFunc (.func f) first caps) (.mkb f x'):=by
 intro ι e a z o ho hE hv;have rx:=Y9 hx hE;simp only[YY,Zb4]at hv;subst hv;have e1:first=#[x]:=Array.toList_inj.1 (by simpa using h1)
 have e2:caps=#[]:=Array.toList_inj.1 (by simpa using h2);subst e1;subst e2;exact⟨.func (.func f) #[a.eval x] #[],⟨_,rfl,rx⟩,fun W=>by simp[execOp,ho,Instr.makeFunc]⟩
def pW{P:Program}{t:TypeId}{u:TypeDesc}{x:Operand}{x':O}(ht:P.underlying t=some u)(hn:∀ m,u≠.interface m)(hx:opd x=some x'):XJ P (.makeInterface t x) (.mkif t x'):=by
 intro ι e a z o ho hE hv;have rx:=Y9 hx hE;simp only[YY,Zb4]at hv;subst hv;refine⟨.iface t (a.eval x),⟨_,rfl,rx⟩,fun W=>?_⟩;have:(Instr.makeInterface t (a.eval x)).run P W=.ok (.iface t (a.eval x)) W:=by
  rw[Instr.makeInterface,Sem.run_bind,run_underlying ht W,Result.andThen_ok]
  cases u <;> first|rfl|exact absurd rfl (hn _)
 simp[execOp,ho,this]
def ZaJ{P:Program}{x:Operand}{i:Nat}{x':O}(hx:opd x=some x'):XJ P (.extract x i) (.ext x' i):=by
 intro ι e a z o ho hE hv;have rx:=Y9 hx hE;simp only[YY]at hv;split at hv
 ·rename_i l hl;rw[hl]at rx;simp only[VR]at rx;obtain⟨cs,hcs,hr⟩:=rx;obtain⟨v,h1,h2⟩:=VRL.at hr i z hv;exact⟨v,h2,fun W=>by simp[execOp,ho,hcs,Instr.extract,h1]⟩
 simp at hv
end Go.Am
namespace Go.Am
open Go
def X6{P:Program}{t:TypeId}{n:Nat}(h:Xz P t=some n)(W:World):(sizeOf t).run P W=.ok n W:=by
 unfold Xz at h
 cases hi:P.info? t with
 |none=>simp[hi]at h
 |some i=>simp[hi]at h;subst h;simp[sizeOf,typeInfo,hi]
def Q7{P:Program}{t:TypeId}{g:Bool}(h:Uc P t=some g)(W:World):(isAgg t).run P W=.ok g W:=by
 unfold Uc at h;split at h <;> simp at h
 ·rename_i hu;subst h;simp[isAgg,run_underlying hu W]
 ·rename_i hu;subst h;simp[isAgg,run_underlying hu W]
 rename_i d h1 h2 hu;subst h;simp only[isAgg,Sem.run_bind,run_underlying hu W,Result.andThen_ok]
 cases d <;> simp_all
def VN(c o n:Nat):(⟨c,o,none⟩:Addr).add n=⟨c,o+n,none⟩:=by unfold Addr.add;split <;> simp_all
def pure_fa{P:Program}{t:TypeId}{fs:List Field}{f:Field}{i n:Nat}{x:Operand}{x':O}(hf:fieldsOf P t=some fs)(hi:fs[i]? = some f)(hs:Xz P f.type=some n)(hn:n≠0)(hx:opd x=some x') :
  XJ P (.fieldAddr t x i) (.fa f.offset n x'):=by
 intro ι e a z o ho hE hv
 have rx:=Y9 hx hE
 simp only[YY]at hv
 split at hv
 ·rename_i b off z' hb;rw[hb]at rx;simp only[VR]at rx;obtain⟨p,hp,hl,rx⟩:=rx;split at hv
  ·rename_i hle;injection hv with hv
   subst hv;refine⟨_,⟨p,hp,by omega,rfl⟩,fun W=>?_⟩;unfold fieldsOf at hf;split at hf
   ·rename_i fa hu;injection hf with hf
    subst hf;have hi':fa[i]? = some f:=by simpa using hi
    simp[execOp,ho,rx,Instr.fieldAt,run_underlying hu W,hi',Instr.sureAddr,fieldPlace,X6 hs W,hn,VN,Nat.add_assoc]
   simp at hf
  simp at hv
 simp at hv
def Vp{P:Program}{t:TypeId}{g:Bool}{n:Nat}(ha:Uc P t=some g)(hs:Xz P t=some n)(cs:Array Value)(off:Nat)(W:World) :
  (part t cs off).run P W=if g then .ok (.agg (cs.extract off (off+n))) W else match cs[off]? with
   |some v=>.ok v W
   |none=> .halt (.stuck "part: no such cell") W := by
 cases g
 ·simp only[part,Sem.run_bind,Q7 ha W,Result.andThen_ok]
  cases cs[off]? <;> simp
 simp[part,Q7 ha W,X6 hs W]
def TJ{ι:Inj}:∀ {l:List V} {r:List S} {vs:List Value},zg l=some r->VRL ι l vs->vs=r.map S.val
 |[],r,vs,h,hv=>by simp[zg]at h;subst h;simpa[VRL] using hv
 |x::l,r,vs,h,hv=>by
  unfold zg at h;split at h
  ·rename_i a q h1 h2;injection h with h
   subst h;simp only[VRL]at hv;obtain⟨v,w,rfl,hx,hr⟩:=hv
   cases x <;> simp[V.isS]at h1
   subst h1;simp only[VR]at hx;simp[hx,TJ h2 hr]
  simp at h
def mkAgg_R{ι:Inj}{l:List V}{vs:List Value}(h:VRL ι l vs):VR ι (TU l) (.agg vs.toArray):=by
 unfold TU;split
 ·rename_i r hr;have:=TJ hr h;subst this;refine⟨_,rfl,by simp,fun i hi=>?_⟩;simp[hi]
 exact⟨vs,rfl,h⟩
def mkAgg_R'{ι:Inj}{l:List V}{cs:Array Value}(h:VRL ι l cs.toList):VR ι (TU l) (.agg cs):=by
 have:=mkAgg_R h;simpa using this
def Ts(cs:Array Value)(a b:Nat):(cs.extract a b).toList=(cs.toList.drop a).take (b-a):=by
 simp
def ZaZ{P:Program}{t:TypeId}{fs:List Field}{f:Field}{i n:Nat}{g:Bool}{x:Operand}{x':O}(hf:fieldsOf P t=some fs)(hi:fs[i]? = some f)(hs:Xz P f.type=some n)(ha:Uc P f.type=some g)(hg:(g||n==1)=true)(hx:opd x=some x') :
  XJ P (.field t x i) (.fld g f.offset n x'):=by
 intro ι e a z o ho hE hv
 have rx:=Y9 hx hE
 have hrun:∀ cs,a.eval x=.agg cs->∀ W,(execOp a.eval o).run P W=((part f.type cs f.offset).run P W).andThen fun v w=>.ok (.value v) w:=by
  intro cs hcs W;unfold fieldsOf at hf;split at hf
  ·rename_i fa hu;injection hf with hf
   subst hf;have hi':fa[i]? = some f:=by simpa using hi
   simp[execOp,ho,hcs,Instr.field,run_underlying hu W,hi',asAgg]
  simp at hf
 simp only[YY]at hv
 split at hv
 ·rename_i m h hb;rw[hb]at rx;simp only[VR]at rx;obtain⟨cs,hcs,hsz,hr⟩:=rx;split at hv
  ·rename_i hle;injection hv with hv
   subst hv
   cases g
   ·have h1:n=1:=by simpa using hg
    subst h1;have hc:=hr f.offset (by omega);exact⟨(h f.offset).val,rfl,fun W=>by rw[hrun cs hcs W,Vp ha hs];simp[hc]⟩
   refine⟨.agg (cs.extract f.offset (f.offset+n)),⟨_,rfl,by simp;omega,fun j hj=>?_⟩,fun W=>by rw[hrun cs hcs W,Vp ha hs];simp⟩;rw[Array.getElem?_extract];rw[ZcA (by omega)];exact hr _ (by omega)
  simp at hv
 ·rename_i l hb;rw[hb]at rx;simp only[VR]at rx;obtain⟨cs,hcs,hr⟩:=rx;have hlen:=VRL.length hr;split at hv
  ·rename_i hle
   cases g
   ·have h1:n=1:=by simpa using hg
    subst h1;simp only[cond_false]at hv;obtain⟨v,h1,h2⟩:=VRL.at hr _ _ hv;exact⟨v,h2,fun W=>by rw[hrun _ hcs W,Vp ha hs];simp[h1]⟩
   simp only[cond_true,Zb4]at hv;subst hv;refine⟨.agg (cs.toArray.extract f.offset (f.offset+n)),?_,fun W=>by rw[hrun _ hcs W,Vp ha hs];simp⟩;apply mkAgg_R';rw[Ts,show f.offset+n-f.offset=n from by omega];exact VRL.take _ (VRL.drop _ hr)
  simp at hv
 simp at hv
def ZbA{P:Program}{t e:TypeId}{len n:Nat}{x i:Operand}{x' i':O}(ht:P.underlying t=some (.array len e))(hs:Xz P e=some n)(hx:opd x=some x')(hi:opd i=some i') :
  XJ P (.indexAddr t x i) (.ixa len n x' i'):=by
 intro ι en a z o ho hE hv
 have rx:=Y9 hx hE
 have ri:=Y9 hi hE
 simp only[YY]at hv
 split at hv
 ·rename_i b off z' k kk hb hk;rw[hb]at rx;rw[hk]at ri;simp only[VR,S.val]at rx ri;obtain⟨p,hp,hl,rx⟩:=rx;split at hv
  ·rename_i hle;split at hv
   ·rename_i hr;injection hv with hv
    subst hv;have hmul:kk.toNat*n+n<=len*n:=by
     rw[<-Nat.succ_mul];exact ZbW _ (by omega)
    refine⟨_,⟨p,hp,by omega,rfl⟩,fun W=>?_⟩;simp[execOp,ho,rx,ri,Instr.indexAt,asIntOf,run_underlying ht W,Instr.sureAddr,hr.1,hr.2,X6 hs W,VN,Nat.add_assoc]
   simp at hv
  simp at hv
 simp at hv
def Zah{P:Program}{t e:TypeId}{n:Nat}{x i:Operand}{x' i':O}(ht:P.underlying t=some (.slice e))(hs:Xz P e=some n)(hx:opd x=some x')(hi:opd i=some i') :
  XJ P (.indexAddr t x i) (.ixs n x' i'):=by
 intro ι en a z o ho hE hv
 have rx:=Y9 hx hE
 have ri:=Y9 hi hE
 simp only[YY]at hv
 split at hv
 ·rename_i b off m z' mm k kk hb hk;rw[hb]at rx;rw[hk]at ri;simp only[VR,S.val]at rx ri;obtain⟨p,c,hp,hl,rx,_⟩:=rx;split at hv
  ·rename_i hle;subst hle;split at hv
   ·rename_i hr;injection hv with hv
    subst hv;have hmul:kk.toNat*n+n<=m*n:=by
     rw[<-Nat.succ_mul];exact ZbW _ (by omega)
    refine⟨_,⟨p,hp,by omega,rfl⟩,fun W=>?_⟩;simp[execOp,ho,rx,ri,Instr.indexAt,asIntOf,run_underlying ht W,hr.1,hr.2,X6 hs W,VN,Nat.add_assoc]
   simp at hv
  simp at hv
 simp at hv
def pure_ix{P:Program}{t e:TypeId}{len n:Nat}{g:Bool}{x i:Operand}{x' i':O}(ht:P.underlying t=some (.array len e))(hs:Xz P e=some n)(ha:Uc P e=some g)(hg:(g||n==1)=true)(hx:opd x=some x')(hi:opd i=some i') :
  XJ P (.index t x i) (.ix len n g x' i'):=by
 intro ι en a z o ho hE hv
 have rx:=Y9 hx hE
 have ri:=Y9 hi hE
 have hrun:∀ cs k (kk:Int),a.eval x=.agg cs->a.eval i=.int k kk->0<=kk->kk<len->∀ W,(execOp a.eval o).run P W=((part e cs (kk.toNat*n)).run P W).andThen fun v w=>.ok (.value v) w:=by
  intro cs k kk hcs hk h0 h1 W;simp[execOp,ho,hcs,hk,Instr.index,asIntOf,run_underlying ht W,h0,h1,X6 hs W]
 simp only[YY]at hv
 split at hv
 ·rename_i m h k kk hb hk;rw[hb]at rx;rw[hk]at ri;simp only[VR]at rx ri;obtain⟨cs,hcs,hsz,hr⟩:=rx;simp only[S.val]at ri;split at hv
  ·rename_i hle;split at hv
   ·rename_i hlt;injection hv with hv
    subst hv;have hmul:kk.toNat*n+n<=len*n:=by
     rw[<-Nat.succ_mul];exact ZbW _ (by omega)
    cases g
    ·have h1:n=1:=by simpa using hg
     subst h1;have hc:=hr (kk.toNat*1) (by omega);exact⟨(h (kk.toNat*1)).val,rfl,fun W=>by rw[hrun cs k kk hcs ri hlt.1 hlt.2 W,Vp ha hs];simp only[hc];simp⟩
    refine⟨.agg (cs.extract (kk.toNat*n) (kk.toNat*n+n)),⟨_,rfl,by simp;omega,fun j hj=>?_⟩,fun W=>by rw[hrun cs k kk hcs ri hlt.1 hlt.2 W,Vp ha hs];simp⟩;rw[Array.getElem?_extract];rw[ZcA (by omega)];exact hr _ (by omega)
   simp at hv
  simp at hv
 ·rename_i l k kk hb hk;rw[hb]at rx;rw[hk]at ri;simp only[VR,S.val]at rx ri;obtain⟨cs,hcs,hr⟩:=rx;split at hv
  ·rename_i hle;split at hv
   ·rename_i hlt
    cases g
    ·have h1:n=1:=by simpa using hg
     subst h1;simp only[cond_false]at hv;obtain⟨v,h1,h2⟩:=VRL.at hr _ _ hv;exact⟨v,h2,fun W=>by rw[hrun _ k kk hcs ri hlt.1 hlt.2 W,Vp ha hs,List.getElem?_toArray,h1];simp⟩
    simp only[cond_true,Zb4]at hv;subst hv;refine⟨.agg (cs.toArray.extract (kk.toNat*n) (kk.toNat*n+n)),?_,fun W=>by rw[hrun _ k kk hcs ri hlt.1 hlt.2 W,Vp ha hs];simp⟩;apply mkAgg_R';rw[Ts,show kk.toNat*n+n-kk.toNat*n=n from by omega];exact VRL.take _ (VRL.drop _ hr)
   simp at hv
  simp at hv
 simp at hv
def so{P:Program}{t:TypeId}{x i:Operand}{x' i':O}(ht:P.underlying t=some .string)(hx:opd x=some x')(hi:opd i=some i') :
  XJ P (.index t x i) (.ixstr x' i'):=by
 intro ι en a z o ho hE hv
 have rx:=Y9 hx hE
 have ri:=Y9 hi hE
 simp only[YY]at hv
 split at hv
 ·rename_i s k kk hb hk;rw[hb]at rx;rw[hk]at ri;simp only[VR,S.val]at rx ri;split at hv
  ·rename_i hr;injection hv with hv
   subst hv;have hlt:kk.toNat<s.size:=by omega
   have hg:s[kk.toNat]? = some (s.data.getD kk.toNat 0):=by
    rw[getElem?_pos s kk.toNat hlt];have:kk.toNat<s.data.size:=hlt;rw[ZbC,ZbG this];rfl
   refine⟨_,rfl,fun W=>?_⟩;simp[execOp,ho,rx,ri,Instr.index,asIntOf,run_underlying ht W,hr.1,hg,S.val]
  simp at hv
 simp at hv
def Vw{P:Program}{c:Call}{b:Builtin}{a:Act}{o:Oper}(ho:o.op=.call c)(hc:c.callee=.builtin b)(W:World) :
  ∃ k:Array Bool,(execOp a.eval o).run P W=(builtin b c.argTypes o.type k (c.args.map a.eval)).run P W :=
 ⟨_,by simp only[execOp,ho,resolve,hc,Sem.run_bind,Sem.run_pure,Result.andThen_ok,invoke];rfl⟩
def EK{c:Call}{x:Operand}(h:c.args.toList=[x]):c.args=#[x]:=Array.toList_inj.1 (by simpa using h)
def Za4{P:Program}{t el:TypeId}{c:Call}{x:Operand}{x':O}(hc:c.callee=.builtin .len)(h0:c.argTypes[0]? = some t)(h1:c.args.toList=[x])(ht:P.underlying t=some (.slice el))(hx:opd x=some x') :
  XJ P (.call c) (.len x'):=by
 intro ι en a z o ho hE hv
 have rx:=Y9 hx hE
 have key:∀ b n cap,a.eval x=.slice b n cap->∀ W,(execOp a.eval o).run P W=.ok (.value (.int .i64 n)) W:=by
  intro b n cap hs W;obtain⟨k,hk⟩:=Vw (P:=P) (a:=a) ho hc W;rw[hk];simp[builtin,Builtin.len_,h0,EK h1,run_underlying ht W,hs,goInt]
 simp only[YY]at hv
 split at hv
 ·rename_i b off n z' m hb;rw[hb]at rx;simp only[VR]at rx;obtain⟨p,cp,hp,hl,rx,_⟩:=rx;injection hv with hv
  subst hv;exact⟨_,rfl,key _ _ _ rx⟩
 ·rename_i hb;rw[hb]at rx;simp only[VR]at rx;obtain⟨ad,cp,rx⟩:=rx;injection hv with hv
  subst hv;exact⟨_,rfl,key _ _ _ rx⟩
 ·rename_i hb;rw[hb]at rx;simp only[VR]at rx;injection hv with hv
  subst hv;exact⟨_,rfl,key _ _ _ rx⟩
 simp at hv
def p9{P:Program}{t:TypeId}{c:Call}{x:Operand}{x':O}(hc:c.callee=.builtin .len)(h0:c.argTypes[0]? = some t)(h1:c.args.toList=[x])(ht:P.underlying t=some .string)(hx:opd x=some x') :
  XJ P (.call c) (.lenS x'):=by
 intro ι en a z o ho hE hv
 have rx:=Y9 hx hE
 simp only[YY]at hv
 split at hv
 ·rename_i s hb;rw[hb]at rx;simp only[VR,S.val]at rx;injection hv with hv
  subst hv;refine⟨_,rfl,fun W=>?_⟩;obtain⟨k,hk⟩:=Vw (P:=P) (a:=a) ho hc W;rw[hk];simp[builtin,Builtin.len_,h0,EK h1,run_underlying ht W,rx,goInt,S.val]
 simp at hv
def qy{P:Program}(f:Int->Int->Int)(g:Value->Value->Sem Value)(hg:∀ k x k' y,g (.int k x) (.int k' y)=Pure.pure (.int k (f x y))){ι:Inj} :
  ∀ (l:List V) (vs:List Value) (k:IntKind) (a:Int) (z:V),KY f k a l=some z->VRL ι l vs->∃ v,VR ι z v/\∀ W,(vs.foldlM g (.int k a)).run P W=.ok v W
 |[],vs,k,a,z,h,hr=>by
  simp only[VRL]at hr;subst hr;simp only[KY,Zb4]at h;subst h;exact⟨_,rfl,fun W=>by simp[S.val]⟩
 |x::l,vs,k,a,z,h,hr=>by
  simp only[VRL]at hr;obtain⟨v,r,rfl,hx,hr⟩:=hr;unfold KY at h;split at h
  ·rename_i he;simp at he
  ·rename_i k' b l' he;injection he with e1 e2
   subst e1;subst e2;simp only[VR,S.val]at hx;subst hx;obtain⟨v,hv,hw⟩:=qy (P:=P) f g hg l r k (f a b) z h hr;exact⟨v,hv,fun W=>by simp[List.foldlM_cons,hg,hw W]⟩
  simp at h
def xH{P:Program}(f:Int->Int->Int)(g:Value->Value->Sem Value)(hg:∀ k x k' y,g (.int k x) (.int k' y)=Pure.pure (.int k (f x y))){ι:Inj}{l:List V}{vs:List Value}{z:V}(h:U0 f l=some z)(hr:VRL ι l vs) :
  ∃ x r,vs=x::r/\∃ v,VR ι z v/\∀ W,(r.foldlM g x).run P W=.ok v W:=by
 unfold U0 at h
 split at h
 ·rename_i k a l';simp only[VRL]at hr;obtain⟨v,r,rfl,hx,hr⟩:=hr;simp only[VR,S.val]at hx;subst hx;exact⟨_,_,rfl,qy f g hg _ _ _ _ _ h hr⟩
 simp at h
def pure_mn{P:Program}{c:Call}{os:List O}(hc:c.callee=.builtin .min)(ha:KP c.args.toList=some os):XJ P (.call c) (.mn os):=by
 intro ι en a z o ho hE hv;simp only[YY]at hv;obtain⟨x,r,he,v,h1,h2⟩:=xH (P:=P) _ Builtin.min2 (fun k x k' y=>by simp[Builtin.min2]) hv (Jj hE ha);refine⟨v,h1,fun W=>?_⟩;obtain⟨k,hk⟩:=Vw (P:=P) (a:=a) ho hc W;rw[hk];have:(c.args.map a.eval).toList=x::r:=by simpa using he
 simp[builtin,Builtin.min_,he,h2 W]
def pure_mx{P:Program}{c:Call}{os:List O}(hc:c.callee=.builtin .max)(ha:KP c.args.toList=some os):XJ P (.call c) (.mx os):=by
 intro ι en a z o ho hE hv;simp only[YY]at hv;obtain⟨x,r,he,v,h1,h2⟩:=xH (P:=P) _ Builtin.max2 (fun k x k' y=>by simp[Builtin.max2]) hv (Jj hE ha);refine⟨v,h1,fun W=>?_⟩;obtain⟨k,hk⟩:=Vw (P:=P) (a:=a) ho hc W;rw[hk];simp[builtin,Builtin.max_,he,h2 W]
end Go.Am
namespace Go.Am
open Go
def RX{ι:Inj}{x:V}{v:Value}(ho:x.one=true)(h:VR ι x v):v.cells=#[v]:=by
 cases x <;> simp[V.one]at ho <;> simp only[VR]at h
 ·subst h;rename_i y;cases y <;> rfl
 ·obtain⟨p,_,_,rfl⟩:=h;rfl
 ·subst h;rfl
 ·obtain⟨p,c,_,_,rfl,_⟩:=h;rfl
 ·obtain⟨a,c,rfl⟩:=h;rfl
 ·subst h;rfl
 ·obtain⟨p,_,rfl⟩:=h;rfl
 ·subst h;rfl
 ·obtain⟨cs,rfl,_⟩:=h;rfl
 ·subst h;rfl
 ·obtain⟨u,rfl,_⟩:=h;rfl
 ·subst h;rfl
 obtain⟨u,rfl,_⟩:=h;rfl
def kx{ι:Inj}{x:V}{n:Nat}{g:Nat->S}{v:Value}(h:x.scells n=some g)(hv:VR ι x v):v.cells.size=n/\∀ j,j<n->v.cells[j]? = some (g j).val:=by
  unfold V.scells at h;split at h
  · rename_i y;split at h
    · rename_i hn;injection h with h
      subst h;subst hn;have hc:=RX (x:=.s y) rfl hv;simp only[VR]at hv;rw[hc,hv]
      exact ⟨rfl, fun j hj => by have : j = 0 := by omega
                                 subst this; simp⟩
    simp at h
  · rename_i m g';split at h
    · rename_i hn;injection h with h
      subst h;subst hn;simp only[VR]at hv;obtain⟨cs,rfl,hs,hr⟩:=hv;exact⟨hs,hr⟩
    simp at h
  simp at h
def jV{ι:Inj}{x:V}{n:Nat}{l:List V}{v:Value}(h:x.vcells n=some l)(hv:VR ι x v):v.cells.size=n/\VRL ι l v.cells.toList:=by
 unfold V.vcells at h;split at h
 ·rename_i m g;split at h
  ·rename_i hn;injection h with h
   subst h;subst hn;simp only[VR]at hv;obtain⟨cs,rfl,hs,hr⟩:=hv;refine⟨hs,VRL.of_at (by simp[hs,Value.cells]) fun i y u hy hu=>?_⟩;simp only[Value.cells,ZbS]at hu;rw[Zb9]at hy;by_cases hi:i<m
   ·rw[ZbZ hi]at hy;simp at hy;subst hy;rw[hr i hi]at hu;injection hu with hu
    subst hu;exact rfl
   rw[ZbQ (by simp;omega)]at hy;simp at hy
  simp at h
 ·rename_i l';split at h
  ·rename_i hn;injection h with h
   subst h;subst hn;simp only[VR]at hv;obtain⟨cs,rfl,hr⟩:=hv;exact⟨by simp[Value.cells,VRL.length hr],by simpa[Value.cells] using hr⟩
  simp at h
 split at h
 ·rename_i hn;simp only[Zca,Zcu]at hn;injection h with h
  subst h;rw[RX hn.1 hv];exact⟨by simp[hn.2],by simp only[VRL];exact⟨v,[],by simp,hv,rfl⟩⟩
 simp at h
def wr_get(v:List Value):∀ (cells:Array Value) (off k i:Nat),
  ((v.zipIdx k).foldl (fun cs (p:Value×Nat)=>cs.setIfInBounds (off+p.2) p.1) cells)[i]? = if off+k<=i/\i<off+k+v.length/\i<cells.size then v[i-(off+k)]? else cells[i]?:=by
 induction v with
 |nil=>
  intro cells off k i
  simp
  omega
 |cons c v ih=>
  intro cells off k i
  rw[List.zipIdx_cons,List.foldl_cons,ih]
  simp only[Array.size_setIfInBounds,Zcd]
  by_cases h1:off+(k+1)<=i/\i<off+(k+1)+v.length/\i<cells.size
  ·rw[ZcA h1,ZcA (by omega)];have:i-(off+k)=(i-(off+(k+1)))+1:=by omega
   rw[this,List.getElem?_cons_succ]
  rw[Zcz h1,Array.getElem?_setIfInBounds]
  by_cases h2:off+k=i
  ·subst h2;by_cases h3:off+k<cells.size
   ·rw[ZcA rfl,ZcA h3,ZcA (by omega)];simp
   rw[ZcA rfl,Zcz h3,Zcz (by omega),Array.getElem?_eq_none (by omega)]
  rw[Zcz h2]
  by_cases h4:off+k<=i/\i<off+k+(v.length+1)/\i<cells.size
  ·omega
  rw[Zcz h4]
def wr_size(v:List Value):∀ (cells:Array Value) (off k:Nat),((v.zipIdx k).foldl (fun cs (p:Value×Nat)=>cs.setIfInBounds (off+p.2) p.1) cells).size=cells.size:=by
 induction v with
 |nil=>intro cells off k;rfl
 |cons c v ih=>intro cells off k;rw[List.zipIdx_cons,List.foldl_cons,ih];simp
def wr(cells:Array Value)(off:Nat)(v:Array Value):Array Value:=v.zipIdx.foldl (fun cs (p:Value×Nat)=>cs.setIfInBounds (off+p.2) p.1) cells
def tu(cells:Array Value)(off:Nat)(v:Array Value):wr cells off v=(v.toList.zipIdx 0).foldl (fun cs (p:Value×Nat)=>cs.setIfInBounds (off+p.2) p.1) cells:=by
 unfold wr;rw[<-Array.foldl_toList,Array.toList_zipIdx]
def wr_size'(cells:Array Value)(off:Nat)(v:Array Value):(wr cells off v).size=cells.size:=by rw[tu,wr_size]
def wr_get'(cells:Array Value)(off:Nat)(v:Array Value)(i:Nat):(wr cells off v)[i]? = if off<=i/\i<off+v.size/\i<cells.size then v[i-off]? else cells[i]?:=by
 rw[tu,wr_get];simp
def gn(cells:Array Value)(off:Nat)(v:Array Value)(h:off+v.size<=cells.size):(wr cells off v).toList=cells.toList.take off++v.toList++cells.toList.drop (off+v.size):=by
 apply List.ext_getElem?;intro i;rw[ZbS,wr_get'];rw[Zb5,List.getElem?_append];simp only[Zcb,Zb0];by_cases h1:i<off
 ·rw[Zcz (by omega),ZcA (by omega),List.getElem?_take,ZcA h1,ZbS]
 rw[Zcz (show ¬ i<min off cells.size by omega),List.getElem?_append];simp only[Zb0];rw[show min off cells.size=off by omega];by_cases h2:i<off+v.size
 ·rw[ZcA (by omega),ZcA (by omega),ZbS]
 rw[Zcz (by omega),Zcz (by omega),List.getElem?_drop,ZbS];congr 1;omega
def q4(place:Nat->Option (Nat×Nat))(cells:Array Value)(i off n:Nat)(v:Value)(r:List (Nat×Value))(hp:place i=some (off,n))(h1:v.cells.size=n)(h2:off+n<=cells.size) :
  Instr.fill place cells ((i,v)::r)=Instr.fill place (wr cells off v.cells) r:=by
 simp[Instr.fill,hp,h1,wr]
 omega
def VH(place:Nat->Option (Nat×Nat)):List (Nat×Operand)->List (Nat×Nat×O)->Prop
 |[],ps=>ps=[]
 |(i,x)::r,ps=>∃ off n o q,ps=(off,n,o)::q/\place i=some (off,n)/\opd x=some o/\VH place r q
def E1{places:List (Nat×Nat)}:∀ {l:List (Nat×Operand)} {ps:List (Nat×Nat×O)},UM places l=some ps->VH (places[·]?) l ps
 |[],ps,h=>by simp[UM]at h;subst h;simp[VH]
 |(i,x)::r,ps,h=>by
  unfold UM at h;split at h
  ·rename_i off n o q h1 h2 h3;injection h with h
   subst h;exact⟨off,n,o,q,rfl,h1,h2,E1 h3⟩
  simp at h
def xy{z:Nat}:∀ {l:List (Nat×Operand)} {ps:List (Nat×Nat×O)},KB z l=some ps->VH (fun i=>some (i*z,z)) l ps
 |[],ps,h=>by simp[KB]at h;subst h;simp[VH]
 |(i,x)::r,ps,h=>by
  unfold KB at h;split at h
  ·rename_i o q h1 h2;injection h with h
   subst h;exact⟨_,_,o,q,rfl,rfl,h1,xy h2⟩
  simp at h
def ke(a i b:Nat):(Nat.ble a i&&Nat.blt i b)=decide (a<=i/\i<b):=by
 rw[Zce];simp only[Zca,Nat.ble_eq,Nat.blt_eq,Zb7]
def wN{ι:Inj}{e:Env}{a:Act}(hE:EnvR ι e a.tmps){place:Nat->Option (Nat×Nat)}{N:Nat}:∀ {l:List (Nat×Operand)} {ps:List (Nat×Nat×O)} {g g':Nat->S} {cells:Array Value},
  VH place l ps->QH N ps=true->WJ e ps g=some g'->cells.size=N->(∀ i,i<N->cells[i]? = some (g i).val) ->
  ∃ cells',Instr.fill place cells (l.map fun p=>(p.1,a.eval p.2))=some cells'/\cells'.size=N/\∀ i,i<N->cells'[i]? = some (g' i).val
 |[],ps,g,g',cells,hp,_,hf,hs,hc=>by
  simp only[VH]at hp;subst hp;simp only[WJ,Zb4]at hf;subst hf;exact⟨cells,rfl,hs,hc⟩
 |(i,x)::r,ps,g,g',cells,hp,hi,hf,hs,hc=>by
  simp only[VH]at hp;obtain⟨off,n,o,q,rfl,h1,h2,h3⟩:=hp;simp only[QH,Zca,Zb7]at hi;simp only[WJ]at hf;split at hf
  ·rename_i h hh;obtain⟨c1,c2⟩:=kx hh (Y9 h2 hE);obtain⟨cells',e1,e2,e3⟩:=wN hE (cells:=wr cells off (a.eval x).cells) h3 hi.2 hf (by rw[wr_size',hs]) (fun j hj=>by
    rw[wr_get'];unfold WE;by_cases hb:off<=j/\j<off+n
    ·have ht:(Nat.ble off j&&Nat.blt j (off+n))=true:=by rw[ke];exact Zcl hb
     rw[ZcA (by omega),ht,cond_true];exact c2 _ (by omega)
    have ht:(Nat.ble off j&&Nat.blt j (off+n))=false:=by rw[ke];exact Zci hb
    rw[Zcz (by omega),ht,cond_false];exact hc j hj)
   exact⟨cells',by rw[List.map_cons,q4 place cells i off n _ _ h1 c1 (by omega)];exact e1,e2,e3⟩
  simp at hf
def w0{ι:Inj}{e:Env}{a:Act}(hE:EnvR ι e a.tmps){place:Nat->Option (Nat×Nat)}:∀ {l:List (Nat×Operand)} {ps:List (Nat×Nat×O)} {m m':List V} {cells:Array Value},
  VH place l ps->Ql e ps m=some m'->VRL ι m cells.toList ->
  ∃ cells',Instr.fill place cells (l.map fun p=>(p.1,a.eval p.2))=some cells'/\VRL ι m' cells'.toList
 |[],ps,m,m',cells,hp,hf,hc=>by
  simp only[VH]at hp;subst hp;simp only[Ql,Zb4]at hf;subst hf;exact⟨cells,rfl,hc⟩
 |(i,x)::r,ps,m,m',cells,hp,hf,hc=>by
  simp only[VH]at hp;obtain⟨off,n,o,q,rfl,h1,h2,h3⟩:=hp;simp only[Ql]at hf;split at hf
  ·rename_i c hh;obtain⟨c1,c2⟩:=jV hh (Y9 h2 hE);have hlen:=VRL.length hc;simp only[Zb0]at hlen;split at hf
   ·rename_i hle;obtain⟨cells',e1,e2⟩:=w0 hE (cells:=wr cells off (a.eval x).cells) h3 hf (by
     rw[gn _ _ _ (by omega),c1];exact VRL.append (VRL.append (VRL.take _ hc) c2) (VRL.drop _ hc))
    exact⟨cells',by rw[List.map_cons,q4 place cells i off n _ _ h1 c1 (by omega)];exact e1,e2⟩
   simp at hf
  simp at hf
def Kc{ι:Inj}:∀ {l:List Value} {r:List V},Tt l=some r->VRL ι r l
 |[],r,h=>by simp[Tt]at h;subst h;simp[VRL]
 |x::l,r,h=>by
  unfold Tt at h;split at h
  ·rename_i a q h1 h2;injection h with h
   subst h;simp only[VRL];exact⟨x,l,rfl,JY h1 ι,Kc h2⟩
  simp at h
def oG{v:Value}(h:isZ v=true):v=S.zero.val:=by
 unfold isZ at h;split at h
 ·rfl
 simp at h
def EV{v:Value}{x:V}(h:K9 v=some x):v.cells=#[v]:=by
 unfold K9 at h;split at h <;> simp at h <;> rfl
def Vu{v:Value}{z:Z}(h:Ue v=some z):z.size=v.cells.size:=by
 unfold Ue at h;split at h
 ·rename_i cs;split at h
  ·injection h with h;subst h;simp[Z.size,Value.cells]
  split at h
  ·rename_i l hl;have hlen:=VRL.length (Kc (ι:=fun _=>none) hl);split at h
   ·rename_i r hr;injection h with h
    subst h;have:=TJ hr (Kc (ι:=fun _=>none) hl);have hlr:cs.toList.length=r.length:=by rw[this];simp
    simp only[Zb0]at hlr;simp[Z.size,Value.cells,hlr]
   injection h with h
   subst h;simp only[Zb0]at hlen;simp[Z.size,Value.cells,hlen]
  simp at h
 simp only[ZbK]at h;obtain⟨x,hx,rfl⟩:=h;simp[Z.size,EV hx]
def Ek{v:Value}{z:Z}{g:Nat->S}(h:Ue v=some z)(hg:z.sc=some g):∀ i,i<z.size->v.cells[i]? = some (g i).val:=by
 intro i hi;unfold Ue at h;split at h
 ·rename_i cs;split at h
  ·rename_i hall;injection h with h;subst h
   simp only[Z.sc,Zb4]at hg;subst hg;simp only[Z.size,Zb0]at hi;have hm:cs[i]∈cs.toList:=by simp
   have:=Zcc.1 hall _ hm;simp[Value.cells,hi,oG this]
  split at h
  ·rename_i l hl;split at h
   ·rename_i r hr;injection h with h
    subst h;have:=TJ hr (Kc (ι:=fun _=>none) hl);simp only[Z.sc,Zb4]at hg;subst hg;simp only[Z.size]at hi;have:cs[i]? = (r.map S.val)[i]?:=by rw[<-this];simp
    simp[Value.cells,this,hi]
   injection h with h
   subst h;simp[Z.sc]at hg
  simp at h
 simp only[ZbK]at h;obtain⟨x,hx,rfl⟩:=h
 cases x <;> simp[Z.sc]at hg
 subst hg;simp only[Z.size]at hi;have:i=0:=by omega
 subst this;have h2:=JY hx (fun _=>none);simp only[VR]at h2;rw[EV hx,h2];simp
def Er{ι:Inj}{v:Value}{z:Z}(h:Ue v=some z):VRL ι z.vc v.cells.toList:=by
 unfold Ue at h;split at h
 ·rename_i cs;split at h
  ·rename_i hall;injection h with h;subst h
   refine VRL.of_at (by simp[Z.vc,Value.cells]) fun i x u hx hu=>?_
   simp only[Z.vc]at hx;rw[List.getElem?_replicate]at hx;split at hx
   ·injection hx with hx
    subst hx;have hm:u∈cs.toList:=List.mem_of_getElem? hu;rw[oG (Zcc.1 hall _ hm)];exact rfl
   simp at hx
  split at h
  ·rename_i l hl;split at h
   ·rename_i r hr;injection h with h
    subst h;have:=TJ hr (Kc (ι:=fun _=>none) hl);refine VRL.of_at (by simp only[Z.vc,Value.cells];rw[this];simp) fun i x u hx hu=>?_
    simp only[Z.vc,Value.cells]at hx hu;rw[this]at hu;rw[Zb9]at hx hu
    cases hri:r[i]? with
    |none=>simp[hri]at hx
    |some y=>
     simp[hri]at hx hu;subst hx;subst hu;exact rfl
   injection h with h
   subst h;exact Kc hl
  simp at h
 simp only[ZbK]at h;obtain⟨x,hx,rfl⟩:=h;simp only[Z.vc,EV hx,VRL];exact⟨v,[],rfl,JY hx ι,rfl⟩
def xL{P:Program}{t:TypeId}{z:Z}(h:Wu P t=some z):∃ i v,P.info? t=some i/\i.zero=some v/\Ue v=some z:=by
 unfold Wu at h;split at h
 ·rename_i i hi;split at h
  ·rename_i v hv;exact⟨i,v,hi,hv,h⟩
  simp at h
 simp at h
def Vq{P:Program}{t:TypeId}{z:Z}(h:Wu P t=some z):∃ v,Ue v=some z/\∀ W,(zeroValue t).run P W=.ok v W:=by
 obtain⟨i,v,hi,hv,hz⟩:=xL h;exact⟨v,hz,fun W=>by simp[zeroValue,typeInfo,hi,hv]⟩
def kG{ι:Inj}{e:Env}{a:Act}(hE:EnvR ι e a.tmps){place:Nat->Option (Nat×Nat)}{l:List (Nat×Operand)}{ps:List (Nat×Nat×O)}{z:Z}{v:Value}{x:V}
  (hp:VH place l ps) (hz:Ue v=some z) (hb:Rs e z ps=some x):∃ cells,Instr.fill place v.cells (l.map fun p=>(p.1,a.eval p.2))=some cells/\VR ι x (.agg cells):=by
 unfold Rs at hb
 split at hb
 ·rename_i g hg;injection hb with hb
  subst hb;split at hg
  ·rename_i hin;simp only[ZbI]at hg;obtain⟨g0,h0,hg⟩:=hg;obtain⟨cells,e1,e2,e3⟩:=wN hE hp hin hg (Vu hz).symm (Ek hz h0);exact⟨cells,e1,_,rfl,e2,e3⟩
  simp at hg
 simp only[ZbK]at hb;obtain⟨m,hm,rfl⟩:=hb;obtain⟨cells,e1,e2⟩:=w0 hE hp hm (Er hz);exact⟨cells,e1,mkAgg_R' e2⟩
def ZdK{P:Program}{t:TypeId}{fs:Array Field}{parts:Array (Nat×Operand)}{ps:List (Nat×Nat)}{z:Z}{qs:List (Nat×Nat×O)}(hz:Wu P t=some z)(hu:P.underlying t=some (.struct fs))(hp:j9 P fs.toList=some ps)(hq:UM ps parts.toList=some qs) :
  XJ P (.build t parts) (.build z qs):=by
 intro ι e a x o ho hE hv
 simp only[YY]at hv
 obtain⟨v,hzv,hrun⟩:=Vq hz
 obtain⟨cells,h1,h2⟩:=kG hE (E1 hq) hzv hv
 refine⟨_,h2,fun W=>?_⟩
 have hpl:=run_places (P:=P) W fs.toList ps hp
 have hm:(parts.map fun p=>(p.1,a.eval p.2)).toList=parts.toList.map fun p=>(p.1,a.eval p.2):=by simp
 simp[execOp,ho,Instr.build,hrun W,run_underlying hu W,Array.mapM_eq_mapM_toList,hpl,h1]
def yA{P:Program}{t el:TypeId}{n len:Nat}{parts:Array (Nat×Operand)}{z:Z}{qs:List (Nat×Nat×O)}(hz:Wu P t=some z)(hu:P.underlying t=some (.array len el))(hs:Xz P el=some n)(hq:KB n parts.toList=some qs) :
  XJ P (.build t parts) (.build z qs):=by
 intro ι e a x o ho hE hv
 simp only[YY]at hv
 obtain⟨v,hzv,hrun⟩:=Vq hz
 obtain⟨cells,h1,h2⟩:=kG hE (xy hq) hzv hv
 refine⟨_,h2,fun W=>?_⟩
 simp[execOp,ho,Instr.build,hrun W,run_underlying hu W,X6 hs W,h1]
end Go.Am
namespace Go.Am
open Go
def allB_iff{n:Nat}{f:Nat->Bool}:Xp n f=true↔∀ i,i<n->f i=true:=by
 induction n with
 |zero=>simp[Xp]
 |succ n ih=>
  simp only[Xp,Zca,ih];constructor
  ·rintro⟨h1,h2⟩ i hi;by_cases e:i=n
   ·subst e;exact h2
   exact h1 i (by omega)
  intro h;exact⟨fun i hi=>h i (by omega),h n (by omega)⟩
def vH(n m:Nat)(f:Nat->Bool):Xp (n+m) f=(Xp n f&&Xp m (fun i=>f (n+i))):=by
 induction m with
 |zero=>simp[Xp]
 |succ m ih=>rw[<-Nat.add_assoc];simp only[Xp];rw[ih,Bool.and_assoc]
def Ea{a b:S}(h:a.fits b=true):∃ k x y,a=.int k x/\b=.int k y:=by
 unfold S.fits at h;split at h
 ·rename_i k x k' y;have:=of_decide_eq_true h;subst this;exact⟨k,x,y,rfl,rfl⟩
 simp at h
def xq(P:Program)(d:Nat):Prop:=∀ t n,Qp P d t=some n->Uc P t=some true->∀ (X Y:Array Value) (g h:Nat->S) (D:Nat) (W:World),d<=D ->
 (∀ j,j<n->X[j]? = some (g j).val)->(∀ j,j<n->Y[j]? = some (h j).val)->(∀ j,j<n->(g j).fits (h j)=true) ->
 (Op.equalIn D t (.agg X) (.agg Y)).run P W=.ok (Xp n fun j=>(g j).eqB (h j)) W
def ql{P:Program}{d:Nat}(ih:xq P d){t:TypeId}{n:Nat}(hf:Qp P d t=some n)(hs:Xz P t=some n)(X Y:Array Value)(o:Nat)(g h:Nat->S)(D:Nat)(W:World)(hD:d<=D)
  (hX:∀ j,j<n->X[o+j]? = some (g j).val) (hY:∀ j,j<n->Y[o+j]? = some (h j).val) (hk:∀ j,j<n->(g j).fits (h j)=true) :
  ∃ a b,(∀ W,(part t X o).run P W=.ok a W)/\(∀ W,(part t Y o).run P W=.ok b W)/\(Op.equalIn D t a b).run P W=.ok (Xp n fun j=>(g j).eqB (h j)) W:=by
 cases d with
 |zero=>simp[Qp]at hf
 |succ d=>
  obtain⟨D,rfl⟩:∃ D',D=D'+1:=⟨D-1,by omega⟩
  by_cases ha:Uc P t=some true
  · refine⟨.agg (X.extract o (o + n)),.agg (Y.extract o (o + n)),fun W=> by rw[Vp ha hs];rfl,fun W=> by rw[Vp ha hs];rfl,?_⟩;refine ih t n hf ha _ _ g h (D+1) W hD ?_ ?_ hk
    ·intro j hj;rw[Array.getElem?_extract];rw[ZcA]
     ·exact hX j hj
     have:=hX j hj;have hlt:o+j<X.size:=by
      rcases Zcr (o+j) X.size with h|h
      ·exact h
      rw[Array.getElem?_eq_none h]at this;simp at this
     omega
    intro j hj;rw[Array.getElem?_extract];rw[ZcA]
    ·exact hY j hj
    have:=hY j hj;have hlt:o+j<Y.size:=by
     rcases Zcr (o+j) Y.size with h|h
     ·exact h
     rw[Array.getElem?_eq_none h]at this;simp at this
    omega
  ·
    unfold Qp at hf
    split at hf
    ·rename_i k hu;injection hf with hf
     subst hf;have ha':Uc P t=some false:=by simp[Uc,hu]
     have hX0:=hX 0 (by omega);have hY0:=hY 0 (by omega);simp only[Nat.add_zero]at hX0 hY0;refine⟨(g 0).val,(h 0).val,fun W=>by rw[Vp ha' hs];simp[hX0],fun W=>by rw[Vp ha' hs];simp[hY0],?_⟩;obtain⟨k',x,y,e1,e2⟩:=Ea (hk 0 (by omega));rw[e1,e2];simp only[S.val];rw[run_equalIn_int W D t k' k x y hu];simp[Xp,e1,e2,S.eqB];rfl
    ·rename_i fs hu;exact absurd (by simp[Uc,hu]) ha
    ·rename_i m e hu;exact absurd (by simp[Uc,hu]) ha
    simp at hf
def yc{P:Program}{d:Nat}(ih:xq P d)(D:Nat)(hD:d<=D)(X Y:Array Value)(g h:Nat->S)(W:World):∀ (fs:List Field) (acc n:Nat),D6 P (Qp P d) fs acc=some n ->
  (∀ j,j<n->X[j]? = some (g j).val)->(∀ j,j<n->Y[j]? = some (h j).val)->(∀ j,j<n->(g j).fits (h j)=true) ->
  acc<=n/\(Op.eqFields D X Y fs).run P W=.ok (Xp (n-acc) fun j=>(g (acc+j)).eqB (h (acc+j))) W
 |[],acc,n,hf,_,_,_=>by
  simp[D6]at hf;subst hf;simp[Op.eqFields,Xp]
 |f::fs,acc,n,hf,hX,hY,hk=>by
  unfold D6 at hf;split at hf
  ·simp at hf
  rename_i hname;split at hf
  ·rename_i hoff;split at hf
   ·rename_i k k' h1 h2;split at hf
    ·rename_i hkk;subst hkk;obtain⟨hle,hrest⟩:=yc ih D hD X Y g h W fs (acc+k) n hf hX hY hk;refine⟨by omega,?_⟩;obtain⟨a,b,ha,hb,he⟩:=ql ih h1 h2 X Y acc (fun j=>g (acc+j)) (fun j=>h (acc+j)) D W hD (fun j hj=>hX _ (by omega)) (fun j hj=>hY _ (by omega)) (fun j hj=>hk _ (by omega));simp only[Op.eqFields];rw[ZcA hname,hoff];simp only[Sem.run_bind,ha,hb,he,Result.andThen_ok];rw[show n-acc=k+(n-(acc+k)) by omega,vH]
     cases hq:Xp k fun j=>(g (acc+j)).eqB (h (acc+j))
     ·simp
     simp only[Bool.not_true,Zb1,if_false,Bool.true_and];rw[hrest];simp only[Nat.add_assoc]
    simp at hf
   simp at hf
  simp at hf
def zS{P:Program}{d D n k:Nat}{e:TypeId}(ih:xq P d)(hD:d<=D)(hf:Qp P d e=some k)(hs:Xz P e=some k)(X Y:Array Value)(g h:Nat->S)(W:World)
  (hX:∀ j,j<n*k->X[j]? = some (g j).val) (hY:∀ j,j<n*k->Y[j]? = some (h j).val) (hk:∀ j,j<n*k->(g j).fits (h j)=true) :
  ∀ (m s:Nat),s+m=n->∀ (f:Nat->(Option Bool×Unit)->Sem (ForInStep ((Option Bool×Unit)))),
   (∀ i r,f i r=(do
    if !(<- Op.equalIn D e (<- part e X (i*k)) (<- part e Y (i*k))) then Pure.pure (ForInStep.done (some false,()))
    else Pure.pure (ForInStep.yield (none,())))) ->
   ((forIn (List.range' s m) ((none,()):(Option Bool×Unit)) f).run P W=.ok (if (Xp (m*k) fun j=>(g (s*k+j)).eqB (h (s*k+j))) then (none,()) else (some false,())) W)
 |0,s,_,f,_=>by simp[Xp]
 |m+1,s,hsm,f,hff=>by
  have hb:s*k+k<=n*k:=by rw[<-Nat.succ_mul];exact ZbW _ (by omega)
  obtain⟨a,b,ha,hb',he⟩:=ql ih hf hs X Y (s*k) (fun j=>g (s*k+j)) (fun j=>h (s*k+j)) D W hD (fun j hj=>hX _ (by omega)) (fun j hj=>hY _ (by omega)) (fun j hj=>hk _ (by omega));have hrec:=zS ih hD hf hs X Y g h W hX hY hk m (s+1) (by omega) f hff;simp only[List.range'_succ,List.forIn_cons,hff,Sem.run_bind,ha,hb',he,Result.andThen_ok];rw[show(m+1)*k=k+m*k by rw[Nat.succ_mul,Nat.add_comm],vH]
  cases hq:Xp k fun j=>(g (s*k+j)).eqB (h (s*k+j))
  ·simp
  simp only[Bool.not_true,Zb1,if_false,Bool.true_and,Sem.run_pure,Result.andThen_ok];rw[hrec];simp only[Nat.succ_mul,Nat.add_assoc]
def ob(P:Program):∀ d,xq P d
 |0=>fun t n hf=>by simp[Qp]at hf
 |d+1=>by
  intro t n hf ha X Y g h D W hD hX hY hk;have ih:=ob P d;obtain⟨D,rfl⟩:∃ D',D=D'+1:=⟨D-1,by omega⟩
  unfold Qp at hf;split at hf
  ·rename_i k hu;simp[Uc,hu]at ha
  ·rename_i fs hu;split at hf
   ·simp at hf
   rename_i hst;have hfo:P.fieldsOf t=fs:=by simp[Program.fieldsOf,hu]
   rw[run_equalIn_struct W D t X Y (by rw[hfo];exact hu) (by simpa using hst),hfo];have:=(yc ih D (by omega) X Y g h W fs.toList 0 n hf hX hY hk).2;simpa using this
  ·rename_i m e hu;split at hf
   ·rename_i k k' h1 h2;split at hf
    ·rename_i hkk;subst hkk;injection hf with hf
     subst hf;simp only[Op.equalIn,Sem.run_bind,run_underlying hu W,Result.andThen_ok,X6 h2 W];rw[Std.Legacy.Range.forIn_eq_forIn_range'];simp only[Std.Legacy.Range.size,Nat.sub_zero,Nat.add_sub_cancel,Nat.div_one];rw[zS (D:=D) ih (by omega) h1 h2 X Y g h W hX hY hk m 0 (by omega) _ (fun i r=>rfl)];simp only[Nat.zero_mul,Zcp,Result.andThen_ok]
     cases Xp (m*k) fun j=>(g j).eqB (h j) <;> simp
    simp at hf
   simp at hf
  simp at hf
def jP{P:Program}{neg:Bool}{t u:TypeId}{n:Nat}{x y:Operand}{x' y':O}(hn:Qp P 12 t=some n)(ha:Uc P t=some true)(hg:P.eqGuardType P.depth t=false)(hx:opd x=some x')(hy:opd y=some y') :
  XJ P (.binOp (bif neg then .neq else .eql) t x y u) (.eqa neg n x' y'):=by
 intro ι e a z o ho hE hv
 have rx:=Y9 hx hE
 have ry:=Y9 hy hE
 simp only[YY]at hv
 split at hv
 ·rename_i n1 g n2 h hp hq;rw[hp]at rx;rw[hq]at ry;simp only[VR]at rx ry;obtain⟨X,rx,hXs,hX⟩:=rx;obtain⟨Y,ry,hYs,hY⟩:=ry;split at hv
  ·rename_i hnn;obtain⟨e1,e2⟩:=hnn;subst e1;subst e2
   cases hall:Xp n2 fun i=>(g i).fits (h i)
   ·simp[hall]at hv
   simp only[hall,cond_true,Zb4]at hv;subst hv;refine⟨_,rfl,fun W=>?_⟩;have he:(Op.equal t (.agg X) (.agg Y)).run P W=.ok (Xp n2 fun j=>(g j).eqB (h j)) W:=ob P 12 t n2 hn ha X Y g h 10000 W (by omega) hX hY (allB_iff.1 hall)
   cases neg <;> simp[execOp,ho,rx,ry,eqGuard,hg,binOp,he,S.val]
  simp at hv
 simp at hv
end Go.Am
namespace Go.Am
open Go
def ta{ι:Inj}{e:Env}{a:Act}(hE:EnvR ι e a.tmps){x:Option Operand}{o:Option O}(ho:opt x=some o){d:Nat}{n:Int}(h:WB e o d=some n) :
  (x=none/\n=d)\/∃ y k,x=some y/\a.eval y=.int k n:=by
 cases x with
 |none=>
  simp[opt]at ho
  subst ho
  simp[WB]at h
  exact .inl ⟨rfl,h.symm⟩
 |some y=>
  simp[opt]at ho
  obtain⟨q,hq,rfl⟩:=ho
  have r:=Y9 hq hE
  simp only[WB]at h
  unfold num? at h
  split at h
  ·rename_i k m hm;injection h with h
   subst h;rw[hm]at r;simp only[VR,S.val]at r;exact .inr ⟨y,k,rfl,r⟩
  simp at h
def Kl{P:Program}{ι:Inj}{e:Env}{a:Act}(hE:EnvR ι e a.tmps){lo hi:Option Operand}{lo' hi':Option O}(h1:opt lo=some lo')(h2:opt hi=some hi')(isS:Bool){len cap:Nat}{l h:Int}
  (hl:WB e lo' 0=some l) (hh:WB e hi' len=some h) (h0:0<=l) (h3:l<=h) (h4:h<=cap) (W:World) :
  (Instr.sliceBounds isS len cap (lo.map a.eval) (hi.map a.eval) none).run P W=.ok (l.toNat,h.toNat,cap) W:=by
 have hb:∀ (v:Value) (k:IntKind) (i:Int) (y:Nat) (c:BoundsCode),v=.int k i->0<=i->i<=y->(Instr.sliceBound v y c).run P W=.ok i.toNat W:=by
  rintro v k i y c rfl hi0 hi1;simp only[Instr.sliceBound,asIntOf,Sem.run_bind,Sem.run_pure,Result.andThen_ok];rw[ZcA ⟨hi0,hi1⟩];rfl
 simp only[Instr.sliceBounds,Sem.run_bind,Sem.run_pure,Result.andThen_ok]
 rcases ta hE h2 hh with⟨rfl,e2⟩|⟨y,k,rfl,e2⟩ <;> rcases ta hE h1 hl with⟨rfl,e1⟩|⟨y',k',rfl,e1⟩
 ·subst e1;subst e2;simp
 ·subst e2;simp[hb _ _ _ _ _ e1 h0 h3]
 ·subst e1;simp[hb _ _ _ _ _ e2 h3 h4]
 simp[hb _ _ _ _ _ e2 (by omega) h4,hb _ _ _ _ _ e1 h0 (show l<=(h.toNat:Int) by omega)]
def Zbk{P:Program}{t:TypeId}{x:Operand}{lo hi:Option Operand}{x':O}{lo' hi':Option O}(ht:P.underlying t=some .string)(hx:opd x=some x')(h1:opt lo=some lo')(h2:opt hi=some hi') :
  XJ P (.slice t x lo hi none) (.slS x' lo' hi'):=by
 intro ι e a z o ho hE hv
 have rx:=Y9 hx hE
 simp only[YY]at hv
 split at hv
 ·rename_i s hs;rw[hs]at rx;simp only[VR,S.val]at rx;split at hv
  ·rename_i l h hl hh;split at hv
   ·rename_i hb;injection hv with hv
    subst hv;refine⟨_,rfl,fun W=>?_⟩;simp[execOp,ho,Instr.sliceAt,Instr.slice,run_underlying ht W,rx,Kl hE h1 h2 false hl hh hb.1 hb.2.1 hb.2.2 W,S.val]
   simp at hv
  simp at hv
 simp at hv
def Zae{P:Program}{t el:TypeId}{n:Nat}{x:Operand}{lo hi:Option Operand}{x':O}{lo' hi':Option O}(ht:P.underlying t=some (.slice el))(hs:Xz P el=some n)(hx:opd x=some x')(h1:opt lo=some lo')(h2:opt hi=some hi') :
  XJ P (.slice t x lo hi none) (.slV n x' lo' hi'):=by
 intro ι e a z o ho hE hv
 have rx:=Y9 hx hE
 have hrun:∀ (ad:Option Addr) (len cap:Nat) (l h:Int),a.eval x=.slice ad len cap->WB e lo' 0=some l->WB e hi' len=some h->0<=l->l<=h->h<=cap->∀ W,
   (execOp a.eval o).run P W=.ok (.value (.slice (if cap=l.toNat then ad else ad.map (·.add (l.toNat*n))) (h.toNat-l.toNat) (cap-l.toNat))) W:=by
  intro ad len cap l h hv hl hh h0 h3 h4 W
  simp[execOp,ho,Instr.sliceAt,Instr.slice,run_underlying ht W,hv,Kl hE h1 h2 true hl hh h0 h3 h4 W,X6 hs W]
 simp only[YY]at hv
 split at hv
 ·rename_i b off m z' md hb;rw[hb]at rx;simp only[VR]at rx;obtain⟨p,cap,hp,hle,rx,hc⟩:=rx;split at hv
  ·rename_i l h hl hh;split at hv
   ·rename_i hz;subst hz;split at hv
    ·rename_i c;split at hv
     ·rename_i hbd;injection hv with hv
      subst hv;simp only[Jt]at hc;obtain⟨rfl,hc1,hc2⟩:=hc;refine⟨_,⟨p,cap-l.toNat,hp,?_,rfl,?_⟩,fun W=>by rw[hrun _ _ _ l h rx hl hh hbd.1 hbd.2.1 hbd.2.2 W];congr 3;split <;> simp[VN,Nat.add_assoc]⟩
      ·have hm:(h.toNat-l.toNat)*n<=(cap-l.toNat)*n:=ZbW _ (by omega);have hm2:l.toNat*n+(cap-l.toNat)*n=cap*n:=by rw[<-Nat.add_mul];congr 1;omega
       split
       ·rename_i e1;rw[e1,Nat.sub_self,Nat.zero_mul]at hm;omega
       omega
      simp only[Jt];refine⟨trivial,by omega,?_⟩;have hm2:l.toNat*n+(cap-l.toNat)*n=cap*n:=by rw[<-Nat.add_mul];congr 1;omega
      split
      ·rename_i e1;rw[e1,Nat.sub_self,Nat.zero_mul];rw[e1]at hc2;omega
      omega
     simp at hv
    rename_i hne;have hcap:m<=cap:=by
     cases md with
     |ex c=>exact absurd rfl (hne c)
     |unk=>exact hc
     |whole=>exact hc.2.2.2.1
    split at hv
    ·rename_i hbd;split at hv
     ·rename_i hlt;injection hv with hv
      subst hv;refine⟨_,⟨p,cap-l.toNat,hp,?_,rfl,?_⟩,fun W=>by rw[hrun _ _ _ l h rx hl hh hbd.1 hbd.2.1 (by omega) W,Zcz (by omega)];simp[VN,Nat.add_assoc]⟩
      ·have hm:(h.toNat-l.toNat)*n<=(m-l.toNat)*n:=ZbW _ (by omega);have hm2:l.toNat*n+(m-l.toNat)*n=m*n:=by rw[<-Nat.add_mul];congr 1;omega
       omega
      simp only[Jt];omega
     rename_i hlt;injection hv with hv
     subst hv;have e0:h.toNat-l.toNat=0:=by omega
     by_cases hcl:cap=l.toNat
     ·exact⟨_,⟨⟨p.c,p.base+off,none⟩,cap-l.toNat,rfl⟩,fun W=>by rw[hrun _ _ _ l h rx hl hh hbd.1 hbd.2.1 (by omega) W,ZcA hcl,e0]⟩
     exact⟨_,⟨(⟨p.c,p.base+off,none⟩:Addr).add (l.toNat*n),cap-l.toNat,rfl⟩,fun W=>by rw[hrun _ _ _ l h rx hl hh hbd.1 hbd.2.1 (by omega) W,Zcz hcl,e0];rfl⟩
    simp at hv
   simp at hv
  simp at hv
 ·rename_i hb;rw[hb]at rx;simp only[VR]at rx;obtain⟨ad,cap,rx⟩:=rx;split at hv
  ·rename_i hl hh;injection hv with hv
   subst hv;refine⟨_,⟨ad,cap,rfl⟩,fun W=>?_⟩;rw[hrun _ _ _ 0 0 rx hl hh (by omega) (by omega) (by omega) W];simp[Addr.add]
  simp at hv
 ·rename_i hb;rw[hb]at rx;simp only[VR]at rx;split at hv
  ·rename_i hl hh;injection hv with hv
   subst hv;refine⟨_,rfl,fun W=>?_⟩;rw[hrun _ _ _ 0 0 rx hl hh (by omega) (by omega) (by omega) W];simp
  simp at hv
 simp at hv
def gQ{P:Program}{t el:TypeId}{len n:Nat}{x:Operand}{lo hi:Option Operand}{x':O}{lo' hi':Option O}(ht:P.underlying t=some (.array len el))(hs:Xz P el=some n)(hx:opd x=some x')(h1:opt lo=some lo')(h2:opt hi=some hi') :
  XJ P (.slice t x lo hi none) (.slA len n x' lo' hi'):=by
 intro ι e a z o ho hE hv
 have rx:=Y9 hx hE
 have hrun:∀ (ad:Addr) (l h:Int),a.eval x=.pointer (some ad)->WB e lo' 0=some l->WB e hi' len=some h->0<=l->l<=h->h<=len->∀ W,
   (execOp a.eval o).run P W=.ok (.value (.slice (some (if len=l.toNat then ad else ad.add (l.toNat*n))) (h.toNat-l.toNat) (len-l.toNat))) W:=by
  intro ad l h hv hl hh h0 h3 h4 W
  simp[execOp,ho,Instr.sliceAt,run_underlying ht W,hv,Instr.sureAddr,Kl hE h1 h2 false hl hh h0 h3 h4 W,X6 hs W]
 simp only[YY]at hv
 split at hv
 ·rename_i b off z' hb;rw[hb]at rx;simp only[VR]at rx;obtain⟨p,hp,hle,rx⟩:=rx;split at hv
  ·rename_i l h hl hh;split at hv
   ·rename_i hz;split at hv
    ·rename_i hbd;split at hv
     ·rename_i hlt;injection hv with hv
      subst hv;have hm:(h.toNat-l.toNat)*n<=(len-l.toNat)*n:=ZbW _ (by omega);have hm2:l.toNat*n+(len-l.toNat)*n=len*n:=by rw[<-Nat.add_mul];congr 1;omega
      refine⟨_,⟨p,len-l.toNat,hp,by omega,rfl,⟨rfl,by omega,by omega⟩⟩,fun W=>by rw[hrun _ l h rx hl hh hbd.1 hbd.2.1 hbd.2.2 W,Zcz (by omega)];simp[VN,Nat.add_assoc]⟩
     rename_i hlt;injection hv with hv
     subst hv;have e0:h.toNat-l.toNat=0:=by omega
     exact⟨_,⟨_,_,rfl⟩,fun W=>by rw[hrun _ l h rx hl hh hbd.1 hbd.2.1 hbd.2.2 W,e0]⟩
    simp at hv
   simp at hv
  simp at hv
 simp at hv
def Dz{P:Program}{neg:Bool}{t u:TypeId}{x y:Operand}{x' y':O}{i:PIns}(hx:opd x=some x')(hy:opd y=some y')(h:yY P neg (bif neg then .neq else .eql) t x' y'=some i):XJ P (.binOp (bif neg then .neq else .eql) t x y u) i:=by
 unfold yY at h;split at h
 ·injection h with h;subst h;exact yK hx hy
 ·injection h with h;subst h;exact yK hx hy
 ·rename_i fs hu;split at h
  ·simp at h
  rename_i hg;simp only[ZbK]at h;obtain⟨n,hn,rfl⟩:=h;exact jP hn (by simp[Uc,hu]) (by simpa using hg) hx hy
 ·rename_i a b hu;split at h
  ·simp at h
  rename_i hg;simp only[ZbK]at h;obtain⟨n,hn,rfl⟩:=h;exact jP hn (by simp[Uc,hu]) (by simpa using hg) hx hy
 simp at h
def zR{P:Program}{op:Op}{i:PIns}(h:WT P op=some i):XJ P op i:=by
 cases op with
 |move x=>
  simp only[WT,ZbK]at h;obtain⟨o,ho,rfl⟩:=h;exact pV ho
 |assign x=>
  simp only[WT,ZbK]at h;obtain⟨o,ho,rfl⟩:=h;exact ug ho
 |pick c a b=>
  simp only[WT]at h;split at h
  ·rename_i h1 h2 h3;injection h with h;subst h;exact oS h1 h2 h3
  simp at h
 |build t parts=>
  simp only[WT]at h;split at h
  ·rename_i z fs hz hu;simp only[ZbI,ZbK]at h;obtain⟨ps,hp,qs,hq,rfl⟩:=h;exact ZdK hz hu hp hq
  ·rename_i z len el hz hu;simp only[ZbI,ZbK]at h;obtain⟨n,hn,qs,hq,rfl⟩:=h;exact yA hz hu hn hq
  simp at h
 |nilCheck x=>
  simp only[WT,ZbK]at h;obtain⟨o,ho,rfl⟩:=h;exact sf ho
 |binOp op t x y u=>
  simp only[WT]at h;split at h
  ·rename_i x' y' hx hy;split at h
   ·exact Dz (neg:=false) hx hy h
   ·exact Dz (neg:=true) hx hy h
   injection h with h;subst h;exact yK hx hy
  simp at h
 |unOp op t x=>
  simp only[WT,ZbK]at h;obtain⟨o,ho,rfl⟩:=h;exact pure_un ho
 |convert s d x=>
  simp only[WT]at h;split at h
  ·rename_i h1 h2;simp only[ZbK]at h;obtain⟨o,ho,rfl⟩:=h;exact gF h1 h2 ho
  simp at h
 |makeFunc fn first caps=>
  cases fn <;> simp only[WT]at h
  ·split at h
   ·rename_i hf;simp only[ZbK]at h;obtain⟨o,ho,rfl⟩:=h;exact rT hf ho
   split at h
   ·rename_i x h1 h2;simp only[ZbK]at h;obtain⟨o,ho,rfl⟩:=h;exact Zbz h1 h2 ho
   simp at h
  all_goals simp at h
 |makeInterface t x=>
  simp only[WT]at h;split at h
  ·simp at h
  ·rename_i u hn hu;simp only[ZbK]at h;obtain⟨o,ho,rfl⟩:=h;exact pW hu (fun m e=>hn m e) ho
  simp at h
 |fieldAddr t x i=>
  simp only[WT]at h;split at h
  ·rename_i fs hf;split at h
   ·rename_i f hi;split at h
    ·rename_i n hs;split at h
     ·simp at h
     rename_i hn;simp only[ZbK]at h;obtain⟨o,ho,rfl⟩:=h;exact pure_fa hf hi hs hn ho
    simp at h
   simp at h
  simp at h
 |field t x i=>
  simp only[WT]at h;split at h
  ·rename_i fs hf;split at h
   ·rename_i f hi;split at h
    ·rename_i n g hs ha;split at h
     ·rename_i hg;simp only[ZbK]at h;obtain⟨o,ho,rfl⟩:=h;exact ZaZ hf hi hs ha hg ho
     simp at h
    simp at h
   simp at h
  simp at h
 |indexAddr t x i=>
  simp only[WT]at h;split at h
  ·rename_i len e hu;split at h
   ·rename_i h1 h2 h3;injection h with h;subst h;exact ZbA hu h1 h2 h3
   simp at h
  ·rename_i e hu;split at h
   ·rename_i h1 h2 h3;injection h with h;subst h;exact Zah hu h1 h2 h3
   simp at h
  simp at h
 |index t x i=>
  simp only[WT]at h;split at h
  ·rename_i len e hu;split at h
   ·rename_i h1 h2 h3 h4;split at h
    ·rename_i hg;injection h with h;subst h;exact pure_ix hu h1 h2 hg h3 h4
    simp at h
   simp at h
  ·rename_i hu;split at h
   ·rename_i h1 h2;injection h with h;subst h;exact so hu h1 h2
   simp at h
  simp at h
 |slice t x lo hi mx=>
  cases mx with
  |some m=>simp[WT]at h
  |none=>
   simp only[WT]at h;split at h
   ·rename_i h1 h2 h3;split at h
    ·rename_i hu;injection h with h;subst h;exact Zbk hu h1 h2 h3
    ·rename_i e hu;simp only[ZbK]at h;obtain⟨n,hn,rfl⟩:=h;exact Zae hu hn h1 h2 h3
    ·rename_i len e hu;simp only[ZbK]at h;obtain⟨n,hn,rfl⟩:=h;exact gQ hu hn h1 h2 h3
    simp at h
   simp at h
 |extract x i=>
  simp only[WT,ZbK]at h;obtain⟨o,ho,rfl⟩:=h;exact ZaJ ho
 |call c=>
  simp only[WT]at h;split at h
  ·rename_i hc;split at h
   ·rename_i t x h0 h1;split at h
    ·rename_i hu;simp only[ZbK]at h;obtain⟨o,ho,rfl⟩:=h;exact p9 hc h0 h1 hu ho
    ·rename_i e hu;simp only[ZbK]at h;obtain⟨o,ho,rfl⟩:=h;exact Za4 hc h0 h1 hu ho
    simp at h
   simp at h
  ·rename_i hc;simp only[ZbK]at h;obtain⟨o,ho,rfl⟩:=h;exact pure_mn hc ho
  ·rename_i hc;simp only[ZbK]at h;obtain⟨o,ho,rfl⟩:=h;exact pure_mx hc ho
  simp at h
 |_=>simp[WT]at h
end Go.Am
namespace Go.Am
open Go
def CellsR(ι:Inj)(x:Blk)(cs:Array Value):Prop :=
 match x with
 |.sc _ n g=>cs.size=n/\∀ i,i<n->cs[i]? = some (g i).val
 |.vs _ l=>VRL ι l cs.toList
 |_=>False
def Blk.tyOK(x:Blk)(T:TypeId):Prop :=
 match x with
 |.sc m _ _=>m.tyOK T 0 0
 |.vs m _=>m.tyOK T 0 0
 |_=>True
def CellsR.blk{ι:Inj}{x:Blk}{cs:Array Value}{W:World}{p:Place}(h:CellsR ι x cs)(hb:p.base=0)(hn:p.n=cs.size)(hs:p.sz=cs.size){T:TypeId}(hw:W.heap[p.c]? = some (.cells cs T (0,0)))(hty:x.tyOK T):BlkR ι W x p:=by
 have hcell:∀ i,W.cell? ⟨p.c,p.base+i,none⟩=cs[i]?:=fun i=>by simp[World.cell?,hw,hb]
 have hown:∀ m,Md.tyOK m T 0 0->Own m W p:=fun m hm _=>⟨hb,by omega,cs,T,hw,hs.symm,by rw[hn,hs];exact Md.tyOK_same hm _⟩
 cases x with
 |sc m n g=>
  obtain⟨h1,h2⟩:=h;exact⟨by omega,fun i hi=>by rw[hcell];exact h2 i hi,hown m hty⟩
 |vs m l=>
  have hl:=VRL.length h;simp only[Zb0]at hl;refine⟨by omega,fun i y hy=>?_,hown m hty⟩;obtain⟨v,hv,hr⟩:=VRL.at h i y hy;exact⟨v,by rw[hcell];simpa using hv,hr⟩
 |mp m l=>exact h.elim
 |dead=>trivial
 |sit s k=>exact h.elim
 |lp k rd caps st=>exact h.elim
def CellsR.ext{ι ι':Inj}{x:Blk}{cs:Array Value}(h:CellsR ι x cs)(he:Ext ι ι'):CellsR ι' x cs:=by
 cases x with
 |sc m n g=>exact h
 |vs m l=>exact VRL.ext he _ _ h
 |mp m l=>exact h
 |dead=>exact h
 |sit s k=>exact h
 |lp k rd caps st=>exact h
def zM[Bas]{ι:Inj}{σ:Heap}{W:World}(h:RelW ι σ W)(hn:ι σ.length=none)(cs:Array Value)(T:TypeId)(x:Blk)(cap:Nat)(hc:CellsR ι x cs)(hty:x.tyOK T) :
  QPost ι σ W (ι.put σ.length ⟨W.heap.size,0,cs.size,cap,cs.size⟩) (σ++[x]) (W.alloc (.cells cs T)) :=
 TC h hn _ x _ rfl ((hc.ext (Inj.put_ext _ hn)).blk rfl rfl rfl (WN W _) hty)
def VO[Bas](P:Program)(run:Runner)(op:Op)(i:HIns):Prop :=
 ∀ (ι:Inj) (σ:Heap) (W:World) (e:Env) (a:Act) (x:V) (σ':Heap) (o:Oper),o.op=op->EnvR ι e a.tmps->RelW ι σ W->YK run i e σ=some (x,σ') ->
  (∀ b,σ.length<=b->b<σ'.length->ι b=none)->∃ v W' ι',VR ι' x v/\QPost ι σ W ι' σ' W'/\(execOp a.eval o).run P W=.ok (.value v) W'
def oI{ι:Inj}{v:Value}{z:Z}(h:Ue v=some z):CellsR ι z.blk v.cells:=by
 have hs:=Vu h;have hsc:=fun g hg=>Ek (g:=g) h hg
 have hvc:=Er (ι:=ι) h
 cases z with
 |ints n=>exact⟨hs.symm,hsc _ rfl⟩
 |scl l=>exact⟨hs.symm,hsc _ rfl⟩
 |vl l=>exact hvc
 |one v=>
  cases v with
  |s x=>exact⟨hs.symm,hsc _ rfl⟩
  |_=>exact hvc
def zblk_ty(z:Z)(T:TypeId):z.blk.tyOK T:=by
 cases z with
 |one v=>cases v <;> exact trivial
 |_=>exact trivial
def zrow_ty(z:Z)(n:Nat)(T:TypeId):(z.row n).tyOK T:=by
 cases z with
 |one v=>cases v <;> exact trivial
 |_=>exact trivial
def boxB_ty{x:V}{b:Blk}(h:D4 x=some b)(T:TypeId):b.tyOK T:=by
 unfold D4 at h;split at h
 ·injection h with h;subst h;exact trivial
 ·injection h with h;subst h;exact trivial
 ·injection h with h;subst h;exact trivial
 split at h
 ·injection h with h;subst h;exact trivial
 simp at h
def sd{e:Env}{b b':Blk}{ps:List (Nat×Nat×O)}(h:Ws e b ps=some b'){T:TypeId}(hb:b.tyOK T):b'.tyOK T:=by
 unfold Ws at h;split at h
 ·split at h
  ·split at h
   ·injection h with h;subst h;exact hb
   simp at h
  simp at h
 ·simp only[ZbK]at h;obtain⟨l,_,rfl⟩:=h;exact hb
 simp at h
def ue[Bas]{P:Program}{run:Runner}{t:TypeId}{z:Z}(hz:Wu P t=some z):VO P run (.alloc t) (.alloc z):=by
 intro ι σ W e a x σ' o ho hE hR hv hn;simp only[YK,Zb4,Zcn]at hv;obtain⟨rfl,rfl⟩:=hv;obtain⟨v,hzv,hrun⟩:=Vq hz;have hn0:=hn σ.length (Zcs _) (by simp);refine⟨.pointer (some ⟨W.heap.size,0,none⟩),_,_,?_,zM hR hn0 v.cells t z.blk 0 (oI hzv) (zblk_ty z t),?_⟩
 ·exact⟨_,Inj.put_same _ _ _,by have:=Vu hzv;simp;omega,rfl⟩
 simp[execOp,ho,Instr.alloc,hrun,newVar,newRow]
def vw[Bas]{P:Program}{run:Runner}{t:TypeId}{l:List V}(hz:Wu P t=some (.vl l)):VO P run (.alloc t) (.alloct t l):=by
 intro ι σ W e a x σ' o ho hE hR hv hn;simp only[YK,Zb4,Zcn]at hv;obtain⟨rfl,rfl⟩:=hv;obtain⟨v,hzv,hrun⟩:=Vq hz;have hn0:=hn σ.length (Zcs _) (by simp);refine⟨.pointer (some ⟨W.heap.size,0,none⟩),_,_,?_,zM hR hn0 v.cells t (.vs (.ty t) l) 0 (oI (ι:=ι) hzv) ⟨rfl,rfl⟩,?_⟩
 ·exact⟨_,Inj.put_same _ _ _,by have:=Vu hzv;simp only[Z.size]at this;simp;omega,rfl⟩
 simp[execOp,ho,Instr.alloc,hrun,newVar,newRow]
def xt{ι:Inj}{x:V}{b:Blk}{v:Value}(h:D4 x=some b)(hv:VR ι x v):CellsR ι b v.cells:=by
  unfold D4 at h;split at h
  · rename_i y;injection h with h
    subst h;have hc:=RX (x:=.s y) rfl hv;simp only[VR]at hv;rw[hc,hv]
    exact ⟨rfl, fun i hi => by have : i = 0 := by omega
                               subst this; simp⟩
  · rename_i n g;injection h with h
    subst h;simp only[VR]at hv;obtain⟨cs,rfl,h1,h2⟩:=hv;exact⟨h1,h2⟩
  · rename_i l;injection h with h
    subst h;simp only[VR]at hv;obtain⟨cs,rfl,h1⟩:=hv;simpa[CellsR,Value.cells] using h1
  split at h
  · rename_i ho;injection h with h
    subst h;rw[CellsR,RX ho hv];simp only[VRL];exact⟨v,[],rfl,hv,rfl⟩
  simp at h
def CellsR.size{ι:Inj}{x:Blk}{cs:Array Value}(h:CellsR ι x cs):cs.size=match x with
  |.sc _ n _=>n
  |.vs _ l=>l.length
  |_=>0:=by
 cases x with
 |sc m n g=>exact h.1
 |vs m l=>have:=VRL.length h;simpa using this.symm
 |mp m l=>exact h.elim
 |dead=>exact h.elim
 |sit s k=>exact h.elim
 |lp k rd caps st=>exact h.elim
def r6[Bas]{P:Program}{run:Runner}{t:TypeId}{x:Operand}{x':O}(hx:opd x=some x'):VO P run (.box t x) (.box x'):=by
 intro ι σ W e a z σ' o ho hE hR hv hn;have rx:=Y9 hx hE;simp only[YK]at hv;have key:∀ b,D4 (x'.ev e)=some b->ι σ.length=none->∃ W' ι',QPost ι σ W ι' (σ++[b]) W'/\(execOp a.eval o).run P W=.ok (.value (.pointer (some ⟨W.heap.size,0,none⟩))) W' /\
   ι' σ.length=some ⟨W.heap.size,0,(a.eval x).cells.size,0,(a.eval x).cells.size⟩:=by
  intro b hb hn0
  exact⟨_,_,zM hR hn0 (a.eval x).cells t b 0 (xt hb rx) (boxB_ty hb t),by simp[execOp,ho,Instr.box,newVar,newRow],Inj.put_same _ _ _⟩
 split at hv
 ·rename_i m n g hb;injection hv with hv
  injection hv with h1 h2
  subst h1;subst h2;obtain⟨W',ι',hq,hr,hp⟩:=key _ hb (hn _ (Zcs _) (by simp));have hs:=(xt hb rx).size;exact⟨_,W',ι',⟨_,hp,by simp at hs ⊢;omega,rfl⟩,hq,hr⟩
 ·rename_i m l hb;injection hv with hv
  injection hv with h1 h2
  subst h1;subst h2;obtain⟨W',ι',hq,hr,hp⟩:=key _ hb (hn _ (Zcs _) (by simp));have hs:=(xt hb rx).size;exact⟨_,W',ι',⟨_,hp,by simp at hs ⊢;omega,rfl⟩,hq,hr⟩
 simp at hv
def rj[Bas]{P:Program}{run:Runner}{t:TypeId}{x:Operand}{x':O}(hx:opd x=some x'):VO P run (.box t x) (.boxt t x'):=by
 intro ι σ W e a z σ' o ho hE hR hv hn;have rx:=Y9 hx hE;simp only[YK]at hv;split at hv
 ·rename_i l he;injection hv with hv
  injection hv with h1 h2
  subst h1;subst h2;have hn0:=hn σ.length (Zcs _) (by simp);rw[he]at rx;have hR2:CellsR ι (.vs (.ty t) l) (a.eval x).cells:=by
   have:=xt (x:=.aggv l) rfl rx;exact this
  have hs:=hR2.size;refine⟨.pointer (some ⟨W.heap.size,0,none⟩),_,_,?_,zM hR hn0 (a.eval x).cells t (.vs (.ty t) l) 0 hR2 ⟨rfl,rfl⟩,?_⟩
  ·exact⟨_,Inj.put_same _ _ _,by simp at hs ⊢;omega,rfl⟩
  simp[execOp,ho,Instr.box,newVar,newRow]
 simp at hv
def rz[Bas]{ι:Inj}{σ:Heap}{W:World}(h:RelW ι σ W){b:Nat}{p:Place}{m:Md}{n:Nat}{g:Nat->S}(hp:ι b=some p)(hb:σ[b]? = some (.sc m n g)){o k:Nat}(hk:o+k<=p.n) :
  ∀ j,j<k->W.cell? ((⟨p.c,p.base+o,none⟩:Addr).add j)=some (g (o+j)).val:=by
 intro j hj
 obtain⟨h1,h2,_⟩:=h.blk b p _ hp hb
 rw[VN,Nat.add_assoc]
 exact h2 _ (by omega)
def rd_vs[Bas]{ι:Inj}{σ:Heap}{W:World}(h:RelW ι σ W){b:Nat}{p:Place}{m:Md}{l:List V}(hp:ι b=some p)(hb:σ[b]? = some (.vs m l)){o k:Nat}(hk:o+k<=l.length) :
  ∃ vs:List Value,vs.length=k/\VRL ι ((l.drop o).take k) vs/\∀ j u,vs[j]? = some u->W.cell? ((⟨p.c,p.base+o,none⟩:Addr).add j)=some u:=by
 obtain⟨h1,h2,_⟩:=h.blk b p _ hp hb
 have hc:∀ j,j<k->∃ v,W.cell? ⟨p.c,p.base+(o+j),none⟩=some v/\∀ x,l[o+j]? = some x->VR ι x v:=by
  intro j hj;obtain⟨v,hv,hr⟩:=h2 (o+j) _ (ZbH (by omega));exact⟨v,hv,fun x hx=>by rw[ZbH (by omega)]at hx;injection hx with hx;subst hx;exact hr⟩
 refine⟨(List.range k).map fun j=>(W.cell? ⟨p.c,p.base+(o+j),none⟩).getD Go.undef,by simp,VRL.of_at (by simp;omega) fun i x v hx hv=>?_,fun j u hu=>?_⟩
 ·rw[List.getElem?_take]at hx;split at hx
  ·rename_i hi;rw[List.getElem?_drop]at hx;obtain⟨v',hv',hr⟩:=hc i hi;rw[Zb9,ZbZ hi]at hv;simp[hv']at hv;subst hv;exact hr x hx
  simp at hx
 rw[Zb9]at hu;by_cases hj:j<k
 ·rw[ZbZ hj]at hu;obtain⟨v',hv',_⟩:=hc j hj;simp[hv']at hu;subst hu;rw[VN,Nat.add_assoc];exact hv'
 rw[ZbQ (by simp;omega)]at hu;simp at hu
def zT[Bas]{P:Program}{t:TypeId}{g:Bool}{n:Nat}(ha:Uc P t=some g)(hs:Xz P t=some n)(hg:(g||n==1)=true){ι:Inj}{σ:Heap}{W:World}(h:RelW ι σ W){b o:Nat}{p:Place}(hp:ι b=some p)(hk:o+n<=p.n){x:V}(hx:rdV σ b o n g=some x) :
  ∃ v,VR ι x v/\(loadVar t ⟨p.c,p.base+o,none⟩).run P W=.ok v W:=by
 unfold rdV at hx
 split at hx
 ·rename_i m k f hb;injection hx with hx
  subst hx;have hr:=rz h hp hb hk
  cases g
  ·have h1:n=1:=by simpa using hg
   subst h1;have h0:=hr 0 (by omega);simp only[Addr.add,Nat.add_zero,if_true]at h0;exact⟨(f o).val,rfl,by simp[loadVar,Q7 ha,h0]⟩
  refine⟨.agg ((List.range n).map fun j=>(f (o+j)).val).toArray,⟨_,rfl,by simp,fun i hi=>by simp[hi]⟩,?_⟩;have hl:=run_loadCells (P:=P) W ⟨p.c,p.base+o,none⟩ n (fun j=>(f (o+j)).val) hr;simp[loadVar,Q7 ha,X6 hs,hl]
 ·rename_i m l hb
  cases g
  ·have h1:n=1:=by simpa using hg
   subst h1;simp only[cond_false]at hx;obtain⟨_,h2,_⟩:=h.blk b p _ hp hb;obtain⟨v,hv,hr⟩:=h2 o x hx;exact⟨v,hr,by simp[loadVar,Q7 ha,hv]⟩
  simp only[cond_true]at hx;split at hx
  ·rename_i hle;injection hx with hx
   subst hx;obtain⟨vs,hl,hr,hc⟩:=rd_vs h hp hb hle;refine⟨.agg vs.toArray,mkAgg_R hr,?_⟩;have hld:=run_loadCells_list (P:=P) W ⟨p.c,p.base+o,none⟩ vs hc;rw[hl]at hld;simp[loadVar,Q7 ha,X6 hs,hld]
  simp at hx
 simp at hx
def sQ[Bas]{P:Program}{run:Runner}{t:TypeId}{g:Bool}{n:Nat}{x:Operand}{x':O}(ha:Uc P t=some g)(hs:Xz P t=some n)(hg:(g||n==1)=true)(hx:opd x=some x'):VO P run (.load t x) (.load g n x'):=by
 intro ι σ W e a z σ' o ho hE hR hv hn;have rx:=Y9 hx hE;simp only[YK]at hv;split at hv
 ·rename_i b off z' hb;rw[hb]at rx;simp only[VR]at rx;obtain⟨p,hp,hl,rx⟩:=rx;split at hv
  ·rename_i hle;simp only[ZbK]at hv;obtain⟨y,hy,hv⟩:=hv;injection hv with h1 h2
   subst h1;subst h2;obtain⟨v,hv,hrun⟩:=zT ha hs hg hR hp (by omega) hy;exact⟨v,W,ι,hv,QPost.refl hR,by simp[execOp,ho,rx,Instr.loadAt,Instr.sureAddr,hrun]⟩
  simp at hv
 simp at hv
end Go.Am
namespace Go.Am
open Go
def j8(l:List V)(n:Nat)(hl:l.length=n):∀ (len i:Nat),((List.replicate len l).flatten)[i]? = if i<len*n then l[i%n]? else none
 |0,i=>by simp
 |len+1,i=>by
  rw[List.replicate_succ,List.flatten_cons,List.getElem?_append,hl];split
  ·rename_i h;rw[ZcA (by rw[Nat.succ_mul];omega),Nat.mod_eq_of_lt h]
  rename_i h;rw[j8 l n hl len (i-n)];have e:(i-n<len*n)↔(i<(len+1)*n):=by rw[Nat.succ_mul];omega
  have e2:(i-n)%n=i%n:=by
   conv=>rhs;rw[show i=(i-n)+n by omega,Nat.add_mod_right]
  by_cases h2:i<(len+1)*n
  ·rw[ZcA h2,ZcA (e.2 h2),e2]
  rw[Zcz h2,Zcz (fun q=>h2 (e.1 q))]
def Zad(l:List V)(n:Nat)(hl:l.length=n)(len:Nat):((List.replicate len l).flatten).length=len*n:=by
 simp[hl]
def Kt(cs:Array Value)(k:Nat):Array Value:=(Array.range k).map fun i=>cs[i%cs.size]!
def Dv(cs:Array Value)(k i:Nat)(hi:i<k)(h0:0<cs.size):(Kt cs k)[i]? = cs[i%cs.size]?:=by
 have hm:=Nat.mod_lt i h0;simp[Kt,hi,hm]
def Uy(cs:Array Value)(k:Nat):(Kt cs k).size=k:=by simp[Kt]
def row_R{ι:Inj}{v:Value}{z:Z}(h:Ue v=some z)(h0:0<z.size)(len:Nat):CellsR ι (z.row len) (Kt v.cells (len*z.size)):=by
 have hs:=Vu h;have hsc:=fun g hg=>Ek (g:=g) h hg
 have hvc:=Er (ι:=ι) h;have hsc':∀ g,z.sc=some g->∀ i,i<len*z.size->(Kt v.cells (len*z.size))[i]? = some (g (i%z.size)).val:=by
  intro g hg i hi;rw[Dv _ _ _ hi (by omega),<-hs];exact hsc g hg _ (Nat.mod_lt _ h0)
 cases z with
 |ints n=>exact⟨by simp[Uy,Z.size],hsc' _ rfl⟩
 |scl l=>
  refine⟨by simp[Uy,Z.size],fun i hi=>?_⟩;exact hsc' _ rfl i hi
 |vl l=>
  have hl:l.length=(Z.vl l).size:=rfl;refine VRL.of_at (by rw[Zad l _ hl];simp[Uy]) fun i x u hx hu=>?_
  rw[j8 l _ hl]at hx;split at hx
  ·rename_i hi;rw[ZbS,Dv _ _ _ hi (by omega),<-hs]at hu;obtain⟨u',hu',hr⟩:=VRL.at hvc _ x hx;rw[ZbS]at hu';rw[hu']at hu;injection hu with hu
   subst hu;exact hr
  simp at hx
 |one v'=>
  have key:(∀ y,v'≠.s y)->VRL ι (List.replicate len v') (Kt v.cells (len*(Z.one v').size)).toList:=by
   intro _;refine VRL.of_at (by simp[Uy,Z.size]) fun i x u hx hu=>?_
   rw[List.getElem?_replicate]at hx;split at hx
   ·rename_i hi;injection hx with hx
    subst hx;rw[ZbS,Dv _ _ _ (by simpa[Z.size] using hi) (by omega),<-hs]at hu;simp only[Z.size,Nat.mod_one]at hu;obtain⟨u',hu',hr⟩:=VRL.at hvc 0 v' (by simp[Z.vc]);rw[ZbS]at hu';rw[hu']at hu;injection hu with hu
    subst hu;exact hr
   simp at hx
  cases v' with
  |s x=>exact⟨by simp[Uy,Z.size],fun i hi=>hsc' _ rfl i (by simpa[Z.size] using hi)⟩
  |_=>exact key (fun y=>by simp)
def qW{z:Nat}:∀ {l:List (Nat×Operand)} {ps:List (Nat×O)},JP l=some ps->VH (fun i=>some (i*z,z)) l (ps.map fun p=>(p.1*z,z,p.2))
 |[],ps,h=>by simp[JP]at h;subst h;simp[VH]
 |(i,x)::r,ps,h=>by
  unfold JP at h;split at h
  ·rename_i o q h1 h2;injection h with h
   subst h;exact⟨_,_,o,_,rfl,rfl,h1,qW h2⟩
  simp at h
def p6{ι:Inj}{e:Env}{a:Act}(hE:EnvR ι e a.tmps){place:Nat->Option (Nat×Nat)}{l:List (Nat×Operand)}{ps:List (Nat×Nat×O)}{b b':Blk}{cs:Array Value}
  (hp:VH place l ps) (hb:Ws e b ps=some b') (hc:CellsR ι b cs):∃ cs',Instr.fill place cs (l.map fun p=>(p.1,a.eval p.2))=some cs'/\CellsR ι b' cs'/\cs'.size=cs.size:=by
 unfold Ws at hb
 split at hb
 ·rename_i m n g;split at hb
  ·rename_i hin;split at hb
   ·rename_i h hh;injection hb with hb
    subst hb;obtain⟨cs',e1,e2,e3⟩:=wN hE hp hin hh hc.1 hc.2;exact⟨cs',e1,⟨e2,e3⟩,by rw[e2,hc.1]⟩
   simp at hb
  simp at hb
 ·rename_i m l';simp only[ZbK]at hb;obtain⟨r,hr,rfl⟩:=hb;obtain⟨cs',e1,e2⟩:=w0 hE hp hr hc;refine⟨cs',e1,e2,?_⟩;have h1:=VRL.length hc;have h2:=VRL.length e2;have h3:∀ (ps:List (Nat×Nat×O)) (l r:List V),Ql e ps l=some r->r.length=l.length:=by
   intro ps;induction ps with
   |nil=>intro l r h;simp[Ql]at h;subst h;rfl
   |cons p ps ih=>
    intro l r h;obtain⟨off,n,x⟩:=p;simp only[Ql]at h;split at h
    ·rename_i c hcc;split at h
     ·rename_i hle;rw[ih _ _ h];have hcl:c.length=n:=by
       unfold V.vcells at hcc;split at hcc
       ·split at hcc
        ·rename_i e;injection hcc with hcc;subst hcc;simp
        simp at hcc
       ·split at hcc
        ·rename_i e;injection hcc with hcc;subst hcc;exact e
        simp at hcc
       split at hcc
       ·rename_i e;simp only[Zca,Zcu]at e;injection hcc with hcc;subst hcc;simp[e.2]
       simp at hcc
      simp only[Zb2,Zcb,List.length_drop,hcl];omega
     simp at h
    simp at h
  have:=h3 _ _ _ hr;simp only[Zb0]at h1 h2;omega
 simp at hb
def sG[Bas]{P:Program}{run:Runner}{t el:TypeId}{len n:Nat}{z:Z}{parts:Array (Nat×Operand)}{ps:List (Nat×O)}(ht:P.underlying t=some (.slice el))(hs:Xz P el=some n)(hz:Wu P el=some z)(hp:JP parts.toList=some ps)(hn:z.size=n/\n≠0/\len*n<=2 ^ 24) :
  VO P run (.buildSlice t len parts) (.mksl len n z ps):=by
 intro ι σ W e a x σ' o ho hE hR hv hnone
 obtain⟨hn1,hn2,hn3⟩:=hn
 simp only[YK,ZbK]at hv
 obtain⟨b,hb,hv⟩:=hv
 injection hv with h1 h2
 subst h1;subst h2
 obtain⟨v,hzv,hrun⟩:=Vq hz
 have hrow:=row_R (ι:=ι) hzv (by omega) len
 obtain⟨cs,e1,e2,e3⟩:=p6 hE (qW (z:=n) hp) hb hrow
 have hn0:=hnone σ.length (Zcs _) (by simp)
 rw[Uy,hn1]at e3
 refine⟨.slice (some ⟨W.heap.size,0,none⟩) len len,_,_,?_,zM hR hn0 cs el b 0 e2 (sd hb (zrow_ty z len el)),?_⟩
 ·exact⟨_,len,Inj.put_same _ _ _,by simp[e3],rfl,rfl,Zcs _,by simp[e3]⟩
 have hz0:∀ q:Array Value,len*n=0->((Array.range (len*n)).map fun i=>q[i%q.size]!)=((Array.range (len*n)).map fun i=>v.cells[i%v.cells.size]!):=by
  intro q h;rw[h];simp
 by_cases hl0:len*n=0
 ·have hfill:Instr.fill (fun i=>some (i*n,n)) ((Array.range (len*n)).map fun i=>(#[]:Array Value)[i%(#[]:Array Value).size]!) (parts.map fun p=>(p.1,a.eval p.2)).toList=some cs:=by
   rw[hz0 #[] hl0];have:(parts.map fun p=>(p.1,a.eval p.2)).toList=parts.toList.map fun p=>(p.1,a.eval p.2):=by simp
   rw[this];rw[hn1]at e1;exact e1
  simp only[execOp,ho,Instr.buildSlice,Sem.run_bind,run_underlying ht W,Result.andThen_ok,X6 hs W];rw[Zcz (by omega),ZcA hl0];simp only[Sem.run_bind,Sem.run_pure,Result.andThen_ok];rw[hfill];simp[newRow]
 have hfill:Instr.fill (fun i=>some (i*n,n)) ((Array.range (len*n)).map fun i=>v.cells[i%v.cells.size]!) (parts.map fun p=>(p.1,a.eval p.2)).toList=some cs:=by
  have:(parts.map fun p=>(p.1,a.eval p.2)).toList=parts.toList.map fun p=>(p.1,a.eval p.2):=by simp
  rw[this];rw[hn1]at e1;exact e1
 simp only[execOp,ho,Instr.buildSlice,Sem.run_bind,run_underlying ht W,Result.andThen_ok,X6 hs W];rw[Zcz (by omega),Zcz hl0];simp only[Sem.run_bind,hrun W,Sem.run_pure,Result.andThen_ok];rw[hfill];simp[newRow]
def uz[Bas]{P:Program}{run:Runner}{t:TypeId}:VO P run (.makeMap t none) .mkmap:=by
 intro ι σ W e a x σ' o ho hE hR hv hnone;simp only[YK,Zb4,Zcn]at hv;obtain⟨rfl,rfl⟩:=hv;have hn0:=hnone σ.length (Zcs _) (by simp);refine⟨.map (some W.heap.size),_,_,⟨_,Inj.put_same _ _ _,rfl⟩,TC hR hn0 (.map #[] 0) (.mp .var []) ⟨W.heap.size,0,0,0,0⟩ rfl ?_,?_⟩
 ·exact⟨#[],0,WN W _,by simp[MR],Stamps.nil⟩
 simp[execOp,ho,Instr.makeMap]
end Go.Am
namespace Go.Am
open Go
def xR:∀ (ns:List Int) (r:ByteArray),ns.foldl (fun r n=>r.push (UInt8.ofNat n.toNat)) r=⟨(r.data.toList++ns.map fun n=>UInt8.ofNat n.toNat).toArray⟩
 |[],r=>by obtain⟨d⟩:=r;simp
 |n::ns,r=>by
  rw[List.foldl_cons,xR ns];obtain⟨d⟩:=r;simp[ByteArray.push]
def o8[Bas]{P:Program}{run:Runner}{s d el:TypeId}{x:Operand}{x':O}(hs:P.underlying s=some (.slice el))(hd:P.underlying d=some .string)(he:P.underlying el=some (.int .u8))(hx:opd x=some x'):VO P run (.convert s d x) (.b2s x'):=by
 intro ι σ W e a z σ' o ho hE hR hv hnone;have rx:=Y9 hx hE;have hrun:∀ ad n c,a.eval x=.slice ad n c->(execOp a.eval o).run P W=((Conv.bytesToString (.slice ad n c)).run P W).andThen fun v w=>.ok (.value v) w:=by
  intro ad n c h;simp[execOp,ho,h,convert,run_underlying hs W,run_underlying hd W,run_underlying he W]
 simp only[YK]at hv;split at hv
 ·rename_i b off n z' m hb;rw[hb]at rx;simp only[VR]at rx;obtain⟨p,c,hp,hl,rx,_⟩:=rx;split at hv
  ·rename_i m' n' g hblk;split at hv
   ·rename_i hz;subst hz
    cases hall:Xp n fun i=>Jh (g (off+i))
    ·simp[hall]at hv
    simp only[hall,cond_true,Zb4,Zcn]at hv;obtain⟨rfl,rfl⟩:=hv;have hcell:=rz hR hp hblk (o:=off) (k:=n) (by omega);have hld:=run_loadCells (P:=P) W ⟨p.c,p.base+off,none⟩ n (fun j=>(g (off+j)).val) hcell;let ns:List Int:=(List.range n).map fun j=>match g (off+j) with
     |.int _ q=>q
     |_=>0
    have hmap:(List.range n).map (fun j=>(g (off+j)).val)=ns.map (Value.int .u8):=by
     simp only[ns,List.map_map];apply List.map_congr_left;intro j hj;have:=allB_iff.1 hall j (Zck.1 hj);unfold Jh at this;split at this
     ·rename_i q hq;simp[hq,S.val]
     simp at this
    rw[hmap]at hld;refine⟨_,W,ι,rfl,QPost.refl hR,?_⟩;rw[hrun _ _ _ rx,run_bytesToString (P:=P) W _ n c ns hld];simp only[Result.andThen_ok,S.val];congr 3;rw[xR];have he:ByteArray.empty.data.toList=[]:=rfl;rw[he,List.nil_append];congr 2;simp only[ns,List.map_map];apply List.map_congr_left;intro j hj;have:=allB_iff.1 hall j (Zck.1 hj);unfold Jh at this;split at this
    ·rename_i q hq;simp[hq,byteOf]
    simp at this
   simp at hv
  simp at hv
 ·rename_i hb;rw[hb]at rx;simp only[VR]at rx;injection hv with hv
  injection hv with h1 h2
  subst h1;subst h2;refine⟨_,W,ι,rfl,QPost.refl hR,?_⟩;rw[hrun _ _ _ rx];simp[Conv.bytesToString,S.val,ByteArray.empty,ByteArray.emptyWithCapacity];rfl
 simp at hv
def zv_R{ι:Inj}{v:Value}{z:Z}(h:Ue v=some z):VR ι z.v v:=by
 have hs:=Vu h;have hsc:=fun g hg=>Ek (g:=g) h hg
 have hvc:=Er (ι:=ι) h;have hagg:(∃ cs,v=.agg cs)\/∃ x,z=.one x/\K9 v=some x:=by
  unfold Ue at h;split at h
  ·exact .inl ⟨_,rfl⟩
  simp only[ZbK]at h;obtain⟨x,hx,rfl⟩:=h;exact .inr ⟨x,rfl,hx⟩
 rcases hagg with⟨cs,rfl⟩|⟨x,rfl,hx⟩
 ·cases z with
  |ints n=>exact⟨cs,rfl,hs.symm,hsc _ rfl⟩
  |scl l=>exact⟨cs,rfl,hs.symm,hsc _ rfl⟩
  |vl l=>exact⟨cs.toList,by simp,hvc⟩
  |one x=>
   exfalso;unfold Ue at h;simp only at h;split at h
   ·simp at h
   split at h
   ·split at h <;> simp at h
   simp at h
 exact JY hx ι
def E5{k0:IntKind}{j k:S}(h:j.fits k=true):Instr.sameNow (.int k0) k.val j.val=some (j.eqB k):=by
 obtain⟨kk,x,y,rfl,rfl⟩:=Ea h;simp only[S.val,Instr.sameNow,if_true,S.eqB,Zb4];rw[Zce];simp only[Zcu,Zb7];exact⟨Eq.symm,Eq.symm⟩
def Zd2{ι:Inj}{k0:IntKind}{j:S}:∀ {l:List (S×V)} {es:List MapEntry} (i:Nat),(l.all fun p=>p.1.fits j)=true->MR ι l es ->
  match QT j l with
  |some v=>∃ q u,Instr.findNow (.int k0) j.val es i=some (some (i+q,u))/\VR ι v u
  |none=>Instr.findNow (.int k0) j.val es i=some none
 |[],es,i,_,hm=>by simp only[MR]at hm;subst hm;simp[QT,Instr.findNow]
 |(k,v)::l,es,i,hf,hm=>by
  simp only[MR]at hm;obtain⟨e,r,rfl,hk,hv,hr⟩:=hm;simp only[List.all_cons,Zca]at hf;have hsame:=E5 (k0:=k0) hf.1;rw[<-hk]at hsame;simp only[QT,Instr.findNow,hsame]
  cases hq:k.eqB j
  ·have ih:=Zd2 (k0:=k0) (i+1) hf.2 hr;simp only[cond_false]
   cases hm:QT j l with
   |none=>rw[hm]at ih;exact ih
   |some u=>
    rw[hm]at ih;obtain⟨q,u',h1,h2⟩:=ih;exact⟨q+1,u',by rw[h1];congr 3;omega,h2⟩
  simp only[cond_true];exact⟨0,_,rfl,hv⟩
def Di{P:Program}{t:TypeId}{k:IntKind}(ht:P.underlying t=some (.int k))(b:Bool)(d:Nat)(v:Value)(W:World):(Instr.checkKey b (d+1) t v).run P W=.ok () W:=by
 rw[Instr.checkKey,Sem.run_bind,run_underlying ht W,Result.andThen_ok]
 cases v <;> rfl
def zW{P:Program}{t:TypeId}(h:KK P t=true):∃ k,P.underlying t=some (.int k):=by
 unfold KK at h;split at h
 ·rename_i k hk;exact⟨k,hk⟩
 simp at h
def Qv{P:Program}{W:World}{r:Nat}{es:Array MapEntry}{ck:Nat}(h:W.heap[r]? = some (.map es ck)):(getObj r).run P W=.ok (.map es ck) W:=by
 simp[getObj,Sem.run,h]
def t8[Bas]{P:Program}{run:Runner}{t kt et:TypeId}{z:Z}{ok:Bool}{m k:Operand}{m' k':O}(ht:P.underlying t=some (.map kt et))(hk:KK P kt=true)(hz:Wu P et=some z)(hm:opd m=some m')(hkk:opd k=some k') :
  VO P run (.lookup t m k ok) (.mget z ok m' k'):=by
 intro ι σ W e a x σ' o ho hE hR hv hnone
 have rm:=Y9 hm hE
 have rk:=Y9 hkk hE
 obtain⟨k0,hk0⟩:=zW hk
 obtain⟨zv,hzv,hzrun⟩:=Vq hz
 simp only[YK]at hv
 split at hv
 ·rename_i b j hmv hkv;rw[hmv]at rm;rw[hkv]at rk;simp only[VR]at rm rk;obtain⟨p,hp,rm⟩:=rm;split at hv
  ·rename_i md l hblk;obtain⟨es,ck,hes,hMR,_⟩:=hR.blk b p _ hp hblk
   cases hall:l.all fun p=>p.1.fits j
   ·simp[hall]at hv
   simp only[hall,cond_true]at hv;have hf:=Zd2 (k0:=k0) 0 hall hMR;have hck:=Di (P:=P) hk0 es.isEmpty 9999 j.val W;split at hv
   ·rename_i v hmf;rw[hmf]at hf;obtain⟨q,u,h1,h2⟩:=hf;injection hv with hv
    injection hv with e1 e2
    subst e1;subst e2
    cases ok
    ·refine⟨u,W,ι,h2,QPost.refl hR,?_⟩;simp[execOp,ho,Instr.lookup,run_underlying ht W,rm,rk,Qv hes,hck,Instr.findKey,run_underlying hk0 W,h1]
    refine⟨.tuple #[u,.bool true],W,ι,⟨[u,.bool true],rfl,by simp only[VRL];exact⟨u,_,rfl,h2,_,[],rfl,rfl,rfl⟩⟩,QPost.refl hR,?_⟩;simp[execOp,ho,Instr.lookup,run_underlying ht W,rm,rk,Qv hes,hck,Instr.findKey,run_underlying hk0 W,h1]
   rename_i hmf;rw[hmf]at hf;injection hv with hv
   injection hv with e1 e2
   subst e1;subst e2
   cases ok
   ·refine⟨zv,W,ι,zv_R hzv,QPost.refl hR,?_⟩;simp[execOp,ho,Instr.lookup,run_underlying ht W,rm,rk,Qv hes,hck,Instr.findKey,run_underlying hk0 W,hf,hzrun W]
   refine⟨.tuple #[zv,.bool false],W,ι,⟨[zv,.bool false],rfl,by simp only[VRL];exact⟨zv,_,rfl,zv_R hzv,_,[],rfl,rfl,rfl⟩⟩,QPost.refl hR,?_⟩;simp[execOp,ho,Instr.lookup,run_underlying ht W,rm,rk,Qv hes,hck,Instr.findKey,run_underlying hk0 W,hf,hzrun W]
  simp at hv
 simp at hv
end Go.Am
namespace Go.Am
open Go
def zK[Bas](P:Program)(run:Runner)(op:Op)(i:HIns):Prop :=
 ∀ (ι:Inj) (σ:Heap) (W:World) (e:Env) (a:Act) (x:V) (σ':Heap) (o:Oper),o.op=op->EnvR ι e a.tmps->RelW ι σ W->Dom ι σ->YK run i e σ=some (x,σ') ->
  ∃ r W' ι',Post ι σ W ι' σ' W'/\(execOp a.eval o).run P W=.ok r W'/\(r=.skip/\x=.undef\/∃ v,r=.value v/\VR ι' x v)
def qZ{x:Blk}(h:x.mut=true):x.live=true:=by cases x <;> simp_all [Blk.mut,Blk.live]
def Qw[Bas]{ι:Inj}{σ:Heap}{W W':World}(hR:RelW ι σ W){b:Nat}{p:Place}{x x':Blk}(hp:ι b=some p)(hb:σ[b]? = some x)(hm:x.mut=true)
  (hs:Same W W') (hh:∀ c,c≠p.c->W'.heap[c]? = W.heap[c]?) (hx:BlkR ι W' x' p):Post ι σ W ι (σ.set b x') W':=by
 have hlt:b<σ.length:=by
  rcases Zcr b σ.length with h|h
  ·exact h
  rw[ZbQ h]at hb;simp at hb
 have hmut:∀ c,mutb (σ.set b x') c->mutb σ c:=by
  rintro c ⟨y,hy,hym⟩;by_cases e:b=c
  ·subst e;exact⟨x,hb,hm⟩
  rw[ZbX e]at hy;exact⟨y,hy,hym⟩
 have hlive:∀ c,X9 (σ.set b x') c->X9 σ c:=by
  rintro c ⟨y,hy,hym⟩;by_cases e:b=c
  ·subst e;exact⟨x,hb,qZ hm⟩
  rw[ZbX e]at hy;exact⟨y,hy,hym⟩
 refine⟨hs,.refl ι,⟨fun c q hq=>Zb3 (hR.lt c q hq) hs.size,fun c q y hq hy=>?_,fun c c' q q' hq hq' hne h1 h2=>hR.sep c c' q q' hq hq' hne (hmut c h1) (hlive c' h2),fun c q hq h=>hR.gap c q hq (hmut c h),Zcq hR.bsz hs.size,fun c hc=>(hh c (by have:=hR.gap b p hp ⟨x,hb,hm⟩;omega)).trans (hR.bas c hc)⟩,by simp,fun c _ hc=>?_,fun c q hq hn=>by simp[hq]at hn,fun c _ h=>hmut c h,fun c _ h=>hlive c h⟩
 ·by_cases e:b=c
  ·subst e;rw[hp]at hq;injection hq with hq
   subst hq;rw[ZbL hlt]at hy;injection hy with hy
   subst hy;exact hx
  rw[ZbX e]at hy;have hold:=hR.blk c q y hq hy
  cases hyl:y.live with
  |true=>exact hold.keep (.refl ι) (hh _ (fun hc=>hR.sep b c p q hp hq e ⟨x,hb,hm⟩ ⟨y,hy,hyl⟩ hc.symm))
  |false=>cases y <;> simp[Blk.live]at hyl;trivial
 exact hh c (fun e=>hc b p hp ⟨x,hb,hm⟩ e.symm)
def uc{ι:Inj}{x:V}{v:Value}(ho:x.one=true)(h:VR ι x v):v.oneCell'=true:=by
 cases x <;> simp[V.one]at ho <;> simp only[VR]at h
 ·subst h;rename_i y;cases y <;> rfl
 ·obtain⟨p,_,_,rfl⟩:=h;rfl
 ·subst h;rfl
 ·obtain⟨p,c,_,_,rfl,_⟩:=h;rfl
 ·obtain⟨a,c,rfl⟩:=h;rfl
 ·subst h;rfl
 ·obtain⟨p,_,rfl⟩:=h;rfl
 ·subst h;rfl
 ·obtain⟨cs,rfl,_⟩:=h;rfl
 ·subst h;rfl
 ·obtain⟨u,rfl,_⟩:=h;rfl
 ·subst h;rfl
 obtain⟨u,rfl,_⟩:=h;rfl
def VRL.oneCells{ι:Inj}:∀ {l:List V} {vs:List Value},l.all V.one=true→VRL ι l vs→∀ v∈vs,v.oneCell'=true
 |[],_,_,h,v,hv=>by simp only[VRL]at h;subst h;simp at hv
 |x::l,_,ho,h,v,hv=>by
  simp only[VRL]at h;obtain⟨u,r,rfl,hu,hr⟩:=h;simp only[List.all_cons,Zca]at ho;rcases Zco.1 hv with rfl|hv
  ·exact uc ho.1 hu
  exact VRL.oneCells ho.2 hr v hv
def wrV_R[Bas]{ι:Inj}{σ:Heap}{W:World}(hR:RelW ι σ W){b:Nat}{p:Place}(hp:ι b=some p){o n:Nat}(ho:o+n<=p.n){x:V}{σ':Heap}(hw:wrV σ b o n x=some σ'){v:Value}(hx:VR ι x v) :
  v.cells.size=n/\(∃ W',(∀ P,(storeCells ⟨p.c,p.base+o,none⟩ v.cells.toList).run P W=.ok () W')/\Post ι σ W ι σ' W'):=by
 unfold wrV at hw
 split at hw
 ·rename_i m k g hb;split at hw
  ·rename_i hm;simp only[ZbK]at hw;obtain⟨h,hh,rfl⟩:=hw;obtain⟨c1,c2⟩:=kx hh hx;obtain⟨h1,h2,h3⟩:=hR.blk b p _ hp hb;obtain⟨hb0,hle,cs,T,hcs,hsz⟩:=h3 hm;have hone:∀ u∈v.cells.toList,u.oneCell'=true:=by
    intro u hu;obtain⟨i,hi,rfl⟩:=List.mem_iff_getElem.1 hu;simp only[Zb0]at hi;have hq:=c2 i (by omega);have hq':v.cells[i]=(h i).val:=by rw[ZbG hi]at hq;injection hq
    rw[Array.getElem_toList,hq']
    cases h i <;> rfl
   have hlen:v.cells.toList.length=n:=by simpa using c1
   refine⟨c1,_,fun P=>by rw[hb0,Zcp];exact run_storeCells_at P p.c o T v.cells.toList 0 cs W hcs (by omega) hone,?_⟩;have hheap:=setRow_heap W p.c cs (cs.toList.take (o+0)++v.cells.toList++cs.toList.drop (o+0+v.cells.toList.length)).toArray T (0,0) hcs;refine Qw hR hp hb hm ⟨rfl,rfl,rfl,by simp⟩ (fun c hc=>setRow_other W p.c c _ hc) ⟨h1,fun i hi=>?_,fun _=>⟨hb0,hle,_,T,hheap,?_⟩⟩
   ·have hg:=h2 i hi;rw[cell_of_row W p.c _ cs T (0,0) hcs]at hg;rw[cell_setRow_same W p.c _ cs _ T (0,0) hcs];rw[hb0,Zcp]at hg ⊢;simp only[Nat.add_zero,hlen,List.getElem?_toArray];unfold WE;rw[ke];by_cases hin:o<=i/\i<o+n
    ·rw[Zcl hin,cond_true,Zb5,ZbE (by simp;omega),ZbF (by simp;omega)];simp only[Zcb,Zb0,ZbS];rw[show i-min o cs.size=i-o by omega];exact c2 _ (by omega)
    rw[Zci hin,cond_false];by_cases hlo:i<o
    ·rw[Zb5,ZbF (by simp;omega),List.getElem?_take,ZcA hlo];simpa using hg
    rw[ZbE (by simp;omega),List.getElem?_drop];simp only[Zb2,Zcb,Zb0,ZbS];rw[show o+n+(i-(min o cs.size+v.cells.size))=i by omega];exact hg
   refine⟨?_,hsz.2⟩;have hsz:=hsz.1;simp only[List.size_toArray,Zb2,Zcb,List.length_drop,Zb0];omega
  simp at hw
 ·rename_i m l hb;split at hw
  ·rename_i hm;simp only[ZbI]at hw;obtain⟨c,hc,hw⟩:=hw;split at hw
   ·rename_i hle2;injection hw with hw
    subst hw;obtain⟨c1,c2⟩:=jV hc hx;obtain⟨h1,h2,h3⟩:=hR.blk b p _ hp hb;obtain⟨hb0,hle,cs,T,hcs,hsz⟩:=h3 hm;have hone:=VRL.oneCells hle2.2 c2;have hlen:v.cells.toList.length=n:=by simpa using c1
    have hcl:c.length=n:=by rw[VRL.length c2];exact hlen
    refine⟨c1,_,fun P=>by rw[hb0,Zcp];exact run_storeCells_at P p.c o T v.cells.toList 0 cs W hcs (by omega) hone,?_⟩;have hheap:=setRow_heap W p.c cs (cs.toList.take (o+0)++v.cells.toList++cs.toList.drop (o+0+v.cells.toList.length)).toArray T (0,0) hcs;refine Qw hR hp hb hm ⟨rfl,rfl,rfl,by simp⟩ (fun c hc=>setRow_other W p.c c _ hc) ⟨?_,fun i y hy=>?_,fun _=>⟨hb0,hle,_,T,hheap,?_⟩⟩
    ·simp only[Zb2,Zcb,List.length_drop];omega
    ·rw[cell_setRow_same W p.c _ cs _ T (0,0) hcs,hb0,Zcp];simp only[Nat.add_zero,hlen,List.getElem?_toArray];by_cases hin:o<=i/\i<o+n
     ·rw[Zb5,ZbE (by simp;omega),ZbF (by simp;omega)]at hy ⊢;simp only[Zcb,Zb0]at hy ⊢;rw[show i-min o cs.size=i-o by omega];rw[show i-min o l.length=i-o by omega]at hy;exact VRL.at c2 _ _ hy
     by_cases hlo:i<o
     ·rw[Zb5,ZbF (by simp;omega),List.getElem?_take,ZcA hlo]at hy ⊢;obtain⟨u,hu,hr⟩:=h2 i y hy;rw[cell_of_row W p.c _ cs T (0,0) hcs,hb0,Zcp]at hu;exact⟨u,by simpa using hu,hr⟩
     rw[ZbE (by simp;omega),List.getElem?_drop]at hy ⊢;simp only[Zb2,Zcb,Zb0,ZbS]at hy ⊢;rw[show o+n+(i-(min o l.length+c.length))=i by omega]at hy;rw[show o+n+(i-(min o cs.size+v.cells.size))=i by omega];obtain⟨u,hu,hr⟩:=h2 i y hy;rw[cell_of_row W p.c _ cs T (0,0) hcs,hb0,Zcp]at hu;exact⟨u,hu,hr⟩
    refine⟨?_,hsz.2⟩;have hsz:=hsz.1;simp only[List.size_toArray,Zb2,Zcb,List.length_drop,Zb0];omega
   simp at hw
  simp at hw
 simp at hw
def oC[Bas]{P:Program}{run:Runner}{t:TypeId}{n:Nat}{x y:Operand}{x' y':O}(hs:Xz P t=some n)(hx:opd x=some x')(hy:opd y=some y'):zK P run (.store t x y) (.store n x' y'):=by
 intro ι σ W e a z σ' o ho hE hR hD hv;have rx:=Y9 hx hE;have ry:=Y9 hy hE;simp only[YK]at hv;split at hv
 ·rename_i b off z' hb;rw[hb]at rx;simp only[VR]at rx;obtain⟨p,hp,hl,rx⟩:=rx;split at hv
  ·rename_i hle;simp only[ZbK]at hv;obtain⟨σ1,hw,hv⟩:=hv;injection hv with h1 h2
   subst h1;subst h2;obtain⟨c1,W',hrun,hpost⟩:=wrV_R hR hp (o:=off) (n:=n) (by omega) hw ry;refine⟨.skip,W',ι,hpost,?_,.inl ⟨rfl,rfl⟩⟩;simp[execOp,ho,rx,Instr.storeAt,Instr.sureAddr,storeVar,X6 hs W,c1,hrun P]
  simp at hv
 simp at hv
end Go.Am
namespace Go.Am
open Go
def fits_eq{k j:S}(h:k.fits j=true)(he:k.eqB j=true):k.val=j.val:=by
 obtain⟨kk,x,y,rfl,rfl⟩:=Ea h;have:=of_decide_eq_true he;subst this;rfl
def pr{ι:Inj}{k0:IntKind}{j:S}{v:V}{u:Value}(hv:VR ι v u)(ck:Nat):∀ {l:List (S×V)} {es:List MapEntry} (i:Nat),(l.all fun p=>p.1.fits j)=true->MR ι l es ->
  (Instr.findNow (.int k0) j.val es i=some none/\MR ι (mput j v l) (es++[⟨j.val,u,ck⟩])) \/
  (∃ q w e,Instr.findNow (.int k0) j.val es i=some (some (i+q,w))/\es[q]? = some e/\e.key=j.val/\MR ι (mput j v l) (es.modify q fun e=>{ e with key:=j.val,val:=u }))
 |[],es,i,_,hm=>by
  simp only[MR]at hm;subst hm;exact .inl ⟨rfl,_,[],rfl,rfl,hv,rfl⟩
 |(k,x)::l,es,i,hf,hm=>by
  simp only[MR]at hm;obtain⟨e,r,rfl,hk,hx,hr⟩:=hm;simp only[List.all_cons,Zca]at hf;have hsame:=E5 (k0:=k0) hf.1;rw[<-hk]at hsame;simp only[Instr.findNow,hsame,mput]
  cases hq:k.eqB j
  ·simp only[cond_false];rcases pr (k0:=k0) hv ck (i+1) hf.2 hr with⟨h1,h2⟩|⟨q,w,e',h1,h2,h3,h4⟩
   ·refine .inl ⟨h1,?_⟩;rw[List.cons_append];exact⟨e,_,rfl,hk,hx,h2⟩
   refine .inr ⟨q+1,w,e',by rw[h1];congr 3;omega,by simpa using h2,h3,?_⟩;rw[List.modify_succ_cons];exact⟨e,_,rfl,hk,hx,h4⟩
  simp only[cond_true];have hkj:=fits_eq hf.1 hq;refine .inr ⟨0,_,e,rfl,rfl,by rw[hk,hkj],?_⟩;rw[List.modify_zero_cons];exact⟨_,r,rfl,hkj.symm,hv,hr⟩
def xG{P:Program}{W:World}{r:Nat}{es:Array MapEntry}{ck:Nat}(h:W.heap[r]? = some (.map es ck))(o:Obj):(setObj r o).run P W=.ok () { W with heap:=W.heap.setIfInBounds r o }:=by
 simp[setObj,Sem.run,h]
def kA{P:Program}{W:World}{j:S}(h:j.fits j=true):(Instr.keyThatStays j.val j.val).run P W=.ok j.val W:=by
 obtain⟨k,x,y,h1,h2⟩:=Ea h;rw[h1];simp[Instr.keyThatStays,S.val,Instr.sameBits]
def jh[Bas]{P:Program}{t kt et:TypeId}{k0:IntKind}(ht:P.underlying t=some (.map kt et))(hk0:P.underlying kt=some (.int k0)){ι:Inj}{σ:Heap}{W:World}(hR:RelW ι σ W){b:Nat}{p:Place}(hp:ι b=some p){md:Md}{l:List (S×V)}(hb:σ[b]? = some (.mp md l))(hmd:md.mut=true){j:S}(hall:(l.all fun p=>p.1.fits j)=true)(hjj:j.fits j=true){v:V}{u:Value}(hv:VR ι v u) :
  ∃ W',(Instr.mapUpdate t (.map (some p.c)) j.val u).run P W=.ok () W'/\Post ι σ W ι (σ.set b (.mp md (mput j v l))) W':=by
 obtain⟨es,ck,hes,hMR,hst⟩:=hR.blk b p _ hp hb
 have hlt:p.c<W.heap.size:=hR.lt b p hp
 have hck:=Di (P:=P) hk0 false 9999 j.val W
 have hpost:∀ es' ck',MR ι (mput j v l) es'.toList->Stamps es'.toList ck'->Post ι σ W ι (σ.set b (.mp md (mput j v l))) { W with heap:=W.heap.setIfInBounds p.c (.map es' ck') }:=by
  intro es' ck' hm hs;refine Qw hR hp hb hmd ⟨rfl,rfl,rfl,by simp⟩ (fun c hc=>by simp[Ne.symm hc]) ⟨es',ck',by simp[hlt],hm,hs⟩
 rcases pr (k0:=k0) hv ck 0 hall hMR with⟨h1,h2⟩|⟨q,w,e,h1,h2,h3,h4⟩
 ·refine⟨_,?_,hpost (es.push ⟨j.val,u,ck⟩) (ck+1) (by simpa using h2) (by simpa using hst.push j.val u)⟩;simp[Instr.mapUpdate,run_underlying ht W,Qv hes,hck,Instr.findKey,run_underlying hk0 W,h1,xG hes]
 refine⟨_,?_,hpost (es.modify q fun e=>{ e with key:=j.val,val:=u }) ck (by rw[Array.toList_modify];exact h4) (by rw[Array.toList_modify];exact hst.modify q j.val u)⟩;have h2':es[q]? = some e:=by simpa using h2
 rw[Zcp]at h1;simp[Instr.mapUpdate,run_underlying ht W,Qv hes,hck,Instr.findKey,run_underlying hk0 W,h1,h2',h3,kA hjj,xG hes]
def kQ[Bas]{P:Program}{run:Runner}{op:Op}{t kt et:TypeId}{m k v:Operand}{m' k' v':O}(hop:op=.insert t m k v\/op=.mapUpdate t m k v)(ht:P.underlying t=some (.map kt et))(hk:KK P kt=true)(hm:opd m=some m')(hkk:opd k=some k')(hvv:opd v=some v') :
  zK P run op (.mput m' k' v'):=by
 intro ι σ W e a z σ' o ho hE hR hD hv
 have rm:=Y9 hm hE
 have rk:=Y9 hkk hE
 have rv:=Y9 hvv hE
 obtain⟨k0,hk0⟩:=zW hk
 simp only[YK]at hv
 split at hv
 ·rename_i b j hmv hkv;rw[hmv]at rm;rw[hkv]at rk;simp only[VR]at rm rk;obtain⟨p,hp,rm⟩:=rm;split at hv
  ·rename_i md l hblk;split at hv
   ·rename_i hmd
    cases hall:(l.all fun p=>p.1.fits j)&&j.fits j
    ·simp[hall]at hv
    simp only[hall,cond_true,Zb4,Zcn]at hv;obtain⟨rfl,rfl⟩:=hv;simp only[Zca]at hall;obtain⟨W',hrun,hpost⟩:=jh ht hk0 hR hp hblk hmd hall.1 hall.2 rv;refine⟨.skip,W',ι,hpost,?_,.inl ⟨rfl,rfl⟩⟩;rcases hop with rfl|rfl <;> simp[execOp,ho,rm,rk,hrun]
   simp at hv
  simp at hv
 simp at hv
def Rd(ι:Inj)(r:Src)(k:Nat)(news:List Value):Prop :=
 match r with
 |.sc g=>∀ j,j<k->news[j]? = some (g j).val
 |.vs l=>VRL ι l news
def src_R[Bas]{ι:Inj}{σ:Heap}{W:World}(hR:RelW ι σ W){z:Nat}{x:V}{m:Nat}{r:Src}(h:Vf σ z x=some (m,r)){v:Value}(hx:VR ι x v) :
  (v=.slice none 0 0/\m=0/\r=.sc fun _=>S.zero) \/
  ∃ ad c,v=.slice (some ad) m c∧∃ news:List Value,news.length=m*z∧(∀ j u,news[j]? = some u→W.cell? (ad.add j)=some u)∧Rd ι r (m*z) news∧∀ u∈news,u.oneCell'=true:=by
 unfold Vf at h
 split at h
 ·injection h with h;injection h with h1 h2;subst h1;subst h2
  simp only[VR]at hx;exact .inl ⟨hx,rfl,rfl⟩
 ·injection h with h;injection h with h1 h2;subst h1;subst h2
  simp only[VR]at hx;obtain⟨a,c,rfl⟩:=hx;exact .inr ⟨a,c,rfl,[],by simp,by simp,by simp[Rd],by simp⟩
 ·rename_i b o m' z' md;split at h
  ·rename_i hz;subst hz;simp only[VR]at hx;obtain⟨p,c,hp,hl,rfl,_⟩:=hx;split at h
   ·rename_i g hb;injection h with h;injection h with h1 h2;subst h1;subst h2
    have hr:=rz hR hp hb (o:=o) (k:=m'*z) hl;refine .inr ⟨_,c,rfl,(List.range (m'*z)).map fun j=>(g (o+j)).val,by simp,fun j u hu=>?_,fun j hj=>by simp[hj],fun u hu=>?_⟩
    ·rw[Zb9]at hu;by_cases hj:j<m'*z
     ·rw[ZbZ hj]at hu;simp at hu;subst hu;exact hr j hj
     rw[ZbQ (by simp;omega)]at hu;simp at hu
    obtain⟨j,_,rfl⟩:=List.mem_map.1 hu
    cases g (o+j) <;> rfl
   ·rename_i l hb;split at h
    ·rename_i hle;injection h with h;injection h with h1 h2;subst h1;subst h2
     obtain⟨vs,h1,h2,h3⟩:=rd_vs hR hp hb hle.1;exact .inr ⟨_,c,rfl,vs,h1,h3,h2,VRL.oneCells hle.2 h2⟩
    simp at h
   simp at h
  simp at h
 simp at h
def xT{ι:Inj}{W:World}{n m:Nat}{a b:Src}{x:Blk}(h:W5 n m a b=some x){olds news:List Value}(h1:Rd ι a n olds)(h2:Rd ι b m news)(l1:olds.length=n)(l2:news.length=m)
  {p:Place} {cs:Array Value} {T:TypeId} (hw:W.heap[p.c]? = some (.cells cs T (0,0))) (hb:p.base=0) (hn:p.n=n+m) (hs:p.sz=cs.size) (hle:n+m<=cs.size) (hc:∀ i,i<n+m->cs[i]? = (olds++news)[i]?):BlkR ι W x p/\x.mut=true:=by
 have hcell:∀ i,W.cell? ⟨p.c,p.base+i,none⟩=cs[i]?:=fun i=>by simp[World.cell?,hw,hb]
 have hown:Own .grow W p:=fun _=>⟨hb,by omega,cs,T,hw,hs.symm,trivial⟩
 have vsCase:∀ l:List V,VRL ι l (olds++news)->BlkR ι W (.vs .grow l) p:=by
  intro l hl;have hll:=VRL.length hl;simp only[Zb2]at hll;refine⟨by omega,fun i y hy=>?_,hown⟩;obtain⟨u,hu,hr⟩:=VRL.at hl i y hy;have hi:i<n+m:=by
   rcases Zcr i (n+m) with q|q
   ·exact q
   rw[ZbQ (by omega)]at hy;simp at hy
  exact⟨u,by rw[hcell,hc i hi];exact hu,hr⟩
 unfold W5 at h
 split at h
 ·rename_i g k;injection h with h
  subst h;refine⟨⟨hn.symm,fun i hi=>?_,hown⟩,rfl⟩;rw[hcell,hc i hi];show(olds++news)[i]? = some (bif Nat.blt i n then g i else k (i-n)).val
  cases hlt:Nat.blt i n
  ·have:¬ i<n:=fun q=>by rw[<-Nat.blt_eq]at q;rw[q]at hlt;simp at hlt
   rw[cond_false,ZbE (by omega),l1];exact h2 _ (by omega)
  rw[Nat.blt_eq]at hlt;rw[cond_true,ZbF (by omega)];exact h1 i hlt
 ·rename_i l r;split at h
  ·injection h with h
   subst h;exact⟨vsCase _ (VRL.append h1 h2),rfl⟩
  simp at h
 ·rename_i k;split at h
  ·rename_i hz;injection h with h
   subst h;subst hz;have:olds=[]:=List.eq_nil_of_length_eq_zero l1;subst this;refine⟨⟨by omega,fun i hi=>?_,hown⟩,rfl⟩;rw[hcell,hc i (by omega),List.nil_append];exact h2 i hi
  simp at h
 ·rename_i g;split at h
  ·rename_i hz;injection h with h
   subst h;subst hz;have:news=[]:=List.eq_nil_of_length_eq_zero l2;subst this;refine⟨⟨by omega,fun i hi=>?_,hown⟩,rfl⟩;rw[hcell,hc i (by omega),Zcf];exact h1 i hi
  simp at h
 simp at h
def ES{σ:Heap}{b:Nat}{nb:Blk}{c:Nat}(hc:c<σ.length)(h:mutb (wf σ b++[nb]) c):mutb σ c/\c≠b:=by
 obtain⟨y,hy,hm⟩:=h;unfold wf at hy;rw[ZbF (by simpa using hc)]at hy;by_cases e:b=c
 ·subst e;rw[ZbL hc]at hy;injection hy with hy
  subst hy;simp[Blk.mut]at hm
 rw[ZbX e]at hy;exact⟨⟨y,hy,hm⟩,fun q=>e q.symm⟩
def Dc{σ:Heap}{b:Nat}{nb:Blk}{c:Nat}(hc:c<σ.length)(h:X9 (wf σ b++[nb]) c):X9 σ c/\c≠b:=by
 obtain⟨y,hy,hm⟩:=h;unfold wf at hy;rw[ZbF (by simpa using hc)]at hy;by_cases e:b=c
 ·subst e;rw[ZbL hc]at hy;injection hy with hy
  subst hy;simp[Blk.live]at hm
 rw[ZbX e]at hy;exact⟨⟨y,hy,hm⟩,fun q=>e q.symm⟩
def TH[Bas]{ι:Inj}{σ:Heap}{W W':World}(hR:RelW ι σ W)(hD:Dom ι σ){b:Nat}{p q:Place}{x nb:Blk}(hp:ι b=some p)(hb:σ[b]? = some x)(hm:x.mut=true)
  (hs:Same W W') (hh:∀ c,c<W.heap.size->c≠p.c->W'.heap[c]? = W.heap[c]?) (hq:q.c=p.c\/W.heap.size<=q.c) (hq2:q.c<W'.heap.size) (hx:BlkR (ι.put σ.length q) W' nb q) :
  Post ι σ W (ι.put σ.length q) (wf σ b++[nb]) W':=by
 have hn:ι σ.length=none:=by
  cases h:ι σ.length with
  |none=>rfl
  |some r=>exact absurd (hD _ _ h) (Nat.lt_irrefl _)
 have hext:=Inj.put_ext q hn
 have hblt:=hD b p hp
 have hput:∀ c r,ι.put σ.length q c=some r->(c=σ.length/\r=q)\/(c≠σ.length/\ι c=some r):=by
  intro c r h;unfold Inj.put at h;split at h
  ·rename_i e;injection h with h;exact .inl ⟨e,h.symm⟩
  rename_i e;exact .inr ⟨e,h⟩
 have hqc:∀ c r,ι c=some r->c≠b->X9 σ c->q.c≠r.c:=by
  intro c r hc hne hl e;rcases hq with h|h
  ·exact hR.sep b c p r hp hc (Ne.symm hne) ⟨x,hb,hm⟩ hl (by rw[<-h,e])
  have:=hR.lt c r hc;omega
 refine⟨hs,hext,⟨fun c r hr=>?_,fun c r y hr hy=>?_,fun c c' r r' hr hr' hne h1 h2=>?_,fun c r hr h1=>?_,Zcq hR.bsz hs.size,fun c hc=>(hh c (Zb3 hc hR.bsz) (by have:=hR.gap b p hp ⟨x,hb,hm⟩;omega)).trans (hR.bas c hc)⟩,by simp[wf],fun c hc hm'=>?_,fun c r hr hnone=>?_,fun c hc h=>(ES hc h).1,fun c hc h=>(Dc hc h).1⟩
 ·rcases hput c r hr with⟨_,rfl⟩|⟨_,h⟩
  ·exact hq2
  exact Zb3 (hR.lt c r h) hs.size
 ·rcases hput c r hr with⟨rfl,rfl⟩|⟨hne,h⟩
  ·have:y=nb:=by
    rw[ZbE (by simp[wf])]at hy;simpa[wf] using hy.symm
   subst this;exact hx
  have hclt:=hD c r h;rw[ZbF (by simpa[wf] using hclt)]at hy;unfold wf at hy;by_cases e:b=c
  ·subst e;rw[ZbL hblt]at hy;injection hy with hy
   subst hy;trivial
  rw[ZbX e]at hy
  cases hyl:y.live with
  |true=>exact(hR.blk c r y h hy).keep hext (hh _ (hR.lt c r h) (fun hc=>hR.sep b c p r hp h e ⟨x,hb,hm⟩ ⟨y,hy,hyl⟩ hc.symm))
  |false=>cases y <;> simp[Blk.live]at hyl;trivial
 ·rcases hput c r hr with⟨rfl,rfl⟩|⟨hn1,g1⟩ <;> rcases hput c' r' hr' with⟨e2,rfl⟩|⟨hn2,g2⟩
  ·exact absurd e2.symm hne
  ·have:=Dc (hD c' r' g2) h2;exact hqc c' r' g2 this.2 this.1
  ·subst e2;have:=ES (hD c r g1) h1;exact fun e=>hqc c r g1 this.2 this.1.live e.symm
  have a1:=ES (hD c r g1) h1;have a2:=Dc (hD c' r' g2) h2;exact hR.sep c c' r r' g1 g2 hne a1.1 a2.1
 ·rcases hput c r hr with⟨rfl,rfl⟩|⟨_,h⟩
  ·rcases hq with h|h
   ·rw[h];exact hR.gap b p hp ⟨x,hb,hm⟩
   exact Zcq hR.bsz h
  exact hR.gap c r h (ES (hD c r h) h1).1
 ·exact hh c hc (fun e=>hm' b p hp ⟨x,hb,hm⟩ e.symm)
 rcases hput c r hr with⟨rfl,rfl⟩|⟨_,h⟩
 ·refine⟨⟨Zcs _,by simp[wf]⟩,?_⟩;rcases hq with h|h
  ·exact .inr ⟨b,p,hp,⟨x,hb,hm⟩,h.symm⟩
  exact .inl h
 rw[h]at hnone;simp at hnone
end Go.Am
namespace Go.Am
open Go
def QPost.ofDrew[Bas]{ι:Inj}{σ:Heap}{W:World}{ι':Inj}{σ':Heap}{W':World}(h:QPost ι σ W.drew ι' σ' W'):QPost ι σ W ι' σ' W' :=
 ⟨⟨h.same.os,h.same.tape,h.same.output,h.same.size⟩,h.ext,h.rel,h.pre,h.frame,h.fresh⟩
def RelW.toDrew[Bas]{ι:Inj}{σ:Heap}{W:World}(h:RelW ι σ W):RelW ι σ W.drew :=
 ⟨h.lt,fun b p x hp hx=>by
  have:=h.blk b p x hp hx;exact this.keep (.refl ι) rfl,h.sep,h.gap,h.bsz,h.bas⟩
def vU{P:Program}(W:World)(t ty e:TypeId)(i:TypeInfo)(ht:P.underlying t=some (.slice e))(hi:P.info? e=some i)
  (g off sLen sCap:Nat) (x:Value) (m:Nat) (news:List Value) (W':World) (hx:(Builtin.lenOf x).run P W=.ok m W) (hf:(Builtin.firstCells i.size m x).run P W=.ok news.toArray W)
  (hroom:sLen+m<=sCap) (hst:(storeCells ⟨g,off+sLen*i.size,none⟩ news).run P W=.ok () W') :
  (Builtin.append_ #[t,t] ty #[.slice (some ⟨g,off,none⟩) sLen sCap,x]).run P W=.ok (.slice (some ⟨g,off,none⟩) (sLen+m) sCap) W':=by
 simp[Builtin.append_,run_underlying ht,sizeOf,typeInfo,hi,hx,hroom,hf,VN,hst]
def ym{P:Program}(W:World)(t ty e:TypeId)(i:TypeInfo)(z:Value)(ht:P.underlying t=some (.slice e))(hi:P.info? e=some i)(hz:i.zero=some z)
  (s x:Value) (sLen sCap m:Nat) (olds news:List Value) (hs:∃ b,s=.slice b sLen sCap) (hfo:∀ W':World,W'.heap=W.heap->(Builtin.firstCells i.size sLen s).run P W'=.ok olds.toArray W')
  (hx:(Builtin.lenOf x).run P W=.ok m W) (hf:∀ W':World,W'.heap=W.heap->(Builtin.firstCells i.size m x).run P W'=.ok news.toArray W')
  (hg:sCap<sLen+m) (h63:((sLen+m:Nat):Int)<=9223372036854775807) (hfit:Builtin.nextslicecap (sLen+m) sCap*i.bytes<=281474976710656) :
  (Builtin.append_ #[t,t] ty #[s,x]).run P W =
   .ok (.slice (some ⟨W.heap.size,0,none⟩) (sLen+m) (grownCap W (sLen+m) sCap e))
    (W.drew.alloc (.cells (olds.toArray++news.toArray++Builtin.zeroCells z.cells (grownCap W (sLen+m) sCap e-(sLen+m))) e)):=by
 obtain⟨b,rfl⟩:=hs
 have hn:¬ (sLen+m<=sCap):=by omega
 have h63':¬ (9223372036854775807<((sLen:Int)+(m:Int))):=by omega
 have h48':¬ (281474976710656<Builtin.nextslicecap (sLen+m) sCap*i.bytes):=by omega
 have hf1:=hf W.drew rfl
 have hfo1:=hfo W.drew rfl
 simp[Builtin.append_,run_underlying ht,sizeOf,typeInfo,zeroValue,hi,hz,hx,hn,h63',h48',Question.forced,hf1,hfo1,newRow,grownCap]
 congr 2
 apply Array.ext'
 simp[Zb5]
def xJ{P:Program}(W:World)(size n:Nat)(b:Addr)(len cap:Nat)(cs:List Value)(hl:cs.length=n*size)(h:∀ j v,cs[j]? = some v->W.cell? (b.add j)=some v) :
  ∀ W':World,W'.heap=W.heap->(Builtin.firstCells size n (.slice (some b) len cap)).run P W'=.ok cs.toArray W' :=
 fun W' hh=>run_firstCells_some (P:=P) W' size n b len cap cs hl (fun j v hv=>by have:=h j v hv;simpa[World.cell?,hh] using this)
def Ev{P:Program}(W:World)(size:Nat):∀ W':World,W'.heap=W.heap->(Builtin.firstCells size 0 (.slice none 0 0)).run P W'=.ok ([]:List Value).toArray W':=fun _ _=>rfl
def Du[Bas]{P:Program}{ι:Inj}{σ:Heap}{W:World}(hR:RelW ι σ W){z:Nat}{x:V}{m:Nat}{r:Src}(h:Vf σ z x=some (m,r)){v:Value}(hx:VR ι x v) :
  ∃ news:List Value,news.length=m*z∧(∀ W':World,W'.heap=W.heap→(Builtin.firstCells z m v).run P W'=.ok news.toArray W')∧(Builtin.lenOf v).run P W=.ok m W∧Rd ι r (m*z) news∧∀ u∈news,u.oneCell'=true:=by
 rcases src_R hR h hx with⟨rfl,rfl,rfl⟩|⟨ad,c,rfl,news,h1,h2,h3,h4⟩
 ·exact⟨[],by simp,Ev W z,rfl,by simp[Rd],by simp⟩
 exact⟨news,h1,xJ W z m ad m c news h1 h2,rfl,h3,h4⟩
def wy{P:Program}{e:TypeId}{n bytes:Nat}{z:Z}(hs:Xz P e=some n)(hb:Kr P e=some bytes)(hz:Wu P e=some z):∃ i v,P.info? e=some i/\i.size=n/\i.bytes=bytes/\i.zero=some v/\Ue v=some z:=by
 obtain⟨i,v,hi,hv,hzv⟩:=xL hz;unfold Xz at hs;unfold Kr at hb;rw[hi]at hs hb;simp at hs hb;exact⟨i,v,hi,hs,hb,hv,hzv⟩
def xO[Bas]{ι:Inj}{σ:Heap}{W:World}(hR:RelW ι σ W)(hD:Dom ι σ)(cs:Array Value)(T:TypeId)(x:Blk)(q:Place)(hq:q.c=W.heap.size)(hx:∀ W':World,W'.heap[q.c]? = some (.cells cs T (0,0))->BlkR (ι.put σ.length q) W' x q) :
  Post ι σ W (ι.put σ.length q) (σ++[x]) (W.drew.alloc (.cells cs T)):=by
 have hn:ι σ.length=none:=by
  cases h:ι σ.length with
  |none=>rfl
  |some r=>exact absurd (hD _ _ h) (Nat.lt_irrefl _)
 exact(TC hR.toDrew hn (.cells cs T) x q hq (hx _ (by rw[hq];exact WN W.drew _))).ofDrew.post
def tU[Bas]{P:Program}{run:Runner}{t el:TypeId}{n bytes:Nat}{z:Z}{c:Call}{s x:Operand}{s' x':O}(hc:c.callee=.builtin .append)(ha:c.argTypes=#[t,t])(hargs:c.args.toList=[s,x])
  (ht:P.underlying t=some (.slice el)) (hsz:Xz P el=some n) (hby:Kr P el=some bytes) (hz:Wu P el=some z) (hzn:z.size=n) (hb0:bytes≠0) (hs:opd s=some s') (hx:opd x=some x') :
  zK P run (.call c) (.append n bytes s' x'):=by
 intro ι σ W e a y σ' o ho hE hR hD hv
 have rs:=Y9 hs hE
 have rx:=Y9 hx hE
 obtain⟨i,zv,hi,hisz,hiby,hizero,hzv⟩:=wy hsz hby hz
 have hzc:zv.cells.size=n:=by rw[<-Vu hzv,hzn]
 have hargs':c.args=#[s,x]:=Array.toList_inj.1 (by simpa using hargs)
 have hrun:∀ r W',(Builtin.append_ #[t,t] o.type #[a.eval s,a.eval x]).run P W=.ok r W'->(execOp a.eval o).run P W=.ok (.value r) W':=by
  intro r W' h;obtain⟨k,hk⟩:=Vw (P:=P) (a:=a) ho hc W;rw[hk];simp[builtin,ha,hargs',h]
 have hnone:ι σ.length=none:=by
  cases h:ι σ.length with
  |none=>rfl
  |some r=>exact absurd (hD _ _ h) (Nat.lt_irrefl _)
 simp only[YK,WL]at hv
 split at hv
 ·simp at hv
 rename_i m r hsrc;obtain⟨news,hl,hfirst,hlen,hSr,hone⟩:=Du (P:=P) hR hsrc rx;have hrm:∀ k bb:Nat,XC k bb=true->k*bb<=140737488355328:=fun k bb h=>by simpa[XC] using h
 have hbig:∀ k,k*bytes<=140737488355328->k<=140737488355328:=fun k h=>Zcq (Nat.le_mul_of_pos_right k (by omega)) h
 split at hv
 ·
   rename_i hsv
   rw[hsv]at rs
   simp only[VR]at rs
   split at hv
   ·rename_i hm;injection hv with hv
    injection hv with h1 h2
    subst h1;subst h2;subst hm;have hf0:=hfirst W rfl;refine⟨.value (.slice none 0 0),W,ι,(QPost.refl hR).post,hrun _ _ ?_,.inr ⟨_,rfl,rfl⟩⟩;rw[rs];simp[Builtin.append_,run_underlying ht,sizeOf,typeInfo,hi,hlen,hisz,hf0]
   rename_i hm
   cases hro:XC m bytes
   ·simp[hro]at hv
   simp only[hro,cond_true,ZbK]at hv;obtain⟨b,hj,hv⟩:=hv;injection hv with h1 h2
   subst h1;subst h2;have hro':=hrm _ _ hro;have hm':=hbig _ hro';have hgc:=grownCap_ge W (0+m) 0 el;have hgc2:m<=grownCap W m 0 el:=by simpa using hgc
   have hnext:Builtin.nextslicecap (0+m) 0*i.bytes<=281474976710656:=by rw[hiby];exact growslice_fits (by omega) (by simpa using hro')
   have hr:=ym W t o.type el i zv ht hi hizero (.slice none 0 0) (a.eval x) 0 0 m [] news ⟨none,rfl⟩ (by rw[hisz];exact Ev W n) hlen (by rw[hisz];exact hfirst) (by omega) (by omega) hnext;let cs:=(([]:List Value).toArray++news.toArray++Builtin.zeroCells zv.cells (grownCap W (0+m) 0 el-(0+m)))
   have hcs:cs.size=grownCap W (0+m) 0 el*n:=by
    simp only[cs,Array.size_append,List.size_toArray,List.length_nil,hl,size_zeroCells,hzc,Zcp];rw[<-Nat.add_mul];congr 1;omega
   let q:Place:=⟨W.heap.size,0,m*n,grownCap W (0+m) 0 el,cs.size⟩
   have hmn:m*n<=cs.size:=by rw[hcs];exact ZbW _ (by omega)
   refine⟨.value (.slice (some ⟨W.heap.size,0,none⟩) (0+m) (grownCap W (0+m) 0 el)),_,_,xO hR hD cs el b q rfl (fun W' hw=>(xT (olds:=[]) (news:=news) hj (by simp[Rd,VRL]) (by cases r with|sc g=>exact hSr|vs l=>exact VRL.ext (Inj.put_ext q hnone) _ _ hSr) rfl hl hw rfl (by simp[q]) rfl (by simpa using hmn) (fun j hj=>?_)).1),hrun _ _ (by rw[rs];exact hr),.inr ⟨_,rfl,?_⟩⟩
   ·simp only[cs];rw[Array.getElem?_append_left (by simp[hl];omega)];simp
   exact⟨q,grownCap W (0+m) 0 el,Inj.put_same _ _ _,by simp[q],by simp[q],rfl,rfl,rfl,by omega,hcs.symm,rfl⟩
 ·
   rename_i b off len z' cp hsv
   rw[hsv]at rs
   simp only[VR]at rs
   obtain⟨p,cap,hp,hle,rs,hcap⟩:=rs
   simp only[Jt]at hcap
   obtain⟨rfl,hc1,hc2⟩:=hcap
   split at hv
   ·rename_i hz';subst hz';split at hv
    ·rename_i hroom;have hf0:=hfirst W rfl;have hwr:∃ yv,VR ι yv (.agg news.toArray)/\∃ σ1,wrV σ b (off+len*n) (m*n) yv=some σ1/\y=.sl b off (len+m) n (.ex cap)/\σ'=σ1:=by
      cases r with
      |sc h=>
        simp only[ZbK]at hv;obtain⟨σ1,hw,hv⟩:=hv;injection hv with h1 h2
        exact⟨.agg (m*n) h,⟨_,rfl,by simp[hl],fun j hj=>by simpa using hSr j hj⟩,σ1,hw,h1.symm,h2.symm⟩
      |vs l=>
        simp only[ZbK]at hv;obtain⟨σ1,hw,hv⟩:=hv;injection hv with h1 h2
        exact⟨.aggv l,⟨news,rfl,hSr⟩,σ1,hw,h1.symm,h2.symm⟩
     obtain⟨yv,hyv,σ1,hw,rfl,rfl⟩:=hwr;have hfit:off+len*n+m*n<=p.n:=by
      have h1:(len+m)*n<=cap*n:=ZbW _ hroom;rw[Nat.add_mul]at h1;omega
     obtain⟨_,W',hst,hpost⟩:=wrV_R hR hp hfit hw hyv;have hst':=hst P;simp only[Value.cells,List.toList_toArray]at hst';refine⟨.value (.slice (some ⟨p.c,p.base+off,none⟩) (len+m) cap),W',ι,hpost,hrun _ _ ?_,.inr ⟨_,rfl,⟨p,cap,hp,?_,rfl,rfl,hroom,hc2⟩⟩⟩
     ·rw[rs];exact vU W t o.type el i ht hi p.c (p.base+off) len cap (a.eval x) m news W' hlen (by rw[hisz];exact hf0) hroom (by rw[hisz,Nat.add_assoc];exact hst')
     rw[Nat.add_mul];omega
    rename_i hroom
    cases hro:XC (len+m) bytes
    ·simp[hro]at hv
    simp only[hro,cond_true]at hv;split at hv
    · rename_i mq q0 hsq;simp only[ZbK]at hv;obtain⟨nb,hj,hv⟩:=hv;injection hv with h1 h2
      subst h1;subst h2;have hro':=hrm _ _ hro;have hm':=hbig _ hro';have hrs:VR ι (.sl b off len n (.ex cap)) (a.eval s):=⟨p,cap,hp,hle,rs,rfl,hc1,hc2⟩
      rw[hsv]at hsq;obtain⟨olds,hlo,hfo,hleno,hSo,_⟩:=Du (P:=P) hR hsq hrs;have hmq:mq=len:=by
       rw[rs]at hleno;simp[Builtin.lenOf]at hleno;exact hleno.symm
      subst hmq;have hgc:=grownCap_ge W (mq+m) cap el;have hnext:Builtin.nextslicecap (mq+m) cap*i.bytes<=281474976710656:=by rw[hiby];exact growslice_fits (by omega) hro'
      have hr:=ym W t o.type el i zv ht hi hizero (a.eval s) (a.eval x) mq cap m olds news ⟨_,rs⟩ (by rw[hisz];exact hfo) hlen (by rw[hisz];exact hfirst) (by omega) (by omega) hnext;let cs:=(olds.toArray++news.toArray++Builtin.zeroCells zv.cells (grownCap W (mq+m) cap el-(mq+m)))
      have hcs:cs.size=grownCap W (mq+m) cap el*n:=by
       simp only[cs,Array.size_append,List.size_toArray,hlo,hl,size_zeroCells,hzc];rw[<-Nat.add_mul,<-Nat.add_mul];congr 1;omega
      let q:Place:=⟨W.heap.size,0,mq*n+m*n,grownCap W (mq+m) cap el,cs.size⟩
      have hmn:mq*n+m*n<=cs.size:=by rw[hcs,<-Nat.add_mul];exact ZbW _ hgc
      have hmv:∀ (r:Src) k l,Rd ι r k l->Rd (ι.put σ.length q) r k l:=fun r k l h=>by
       cases r with
       |sc g=>exact h
       |vs l'=>exact VRL.ext (Inj.put_ext q hnone) _ _ h
      refine⟨.value (.slice (some ⟨W.heap.size,0,none⟩) (mq+m) (grownCap W (mq+m) cap el)),_,_,xO hR hD cs el nb q rfl (fun W' hw=>(xT (olds:=olds) (news:=news) hj (hmv _ _ _ hSo) (hmv _ _ _ hSr) hlo hl hw rfl rfl rfl hmn (fun j hj=>?_)).1),hrun _ _ hr,.inr ⟨_,rfl,?_⟩⟩
      ·simp only[cs];rw[Array.getElem?_append_left (by simp[hl,hlo];omega)];simp
      exact⟨q,grownCap W (mq+m) cap el,Inj.put_same _ _ _,by simp only[q,Zcp,Nat.add_mul];exact Zcs _,by simp[q],rfl,rfl,rfl,hgc,hcs.symm,by simp only[q,Nat.add_mul]⟩
    simp at hv
   simp at hv
 ·
   rename_i b off len z' hsv
   rw[hsv]at rs
   split at hv
   ·rename_i hz';subst hz'
    cases hro:XC (len+m) bytes
    ·simp[hro]at hv
    simp only[hro,cond_true]at hv;have key:∀ (mq:Nat) (q0:Src) (xb:Blk),Vf σ n (.sl b off len n .whole)=some (mq,q0)->σ[b]? = some xb->xb.mut=true->(∀ ι W p,BlkR ι W xb p->Own .grow W p) ->
       ((W5 (len*n) (m*n) q0 r).map fun nb=>(V.sl σ.length 0 (len+m) n .whole,wf σ b++[nb]))=some (y,σ') ->
       ∃ r W' ι',Post ι σ W ι' σ' W'/\(execOp a.eval o).run P W=.ok r W'/\(r=.skip/\y=.undef\/∃ v,r=.value v/\VR ι' y v):=by
     intro mq q0 xb hsq hxb hxm hown hv
     simp only[ZbK]at hv
     obtain⟨nb,hj,hv⟩:=hv
     injection hv with h1 h2
     subst h1;subst h2
     have rs':=rs
     simp only[VR]at rs'
     obtain⟨p,cap,hp,hle,rsv,hcap⟩:=rs'
     simp only[Jt]at hcap
     obtain⟨rfl,hbase,hcp,hncap,hcsz,hnn⟩:=hcap
     obtain⟨_,hple,cur,T,hcur,hcursz,_⟩:=hown _ _ _ (hR.blk b p xb hp hxb) rfl
     have hro':=hrm _ _ hro
     have hm':=hbig _ hro'
     obtain⟨olds,hlo,hfo,hleno,hSo,_⟩:=Du (P:=P) hR hsq rs
     have hmq:mq=len:=by
       rw[rsv]at hleno;simp[Builtin.lenOf]at hleno;exact hleno.symm
     subst hmq
     have hmv:∀ (q:Place) (r:Src) k l,Rd ι r k l->Rd (ι.put σ.length q) r k l:=fun q r k l h=>by
       cases r with
       |sc g=>exact h
       |vs l'=>exact VRL.ext (Inj.put_ext q hnone) _ _ h
     by_cases hroom:mq+m<=cap
     ·
       have hf0:=hfirst W rfl
       have hfo0:=hfo W rfl
       have hfit:mq*n+m*n<=cur.size:=by
        have h1:(mq+m)*n<=cap*n:=ZbW _ hroom;rw[Nat.add_mul]at h1;omega
       have hst:=run_storeCells_at P p.c (mq*n) T news 0 cur W hcur (by omega) hone
       simp only[Nat.add_zero]at hst
       let cs:=(cur.toList.take (mq*n)++news++cur.toList.drop (mq*n+news.length)).toArray
       have hcs:cs.size=cur.size:=by
        simp only[cs,List.size_toArray,Zb2,Zcb,List.length_drop,Zb0];omega
       have hheap:=setRow_heap W p.c cur cs T (0,0) hcur
       let q:Place:=⟨p.c,0,mq*n+m*n,cap,p.sz⟩
       have holds:∀ j,j<mq*n->cur[j]? = olds[j]?:=by
        intro j hj;have hlc:(loadCells ⟨p.c,0,none⟩ (mq*n)).run P W=.ok olds.toArray W:=by
         have:=hfo0;rw[rsv,hbase]at this;simpa[Builtin.firstCells] using this
        have hlc2:=run_loadCells (P:=P) W ⟨p.c,0,none⟩ (mq*n) (fun j=>cur.getD j Go.undef) (fun k hk=>by
         rw[VN,Zcp,cell_of_row W p.c k cur T (0,0) hcur];simp[show k<cur.size by omega])
        rw[hlc2]at hlc;injection hlc with hlc
        have he:olds=(List.range (mq*n)).map fun j=>cur.getD j Go.undef:=by
         have:=congrArg Array.toList hlc;simpa using this.symm
        rw[he,Zb9,ZbZ hj];simp[show j<cur.size by omega]
       refine⟨.value (.slice (some ⟨p.c,0,none⟩) (mq+m) cap),W.setRow p.c cs,ι.put σ.length q,TH hR hD hp hxb hxm ⟨rfl,rfl,rfl,by simp⟩ (fun c _ hc=>setRow_other W p.c c cs hc) (.inl rfl) (by simpa using hR.lt b p hp) ?_,hrun _ _ ?_,.inr ⟨_,rfl,?_⟩⟩
       ·refine(xT (p:=q) (olds:=olds) (news:=news) hj (hmv q _ _ _ hSo) (hmv q _ _ _ hSr) hlo hl hheap rfl rfl (show p.sz=cs.size by omega) (by omega) (fun j hj=>?_)).1;simp only[cs,List.getElem?_toArray];by_cases h1:j<mq*n
        ·rw[Zb5,ZbF (by simp;omega),List.getElem?_take,ZcA h1,ZbF (by omega),ZbS];exact holds j h1
        have e1:(cur.toList.take (mq*n)).length=mq*n:=by
         rw[Zcb,Zb0];omega
        rw[Zb5,ZbE (show(cur.toList.take (mq*n)).length<=j by omega),e1,ZbF (show j-mq*n<news.length by omega),ZbE (show olds.length<=j by omega),hlo]
       ·rw[rsv,hbase];exact vU W t o.type el i ht hi p.c 0 mq cap (a.eval x) m news _ hlen (by rw[hisz];exact hf0) hroom (by rw[hisz,Zcp];exact hst)
       exact⟨q,cap,Inj.put_same _ _ _,by simp only[q,Zcp,Nat.add_mul];exact Zcs _,by simp[q],rfl,rfl,rfl,hroom,hcsz,by simp only[q,Nat.add_mul]⟩
     ·
       have hgc:=grownCap_ge W (mq+m) cap el
       have hnext:Builtin.nextslicecap (mq+m) cap*i.bytes<=281474976710656:=by rw[hiby];exact growslice_fits (by omega) hro'
       have hr:=ym W t o.type el i zv ht hi hizero (a.eval s) (a.eval x) mq cap m olds news ⟨_,rsv⟩ (by rw[hisz];exact hfo) hlen (by rw[hisz];exact hfirst) (by omega) (by omega) hnext
       let cs:=(olds.toArray++news.toArray++Builtin.zeroCells zv.cells (grownCap W (mq+m) cap el-(mq+m)))
       have hcs:cs.size=grownCap W (mq+m) cap el*n:=by
        simp only[cs,Array.size_append,List.size_toArray,hlo,hl,size_zeroCells,hzc];rw[<-Nat.add_mul,<-Nat.add_mul];congr 1;omega
       let q:Place:=⟨W.heap.size,0,mq*n+m*n,grownCap W (mq+m) cap el,cs.size⟩
       have hmn:mq*n+m*n<=cs.size:=by rw[hcs,<-Nat.add_mul];exact ZbW _ hgc
       refine⟨.value (.slice (some ⟨W.heap.size,0,none⟩) (mq+m) (grownCap W (mq+m) cap el)),W.drew.alloc (.cells cs el),ι.put σ.length q,TH hR hD hp hxb hxm ⟨rfl,rfl,rfl,by simp⟩ (fun c hc _=>Vs W.drew _ c hc) (.inr (Zcs _)) (by simp[q]) ?_,hrun _ _ hr,.inr ⟨_,rfl,?_⟩⟩
       ·refine(xT (p:=q) (olds:=olds) (news:=news) hj (hmv q _ _ _ hSo) (hmv q _ _ _ hSr) hlo hl (WN W.drew _) rfl rfl rfl hmn (fun j hj=>?_)).1;simp only[cs];rw[Array.getElem?_append_left (by simp[hl,hlo];omega)];simp
       exact⟨q,grownCap W (mq+m) cap el,Inj.put_same _ _ _,by simp only[q,Zcp,Nat.add_mul];exact Zcs _,by simp[q],rfl,rfl,rfl,hgc,hcs.symm,by simp only[q,Nat.add_mul]⟩
    split at hv
    ·rename_i mq q0 mm gg hsq hblk;exact key mq q0 _ (by rw[hsv]at hsq;exact hsq) hblk rfl (fun _ _ _ h=>h.2.2) hv
    ·rename_i mq q0 gg hsq hblk;exact key mq q0 _ (by rw[hsv]at hsq;exact hsq) hblk rfl (fun _ _ _ h=>h.2.2) hv
    ·rename_i mq q0 tt mm gg hsq hblk;exact key mq q0 _ (by rw[hsv]at hsq;exact hsq) hblk rfl (fun _ _ _ h hm=>by
       obtain⟨a,b,cs,T,c,d,_⟩:=h.2.2 rfl;exact⟨a,b,cs,T,c,d,trivial⟩) hv
    simp at hv
   simp at hv
 simp at hv
end Go.Am
namespace Go.Am
open Go
def rW{P:Program}(W:World)(t u ty e:TypeId)(i:TypeInfo)(ht:P.underlying t=some (.slice e))(hu:P.underlying u=some .string)(hi:P.info? e=some i)
  (g off sLen sCap:Nat) (x:Value) (m:Nat) (news:List Value) (W':World) (hx:(Builtin.lenOf x).run P W=.ok m W) (hf:(Builtin.firstCells i.size m x).run P W=.ok news.toArray W)
  (hroom:sLen+m<=sCap) (hst:(storeCells ⟨g,off+sLen*i.size,none⟩ news).run P W=.ok () W') :
  (Builtin.append_ #[t,u] ty #[.slice (some ⟨g,off,none⟩) sLen sCap,x]).run P W=.ok (.slice (some ⟨g,off,none⟩) (sLen+m) sCap) W':=by
 simp[Builtin.append_,run_underlying ht,run_underlying hu,sizeOf,typeInfo,hi,hx,hroom,hf,VN,hst]
def qu{P:Program}(W:World)(t u ty e:TypeId)(i:TypeInfo)(z:Value)(ht:P.underlying t=some (.slice e))(hu:P.underlying u=some .string)(hi:P.info? e=some i)(hz:i.zero=some z)
  (s x:Value) (sLen sCap m:Nat) (olds news:List Value) (hs:∃ b,s=.slice b sLen sCap) (hfo:∀ W':World,W'.heap=W.heap->(Builtin.firstCells i.size sLen s).run P W'=.ok olds.toArray W')
  (hx:(Builtin.lenOf x).run P W=.ok m W) (hf:∀ W':World,W'.heap=W.heap->(Builtin.firstCells i.size m x).run P W'=.ok news.toArray W')
  (hg:sCap<sLen+m) (h63:((sLen+m:Nat):Int)<=9223372036854775807) (hfit:Builtin.nextslicecap (sLen+m) sCap*i.bytes<=281474976710656) :
  (Builtin.append_ #[t,u] ty #[s,x]).run P W =
   .ok (.slice (some ⟨W.heap.size,0,none⟩) (sLen+m) (grownCap W (sLen+m) sCap e))
    (W.drew.alloc (.cells (olds.toArray++news.toArray++Builtin.zeroCells z.cells (grownCap W (sLen+m) sCap e-(sLen+m))) e)):=by
 obtain⟨b,rfl⟩:=hs
 have hn:¬ (sLen+m<=sCap):=by omega
 have h63':¬ (9223372036854775807<((sLen:Int)+(m:Int))):=by omega
 have h48':¬ (281474976710656<Builtin.nextslicecap (sLen+m) sCap*i.bytes):=by omega
 have hf1:=hf W.drew rfl
 have hfo1:=hfo W.drew rfl
 simp[Builtin.append_,run_underlying ht,run_underlying hu,sizeOf,typeInfo,zeroValue,hi,hz,hx,hn,h63',h48',Question.forced,hf1,hfo1,newRow,grownCap]
 congr 2
 apply Array.ext'
 simp[Zb5]
def Vt(t:ByteArray):List Value:=t.data.toList.map fun b=>.int .u8 b.toNat
def oP(t:ByteArray):(Vt t).length=t.size:=by simp[Vt]
def q8(t:ByteArray){j:Nat}(h:j<t.size):(Vt t)[j]? = some (Xv t j).val:=by
 have h':j<t.data.size:=h;have e:t.data.getD j 0=t.data[j]:=by unfold Array.getD;rw[dif_pos h'];rfl
 simp only[Vt,Xv,S.val,e,Zb9,ZbS];rw[ZbG h'];rfl
def oO{P:Program}(t:ByteArray)(W:World):(Builtin.firstCells 1 t.size (.string t)).run P W=.ok (Vt t).toArray W:=by
 have:(t.extract 0 t.size)=t:=by simp
 have e:(t.data.map fun b=>Value.int .u8 b.toNat)=(Vt t).toArray:=Array.toList_inj.1 (by simp[Vt]);simp[Builtin.firstCells,this,e]
def km{ι:Inj}{W:World}{T:TypeId}{md:Md}{g:Nat->S}{n:Nat}{p:Place}{cs:Array Value}(hT:∀ n s,md.tyOK T n s)(hw:W.heap[p.c]? = some (.cells cs T (0,0)))(hb:p.base=0)(hn:p.n=n)(hs:p.sz=cs.size)(hle:n<=cs.size)
  (hc:∀ i,i<n->cs[i]? = some (g i).val):BlkR ι W (.sc md n g) p :=
 ⟨hn.symm,fun i hi=>by
  have:W.cell? ⟨p.c,p.base+i,none⟩=cs[i]?:=by simp[World.cell?,hw,hb]
  rw[this];exact hc i hi,fun _=>⟨hb,by omega,cs,T,hw,hs.symm,hT _ _⟩⟩
def uq[Bas]{P:Program}{run:Runner}{t u el:TypeId}{bytes:Nat}{c:Call}{s x:Operand}{s' x':O}(hc:c.callee=.builtin .append)(ha:c.argTypes=#[t,u])(hargs:c.args.toList=[s,x])
  (ht:P.underlying t=some (.slice el)) (hu:P.underlying u=some .string) (he:P.underlying el=some (.int .u8)) (hsz:Xz P el=some 1) (hby:Kr P el=some bytes) {z:Z} (hz:Wu P el=some z) (hzn:z.size=1) (hb0:bytes≠0) (hs:opd s=some s') (hx:opd x=some x') :
  zK P run (.call c) (.appendb el bytes s' x'):=by
 intro ι σ W e a y σ' o ho hE hR hD hv
 have rs:=Y9 hs hE
 have rx:=Y9 hx hE
 obtain⟨i,zv,hi,hisz,hiby,hizero,hzv⟩:=wy hsz hby hz
 have hzc:zv.cells.size=1:=by rw[<-Vu hzv,hzn]
 have hargs':c.args=#[s,x]:=Array.toList_inj.1 (by simpa using hargs)
 have hrun:∀ r W',(Builtin.append_ #[t,u] o.type #[a.eval s,a.eval x]).run P W=.ok r W'->(execOp a.eval o).run P W=.ok (.value r) W':=by
  intro r W' h;obtain⟨k,hk⟩:=Vw (P:=P) (a:=a) ho hc W;rw[hk];simp[builtin,ha,hargs',h]
 have hnone:ι σ.length=none:=by
  cases h:ι σ.length with
  |none=>rfl
  |some r=>exact absurd (hD _ _ h) (Nat.lt_irrefl _)
 have hrm:∀ k bb:Nat,XC k bb=true->k*bb<=140737488355328:=fun k bb h=>by simpa[XC] using h
 have hbig:∀ k,k*bytes<=140737488355328->k<=140737488355328:=fun k h=>Zcq (Nat.le_mul_of_pos_right k (by omega)) h
 simp only[YK,Q4]at hv
 split at hv
 ·rename_i str hxv;rw[hxv]at rx;simp only[VR,S.val]at rx;have hlen:(Builtin.lenOf (a.eval x)).run P W=.ok str.size W:=by rw[rx];rfl
  have hl:=oP str;have hfirst:∀ W':World,W'.heap=W.heap->(Builtin.firstCells i.size str.size (a.eval x)).run P W'=.ok (Vt str).toArray W':=fun W' _=>by rw[rx,hisz];exact oO str W'
  have hone:∀ v∈Vt str,v.oneCell'=true:=fun v hv=>by
   obtain⟨b,_,rfl⟩:=List.mem_map.1 hv;rfl
  split at hv
  ·rename_i hsv;rw[hsv]at rs;simp only[VR]at rs;split at hv
   ·rename_i hm;injection hv with hv
    injection hv with h1 h2
    subst h1;subst h2;have hf0:=hfirst W rfl;rw[hm]at hf0 hlen;refine⟨.value (.slice none 0 0),W,ι,(QPost.refl hR).post,hrun _ _ ?_,.inr ⟨_,rfl,rfl⟩⟩;rw[rs];simp[Builtin.append_,run_underlying ht,run_underlying hu,sizeOf,typeInfo,hi,hlen,hf0]
   rename_i hm
   cases hro:XC str.size bytes
   ·simp[hro]at hv
   simp only[hro,cond_true,Zb4,Zcn]at hv;obtain⟨rfl,rfl⟩:=hv;have hro':=hrm _ _ hro;have hm':=hbig _ hro';have hgc:=grownCap_ge W (0+str.size) 0 el;have hnext:Builtin.nextslicecap (0+str.size) 0*i.bytes<=281474976710656:=by rw[hiby];exact growslice_fits (by omega) (by simpa using hro')
   have hr:=qu W t u o.type el i zv ht hu hi hizero (.slice none 0 0) (a.eval x) 0 0 str.size [] (Vt str) ⟨none,rfl⟩ (by rw[hisz];exact Ev W 1) hlen hfirst (by omega) (by omega) hnext;let cs:=(([]:List Value).toArray++(Vt str).toArray++Builtin.zeroCells zv.cells (grownCap W (0+str.size) 0 el-(0+str.size)))
   have hcs:cs.size=grownCap W (0+str.size) 0 el:=by
    simp only[cs,Array.size_append,List.size_toArray,List.length_nil,hl,size_zeroCells,hzc,Zcp,Nat.mul_one];simp only[Zcp]at hgc;omega
   let q:Place:=⟨W.heap.size,0,str.size,grownCap W (0+str.size) 0 el,cs.size⟩
   refine⟨.value (.slice (some ⟨W.heap.size,0,none⟩) (0+str.size) (grownCap W (0+str.size) 0 el)),_,_,xO hR hD cs el (.sc (.gty el) str.size (Xv str)) q rfl (fun W' hw=>km (fun _ _=>rfl) hw rfl rfl rfl (by simp only[hcs];omega) (fun j hj=>?_)),hrun _ _ (by rw[rs];exact hr),.inr ⟨_,rfl,?_⟩⟩
   ·simp only[cs];rw[Array.getElem?_append_left (by simp[hl];omega)];simpa using q8 str hj
   exact⟨q,grownCap W (0+str.size) 0 el,Inj.put_same _ _ _,by simp[q],by simp[q],rfl,rfl,rfl,by omega,by simp only[q,hcs,Nat.mul_one],by simp[q]⟩
  ·rename_i b off len hsv;have key:∀ (md:Md) (k0:Nat) (g:Nat->S),σ[b]? = some (.sc md k0 g)->md.mut=true->(∀ T n s,md.tyOK T n s->∀ n s,md.tyOK T n s)->(∀ n s,md.tyOK el n s)->XC (len+str.size) bytes=true ->
     (V.sl σ.length 0 (len+str.size) 1 .whole,wf σ b++[.sc md (len+str.size) (fun i=>bif Nat.blt i len then g i else Xv str (i-len))])=(y,σ') ->
     ∃ r W' ι',Post ι σ W ι' σ' W'/\(execOp a.eval o).run P W=.ok r W'/\(r=.skip/\y=.undef\/∃ v,r=.value v/\VR ι' y v):=by
    intro md k0 g hblk hmut htA htB hro hv
    injection hv with h1 h2
    subst h1;subst h2
    rw[hsv]at rs
    have rs':=rs
    simp only[VR]at rs'
    obtain⟨p,cap,hp,hle,rsv,hcap⟩:=rs'
    simp only[Jt]at hcap
    obtain⟨rfl,hbase,hcp,hncap,hcsz,hnn⟩:=hcap
    obtain⟨hk0,hcells,hown⟩:=hR.blk b p _ hp hblk
    obtain⟨_,hple,cur,T,hcur,hcursz,hT⟩:=hown hmut
    have hT:=htA _ _ _ hT
    have hro':=hrm _ _ hro
    have hm':=hbig _ hro'
    simp only[Nat.mul_one]at hcsz hnn
    let olds:=(List.range len).map fun j=>(g j).val
    have hlo:olds.length=len:=by simp[olds]
    have hcell:∀ j,j<len->cur[j]? = some (g j).val:=fun j hj=>by
     have:=hcells j (by omega);rw[hbase,Zcp,cell_of_row W p.c j cur T (0,0) hcur]at this;exact this
    have hold:∀ j (v:Value),olds[j]? = some v->W.cell? ((⟨p.c,p.base+0,none⟩:Addr).add j)=some v:=fun j v hv=>by
     have hj:j<len:=by
      rcases Zcr j len with h|h
      ·exact h
      rw[ZbQ (by omega)]at hv;simp at hv
     rw[VN,hbase,Nat.add_zero,Zcp,cell_of_row W p.c j cur T (0,0) hcur,hcell j hj];rw[Zb9,ZbZ hj]at hv;simpa using hv
    have hfo:=xJ (P:=P) W i.size len ⟨p.c,p.base+0,none⟩ len cap olds (by rw[hisz,hlo,Nat.mul_one]) hold
    have hnew:∀ j,j<len+str.size->(olds++Vt str)[j]? = some (bif Nat.blt j len then g j else Xv str (j-len)).val:=fun j hj=>by
     cases hlt:Nat.blt j len with
     |true=>
      rw[Nat.blt_eq]at hlt;rw[ZbF (by omega),Zb9,ZbZ hlt];rfl
     |false=>
      have:¬ j<len:=fun q=>by rw[<-Nat.blt_eq]at q;rw[q]at hlt;simp at hlt
      rw[ZbE (by omega),hlo,q8 str (by omega)];rfl
    by_cases hroom:len+str.size<=cap
    ·have hf0:=hfirst W rfl;have hst:=run_storeCells_at P p.c len T (Vt str) 0 cur W hcur (by omega) hone;simp only[Nat.add_zero]at hst;let cs:=(cur.toList.take len++Vt str++cur.toList.drop (len+(Vt str).length)).toArray;have hcs:cs.size=cur.size:=by
      simp only[cs,List.size_toArray,Zb2,Zcb,List.length_drop,Zb0];omega
     have hheap:=setRow_heap W p.c cur cs T (0,0) hcur;let q:Place:=⟨p.c,0,len+str.size,cap,p.sz⟩
     refine⟨.value (.slice (some ⟨p.c,0,none⟩) (len+str.size) cap),W.setRow p.c cs,ι.put σ.length q,TH hR hD hp hblk hmut ⟨rfl,rfl,rfl,by simp⟩ (fun c _ hc=>setRow_other W p.c c cs hc) (.inl rfl) (by simpa using hR.lt b p hp) ?_,hrun _ _ ?_,.inr ⟨_,rfl,?_⟩⟩
     ·refine km (p:=q) hT hheap rfl rfl (show p.sz=cs.size by omega) (by omega) (fun j hj=>?_);rw[<-hnew j hj];simp only[cs,List.getElem?_toArray];by_cases h1:j<len
      ·rw[Zb5,ZbF (by simp;omega),List.getElem?_take,ZcA h1,ZbF (by omega),ZbS,hcell j h1,Zb9,ZbZ h1];rfl
      have e1:(cur.toList.take len).length=len:=by
       rw[Zcb,Zb0];omega
      rw[Zb5,ZbE (show(cur.toList.take len).length<=j by omega),e1,ZbF (show j-len<(Vt str).length by omega),ZbE (show olds.length<=j by omega),hlo]
     ·rw[rsv,hbase];exact rW W t u o.type el i ht hu hi p.c 0 len cap (a.eval x) str.size (Vt str) _ hlen hf0 hroom (by rw[hisz,Zcp,Nat.mul_one];exact hst)
     exact⟨q,cap,Inj.put_same _ _ _,by simp only[q,Zcp,Nat.mul_one];exact Zcs _,by simp[q],rfl,rfl,rfl,hroom,by simp only[q,Nat.mul_one];exact hcsz,by simp only[q,Nat.mul_one]⟩
    have hgc:=grownCap_ge W (len+str.size) cap el;have hnext:Builtin.nextslicecap (len+str.size) cap*i.bytes<=281474976710656:=by rw[hiby];exact growslice_fits (by omega) hro'
    have hr:=qu W t u o.type el i zv ht hu hi hizero (a.eval s) (a.eval x) len cap str.size olds (Vt str) ⟨_,rsv⟩ (by rw[rsv];exact hfo) hlen hfirst (by omega) (by omega) hnext;let cs:=(olds.toArray++(Vt str).toArray++Builtin.zeroCells zv.cells (grownCap W (len+str.size) cap el-(len+str.size)))
    have hcs:cs.size=grownCap W (len+str.size) cap el:=by
     simp only[cs,Array.size_append,List.size_toArray,hlo,hl,size_zeroCells,hzc,Nat.mul_one];omega
    let q:Place:=⟨W.heap.size,0,len+str.size,grownCap W (len+str.size) cap el,cs.size⟩
    refine⟨.value (.slice (some ⟨W.heap.size,0,none⟩) (len+str.size) (grownCap W (len+str.size) cap el)),W.drew.alloc (.cells cs el),ι.put σ.length q,TH hR hD hp hblk hmut ⟨rfl,rfl,rfl,by simp⟩ (fun c hc _=>Vs W.drew _ c hc) (.inr (Zcs _)) (by simp[q]) ?_,hrun _ _ hr,.inr ⟨_,rfl,?_⟩⟩
    ·refine km (p:=q) htB (WN W.drew _) rfl rfl rfl (by rw[hcs];exact hgc) (fun j hj=>?_);rw[<-hnew j hj];simp only[cs];rw[Array.getElem?_append_left (by simp[hl,hlo];omega)];simp
    exact⟨q,grownCap W (len+str.size) cap el,Inj.put_same _ _ _,by simp only[q,Zcp,Nat.mul_one];exact Zcs _,by simp[q],rfl,rfl,rfl,hgc,by simp only[q,hcs,Nat.mul_one],by simp only[q,Nat.mul_one]⟩
   split at hv
   ·rename_i el' k0 g hblk;split at hv
    ·rename_i hel;subst hel
     cases hro:XC (len+str.size) bytes
     ·simp[hro]at hv
     simp only[hro,cond_true,Zb4]at hv;exact key _ _ _ hblk rfl (fun _ _ _ h=>fun _ _=>h) (fun _ _=>rfl) hro hv
    simp at hv
   ·rename_i k0 g hblk
    cases hro:XC (len+str.size) bytes
    ·simp[hro]at hv
    simp only[hro,cond_true,Zb4]at hv;exact key _ _ _ hblk rfl (fun _ _ _ _=>fun _ _=>trivial) (fun _ _=>trivial) hro hv
   simp at hv
  simp at hv
 simp at hv
end Go.Am
namespace Go.Am
open Go
mutual
def Ei{ι ι':Inj}{f:Nat->Option Nat}(h:∀ b i,f b=some i->ι' i=ι b):∀ (x y:V) (v:Value),V.ren f x=some y->VR ι x v->VR ι' y v
 |.s x,y,v,hr,hv=>by simp only[V.ren,Zb4]at hr;subst hr;simpa only[VR] using hv
 |.agg n g,y,v,hr,hv=>by simp only[V.ren,Zb4]at hr;subst hr;simpa only[VR] using hv
 |.aggv l,y,v,hr,hv=>by
  simp only[V.ren,ZbK]at hr;obtain⟨m,hm,rfl⟩:=hr;simp only[VR]at hv ⊢;obtain⟨cs,e,hl⟩:=hv;exact⟨cs,e,J6 h l m cs hm hl⟩
 |.ptr b o z,y,v,hr,hv=>by
  simp only[V.ren,ZbK]at hr;obtain⟨i,hi,rfl⟩:=hr;simp only[VR]at hv ⊢;obtain⟨p,hp,r⟩:=hv;exact⟨p,by rw[h b i hi];exact hp,r⟩
 |.pnil,y,v,hr,hv=>by simp only[V.ren,Zb4]at hr;subst hr;simpa only[VR] using hv
 |.sl b o n z m,y,v,hr,hv=>by
  simp only[V.ren,ZbK]at hr;obtain⟨i,hi,rfl⟩:=hr;simp only[VR]at hv ⊢;obtain⟨p,c,hp,r⟩:=hv;exact⟨p,c,by rw[h b i hi];exact hp,r⟩
 |.slz,y,v,hr,hv=>by simp only[V.ren,Zb4]at hr;subst hr;simpa only[VR] using hv
 |.snil,y,v,hr,hv=>by simp only[V.ren,Zb4]at hr;subst hr;simpa only[VR] using hv
 |.map b,y,v,hr,hv=>by
  simp only[V.ren,ZbK]at hr;obtain⟨i,hi,rfl⟩:=hr;simp only[VR]at hv ⊢;obtain⟨p,hp,r⟩:=hv;exact⟨p,by rw[h b i hi];exact hp,r⟩
 |.mnil,y,v,hr,hv=>by simp only[V.ren,Zb4]at hr;subst hr;simpa only[VR] using hv
 |.fn g l,y,v,hr,hv=>by
  simp only[V.ren,ZbK]at hr;obtain⟨m,hm,rfl⟩:=hr;simp only[VR]at hv ⊢;obtain⟨cs,e,hl⟩:=hv;exact⟨cs,e,J6 h l m cs hm hl⟩
 |.fnil,y,v,hr,hv=>by simp only[V.ren,Zb4]at hr;subst hr;simpa only[VR] using hv
 |.iface t x,y,v,hr,hv=>by
  simp only[V.ren,ZbK]at hr;obtain⟨m,hm,rfl⟩:=hr;simp only[VR]at hv ⊢;obtain⟨u,e,hl⟩:=hv;exact⟨u,e,Ei h x m u hm hl⟩
 |.inil,y,v,hr,hv=>by simp only[V.ren,Zb4]at hr;subst hr;simpa only[VR] using hv
 |.tup l,y,v,hr,hv=>by
  simp only[V.ren,ZbK]at hr;obtain⟨m,hm,rfl⟩:=hr;simp only[VR]at hv ⊢;obtain⟨cs,e,hl⟩:=hv;exact⟨cs,e,J6 h l m cs hm hl⟩
 |.undef,y,v,hr,hv=>by simp only[V.ren,Zb4]at hr;subst hr;simp only[VR]
 |.bm g x,y,v,hr,hv=>by
  simp only[V.ren,ZbK]at hr;obtain⟨m,hm,rfl⟩:=hr;simp only[VR]at hv ⊢;obtain⟨u,e,hl⟩:=hv;exact⟨u,e,Ei h x m u hm hl⟩
 |.pan x,y,v,hr,hv=>by simp[V.ren]at hr
 |.yv b,y,v,hr,hv=>by
  simp only[V.ren,ZbK]at hr;obtain⟨i,hi,rfl⟩:=hr;simp only[VR]at hv ⊢;obtain⟨p,hp,r⟩:=hv;exact⟨p,by rw[h b i hi];exact hp,r⟩
def J6{ι ι':Inj}{f:Nat->Option Nat}(h:∀ b i,f b=some i->ι' i=ι b):∀ (l m:List V) (vs:List Value),V.renL f l=some m->VRL ι l vs->VRL ι' m vs
 |[],m,vs,hr,hv=>by simp only[V.renL,Zb4]at hr;subst hr;simpa only[VRL] using hv
 |x::l,m,vs,hr,hv=>by
  simp only[V.renL]at hr;split at hr
  ·rename_i y r h1 h2;injection hr with hr
   subst hr;simp only[VRL]at hv ⊢;obtain⟨v,w,e,hx,hl⟩:=hv;exact⟨v,w,e,Ei h x y v h1 hx,J6 h l r w h2 hl⟩
  simp at hr
end
def oc{ι ι':Inj}{f:Nat->Option Nat}(h:∀ b i,f b=some i->ι' i=ι b):∀ (l m:List (S×V)) (es:List MapEntry),yB f l=some m->MR ι l es->MR ι' m es
 |[],m,es,hr,hv=>by simp only[yB,Zb4]at hr;subst hr;simpa only[MR] using hv
 |(k,x)::l,m,es,hr,hv=>by
  simp only[yB]at hr;split at hr
  ·rename_i y r h1 h2;injection hr with hr
   subst hr;simp only[MR]at hv ⊢;obtain⟨e,w,e1,hk,hx,hl⟩:=hv;exact⟨e,w,e1,hk,Ei h x y _ h1 hx,oc h l r w h2 hl⟩
  simp at hr
def kg{f:Nat->Option Nat}:∀ {l m:List V},V.renL f l=some m->m.length=l.length
 |[],m,h=>by simp only[V.renL,Zb4]at h;subst h;rfl
 |x::l,m,h=>by
  simp only[V.renL]at h;split at h
  ·rename_i y r h1 h2;injection h with h
   subst h;simp[kg h2]
  simp at h
def kj{f:Nat->Option Nat}:∀ {l m:List V},V.renL f l=some m->∀ (i:Nat) y,m[i]? = some y->∃ x,l[i]? = some x/\V.ren f x=some y
 |[],m,h,i,y,hy=>by simp only[V.renL,Zb4]at h;subst h;simp at hy
 |x::l,m,h,i,y,hy=>by
  simp only[V.renL]at h;split at h
  ·rename_i y' r h1 h2;injection h with h
   subst h
   cases i with
   |zero=>simp at hy;subst hy;exact⟨x,rfl,h1⟩
   |succ i=>simp at hy;simpa using kj h2 i y hy
  simp at h
def R1{q:Bool}{m:Md}(h:(XG q m).mut=true):m.mut=true/\q=false:=by
 cases q
 ·exact⟨h,rfl⟩
 simp[XG,Md.mut]at h
def Ej{ι ι':Inj}{q:Bool}{f:Nat->Option Nat}(h:∀ b i,f b=some i->ι' i=ι b){x y:Blk}{W:World}{p:Place}(hr:Blk.ren q f x=some y)(hx:BlkR ι W x p):BlkR ι' W y p:=by
 have hown:∀ m,Own m W p->Own (XG q m) W p:=fun m ho hm=>by
  have:=(R1 hm).2;subst this;exact ho hm
 cases x with
 |sc m n g=>
  simp only[Blk.ren,Zb4]at hr;subst hr;exact⟨hx.1,hx.2.1,hown _ hx.2.2⟩
 |vs m l=>
  simp only[Blk.ren,ZbK]at hr;obtain⟨r,hr,rfl⟩:=hr;refine⟨by rw[kg hr];exact hx.1,fun i z hz=>?_,hown _ hx.2.2⟩;obtain⟨w,hw,hrw⟩:=kj hr i z hz;obtain⟨v,hv,hvr⟩:=hx.2.1 i w hw;exact⟨v,hv,Ei h w z v hrw hvr⟩
 |mp m l=>
  simp only[Blk.ren,ZbK]at hr;obtain⟨r,hr,rfl⟩:=hr;obtain⟨es,ck,h1,h2,h3⟩:=hx;exact⟨es,ck,h1,oc h l r _ hr h2,h3⟩
 |dead=>
  simp only[Blk.ren,Zb4]at hr;subst hr;trivial
 |sit s k=>simp[Blk.ren]at hr
 |lp k rd caps st=>
  cases q with
  |true=>simp[Blk.ren]at hr
  |false=>
   simp only[Blk.ren,cond_false,ZbK]at hr;obtain⟨r,hr,rfl⟩:=hr;obtain⟨z,h1,h2,h3⟩:=hx;exact⟨z,h1,J6 h _ _ _ hr h2,h3⟩
def JD{q:Bool}{f:Nat->Option Nat}{x y:Blk}(hr:Blk.ren q f x=some y)(hm:y.mut=true):x.mut=true/\q=false:=by
 cases x with
 |sc m n g=>simp only[Blk.ren,Zb4]at hr;subst hr;exact R1 hm
 |vs m l=>simp only[Blk.ren,ZbK]at hr;obtain⟨r,_,rfl⟩:=hr;exact R1 hm
 |mp m l=>simp only[Blk.ren,ZbK]at hr;obtain⟨r,_,rfl⟩:=hr;exact R1 hm
 |dead=>simp only[Blk.ren,Zb4]at hr;subst hr;simp[Blk.mut]at hm
 |sit s k=>simp[Blk.ren]at hr
 |lp k rd caps st=>
  cases q with
  |true=>simp[Blk.ren]at hr
  |false=>exact⟨rfl,rfl⟩
def K6{q:Bool}{f:Nat->Option Nat}{x y:Blk}(hr:Blk.ren q f x=some y)(hm:y.live=true):x.live=true:=by
 cases x with
 |sc m n g=>rfl
 |vs m l=>rfl
 |mp m l=>rfl
 |dead=>simp only[Blk.ren,Zb4]at hr;subst hr;simp[Blk.live]at hm
 |sit s k=>rfl
 |lp k rd caps st=>rfl
def TP:∀ {l:List Nat} {b i:Nat},pos b l=some i->l[i]? = some b
 |[],b,i,h=>by simp[pos]at h
 |c::l,b,i,h=>by
  unfold pos at h
  cases hc:c==b
  ·rw[hc]at h;simp only[cond_false,ZbK]at h;obtain⟨j,hj,rfl⟩:=h;simpa using TP hj
  rw[hc]at h;simp only[cond_true,Zb4]at h;subst h;simp only[Zcu]at hc;simp[hc]
def Uu{q:Bool}{f:Nat->Option Nat}{σ:Heap}:∀ {l:List Nat} {r:List Blk},Y6 q f σ l=some r->r.length=l.length/\∀ (i:Nat) b,l[i]? = some b->∃ x y,σ[b]? = some x/\Blk.ren q f x=some y/\r[i]? = some y
 |[],r,h=>by simp[Y6]at h;subst h;simp
 |c::l,r,h=>by
  simp only[Y6]at h;split at h
  ·rename_i x s h1 h2;injection h with h
   subst h;obtain⟨e1,e2⟩:=Uu h2;refine⟨by simp[e1],fun i b hb=>?_⟩
   cases i with
   |zero=>
    simp at hb;subst hb;simp only[ZbI]at h1;obtain⟨y,hy,hr⟩:=h1;exact⟨y,x,hy,hr,rfl⟩
   |succ i=>simp at hb;simpa using e2 i b hb
  simp at h
def Ry:∀ {l:List Nat},nodup l=true->∀ {i j b:Nat},l[i]? = some b->l[j]? = some b->i=j
 |[],_,i,j,b,h,_=>by simp at h
 |c::l,hn,i,j,b,hi,hj=>by
  simp only[nodup,Zca,Zb6]at hn;have hmem:∀ k,l[k]? = some c->False:=fun k hk=>by
   have:=List.mem_of_getElem? hk;have h2:=hn.1;simp at h2;exact h2 this
  cases i with
  |zero=>
   cases j with
   |zero=>rfl
   |succ j=>simp at hi hj;subst hi;exact(hmem j hj).elim
  |succ i=>
   cases j with
   |zero=>simp at hi hj;subst hj;exact(hmem i hi).elim
   |succ j=>simp at hi hj;rw[Ry hn.2 hi hj]
def UZ:∀ (rs:List Nat) (l:List Blk) (σ:Heap),(XD σ rs l).length=σ.length
 |[],_,σ=>by simp[XD]
 |_::_,[],σ=>by simp[XD]
 |b::rs,x::l,σ=>by simp[XD,UZ rs l]
def EY:∀ (rs:List Nat) (l:List Blk) (σ:Heap) (b:Nat),(∀ i:Nat,rs[i]?≠some b)->(XD σ rs l)[b]? = σ[b]?
 |[],_,σ,b,_=>by simp[XD]
 |_::_,[],σ,b,_=>by simp[XD]
 |c::rs,x::l,σ,b,h=>by
  simp only[XD];rw[EY rs l _ b (fun i=>by simpa using h (i+1)),ZbX (fun e=>h 0 (by simp[e]))]
def tH:∀ (rs:List Nat) (l:List Blk) (σ:Heap),nodup rs=true->rs.length=l.length->∀ (i b:Nat),rs[i]? = some b->b<σ.length->(XD σ rs l)[b]? = l[i]?
 |[],_,σ,_,_,i,b,h,_=>by simp at h
 |c::rs,[],σ,_,hl,i,b,h,_=>by simp at hl
 |c::rs,x::l,σ,hn,hl,i,b,h,hb=>by
  simp only[XD];have hn':=hn;simp only[nodup,Zca,Zb6]at hn
  cases i with
  |zero=>
   simp at h;subst h;rw[EY rs l _ c (fun i hi=>by
    have:=Ry hn' (i:=0) (j:=i+1) (b:=c) (by simp) (by simpa using hi);omega),ZbL hb]
   simp
  |succ i=>
   simp at h;rw[tH rs l _ hn.2 (by simpa using hl) i b h (by simpa using hb)];simp
def EndR(ι:Inj)(v:V)(e:Ending):Prop :=
 match v with
 |.pan x=>∃ u,e=.panicked [{ v:=u,recovered:=false }]/\VR ι x u
 |v=>∃ u,e=.returned u/\VR ι v u
def EndR.ret{ι:Inj}{v:V}{e:Ending}(h:EndR ι v e)(hv:∀ x,v≠.pan x):∃ u,e=.returned u/\VR ι v u:=by
 cases v <;> first|exact h|exact absurd rfl (hv _)
def EndR.of{ι:Inj}{v:V}{u:Value}(h:VR ι v u):EndR ι v (.returned u):=by
 cases v <;> first|exact⟨u,rfl,h⟩|(simp only[VR]at h)
def WD[Bas](P:Program)(run:Runner):Prop:=∀ (f:FuncId) (args:List V) (σ:Heap) (v:V) (σ':Heap),run f args σ=some (v,σ')->U9 args=false ->
 (∃ fn,P.funcs[f]? = some fn ∧ fn.body.isSome = true ∧ fn.name ≠ "runtime.NumGoroutine") ∧
 ∀ (ι:Inj) (W:World) (as:List Value),RelW ι σ W->Dom ι σ->VRL ι args as ->
  Calls P f as.toArray W fun e W'=>∃ ι',EndR ι' v e/\Post ι σ W ι' σ' W'
def vv{ι:Inj}{args:List V}{as:List Value}(h:VRL ι args as):U9 args=false:=by
 match args,h with
 |[],_=>rfl
 |.pan x::l,h=>
  simp only[VRL]at h;obtain⟨v,r,_,hv,_⟩:=h;simp only[VR]at hv
 |.s _::_,_|.agg _ _::_,_|.aggv _::_,_|.ptr _ _ _::_,_|.pnil::_,_|.sl _ _ _ _ _::_,_|.slz::_,_|.snil::_,_|.map _::_,_|.mnil::_,_|.fn _ _::_,_|.fnil::_,_|.iface _ _::_,_|.inil::_,_|.tup _::_,_|.undef::_,_|.bm _ _::_,_|.yv _::_,_=>rfl
def XE(ι:Inj)(rs:List Nat):Inj:=fun i=>(rs[i]?).bind ι
def JH[Bas]{ι:Inj}{σ:Heap}{W:World}(hR:RelW ι σ W){rs:List Nat}{q:Bool}{σ0:Heap}(hp:Y6 q (pos · rs) σ rs=some σ0)(hn:nodup rs=true) :
  RelW (XE ι rs) σ0 W/\Dom (XE ι rs) σ0/\(∀ i:Nat,mutb σ0 i->q=false/\∃ b:Nat,rs[i]? = some b/\mutb σ b)/\(∀ i:Nat,X9 σ0 i->∃ b:Nat,rs[i]? = some b/\X9 σ b):=by
 obtain⟨hlen,hget⟩:=Uu hp
 have hpos:∀ b i,pos b rs=some i->XE ι rs i=ι b:=fun b i h=>by simp[XE,TP h]
 have horig:∀ (i:Nat) (y:Blk),σ0[i]? = some y->∃ (b:Nat) (x:Blk),rs[i]? = some b/\σ[b]? = some x/\Blk.ren q (pos · rs) x=some y:=by
  intro i y hy;have hi:i<rs.length:=by
   rcases Zcr i rs.length with h|h
   ·exact h
   rw[ZbQ (by omega)]at hy;simp at hy
  obtain⟨x,y',h1,h2,h3⟩:=hget i _ (ZbH hi);rw[hy]at h3;injection h3 with h3
  subst h3;exact⟨_,x,ZbH hi,h1,h2⟩
 have hmut:∀ i:Nat,mutb σ0 i->q=false/\∃ b:Nat,rs[i]? = some b/\mutb σ b:=by
  rintro i ⟨y,hy,hm⟩;obtain⟨b,x,h1,h2,h3⟩:=horig i y hy;have:=JD h3 hm;exact⟨this.2,b,h1,x,h2,this.1⟩
 have hlive:∀ i:Nat,X9 σ0 i->∃ b:Nat,rs[i]? = some b/\X9 σ b:=by
  rintro i ⟨y,hy,hm⟩;obtain⟨b,x,h1,h2,h3⟩:=horig i y hy;exact⟨b,h1,x,h2,K6 h3 hm⟩
 have hsub:∀ (i:Nat) p,XE ι rs i=some p->∃ b:Nat,rs[i]? = some b/\ι b=some p:=by
  intro i p h;unfold XE at h;simpa only[ZbI] using h
 refine⟨⟨fun i p h=>?_,fun i p y h hy=>?_,fun i j p p' h h' hne h1 h2=>?_,fun i p h hm=>?_,hR.bsz,hR.bas⟩,fun i p h=>?_,hmut,hlive⟩
 ·obtain⟨b,_,hb⟩:=hsub i p h;exact hR.lt b p hb
 ·obtain⟨b,hb1,hb2⟩:=hsub i p h;obtain⟨b',x,h1,h2,h3⟩:=horig i y hy;rw[hb1]at h1;injection h1 with h1
  subst h1;exact Ej hpos h3 (hR.blk b p x hb2 h2)
 ·obtain⟨b,hb1,hb2⟩:=hsub i p h;obtain⟨b',hb1',hb2'⟩:=hsub j p' h';obtain⟨_,c,hc1,hc2⟩:=hmut i h1;obtain⟨c',hc1',hc2'⟩:=hlive j h2;rw[hb1]at hc1;injection hc1 with hc1
  subst hc1;rw[hb1']at hc1';injection hc1' with hc1'
  subst hc1';exact hR.sep b b' p p' hb2 hb2' (fun e=>by subst e;exact hne (Ry hn hb1 hb1')) hc2 hc2'
 ·obtain⟨b,hb1,hb2⟩:=hsub i p h;obtain⟨_,c,hc1,hc2⟩:=hmut i hm;rw[hb1]at hc1;injection hc1 with hc1
  subst hc1;exact hR.gap b p hb2 hc2
 obtain⟨b,hb1,_⟩:=hsub i p h;rw[hlen];rcases Zcr i rs.length with h|h
 ·exact h
 rw[ZbQ h]at hb1;simp at hb1
def Vz(ι ι1:Inj)(n:Nat)(ns:List Nat):Inj:=fun b=>if b<n then ι b else match ns[b-n]? with
 |some i=>ι1 i
 |none=>ι b
theorem G{α:Sort _}{a:α}:a=a:=rfl
end Go.Am
