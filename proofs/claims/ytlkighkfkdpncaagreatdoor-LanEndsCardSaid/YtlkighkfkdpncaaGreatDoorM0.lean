/- Texts of this seat,joined. -/
import Derived.ProofKit
import Derived.Test.YtlkighkfkdpncaaGreatDoorProg
import Derived.KernelRfl
import Derived.Test.YtlkighkfkdpncaaGreatDoorAm2
set_option linter.defProp false
noncomputable section
namespace Go.Am
open Go
abbrev Zh(k:Nat)(l:List O):Ins:=.h (.call (.k (.fn k [])) l)
abbrev Zi(k:Nat)(l:List O):Ins:=.h (.callq (.k (.fn k [])) l)
abbrev ZR(x:Int):O:=.k (.s (.int .i64 x))
abbrev ZS(x:Bool):O:=.k (.s (.bool x))
abbrev ZV(d x:Nat):I:=⟨some d,none,.p (.mv (.t x))⟩
abbrev ZW(d g:Nat)(b:Bool)(x:Nat):I:=⟨some d,some (g,b),.p (.mv (.t x))⟩
abbrev ZX(d:Nat)(x:Int):I:=⟨some d,none,.p (.mv (ZR x))⟩
abbrev ZY(d:Nat)(x:Bool):I:=⟨some d,none,.p (.mv (ZS x))⟩
abbrev ZZ(d:Nat)(a:Bool)(m x:Nat):I:=⟨some d,none,.h (.load a m (.t x))⟩
abbrev Z0(d g:Nat)(b:Bool)(a:Bool)(m x:Nat):I:=⟨some d,some (g,b),.h (.load a m (.t x))⟩
abbrev Z1(m x y:Nat):I:=⟨none,none,.h (.store m (.t x) (.t y))⟩
abbrev Z2(d o m x:Nat):I:=⟨some d,none,.p (.fa o m (.t x))⟩
abbrev Z3(d g:Nat)(b:Bool)(o m x:Nat):I:=⟨some d,some (g,b),.p (.fa o m (.t x))⟩
abbrev Z4(d:Nat)(p:BinOp)(x y:Nat):I:=⟨some d,none,.p (.bin p (.t x) (.t y))⟩
abbrev Z5(d:Nat)(p:BinOp)(x:Nat)(y:Int):I:=⟨some d,none,.p (.bin p (.t x) (ZR y))⟩
abbrev Z6(d g:Nat)(b:Bool)(p:BinOp)(x y:Nat):I:=⟨some d,some (g,b),.p (.bin p (.t x) (.t y))⟩
abbrev Z7(d g:Nat)(b:Bool)(p:BinOp)(x:Nat)(y:Int):I:=⟨some d,some (g,b),.p (.bin p (.t x) (ZR y))⟩
abbrev Z8(d x y:Nat):I:=⟨some d,none,.p (.pick (.t x) (.t y) (ZS false))⟩
abbrev Z9(d x y:Nat):I:=⟨some d,none,.p (.pick (.t x) (ZS true) (.t y))⟩
abbrev ZT(d g:Nat)(b:Bool)(i:Ins):I:=⟨some d,some (g,b),i⟩
abbrev ZU(d:Nat)(i:Ins):I:=⟨some d,none,i⟩
def ZI{a b:Bool}(h:a=b):V.s (S.bool a)=V.s (S.bool b):=congrArg (fun b=>V.s (S.bool b)) h
def ZJ{a b:Int}(h:a=b):V.s (S.int .i64 a)=V.s (S.int .i64 b):=congrArg (fun b=>V.s (S.int .i64 b)) h
def ZK{N:Nat}{f:FE}{L:HA}{x:Nat}{b:Bool}(h:rd N f x=.s (.bool b)):RS N f L [.tmp x] [.s (.bool b)]:=YH h YW
def ZL{N:Nat}{f:FE}{L:HA}{x:Nat}{k:IntKind}{b:Int}(h:rd N f x=.s (.int k b)):RS N f L [.tmp x] [.s (.int k b)]:=YH h YW
def ZM{α:Type}{a:α}{l:List α}:a∈a::l:=.head _
def ZN{α:Type}{a b:α}{l:List α}:b∈a::b::l:=.tail _ (.head _)
def ZO{α:Type}{a b c:α}{l:List α}:c∈a::b::c::l:=.tail _ (.tail _ (.head _))
def ZP{α:Type}{a b c d:α}{l:List α}:d∈a::b::c::d::l:=.tail _ (.tail _ (.tail _ (.head _)))
def ZQ{a:AF}{xs:List V}(h:Nat.ble xs.length a.nt=true):K4 a xs=E a.nt (YI xs):=entry_E (ZbT h)
section
variable{A:AP}{N:Nat}{l:List I}{f:FE}{n:Nat}{L:HA}{K:KN}{Zp:V->KN}{d:Nat}
def Zj{x:O}{kd:IntKind}{a:Int}(h:x.fv N f=.s (.int kd a))(k:WO A N l (upd f d (.s (.int kd a))) n L K Zp):WO A N (⟨some d,none,.p (.mv x)⟩::l) f n L K Zp:=Ed h k
def Zk{x:O}{a:Bool}(h:x.fv N f=.s (.bool a))(k:WO A N l (upd f d (.s (.bool a))) n L K Zp):WO A N (⟨some d,none,.p (.mv x)⟩::l) f n L K Zp:=Ed h k
def Zl{x:O}{b o z:Nat}(h:x.fv N f=.ptr b o z)(k:WO A N l (upd f d (.ptr b o z)) n L K Zp):WO A N (⟨some d,none,.p (.mv x)⟩::l) f n L K Zp:=Ed h k
def Zm{x:O}{b:Nat}{g:Nat->S}(h:x.fv N f=.agg b g)(k:WO A N l (upd f d (.agg b g)) n L K Zp):WO A N (⟨some d,none,.p (.mv x)⟩::l) f n L K Zp:=Ed h k
def Zn{x:O}{b o m z:Nat}{c:Cp}(h:x.fv N f=.sl b o m z c)(k:WO A N l (upd f d (.sl b o m z c)) n L K Zp):WO A N (⟨some d,none,.p (.mv x)⟩::l) f n L K Zp:=Ed h k
def Zo{x:O}{y:List V}(h:x.fv N f=.tup y)(k:WO A N l (upd f d (.tup y)) n L K Zp):WO A N (⟨some d,none,.p (.mv x)⟩::l) f n L K Zp:=Ed h k
def Zb(N:Nat)(f:FE)(c a b:O):V:=match c.fv N f with
 |.s (.bool t)=>bif t then a.fv N f else b.fv N f
 |_=>.undef
def Zq{c a b:O}{r:Bool}(h:Zb N f c a b=.s (.bool r))(k:WO A N l (upd f d (.s (.bool r))) n L K Zp):WO A N (⟨some d,none,.p (.pick c a b)⟩::l) f n L K Zp:=by
 unfold Zb at h;split at h
 · rename_i t e;exact WO_pick e h k
 cases h
def Zc(N:Nat)(f:FE)(op:BinOp)(x y:O):Option S:=match x.fv N f,y.fv N f with
 |.s a,.s b=>Wc op a b
 |_,_=>none
def Zr{op:BinOp}{x y:O}{r:Bool}(h:Zc N f op x y=some (.bool r))(k:WO A N l (upd f d (.s (.bool r))) n L K Zp):WO A N (⟨some d,none,.p (.bin op x y)⟩::l) f n L K Zp:=by
 unfold Zc at h;split at h
 · rename_i a b e1 e2;exact Re e1 e2 h k
 cases h
def Zs{x y:O}{a b:Int}(hx:x.fv N f=.s (.int .i64 a))(hy:y.fv N f=.s (.int .i64 b))(k:WO A N l (upd f d (.s (.int .i64 (a+b)))) n L K Zp)(hr:-9223372036854775808<=a+b/\a+b<=9223372036854775807:=by omega):WO A N (⟨some d,none,.p (.bin .add x y)⟩::l) f n L K Zp:=Ur hx hy hr k
def Zt{x y:O}{a b:Int}(hx:x.fv N f=.s (.int .i64 a))(hy:y.fv N f=.s (.int .i64 b))(k:WO A N l (upd f d (.s (.int .i64 (a-b)))) n L K Zp)(hr:-9223372036854775808<=a-b/\a-b<=9223372036854775807:=by omega):WO A N (⟨some d,none,.p (.bin .sub x y)⟩::l) f n L K Zp:=jJ hx hy hr k
def Zu{x y:O}{a b:Int}(hx:x.fv N f=.s (.int .i64 a))(hy:y.fv N f=.s (.int .i64 b))(k:WO A N l (upd f d (.s (.int .i64 (a/b)))) n L K Zp)(hr:0<=a/\a<=9223372036854775807/\1<=b:=by omega):WO A N (⟨some d,none,.p (.bin .quo x y)⟩::l) f n L K Zp:=py hx hy hr k
def Zv{x y:O}{a b:Int}(hx:x.fv N f=.s (.int .i64 a))(hy:y.fv N f=.s (.int .i64 b))(k:WO A N l (upd f d (.s (.int .i64 (a%b)))) n L K Zp)(hr:0<=a/\1<=b:=by omega):WO A N (⟨some d,none,.p (.bin .rem x y)⟩::l) f n L K Zp:=WO_rem hx hy hr k
def Zw{len z:Nat}{x i:O}{b o z':Nat}{kd:IntKind}{j:Int}(hx:x.fv N f=.ptr b o z')(hi:i.fv N f=.s (.int kd j))(hz:Nat.ble (len*z) z'=true)(k:WO A N l (upd f d (.ptr b (o+j.toNat*z) z)) n L K Zp)(hj:0<=j/\j<len:=by omega):WO A N (⟨some d,none,.p (.ixa len z x i)⟩::l) f n L K Zp:=Vr hx hi hz hj k
def Zx{z:Nat}{x i:O}{b o m:Nat}{c:Cp}{kd:IntKind}{j:Int}(hx:x.fv N f=.sl b o m z c)(hi:i.fv N f=.s (.int kd j))(k:WO A N l (upd f d (.ptr b (o+j.toNat*z) z)) n L K Zp)(hj:0<=j/\j<m:=by omega):WO A N (⟨some d,none,.p (.ixs z x i)⟩::l) f n L K Zp:=Dq hx hi hj k
def Zd(N:Nat)(f:FE)(x:O)(off z:Nat):Option (Nat×Nat):=match x.fv N f with
 |.ptr b o z'=>bif Nat.ble (off+z) z' then some (b,o+off) else none
 |_=>none
def Zy{off z:Nat}{x:O}{b:Nat}(h:Zd N f x off z=some (b,0))(k:WO A N l (upd f d (.ptr b 0 z)) n L K Zp):WO A N (⟨some d,none,.p (.fa off z x)⟩::l) f n L K Zp:=by
 unfold Zd at h;split at h
 · rename_i b o z' e
   cases hb:Nat.ble (off+z) z' with
   |true=>
    rw[hb,cond_true]at h;injection h with h
    injection h with h1 h2
    subst h1;exact sX e hb h2 k
   |false=>rw[hb]at h;cases h
 cases h
def Zz{off z:Nat}{x:O}{b:Nat}(h:Zd N f x off z=some (b,1))(k:WO A N l (upd f d (.ptr b 1 z)) n L K Zp):WO A N (⟨some d,none,.p (.fa off z x)⟩::l) f n L K Zp:=by
 unfold Zd at h;split at h
 · rename_i b o z' e
   cases hb:Nat.ble (off+z) z' with
   |true=>
    rw[hb,cond_true]at h;injection h with h
    injection h with h1 h2
    subst h1;exact sX e hb h2 k
   |false=>rw[hb]at h;cases h
 cases h
def ZA{X:Nat->KN}{R:KN}{c:O}{a b:AC}(hc:c.fv N f=.s (.bool true))(h:WP A N a f n L K X R Zp):WP A N (.cond c a b) f n L K X R Zp:=wX hc (fun _=>h) (fun h=>nomatch h)
def ZB{X:Nat->KN}{R:KN}{c:O}{a b:AC}(hc:c.fv N f=.s (.bool false))(h:WP A N b f n L K X R Zp):WP A N (.cond c a b) f n L K X R Zp:=wX hc (fun h=>nomatch h) (fun _=>h)
def ZG(N:Nat)(f:FE)(t:Nat)(w:Bool):Bool:=match rd N f t with
 |.s (.bool b)=>!(b==w)
 |_=>false
def ZH{d:Option Nat}{t:Nat}{w:Bool}{i:Ins}(h:ZG N f t w=true)(k:WO A N l (Xc f d (.tup [])) n L K Zp):WO A N (⟨d,some (t,w),i⟩::l) f n L K Zp:=by
 unfold ZG at h;split at h
 · rename_i b e;exact WO_gf e (by simpa using h) k
 cases h
def ZC{d0:Option Nat}{t0:Nat}{w0:Bool}{i0:Ins}(h:(ZG N f t0 w0)=true)(k:WO A N l (Xc f d0 (.tup [])) n L K Zp):WO A N (⟨d0,some (t0,w0),i0⟩::l) f n L K Zp:=by
 exact ZH h k
def ZD{d0 d1:Option Nat}{t0 t1:Nat}{w0 w1:Bool}{i0 i1:Ins}(h:(ZG N f t0 w0&&ZG N (Xc f d0 (.tup [])) t1 w1)=true)(k:WO A N l (Xc (Xc f d0 (.tup [])) d1 (.tup [])) n L K Zp):WO A N (⟨d0,some (t0,w0),i0⟩::⟨d1,some (t1,w1),i1⟩::l) f n L K Zp:=by
 simp only[Zca]at h;exact ZH h.1 (ZH h.2 k)
def ZE{d0 d1 d2 d3:Option Nat}{t0 t1 t2 t3:Nat}{w0 w1 w2 w3:Bool}{i0 i1 i2 i3:Ins}(h:(ZG N f t0 w0&&ZG N (Xc f d0 (.tup [])) t1 w1&&ZG N (Xc (Xc f d0 (.tup [])) d1 (.tup [])) t2 w2&&ZG N (Xc (Xc (Xc f d0 (.tup [])) d1 (.tup [])) d2 (.tup [])) t3 w3)=true)(k:WO A N l (Xc (Xc (Xc (Xc f d0 (.tup [])) d1 (.tup [])) d2 (.tup [])) d3 (.tup [])) n L K Zp):WO A N (⟨d0,some (t0,w0),i0⟩::⟨d1,some (t1,w1),i1⟩::⟨d2,some (t2,w2),i2⟩::⟨d3,some (t3,w3),i3⟩::l) f n L K Zp:=by
 simp only[Zca]at h;exact ZH h.1.1.1 (ZH h.1.1.2 (ZH h.1.2 (ZH h.2 k)))
def ZF{d0 d1 d2 d3 d4 d5 d6 d7:Option Nat}{t0 t1 t2 t3 t4 t5 t6 t7:Nat}{w0 w1 w2 w3 w4 w5 w6 w7:Bool}{i0 i1 i2 i3 i4 i5 i6 i7:Ins}(h:(ZG N f t0 w0&&ZG N (Xc f d0 (.tup [])) t1 w1&&ZG N (Xc (Xc f d0 (.tup [])) d1 (.tup [])) t2 w2&&ZG N (Xc (Xc (Xc f d0 (.tup [])) d1 (.tup [])) d2 (.tup [])) t3 w3&&ZG N (Xc (Xc (Xc (Xc f d0 (.tup [])) d1 (.tup [])) d2 (.tup [])) d3 (.tup [])) t4 w4&&ZG N (Xc (Xc (Xc (Xc (Xc f d0 (.tup [])) d1 (.tup [])) d2 (.tup [])) d3 (.tup [])) d4 (.tup [])) t5 w5&&ZG N (Xc (Xc (Xc (Xc (Xc (Xc f d0 (.tup [])) d1 (.tup [])) d2 (.tup [])) d3 (.tup [])) d4 (.tup [])) d5 (.tup [])) t6 w6&&ZG N (Xc (Xc (Xc (Xc (Xc (Xc (Xc f d0 (.tup [])) d1 (.tup [])) d2 (.tup [])) d3 (.tup [])) d4 (.tup [])) d5 (.tup [])) d6 (.tup [])) t7 w7)=true)(k:WO A N l (Xc (Xc (Xc (Xc (Xc (Xc (Xc (Xc f d0 (.tup [])) d1 (.tup [])) d2 (.tup [])) d3 (.tup [])) d4 (.tup [])) d5 (.tup [])) d6 (.tup [])) d7 (.tup [])) n L K Zp):WO A N (⟨d0,some (t0,w0),i0⟩::⟨d1,some (t1,w1),i1⟩::⟨d2,some (t2,w2),i2⟩::⟨d3,some (t3,w3),i3⟩::⟨d4,some (t4,w4),i4⟩::⟨d5,some (t5,w5),i5⟩::⟨d6,some (t6,w6),i6⟩::⟨d7,some (t7,w7),i7⟩::l) f n L K Zp:=by
 simp only[Zca]at h;exact ZH h.1.1.1.1.1.1.1 (ZH h.1.1.1.1.1.1.2 (ZH h.1.1.1.1.1.2 (ZH h.1.1.1.1.2 (ZH h.1.1.1.2 (ZH h.1.1.2 (ZH h.1.2 (ZH h.2 k)))))))
def Za{X:Nat->KN}{R:KN}{c:AC}(d:Nat){v:V}(h:f d=v)(k:WP A N c (upd f d v) n L K X R Zp):WP A N c f n L K X R Zp:=tD h k
def Ze{X:Nat->KN}{R:KN}{c:AC}(h:WO A N l f n L (fun f n L=>WP A N c f n L K X R Zp) Zp):WP A N (.seq (.ops l) c) f n L K X R Zp:=xI (jN h)
def Zf{X:Nat->KN}{R:KN}{c:AC}{Zq:V->KN}(h:WO A N l f n L (fun f n L=>WP A N c f n L K X R Zp) Zp):WO A N [] f n L (fun f n L=>WP A N (.seq (.ops l) c) f n L K X R Zp) Zq:=vE (xI (jN h))
def Zg{X:Nat->KN}{R:KN}{Zq:V->KN}{Q:FE->Nat->HA->List V->Prop}{x:Nat}{b:Bool}(h:rd N f x=.s (.bool b))(k:Q f n L [.s (.bool b)]):WO A N [] f n L (fun f n L=>WP A N .ret f n L R X (fun f n L=>∃ vs,RS N f L [.tmp x] vs/\Q f n L vs) Zp) Zq:=vE (gv ⟨_,YH h YW,k⟩)
end
abbrev Ya:=@WO_gf
abbrev Yb:=@WO_gt
abbrev Yc:=@vE
abbrev Yd:=@sX
abbrev Ye:=@xI
abbrev Yf:=@jN
abbrev Yg:=@WP_par
abbrev Yh:=@WP_skip
abbrev Yi:=@gv
abbrev Yj:=@wX
abbrev Yk:=@Zba
abbrev Yl:=@tD
abbrev Ym:=@WO_ldI
abbrev Yn:=@oQ
abbrev Yo:=@WO_ldA0
abbrev Yp:=@WO_ldAI
abbrev Yq:=@Ed
abbrev Yr:=@Re
abbrev Ys:=@WO_case
abbrev Yt:=@Zbg
abbrev Yu:=@oy
abbrev Yv:=@WO_un
abbrev Yw:=@pq
abbrev Yx:=@WO_eqaC
abbrev Yy:=@gk
abbrev Yz:=@WO_stA
abbrev YA:=@WO_stI
abbrev YB:=@pO
abbrev YC:=@WO_boxA
abbrev YD:=@WO_ext
abbrev YE:=@sY
abbrev YF:=@ZbT
end Go.Am
namespace Go.Am
open Go Go.RowKit Go.ChangeShapes Go.WideShapes
def E3{H:Type}{enc:TypeId×Value->H}{P:Program}(hl:laidOutB P=true){W W':World}(hb:Below W.heap.size W W'):∀ {ts:List TypeId} {vs:List Value} {ds:List (DataW H)} {ps:List MemPlace},
  DataW.TrodAll enc P W 0 (fun _=>true) true ts vs ds ps→(ts.all fun t=>P.readableRec t&&decide (t<P.types.size))=true→(∀ x∈ps,x.block<W.heap.size) →
  DataW.TrodAll enc P W' 0 (fun b=>decide (b<W.heap.size)) true ts vs ds ps
 |[],[],[],ps,h,_,_=>h
 |t::ts,v::vs,d::ds,ps,h,hr,hlt=>by
  obtain⟨p,q,h1,h2,rfl⟩:=h;simp only[List.all_cons,Zca,Zb7]at hr;exact⟨p,q,Below.trod hl hr.1.1 hr.1.2 h1 hb (fun x hx=>hlt x (Zcg.2 (.inl hx))),E3 hl hb h2 hr.2 (fun x hx=>hlt x (Zcg.2 (.inr hx))),G⟩
 |[],[],_::_,_,h,_,_=>h.elim
 |[],_::_,_,_,h,_,_=>h.elim
 |_::_,[],_,_,h,_,_=>h.elim
 |_::_,_::_,[],_,h,_,_=>h.elim
def rO[Bas](A:AP)(f:FuncId)(W:World)(args:Array Value):Prop :=
 ∃ ι σ av σ',RelW ι σ W/\Dom ι σ/\VRL ι av args.toList/\(∀ b,¬ mutb σ b)/\Run A f av σ=some (.s (.bool true),σ')
def vf[Bas]{H:Type}{enc:TypeId×Value->H}{P:Program}{A:AP}(hr:WD P (Run A))(hl:laidOutB P=true){f:FuncId}{fn:Func}{s:ChangeSpec}{apart:Bool}{W:World}{args:Array Value}{ds gs:List (DataW H)}{before:List MemPlace}{tb:TypeId}
  (hW:DataW.Whole enc P fn.params.toList s.vars apart W args.toList ds gs before) (hv:s.vars=[]) (hs:s.fn H ds={ results:=[.lit (.bool true)],args:=ds }) (hrt:fn.resultTypes=#[tb]) (htb:P.underlying tb=some .bool)
  (hts:(fn.params.toList.all fun t=>P.readableRec t&&decide (t<P.types.size))=true) (ho:rO A f W args) :
  Calls P f args W fun e W'=>∃ v,e=.returned v/\s.post enc P fn apart true false false W args v W':=by
 obtain⟨ι,σ,av,σ',hR,hD,hvr,hro,hrun⟩:=ho
 have h:=pm hr hrun hR hD hvr hro
 rw[Array.toArray_toList]at h
 refine h.mono ?_
 rintro e W' ⟨rfl,hb⟩
 refine⟨_,G,?_⟩
 have hlt:=hW.lt
 have hW':=hW
 obtain⟨p,q,hA,hV,rfl,hfz,hnd⟩:=hW'
 rw[hv]at hV
 have hgs:gs=[]/\q=[]:=by
  cases gs with
  |nil=>exact⟨rfl,hV⟩
  |cons _ _=>exact hV.elim
 obtain⟨rfl,rfl⟩:=hgs
 rw[Zcf]at hlt
 refine⟨ds,[],p++[],[],p,[],hW,?_,?_,?_,hb.frame _,fun h=>nomatch h⟩
 ·rw[Zcf,hs,hrt];exact trodAll_mk1 ⟨1,by simp[DataW.trod,Value.cells,htb]⟩
 ·rw[Zcf,hs];exact E3 hl hb hA hts hlt
 rw[Zcf,hs,hv];rfl
def R5:Inj:=fun _=>none
def kB(W:World):@RelW ⟨W⟩ R5 [] W:=@RelW.mk ⟨W⟩ _ _ _ (fun _ _ h=>by simp[R5]at h) (fun _ _ _ h=>by simp[R5]at h) (fun _ _ _ _ h=>by simp[R5]at h) (fun _ _ h=>by simp[R5]at h) (Zcs _) (fun _ _=>rfl)
def vC:Dom R5 []:=fun _ _ h=>by simp[R5]at h
def ro_none:∀ b,¬ mutb [] b:=fun b ⟨x,hx,_⟩=>by simp at hx
end Go.Am
namespace Go.Am
open Go Go.RowKit Go.ChangeShapes Go.WideShapes
end Go.Am
namespace Go.Proofs.YtlkighkfkdpncaaGreatDoor
open Go Go.Am
set_option maxRecDepth 100000
def a3:AF:=⟨32,[.tmp 4],
 (.seq (.ops [ZU 2 (.h (.box (.t 0))),ZU 3 (.h (.box (.t 1))),ZY 4 false])
 (.seq (.ops [ZZ 10 true 133 2,ZZ 11 true 3 3,ZU 12 (Zh 8 [(.t 10),(.t 11)]),ZV 9 12,ZU 13 (.p (.ext (.t 9) 0)),ZU 14 (.p (.ext (.t 9) 1)),ZV 5 13,ZV 6 14])
 (.seq (.ops [ZZ 16 true 133 2,ZZ 17 true 3 3,ZU 18 (Zh 9 [(.t 16),(.t 17)]),ZV 15 18,ZU 19 (.p (.ext (.t 15) 0)),ZU 20 (.p (.ext (.t 15) 1)),ZV 7 19,ZV 8 20])
 (.seq (.ops [ZV 21 5,ZV 22 7,Z4 23 .eql 21 22,ZV 24 23,ZW 25 24 true 6,ZW 26 24 true 8,Z6 27 24 true .eql 25 26,Z8 28 24 27,ZV 29 28,ZT 30 29 true (Zh 10 []),Z8 31 29 30,ZV 4 31])
 .ret))))⟩
def a6:AF:=⟨210,[.tmp 0],
 (.seq (.ops [ZY 0 false])
 (.seq (.seq (.ops [ZX 1 0])
 (.block 0 (.loop (.seq (.seq (.ops [ZV 25 1,Z5 26 .lss 25 4356])
 (.cond (.t 26)
 .skip
 (.exit 0)))
 (.seq (.block 1 (.seq (.ops [ZV 29 1,Z5 30 .rem 29 66,Z5 31 .sub 30 1,ZV 32 1,Z5 33 .quo 32 66,Z5 34 .sub 33 1,ZV 35 1,Z5 36 .rem 35 8,Z5 37 .sub 36 1,ZU 38 (.p (.build (.ints 3) [(0,1,(.t 31)),(1,1,(.t 34)),(2,1,(.t 37))])),ZU 2 (.h (.alloc (.ints 3))),Z1 3 2 38])
 (.seq (.ops [ZZ 40 true 3 2,ZU 41 (.h (.mksl 1 3 (.ints 3) [(0,(.t 40))])),ZU 42 (Zh 12 [(.t 41)]),ZV 39 42,ZU 43 (.p (.ext (.t 39) 0)),ZU 44 (.p (.ext (.t 39) 1)),ZV 3 43,ZV 4 44])
 (.seq (.ops [ZZ 46 true 3 2,ZU 47 (.h (.mksl 1 3 (.ints 3) [(0,(.t 46))])),ZU 48 (Zh 14 [(.t 47)]),ZV 45 48,ZU 49 (.p (.ext (.t 45) 0)),ZU 50 (.p (.ext (.t 45) 1)),ZV 5 49,ZV 6 50])
 (.seq (.ops [ZV 51 3,ZV 52 5,Z4 53 .neq 51 52,ZV 54 53,ZW 55 54 false 4,ZW 56 54 false 6,Z6 57 54 false .neq 55 56,Z9 58 54 57,ZV 59 58,ZW 60 59 false 4,Z7 61 59 false .eql 60 0,ZW 62 59 false 61,ZW 63 62 true 1,Z7 64 62 true .rem 63 3,Z7 65 62 true .eql 64 0,ZT 66 59 false (.p (.pick (.t 62) (.t 65) (ZS false))),ZW 67 59 false 66,ZW 68 67 true 3,ZT 69 67 true (Zh 16 [(.t 68)]),ZT 70 67 true (.p (.un .not (.t 69))),ZT 71 59 false (.p (.pick (.t 67) (.t 70) (ZS false))),Z9 72 59 71])
 (.cond (.t 72)
 (.seq (.ops [ZY 0 false])
 .ret)
 .skip))))))
 (.ops [ZV 27 1,Z5 28 .add 27 1,ZV 1 28]))))))
 (.seq (.ops [⟨some 7,none,.p (.mv (.k (.s (.str ⟨#[101,50,101,52,32,101,55,101,56,113,32,97,49,104,56,110,32,104,49,97,56]⟩))))⟩])
 (.seq (.ops [⟨some 8,none,.p (.mv (.k (.s (.str ⟨#[97,49,104,105,57,32,113,110,107,81,48,45,0,255]⟩))))⟩])
 (.seq (.seq (.ops [ZX 9 0])
 (.block 2 (.loop (.seq (.seq (.ops [ZV 73 9,ZV 74 7,ZU 75 (.p (.lenS (.t 74))),Z4 76 .leq 73 75])
 (.cond (.t 76)
 .skip
 (.exit 2)))
 (.seq (.block 3 (.seq (.seq (.ops [ZV 79 7,ZV 80 9,ZU 81 (.p (.slS (.t 79) none (some (.t 80)))),ZU 82 (Zh 16 [(.t 81)]),ZU 83 (.p (.un .not (.t 82))),ZV 84 83,ZW 85 84 false 7,ZW 86 84 false 9,ZT 87 84 false (.p (.slS (.t 85) (some (.t 86)) none)),ZT 88 84 false (Zh 16 [(.t 87)]),ZT 89 84 false (.p (.un .not (.t 88))),Z9 90 84 89])
 (.cond (.t 90)
 (.seq (.ops [ZY 0 false])
 .ret)
 .skip))
 (.seq (.ops [ZX 10 0])
 (.block 4 (.loop (.seq (.seq (.ops [ZV 91 10,ZV 92 8,ZU 93 (.p (.lenS (.t 92))),Z4 94 .lss 91 93])
 (.cond (.t 94)
 .skip
 (.exit 4)))
 (.seq (.block 5 (.seq (.par [ZV 97 7,ZV 98 9,ZU 99 (.p (.slS (.t 97) none (some (.t 98)))),ZV 100 8,ZV 101 10,ZV 102 10,Z5 103 .add 102 1,ZU 104 (.p (.slS (.t 100) (some (.t 101)) (some (.t 103)))),Z4 105 .add 99 104,ZV 106 7,ZV 107 9,ZU 108 (.p (.slS (.t 106) (some (.t 107)) none)),Z4 109 .add 105 108,ZU 110 (Zh 16 [(.t 109)]),ZU 111 (.p (.un .not (.t 110))),ZV 112 111,ZW 113 112 false 9,ZW 114 112 false 7,ZT 115 112 false (.p (.lenS (.t 114))),Z6 116 112 false .lss 113 115,ZW 117 112 false 116,ZW 118 117 true 7,ZW 119 117 true 9,ZT 120 117 true (.p (.slS (.t 118) none (some (.t 119)))),ZW 121 117 true 8,ZW 122 117 true 10,ZW 123 117 true 10,Z7 124 117 true .add 123 1,ZT 125 117 true (.p (.slS (.t 121) (some (.t 122)) (some (.t 124)))),Z6 126 117 true .add 120 125,ZW 127 117 true 7,ZW 128 117 true 9,Z7 129 117 true .add 128 1,ZT 130 117 true (.p (.slS (.t 127) (some (.t 129)) none)),Z6 131 117 true .add 126 130,ZT 132 117 true (Zh 16 [(.t 131)]),ZT 133 117 true (.p (.un .not (.t 132))),ZT 134 112 false (.p (.pick (.t 117) (.t 133) (ZS false))),Z9 135 112 134])
 (.cond (.t 135)
 (.seq (.ops [ZY 0 false])
 .ret)
 .skip)))
 (.ops [ZV 95 10,Z5 96 .add 95 1,ZV 10 96]))))))))
 (.ops [ZV 77 9,Z5 78 .add 77 1,ZV 9 78]))))))
 (.seq (.ops [ZU 11 (.p (.mv (.k .snil)))])
 (.seq (.block 6 (.loop (.seq (.seq (.ops [ZV 136 11,ZU 137 (.p (.len (.t 136))),Z5 138 .leq 137 8192])
 (.cond (.t 138)
 .skip
 (.exit 6)))
 (.block 7 (.ops [ZV 139 11,ZU 140 (.p (.build (.ints 3) [(0,1,(ZR 12)),(1,1,(ZR 28))])),ZU 141 (.h (.mksl 1 3 (.ints 3) [(0,(.t 140))])),ZU 142 (.h (.append 3 24 (.t 139) (.t 141))),ZV 11 142])))))
 (.seq (.ops [ZV 144 11,ZU 145 (.p (.slV 3 (.t 144) none (some (ZR 8192)))),ZU 146 (Zh 12 [(.t 145)]),ZV 143 146,ZU 147 (.p (.ext (.t 143) 0)),ZU 148 (.p (.ext (.t 143) 1)),ZV 12 147,ZV 13 148])
 (.seq (.ops [ZV 150 11,ZU 151 (Zh 12 [(.t 150)]),ZV 149 151,ZU 152 (.p (.ext (.t 149) 0)),ZU 153 (.p (.ext (.t 149) 1)),ZV 14 152,ZV 15 153])
 (.seq (.ops [ZV 155 12,ZU 156 (Zh 17 [(.t 155)]),ZV 154 156,ZU 157 (.p (.ext (.t 154) 0)),ZU 158 (.p (.ext (.t 154) 1)),ZU 159 (.p (.ext (.t 154) 2)),ZV 16 157,ZV 17 158,ZV 18 159])
 (.seq (.ops [ZV 161 12,
 ⟨some 162,none,.p (.bin .add (.t 161) (.k (.s (.str ⟨#[32,101,50,101,52]⟩))))⟩,ZU 163 (Zh 17 [(.t 162)]),ZV 160 163,ZU 164 (.p (.ext (.t 160) 0)),ZU 165 (.p (.ext (.t 160) 1)),ZU 166 (.p (.ext (.t 160) 2)),ZV 19 164,ZV 20 165,ZV 21 166])
 (.seq (.ops [ZV 168 12,ZV 169 12,Z4 170 .add 168 169,ZU 171 (Zh 17 [(.t 170)]),ZV 167 171,ZU 172 (.p (.ext (.t 167) 0)),ZU 173 (.p (.ext (.t 167) 1)),ZU 174 (.p (.ext (.t 167) 2)),ZV 22 172,ZV 23 173,ZV 24 174])
 (.seq (.seq (.ops [ZV 175 13,Z5 176 .neq 175 0,ZV 177 176,ZW 178 177 false 15,Z7 179 177 false .neq 178 3,Z9 180 177 179,ZV 181 180,ZW 182 181 false 18,Z7 183 181 false .neq 182 0,Z9 184 181 183,ZV 185 184,ZW 186 185 false 16,ZT 187 185 false (.p (.len (.t 186))),Z7 188 185 false .neq 187 8192,Z9 189 185 188,ZV 190 189,ZW 191 190 false 21,Z7 192 190 false .neq 191 3,Z9 193 190 192,ZV 194 193,ZW 195 194 false 20,Z7 196 194 false .neq 195 0,Z9 197 194 196,ZV 198 197,ZW 199 198 false 24,Z7 200 198 false .neq 199 3,Z9 201 198 200,ZV 202 201,ZW 203 202 false 23,Z7 204 202 false .neq 203 0,Z9 205 202 204])
 (.cond (.t 205)
 (.seq (.ops [ZY 0 false])
 .ret)
 .skip))
 (.seq (.ops [ZU 206 (Zh 18 []),ZV 207 206,ZT 208 207 true (Zh 10 []),Z8 209 207 208,ZV 0 209])
 .ret))))))))))))))⟩
def a8:AF:=⟨111,[.tmp 4,.tmp 5],
 (.seq (.ops [ZU 2 (.h (.box (.t 0))),ZU 3 (.h (.box (.t 1))),
 ⟨some 4,none,.p (.mv (.k (.s (.str ⟨#[]⟩))))⟩,ZX 5 0])
 (.seq (.seq (.ops [ZZ 15 true 133 2,ZZ 16 true 3 3,ZU 17 (Zh 13 [(.t 15),(.t 16)]),ZU 18 (.p (.un .not (.t 17)))])
 (.cond (.t 18)
 (.seq (.ops [⟨some 4,none,.p (.mv (.k (.s (.str ⟨#[]⟩))))⟩,ZX 5 8])
 .ret)
 .skip))
 (.seq (.par [ZU 19 (.p (.build (.vl [.pnil,.snil]) [])),ZU 20 (.h (.boxt 54 (.t 19))),ZU 21 (Zi 19 []),Z2 22 0 1 3,ZZ 23 false 1 22,Z2 24 0 128 2,ZU 25 (.p (.ixa 64 2 (.t 24) (.t 23))),ZZ 26 true 2 25,ZU 8 (.h (.alloc (.ints 2))),ZV 6 20,ZV 7 21,Z1 2 8 26])
 (.seq (.seq (.ops [Z2 27 1 1 3,ZZ 28 false 1 27,Z2 29 0 1 3,ZZ 30 false 1 29,Z4 31 .sub 28 30,ZV 9 31])
 (.block 0 (.seq (.ops [Z2 61 0 1 8,ZZ 62 false 1 61,Z5 63 .eql 62 6,ZV 64 63,ZW 65 64 true 9,Z7 66 64 true .eql 65 2,Z8 67 64 66,ZV 60 67])
 (.cond (.t 60)
 (.ops [ZV 68 6,
 ⟨some 69,none,.h (.mksl 1 1 (.one (.s (.str ⟨#[]⟩))) [(0,(.k (.s (.str ⟨#[79,45,79]⟩))))])⟩,ZU 70 (Zh 20 [(.t 68),(.t 69)])])
 (.seq (.ops [Z2 72 0 1 8,ZZ 73 false 1 72,Z5 74 .eql 73 6,ZV 75 74,ZW 76 75 true 9,Z7 77 75 true .eql 76 (-2),Z8 78 75 77,ZV 71 78])
 (.cond (.t 71)
 (.ops [ZV 79 6,
 ⟨some 80,none,.h (.mksl 1 1 (.one (.s (.str ⟨#[]⟩))) [(0,(.k (.s (.str ⟨#[79,45,79,45,79]⟩))))])⟩,ZU 81 (Zh 20 [(.t 79),(.t 80)])])
 (.seq (.ops [⟨some 10,none,.p (.mv (.k (.s (.str ⟨#[45]⟩))))⟩])
 (.seq (.seq (.ops [ZZ 32 true 133 2,ZZ 33 true 3 3,ZU 34 (Zh 21 [(.t 32),(.t 33)]),Z5 35 .neq 34 (-1)])
 (.cond (.t 35)
 (.ops [⟨some 10,none,.p (.mv (.k (.s (.str ⟨#[120]⟩))))⟩])
 .skip))
 (.seq (.par [ZV 36 6,ZV 37 7,Z2 38 0 1 8,ZZ 39 false 1 38,
 ⟨some 40,none,.h (.mget (.one (.s (.str ⟨#[]⟩))) false (.t 37) (.t 39))⟩,Z2 41 0 1 3,ZZ 42 false 1 41,ZU 43 (Zi 22 [(.t 42)]),ZV 44 10,Z2 45 1 1 3,ZZ 46 false 1 45,ZU 47 (Zi 22 [(.t 46)]),
 ⟨some 48,none,.h (.mksl 4 1 (.one (.s (.str ⟨#[]⟩))) [(0,(.t 40)),(1,(.t 43)),(2,(.t 44)),(3,(.t 47))])⟩,ZU 49 (Zh 20 [(.t 36),(.t 48)])])
 (.seq (.ops [Z2 50 2 1 3,ZZ 51 false 1 50,Z5 52 .neq 51 0])
 (.cond (.t 52)
 (.ops [ZV 53 6,ZV 54 7,Z2 55 2 1 3,ZZ 56 false 1 55,
 ⟨some 57,none,.h (.mget (.one (.s (.str ⟨#[]⟩))) false (.t 54) (.t 56))⟩,
 ⟨some 58,none,.h (.mksl 2 1 (.one (.s (.str ⟨#[]⟩))) [(0,(.k (.s (.str ⟨#[61]⟩)))),(1,(.t 57))])⟩,ZU 59 (Zh 20 [(.t 53),(.t 58)])])
 .skip)))))))))))
 (.seq (.ops [ZZ 83 true 133 2,ZZ 84 true 3 3,ZU 85 (Zh 23 [(.t 83),(.t 84)]),ZV 82 85,ZU 86 (.p (.ext (.t 82) 0)),ZU 87 (.p (.ext (.t 82) 1)),ZU 11 (.h (.alloc (.ints 133))),Z1 133 11 86,ZV 12 87])
 (.seq (.seq (.ops [ZZ 89 true 133 11,ZU 90 (Zh 24 [(.t 89)]),ZV 88 90,ZU 91 (.p (.ext (.t 88) 0)),ZU 92 (.p (.ext (.t 88) 1)),ZV 13 91,ZV 14 92])
 (.block 1 (.seq (.ops [ZV 94 14,Z5 95 .eql 94 1,ZV 93 95])
 (.cond (.t 93)
 (.ops [ZV 96 6,
 ⟨some 97,none,.h (.mksl 1 1 (.one (.s (.str ⟨#[]⟩))) [(0,(.k (.s (.str ⟨#[35]⟩))))])⟩,ZU 98 (Zh 20 [(.t 96),(.t 97)])])
 (.seq (.ops [ZZ 100 true 133 11,Z2 101 128 1 11,ZZ 102 false 1 101,ZU 103 (Zh 25 [(.t 100),(.t 102)]),ZV 99 103])
 (.cond (.t 99)
 (.ops [ZV 104 6,
 ⟨some 105,none,.h (.mksl 1 1 (.one (.s (.str ⟨#[]⟩))) [(0,(.k (.s (.str ⟨#[43]⟩))))])⟩,ZU 106 (Zh 20 [(.t 104),(.t 105)])])
 .skip))))))
 (.seq (.ops [ZV 107 6,ZU 108 (.p (.nilck (.t 107))),Z2 109 0 2 108,ZU 110 (Zh 26 [(.t 109)]),ZV 4 110,ZX 5 0])
 .ret)))))))⟩
def a9:AF:=⟨107,[.tmp 4,.tmp 5],
 (.seq (.ops [ZU 2 (.h (.box (.t 0))),ZU 3 (.h (.box (.t 1))),
 ⟨some 4,none,.p (.mv (.k (.s (.str ⟨#[]⟩))))⟩,ZX 5 0])
 (.seq (.seq (.ops [ZZ 13 true 133 2,ZZ 14 true 3 3,ZU 15 (Zh 27 [(.t 13),(.t 14)]),ZU 16 (.p (.un .not (.t 15)))])
 (.cond (.t 16)
 (.seq (.ops [⟨some 4,none,.p (.mv (.k (.s (.str ⟨#[]⟩))))⟩,ZX 5 8])
 .ret)
 .skip))
 (.seq (.ops [Z2 17 0 1 3,ZZ 18 false 1 17,Z2 19 0 128 2,ZU 20 (.p (.ixa 64 2 (.t 19) (.t 18))),ZZ 21 true 2 20,ZU 6 (.h (.alloc (.ints 2))),Z1 2 6 21])
 (.seq (.ops [⟨some 7,none,.p (.mv (.k (.s (.str ⟨#[]⟩))))⟩])
 (.seq (.block 0 (.seq (.ops [Z2 61 0 1 6,ZZ 62 false 1 61,Z5 63 .eql 62 6,ZV 64 63,Z3 65 64 true 1 1 3,Z0 66 64 true false 1 65,Z3 67 64 true 0 1 3,Z0 68 64 true false 1 67,Z7 69 64 true .add 68 2,Z6 70 64 true .eql 66 69,Z8 71 64 70,ZV 60 71])
 (.cond (.t 60)
 (.ops [⟨some 7,none,.p (.mv (.k (.s (.str ⟨#[79,45,79]⟩))))⟩])
 (.seq (.ops [Z2 73 0 1 6,ZZ 74 false 1 73,Z5 75 .eql 74 6,ZV 76 75,Z3 77 76 true 1 1 3,Z0 78 76 true false 1 77,Z3 79 76 true 0 1 3,Z0 80 76 true false 1 79,Z7 81 76 true .sub 80 2,Z6 82 76 true .eql 78 81,Z8 83 76 82,ZV 72 83])
 (.cond (.t 72)
 (.ops [⟨some 7,none,.p (.mv (.k (.s (.str ⟨#[79,45,79,45,79]⟩))))⟩])
 (.seq (.seq (.ops [Z2 22 0 1 6,ZZ 23 false 1 22,Z5 24 .neq 23 1])
 (.cond (.t 24)
 (.ops [Z2 25 0 1 6,ZZ 26 false 1 25,Z5 27 .sub 26 2,Z2 28 0 1 6,ZZ 29 false 1 28,Z5 30 .sub 29 1,
 ⟨some 31,none,.p (.slS (.k (.s (.str ⟨#[78,66,82,81,75]⟩))) (some (.t 27)) (some (.t 30)))⟩,ZV 7 31])
 .skip))
 (.seq (.ops [⟨some 8,none,.p (.mv (.k (.s (.str ⟨#[45]⟩))))⟩])
 (.seq (.seq (.ops [ZZ 32 true 133 2,ZZ 33 true 3 3,ZU 34 (Zh 28 [(.t 32),(.t 33)]),Z5 35 .geq 34 0])
 (.cond (.t 35)
 (.ops [⟨some 8,none,.p (.mv (.k (.s (.str ⟨#[120]⟩))))⟩])
 .skip))
 (.seq (.par [ZV 36 7,Z2 37 0 1 3,ZZ 38 false 1 37,ZU 39 (Zi 29 [(.t 38)]),Z4 40 .add 36 39,ZV 41 8,Z4 42 .add 40 41,Z2 43 1 1 3,ZZ 44 false 1 43,ZU 45 (Zh 29 [(.t 44)]),Z4 46 .add 42 45,ZV 7 46])
 (.seq (.ops [Z2 47 2 1 3,ZZ 48 false 1 47,Z5 49 .neq 48 0])
 (.cond (.t 49)
 (.ops [ZV 50 7,
 ⟨some 51,none,.p (.bin .add (.t 50) (.k (.s (.str ⟨#[61]⟩))))⟩,Z2 52 2 1 3,ZZ 53 false 1 52,Z5 54 .sub 53 2,Z2 55 2 1 3,ZZ 56 false 1 55,Z5 57 .sub 56 1,
 ⟨some 58,none,.p (.slS (.k (.s (.str ⟨#[78,66,82,81]⟩))) (some (.t 54)) (some (.t 57)))⟩,Z4 59 .add 51 58,ZV 7 59])
 .skip)))))))))))
 (.seq (.ops [ZZ 85 true 133 2,ZZ 86 true 3 3,ZU 87 (Zh 30 [(.t 85),(.t 86)]),ZV 84 87,ZU 88 (.p (.ext (.t 84) 0)),ZU 89 (.p (.ext (.t 84) 1)),ZU 9 (.h (.alloc (.ints 133))),Z1 133 9 88,ZV 10 89])
 (.seq (.ops [ZZ 91 true 133 9,ZU 92 (Zh 31 [(.t 91)]),ZV 90 92,ZU 93 (.p (.ext (.t 90) 0)),ZU 94 (.p (.ext (.t 90) 1)),ZV 11 93,ZV 12 94])
 (.seq (.seq (.ops [ZV 95 12,Z5 96 .eql 95 1])
 (.cond (.t 96)
 (.seq (.ops [ZV 97 7,
 ⟨some 98,none,.p (.bin .add (.t 97) (.k (.s (.str ⟨#[35]⟩))))⟩,ZV 4 98,ZX 5 0])
 .ret)
 .skip))
 (.seq (.seq (.par [ZZ 99 true 133 9,Z2 100 128 1 2,ZZ 101 false 1 100,ZU 102 (Zi 33 [(.t 101)]),ZU 103 (Zh 32 [(.t 99),(.t 102)])])
 (.cond (.t 103)
 (.seq (.ops [ZV 104 7,
 ⟨some 105,none,.p (.bin .add (.t 104) (.k (.s (.str ⟨#[43]⟩))))⟩,ZV 4 105,ZX 5 0])
 .ret)
 .skip))
 (.seq (.ops [ZV 106 7,ZV 4 106,ZX 5 0])
 .ret))))))))))⟩
def a10:AF:=⟨42,[.tmp 0],
 (.seq (.ops [ZY 0 false])
 (.seq (.ops [ZU 8 (.p (.build (.ints 3) [(0,1,(ZR 52)),(1,1,(ZR 60)),(2,1,(ZR 5))])),ZU 9 (.h (.mksl 1 3 (.ints 3) [(0,(.t 8))])),ZU 10 (Zh 12 [(.t 9)]),ZV 7 10,ZU 11 (.p (.ext (.t 7) 0)),ZU 12 (.p (.ext (.t 7) 1)),ZV 1 11,ZV 2 12])
 (.seq (.ops [ZU 14 (Zh 35 []),ZU 15 (.p (.build (.ints 3) [(0,1,(ZR 13)),(1,1,(ZR 21))])),ZU 16 (.p (.build (.ints 3) [(0,1,(ZR 52)),(1,1,(ZR 36))])),ZU 17 (.p (.build (.ints 3) [(0,1,(ZR 14)),(1,1,(ZR 30))])),ZU 18 (.h (.mksl 3 3 (.ints 3) [(0,(.t 15)),(1,(.t 16)),(2,(.t 17))])),ZU 19 (Zh 34 [(.t 14),(.t 18)]),ZV 13 19,ZU 20 (.p (.ext (.t 13) 0)),ZU 21 (.p (.ext (.t 13) 1)),ZU 3 (.h (.alloc (.ints 133))),Z1 133 3 20,ZV 4 21])
 (.seq (.ops [ZZ 23 true 133 3,ZU 24 (.p (.build (.ints 3) [(0,1,(ZR 59)),(1,1,(ZR 31))])),ZU 25 (Zh 8 [(.t 23),(.t 24)]),ZV 22 25,ZU 26 (.p (.ext (.t 22) 0)),ZU 27 (.p (.ext (.t 22) 1)),ZV 5 26,ZV 6 27])
 (.seq (.ops [ZV 28 2,Z5 29 .eql 28 0,ZV 30 29,ZW 31 30 true 1,
 ⟨some 32,some (30,true),.p (.bin .eql (.t 31) (.k (.s (.str ⟨#[101,55,101,56,113]⟩))))⟩,Z8 33 30 32,ZV 34 33,ZW 35 34 true 6,Z7 36 34 true .eql 35 0,Z8 37 34 36,ZV 38 37,ZW 39 38 true 5,
 ⟨some 40,some (38,true),.p (.bin .eql (.t 39) (.k (.s (.str ⟨#[81,100,56,45,104,52,35]⟩))))⟩,Z8 41 38 40,ZV 0 41])
 .ret)))))⟩
def KQ:RD:=rdOf Tryz.f11
def g11:AC:=(.ops [ZU 3 (.h (.alloc (.ints 3))),Z1 3 3 6])
def b11:AC:=(.block 1 (.ops [ZZ 8 false 1 2,ZZ 9 true 3 3,ZU 10 (.h (.mksl 1 3 (.ints 3) [(0,(.t 9))])),ZU 11 (.h (.append 3 24 (.t 8) (.t 10))),Z1 1 2 11]))
def a11:AF:=⟨13,[.cell 2 false 1],
 (.seq (.ops [ZU 1 (.h (.box (.t 0))),ZU 2 (.h (.alloc (.one .snil)))])
 (.seq (.seq (.ops [ZZ 4 true 133 1,ZU 5 (Zh 36 [(.t 4)])])
 (.block 0 (.rfn (.t 5) 607 KQ)))
 (.seq (.ops [ZZ 12 false 1 2,Z1 1 2 12])
 .ret)))⟩
def a12:AF:=⟨47,[.tmp 2,.tmp 3],
 (.seq (.ops [⟨some 2,none,.p (.mv (.k (.s (.str ⟨#[]⟩))))⟩,ZX 3 0])
 (.seq (.seq (.ops [ZV 8 0,ZU 9 (.h (.call (.k (.fn 37 [])) [(.t 8),(.k (.fn 38 []))]))])
 (.cond (.t 9)
 (.seq (.ops [⟨some 2,none,.p (.mv (.k (.s (.str ⟨#[]⟩))))⟩,ZX 3 2])
 .ret)
 .skip))
 (.seq (.seq (.ops [ZV 10 0,ZU 11 (.p (.len (.t 10))),Z5 12 .gtr 11 8192])
 (.cond (.t 12)
 (.seq (.ops [⟨some 2,none,.p (.mv (.k (.s (.str ⟨#[]⟩))))⟩,ZX 3 3])
 .ret)
 .skip))
 (.seq (.ops [ZU 13 (.p (.build (.vl [.pnil,.snil]) [])),ZU 14 (.h (.boxt 54 (.t 13))),ZU 15 (Zh 19 []),ZV 4 14,ZV 5 15])
 (.seq (.seq (.ops [ZV 16 0,ZU 17 (.p (.len (.t 16))),ZX 18 0])
 (.block 0 (.loop (.seq (.ops [Z4 19 .lss 18 17])
 (.seq (.cond (.t 19)
 .skip
 (.exit 0))
 (.seq (.block 1 (.seq (.ops [ZV 20 18,ZU 21 (.p (.ixs 3 (.t 16) (.t 18))),ZZ 22 true 3 21,ZU 7 (.h (.alloc (.ints 3))),ZV 6 20,Z1 3 7 22])
 (.seq (.seq (.ops [ZV 23 6,Z5 24 .gtr 23 0])
 (.cond (.t 24)
 (.ops [ZV 25 4,
 ⟨some 26,none,.h (.mksl 1 1 (.one (.s (.str ⟨#[]⟩))) [(0,(.k (.s (.str ⟨#[32]⟩))))])⟩,ZU 27 (Zh 20 [(.t 25),(.t 26)])])
 .skip))
 (.par [ZV 28 4,Z2 29 0 1 7,ZZ 30 false 1 29,ZU 31 (Zi 22 [(.t 30)]),Z2 32 1 1 7,ZZ 33 false 1 32,ZU 34 (Zi 22 [(.t 33)]),ZV 35 5,Z2 36 2 1 7,ZZ 37 false 1 36,
 ⟨some 38,none,.h (.mget (.one (.s (.str ⟨#[]⟩))) false (.t 35) (.t 37))⟩,ZU 39 (Zh 40 [(.t 38)]),
 ⟨some 40,none,.h (.mksl 3 1 (.one (.s (.str ⟨#[]⟩))) [(0,(.t 31)),(1,(.t 34)),(2,(.t 39))])⟩,ZU 41 (Zh 20 [(.t 28),(.t 40)])]))))
 (.ops [Z5 42 .add 18 1,ZV 18 42])))))))
 (.seq (.ops [ZV 43 4,ZU 44 (.p (.nilck (.t 43))),Z2 45 0 2 44,ZU 46 (Zh 26 [(.t 45)]),ZV 2 46,ZX 3 0])
 .ret))))))⟩
def a13:AF:=⟨9,[.tmp 4],
 (.seq (.ops [ZU 2 (.h (.box (.t 0))),ZU 3 (.h (.box (.t 1))),ZY 4 false])
 (.seq (.par [ZZ 5 true 133 2,ZU 6 (Zi 11 [(.t 5)]),ZZ 7 true 3 3,ZU 8 (Zh 41 [(.t 6),(.t 7)]),ZV 4 8])
 .ret))⟩
def a14:AF:=⟨67,[.tmp 2,.tmp 3],
 (.seq (.ops [⟨some 2,none,.p (.mv (.k (.s (.str ⟨#[]⟩))))⟩,ZX 3 0])
 (.seq (.seq (.ops [ZX 4 0])
 (.block 0 (.loop (.seq (.seq (.ops [ZV 7 4,ZV 8 0,ZU 9 (.p (.len (.t 8))),Z4 10 .lss 7 9])
 (.cond (.t 10)
 .skip
 (.exit 0)))
 (.seq (.block 1 (.seq (.ops [ZV 13 0,ZV 14 4,ZU 15 (.p (.ixs 3 (.t 13) (.t 14))),ZZ 16 true 3 15,ZU 17 (Zh 42 [(.t 16)]),ZU 18 (.p (.un .not (.t 17)))])
 (.cond (.t 18)
 (.seq (.ops [⟨some 2,none,.p (.mv (.k (.s (.str ⟨#[]⟩))))⟩,ZX 3 2])
 .ret)
 .skip)))
 (.ops [ZV 11 4,Z5 12 .add 11 1,ZV 4 12]))))))
 (.seq (.seq (.ops [ZV 19 0,ZU 20 (.p (.len (.t 19))),Z5 21 .gtr 20 8192])
 (.cond (.t 21)
 (.seq (.ops [⟨some 2,none,.p (.mv (.k (.s (.str ⟨#[]⟩))))⟩,ZX 3 3])
 .ret)
 .skip))
 (.seq (.ops [ZU 5 (.p (.mv (.k .snil)))])
 (.seq (.seq (.ops [ZX 6 0])
 (.block 2 (.loop (.seq (.seq (.ops [ZV 22 6,ZV 23 0,ZU 24 (.p (.len (.t 23))),Z4 25 .lss 22 24])
 (.cond (.t 25)
 .skip
 (.exit 2)))
 (.seq (.block 3 (.seq (.seq (.ops [ZV 28 6,Z5 29 .gtr 28 0])
 (.cond (.t 29)
 (.ops [ZV 30 5,ZU 31 (.h (.mksl 1 1 (.one (.s (.int .u8 0))) [(0,(.k (.s (.int .u8 32))))])),ZU 32 (.h (.append 1 1 (.t 30) (.t 31))),ZV 5 32])
 .skip))
 (.seq (.ops [ZV 33 5,ZV 34 0,ZV 35 6,ZU 36 (.p (.ixs 3 (.t 34) (.t 35))),Z2 37 0 1 36,ZZ 38 false 1 37,ZU 39 (Zh 29 [(.t 38)]),ZU 40 (.h (.appendb 5 1 (.t 33) (.t 39))),ZV 5 40])
 (.seq (.ops [ZV 41 5,ZV 42 0,ZV 43 6,ZU 44 (.p (.ixs 3 (.t 42) (.t 43))),Z2 45 1 1 44,ZZ 46 false 1 45,ZU 47 (Zh 29 [(.t 46)]),ZU 48 (.h (.appendb 5 1 (.t 41) (.t 47))),ZV 5 48])
 (.seq (.ops [ZV 49 0,ZV 50 6,ZU 51 (.p (.ixs 3 (.t 49) (.t 50))),Z2 52 2 1 51,ZZ 53 false 1 52,Z5 54 .neq 53 0])
 (.cond (.t 54)
 (.ops [ZV 55 5,ZV 56 0,ZV 57 6,ZU 58 (.p (.ixs 3 (.t 56) (.t 57))),Z2 59 2 1 58,ZZ 60 false 1 59,Z5 61 .sub 60 2,
 ⟨some 62,none,.p (.ixstr (.k (.s (.str ⟨#[110,98,114,113]⟩))) (.t 61))⟩,ZU 63 (.h (.mksl 1 1 (.one (.s (.int .u8 0))) [(0,(.t 62))])),ZU 64 (.h (.append 1 1 (.t 55) (.t 63))),ZV 5 64])
 .skip))))))
 (.ops [ZV 26 6,Z5 27 .add 26 1,ZV 6 27]))))))
 (.seq (.ops [ZV 65 5,ZU 66 (.h (.b2s (.t 65))),ZV 2 66,ZX 3 0])
 .ret))))))⟩
def a15:AF:=⟨32,[.tmp 4],
 (.seq (.ops [ZY 4 false])
 (.seq (.seq (.ops [ZX 5 0])
 (.block 0 (.loop (.seq (.seq (.ops [ZV 6 5,ZV 7 0,ZU 8 (.p (.len (.t 7))),Z4 9 .lss 6 8,ZV 10 9,ZW 11 10 true 5,ZW 12 10 true 1,ZT 13 10 true (.p (.len (.t 12))),Z6 14 10 true .lss 11 13,Z8 15 10 14])
 (.cond (.t 15)
 .skip
 (.exit 0)))
 (.seq (.block 1 (.seq (.par [ZV 18 0,ZV 19 5,ZU 20 (.p (.ixs 3 (.t 18) (.t 19))),ZZ 21 true 3 20,ZV 22 1,ZV 23 5,ZU 24 (.p (.ixs 3 (.t 22) (.t 23))),ZZ 25 true 3 24,ZU 26 (.p (.eqa true 3 (.t 21) (.t 25)))])
 (.cond (.t 26)
 (.seq (.ops [ZY 4 false])
 .ret)
 .skip)))
 (.ops [ZV 16 5,Z5 17 .add 16 1,ZV 5 17]))))))
 (.seq (.ops [ZV 27 0,ZU 28 (.p (.len (.t 27))),ZV 29 1,ZU 30 (.p (.len (.t 29))),Z4 31 .eql 28 30,ZV 4 31])
 .ret)))⟩
def a16:AF:=⟨34,[.tmp 2],
 (.seq (.ops [ZY 2 false])
 (.seq (.ops [ZV 10 0,ZU 11 (Zh 17 [(.t 10)]),ZV 9 11,ZU 12 (.p (.ext (.t 9) 0)),ZU 13 (.p (.ext (.t 9) 1)),ZU 14 (.p (.ext (.t 9) 2)),ZV 3 12,ZV 4 13,ZV 5 14])
 (.seq (.ops [ZV 16 0,ZU 17 (Zh 43 [(.t 16)]),ZV 15 17,ZU 18 (.p (.ext (.t 15) 0)),ZU 19 (.p (.ext (.t 15) 1)),ZU 20 (.p (.ext (.t 15) 2)),ZV 6 18,ZV 7 19,ZV 8 20])
 (.seq (.ops [ZV 21 3,ZV 22 6,ZU 23 (Zh 15 [(.t 21),(.t 22)]),ZV 24 23,ZW 25 24 true 4,ZW 26 24 true 7,Z6 27 24 true .eql 25 26,Z8 28 24 27,ZV 29 28,ZW 30 29 true 5,ZW 31 29 true 8,Z6 32 29 true .eql 30 31,Z8 33 29 32,ZV 2 33])
 .ret))))⟩
def a17:AF:=⟨60,[.tmp 2,.tmp 3,.tmp 4],
 (.seq (.ops [ZU 2 (.p (.mv (.k .snil))),ZX 3 0,ZX 4 0])
 (.seq (.seq (.ops [ZV 8 0,ZU 9 (.p (.lenS (.t 8))),Z5 10 .gtr 9 65536])
 (.cond (.t 10)
 (.seq (.ops [ZU 2 (.p (.mv (.k .snil))),ZX 3 0,ZX 4 3])
 .ret)
 .skip))
 (.seq (.ops [ZV 11 0,
 ⟨some 12,none,.p (.build (.scl [(.str ⟨#[]⟩),(.int .i64 0)]) [(0,1,(.t 11)),(1,1,(ZR 0))])⟩,ZU 13 (.h (.box (.t 12))),ZV 5 13])
 (.seq (.block 0 (.loop (.seq (.seq (.ops [ZV 14 0,
 ⟨some 15,none,.p (.bin .neq (.t 14) (.k (.s (.str ⟨#[]⟩))))⟩])
 (.cond (.t 15)
 .skip
 (.exit 0)))
 (.block 1 (.seq (.ops [ZV 17 5,ZU 18 (Zh 44 [(.t 17)]),ZV 16 18,ZU 19 (.p (.ext (.t 16) 0)),ZU 20 (.p (.ext (.t 16) 1)),ZU 6 (.h (.alloc (.ints 3))),Z1 3 6 19,ZV 7 20])
 (.seq (.seq (.ops [ZV 21 7,ZU 22 (.p (.un .not (.t 21)))])
 (.cond (.t 22)
 (.seq (.par [ZV 23 5,ZU 24 (.p (.nilck (.t 23))),Z2 25 1 1 24,ZZ 26 false 1 25,ZU 2 (.p (.mv (.k .snil))),ZV 3 26,ZX 4 13])
 .ret)
 .skip))
 (.seq (.ops [ZV 27 2,ZZ 28 true 3 6,ZU 29 (.h (.mksl 1 3 (.ints 3) [(0,(.t 28))])),ZU 30 (.h (.append 3 24 (.t 27) (.t 29))),ZV 2 30])
 (.seq (.seq (.ops [ZV 31 5,ZU 32 (.p (.nilck (.t 31))),Z2 33 1 1 32,ZZ 34 false 1 33,ZV 35 0,ZU 36 (.p (.lenS (.t 35))),Z4 37 .eql 34 36])
 (.cond (.t 37)
 (.exit 0)
 .skip))
 (.seq (.seq (.ops [ZV 38 0,ZV 39 5,ZU 40 (.p (.nilck (.t 39))),Z2 41 1 1 40,ZZ 42 false 1 41,ZU 43 (.p (.ixstr (.t 38) (.t 42))),ZU 44 (.p (.bin .neq (.t 43) (.k (.s (.int .u8 32)))))])
 (.cond (.t 44)
 (.seq (.par [ZV 45 5,ZU 46 (.p (.nilck (.t 45))),Z2 47 1 1 46,ZZ 48 false 1 47,ZU 2 (.p (.mv (.k .snil))),ZV 3 48,ZX 4 13])
 .ret)
 .skip))
 (.ops [ZV 49 5,ZU 50 (.p (.nilck (.t 49))),Z2 51 1 1 50,ZZ 52 false 1 51,Z5 53 .add 52 1,ZU 54 (.p (.nilck (.t 49))),Z2 55 1 1 54,Z1 1 55 53]))))))))))
 (.seq (.seq (.ops [ZV 56 2,ZU 57 (.p (.len (.t 56))),Z5 58 .gtr 57 8192])
 (.cond (.t 58)
 (.seq (.ops [ZU 2 (.p (.mv (.k .snil))),ZX 3 0,ZX 4 3])
 .ret)
 .skip))
 (.seq (.ops [ZV 59 2,ZV 2 59,ZX 3 0,ZX 4 0])
 .ret))))))⟩
def a18:AF:=⟨55,[.tmp 0],
 (.seq (.ops [ZY 0 false])
 (.seq (.ops [ZU 6 (Zh 45 []),ZU 1 (.h (.alloc (.ints 133))),Z1 133 1 6])
 (.seq (.ops [ZU 7 (.p (.build (.ints 2) [(0,1,(ZR 6))])),Z2 8 0 128 1,ZU 9 (.p (.ixa 64 2 (.t 8) (ZR 4))),Z1 2 9 7])
 (.seq (.ops [ZU 10 (.p (.build (.ints 2) [(0,1,(ZR 4))])),Z2 11 0 128 1,ZU 12 (.p (.ixa 64 2 (.t 11) (ZR 0))),Z1 2 12 10])
 (.seq (.ops [ZU 13 (.p (.build (.ints 2) [(0,1,(ZR 4))])),Z2 14 0 128 1,ZU 15 (.p (.ixa 64 2 (.t 14) (ZR 7))),Z1 2 15 13])
 (.seq (.ops [Z2 16 129 1 1,
 ⟨none,none,.h (.store 1 (.t 16) (ZR 3))⟩])
 (.seq (.ops [ZU 17 (.p (.build (.ints 2) [(0,1,(ZR 1))])),Z2 18 0 128 1,ZU 19 (.p (.ixa 64 2 (.t 18) (ZR 51))),Z1 2 19 17])
 (.seq (.seq (.ops [ZX 2 0])
 (.block 0 (.loop (.seq (.seq (.ops [ZV 20 2,Z5 21 .lss 20 64])
 (.cond (.t 21)
 .skip
 (.exit 0)))
 (.seq (.block 1 (.seq (.ops [ZZ 24 true 133 1,ZU 3 (.h (.alloc (.ints 133))),Z1 133 3 24])
 (.seq (.seq (.ops [ZV 25 2,Z2 26 0 128 3,ZU 27 (.p (.ixa 64 2 (.t 26) (.t 25))),ZZ 28 true 2 27,ZU 29 (.p (.build (.ints 2) [])),ZU 30 (.p (.eqa true 2 (.t 28) (.t 29)))])
 (.cond (.t 30)
 (.exit 1)
 .skip))
 (.seq (.ops [ZV 31 2,ZU 32 (.p (.build (.ints 2) [(0,1,(ZR 6)),(1,1,(ZR 1))])),Z2 33 0 128 3,ZU 34 (.p (.ixa 64 2 (.t 33) (.t 31))),Z1 2 34 32])
 (.seq (.ops [ZU 35 (.p (.build (.ints 3) [(0,1,(ZR 4)),(1,1,(ZR 6))])),ZU 36 (.p (.build (.ints 3) [(0,1,(ZR 4)),(1,1,(ZR 2))])),ZU 37 (.p (.build (.ints 3) [(0,1,(ZR 51)),(1,1,(ZR 59)),(2,1,(ZR 5))])),ZU 38 (.p (.build (.ints 3) [(0,1,(ZR 51)),(1,1,(ZR 59)),(2,1,(ZR 2))])),ZU 39 (.p (.build (.ints 3) [(0,1,(ZR 51)),(1,1,(ZR 59))])),ZU 40 (.p (.build (.ints 3) [(0,1,(ZR 7)),(1,1,(ZR 63))])),ZU 41 (.h (.mksl 6 3 (.ints 3) [(0,(.t 35)),(1,(.t 36)),(2,(.t 37)),(3,(.t 38)),(4,(.t 39)),(5,(.t 40))])),ZV 4 41])
 (.seq (.ops [ZX 5 0])
 (.block 2 (.loop (.seq (.seq (.ops [ZV 42 5,ZV 43 4,ZU 44 (.p (.len (.t 43))),Z4 45 .lss 42 44])
 (.cond (.t 45)
 .skip
 (.exit 2)))
 (.seq (.block 3 (.seq (.par [ZZ 48 true 133 3,ZV 49 4,ZV 50 5,ZU 51 (.p (.ixs 3 (.t 49) (.t 50))),ZZ 52 true 3 51,ZU 53 (Zh 3 [(.t 48),(.t 52)]),ZU 54 (.p (.un .not (.t 53)))])
 (.cond (.t 54)
 (.seq (.ops [ZY 0 false])
 .ret)
 .skip)))
 (.ops [ZV 46 5,Z5 47 .add 46 1,ZV 5 47])))))))))))
 (.ops [ZV 22 2,Z5 23 .add 22 1,ZV 2 23]))))))
 (.seq (.ops [ZY 0 true])
 .ret)))))))))⟩
def a19:AF:=⟨3,[.tmp 0],
 (.seq (.ops [ZU 0 (.p (.mv (.k .mnil)))])
 (.seq (.ops [ZU 1 (.h (.mkmap)),
 ⟨none,none,.h (.mput (.t 1) (ZR 2) (.k (.s (.str ⟨#[78]⟩))))⟩,
 ⟨none,none,.h (.mput (.t 1) (ZR 3) (.k (.s (.str ⟨#[66]⟩))))⟩,
 ⟨none,none,.h (.mput (.t 1) (ZR 4) (.k (.s (.str ⟨#[82]⟩))))⟩,
 ⟨none,none,.h (.mput (.t 1) (ZR 5) (.k (.s (.str ⟨#[81]⟩))))⟩,
 ⟨none,none,.h (.mput (.t 1) (ZR 6) (.k (.s (.str ⟨#[75]⟩))))⟩,ZV 2 1,ZV 0 2])
 .ret))⟩
def a20:AF:=⟨18,[],
 (.seq (.ops [ZV 6 1,ZU 7 (.p (.len (.t 6))),ZX 8 0])
 (.block 0 (.loop (.seq (.ops [Z4 9 .lss 8 7])
 (.seq (.cond (.t 9)
 .skip
 (.exit 0))
 (.seq (.block 1 (.seq (.ops [ZU 10 (.p (.ixs 1 (.t 6) (.t 8))),ZZ 11 false 1 10,ZV 5 11])
 (.ops [ZV 12 0,ZU 13 (.p (.nilck (.t 12))),Z2 14 0 2 13,ZV 15 5,ZU 16 (Zh 46 [(.t 14),(.t 15)])])))
 (.ops [Z5 17 .add 8 1,ZV 8 17])))))))⟩
def a21:AF:=⟨17,[.tmp 4],
 (.seq (.ops [ZU 2 (.h (.box (.t 0))),ZU 3 (.h (.box (.t 1))),ZX 4 0])
 (.seq (.ops [ZZ 8 true 133 2,ZZ 9 true 3 3,ZU 10 (Zh 47 [(.t 8),(.t 9)]),ZV 7 10,ZU 11 (.p (.ext (.t 7) 0)),ZU 12 (.p (.ext (.t 7) 1)),ZV 5 11,ZV 6 12])
 (.seq (.seq (.ops [ZV 13 6,Z5 14 .neq 13 0])
 (.cond (.t 14)
 (.seq (.ops [ZX 4 (-1)])
 .ret)
 .skip))
 (.seq (.ops [ZV 15 5,ZU 16 (Zh 48 [(.t 15)]),ZV 4 16])
 .ret))))⟩
def a22:AF:=⟨26,[.tmp 2],
 (.seq (.ops [⟨some 2,none,.p (.mv (.k (.s (.str ⟨#[]⟩))))⟩])
 (.seq (.ops [ZV 4 0,ZU 5 (Zh 49 [(.t 4)]),ZU 3 (.h (.alloc (.scl [(.int .i64 0),(.int .i64 0),(.bool false)]))),Z1 3 3 5])
 (.seq (.seq (.ops [Z2 6 2 1 3,ZZ 7 false 1 6,ZU 8 (.p (.un .not (.t 7)))])
 (.cond (.t 8)
 (.seq (.ops [⟨some 2,none,.p (.mv (.k (.s (.str ⟨#[]⟩))))⟩])
 .ret)
 .skip))
 (.seq (.par [Z2 9 0 2 3,Z2 10 0 1 9,ZZ 11 false 1 10,Z2 12 0 2 3,Z2 13 0 1 12,ZZ 14 false 1 13,Z5 15 .add 14 1,
 ⟨some 16,none,.p (.slS (.k (.s (.str ⟨#[97,98,99,100,101,102,103,104]⟩))) (some (.t 11)) (some (.t 15)))⟩,Z2 17 0 2 3,Z2 18 1 1 17,ZZ 19 false 1 18,Z2 20 0 2 3,Z2 21 1 1 20,ZZ 22 false 1 21,Z5 23 .add 22 1,
 ⟨some 24,none,.p (.slS (.k (.s (.str ⟨#[49,50,51,52,53,54,55,56]⟩))) (some (.t 19)) (some (.t 23)))⟩,Z4 25 .add 16 24,ZV 2 25])
 .ret))))⟩
def a23:AF:=⟨20,[.cell 4 true 133,.tmp 5],
 (.seq (.ops [ZU 2 (.h (.box (.t 0))),ZU 3 (.h (.box (.t 1))),ZU 4 (.h (.alloc (.ints 133))),ZX 5 0])
 (.seq (.ops [ZZ 9 true 133 2,ZZ 10 true 3 3,ZU 11 (Zh 47 [(.t 9),(.t 10)]),ZV 8 11,ZU 12 (.p (.ext (.t 8) 0)),ZU 13 (.p (.ext (.t 8) 1)),ZV 6 12,ZV 7 13])
 (.seq (.seq (.ops [ZV 14 7,Z5 15 .neq 14 0])
 (.cond (.t 15)
 (.seq (.ops [ZU 16 (.p (.build (.ints 133) [])),ZV 17 7,Z1 133 4 16,ZV 5 17])
 .ret)
 .skip))
 (.seq (.ops [ZV 18 6,ZU 19 (Zh 50 [(.t 18)]),Z1 133 4 19,ZX 5 0])
 .ret))))⟩
def a24:AF:=⟨22,[.tmp 2,.tmp 3],
 (.seq (.ops [ZU 1 (.h (.box (.t 0))),ZX 2 0,ZX 3 0])
 (.seq (.seq (.ops [ZZ 5 true 133 1,ZU 6 (.p (.build (.ints 133) [(0,133,(.t 5))])),ZU 4 (.h (.alloc (.ints 133))),Z1 133 4 6])
 (.block 0 (.seq (.ops [ZZ 8 true 133 4,ZU 9 (Zh 51 [(.t 8)]),ZU 10 (.p (.un .not (.t 9))),ZV 7 10])
 (.cond (.t 7)
 (.seq (.ops [ZX 2 0,ZX 3 0])
 .ret)
 (.seq (.ops [ZZ 12 true 133 1,Z2 13 0 133 4,Z2 14 128 1 13,ZZ 15 false 1 14,ZU 16 (Zh 25 [(.t 12),(.t 15)]),ZV 11 16])
 (.cond (.t 11)
 (.seq (.ops [Z2 17 0 133 4,Z2 18 128 1 17,ZZ 19 false 1 18,ZU 20 (Zh 53 [(.t 19)]),ZU 21 (Zh 52 [(.t 20)]),ZV 2 21,ZX 3 1])
 .ret)
 .skip))))))
 (.seq (.ops [ZX 2 3,ZX 3 2])
 .ret)))⟩
def a25:AF:=⟨19,[.tmp 4],
 (.seq (.ops [ZU 2 (.h (.box (.t 0))),ZY 4 false])
 (.seq (.seq (.ops [ZV 5 1,Z5 6 .neq 5 0,ZV 7 6,ZW 8 7 true 1,Z7 9 7 true .neq 8 1,Z8 10 7 9])
 (.cond (.t 10)
 (.seq (.ops [ZY 4 false])
 .ret)
 .skip))
 (.seq (.par [ZZ 11 true 133 2,ZV 12 1,ZU 13 (Zi 53 [(.t 12)]),ZZ 14 true 133 2,ZV 15 1,ZU 16 (.p (.build (.ints 2) [(0,1,(ZR 6)),(1,1,(.t 15))])),ZU 17 (Zi 55 [(.t 14),(.t 16)]),ZU 18 (Zh 54 [(.t 11),(.t 13),(.t 17)]),ZV 4 18])
 .ret)))⟩
def a27:AF:=⟨21,[.tmp 4],
 (.seq (.ops [ZU 2 (.h (.box (.t 0))),ZU 3 (.h (.box (.t 1))),ZY 4 false])
 (.seq (.ops [ZZ 7 true 133 2,ZU 8 (Zh 56 [(.t 7)]),ZV 5 8])
 (.seq (.seq (.ops [ZX 6 0])
 (.block 0 (.loop (.seq (.seq (.ops [ZV 9 6,ZV 10 5,ZU 11 (.p (.len (.t 10))),Z4 12 .lss 9 11])
 (.cond (.t 12)
 .skip
 (.exit 0)))
 (.seq (.block 1 (.seq (.par [ZV 15 5,ZV 16 6,ZU 17 (.p (.ixs 3 (.t 15) (.t 16))),ZZ 18 true 3 17,ZZ 19 true 3 3,ZU 20 (.p (.eqa false 3 (.t 18) (.t 19)))])
 (.cond (.t 20)
 (.seq (.ops [ZY 4 true])
 .ret)
 .skip)))
 (.ops [ZV 13 6,Z5 14 .add 13 1,ZV 6 14]))))))
 (.seq (.ops [ZY 4 false])
 .ret))))⟩
def a28:AF:=⟨49,[.tmp 4],
 (.seq (.ops [ZU 2 (.h (.box (.t 0))),ZU 3 (.h (.box (.t 1))),ZX 4 0])
 (.seq (.seq (.ops [Z2 6 0 1 3,ZZ 7 false 1 6,ZU 8 (Zh 57 [(.t 7)]),ZU 9 (.p (.un .not (.t 8))),ZV 10 9,Z3 11 10 false 1 1 3,Z0 12 10 false false 1 11,ZT 13 10 false (Zh 57 [(.t 12)]),ZT 14 10 false (.p (.un .not (.t 13))),Z9 15 10 14,ZV 16 15,Z3 17 16 false 0 1 3,Z0 18 16 false false 1 17,Z3 19 16 false 1 1 3,Z0 20 16 false false 1 19,Z6 21 16 false .eql 18 20,Z9 22 16 21,ZV 23 22,Z0 24 23 false true 133 2,Z0 25 23 false true 3 3,ZT 26 23 false (Zh 58 [(.t 24),(.t 25)]),ZT 27 23 false (.p (.un .not (.t 26))),Z9 28 23 27])
 (.cond (.t 28)
 (.seq (.ops [ZX 4 (-1)])
 .ret)
 .skip))
 (.seq (.ops [Z2 29 1 1 3,ZZ 30 false 1 29,ZV 5 30])
 (.seq (.seq (.ops [ZZ 31 true 133 2,ZZ 32 true 3 3,ZU 33 (Zh 59 [(.t 31),(.t 32)])])
 (.cond (.t 33)
 (.ops [Z2 34 0 1 3,ZZ 35 false 1 34,Z5 36 .quo 35 8,Z5 37 .mul 36 8,Z2 38 1 1 3,ZZ 39 false 1 38,Z5 40 .rem 39 8,Z4 41 .add 37 40,ZV 5 41])
 .skip))
 (.seq (.seq (.ops [ZV 42 5,Z2 43 0 128 2,ZU 44 (.p (.ixa 64 2 (.t 43) (.t 42))),ZZ 45 true 2 44,ZU 46 (.p (.build (.ints 2) [])),ZU 47 (.p (.eqa false 2 (.t 45) (.t 46)))])
 (.cond (.t 47)
 (.seq (.ops [ZX 4 (-1)])
 .ret)
 .skip))
 (.seq (.ops [ZV 48 5,ZV 4 48])
 .ret))))))⟩
def a29:AF:=⟨16,[.tmp 2],
 (.seq (.ops [⟨some 2,none,.p (.mv (.k (.s (.str ⟨#[]⟩))))⟩])
 (.seq (.seq (.ops [ZV 3 0,ZU 4 (Zh 60 [(.t 3)]),ZU 5 (.p (.un .not (.t 4)))])
 (.cond (.t 5)
 (.seq (.ops [⟨some 2,none,.p (.mv (.k (.s (.str ⟨#[]⟩))))⟩])
 .ret)
 .skip))
 (.seq (.ops [ZV 6 0,Z5 7 .rem 6 8,ZU 8 (.p (.bin .add (ZR 97) (.t 7))),ZU 9 (.p (.conv .u8 (.t 8))),ZV 10 0,Z5 11 .quo 10 8,ZU 12 (.p (.bin .add (ZR 49) (.t 11))),ZU 13 (.p (.conv .u8 (.t 12))),ZU 14 (.h (.mksl 2 1 (.one (.s (.int .u8 0))) [(0,(.t 9)),(1,(.t 13))])),ZU 15 (.h (.b2s (.t 14))),ZV 2 15])
 .ret)))⟩
def a30:AF:=⟨150,[.cell 4 true 133,.tmp 5],
 (.seq (.ops [ZU 2 (.h (.box (.t 0))),ZU 3 (.h (.box (.t 1))),ZU 4 (.h (.alloc (.ints 133))),ZX 5 0])
 (.seq (.seq (.ops [Z2 9 0 1 3,ZZ 10 false 1 9,ZU 11 (Zh 57 [(.t 10)]),ZU 12 (.p (.un .not (.t 11))),ZV 13 12,Z3 14 13 false 1 1 3,Z0 15 13 false false 1 14,ZT 16 13 false (Zh 57 [(.t 15)]),ZT 17 13 false (.p (.un .not (.t 16))),Z9 18 13 17,ZV 19 18,Z3 20 19 false 0 1 3,Z0 21 19 false false 1 20,Z3 22 19 false 1 1 3,Z0 23 19 false false 1 22,Z6 24 19 false .eql 21 23,Z9 25 19 24])
 (.cond (.t 25)
 (.seq (.ops [ZU 26 (.p (.build (.ints 133) [])),Z1 133 4 26,ZX 5 6])
 .ret)
 .skip))
 (.seq (.seq (.ops [ZZ 27 true 133 2,ZZ 28 true 3 3,ZU 29 (Zh 58 [(.t 27),(.t 28)]),ZU 30 (.p (.un .not (.t 29)))])
 (.cond (.t 30)
 (.seq (.ops [ZU 31 (.p (.build (.ints 133) [])),Z1 133 4 31,ZX 5 8])
 .ret)
 .skip))
 (.seq (.ops [Z2 32 0 1 3,ZZ 33 false 1 32,Z2 34 0 128 2,ZU 35 (.p (.ixa 64 2 (.t 34) (.t 33))),ZZ 36 true 2 35,ZU 6 (.h (.alloc (.ints 2))),Z1 2 6 36])
 (.seq (.ops [ZZ 37 true 133 2,ZU 7 (.h (.alloc (.ints 133))),Z1 133 7 37])
 (.seq (.ops [ZZ 38 true 133 2,ZZ 39 true 3 3,ZU 40 (Zh 28 [(.t 38),(.t 39)]),ZV 8 40])
 (.seq (.seq (.ops [ZV 41 8,Z5 42 .geq 41 0])
 (.cond (.t 42)
 (.ops [ZV 43 8,ZU 44 (.p (.build (.ints 2) [])),Z2 45 0 128 7,ZU 46 (.p (.ixa 64 2 (.t 45) (.t 43))),Z1 2 46 44])
 .skip))
 (.seq (.ops [Z2 47 0 1 3,ZZ 48 false 1 47,ZU 49 (.p (.build (.ints 2) [])),Z2 50 0 128 7,ZU 51 (.p (.ixa 64 2 (.t 50) (.t 48))),Z1 2 51 49])
 (.seq (.ops [Z2 52 1 1 3,ZZ 53 false 1 52,ZZ 54 true 2 6,Z2 55 0 128 7,ZU 56 (.p (.ixa 64 2 (.t 55) (.t 53))),Z1 2 56 54])
 (.seq (.seq (.ops [Z2 57 2 1 3,ZZ 58 false 1 57,Z5 59 .neq 58 0])
 (.cond (.t 59)
 (.ops [Z2 60 1 1 3,ZZ 61 false 1 60,Z2 62 2 1 3,ZZ 63 false 1 62,Z2 64 0 128 7,ZU 65 (.p (.ixa 64 2 (.t 64) (.t 61))),Z2 66 0 1 65,Z1 1 66 63])
 .skip))
 (.seq (.seq (.ops [ZZ 67 true 133 2,ZZ 68 true 3 3,ZU 69 (Zh 61 [(.t 67),(.t 68)])])
 (.block 0 (.seq (.ops [Z5 71 .eql 69 1,ZV 70 71])
 (.cond (.t 70)
 (.seq (.ops [Z2 72 0 1 3,ZZ 73 false 1 72,Z5 74 .add 73 3,ZU 75 (.p (.build (.ints 2) [])),Z2 76 0 128 7,ZU 77 (.p (.ixa 64 2 (.t 76) (.t 74))),Z1 2 77 75])
 (.ops [Z2 78 0 1 3,ZZ 79 false 1 78,Z5 80 .add 79 1,Z2 81 1 1 6,ZZ 82 false 1 81,ZU 83 (.p (.build (.ints 2) [(0,1,(ZR 4)),(1,1,(.t 82))])),Z2 84 0 128 7,ZU 85 (.p (.ixa 64 2 (.t 84) (.t 80))),Z1 2 85 83]))
 (.seq (.ops [Z5 87 .eql 69 (-1),ZV 86 87])
 (.cond (.t 86)
 (.seq (.ops [Z2 88 0 1 3,ZZ 89 false 1 88,Z5 90 .sub 89 4,ZU 91 (.p (.build (.ints 2) [])),Z2 92 0 128 7,ZU 93 (.p (.ixa 64 2 (.t 92) (.t 90))),Z1 2 93 91])
 (.ops [Z2 94 0 1 3,ZZ 95 false 1 94,Z5 96 .sub 95 1,Z2 97 1 1 6,ZZ 98 false 1 97,ZU 99 (.p (.build (.ints 2) [(0,1,(ZR 4)),(1,1,(.t 98))])),Z2 100 0 128 7,ZU 101 (.p (.ixa 64 2 (.t 100) (.t 96))),Z1 2 101 99]))
 .skip))))))
 (.seq (.ops [Z2 102 128 1 2,ZZ 103 false 1 102,ZU 104 (Zh 33 [(.t 103)]),Z2 105 128 1 7,Z1 1 105 104])
 (.seq (.par [ZZ 106 true 133 2,ZU 107 (Zi 63 [(.t 106)]),Z2 108 0 1 3,ZZ 109 false 1 108,ZU 110 (Zi 64 [(.t 109)]),ZU 111 (Zi 62 [(.t 107),(.t 110)]),Z2 112 1 1 3,ZZ 113 false 1 112,ZU 114 (Zh 64 [(.t 113)]),ZU 115 (Zh 62 [(.t 111),(.t 114)]),Z2 116 129 1 7,Z1 1 116 115])
 (.seq (.ops [Z2 117 130 1 7,
 ⟨none,none,.h (.store 1 (.t 117) (ZR (-1)))⟩])
 (.seq (.seq (.ops [ZZ 118 true 2 6,ZZ 119 true 3 3,ZU 120 (Zh 65 [(.t 118),(.t 119)])])
 (.cond (.t 120)
 (.ops [Z2 121 0 1 3,ZZ 122 false 1 121,Z2 123 1 1 3,ZZ 124 false 1 123,Z4 125 .add 122 124,Z5 126 .quo 125 2,Z2 127 130 1 7,Z1 1 127 126])
 .skip))
 (.seq (.ops [Z2 128 131 1 2,ZZ 129 false 1 128,ZU 130 (.p (.mn [(.t 129),(ZR 1023)])),Z5 131 .add 130 1,Z2 132 131 1 7,Z1 1 132 131])
 (.seq (.seq (.ops [Z2 133 0 1 6,ZZ 134 false 1 133,Z5 135 .eql 134 1,ZV 136 135,ZW 137 136 false 8,Z7 138 136 false .geq 137 0,Z9 139 136 138])
 (.cond (.t 139)
 (.ops [Z2 140 131 1 7,
 ⟨none,none,.h (.store 1 (.t 140) (ZR 0))⟩])
 .skip))
 (.seq (.seq (.ops [Z2 141 128 1 2,ZZ 142 false 1 141,Z5 143 .eql 142 1])
 (.cond (.t 143)
 (.ops [Z2 144 132 1 2,ZZ 145 false 1 144,ZU 146 (.p (.mn [(.t 145),(ZR 16383)])),Z5 147 .add 146 1,Z2 148 132 1 7,Z1 1 148 147])
 .skip))
 (.seq (.ops [ZZ 149 true 133 7,Z1 133 4 149,ZX 5 0])
 .ret)))))))))))))))))))⟩
def a31:AF:=⟨23,[.tmp 2,.tmp 3],
 (.seq (.ops [ZU 1 (.h (.box (.t 0))),ZX 2 0,ZX 3 0])
 (.seq (.ops [ZZ 5 true 133 1,ZU 6 (Zh 56 [(.t 5)]),ZV 4 6])
 (.seq (.seq (.ops [ZZ 7 true 133 1,ZU 8 (Zh 66 [(.t 7)]),ZU 9 (.p (.un .not (.t 8))),ZV 10 9,ZW 11 10 false 4,ZT 12 10 false (.p (.len (.t 11))),Z7 13 10 false .gtr 12 0,Z9 14 10 13])
 (.cond (.t 14)
 (.seq (.ops [ZX 2 0,ZX 3 0])
 .ret)
 .skip))
 (.seq (.seq (.ops [ZZ 15 true 133 1,Z2 16 128 1 1,ZZ 17 false 1 16,ZU 18 (Zh 32 [(.t 15),(.t 17)])])
 (.cond (.t 18)
 (.seq (.ops [Z2 19 128 1 1,ZZ 20 false 1 19,ZU 21 (Zh 33 [(.t 20)]),ZU 22 (Zh 67 [(.t 21)]),ZV 2 22,ZX 3 1])
 .ret)
 .skip))
 (.seq (.ops [ZX 2 3,ZX 3 2])
 .ret)))))⟩
def a32:AF:=⟨19,[.tmp 4],
 (.seq (.ops [ZU 2 (.h (.box (.t 0))),ZY 4 false])
 (.seq (.seq (.ops [ZV 5 1,Z5 6 .neq 5 0,ZV 7 6,ZW 8 7 true 1,Z7 9 7 true .neq 8 1,Z8 10 7 9])
 (.cond (.t 10)
 (.seq (.ops [ZY 4 false])
 .ret)
 .skip))
 (.seq (.par [ZZ 11 true 133 2,ZV 12 1,ZU 13 (Zi 33 [(.t 12)]),ZZ 14 true 133 2,ZV 15 1,ZU 16 (.p (.build (.ints 2) [(0,1,(ZR 6)),(1,1,(.t 15))])),ZU 17 (Zi 69 [(.t 14),(.t 16)]),ZU 18 (Zh 68 [(.t 11),(.t 13),(.t 17)]),ZV 4 18])
 .ret)))⟩
def a33:AF:=⟨5,[.tmp 2],
 (.seq (.ops [ZX 2 0])
 (.seq (.seq (.ops [ZV 3 0,Z5 4 .eql 3 0])
 (.cond (.t 4)
 (.seq (.ops [ZX 2 1])
 .ret)
 .skip))
 (.seq (.ops [ZX 2 0])
 .ret)))⟩
def a34:AF:=⟨30,[.cell 4 true 133,.tmp 5],
 (.seq (.ops [ZU 2 (.h (.box (.t 0))),ZU 4 (.h (.alloc (.ints 133))),ZX 5 0])
 (.seq (.seq (.ops [ZX 6 0])
 (.block 0 (.loop (.seq (.seq (.ops [ZV 9 6,ZV 10 1,ZU 11 (.p (.len (.t 10))),Z4 12 .lss 9 11])
 (.cond (.t 12)
 .skip
 (.exit 0)))
 (.seq (.block 1 (.seq (.par [ZZ 16 true 133 2,ZV 17 1,ZV 18 6,ZU 19 (.p (.ixs 3 (.t 17) (.t 18))),ZZ 20 true 3 19,ZU 21 (Zi 30 [(.t 16),(.t 20)]),ZV 15 21,ZU 22 (.p (.ext (.t 15) 0)),ZU 23 (.p (.ext (.t 15) 1)),ZU 7 (.h (.alloc (.ints 133))),Z1 133 7 22,ZV 8 23])
 (.seq (.seq (.ops [ZV 24 8,Z5 25 .neq 24 0])
 (.cond (.t 25)
 (.seq (.ops [ZU 26 (.p (.build (.ints 133) [])),ZV 27 8,Z1 133 4 26,ZV 5 27])
 .ret)
 .skip))
 (.ops [ZZ 28 true 133 7,Z1 133 2 28]))))
 (.ops [ZV 13 6,Z5 14 .add 13 1,ZV 6 14]))))))
 (.seq (.ops [ZZ 29 true 133 2,Z1 133 4 29,ZX 5 0])
 .ret)))⟩
def a35:AF:=⟨39,[.cell 0 true 133],
 (.seq (.ops [ZU 0 (.h (.alloc (.ints 133)))])
 (.seq (.ops [ZU 4 (Zh 45 []),ZU 1 (.h (.alloc (.ints 133))),Z1 133 1 4])
 (.seq (.ops [ZU 5 (.h (.mksl 8 1 (.one (.s (.int .i64 0))) [(0,(ZR 4)),(1,(ZR 2)),(2,(ZR 3)),(3,(ZR 5)),(4,(ZR 6)),(5,(ZR 3)),(6,(ZR 2)),(7,(ZR 4))])),ZV 2 5])
 (.seq (.seq (.ops [ZX 3 0])
 (.block 0 (.loop (.seq (.seq (.ops [ZV 6 3,Z5 7 .lss 6 8])
 (.cond (.t 7)
 .skip
 (.exit 0)))
 (.seq (.block 1 (.seq (.ops [ZV 10 3,ZV 11 2,ZV 12 3,ZU 13 (.p (.ixs 1 (.t 11) (.t 12))),ZZ 14 false 1 13,ZU 15 (.p (.build (.ints 2) [(0,1,(.t 14)),(1,1,(ZR 0))])),Z2 16 0 128 1,ZU 17 (.p (.ixa 64 2 (.t 16) (.t 10))),Z1 2 17 15])
 (.seq (.ops [ZV 18 3,ZU 19 (.p (.bin .add (ZR 8) (.t 18))),ZU 20 (.p (.build (.ints 2) [(0,1,(ZR 1)),(1,1,(ZR 0))])),Z2 21 0 128 1,ZU 22 (.p (.ixa 64 2 (.t 21) (.t 19))),Z1 2 22 20])
 (.seq (.ops [ZV 23 3,ZU 24 (.p (.bin .add (ZR 48) (.t 23))),ZU 25 (.p (.build (.ints 2) [(0,1,(ZR 1)),(1,1,(ZR 1))])),Z2 26 0 128 1,ZU 27 (.p (.ixa 64 2 (.t 26) (.t 24))),Z1 2 27 25])
 (.ops [ZV 28 3,ZU 29 (.p (.bin .add (ZR 56) (.t 28))),ZV 30 2,ZV 31 3,ZU 32 (.p (.ixs 1 (.t 30) (.t 31))),ZZ 33 false 1 32,ZU 34 (.p (.build (.ints 2) [(0,1,(.t 33)),(1,1,(ZR 1))])),Z2 35 0 128 1,ZU 36 (.p (.ixa 64 2 (.t 35) (.t 29))),Z1 2 36 34])))))
 (.ops [ZV 8 3,Z5 9 .add 8 1,ZV 3 9]))))))
 (.seq (.ops [Z2 37 129 1 1,
 ⟨none,none,.h (.store 1 (.t 37) (ZR 15))⟩])
 (.seq (.ops [ZZ 38 true 133 1,Z1 133 0 38])
 .ret))))))⟩
def a36:AF:=⟨9,[.tmp 2],
 (.seq (.ops [ZU 1 (.h (.box (.t 0))),ZU 2 (.p (.mv (.k .fnil)))])
 (.seq (.seq (.ops [ZZ 3 true 133 1,ZU 4 (Zh 70 [(.t 3)]),ZU 5 (.p (.un .not (.t 4)))])
 (.cond (.t 5)
 (.seq (.ops [ZU 2 (.p (.mv (.k (.fn 71 []))))])
 .ret)
 .skip))
 (.seq (.ops [ZZ 6 true 133 1,ZU 7 (.p (.build (.ints 133) [(0,133,(.t 6))])),ZU 8 (Zh 72 [(.t 7)]),ZV 2 8])
 .ret)))⟩
def a37:AF:=⟨9,[.tmp 4],
 (.seq (.ops [ZY 4 false])
 (.seq (.ops [ZV 5 0,ZV 6 1,ZU 7 (Zh 73 [(.t 5),(.t 6)]),Z5 8 .geq 7 0,ZV 4 8])
 .ret))⟩
def a38:AF:=⟨6,[.tmp 2],
 (.seq (.ops [ZU 1 (.h (.box (.t 0))),ZY 2 false])
 (.seq (.ops [ZZ 3 true 3 1,ZU 4 (Zh 39 [(.t 3)]),ZU 5 (.p (.un .not (.t 4))),ZV 2 5])
 .ret))⟩
def a39:AF:=⟨33,[.tmp 2],
 (.seq (.ops [ZU 1 (.h (.box (.t 0))),ZY 2 false])
 (.seq (.ops [Z2 3 0 1 1,ZZ 4 false 1 3,ZU 5 (Zh 74 [(.t 4)]),ZV 6 5,Z3 7 6 true 1 1 1,Z0 8 6 true false 1 7,ZT 9 6 true (Zh 74 [(.t 8)]),Z8 10 6 9,ZV 11 10,Z3 12 11 true 0 1 1,Z0 13 11 true false 1 12,Z3 14 11 true 1 1 1,Z0 15 11 true false 1 14,Z6 16 11 true .neq 13 15,Z8 17 11 16,ZV 18 17,Z3 19 18 true 2 1 1,Z0 20 18 true false 1 19,Z7 21 18 true .neq 20 1,Z8 22 18 21,ZV 23 22,Z3 24 23 true 2 1 1,Z0 25 23 true false 1 24,Z7 26 23 true .geq 25 0,Z8 27 23 26,ZV 28 27,Z3 29 28 true 2 1 1,Z0 30 28 true false 1 29,Z7 31 28 true .leq 30 5,Z8 32 28 31,ZV 2 32])
 .ret))⟩
def a41:AF:=⟨9,[.tmp 4],
 (.seq (.ops [ZU 3 (.h (.box (.t 1))),ZY 4 false])
 (.seq (.ops [ZV 5 0,ZZ 6 true 3 3,ZU 7 (Zh 79 [(.t 5),(.t 6)]),Z5 8 .geq 7 0,ZV 4 8])
 .ret))⟩
def a42:AF:=⟨33,[.tmp 2],
 (.seq (.ops [ZU 1 (.h (.box (.t 0))),ZY 2 false])
 (.seq (.ops [Z2 3 0 1 1,ZZ 4 false 1 3,ZU 5 (Zh 60 [(.t 4)]),ZV 6 5,Z3 7 6 true 1 1 1,Z0 8 6 true false 1 7,ZT 9 6 true (Zh 60 [(.t 8)]),Z8 10 6 9,ZV 11 10,Z3 12 11 true 0 1 1,Z0 13 11 true false 1 12,Z3 14 11 true 1 1 1,Z0 15 11 true false 1 14,Z6 16 11 true .neq 13 15,Z8 17 11 16,ZV 18 17,Z3 19 18 true 2 1 1,Z0 20 18 true false 1 19,Z7 21 18 true .eql 20 0,ZW 22 18 true 21,Z3 23 22 false 2 1 1,Z0 24 22 false false 1 23,Z7 25 22 false .geq 24 2,ZW 26 22 false 25,Z3 27 26 true 2 1 1,Z0 28 26 true false 1 27,Z7 29 26 true .leq 28 5,ZT 30 22 false (.p (.pick (.t 26) (.t 29) (ZS false))),ZT 31 18 true (.p (.pick (.t 22) (ZS true) (.t 30))),Z8 32 18 31,ZV 2 32])
 .ret))⟩
def a43:AF:=⟨137,[.tmp 2,.tmp 3,.tmp 4],
 (.seq (.ops [ZU 2 (.p (.mv (.k .snil))),ZX 3 0,ZX 4 0])
 (.seq (.seq (.ops [ZV 11 0,ZU 12 (.p (.lenS (.t 11))),Z5 13 .gtr 12 65536])
 (.cond (.t 13)
 (.seq (.ops [ZU 2 (.p (.mv (.k .snil))),ZX 3 0,ZX 4 3])
 .ret)
 .skip))
 (.seq (.ops [ZU 5 (.p (.mv (.k .snil)))])
 (.seq (.ops [ZX 6 0])
 (.seq (.block 0 (.loop (.seq (.seq (.ops [ZV 14 6,ZV 15 0,ZU 16 (.p (.lenS (.t 15))),Z4 17 .lss 14 16,ZV 18 17,ZW 19 18 false 5,ZT 20 18 false (.p (.len (.t 19))),Z7 21 18 false .gtr 20 0,ZW 22 18 false 21,ZW 23 22 true 6,ZW 24 22 true 0,ZT 25 22 true (.p (.lenS (.t 24))),Z6 26 22 true .eql 23 25,ZT 27 18 false (.p (.pick (.t 22) (.t 26) (ZS false))),ZW 28 18 false 27,ZW 29 28 true 0,ZW 30 28 true 6,Z7 31 28 true .sub 30 1,ZT 32 28 true (.p (.ixstr (.t 29) (.t 31))),ZT 33 28 true (.p (.bin .eql (.t 32) (.k (.s (.int .u8 32))))),ZT 34 18 false (.p (.pick (.t 28) (.t 33) (ZS false))),Z9 35 18 34])
 (.cond (.t 35)
 .skip
 (.exit 0)))
 (.block 1 (.seq (.ops [ZU 7 (.h (.alloc (.ints 4)))])
 (.seq (.seq (.ops [ZX 8 0])
 (.block 2 (.loop (.seq (.seq (.ops [ZV 36 8,Z5 37 .lss 36 4])
 (.cond (.t 37)
 .skip
 (.exit 2)))
 (.seq (.block 3 (.seq (.seq (.ops [ZV 40 6,ZV 41 0,ZU 42 (.p (.lenS (.t 41))),Z4 43 .eql 40 42])
 (.cond (.t 43)
 (.seq (.ops [ZV 44 6,ZU 2 (.p (.mv (.k .snil))),ZV 3 44,ZX 4 13])
 .ret)
 .skip))
 (.seq (.ops [⟨some 9,none,.p (.mv (.k (.s (.str ⟨#[97,98,99,100,101,102,103,104]⟩))))⟩])
 (.seq (.seq (.ops [ZV 45 8,Z5 46 .rem 45 2,Z5 47 .eql 46 1])
 (.cond (.t 47)
 (.ops [⟨some 9,none,.p (.mv (.k (.s (.str ⟨#[49,50,51,52,53,54,55,56]⟩))))⟩])
 .skip))
 (.seq (.ops [ZV 48 8,ZV 49 0,ZV 50 6,ZU 51 (.p (.ixstr (.t 49) (.t 50))),ZV 52 9,ZU 53 (Zh 80 [(.t 51),(.t 52)]),ZU 54 (.p (.ixa 4 1 (.t 7) (.t 48))),Z1 1 54 53])
 (.seq (.seq (.ops [ZV 55 8,ZU 56 (.p (.ixa 4 1 (.t 7) (.t 55))),ZZ 57 false 1 56,Z5 58 .lss 57 0,ZV 59 58,ZW 60 59 false 8,Z7 61 59 false .eql 60 3,ZW 62 59 false 61,ZT 63 62 true (.p (.ixa 4 1 (.t 7) (ZR 0))),Z0 64 62 true false 1 63,ZT 65 62 true (.p (.ixa 4 1 (.t 7) (ZR 2))),Z0 66 62 true false 1 65,Z6 67 62 true .eql 64 66,ZT 68 59 false (.p (.pick (.t 62) (.t 67) (ZS false))),ZW 69 59 false 68,ZT 70 69 true (.p (.ixa 4 1 (.t 7) (ZR 1))),Z0 71 69 true false 1 70,ZT 72 69 true (.p (.ixa 4 1 (.t 7) (ZR 3))),Z0 73 69 true false 1 72,Z6 74 69 true .eql 71 73,ZT 75 59 false (.p (.pick (.t 69) (.t 74) (ZS false))),Z9 76 59 75])
 (.cond (.t 76)
 (.seq (.ops [ZV 77 6,ZU 2 (.p (.mv (.k .snil))),ZV 3 77,ZX 4 13])
 .ret)
 .skip))
 (.ops [ZV 78 6,Z5 79 .add 78 1,ZV 6 79])))))))
 (.ops [ZV 38 8,Z5 39 .add 38 1,ZV 8 39]))))))
 (.seq (.ops [ZU 80 (.p (.ixa 4 1 (.t 7) (ZR 1))),ZZ 81 false 1 80,ZU 82 (.p (.bin .mul (ZR 8) (.t 81))),ZU 83 (.p (.ixa 4 1 (.t 7) (ZR 0))),ZZ 84 false 1 83,Z4 85 .add 82 84,ZU 86 (.p (.ixa 4 1 (.t 7) (ZR 3))),ZZ 87 false 1 86,ZU 88 (.p (.bin .mul (ZR 8) (.t 87))),ZU 89 (.p (.ixa 4 1 (.t 7) (ZR 2))),ZZ 90 false 1 89,Z4 91 .add 88 90,ZU 92 (.p (.build (.ints 3) [(0,1,(.t 85)),(1,1,(.t 91))])),ZU 10 (.h (.alloc (.ints 3))),Z1 3 10 92])
 (.seq (.seq (.ops [ZV 93 6,ZV 94 0,ZU 95 (.p (.lenS (.t 94))),Z4 96 .lss 93 95,ZV 97 96,ZW 98 97 true 0,ZW 99 97 true 6,ZT 100 97 true (.p (.ixstr (.t 98) (.t 99))),
 ⟨some 101,some (97,true),.h (.call (.k (.fn 80 [])) [(.t 100),(.k (.s (.str ⟨#[110,98,114,113]⟩)))])⟩,Z7 102 97 true .geq 101 0,Z8 103 97 102])
 (.cond (.t 103)
 (.seq (.ops [ZV 104 0,ZV 105 6,ZU 106 (.p (.ixstr (.t 104) (.t 105))),
 ⟨some 107,none,.h (.call (.k (.fn 80 [])) [(.t 106),(.k (.s (.str ⟨#[110,98,114,113]⟩)))])⟩,ZU 108 (.p (.bin .add (ZR 2) (.t 107))),Z2 109 2 1 10,Z1 1 109 108])
 (.ops [ZV 110 6,Z5 111 .add 110 1,ZV 6 111]))
 .skip))
 (.seq (.ops [ZV 112 5,ZZ 113 true 3 10,ZU 114 (.h (.mksl 1 3 (.ints 3) [(0,(.t 113))])),ZU 115 (.h (.append 3 24 (.t 112) (.t 114))),ZV 5 115])
 (.seq (.seq (.ops [ZV 116 6,ZV 117 0,ZU 118 (.p (.lenS (.t 117))),Z4 119 .lss 116 118,ZV 120 119,ZW 121 120 true 0,ZW 122 120 true 6,ZT 123 120 true (.p (.ixstr (.t 121) (.t 122))),ZT 124 120 true (.p (.bin .neq (.t 123) (.k (.s (.int .u8 32))))),Z8 125 120 124])
 (.cond (.t 125)
 (.seq (.ops [ZV 126 6,ZU 2 (.p (.mv (.k .snil))),ZV 3 126,ZX 4 13])
 .ret)
 .skip))
 (.seq (.ops [ZV 127 6,ZV 128 0,ZU 129 (.p (.lenS (.t 128))),Z4 130 .lss 127 129])
 (.cond (.t 130)
 (.ops [ZV 131 6,Z5 132 .add 131 1,ZV 6 132])
 .skip))))))))))))
 (.seq (.seq (.ops [ZV 133 5,ZU 134 (.p (.len (.t 133))),Z5 135 .gtr 134 8192])
 (.cond (.t 135)
 (.seq (.ops [ZU 2 (.p (.mv (.k .snil))),ZX 3 0,ZX 4 3])
 .ret)
 .skip))
 (.seq (.ops [ZV 136 5,ZV 2 136,ZX 3 0,ZX 4 0])
 .ret)))))))⟩
def a44:AF:=⟨58,[.cell 2 true 3,.tmp 3],
 (.seq (.ops [ZU 2 (.h (.alloc (.ints 3))),ZY 3 false])
 (.seq (.seq (.ops [ZV 6 0,ZU 7 (Zh 81 [(.t 6),(ZR (-1))]),ZV 5 7,ZU 8 (.p (.ext (.t 5) 0)),ZU 9 (.p (.ext (.t 5) 1)),Z2 10 0 1 2,Z1 1 10 8,ZV 3 9])
 (.seq (.ops [ZV 11 3,ZU 12 (.p (.un .not (.t 11)))])
 (.cond (.t 12)
 (.seq (.ops [ZZ 13 true 3 2,Z1 3 2 13,ZY 3 false])
 .ret)
 .skip)))
 (.seq (.seq (.ops [ZV 15 0,Z2 16 0 1 2,ZZ 17 false 1 16,ZU 18 (Zh 81 [(.t 15),(.t 17)]),ZV 14 18,ZU 19 (.p (.ext (.t 14) 0)),ZU 20 (.p (.ext (.t 14) 1)),Z2 21 1 1 2,Z1 1 21 19,ZV 3 20])
 (.seq (.ops [ZV 22 3,ZU 23 (.p (.un .not (.t 22)))])
 (.cond (.t 23)
 (.seq (.ops [ZZ 24 true 3 2,Z1 3 2 24,ZY 3 false])
 .ret)
 .skip)))
 (.seq (.seq (.par [ZV 25 0,ZU 26 (.p (.nilck (.t 25))),Z2 27 1 1 26,ZZ 28 false 1 27,ZV 29 0,ZU 30 (.p (.nilck (.t 29))),Z2 31 0 1 30,ZZ 32 false 1 31,ZU 33 (.p (.lenS (.t 32))),Z4 34 .lss 28 33])
 (.cond (.t 34)
 (.seq (.par [ZV 35 0,ZU 36 (.p (.nilck (.t 35))),Z2 37 0 1 36,ZZ 38 false 1 37,ZV 39 0,ZU 40 (.p (.nilck (.t 39))),Z2 41 1 1 40,ZZ 42 false 1 41,ZU 43 (.p (.ixstr (.t 38) (.t 42))),
 ⟨some 44,none,.h (.call (.k (.fn 82 [])) [(.k (.s (.str ⟨#[110,98,114,113]⟩))),(.t 43)])⟩,ZV 4 44])
 (.seq (.ops [ZV 45 4,Z5 46 .geq 45 0])
 (.cond (.t 46)
 (.seq (.ops [ZV 47 4,ZU 48 (.p (.bin .add (ZR 2) (.t 47))),Z2 49 2 1 2,Z1 1 49 48])
 (.ops [ZV 50 0,ZU 51 (.p (.nilck (.t 50))),Z2 52 1 1 51,ZZ 53 false 1 52,Z5 54 .add 53 1,ZU 55 (.p (.nilck (.t 50))),Z2 56 1 1 55,Z1 1 56 54]))
 .skip)))
 .skip))
 (.seq (.ops [ZZ 57 true 3 2,Z1 3 2 57,ZY 3 true])
 .ret)))))⟩
def a45:AF:=⟨2,[.cell 0 true 133],
 (.seq (.ops [ZU 0 (.h (.alloc (.ints 133)))])
 (.seq (.ops [ZU 1 (.p (.build (.ints 133) [(130,1,(ZR (-1))),(132,1,(ZR 1))])),Z1 133 0 1])
 .ret))⟩
def a46:AF:=⟨19,[.tmp 4,.tmp 5],
 (.seq (.ops [ZX 4 0,ZU 5 (.p (.mv (.k .inil)))])
 (.seq (.ops [ZV 6 0,ZU 7 (Zh 83 [(.t 6)])])
 (.seq (.ops [ZV 8 0,ZV 9 0,ZU 10 (.p (.nilck (.t 9))),Z2 11 1 1 10,ZZ 12 false 1 11,ZV 13 1,ZU 14 (.h (.appendb 5 1 (.t 12) (.t 13))),ZU 15 (.p (.nilck (.t 8))),Z2 16 1 1 15,Z1 1 16 14])
 (.seq (.ops [ZV 17 1,ZU 18 (.p (.lenS (.t 17))),ZV 4 18,ZU 5 (.p (.mv (.k .inil)))])
 .ret))))⟩
def a47:AF:=⟨116,[.tmp 4,.tmp 5],
 (.seq (.ops [ZU 2 (.h (.box (.t 0))),ZU 3 (.h (.box (.t 1))),ZU 4 (.p (.mv (.k .pnil))),ZX 5 0])
 (.seq (.seq (.ops [Z2 9 0 1 3,ZZ 10 false 1 9,ZU 11 (Zh 74 [(.t 10)]),ZU 12 (.p (.un .not (.t 11))),ZV 13 12,Z3 14 13 false 1 1 3,Z0 15 13 false false 1 14,ZT 16 13 false (Zh 74 [(.t 15)]),ZT 17 13 false (.p (.un .not (.t 16))),Z9 18 13 17,ZV 19 18,Z3 20 19 false 0 1 3,Z0 21 19 false false 1 20,Z3 22 19 false 1 1 3,Z0 23 19 false false 1 22,Z6 24 19 false .eql 21 23,Z9 25 19 24])
 (.cond (.t 25)
 (.seq (.ops [ZU 4 (.p (.mv (.k .pnil))),ZX 5 6])
 .ret)
 .skip))
 (.seq (.par [ZZ 26 true 133 2,ZZ 27 true 3 3,Z2 28 0 1 3,ZZ 29 false 1 28,Z2 30 0 128 2,ZU 31 (.p (.ixa 64 2 (.t 30) (.t 29))),ZZ 32 true 2 31,ZU 33 (.p (.build (.ints 138) [(0,133,(.t 26)),(133,3,(.t 27)),(136,2,(.t 32))])),ZU 34 (.h (.box (.t 33))),ZV 6 34])
 (.seq (.seq (.ops [ZV 35 6,ZU 36 (.p (.nilck (.t 35))),Z2 37 0 133 36,Z2 38 129 1 37,ZZ 39 false 1 38,Z5 40 .lss 39 0,ZV 41 40,ZW 42 41 false 6,ZT 43 41 false (.p (.nilck (.t 42))),Z3 44 41 false 0 133 43,Z3 45 41 false 129 1 44,Z0 46 41 false false 1 45,Z7 47 41 false .gtr 46 15,Z9 48 41 47])
 (.cond (.t 48)
 (.ops [ZV 49 6,ZU 50 (.p (.nilck (.t 49))),Z2 51 0 133 50,Z2 52 129 1 51,
 ⟨none,none,.h (.store 1 (.t 52) (ZR 0))⟩])
 .skip))
 (.seq (.ops [ZV 53 6,ZU 54 (.p (.nilck (.t 53))),Z2 55 136 2 54,ZZ 56 true 2 55,ZU 7 (.h (.alloc (.ints 2))),Z1 2 7 56])
 (.seq (.seq (.ops [Z2 57 0 1 7,ZZ 58 false 1 57,Z5 59 .lss 58 1,ZV 60 59,Z3 61 60 false 0 1 7,Z0 62 60 false false 1 61,Z7 63 60 false .gtr 62 6,Z9 64 60 63,ZV 65 64,Z3 66 65 false 1 1 7,Z0 67 65 false false 1 66,Z3 68 65 false 128 1 2,Z0 69 65 false false 1 68,Z6 70 65 false .neq 67 69,Z9 71 65 70,ZV 72 71,Z3 73 72 false 1 1 7,Z0 74 72 false false 1 73,Z7 75 72 false .neq 74 0,ZW 76 72 false 75,Z3 77 76 true 1 1 7,Z0 78 76 true false 1 77,Z7 79 76 true .neq 78 1,ZT 80 72 false (.p (.pick (.t 76) (.t 79) (ZS false))),Z9 81 72 80])
 (.cond (.t 81)
 (.seq (.ops [ZU 4 (.p (.mv (.k .pnil))),ZX 5 8])
 .ret)
 .skip))
 (.seq (.par [Z2 82 0 1 7,ZZ 83 false 1 82,Z5 84 .eql 83 1,ZV 85 84,Z3 86 85 true 1 1 3,Z0 87 85 true false 1 86,ZT 88 85 true (Zi 84 [(.t 87)]),Z3 89 85 true 1 1 7,Z0 90 85 true false 1 89,ZT 91 85 true (.p (.bin .sub (ZR 1) (.t 90))),ZT 92 85 true (.p (.bin .mul (ZR 7) (.t 91))),Z6 93 85 true .eql 88 92,Z8 94 85 93,ZV 8 94])
 (.seq (.seq (.ops [ZV 95 8,ZV 96 95,Z3 97 96 true 2 1 3,Z0 98 96 true false 1 97,Z7 99 96 true .lss 98 2,ZW 100 96 true 99,Z3 101 100 false 2 1 3,Z0 102 100 false false 1 101,Z7 103 100 false .gtr 102 5,ZT 104 96 true (.p (.pick (.t 100) (ZS true) (.t 103))),Z8 105 96 104,ZV 106 105,ZW 107 106 false 8,ZT 108 106 false (.p (.un .not (.t 107))),ZW 109 106 false 108,Z3 110 109 true 2 1 3,Z0 111 109 true false 1 110,Z7 112 109 true .neq 111 0,ZT 113 106 false (.p (.pick (.t 109) (.t 112) (ZS false))),Z9 114 106 113])
 (.cond (.t 114)
 (.seq (.ops [ZU 4 (.p (.mv (.k .pnil))),ZX 5 8])
 .ret)
 .skip))
 (.seq (.ops [ZV 115 6,ZV 4 115,ZX 5 0])
 .ret)))))))))⟩
def a48:AF:=⟨59,[.tmp 2],
 (.seq (.ops [ZX 2 0])
 (.seq (.ops [ZV 4 0,ZU 5 (.p (.nilck (.t 4))),Z2 6 133 3 5,Z2 7 1 1 6,ZZ 8 false 1 7,ZV 3 8])
 (.seq (.seq (.ops [ZV 9 0,ZU 10 (.p (.nilck (.t 9))),Z2 11 136 2 10,Z2 12 0 1 11,ZZ 13 false 1 12,Z5 14 .eql 13 1,ZV 15 14,ZW 16 15 true 0,ZT 17 15 true (Zh 85 [(.t 16)]),Z7 18 15 true .neq 17 0,Z8 19 15 18,ZV 20 19,ZW 21 20 true 3,ZW 22 20 true 0,ZT 23 20 true (.p (.nilck (.t 22))),Z3 24 20 true 0 133 23,Z3 25 20 true 130 1 24,Z0 26 20 true false 1 25,Z6 27 20 true .eql 21 26,Z8 28 20 27,ZV 29 28,ZW 30 29 true 0,ZW 31 29 true 3,ZT 32 29 true (.p (.nilck (.t 30))),Z3 33 29 true 0 133 32,Z3 34 29 true 0 128 33,ZT 35 29 true (.p (.ixa 64 2 (.t 34) (.t 31))),Z0 36 29 true true 2 35,ZT 37 29 true (.p (.build (.ints 2) [])),ZT 38 29 true (.p (.eqa false 2 (.t 36) (.t 37))),Z8 39 29 38])
 (.cond (.t 39)
 (.par [ZV 40 3,ZU 41 (Zi 87 [(.t 40)]),ZV 42 0,ZU 43 (.p (.nilck (.t 42))),Z2 44 133 3 43,Z2 45 0 1 44,ZZ 46 false 1 45,ZU 47 (Zh 84 [(.t 46)]),ZU 48 (Zh 86 [(.t 41),(.t 47)]),ZV 3 48])
 .skip))
 (.seq (.seq (.ops [ZV 49 0,ZV 50 3,ZU 51 (.p (.nilck (.t 49))),Z2 52 0 133 51,Z2 53 0 128 52,ZU 54 (.p (.ixa 64 2 (.t 53) (.t 50))),ZZ 55 true 2 54,ZU 56 (.p (.build (.ints 2) [])),ZU 57 (.p (.eqa false 2 (.t 55) (.t 56)))])
 (.cond (.t 57)
 (.seq (.ops [ZX 2 (-1)])
 .ret)
 .skip))
 (.seq (.ops [ZV 58 3,ZV 2 58])
 .ret)))))⟩
def a49:AF:=⟨17,[.cell 2 true 3],
 (.seq (.ops [ZU 2 (.h (.alloc (.scl [(.int .i64 0),(.int .i64 0),(.bool false)])))])
 (.seq (.seq (.ops [ZV 3 0,Z5 4 .lss 3 0,ZV 5 4,ZW 6 5 false 0,Z7 7 5 false .geq 6 64,Z9 8 5 7])
 (.cond (.t 8)
 (.seq (.ops [ZU 9 (.p (.build (.ints 2) [(0,1,(ZR (-1))),(1,1,(ZR (-1)))])),ZU 10 (.p (.build (.scl [(.int .i64 0),(.int .i64 0),(.bool false)]) [(0,2,(.t 9))])),Z1 3 2 10])
 .ret)
 .skip))
 (.seq (.ops [ZV 11 0,Z5 12 .rem 11 8,ZV 13 0,Z5 14 .quo 13 8,ZU 15 (.p (.build (.ints 2) [(0,1,(.t 12)),(1,1,(.t 14))])),ZU 16 (.p (.build (.scl [(.int .i64 0),(.int .i64 0),(.bool false)]) [(0,2,(.t 15)),(2,1,(ZS true))])),Z1 3 2 16])
 .ret)))⟩
def a50:AF:=⟨161,[.cell 2 true 133],
 (.seq (.ops [ZU 2 (.h (.alloc (.ints 133)))])
 (.seq (.ops [ZV 9 0,ZU 10 (Zh 48 [(.t 9)]),ZV 3 10])
 (.seq (.ops [ZV 12 0,ZU 13 (Zh 88 [(.t 12)]),ZV 11 13,ZU 14 (.p (.ext (.t 11) 0)),ZU 15 (.p (.ext (.t 11) 1)),ZU 16 (.p (.ext (.t 11) 2)),ZV 4 14,ZV 5 15,ZV 6 16])
 (.seq (.ops [ZX 7 (-1)])
 (.seq (.seq (.ops [ZV 17 0,ZU 18 (Zh 89 [(.t 17)])])
 (.cond (.t 18)
 (.par [ZV 19 0,ZU 20 (.p (.nilck (.t 19))),Z2 21 133 3 20,Z2 22 0 1 21,ZZ 23 false 1 22,ZV 24 0,ZU 25 (.p (.nilck (.t 24))),Z2 26 133 3 25,Z2 27 1 1 26,ZZ 28 false 1 27,Z4 29 .add 23 28,Z5 30 .quo 29 2,ZV 7 30])
 .skip))
 (.seq (.ops [ZV 31 0,ZU 32 (.p (.nilck (.t 31))),Z2 33 136 2 32,ZZ 34 true 2 33,ZU 8 (.h (.alloc (.ints 2))),Z1 2 8 34])
 (.seq (.seq (.ops [ZV 35 0,ZU 36 (.p (.nilck (.t 35))),Z2 37 133 3 36,Z2 38 2 1 37,ZZ 39 false 1 38,Z5 40 .neq 39 0])
 (.cond (.t 40)
 (.ops [ZV 41 0,ZU 42 (.p (.nilck (.t 41))),Z2 43 133 3 42,Z2 44 2 1 43,ZZ 45 false 1 44,Z2 46 0 1 8,Z1 1 46 45])
 .skip))
 (.seq (.ops [ZV 47 0,ZU 48 (.p (.build (.ints 2) [])),ZV 49 3,ZV 50 0,ZU 51 (.p (.nilck (.t 50))),Z2 52 133 3 51,Z2 53 0 1 52,ZZ 54 false 1 53,ZU 55 (.h (.mksl 2 1 (.one (.s (.int .i64 0))) [(0,(.t 49)),(1,(.t 54))])),ZU 56 (Zh 90 [(.t 47),(.t 48),(.t 55)])])
 (.seq (.par [ZV 57 0,ZZ 58 true 2 8,ZV 59 0,ZU 60 (.p (.nilck (.t 59))),Z2 61 133 3 60,Z2 62 1 1 61,ZZ 63 false 1 62,ZU 64 (.h (.mksl 1 1 (.one (.s (.int .i64 0))) [(0,(.t 63))])),ZU 65 (Zh 90 [(.t 57),(.t 58),(.t 64)])])
 (.seq (.seq (.ops [ZV 66 6])
 (.cond (.t 66)
 (.seq (.ops [ZV 67 0,ZU 68 (.p (.build (.ints 2) [])),ZV 69 4,ZU 70 (.h (.mksl 1 1 (.one (.s (.int .i64 0))) [(0,(.t 69))])),ZU 71 (Zh 90 [(.t 67),(.t 68),(.t 70)])])
 (.ops [ZV 72 0,Z2 73 1 1 8,ZZ 74 false 1 73,ZU 75 (.p (.build (.ints 2) [(0,1,(ZR 4)),(1,1,(.t 74))])),ZV 76 5,ZU 77 (.h (.mksl 1 1 (.one (.s (.int .i64 0))) [(0,(.t 76))])),ZU 78 (Zh 90 [(.t 72),(.t 75),(.t 77)])]))
 .skip))
 (.seq (.ops [ZV 79 0,ZV 80 7,ZU 81 (.p (.nilck (.t 79))),Z2 82 0 133 81,Z2 83 130 1 82,Z1 1 83 80])
 (.seq (.par [ZV 84 0,ZU 85 (.p (.nilck (.t 84))),Z2 86 0 133 85,Z2 87 129 1 86,ZZ 88 false 1 87,ZV 89 0,ZU 90 (.p (.nilck (.t 89))),Z2 91 133 3 90,Z2 92 0 1 91,ZZ 93 false 1 92,ZV 94 0,ZU 95 (.p (.nilck (.t 94))),Z2 96 133 3 95,Z2 97 1 1 96,ZZ 98 false 1 97,ZU 99 (.h (.mksl 2 1 (.one (.s (.int .i64 0))) [(0,(.t 93)),(1,(.t 98))])),ZU 100 (Zi 91 [(.t 99)]),Z4 101 .andNot 88 100,ZU 102 (.p (.nilck (.t 84))),Z2 103 0 133 102,Z2 104 129 1 103,Z1 1 104 101])
 (.seq (.ops [ZV 105 0,ZV 106 0,ZU 107 (.p (.nilck (.t 106))),Z2 108 0 133 107,Z2 109 131 1 108,ZZ 110 false 1 109,ZU 111 (.p (.mn [(.t 110),(ZR 1023)])),Z5 112 .add 111 1,ZU 113 (.p (.nilck (.t 105))),Z2 114 0 133 113,Z2 115 131 1 114,Z1 1 115 112])
 (.seq (.seq (.ops [ZV 116 3,Z5 117 .neq 116 (-1),ZV 118 117,ZW 119 118 false 0,ZT 120 118 false (.p (.nilck (.t 119))),Z3 121 118 false 136 2 120,Z3 122 118 false 0 1 121,Z0 123 118 false false 1 122,Z7 124 118 false .eql 123 1,Z9 125 118 124])
 (.cond (.t 125)
 (.ops [ZV 126 0,ZU 127 (.p (.nilck (.t 126))),Z2 128 0 133 127,Z2 129 131 1 128,
 ⟨none,none,.h (.store 1 (.t 129) (ZR 0))⟩])
 .skip))
 (.seq (.seq (.ops [ZV 130 0,ZU 131 (.p (.nilck (.t 130))),Z2 132 0 133 131,Z2 133 128 1 132,ZZ 134 false 1 133,Z5 135 .eql 134 1])
 (.cond (.t 135)
 (.ops [ZV 136 0,ZV 137 0,ZU 138 (.p (.nilck (.t 137))),Z2 139 0 133 138,Z2 140 132 1 139,ZZ 141 false 1 140,ZU 142 (.p (.mn [(.t 141),(ZR 16383)])),Z5 143 .add 142 1,ZU 144 (.p (.nilck (.t 136))),Z2 145 0 133 144,Z2 146 132 1 145,Z1 1 146 143])
 .skip))
 (.seq (.ops [ZV 147 0,ZV 148 0,ZU 149 (.p (.nilck (.t 148))),Z2 150 0 133 149,Z2 151 128 1 150,ZZ 152 false 1 151,ZU 153 (Zh 53 [(.t 152)]),ZU 154 (.p (.nilck (.t 147))),Z2 155 0 133 154,Z2 156 128 1 155,Z1 1 156 153])
 (.seq (.ops [ZV 157 0,ZU 158 (.p (.nilck (.t 157))),Z2 159 0 133 158,ZZ 160 true 133 159,Z1 133 2 160])
 .ret)))))))))))))))))⟩
def a51:AF:=⟨13,[.tmp 2],
 (.seq (.ops [ZU 1 (.h (.box (.t 0))),ZY 2 false])
 (.seq (.ops [Z2 3 0 133 1,ZZ 4 true 133 3,ZU 5 (Zh 70 [(.t 4)]),ZV 6 5,Z3 7 6 true 0 133 1,Z0 8 6 true true 133 7,ZT 9 6 true (Zh 11 [(.t 8)]),ZT 10 6 true (.p (.len (.t 9))),Z7 11 6 true .eql 10 0,Z8 12 6 11,ZV 2 12])
 .ret))⟩
def a52:AF:=⟨5,[.tmp 2],
 (.seq (.ops [ZX 2 0])
 (.seq (.seq (.ops [ZV 3 0,Z5 4 .eql 3 1])
 (.cond (.t 4)
 (.seq (.ops [ZX 2 2])
 .ret)
 .skip))
 (.seq (.ops [ZX 2 1])
 .ret)))⟩
end Go.Proofs.YtlkighkfkdpncaaGreatDoor
