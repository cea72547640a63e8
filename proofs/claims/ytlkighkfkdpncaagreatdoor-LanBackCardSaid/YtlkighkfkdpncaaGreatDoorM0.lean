/- Texts of this seat, joined. -/
import Derived.ProofKit
import Derived.Test.YtlkighkfkdpncaaGreatDoorProg
import Derived.KernelRfl
import Derived.Test.YtlkighkfkdpncaaGreatDoorAm3
noncomputable section
namespace Go.Am
open Go
abbrev Zh (k:Nat) (l:List O):Ins:=.h (.call (.k (.fn k [])) l)
abbrev Zi (k:Nat) (l:List O):Ins:=.h (.callq (.k (.fn k [])) l)
abbrev ZR (x:Int):O:=.k (.s (.int .i64 x))
abbrev ZS (x:Bool):O:=.k (.s (.bool x))
abbrev ZV (d x:Nat):I:=⟨some d,none,.p (.mv (.t x))⟩
abbrev ZW (d g:Nat) (b:Bool) (x:Nat):I:=⟨some d,some (g,b),.p (.mv (.t x))⟩
abbrev ZX (d:Nat) (x:Int):I:=⟨some d,none,.p (.mv (ZR x))⟩
abbrev ZY (d:Nat) (x:Bool):I:=⟨some d,none,.p (.mv (ZS x))⟩
abbrev ZZ (d:Nat) (a:Bool) (m x:Nat):I:=⟨some d,none,.h (.load a m (.t x))⟩
abbrev Z0 (d g:Nat) (b:Bool) (a:Bool) (m x:Nat):I:=⟨some d,some (g,b),.h (.load a m (.t x))⟩
abbrev Z1 (m x y:Nat):I:=⟨none,none,.h (.store m (.t x) (.t y))⟩
abbrev Z2 (d o m x:Nat):I:=⟨some d,none,.p (.fa o m (.t x))⟩
abbrev Z3 (d g:Nat) (b:Bool) (o m x:Nat):I:=⟨some d,some (g,b),.p (.fa o m (.t x))⟩
abbrev Z4 (d:Nat) (p:BinOp) (x y:Nat):I:=⟨some d,none,.p (.bin p (.t x) (.t y))⟩
abbrev Z5 (d:Nat) (p:BinOp) (x:Nat) (y:Int):I:=⟨some d,none,.p (.bin p (.t x) (ZR y))⟩
abbrev Z6 (d g:Nat) (b:Bool) (p:BinOp) (x y:Nat):I:=⟨some d,some (g,b),.p (.bin p (.t x) (.t y))⟩
abbrev Z7 (d g:Nat) (b:Bool) (p:BinOp) (x:Nat) (y:Int):I:=⟨some d,some (g,b),.p (.bin p (.t x) (ZR y))⟩
abbrev Z8 (d x y:Nat):I:=⟨some d,none,.p (.pick (.t x) (.t y) (ZS false))⟩
abbrev Z9 (d x y:Nat):I:=⟨some d,none,.p (.pick (.t x) (ZS true) (.t y))⟩
abbrev ZT (d g:Nat) (b:Bool) (i:Ins):I:=⟨some d,some (g,b),i⟩
abbrev ZU (d:Nat) (i:Ins):I:=⟨some d,none,i⟩
theorem ZI {a b:Bool} (h:a=b):V.s (S.bool a)=V.s (S.bool b):=congrArg (fun b=>V.s (S.bool b)) h
theorem ZJ {a b:Int} (h:a=b):V.s (S.int .i64 a)=V.s (S.int .i64 b):=congrArg (fun b=>V.s (S.int .i64 b)) h
theorem ZK {N:Nat} {f:FE} {L:HA} {x:Nat} {b:Bool} (h:rd N f x=.s (.bool b)):RS N f L [.tmp x] [.s (.bool b)]:=YH h YW
theorem ZL {N:Nat} {f:FE} {L:HA} {x:Nat} {k:IntKind} {b:Int} (h:rd N f x=.s (.int k b)):RS N f L [.tmp x] [.s (.int k b)]:=YH h YW
theorem ZM {α:Type} {a:α} {l:List α}:a∈a::l:=.head _
theorem ZN {α:Type} {a b:α} {l:List α}:b∈a::b::l:=.tail _ (.head _)
theorem ZO {α:Type} {a b c:α} {l:List α}:c∈a::b::c::l:=.tail _ (.tail _ (.head _))
theorem ZP {α:Type} {a b c d:α} {l:List α}:d∈a::b::c::d::l:=.tail _ (.tail _ (.tail _ (.head _)))
theorem ZQ {a:AF} {xs:List V} (h:Nat.ble xs.length a.nt=true):K4 a xs=E a.nt (YI xs):=entry_E (ZbT h)
section
variable {A:AP} {N:Nat} {l:List I} {f:FE} {n:Nat} {L:HA} {K:KN} {Zp:V->KN} {d:Nat}
theorem Zj {x:O} {kd:IntKind} {a:Int} (h:x.fv N f=.s (.int kd a)) (k:WO A N l (upd f d (.s (.int kd a))) n L K Zp):WO A N (⟨some d,none,.p (.mv x)⟩::l) f n L K Zp:=Ed h k
theorem Zk {x:O} {a:Bool} (h:x.fv N f=.s (.bool a)) (k:WO A N l (upd f d (.s (.bool a))) n L K Zp):WO A N (⟨some d,none,.p (.mv x)⟩::l) f n L K Zp:=Ed h k
theorem Zl {x:O} {b o z:Nat} (h:x.fv N f=.ptr b o z) (k:WO A N l (upd f d (.ptr b o z)) n L K Zp):WO A N (⟨some d,none,.p (.mv x)⟩::l) f n L K Zp:=Ed h k
theorem Zm {x:O} {b:Nat} {g:Nat->S} (h:x.fv N f=.agg b g) (k:WO A N l (upd f d (.agg b g)) n L K Zp):WO A N (⟨some d,none,.p (.mv x)⟩::l) f n L K Zp:=Ed h k
theorem Zn {x:O} {b o m z:Nat} {c:Cp} (h:x.fv N f=.sl b o m z c) (k:WO A N l (upd f d (.sl b o m z c)) n L K Zp):WO A N (⟨some d,none,.p (.mv x)⟩::l) f n L K Zp:=Ed h k
theorem Zo {x:O} {y:List V} (h:x.fv N f=.tup y) (k:WO A N l (upd f d (.tup y)) n L K Zp):WO A N (⟨some d,none,.p (.mv x)⟩::l) f n L K Zp:=Ed h k
def Zb (N:Nat) (f:FE) (c a b:O):V:=match c.fv N f with
 | .s (.bool t)=>bif t then a.fv N f else b.fv N f
 | _=>.undef
theorem Zq {c a b:O} {r:Bool} (h:Zb N f c a b=.s (.bool r)) (k:WO A N l (upd f d (.s (.bool r))) n L K Zp):WO A N (⟨some d,none,.p (.pick c a b)⟩::l) f n L K Zp:=by
 unfold Zb at h
 split at h
 · rename_i t e
   exact WO_pick e h k
 cases h
def Zc (N:Nat) (f:FE) (op:BinOp) (x y:O):Option S:=match x.fv N f,y.fv N f with
 | .s a,.s b=>Wc op a b
 | _,_=>none
theorem Zr {op:BinOp} {x y:O} {r:Bool} (h:Zc N f op x y=some (.bool r)) (k:WO A N l (upd f d (.s (.bool r))) n L K Zp):WO A N (⟨some d,none,.p (.bin op x y)⟩::l) f n L K Zp:=by
 unfold Zc at h
 split at h
 · rename_i a b e1 e2
   exact Re e1 e2 h k
 cases h
theorem Zs {x y:O} {a b:Int} (hx:x.fv N f=.s (.int .i64 a)) (hy:y.fv N f=.s (.int .i64 b)) (k:WO A N l (upd f d (.s (.int .i64 (a+b)))) n L K Zp) (hr:-9223372036854775808<=a+b/\a+b<=9223372036854775807:=by omega):WO A N (⟨some d,none,.p (.bin .add x y)⟩::l) f n L K Zp:=Ur hx hy hr k
theorem Zt {x y:O} {a b:Int} (hx:x.fv N f=.s (.int .i64 a)) (hy:y.fv N f=.s (.int .i64 b)) (k:WO A N l (upd f d (.s (.int .i64 (a - b)))) n L K Zp) (hr:-9223372036854775808<=a - b/\a - b<=9223372036854775807:=by omega):WO A N (⟨some d,none,.p (.bin .sub x y)⟩::l) f n L K Zp:=jJ hx hy hr k
theorem Zu {x y:O} {a b:Int} (hx:x.fv N f=.s (.int .i64 a)) (hy:y.fv N f=.s (.int .i64 b)) (k:WO A N l (upd f d (.s (.int .i64 (a / b)))) n L K Zp) (hr:0<=a/\a<=9223372036854775807/\1<=b:=by omega):WO A N (⟨some d,none,.p (.bin .quo x y)⟩::l) f n L K Zp:=py hx hy hr k
theorem Zv {x y:O} {a b:Int} (hx:x.fv N f=.s (.int .i64 a)) (hy:y.fv N f=.s (.int .i64 b)) (k:WO A N l (upd f d (.s (.int .i64 (a % b)))) n L K Zp) (hr:0<=a/\1<=b:=by omega):WO A N (⟨some d,none,.p (.bin .rem x y)⟩::l) f n L K Zp:=WO_rem hx hy hr k
theorem Zw {len z:Nat} {x i:O} {b o z':Nat} {kd:IntKind} {j:Int} (hx:x.fv N f=.ptr b o z') (hi:i.fv N f=.s (.int kd j)) (hz:Nat.ble (len*z) z'=true) (k:WO A N l (upd f d (.ptr b (o+j.toNat*z) z)) n L K Zp) (hj:0<=j/\j < len:=by omega):WO A N (⟨some d,none,.p (.ixa len z x i)⟩::l) f n L K Zp:=Vr hx hi hz hj k
theorem Zx {z:Nat} {x i:O} {b o m:Nat} {c:Cp} {kd:IntKind} {j:Int} (hx:x.fv N f=.sl b o m z c) (hi:i.fv N f=.s (.int kd j)) (k:WO A N l (upd f d (.ptr b (o+j.toNat*z) z)) n L K Zp) (hj:0<=j/\j < m:=by omega):WO A N (⟨some d,none,.p (.ixs z x i)⟩::l) f n L K Zp:=Dq hx hi hj k
def Zd (N:Nat) (f:FE) (x:O) (off z:Nat):Option (Nat × Nat):=match x.fv N f with
 | .ptr b o z'=>bif Nat.ble (off+z) z' then some (b,o+off) else none
 | _=>none
theorem Zy {off z:Nat} {x:O} {b:Nat} (h:Zd N f x off z=some (b,0)) (k:WO A N l (upd f d (.ptr b 0 z)) n L K Zp):WO A N (⟨some d,none,.p (.fa off z x)⟩::l) f n L K Zp:=by
 unfold Zd at h
 split at h
 · rename_i b o z' e
   cases hb:Nat.ble (off+z) z' with
   | true =>
    rw [hb,cond_true] at h
    injection h with h
    injection h with h1 h2
    subst h1
    exact sX e hb h2 k
   | false=>rw [hb] at h; cases h
 cases h
theorem Zz {off z:Nat} {x:O} {b:Nat} (h:Zd N f x off z=some (b,1)) (k:WO A N l (upd f d (.ptr b 1 z)) n L K Zp):WO A N (⟨some d,none,.p (.fa off z x)⟩::l) f n L K Zp:=by
 unfold Zd at h
 split at h
 · rename_i b o z' e
   cases hb:Nat.ble (off+z) z' with
   | true =>
    rw [hb,cond_true] at h
    injection h with h
    injection h with h1 h2
    subst h1
    exact sX e hb h2 k
   | false=>rw [hb] at h; cases h
 cases h
theorem ZA {X:Nat->KN} {R:KN} {c:O} {a b:AC} (hc:c.fv N f=.s (.bool true)) (h:WP A N a f n L K X R Zp):WP A N (.cond c a b) f n L K X R Zp:=wX hc (fun _=>h) (fun h=>nomatch h)
theorem ZB {X:Nat->KN} {R:KN} {c:O} {a b:AC} (hc:c.fv N f=.s (.bool false)) (h:WP A N b f n L K X R Zp):WP A N (.cond c a b) f n L K X R Zp:=wX hc (fun h=>nomatch h) (fun _=>h)
def ZG (N:Nat) (f:FE) (t:Nat) (w:Bool):Bool:=match rd N f t with
 | .s (.bool b)=>!(b == w)
 | _=>false
theorem ZH {d:Option Nat} {t:Nat} {w:Bool} {i:Ins} (h:ZG N f t w=true) (k:WO A N l (Xc f d (.tup [])) n L K Zp):WO A N (⟨d,some (t,w),i⟩::l) f n L K Zp:=by
 unfold ZG at h
 split at h
 · rename_i b e
   exact WO_gf e (by simpa using h) k
 cases h
theorem ZC {d0:Option Nat} {t0:Nat} {w0:Bool} {i0:Ins} (h:(ZG N f t0 w0)=true) (k:WO A N l (Xc f d0 (.tup [])) n L K Zp):WO A N (⟨d0,some (t0,w0),i0⟩::l) f n L K Zp:=by
 exact ZH h k
theorem ZD {d0 d1:Option Nat} {t0 t1:Nat} {w0 w1:Bool} {i0 i1:Ins} (h:(ZG N f t0 w0&&ZG N (Xc f d0 (.tup [])) t1 w1)=true) (k:WO A N l (Xc (Xc f d0 (.tup [])) d1 (.tup [])) n L K Zp):WO A N (⟨d0,some (t0,w0),i0⟩::⟨d1,some (t1,w1),i1⟩::l) f n L K Zp:=by
 simp only [Zca] at h
 exact ZH h.1 (ZH h.2 k)
theorem ZE {d0 d1 d2 d3:Option Nat} {t0 t1 t2 t3:Nat} {w0 w1 w2 w3:Bool} {i0 i1 i2 i3:Ins} (h:(ZG N f t0 w0&&ZG N (Xc f d0 (.tup [])) t1 w1&&ZG N (Xc (Xc f d0 (.tup [])) d1 (.tup [])) t2 w2&&ZG N (Xc (Xc (Xc f d0 (.tup [])) d1 (.tup [])) d2 (.tup [])) t3 w3)=true) (k:WO A N l (Xc (Xc (Xc (Xc f d0 (.tup [])) d1 (.tup [])) d2 (.tup [])) d3 (.tup [])) n L K Zp):WO A N (⟨d0,some (t0,w0),i0⟩::⟨d1,some (t1,w1),i1⟩::⟨d2,some (t2,w2),i2⟩::⟨d3,some (t3,w3),i3⟩::l) f n L K Zp:=by
 simp only [Zca] at h
 exact ZH h.1.1.1 (ZH h.1.1.2 (ZH h.1.2 (ZH h.2 k)))
theorem ZF {d0 d1 d2 d3 d4 d5 d6 d7:Option Nat} {t0 t1 t2 t3 t4 t5 t6 t7:Nat} {w0 w1 w2 w3 w4 w5 w6 w7:Bool} {i0 i1 i2 i3 i4 i5 i6 i7:Ins} (h:(ZG N f t0 w0&&ZG N (Xc f d0 (.tup [])) t1 w1&&ZG N (Xc (Xc f d0 (.tup [])) d1 (.tup [])) t2 w2&&ZG N (Xc (Xc (Xc f d0 (.tup [])) d1 (.tup [])) d2 (.tup [])) t3 w3&&ZG N (Xc (Xc (Xc (Xc f d0 (.tup [])) d1 (.tup [])) d2 (.tup [])) d3 (.tup [])) t4 w4&&ZG N (Xc (Xc (Xc (Xc (Xc f d0 (.tup [])) d1 (.tup [])) d2 (.tup [])) d3 (.tup [])) d4 (.tup [])) t5 w5&&ZG N (Xc (Xc (Xc (Xc (Xc (Xc f d0 (.tup [])) d1 (.tup [])) d2 (.tup [])) d3 (.tup [])) d4 (.tup [])) d5 (.tup [])) t6 w6&&ZG N (Xc (Xc (Xc (Xc (Xc (Xc (Xc f d0 (.tup [])) d1 (.tup [])) d2 (.tup [])) d3 (.tup [])) d4 (.tup [])) d5 (.tup [])) d6 (.tup [])) t7 w7)=true) (k:WO A N l (Xc (Xc (Xc (Xc (Xc (Xc (Xc (Xc f d0 (.tup [])) d1 (.tup [])) d2 (.tup [])) d3 (.tup [])) d4 (.tup [])) d5 (.tup [])) d6 (.tup [])) d7 (.tup [])) n L K Zp):WO A N (⟨d0,some (t0,w0),i0⟩::⟨d1,some (t1,w1),i1⟩::⟨d2,some (t2,w2),i2⟩::⟨d3,some (t3,w3),i3⟩::⟨d4,some (t4,w4),i4⟩::⟨d5,some (t5,w5),i5⟩::⟨d6,some (t6,w6),i6⟩::⟨d7,some (t7,w7),i7⟩::l) f n L K Zp:=by
 simp only [Zca] at h
 exact ZH h.1.1.1.1.1.1.1 (ZH h.1.1.1.1.1.1.2 (ZH h.1.1.1.1.1.2 (ZH h.1.1.1.1.2 (ZH h.1.1.1.2 (ZH h.1.1.2 (ZH h.1.2 (ZH h.2 k)))))))
theorem Za {X:Nat->KN} {R:KN} {c:AC} (d:Nat) {v:V} (h:f d=v) (k:WP A N c (upd f d v) n L K X R Zp):WP A N c f n L K X R Zp:=tD h k
theorem Ze {X:Nat->KN} {R:KN} {c:AC} (h:WO A N l f n L (fun f n L=>WP A N c f n L K X R Zp) Zp):WP A N (.seq (.ops l) c) f n L K X R Zp:=xI (jN h)
theorem Zf {X:Nat->KN} {R:KN} {c:AC} {Zq:V->KN} (h:WO A N l f n L (fun f n L=>WP A N c f n L K X R Zp) Zp):WO A N [] f n L (fun f n L=>WP A N (.seq (.ops l) c) f n L K X R Zp) Zq:=vE (xI (jN h))
theorem Zg {X:Nat->KN} {R:KN} {Zq:V->KN} {Q:FE->Nat->HA->List V->Prop} {x:Nat} {b:Bool} (h:rd N f x=.s (.bool b)) (k:Q f n L [.s (.bool b)]):WO A N [] f n L (fun f n L=>WP A N .ret f n L R X (fun f n L=>∃ vs,RS N f L [.tmp x] vs/\Q f n L vs) Zp) Zq:=vE (gv ⟨_,YH h YW,k⟩)
end
abbrev Ya:=@WO_gf
abbrev Yb:=@WO_gt
abbrev Yc:=@vE
abbrev Yd:=@sX
abbrev Ye:=@xI
abbrev Yf:=@jN
abbrev Yg:=@WP_par
abbrev Yh:=@WP_skip
abbrev Yi:=@gv
abbrev Yj:=@wX
abbrev Yk:=@Zba
abbrev Yl:=@tD
abbrev Ym:=@WO_ldI
abbrev Yn:=@oQ
abbrev Yo:=@WO_ldA0
abbrev Yp:=@WO_ldAI
abbrev Yq:=@Ed
abbrev Yr:=@Re
abbrev Ys:=@WO_case
abbrev Yt:=@Zbg
abbrev Yu:=@oy
abbrev Yv:=@WO_un
abbrev Yw:=@pq
abbrev Yx:=@WO_eqaC
abbrev Yy:=@gk
abbrev Yz:=@WO_stA
abbrev YA:=@WO_stI
abbrev YB:=@pO
abbrev YC:=@WO_boxA
abbrev YD:=@WO_ext
abbrev YE:=@sY
abbrev YF:=@ZbT
end Go.Am
namespace Go.Am
open Go Go.RowKit Go.ChangeShapes Go.WideShapes
theorem E3 {H:Type} {enc:TypeId × Value->H} {P:Program} (hl:laidOutB P=true) {W W':World} (hb:Below W.heap.size W W'):∀ {ts:List TypeId} {vs:List Value} {ds:List (DataW H)} {ps:List MemPlace},
  DataW.TrodAll enc P W 0 (fun _=>true) true ts vs ds ps→(ts.all fun t=>P.readableRec t&&decide (t < P.types.size))=true→(∀ x∈ps,x.block < W.heap.size) →
  DataW.TrodAll enc P W' 0 (fun b=>decide (b < W.heap.size)) true ts vs ds ps
 | [],[],[],ps,h,_,_=>h
 | t::ts,v::vs,d::ds,ps,h,hr,hlt=>by
  obtain ⟨p,q,h1,h2,rfl⟩:=h
  simp only [List.all_cons,Zca,Zb7] at hr
  exact ⟨p,q,Below.trod hl hr.1.1 hr.1.2 h1 hb (fun x hx=>hlt x (Zcg.2 (.inl hx))),E3 hl hb h2 hr.2 (fun x hx=>hlt x (Zcg.2 (.inr hx))),rfl⟩
 | [],[],_::_,_,h,_,_=>h.elim
 | [],_::_,_,_,h,_,_=>h.elim
 | _::_,[],_,_,h,_,_=>h.elim
 | _::_,_::_,[],_,h,_,_=>h.elim
def rO [Bas] (A:AP) (f:FuncId) (W:World) (args:Array Value):Prop :=
 ∃ ι σ av σ',RelW ι σ W/\Dom ι σ/\VRL ι av args.toList/\(∀ b,¬ mutb σ b)/\Run A f av σ=some (.s (.bool true),σ')
theorem vf [Bas] {H:Type} {enc:TypeId × Value->H} {P:Program} {A:AP} (hr:WD P (Run A)) (hl:laidOutB P=true) {f:FuncId} {fn:Func} {s:ChangeSpec} {apart:Bool} {W:World} {args:Array Value} {ds gs:List (DataW H)} {before:List MemPlace} {tb:TypeId}
  (hW:DataW.Whole enc P fn.params.toList s.vars apart W args.toList ds gs before) (hv:s.vars=[]) (hs:s.fn H ds={ results:=[.lit (.bool true)],args:=ds }) (hrt:fn.resultTypes=#[tb]) (htb:P.underlying tb=some .bool)
  (hts:(fn.params.toList.all fun t=>P.readableRec t&&decide (t < P.types.size))=true) (ho:rO A f W args) :
  Calls P f args W fun e W'=>∃ v,e=.returned v/\s.post enc P fn apart true false false W args v W':=by
 obtain ⟨ι,σ,av,σ',hR,hD,hvr,hro,hrun⟩:=ho
 have h:=pm hr hrun hR hD hvr hro
 rw [Array.toArray_toList] at h
 refine h.mono ?_
 rintro e W' ⟨rfl,hb⟩
 refine ⟨_,rfl,?_⟩
 have hlt:=hW.lt
 have hW':=hW
 obtain ⟨p,q,hA,hV,rfl,hfz,hnd⟩:=hW'
 rw [hv] at hV
 have hgs:gs=[]/\q=[]:=by
  cases gs with
  | nil=>exact ⟨rfl,hV⟩
  | cons _ _=>exact hV.elim
 obtain ⟨rfl,rfl⟩:=hgs
 rw [Zcf] at hlt
 refine ⟨ds,[],p++[],[],p,[],hW,?_,?_,?_,hb.frame _,fun h=>nomatch h⟩
 ·rw [Zcf,hs,hrt]
  exact trodAll_mk1 ⟨1,by simp [DataW.trod,Value.cells,htb]⟩
 ·rw [Zcf,hs]
  exact E3 hl hb hA hts hlt
 rw [Zcf,hs,hv]
 rfl
theorem vrl3 {ι:Inj} {a b c:V} {v0 v1 v2:Value} (h0:VR ι a v0) (h1:VR ι b v1) (h2:VR ι c v2):VRL ι [a,b,c] (#[v0,v1,v2]:Array Value).toList:=by
 simp only [VRL]; exact ⟨_,_,rfl,h0,_,_,rfl,h1,_,_,rfl,h2,rfl⟩
def flatI (P:Program) (t:TypeId) (n:Nat):Bool :=
 match P.underlying t with
 | some (.struct _) | some (.array _ _)=>P.cellsOf t == n&&(match P.cellTypes P.depth t with
  | some ts=>ts.all fun u=>match P.underlying u with
   | some (.int .i64)=>true
   | _=>false
  | none=>false)
 | _=>false
def intAt (cs:Array Value) (n:Nat):Nat->Int:=fun i=>if i < n then (match cs[i]? with
 | some (.int _ x)=>x
 | _=>0) else 0
def R5:Inj:=fun _=>none
theorem kB (W:World):@RelW ⟨W⟩ R5 [] W:=@RelW.mk ⟨W⟩ _ _ _ (fun _ _ h=>by simp [R5] at h) (fun _ _ _ h=>by simp [R5] at h) (fun _ _ _ _ h=>by simp [R5] at h) (fun _ _ h=>by simp [R5] at h) (Zcs _) (fun _ _=>rfl)
theorem vC:Dom R5 []:=fun _ _ h=>by simp [R5] at h
theorem u5:∀ b,¬ mutb [] b:=fun b ⟨x,hx,_⟩=>by simp at hx
theorem rel_ro [Bas] {ι:Inj} {σ:Heap} {W:World} (hR:RelW ι σ W) (hD:Dom ι σ) (hro:∀ b,¬ mutb σ b) {p:Place} {g:Nat->S} (hlt:p.c < W.heap.size) (hc:∀ i,i < p.n->W.cell? ⟨p.c,p.base+i,none⟩=some (g i).val) :
  RelW (ι.put σ.length p) (σ++[.sc .ro p.n g]) W/\Dom (ι.put σ.length p) (σ++[.sc .ro p.n g])/\(∀ b,¬ mutb (σ++[.sc .ro p.n g]) b)/\Ext ι (ι.put σ.length p):=by
 have hput:∀ b q,ι.put σ.length p b=some q->(b=σ.length/\q=p)\/(b < σ.length/\ι b=some q):=by
  intro b q h
  unfold Inj.put at h
  by_cases hb:b=σ.length
  ·rw [ZcA hb] at h; injection h with h; exact .inl ⟨hb,h.symm⟩
  rw [Zcz hb] at h; exact .inr ⟨hD _ _ h,h⟩
 have hnm:∀ b,¬ mutb (σ++[.sc .ro p.n g]) b:=by
  rintro b ⟨x,hx,hm⟩
  by_cases hb:b < σ.length
  ·rw [ZbF hb] at hx; exact hro b ⟨x,hx,hm⟩
  rw [ZbE (by omega)] at hx
  cases hk:b - σ.length with
  | zero=>rw [hk] at hx; simp at hx; subst hx; simp [Blk.mut,Md.mut] at hm
  | succ k=>rw [hk] at hx; simp at hx
 have hext:Ext ι (ι.put σ.length p):=by
  intro b q h
  unfold Inj.put
  rw [Zcz (by have:=hD _ _ h; omega)]
  exact h
 refine ⟨⟨?_,?_,?_,fun b q _ hm=>absurd hm (hnm b),hR.bsz,hR.bas⟩,?_,hnm,hext⟩
 ·intro b q h
  rcases hput b q h with ⟨_,rfl⟩ | ⟨_,h⟩
  ·exact hlt
  exact hR.lt b q h
 ·intro b q x h hx
  rcases hput b q h with ⟨rfl,rfl⟩ | ⟨hb,h⟩
  ·simp at hx
   subst hx
   exact ⟨rfl,hc,fun h=>by simp [Md.mut] at h⟩
  rw [ZbF hb] at hx
  exact (hR.blk b q x h hx).keep hext rfl
 ·intro b b' q q' _ _ _ hm
  exact absurd hm (hnm b)
 intro b q h
 rcases hput b q h with ⟨rfl,_⟩ | ⟨hb,_⟩ <;> simp <;> omega
end Go.Am
namespace Go.Am
open Go Go.RowKit Go.ChangeShapes Go.WideShapes
theorem yl {α β:Type} {g:α->Option β}:∀ {l:List α} {r:List β},l.mapM g=some r->∀ (i:Nat) (x:α),l[i]? = some x->∃ y,r[i]? = some y/\g x=some y
 | [],r,_,i,x,hx=>by simp at hx
 | a::l,r,h,i,x,hx=>by
  rw [List.mapM_cons] at h
  cases ha:g a with
  | none=>simp [ha] at h
  | some y =>
   simp only [ha] at h
   cases hl:l.mapM g with
   | none=>simp [hl] at h
   | some r' =>
    simp [hl] at h
    subst h
    cases i with
    | zero=>simp at hx; subst hx; exact ⟨y,rfl,ha⟩
    | succ i=>exact yl hl i x (by simpa using hx)
theorem rJ {H:Type} {enc:TypeId × Value->H} {P:Program} {W:World} {sp:Nat->Bool} {e:TypeId} {fs:Array Field} {z:Nat} (he:P.underlying e=some (.struct fs)) (hfs:∀ i,i < z->∃ f,f∈fs.toList/\f.offset=i/\P.cellsOf f.type=1/\P.underlying f.type=some (.int .i64)) (n:Nat) (cs:List Value) (y:DataW H × List MemPlace)
  (h:DataW.trod enc P W 0 sp true n e cs=some y) (i:Nat) (hi:i < z):∃ x,cs[i]? = some (.int .i64 x)/\-9223372036854775808<=x/\x<=9223372036854775807:=by
 cases n with
 | zero=>simp [DataW.trod] at h
 | succ n =>
  rw [DataW.trod_step] at h
  unfold DataW.trodStep at h
  rw [he] at h
  simp only at h
  split at h
  ·rename_i hlen
   simp only [ZbK] at h
   obtain ⟨xs,hm,_⟩:=h
   obtain ⟨f,hf,ho,hc,hu⟩:=hfs i hi
   obtain ⟨k,hk⟩:=List.getElem?_of_mem hf
   obtain ⟨y,_,hy⟩:=yl hm k f hk
   rw [ho,hc] at hy
   obtain ⟨x,hx,_,hw⟩:=DataW.trod_int hu hy
   refine ⟨x,?_,?_⟩
   ·have:((cs.drop i).take 1)[0]? = some (.int .i64 x):=by rw [hx]; rfl
    rw [List.getElem?_take,List.getElem?_drop] at this
    simpa using this
   simp only [Lit.wf,Zca,Zb7] at hw
   exact hw
  simp at h
def oJ:Option Value->Int
 | some (.int _ x)=>x
 | _=>0
theorem gO {H:Type} {enc:TypeId × Value->H} {P:Program} {W:World} {base:Nat} {t e:TypeId} {z:Nat} {v:Value} {d:DataW H} {ps:List MemPlace} (ht:P.underlying t=some (.slice e)) (hz:P.cellsOf e=z) (hz0:0 < z)
  (hflat:∀ (n:Nat) (cs:List Value) (y:DataW H × List MemPlace),DataW.trod enc P W 0 (fun _=>true) true n e cs=some y->∀ i,i < z->∃ x,cs[i]? = some (.int .i64 x)/\-9223372036854775808<=x/\x<=9223372036854775807)
  (hok:Value.okWide P W .any base t v) (h:DataW.Trod enc P W 0 (fun _=>true) true t v d ps) :
  (∀ ι,VR ι .snil v)\/(∀ ι,VR ι .slz v)\/∃ (n:Nat) (p:Place) (R:Nat->Int),0 < n/\p.n=n*z/\p.c < W.heap.size/\(∀ i,i < n*z->W.cell? ⟨p.c,p.base+i,none⟩=some (.int .i64 (R i)))/\(∀ i,-9223372036854775808<=R i/\R i<=9223372036854775807) /\
   ∀ ι b,ι b=some p->VR ι (.sl b 0 n z .unk) v:=by
 obtain ⟨a,len,cap,rfl⟩:=okWide_slice ht hok
 obtain ⟨fuel,hf⟩:=h
 rcases DataW.trod_slice ht hf with ⟨h1,_⟩ | ⟨ad,len',cap',elems,rest,n,_,h1,_,hb,hl,hm,hlen,hel,_,_⟩
 ·left
  intro ι
  simp only [Value.cells] at h1
  simp only [VR]
  simpa using h1
 right
 simp only [Value.cells] at h1
 have h1:Value.slice a len cap=.slice (some ad) len' cap':=by simpa using h1
 injection h1 with h1 h2 h3
 subst h1; subst h2; subst h3
 by_cases h0:len=0
 ·left
  intro ι
  subst h0
  simp only [VR]
  exact ⟨_,_,rfl⟩
 right
 have hsp:ad.spot=none:=by
  simp only [Value.okWide,ht,Cell.okWide,Cell.ok] at hok
  exact hok.2.2.2.1
 have had:∀ i,ad.add i=⟨ad.block,ad.off+i,none⟩:=by
  intro i
  unfold Addr.add
  cases ad
  simp only at hsp
  subst hsp
  split
  ·rename_i hi; subst hi; rfl
  rfl
 have had2:∀ i j,(ad.add i).add j=⟨ad.block,ad.off+(i+j),none⟩:=by
  intro i j
  rw [had i]
  unfold Addr.add
  simp only
  split
  ·rename_i hj; subst hj; rw [Nat.add_zero]
  rw [Nat.add_assoc]
 have hcell:∀ k,k < len*z->∃ x,W.cell? ⟨ad.block,ad.off+k,none⟩=some (.int .i64 x)/\-9223372036854775808<=x/\x<=9223372036854775807:=by
  intro k hk
  have hi:k / z < len:=Nat.div_lt_of_lt_mul (by rw [Nat.mul_comm]; exact hk)
  have hj:k % z < z:=Nat.mod_lt _ hz0
  have hE:=hel (k / z) hi
  have hlt:k / z < elems.length:=by omega
  rw [ZbH hlt,ZbI,hz] at hE
  obtain ⟨cs,hcs,hy⟩:=hE
  obtain ⟨x,hx,hbd⟩:=hflat n cs _ hy (k % z) hj
  unfold World.cells? at hcs
  split at hcs
  ·obtain ⟨c,hc1,hc2⟩:=yl hcs (k % z) (k % z) (by rw [ZbZ hj])
   rw [had2] at hc2
   rw [hx] at hc1
   injection hc1 with hc1
   subst hc1
   have e:k / z*z+k % z=k:=by rw [Nat.mul_comm]; exact Nat.div_add_mod k z
   rw [e] at hc2
   exact ⟨x,hc2,hbd⟩
  simp at hcs
 have h00:=hcell 0 (Nat.mul_pos (by omega) hz0)
 refine ⟨len,⟨ad.block,ad.off,len*z,0,0⟩,fun i=>if i < len*z then oJ (W.cell? ⟨ad.block,ad.off+i,none⟩) else 0,by omega,rfl,?_,?_,?_,?_⟩
 ·obtain ⟨x,hx,_⟩:=h00
  unfold World.cell? at hx
  split at hx
  ·rename_i hq; exact (Array.getElem?_eq_some_iff.1 hq).1
  simp at hx
 ·intro i hi
  obtain ⟨x,hx,_⟩:=hcell i hi
  simp only [ZcA hi,hx,oJ]
 ·intro i
  by_cases hi:i < len*z
  ·simp only [ZcA hi]
   obtain ⟨x,hx,hbd⟩:=hcell i hi
   rw [hx]
   exact hbd
  simp only [Zcz hi]; omega
 intro ι b hb
 simp only [VR]
 refine ⟨_,cap,hb,by simp,?_,hl⟩
 cases ad
 simp only at hsp
 subst hsp
 rfl
end Go.Am
namespace Go.Proofs.YtlkighkfkdpncaaGreatDoor
open Go Go.Am
set_option maxRecDepth 100000
def a7:AF:=⟨141,[.tmp 6],
 (.seq (.ops [ZY 6 false])
 (.seq (.seq (.ops [ZU 23 (Zh 10 []),ZU 24 (.p (.un .not (.t 23)))])
 (.cond (.t 24)
 (.seq (.ops [ZY 6 false])
 .ret)
 .skip))
 (.seq (.seq (.ops [ZV 25 0,ZU 26 (.p (.len (.t 25))),ZV 27 1,ZU 28 (.p (.lenS (.t 27))),Z4 29 .add 26 28,ZV 30 2,ZU 31 (.p (.lenS (.t 30))),Z4 32 .add 29 31,Z5 33 .gtr 32 2000])
 (.cond (.t 33)
 (.seq (.ops [ZY 6 true])
 .ret)
 .skip))
 (.seq (.ops [ZV 35 0,ZU 36 (Zh 12 [(.t 35)]),ZV 34 36,ZU 37 (.p (.ext (.t 34) 0)),ZU 38 (.p (.ext (.t 34) 1)),ZV 7 37,ZV 8 38])
 (.seq (.seq (.ops [ZV 39 8,Z5 40 .eql 39 0])
 (.cond (.t 40)
 (.seq (.ops [ZV 42 7,ZU 43 (Zh 17 [(.t 42)]),ZV 41 43,ZU 44 (.p (.ext (.t 41) 0)),ZU 45 (.p (.ext (.t 41) 1)),ZU 46 (.p (.ext (.t 41) 2)),ZV 9 44,ZV 10 45,ZV 11 46])
 (.seq (.ops [ZV 47 11,Z5 48 .neq 47 0,ZV 49 48,ZW 50 49 false 9,ZW 51 49 false 0,ZT 52 49 false (Zh 15 [(.t 50),(.t 51)]),ZT 53 49 false (.p (.un .not (.t 52))),Z9 54 49 53])
 (.cond (.t 54)
 (.seq (.ops [ZY 6 false])
 .ret)
 .skip)))
 (.seq (.ops [ZV 55 8,Z5 56 .neq 55 2,ZV 57 56,ZW 58 57 false 7,
 ⟨some 59,some (57,false),.p (.bin .neq (.t 58) (.k (.s (.str ⟨#[]⟩))))⟩,Z9 60 57 59])
 (.cond (.t 60)
 (.seq (.ops [ZY 6 false])
 .ret)
 .skip))))
 (.seq (.ops [ZV 62 1,ZU 63 (Zh 17 [(.t 62)]),ZV 61 63,ZU 64 (.p (.ext (.t 61) 0)),ZU 65 (.p (.ext (.t 61) 1)),ZU 66 (.p (.ext (.t 61) 2)),ZV 12 64,ZV 13 65,ZV 14 66])
 (.seq (.seq (.ops [ZV 67 14,Z5 68 .eql 67 0])
 (.cond (.t 68)
 (.seq (.ops [ZV 70 12,ZU 71 (Zh 12 [(.t 70)]),ZV 69 71,ZU 72 (.p (.ext (.t 69) 0)),ZU 73 (.p (.ext (.t 69) 1)),ZV 15 72,ZV 16 73])
 (.seq (.ops [ZV 74 16,Z5 75 .eql 74 0,ZV 76 75,ZW 77 76 true 15,ZW 78 76 true 1,Z6 79 76 true .eql 77 78,Z8 80 76 79,ZV 81 80,ZW 82 81 true 13,Z7 83 81 true .eql 82 0,Z8 84 81 83,ZV 6 84])
 .ret))
 .skip))
 (.seq (.seq (.ops [ZV 85 14,Z5 86 .neq 85 13,ZV 87 86,ZW 88 87 false 13,Z7 89 87 false .lss 88 0,Z9 90 87 89,ZV 91 90,ZW 92 91 false 13,ZW 93 91 false 1,ZT 94 91 false (.p (.lenS (.t 93))),Z6 95 91 false .gtr 92 94,Z9 96 91 95,ZV 97 96,ZW 98 97 false 12,ZT 99 97 false (.p (.len (.t 98))),Z7 100 97 false .neq 99 0,Z9 101 97 100])
 (.cond (.t 101)
 (.seq (.ops [ZY 6 false])
 .ret)
 .skip))
 (.seq (.ops [ZV 103 1,ZV 104 13,ZU 105 (.p (.slS (.t 103) none (some (.t 104)))),ZU 106 (Zh 17 [(.t 105)]),ZV 102 106,ZU 107 (.p (.ext (.t 102) 0)),ZU 108 (.p (.ext (.t 102) 1)),ZU 109 (.p (.ext (.t 102) 2)),ZV 17 107,ZV 18 108,ZV 19 109])
 (.seq (.seq (.ops [ZV 110 19,Z5 111 .neq 110 0,ZV 112 111,ZW 113 112 true 18,ZW 114 112 true 13,Z6 115 112 true .neq 113 114,Z8 116 112 115])
 (.cond (.t 116)
 (.seq (.ops [ZY 6 false])
 .ret)
 .skip))
 (.seq (.seq (.ops [ZV 117 13,ZV 118 1,ZU 119 (.p (.lenS (.t 118))),Z4 120 .eql 117 119])
 (.cond (.t 120)
 (.seq (.ops [ZV 121 19,Z5 122 .neq 121 0,ZV 6 122])
 .ret)
 .skip))
 (.seq (.ops [ZV 124 1,ZV 125 13,Z5 126 .add 125 1,ZU 127 (.p (.slS (.t 124) none (some (.t 126)))),ZV 128 2,Z4 129 .add 127 128,ZU 130 (Zh 17 [(.t 129)]),ZV 123 130,ZU 131 (.p (.ext (.t 123) 0)),ZU 132 (.p (.ext (.t 123) 1)),ZU 133 (.p (.ext (.t 123) 2)),ZV 20 131,ZV 21 132,ZV 22 133])
 (.seq (.ops [ZV 134 22,Z5 135 .eql 134 13,ZV 136 135,ZW 137 136 true 21,ZW 138 136 true 13,Z6 139 136 true .eql 137 138,Z8 140 136 139,ZV 6 140])
 .ret)))))))))))))⟩
def a8:AF:=⟨111,[.tmp 4,.tmp 5],
 (.seq (.ops [ZU 2 (.h (.box (.t 0))),ZU 3 (.h (.box (.t 1))),
 ⟨some 4,none,.p (.mv (.k (.s (.str ⟨#[]⟩))))⟩,ZX 5 0])
 (.seq (.seq (.ops [ZZ 15 true 133 2,ZZ 16 true 3 3,ZU 17 (Zh 13 [(.t 15),(.t 16)]),ZU 18 (.p (.un .not (.t 17)))])
 (.cond (.t 18)
 (.seq (.ops [⟨some 4,none,.p (.mv (.k (.s (.str ⟨#[]⟩))))⟩,ZX 5 8])
 .ret)
 .skip))
 (.seq (.par [ZU 19 (.p (.build (.vl [.pnil,.snil]) [])),ZU 20 (.h (.boxt 54 (.t 19))),ZU 21 (Zi 19 []),Z2 22 0 1 3,ZZ 23 false 1 22,Z2 24 0 128 2,ZU 25 (.p (.ixa 64 2 (.t 24) (.t 23))),ZZ 26 true 2 25,ZU 8 (.h (.alloc (.ints 2))),ZV 6 20,ZV 7 21,Z1 2 8 26])
 (.seq (.seq (.ops [Z2 27 1 1 3,ZZ 28 false 1 27,Z2 29 0 1 3,ZZ 30 false 1 29,Z4 31 .sub 28 30,ZV 9 31])
 (.block 0 (.seq (.ops [Z2 61 0 1 8,ZZ 62 false 1 61,Z5 63 .eql 62 6,ZV 64 63,ZW 65 64 true 9,Z7 66 64 true .eql 65 2,Z8 67 64 66,ZV 60 67])
 (.cond (.t 60)
 (.ops [ZV 68 6,
 ⟨some 69,none,.h (.mksl 1 1 (.one (.s (.str ⟨#[]⟩))) [(0,(.k (.s (.str ⟨#[79,45,79]⟩))))])⟩,ZU 70 (Zh 20 [(.t 68),(.t 69)])])
 (.seq (.ops [Z2 72 0 1 8,ZZ 73 false 1 72,Z5 74 .eql 73 6,ZV 75 74,ZW 76 75 true 9,Z7 77 75 true .eql 76 (-2),Z8 78 75 77,ZV 71 78])
 (.cond (.t 71)
 (.ops [ZV 79 6,
 ⟨some 80,none,.h (.mksl 1 1 (.one (.s (.str ⟨#[]⟩))) [(0,(.k (.s (.str ⟨#[79,45,79,45,79]⟩))))])⟩,ZU 81 (Zh 20 [(.t 79),(.t 80)])])
 (.seq (.ops [⟨some 10,none,.p (.mv (.k (.s (.str ⟨#[45]⟩))))⟩])
 (.seq (.seq (.ops [ZZ 32 true 133 2,ZZ 33 true 3 3,ZU 34 (Zh 21 [(.t 32),(.t 33)]),Z5 35 .neq 34 (-1)])
 (.cond (.t 35)
 (.ops [⟨some 10,none,.p (.mv (.k (.s (.str ⟨#[120]⟩))))⟩])
 .skip))
 (.seq (.par [ZV 36 6,ZV 37 7,Z2 38 0 1 8,ZZ 39 false 1 38,
 ⟨some 40,none,.h (.mget (.one (.s (.str ⟨#[]⟩))) false (.t 37) (.t 39))⟩,Z2 41 0 1 3,ZZ 42 false 1 41,ZU 43 (Zi 22 [(.t 42)]),ZV 44 10,Z2 45 1 1 3,ZZ 46 false 1 45,ZU 47 (Zi 22 [(.t 46)]),
 ⟨some 48,none,.h (.mksl 4 1 (.one (.s (.str ⟨#[]⟩))) [(0,(.t 40)),(1,(.t 43)),(2,(.t 44)),(3,(.t 47))])⟩,ZU 49 (Zh 20 [(.t 36),(.t 48)])])
 (.seq (.ops [Z2 50 2 1 3,ZZ 51 false 1 50,Z5 52 .neq 51 0])
 (.cond (.t 52)
 (.ops [ZV 53 6,ZV 54 7,Z2 55 2 1 3,ZZ 56 false 1 55,
 ⟨some 57,none,.h (.mget (.one (.s (.str ⟨#[]⟩))) false (.t 54) (.t 56))⟩,
 ⟨some 58,none,.h (.mksl 2 1 (.one (.s (.str ⟨#[]⟩))) [(0,(.k (.s (.str ⟨#[61]⟩)))),(1,(.t 57))])⟩,ZU 59 (Zh 20 [(.t 53),(.t 58)])])
 .skip)))))))))))
 (.seq (.ops [ZZ 83 true 133 2,ZZ 84 true 3 3,ZU 85 (Zh 23 [(.t 83),(.t 84)]),ZV 82 85,ZU 86 (.p (.ext (.t 82) 0)),ZU 87 (.p (.ext (.t 82) 1)),ZU 11 (.h (.alloc (.ints 133))),Z1 133 11 86,ZV 12 87])
 (.seq (.seq (.ops [ZZ 89 true 133 11,ZU 90 (Zh 24 [(.t 89)]),ZV 88 90,ZU 91 (.p (.ext (.t 88) 0)),ZU 92 (.p (.ext (.t 88) 1)),ZV 13 91,ZV 14 92])
 (.block 1 (.seq (.ops [ZV 94 14,Z5 95 .eql 94 1,ZV 93 95])
 (.cond (.t 93)
 (.ops [ZV 96 6,
 ⟨some 97,none,.h (.mksl 1 1 (.one (.s (.str ⟨#[]⟩))) [(0,(.k (.s (.str ⟨#[35]⟩))))])⟩,ZU 98 (Zh 20 [(.t 96),(.t 97)])])
 (.seq (.ops [ZZ 100 true 133 11,Z2 101 128 1 11,ZZ 102 false 1 101,ZU 103 (Zh 25 [(.t 100),(.t 102)]),ZV 99 103])
 (.cond (.t 99)
 (.ops [ZV 104 6,
 ⟨some 105,none,.h (.mksl 1 1 (.one (.s (.str ⟨#[]⟩))) [(0,(.k (.s (.str ⟨#[43]⟩))))])⟩,ZU 106 (Zh 20 [(.t 104),(.t 105)])])
 .skip))))))
 (.seq (.ops [ZV 107 6,ZU 108 (.p (.nilck (.t 107))),Z2 109 0 2 108,ZU 110 (Zh 26 [(.t 109)]),ZV 4 110,ZX 5 0])
 .ret)))))))⟩
def a10:AF:=⟨42,[.tmp 0],
 (.seq (.ops [ZY 0 false])
 (.seq (.ops [ZU 8 (.p (.build (.ints 3) [(0,1,(ZR 52)),(1,1,(ZR 60)),(2,1,(ZR 5))])),ZU 9 (.h (.mksl 1 3 (.ints 3) [(0,(.t 8))])),ZU 10 (Zh 12 [(.t 9)]),ZV 7 10,ZU 11 (.p (.ext (.t 7) 0)),ZU 12 (.p (.ext (.t 7) 1)),ZV 1 11,ZV 2 12])
 (.seq (.ops [ZU 14 (Zh 35 []),ZU 15 (.p (.build (.ints 3) [(0,1,(ZR 13)),(1,1,(ZR 21))])),ZU 16 (.p (.build (.ints 3) [(0,1,(ZR 52)),(1,1,(ZR 36))])),ZU 17 (.p (.build (.ints 3) [(0,1,(ZR 14)),(1,1,(ZR 30))])),ZU 18 (.h (.mksl 3 3 (.ints 3) [(0,(.t 15)),(1,(.t 16)),(2,(.t 17))])),ZU 19 (Zh 34 [(.t 14),(.t 18)]),ZV 13 19,ZU 20 (.p (.ext (.t 13) 0)),ZU 21 (.p (.ext (.t 13) 1)),ZU 3 (.h (.alloc (.ints 133))),Z1 133 3 20,ZV 4 21])
 (.seq (.ops [ZZ 23 true 133 3,ZU 24 (.p (.build (.ints 3) [(0,1,(ZR 59)),(1,1,(ZR 31))])),ZU 25 (Zh 8 [(.t 23),(.t 24)]),ZV 22 25,ZU 26 (.p (.ext (.t 22) 0)),ZU 27 (.p (.ext (.t 22) 1)),ZV 5 26,ZV 6 27])
 (.seq (.ops [ZV 28 2,Z5 29 .eql 28 0,ZV 30 29,ZW 31 30 true 1,
 ⟨some 32,some (30,true),.p (.bin .eql (.t 31) (.k (.s (.str ⟨#[101,55,101,56,113]⟩))))⟩,Z8 33 30 32,ZV 34 33,ZW 35 34 true 6,Z7 36 34 true .eql 35 0,Z8 37 34 36,ZV 38 37,ZW 39 38 true 5,
 ⟨some 40,some (38,true),.p (.bin .eql (.t 39) (.k (.s (.str ⟨#[81,100,56,45,104,52,35]⟩))))⟩,Z8 41 38 40,ZV 0 41])
 .ret)))))⟩
def KQ:RD:=rdOf Tryz.f11
def g11:AC:=(.ops [ZU 3 (.h (.alloc (.ints 3))),Z1 3 3 6])
def b11:AC:=(.block 1 (.ops [ZZ 8 false 1 2,ZZ 9 true 3 3,ZU 10 (.h (.mksl 1 3 (.ints 3) [(0,(.t 9))])),ZU 11 (.h (.append 3 24 (.t 8) (.t 10))),Z1 1 2 11]))
def a11:AF:=⟨13,[.cell 2 false 1],
 (.seq (.ops [ZU 1 (.h (.box (.t 0))),ZU 2 (.h (.alloc (.one .snil)))])
 (.seq (.seq (.ops [ZZ 4 true 133 1,ZU 5 (Zh 36 [(.t 4)])])
 (.block 0 (.rfn (.t 5) 607 KQ)))
 (.seq (.ops [ZZ 12 false 1 2,Z1 1 2 12])
 .ret)))⟩
def a12:AF:=⟨47,[.tmp 2,.tmp 3],
 (.seq (.ops [⟨some 2,none,.p (.mv (.k (.s (.str ⟨#[]⟩))))⟩,ZX 3 0])
 (.seq (.seq (.ops [ZV 8 0,ZU 9 (.h (.call (.k (.fn 37 [])) [(.t 8),(.k (.fn 38 []))]))])
 (.cond (.t 9)
 (.seq (.ops [⟨some 2,none,.p (.mv (.k (.s (.str ⟨#[]⟩))))⟩,ZX 3 2])
 .ret)
 .skip))
 (.seq (.seq (.ops [ZV 10 0,ZU 11 (.p (.len (.t 10))),Z5 12 .gtr 11 8192])
 (.cond (.t 12)
 (.seq (.ops [⟨some 2,none,.p (.mv (.k (.s (.str ⟨#[]⟩))))⟩,ZX 3 3])
 .ret)
 .skip))
 (.seq (.ops [ZU 13 (.p (.build (.vl [.pnil,.snil]) [])),ZU 14 (.h (.boxt 54 (.t 13))),ZU 15 (Zh 19 []),ZV 4 14,ZV 5 15])
 (.seq (.seq (.ops [ZV 16 0,ZU 17 (.p (.len (.t 16))),ZX 18 0])
 (.block 0 (.loop (.seq (.ops [Z4 19 .lss 18 17])
 (.seq (.cond (.t 19)
 .skip
 (.exit 0))
 (.seq (.block 1 (.seq (.ops [ZV 20 18,ZU 21 (.p (.ixs 3 (.t 16) (.t 18))),ZZ 22 true 3 21,ZU 7 (.h (.alloc (.ints 3))),ZV 6 20,Z1 3 7 22])
 (.seq (.seq (.ops [ZV 23 6,Z5 24 .gtr 23 0])
 (.cond (.t 24)
 (.ops [ZV 25 4,
 ⟨some 26,none,.h (.mksl 1 1 (.one (.s (.str ⟨#[]⟩))) [(0,(.k (.s (.str ⟨#[32]⟩))))])⟩,ZU 27 (Zh 20 [(.t 25),(.t 26)])])
 .skip))
 (.par [ZV 28 4,Z2 29 0 1 7,ZZ 30 false 1 29,ZU 31 (Zi 22 [(.t 30)]),Z2 32 1 1 7,ZZ 33 false 1 32,ZU 34 (Zi 22 [(.t 33)]),ZV 35 5,Z2 36 2 1 7,ZZ 37 false 1 36,
 ⟨some 38,none,.h (.mget (.one (.s (.str ⟨#[]⟩))) false (.t 35) (.t 37))⟩,ZU 39 (Zh 40 [(.t 38)]),
 ⟨some 40,none,.h (.mksl 3 1 (.one (.s (.str ⟨#[]⟩))) [(0,(.t 31)),(1,(.t 34)),(2,(.t 39))])⟩,ZU 41 (Zh 20 [(.t 28),(.t 40)])]))))
 (.ops [Z5 42 .add 18 1,ZV 18 42])))))))
 (.seq (.ops [ZV 43 4,ZU 44 (.p (.nilck (.t 43))),Z2 45 0 2 44,ZU 46 (Zh 26 [(.t 45)]),ZV 2 46,ZX 3 0])
 .ret))))))⟩
def a13:AF:=⟨9,[.tmp 4],
 (.seq (.ops [ZU 2 (.h (.box (.t 0))),ZU 3 (.h (.box (.t 1))),ZY 4 false])
 (.seq (.par [ZZ 5 true 133 2,ZU 6 (Zi 11 [(.t 5)]),ZZ 7 true 3 3,ZU 8 (Zh 41 [(.t 6),(.t 7)]),ZV 4 8])
 .ret))⟩
def a15:AF:=⟨32,[.tmp 4],
 (.seq (.ops [ZY 4 false])
 (.seq (.seq (.ops [ZX 5 0])
 (.block 0 (.loop (.seq (.seq (.ops [ZV 6 5,ZV 7 0,ZU 8 (.p (.len (.t 7))),Z4 9 .lss 6 8,ZV 10 9,ZW 11 10 true 5,ZW 12 10 true 1,ZT 13 10 true (.p (.len (.t 12))),Z6 14 10 true .lss 11 13,Z8 15 10 14])
 (.cond (.t 15)
 .skip
 (.exit 0)))
 (.seq (.block 1 (.seq (.par [ZV 18 0,ZV 19 5,ZU 20 (.p (.ixs 3 (.t 18) (.t 19))),ZZ 21 true 3 20,ZV 22 1,ZV 23 5,ZU 24 (.p (.ixs 3 (.t 22) (.t 23))),ZZ 25 true 3 24,ZU 26 (.p (.eqa true 3 (.t 21) (.t 25)))])
 (.cond (.t 26)
 (.seq (.ops [ZY 4 false])
 .ret)
 .skip)))
 (.ops [ZV 16 5,Z5 17 .add 16 1,ZV 5 17]))))))
 (.seq (.ops [ZV 27 0,ZU 28 (.p (.len (.t 27))),ZV 29 1,ZU 30 (.p (.len (.t 29))),Z4 31 .eql 28 30,ZV 4 31])
 .ret)))⟩
def a17:AF:=⟨60,[.tmp 2,.tmp 3,.tmp 4],
 (.seq (.ops [ZU 2 (.p (.mv (.k .snil))),ZX 3 0,ZX 4 0])
 (.seq (.seq (.ops [ZV 8 0,ZU 9 (.p (.lenS (.t 8))),Z5 10 .gtr 9 65536])
 (.cond (.t 10)
 (.seq (.ops [ZU 2 (.p (.mv (.k .snil))),ZX 3 0,ZX 4 3])
 .ret)
 .skip))
 (.seq (.ops [ZV 11 0,
 ⟨some 12,none,.p (.build (.scl [(.str ⟨#[]⟩),(.int .i64 0)]) [(0,1,(.t 11)),(1,1,(ZR 0))])⟩,ZU 13 (.h (.box (.t 12))),ZV 5 13])
 (.seq (.block 0 (.loop (.seq (.seq (.ops [ZV 14 0,
 ⟨some 15,none,.p (.bin .neq (.t 14) (.k (.s (.str ⟨#[]⟩))))⟩])
 (.cond (.t 15)
 .skip
 (.exit 0)))
 (.block 1 (.seq (.ops [ZV 17 5,ZU 18 (Zh 44 [(.t 17)]),ZV 16 18,ZU 19 (.p (.ext (.t 16) 0)),ZU 20 (.p (.ext (.t 16) 1)),ZU 6 (.h (.alloc (.ints 3))),Z1 3 6 19,ZV 7 20])
 (.seq (.seq (.ops [ZV 21 7,ZU 22 (.p (.un .not (.t 21)))])
 (.cond (.t 22)
 (.seq (.par [ZV 23 5,ZU 24 (.p (.nilck (.t 23))),Z2 25 1 1 24,ZZ 26 false 1 25,ZU 2 (.p (.mv (.k .snil))),ZV 3 26,ZX 4 13])
 .ret)
 .skip))
 (.seq (.ops [ZV 27 2,ZZ 28 true 3 6,ZU 29 (.h (.mksl 1 3 (.ints 3) [(0,(.t 28))])),ZU 30 (.h (.append 3 24 (.t 27) (.t 29))),ZV 2 30])
 (.seq (.seq (.ops [ZV 31 5,ZU 32 (.p (.nilck (.t 31))),Z2 33 1 1 32,ZZ 34 false 1 33,ZV 35 0,ZU 36 (.p (.lenS (.t 35))),Z4 37 .eql 34 36])
 (.cond (.t 37)
 (.exit 0)
 .skip))
 (.seq (.seq (.ops [ZV 38 0,ZV 39 5,ZU 40 (.p (.nilck (.t 39))),Z2 41 1 1 40,ZZ 42 false 1 41,ZU 43 (.p (.ixstr (.t 38) (.t 42))),ZU 44 (.p (.bin .neq (.t 43) (.k (.s (.int .u8 32)))))])
 (.cond (.t 44)
 (.seq (.par [ZV 45 5,ZU 46 (.p (.nilck (.t 45))),Z2 47 1 1 46,ZZ 48 false 1 47,ZU 2 (.p (.mv (.k .snil))),ZV 3 48,ZX 4 13])
 .ret)
 .skip))
 (.ops [ZV 49 5,ZU 50 (.p (.nilck (.t 49))),Z2 51 1 1 50,ZZ 52 false 1 51,Z5 53 .add 52 1,ZU 54 (.p (.nilck (.t 49))),Z2 55 1 1 54,Z1 1 55 53]))))))))))
 (.seq (.seq (.ops [ZV 56 2,ZU 57 (.p (.len (.t 56))),Z5 58 .gtr 57 8192])
 (.cond (.t 58)
 (.seq (.ops [ZU 2 (.p (.mv (.k .snil))),ZX 3 0,ZX 4 3])
 .ret)
 .skip))
 (.seq (.ops [ZV 59 2,ZV 2 59,ZX 3 0,ZX 4 0])
 .ret))))))⟩
def a19:AF:=⟨3,[.tmp 0],
 (.seq (.ops [ZU 0 (.p (.mv (.k .mnil)))])
 (.seq (.ops [ZU 1 (.h (.mkmap)),
 ⟨none,none,.h (.mput (.t 1) (ZR 2) (.k (.s (.str ⟨#[78]⟩))))⟩,
 ⟨none,none,.h (.mput (.t 1) (ZR 3) (.k (.s (.str ⟨#[66]⟩))))⟩,
 ⟨none,none,.h (.mput (.t 1) (ZR 4) (.k (.s (.str ⟨#[82]⟩))))⟩,
 ⟨none,none,.h (.mput (.t 1) (ZR 5) (.k (.s (.str ⟨#[81]⟩))))⟩,
 ⟨none,none,.h (.mput (.t 1) (ZR 6) (.k (.s (.str ⟨#[75]⟩))))⟩,ZV 2 1,ZV 0 2])
 .ret))⟩
def a20:AF:=⟨18,[],
 (.seq (.ops [ZV 6 1,ZU 7 (.p (.len (.t 6))),ZX 8 0])
 (.block 0 (.loop (.seq (.ops [Z4 9 .lss 8 7])
 (.seq (.cond (.t 9)
 .skip
 (.exit 0))
 (.seq (.block 1 (.seq (.ops [ZU 10 (.p (.ixs 1 (.t 6) (.t 8))),ZZ 11 false 1 10,ZV 5 11])
 (.ops [ZV 12 0,ZU 13 (.p (.nilck (.t 12))),Z2 14 0 2 13,ZV 15 5,ZU 16 (Zh 46 [(.t 14),(.t 15)])])))
 (.ops [Z5 17 .add 8 1,ZV 8 17])))))))⟩
def a21:AF:=⟨17,[.tmp 4],
 (.seq (.ops [ZU 2 (.h (.box (.t 0))),ZU 3 (.h (.box (.t 1))),ZX 4 0])
 (.seq (.ops [ZZ 8 true 133 2,ZZ 9 true 3 3,ZU 10 (Zh 47 [(.t 8),(.t 9)]),ZV 7 10,ZU 11 (.p (.ext (.t 7) 0)),ZU 12 (.p (.ext (.t 7) 1)),ZV 5 11,ZV 6 12])
 (.seq (.seq (.ops [ZV 13 6,Z5 14 .neq 13 0])
 (.cond (.t 14)
 (.seq (.ops [ZX 4 (-1)])
 .ret)
 .skip))
 (.seq (.ops [ZV 15 5,ZU 16 (Zh 48 [(.t 15)]),ZV 4 16])
 .ret))))⟩
def a22:AF:=⟨26,[.tmp 2],
 (.seq (.ops [⟨some 2,none,.p (.mv (.k (.s (.str ⟨#[]⟩))))⟩])
 (.seq (.ops [ZV 4 0,ZU 5 (Zh 49 [(.t 4)]),ZU 3 (.h (.alloc (.scl [(.int .i64 0),(.int .i64 0),(.bool false)]))),Z1 3 3 5])
 (.seq (.seq (.ops [Z2 6 2 1 3,ZZ 7 false 1 6,ZU 8 (.p (.un .not (.t 7)))])
 (.cond (.t 8)
 (.seq (.ops [⟨some 2,none,.p (.mv (.k (.s (.str ⟨#[]⟩))))⟩])
 .ret)
 .skip))
 (.seq (.par [Z2 9 0 2 3,Z2 10 0 1 9,ZZ 11 false 1 10,Z2 12 0 2 3,Z2 13 0 1 12,ZZ 14 false 1 13,Z5 15 .add 14 1,
 ⟨some 16,none,.p (.slS (.k (.s (.str ⟨#[97,98,99,100,101,102,103,104]⟩))) (some (.t 11)) (some (.t 15)))⟩,Z2 17 0 2 3,Z2 18 1 1 17,ZZ 19 false 1 18,Z2 20 0 2 3,Z2 21 1 1 20,ZZ 22 false 1 21,Z5 23 .add 22 1,
 ⟨some 24,none,.p (.slS (.k (.s (.str ⟨#[49,50,51,52,53,54,55,56]⟩))) (some (.t 19)) (some (.t 23)))⟩,Z4 25 .add 16 24,ZV 2 25])
 .ret))))⟩
def a23:AF:=⟨20,[.cell 4 true 133,.tmp 5],
 (.seq (.ops [ZU 2 (.h (.box (.t 0))),ZU 3 (.h (.box (.t 1))),ZU 4 (.h (.alloc (.ints 133))),ZX 5 0])
 (.seq (.ops [ZZ 9 true 133 2,ZZ 10 true 3 3,ZU 11 (Zh 47 [(.t 9),(.t 10)]),ZV 8 11,ZU 12 (.p (.ext (.t 8) 0)),ZU 13 (.p (.ext (.t 8) 1)),ZV 6 12,ZV 7 13])
 (.seq (.seq (.ops [ZV 14 7,Z5 15 .neq 14 0])
 (.cond (.t 15)
 (.seq (.ops [ZU 16 (.p (.build (.ints 133) [])),ZV 17 7,Z1 133 4 16,ZV 5 17])
 .ret)
 .skip))
 (.seq (.ops [ZV 18 6,ZU 19 (Zh 50 [(.t 18)]),Z1 133 4 19,ZX 5 0])
 .ret))))⟩
def a24:AF:=⟨22,[.tmp 2,.tmp 3],
 (.seq (.ops [ZU 1 (.h (.box (.t 0))),ZX 2 0,ZX 3 0])
 (.seq (.seq (.ops [ZZ 5 true 133 1,ZU 6 (.p (.build (.ints 133) [(0,133,(.t 5))])),ZU 4 (.h (.alloc (.ints 133))),Z1 133 4 6])
 (.block 0 (.seq (.ops [ZZ 8 true 133 4,ZU 9 (Zh 51 [(.t 8)]),ZU 10 (.p (.un .not (.t 9))),ZV 7 10])
 (.cond (.t 7)
 (.seq (.ops [ZX 2 0,ZX 3 0])
 .ret)
 (.seq (.ops [ZZ 12 true 133 1,Z2 13 0 133 4,Z2 14 128 1 13,ZZ 15 false 1 14,ZU 16 (Zh 25 [(.t 12),(.t 15)]),ZV 11 16])
 (.cond (.t 11)
 (.seq (.ops [Z2 17 0 133 4,Z2 18 128 1 17,ZZ 19 false 1 18,ZU 20 (Zh 53 [(.t 19)]),ZU 21 (Zh 52 [(.t 20)]),ZV 2 21,ZX 3 1])
 .ret)
 .skip))))))
 (.seq (.ops [ZX 2 3,ZX 3 2])
 .ret)))⟩
def a25:AF:=⟨19,[.tmp 4],
 (.seq (.ops [ZU 2 (.h (.box (.t 0))),ZY 4 false])
 (.seq (.seq (.ops [ZV 5 1,Z5 6 .neq 5 0,ZV 7 6,ZW 8 7 true 1,Z7 9 7 true .neq 8 1,Z8 10 7 9])
 (.cond (.t 10)
 (.seq (.ops [ZY 4 false])
 .ret)
 .skip))
 (.seq (.par [ZZ 11 true 133 2,ZV 12 1,ZU 13 (Zi 53 [(.t 12)]),ZZ 14 true 133 2,ZV 15 1,ZU 16 (.p (.build (.ints 2) [(0,1,(ZR 6)),(1,1,(.t 15))])),ZU 17 (Zi 55 [(.t 14),(.t 16)]),ZU 18 (Zh 54 [(.t 11),(.t 13),(.t 17)]),ZV 4 18])
 .ret)))⟩
def a28:AF:=⟨49,[.tmp 4],
 (.seq (.ops [ZU 2 (.h (.box (.t 0))),ZU 3 (.h (.box (.t 1))),ZX 4 0])
 (.seq (.seq (.ops [Z2 6 0 1 3,ZZ 7 false 1 6,ZU 8 (Zh 57 [(.t 7)]),ZU 9 (.p (.un .not (.t 8))),ZV 10 9,Z3 11 10 false 1 1 3,Z0 12 10 false false 1 11,ZT 13 10 false (Zh 57 [(.t 12)]),ZT 14 10 false (.p (.un .not (.t 13))),Z9 15 10 14,ZV 16 15,Z3 17 16 false 0 1 3,Z0 18 16 false false 1 17,Z3 19 16 false 1 1 3,Z0 20 16 false false 1 19,Z6 21 16 false .eql 18 20,Z9 22 16 21,ZV 23 22,Z0 24 23 false true 133 2,Z0 25 23 false true 3 3,ZT 26 23 false (Zh 58 [(.t 24),(.t 25)]),ZT 27 23 false (.p (.un .not (.t 26))),Z9 28 23 27])
 (.cond (.t 28)
 (.seq (.ops [ZX 4 (-1)])
 .ret)
 .skip))
 (.seq (.ops [Z2 29 1 1 3,ZZ 30 false 1 29,ZV 5 30])
 (.seq (.seq (.ops [ZZ 31 true 133 2,ZZ 32 true 3 3,ZU 33 (Zh 59 [(.t 31),(.t 32)])])
 (.cond (.t 33)
 (.ops [Z2 34 0 1 3,ZZ 35 false 1 34,Z5 36 .quo 35 8,Z5 37 .mul 36 8,Z2 38 1 1 3,ZZ 39 false 1 38,Z5 40 .rem 39 8,Z4 41 .add 37 40,ZV 5 41])
 .skip))
 (.seq (.seq (.ops [ZV 42 5,Z2 43 0 128 2,ZU 44 (.p (.ixa 64 2 (.t 43) (.t 42))),ZZ 45 true 2 44,ZU 46 (.p (.build (.ints 2) [])),ZU 47 (.p (.eqa false 2 (.t 45) (.t 46)))])
 (.cond (.t 47)
 (.seq (.ops [ZX 4 (-1)])
 .ret)
 .skip))
 (.seq (.ops [ZV 48 5,ZV 4 48])
 .ret))))))⟩
def a30:AF:=⟨150,[.cell 4 true 133,.tmp 5],
 (.seq (.ops [ZU 2 (.h (.box (.t 0))),ZU 3 (.h (.box (.t 1))),ZU 4 (.h (.alloc (.ints 133))),ZX 5 0])
 (.seq (.seq (.ops [Z2 9 0 1 3,ZZ 10 false 1 9,ZU 11 (Zh 57 [(.t 10)]),ZU 12 (.p (.un .not (.t 11))),ZV 13 12,Z3 14 13 false 1 1 3,Z0 15 13 false false 1 14,ZT 16 13 false (Zh 57 [(.t 15)]),ZT 17 13 false (.p (.un .not (.t 16))),Z9 18 13 17,ZV 19 18,Z3 20 19 false 0 1 3,Z0 21 19 false false 1 20,Z3 22 19 false 1 1 3,Z0 23 19 false false 1 22,Z6 24 19 false .eql 21 23,Z9 25 19 24])
 (.cond (.t 25)
 (.seq (.ops [ZU 26 (.p (.build (.ints 133) [])),Z1 133 4 26,ZX 5 6])
 .ret)
 .skip))
 (.seq (.seq (.ops [ZZ 27 true 133 2,ZZ 28 true 3 3,ZU 29 (Zh 58 [(.t 27),(.t 28)]),ZU 30 (.p (.un .not (.t 29)))])
 (.cond (.t 30)
 (.seq (.ops [ZU 31 (.p (.build (.ints 133) [])),Z1 133 4 31,ZX 5 8])
 .ret)
 .skip))
 (.seq (.ops [Z2 32 0 1 3,ZZ 33 false 1 32,Z2 34 0 128 2,ZU 35 (.p (.ixa 64 2 (.t 34) (.t 33))),ZZ 36 true 2 35,ZU 6 (.h (.alloc (.ints 2))),Z1 2 6 36])
 (.seq (.ops [ZZ 37 true 133 2,ZU 7 (.h (.alloc (.ints 133))),Z1 133 7 37])
 (.seq (.ops [ZZ 38 true 133 2,ZZ 39 true 3 3,ZU 40 (Zh 28 [(.t 38),(.t 39)]),ZV 8 40])
 (.seq (.seq (.ops [ZV 41 8,Z5 42 .geq 41 0])
 (.cond (.t 42)
 (.ops [ZV 43 8,ZU 44 (.p (.build (.ints 2) [])),Z2 45 0 128 7,ZU 46 (.p (.ixa 64 2 (.t 45) (.t 43))),Z1 2 46 44])
 .skip))
 (.seq (.ops [Z2 47 0 1 3,ZZ 48 false 1 47,ZU 49 (.p (.build (.ints 2) [])),Z2 50 0 128 7,ZU 51 (.p (.ixa 64 2 (.t 50) (.t 48))),Z1 2 51 49])
 (.seq (.ops [Z2 52 1 1 3,ZZ 53 false 1 52,ZZ 54 true 2 6,Z2 55 0 128 7,ZU 56 (.p (.ixa 64 2 (.t 55) (.t 53))),Z1 2 56 54])
 (.seq (.seq (.ops [Z2 57 2 1 3,ZZ 58 false 1 57,Z5 59 .neq 58 0])
 (.cond (.t 59)
 (.ops [Z2 60 1 1 3,ZZ 61 false 1 60,Z2 62 2 1 3,ZZ 63 false 1 62,Z2 64 0 128 7,ZU 65 (.p (.ixa 64 2 (.t 64) (.t 61))),Z2 66 0 1 65,Z1 1 66 63])
 .skip))
 (.seq (.seq (.ops [ZZ 67 true 133 2,ZZ 68 true 3 3,ZU 69 (Zh 61 [(.t 67),(.t 68)])])
 (.block 0 (.seq (.ops [Z5 71 .eql 69 1,ZV 70 71])
 (.cond (.t 70)
 (.seq (.ops [Z2 72 0 1 3,ZZ 73 false 1 72,Z5 74 .add 73 3,ZU 75 (.p (.build (.ints 2) [])),Z2 76 0 128 7,ZU 77 (.p (.ixa 64 2 (.t 76) (.t 74))),Z1 2 77 75])
 (.ops [Z2 78 0 1 3,ZZ 79 false 1 78,Z5 80 .add 79 1,Z2 81 1 1 6,ZZ 82 false 1 81,ZU 83 (.p (.build (.ints 2) [(0,1,(ZR 4)),(1,1,(.t 82))])),Z2 84 0 128 7,ZU 85 (.p (.ixa 64 2 (.t 84) (.t 80))),Z1 2 85 83]))
 (.seq (.ops [Z5 87 .eql 69 (-1),ZV 86 87])
 (.cond (.t 86)
 (.seq (.ops [Z2 88 0 1 3,ZZ 89 false 1 88,Z5 90 .sub 89 4,ZU 91 (.p (.build (.ints 2) [])),Z2 92 0 128 7,ZU 93 (.p (.ixa 64 2 (.t 92) (.t 90))),Z1 2 93 91])
 (.ops [Z2 94 0 1 3,ZZ 95 false 1 94,Z5 96 .sub 95 1,Z2 97 1 1 6,ZZ 98 false 1 97,ZU 99 (.p (.build (.ints 2) [(0,1,(ZR 4)),(1,1,(.t 98))])),Z2 100 0 128 7,ZU 101 (.p (.ixa 64 2 (.t 100) (.t 96))),Z1 2 101 99]))
 .skip))))))
 (.seq (.ops [Z2 102 128 1 2,ZZ 103 false 1 102,ZU 104 (Zh 33 [(.t 103)]),Z2 105 128 1 7,Z1 1 105 104])
 (.seq (.par [ZZ 106 true 133 2,ZU 107 (Zi 63 [(.t 106)]),Z2 108 0 1 3,ZZ 109 false 1 108,ZU 110 (Zi 64 [(.t 109)]),ZU 111 (Zi 62 [(.t 107),(.t 110)]),Z2 112 1 1 3,ZZ 113 false 1 112,ZU 114 (Zh 64 [(.t 113)]),ZU 115 (Zh 62 [(.t 111),(.t 114)]),Z2 116 129 1 7,Z1 1 116 115])
 (.seq (.ops [Z2 117 130 1 7,
 ⟨none,none,.h (.store 1 (.t 117) (ZR (-1)))⟩])
 (.seq (.seq (.ops [ZZ 118 true 2 6,ZZ 119 true 3 3,ZU 120 (Zh 65 [(.t 118),(.t 119)])])
 (.cond (.t 120)
 (.ops [Z2 121 0 1 3,ZZ 122 false 1 121,Z2 123 1 1 3,ZZ 124 false 1 123,Z4 125 .add 122 124,Z5 126 .quo 125 2,Z2 127 130 1 7,Z1 1 127 126])
 .skip))
 (.seq (.ops [Z2 128 131 1 2,ZZ 129 false 1 128,ZU 130 (.p (.mn [(.t 129),(ZR 1023)])),Z5 131 .add 130 1,Z2 132 131 1 7,Z1 1 132 131])
 (.seq (.seq (.ops [Z2 133 0 1 6,ZZ 134 false 1 133,Z5 135 .eql 134 1,ZV 136 135,ZW 137 136 false 8,Z7 138 136 false .geq 137 0,Z9 139 136 138])
 (.cond (.t 139)
 (.ops [Z2 140 131 1 7,
 ⟨none,none,.h (.store 1 (.t 140) (ZR 0))⟩])
 .skip))
 (.seq (.seq (.ops [Z2 141 128 1 2,ZZ 142 false 1 141,Z5 143 .eql 142 1])
 (.cond (.t 143)
 (.ops [Z2 144 132 1 2,ZZ 145 false 1 144,ZU 146 (.p (.mn [(.t 145),(ZR 16383)])),Z5 147 .add 146 1,Z2 148 132 1 7,Z1 1 148 147])
 .skip))
 (.seq (.ops [ZZ 149 true 133 7,Z1 133 4 149,ZX 5 0])
 .ret)))))))))))))))))))⟩
def a33:AF:=⟨5,[.tmp 2],
 (.seq (.ops [ZX 2 0])
 (.seq (.seq (.ops [ZV 3 0,Z5 4 .eql 3 0])
 (.cond (.t 4)
 (.seq (.ops [ZX 2 1])
 .ret)
 .skip))
 (.seq (.ops [ZX 2 0])
 .ret)))⟩
def a34:AF:=⟨30,[.cell 4 true 133,.tmp 5],
 (.seq (.ops [ZU 2 (.h (.box (.t 0))),ZU 4 (.h (.alloc (.ints 133))),ZX 5 0])
 (.seq (.seq (.ops [ZX 6 0])
 (.block 0 (.loop (.seq (.seq (.ops [ZV 9 6,ZV 10 1,ZU 11 (.p (.len (.t 10))),Z4 12 .lss 9 11])
 (.cond (.t 12)
 .skip
 (.exit 0)))
 (.seq (.block 1 (.seq (.par [ZZ 16 true 133 2,ZV 17 1,ZV 18 6,ZU 19 (.p (.ixs 3 (.t 17) (.t 18))),ZZ 20 true 3 19,ZU 21 (Zi 30 [(.t 16),(.t 20)]),ZV 15 21,ZU 22 (.p (.ext (.t 15) 0)),ZU 23 (.p (.ext (.t 15) 1)),ZU 7 (.h (.alloc (.ints 133))),Z1 133 7 22,ZV 8 23])
 (.seq (.seq (.ops [ZV 24 8,Z5 25 .neq 24 0])
 (.cond (.t 25)
 (.seq (.ops [ZU 26 (.p (.build (.ints 133) [])),ZV 27 8,Z1 133 4 26,ZV 5 27])
 .ret)
 .skip))
 (.ops [ZZ 28 true 133 7,Z1 133 2 28]))))
 (.ops [ZV 13 6,Z5 14 .add 13 1,ZV 6 14]))))))
 (.seq (.ops [ZZ 29 true 133 2,Z1 133 4 29,ZX 5 0])
 .ret)))⟩
def a35:AF:=⟨39,[.cell 0 true 133],
 (.seq (.ops [ZU 0 (.h (.alloc (.ints 133)))])
 (.seq (.ops [ZU 4 (Zh 45 []),ZU 1 (.h (.alloc (.ints 133))),Z1 133 1 4])
 (.seq (.ops [ZU 5 (.h (.mksl 8 1 (.one (.s (.int .i64 0))) [(0,(ZR 4)),(1,(ZR 2)),(2,(ZR 3)),(3,(ZR 5)),(4,(ZR 6)),(5,(ZR 3)),(6,(ZR 2)),(7,(ZR 4))])),ZV 2 5])
 (.seq (.seq (.ops [ZX 3 0])
 (.block 0 (.loop (.seq (.seq (.ops [ZV 6 3,Z5 7 .lss 6 8])
 (.cond (.t 7)
 .skip
 (.exit 0)))
 (.seq (.block 1 (.seq (.ops [ZV 10 3,ZV 11 2,ZV 12 3,ZU 13 (.p (.ixs 1 (.t 11) (.t 12))),ZZ 14 false 1 13,ZU 15 (.p (.build (.ints 2) [(0,1,(.t 14)),(1,1,(ZR 0))])),Z2 16 0 128 1,ZU 17 (.p (.ixa 64 2 (.t 16) (.t 10))),Z1 2 17 15])
 (.seq (.ops [ZV 18 3,ZU 19 (.p (.bin .add (ZR 8) (.t 18))),ZU 20 (.p (.build (.ints 2) [(0,1,(ZR 1)),(1,1,(ZR 0))])),Z2 21 0 128 1,ZU 22 (.p (.ixa 64 2 (.t 21) (.t 19))),Z1 2 22 20])
 (.seq (.ops [ZV 23 3,ZU 24 (.p (.bin .add (ZR 48) (.t 23))),ZU 25 (.p (.build (.ints 2) [(0,1,(ZR 1)),(1,1,(ZR 1))])),Z2 26 0 128 1,ZU 27 (.p (.ixa 64 2 (.t 26) (.t 24))),Z1 2 27 25])
 (.ops [ZV 28 3,ZU 29 (.p (.bin .add (ZR 56) (.t 28))),ZV 30 2,ZV 31 3,ZU 32 (.p (.ixs 1 (.t 30) (.t 31))),ZZ 33 false 1 32,ZU 34 (.p (.build (.ints 2) [(0,1,(.t 33)),(1,1,(ZR 1))])),Z2 35 0 128 1,ZU 36 (.p (.ixa 64 2 (.t 35) (.t 29))),Z1 2 36 34])))))
 (.ops [ZV 8 3,Z5 9 .add 8 1,ZV 3 9]))))))
 (.seq (.ops [Z2 37 129 1 1,
 ⟨none,none,.h (.store 1 (.t 37) (ZR 15))⟩])
 (.seq (.ops [ZZ 38 true 133 1,Z1 133 0 38])
 .ret))))))⟩
def a36:AF:=⟨9,[.tmp 2],
 (.seq (.ops [ZU 1 (.h (.box (.t 0))),ZU 2 (.p (.mv (.k .fnil)))])
 (.seq (.seq (.ops [ZZ 3 true 133 1,ZU 4 (Zh 70 [(.t 3)]),ZU 5 (.p (.un .not (.t 4)))])
 (.cond (.t 5)
 (.seq (.ops [ZU 2 (.p (.mv (.k (.fn 71 []))))])
 .ret)
 .skip))
 (.seq (.ops [ZZ 6 true 133 1,ZU 7 (.p (.build (.ints 133) [(0,133,(.t 6))])),ZU 8 (Zh 72 [(.t 7)]),ZV 2 8])
 .ret)))⟩
def a37:AF:=⟨9,[.tmp 4],
 (.seq (.ops [ZY 4 false])
 (.seq (.ops [ZV 5 0,ZV 6 1,ZU 7 (Zh 73 [(.t 5),(.t 6)]),Z5 8 .geq 7 0,ZV 4 8])
 .ret))⟩
def a38:AF:=⟨6,[.tmp 2],
 (.seq (.ops [ZU 1 (.h (.box (.t 0))),ZY 2 false])
 (.seq (.ops [ZZ 3 true 3 1,ZU 4 (Zh 39 [(.t 3)]),ZU 5 (.p (.un .not (.t 4))),ZV 2 5])
 .ret))⟩
def a39:AF:=⟨33,[.tmp 2],
 (.seq (.ops [ZU 1 (.h (.box (.t 0))),ZY 2 false])
 (.seq (.ops [Z2 3 0 1 1,ZZ 4 false 1 3,ZU 5 (Zh 74 [(.t 4)]),ZV 6 5,Z3 7 6 true 1 1 1,Z0 8 6 true false 1 7,ZT 9 6 true (Zh 74 [(.t 8)]),Z8 10 6 9,ZV 11 10,Z3 12 11 true 0 1 1,Z0 13 11 true false 1 12,Z3 14 11 true 1 1 1,Z0 15 11 true false 1 14,Z6 16 11 true .neq 13 15,Z8 17 11 16,ZV 18 17,Z3 19 18 true 2 1 1,Z0 20 18 true false 1 19,Z7 21 18 true .neq 20 1,Z8 22 18 21,ZV 23 22,Z3 24 23 true 2 1 1,Z0 25 23 true false 1 24,Z7 26 23 true .geq 25 0,Z8 27 23 26,ZV 28 27,Z3 29 28 true 2 1 1,Z0 30 28 true false 1 29,Z7 31 28 true .leq 30 5,Z8 32 28 31,ZV 2 32])
 .ret))⟩
def a41:AF:=⟨9,[.tmp 4],
 (.seq (.ops [ZU 3 (.h (.box (.t 1))),ZY 4 false])
 (.seq (.ops [ZV 5 0,ZZ 6 true 3 3,ZU 7 (Zh 79 [(.t 5),(.t 6)]),Z5 8 .geq 7 0,ZV 4 8])
 .ret))⟩
def a44:AF:=⟨58,[.cell 2 true 3,.tmp 3],
 (.seq (.ops [ZU 2 (.h (.alloc (.ints 3))),ZY 3 false])
 (.seq (.seq (.ops [ZV 6 0,ZU 7 (Zh 81 [(.t 6),(ZR (-1))]),ZV 5 7,ZU 8 (.p (.ext (.t 5) 0)),ZU 9 (.p (.ext (.t 5) 1)),Z2 10 0 1 2,Z1 1 10 8,ZV 3 9])
 (.seq (.ops [ZV 11 3,ZU 12 (.p (.un .not (.t 11)))])
 (.cond (.t 12)
 (.seq (.ops [ZZ 13 true 3 2,Z1 3 2 13,ZY 3 false])
 .ret)
 .skip)))
 (.seq (.seq (.ops [ZV 15 0,Z2 16 0 1 2,ZZ 17 false 1 16,ZU 18 (Zh 81 [(.t 15),(.t 17)]),ZV 14 18,ZU 19 (.p (.ext (.t 14) 0)),ZU 20 (.p (.ext (.t 14) 1)),Z2 21 1 1 2,Z1 1 21 19,ZV 3 20])
 (.seq (.ops [ZV 22 3,ZU 23 (.p (.un .not (.t 22)))])
 (.cond (.t 23)
 (.seq (.ops [ZZ 24 true 3 2,Z1 3 2 24,ZY 3 false])
 .ret)
 .skip)))
 (.seq (.seq (.par [ZV 25 0,ZU 26 (.p (.nilck (.t 25))),Z2 27 1 1 26,ZZ 28 false 1 27,ZV 29 0,ZU 30 (.p (.nilck (.t 29))),Z2 31 0 1 30,ZZ 32 false 1 31,ZU 33 (.p (.lenS (.t 32))),Z4 34 .lss 28 33])
 (.cond (.t 34)
 (.seq (.par [ZV 35 0,ZU 36 (.p (.nilck (.t 35))),Z2 37 0 1 36,ZZ 38 false 1 37,ZV 39 0,ZU 40 (.p (.nilck (.t 39))),Z2 41 1 1 40,ZZ 42 false 1 41,ZU 43 (.p (.ixstr (.t 38) (.t 42))),
 ⟨some 44,none,.h (.call (.k (.fn 82 [])) [(.k (.s (.str ⟨#[110,98,114,113]⟩))),(.t 43)])⟩,ZV 4 44])
 (.seq (.ops [ZV 45 4,Z5 46 .geq 45 0])
 (.cond (.t 46)
 (.seq (.ops [ZV 47 4,ZU 48 (.p (.bin .add (ZR 2) (.t 47))),Z2 49 2 1 2,Z1 1 49 48])
 (.ops [ZV 50 0,ZU 51 (.p (.nilck (.t 50))),Z2 52 1 1 51,ZZ 53 false 1 52,Z5 54 .add 53 1,ZU 55 (.p (.nilck (.t 50))),Z2 56 1 1 55,Z1 1 56 54]))
 .skip)))
 .skip))
 (.seq (.ops [ZZ 57 true 3 2,Z1 3 2 57,ZY 3 true])
 .ret)))))⟩
def a45:AF:=⟨2,[.cell 0 true 133],
 (.seq (.ops [ZU 0 (.h (.alloc (.ints 133)))])
 (.seq (.ops [ZU 1 (.p (.build (.ints 133) [(130,1,(ZR (-1))),(132,1,(ZR 1))])),Z1 133 0 1])
 .ret))⟩
def a46:AF:=⟨19,[.tmp 4,.tmp 5],
 (.seq (.ops [ZX 4 0,ZU 5 (.p (.mv (.k .inil)))])
 (.seq (.ops [ZV 6 0,ZU 7 (Zh 83 [(.t 6)])])
 (.seq (.ops [ZV 8 0,ZV 9 0,ZU 10 (.p (.nilck (.t 9))),Z2 11 1 1 10,ZZ 12 false 1 11,ZV 13 1,ZU 14 (.h (.appendb 5 1 (.t 12) (.t 13))),ZU 15 (.p (.nilck (.t 8))),Z2 16 1 1 15,Z1 1 16 14])
 (.seq (.ops [ZV 17 1,ZU 18 (.p (.lenS (.t 17))),ZV 4 18,ZU 5 (.p (.mv (.k .inil)))])
 .ret))))⟩
def a47:AF:=⟨116,[.tmp 4,.tmp 5],
 (.seq (.ops [ZU 2 (.h (.box (.t 0))),ZU 3 (.h (.box (.t 1))),ZU 4 (.p (.mv (.k .pnil))),ZX 5 0])
 (.seq (.seq (.ops [Z2 9 0 1 3,ZZ 10 false 1 9,ZU 11 (Zh 74 [(.t 10)]),ZU 12 (.p (.un .not (.t 11))),ZV 13 12,Z3 14 13 false 1 1 3,Z0 15 13 false false 1 14,ZT 16 13 false (Zh 74 [(.t 15)]),ZT 17 13 false (.p (.un .not (.t 16))),Z9 18 13 17,ZV 19 18,Z3 20 19 false 0 1 3,Z0 21 19 false false 1 20,Z3 22 19 false 1 1 3,Z0 23 19 false false 1 22,Z6 24 19 false .eql 21 23,Z9 25 19 24])
 (.cond (.t 25)
 (.seq (.ops [ZU 4 (.p (.mv (.k .pnil))),ZX 5 6])
 .ret)
 .skip))
 (.seq (.par [ZZ 26 true 133 2,ZZ 27 true 3 3,Z2 28 0 1 3,ZZ 29 false 1 28,Z2 30 0 128 2,ZU 31 (.p (.ixa 64 2 (.t 30) (.t 29))),ZZ 32 true 2 31,ZU 33 (.p (.build (.ints 138) [(0,133,(.t 26)),(133,3,(.t 27)),(136,2,(.t 32))])),ZU 34 (.h (.box (.t 33))),ZV 6 34])
 (.seq (.seq (.ops [ZV 35 6,ZU 36 (.p (.nilck (.t 35))),Z2 37 0 133 36,Z2 38 129 1 37,ZZ 39 false 1 38,Z5 40 .lss 39 0,ZV 41 40,ZW 42 41 false 6,ZT 43 41 false (.p (.nilck (.t 42))),Z3 44 41 false 0 133 43,Z3 45 41 false 129 1 44,Z0 46 41 false false 1 45,Z7 47 41 false .gtr 46 15,Z9 48 41 47])
 (.cond (.t 48)
 (.ops [ZV 49 6,ZU 50 (.p (.nilck (.t 49))),Z2 51 0 133 50,Z2 52 129 1 51,
 ⟨none,none,.h (.store 1 (.t 52) (ZR 0))⟩])
 .skip))
 (.seq (.ops [ZV 53 6,ZU 54 (.p (.nilck (.t 53))),Z2 55 136 2 54,ZZ 56 true 2 55,ZU 7 (.h (.alloc (.ints 2))),Z1 2 7 56])
 (.seq (.seq (.ops [Z2 57 0 1 7,ZZ 58 false 1 57,Z5 59 .lss 58 1,ZV 60 59,Z3 61 60 false 0 1 7,Z0 62 60 false false 1 61,Z7 63 60 false .gtr 62 6,Z9 64 60 63,ZV 65 64,Z3 66 65 false 1 1 7,Z0 67 65 false false 1 66,Z3 68 65 false 128 1 2,Z0 69 65 false false 1 68,Z6 70 65 false .neq 67 69,Z9 71 65 70,ZV 72 71,Z3 73 72 false 1 1 7,Z0 74 72 false false 1 73,Z7 75 72 false .neq 74 0,ZW 76 72 false 75,Z3 77 76 true 1 1 7,Z0 78 76 true false 1 77,Z7 79 76 true .neq 78 1,ZT 80 72 false (.p (.pick (.t 76) (.t 79) (ZS false))),Z9 81 72 80])
 (.cond (.t 81)
 (.seq (.ops [ZU 4 (.p (.mv (.k .pnil))),ZX 5 8])
 .ret)
 .skip))
 (.seq (.par [Z2 82 0 1 7,ZZ 83 false 1 82,Z5 84 .eql 83 1,ZV 85 84,Z3 86 85 true 1 1 3,Z0 87 85 true false 1 86,ZT 88 85 true (Zi 84 [(.t 87)]),Z3 89 85 true 1 1 7,Z0 90 85 true false 1 89,ZT 91 85 true (.p (.bin .sub (ZR 1) (.t 90))),ZT 92 85 true (.p (.bin .mul (ZR 7) (.t 91))),Z6 93 85 true .eql 88 92,Z8 94 85 93,ZV 8 94])
 (.seq (.seq (.ops [ZV 95 8,ZV 96 95,Z3 97 96 true 2 1 3,Z0 98 96 true false 1 97,Z7 99 96 true .lss 98 2,ZW 100 96 true 99,Z3 101 100 false 2 1 3,Z0 102 100 false false 1 101,Z7 103 100 false .gtr 102 5,ZT 104 96 true (.p (.pick (.t 100) (ZS true) (.t 103))),Z8 105 96 104,ZV 106 105,ZW 107 106 false 8,ZT 108 106 false (.p (.un .not (.t 107))),ZW 109 106 false 108,Z3 110 109 true 2 1 3,Z0 111 109 true false 1 110,Z7 112 109 true .neq 111 0,ZT 113 106 false (.p (.pick (.t 109) (.t 112) (ZS false))),Z9 114 106 113])
 (.cond (.t 114)
 (.seq (.ops [ZU 4 (.p (.mv (.k .pnil))),ZX 5 8])
 .ret)
 .skip))
 (.seq (.ops [ZV 115 6,ZV 4 115,ZX 5 0])
 .ret)))))))))⟩
def a48:AF:=⟨59,[.tmp 2],
 (.seq (.ops [ZX 2 0])
 (.seq (.ops [ZV 4 0,ZU 5 (.p (.nilck (.t 4))),Z2 6 133 3 5,Z2 7 1 1 6,ZZ 8 false 1 7,ZV 3 8])
 (.seq (.seq (.ops [ZV 9 0,ZU 10 (.p (.nilck (.t 9))),Z2 11 136 2 10,Z2 12 0 1 11,ZZ 13 false 1 12,Z5 14 .eql 13 1,ZV 15 14,ZW 16 15 true 0,ZT 17 15 true (Zh 85 [(.t 16)]),Z7 18 15 true .neq 17 0,Z8 19 15 18,ZV 20 19,ZW 21 20 true 3,ZW 22 20 true 0,ZT 23 20 true (.p (.nilck (.t 22))),Z3 24 20 true 0 133 23,Z3 25 20 true 130 1 24,Z0 26 20 true false 1 25,Z6 27 20 true .eql 21 26,Z8 28 20 27,ZV 29 28,ZW 30 29 true 0,ZW 31 29 true 3,ZT 32 29 true (.p (.nilck (.t 30))),Z3 33 29 true 0 133 32,Z3 34 29 true 0 128 33,ZT 35 29 true (.p (.ixa 64 2 (.t 34) (.t 31))),Z0 36 29 true true 2 35,ZT 37 29 true (.p (.build (.ints 2) [])),ZT 38 29 true (.p (.eqa false 2 (.t 36) (.t 37))),Z8 39 29 38])
 (.cond (.t 39)
 (.par [ZV 40 3,ZU 41 (Zi 87 [(.t 40)]),ZV 42 0,ZU 43 (.p (.nilck (.t 42))),Z2 44 133 3 43,Z2 45 0 1 44,ZZ 46 false 1 45,ZU 47 (Zh 84 [(.t 46)]),ZU 48 (Zh 86 [(.t 41),(.t 47)]),ZV 3 48])
 .skip))
 (.seq (.seq (.ops [ZV 49 0,ZV 50 3,ZU 51 (.p (.nilck (.t 49))),Z2 52 0 133 51,Z2 53 0 128 52,ZU 54 (.p (.ixa 64 2 (.t 53) (.t 50))),ZZ 55 true 2 54,ZU 56 (.p (.build (.ints 2) [])),ZU 57 (.p (.eqa false 2 (.t 55) (.t 56)))])
 (.cond (.t 57)
 (.seq (.ops [ZX 2 (-1)])
 .ret)
 .skip))
 (.seq (.ops [ZV 58 3,ZV 2 58])
 .ret)))))⟩
def a49:AF:=⟨17,[.cell 2 true 3],
 (.seq (.ops [ZU 2 (.h (.alloc (.scl [(.int .i64 0),(.int .i64 0),(.bool false)])))])
 (.seq (.seq (.ops [ZV 3 0,Z5 4 .lss 3 0,ZV 5 4,ZW 6 5 false 0,Z7 7 5 false .geq 6 64,Z9 8 5 7])
 (.cond (.t 8)
 (.seq (.ops [ZU 9 (.p (.build (.ints 2) [(0,1,(ZR (-1))),(1,1,(ZR (-1)))])),ZU 10 (.p (.build (.scl [(.int .i64 0),(.int .i64 0),(.bool false)]) [(0,2,(.t 9))])),Z1 3 2 10])
 .ret)
 .skip))
 (.seq (.ops [ZV 11 0,Z5 12 .rem 11 8,ZV 13 0,Z5 14 .quo 13 8,ZU 15 (.p (.build (.ints 2) [(0,1,(.t 12)),(1,1,(.t 14))])),ZU 16 (.p (.build (.scl [(.int .i64 0),(.int .i64 0),(.bool false)]) [(0,2,(.t 15)),(2,1,(ZS true))])),Z1 3 2 16])
 .ret)))⟩
def a50:AF:=⟨161,[.cell 2 true 133],
 (.seq (.ops [ZU 2 (.h (.alloc (.ints 133)))])
 (.seq (.ops [ZV 9 0,ZU 10 (Zh 48 [(.t 9)]),ZV 3 10])
 (.seq (.ops [ZV 12 0,ZU 13 (Zh 88 [(.t 12)]),ZV 11 13,ZU 14 (.p (.ext (.t 11) 0)),ZU 15 (.p (.ext (.t 11) 1)),ZU 16 (.p (.ext (.t 11) 2)),ZV 4 14,ZV 5 15,ZV 6 16])
 (.seq (.ops [ZX 7 (-1)])
 (.seq (.seq (.ops [ZV 17 0,ZU 18 (Zh 89 [(.t 17)])])
 (.cond (.t 18)
 (.par [ZV 19 0,ZU 20 (.p (.nilck (.t 19))),Z2 21 133 3 20,Z2 22 0 1 21,ZZ 23 false 1 22,ZV 24 0,ZU 25 (.p (.nilck (.t 24))),Z2 26 133 3 25,Z2 27 1 1 26,ZZ 28 false 1 27,Z4 29 .add 23 28,Z5 30 .quo 29 2,ZV 7 30])
 .skip))
 (.seq (.ops [ZV 31 0,ZU 32 (.p (.nilck (.t 31))),Z2 33 136 2 32,ZZ 34 true 2 33,ZU 8 (.h (.alloc (.ints 2))),Z1 2 8 34])
 (.seq (.seq (.ops [ZV 35 0,ZU 36 (.p (.nilck (.t 35))),Z2 37 133 3 36,Z2 38 2 1 37,ZZ 39 false 1 38,Z5 40 .neq 39 0])
 (.cond (.t 40)
 (.ops [ZV 41 0,ZU 42 (.p (.nilck (.t 41))),Z2 43 133 3 42,Z2 44 2 1 43,ZZ 45 false 1 44,Z2 46 0 1 8,Z1 1 46 45])
 .skip))
 (.seq (.ops [ZV 47 0,ZU 48 (.p (.build (.ints 2) [])),ZV 49 3,ZV 50 0,ZU 51 (.p (.nilck (.t 50))),Z2 52 133 3 51,Z2 53 0 1 52,ZZ 54 false 1 53,ZU 55 (.h (.mksl 2 1 (.one (.s (.int .i64 0))) [(0,(.t 49)),(1,(.t 54))])),ZU 56 (Zh 90 [(.t 47),(.t 48),(.t 55)])])
 (.seq (.par [ZV 57 0,ZZ 58 true 2 8,ZV 59 0,ZU 60 (.p (.nilck (.t 59))),Z2 61 133 3 60,Z2 62 1 1 61,ZZ 63 false 1 62,ZU 64 (.h (.mksl 1 1 (.one (.s (.int .i64 0))) [(0,(.t 63))])),ZU 65 (Zh 90 [(.t 57),(.t 58),(.t 64)])])
 (.seq (.seq (.ops [ZV 66 6])
 (.cond (.t 66)
 (.seq (.ops [ZV 67 0,ZU 68 (.p (.build (.ints 2) [])),ZV 69 4,ZU 70 (.h (.mksl 1 1 (.one (.s (.int .i64 0))) [(0,(.t 69))])),ZU 71 (Zh 90 [(.t 67),(.t 68),(.t 70)])])
 (.ops [ZV 72 0,Z2 73 1 1 8,ZZ 74 false 1 73,ZU 75 (.p (.build (.ints 2) [(0,1,(ZR 4)),(1,1,(.t 74))])),ZV 76 5,ZU 77 (.h (.mksl 1 1 (.one (.s (.int .i64 0))) [(0,(.t 76))])),ZU 78 (Zh 90 [(.t 72),(.t 75),(.t 77)])]))
 .skip))
 (.seq (.ops [ZV 79 0,ZV 80 7,ZU 81 (.p (.nilck (.t 79))),Z2 82 0 133 81,Z2 83 130 1 82,Z1 1 83 80])
 (.seq (.par [ZV 84 0,ZU 85 (.p (.nilck (.t 84))),Z2 86 0 133 85,Z2 87 129 1 86,ZZ 88 false 1 87,ZV 89 0,ZU 90 (.p (.nilck (.t 89))),Z2 91 133 3 90,Z2 92 0 1 91,ZZ 93 false 1 92,ZV 94 0,ZU 95 (.p (.nilck (.t 94))),Z2 96 133 3 95,Z2 97 1 1 96,ZZ 98 false 1 97,ZU 99 (.h (.mksl 2 1 (.one (.s (.int .i64 0))) [(0,(.t 93)),(1,(.t 98))])),ZU 100 (Zi 91 [(.t 99)]),Z4 101 .andNot 88 100,ZU 102 (.p (.nilck (.t 84))),Z2 103 0 133 102,Z2 104 129 1 103,Z1 1 104 101])
 (.seq (.ops [ZV 105 0,ZV 106 0,ZU 107 (.p (.nilck (.t 106))),Z2 108 0 133 107,Z2 109 131 1 108,ZZ 110 false 1 109,ZU 111 (.p (.mn [(.t 110),(ZR 1023)])),Z5 112 .add 111 1,ZU 113 (.p (.nilck (.t 105))),Z2 114 0 133 113,Z2 115 131 1 114,Z1 1 115 112])
 (.seq (.seq (.ops [ZV 116 3,Z5 117 .neq 116 (-1),ZV 118 117,ZW 119 118 false 0,ZT 120 118 false (.p (.nilck (.t 119))),Z3 121 118 false 136 2 120,Z3 122 118 false 0 1 121,Z0 123 118 false false 1 122,Z7 124 118 false .eql 123 1,Z9 125 118 124])
 (.cond (.t 125)
 (.ops [ZV 126 0,ZU 127 (.p (.nilck (.t 126))),Z2 128 0 133 127,Z2 129 131 1 128,
 ⟨none,none,.h (.store 1 (.t 129) (ZR 0))⟩])
 .skip))
 (.seq (.seq (.ops [ZV 130 0,ZU 131 (.p (.nilck (.t 130))),Z2 132 0 133 131,Z2 133 128 1 132,ZZ 134 false 1 133,Z5 135 .eql 134 1])
 (.cond (.t 135)
 (.ops [ZV 136 0,ZV 137 0,ZU 138 (.p (.nilck (.t 137))),Z2 139 0 133 138,Z2 140 132 1 139,ZZ 141 false 1 140,ZU 142 (.p (.mn [(.t 141),(ZR 16383)])),Z5 143 .add 142 1,ZU 144 (.p (.nilck (.t 136))),Z2 145 0 133 144,Z2 146 132 1 145,Z1 1 146 143])
 .skip))
 (.seq (.ops [ZV 147 0,ZV 148 0,ZU 149 (.p (.nilck (.t 148))),Z2 150 0 133 149,Z2 151 128 1 150,ZZ 152 false 1 151,ZU 153 (Zh 53 [(.t 152)]),ZU 154 (.p (.nilck (.t 147))),Z2 155 0 133 154,Z2 156 128 1 155,Z1 1 156 153])
 (.seq (.ops [ZV 157 0,ZU 158 (.p (.nilck (.t 157))),Z2 159 0 133 158,ZZ 160 true 133 159,Z1 133 2 160])
 .ret)))))))))))))))))⟩
def a51:AF:=⟨13,[.tmp 2],
 (.seq (.ops [ZU 1 (.h (.box (.t 0))),ZY 2 false])
 (.seq (.ops [Z2 3 0 133 1,ZZ 4 true 133 3,ZU 5 (Zh 70 [(.t 4)]),ZV 6 5,Z3 7 6 true 0 133 1,Z0 8 6 true true 133 7,ZT 9 6 true (Zh 11 [(.t 8)]),ZT 10 6 true (.p (.len (.t 9))),Z7 11 6 true .eql 10 0,Z8 12 6 11,ZV 2 12])
 .ret))⟩
def a52:AF:=⟨5,[.tmp 2],
 (.seq (.ops [ZX 2 0])
 (.seq (.seq (.ops [ZV 3 0,Z5 4 .eql 3 1])
 (.cond (.t 4)
 (.seq (.ops [ZX 2 2])
 .ret)
 .skip))
 (.seq (.ops [ZX 2 1])
 .ret)))⟩
set_option maxRecDepth 100000
def a53:AF:=⟨5,[.tmp 2],
 (.seq (.ops [ZX 2 0])
 (.seq (.seq (.ops [ZV 3 0,Z5 4 .eql 3 0])
 (.cond (.t 4)
 (.seq (.ops [ZX 2 1])
 .ret)
 .skip))
 (.seq (.ops [ZX 2 0])
 .ret)))⟩
def wz:RD:=rdOf Tryz.f54
def g54:AC:=.skip
def b54:AC:=(.block 3 (.seq (.ops [⟨none,none,.h (.store 1 (.t 6) (ZS true))⟩])
 .ret))
def a54:AF:=⟨24,[.cell 6 false 1],
 (.seq (.ops [ZU 3 (.h (.box (.t 0))),ZU 6 (.h (.alloc (.one (.s (.bool false)))))])
 (.seq (.ops [ZZ 10 true 133 3,ZU 11 (.p (.build (.ints 133) [(0,133,(.t 10))])),ZU 7 (.h (.alloc (.ints 133))),Z1 133 7 11])
 (.seq (.seq (.ops [ZV 12 2,ZU 13 (.p (.len (.t 12))),ZX 14 0])
 (.block 0 (.loop (.seq (.ops [Z4 15 .lss 14 13])
 (.seq (.cond (.t 15)
 .skip
 (.exit 0))
 (.seq (.block 1 (.seq (.ops [ZU 16 (.p (.ixs 1 (.t 12) (.t 14))),ZZ 17 false 1 16,ZV 9 17])
 (.seq (.ops [ZZ 18 true 133 7,ZV 19 9,ZV 20 1,ZU 21 (Zh 92 [(.t 18),(.t 19),(.t 20)])])
 (.block 2 (.rfn (.t 21) 22 wz)))))
 (.ops [Z5 23 .add 14 1,ZV 14 23])))))))
 (.seq (.ops [⟨none,none,.h (.store 1 (.t 6) (ZS false))⟩])
 .ret))))⟩
def a55:AF:=⟨22,[.tmp 4],
 (.seq (.ops [ZU 2 (.h (.box (.t 0))),ZU 3 (.h (.box (.t 1))),ZU 4 (.p (.mv (.k .snil)))])
 (.seq (.seq (.ops [Z2 7 0 128 2,ZZ 8 true 128 7,ZX 9 0])
 (.block 0 (.loop (.seq (.ops [Z5 10 .lss 9 64])
 (.seq (.cond (.t 10)
 .skip
 (.exit 0))
 (.seq (.block 1 (.seq (.ops [ZV 11 9,ZU 12 (.p (.ix 64 2 true (.t 8) (.t 9))),ZU 6 (.h (.alloc (.ints 2))),ZV 5 11,Z1 2 6 12])
 (.seq (.ops [ZZ 13 true 2 3,ZZ 14 true 2 6,ZU 15 (.p (.eqa false 2 (.t 13) (.t 14)))])
 (.cond (.t 15)
 (.ops [ZV 16 4,ZV 17 5,ZU 18 (.h (.mksl 1 1 (.one (.s (.int .i64 0))) [(0,(.t 17))])),ZU 19 (.h (.append 1 8 (.t 16) (.t 18))),ZV 4 19])
 .skip))))
 (.ops [Z5 20 .add 9 1,ZV 9 20])))))))
 (.seq (.ops [ZV 21 4,ZV 4 21])
 .ret)))⟩
def a57:AF:=⟨9,[.tmp 2],
 (.seq (.ops [ZY 2 false])
 (.seq (.ops [ZV 3 0,Z5 4 .geq 3 0,ZV 5 4,ZW 6 5 true 0,Z7 7 5 true .lss 6 64,Z8 8 5 7,ZV 2 8])
 .ret))⟩
def a58:AF:=⟨59,[.tmp 4],
 (.seq (.ops [ZU 2 (.h (.box (.t 0))),ZU 3 (.h (.box (.t 1))),ZY 4 false])
 (.seq (.ops [Z2 7 0 1 3,ZZ 8 false 1 7,Z2 9 0 128 2,ZU 10 (.p (.ixa 64 2 (.t 9) (.t 8))),ZZ 11 true 2 10,ZU 5 (.h (.alloc (.ints 2))),Z1 2 5 11])
 (.seq (.seq (.ops [ZZ 12 true 2 5,ZU 13 (Zh 95 [(.t 12)]),ZU 14 (.p (.un .not (.t 13))),ZV 15 14,Z3 16 15 false 1 1 5,Z0 17 15 false false 1 16,Z3 18 15 false 128 1 2,Z0 19 15 false false 1 18,Z6 20 15 false .neq 17 19,Z9 21 15 20])
 (.cond (.t 21)
 (.seq (.ops [ZY 4 false])
 .ret)
 .skip))
 (.seq (.ops [Z2 22 0 1 5,ZZ 23 false 1 22,Z5 24 .eql 23 1,ZV 25 24,Z3 26 25 true 1 1 5,Z0 27 25 true false 1 26,Z7 28 25 true .eql 27 0,ZW 29 25 true 28,Z3 30 29 true 1 1 3,Z0 31 29 true false 1 30,Z7 32 29 true .quo 31 8,Z7 33 29 true .eql 32 7,ZT 34 25 true (.p (.pick (.t 29) (.t 33) (ZS false))),ZW 35 25 true 34,Z3 36 35 false 1 1 5,Z0 37 35 false false 1 36,Z7 38 35 false .eql 37 1,ZW 39 35 false 38,Z3 40 39 true 1 1 3,Z0 41 39 true false 1 40,Z7 42 39 true .quo 41 8,Z7 43 39 true .eql 42 0,ZT 44 35 false (.p (.pick (.t 39) (.t 43) (ZS false))),ZT 45 25 true (.p (.pick (.t 35) (ZS true) (.t 44))),Z8 46 25 45,ZV 6 46])
 (.seq (.seq (.ops [ZV 47 6])
 (.cond (.t 47)
 (.seq (.ops [Z2 48 2 1 3,ZZ 49 false 1 48,Z5 50 .geq 49 2,ZV 51 50,Z3 52 51 true 2 1 3,Z0 53 51 true false 1 52,Z7 54 51 true .leq 53 5,Z8 55 51 54,ZV 4 55])
 .ret)
 .skip))
 (.seq (.ops [Z2 56 2 1 3,ZZ 57 false 1 56,Z5 58 .eql 57 0,ZV 4 58])
 .ret))))))⟩
def a59:AF:=⟨37,[.tmp 4],
 (.seq (.ops [ZU 2 (.h (.box (.t 0))),ZU 3 (.h (.box (.t 1))),ZY 4 false])
 (.seq (.ops [Z2 5 0 1 3,ZZ 6 false 1 5,Z2 7 0 128 2,ZU 8 (.p (.ixa 64 2 (.t 7) (.t 6))),Z2 9 0 1 8,ZZ 10 false 1 9,Z5 11 .eql 10 1,ZV 12 11,Z3 13 12 true 0 1 3,Z0 14 12 true false 1 13,Z7 15 12 true .rem 14 8,Z3 16 12 true 1 1 3,Z0 17 12 true false 1 16,Z7 18 12 true .rem 17 8,Z6 19 12 true .neq 15 18,Z8 20 12 19,ZV 21 20,Z3 22 21 true 1 1 3,Z0 23 21 true false 1 22,Z3 24 21 true 130 1 2,Z0 25 21 true false 1 24,Z6 26 21 true .eql 23 25,Z8 27 21 26,ZV 28 27,Z3 29 28 true 1 1 3,Z0 30 28 true false 1 29,Z3 31 28 true 0 128 2,ZT 32 28 true (.p (.ixa 64 2 (.t 31) (.t 30))),Z0 33 28 true true 2 32,ZT 34 28 true (.p (.build (.ints 2) [])),ZT 35 28 true (.p (.eqa false 2 (.t 33) (.t 34))),Z8 36 28 35,ZV 4 36])
 .ret))⟩
def a61:AF:=⟨52,[.tmp 4],
 (.seq (.ops [ZU 2 (.h (.box (.t 0))),ZU 3 (.h (.box (.t 1))),ZX 4 0])
 (.seq (.ops [Z2 9 0 1 3,ZZ 10 false 1 9,Z2 11 0 128 2,ZU 12 (.p (.ixa 64 2 (.t 11) (.t 10))),ZZ 13 true 2 12,ZU 5 (.h (.alloc (.ints 2))),Z1 2 5 13])
 (.seq (.ops [ZX 6 4,ZX 7 1,ZX 8 2])
 (.seq (.seq (.ops [Z2 14 1 1 5,ZZ 15 false 1 14,Z5 16 .eql 15 1])
 (.cond (.t 16)
 (.ops [ZX 6 60,ZX 7 4,ZX 8 8])
 .skip))
 (.seq (.seq (.ops [Z2 17 0 1 5,ZZ 18 false 1 17,Z5 19 .neq 18 6,ZV 20 19,Z3 21 20 false 0 1 3,Z0 22 20 false false 1 21,ZW 23 20 false 6,Z6 24 20 false .neq 22 23,Z9 25 20 24])
 (.cond (.t 25)
 (.seq (.ops [ZX 4 0])
 .ret)
 .skip))
 (.seq (.seq (.ops [Z2 26 1 1 3,ZZ 27 false 1 26,ZV 28 6,Z5 29 .add 28 2,Z4 30 .eql 27 29,ZV 31 30,Z0 32 31 true true 133 2,ZT 33 31 true (Zh 63 [(.t 32)]),ZW 34 31 true 7,Z6 35 31 true .quo 33 34,Z7 36 31 true .rem 35 2,Z7 37 31 true .eql 36 1,Z8 38 31 37])
 (.cond (.t 38)
 (.seq (.ops [ZX 4 1])
 .ret)
 .skip))
 (.seq (.seq (.ops [Z2 39 1 1 3,ZZ 40 false 1 39,ZV 41 6,Z5 42 .sub 41 2,Z4 43 .eql 40 42,ZV 44 43,Z0 45 44 true true 133 2,ZT 46 44 true (Zh 63 [(.t 45)]),ZW 47 44 true 8,Z6 48 44 true .quo 46 47,Z7 49 44 true .rem 48 2,Z7 50 44 true .eql 49 1,Z8 51 44 50])
 (.cond (.t 51)
 (.seq (.ops [ZX 4 (-1)])
 .ret)
 .skip))
 (.seq (.ops [ZX 4 0])
 .ret))))))))⟩
def a62:AF:=⟨27,[.tmp 4],
 (.seq (.ops [ZX 4 0])
 (.seq (.ops [ZX 5 0])
 (.seq (.seq (.ops [ZX 6 1])
 (.block 0 (.loop (.seq (.seq (.ops [ZV 7 6,Z5 8 .leq 7 8])
 (.cond (.t 8)
 .skip
 (.exit 0)))
 (.seq (.block 1 (.seq (.ops [ZV 11 0,ZV 12 6,Z4 13 .quo 11 12,Z5 14 .rem 13 2,Z5 15 .eql 14 1,ZV 16 15,ZW 17 16 true 1,ZW 18 16 true 6,Z6 19 16 true .quo 17 18,Z7 20 16 true .rem 19 2,Z7 21 16 true .eql 20 0,Z8 22 16 21])
 (.cond (.t 22)
 (.ops [ZV 23 5,ZV 24 6,Z4 25 .add 23 24,ZV 5 25])
 .skip)))
 (.ops [ZV 9 6,ZU 10 (.p (.bin .mul (ZR 2) (.t 9))),ZV 6 10]))))))
 (.seq (.ops [ZV 26 5,ZV 4 26])
 .ret))))⟩
def a63:AF:=⟨13,[.tmp 2],
 (.seq (.ops [ZU 1 (.h (.box (.t 0))),ZX 2 0])
 (.seq (.seq (.ops [Z2 3 129 1 1,ZZ 4 false 1 3,Z5 5 .lss 4 0,ZV 6 5,Z3 7 6 false 129 1 1,Z0 8 6 false false 1 7,Z7 9 6 false .gtr 8 15,Z9 10 6 9])
 (.cond (.t 10)
 (.seq (.ops [ZX 2 0])
 .ret)
 .skip))
 (.seq (.ops [Z2 11 129 1 1,ZZ 12 false 1 11,ZV 2 12])
 .ret)))⟩
def a64:AF:=⟨16,[.tmp 2],
 (.seq (.ops [ZX 2 0])
 (.seq (.seq (.ops [ZV 3 0])
 (.block 0 (.seq (.ops [Z5 5 .eql 3 4,ZV 4 5])
 (.cond (.t 4)
 (.seq (.ops [ZX 2 3])
 .ret)
 (.seq (.ops [Z5 7 .eql 3 7,ZV 6 7])
 (.cond (.t 6)
 (.seq (.ops [ZX 2 1])
 .ret)
 (.seq (.ops [Z5 9 .eql 3 0,ZV 8 9])
 (.cond (.t 8)
 (.seq (.ops [ZX 2 2])
 .ret)
 (.seq (.ops [Z5 11 .eql 3 60,ZV 10 11])
 (.cond (.t 10)
 (.seq (.ops [ZX 2 12])
 .ret)
 (.seq (.ops [Z5 13 .eql 3 63,ZV 12 13])
 (.cond (.t 12)
 (.seq (.ops [ZX 2 4])
 .ret)
 (.seq (.ops [Z5 15 .eql 3 56,ZV 14 15])
 (.cond (.t 14)
 (.seq (.ops [ZX 2 8])
 .ret)
 .skip))))))))))))))
 (.seq (.ops [ZX 2 0])
 .ret)))⟩
def a65:AF:=⟨49,[.tmp 4],
 (.seq (.ops [ZU 2 (.h (.box (.t 0))),ZU 3 (.h (.box (.t 1))),ZY 4 false])
 (.seq (.seq (.ops [Z2 5 0 1 2,ZZ 6 false 1 5,Z5 7 .neq 6 1,ZV 8 7,Z3 9 8 false 0 1 3,Z0 10 8 false false 1 9,Z7 11 8 false .rem 10 8,Z3 12 8 false 1 1 3,Z0 13 8 false false 1 12,Z7 14 8 false .rem 13 8,Z6 15 8 false .neq 11 14,Z9 16 8 15])
 (.cond (.t 16)
 (.seq (.ops [ZY 4 false])
 .ret)
 .skip))
 (.seq (.ops [Z2 17 1 1 2,ZZ 18 false 1 17,Z5 19 .eql 18 0,ZV 20 19,Z3 21 20 true 0 1 3,Z0 22 20 true false 1 21,Z7 23 20 true .quo 22 8,Z7 24 20 true .eql 23 1,Z8 25 20 24,ZV 26 25,Z3 27 26 true 1 1 3,Z0 28 26 true false 1 27,Z7 29 26 true .quo 28 8,Z7 30 26 true .eql 29 3,Z8 31 26 30,ZV 32 31,Z3 33 32 false 1 1 2,Z0 34 32 false false 1 33,Z7 35 32 false .eql 34 1,ZW 36 32 false 35,Z3 37 36 true 0 1 3,Z0 38 36 true false 1 37,Z7 39 36 true .quo 38 8,Z7 40 36 true .eql 39 6,ZT 41 32 false (.p (.pick (.t 36) (.t 40) (ZS false))),ZW 42 32 false 41,Z3 43 42 true 1 1 3,Z0 44 42 true false 1 43,Z7 45 42 true .quo 44 8,Z7 46 42 true .eql 45 4,ZT 47 32 false (.p (.pick (.t 42) (.t 46) (ZS false))),Z9 48 32 47,ZV 4 48])
 .ret)))⟩
def a70:AF:=⟨13,[.tmp 2],
 (.seq (.ops [ZU 1 (.h (.box (.t 0))),ZY 2 false])
 (.seq (.par [ZZ 3 true 133 1,ZU 4 (Zh 98 [(.t 3)]),ZV 5 4,Z0 6 5 true true 133 1,Z3 7 5 true 128 1 1,Z0 8 5 true false 1 7,ZT 9 5 true (Zi 53 [(.t 8)]),ZT 10 5 true (Zh 25 [(.t 6),(.t 9)]),ZT 11 5 true (.p (.un .not (.t 10))),Z8 12 5 11,ZV 2 12])
 .ret))⟩
def a71:AF:=⟨2,[],
 .skip⟩
def a72:AF:=⟨4,[.tmp 2],
 (.seq (.ops [ZU 1 (.h (.box (.t 0))),ZU 2 (.p (.mv (.k .fnil)))])
 (.seq (.ops [ZU 3 (.p (.mkfn 99 [(.t 1)])),ZV 2 3])
 .ret))⟩
def a73:AF:=⟨19,[.tmp 4],
 (.seq (.ops [ZX 4 0])
 (.seq (.seq (.ops [ZV 6 0,ZU 7 (.p (.len (.t 6))),ZX 8 0])
 (.block 0 (.loop (.seq (.ops [Z4 9 .lss 8 7])
 (.seq (.cond (.t 9)
 .skip
 (.exit 0))
 (.seq (.block 1 (.seq (.ops [ZV 10 8,ZV 5 10])
 (.seq (.ops [ZV 11 1,ZV 12 0,ZV 13 5,ZU 14 (.p (.ixs 3 (.t 12) (.t 13))),ZZ 15 true 3 14,ZU 16 (.h (.call (.t 11) [(.t 15)]))])
 (.cond (.t 16)
 (.seq (.ops [ZV 17 5,ZV 4 17])
 .ret)
 .skip))))
 (.ops [Z5 18 .add 8 1,ZV 8 18])))))))
 (.seq (.ops [ZX 4 (-1)])
 .ret)))⟩
def a74:AF:=⟨6,[.tmp 2],
 (.seq (.ops [ZY 2 false])
 (.seq (.ops [ZV 3 0,ZU 4 (Zh 49 [(.t 3)]),ZU 5 (.p (.fld false 2 1 (.t 4))),ZV 2 5])
 .ret))⟩
def a79:AF:=⟨19,[.tmp 4],
 (.seq (.ops [ZU 3 (.h (.box (.t 1))),ZX 4 0])
 (.seq (.seq (.ops [ZV 6 0,ZU 7 (.p (.len (.t 6))),ZX 8 0])
 (.block 0 (.loop (.seq (.ops [Z4 9 .lss 8 7])
 (.seq (.cond (.t 9)
 .skip
 (.exit 0))
 (.seq (.block 1 (.seq (.ops [ZV 10 8,ZV 5 10])
 (.seq (.par [ZZ 11 true 3 3,ZV 12 0,ZV 13 5,ZU 14 (.p (.ixs 3 (.t 12) (.t 13))),ZZ 15 true 3 14,ZU 16 (.p (.eqa false 3 (.t 11) (.t 15)))])
 (.cond (.t 16)
 (.seq (.ops [ZV 17 5,ZV 4 17])
 .ret)
 .skip))))
 (.ops [Z5 18 .add 8 1,ZV 8 18])))))))
 (.seq (.ops [ZX 4 (-1)])
 .ret)))⟩
def a81:AF:=⟨95,[.tmp 4,.tmp 5],
 (.seq (.ops [ZX 4 0,ZY 5 false])
 (.seq (.seq (.ops [⟨some 12,none,.p (.build (.scl [(.str ⟨#[]⟩),(.str ⟨#[]⟩)]) [(0,1,(.k (.s (.str ⟨#[97,98,99,100,101,102,103,104]⟩)))),(1,1,(.k (.s (.str ⟨#[49,50,51,52,53,54,55,56]⟩))))])⟩,ZX 13 0])
 (.block 0 (.loop (.seq (.ops [Z5 14 .lss 13 2])
 (.seq (.cond (.t 14)
 .skip
 (.exit 0))
 (.seq (.block 1 (.seq (.ops [ZV 15 13,ZU 16 (.p (.ix 2 1 false (.t 12) (.t 13))),ZV 6 15,ZV 7 16])
 (.seq (.seq (.par [ZV 17 0,ZU 18 (.p (.nilck (.t 17))),Z2 19 1 1 18,ZZ 20 false 1 19,ZV 21 0,ZU 22 (.p (.nilck (.t 21))),Z2 23 0 1 22,ZZ 24 false 1 23,ZU 25 (.p (.lenS (.t 24))),Z4 26 .eql 20 25,ZV 27 26,ZW 28 27 false 7,ZW 29 27 false 0,ZT 30 27 false (.p (.nilck (.t 29))),Z3 31 27 false 0 1 30,Z0 32 27 false false 1 31,ZW 33 27 false 0,ZT 34 27 false (.p (.nilck (.t 33))),Z3 35 27 false 1 1 34,Z0 36 27 false false 1 35,ZT 37 27 false (.p (.ixstr (.t 32) (.t 36))),ZT 38 27 false (Zh 82 [(.t 28),(.t 37)]),Z7 39 27 false .lss 38 0,Z9 40 27 39])
 (.cond (.t 40)
 (.seq (.ops [ZX 4 0,ZY 5 false])
 .ret)
 .skip))
 (.seq (.seq (.par [ZV 42 0,ZU 43 (.p (.nilck (.t 42))),Z2 44 0 1 43,ZZ 45 false 1 44,ZV 46 0,ZU 47 (.p (.nilck (.t 46))),Z2 48 1 1 47,ZZ 49 false 1 48,ZV 50 6,Z4 51 .sub 49 50,ZV 52 0,ZU 53 (.p (.nilck (.t 52))),Z2 54 1 1 53,ZZ 55 false 1 54,Z5 56 .add 55 1,ZU 57 (.p (.slS (.t 45) (some (.t 51)) (some (.t 56)))),ZU 58 (Zh 109 [(.t 57)]),ZV 41 58,ZU 59 (.p (.ext (.t 41) 0)),ZU 60 (.p (.ext (.t 41) 1)),ZV 8 59,ZV 9 60])
 (.seq (.ops [ZV 61 6,Z5 62 .eql 61 1,ZV 63 62,ZW 64 63 true 8,ZW 65 63 true 1,Z6 66 63 true .eql 64 65,Z8 67 63 66])
 (.cond (.t 67)
 (.seq (.ops [ZX 4 0,ZY 5 false])
 .ret)
 .skip)))
 (.ops [ZV 68 0,ZU 69 (.p (.nilck (.t 68))),Z2 70 1 1 69,ZZ 71 false 1 70,Z5 72 .add 71 1,ZU 73 (.p (.nilck (.t 68))),Z2 74 1 1 73,Z1 1 74 72])))))
 (.ops [Z5 75 .add 13 1,ZV 13 75])))))))
 (.seq (.par [ZV 77 0,ZU 78 (.p (.nilck (.t 77))),Z2 79 0 1 78,ZZ 80 false 1 79,ZV 81 0,ZU 82 (.p (.nilck (.t 81))),Z2 83 1 1 82,ZZ 84 false 1 83,Z5 85 .sub 84 2,ZV 86 0,ZU 87 (.p (.nilck (.t 86))),Z2 88 1 1 87,ZZ 89 false 1 88,ZU 90 (.p (.slS (.t 80) (some (.t 85)) (some (.t 89)))),ZU 91 (Zh 109 [(.t 90)]),ZV 76 91,ZU 92 (.p (.ext (.t 76) 0)),ZU 93 (.p (.ext (.t 76) 1)),ZV 10 92,ZV 11 93])
 (.seq (.ops [ZV 94 10,ZV 4 94,ZY 5 true])
 .ret))))⟩
def a84:AF:=⟨7,[.tmp 2],
 (.seq (.ops [ZX 2 0])
 (.seq (.ops [ZV 3 0,ZU 4 (Zh 49 [(.t 3)]),ZU 5 (.p (.fld true 0 2 (.t 4))),ZU 6 (.p (.fld false 1 1 (.t 5))),ZV 2 6])
 .ret))⟩
def a85:AF:=⟨16,[.tmp 2],
 (.seq (.ops [ZX 2 0])
 (.seq (.par [ZV 3 0,ZU 4 (.p (.nilck (.t 3))),Z2 5 133 3 4,Z2 6 1 1 5,ZZ 7 false 1 6,ZU 8 (Zi 87 [(.t 7)]),ZV 9 0,ZU 10 (.p (.nilck (.t 9))),Z2 11 133 3 10,Z2 12 0 1 11,ZZ 13 false 1 12,ZU 14 (Zh 87 [(.t 13)]),Z4 15 .sub 8 14,ZV 2 15])
 .ret))⟩
def a86:AF:=⟨9,[.tmp 4],
 (.seq (.ops [ZX 4 0])
 (.seq (.ops [ZV 5 0,ZV 6 1,ZU 7 (.p (.build (.ints 2) [(0,1,(.t 5)),(1,1,(.t 6))])),ZU 8 (Zh 112 [(.t 7)]),ZV 4 8])
 .ret))⟩
def a87:AF:=⟨7,[.tmp 2],
 (.seq (.ops [ZX 2 0])
 (.seq (.ops [ZV 3 0,ZU 4 (Zh 49 [(.t 3)]),ZU 5 (.p (.fld true 0 2 (.t 4))),ZU 6 (.p (.fld false 0 1 (.t 5))),ZV 2 6])
 .ret))⟩
def a88:AF:=⟨80,[.tmp 2,.tmp 3,.tmp 4],
 (.seq (.ops [ZX 2 0,ZX 3 0,ZY 4 false])
 (.seq (.ops [ZV 7 0,ZU 8 (.p (.nilck (.t 7))),Z2 9 136 2 8,Z2 10 1 1 9,ZZ 11 false 1 10,ZU 12 (.p (.bin .mul (ZR 56) (.t 11))),Z5 13 .add 12 4,ZV 5 13])
 (.seq (.ops [ZV 14 0,ZU 15 (.p (.nilck (.t 14))),Z2 16 136 2 15,Z2 17 1 1 16,ZZ 18 false 1 17,ZU 19 (.p (.bin .mul (ZR 2) (.t 18))),ZU 20 (.p (.bin .shl (ZR 1) (.t 19))),ZV 6 20])
 (.seq (.block 0 (.seq (.ops [ZV 22 0,ZU 23 (.p (.nilck (.t 22))),Z2 24 136 2 23,Z2 25 0 1 24,ZZ 26 false 1 25,Z5 27 .neq 26 6,ZV 28 27,ZW 29 28 false 0,ZT 30 28 false (.p (.nilck (.t 29))),Z3 31 28 false 133 3 30,Z3 32 28 false 0 1 31,Z0 33 28 false false 1 32,ZW 34 28 false 5,Z6 35 28 false .neq 33 34,Z9 36 28 35,ZV 21 36])
 (.cond (.t 21)
 (.seq (.ops [ZX 2 0,ZX 3 0,ZY 4 false])
 .ret)
 (.seq (.ops [ZV 38 0,ZU 39 (.p (.nilck (.t 38))),Z2 40 133 3 39,Z2 41 1 1 40,ZZ 42 false 1 41,ZV 43 5,Z5 44 .add 43 2,Z4 45 .eql 42 44,ZV 37 45])
 (.cond (.t 37)
 (.seq (.par [ZV 46 5,Z5 47 .add 46 3,ZV 48 5,Z5 49 .add 48 1,ZV 50 0,ZU 51 (.p (.nilck (.t 50))),Z2 52 0 133 51,Z2 53 129 1 52,ZZ 54 false 1 53,ZV 55 6,Z4 56 .and 54 55,Z5 57 .neq 56 0,ZV 2 47,ZV 3 49,ZV 4 57])
 .ret)
 (.seq (.ops [ZV 59 0,ZU 60 (.p (.nilck (.t 59))),Z2 61 133 3 60,Z2 62 1 1 61,ZZ 63 false 1 62,ZV 64 5,Z5 65 .sub 64 2,Z4 66 .eql 63 65,ZV 58 66])
 (.cond (.t 58)
 (.seq (.par [ZV 67 5,Z5 68 .sub 67 4,ZV 69 5,Z5 70 .sub 69 1,ZV 71 0,ZU 72 (.p (.nilck (.t 71))),Z2 73 0 133 72,Z2 74 129 1 73,ZZ 75 false 1 74,ZV 76 6,ZU 77 (.p (.bin .shl (.t 76) (.k (.s (.int .u64 1))))),Z4 78 .and 75 77,Z5 79 .neq 78 0,ZV 2 68,ZV 3 70,ZV 4 79])
 .ret)
 .skip)))))))
 (.seq (.ops [ZX 2 0,ZX 3 0,ZY 4 false])
 .ret)))))⟩
def a89:AF:=⟨55,[.tmp 2],
 (.seq (.ops [ZY 2 false])
 (.seq (.ops [ZV 6 0,ZU 7 (.p (.nilck (.t 6))),Z2 8 136 2 7,Z2 9 1 1 8,ZZ 10 false 1 9,ZU 11 (.p (.bin .mul (ZR 2) (.t 10))),ZU 12 (.p (.bin .sub (ZR 1) (.t 11))),ZV 3 12])
 (.seq (.par [ZV 13 0,ZU 14 (.p (.nilck (.t 13))),Z2 15 133 3 14,Z2 16 0 1 15,ZZ 17 false 1 16,ZU 18 (Zi 84 [(.t 17)]),ZV 19 0,ZU 20 (.p (.nilck (.t 19))),Z2 21 133 3 20,Z2 22 1 1 21,ZZ 23 false 1 22,ZU 24 (Zh 84 [(.t 23)]),ZV 4 18,ZV 5 24])
 (.seq (.ops [ZV 25 0,ZU 26 (.p (.nilck (.t 25))),Z2 27 136 2 26,Z2 28 0 1 27,ZZ 29 false 1 28,Z5 30 .eql 29 1,ZV 31 30,ZW 32 31 true 0,ZT 33 31 true (Zh 85 [(.t 32)]),Z7 34 31 true .eql 33 0,Z8 35 31 34,ZV 36 35,ZW 37 36 true 4,ZW 38 36 true 0,ZT 39 36 true (.p (.nilck (.t 38))),Z3 40 36 true 136 2 39,Z3 41 36 true 1 1 40,Z0 42 36 true false 1 41,ZT 43 36 true (.p (.bin .mul (ZR 5) (.t 42))),ZT 44 36 true (.p (.bin .add (ZR 1) (.t 43))),Z6 45 36 true .eql 37 44,Z8 46 36 45,ZV 47 46,ZW 48 47 true 5,ZW 49 47 true 4,ZW 50 47 true 3,ZT 51 47 true (.p (.bin .mul (ZR 2) (.t 50))),Z6 52 47 true .add 49 51,Z6 53 47 true .eql 48 52,Z8 54 47 53,ZV 2 54])
 .ret))))⟩
def a90:AF:=⟨24,[],
 (.seq (.ops [ZU 4 (.h (.box (.t 1)))])
 (.seq (.ops [ZV 8 2,ZU 9 (.p (.len (.t 8))),ZX 10 0])
 (.block 0 (.loop (.seq (.ops [Z4 11 .lss 10 9])
 (.seq (.cond (.t 11)
 .skip
 (.exit 0))
 (.seq (.block 1 (.seq (.ops [ZU 12 (.p (.ixs 1 (.t 8) (.t 10))),ZZ 13 false 1 12,ZV 7 13])
 (.seq (.ops [ZV 14 7,ZU 15 (Zh 74 [(.t 14)])])
 (.cond (.t 15)
 (.par [ZV 16 0,ZV 17 7,ZZ 18 true 2 4,ZU 19 (.p (.nilck (.t 16))),Z2 20 0 133 19,Z2 21 0 128 20,ZU 22 (.p (.ixa 64 2 (.t 21) (.t 17))),Z1 2 22 18])
 .skip))))
 (.ops [Z5 23 .add 10 1,ZV 10 23]))))))))⟩
def a91:AF:=⟨21,[.tmp 2],
 (.seq (.ops [ZX 2 0])
 (.seq (.ops [ZU 6 (.h (.mkmap)),
 ⟨none,none,.h (.mput (.t 6) (ZR 4) (ZR 3))⟩,
 ⟨none,none,.h (.mput (.t 6) (ZR 7) (ZR 1))⟩,
 ⟨none,none,.h (.mput (.t 6) (ZR 0) (ZR 2))⟩,
 ⟨none,none,.h (.mput (.t 6) (ZR 60) (ZR 12))⟩,
 ⟨none,none,.h (.mput (.t 6) (ZR 63) (ZR 4))⟩,
 ⟨none,none,.h (.mput (.t 6) (ZR 56) (ZR 8))⟩,ZV 7 6,ZV 3 7])
 (.seq (.seq (.ops [ZV 8 0,ZU 9 (.p (.len (.t 8))),ZX 10 0])
 (.block 0 (.loop (.seq (.ops [Z4 11 .lss 10 9])
 (.seq (.cond (.t 11)
 .skip
 (.exit 0))
 (.seq (.block 1 (.seq (.ops [ZU 12 (.p (.ixs 1 (.t 8) (.t 10))),ZZ 13 false 1 12,ZV 5 13])
 (.ops [ZV 14 2,ZV 15 3,ZV 16 5,ZU 17 (.h (.mget (.one (.s (.int .i64 0))) false (.t 15) (.t 16))),Z4 18 .or 14 17,ZV 2 18])))
 (.ops [Z5 19 .add 10 1,ZV 10 19])))))))
 (.seq (.ops [ZV 20 2,ZV 2 20])
 .ret))))⟩
def a92:AF:=⟨8,[.tmp 6],
 (.seq (.ops [ZU 3 (.h (.box (.t 0))),ZU 4 (.h (.box (.t 1))),ZU 5 (.h (.box (.t 2))),ZU 6 (.p (.mv (.k .fnil)))])
 (.seq (.ops [ZU 7 (.p (.mkfn 113 [(.t 3),(.t 5),(.t 4)])),ZV 6 7])
 .ret))⟩
def a95:AF:=⟨21,[.tmp 2],
 (.seq (.ops [ZU 1 (.h (.box (.t 0))),ZY 2 false])
 (.seq (.ops [Z2 3 0 1 1,ZZ 4 false 1 3,Z5 5 .geq 4 1,ZV 6 5,Z3 7 6 true 0 1 1,Z0 8 6 true false 1 7,Z7 9 6 true .leq 8 6,Z8 10 6 9,ZV 11 10,Z3 12 11 true 1 1 1,Z0 13 11 true false 1 12,Z7 14 11 true .eql 13 0,ZW 15 11 true 14,Z3 16 15 false 1 1 1,Z0 17 15 false false 1 16,Z7 18 15 false .eql 17 1,ZT 19 11 true (.p (.pick (.t 15) (ZS true) (.t 18))),Z8 20 11 19,ZV 2 20])
 .ret))⟩
def a98:AF:=⟨36,[.tmp 2],
 (.seq (.ops [ZU 1 (.h (.box (.t 0))),ZY 2 false])
 (.seq (.ops [ZZ 4 true 133 1,ZU 5 (.p (.build (.ints 133) [(0,133,(.t 4))])),ZU 3 (.h (.alloc (.ints 133))),Z1 133 3 5])
 (.seq (.ops [ZZ 6 true 133 3,ZU 7 (Zh 122 [(.t 6)]),ZV 8 7,Z0 9 8 true true 133 3,ZT 10 8 true (Zh 123 [(.t 9)]),Z8 11 8 10,ZV 12 11,Z0 13 12 true true 133 3,ZT 14 12 true (Zh 124 [(.t 13)]),Z8 15 12 14,ZV 16 15,Z3 17 16 true 131 1 1,Z0 18 16 true false 1 17,Z7 19 16 true .geq 18 0,Z8 20 16 19,ZV 21 20,Z3 22 21 true 131 1 1,Z0 23 21 true false 1 22,Z7 24 21 true .leq 23 1024,Z8 25 21 24,ZV 26 25,Z3 27 26 true 132 1 1,Z0 28 26 true false 1 27,Z7 29 26 true .geq 28 1,Z8 30 26 29,ZV 31 30,Z3 32 31 true 132 1 1,Z0 33 31 true false 1 32,Z7 34 31 true .leq 33 16384,Z8 35 31 34,ZV 2 35])
 .ret)))⟩
def a99:AF:=⟨57,[],
 (.seq (.ops [Z2 7 0 133 1,ZZ 8 true 133 7,ZU 9 (Zh 100 [(.t 8)]),ZU 10 (.p (.len (.t 9))),ZX 11 0])
 (.block 0 (.loop (.seq (.ops [Z4 12 .lss 11 10])
 (.seq (.cond (.t 12)
 .skip
 (.exit 0))
 (.seq (.block 1 (.seq (.ops [ZU 13 (.p (.ixs 3 (.t 9) (.t 11))),ZZ 14 true 3 13,ZU 4 (.h (.alloc (.ints 3))),Z1 3 4 14])
 (.seq (.seq (.ops [ZZ 15 true 133 1,ZZ 16 true 3 4,ZU 17 (Zh 101 [(.t 15),(.t 16)]),ZV 18 17,Z0 19 18 true true 133 1,Z3 20 18 true 0 1 4,Z0 21 18 true false 1 20,Z3 22 18 true 0 1 4,Z0 23 18 true false 1 22,Z3 24 18 true 1 1 4,Z0 25 18 true false 1 24,Z6 26 18 true .add 23 25,Z7 27 18 true .quo 26 2,ZT 28 18 true (.h (.mksl 2 1 (.one (.s (.int .i64 0))) [(0,(.t 21)),(1,(.t 27))])),ZT 29 18 true (Zh 102 [(.t 19),(.t 28)]),ZT 30 18 true (.p (.un .not (.t 29))),Z8 31 18 30])
 (.cond (.t 31)
 (.exit 1)
 .skip))
 (.seq (.ops [Z2 33 0 133 1,ZZ 34 true 133 33,ZZ 35 true 3 4,ZU 36 (Zh 23 [(.t 34),(.t 35)]),ZV 32 36,ZU 37 (.p (.ext (.t 32) 0)),ZU 38 (.p (.ext (.t 32) 1)),ZU 5 (.h (.alloc (.ints 133))),Z1 133 5 37,ZV 6 38])
 (.seq (.ops [ZV 39 6,Z5 40 .eql 39 0,ZV 41 40,Z0 42 41 true true 133 5,Z3 43 41 true 0 133 1,Z3 44 41 true 128 1 43,Z0 45 41 true false 1 44,ZT 46 41 true (Zh 25 [(.t 42),(.t 45)]),ZT 47 41 true (.p (.un .not (.t 46))),Z8 48 41 47,ZV 49 48,ZW 50 49 true 0,Z0 51 49 true true 3 4,Z0 52 49 true true 133 5,ZT 53 49 true (.h (.call (.t 50) [(.t 51),(.t 52)])),ZT 54 49 true (.p (.un .not (.t 53))),Z8 55 49 54])
 (.cond (.t 55)
 .ret
 .skip))))))
 (.ops [Z5 56 .add 11 1,ZV 11 56])))))))⟩
def Kx:RD:=rdOf Tryz.f100
def g100:AC:=(.ops [ZU 3 (.h (.alloc (.ints 136))),Z1 136 3 6])
def b100:AC:=(.block 1 (.par [ZZ 7 false 1 2,ZZ 8 true 136 3,ZZ 9 true 136 3,ZU 10 (Zi 127 [(.t 9)]),ZU 11 (Zi 126 [(.t 8),(.t 10)]),ZU 12 (.h (.append 3 24 (.t 7) (.t 11))),Z1 1 2 12]))
def a100:AF:=⟨16,[.cell 2 false 1],
 (.seq (.ops [ZU 1 (.h (.box (.t 0))),ZU 2 (.h (.alloc (.one .snil)))])
 (.seq (.seq (.ops [ZZ 4 true 133 1,ZU 5 (Zh 125 [(.t 4)])])
 (.block 0 (.rfn (.t 5) 6 Kx)))
 (.seq (.ops [ZZ 13 false 1 2,ZU 14 (.h (.call (.k (.fn 128 [])) [(.t 13),(.k (.fn 129 []))]))])
 (.seq (.ops [ZZ 15 false 1 2,Z1 1 2 15])
 .ret))))⟩
def a101:AF:=⟨27,[.tmp 4],
 (.seq (.ops [ZU 2 (.h (.box (.t 0))),ZU 3 (.h (.box (.t 1))),ZY 4 false])
 (.seq (.ops [Z2 6 1 1 3,ZZ 7 false 1 6,Z2 8 0 1 3,ZZ 9 false 1 8,Z4 10 .sub 7 9,ZV 5 10])
 (.seq (.ops [Z2 11 0 1 3,ZZ 12 false 1 11,Z2 13 0 133 2,Z2 14 0 128 13,ZU 15 (.p (.ixa 64 2 (.t 14) (.t 12))),Z2 16 0 1 15,ZZ 17 false 1 16,Z5 18 .eql 17 6,ZV 19 18,ZW 20 19 true 5,Z7 21 19 true .eql 20 2,ZW 22 19 true 21,ZW 23 22 false 5,Z7 24 22 false .eql 23 (-2),ZT 25 19 true (.p (.pick (.t 22) (ZS true) (.t 24))),Z8 26 19 25,ZV 4 26])
 .ret)))⟩
def a102:AF:=⟨14,[.tmp 4],
 (.seq (.ops [ZU 2 (.h (.box (.t 0))),ZY 4 false])
 (.seq (.par [Z2 5 0 133 2,ZZ 6 true 133 5,Z2 7 0 133 2,Z2 8 128 1 7,ZZ 9 false 1 8,ZU 10 (Zi 53 [(.t 9)]),ZV 11 1,ZU 12 (Zh 54 [(.t 6),(.t 10),(.t 11)]),ZU 13 (.p (.un .not (.t 12))),ZV 4 13])
 .ret))⟩
def a109:AF:=⟨20,[.tmp 2,.tmp 3],
 (.seq (.ops [ZX 2 0,ZY 3 false])
 (.seq (.seq (.ops [ZV 5 0,ZU 6 (.p (.lenS (.t 5))),Z5 7 .neq 6 2])
 (.cond (.t 7)
 (.seq (.ops [ZX 2 0,ZY 3 false])
 .ret)
 .skip))
 (.seq (.par [ZV 8 0,ZU 9 (.p (.ixstr (.t 8) (ZR 0))),
 ⟨some 10,none,.h (.callq (.k (.fn 82 [])) [(.k (.s (.str ⟨#[97,98,99,100,101,102,103,104]⟩))),(.t 9)])⟩,ZV 11 0,ZU 12 (.p (.ixstr (.t 11) (ZR 1))),
 ⟨some 13,none,.h (.callq (.k (.fn 82 [])) [(.k (.s (.str ⟨#[49,50,51,52,53,54,55,56]⟩))),(.t 12)])⟩,ZU 14 (.p (.build (.ints 2) [(0,1,(.t 10)),(1,1,(.t 13))])),ZU 4 (.h (.alloc (.ints 2))),Z1 2 4 14])
 (.seq (.seq (.ops [ZZ 15 true 2 4,ZU 16 (Zh 134 [(.t 15)]),ZU 17 (.p (.un .not (.t 16)))])
 (.cond (.t 17)
 (.seq (.ops [ZX 2 0,ZY 3 false])
 .ret)
 .skip))
 (.seq (.ops [ZZ 18 true 2 4,ZU 19 (Zh 112 [(.t 18)]),ZV 2 19,ZY 3 true])
 .ret)))))⟩
def a112:AF:=⟨12,[.tmp 2],
 (.seq (.ops [ZU 1 (.h (.box (.t 0))),ZX 2 0])
 (.seq (.seq (.ops [ZZ 3 true 2 1,ZU 4 (Zh 134 [(.t 3)]),ZU 5 (.p (.un .not (.t 4)))])
 (.cond (.t 5)
 (.seq (.ops [ZX 2 (-1)])
 .ret)
 .skip))
 (.seq (.ops [Z2 6 1 1 1,ZZ 7 false 1 6,Z5 8 .mul 7 8,Z2 9 0 1 1,ZZ 10 false 1 9,Z4 11 .add 8 10,ZV 2 11])
 .ret)))⟩
def a113:AF:=⟨32,[],
 (.seq (.ops [Z2 7 0 133 1,Z2 8 0 128 7,ZZ 9 true 128 8,ZX 10 0])
 (.block 0 (.loop (.seq (.ops [Z5 11 .lss 10 64])
 (.seq (.cond (.t 11)
 .skip
 (.exit 0))
 (.seq (.block 1 (.seq (.ops [ZV 12 10,ZU 13 (.p (.ix 64 2 true (.t 9) (.t 10))),ZU 6 (.h (.alloc (.ints 2))),ZV 5 12,Z1 2 6 13])
 (.seq (.parc [[0,1,2,3,4,5,6,7,8,9,10,11,12,13,14,15,16],[0,1,2,3,4,5,6,7,8,9,10,11,13,12,14,15,16],[0,1,2,3,4,5,6,8,7,9,10,11,12,13,14,15,16],[0,1,2,3,4,5,6,8,7,9,10,11,13,12,14,15,16],[0,1,2,3,4,5,8,6,7,9,10,11,12,13,14,15,16],[0,1,2,3,4,5,8,6,7,9,10,11,13,12,14,15,16],[0,1,2,3,4,6,5,7,8,9,10,11,12,13,14,15,16],[0,1,2,3,4,6,5,7,8,9,10,11,13,12,14,15,16],[0,1,2,3,4,6,5,8,7,9,10,11,12,13,14,15,16],[0,1,2,3,4,6,5,8,7,9,10,11,13,12,14,15,16],[0,1,2,3,4,6,8,5,7,9,10,11,12,13,14,15,16],[0,1,2,3,4,6,8,5,7,9,10,11,13,12,14,15,16],[0,1,2,3,4,8,5,6,7,9,10,11,12,13,14,15,16],[0,1,2,3,4,8,5,6,7,9,10,11,13,12,14,15,16],[0,1,2,3,4,8,6,5,7,9,10,11,12,13,14,15,16],[0,1,2,3,4,8,6,5,7,9,10,11,13,12,14,15,16],[0,2,1,3,4,5,6,7,8,9,10,11,12,13,14,15,16],[0,2,1,3,4,5,6,7,8,9,10,11,13,12,14,15,16],[0,2,1,3,4,5,6,8,7,9,10,11,12,13,14,15,16],[0,2,1,3,4,5,6,8,7,9,10,11,13,12,14,15,16],[0,2,1,3,4,5,8,6,7,9,10,11,12,13,14,15,16],[0,2,1,3,4,5,8,6,7,9,10,11,13,12,14,15,16],[0,2,1,3,4,6,5,7,8,9,10,11,12,13,14,15,16],[0,2,1,3,4,6,5,7,8,9,10,11,13,12,14,15,16],[0,2,1,3,4,6,5,8,7,9,10,11,12,13,14,15,16],[0,2,1,3,4,6,5,8,7,9,10,11,13,12,14,15,16],[0,2,1,3,4,6,8,5,7,9,10,11,12,13,14,15,16],[0,2,1,3,4,6,8,5,7,9,10,11,13,12,14,15,16],[0,2,1,3,4,8,5,6,7,9,10,11,12,13,14,15,16],[0,2,1,3,4,8,5,6,7,9,10,11,13,12,14,15,16],[0,2,1,3,4,8,6,5,7,9,10,11,12,13,14,15,16],[0,2,1,3,4,8,6,5,7,9,10,11,13,12,14,15,16],[2,0,1,3,4,5,6,7,8,9,10,11,12,13,14,15,16],[2,0,1,3,4,5,6,7,8,9,10,11,13,12,14,15,16],[2,0,1,3,4,5,6,8,7,9,10,11,12,13,14,15,16],[2,0,1,3,4,5,6,8,7,9,10,11,13,12,14,15,16],[2,0,1,3,4,5,8,6,7,9,10,11,12,13,14,15,16],[2,0,1,3,4,5,8,6,7,9,10,11,13,12,14,15,16],[2,0,1,3,4,6,5,7,8,9,10,11,12,13,14,15,16],[2,0,1,3,4,6,5,7,8,9,10,11,13,12,14,15,16],[2,0,1,3,4,6,5,8,7,9,10,11,12,13,14,15,16],[2,0,1,3,4,6,5,8,7,9,10,11,13,12,14,15,16],[2,0,1,3,4,6,8,5,7,9,10,11,12,13,14,15,16],[2,0,1,3,4,6,8,5,7,9,10,11,13,12,14,15,16],[2,0,1,3,4,8,5,6,7,9,10,11,12,13,14,15,16],[2,0,1,3,4,8,5,6,7,9,10,11,13,12,14,15,16],[2,0,1,3,4,8,6,5,7,9,10,11,12,13,14,15,16],[2,0,1,3,4,8,6,5,7,9,10,11,13,12,14,15,16]] [Z2 14 1 1 6,ZZ 15 false 1 14,ZZ 16 false 1 2,Z4 17 .eql 15 16,ZV 18 17,Z0 19 18 true true 133 1,ZW 20 18 true 5,ZT 21 18 true (Zh 115 [(.t 19),(.t 20)]),Z0 22 18 true false 1 3,ZT 23 18 true (Zh 114 [(.t 21),(.t 22)]),Z8 24 18 23,ZV 25 24,ZW 26 25 true 0,ZW 27 25 true 5,ZT 28 25 true (.h (.call (.t 26) [(.t 27)])),ZT 29 25 true (.p (.un .not (.t 28))),Z8 30 25 29])
 (.cond (.t 30)
 .ret
 .skip))))
 (.ops [Z5 31 .add 10 1,ZV 10 31])))))))⟩
def a114:AF:=⟨9,[.tmp 4],
 (.seq (.ops [ZY 4 false])
 (.seq (.ops [ZV 5 0,ZV 6 1,ZU 7 (Zh 136 [(.t 5),(.t 6)]),Z5 8 .geq 7 0,ZV 4 8])
 .ret))⟩
def a115:AF:=⟨69,[.tmp 4],
 (.seq (.ops [ZU 2 (.h (.box (.t 0))),ZU 4 (.p (.mv (.k .snil)))])
 (.seq (.ops [ZV 10 1,Z2 11 0 133 2,Z2 12 0 128 11,ZU 13 (.p (.ixa 64 2 (.t 12) (.t 10))),ZZ 14 true 2 13,ZU 5 (.h (.alloc (.ints 2))),Z1 2 5 14])
 (.seq (.ops [ZX 6 1])
 (.seq (.seq (.ops [Z2 15 1 1 5,ZZ 16 false 1 15])
 (.block 0 (.seq (.ops [Z5 18 .eql 16 1,ZV 17 18])
 (.cond (.t 17)
 (.ops [ZX 6 (-1)])
 (.seq (.ops [Z5 20 .eql 16 0,ZV 19 20])
 (.cond (.t 19)
 .skip
 (.seq (.ops [ZU 4 (.p (.mv (.k .snil)))])
 .ret)))))))
 (.seq (.ops [ZU 21 (Zh 137 []),ZU 22 (Zh 138 []),ZU 7 (.h (.alloc (.ints 8))),ZU 8 (.h (.alloc (.ints 8))),Z1 8 7 21,Z1 8 8 22])
 (.seq (.seq (.ops [Z2 23 0 1 5,ZZ 24 false 1 23])
 (.block 1 (.seq (.ops [Z5 26 .eql 24 1,ZV 25 26])
 (.cond (.t 25)
 (.seq (.ops [ZV 27 1,ZV 28 6,ZU 29 (.p (.build (.ints 2) [(0,1,(ZR (-1))),(1,1,(.t 28))])),ZV 30 6,ZU 31 (.p (.build (.ints 2) [(0,1,(ZR 1)),(1,1,(.t 30))])),ZU 32 (.h (.mksl 2 2 (.ints 2) [(0,(.t 29)),(1,(.t 31))])),ZU 33 (Zh 139 [(.t 27),(.t 32)]),ZV 4 33])
 .ret)
 (.seq (.ops [Z5 35 .eql 24 2,ZV 34 35])
 (.cond (.t 34)
 (.seq (.ops [ZU 36 (Zh 140 []),ZU 9 (.h (.alloc (.ints 16))),Z1 16 9 36])
 (.seq (.ops [ZV 37 1,ZU 38 (.p (.slA 8 2 (.t 9) none none)),ZU 39 (Zh 139 [(.t 37),(.t 38)]),ZV 4 39])
 .ret))
 (.seq (.ops [Z5 41 .eql 24 6,ZV 40 41])
 (.cond (.t 40)
 (.seq (.par [ZV 42 1,ZU 43 (.p (.slA 4 2 (.t 7) none none)),ZU 44 (.p (.slA 4 2 (.t 8) none none)),ZU 45 (.h (.mksl 2 1 (.one .snil) [(0,(.t 43)),(1,(.t 44))])),ZU 46 (Zh 141 [(.t 45)]),ZU 47 (Zh 139 [(.t 42),(.t 46)]),ZV 4 47])
 .ret)
 (.seq (.ops [Z5 49 .eql 24 4,ZV 48 49])
 (.cond (.t 48)
 (.seq (.par [ZZ 50 true 133 2,ZV 51 1,ZU 52 (.p (.slA 4 2 (.t 7) none none)),ZU 53 (Zh 142 [(.t 50),(.t 51),(.t 52)]),ZV 4 53])
 .ret)
 (.seq (.ops [Z5 55 .eql 24 3,ZV 54 55])
 (.cond (.t 54)
 (.seq (.par [ZZ 56 true 133 2,ZV 57 1,ZU 58 (.p (.slA 4 2 (.t 8) none none)),ZU 59 (Zh 142 [(.t 56),(.t 57),(.t 58)]),ZV 4 59])
 .ret)
 (.seq (.ops [Z5 61 .eql 24 5,ZV 60 61])
 (.cond (.t 60)
 (.seq (.par [ZZ 62 true 133 2,ZV 63 1,ZU 64 (.p (.slA 4 2 (.t 7) none none)),ZU 65 (.p (.slA 4 2 (.t 8) none none)),ZU 66 (.h (.mksl 2 1 (.one .snil) [(0,(.t 64)),(1,(.t 65))])),ZU 67 (Zi 141 [(.t 66)]),ZU 68 (Zh 142 [(.t 62),(.t 63),(.t 67)]),ZV 4 68])
 .ret)
 .skip))))))))))))))
 (.seq (.ops [ZU 4 (.p (.mv (.k .snil)))])
 .ret)))))))⟩
def a122:AF:=⟨61,[.tmp 2],
 (.seq (.ops [ZU 1 (.h (.box (.t 0))),ZY 2 false])
 (.seq (.ops [ZU 3 (.h (.alloc (.ints 2)))])
 (.seq (.seq (.ops [Z2 7 0 133 1,Z2 8 0 128 7,ZZ 9 true 128 8,ZX 10 0])
 (.block 0 (.loop (.seq (.ops [Z5 11 .lss 10 64])
 (.seq (.cond (.t 11)
 .skip
 (.exit 0))
 (.seq (.block 1 (.seq (.ops [ZV 12 10,ZU 13 (.p (.ix 64 2 true (.t 9) (.t 10))),ZU 5 (.h (.alloc (.ints 2))),ZV 4 12,Z1 2 5 13])
 (.seq (.seq (.ops [ZZ 14 true 2 5,ZU 15 (.p (.build (.ints 2) [])),ZU 16 (.p (.eqa false 2 (.t 14) (.t 15)))])
 (.cond (.t 16)
 (.exit 1)
 .skip))
 (.seq (.ops [ZV 17 4,ZU 18 (Zh 84 [(.t 17)]),Z5 19 .eql 18 0,ZV 20 19,ZW 21 20 false 4,ZT 22 20 false (Zh 84 [(.t 21)]),Z7 23 20 false .eql 22 7,Z9 24 20 23,ZV 6 24])
 (.seq (.seq (.ops [ZZ 25 true 2 5,ZU 26 (Zh 149 [(.t 25)]),ZU 27 (.p (.un .not (.t 26))),ZV 28 27,ZW 29 28 false 6,ZW 30 28 false 29,Z3 31 30 true 0 1 5,Z0 32 30 true false 1 31,Z7 33 30 true .eql 32 1,ZT 34 28 false (.p (.pick (.t 30) (.t 33) (ZS false))),Z9 35 28 34])
 (.cond (.t 35)
 (.seq (.ops [ZY 2 false])
 .ret)
 .skip))
 (.seq (.ops [Z2 36 0 1 5,ZZ 37 false 1 36,Z5 38 .eql 37 6])
 (.cond (.t 38)
 (.ops [Z2 39 1 1 5,ZZ 40 false 1 39,ZU 41 (.p (.ixa 2 1 (.t 3) (.t 40))),ZZ 42 false 1 41,Z5 43 .add 42 1,ZU 44 (.p (.ixa 2 1 (.t 3) (.t 40))),Z1 1 44 43])
 .skip)))))))
 (.ops [Z5 45 .add 10 1,ZV 10 45])))))))
 (.seq (.ops [ZZ 46 true 2 3,ZU 47 (.p (.build (.ints 2) [(0,1,(ZR 1)),(1,1,(ZR 1))])),ZU 48 (.p (.eqa false 2 (.t 46) (.t 47))),ZV 49 48,Z3 50 49 true 0 133 1,Z3 51 49 true 128 1 50,Z0 52 49 true false 1 51,Z7 53 49 true .eql 52 0,ZW 54 49 true 53,Z3 55 54 false 0 133 1,Z3 56 54 false 128 1 55,Z0 57 54 false false 1 56,Z7 58 54 false .eql 57 1,ZT 59 49 true (.p (.pick (.t 54) (ZS true) (.t 58))),Z8 60 49 59,ZV 2 60])
 .ret))))⟩
def a123:AF:=⟨46,[.tmp 2],
 (.seq (.ops [ZU 1 (.h (.box (.t 0))),ZY 2 false])
 (.seq (.seq (.ops [Z2 6 0 133 1,Z2 7 129 1 6,ZZ 8 false 1 7,Z5 9 .lss 8 0,ZV 10 9,Z3 11 10 false 0 133 1,Z3 12 10 false 129 1 11,Z0 13 10 false false 1 12,Z7 14 10 false .gtr 13 15,Z9 15 10 14])
 (.cond (.t 15)
 (.seq (.ops [ZY 2 false])
 .ret)
 .skip))
 (.seq (.seq (.ops [ZU 16 (.p (.build (.ints 4) [(0,1,(ZR 7)),(1,1,(ZR 0)),(2,1,(ZR 63)),(3,1,(ZR 56))])),ZX 17 0])
 (.block 0 (.loop (.seq (.ops [Z5 18 .lss 17 4])
 (.seq (.cond (.t 18)
 .skip
 (.exit 0))
 (.seq (.block 1 (.seq (.ops [ZV 19 17,ZU 20 (.p (.ix 4 1 false (.t 16) (.t 17))),ZV 3 19,ZV 4 20])
 (.seq (.seq (.ops [Z2 21 0 133 1,Z2 22 129 1 21,ZZ 23 false 1 22,ZV 24 3,Z4 25 .shr 23 24,Z5 26 .and 25 1,Z5 27 .eql 26 0])
 (.cond (.t 27)
 (.exit 1)
 .skip))
 (.seq (.ops [ZV 28 3,Z5 29 .quo 28 2,ZV 5 29])
 (.seq (.ops [ZZ 30 true 133 1,ZV 31 5,ZV 32 4,ZU 33 (Zh 150 [(.t 30),(ZR 4),(.t 31),(.t 32)]),ZU 34 (.p (.un .not (.t 33))),ZV 35 34,Z0 36 35 false true 133 1,ZW 37 35 false 5,ZW 38 35 false 4,Z7 39 35 false .quo 38 8,Z7 40 35 false .mul 39 8,Z7 41 35 false .add 40 4,ZT 42 35 false (Zh 150 [(.t 36),(ZR 6),(.t 37),(.t 41)]),ZT 43 35 false (.p (.un .not (.t 42))),Z9 44 35 43])
 (.cond (.t 44)
 (.seq (.ops [ZY 2 false])
 .ret)
 .skip))))))
 (.ops [Z5 45 .add 17 1,ZV 17 45])))))))
 (.seq (.ops [ZY 2 true])
 .ret))))⟩
def a124:AF:=⟨55,[.tmp 2],
 (.seq (.ops [ZU 1 (.h (.box (.t 0))),ZY 2 false])
 (.seq (.seq (.ops [Z2 6 0 133 1,Z2 7 130 1 6,ZZ 8 false 1 7,Z5 9 .eql 8 (-1)])
 (.cond (.t 9)
 (.seq (.ops [ZY 2 true])
 .ret)
 .skip))
 (.seq (.ops [ZX 3 5,ZX 4 1])
 (.seq (.seq (.ops [Z2 10 0 133 1,Z2 11 128 1 10,ZZ 12 false 1 11,Z5 13 .eql 12 1])
 (.cond (.t 13)
 (.ops [ZX 3 2,ZX 4 (-1)])
 .skip))
 (.seq (.seq (.ops [Z2 14 0 133 1,Z2 15 130 1 14,ZZ 16 false 1 15,ZU 17 (Zh 84 [(.t 16)]),ZV 18 3,Z4 19 .neq 17 18,ZV 20 19,Z3 21 20 false 0 133 1,Z3 22 20 false 131 1 21,Z0 23 20 false false 1 22,Z7 24 20 false .neq 23 0,Z9 25 20 24])
 (.cond (.t 25)
 (.seq (.ops [ZY 2 false])
 .ret)
 .skip))
 (.seq (.ops [ZU 26 (.p (.mkfn 151 [(.t 1)])),ZV 5 26])
 (.seq (.par [ZV 27 5,Z2 28 0 133 1,Z2 29 130 1 28,ZZ 30 false 1 29,ZU 31 (.h (.call (.t 27) [(.t 30)])),ZV 32 31,ZW 33 32 true 5,Z3 34 32 true 0 133 1,Z3 35 32 true 130 1 34,Z0 36 32 true false 1 35,ZW 37 32 true 4,ZT 38 32 true (Zh 152 [(.t 36),(ZR 0),(.t 37)]),ZT 39 32 true (.h (.call (.t 33) [(.t 38)])),Z8 40 32 39,ZV 41 40,Z0 42 41 true true 133 1,Z3 43 41 true 0 133 1,Z3 44 41 true 128 1 43,Z0 45 41 true false 1 44,ZT 46 41 true (Zi 53 [(.t 45)]),Z3 47 41 true 0 133 1,Z3 48 41 true 130 1 47,Z0 49 41 true false 1 48,ZW 50 41 true 4,ZT 51 41 true (.p (.un .neg (.t 50))),ZT 52 41 true (Zi 152 [(.t 49),(ZR 0),(.t 51)]),ZT 53 41 true (Zh 150 [(.t 42),(ZR 1),(.t 46),(.t 52)]),Z8 54 41 53,ZV 2 54])
 .ret)))))))⟩
def a125:AF:=⟨4,[.tmp 2],
 (.seq (.ops [ZU 1 (.h (.box (.t 0))),ZU 2 (.p (.mv (.k .fnil)))])
 (.seq (.ops [ZU 3 (.p (.mkfn 153 [(.t 1)])),ZV 2 3])
 .ret))⟩
def a126:AF:=⟨49,[.tmp 4],
 (.seq (.ops [ZU 2 (.h (.box (.t 0))),ZU 4 (.p (.mv (.k .snil)))])
 (.seq (.seq (.ops [ZV 8 1,ZU 9 (.p (.len (.t 8))),ZX 10 0])
 (.block 0 (.loop (.seq (.ops [Z4 11 .lss 10 9])
 (.seq (.cond (.t 11)
 .skip
 (.exit 0))
 (.seq (.block 1 (.seq (.ops [ZU 12 (.p (.ixs 1 (.t 8) (.t 10))),ZZ 13 false 1 12,ZV 6 13])
 (.seq (.seq (.par [Z2 14 134 2 2,Z2 15 0 1 14,ZZ 16 false 1 15,Z5 17 .neq 16 1,ZV 18 17,ZW 19 18 false 6,ZT 20 18 false (Zi 84 [(.t 19)]),Z3 21 18 false 134 2 2,Z3 22 18 false 1 1 21,Z0 23 18 false false 1 22,ZT 24 18 false (.p (.bin .sub (ZR 1) (.t 23))),ZT 25 18 false (.p (.bin .mul (ZR 7) (.t 24))),Z6 26 18 false .neq 20 25,Z9 27 18 26])
 (.cond (.t 27)
 (.seq (.ops [ZV 28 4,Z2 29 133 1 2,ZZ 30 false 1 29,ZV 31 6,ZU 32 (.p (.build (.ints 3) [(0,1,(.t 30)),(1,1,(.t 31))])),ZU 33 (.h (.mksl 1 3 (.ints 3) [(0,(.t 32))])),ZU 34 (.h (.append 3 24 (.t 28) (.t 33))),ZV 4 34])
 (.exit 1))
 .skip))
 (.seq (.ops [ZX 7 2])
 (.block 2 (.loop (.seq (.seq (.ops [ZV 35 7,Z5 36 .leq 35 5])
 (.cond (.t 36)
 .skip
 (.exit 2)))
 (.seq (.block 3 (.ops [ZV 39 4,Z2 40 133 1 2,ZZ 41 false 1 40,ZV 42 6,ZV 43 7,ZU 44 (.p (.build (.ints 3) [(0,1,(.t 41)),(1,1,(.t 42)),(2,1,(.t 43))])),ZU 45 (.h (.mksl 1 3 (.ints 3) [(0,(.t 44))])),ZU 46 (.h (.append 3 24 (.t 39) (.t 45))),ZV 4 46]))
 (.ops [ZV 37 7,Z5 38 .add 37 1,ZV 7 38])))))))))
 (.ops [Z5 47 .add 10 1,ZV 10 47])))))))
 (.seq (.ops [ZV 48 4,ZV 4 48])
 .ret)))⟩
def a127:AF:=⟨21,[.tmp 2],
 (.seq (.ops [ZU 1 (.h (.box (.t 0))),ZU 2 (.p (.mv (.k .snil)))])
 (.seq (.seq (.ops [Z2 4 134 2 1,Z2 5 0 1 4,ZZ 6 false 1 5,Z5 7 .eql 6 1])
 (.cond (.t 7)
 (.seq (.ops [ZZ 8 true 136 1,ZU 9 (Zh 154 [(.t 8)]),ZV 2 9])
 .ret)
 .skip))
 (.seq (.ops [ZU 10 (.p (.mkfn 155 [(.t 1)])),ZV 3 10])
 (.seq (.parc [[0,1,2,3,4,5,6,7,8,9,10],[0,1,2,3,4,5,7,6,8,9,10],[0,1,2,3,4,7,5,6,8,9,10],[0,1,2,3,5,4,6,7,8,9,10],[0,1,2,3,5,4,7,6,8,9,10],[0,1,2,3,5,7,4,6,8,9,10],[0,1,2,3,7,4,5,6,8,9,10],[0,1,2,3,7,5,4,6,8,9,10],[0,1,2,5,3,4,6,7,8,9,10],[0,1,2,5,3,4,7,6,8,9,10],[0,1,2,5,3,7,4,6,8,9,10],[0,1,2,5,7,3,4,6,8,9,10],[0,1,2,7,3,4,5,6,8,9,10],[0,1,2,7,3,5,4,6,8,9,10],[0,1,2,7,5,3,4,6,8,9,10],[0,1,5,2,3,4,6,7,8,9,10],[0,1,5,2,3,4,7,6,8,9,10],[0,1,5,2,3,7,4,6,8,9,10],[0,1,5,2,7,3,4,6,8,9,10],[0,1,5,7,2,3,4,6,8,9,10],[0,1,7,2,3,4,5,6,8,9,10],[0,1,7,2,3,5,4,6,8,9,10],[0,1,7,2,5,3,4,6,8,9,10],[0,1,7,5,2,3,4,6,8,9,10],[0,2,1,3,4,5,6,7,8,9,10],[0,2,1,3,4,5,7,6,8,9,10],[0,2,1,3,4,7,5,6,8,9,10],[0,2,1,3,5,4,6,7,8,9,10],[0,2,1,3,5,4,7,6,8,9,10],[0,2,1,3,5,7,4,6,8,9,10],[0,2,1,3,7,4,5,6,8,9,10],[0,2,1,3,7,5,4,6,8,9,10],[0,2,1,5,3,4,6,7,8,9,10],[0,2,1,5,3,4,7,6,8,9,10],[0,2,1,5,3,7,4,6,8,9,10],[0,2,1,5,7,3,4,6,8,9,10],[0,2,1,7,3,4,5,6,8,9,10],[0,2,1,7,3,5,4,6,8,9,10],[0,2,1,7,5,3,4,6,8,9,10],[0,2,3,1,4,5,6,7,8,9,10],[0,2,3,1,4,5,7,6,8,9,10],[0,2,3,1,4,7,5,6,8,9,10],[0,2,3,1,5,4,6,7,8,9,10],[0,2,3,1,5,4,7,6,8,9,10],[0,2,3,1,5,7,4,6,8,9,10],[0,2,3,1,7,4,5,6,8,9,10],[0,2,3,1,7,5,4,6,8,9,10],[0,2,3,5,1,4,6,7,8,9,10],[0,2,3,5,1,4,7,6,8,9,10],[0,2,3,5,1,7,4,6,8,9,10],[0,2,3,5,7,1,4,6,8,9,10],[0,2,3,7,1,4,5,6,8,9,10],[0,2,3,7,1,5,4,6,8,9,10],[0,2,3,7,5,1,4,6,8,9,10],[0,2,5,1,3,4,6,7,8,9,10],[0,2,5,1,3,4,7,6,8,9,10],[0,2,5,1,3,7,4,6,8,9,10],[0,2,5,1,7,3,4,6,8,9,10],[0,2,5,3,1,4,6,7,8,9,10],[0,2,5,3,1,4,7,6,8,9,10],[0,2,5,3,1,7,4,6,8,9,10],[0,2,5,3,7,1,4,6,8,9,10],[0,2,5,7,1,3,4,6,8,9,10],[0,2,5,7,3,1,4,6,8,9,10],[0,2,7,1,3,4,5,6,8,9,10],[0,2,7,1,3,5,4,6,8,9,10],[0,2,7,1,5,3,4,6,8,9,10],[0,2,7,3,1,4,5,6,8,9,10],[0,2,7,3,1,5,4,6,8,9,10],[0,2,7,3,5,1,4,6,8,9,10],[0,2,7,5,1,3,4,6,8,9,10],[0,2,7,5,3,1,4,6,8,9,10],[0,5,1,2,3,4,6,7,8,9,10],[0,5,1,2,3,4,7,6,8,9,10],[0,5,1,2,3,7,4,6,8,9,10],[0,5,1,2,7,3,4,6,8,9,10],[0,5,1,7,2,3,4,6,8,9,10],[0,5,2,1,3,4,6,7,8,9,10],[0,5,2,1,3,4,7,6,8,9,10],[0,5,2,1,3,7,4,6,8,9,10],[0,5,2,1,7,3,4,6,8,9,10],[0,5,2,3,1,4,6,7,8,9,10],[0,5,2,3,1,4,7,6,8,9,10],[0,5,2,3,1,7,4,6,8,9,10],[0,5,2,3,7,1,4,6,8,9,10],[0,5,2,7,1,3,4,6,8,9,10],[0,5,2,7,3,1,4,6,8,9,10],[0,5,7,1,2,3,4,6,8,9,10],[0,5,7,2,1,3,4,6,8,9,10],[0,5,7,2,3,1,4,6,8,9,10],[0,7,1,2,3,4,5,6,8,9,10],[0,7,1,2,3,5,4,6,8,9,10],[0,7,1,2,5,3,4,6,8,9,10],[0,7,1,5,2,3,4,6,8,9,10],[0,7,2,1,3,4,5,6,8,9,10],[0,7,2,1,3,5,4,6,8,9,10],[0,7,2,1,5,3,4,6,8,9,10],[0,7,2,3,1,4,5,6,8,9,10],[0,7,2,3,1,5,4,6,8,9,10],[0,7,2,3,5,1,4,6,8,9,10],[0,7,2,5,1,3,4,6,8,9,10],[0,7,2,5,3,1,4,6,8,9,10],[0,7,5,1,2,3,4,6,8,9,10],[0,7,5,2,1,3,4,6,8,9,10],[0,7,5,2,3,1,4,6,8,9,10],[2,0,1,3,4,5,6,7,8,9,10],[2,0,1,3,4,5,7,6,8,9,10],[2,0,1,3,4,7,5,6,8,9,10],[2,0,1,3,5,4,6,7,8,9,10],[2,0,1,3,5,4,7,6,8,9,10],[2,0,1,3,5,7,4,6,8,9,10],[2,0,1,3,7,4,5,6,8,9,10],[2,0,1,3,7,5,4,6,8,9,10],[2,0,1,5,3,4,6,7,8,9,10],[2,0,1,5,3,4,7,6,8,9,10],[2,0,1,5,3,7,4,6,8,9,10],[2,0,1,5,7,3,4,6,8,9,10],[2,0,1,7,3,4,5,6,8,9,10],[2,0,1,7,3,5,4,6,8,9,10],[2,0,1,7,5,3,4,6,8,9,10],[2,0,3,1,4,5,6,7,8,9,10],[2,0,3,1,4,5,7,6,8,9,10],[2,0,3,1,4,7,5,6,8,9,10],[2,0,3,1,5,4,6,7,8,9,10],[2,0,3,1,5,4,7,6,8,9,10],[2,0,3,1,5,7,4,6,8,9,10],[2,0,3,1,7,4,5,6,8,9,10],[2,0,3,1,7,5,4,6,8,9,10],[2,0,3,5,1,4,6,7,8,9,10],[2,0,3,5,1,4,7,6,8,9,10],[2,0,3,5,1,7,4,6,8,9,10],[2,0,3,5,7,1,4,6,8,9,10],[2,0,3,7,1,4,5,6,8,9,10],[2,0,3,7,1,5,4,6,8,9,10],[2,0,3,7,5,1,4,6,8,9,10],[2,0,5,1,3,4,6,7,8,9,10],[2,0,5,1,3,4,7,6,8,9,10],[2,0,5,1,3,7,4,6,8,9,10],[2,0,5,1,7,3,4,6,8,9,10],[2,0,5,3,1,4,6,7,8,9,10],[2,0,5,3,1,4,7,6,8,9,10],[2,0,5,3,1,7,4,6,8,9,10],[2,0,5,3,7,1,4,6,8,9,10],[2,0,5,7,1,3,4,6,8,9,10],[2,0,5,7,3,1,4,6,8,9,10],[2,0,7,1,3,4,5,6,8,9,10],[2,0,7,1,3,5,4,6,8,9,10],[2,0,7,1,5,3,4,6,8,9,10],[2,0,7,3,1,4,5,6,8,9,10],[2,0,7,3,1,5,4,6,8,9,10],[2,0,7,3,5,1,4,6,8,9,10],[2,0,7,5,1,3,4,6,8,9,10],[2,0,7,5,3,1,4,6,8,9,10],[2,3,0,1,4,5,6,7,8,9,10],[2,3,0,1,4,5,7,6,8,9,10],[2,3,0,1,4,7,5,6,8,9,10],[2,3,0,1,5,4,6,7,8,9,10],[2,3,0,1,5,4,7,6,8,9,10],[2,3,0,1,5,7,4,6,8,9,10],[2,3,0,1,7,4,5,6,8,9,10],[2,3,0,1,7,5,4,6,8,9,10],[2,3,0,5,1,4,6,7,8,9,10],[2,3,0,5,1,4,7,6,8,9,10],[2,3,0,5,1,7,4,6,8,9,10],[2,3,0,5,7,1,4,6,8,9,10],[2,3,0,7,1,4,5,6,8,9,10],[2,3,0,7,1,5,4,6,8,9,10],[2,3,0,7,5,1,4,6,8,9,10],[2,3,5,0,1,4,6,7,8,9,10],[2,3,5,0,1,4,7,6,8,9,10],[2,3,5,0,1,7,4,6,8,9,10],[2,3,5,0,7,1,4,6,8,9,10],[2,3,5,7,0,1,4,6,8,9,10],[2,3,7,0,1,4,5,6,8,9,10],[2,3,7,0,1,5,4,6,8,9,10],[2,3,7,0,5,1,4,6,8,9,10],[2,3,7,5,0,1,4,6,8,9,10],[2,5,0,1,3,4,6,7,8,9,10],[2,5,0,1,3,4,7,6,8,9,10],[2,5,0,1,3,7,4,6,8,9,10],[2,5,0,1,7,3,4,6,8,9,10],[2,5,0,3,1,4,6,7,8,9,10],[2,5,0,3,1,4,7,6,8,9,10],[2,5,0,3,1,7,4,6,8,9,10],[2,5,0,3,7,1,4,6,8,9,10],[2,5,0,7,1,3,4,6,8,9,10],[2,5,0,7,3,1,4,6,8,9,10],[2,5,3,0,1,4,6,7,8,9,10],[2,5,3,0,1,4,7,6,8,9,10],[2,5,3,0,1,7,4,6,8,9,10],[2,5,3,0,7,1,4,6,8,9,10],[2,5,3,7,0,1,4,6,8,9,10],[2,5,7,0,1,3,4,6,8,9,10],[2,5,7,0,3,1,4,6,8,9,10],[2,5,7,3,0,1,4,6,8,9,10],[2,7,0,1,3,4,5,6,8,9,10],[2,7,0,1,3,5,4,6,8,9,10],[2,7,0,1,5,3,4,6,8,9,10],[2,7,0,3,1,4,5,6,8,9,10],[2,7,0,3,1,5,4,6,8,9,10],[2,7,0,3,5,1,4,6,8,9,10],[2,7,0,5,1,3,4,6,8,9,10],[2,7,0,5,3,1,4,6,8,9,10],[2,7,3,0,1,4,5,6,8,9,10],[2,7,3,0,1,5,4,6,8,9,10],[2,7,3,0,5,1,4,6,8,9,10],[2,7,3,5,0,1,4,6,8,9,10],[2,7,5,0,1,3,4,6,8,9,10],[2,7,5,0,3,1,4,6,8,9,10],[2,7,5,3,0,1,4,6,8,9,10],[5,0,1,2,3,4,6,7,8,9,10],[5,0,1,2,3,4,7,6,8,9,10],[5,0,1,2,3,7,4,6,8,9,10],[5,0,1,2,7,3,4,6,8,9,10],[5,0,1,7,2,3,4,6,8,9,10],[5,0,2,1,3,4,6,7,8,9,10],[5,0,2,1,3,4,7,6,8,9,10],[5,0,2,1,3,7,4,6,8,9,10],[5,0,2,1,7,3,4,6,8,9,10],[5,0,2,3,1,4,6,7,8,9,10],[5,0,2,3,1,4,7,6,8,9,10],[5,0,2,3,1,7,4,6,8,9,10],[5,0,2,3,7,1,4,6,8,9,10],[5,0,2,7,1,3,4,6,8,9,10],[5,0,2,7,3,1,4,6,8,9,10],[5,0,7,1,2,3,4,6,8,9,10],[5,0,7,2,1,3,4,6,8,9,10],[5,0,7,2,3,1,4,6,8,9,10],[5,2,0,1,3,4,6,7,8,9,10],[5,2,0,1,3,4,7,6,8,9,10],[5,2,0,1,3,7,4,6,8,9,10],[5,2,0,1,7,3,4,6,8,9,10],[5,2,0,3,1,4,6,7,8,9,10],[5,2,0,3,1,4,7,6,8,9,10],[5,2,0,3,1,7,4,6,8,9,10],[5,2,0,3,7,1,4,6,8,9,10],[5,2,0,7,1,3,4,6,8,9,10],[5,2,0,7,3,1,4,6,8,9,10],[5,2,3,0,1,4,6,7,8,9,10],[5,2,3,0,1,4,7,6,8,9,10],[5,2,3,0,1,7,4,6,8,9,10],[5,2,3,0,7,1,4,6,8,9,10],[5,2,3,7,0,1,4,6,8,9,10],[5,2,7,0,1,3,4,6,8,9,10],[5,2,7,0,3,1,4,6,8,9,10],[5,2,7,3,0,1,4,6,8,9,10],[5,7,0,1,2,3,4,6,8,9,10],[5,7,0,2,1,3,4,6,8,9,10],[5,7,0,2,3,1,4,6,8,9,10],[5,7,2,0,1,3,4,6,8,9,10],[5,7,2,0,3,1,4,6,8,9,10],[5,7,2,3,0,1,4,6,8,9,10],[7,0,1,2,3,4,5,6,8,9,10],[7,0,1,2,3,5,4,6,8,9,10],[7,0,1,2,5,3,4,6,8,9,10],[7,0,1,5,2,3,4,6,8,9,10],[7,0,2,1,3,4,5,6,8,9,10],[7,0,2,1,3,5,4,6,8,9,10],[7,0,2,1,5,3,4,6,8,9,10],[7,0,2,3,1,4,5,6,8,9,10],[7,0,2,3,1,5,4,6,8,9,10],[7,0,2,3,5,1,4,6,8,9,10],[7,0,2,5,1,3,4,6,8,9,10],[7,0,2,5,3,1,4,6,8,9,10],[7,0,5,1,2,3,4,6,8,9,10],[7,0,5,2,1,3,4,6,8,9,10],[7,0,5,2,3,1,4,6,8,9,10],[7,2,0,1,3,4,5,6,8,9,10],[7,2,0,1,3,5,4,6,8,9,10],[7,2,0,1,5,3,4,6,8,9,10],[7,2,0,3,1,4,5,6,8,9,10],[7,2,0,3,1,5,4,6,8,9,10],[7,2,0,3,5,1,4,6,8,9,10],[7,2,0,5,1,3,4,6,8,9,10],[7,2,0,5,3,1,4,6,8,9,10],[7,2,3,0,1,4,5,6,8,9,10],[7,2,3,0,1,5,4,6,8,9,10],[7,2,3,0,5,1,4,6,8,9,10],[7,2,3,5,0,1,4,6,8,9,10],[7,2,5,0,1,3,4,6,8,9,10],[7,2,5,0,3,1,4,6,8,9,10],[7,2,5,3,0,1,4,6,8,9,10],[7,5,0,1,2,3,4,6,8,9,10],[7,5,0,2,1,3,4,6,8,9,10],[7,5,0,2,3,1,4,6,8,9,10],[7,5,2,0,1,3,4,6,8,9,10],[7,5,2,0,3,1,4,6,8,9,10],[7,5,2,3,0,1,4,6,8,9,10]] [Z2 11 0 133 1,
 ZZ 12 true 133 11,Z2 13 133 1 1,ZZ 14 false 1 13,ZU 15 (Zh 157 [(.t 12),(.t 14)]),ZV 16 3,ZU 17 (Zh 156 [(.t 15),(.t 16)]),ZZ 18 true 136 1,ZU 19 (Zh 158 [(.t 18)]),ZU 20 (.h (.append 1 8 (.t 17) (.t 19))),ZV 2 20])
 .ret))))⟩
def a134:AF:=⟨13,[.tmp 2],
 (.seq (.ops [ZU 1 (.h (.box (.t 0))),ZY 2 false])
 (.seq (.ops [Z2 3 0 1 1,ZZ 4 false 1 3,ZU 5 (.p (.conv .u64 (.t 4))),ZU 6 (.p (.bin .lss (.t 5) (.k (.s (.int .u64 8))))),ZV 7 6,Z3 8 7 true 1 1 1,Z0 9 7 true false 1 8,ZT 10 7 true (.p (.conv .u64 (.t 9))),ZT 11 7 true (.p (.bin .lss (.t 10) (.k (.s (.int .u64 8))))),Z8 12 7 11,ZV 2 12])
 .ret))⟩
def a136:AF:=⟨19,[.tmp 4],
 (.seq (.ops [ZX 4 0])
 (.seq (.seq (.ops [ZV 6 0,ZU 7 (.p (.len (.t 6))),ZX 8 0])
 (.block 0 (.loop (.seq (.ops [Z4 9 .lss 8 7])
 (.seq (.cond (.t 9)
 .skip
 (.exit 0))
 (.seq (.block 1 (.seq (.ops [ZV 10 8,ZV 5 10])
 (.seq (.ops [ZV 11 1,ZV 12 0,ZV 13 5,ZU 14 (.p (.ixs 1 (.t 12) (.t 13))),ZZ 15 false 1 14,Z4 16 .eql 11 15])
 (.cond (.t 16)
 (.seq (.ops [ZV 17 5,ZV 4 17])
 .ret)
 .skip))))
 (.ops [Z5 18 .add 8 1,ZV 8 18])))))))
 (.seq (.ops [ZX 4 (-1)])
 .ret)))⟩
def a137:AF:=⟨6,[.cell 0 true 8],
 (.seq (.ops [ZU 0 (.h (.alloc (.ints 8)))])
 (.seq (.ops [ZU 1 (.p (.build (.ints 2) [(0,1,(ZR 1)),(1,1,(ZR 0))])),ZU 2 (.p (.build (.ints 2) [(0,1,(ZR (-1))),(1,1,(ZR 0))])),ZU 3 (.p (.build (.ints 2) [(0,1,(ZR 0)),(1,1,(ZR 1))])),ZU 4 (.p (.build (.ints 2) [(0,1,(ZR 0)),(1,1,(ZR (-1)))])),ZU 5 (.p (.build (.ints 8) [(0,2,(.t 1)),(2,2,(.t 2)),(4,2,(.t 3)),(6,2,(.t 4))])),Z1 8 0 5])
 .ret))⟩
def a138:AF:=⟨6,[.cell 0 true 8],
 (.seq (.ops [ZU 0 (.h (.alloc (.ints 8)))])
 (.seq (.ops [ZU 1 (.p (.build (.ints 2) [(0,1,(ZR 1)),(1,1,(ZR 1))])),ZU 2 (.p (.build (.ints 2) [(0,1,(ZR 1)),(1,1,(ZR (-1)))])),ZU 3 (.p (.build (.ints 2) [(0,1,(ZR (-1))),(1,1,(ZR 1))])),ZU 4 (.p (.build (.ints 2) [(0,1,(ZR (-1))),(1,1,(ZR (-1)))])),ZU 5 (.p (.build (.ints 8) [(0,2,(.t 1)),(2,2,(.t 2)),(4,2,(.t 3)),(6,2,(.t 4))])),Z1 8 0 5])
 .ret))⟩
def a139:AF:=⟨28,[.tmp 4],
 (.seq (.ops [ZU 4 (.p (.mv (.k .snil)))])
 (.seq (.seq (.ops [ZV 8 1,ZU 9 (.p (.len (.t 8))),ZX 10 0])
 (.block 0 (.loop (.seq (.ops [Z4 11 .lss 10 9])
 (.seq (.cond (.t 11)
 .skip
 (.exit 0))
 (.seq (.block 1 (.seq (.ops [ZU 12 (.p (.ixs 2 (.t 8) (.t 10))),ZZ 13 true 2 12,ZU 6 (.h (.alloc (.ints 2))),Z1 2 6 13])
 (.seq (.ops [ZV 14 0,ZU 15 (.p (.ixa 2 1 (.t 6) (ZR 0))),ZZ 16 false 1 15,ZU 17 (.p (.ixa 2 1 (.t 6) (ZR 1))),ZZ 18 false 1 17,ZU 19 (Zh 152 [(.t 14),(.t 16),(.t 18)]),ZV 7 19])
 (.seq (.ops [ZV 20 7,Z5 21 .neq 20 (-1)])
 (.cond (.t 21)
 (.ops [ZV 22 4,ZV 23 7,ZU 24 (.h (.mksl 1 1 (.one (.s (.int .i64 0))) [(0,(.t 23))])),ZU 25 (.h (.append 1 8 (.t 22) (.t 24))),ZV 4 25])
 .skip)))))
 (.ops [Z5 26 .add 10 1,ZV 10 26])))))))
 (.seq (.ops [ZV 27 4,ZV 4 27])
 .ret)))⟩
def a140:AF:=⟨10,[.cell 0 true 16],
 (.seq (.ops [ZU 0 (.h (.alloc (.ints 16)))])
 (.seq (.ops [ZU 1 (.p (.build (.ints 2) [(0,1,(ZR 1)),(1,1,(ZR 2))])),ZU 2 (.p (.build (.ints 2) [(0,1,(ZR 2)),(1,1,(ZR 1))])),ZU 3 (.p (.build (.ints 2) [(0,1,(ZR 2)),(1,1,(ZR (-1)))])),ZU 4 (.p (.build (.ints 2) [(0,1,(ZR 1)),(1,1,(ZR (-2)))])),ZU 5 (.p (.build (.ints 2) [(0,1,(ZR (-1))),(1,1,(ZR (-2)))])),ZU 6 (.p (.build (.ints 2) [(0,1,(ZR (-2))),(1,1,(ZR (-1)))])),ZU 7 (.p (.build (.ints 2) [(0,1,(ZR (-2))),(1,1,(ZR 1))])),ZU 8 (.p (.build (.ints 2) [(0,1,(ZR (-1))),(1,1,(ZR 2))])),ZU 9 (.p (.build (.ints 16) [(0,2,(.t 1)),(2,2,(.t 2)),(4,2,(.t 3)),(6,2,(.t 4)),(8,2,(.t 5)),(10,2,(.t 6)),(12,2,(.t 7)),(14,2,(.t 8))])),Z1 16 0 9])
 .ret))⟩
set_option maxRecDepth 100000
def a141:AF:=⟨36,[.tmp 2],
 (.seq (.ops [ZU 2 (.p (.mv (.k .snil)))])
 (.seq (.ops [ZX 3 0])
 (.seq (.seq (.ops [ZV 9 0,ZU 10 (.p (.len (.t 9))),ZX 11 0])
 (.block 0 (.loop (.seq (.ops [Z4 12 .lss 11 10])
 (.seq (.cond (.t 12)
 .skip
 (.exit 0))
 (.seq (.block 1 (.seq (.ops [ZU 13 (.p (.ixs 1 (.t 9) (.t 11))),ZZ 14 false 1 13,ZV 5 14])
 (.seq (.ops [ZV 15 3,ZV 16 5,ZU 17 (.p (.len (.t 16))),Z4 18 .add 15 17,ZV 3 18])
 (.seq (.ops [ZV 19 3,Z5 20 .lss 19 0])
 (.cond (.t 20)
 (.ops [⟨some 21,none,.p (.mkif 9 (.k (.s (.str ⟨#[108,101,110,32,111,117,116,32,111,102,32,114,97,110,103,101]⟩))))⟩,
 ⟨none,none,.h (.pnc (.t 21))⟩])
 .skip)))))
 (.ops [Z5 22 .add 11 1,ZV 11 22])))))))
 (.seq (.ops [ZV 23 3,ZU 24 (Zh 167 [(.k .snil),(.t 23)]),ZV 6 24])
 (.seq (.seq (.ops [ZV 25 0,ZU 26 (.p (.len (.t 25))),ZX 27 0])
 (.block 2 (.loop (.seq (.ops [Z4 28 .lss 27 26])
 (.seq (.cond (.t 28)
 .skip
 (.exit 2))
 (.seq (.block 3 (.seq (.ops [ZU 29 (.p (.ixs 1 (.t 25) (.t 27))),ZZ 30 false 1 29,ZV 8 30])
 (.ops [ZV 31 6,ZV 32 8,ZU 33 (.h (.append 2 16 (.t 31) (.t 32))),ZV 6 33])))
 (.ops [Z5 34 .add 27 1,ZV 27 34])))))))
 (.seq (.ops [ZV 35 6,ZV 2 35])
 .ret))))))⟩
def a142:AF:=⟨42,[.tmp 6],
 (.seq (.ops [ZU 3 (.h (.box (.t 0))),ZU 6 (.p (.mv (.k .snil)))])
 (.seq (.seq (.ops [ZV 11 2,ZU 12 (.p (.len (.t 11))),ZX 13 0])
 (.block 0 (.loop (.seq (.ops [Z4 14 .lss 13 12])
 (.seq (.cond (.t 14)
 .skip
 (.exit 0))
 (.seq (.block 1 (.seq (.ops [ZU 15 (.p (.ixs 2 (.t 11) (.t 13))),ZZ 16 true 2 15,ZU 8 (.h (.alloc (.ints 2))),Z1 2 8 16])
 (.seq (.ops [ZV 17 1,ZU 18 (.p (.ixa 2 1 (.t 8) (ZR 0))),ZZ 19 false 1 18,ZU 20 (.p (.ixa 2 1 (.t 8) (ZR 1))),ZZ 21 false 1 20,ZU 22 (Zh 168 [(.t 17),(.t 19),(.t 21)]),ZU 23 (.p (.len (.t 22))),ZX 24 0])
 (.block 2 (.loop (.seq (.ops [Z4 25 .lss 24 23])
 (.seq (.cond (.t 25)
 .skip
 (.exit 2))
 (.seq (.block 3 (.seq (.ops [ZU 26 (.p (.ixs 1 (.t 22) (.t 24))),ZZ 27 false 1 26,ZV 10 27])
 (.seq (.ops [ZV 28 6,ZV 29 10,ZU 30 (.h (.mksl 1 1 (.one (.s (.int .i64 0))) [(0,(.t 29))])),ZU 31 (.h (.append 1 8 (.t 28) (.t 30))),ZV 6 31])
 (.seq (.ops [ZV 32 10,Z2 33 0 133 3,Z2 34 0 128 33,ZU 35 (.p (.ixa 64 2 (.t 34) (.t 32))),ZZ 36 true 2 35,ZU 37 (.p (.build (.ints 2) [])),ZU 38 (.p (.eqa true 2 (.t 36) (.t 37)))])
 (.cond (.t 38)
 (.exit 2)
 .skip)))))
 (.ops [Z5 39 .add 24 1,ZV 24 39])))))))))
 (.ops [Z5 40 .add 13 1,ZV 13 40])))))))
 (.seq (.ops [ZV 41 6,ZV 6 41])
 .ret)))⟩
def a149:AF:=⟨21,[.tmp 2],
 (.seq (.ops [ZU 1 (.h (.box (.t 0))),ZY 2 false])
 (.seq (.ops [Z2 3 0 1 1,ZZ 4 false 1 3,Z5 5 .geq 4 1,ZV 6 5,Z3 7 6 true 0 1 1,Z0 8 6 true false 1 7,Z7 9 6 true .leq 8 6,Z8 10 6 9,ZV 11 10,Z3 12 11 true 1 1 1,Z0 13 11 true false 1 12,Z7 14 11 true .eql 13 0,ZW 15 11 true 14,Z3 16 15 false 1 1 1,Z0 17 15 false false 1 16,Z7 18 15 false .eql 17 1,ZT 19 11 true (.p (.pick (.t 15) (ZS true) (.t 18))),Z8 20 11 19,ZV 2 20])
 .ret))⟩
def a150:AF:=⟨18,[.tmp 8],
 (.seq (.ops [ZU 4 (.h (.box (.t 0))),ZY 8 false])
 (.seq (.ops [ZV 9 3,Z2 10 0 133 4,Z2 11 0 128 10,ZU 12 (.p (.ixa 64 2 (.t 11) (.t 9))),ZZ 13 true 2 12,ZV 14 1,ZV 15 2,ZU 16 (.p (.build (.ints 2) [(0,1,(.t 14)),(1,1,(.t 15))])),ZU 17 (.p (.eqa false 2 (.t 13) (.t 16))),ZV 8 17])
 .ret))⟩
def a151:AF:=⟨11,[.tmp 3],
 (.seq (.ops [ZY 3 false])
 (.seq (.ops [ZV 4 0,Z2 5 0 133 1,Z2 6 0 128 5,ZU 7 (.p (.ixa 64 2 (.t 6) (.t 4))),ZZ 8 true 2 7,ZU 9 (.p (.build (.ints 2) [])),ZU 10 (.p (.eqa false 2 (.t 8) (.t 9))),ZV 3 10])
 .ret))⟩
def a152:AF:=⟨13,[.tmp 6],
 (.seq (.ops [ZX 6 0])
 (.seq (.ops [ZV 7 0,ZU 8 (Zh 49 [(.t 7)]),ZV 9 1,ZV 10 2,ZU 11 (Zh 172 [(.t 8),(.t 9),(.t 10)]),ZU 12 (Zh 112 [(.t 11)]),ZV 6 12])
 .ret))⟩
def a153:AF:=⟨48,[],
 (.seq (.ops [Z2 6 0 128 1,ZZ 7 true 128 6,ZX 8 0])
 (.block 0 (.loop (.seq (.ops [Z5 9 .lss 8 64])
 (.seq (.cond (.t 9)
 .skip
 (.exit 0))
 (.seq (.block 1 (.seq (.ops [ZV 10 8,ZU 11 (.p (.ix 64 2 true (.t 7) (.t 8))),ZU 4 (.h (.alloc (.ints 2))),ZV 3 10,Z1 2 4 11])
 (.seq (.ops [Z2 12 0 1 4,ZZ 13 false 1 12,Z5 14 .geq 13 1,ZV 15 14,Z3 16 15 true 0 1 4,Z0 17 15 true false 1 16,Z7 18 15 true .leq 17 6,Z8 19 15 18,ZV 20 19,Z3 21 20 true 1 1 4,Z0 22 20 true false 1 21,Z7 23 20 true .eql 22 0,ZW 24 20 true 23,Z3 25 24 false 1 1 4,Z0 26 24 false false 1 25,Z7 27 24 false .eql 26 1,ZT 28 20 true (.p (.pick (.t 24) (ZS true) (.t 27))),Z8 29 20 28,ZV 5 29])
 (.seq (.ops [ZV 30 5,ZV 31 30,Z3 32 31 true 1 1 4,Z0 33 31 true false 1 32,Z3 34 31 true 128 1 1,Z0 35 31 true false 1 34,Z6 36 31 true .eql 33 35,Z8 37 31 36,ZV 38 37,ZW 39 38 true 0,Z0 40 38 true true 133 1,ZW 41 38 true 3,Z0 42 38 true true 2 4,ZT 43 38 true (.p (.build (.ints 136) [(0,133,(.t 40)),(133,1,(.t 41)),(134,2,(.t 42))])),ZT 44 38 true (.h (.call (.t 39) [(.t 43)])),ZT 45 38 true (.p (.un .not (.t 44))),Z8 46 38 45])
 (.cond (.t 46)
 .ret
 .skip)))))
 (.ops [Z5 47 .add 8 1,ZV 8 47])))))))⟩
def a154:AF:=⟨97,[.tmp 2],
 (.seq (.ops [ZU 1 (.h (.box (.t 0))),ZU 2 (.p (.mv (.k .snil)))])
 (.seq (.ops [Z2 9 134 2 1,Z2 10 1 1 9,ZZ 11 false 1 10,ZU 12 (.p (.bin .mul (ZR 2) (.t 11))),ZU 13 (.p (.bin .sub (ZR 1) (.t 12))),ZV 3 13])
 (.seq (.par [Z2 14 133 1 1,ZZ 15 false 1 14,ZV 16 3,ZU 17 (Zi 152 [(.t 15),(ZR 0),(.t 16)]),Z2 18 133 1 1,ZZ 19 false 1 18,ZV 20 3,ZU 21 (.p (.bin .mul (ZR 2) (.t 20))),ZU 22 (Zh 152 [(.t 19),(ZR 0),(.t 21)]),ZV 4 17,ZV 5 22])
 (.seq (.seq (.ops [ZZ 23 true 136 1,ZV 24 4,ZU 25 (.h (.mksl 1 1 (.one (.s (.int .i64 0))) [(0,(.t 24))])),ZU 26 (Zh 173 [(.t 23),(.t 25)])])
 (.cond (.t 26)
 (.ops [ZV 27 2,ZV 28 4,ZU 29 (.h (.mksl 1 1 (.one (.s (.int .i64 0))) [(0,(.t 28))])),ZU 30 (.h (.append 1 8 (.t 27) (.t 29))),ZV 2 30])
 .skip))
 (.seq (.seq (.par [Z2 31 133 1 1,ZZ 32 false 1 31,ZU 33 (Zi 84 [(.t 32)]),Z2 34 134 2 1,Z2 35 1 1 34,ZZ 36 false 1 35,ZU 37 (.p (.bin .mul (ZR 5) (.t 36))),ZU 38 (.p (.bin .add (ZR 1) (.t 37))),Z4 39 .eql 33 38,ZV 40 39,Z0 41 40 true true 136 1,ZW 42 40 true 4,ZW 43 40 true 5,ZT 44 40 true (.h (.mksl 2 1 (.one (.s (.int .i64 0))) [(0,(.t 42)),(1,(.t 43))])),ZT 45 40 true (Zh 173 [(.t 41),(.t 44)]),Z8 46 40 45])
 (.cond (.t 46)
 (.ops [ZV 47 2,ZV 48 5,ZU 49 (.h (.mksl 1 1 (.one (.s (.int .i64 0))) [(0,(.t 48))])),ZU 50 (.h (.append 1 8 (.t 47) (.t 49))),ZV 2 50])
 .skip))
 (.seq (.seq (.ops [Z2 51 0 133 1,ZZ 52 true 133 51,Z2 53 133 1 1,ZZ 54 false 1 53,ZU 55 (Zh 157 [(.t 52),(.t 54)]),ZU 56 (.p (.len (.t 55))),ZX 57 0])
 (.block 0 (.loop (.seq (.ops [Z4 58 .lss 57 56])
 (.seq (.cond (.t 58)
 .skip
 (.exit 0))
 (.seq (.block 1 (.seq (.ops [ZU 59 (.p (.ixs 1 (.t 55) (.t 57))),ZZ 60 false 1 59,ZV 7 60])
 (.seq (.ops [ZV 61 7,Z2 62 0 133 1,Z2 63 0 128 62,ZU 64 (.p (.ixa 64 2 (.t 63) (.t 61))),ZZ 65 true 2 64,ZU 8 (.h (.alloc (.ints 2))),Z1 2 8 65])
 (.seq (.par [ZZ 66 true 2 8,ZU 67 (.p (.build (.ints 2) [])),ZU 68 (.p (.eqa true 2 (.t 66) (.t 67))),ZV 69 68,Z3 70 69 true 1 1 8,Z0 71 69 true false 1 70,Z3 72 69 true 134 2 1,Z3 73 69 true 1 1 72,Z0 74 69 true false 1 73,ZT 75 69 true (Zi 53 [(.t 74)]),Z6 76 69 true .eql 71 75,Z8 77 69 76,ZV 78 77,Z0 79 78 false true 136 1,ZW 80 78 false 7,ZT 81 78 false (.h (.mksl 1 1 (.one (.s (.int .i64 0))) [(0,(.t 80))])),ZT 82 78 false (Zh 173 [(.t 79),(.t 81)]),ZW 83 78 false 82,ZW 84 83 true 7,Z3 85 83 true 0 133 1,Z3 86 83 true 130 1 85,Z0 87 83 true false 1 86,Z6 88 83 true .eql 84 87,ZT 89 78 false (.p (.pick (.t 83) (.t 88) (ZS false))),Z9 90 78 89])
 (.cond (.t 90)
 (.ops [ZV 91 2,ZV 92 7,ZU 93 (.h (.mksl 1 1 (.one (.s (.int .i64 0))) [(0,(.t 92))])),ZU 94 (.h (.append 1 8 (.t 91) (.t 93))),ZV 2 94])
 .skip)))))
 (.ops [Z5 95 .add 57 1,ZV 57 95])))))))
 (.seq (.ops [ZV 96 2,ZV 2 96])
 .ret)))))))⟩
def a157:AF:=⟨16,[.tmp 4],
 (.seq (.ops [ZU 2 (.h (.box (.t 0))),ZU 4 (.p (.mv (.k .snil)))])
 (.seq (.seq (.ops [ZV 6 1,ZU 7 (Zh 74 [(.t 6)]),ZU 8 (.p (.un .not (.t 7)))])
 (.cond (.t 8)
 (.seq (.ops [ZU 4 (.p (.mv (.k .snil)))])
 .ret)
 .skip))
 (.seq (.ops [ZZ 9 true 133 2,ZU 10 (.p (.build (.ints 133) [(0,133,(.t 9))])),ZV 11 1,ZU 12 (Zh 115 [(.t 10),(.t 11)]),ZV 5 12])
 (.seq (.ops [ZV 13 5,ZU 14 (Zh 175 [(.t 13)])])
 (.seq (.ops [ZV 15 5,ZV 4 15])
 .ret)))))⟩
def a158:AF:=⟨102,[.tmp 2],
 (.seq (.ops [ZU 1 (.h (.box (.t 0))),ZU 2 (.p (.mv (.k .snil)))])
 (.seq (.ops [Z2 6 134 2 1,Z2 7 1 1 6,ZZ 8 false 1 7,ZU 9 (.p (.bin .mul (ZR 56) (.t 8))),Z5 10 .add 9 4,ZV 3 10])
 (.seq (.seq (.ops [Z2 11 134 2 1,Z2 12 0 1 11,ZZ 13 false 1 12,Z5 14 .neq 13 6,ZV 15 14,Z3 16 15 false 133 1 1,Z0 17 15 false false 1 16,ZW 18 15 false 3,Z6 19 15 false .neq 17 18,Z9 20 15 19,ZV 21 20,Z3 22 21 false 0 133 1,Z3 23 21 false 129 1 22,Z0 24 21 false false 1 23,Z7 25 21 false .lss 24 0,Z9 26 21 25,ZV 27 26,Z3 28 27 false 0 133 1,Z3 29 27 false 129 1 28,Z0 30 27 false false 1 29,Z7 31 27 false .gtr 30 15,Z9 32 27 31])
 (.cond (.t 32)
 (.seq (.ops [ZU 2 (.p (.mv (.k .snil)))])
 .ret)
 .skip))
 (.seq (.ops [Z2 33 134 2 1,Z2 34 1 1 33,ZZ 35 false 1 34,ZU 36 (.p (.build (.ints 2) [(0,1,(ZR 4)),(1,1,(.t 35))])),ZU 4 (.h (.alloc (.ints 2))),Z1 2 4 36])
 (.seq (.ops [Z2 37 0 133 1,Z2 38 129 1 37,ZZ 39 false 1 38,Z2 40 134 2 1,Z2 41 1 1 40,ZZ 42 false 1 41,ZU 43 (.p (.bin .mul (ZR 2) (.t 42))),Z4 44 .shr 39 43,ZV 5 44])
 (.seq (.seq (.par [ZV 45 5,Z5 46 .and 45 1,Z5 47 .neq 46 0,ZV 48 47,ZW 49 48 true 3,Z7 50 48 true .add 49 3,Z3 51 48 true 0 133 1,Z3 52 48 true 0 128 51,ZT 53 48 true (.p (.ixa 64 2 (.t 52) (.t 50))),Z0 54 48 true true 2 53,Z0 55 48 true true 2 4,ZT 56 48 true (.p (.eqa false 2 (.t 54) (.t 55))),Z8 57 48 56,ZV 58 57,Z0 59 58 true true 136 1,ZW 60 58 true 3,Z7 61 58 true .add 60 1,ZW 62 58 true 3,Z7 63 58 true .add 62 2,ZT 64 58 true (.h (.mksl 2 1 (.one (.s (.int .i64 0))) [(0,(.t 61)),(1,(.t 63))])),ZT 65 58 true (Zh 173 [(.t 59),(.t 64)]),Z8 66 58 65])
 (.cond (.t 66)
 (.ops [ZV 67 2,ZV 68 3,Z5 69 .add 68 2,ZU 70 (.h (.mksl 1 1 (.one (.s (.int .i64 0))) [(0,(.t 69))])),ZU 71 (.h (.append 1 8 (.t 67) (.t 70))),ZV 2 71])
 .skip))
 (.seq (.seq (.par [ZV 72 5,Z5 73 .and 72 2,Z5 74 .neq 73 0,ZV 75 74,ZW 76 75 true 3,Z7 77 75 true .sub 76 4,Z3 78 75 true 0 133 1,Z3 79 75 true 0 128 78,ZT 80 75 true (.p (.ixa 64 2 (.t 79) (.t 77))),Z0 81 75 true true 2 80,Z0 82 75 true true 2 4,ZT 83 75 true (.p (.eqa false 2 (.t 81) (.t 82))),Z8 84 75 83,ZV 85 84,Z0 86 85 true true 136 1,ZW 87 85 true 3,Z7 88 85 true .sub 87 1,ZW 89 85 true 3,Z7 90 85 true .sub 89 2,ZW 91 85 true 3,Z7 92 85 true .sub 91 3,ZT 93 85 true (.h (.mksl 3 1 (.one (.s (.int .i64 0))) [(0,(.t 88)),(1,(.t 90)),(2,(.t 92))])),ZT 94 85 true (Zh 173 [(.t 86),(.t 93)]),Z8 95 85 94])
 (.cond (.t 95)
 (.ops [ZV 96 2,ZV 97 3,Z5 98 .sub 97 2,ZU 99 (.h (.mksl 1 1 (.one (.s (.int .i64 0))) [(0,(.t 98))])),ZU 100 (.h (.append 1 8 (.t 96) (.t 99))),ZV 2 100])
 .skip))
 (.seq (.ops [ZV 101 2,ZV 2 101])
 .ret))))))))⟩
def a168:AF:=⟨28,[.tmp 6],
 (.seq (.ops [ZU 6 (.p (.mv (.k .snil)))])
 (.seq (.seq (.ops [ZV 7 1,Z5 8 .eql 7 0,ZV 9 8,ZW 10 9 true 2,Z7 11 9 true .eql 10 0,Z8 12 9 11])
 (.cond (.t 12)
 (.seq (.ops [ZU 6 (.p (.mv (.k .snil)))])
 .ret)
 .skip))
 (.seq (.seq (.ops [ZV 13 0,ZV 14 1,ZV 15 2,ZU 16 (Zh 152 [(.t 13),(.t 14),(.t 15)]),ZV 0 16])
 (.block 0 (.loop (.seq (.seq (.ops [ZV 17 0,Z5 18 .neq 17 (-1)])
 (.cond (.t 18)
 .skip
 (.exit 0)))
 (.seq (.block 1 (.ops [ZV 23 6,ZV 24 0,ZU 25 (.h (.mksl 1 1 (.one (.s (.int .i64 0))) [(0,(.t 24))])),ZU 26 (.h (.append 1 8 (.t 23) (.t 25))),ZV 6 26]))
 (.ops [ZV 19 0,ZV 20 1,ZV 21 2,ZU 22 (Zh 152 [(.t 19),(.t 20),(.t 21)]),ZV 0 22]))))))
 (.seq (.ops [ZV 27 6,ZV 6 27])
 .ret))))⟩
def a172:AF:=⟨34,[.cell 6 true 2],
 (.seq (.ops [ZU 3 (.h (.box (.t 0))),ZU 6 (.h (.alloc (.ints 2)))])
 (.seq (.seq (.ops [Z2 7 2 1 3,ZZ 8 false 1 7,ZU 9 (.p (.un .not (.t 8))),ZV 10 9,ZW 11 10 false 1,ZW 12 10 false 2,ZT 13 10 false (.p (.mx [(.t 11),(.t 12)])),Z7 14 10 false .geq 13 8,Z9 15 10 14,ZV 16 15,ZW 17 16 false 1,ZW 18 16 false 2,ZT 19 16 false (.p (.mn [(.t 17),(.t 18)])),Z7 20 16 false .leq 19 (-8),Z9 21 16 20])
 (.cond (.t 21)
 (.seq (.ops [ZU 22 (.p (.build (.ints 2) [(0,1,(ZR (-1))),(1,1,(ZR (-1)))])),Z1 2 6 22])
 .ret)
 .skip))
 (.seq (.ops [Z2 23 0 2 3,Z2 24 0 1 23,ZZ 25 false 1 24,ZV 26 1,Z4 27 .add 25 26,Z2 28 0 2 3,Z2 29 1 1 28,ZZ 30 false 1 29,ZV 31 2,Z4 32 .add 30 31,ZU 33 (.p (.build (.ints 2) [(0,1,(.t 27)),(1,1,(.t 32))])),Z1 2 6 33])
 .ret)))⟩
def a173:AF:=⟨9,[.tmp 4],
 (.seq (.ops [ZU 2 (.h (.box (.t 0))),ZY 4 false])
 (.seq (.ops [ZV 5 1,ZU 6 (.p (.mkfn 190 [(.t 2)])),ZU 7 (Zh 189 [(.t 5),(.t 6)]),ZU 8 (.p (.un .not (.t 7))),ZV 4 8])
 .ret))⟩
def a174:AF:=⟨19,[.tmp 4],
 (.seq (.ops [ZX 4 0])
 (.seq (.seq (.ops [ZV 6 0,ZU 7 (.p (.len (.t 6))),ZX 8 0])
 (.block 0 (.loop (.seq (.ops [Z4 9 .lss 8 7])
 (.seq (.cond (.t 9)
 .skip
 (.exit 0))
 (.seq (.block 1 (.seq (.ops [ZV 10 8,ZV 5 10])
 (.seq (.ops [ZV 11 1,ZV 12 0,ZV 13 5,ZU 14 (.p (.ixs 1 (.t 12) (.t 13))),ZZ 15 false 1 14,ZU 16 (.h (.call (.t 11) [(.t 15)]))])
 (.cond (.t 16)
 (.seq (.ops [ZV 17 5,ZV 4 17])
 .ret)
 .skip))))
 (.ops [Z5 18 .add 8 1,ZV 8 18])))))))
 (.seq (.ops [ZX 4 (-1)])
 .ret)))⟩
def a189:AF:=⟨9,[.tmp 4],
 (.seq (.ops [ZY 4 false])
 (.seq (.ops [ZV 5 0,ZV 6 1,ZU 7 (Zh 174 [(.t 5),(.t 6)]),Z5 8 .geq 7 0,ZV 4 8])
 .ret))⟩
def a190:AF:=⟨16,[.tmp 3],
 (.seq (.ops [ZY 3 false])
 (.seq (.ops [ZV 4 0,ZU 5 (Zh 74 [(.t 4)]),ZU 6 (.p (.un .not (.t 5))),ZV 7 6,ZW 8 7 false 0,Z3 9 7 false 0 133 1,Z3 10 7 false 0 128 9,ZT 11 7 false (.p (.ixa 64 2 (.t 10) (.t 8))),Z0 12 7 false true 2 11,ZT 13 7 false (.p (.build (.ints 2) [])),ZT 14 7 false (.p (.eqa true 2 (.t 12) (.t 13))),Z9 15 7 14,ZV 3 15])
 .ret))⟩
end Go.Proofs.YtlkighkfkdpncaaGreatDoor
