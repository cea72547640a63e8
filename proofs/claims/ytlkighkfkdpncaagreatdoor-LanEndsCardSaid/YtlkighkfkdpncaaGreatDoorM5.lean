/- Texts of this seat,joined. -/
import Derived.Test.YtlkighkfkdpncaaGreatDoorM4
set_option linter.defProp false
set_option linter.unusedSimpArgs false
set_option linter.unusedVariables false
namespace Go.Proofs.YtlkighkfkdpncaaGreatDoor
open Go Go.Am
def xY{P Q:Nat->Int}(h:∀ i,i<133->Q i=P i){s:Int}(hs:0<=s/\s<64):Wk Q s=Wk P s:=by
 unfold Wk;rw[ZcA hs,ZcA hs,zc h hs]
def Uv{P Q:Nat->Int}(h:∀ i,i<133->Q i=P i)(t:Int):Y1 Q t=Y1 P t:=by
 unfold Y1
 cases ht:isM t with
 |false=>rfl
 |true=>
  have:0<=t/\t<64:=by simpa[isM] using ht
  rw[Jz h this]
def qB{P Q:Nat->Int}(h:∀ i,i<133->Q i=P i){t:Int}(ht:0<=t/\t<64):R9 Q t=R9 P t:=by
 have hq:sqI t=0+t.toNat*2:=rfl;exact h _ (by omega)
def q7{P Q:Nat->Int}(h:∀ i,i<133->Q i=P i){c t:Int}(ht:0<=t/\t<64):V3 Q c t=V3 P c t:=by
 have hq:sqI t=0+t.toNat*2:=rfl;unfold V3;rw[h (sqI t) (by omega),h (sqI t+1) (by omega)]
def t7{P Q:Nat->Int}(h:∀ i,i<133->Q i=P i){s c:Int}(hs:0<=s/\s<64):U2 Q s c=U2 P s c:=by
 rw[K8,K8,xY h hs,Uv h,Uv h];refine congrArg _ (K2 fun t ht=>?_);have hb:=QX ht;unfold Wa;rw[Jz h hb,qB h hb,Uv h,h 130 (by omega)]
def wV{P Q:Nat->Int}(h:∀ i,i<133->Q i=P i){s k c:Int}(hc:c=0\/c=1):XR Q s k c=XR P s k c:=by
 unfold XR;rw[h 129 (by omega)];split
 ·rfl
 rename_i hn;have hs:0<=s-4/\s+3<64:=by omega
 rw[Uv h,Uv h,Uv h,Uv h,Uv h,q7 h (t:=s+3) (by omega),q7 h (t:=s-4) (by omega)]
def jE{P Q:Nat->Int}(h:∀ i,i<133->Q i=P i){s k c:Int}(hs:0<=s/\s<64)(hc:c=0\/c=1):XL Q s k c=XL P s k c:=by
 unfold XL;rw[t7 h hs,xY h hs,wV h hc];refine congrArg (fun l=>if k=1 then U2 P s c else l++XR P s k c) (K2 fun t ht=>?_);have hb:=QX ht;unfold U5;rw[Jz h hb,qB h hb]
def EM{P:Nat->Int}{t:Int}(h:Y1 P t=true):0<=t/\t<64:=by
 unfold Y1 isM at h;rw[Zca,Zb7]at h;exact h.1
def y8{p:Prop}[Decidable p]{x y:Int}(h:y∈if p then [x] else []):p/\y=x:=by
 split at h
 ·exact⟨by assumption,by simpa using h⟩
 cases h
def Kw{P:Nat->Int}{s k c t:Int}(h:t∈XL P s k c):0<=t/\t<64:=by
 unfold XL at h;split at h
 ·rw[K8]at h;rcases Zcg.1 h with h|h
  ·rcases Zcg.1 h with h|h
   ·obtain⟨h1,rfl⟩:=y8 h;exact EM h1
   obtain⟨h1,rfl⟩:=y8 h;exact EM h1.2.2
  exact QX ((Zch.1 h).1)
 rcases Zcg.1 h with h|h
 ·exact QX ((Zch.1 h).1)
 unfold XR at h;split at h
 ·cases h
 rcases Zcg.1 h with h|h
 ·obtain⟨h1,rfl⟩:=y8 h;exact EM h1.2.2.2
 obtain⟨h1,rfl⟩:=y8 h;exact EM h1.2.2.2.1
def QD(P:Nat->Int)(s k c:Int):(XL P s k c).length<=66:=by
 unfold XL;have h0:=Jg P s;split
 ·rw[K8,Zb2,Zb2];have h1:=UG (p:=Y1 P (YT s 0 (1-2*c))=true) (YT s 0 (1-2*c));have h2:=UG (p:=Wh s=1+5*c/\Y1 P (YT s 0 (1-2*c))=true/\Y1 P (YT s 0 (2*(1-2*c)))=true) (YT s 0 (2*(1-2*c)));have h3:=ZbU (Wa P c) (Wk P s);omega
 rw[Zb2];have h1:=E0 P s k c;have h2:=ZbU (fun t=>!U5 P c t) (Wk P s);omega
def pd{P D:Nat->Int}{i:Int}(hi:0<=i/\i<64)(h:∀ j,j<133->D j=P j)(h1:D 133=i)(h2:D 134=P (sqI i))(h3:D 135=P (sqI i+1))(hc:P (sqI i+1)=0\/P (sqI i+1)=1):ww D=VT P i:=by
 unfold ww VT;rw[h1,h2,h3,jE h hi hc]
def sD(P:Nat->Int)(i:Int):(VT P i).length<=264:=by
 have h1:=QD P i (P (sqI i)) (P (sqI i+1));have h2:=ky i (P (sqI i)) (P (sqI i+1)) (XL P i (P (sqI i)) (P (sqI i+1)));unfold VT;omega
def Dy{P:Nat->Int}{i:Nat}:UX P (i+1)=UX P i++if Ww P i=true then VT P i else []:=by
 unfold UX Wq;rw[List.range_succ,List.map_append,List.flatMap_append];simp
def T7(P:Nat->Int):∀ i:Nat,(UX P i).length<=i*264
 |0=>Zct _
 |i+1=>by
  have h1:=T7 P i;have h2:(if Ww P i=true then VT P i else []).length<=264:=by
   split
   ·exact sD P i
   exact Zct _
  rw[Dy,Zb2];omega
def zZ(P:Nat->Int){i:Nat}(hi:i<=64):(YV (UX P i)).length<=60000:=by
 have:=T7 P i;rw[YQ];omega
def Uj(P:Nat->Int)(i:Nat):Nat->Int:=ovA (ov (ovA (fun _=>0) 0 133 P) 133 (i:Int)) 134 2 (ovA (fun _=>0) 0 2 (fun j=>P ((i:Int).toNat*2+j)))
def qp(P:Nat->Int)(i:Nat):(∀ j,j<133->ovA (fun _=>0) 0 136 (Uj P i) j=P j)/\ovA (fun _=>0) 0 136 (Uj P i) 133=i/\ovA (fun _=>0) 0 136 (Uj P i) 134=P (sqI i)/\ovA (fun _=>0) 0 136 (Uj P i) 135=P (sqI i+1):=by
 have hq:sqI (i:Int)=0+(i:Int).toNat*2:=rfl;refine⟨fun j hj=>?_,G,?_,?_⟩
 ·rw[X3 (by omega),Nat.sub_zero];unfold Uj;rw[Wb (by omega),XF (by omega),X3 (by omega),Nat.sub_zero]
 ·show P ((i:Int).toNat*2)=_;exact congrArg P (by omega)
 show P ((i:Int).toNat*2+1)=_;exact congrArg P (by omega)
def qt{P:Nat->Int}{i:Nat}(h1:1<=P (sqI i))(h2:P (sqI i)<=6)(h3:P (sqI i+1)=0\/P (sqI i+1)=1)(h4:P (sqI i+1)=P 128):Ww P i=true:=by
 unfold Ww Xm;rw[Zca,Zb7,Zb7];omega
def Rt{P:Nat->Int}{i:Nat}(h:¬ (1<=P (sqI i)/\P (sqI i)<=6/\(P (sqI i+1)=0\/P (sqI i+1)=1)/\P (sqI i+1)=P 128)):Ww P i=false:=by
 unfold Ww Xm;rw[ZbO,ZbJ,ZbJ];omega
def uL{P:Nat->Int}{i:Nat}{D:Nat->Int}(h:Ww P i=true)(hD:ww D=VT P i):YV (UX P i)++YV (ww D)=YV (UX P (i+1)):=by
 rw[Dy,ZcA h,RU,hD]
def TG{P:Nat->Int}{i:Nat}(h:Ww P i=false):YV (UX P (i+1))=YV (UX P i):=by
 rw[Dy,Zcz (by rw[h];decide),Zcf]
def gL(g0 g4 g1:Nat->S)(P:Nat->Int):WR AM 153 [.yv 0,.ptr 3 0 133] [(Jy g0 g4 3 0),.sc .var 133 g1,.vs .var [.snil],.sc .var 133 (ia P)] (fun v _ L=>v=.tup []/\ED L [(Jy g0 g4 3 0),.sc .var 133 g1] [.sc .var 133 (ia P)] (YV (UX P 64))):=by
 refine YL (a:=a153) G G (YI _) (ZQ G) (m:=4) G (Ze (Zy G (Yo G G ZP (Yq G (Yc (Yk (Xo (.refl _) (Xu (fun m f _ L=>∃ (i:Nat) (vO:V) (ownO:HA),(i≤64)∧(m=64-i)∧(∀ p∈ownO,4≤p.1)∧(Rw 3 (YV (UX P i)) vO ownO)∧(f 0=.yv 0)∧(f 1=.ptr 3 0 133)∧(f 7=.agg 128 (ia P))∧(f 8=.s (.int .i64 i))∧(L=(ownO++[(0,(Jy g0 g4 3 0)),(1,.sc .var 133 g1),(2,.vs .var [vO]),(3,.sc .var 133 (ia P))]))) (fun m f nb L hI=>?_) (64) (⟨0,.snil,[],by omega,by omega,(fun p (hp:p∈([]:HA))=>(by cases hp)),Rw.nil rfl,rfl,rfl,rfl,rfl,rfl⟩)))))))));obtain⟨i,vO,ownO,hi,hm,hgO,hrO,k0,k1,k7,k8,rfl⟩:=hI;refine Za 0 k0 (Za 1 k1 (Za 7 k7 (Za 8 k8 (Ze (Zr G (Yc (Ye (Yj G (fun h1=>?_) (fun h1=>?_))))))))) <;> simp only[NM]at h1
 ·refine Yh (Ye (Yk (Ze (Zj G (y7 G G G (by omega) (Yy (Zj G (Yz G G G G .here (Zf (Zy G (Ym (x:=P (sqI i)) G G ZM (show P ((i:Int).toNat*2)=_ from congrArg P (by have hq:sqI (i:Int)=0+(i:Int).toNat*2:=rfl;omega)) (Zr G (Zk G (Ys (t:=15) G (fun h2=>?_) (fun h2=>?_))))))))))))))) <;> simp only[NM]at h2
  ·refine Yb G (Zy G (Yb G (Ym (x:=P (sqI i)) G G ZM (show P ((i:Int).toNat*2)=_ from congrArg P (by have hq:sqI (i:Int)=0+(i:Int).toNat*2:=rfl;omega)) (Yb G (Zr G (Zq G (Zk G (Ys (t:=20) G (fun h3=>?_) (fun h3=>?_))))))))) <;> simp only[NM]at h3
   ·refine Yb G (Zz G (Yb G (Ym (x:=P (sqI i+1)) G G ZM (show P ((i:Int).toNat*2+1)=_ from congrArg P (by have hq:sqI (i:Int)=0+(i:Int).toNat*2:=rfl;omega)) (Yb G (Zr G (Yb G (Zk G (Ys (t:=24) G (fun h4=>?_) (fun h4=>?_))))))))) <;> simp only[NM]at h4
    ·refine ZD G (ZC G (Yb G (Zq G (Zq G (Zk G (Yc (Ye (JJ (KE (l1:=[_,_,_,_,_,_,_,_,_,_,_,_,_,_]) (l2:=[_,_,_]) (Zk G (Zk G (Yb G (Zz G (Yb G (Ym (x:=P (sqI i+1)) G G ZM (show P ((i:Int).toNat*2+1)=_ from congrArg P (by have hq:sqI (i:Int)=0+(i:Int).toNat*2:=rfl;omega)) (Yb G (Yd (o':=128) G G G (Yb G (Ym G G (.tail _ (ZbM _ ZP)) G (Yb G (Zr G (Zq G (Zk G (Ys (t:=38) G (fun h5=>?_) (fun h5=>?_))))))))))))))))))))))))) <;> simp only[NM]at h5
     ·refine Yb G (Yq (v:=.yv _) G (Yb G (Yo G G (.tail _ (ZbM _ ZP)) (Yb G (Zj G (Yb G (Yo G G ZM (Yb G (YB (Q:=Uj P i) G (.agg G (.one G (.agg G .nil))) (Yc (Q2 (.cons _ (ZbY (.refl _) (.refl _))) (DB G ?_))))))))))));obtain⟨x0,x1,x2,x3⟩:=qp P i;have hx4:P (sqI i+1)=0\/P (sqI i+1)=1:=by omega
      have hmv:=pd (P:=P) (i:=i) (by omega) x0 x1 x2 x3 hx4;have hll:=zZ P (i:=i) (by omega);refine TR (caps:=VB g0 g4) (xa:=[.agg 136 (ia (Uj P i))]) (L0:=[]) G (fun _=>rfl) G G (fun _ _ _=>rfl) (YF G) (YF G) G G hrO (.refl _) (fun e=>by have h:=Dd g0 g4 g1 P (Uj P i) (by omega) (by omega) (fun t ht=>Kw ht) (Zcq (QD _ _ _ _) (YF rfl));rw[e];exact h) (fun m q F h1 h2=>D2 g0 g4 g1 P (Uj P i) (by omega) (by omega) (fun t ht=>Kw ht) (Zcq (QD _ _ _ _) (YF G)) _ m q F h1 h2 (by omega)) (fun v1 own1 n1 hr1 hge1=>Vd ?_);rw[uL (qt (by assumption) (by assumption) hx4 (by assumption)) hmv]at hr1;refine Yb G (Yv (r:=.bool _) G G (Zq G (Yc (ZB G (Yh (Yf (Zs G G (Zj G (Yc (⟨64-(i+1),_,by omega,(ZbY (.refl _) (.refl _)),i+1,_,_,by omega,rfl,hge1,?_,rfl,rfl,rfl,rfl,rfl⟩))))))))));exact hr1
     refine ZE G (ZC G (Yc (Vd (ZD G (Zq G (Yc (ZB G (Yh (Yf (Zs G G (Zj G (Yc (⟨64-(i+1),_,by omega,(.cons _ (ZbY (.refl _) (.refl _))),i+1,_,_,by omega,rfl,hgO,?_,rfl,rfl,rfl,rfl,rfl⟩)))))))))))));(rw[TG (Rt (by omega))];exact hrO)
    refine Yb G (Zz G (Yb G (Ym (x:=P (sqI i+1)) G G ZM (show P ((i:Int).toNat*2+1)=_ from congrArg P (by have hq:sqI (i:Int)=0+(i:Int).toNat*2:=rfl;omega)) (Yb G (Zr G (Yb G (Zq G (Zq G (Zk G (Yc (Ye (JJ (KE (l1:=[_,_,_,_,_,_,_,_,_,_,_,_,_,_]) (l2:=[_,_,_]) (Zk G (Zk G (Ys (t:=31) G (fun h6=>?_) (fun h6=>?_))))))))))))))))) <;> simp only[NM]at h6
    ·refine Yb G (Zz G (Yb G (Ym (x:=P (sqI i+1)) G G ZM (show P ((i:Int).toNat*2+1)=_ from congrArg P (by have hq:sqI (i:Int)=0+(i:Int).toNat*2:=rfl;omega)) (Yb G (Yd (o':=128) G G G (Yb G (Ym G G (.tail _ (ZbM _ ZP)) G (Yb G (Zr G (Zq G (Zk G (Ys (t:=38) G (fun h7=>?_) (fun h7=>?_))))))))))))) <;> simp only[NM]at h7
     ·refine Yb G (Yq (v:=.yv _) G (Yb G (Yo G G (.tail _ (ZbM _ ZP)) (Yb G (Zj G (Yb G (Yo G G ZM (Yb G (YB (Q:=Uj P i) G (.agg G (.one G (.agg G .nil))) (Yc (Q2 (.cons _ (ZbY (.refl _) (.refl _))) (DB G ?_))))))))))));obtain⟨x0,x1,x2,x3⟩:=qp P i;have hx4:P (sqI i+1)=0\/P (sqI i+1)=1:=by omega
      have hmv:=pd (P:=P) (i:=i) (by omega) x0 x1 x2 x3 hx4;have hll:=zZ P (i:=i) (by omega);refine TR (caps:=VB g0 g4) (xa:=[.agg 136 (ia (Uj P i))]) (L0:=[]) G (fun _=>rfl) G G (fun _ _ _=>rfl) (YF G) (YF G) G G hrO (.refl _) (fun e=>by have h:=Dd g0 g4 g1 P (Uj P i) (by omega) (by omega) (fun t ht=>Kw ht) (Zcq (QD _ _ _ _) (YF rfl));rw[e];exact h) (fun m q F h1 h2=>D2 g0 g4 g1 P (Uj P i) (by omega) (by omega) (fun t ht=>Kw ht) (Zcq (QD _ _ _ _) (YF G)) _ m q F h1 h2 (by omega)) (fun v2 own2 n2 hr2 hge2=>Vd ?_);rw[uL (qt (by assumption) (by assumption) hx4 (by assumption)) hmv]at hr2;refine Yb G (Yv (r:=.bool _) G G (Zq G (Yc (ZB G (Yh (Yf (Zs G G (Zj G (Yc (⟨64-(i+1),_,by omega,(ZbY (.refl _) (.refl _)),i+1,_,_,by omega,rfl,hge2,?_,rfl,rfl,rfl,rfl,rfl⟩))))))))));exact hr2
     refine ZE G (ZC G (Yc (Vd (ZD G (Zq G (Yc (ZB G (Yh (Yf (Zs G G (Zj G (Yc (⟨64-(i+1),_,by omega,(.cons _ (ZbY (.refl _) (.refl _))),i+1,_,_,by omega,rfl,hgO,?_,rfl,rfl,rfl,rfl,rfl⟩)))))))))))));(rw[TG (Rt (by omega))];exact hrO)
    refine ZE G (ZC G (Zq G (Zk G (ZE G (ZC G (Yc (Vd (ZD G (Zq G (Yc (ZB G (Yh (Yf (Zs G G (Zj G (Yc (⟨64-(i+1),_,by omega,(.cons _ (ZbY (.refl _) (.refl _))),i+1,_,_,by omega,rfl,hgO,?_,rfl,rfl,rfl,rfl,rfl⟩)))))))))))))))));(rw[TG (Rt (by omega))];exact hrO)
   refine ZE G (YJ G (YJ G (YJ G (ZC G (Zq G (Zk G (Yc (Ye (JJ (KE (l1:=[_,_,_,_,_,_,_,_,_,_,_,_,_,_]) (l2:=[_,_,_]) (Zk G (Zk G (ZE G (ZC G (Zq G (Zk G (ZE G (ZC G (Yc (Vd (ZD G (Zq G (Yc (ZB G (Yh (Yf (Zs G G (Zj G (Yc ?_)))))))))))))))))))))))))))));refine⟨64-(i+1),_,by omega,(.cons _ (ZbY (.refl _) (.refl _))),i+1,_,_,by omega,rfl,hgO,?_,rfl,rfl,rfl,rfl,rfl⟩;(rw[TG (Rt (by omega))];exact hrO)
  refine ZD G (ZC G (Zq G (Zk G (ZE G (YJ G (YJ G (YJ G (ZC G (Zq G (Zk G (Yc (Ye (JJ (KE (l1:=[_,_,_,_,_,_,_,_,_,_,_,_,_,_]) (l2:=[_,_,_]) (Zk G (Zk G (ZE G (ZC G (Zq G (Zk G (ZE G (ZC G (Yc (Vd (ZD G (Zq G (Yc (ZB G (Yh ?_)))))))))))))))))))))))))))));refine Yf (Zs G G (Zj G (Yc (⟨64-(i+1),_,by omega,(.cons _ (ZbY (.refl _) (.refl _))),i+1,_,_,by omega,rfl,hgO,?_,rfl,rfl,rfl,rfl,rfl⟩))));(rw[TG (Rt (by omega))];exact hrO)
 refine Y0 (Xb (⟨_,YW,?_⟩));obtain rfl:i=64:=by omega
 exact⟨G,JI hrO ⟨(ZbM _ ZM),(ZbM _ ZN),(ZbM _ ZO),(ZbM _ ZP),trivial⟩ (fun p hp=>⟨ZbV _ hp,hgO p hp⟩)⟩
def all_rt(P:Nat->Int):RtR AM 100 3 [.agg 133 (ia P)] [] (YV (Ey P)) []:=by
 refine Qq (gx (a:=a100) G G (YI _) (ZQ G) (m:=0) (c0:=2) G G (Ye (Yf (YC G (Jl (z:=.one .snil) G (Yc (Ye (Ye (Yf (Yo G G ZN (vm (fv:=.fn 125 []) (rs:=[]) (vs:=[.agg 133 (ia P)]) (Bs:=[]) G G G G (Qm (rh P) ?_))))))))))));rintro v9 n9 L9 ⟨rfl,rfl,rfl⟩;refine⟨.fn 153 [.ptr 2 0 133],[],[.sc .var 133 (ia P)],G,?_⟩;refine Yc (Yk ?_);have fin:∀ (f:FE) (n:Nat) (v:V) (own:HA),f 2=.ptr 1 0 1->Rw 3 (YV (UX P 64)) v own->WP AM a100.nt (.seq (.ops [ZZ 13 false 1 2,ZU 14 (.h (.call (.k (.fn 128 [])) [(.t 13),(.k (.fn 129 []))]))]) (.seq (.ops [ZZ 15 false 1 2,Z1 1 2 15]) .ret)) f n (own++[(1,.vs .var [v])])
   (fun _ _ _=>False) (fun _ _ _ _=>False) (fun f n L=>∃ b md v,rd a100.nt f 2=.ptr b 0 1∧(b,Blk.vs md [v])∈L∧∃ own,Rw 3 (YV (Ey P)) v own∧∀ p∈own,p∈L) (fun _ _ _ _=>False):=fun f n v own h2 hr=>by
  refine Za 2 h2 (Ye (Yf (VV (v:=v) G G (ZbM _ ZM) G (qq (caps:=[]) G (Zbx (UX P 64) (Zcq (T7 P 64) (YF G))) G hr .here G G (fun own2 hr2=>Yc (Ye (Yf (VV (v:=v) G G (ZbM _ ZM) G (TK (b:=1) (u:=v) (v:=v) G G hr2.isrow (.appR _ .here) ?_)))))))))
  exact Yc (Yi ⟨1,.var,v,G,ZbM _ ZM,own2,hr2,fun p hp=>ZbV _ hp⟩)
 refine wI (Lr:=[(0,_),(1,_),(2,_)]) (L0:=[]) (vs:=[.yv 0,.ptr 3 0 133]) (Bs:=[Jy (ia P) (ia P) 3 0,.sc .var 133 (ia P),.vs .var [.snil],.sc .var 133 (ia P)]) (List.reverse_perm [_,_,_]) G G G G G (Qm (gL (ia P) (ia P) (ia P) P) ?_);rintro r n1 L1 ⟨rfl,ho⟩;rcases ho with⟨e1,e2⟩|⟨b,m,q,F,e1,e2,e3,e4,e5⟩
 ·refine .inl ⟨_,.tup [],_,e2,G,G,G,G,6,Kx,_,0,_,.refl _,?_⟩;refine Xo (.cons _ (.cons_cons _ (.cons _ .slnil))) ?_;exact fin _ _ .snil [] G (.nil e1)
 refine .inr ⟨[Jy (ia P) (ia P) 3 0,.sc .var 133 (ia P)],[.sc .var 133 (ia P)],b,m,3,q,.var,.grow,ia F,.tup [],_,_,e3,G,e1,e2,G,G,G,G,G,(YF G),6,Kx,_,0,_,.swap _ _ _,?_⟩;refine Xo (.cons_cons _ (.cons _ (.cons_cons _ (.cons _ .slnil)))) ?_;exact fin _ _ _ [(_,_)] G (.row e4 e5)
def Zev{a b:Int}(h:a≠b):Wc .eql (.int .i64 a) (.int .i64 b)=some (.bool false):=by
 show(if IntKind.i64=IntKind.i64 then some (S.bool (a==b)) else none)=_;simp[h]
def RC{a b:Int}(h:a=b):Wc .eql (.int .i64 a) (.int .i64 b)=some (.bool true):=by
 subst h;show(if IntKind.i64=IntKind.i64 then some (S.bool (a==a)) else none)=_;simp
def wM{a b:Int}(h:a=b):Wc .neq (.int .i64 a) (.int .i64 b)=some (.bool false):=by
 subst h;show(if IntKind.i64=IntKind.i64 then some (S.bool (a != a)) else none)=_;simp
def three{A B:Nat->Int}(h0:A 0=B 0)(h1:A 1=B 1)(h2:A 2=B 2):∀ i,i<3->A i=B i
 |0,_=>h0
 |1,_=>h1
 |2,_=>h2
 |i+3,h=>by omega
def qD{md:Md}(H:Nat->Int)(ha:0<=H 133/\H 133<64)(ht:0<=H 134/\H 134<64):WR AM 85 [.ptr 0 0 138] [.sc md 138 (ia H)] (fun v _ L=>v=.s (.int .i64 (H 134%8-H 133%8))/\(0,Blk.sc md 138 (ia H))∈L):=by
 refine YL (a:=a85) G G (YI _) (ZQ G) (m:=1) G (Ze (Yq G (Yc (Ye (Yg (Zl G (YG G (Yd (o':=133) G G G (Yd (o':=134) G G G (Ym G G ZM G (Yu G (wK (by omega)) G G G (Zl G (YG G (Yd (o':=133) G G G (Yd (o':=133) G G G (Ym G G ZM G (Yt G (wK (by omega)) G G G (Zt G G (Zj G (Yc (Yi (⟨_,ZL G,?_⟩))))))))))))))))))))));exact⟨G,ZM⟩
def qi{md:Md}(H:Nat->Int)(ha:0<=H 133/\H 133<64)(ht:0<=H 134/\H 134<64):WR AM 48 [.ptr 0 0 138] [.sc md 138 (ia H)] (fun v _ L=>v=.s (.int .i64 (Y7 H (H 136) (H 133) (H 134)))/\(0,Blk.sc md 138 (ia H))∈L):=by
 refine YL (a:=a48) G G (YI _) (ZQ G) (m:=1) G (Ze (Yq G (Zf (Zl G (YG G (Yd (o':=133) G G G (Yd (o':=134) G G G (Ym G G ZM G (Zj G (Yc (Wz (fun f n L=>(f 0=.ptr 0 0 138)/\(f 3=.s (.int .i64 (atT H (H 136) (H 133) (H 134))))/\(L=[(0,.sc md 138 (ia H))])/\(n=1)) ?_ (fun f nb L hI=>?_))))))))))))
 ·refine Ze (Zl G (YG G (Yd (o':=136) G G G (Yd (o':=136) G G G (Ym G G ZM G (Zr G (Zk G (Ys (t:=15) G (fun h1=>?_) (fun h1=>?_))))))))) <;> simp only[NM]at h1
  ·refine Yb G (Zl G (Yb G (V7 G (V4 (qD H ha ht)) G G G .here (Yb G (Zr G (Zq G (Zk G (Ys (t:=20) G (fun h2=>?_) (fun h2=>?_))))))))) <;> simp only[NM]at h2
   ·refine Yb G (Zj G (Yb G (Zl G (Yb G (YG G (Yb G (Zy G (Yb G (Yd (o':=130) G G G (Yb G (Ym G G ZM G (Yb G (Zr G (Zq G (Zk G (Ys (t:=29) G (fun h3=>?_) (fun h3=>?_))))))))))))))))) <;> simp only[NM]at h3
    ·refine Yb G (Zl G (Yb G (Zj G (Yb G (YG G (Yb G (Zy G (Yb G (Zy G (Yb G (Zw G G G (Yb G (Yp G G ZM (Yb G (YB G .nil (Yb G (Yw G G (Zq G (Yc (Yj G (fun h4=>?_) (fun h4=>?_))))))))))))))))))))) <;> simp only[NM]at h4
     ·refine Yg (Zj G (Yu G (wK (by omega)) G G G (Zl G (YG G (Yd (o':=133) G G G (Yd (o':=133) G G G (Ym G G ZM G (Yt G (TI (by omega)) G G G (Yt G (YP (At_run _ _ (by omega) (by omega))) G G G (Zj G (Yc (⟨_,(.refl _),G,?_,G,G⟩))))))))))));refine ZJ ?_;(rw[atT,ZcA ⟨by omega,by omega,by omega,by assumption⟩,atM,ZcA (by omega)];done)
     refine Yh (⟨_,(.refl _),G,?_,G,G⟩);refine ZJ ?_;(rw[atT,Zcz (fun q=>Bool.false_ne_true ((show Xf H (H 134)=false from(by assumption)).symm.trans q.2.2.2))];done)
    refine ZF G (ZC G (Zq G (Yc (ZB G (Yh (⟨_,(.refl _),G,?_,G,G⟩))))));refine ZJ ?_;(rw[atT,Zcz (fun q=>by omega)];done)
   refine ZE G (ZD G (ZC G (Zq G (Zk G (ZF G (ZC G (Zq G (Yc (ZB G (Yh (⟨_,(.refl _),G,?_,G,G⟩)))))))))));refine ZJ ?_;(rw[atT,Zcz (fun q=>by omega)];done)
  refine ZD G (ZC G (Zq G (Zk G (ZE G (ZD G (ZC G (Zq G (Zk G (ZF G (ZC G (Zq G (Yc (ZB G (Yh (⟨_,(.refl _),G,?_,G,G⟩)))))))))))))));refine ZJ ?_;(rw[atT,Zcz (fun q=>by omega)];done)
 obtain⟨k0,k3,rfl,rfl⟩:=hI;refine Za 0 k0 (Za 3 k3 ?_);have hat:=xE (P:=H) (k:=H 136) ha ht;refine Ye (Ze (Zl G (Zj G (YG G (Zy G (Zy G (Zw G G G (Yp G G ZM (YB G .nil (Yw G G (Yc (Yj G (fun h5=>?_) (fun h5=>?_))))))))))))) <;> simp only[NM]at h5
 ·refine Ze (Yq G (Yc (Yi (⟨_,ZL G,?_⟩))));refine⟨ZJ ?_,ZM⟩;(rw[Y7,show Xf H (atT H (H 136) (H 133) (H 134))=true from(by assumption)];rfl)
 refine Yh (Ze (Zj G (Zj G (Yc (Yi (⟨_,ZL G,?_⟩))))));refine⟨ZJ ?_,ZM⟩;(rw[Y7,show Xf H (atT H (H 136) (H 133) (H 134))=false from(by assumption)];rfl)
def Rl(k a t c C x y:Int)(z:Bool):Prop:=(Y3 k a t c C=1/\z=true/\x=a+3/\y=a+1)\/(Y3 k a t c C=-1/\z=true/\x=a-4/\y=a-1)\/(Y3 k a t c C=0/\z=false)
def E8{k a t c C x y:Int}(h:¬ (k=6/\a=56*c+4/\(t=a+2\/t=a-2))):Rl k a t c C x y false:=by
 refine .inr (.inr ⟨?_,G⟩);rw[Y3,Zcz (fun q=>h ⟨q.1,q.2.1,.inl q.2.2.1⟩),Zcz (fun q=>h ⟨q.1,q.2.1,.inr q.2.2.1⟩)]
def qH{c:Int}:Y4 c=1\/Y4 c=4:=by unfold Y4;split <;> omega
def tw{C s:Int}(h:0<=C/\C<=15)(hs:s=1\/s=2\/s=4\/s=8):(KW C s != 0)=decide (C/s%2=1):=by
 rw[Zce,Zb7,<-ka h hs,bne_iff_ne]
def sW{k a t c C:Int}(hC:0<=C/\C<=15)(hk:k=6)(ha:a=56*c+4)(ht:t=a+2):Rl k a t c C (56*c+4+3) (56*c+4+1) (KW C (Y4 c) != 0):=by
 have hs:=qH (c:=c);rw[tw hC (by omega)];by_cases h:C/Y4 c%2=1
 ·refine .inl ⟨?_,Zcl h,by omega,by omega⟩;rw[Y3,ZcA ⟨hk,ha,ht,h⟩]
 refine .inr (.inr ⟨?_,Zci h⟩);rw[Y3,Zcz (fun q=>h q.2.2.2),Zcz (fun q=>by omega)]
def gz{k a t c C:Int}(hC:0<=C/\C<=15)(hk:k=6)(ha:a=56*c+4)(ht:t=a-2):Rl k a t c C (56*c+4-4) (56*c+4-1) (KW C (2*Y4 c) != 0):=by
 have hs:=qH (c:=c);rw[tw hC (by omega)];by_cases h:C/(2*Y4 c)%2=1
 ·refine .inr (.inl ⟨?_,Zcl h,by omega,by omega⟩);rw[Y3,Zcz (fun q=>by omega),ZcA ⟨hk,ha,ht,h⟩]
 refine .inr (.inr ⟨?_,Zci h⟩);rw[Y3,Zcz (fun q=>by omega),Zcz (fun q=>h q.2.2.2)]
def Zbm{md:Md}(H:Nat->Int)(ha:0<=H 133/\H 133<64)(ht:0<=H 134/\H 134<64)(hc:H 137=0\/H 137=1)(hC:0<=H 129/\H 129<=15):WR AM 88 [.ptr 0 0 138] [.sc md 138 (ia H)] (fun v _ L=>(∃ x y z,v=.tup [.s (.int .i64 x),.s (.int .i64 y),.s (.bool z)]/\Rl (H 136) (H 133) (H 134) (H 137) (H 129) x y z)/\(0,Blk.sc md 138 (ia H))∈L):=by
 refine YL (a:=a88) G G (YI _) (ZQ G) (m:=1) G (Ze (Yq G (Yq G (Yq G (Zf (Zl G (YG G (Yd (o':=136) G G G (Yd (o':=137) G G G (Ym G G ZM G (Wn G G (by omega) (Zs G G (Zj G (Zf (Zl G (YG G (Yd (o':=136) G G G (Yd (o':=137) G G G (Ym G G ZM G (Wn G G (by omega) (Yr G G (gm hc) (Zj G (Yc (Ye (Yk (Ze (Zl G (YG G (Yd (o':=136) G G G ?_)))))))))))))))))))))))))))));refine Yd (o':=136) G G G (Ym G G ZM G (Zr G (Zk G (Ys (t:=28) G (fun h6=>?_) (fun h6=>?_))))) <;> simp only[NM]at h6
 ·refine ZE G (ZD G (ZC G (Zq G (Zk G (Yc (ZA G (Ze (Yq G (Yq G (Yq G (Yc (Yi (⟨_,YH (v:=.s (.int _ _)) G (YH (v:=.s (.int _ _)) G (ZK G)),?_⟩)))))))))))));refine⟨⟨_,_,_,G,?_⟩,ZM⟩;exact E8 (by omega)
 refine Yb G (Zl G (Yb G (YG G (Yb G (Yd (o':=133) G G G (Yb G (Yd (o':=133) G G G (Yb G (Ym G G ZM G (Yb G (Zj G (Yb G (Zr G (Zq G (Zk G (Yc (Yj G (fun h7=>?_) (fun h7=>?_)))))))))))))))))) <;> simp only[NM]at h7
 ·refine Ze (Yq G (Yq G (Yq G (Yc (Yi (⟨_,YH (v:=.s (.int _ _)) G (YH (v:=.s (.int _ _)) G (ZK G)),?_⟩))))));refine⟨⟨_,_,_,G,?_⟩,ZM⟩;exact E8 (by omega)
 refine Ze (Zl G (YG G (Yd (o':=133) G G G (Yd (o':=134) G G G (Ym G G ZM G (Zj G (Zs G G (Zr G (Zk G (Yc (Yj G (fun h8=>?_) (fun h8=>?_)))))))))))) <;> simp only[NM]at h8
 ·refine Ye (Yg (Zj G (Zs G G (Zj G (Zs G G (Zl G (YG G (Zy G (Yd (o':=129) G G G (Ym G G ZM G (Zj G (Yr (r:=.int .i64 (KW (H 129) (Y4 (H 137)))) G G G (Zr G (Zj G (Zj G (Zk G (Yc (Yi (⟨_,YH (v:=.s (.int _ _)) G (YH (v:=.s (.int _ _)) G (ZK G)),?_⟩)))))))))))))))))));refine⟨⟨_,_,_,G,?_⟩,ZM⟩;exact sW hC (by omega) (by omega) (by omega)
 refine Ze (Zl G (YG G (Yd (o':=133) G G G (Yd (o':=134) G G G (Ym G G ZM G (Zj G (Zt G G (Zr G (Zk G (Yc (Yj G (fun h9=>?_) (fun h9=>?_)))))))))))) <;> simp only[NM]at h9
 ·refine Ye (Yg (Zj G (Zt G G (Zj G (Zt G G (Zl G (YG G (Zy G (Yd (o':=129) G G G (Ym G G ZM G (Zj G (Yr G G (oM hc) (Yr (r:=.int .i64 (KW (H 129) (2*Y4 (H 137)))) G G G (Zr G (Zj G (Zj G (Zk G (Yc (Yi (⟨_,YH (v:=.s (.int _ _)) G (YH (v:=.s (.int _ _)) G (ZK G)),?_⟩))))))))))))))))))));refine⟨⟨_,_,_,G,?_⟩,ZM⟩;exact gz hC (by omega) (by omega) (by omega)
 refine Yh (Ze (Yq G (Yq G (Yq G (Yc (Yi (⟨_,YH (v:=.s (.int _ _)) G (YH (v:=.s (.int _ _)) G (ZK G)),?_⟩)))))));refine⟨⟨_,_,_,G,?_⟩,ZM⟩;exact E8 (by omega)
def ZaM{md:Md}(H:Nat->Int)(ha:0<=H 133/\H 133<64)(ht:0<=H 134/\H 134<64)(hc:H 137=0\/H 137=1):WR AM 89 [.ptr 0 0 138] [.sc md 138 (ia H)] (fun v _ L=>v=.s (.bool (W9 (H 136) (H 133) (H 134) (H 137)))/\(0,Blk.sc md 138 (ia H))∈L):=by
 refine YL (a:=a89) G G (YI _) (ZQ G) (m:=1) G (Ze (Yq G (Zf (Zl G (YG G (Yd (o':=136) G G G (Yd (o':=137) G G G (Ym G G ZM G (Wn G G (by omega) (Zt G G (Zj G (Yc (Ye (Yg (Zl G (YG G (Yd (o':=133) G G G (Yd (o':=133) G G G (Ym G G ZM G (Yu G (TI (by omega)) G G G (Zl G (YG G (Yd (o':=133) G G G (Yd (o':=134) G G G (Ym G G ZM G (Yt G (TI (by omega)) G G G (Zj G (Zj G (Zf ?_)))))))))))))))))))))))))))));refine Zl G (YG G (Yd (o':=136) G G G (Yd (o':=136) G G G (Ym G G ZM G (Zr G (Zk G (Ys (t:=31) G (fun h10=>?_) (fun h10=>?_)))))))) <;> simp only[NM]at h10
 ·refine Yb G (Zl G (Yb G (V7 G (V4 (qD H ha ht)) G G G .here (Yb G (Zr G (Zq G (Zk G (Ys (t:=36) G (fun h11=>?_) (fun h11=>?_))))))))) <;> simp only[NM]at h11
  ·refine Yb G (Zj G (Yb G (Zl G (Yb G (YG G (Yb G (Yd (o':=136) G G G (Yb G (Yd (o':=137) G G G (Yb G (Ym G G ZM G (Yb G (Wn G G (by omega) (Yb G (Zs G G (Yb G (Zr G (Zq G (Zk G (Ys (t:=47) G (fun h12=>?_) (fun h12=>?_))))))))))))))))))))) <;> simp only[NM]at h12
   ·refine Yb G (Zj G (Yb G (Zj G (Yb G (Zj G (Yb G (Wn G G (by omega) (Yb G (Zs G G (Yb G (Zr G (Zq G (Zk G (Zg G (⟨ZI ?_,ZM⟩)))))))))))))));unfold W9;rw[Zce];simp only[Zcu,Zb7,Zb1,Zcx,Zcv,Zcy,Zcw];omega
   refine ZE G (ZD G (Zq G (Zk G (Zg G (⟨ZI ?_,ZM⟩)))));unfold W9;rw[Zce];simp only[Zcu,Zb7,Zb1,Zcx,Zcv,Zcy,Zcw];omega
  refine ZF G (ZC G (Zq G (Zk G (ZE G (ZD G (Zq G (Zk G (Zg G (⟨ZI ?_,ZM⟩)))))))));unfold W9;rw[Zce];simp only[Zcu,Zb7,Zb1,Zcx,Zcv,Zcy,Zcw];omega
 refine ZD G (ZC G (Zq G (Zk G (ZF G (ZC G (Zq G (Zk G (ZE G (ZD G (Zq G (Zk G (Zg G (⟨ZI ?_,ZM⟩)))))))))))));unfold W9;rw[Zce];simp only[Zcu,Zb7,Zb1,Zcx,Zcv,Zcy,Zcw];omega
def Qh(H X K:Nat->Int):Nat->Nat->Int
 |0=>H
 |n+1=>if isM (K (0+(n:Int).toNat*1))=true then ovA (Qh H X K n) (0+(K (0+(n:Int).toNat*1)).toNat*2) 2 X else Qh H X K n
def yJ{H X K:Nat->Int}:∀ (n:Nat) (i:Nat),128<=i->Qh H X K n i=H i
 |0,_,_=>rfl
 |n+1,i,hi=>by
  have ih:=yJ (H:=H) (X:=X) (K:=K) n i hi;unfold Qh;split
  ·rename_i hs;simp only[isM,Zb7]at hs;rw[Wb (by omega)];exact ih
  exact ih
def zk{H X K:Nat->Int}{n:Nat}{s:Int}(hs:K (0+(n:Int).toNat*1)=s)(h:0<=s/\s<64):Qh H X K (n+1)=ovA (Qh H X K n) (sqI s) 2 X:=by
 rw[Qh,hs,ZcA (show isM s=true from Zcl h)]
def u9{H X K:Nat->Int}{n:Nat}{s:Int}(hs:K (0+(n:Int).toNat*1)=s)(h:¬ (0<=s/\s<64)):Qh H X K (n+1)=Qh H X K n:=by
 rw[Qh,hs,Zcz (by rw[isM,Zci h];decide)]
def set_run{md md2:Md}(hmd:md.mut=true){q:Nat}{c:Cp}(H X K:Nat->Int)(n:Nat)(hn:n<=1000):WR AM 90 [.ptr 0 0 138,.agg 2 (ia X),.sl 1 0 n 1 c] [.sc md 138 (ia H),.sc md2 q (ia K)] (fun v _ L=>v=.tup []/\(0,Blk.sc md 138 (ia (Qh H X K n)))∈L/\(1,Blk.sc md2 q (ia K))∈L):=by
 refine YL (a:=a90) G G (YI _) (ZQ G) (m:=2) G (Ze (YC G (Zf (Zn G (WX G (Yq G (Yc (Yk (Xo (L':=[_,_,_]) (.refl _) (Xu (fun m f _ L=>∃ (i:Nat),(i<=n)/\(m=n-i)/\(f 0=.ptr 0 0 138)/\(f 4=.ptr 2 0 2)/\(f 8=.sl 1 0 n 1 c)/\(f 9=.s (.int .i64 n))/\(f 10=.s (.int .i64 i))/\(L=[(2,.sc .var 2 (ia X)),(0,.sc md 138 (ia (Qh H X K i))),(1,.sc md2 q (ia K))])) (fun m f nb L hI=>?_) (n) ⟨0,by omega,rfl,rfl,rfl,rfl,rfl,rfl,rfl⟩))))))))));obtain⟨i,hi,hm,k0,k4,k8,k9,k10,rfl⟩:=hI;refine Za 0 k0 (Za 4 k4 (Za 8 k8 (Za 9 k9 (Za 10 k10 (Ze (Zr G (Yc (Ye (Yj G (fun h13=>?_) (fun h13=>?_)))))))))) <;> simp only[NM]at h13
 ·refine Yh (Ye (Yk (Ze (Zx G G (Ym (x:=K (0+(i:Int).toNat*1)) G G ZO (G) (Zj G (Zf (Zj G (Yt G (U4 _) G G G (Yc (Yj G (fun h14=>?_) (fun h14=>?_))))))))))))
  ·try simp only[isM,Zb7,ZbJ]at h14
   refine Yg (Zl G (Zj G (Yo G G ZM (YG G (Zy G (Zy G (Zw G G G (Yz G G G hmd (.there .here) (Yc (Yf (Zs G G (Zj G (Yc (⟨n-(i+1),_,by omega,(.refl _),i+1,by omega,rfl,rfl,rfl,rfl,rfl,rfl,?_⟩))))))))))))));(rw[zk (n:=i) (s:=K (0+(i:Int).toNat*1)) rfl (by assumption)];done)
  try simp only[isM,Zb7,ZbJ]at h14
  refine Yh (Yf (Zs G G (Zj G (Yc (⟨n-(i+1),_,by omega,(.refl _),i+1,by omega,rfl,rfl,rfl,rfl,rfl,rfl,?_⟩)))));(rw[u9 (n:=i) (s:=K (0+(i:Int).toNat*1)) rfl (by assumption)];done)
 refine Y0 (Xb (⟨_,YW,?_⟩));obtain rfl:i=n:=by omega
 exact⟨G,ZN,ZO⟩
def sK:List (S×V):=[(.int .i64 4,.s (.int .i64 3)),(.int .i64 7,.s (.int .i64 1)),(.int .i64 0,.s (.int .i64 2)),(.int .i64 60,.s (.int .i64 12)),(.int .i64 63,.s (.int .i64 4)),(.int .i64 56,.s (.int .i64 8))]
def rH(s:Int):(QT (.int .i64 s) sK).getD (Z.v (.one (.s (.int .i64 0))))=.s (.int .i64 (Xx s)):=by
 simp only[sK,QT,S.eqB,Xx];by_cases h4:4=s
 ·simp[h4]
 by_cases h7:7=s
 ·simp[h4,h7]
 by_cases h0:0=s
 ·simp[h4,h7,h0]
 by_cases h60:60=s
 ·simp[h4,h7,h0,h60]
 by_cases h63:63=s
 ·simp[h4,h7,h0,h60,h63]
 by_cases h56:56=s
 ·simp[h4,h7,h0,h60,h63,h56]
 simp[h4,h7,h0,h60,h63,h56,Z.v]
def xP(K:Nat->Int):Nat->Int
 |0=>0
 |n+1=>orM (xP K n) (Xx (K (0+(n:Int).toNat*1)))
def gD{md:Md}{q:Nat}{c:Cp}(K:Nat->Int)(n:Nat)(hn:n<=1000):WR AM 91 [.sl 0 0 n 1 c] [.sc md q (ia K)] (fun v _ L=>v=.s (.int .i64 (xP K n))/\(0,Blk.sc md q (ia K))∈L):=by
 refine YL (a:=a91) G G (YI _) (ZQ G) (m:=1) G (Ze (Yq G (Zf (j5 (Us G G G G G G .here (Us G G G G G G .here (Us G G G G G G .here (Us G G G G G G .here (Us G G G G G G .here (Us G G G G G G .here (Yq (v:=.map _) G (Yq (v:=.map _) G (Yc (Ye (Ze (Zn G (WX G (Yq G (Yc (Yk (Xo (L':=[_,_]) (.refl _) (Xu (fun m f _ L=>∃ (i:Nat),(i<=n)/\(m=n-i)/\(f 2=.s (.int .i64 (xP K i)))/\(f 3=.map 1)/\(f 8=.sl 0 0 n 1 c)/\(f 9=.s (.int .i64 n))/\(f 10=.s (.int .i64 i))/\(L=[(1,.mp .var sK),(0,.sc md q (ia K))])) (fun m f nb L hI=>?_) (n) ⟨0,by omega,rfl,rfl,rfl,rfl,rfl,rfl,rfl⟩))))))))))))))))))))));obtain⟨i,hi,hm,k2,k3,k8,k9,k10,rfl⟩:=hI;refine Za 2 k2 (Za 3 k3 (Za 8 k8 (Za 9 k9 (Za 10 k10 (Ze (Zr G (Yc (Ye (Yj G (fun h15=>?_) (fun h15=>?_)))))))))) <;> simp only[NM]at h15
 ·refine Yh (Ye (Yk (Ze (Zx G G (Ym (x:=K (0+(i:Int).toNat*1)) G G ZN (G) (Zj G (Yc (Yf (Zj G (Yq (v:=.map _) G (Zj G (WK G G ZM G (rH _) (Yr (r:=.int .i64 (orM _ _)) G G G (Zj G (Yc (Yf (Zs G G (Zj G (Yc ?_)))))))))))))))))));exact⟨n-(i+1),_,by omega,(.refl _),i+1,by omega,rfl,rfl,rfl,rfl,rfl,rfl,rfl⟩
 refine Y0 (Xb (Ze (Zj G (Zj G (Yc (Yi (⟨_,ZL G,?_⟩)))))));obtain rfl:i=n:=by omega
 exact⟨G,ZN⟩
def rook_ex{md:Md}(H:Nat->Int)(ha:0<=H 133/\H 133<64)(ht:0<=H 134/\H 134<64)(hc:H 137=0\/H 137=1)(hC:0<=H 129/\H 129<=15) :
  ∃ x y z,Rl (H 136) (H 133) (H 134) (H 137) (H 129) x y z/\RB AM 88 [.ptr 0 0 138] [.sc md 138 (ia H)] (.tup [.s (.int .i64 x),.s (.int .i64 y),.s (.bool z)]) [.sc md 138 (ia H)]:=by
 obtain⟨v,σ',n',L',h1,h2,⟨x,y,z,rfl,hr⟩,h3⟩:=Zbm (md:=md) H ha ht hc hC
 exact⟨x,y,z,hr,σ',h1,(h2.2.mem h3).2,⟨_,_,_,G⟩,trivial⟩
structure Same(H J:Nat->Int)(B:Nat->Int):Prop where
 lo:∀ i,i<128->J i=B i
 hi:∀ i,128<=i->J i=H i
def xw{md md2:Md}(hmd:md.mut=true){q:Nat}{c:Cp}(H X K:Nat->Int)(n:Nat)(hn:n<=1000):∃ J,J=Qh H X K n/\RB AM 90 [.ptr 0 0 138,.agg 2 (ia X),.sl 1 0 n 1 c] [.sc md 138 (ia H),.sc md2 q (ia K)] (.tup []) [.sc md 138 (ia J),.sc md2 q (ia K)] :=
 ⟨_,rfl,kZ (set_run hmd H X K n hn)⟩
def set_two{H J:Nat->Int}{w a:Int}(e:J=Qh H (fun _=>0) (ov (ov (fun _=>0) (0*1) w) (1*1) a) 2)(ha:0<=a/\a<64)(hw:-1<=w/\w<64):Same H J (brd2 H w a):=by
 have h2:=zk (H:=H) (X:=fun _=>0) (K:=ov (ov (fun _=>0) (0*1) w) (1*1) a) (n:=1) (s:=a) rfl ha;refine⟨fun i _=>?_,fun i hi=>by rw[e];exact yJ 2 i hi⟩;rw[e,h2,brd2,DM];by_cases h:0<=w
 ·rw[zk (H:=H) (X:=fun _=>0) (K:=ov (ov (fun _=>0) (0*1) w) (1*1) a) (n:=0) (s:=w) rfl (by omega),ZcA h];rfl
 rw[u9 (H:=H) (X:=fun _=>0) (K:=ov (ov (fun _=>0) (0*1) w) (1*1) a) (n:=0) (s:=w) rfl (by omega),Zcz h];rfl
def J8{H J J' B X Y:Nat->Int}{t:Int}(j:Same H J B)(e:J'=Qh J X (ov (fun _=>0) (0*1) t) 1)(ht:0<=t/\t<64)(hx:∀ i,i<2->X i=Y i):Same H J' (ovA B (sqI t) 2 Y):=by
 have h1:=zk (H:=J) (X:=X) (K:=ov (fun _=>0) (0*1) t) (n:=0) (s:=t) rfl ht;refine⟨fun i hi=>?_,fun i hi=>by rw[e,yJ 1 i hi];exact j.hi i hi⟩;rw[e,h1];exact Uw (n:=128) j.lo hx i hi
def two{X Y:Nat->Int}(h0:X 0=Y 0)(h1:X 1=Y 1):∀ i,i<2->X i=Y i
 |0,_=>h0
 |1,_=>h1
 |n+2,h=>by omega
def TY{k a t c C:Int}(h:Y3 k a t c C≠0):a=56*c+4:=by
 unfold Y3 at h;split at h
 ·omega
 split at h
 ·omega
 exact absurd G h
def Zaw{H J2 J3 J4 X:Nat->Int}{w k a t c b C x y:Int}{z:Bool}(j:Same H J2 (EX H w a t k c b))(e3:J3=Qh J2 (fun _=>0) (ov (fun _=>0) (0*1) x) 1)(e4:J4=Qh J3 (ov (ov (fun _=>0) 0 4) 1 (X 1)) (ov (fun _=>0) (0*1) y) 1)
  (hr:Rl k a t c C x y z) (hz:z=true) (hc:c=0\/c=1) (hx1:X 1=c):Same H J4 (VK H w a t k c b (Y3 k a t c C)):=by
 rcases hr with⟨hg,_,rfl,rfl⟩|⟨hg,_,rfl,rfl⟩|⟨_,hf⟩
 ·have:=TY (h:=by rw[hg];decide);rw[hg,VK,ZcA rfl];exact J8 (J8 j e3 (by omega) (fun _ _=>rfl)) e4 (by omega) (two G hx1)
 ·have:=TY (h:=by rw[hg];decide);rw[hg,VK,Zcz (by decide),ZcA rfl];exact J8 (J8 j e3 (by omega) (fun _ _=>rfl)) e4 (by omega) (two G hx1)
 rw[hz]at hf;cases hf
def sk{H J2:Nat->Int}{w k a t c b C x y:Int}{z:Bool}(j:Same H J2 (EX H w a t k c b))(hr:Rl k a t c C x y z)(hz:z=false):Same H J2 (VK H w a t k c b (Y3 k a t c C)):=by
 rcases hr with⟨_,h,_⟩|⟨_,h,_⟩|⟨hg,_⟩
 ·rw[hz]at h;cases h
 ·rw[hz]at h;cases h
 rw[hg,VK,Zcz (by decide),Zcz (by decide)];exact j
structure Done(H J B:Nat->Int)(cs ovr hf fl:Int):Prop where
 lo:∀ i,i<128->J i=B i
 s:J 128=H 128
 c:J 129=cs
 o:J 130=ovr
 h:J 131=hf
 f:J 132=fl
def done_is{H J:Nat->Int}{k c a t b C:Int}(h:Done H J (VK H (Y7 H k a t) a t k c b (Y3 k a t c C)) (VQ C (orM (orM 0 (Xx a)) (Xx t))) (Uz k a t c) (Ug H k (Y7 H k a t)) (QU H))(i:Nat):ovA (fun _=>0) 0 133 (ov J 128 (XT (H 128))) i=Uq H k c a t b C i:=by
 unfold Uq;by_cases hi:i<133
 ·rw[X3 (by omega),Nat.sub_zero];by_cases h1:i<128
  ·rw[ZcA h1,XF (by omega)];exact h.lo i h1
  rw[Zcz h1];have hc:i=128\/i=129\/i=130\/i=131\/i=132:=by omega
  rcases hc with rfl|rfl|rfl|rfl|rfl
  ·rfl
  ·exact h.c
  ·exact h.o
  ·exact h.h
  exact h.f
 rw[Wb (by omega),Zcz (by omega),Zcz (by omega),Zcz (by omega),Zcz (by omega),Zcz (by omega),Zcz (by omega)]
def ZaD(H:Nat->Int)(ha:0<=H 133/\H 133<64)(ht:0<=H 134/\H 134<64)(hc:H 137=0\/H 137=1)(hC:0<=H 129/\H 129<=15):WR AM 50 [.ptr 0 0 138] [.sc .var 138 (ia H)] (fun v _ L=>∃ J,v=.agg 133 (ia (Uq H (H 136) (H 137) (H 133) (H 134) (H 135) (H 129)))/\(0,Blk.sc .var 138 (ia J))∈L):=by
 refine YL (a:=a50) G G (YI _) (ZQ G) (m:=1) G (Ze (Yy (Zf (Zl G (V7 G (V4 (qi H ha ht)) G G G (.there .here) (Zj G (Zf (Zl G ?_))))))));obtain⟨x,y,z,hr,hR⟩:=rook_ex (md:=.var) H ha ht hc hC;refine V7 G (hR) G G G (.there .here) (Zo G (YD (v:=.s (.int _ _)) G G (YD (v:=.s (.int _ _)) G G (YD (v:=.s (.bool _)) G G (Zj G (Zj G (Zk G (Zf (Yq G (Yc (Wz (fun f n L=>(f 0=.ptr 0 0 138)/\(f 2=.ptr 1 0 133)/\(f 3=.s (.int .i64 (Y7 H (H 136) (H 133) (H 134))))/\(f 4=.s (.int .i64 x))/\(f 5=.s (.int .i64 y))/\(f 6=.s (.bool z))/\(f 7=.s (.int .i64 (Uz (H 136) (H 133) (H 134) (H 137))))/\(L=[(1,.sc .var 133 (ia fun _=>0)),(0,.sc .var 138 (ia H))])/\(n=2)) ?_ (fun f nb L hI=>?_))))))))))))
 ·refine Ze (Zl G (V7 G (V4 (ZaM H ha ht hc)) G G G (.there .here) (Yc (Yj G (fun h1=>?_) (fun h1=>?_)))))
  ·refine Yg (Zl G (YG G (Yd (o':=133) G G G (Yd (o':=133) G G G (Ym G G ZN G (Zl G (YG G (Yd (o':=133) G G G (Yd (o':=134) G G G (Ym G G ZN G (Zs G G (Zu G G (Zj G (Yc (⟨_,(.refl _),G,G,G,G,G,G,?_,G,G⟩)))))))))))))));refine ZJ ?_;rw[Uz];exact(ZcA (by assumption)).symm
  refine Yh (⟨_,(.refl _),G,G,G,G,G,G,?_,G,G⟩);refine ZJ ?_;rw[Uz];exact(Zcz (Bool.eq_false_iff.1 (by assumption))).symm
 obtain⟨k0,k2,k3,k4,k5,k6,k7,rfl,rfl⟩:=hI;refine Za 0 k0 (Za 2 k2 (Za 3 k3 (Za 4 k4 (Za 5 k5 (Za 6 k6 (Za 7 k7 (Ze (Zl G (YG G (Yd (o':=136) G G G (Yp G G ZN (Yy (Yz G G G G .here (Yc (Wz (fun f n L=>∃ (X:Nat->Int),(X 0=(if H 135=0 then H 136 else H 135))/\(X 1=H 137)/\(f 0=.ptr 0 0 138)/\(f 2=.ptr 1 0 133)/\(f 3=.s (.int .i64 (Y7 H (H 136) (H 133) (H 134))))/\(f 4=.s (.int .i64 x))/\(f 5=.s (.int .i64 y))/\(f 6=.s (.bool z))/\(f 7=.s (.int .i64 (Uz (H 136) (H 133) (H 134) (H 137))))/\(f 8=.ptr 2 0 2)/\(L=[(2,.sc .var 2 (ia X)),(1,.sc .var 133 (ia fun _=>0)),(0,.sc .var 138 (ia H))])/\(n=3)) ?_ (fun f nb L hI=>?_))))))))))))))))
 ·refine Ze (Zl G (YG G (Yd (o':=133) G G G (Yd (o':=135) G G G (Ym G G ZO G (Zr G (Yc (Yj G (fun h2=>?_) (fun h2=>?_))))))))) <;> simp only[NM]at h2
  ·refine Yf (Zl G (YG G (Yd (o':=133) G G G (Yd (o':=135) G G G (Ym G G ZO G (Zy G (YA G G G G .here (Yc (⟨_,(.refl _),_,?_,?_,G,G,G,G,G,G,G,G,G,G⟩)))))))))
   · exact(Zcz (by assumption)).symm
   rfl
  refine Yh (⟨_,(.refl _),_,?_,?_,G,G,G,G,G,G,G,G,G,G⟩)
  · exact(ZcA (by assumption)).symm
  rfl
 obtain⟨X,hx0,hx1,k0,k2,k3,k4,k5,k6,k7,k8,rfl,rfl⟩:=hI;refine Za 0 k0 (Za 2 k2 (Za 3 k3 (Za 4 k4 (Za 5 k5 (Za 6 k6 (Za 7 k7 (Za 8 k8 (Ze (Zl G (YB G .nil (Zj G (Zl G (YG G (Yd (o':=133) G G G (Yd (o':=133) G G G (Ym (x:=H 133) G G ZO (G) (XA G (.one G (.one G .nil)) ?_)))))))))))))))));obtain⟨J1,eJ1,hSJ1⟩:=xw (md:=.var) (md2:=.var) (q:=2) (c:=.ex 2) rfl H (fun _=>0) (ov (ov (fun _=>0) (0*1) (Y7 H (H 136) (H 133) (H 134))) (1*1) (H 133)) 2 (by omega);have j1:Same H J1 (brd2 H (Y7 H (H 136) (H 133) (H 134)) (H 133)):=set_two eJ1 ha (VY ha ht);refine Vy (rs:=[0,3]) (Bs:=[_,_]) G (hSJ1) G G (YF G) (fun _ h=>h) G ⟨ZP,⟨_,_,_,G⟩,⟨ZM,⟨_,_,_,G⟩,trivial⟩⟩ G G G (.cons (.there (.there (.there .here))) (.cons .here .nil)) (Yc (Ye (Yg (Zl G (Yo G G ZN (Zl G (YG G (Yd (o':=133) G G G (Yd (o':=134) G G G (Ym (x:=H 134) G G ZP (j1.hi 134 (by omega)) (XA G (.one G .nil) ?_)))))))))));obtain⟨J2,eJ2,hSJ2⟩:=xw (md:=.var) (md2:=.var) (q:=1) (c:=.ex 1) rfl J1 X (ov (fun _=>0) (0*1) (H 134)) 1 (by omega);have j2:Same H J2 (EX H (Y7 H (H 136) (H 133) (H 134)) (H 133) (H 134) (H 136) (H 137) (H 135)):=J8 j1 eJ2 ht (two hx0 hx1);refine Vy (rs:=[0,4]) (Bs:=[_,_]) G (hSJ2) G G (YF G) (fun _ h=>h) G ⟨(.tail _ ZP),⟨_,_,_,G⟩,⟨ZM,⟨_,_,_,G⟩,trivial⟩⟩ G G G (.cons (.there (.there (.there (.there .here)))) (.cons .here .nil)) (Yc (Wz (fun f n L=>∃ (X J:Nat->Int),(3<=n)/\(Same H J (VK H (Y7 H (H 136) (H 133) (H 134)) (H 133) (H 134) (H 136) (H 137) (H 135) (Y3 (H 136) (H 133) (H 134) (H 137) (H 129))))/\(f 0=.ptr 0 0 138)/\(f 2=.ptr 1 0 133)/\(f 3=.s (.int .i64 (Y7 H (H 136) (H 133) (H 134))))/\(f 7=.s (.int .i64 (Uz (H 136) (H 133) (H 134) (H 137))))/\(L=[(2,.sc .var 2 (ia X)),(1,.sc .var 133 (ia fun _=>0)),(0,.sc .var 138 (ia J))])) ?_ (fun f nb L hI=>?_)))
 ·refine Ze (Zk G (Yc (Yj G (fun h3=>?_) (fun h3=>?_))))
  ·refine Ze (Zl G (YB G .nil (Zj G (XA G (.one G .nil) ?_))));obtain⟨J3,eJ3,hSJ3⟩:=xw (md:=.var) (md2:=.var) (q:=1) (c:=.ex 1) rfl J2 (fun _=>0) (ov (fun _=>0) (0*1) x) 1 (by omega);refine Vy (rs:=[0,5]) (Bs:=[_,_]) G (hSJ3) G G (YF G) (fun _ h=>h) G ⟨(.tail _ (.tail _ ZP)),⟨_,_,_,G⟩,⟨ZM,⟨_,_,_,G⟩,trivial⟩⟩ G G G (.cons (.there (.there (.there (.there (.there .here))))) (.cons .here .nil)) (Yc (Yf (Zl G (Zz G (Ym G G ZP G (YB G (.one G (.one G .nil)) (Zj G (XA G (.one G .nil) ?_))))))));obtain⟨J4,eJ4,hSJ4⟩:=xw (md:=.var) (md2:=.var) (q:=1) (c:=.ex 1) rfl J3 (ov (ov (fun _=>0) 0 4) 1 (X 1)) (ov (fun _=>0) (0*1) y) 1 (by omega);have j4:Same H J4 (VK H (Y7 H (H 136) (H 133) (H 134)) (H 133) (H 134) (H 136) (H 137) (H 135) (Y3 (H 136) (H 133) (H 134) (H 137) (H 129))):=Zaw j2 eJ3 eJ4 hr (by assumption) hc hx1;refine Vy (rs:=[0,6]) (Bs:=[_,_]) G (hSJ4) G G (YF G) (fun _ h=>h) G ⟨(.tail _ (.tail _ (.tail _ ZP))),⟨_,_,_,G⟩,⟨ZM,⟨_,_,_,G⟩,trivial⟩⟩ G G G (.cons (.there (.there (.there (.there (.there (.there .here)))))) (.cons .here .nil)) (Yc ?_);exact⟨_,(.cons _ (.cons _ (.cons _ (.cons _ (.refl _))))),X,J4,by omega,j4,rfl,rfl,rfl,rfl,rfl⟩
  refine Yh ?_;exact⟨_,(.cons _ (.cons _ (.refl _))),X,J2,by omega,sk j2 hr (by assumption),rfl,rfl,rfl,rfl,rfl⟩
 obtain⟨X,J,hn3,hJ,k0,k2,k3,k7,rfl⟩:=hI;refine Za 0 k0 (Za 2 k2 (Za 3 k3 (Za 7 k7 (Ze (Zl G (Zj G (YG G (Zy G (Yd (o':=130) G G G (YA G G G G (.there (.there .here)) (Yc (Ye (Yg (Zl G (YG G (Zy G (Yd (o':=129) G G G (Ym (x:=H 129) G G ZO (hJ.hi 129 (by omega)) (Zl G (YG G (Yd (o':=133) G G G (Yd (o':=133) G G G (Ym (x:=H 133) G G ZO (hJ.hi 133 (by omega)) (Zl G (YG G (Yd (o':=133) G G G (Yd (o':=134) G G G (Ym (x:=H 134) G G ZO (hJ.hi 134 (by omega)) (XA G (.one G (.one G .nil)) ?_)))))))))))))))))))))))))))));refine Zbh (rs:=[nb]) (Bs:=[_]) (av:=[.sl nb 0 2 1 (.ex 2)]) (v:=.s (.int .i64 (xP (ov (ov (fun _=>0) (0*1) (H 133)) (1*1) (H 134)) 2))) G (V4 (gD (md:=.ro) (q:=2) (c:=.ex 2) (ov (ov (fun _=>0) (0*1) (H 133)) (1*1) (H 134)) 2 (by omega))) G (by simp[V.refsL,V.refs,We]) (by simp[V.refsL,V.refs]) (by simp[V.refsL,V.refs]) (by simp[rnL,V.renL,V.ren,pos]) ⟨ZM,⟨_,_,_,G⟩,trivial⟩ G G G (Yr (r:=.int .i64 (VQ (H 129) _)) G G G (YG G (Zy G (Yd (o':=129) G G G (YA G G G G (.there (.there (.there .here))) (Zf (Zl G (Zl G (YG G (Zy G (Yd (o':=131) G G G (Ym (x:=H 131) G G ZP (hJ.hi 131 (by omega)) (Dw G G (Yr G G G (YG G (Zy G (Yd (o':=131) G G G (YA G G G G (.there (.there (.there .here))) (Yc (Wz (fun f n L=>∃ (J:Nat->Int),(Done H J (VK H (Y7 H (H 136) (H 133) (H 134)) (H 133) (H 134) (H 136) (H 137) (H 135) (Y3 (H 136) (H 133) (H 134) (H 137) (H 129))) (VQ (H 129) (orM (orM 0 (Xx (H 133))) (Xx (H 134)))) (Uz (H 136) (H 133) (H 134) (H 137)) (Ug H (H 136) (Y7 H (H 136) (H 133) (H 134))) (H 132))/\(f 0=.ptr 0 0 138)/\(f 2=.ptr 1 0 133)/\(L=[(1,.sc .var 133 (ia fun _=>0)),(0,.sc .var 138 (ia J))])) ?_ (fun f nb L hI=>?_)))))))))))))))))))))
 ·refine Ze (Zj G (Zr G (Zk G (Ys (t:=118) G (fun h4=>?_) (fun h4=>?_))))) <;> simp only[NM]at h4
  ·refine ZE G (ZD G (Zq G (Yc (ZA G (Yf (Zl G (YG G (Zy G (Yd (o':=131) G G G (YA G G G G (.there (.there (.there .here))) (Yc (⟨_,(.cons _ (.cons _ (.refl _))),_,?_,G,G,G⟩))))))))))));refine⟨(by intro i hi;(repeat rw[XF (by omega)]);exact hJ.lo i hi),hJ.hi 128 (by omega),G,G,?_,hJ.hi 132 (by omega)⟩;have hb:=VY (P:=H) (k:=H 136) ha ht;rw[Ug];exact(ZcA (by omega)).symm
  refine Yb G (Zl G (Yb G (YG G (Yb G (Yd (o':=136) G G G (Yb G (Yd (o':=136) G G G (Yb G (Ym (x:=H 136) G G ZP (hJ.hi 136 (by omega)) (Yb G (Zr G (Zq G (Yc (Yj G (fun h5=>?_) (fun h5=>?_))))))))))))))) <;> simp only[NM]at h5
  ·refine Yf (Zl G (YG G (Zy G (Yd (o':=131) G G G (YA G G G G (.there (.there (.there .here))) (Yc (⟨_,(.cons _ (.cons _ (.refl _))),_,?_,G,G,G⟩)))))));refine⟨(by intro i hi;(repeat rw[XF (by omega)]);exact hJ.lo i hi),hJ.hi 128 (by omega),G,G,?_,hJ.hi 132 (by omega)⟩;have hb:=VY (P:=H) (k:=H 136) ha ht;rw[Ug];exact(ZcA (by omega)).symm
  refine Yh (⟨_,(.cons _ (.cons _ (.refl _))),_,?_,G,G,G⟩);refine⟨(by intro i hi;(repeat rw[XF (by omega)]);exact hJ.lo i hi),hJ.hi 128 (by omega),G,G,?_,hJ.hi 132 (by omega)⟩;have hb:=VY (P:=H) (k:=H 136) ha ht;rw[Ug];exact(Zcz (by omega)).symm
 obtain⟨J,hD,k0,k2,rfl⟩:=hI;refine Za 0 k0 (Za 2 k2 (Wz (fun f n L=>∃ (J:Nat->Int),(Done H J (VK H (Y7 H (H 136) (H 133) (H 134)) (H 133) (H 134) (H 136) (H 137) (H 135) (Y3 (H 136) (H 133) (H 134) (H 137) (H 129))) (VQ (H 129) (orM (orM 0 (Xx (H 133))) (Xx (H 134)))) (Uz (H 136) (H 133) (H 134) (H 137)) (Ug H (H 136) (Y7 H (H 136) (H 133) (H 134))) (QU H))/\(f 0=.ptr 0 0 138)/\(f 2=.ptr 1 0 133)/\(L=[(1,.sc .var 133 (ia fun _=>0)),(0,.sc .var 138 (ia J))])) ?_ (fun f nb L hI=>?_)))
 ·refine Ze (Zl G (YG G (Zy G (Yd (o':=128) G G G (Ym (x:=H 128) G G ZN (hD.s) (Zr G (Yc (Yj G (fun h6=>?_) (fun h6=>?_))))))))) <;> simp only[NM]at h6
  ·refine Yf (Zl G (Zl G (YG G (Zy G (Yd (o':=132) G G G (Ym (x:=H 132) G G ZN (hD.f) (Dw G G (Yr G G G (YG G (Zy G (Yd (o':=132) G G G (YA G G G G (.there .here) (Yc (⟨_,(.refl _),_,?_,G,G,G⟩))))))))))))));refine⟨(by intro i hi;(repeat rw[XF (by omega)]);exact hD.lo i hi),hD.s,hD.c,hD.o,hD.h,?_⟩;rw[QU];exact(ZcA (by assumption)).symm
  refine Yh (⟨_,(.refl _),_,?_,G,G,G⟩);refine⟨(by intro i hi;(repeat rw[XF (by omega)]);exact hD.lo i hi),hD.s,hD.c,hD.o,hD.h,?_⟩;rw[QU];exact hD.f.trans (Zcz (by assumption)).symm
 obtain⟨J,hE,k0,k2,rfl⟩:=hI;refine Za 0 k0 (Za 2 k2 (Ze (Zl G (Zl G (YG G (Zy G (Yd (o':=128) G G G (Ym (x:=H 128) G G ZN (hE.s) (Yt G (YP (VW _)) G G G (YG G (Zy G (Yd (o':=128) G G G (YA G G G G (.there .here) (Zf (Zl G (YG G (Zy G (Yo G G ZN (Yz G G G G .here (Yc (Yi (⟨_,XM G G ZM (YW),?_⟩))))))))))))))))))))));refine⟨_,congrArg (fun g=>V.agg 133 (ia g)) (funext fun i=>?_),ZN⟩;exact done_is hE i
structure HandOf(P m H:Nat->Int):Prop where
 lo:∀ i,i<129->H i=P i
 c:H 129=W7 P
 hi:∀ i,130<=i->i<133->H i=P i
 a:H 133=m 0
 t:H 134=m 1
 b:H 135=m 2
 k:H 136=P (sqI (m 0))
 s:H 137=P (sqI (m 0)+1)
def jr(P m:Nat->Int):Nat->Int:=ovA (ovA (ovA (fun _=>0) 0 133 P) 133 3 m) 136 2 (dp P (sqI (m 0)))
def J7{P m:Nat->Int}{i:Nat}(h:i<133):jr P m i=P i:=by
 unfold jr;rw[Wb (by omega),Wb (by omega),X3 (by omega),Nat.sub_zero]
def om{P m:Nat->Int}(h:0<=P 129/\P 129<=15):HandOf P m (jr P m) :=
 ⟨fun i hi=>J7 (by omega),by rw[J7 (by omega),W7,Zcz (by omega)],fun i _ hi=>J7 hi,rfl,rfl,rfl,rfl,rfl⟩
def jb{P m:Nat->Int}(h:P 129<0\/15<P 129):HandOf P m (ov (jr P m) 129 0) :=
 ⟨fun i hi=>by rw[XF (by omega)];exact J7 (by omega),by rw[W7,ZcA h];rfl,fun i h1 hi=>by rw[XF (by omega)];exact J7 hi,rfl,rfl,rfl,rfl,rfl⟩
def VZ{P:Nat->Int}{a t b:Int}(h:¬ (1<=P (sqI a)/\P (sqI a)<=6/\P (sqI a+1)=P 128/\(P (sqI a+1)=0\/P (sqI a+1)=1)/\(if P (sqI a)=1/\t/8=7*(1-P (sqI a+1)) then 2<=b/\b<=5 else b=0))):XI P a t b=false:=Zci h
def UL{P:Nat->Int}{a t b:Int}(h:1<=P (sqI a)/\P (sqI a)<=6/\P (sqI a+1)=P 128/\(P (sqI a+1)=0\/P (sqI a+1)=1)/\(if P (sqI a)=1/\t/8=7*(1-P (sqI a+1)) then 2<=b/\b<=5 else b=0)):XI P a t b=true:=Zcl h
def oN(P m:Nat->Int):WR AM 47 [.agg 133 (ia P),.agg 3 (ia m)] [] (fun v _ L=>(v=.tup [.pnil,.s (.int .i64 (Wj P (m 0) (m 1) (m 2)))]/\Wj P (m 0) (m 1) (m 2)≠0)\/(Wj P (m 0) (m 1) (m 2)=0/\∃ b H,v=.tup [.ptr b 0 138,.s (.int .i64 (Wj P (m 0) (m 1) (m 2)))]/\HandOf P m H/\(b,Blk.sc .var 138 (ia H))∈L)):=by
 refine YL (a:=a47) G G (YI _) (ZQ G) (m:=0) G (Ze (YC G (YC G (Yq G (Yq G (Yc (Ye (Ze (Zy G (Ym G G ZM G (Yt G (U4 _) G G G (Yv (r:=.bool _) G G (Zk G (Ys (t:=13) G (fun h7=>?_) (fun h7=>?_))))))))))))))) <;> simp only[NM]at h7
 ·try simp only[isM,Zb7,ZbJ]at h7
  refine ZE G (Zq G (Zk G (ZE G (ZC G (Zq G (Yc (ZA G (Ze (Yq G (Yq G (Yc (Yi (⟨_,YH (v:=.pnil) G (ZL G),?_⟩)))))))))))));have he:=UD (P:=P) (a:=m 0) (t:=m 1) (b:=m 2) (by omega);rw[he];exact .inl ⟨G,by decide⟩
 try simp only[isM,Zb7,ZbJ]at h7
 refine Yb G (Zz G (Yb G (Ym G G ZM G (Yb G (Yt G (U4 _) G G G (Yb G (Yv (r:=.bool _) G G (Zq G (Zk G (Ys (t:=19) G (fun h8=>?_) (fun h8=>?_))))))))))) <;> simp only[NM]at h8
 ·try simp only[isM,Zb7,ZbJ]at h8
  refine ZE G (ZC G (Zq G (Yc (ZA G (Ze (Yq G (Yq G (Yc (Yi (⟨_,YH (v:=.pnil) G (ZL G),?_⟩))))))))));have he:=UD (P:=P) (a:=m 0) (t:=m 1) (b:=m 2) (by omega);rw[he];exact .inl ⟨G,by decide⟩
 try simp only[isM,Zb7,ZbJ]at h8
 refine Yb G (Zy G (Yb G (Ym G G ZM G (Yb G (Zz G (Yb G (Ym G G ZM G (Yb G (Zr G (Zq G (Yc (Yj G (fun h9=>?_) (fun h9=>?_))))))))))))) <;> simp only[NM]at h9
 ·refine Ze (Yq G (Yq G (Yc (Yi (⟨_,YH (v:=.pnil) G (ZL G),?_⟩)))));have he:=UD (P:=P) (a:=m 0) (t:=m 1) (b:=m 2) (by omega);rw[he];exact .inl ⟨G,by decide⟩
 refine Yh (Ye (Yg (Yo G G ZN (Yo G G ZM (Zy G (Ym G G ZM G (Zy G (Zw G G G (Yp G G ZN (YB G (.agg G (.agg G (.agg G .nil))) (YC G (Zl G (Yc (Wz (fun f n L=>∃ (H:Nat->Int),(HandOf P m H)/\(0<=m 0/\m 0<64)/\(0<=m 1/\m 1<64)/\(m 0≠m 1)/\(f 2=.ptr 0 0 133)/\(f 3=.ptr 1 0 3)/\(f 6=.ptr 2 0 138)/\(L=[(2,.sc .var 138 (ia H)),(1,.sc .var 3 (ia m)),(0,.sc .var 133 (ia P))])/\(n=3)) ?_ (fun f nb L hI=>?_)))))))))))))))
 ·refine Ze (Zl G (YG G (Zy G (Yd (o':=129) G G G (Ym (x:=P 129) G G ZM (G) (Zr G (Zk G (Ys (t:=41) G (fun h10=>?_) (fun h10=>?_))))))))) <;> simp only[NM]at h10
  ·refine ZE G (ZD G (Zq G (Yc (ZA G (Yf (Zl G (YG G (Zy G (Yd (o':=129) G G G (YA G G G G .here (Yc (⟨_,(.refl _),_,?_,by omega,by omega,by omega,rfl,rfl,rfl,rfl,rfl⟩))))))))))));exact jb (.inl (by assumption))
  refine Yb G (Zl G (Yb G (YG G (Yb G (Zy G (Yb G (Yd (o':=129) G G G (Yb G (Ym (x:=P 129) G G ZM (G) (Yb G (Zr G (Zq G (Yc (Yj G (fun h11=>?_) (fun h11=>?_))))))))))))))) <;> simp only[NM]at h11
  ·refine Yf (Zl G (YG G (Zy G (Yd (o':=129) G G G (YA G G G G .here (Yc (⟨_,(.refl _),_,?_,by omega,by omega,by omega,rfl,rfl,rfl,rfl,rfl⟩)))))));exact jb (.inr (by assumption))
  refine Yh (⟨_,(.refl _),_,?_,by omega,by omega,by omega,rfl,rfl,rfl,rfl,rfl⟩);exact om ⟨by omega,by omega⟩
 obtain⟨H,hH,ha,ht,hat,k2,k3,k6,rfl,rfl⟩:=hI;refine Za 2 k2 (Za 3 k3 (Za 6 k6 (Ze (Zl G (YG G (Yd (o':=136) G G G (Yp G G ZM (Yy (Yz G G G G .here (Yc (Ye (Ze (Zy G (Ym (x:=P (sqI (m 0))) G G ZM (hH.k) (Zr G (Zk G (Ys (t:=60) G (fun h12=>?_) (fun h12=>?_)))))))))))))))))) <;> simp only[NM]at h12
 ·refine ZD G (ZC G (Zq G (Zk G (ZE G (ZC G (Zq G (Zk G (ZE G (YJ G (YJ G (YJ G (ZC G (Zq G (Yc (ZA G (Ze (Yq G (Yq G (Yc (Yi (⟨_,YH (v:=.pnil) G (ZL G),?_⟩)))))))))))))))))))));have hh:XI P (m 0) (m 1) (m 2)=false:=VZ (by first|omega|(split <;> omega));have he:=Wo (by omega) hh;rw[he];exact .inl ⟨G,by decide⟩
 refine Yb G (Zy G (Yb G (Ym (x:=P (sqI (m 0))) G G ZM (hH.k) (Yb G (Zr G (Zq G (Zk G (Ys (t:=65) G (fun h13=>?_) (fun h13=>?_))))))))) <;> simp only[NM]at h13
 ·refine ZE G (ZC G (Zq G (Zk G (ZE G (YJ G (YJ G (YJ G (ZC G (Zq G (Yc (ZA G (Ze (Yq G (Yq G (Yc (Yi (⟨_,YH (v:=.pnil) G (ZL G),?_⟩)))))))))))))))));have hh:XI P (m 0) (m 1) (m 2)=false:=VZ (by first|omega|(split <;> omega));have he:=Wo (by omega) hh;rw[he];exact .inl ⟨G,by decide⟩
 refine Yb G (Zz G (Yb G (Ym (x:=P (sqI (m 0)+1)) G G ZM (hH.s) (Yb G (Yd (o':=128) G G G (Yb G (Ym G G ZP G (Yb G (Zr G (Zq G (Zk G (Ys (t:=72) G (fun h14=>?_) (fun h14=>?_))))))))))))) <;> simp only[NM]at h14
 ·refine ZE G (YJ G (YJ G (YJ G (ZC G (Zq G (Yc (ZA G (Ze (Yq G (Yq G (Yc (Yi (⟨_,YH (v:=.pnil) G (ZL G),?_⟩)))))))))))));have hh:XI P (m 0) (m 1) (m 2)=false:=VZ (by first|omega|(split <;> omega));have he:=Wo (by omega) hh;rw[he];exact .inl ⟨G,by decide⟩
 refine Yb G (Zz G (Yb G (Ym (x:=P (sqI (m 0)+1)) G G ZM (hH.s) (Yb G (Zr G (Yb G (Zk G (Ys (t:=76) G (fun h15=>?_) (fun h15=>?_))))))))) <;> simp only[NM]at h15
 ·refine Yb G (Zz G (Yb G (Ym (x:=P (sqI (m 0)+1)) G G ZM (hH.s) (Yb G (Zr G (Yb G (Zq G (Zq G (Yc (Yj G (fun h16=>?_) (fun h16=>?_))))))))))) <;> simp only[NM]at h16
  ·refine Ze (Yq G (Yq G (Yc (Yi (⟨_,YH (v:=.pnil) G (ZL G),?_⟩)))));have hh:XI P (m 0) (m 1) (m 2)=false:=VZ (by first|omega|(split <;> omega));have he:=Wo (by omega) hh;rw[he];exact .inl ⟨G,by decide⟩
  refine Yh (Ye (Yg (Zy G (Ym (x:=P (sqI (m 0))) G G ZM (hH.k) (Zr G (Zk G (Ys (t:=85) G (fun h17=>?_) (fun h17=>?_)))))))) <;> simp only[NM]at h17
  ·refine Yb G (Zz G (Yb G (Ym G G ZO G (Yb G (Yu G (TI (by omega)) G G G (Yb G (Zz G (Yb G (Ym (x:=P (sqI (m 0)+1)) G G ZM (hH.s) (Yb G (Zt G G (Yb G (Wn G G (by omega) (Yb G (Zr G (Zq G (Zk G (Yc (Ye (Ze (Zk G (Zk G (Ys (t:=96) G (fun h18=>?_) (fun h18=>?_)))))))))))))))))))))))) <;> simp only[NM]at h18
   ·refine Yb G (Yd (o':=2) G G G (Yb G (Ym G G ZO G (Yb G (Zr G (Yb G (Zk G (Ys (t:=100) G (fun h19=>?_) (fun h19=>?_))))))))) <;> simp only[NM]at h19
    ·refine ZD G (ZC G (Yb G (Zq G (Zq G (Zk G (ZD G (ZC G (YJ G (YJ G (YJ G (ZC G (Zq G (Yc (ZA G (Ze (Yq G (Yq G (Yc (Yi (⟨_,YH (v:=.pnil) G (ZL G),?_⟩))))))))))))))))))));have hh:XI P (m 0) (m 1) (m 2)=false:=VZ (by first|omega|(split <;> omega));have he:=Wo (by omega) hh;rw[he];exact .inl ⟨G,by decide⟩
    refine Yb G (Yd (o':=2) G G G (Yb G (Ym G G ZO G (Yb G (Zr G (Yb G (Zq G (Zq G (Zk G (Ys (t:=106) G (fun h20=>?_) (fun h20=>?_))))))))))) <;> simp only[NM]at h20
    ·refine ZD G (ZC G (YJ G (YJ G (YJ G (ZC G (Zq G (Yc (ZA G (Ze (Yq G (Yq G (Yc (Yi (⟨_,YH (v:=.pnil) G (ZL G),?_⟩))))))))))))));have hh:XI P (m 0) (m 1) (m 2)=false:=VZ (by first|omega|(split <;> omega));have he:=Wo (by omega) hh;rw[he];exact .inl ⟨G,by decide⟩
    refine Yb G (Zk G (Yb G (Yv (r:=.bool _) G G (Yb G (Zk G (Ys (t:=109) G (fun h21=>?_) (fun h21=>?_))))))) <;> simp only[NM]at h21
    ·refine Yb G (Yd (o':=2) G G G (Yb G (Ym G G ZO G (Yb G (Zr G (Yb G (Zq G (Zq G (Yc (Yj G (fun h22=>?_) (fun h22=>?_))))))))))) <;> simp only[NM]at h22
     ·refine Ze (Yq G (Yq G (Yc (Yi (⟨_,YH (v:=.pnil) G (ZL G),?_⟩)))));have hh:XI P (m 0) (m 1) (m 2)=false:=VZ (by first|omega|(split <;> omega));have he:=Wo (by omega) hh;rw[he];exact .inl ⟨G,by decide⟩
     refine Yh (Ze (Zl G (Zl G (Yq G (Yc (Yi (⟨_,YH (v:=.ptr _ _ _) G (ZL G),?_⟩)))))));have hh:XI P (m 0) (m 1) (m 2)=true:=UL (by refine⟨by omega,by omega,by omega,by omega,?_⟩;first|omega|(split <;> omega));have he:=Vi (by omega) hh;rw[he];exact .inr ⟨G,_,H,G,hH,ZN⟩
    refine ZD G (ZC G (Yb G (Zq G (Zq G (Yc (ZB G (Yh (Ze (Zl G (Zl G (Yq G (Yc (Yi (⟨_,YH (v:=.ptr _ _ _) G (ZL G),?_⟩))))))))))))));have hh:XI P (m 0) (m 1) (m 2)=true:=UL (by refine⟨by omega,by omega,by omega,by omega,?_⟩;first|omega|(split <;> omega));have he:=Vi (by omega) hh;rw[he];exact .inr ⟨G,_,H,G,hH,ZN⟩
   refine ZE G (YJ G (YJ G (YJ G (ZC G (Zq G (Zk G (Yb G (Zk G (Yb G (Yv (r:=.bool _) G G (Yb G (Zk G (Ys (t:=109) G (fun h23=>?_) (fun h23=>?_)))))))))))))) <;> simp only[NM]at h23
   ·refine Yb G (Yd (o':=2) G G G (Yb G (Ym G G ZO G (Yb G (Zr G (Yb G (Zq G (Zq G (Yc (Yj G (fun h24=>?_) (fun h24=>?_))))))))))) <;> simp only[NM]at h24
    ·refine Ze (Yq G (Yq G (Yc (Yi (⟨_,YH (v:=.pnil) G (ZL G),?_⟩)))));have hh:XI P (m 0) (m 1) (m 2)=false:=VZ (by first|omega|(split <;> omega));have he:=Wo (by omega) hh;rw[he];exact .inl ⟨G,by decide⟩
    refine Yh (Ze (Zl G (Zl G (Yq G (Yc (Yi (⟨_,YH (v:=.ptr _ _ _) G (ZL G),?_⟩)))))));have hh:XI P (m 0) (m 1) (m 2)=true:=UL (by refine⟨by omega,by omega,by omega,by omega,?_⟩;first|omega|(split <;> omega));have he:=Vi (by omega) hh;rw[he];exact .inr ⟨G,_,H,G,hH,ZN⟩
   refine ZD G (ZC G (Yb G (Zq G (Zq G (Yc (ZB G (Yh (Ze (Zl G (Zl G (Yq G (Yc (Yi (⟨_,YH (v:=.ptr _ _ _) G (ZL G),?_⟩))))))))))))));have hh:XI P (m 0) (m 1) (m 2)=true:=UL (by refine⟨by omega,by omega,by omega,by omega,?_⟩;first|omega|(split <;> omega));have he:=Vi (by omega) hh;rw[he];exact .inr ⟨G,_,H,G,hH,ZN⟩
  refine ZF G (Zq G (Zk G (Yc (Ye (Ze (Zk G (Zk G (ZE G (YJ G (YJ G (YJ G (ZC G (Zq G (Zk G (Yb G (Zk G (Yb G (Yv (r:=.bool _) G G (Yb G (Zk G (Yb G (Yd (o':=2) G G G (Yb G (Ym G G ZO G (Yb G (Zr G (Yb G (Zq G (Zq G ?_)))))))))))))))))))))))))))));refine Yc (Yj G (fun h25=>?_) (fun h25=>?_)) <;> simp only[NM]at h25
  ·refine Ze (Yq G (Yq G (Yc (Yi (⟨_,YH (v:=.pnil) G (ZL G),?_⟩)))));have hh:XI P (m 0) (m 1) (m 2)=false:=VZ (by first|omega|(split <;> omega));have he:=Wo (by omega) hh;rw[he];exact .inl ⟨G,by decide⟩
  refine Yh (Ze (Zl G (Zl G (Yq G (Yc (Yi (⟨_,YH (v:=.ptr _ _ _) G (ZL G),?_⟩)))))));have hh:XI P (m 0) (m 1) (m 2)=true:=UL (by refine⟨by omega,by omega,by omega,by omega,?_⟩;first|omega|(split <;> omega));have he:=Vi (by omega) hh;rw[he];exact .inr ⟨G,_,H,G,hH,ZN⟩
 refine ZD G (ZC G (Yb G (Zq G (Zq G (Yc (ZB G (Yh (Ye (Yg (Zy G (Ym (x:=P (sqI (m 0))) G G ZM (hH.k) (Zr G (Zk G (Ys (t:=85) G (fun h26=>?_) (fun h26=>?_))))))))))))))) <;> simp only[NM]at h26
 ·refine Yb G (Zz G (Yb G (Ym G G ZO G (Yb G (Yu G (TI (by omega)) G G G (Yb G (Zz G (Yb G (Ym (x:=P (sqI (m 0)+1)) G G ZM (hH.s) (Yb G (Zt G G (Yb G (Wn G G (by omega) (Yb G (Zr G (Zq G (Zk G (Yc (Ye (Ze (Zk G (Zk G (Ys (t:=96) G (fun h27=>?_) (fun h27=>?_)))))))))))))))))))))))) <;> simp only[NM]at h27
  ·refine Yb G (Yd (o':=2) G G G (Yb G (Ym G G ZO G (Yb G (Zr G (Yb G (Zk G (Ys (t:=100) G (fun h28=>?_) (fun h28=>?_))))))))) <;> simp only[NM]at h28
   ·refine ZD G (ZC G (Yb G (Zq G (Zq G (Zk G (ZD G (ZC G (YJ G (YJ G (YJ G (ZC G (Zq G (Yc (ZA G (Ze (Yq G (Yq G (Yc (Yi (⟨_,YH (v:=.pnil) G (ZL G),?_⟩))))))))))))))))))));have hh:XI P (m 0) (m 1) (m 2)=false:=VZ (by first|omega|(split <;> omega));have he:=Wo (by omega) hh;rw[he];exact .inl ⟨G,by decide⟩
   refine Yb G (Yd (o':=2) G G G (Yb G (Ym G G ZO G (Yb G (Zr G (Yb G (Zq G (Zq G (Zk G (Ys (t:=106) G (fun h29=>?_) (fun h29=>?_))))))))))) <;> simp only[NM]at h29
   ·refine ZD G (ZC G (YJ G (YJ G (YJ G (ZC G (Zq G (Yc (ZA G (Ze (Yq G (Yq G (Yc (Yi (⟨_,YH (v:=.pnil) G (ZL G),?_⟩))))))))))))));have hh:XI P (m 0) (m 1) (m 2)=false:=VZ (by first|omega|(split <;> omega));have he:=Wo (by omega) hh;rw[he];exact .inl ⟨G,by decide⟩
   refine Yb G (Zk G (Yb G (Yv (r:=.bool _) G G (Yb G (Zk G (Ys (t:=109) G (fun h30=>?_) (fun h30=>?_))))))) <;> simp only[NM]at h30
   ·refine Yb G (Yd (o':=2) G G G (Yb G (Ym G G ZO G (Yb G (Zr G (Yb G (Zq G (Zq G (Yc (Yj G (fun h31=>?_) (fun h31=>?_))))))))))) <;> simp only[NM]at h31
    ·refine Ze (Yq G (Yq G (Yc (Yi (⟨_,YH (v:=.pnil) G (ZL G),?_⟩)))));have hh:XI P (m 0) (m 1) (m 2)=false:=VZ (by first|omega|(split <;> omega));have he:=Wo (by omega) hh;rw[he];exact .inl ⟨G,by decide⟩
    refine Yh (Ze (Zl G (Zl G (Yq G (Yc (Yi (⟨_,YH (v:=.ptr _ _ _) G (ZL G),?_⟩)))))));have hh:XI P (m 0) (m 1) (m 2)=true:=UL (by refine⟨by omega,by omega,by omega,by omega,?_⟩;first|omega|(split <;> omega));have he:=Vi (by omega) hh;rw[he];exact .inr ⟨G,_,H,G,hH,ZN⟩
   refine ZD G (ZC G (Yb G (Zq G (Zq G (Yc (ZB G (Yh (Ze (Zl G (Zl G (Yq G (Yc (Yi (⟨_,YH (v:=.ptr _ _ _) G (ZL G),?_⟩))))))))))))));have hh:XI P (m 0) (m 1) (m 2)=true:=UL (by refine⟨by omega,by omega,by omega,by omega,?_⟩;first|omega|(split <;> omega));have he:=Vi (by omega) hh;rw[he];exact .inr ⟨G,_,H,G,hH,ZN⟩
  refine ZE G (YJ G (YJ G (YJ G (ZC G (Zq G (Zk G (Yb G (Zk G (Yb G (Yv (r:=.bool _) G G (Yb G (Zk G (Ys (t:=109) G (fun h32=>?_) (fun h32=>?_)))))))))))))) <;> simp only[NM]at h32
  ·refine Yb G (Yd (o':=2) G G G (Yb G (Ym G G ZO G (Yb G (Zr G (Yb G (Zq G (Zq G (Yc (Yj G (fun h33=>?_) (fun h33=>?_))))))))))) <;> simp only[NM]at h33
   ·refine Ze (Yq G (Yq G (Yc (Yi (⟨_,YH (v:=.pnil) G (ZL G),?_⟩)))));have hh:XI P (m 0) (m 1) (m 2)=false:=VZ (by first|omega|(split <;> omega));have he:=Wo (by omega) hh;rw[he];exact .inl ⟨G,by decide⟩
   refine Yh (Ze (Zl G (Zl G (Yq G (Yc (Yi (⟨_,YH (v:=.ptr _ _ _) G (ZL G),?_⟩)))))));have hh:XI P (m 0) (m 1) (m 2)=true:=UL (by refine⟨by omega,by omega,by omega,by omega,?_⟩;first|omega|(split <;> omega));have he:=Vi (by omega) hh;rw[he];exact .inr ⟨G,_,H,G,hH,ZN⟩
  refine ZD G (ZC G (Yb G (Zq G (Zq G (Yc (ZB G (Yh (Ze (Zl G (Zl G (Yq G (Yc (Yi (⟨_,YH (v:=.ptr _ _ _) G (ZL G),?_⟩))))))))))))));have hh:XI P (m 0) (m 1) (m 2)=true:=UL (by refine⟨by omega,by omega,by omega,by omega,?_⟩;first|omega|(split <;> omega));have he:=Vi (by omega) hh;rw[he];exact .inr ⟨G,_,H,G,hH,ZN⟩
 refine ZF G (Zq G (Zk G (Yc (Ye (Ze (Zk G (Zk G (ZE G (YJ G (YJ G (YJ G (ZC G (Zq G (Zk G (Yb G (Zk G (Yb G (Yv (r:=.bool _) G G (Yb G (Zk G (Yb G (Yd (o':=2) G G G (Yb G (Ym G G ZO G (Yb G (Zr G (Yb G (Zq G (Zq G ?_)))))))))))))))))))))))))))));refine Yc (Yj G (fun h34=>?_) (fun h34=>?_)) <;> simp only[NM]at h34
 ·refine Ze (Yq G (Yq G (Yc (Yi (⟨_,YH (v:=.pnil) G (ZL G),?_⟩)))));have hh:XI P (m 0) (m 1) (m 2)=false:=VZ (by first|omega|(split <;> omega));have he:=Wo (by omega) hh;rw[he];exact .inl ⟨G,by decide⟩
 refine Yh (Ze (Zl G (Zl G (Yq G (Yc (Yi (⟨_,YH (v:=.ptr _ _ _) G (ZL G),?_⟩)))))));have hh:XI P (m 0) (m 1) (m 2)=true:=UL (by refine⟨by omega,by omega,by omega,by omega,?_⟩;first|omega|(split <;> omega));have he:=Vi (by omega) hh;rw[he];exact .inr ⟨G,_,H,G,hH,ZN⟩
def DI{P:Nat->Int}{a t b:Int}(h:Wj P a t b=0):((0<=a/\a<64)/\(0<=t/\t<64)/\a≠t)/\XI P a t b=true:=by
 unfold Wj at h;split at h
 ·rename_i h1;split at h
  ·rename_i h2;exact⟨h1,h2⟩
  omega
 omega
def D1{P:Nat->Int}{a t b:Int}(h:XI P a t b=true):P (sqI a+1)=0\/P (sqI a+1)=1:=(of_decide_eq_true h).2.2.2.1
def JW:ovA (fun _=>0) 0 133 (fun _=>0)=(fun _=>0:Nat->Int):=by
 funext i;by_cases h:i<133
 ·rw[X3 (by omega)]
 rw[Wb (by omega)]
def QG{Q:Nat->Int}(h:∀ i,133<=i->Q i=0):ovA (fun _=>0) 0 133 Q=Q:=by
 funext i;by_cases hi:i<133
 ·rw[X3 (by omega),Nat.sub_zero]
 rw[Wb (by omega),h i (by omega)]
def xi{P:Nat->Int}{k c a t b C:Int}{i:Nat}(hi:133<=i):Uq P k c a t b C i=0:=by
 unfold Uq;rw[Zcz (by omega),Zcz (by omega),Zcz (by omega),Zcz (by omega),Zcz (by omega),Zcz (by omega)]
def Q8{P:Nat->Int}{a t b:Int}{i:Nat}(hi:133<=i):XV P a t b i=0:=by
 unfold XV;split
 ·exact xi hi
 rfl
def gR{P Q:Nat->Int}{w a t k c b g:Int}(h:∀ i,i<128->P i=Q i):∀ i,i<128->VK P w a t k c b g i=VK Q w a t k c b g i:=by
 have h1:∀ i,i<128->DM P w i=DM Q w i:=by
  unfold DM;split
  ·exact Uw h fun _ _=>rfl
  exact h
 have h3:∀ i,i<128->EX P w a t k c b i=EX Q w a t k c b i:=Uw (Uw h1 fun _ _=>rfl) fun _ _=>rfl
 unfold VK;split
 ·exact Uw (Uw h3 fun _ _=>rfl) fun _ _=>rfl
 split
 ·exact Uw (Uw h3 fun _ _=>rfl) fun _ _=>rfl
 exact h3
def uu{P Q:Nat->Int}{k c a t b C:Int}(ha:0<=a/\a<64)(ht:0<=t/\t<64)(h:∀ i,i<133->i≠129->P i=Q i):Uq P k c a t b C=Uq Q k c a t b C:=by
 funext i;have ht2:Y7 P k a t=Y7 Q k a t:=ye ha ht (fun i hi=>h i (by omega) (by omega)) (h 130 (by omega) (by omega));unfold Uq;rw[ht2];by_cases h1:i<128
 ·rw[ZcA h1,ZcA h1];exact gR (fun i hi=>h i (by omega) (by omega)) i h1
 rw[Zcz h1,Zcz h1,h 128 (by omega) (by omega)];have hh:Ug P k (Y7 Q k a t)=Ug Q k (Y7 Q k a t):=by unfold Ug;rw[h 131 (by omega) (by omega)]
 have hf:QU P=QU Q:=by unfold QU;rw[h 128 (by omega) (by omega),h 132 (by omega) (by omega)]
 rw[hh,hf]
def HandOf.all{P m H:Nat->Int}(h:HandOf P m H):∀ i,i<133->i≠129->H i=P i:=fun i hi hn=>by
 by_cases hl:i<129
 ·exact h.lo i hl
 exact h.hi i (by omega) hi
def sU{P m H:Nat->Int}(h:HandOf P m H)(he:Wj P (m 0) (m 1) (m 2)=0):ovA (fun _=>0) 0 133 (Uq H (H 136) (H 137) (H 133) (H 134) (H 135) (H 129))=XV P (m 0) (m 1) (m 2):=by
 have⟨hs,_⟩:=DI he;rw[QG (fun i hi=>xi hi),h.a,h.t,h.b,h.k,h.s,h.c,XV,ZcA he];exact uu hs.1 hs.2.1 h.all
def jU(P m:Nat->Int):(Wj P (m 0) (m 1) (m 2)≠0/\RF AM 47 [.agg 133 (ia P),.agg 3 (ia m)] (.tup [.pnil,.s (.int .i64 (Wj P (m 0) (m 1) (m 2)))])) \/
  (Wj P (m 0) (m 1) (m 2)=0/\∃ H,HandOf P m H/\RN AM 47 [.agg 133 (ia P),.agg 3 (ia m)] [] (fun b=>.tup [.ptr b 0 138,.s (.int .i64 0)]) (.sc .var 138 (ia H)) []):=by
 obtain⟨v,σ',n',L',h1,h2,h3⟩:=oN P m
 rcases h3 with⟨rfl,he⟩|⟨he,b,H,rfl,hH,hm⟩
 ·exact .inl ⟨he,σ',h1⟩
 rw[he]at h1;exact .inr ⟨he,H,hH,b,σ',h1,Zct _,(h2.2.mem hm).2,trivial⟩
def made_ex{P m H:Nat->Int}(h:HandOf P m H)(he:Wj P (m 0) (m 1) (m 2)=0):∃ J,RB AM 50 [.ptr 0 0 138] [.sc .var 138 (ia H)] (.agg 133 (ia (Uq H (H 136) (H 137) (H 133) (H 134) (H 135) (H 129)))) [.sc .var 138 (ia J)]:=by
 have⟨hs,hc⟩:=DI he;obtain⟨v,σ',n',L',h1,h2,J,rfl,hm⟩:=ZaD H (by rw[h.a];exact hs.1) (by rw[h.t];exact hs.2.1) (by rw[h.s];exact D1 hc) (by rw[h.c];exact EO P);exact⟨J,σ',h1,(h2.2.mem hm).2,⟨_,_,_,G⟩,trivial⟩
def rt{P m H:Nat->Int}(h:HandOf P m H)(he:Wj P (m 0) (m 1) (m 2)=0):RB AM 48 [.ptr 0 0 138] [.sc .var 138 (ia H)] (.s (.int .i64 (Y7 P (P (sqI (m 0))) (m 0) (m 1)))) [.sc .var 138 (ia H)]:=by
 have⟨hs,hc⟩:=DI he;have hr:=V4 (qi (md:=.var) H (by rw[h.a];exact hs.1) (by rw[h.t];exact hs.2.1));rw[h.a,h.t,h.k,ye hs.1 hs.2.1 (fun i hi=>h.lo i (by omega)) (h.hi 130 (by omega) (by omega))]at hr;exact hr
def qS(P m:Nat->Int):WR AM 23 [.agg 133 (ia P),.agg 3 (ia m)] [] (fun v _ _=>v=.tup [.agg 133 (ia (XV P (m 0) (m 1) (m 2))),.s (.int .i64 (Wj P (m 0) (m 1) (m 2)))]):=by
 refine YL (a:=a23) G G (YI _) (ZQ G) (m:=0) G (Ze (YC G (YC G (Yy (Yq G (Zf (Yo G G ZO (Yo G G ZN ?_))))))));rcases jU P m with⟨he,hT⟩|⟨he,H,hH,hT⟩
 ·refine Yt G (hT) G G G (Zo G (YD (v:=.pnil) G G (YD (v:=.s (.int _ _)) G G (Yq (v:=.pnil) G (Zj G (Yc (Ye (Ze (Zj G (Zr G (Yc (Yj G (fun h1=>?_) (fun h1=>?_))))))))))))) <;> simp only[NM]at h1
  ·refine Ze (YB G .nil (Zj G (Yz G G G G .here (Zj G (Yc (Yi (⟨_,XM G G ZM (ZL G),?_⟩)))))));rw[XV,Zcz he];exact congrArg (fun g=>V.tup [V.agg 133 (ia g),V.s (.int .i64 (Wj P (m 0) (m 1) (m 2)))]) JW
  exfalso;first|omega|(simp at h1)
 refine KS (mk:=fun b=>.tup [.ptr b 0 138,.s (.int .i64 0)]) (rs:=[]) (Bs:=[]) vu G hT G G (YF G) (fun _ h=>h) G trivial G G .nil (Zo G (YD (v:=.ptr _ _ _) G G (YD (v:=.s (.int _ _)) G G (Zl G (Zj G (Yc (Ye (Ze (Zj G (Zr G (Yc (Yj G (fun h2=>?_) (fun h2=>?_))))))))))))) <;> simp only[NM]at h2
 ·exfalso;first|omega|(simp at h2)
 refine Yh (Ze (Zl G ?_));obtain⟨J,hJ⟩:=made_ex hH he;refine V7 G (hJ) G G G .here (Yz G G G G (.there .here) (Yq G (Yc (Yi (⟨_,XM G G ZN (ZL G),?_⟩)))));rw[he,<-sU hH he];rfl
def sV(P m:Nat->Int):WR AM 21 [.agg 133 (ia P),.agg 3 (ia m)] [] (fun v _ _=>v=.s (.int .i64 (if Wj P (m 0) (m 1) (m 2)=0 then Y7 P (P (sqI (m 0))) (m 0) (m 1) else -1))):=by
 refine YL (a:=a21) G G (YI _) (ZQ G) (m:=0) G (Ze (YC G (YC G (Yq G (Zf (Yo G G ZN (Yo G G ZM ?_)))))));rcases jU P m with⟨he,hT⟩|⟨he,H,hH,hT⟩
 ·refine Yt G (hT) G G G (Zo G (YD (v:=.pnil) G G (YD (v:=.s (.int _ _)) G G (Yq (v:=.pnil) G (Zj G (Yc (Ye (Ze (Zj G (Zr G (Yc (Yj G (fun h3=>?_) (fun h3=>?_))))))))))))) <;> simp only[NM]at h3
  ·refine Ze (Yq G (Yc (Yi (⟨_,ZL G,?_⟩))));rw[Zcz he];rfl
  exfalso;first|omega|(simp at h3)
 refine KS (mk:=fun b=>.tup [.ptr b 0 138,.s (.int .i64 0)]) (rs:=[]) (Bs:=[]) vu G hT G G (YF G) (fun _ h=>h) G trivial G G .nil (Zo G (YD (v:=.ptr _ _ _) G G (YD (v:=.s (.int _ _)) G G (Zl G (Zj G (Yc (Ye (Ze (Zj G (Zr G (Yc (Yj G (fun h4=>?_) (fun h4=>?_))))))))))))) <;> simp only[NM]at h4
 ·exfalso;first|omega|(simp at h4)
 refine Yh (Ze (Zl G (V7 G (rt hH he) G G G .here (Zj G (Yc (Yi (⟨_,ZL G,?_⟩)))))));rw[ZcA he];rfl
def gE{P m:Nat->Int}(he:Wj P (m 0) (m 1) (m 2)=0):RF AM 28 [.agg 133 (ia P),.agg 3 (ia m)] (.s (.int .i64 (Y7 P (P (sqI (m 0))) (m 0) (m 1)))):=by
 have h:=YP (tP P m);rw[ZcA he]at h;exact h
def uh{P m:Nat->Int}:RF AM 62 [.s (.int .i64 (Vo (W7 P) (Xx (m 0)))),.s (.int .i64 (Xx (m 1)))] (.s (.int .i64 (VQ (W7 P) (orM (orM 0 (Xx (m 0))) (Xx (m 1)))))):=by
 have h:=YP (yg (Vo (W7 P) (Xx (m 0))) (Xx (m 1)) (zU _ _) (jR _));rw[sb (EO P)]at h;exact h
structure SameP(P J B:Nat->Int):Prop where
 lo:∀ i,i<128->J i=B i
 hi:∀ i,128<=i->i<133->J i=P i
def SameP.put{P J B X Y:Nat->Int}{t:Int}(j:SameP P J B)(ht:0<=t/\t<64)(hx:∀ i,i<2->X i=Y i):SameP P (ovA J (0+t.toNat*2) 2 X) (ovA B (sqI t) 2 Y) :=
 ⟨Uw j.lo hx,fun i h1 h2=>by rw[Wb (by omega)];exact j.hi i h1 h2⟩
def SameP.kind{P J B X Y:Nat->Int}{t b:Int}(j:SameP P (ovA J (0+t.toNat*2) 2 X) (ovA B (sqI t) 2 X))(ht:0<=t/\t<64)(h0:Y 0=b)(h1:Y 1=X 1):SameP P (ov (ovA J (0+t.toNat*2) 2 X) (0+t.toNat*2+0) b) (ovA B (sqI t) 2 Y):=by
 have hsq:sqI t=0+t.toNat*2:=rfl;refine⟨fun i hi=>?_,fun i h1 h2=>by rw[XF (by omega)];exact j.hi i h1 h2⟩;have hj:=j.lo i hi;by_cases q:i=0+t.toNat*2+0
 ·subst q;rw[X3 (by omega),show 0+t.toNat*2+0-sqI t=0 from by show 0+t.toNat*2+0-(0+t.toNat*2)=0;omega,h0];show(bif Nat.beq _ _ then b else _)=b;rw[show Nat.beq (0+t.toNat*2+0) (0+t.toNat*2+0)=true from by simp];rfl
 rw[XF q,hj];by_cases r:sqI t<=i/\i<sqI t+2
 ·have e:i-sqI t=1:=by
   have:sqI t=0+t.toNat*2:=rfl;omega
  rw[X3 r,X3 r,e,h1]
 rw[Wb (by omega),Wb (by omega)]
structure DoneP(P J B:Nat->Int)(s cs ovr hf fl:Int):Prop where
 lo:∀ i,i<128->J i=B i
 s:J 128=s
 c:J 129=cs
 o:J 130=ovr
 h:J 131=hf
 f:J 132=fl
def gN{P J:Nat->Int}{k c a t b C:Int}(h:DoneP P J (VK P (Y7 P k a t) a t k c b (Y3 k a t c C)) (XT (P 128)) (VQ C (orM (orM 0 (Xx a)) (Xx t))) (Uz k a t c) (Ug P k (Y7 P k a t)) (QU P)):ovA (fun _=>0) 0 133 J=Uq P k c a t b C:=by
 funext i;unfold Uq;by_cases hi:i<133
 ·rw[X3 (by omega),Nat.sub_zero];by_cases h1:i<128
  ·rw[ZcA h1];exact h.lo i h1
  rw[Zcz h1];have hc:i=128\/i=129\/i=130\/i=131\/i=132:=by omega
  rcases hc with rfl|rfl|rfl|rfl|rfl
  ·exact h.s
  ·exact h.c
  ·exact h.o
  ·exact h.h
  exact h.f
 rw[Wb (by omega),Zcz (by omega),Zcz (by omega),Zcz (by omega),Zcz (by omega),Zcz (by omega),Zcz (by omega)]
def Ew(P m:Nat->Int):WR AM 30 [.agg 133 (ia P),.agg 3 (ia m)] [] (fun v _ _=>v=.tup [.agg 133 (ia (XV P (m 0) (m 1) (m 2))),.s (.int .i64 (Wj P (m 0) (m 1) (m 2)))]):=by
 refine YL (a:=a30) G G (YI _) (ZQ G) (m:=0) G (Ze (YC G (YC G (Yy (Yq G (Yc (Ye (Ze (Zy G (Ym G G ZN G (Yt G (YP (zo _)) G G G (Yv (r:=.bool _) G G (Zk G (Ys (t:=13) G (fun h5=>?_) (fun h5=>?_))))))))))))))) <;> simp only[NM]at h5
 ·try simp only[isM,Zb7,ZbJ]at h5
  refine ZE G (Zq G (Zk G (ZE G (ZC G (Zq G (Yc (ZA G (Ze (YB G .nil (Yz G G G G .here (Yq G (Yc (Yi (⟨_,XM G G ZM (ZL G),?_⟩))))))))))))));have h6:=UD (P:=P) (a:=m 0) (t:=m 1) (b:=m 2) (by omega);rw[XV,h6,Zcz (by decide)];exact congrArg (fun g=>V.tup [V.agg 133 (ia g),V.s (.int .i64 6)]) JW
 try simp only[isM,Zb7,ZbJ]at h5
 refine Yb G (Zz G (Yb G (Ym G G ZN G (Yb G (Yt G (YP (zo _)) G G G (Yb G (Yv (r:=.bool _) G G (Zq G (Zk G (Ys (t:=19) G (fun h6=>?_) (fun h6=>?_))))))))))) <;> simp only[NM]at h6
 ·try simp only[isM,Zb7,ZbJ]at h6
  refine ZE G (ZC G (Zq G (Yc (ZA G (Ze (YB G .nil (Yz G G G G .here (Yq G (Yc (Yi (⟨_,XM G G ZM (ZL G),?_⟩)))))))))));have h6:=UD (P:=P) (a:=m 0) (t:=m 1) (b:=m 2) (by omega);rw[XV,h6,Zcz (by decide)];exact congrArg (fun g=>V.tup [V.agg 133 (ia g),V.s (.int .i64 6)]) JW
 try simp only[isM,Zb7,ZbJ]at h6
 refine Yb G (Zy G (Yb G (Ym G G ZN G (Yb G (Zz G (Yb G (Ym G G ZN G (Yb G (Zr G (Zq G (Yc (Yj G (fun h7=>?_) (fun h7=>?_))))))))))))) <;> simp only[NM]at h7
 ·refine Ze (YB G .nil (Yz G G G G .here (Yq G (Yc (Yi (⟨_,XM G G ZM (ZL G),?_⟩))))));have h6:=UD (P:=P) (a:=m 0) (t:=m 1) (b:=m 2) (by omega);rw[XV,h6,Zcz (by decide)];exact congrArg (fun g=>V.tup [V.agg 133 (ia g),V.s (.int .i64 6)]) JW
 refine Yh (Ye (Ze (Yo G G ZO (Yo G G ZN (Yt G (YP (kK _ _ (by assumption) (by assumption))) G G G (Yv (r:=.bool _) G G (Yc (Yj G (fun h8=>?_) (fun h8=>?_))))))))) <;> simp only[NM]at h8
 ·refine Ze (YB G .nil (Yz G G G G .here (Yq G (Yc (Yi (⟨_,XM G G ZM (ZL G),?_⟩))))));have h8:=Wo (P:=P) (a:=m 0) (t:=m 1) (b:=m 2) ⟨by assumption,by assumption,by assumption⟩ (by assumption);rw[XV,h8,Zcz (by decide)];exact congrArg (fun g=>V.tup [V.agg 133 (ia g),V.s (.int .i64 8)]) JW
 refine Yh (Ze (Zy G (Ym G G ZN G (Zy G ?_))));refine Vr G G G (by first|omega|(have:=hca (by omega);omega)) ?_;refine Yp G G ZO (Yy (Yz G G G G .here (Zf (Yo G G ZP (Yy (Yz G G G G .here (Zf (Yo G G (.tail _ ZP) (Yo G G ZP ?_)))))))));have hs:(0<=m 0/\m 0<64)/\(0<=m 1/\m 1<64)/\m 0≠m 1:=⟨by assumption,by assumption,by assumption⟩
 have hcan:XI P (m 0) (m 1) (m 2)=true:=by assumption
 have he:=Vi hs hcan;have hb:=VY (P:=P) (k:=(P (sqI (m 0)))) hs.1 hs.2.1;refine Yt G (gE he) G G G (Zj G (Yc (Wz (fun f n L=>∃ (X J:Nat->Int),(Wj P (m 0) (m 1) (m 2)=0)/\(0<=m 0/\m 0<64)/\(0<=m 1/\m 1<64)/\((P (sqI (m 0)+1))=0\/(P (sqI (m 0)+1))=1)/\(X 0=(P (sqI (m 0))))/\(X 1=(P (sqI (m 0)+1)))/\(SameP P J (DM P (Y7 P (P (sqI (m 0))) (m 0) (m 1))))/\(f 2=.ptr 0 0 133)/\(f 3=.ptr 1 0 3)/\(f 4=.ptr 2 0 133)/\(f 6=.ptr 3 0 2)/\(f 7=.ptr 4 0 133)/\(f 8=.s (.int .i64 (Y7 P (P (sqI (m 0))) (m 0) (m 1))))/\(L=[(4,.sc .var 133 (ia J)),(3,.sc .var 2 (ia X)),(2,.sc .var 133 (ia fun _=>0)),(1,.sc .var 3 (ia m)),(0,.sc .var 133 (ia P))])/\(n=5)) ?_ (fun f nb L hI=>?_))))
 ·refine Ze (Zj G (Zr G (Yc (Yj G (fun h9=>?_) (fun h9=>?_))))) <;> simp only[NM]at h9
  ·refine Yf (Zj G (YB G .nil (Zy G ?_)));refine Vr G G G (by first|omega|(have:=hca (by omega);omega)) ?_;refine Yz G G G G .here (Yc (⟨_,(.refl _),_,_,he,hs.1,hs.2.1,D1 hcan,?_,?_,?_,G,G,G,G,G,G,G,G⟩))
   · rfl
   · rfl
   have h0 : SameP P (ovA (fun _=> 0) 0 133 P) P := ⟨fun i hi=> by rw[X3 (by omega),Nat.sub_zero],fun i _ hi=> by rw[X3 (by omega),Nat.sub_zero]⟩;have hb:=VY (P:=P) (k:=(P (sqI (m 0)))) hs.1 hs.2.1;rw[DM];(rw[ZcA (by assumption)];exact h0.put (by omega) (fun _ _=>rfl))
  refine Yh (⟨_,(.refl _),_,_,he,hs.1,hs.2.1,D1 hcan,?_,?_,?_,G,G,G,G,G,G,G,G⟩)
  · rfl
  · rfl
  have h0 : SameP P (ovA (fun _=> 0) 0 133 P) P := ⟨fun i hi=> by rw[X3 (by omega),Nat.sub_zero],fun i _ hi=> by rw[X3 (by omega),Nat.sub_zero]⟩;have hb:=VY (P:=P) (k:=(P (sqI (m 0)))) hs.1 hs.2.1;rw[DM];(rw[Zcz (by omega)];exact h0)
 obtain⟨X,J,he,ha,ht,hc,hx0,hx1,hJ,k2,k3,k4,k6,k7,k8,rfl,rfl⟩:=hI;refine Za 2 k2 (Za 3 k3 (Za 4 k4 (Za 6 k6 (Za 7 k7 (Za 8 k8 ?_)))));have hb:=VY (P:=P) (k:=(P (sqI (m 0)))) ha ht;refine Ze (Zy G (Ym G G ZP G (YB G .nil (Zy G ?_))));refine Vr G G G (by first|omega|(have:=hca (by omega);omega)) ?_;refine Yz G G G G .here (Zf (Zz G (Ym G G ZP G (Yo G G ZN (Zy G ?_)))));refine Vr G G G (by first|omega|(have:=hca (by omega);omega)) ?_;refine Yz G G G G .here (Yc (Wz (fun f n L=>∃ (J:Nat->Int),(SameP P J (EX P (Y7 P (P (sqI (m 0))) (m 0) (m 1)) (m 0) (m 1) (P (sqI (m 0))) (P (sqI (m 0)+1)) (m 2)))/\(f 2=.ptr 0 0 133)/\(f 3=.ptr 1 0 3)/\(f 4=.ptr 2 0 133)/\(f 6=.ptr 3 0 2)/\(f 7=.ptr 4 0 133)/\(f 8=.s (.int .i64 (Y7 P (P (sqI (m 0))) (m 0) (m 1))))/\(L=[(4,.sc .var 133 (ia J)),(3,.sc .var 2 (ia X)),(2,.sc .var 133 (ia fun _=>0)),(1,.sc .var 3 (ia m)),(0,.sc .var 133 (ia P))])/\(n=5)) ?_ (fun f nb L hI=>?_)))
 ·refine Ze (Yd (o':=2) G G G (Ym G G ZP G (Zr G (Yc (Yj G (fun h10=>?_) (fun h10=>?_)))))) <;> simp only[NM]at h10
  ·refine Yf (Zz G (Ym G G ZP G (Yd (o':=2) G G G (Ym G G ZP G (Zy G ?_)))));refine Vr G G G (by first|omega|(have:=hca (by omega);omega)) ?_;refine Yd G G G (YA G G G G .here (Yc (⟨_,(.refl _),_,?_,G,G,G,G,G,G,G,G⟩)));have h2:=(hJ.put (X:=fun _=>0) (Y:=yW) ha (fun _ _=>rfl)).put (X:=X) (Y:=X) ht (fun _ _=>rfl);exact h2.kind (Y:=pc (if m 2=0 then (P (sqI (m 0))) else m 2) (P (sqI (m 0)+1))) ht (show(if m 2=0 then (P (sqI (m 0))) else m 2)=m 2 from Zcz (by assumption)) hx1.symm
  refine Yh (⟨_,(.refl _),_,?_,G,G,G,G,G,G,G,G⟩);have h2:=(hJ.put (X:=fun _=>0) (Y:=yW) ha (fun _ _=>rfl)).put (X:=X) (Y:=X) ht (fun _ _=>rfl);exact(hJ.put (X:=fun _=>0) (Y:=yW) ha (fun _ _=>rfl)).put (X:=X) ht (two (Y:=pc (if m 2=0 then (P (sqI (m 0))) else m 2) (P (sqI (m 0)+1))) (hx0.trans (ZcA (by assumption)).symm) hx1)
 obtain⟨J,hJ,k2,k3,k4,k6,k7,k8,rfl,rfl⟩:=hI;refine Za 2 k2 (Za 3 k3 (Za 4 k4 (Za 6 k6 (Za 7 k7 (Za 8 k8 ?_)))));have hb:=VY (P:=P) (k:=(P (sqI (m 0)))) ha ht;refine Wz (fun f n L=>∃ (J:Nat->Int),(SameP P J (VK P (Y7 P (P (sqI (m 0))) (m 0) (m 1)) (m 0) (m 1) (P (sqI (m 0))) (P (sqI (m 0)+1)) (m 2) (Y3 (P (sqI (m 0))) (m 0) (m 1) (P (sqI (m 0)+1)) (W7 P))))/\(f 2=.ptr 0 0 133)/\(f 3=.ptr 1 0 3)/\(f 4=.ptr 2 0 133)/\(f 6=.ptr 3 0 2)/\(f 7=.ptr 4 0 133)/\(f 8=.s (.int .i64 (Y7 P (P (sqI (m 0))) (m 0) (m 1))))/\(L=[(4,.sc .var 133 (ia J)),(3,.sc .var 2 (ia X)),(2,.sc .var 133 (ia fun _=>0)),(1,.sc .var 3 (ia m)),(0,.sc .var 133 (ia P))])/\(n=5)) ?_ (fun f nb L hI=>?_)
 ·refine Ze (Yo G G (.tail _ ZP) (Yo G G ZP ?_));have hca:=TY (k:=(P (sqI (m 0)))) (a:=m 0) (t:=m 1) (c:=(P (sqI (m 0)+1))) (C:=W7 P);refine Yt G (YP (jn P m hc ha ht)) G G G ?_;obtain⟨g,hg⟩:∃ g,g=(Y3 (P (sqI (m 0))) (m 0) (m 1) (P (sqI (m 0)+1)) (W7 P)):=⟨_,rfl⟩
  rw[<-hg]at hca ⊢;refine Yc (Yk (Ze (Zr G (Zk G (Yc (Yj G (fun h11=>?_) (fun h11=>?_))))))) <;> simp only[NM]at h11
  ·refine Ze (Zy G (Ym G G ZP G ?_));refine Ur G G (by first|omega|(have:=hca (by omega);omega)) ?_;refine YB G .nil (Zy G ?_);refine Vr G G G (by first|omega|(have:=hca (by omega);omega)) ?_;refine Yz G G G G .here (Yc (Yf (Zy G (Ym G G ZP G ?_))));refine Ur G G (by first|omega|(have:=hca (by omega);omega)) ?_;refine Zz G (Ym (x:=X 1) G G ZN (G) (YB G (.one G (.one G .nil)) (Zy G ?_)));refine Vr G G G (by first|omega|(have:=hca (by omega);omega)) ?_;refine Yz G G G G .here (Yc (⟨_,(.refl _),_,?_,G,G,G,G,G,G,G,G⟩));rw[VK];(rw[ZcA (by assumption)];exact(hJ.put (by omega) (fun _ _=>rfl)).put (by omega) (two rfl hx1))
  refine Ze (Zr G (Zk G (Yc (Yj G (fun h12=>?_) (fun h12=>?_))))) <;> simp only[NM]at h12
  ·refine Ze (Zy G (Ym G G ZP G ?_));refine jJ G G (by first|omega|(have:=hca (by omega);omega)) ?_;refine YB G .nil (Zy G ?_);refine Vr G G G (by first|omega|(have:=hca (by omega);omega)) ?_;refine Yz G G G G .here (Yc (Yf (Zy G (Ym G G ZP G ?_))));refine jJ G G (by first|omega|(have:=hca (by omega);omega)) ?_;refine Zz G (Ym (x:=X 1) G G ZN (G) (YB G (.one G (.one G .nil)) (Zy G ?_)));refine Vr G G G (by first|omega|(have:=hca (by omega);omega)) ?_;refine Yz G G G G .here (Yc (⟨_,(.refl _),_,?_,G,G,G,G,G,G,G,G⟩));rw[VK];(rw[Zcz (by assumption),ZcA (by assumption)];exact(hJ.put (by omega) (fun _ _=>rfl)).put (by omega) (two rfl hx1))
  refine Yh (⟨_,(.refl _),_,?_,G,G,G,G,G,G,G,G⟩);rw[VK];(rw[Zcz (by assumption),Zcz (by assumption)];exact hJ)
 obtain⟨J,hJ,k2,k3,k4,k6,k7,k8,rfl,rfl⟩:=hI;refine Za 2 k2 (Za 3 k3 (Za 4 k4 (Za 6 k6 (Za 7 k7 (Za 8 k8 (Ze (Yd (o':=128) G G G (Ym (x:=P 128) G G (.tail _ ZP) (G) (Yt G (YP (sT _)) G G G (Yd (o':=128) G G G (YA G G G G .here (Yc (Ye (Yg (Yo G G (.tail _ ZP) (Yu G (YP (VG _)) G G G (Zy G (Ym G G ZP G (Yu G (YP (w9 _)) G G G (Yu G (YP (yg _ _ (EO P) (jR _))) G G G (Zz G (Ym G G ZP G (Yt G (YP (w9 _)) G G G (Yt G (uh) G G G (Yd (o':=129) G G G (YA G G G G .here (Zf (Yd (o':=130) G G G (YA G G G G .here ?_)))))))))))))))))))))))))))));refine Yc (Wz (fun f n L=>∃ (J:Nat->Int),(DoneP P J (VK P (Y7 P (P (sqI (m 0))) (m 0) (m 1)) (m 0) (m 1) (P (sqI (m 0))) (P (sqI (m 0)+1)) (m 2) (Y3 (P (sqI (m 0))) (m 0) (m 1) (P (sqI (m 0)+1)) (W7 P))) (XT (P 128)) (VQ (W7 P) (orM (orM 0 (Xx (m 0))) (Xx (m 1)))) (Uz (P (sqI (m 0))) (m 0) (m 1) (P (sqI (m 0)+1))) (P 131) (P 132))/\(f 2=.ptr 0 0 133)/\(f 3=.ptr 1 0 3)/\(f 4=.ptr 2 0 133)/\(f 6=.ptr 3 0 2)/\(f 7=.ptr 4 0 133)/\(f 8=.s (.int .i64 (Y7 P (P (sqI (m 0))) (m 0) (m 1))))/\(L=[(4,.sc .var 133 (ia J)),(3,.sc .var 2 (ia X)),(2,.sc .var 133 (ia fun _=>0)),(1,.sc .var 3 (ia m)),(0,.sc .var 133 (ia P))])/\(n=5)) ?_ (fun f nb L hI=>?_))
 ·refine Ze (Yo G G ZN (Yo G G ZP (Yt G (YP (pa X m (by rw[hx1];exact hc) ha ht)) G G G (Yc (Yj G (fun h13=>?_) (fun h13=>?_))))))
  ·refine Yf (Zy G (Ym G G ZP G (Zz G (Ym G G ZP G ?_))));refine Ur G G (by first|omega|(have:=hca (by omega);omega)) ?_;refine py G G (by first|omega|(have:=hca (by omega);omega)) ?_;refine Yd (o':=130) G G G (YA G G G G .here (Yc (⟨_,(.refl _),_,?_,G,G,G,G,G,G,G,G⟩)));refine⟨(by intro i hi;(repeat rw[XF (by omega)]);exact hJ.lo i hi),G,G,?_,hJ.hi 131 (by omega) (by omega),hJ.hi 132 (by omega) (by omega)⟩;rw[Uz,<-hx0,<-hx1];(rw[ZcA (by assumption)];rfl)
  refine Yh (⟨_,(.refl _),_,?_,G,G,G,G,G,G,G,G⟩);refine⟨(by intro i hi;(repeat rw[XF (by omega)]);exact hJ.lo i hi),G,G,?_,hJ.hi 131 (by omega) (by omega),hJ.hi 132 (by omega) (by omega)⟩;rw[Uz,<-hx0,<-hx1];(rw[Zcz (Bool.eq_false_iff.1 (by assumption))];rfl)
 obtain⟨J,hD,k2,k3,k4,k6,k7,k8,rfl,rfl⟩:=hI;refine Za 2 k2 (Za 3 k3 (Za 4 k4 (Za 6 k6 (Za 7 k7 (Za 8 k8 (Ze (Yd (o':=131) G G G (Ym (x:=P 131) G G (.tail _ ZP) (G) (Dw G G (Yr G G G (Yd (o':=131) G G G (YA G G G G .here (Yc (Wz (fun f n L=>∃ (J:Nat->Int),(DoneP P J (VK P (Y7 P (P (sqI (m 0))) (m 0) (m 1)) (m 0) (m 1) (P (sqI (m 0))) (P (sqI (m 0)+1)) (m 2) (Y3 (P (sqI (m 0))) (m 0) (m 1) (P (sqI (m 0)+1)) (W7 P))) (XT (P 128)) (VQ (W7 P) (orM (orM 0 (Xx (m 0))) (Xx (m 1)))) (Uz (P (sqI (m 0))) (m 0) (m 1) (P (sqI (m 0)+1))) (Ug P (P (sqI (m 0))) (Y7 P (P (sqI (m 0))) (m 0) (m 1))) (P 132))/\(f 2=.ptr 0 0 133)/\(f 3=.ptr 1 0 3)/\(f 4=.ptr 2 0 133)/\(f 6=.ptr 3 0 2)/\(f 7=.ptr 4 0 133)/\(f 8=.s (.int .i64 (Y7 P (P (sqI (m 0))) (m 0) (m 1))))/\(L=[(4,.sc .var 133 (ia J)),(3,.sc .var 2 (ia X)),(2,.sc .var 133 (ia fun _=>0)),(1,.sc .var 3 (ia m)),(0,.sc .var 133 (ia P))])/\(n=5)) ?_ (fun f nb L hI=>?_)))))))))))))))
 ·refine Ze (Zy G (Ym (x:=(P (sqI (m 0)))) G G ZN (hx0) (Zr G (Zk G (Ys (t:=136) G (fun h14=>?_) (fun h14=>?_)))))) <;> simp only[NM]at h14
  ·refine ZD G (Zq G (Yc (ZA G (Yf (Yd (o':=131) G G G (YA G G G G .here (Yc (⟨_,(.refl _),_,?_,G,G,G,G,G,G,G,G⟩))))))));refine⟨(by intro i hi;(repeat rw[XF (by omega)]);exact hD.lo i hi),hD.s,hD.c,hD.o,?_,hD.f⟩;rw[Ug];(rw[ZcA (.inl (by assumption))];rfl)
  refine Yb G (Zj G (Yb G (Zr G (Zq G (Yc (Yj G (fun h15=>?_) (fun h15=>?_))))))) <;> simp only[NM]at h15
  ·refine Yf (Yd (o':=131) G G G (YA G G G G .here (Yc (⟨_,(.refl _),_,?_,G,G,G,G,G,G,G,G⟩))));refine⟨(by intro i hi;(repeat rw[XF (by omega)]);exact hD.lo i hi),hD.s,hD.c,hD.o,?_,hD.f⟩;rw[Ug];(rw[ZcA (.inr (by assumption))];rfl)
  refine Yh (⟨_,(.refl _),_,?_,G,G,G,G,G,G,G,G⟩);refine⟨(by intro i hi;(repeat rw[XF (by omega)]);exact hD.lo i hi),hD.s,hD.c,hD.o,?_,hD.f⟩;rw[Ug];(rw[Zcz (by omega)];rfl)
 obtain⟨J,hD,k2,k3,k4,k6,k7,k8,rfl,rfl⟩:=hI;refine Za 2 k2 (Za 3 k3 (Za 4 k4 (Za 6 k6 (Za 7 k7 (Za 8 k8 (Wz (fun f n L=>∃ (J:Nat->Int),(DoneP P J (VK P (Y7 P (P (sqI (m 0))) (m 0) (m 1)) (m 0) (m 1) (P (sqI (m 0))) (P (sqI (m 0)+1)) (m 2) (Y3 (P (sqI (m 0))) (m 0) (m 1) (P (sqI (m 0)+1)) (W7 P))) (XT (P 128)) (VQ (W7 P) (orM (orM 0 (Xx (m 0))) (Xx (m 1)))) (Uz (P (sqI (m 0))) (m 0) (m 1) (P (sqI (m 0)+1))) (Ug P (P (sqI (m 0))) (Y7 P (P (sqI (m 0))) (m 0) (m 1))) (QU P))/\(f 2=.ptr 0 0 133)/\(f 3=.ptr 1 0 3)/\(f 4=.ptr 2 0 133)/\(f 6=.ptr 3 0 2)/\(f 7=.ptr 4 0 133)/\(f 8=.s (.int .i64 (Y7 P (P (sqI (m 0))) (m 0) (m 1))))/\(L=[(4,.sc .var 133 (ia J)),(3,.sc .var 2 (ia X)),(2,.sc .var 133 (ia fun _=>0)),(1,.sc .var 3 (ia m)),(0,.sc .var 133 (ia P))])/\(n=5)) ?_ (fun f nb L hI=>?_)))))))
 ·refine Ze (Yd (o':=128) G G G (Ym (x:=P 128) G G (.tail _ ZP) (G) (Zr G (Yc (Yj G (fun h16=>?_) (fun h16=>?_)))))) <;> simp only[NM]at h16
  ·refine Yf (Yd (o':=132) G G G (Ym (x:=P 132) G G (.tail _ ZP) (G) (Dw G G (Yr G G G (Yd (o':=132) G G G (YA G G G G .here (Yc (⟨_,(.refl _),_,?_,G,G,G,G,G,G,G,G⟩))))))));refine⟨(by intro i hi;(repeat rw[XF (by omega)]);exact hD.lo i hi),hD.s,hD.c,hD.o,hD.h,?_⟩;rw[QU];(rw[ZcA (by assumption)];rfl)
  refine Yh (⟨_,(.refl _),_,?_,G,G,G,G,G,G,G,G⟩);refine⟨(by intro i hi;(repeat rw[XF (by omega)]);exact hD.lo i hi),hD.s,hD.c,hD.o,hD.h,?_⟩;rw[QU];(rw[Zcz (by assumption)];exact hD.f)
 obtain⟨J,hD,k2,k3,k4,k6,k7,k8,rfl,rfl⟩:=hI;refine Za 2 k2 (Za 3 k3 (Za 4 k4 (Za 6 k6 (Za 7 k7 (Za 8 k8 (Ze (Yo G G ZM (Yz G G G G (.there (.there .here)) (Yq G (Yc (Yi (⟨_,XM G G ZO (ZL G),?_⟩))))))))))));rw[XV,he,ZcA rfl,<-gN hD];rfl
def Jc(P:Nat->Int)(a t:Int):Bool:=decide (P (sqI a)=6/\(t-a=2\/t-a=-2))
def jq(P:Nat->Int)(l:List Int):Bool:=!(l.any (QM P (XT (P 128))))
def Vn(P:Nat->Int):Bool:=QJ P&&!WU P (XT (P 128))
def vr(P m:Nat->Int)(ha:0<=m 0/\m 0<64)(ht:0<=m 1/\m 1<64):WR AM 101 [.agg 133 (ia P),.agg 3 (ia m)] [] (fun v _ _=>v=.s (.bool (Jc P (m 0) (m 1)))):=by
 refine YL (a:=a101) G G (YI _) (ZQ G) (m:=0) G (Ze (YC G (YC G (Yq G (Zf (Zz G (Ym G G ZM G (Zy G (Ym G G ZM G (Zt G G (Zj G (Zf (Zy G (Ym G G ZM G (Zy G (Zy G (Zw G G G (Yd G G G (Ym (x:=P (sqI (m 0))) G G ZN (congrArg P (by have hq:sqI (m 0)=0+(m 0).toNat*2:=rfl;omega)) (Zr G (Zk G (Ys (t:=19) G (fun h1=>?_) (fun h1=>?_))))))))))))))))))))))) <;> simp only[NM]at h1
 ·refine Yb G (Zj G (Yb G (Zr G (Yb G (Zk G (Ys (t:=22) G (fun h2=>?_) (fun h2=>?_))))))) <;> simp only[NM]at h2
  ·refine ZD G (Yb G (Zq G (Zq G (Zk G (Zg G ?_)))));unfold Jc;(rw[Zcl (by omega)];rfl)
  refine Yb G (Zj G (Yb G (Zr G (Yb G (Zq G (Zq G (Zk G (Zg G ?_))))))));unfold Jc;(refine congrArg (fun b=>V.s (.bool b)) ?_;rw[Zce];simp only[Zcu,Zb7];omega)
 refine ZD G (ZC G (YJ G (YJ G (ZC G (Zq G (Zk G (Zg G ?_)))))));unfold Jc;(rw[Zci (by omega)];rfl)
def safe_rd(P:Nat->Int)(l:List Int)(hlen:l.length<=1000000):RdR AM 102 1 [.agg 133 (ia P)] [] l (.s (.bool (jq P l))):=by
 refine WV fun v Bs hc=>?_
 refine YL (a:=a102) G G (YI _) (ZQ G) G ?_ (by first|rfl|(cases hc <;> rfl));have hr0:=hc.rx;rw[show YZ 0 Bs=YZ 0 Bs++[] from(Zcf _).symm];generalize hown:YZ 0 Bs=own0 at hr0 ⊢;refine Ze (YC G (Yq G (Yc (Ye (Yg (Zy G (Yo G G ZM (Zy G (Yd (o':=128) G G G (Ym G G ZM G (Yu G (YP (VW _)) G G G (Yq (v:=v) G (XX (caps:=[]) G (rC P (XT (P 128)) l hlen) G (hr0) (fun _ h=>(.tail _ (ZbV _ h))) G G G (Yv (r:=.bool _) G G (Zk G (Zg G ?_))))))))))))))));exact⟨G,(fun _ h=>(.tail _ h))⟩
def Jo(P:Nat->Int):WR AM 70 [.agg 133 (ia P)] [] (fun v _ _=>v=.s (.bool (Vn P))):=by
 refine YL (a:=a70) G G (YI _) (ZQ G) (m:=0) G (Ze (YC G (Yq G (Yc (Ye (Yg (Yo G G ZM (Yt G (YP (oq _)) G G G (Zk G (Ys (t:=5) G (fun h3=>?_) (fun h3=>?_)))))))))))
 ·refine Yb G (Yo G G ZM (Yb G (Yd (o':=128) G G G (Yb G (Ym G G ZM G (Yb G (Yu G (YP (VW _)) G G G (Yb G (Yt G (RR _ _) G G G (Yb G (Yv (r:=.bool _) G G (Zq G (Zk G (Zg G ?_))))))))))))));unfold Vn;(rw[show QJ P=true by assumption];rfl)
 refine Ya G G (ZE G (ZC G (Zq G (Zk G (Zg G ?_)))));unfold Vn;(rw[show QJ P=false by assumption];rfl)
def rR{g:FuncId}{o z:Nat}:One fun b=>.fn g [.ptr b o z]:=⟨fun _=>by simp[V.refs,V.refsL],fun h b=>by cases e:h b <;> simp[V.ren,V.renL,e]⟩
def jall_rn(P:Nat->Int):RN AM 72 [.agg 133 (ia P)] [] (fun b=>.fn 99 [.ptr b 0 133]) (.sc .var 133 (ia P)) []:=gJ (by
 refine YL (a:=a72) G G (YI _) (ZQ G) (m:=0) G (Ye (Yf (YC G (Yq G (Yc (Ye (Yf (KF G (Yq G (Yc ?_))))))))));exact Yi ⟨_,YH G YW,0,G,.head _⟩)
def of_rn(P:Nat->Int)(h:Vn P=true):RN AM 36 [.agg 133 (ia P)] [] (fun b=>.fn 99 [.ptr b 0 133]) (.sc .var 133 (ia (ovA (fun _=>0) 0 133 P))) []:=gJ (by
 refine YL (a:=a36) G G (YI _) (ZQ G) (m:=0) G (Ye (Yf (YC G (Yq G (Yc (Ye (Ye (Yf (Yo G G ZM (Yt G (YP (Jo P)) G G G ?_))))))))));rw[h];refine Yv (r:=.bool false) G G (Yc (Yj G (fun h=>nomatch h) (fun _=>Yh (Ye (Yf (Yo G G ZM (YB (Q:=ovA (fun _=>0) 0 133 P) G (.agg G .nil) (KS (rs:=[]) (Bs:=[]) (caps:=[]) (av:=[.agg 133 (ia (ovA (fun _=>0) 0 133 P))]) rR G (jall_rn _) G G (YF G) (fun _ h=>h) G trivial G G .nil (Yq G (Yc ?_))))))))));exact Yi ⟨_,YH G YW,1,G,.head _⟩)
def of_none(P:Nat->Int)(h:Vn P=false):RF AM 36 [.agg 133 (ia P)] (.fn 71 []):=YP (by
 refine YL (a:=a36) G G (YI _) (ZQ G) (m:=0) G (Ye (Yf (YC G (Yq G (Yc (Ye (Ye (Yf (Yo G G ZM (Yt G (YP (Jo P)) G G G ?_))))))))));rw[h];refine Yv (r:=.bool true) G G (Yc (ZA G (Ye (Yf (Yq G (Yc ?_))))));exact Yi ⟨_,YH G YW,G⟩)
def Up(g0 g4:Nat->S)(c:Nat):List V:=[.agg 133 g0,.ptr 1 0 133,.ptr 2 0 1,.undef,.agg 133 g4,.fn 99 [.ptr c 0 133],.undef,.undef,.undef,.undef,.undef,.undef,.undef]
section
variable(g0 g4 g1:Nat->S)(Q:Nat->Int)
noncomputable def T4(c st:Nat):Blk:=.lp 607 KQ (Up g0 g4 c) st
def pv{Q:Nat->Int}{x y z:Int}(h0:Q 0=x)(h1:Q 1=y)(h2:Q 2=z):∀ i,i < [x,y,z].length->ovA (fun _=>0) (0*3) 3 Q i=[x,y,z].getD i 0:=fun i hi=>by have:=jB h0 h1 h2 i hi;rwa [Zcp]at this
def zY(M Y:Nat->Int) :
  WR AM 607 [.pan .undef,.yv 0,.agg 3 (ia M),.agg 133 (ia Y)] [T4 g0 g4 3 0,.sc .var 133 g1,.vs .var [.snil],.sc .var 133 (ia Q)] (fun v n L=>v=.s (.bool true)/\ED L [T4 g0 g4 3 0,.sc .var 133 g1] [.sc .var 133 (ia Q)] [M 0,M 1,M 2]):=by
 refine TF (N:=13) (B:=B11) (f:=YI (((Up g0 g4 3).set 6 (.agg 3 (ia M))).set 7 (.agg 133 (ia Y)))) (caps:=Up g0 g4 3) G G G (Dn G) G (Yf (Yy (Yz G G G G .here (Yc (⟨607,KQ,Up g0 g4 3,G,?_⟩)))))
 refine Yk (Yf (VV (v:=.snil) G G ZP G (Yo G G ZM (Wp G (.agg G .nil) (Et (c:=[M 0,M 1,M 2]) G (Rw.nil G) G (.row G (pv (Q:=ovA (fun _=>0) 0 3 M) G G G)) (UY ZM) (Dr.here (own:=[])) (by decide) (YF G) (fun v3 own3 n3 hr3 hn3=>TK (b:=2) (u:=.snil) (v:=v3) G G hr3.isrow (.appR _ (.appR _ (.there (.there (.there (.there .here)))))) (Vj (L':=own3++[(0,.lp 607 KQ (Up g0 g4 3) 1),(1,.sc .var 133 g1),(2,.vs .var [v3]),(3,.sc .var 133 (ia Q))]) (ZbY (.refl _) (ZbB (.cons _ (.cons _ (.refl _))))) (VA List.perm_append_comm (Yc ⟨607,KQ,Up g0 g4 3,G,G,?_⟩)))))))))
 have h4:∀ p∈own3,4<p.1:=fun p hp=>hn3 p hp (4,_) ZN
 rw[List.nil_append]at hr3
 refine JI hr3 ⟨.head _,.tail _ ZM,.tail _ ZN,.tail _ ZO,trivial⟩ (fun p hp=>⟨.tail _ (.tail _ (.tail _ (.tail _ ?_))),Nat.le_of_lt (h4 p hp)⟩)
 show p∈setL 0 _ own3
 rw[Ji (fun p hp=>by have:=h4 p hp;omega)];exact hp
def yd(M Y:Nat->Int)(l:List Int)(m q:Nat)(F:Nat->Int)(hlm:l.length=m*3)(hF:∀ i,i<l.length->F i=l.getD i 0)(hll:l.length<=1000000) :
  WR AM 607 [.pan .undef,.yv 0,.agg 3 (ia M),.agg 133 (ia Y)] [T4 g0 g4 4 0,.sc .var 133 g1,Vk .var 3 m 3,.sc .grow q (ia F),.sc .var 133 (ia Q)] (fun v n L=>v=.s (.bool true)/\ED L [T4 g0 g4 4 0,.sc .var 133 g1] [.dead,.sc .var 133 (ia Q)] (l++[M 0,M 1,M 2])):=by
 refine TF (N:=13) (B:=B11) (f:=YI (((Up g0 g4 4).set 6 (.agg 3 (ia M))).set 7 (.agg 133 (ia Y)))) (caps:=Up g0 g4 4) G G G (Dn G) G (Yf (Yy (Yz G G G G .here (Yc (⟨607,KQ,Up g0 g4 4,G,?_⟩)))))
 refine Yk (Yf (VV (v:=.sl 3 0 m 3 .whole) G G ZP G (Yo G G ZM (Wp G (.agg G .nil) (Et (c:=[M 0,M 1,M 2]) G (Rw.row hlm hF) G (.row G (pv (Q:=ovA (fun _=>0) 0 3 M) G G G)) (UY ZM) (.there (.there (.there (.there (.there .here))))) (by decide) (by simp only[Zcd,List.length_nil];omega) (fun v3 own3 n3 hr3 hn3=>TK (b:=2) (u:=.sl 3 0 m 3 .whole) (v:=v3) G G hr3.isrow (.appR _ (.there (.appR _ (.there (.there (.there (.there .here))))))) (Vj (L':=own3++[(3,.dead),(0,.lp 607 KQ (Up g0 g4 4) 1),(1,.sc .var 133 g1),(2,.vs .var [v3]),(4,.sc .var 133 (ia Q))]) (ZbY (.refl _) (.cons_cons _ (.cons _ (.cons _ (.refl _))))) (VA List.perm_append_comm (Yc ⟨607,KQ,Up g0 g4 4,G,G,?_⟩)))))))))
 have h4:∀ p∈own3,5<p.1:=fun p hp=>hn3 p hp (5,_) ZN
 refine JI hr3 ⟨.tail _ ZM,.tail _ ZN,.tail _ ZO,.head _,.tail _ ZP,trivial⟩ (fun p hp=>⟨.tail _ (.tail _ (.tail _ (.tail _ (.tail _ ?_)))),Nat.le_of_lt (h4 p hp)⟩)
 show p∈setL 0 _ own3
 rw[Ji (fun p hp=>by have:=h4 p hp;omega)];exact hp
end
def Wy(P:Nat->Int)(m:Mv):Bool:=!(Jc P m.1 m.2.1&&!jq P [m.1,(m.1+m.2.1)/2])&&(decide (Wj P m.1 m.2.1 m.2.2=0)&&!WU (XV P m.1 m.2.1 m.2.2) (P 128))
def xz(P:Nat->Int):List Mv:=(Ey P).filter (Wy P)
def mvX(F:Nat->Int)(o:Nat):Nat->Int:=ovA (fun _=>0) 0 3 (fun j=>F (o+j))
def UE{F:Nat->Int}{l:List Mv}{i:Nat}(hF:∀ j,j<(YV l).length->F j=(YV l).getD j 0)(hi:i<l.length):mvX F (0+(i:Int).toNat*3) 0=(l.getD i (0,0,0)).1/\mvX F (0+(i:Int).toNat*3) 1=(l.getD i (0,0,0)).2.1/\mvX F (0+(i:Int).toNat*3) 2=(l.getD i (0,0,0)).2.2:=by
 obtain⟨e1,e2,e3⟩:=KJ hi;have hb:3*i+2<(YV l).length:=by rw[YQ];omega
 rw[<-hF _ (by omega)]at e1 e2 e3;refine⟨?_,?_,?_⟩
 ·rw[<-e1];show F _=F _;exact congrArg F (by omega)
 ·rw[<-e2];show F _=F _;exact congrArg F (by omega)
 rw[<-e3];show F _=F _;exact congrArg F (by omega)
def toM_bd{s k c t:Int}{m:Mv}(hs:0<=s/\s<64)(ht:0<=t/\t<64)(h:m∈toM s k c t):(0<=m.1/\m.1<64)/\(0<=m.2.1/\m.2.1<64):=by
 unfold toM at h;split at h
 ·simp only[Zco,List.not_mem_nil,or_false]at h;rcases h with rfl|rfl|rfl|rfl <;> exact⟨hs,ht⟩
 rw[List.mem_singleton.1 h];exact⟨hs,ht⟩
def allS_bd{P:Nat->Int}{m:Mv}(h:m∈Ey P):(0<=m.1/\m.1<64)/\(0<=m.2.1/\m.2.1<64):=by
 have h:=(Qa _).mem_iff.1 h;unfold UX Wq at h;rw[List.mem_flatMap]at h;obtain⟨s,hs,h⟩:=h;rw[List.mem_map]at hs;obtain⟨k,hk,rfl⟩:=hs;have hk:=Zck.1 hk;split at h
 ·unfold VT at h;rw[List.mem_flatMap]at h;obtain⟨t,ht,h⟩:=h;exact toM_bd (by constructor <;> omega) (Kw ht) h
 cases h
def vz(P:Nat->Int):(Ey P).length<=16896:=by
 have:=T7 P 64;rw[show(Ey P).length=_ from(Qa _).length_eq];omega
def zi{l:List Mv}{i:Nat}(hi:i<l.length):l.getD i (0,0,0)∈l:=by
 rw[ZbD,ZbH hi];exact List.getElem_mem hi
def uM{P X:Nat->Int}{l:List Mv}{i:Nat}(hi:i<l.length)(h0:X 0=(l.getD i (0,0,0)).1)(h1:X 1=(l.getD i (0,0,0)).2.1)(h2:X 2=(l.getD i (0,0,0)).2.2)(h:Wy P (l.getD i (0,0,0))=true):YV ((l.take i).filter (Wy P))++[X 0,X 1,X 2]=YV ((l.take (i+1)).filter (Wy P)):=by
 rw[VX (0,0,0) hi,List.filter_append,List.filter_cons,h,ZcA rfl,RU,h0,h1,h2];rfl
def DP{P:Nat->Int}{l:List Mv}{i:Nat}(hi:i<l.length)(h:Wy P (l.getD i (0,0,0))=false):YV ((l.take (i+1)).filter (Wy P))=YV ((l.take i).filter (Wy P)):=by
 rw[VX (0,0,0) hi,List.filter_append,List.filter_cons,h,Zcz (by decide)];simp
def yf(P:Nat->Int){l:List Mv}(i:Nat):(YV ((l.take i).filter (Wy P))).length<=l.length*3:=by
 have h1:=ZbU (Wy P) (l.take i);rw[Zcb]at h1;rw[YQ];omega
def y6{P:Nat->Int}{m:Mv}(h1:Jc P m.1 m.2.1=true)(h2:jq P [m.1,(m.1+m.2.1)/2]=false):Wy P m=false:=by unfold Wy;rw[h1,h2];rfl
def xl{P:Nat->Int}{m:Mv}(h:Wj P m.1 m.2.1 m.2.2≠0):Wy P m=false:=by unfold Wy;rw[Zci h];simp
def xX{P:Nat->Int}{m:Mv}(h:WU (XV P m.1 m.2.1 m.2.2) (P 128)=true):Wy P m=false:=by unfold Wy;rw[h];simp
def leg_t{P:Nat->Int}{m:Mv}(h1:Jc P m.1 m.2.1=false\/jq P [m.1,(m.1+m.2.1)/2]=true)(h2:Wj P m.1 m.2.1 m.2.2=0)(h3:WU (XV P m.1 m.2.1 m.2.2) (P 128)=false):Wy P m=true:=by
 unfold Wy;rw[Zcl h2,h3];rcases h1 with h|h <;> rw[h] <;> simp
def iter_mv(g0 g4 g1:Nat->S)(P:Nat->Int):WR AM 99 [.yv 0,.ptr 3 0 133] [(T4 g0 g4 3 0),.sc .var 133 g1,.vs .var [.snil],.sc .var 133 (ia P)] (fun v _ L=>v=.tup []/\ED L [(T4 g0 g4 3 0),.sc .var 133 g1] [.sc .var 133 (ia P)] (YV (xz P))):=by
 refine YL (a:=a99) G G (YI _) (ZQ G) (m:=4) G (Ze (Zy G (Yo G G ZP ?_)));obtain⟨l,hleq⟩:∃ l,l=Ey P:=⟨_,rfl⟩
 have hall:=all_rt P;rw[<-hleq]at hall;have hlen:=vz P;rw[<-hleq]at hlen;refine YE G (hall) G G (fun v1 own1 n1 hr1=>Xk G hr1.rx (by decide) (YQ l) (Yq G (Yc (Yk (Xo (ZbY (.refl _) (.refl _)) (Xu (fun m f _ L=>∃ (i:Nat) (vO:V) (ownO:HA),(i≤l.length)∧(m=l.length-i)∧(∀ p∈ownO,4≤p.1)∧(Rw 3 (YV ((l.take i).filter (Wy P))) vO ownO)∧(f 0=.yv 0)∧(f 1=.ptr 3 0 133)∧(f 9=v1)∧(f 10=.s (.int .i64 l.length))∧(f 11=.s (.int .i64 i))∧(L=(ownO++(own1++[(0,(T4 g0 g4 3 0)),(1,.sc .var 133 g1),(2,.vs .var [vO]),(3,.sc .var 133 (ia P))])))) (fun m f nb L hI=>?_) (l.length) (⟨0,.snil,[],by omega,by omega,(fun p (hp:p∈([]:HA))=>(by cases hp)),Rw.nil rfl,rfl,rfl,rfl,rfl,rfl,rfl⟩)))))));obtain⟨i,vO,ownO,hi,hm,hgO,hrO,k0,k1,k9,k10,k11,rfl⟩:=hI;refine Za 0 k0 (Za 1 k1 (Za 9 k9 (Za 10 k10 (Za 11 k11 (Ze (Zr G (Yc (Ye (Yj G (fun h1=>?_) (fun h1=>?_)))))))))) <;> simp only[NM]at h1
 ·refine Yh (Ye (Yk (Ze ?_)));obtain⟨b1,q1,md1,c1,F1,rfl,rfl,hF1⟩:=hr1.rx.at (by decide) (YQ l) (by omega);refine Zx G G (Yp G G (ZbM _ ZM) (Yy (Yz G G G G .here (Yc (Ye (Ze ?_))))));obtain⟨hx0,hx1,hx2⟩:=UE hF1 (i:=i) (by omega);have hbd:(0<=(l.getD i (0,0,0)).1/\(l.getD i (0,0,0)).1<64)/\(0<=(l.getD i (0,0,0)).2.1/\(l.getD i (0,0,0)).2.1<64):=allS_bd (P:=P) (by rw[<-hleq];exact zi (by omega));have hcas:=YP (vr P (mvX F1 (0+(i:Int).toNat*3)) (by omega) (by omega));rw[hx0,hx1]at hcas;have hmove:=YP (qS P (mvX F1 (0+(i:Int).toNat*3)));rw[hx0,hx1,hx2]at hmove;have hid:ovA (fun _=>0) 0 133 (XV P (l.getD i (0,0,0)).1 (l.getD i (0,0,0)).2.1 (l.getD i (0,0,0)).2.2)=(XV P (l.getD i (0,0,0)).1 (l.getD i (0,0,0)).2.1 (l.getD i (0,0,0)).2.2):=QG (fun i hi=>Q8 hi);have hchk:=RR (ovA (fun _=>0) 0 133 (XV P (l.getD i (0,0,0)).1 (l.getD i (0,0,0)).2.1 (l.getD i (0,0,0)).2.2)) (P 128);rw[show WU (ovA (fun _=>0) 0 133 (XV P (l.getD i (0,0,0)).1 (l.getD i (0,0,0)).2.1 (l.getD i (0,0,0)).2.2)) (P 128)=WU (XV P (l.getD i (0,0,0)).1 (l.getD i (0,0,0)).2.1 (l.getD i (0,0,0)).2.2) (P 128) by rw[hid]]at hchk;refine Yo G G (.tail _ (ZbM _ (.tail _ ZP))) (Yo G G ZM (Yt G (hcas) G G G (Zk G (Ys (t:=18) G (fun h2=>?_) (fun h2=>?_)))))
  ·refine Yb G (Yo G G (.tail _ (ZbM _ (.tail _ ZP))) (Yb G (Zy G (Yb G (Ym (x:=(l.getD i (0,0,0)).1) G G ZM (hx0) (Yb G (Zy G (Yb G (Ym (x:=(l.getD i (0,0,0)).1) G G ZM (hx0) (Yb G (Zz G (Yb G (Ym (x:=(l.getD i (0,0,0)).2.1) G G ZM (hx1) (Yb G (Zs G G (Yb G (Zu G G (Yb G (XA G (.one G (.one G .nil)) (Yb G (XX (caps:=[]) G (safe_rd P [(l.getD i (0,0,0)).1,((l.getD i (0,0,0)).1+(l.getD i (0,0,0)).2.1)/2] (YF G)) G ((.row G sP)) (UY ZM) G G G (Yb G (Yv (r:=.bool _) G G (Zq G (Yc (Yj G (fun h3=>?_) (fun h3=>?_))))))))))))))))))))))))))) <;> simp only[NM]at h3
   ·refine Y0 (Xb (Yf (Zs G G (Zj G (Yc (⟨l.length-(i+1),_,by omega,(.cons _ (.cons _ (ZbY (.refl _) (.refl _)))),i+1,_,_,by omega,rfl,hgO,?_,rfl,rfl,rfl,rfl,rfl,rfl⟩))))));(rw[DP (by omega) (by first|exact y6 (by assumption) (by assumption)|exact xl (by assumption)|exact xX (by assumption))];exact hrO)
   refine Yh (Ze (Zy G (Yo G G (.tail _ (.tail _ (ZbM _ (.tail _ ZP)))) (Yo G G ZN (Yt G (hmove) G G G (Zo G (YD (v:=.agg _ _) G G (YD (v:=.s (.int _ _)) G G (Yy (Yz G G G G .here (Zj G (Yc (Ye (JJ (KE (l1:=[_,_,_,_,_,_,_,_,_,_,_,_,_,_]) (l2:=[_,_,_]) (Zj G (Zr G (Zk G (Ys (t:=41) G (fun h4=>?_) (fun h4=>?_)))))))))))))))))))) <;> simp only[NM]at h4
   ·refine Yb G (Yo G G ZM (Yb G (Zy G (Yb G (Yd (o':=128) G G G (Yb G (Ym G G (.tail _ (.tail _ (.tail _ (ZbM _ (.tail _ ZP))))) G (Yb G (Yt G (hchk) G G G (Yb G (Yv (r:=.bool _) G G (Zq G (Zk G (Ys (t:=49) G (fun h5=>?_) (fun h5=>?_))))))))))))))) <;> simp only[NM]at h5
    ·refine Yb G (Yq (v:=.yv _) G (Yb G (Yo G G ZO (Yb G (Yo G G ZM (Yc (Q2 (.cons _ (.cons _ (.cons _ (ZbY (.refl _) (.refl _))))) (DB G ?_))))))));have hll:=yf P (l:=l) i;refine TR (caps:=Up g0 g4) (xa:=[.agg 3 (ia (mvX F1 (0+(i:Int).toNat*3))),.agg 133 (ia (ovA (fun _=>0) 0 133 (XV P (l.getD i (0,0,0)).1 (l.getD i (0,0,0)).2.1 (l.getD i (0,0,0)).2.2)))]) (L0:=[_]) G (fun _=>rfl) G G (fun _ _ _=>rfl) (YF G) (YF G) G G hrO (List.Perm.append_left _ (List.perm_append_comm (l₁:=[_]) (l₂:=[_,_,_,_]))) (fun e=>by have h:=zY g0 g4 g1 P (mvX F1 (0+(i:Int).toNat*3)) (ovA (fun _=>0) 0 133 (XV P (l.getD i (0,0,0)).1 (l.getD i (0,0,0)).2.1 (l.getD i (0,0,0)).2.2));rw[e];exact h) (fun m q F h1 h2=>yd g0 g4 g1 P (mvX F1 (0+(i:Int).toNat*3)) _ _ m q F h1 h2 (by omega)) (fun v2 own2 n2 hr2 hge2=>Vd ?_);rw[uM (by omega) hx0 hx1 hx2 (leg_t (by first|exact .inl (by assumption)|exact .inr (by assumption)) (by assumption) (by assumption))]at hr2;refine VA (List.Perm.append_left _ (List.perm_append_comm (l₁:=[_,_,_,_]) (l₂:=[_]))) (Yb G (Yv (r:=.bool _) G G (Zq G (Yc (ZB G (Yh (Yf (Zs G G (Zj G (Yc (⟨l.length-(i+1),_,by omega,(ZbY (.refl _) (.refl _)),i+1,_,_,by omega,rfl,hge2,?_,rfl,rfl,rfl,rfl,rfl,rfl⟩)))))))))));exact hr2
    refine ZD G (ZC G (Yc (Vd (ZD G (Zq G (Yc (ZB G (Yh (Yf (Zs G G (Zj G (Yc (⟨l.length-(i+1),_,by omega,(.cons _ (.cons _ (.cons _ (ZbY (.refl _) (.refl _))))),i+1,_,_,by omega,rfl,hgO,?_,rfl,rfl,rfl,rfl,rfl,rfl⟩)))))))))))));(rw[DP (by omega) (by first|exact y6 (by assumption) (by assumption)|exact xl (by assumption)|exact xX (by assumption))];exact hrO)
   refine ZE G (ZD G (Zq G (Zk G (ZD G (ZC G (Yc (Vd (ZD G (Zq G (Yc (ZB G (Yh (Yf (Zs G G (Zj G (Yc (⟨l.length-(i+1),_,by omega,(.cons _ (.cons _ (.cons _ (ZbY (.refl _) (.refl _))))),i+1,_,_,by omega,rfl,hgO,?_,rfl,rfl,rfl,rfl,rfl,rfl⟩)))))))))))))))));(rw[DP (by omega) (by first|exact y6 (by assumption) (by assumption)|exact xl (by assumption)|exact xX (by assumption))];exact hrO)
  refine Ya G G (ZF G (ZD G (ZC G (Zq G (Yc (ZB G (Yh (Ze (Zy G (Yo G G (.tail _ (ZbM _ (.tail _ ZP))) (Yo G G ZM (Yt G (hmove) G G G (Zo G (YD (v:=.agg _ _) G G (YD (v:=.s (.int _ _)) G G (Yy (Yz G G G G .here (Zj G (Yc (Ye (JJ (KE (l1:=[_,_,_,_,_,_,_,_,_,_,_,_,_,_]) (l2:=[_,_,_]) (Zj G (Zr G (Zk G (Ys (t:=41) G (fun h6=>?_) (fun h6=>?_))))))))))))))))))))))))))) <;> simp only[NM]at h6
  ·refine Yb G (Yo G G ZM (Yb G (Zy G (Yb G (Yd (o':=128) G G G (Yb G (Ym G G (.tail _ (.tail _ (ZbM _ (.tail _ ZP)))) G (Yb G (Yt G (hchk) G G G (Yb G (Yv (r:=.bool _) G G (Zq G (Zk G (Ys (t:=49) G (fun h7=>?_) (fun h7=>?_))))))))))))))) <;> simp only[NM]at h7
   ·refine Yb G (Yq (v:=.yv _) G (Yb G (Yo G G ZN (Yb G (Yo G G ZM (Yc (Q2 (.cons _ (.cons _ (ZbY (.refl _) (.refl _)))) (DB G ?_))))))));have hll:=yf P (l:=l) i;refine TR (caps:=Up g0 g4) (xa:=[.agg 3 (ia (mvX F1 (0+(i:Int).toNat*3))),.agg 133 (ia (ovA (fun _=>0) 0 133 (XV P (l.getD i (0,0,0)).1 (l.getD i (0,0,0)).2.1 (l.getD i (0,0,0)).2.2)))]) (L0:=[_]) G (fun _=>rfl) G G (fun _ _ _=>rfl) (YF G) (YF G) G G hrO (List.Perm.append_left _ (List.perm_append_comm (l₁:=[_]) (l₂:=[_,_,_,_]))) (fun e=>by have h:=zY g0 g4 g1 P (mvX F1 (0+(i:Int).toNat*3)) (ovA (fun _=>0) 0 133 (XV P (l.getD i (0,0,0)).1 (l.getD i (0,0,0)).2.1 (l.getD i (0,0,0)).2.2));rw[e];exact h) (fun m q F h1 h2=>yd g0 g4 g1 P (mvX F1 (0+(i:Int).toNat*3)) _ _ m q F h1 h2 (by omega)) (fun v3 own3 n3 hr3 hge3=>Vd ?_);rw[uM (by omega) hx0 hx1 hx2 (leg_t (by first|exact .inl (by assumption)|exact .inr (by assumption)) (by assumption) (by assumption))]at hr3;refine VA (List.Perm.append_left _ (List.perm_append_comm (l₁:=[_,_,_,_]) (l₂:=[_]))) (Yb G (Yv (r:=.bool _) G G (Zq G (Yc (ZB G (Yh (Yf (Zs G G (Zj G (Yc (⟨l.length-(i+1),_,by omega,(ZbY (.refl _) (.refl _)),i+1,_,_,by omega,rfl,hge3,?_,rfl,rfl,rfl,rfl,rfl,rfl⟩)))))))))));exact hr3
   refine ZD G (ZC G (Yc (Vd (ZD G (Zq G (Yc (ZB G (Yh (Yf (Zs G G (Zj G (Yc (⟨l.length-(i+1),_,by omega,(.cons _ (.cons _ (ZbY (.refl _) (.refl _)))),i+1,_,_,by omega,rfl,hgO,?_,rfl,rfl,rfl,rfl,rfl,rfl⟩)))))))))))));(rw[DP (by omega) (by first|exact y6 (by assumption) (by assumption)|exact xl (by assumption)|exact xX (by assumption))];exact hrO)
  refine ZE G (ZD G (Zq G (Zk G (ZD G (ZC G (Yc (Vd (ZD G (Zq G (Yc (ZB G (Yh (Yf (Zs G G (Zj G (Yc (⟨l.length-(i+1),_,by omega,(.cons _ (.cons _ (ZbY (.refl _) (.refl _)))),i+1,_,_,by omega,rfl,hgO,?_,rfl,rfl,rfl,rfl,rfl,rfl⟩)))))))))))))))));(rw[DP (by omega) (by first|exact y6 (by assumption) (by assumption)|exact xl (by assumption)|exact xX (by assumption))];exact hrO)
 refine Y0 (Xb (⟨_,YW,?_⟩));obtain rfl:i=l.length:=by omega
 rw[List.take_length,hleq]at hrO;exact⟨G,JI hrO ⟨(ZbM _ (ZbM _ ZM)),(ZbM _ (ZbM _ ZN)),(ZbM _ (ZbM _ ZO)),(ZbM _ (ZbM _ ZP)),trivial⟩ (fun p hp=>⟨ZbV _ hp,hgO p hp⟩)⟩
def XN(P:Nat->Int):List Mv:=if Vn P=true then xz (ovA (fun _=>0) 0 133 P) else []
def capsNo(g0 g4:Nat->S):List V:=[.agg 133 g0,.ptr 1 0 133,.ptr 2 0 1,.undef,.agg 133 g4,.fn 71 [],.undef,.undef,.undef,.undef,.undef,.undef,.undef]
def vo(P:Nat->Int):RtR AM 11 3 [.agg 133 (ia P)] [] (YV (XN P)) []:=by
 refine Qq (gx (a:=a11) G G (YI _) (ZQ G) (m:=0) (c0:=2) G G (Ye (Yf (YC G (Jl (z:=.one .snil) G (Yc (Ye (Ye (Yf (Yo G G ZN ?_))))))))));have fin:∀ (f:FE) (n:Nat) (v:V) (own:HA),f 2=.ptr 1 0 1->Rw 3 (YV (XN P)) v own->WP AM a11.nt (.seq (.ops [ZZ 12 false 1 2,Z1 1 2 12]) .ret) f n (own++[(1,.vs .var [v])])
   (fun _ _ _=>False) (fun _ _ _ _=>False) (fun f n L=>∃ b md v,rd a11.nt f 2=.ptr b 0 1∧(b,Blk.vs md [v])∈L∧∃ own,Rw 3 (YV (XN P)) v own∧∀ p∈own,p∈L) (fun _ _ _ _=>False):=fun f n v own h2 hr=>by
  refine Za 2 h2 (Ye (Yf (VV (v:=v) G G (ZbM _ ZM) G (TK (b:=1) (u:=v) (v:=v) G G hr.isrow (.appR _ .here) ?_))))
  exact Yc (Yi ⟨1,.var,v,G,ZbM _ ZM,own,hr,fun p hp=>ZbV _ hp⟩)
 cases h:Vn P with
 |false=>
  have hl:YV (XN P)=[]:=by unfold XN;rw[h];rfl
  refine Yt G (of_none P h) G G G (Yc (Yk (wI (Lr:=[(0,_),(1,_)]) (L0:=[]) (vs:=[.yv 0]) (Bs:=[.lp 607 KQ (capsNo (ia P) (ia P)) 0,.sc .var 133 (ia P),.vs .var [.snil]]) (List.reverse_perm [_,_]) G G G G G (YL (a:=a71) G G (YI _) (ZQ G) (m:=3) G (Yh ⟨_,YW,?_⟩)))));refine .inl ⟨[_,_,_],.tup [],_,⟨.head _,.tail _ ZM,.tail _ ZN,trivial⟩,G,G,G,G,607,KQ,_,0,_,.refl _,?_⟩;refine Xo (.cons _ (.refl _)) ?_;exact fin _ _ .snil [] G (.nil hl)
 |true=>
  have hl:YV (XN P)=YV (xz (ovA (fun _=>0) 0 133 P)):=by unfold XN;rw[h];rfl
  refine KS (rs:=[]) (Bs:=[]) (caps:=[]) (av:=[.agg 133 (ia P)]) rR G (of_rn P h) G G (YF G) (fun _ h=>h) G trivial G G .nil (Yc (Yk (wI (Lr:=[(0,_),(1,_),(2,_)]) (L0:=[]) (vs:=[.yv 0,.ptr 3 0 133]) (Bs:=[T4 (ia P) (ia P) 3 0,.sc .var 133 (ia P),.vs .var [.snil],.sc .var 133 (ia (ovA (fun _=>0) 0 133 P))]) (List.reverse_perm [_,_,_]) G G G G G (Qm (iter_mv (ia P) (ia P) (ia P) (ovA (fun _=>0) 0 133 P)) ?_))));rintro r n1 L1 ⟨rfl,ho⟩;rw[<-hl]at ho;rcases ho with⟨e1,e2⟩|⟨b,m,q,F,e1,e2,e3,e4,e5⟩
  ·refine .inl ⟨_,.tup [],_,e2,G,G,G,G,607,KQ,_,0,_,.refl _,?_⟩;refine Xo (.cons _ (.cons_cons _ (.cons _ .slnil))) ?_;exact fin _ _ .snil [] G (.nil e1)
  refine .inr ⟨[T4 (ia P) (ia P) 3 0,.sc .var 133 (ia P)],[.sc .var 133 (ia (ovA (fun _=>0) 0 133 P))],b,m,3,q,.var,.grow,ia F,.tup [],_,_,e3,G,e1,e2,G,G,G,G,G,(YF G),607,KQ,_,0,_,.swap _ _ _,?_⟩;refine Xo (.cons_cons _ (.cons _ (.cons_cons _ (.cons _ .slnil)))) ?_;exact fin _ _ _ [(_,_)] G (.row e4 e5)
def pK{P:Nat->Int}{s:Int}{m:Mv}(h:m∈QS P s 64):(0<=m.2.1/\m.2.1<64)/\R6 P s m.2.1=true/\m∈toM s (P (sqI s)) (P (sqI s+1)) m.2.1:=by
 unfold QS at h;rw[List.mem_flatMap]at h;obtain⟨t,ht,h⟩:=h;split at h
 ·rename_i hg;have e:=(JN h).2;rw[e];exact⟨mem64.1 ht,hg,h⟩
 cases h
def yH{P:Nat->Int}{m:Mv}(h:m∈Rn P 64):(0<=m.1/\m.1<64)/\(0<=m.2.1/\m.2.1<64)/\R6 P m.1 m.2.1=true/\m∈toM m.1 (P (sqI m.1)) (P (sqI m.1+1)) m.2.1:=by
 unfold Rn at h;rw[List.mem_flatMap]at h;obtain⟨s,hs,h⟩:=h;have e:=Jb h;rw[e];exact⟨mem64.1 hs,pK h⟩
def Zd3(P:Nat->Int)(n:Nat):Rn P (n+1)=Rn P n++QS P n 64:=by
 unfold Rn Wq;rw[List.range_succ,List.map_append,List.flatMap_append];simp
def mv_in{l:List Mv}{i:Nat}(hi:i<l.length):l.getD i (0,0,0)∈l:=by
 rw[ZbD,ZbH hi];exact List.getElem_mem hi
def yj{P:Nat->Int}{s t:Int}(h:R6 P s t=true):(1<=P (sqI s)/\P (sqI s)<=6)/\(P (sqI s+1)=0\/P (sqI s+1)=1)/\P (sqI s+1)=P 128/\s≠t:=by
 unfold R6 Ww Xm at h;simp only[Zca,Zb7]at h;omega
def tn{P:Nat->Int}{m:Mv}(h:m∈toM m.1 (P (sqI m.1)) (P (sqI m.1+1)) m.2.1):if P (sqI m.1)=1/\m.2.1/8=7*(1-P (sqI m.1+1)) then 2<=m.2.2/\m.2.2<=5 else m.2.2=0:=by
 unfold toM ZdZ at h;split at h
 ·rename_i e;rw[Zb7]at e;rw[ZcA e];simp only[Zco,List.not_mem_nil,or_false]at h;rcases h with h|h|h|h <;> (have:=congrArg (fun m:Mv=>m.2.2) h;simp only at this;omega)
 rename_i e;rw[Zb7]at e;rw[Zcz e];have:=congrArg (fun m:Mv=>m.2.2) (List.mem_singleton.1 h);simpa using this
def Zd8{P:Nat->Int}{m:Mv}(h:m∈Rn P 64):Wj P m.1 m.2.1 m.2.2=0:=by
 obtain⟨ha,ht,hg,hm⟩:=yH h;obtain⟨h1,h2,h3,h4⟩:=yj hg;refine Vi ⟨ha,ht,h4⟩ ?_;unfold XI;exact Zcl ⟨h1.1,h1.2,h3,h2,tn hm⟩
end Go.Proofs.YtlkighkfkdpncaaGreatDoor
