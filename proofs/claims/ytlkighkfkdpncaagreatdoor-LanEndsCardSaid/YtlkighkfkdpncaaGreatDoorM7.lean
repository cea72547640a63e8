/- Texts of this seat,joined. -/
import Derived.Test.YtlkighkfkdpncaaGreatDoorM6
set_option linter.defProp false
set_option linter.unusedSimpArgs false
set_option linter.unusedVariables false
namespace Go.Proofs.YtlkighkfkdpncaaGreatDoor
open Go Go.Am
def Rz:List (S×V):=[(.int .i64 2,.s (.str ⟨#[78]⟩)),(.int .i64 3,.s (.str ⟨#[66]⟩)),(.int .i64 4,.s (.str ⟨#[82]⟩)),(.int .i64 5,.s (.str ⟨#[81]⟩)),(.int .i64 6,.s (.str ⟨#[75]⟩))]
def vt :WR AM 19 [] [] (fun v _ L=>v=.map 0/\(0,Blk.mp .var Rz)∈L):=by
 refine YL (a:=a19) G G (YI _) (ZQ G) (m:=0) G (Ze (Yq G (Zf (j5 (Us G G G G G G .here (Us G G G G G G .here (Us G G G G G G .here (Us G G G G G G .here (Us G G G G G G .here (Yq (v:=.map _) G (Yq (v:=.map _) G (Yc (Yi (⟨_,YH (v:=.map _) G (YW),?_⟩))))))))))))));exact⟨G,.head _⟩
def EN:RN AM 19 [] [] (fun b=>.map b) (.mp .var Rz) []:=by
 obtain⟨v,σ',n',L',h1,h2,rfl,h3⟩:=vt;exact⟨0,σ',h1,Zct _,(h2.2.mem h3).2,trivial⟩
def QW(x:Mv):List Mv->Int
 |[]=>-1
 |y::l=>if x=y then 0 else if QW x l=-1 then -1 else QW x l+1
def td(x:Mv):∀ l:List Mv,-1<=QW x l/\QW x l<l.length
 |[]=>⟨Int.le_refl _,by simp[QW]⟩
 |y::l=>by
  have:=td x l;unfold QW;rw[Zcd];split
  ·omega
  split <;> omega
def uW{x:Mv}:∀ {l:List Mv},(∀ i:Nat,i<l.length->x≠l.getD i (0,0,0))->QW x l=-1
 |[],_=>rfl
 |y::l,h=>by
  unfold QW;have h0:=h 0 (by simp);have ih:=uW (x:=x) (l:=l) fun i hi=>by have:=h (i+1) (by simpa using hi);simpa using this
  rw[Zcz (fun e=>h0 (by simp[e])),ZcA ih]
def tz{x:Mv}:∀ {l:List Mv} {i:Nat},i<l.length->x=l.getD i (0,0,0)->(∀ j:Nat,j<i->x≠l.getD j (0,0,0))->QW x l=i
 |[],i,h,_,_=>by simp at h
 |y::l,0,_,h,_=>by
  unfold QW;rw[ZcA (by simpa using h)];rfl
 |y::l,i+1,hi,h,hn=>by
  unfold QW;have h0:=hn 0 (by omega);have ih:=tz (x:=x) (l:=l) (i:=i) (by simpa using hi) (by simpa using h) fun j hj=>by have:=hn (j+1) (by omega);simpa using this
  rw[Zcz (fun e=>h0 (by simp[e])),Zcz (by omega),ih];omega
def idxV_mem{x:Mv}:∀ {l:List Mv},0<=QW x l↔x∈l
 |[]=>by simp[QW]
 |y::l=>by
  have ih:=idxV_mem (x:=x) (l:=l);have:=td x l;unfold QW;rw[Zco];by_cases e:x=y
  ·rw[ZcA e];simp[e]
  rw[Zcz e];simp only[e,false_or];rw[<-ih];split <;> omega
def eq3{P Q:Nat->Int}{m:Mv}(h0:Q 0=m.1)(h1:Q 1=m.2.1)(h2:Q 2=m.2.2):eqI 3 P Q=decide ((P 0,P 1,P 2)=m):=by
 rw[Zce,Qo,Zb7];constructor
 ·intro h;exact Prod.ext ((h 0 (by omega)).trans h0) (Prod.ext ((h 1 (by omega)).trans h1) ((h 2 (by omega)).trans h2))
 rintro h;have e0:=congrArg (fun m:Mv=>m.1) h;have e1:=congrArg (fun m:Mv=>m.2.1) h;have e2:=congrArg (fun m:Mv=>m.2.2) h;exact three (e0.trans h0.symm) (e1.trans h1.symm) (e2.trans h2.symm)
def eq3'{P Q:Nat->Int}{m:Mv}(h0:Q 0=m.1)(h1:Q 1=m.2.1)(h2:Q 2=m.2.2):eqI 3 Q P=decide ((P 0,P 1,P 2)=m):=by
 rw[<-eq3 (P:=P) h0 h1 h2,Zce,Qo,Qo];exact⟨fun h i hi=>(h i hi).symm,fun h i hi=>(h i hi).symm⟩
def pM(M:Nat->Int)(l:List Mv)(hlen:l.length<=1000000):RdR AM 79 3 [] [.agg 3 (ia M)] (YV l) (.s (.int .i64 (QW (M 0,M 1,M 2) l))):=by
 refine WV fun v Bs hc=>?_
 refine YL (a:=a79) G G (YI _) (ZQ G) G ?_ (by first|rfl|(cases hc <;> rfl));have hr0:=hc.rx;rw[show YZ 0 Bs=YZ 0 Bs++[] from(Zcf _).symm];generalize hown:YZ 0 Bs=own0 at hr0 ⊢;refine Ze (YC G (Yq G (Yc (Ye (Ze (Yq (v:=v) G (Xk G hr0 (by decide) (YQ l) (Yq G (Yc (Yk (Xo (.cons_cons _ (ZbY (.refl _) .slnil)) (Xu (fun m f _ L=>∃ (i:Nat),(i<=l.length)/\(m=l.length-i)/\(∀ j:Nat,j<i->(M 0,M 1,M 2)≠l.getD j (0,0,0))/\(f 0=v)/\(f 3=.ptr Bs.length 0 3)/\(f 7=.s (.int .i64 l.length))/\(f 8=.s (.int .i64 i))/\(L=(Bs.length,.sc .var 3 (ia M))::(own0++[]))) (fun m f nb L hI=>?_) (l.length) (⟨0,by omega,by omega,fun j hj=>by omega,rfl,rfl,rfl,rfl,rfl⟩)))))))))))));obtain⟨i,hi,hm,hn,k0,k3,k7,k8,rfl⟩:=hI;refine Za 0 k0 (Za 3 k3 (Za 7 k7 (Za 8 k8 (Ze (Zr G (Yc (Ye (Yj G (fun h1=>?_) (fun h1=>?_))))))))) <;> simp only[NM]at h1
 ·skip;refine Yh (Ye (Yk (Ze (Zj G (Zj G (Yc (Ye (Yg (Yo G G ZM (Yq (v:=v) G (Zj G ?_)))))))))));obtain⟨b0,q0,md0,c0,F0,rfl,rfl,hF0⟩:=hr0.at (by decide) (YQ l) (by omega);refine Zx G G (Yp G G ZN ?_);obtain⟨hx0,hx1,hx2⟩:=UE hF0 (i:=i) (by omega);have heq:=eq3 (P:=M) hx0 hx1 hx2;refine Yx (b:=decide ((M 0,M 1,M 2)=(l.getD i (0,0,0)))) G G heq (Yc (Yj G (fun hdec=>?_) (fun hdec=>?_)))
  ·simp only[NM]at hdec;(have hyes:(M 0,M 1,M 2)=(l.getD i (0,0,0)):=by simpa using hdec);refine Ze (Zj G (Zj G (Yc (Yi (⟨_,ZL G,?_⟩)))));refine⟨ZJ ?_,(fun _ h=>(.tail _ h))⟩;exact(tz (by omega) hyes hn).symm
  simp only[NM]at hdec;(have hne:(M 0,M 1,M 2)≠(l.getD i (0,0,0)):=by simpa using hdec);refine Yh (Yf (Zs G G (Zj G (Yc (⟨l.length-(i+1),_,by omega,(.refl _),i+1,by omega,rfl,?_,rfl,rfl,rfl,rfl,rfl⟩)))));intro j hj;by_cases e:j=i
  ·subst e;exact hne
  exact hn j (by omega)
 skip;refine Y0 (Xb (Ze (Yq G (Yc (Yi (⟨_,ZL G,?_⟩))))));refine⟨ZJ ?_,(fun _ h=>(.tail _ h))⟩;exact(uW fun j hj=>hn j (by omega)).symm
def jT(M:Nat->Int)(l:List Mv)(hlen:l.length<=1000000):RdR AM 41 3 [] [.agg 3 (ia M)] (YV l) (.s (.bool (decide ((M 0,M 1,M 2)∈l)))):=by
 refine WV fun v Bs hc=>?_
 refine YL (a:=a41) G G (YI _) (ZQ G) G ?_ (by first|rfl|(cases hc <;> rfl));have hr0:=hc.rx;rw[show YZ 0 Bs=YZ 0 Bs++[] from(Zcf _).symm];generalize hown:YZ 0 Bs=own0 at hr0 ⊢;refine Ze (YC G (Yq G (Zf (Yq (v:=v) G (Yo G G ZM (XX (caps:=[]) G (pM M l hlen) G (hr0) (fun _ h=>(.tail _ (ZbV _ h))) G G G (Zr G (Zk G (Zg G (⟨ZI ?_,(fun _ h=>(.tail _ h))⟩))))))))));exact decide_eq_decide.2 idxV_mem
def uo(P:Nat->Int):(XN P).length<=16896:=by
 unfold XN;split
 ·exact Zcq (ZbU _ _) (vz _)
 exact Zct _
def jG(P M:Nat->Int):WR AM 13 [.agg 133 (ia P),.agg 3 (ia M)] [] (fun v _ _=>v=.s (.bool (decide ((M 0,M 1,M 2)∈XN P)))):=by
 refine YL (a:=a13) G G (YI _) (ZQ G) (m:=0) G (Ze (YC G (YC G (Yq G (Yc (Ye (Yg (Yo G G ZN (QC G (vo P) G G (fun v1 own1 n1 hr1=>Yo G G (ZbM _ ZM) (XX (caps:=[]) G (jT M (XN P) (Zcq (uo P) (YF G))) G (hr1.rx) (fun _ h=>(ZbV _ h)) G G G (Zk G (Zg G ?_)))))))))))));rfl
def Zet(P:Nat->Int):(Zdk P).length<=16896:=by
 unfold Zdk;split
 ·exact Zcq (ZbU _ _) (by rw[<-Zex];exact vz _)
 exact Zct _
def ZdC(P M:Nat->Int):WR AM 27 [.agg 133 (ia P),.agg 3 (ia M)] [] (fun v _ _=>v=.s (.bool (decide ((M 0,M 1,M 2)∈Zdk P)))):=by
 refine YL (a:=a27) G G (YI _) (ZQ G) (m:=0) G (Ze (YC G (YC G (Yq G (Zf ?_)))));obtain⟨l,hleq⟩:∃ l,l=Zdk P:=⟨_,rfl⟩
 have hmv:=Zd1 P;rw[<-hleq]at hmv ⊢;have hlen:l.length<=16896:=by rw[hleq];exact Zet P
 refine Yo G G ZN (YE G (hmv) G G (fun v1 own1 n1 hr1=>Yq (v:=v1) G (Yc (Ye (Ze (Yq G (Yc (Yk (Xo (ZbY (.refl _) (.refl _)) (Xu (fun m f _ L=>∃ (i:Nat),(i<=l.length)/\(m=l.length-i)/\(∀ j:Nat,j<i->(M 0,M 1,M 2)≠l.getD j (0,0,0))/\(f 2=.ptr 0 0 133)/\(f 3=.ptr 1 0 3)/\(f 5=v1)/\(f 6=.s (.int .i64 i))/\(L=(own1++[(1,.sc .var 3 (ia M)),(0,.sc .var 133 (ia P))]))) (fun m f nb L hI=>?_) (l.length) (⟨0,by omega,by omega,fun j hj=>by omega,rfl,rfl,rfl,rfl,rfl⟩)))))))))));obtain⟨i,hi,hm,hn,k2,k3,k5,k6,rfl⟩:=hI;refine Za 2 k2 (Za 3 k3 (Za 5 k5 (Za 6 k6 (Ye (Ze (Zj G (Yq (v:=v1) G (Xk G hr1.rx (by decide) (YQ l) (Zr G (Yc (Yj G (fun h2=>?_) (fun h2=>?_)))))))))))) <;> simp only[NM]at h2
 ·skip;refine Yh (Ye (Yk (Ye (Yg (Yq (v:=v1) G (Zj G ?_))))));obtain⟨b1,q1,md1,c1,F1,rfl,rfl,hF1⟩:=hr1.rx.at (by decide) (YQ l) (by omega);refine Zx G G (Yp G G ZM (Yo G G ZN ?_));obtain⟨hx0,hx1,hx2⟩:=UE hF1 (i:=i) (by omega);have heq:=eq3' (P:=M) hx0 hx1 hx2;refine Yx (b:=decide ((M 0,M 1,M 2)=(l.getD i (0,0,0)))) G G heq (Yc (Yj G (fun hdec=>?_) (fun hdec=>?_)))
  ·simp only[NM]at hdec;(have hyes:(M 0,M 1,M 2)=(l.getD i (0,0,0)):=by simpa using hdec);refine Ze (Yq G (Zg G (ZI ?_)));exact(Zcl (idxV_mem.1 (by rw[tz (by omega) hyes hn];omega))).symm
  simp only[NM]at hdec;(have hne:(M 0,M 1,M 2)≠(l.getD i (0,0,0)):=by simpa using hdec);refine Yh (Yf (Zj G (Zs G G (Zj G (Yc (⟨l.length-(i+1),_,by omega,(.refl _),i+1,by omega,rfl,?_,rfl,rfl,rfl,rfl,rfl⟩))))));intro j hj;by_cases e:j=i
  ·subst e;exact hne
  exact hn j (by omega)
 skip;refine Y0 (Xb (Ze (Yq G (Zg G (ZI ?_)))));exact(Zci fun h=>by have:=idxV_mem.2 h;rw[uW fun j hj=>hn j (by omega)]at this;omega).symm
def oX(s:Int):WR AM 52 [.s (.int .i64 s)] [] (fun v _ _=>v=.s (.int .i64 (sC s))):=by
 refine YL (a:=a52) G G (YI _) (ZQ G) (m:=0) G (Ze (Yq G (Yc (Ye (Ze (Zj G (Zr G (Yc (Yj G (fun h1=>?_) (fun h1=>?_)))))))))) <;> simp only[NM]at h1
 ·refine Ze (Yq G (Yc (Yi (⟨_,ZL G,?_⟩))));refine ZJ ?_;exact(ZcA (by omega)).symm
 refine Yh (Ze (Yq G (Yc (Yi (⟨_,ZL G,?_⟩)))));refine ZJ ?_;exact(Zcz (by omega)).symm
def JZ(P:Nat->Int):Bool:=Vn P&&decide ((XN P).length=0)
def stuck_f{P:Nat->Int}(h:JZ P=false):Vn P=false\/0<(XN P).length:=by
 unfold JZ at h
 cases hp:Vn P with
 |false=>exact .inl rfl
 |true=>
  rw[hp,Bool.true_and]at h;have:=of_decide_eq_false h;exact .inr (by omega)
def zu{P:Nat->Int}(h:JZ P=true):Vn P=true/\¬ 0<(XN P).length:=by
 unfold JZ at h;rw[Zca,Zb7]at h;exact⟨h.1,by omega⟩
def tY(P:Nat->Int)(hz:∀ i,133<=i->P i=0):WR AM 51 [.agg 133 (ia P)] [] (fun v _ _=>v=.s (.bool (JZ P))):=by
 refine YL (a:=a51) G G (YI _) (ZQ G) (m:=0) G (Ze (YC G (Yq G (Zf (Zy G (Yo G G ZM (Yt G (YP (Jo P)) G G G (Zk G (Ys (t:=6) G (fun h2=>?_) (fun h2=>?_))))))))))
 ·refine Yb G (Zy G (Yb G (Yo G G ZM (Yb G (YE G (vo P) G G (fun v1 own1 n1 hr1=>Yb G (Xk G hr1.rx (by decide) (YQ _) (Yb G (Zr G (Zq G (Zk G (Zg G (ZI ?_)))))))))))));unfold JZ;(rw[show Vn P=true by assumption,Bool.true_and,Zce,Zcu,Zb7];omega)
 refine Ya G G (ZE G (Zq G (Zk G (Zg G (ZI ?_)))));unfold JZ;(rw[show Vn P=false by assumption];rfl)
def of_walk(P:Nat->Int)(hz:∀ i,133<=i->P i=0):WR AM 24 [.agg 133 (ia P)] [] (fun v _ _=>v=.tup [.s (.int .i64 (ofN P (XN P).length).1),.s (.int .i64 (ofN P (XN P).length).2)]):=by
 have hid:ovA (fun _=>0) 0 133 P=P:=QG hz;refine YL (a:=a24) G G (YI _) (ZQ G) (m:=0) G (Ze (YC G (Yq G (Yq G (Yc (Ye (Ze (Yo G G ZM (YB G (.agg G .nil) ?_)))))))));rw[hid];refine Yy (Yz G G G G .here ?_);rw[hid];refine Yc (Yk (Ze (Yo G G ZM (Yt G (YP (tY P hz)) G G G (Yv (r:=.bool _) G G (Zk G (Yc (Yj G (fun h3=>?_) (fun h3=>?_))))))))) <;> simp only[NM]at h3
 ·refine Ze (Yq G (Yq G (Yc (Yi (⟨_,YH (v:=.s (.int _ _)) G (ZL G),?_⟩)))));(rw[ZdV (stuck_f (by assumption))];rfl)
 refine Ze (Yo G G ZN (Zy G (Yd (o':=128) G G G (Ym (x:=P 128) G G ZM (G) (Yt G (RR P (P 128)) G G G (Zk G (Yc (Yj G (fun h4=>?_) (fun h4=>?_)))))))))
 ·refine Ze (Zy G (Yd (o':=128) G G G (Ym (x:=P 128) G G ZM (G) (Yt G (YP (VW _)) G G G (Yt G (YP (oX _)) G G G (Zj G (Yq G (Yc (Yi (⟨_,YH (v:=.s (.int _ _)) G (ZL G),?_⟩))))))))));(rw[Zez (zu (by assumption)).1 (zu (by assumption)).2 (by assumption)];rfl)
 refine Yh (Ze (Yq G (Yq G (Yc (Yi (⟨_,YH (v:=.s (.int _ _)) G (ZL G),?_⟩))))));(rw[ZaB (zu (by assumption)).1 (zu (by assumption)).2 (by assumption)];rfl)
def XB(k:Int):ByteArray:=if k=2 then ⟨#[78]⟩ else if k=3 then ⟨#[66]⟩ else if k=4 then ⟨#[82]⟩ else if k=5 then ⟨#[81]⟩ else if k=6 then ⟨#[75]⟩ else ⟨#[]⟩
def W6(k:Int):(QT (.int .i64 k) Rz).getD (.s (.str ⟨#[]⟩))=.s (.str (XB k)):=by
 by_cases h2:k=2
 ·subst h2;rfl
 by_cases h3:k=3
 ·subst h3;rfl
 by_cases h4:k=4
 ·subst h4;rfl
 by_cases h5:k=5
 ·subst h5;rfl
 by_cases h6:k=6
 ·subst h6;rfl
 simp[QT,Rz,S.eqB,XB,h2,h3,h4,h5,h6,Ne.symm h2,Ne.symm h3,Ne.symm h4,Ne.symm h5,Ne.symm h6]
def Qn(k:Int):(XB k).size=if 2<=k/\k<=6 then 1 else 0:=by
 unfold XB;by_cases h2:k=2
 ·subst h2;rfl
 by_cases h3:k=3
 ·subst h3;rfl
 by_cases h4:k=4
 ·subst h4;rfl
 by_cases h5:k=5
 ·subst h5;rfl
 by_cases h6:k=6
 ·subst h6;rfl
 rw[Zcz h2,Zcz h3,Zcz h4,Zcz h5,Zcz h6,Zcz (by omega)];rfl
def Zau:XB 1=⟨#[]⟩:=rfl
def V5(k:Int):(XB k).size<=1:=by rw[Qn];split <;> omega
def YU{x:Int}(h:0<=x/\x<64):(YS x).size=2:=by rw[ZdH h];rfl
def Jw(c:Int):ByteArray:=if c=-1 then ⟨#[45]⟩ else ⟨#[120]⟩
def VM{c:Int}(h:c=-1):Jw c=⟨#[45]⟩:=ZcA h
def Vm{c:Int}(h:c≠-1):Jw c=⟨#[120]⟩:=Zcz h
def rD(c:Int):(Jw c).size=1:=by unfold Jw;split <;> rfl
def QP(P:Nat->Int)(a t:Int):ByteArray:=XB (P (sqI a))++YS a++Jw (Y7 P (P (sqI a)) a t)++YS t
def WG(P:Nat->Int)(a t b:Int):ByteArray :=
 if P (sqI a)=6/\t-a=2 then ⟨#[79,45,79]⟩ else if P (sqI a)=6/\t-a=-2 then ⟨#[79,45,79,45,79]⟩ else if b=0 then QP P a t else QP P a t++⟨#[61]⟩++XB b
def zt(Q:Nat->Int)(s:ByteArray):ByteArray:=if (ofN Q (XN Q).length).2=1 then s++⟨#[35]⟩ else if WU Q (Q 128)=true then s++⟨#[43]⟩ else s
def UW(P:Nat->Int)(a t b:Int):ByteArray:=zt (XV P a t b) (WG P a t b)
def V2{P:Nat->Int}{a t:Int}(ha:0<=a/\a<64)(ht:0<=t/\t<64):5<=(QP P a t).size/\(QP P a t).size<=6:=by
 unfold QP;simp only[ZbP,YU ha,YU ht,rD];have:=V5 (P (sqI a));omega
def p7{P:Nat->Int}{a t b:Int}(ha:0<=a/\a<64)(ht:0<=t/\t<64):(WG P a t b).size≠0/\(WG P a t b).size<=16:=by
 have h:=V2 (P:=P) ha ht;have h2:=V5 b;have h3:(⟨#[61]⟩:ByteArray).size=1:=rfl;unfold WG;split
 ·exact⟨by decide,by decide⟩
 split
 ·exact⟨by decide,by decide⟩
 split
 ·omega
 simp only[ZbP];omega
def ZeN{P:Nat->Int}{a t b:Int}(h:P (sqI a)=6)(h2:t-a=2):(⟨#[79,45,79]⟩:ByteArray)=WG P a t b:=by unfold WG;rw[ZcA ⟨h,h2⟩]
def ZeA{P:Nat->Int}{a t b:Int}(h:P (sqI a)=6)(h2:t-a=-2):(⟨#[79,45,79,45,79]⟩:ByteArray)=WG P a t b:=by unfold WG;rw[Zcz (by omega),ZcA ⟨h,h2⟩]
def Jd{P:Nat->Int}{a t b:Int}(h1:¬ (P (sqI a)=6/\t-a=2))(h2:¬ (P (sqI a)=6/\t-a=-2))(hb:b=0){s:ByteArray}(hs:s=QP P a t):s=WG P a t b:=by unfold WG;rw[Zcz h1,Zcz h2,ZcA hb,hs]
def Je{P:Nat->Int}{a t b:Int}(h1:¬ (P (sqI a)=6/\t-a=2))(h2:¬ (P (sqI a)=6/\t-a=-2))(hb:b≠0){s:ByteArray}(hs:s=QP P a t):s++⟨#[61]⟩++XB b=WG P a t b:=by unfold WG;rw[Zcz h1,Zcz h2,Zcz hb,hs]
def UI{P:Nat->Int}{a t:Int}{g:ByteArray}(hg:g=Jw (Y7 P (P (sqI a)) a t)):XB (P (sqI a))++YS a++g++YS t=QP P a t:=by rw[hg];rfl
def UK{P:Nat->Int}{a t:Int}{g:ByteArray}(hk:P (sqI a)=1)(hg:g=Jw (Y7 P (P (sqI a)) a t)):YS a++g++YS t=QP P a t:=by
 rw[hg];unfold QP;rw[hk,Zau,show(⟨#[]⟩:ByteArray)++YS a=YS a from ByteArray.empty_append]
def Long_no(P M:Nat->Int)(hm:(M 0,M 1,M 2) ∉ XN P):WR AM 8 [.agg 133 (ia P),.agg 3 (ia M)] [] (fun v _ _=>v=.tup [.s (.str ⟨#[]⟩),.s (.int .i64 8)]):=by
 have his:=YP (jG P M);rw[Zci hm]at his;refine YL (a:=a8) G G (YI _) (ZQ G) (m:=0) G (Ze (YC G (YC G (Yq G (Yq G (Yc (Ye (Ze (Yo G G ZN (Yo G G ZM (Yt G (his) G G G (Yv (r:=.bool _) G G (Yc (ZA G (Ze (Yq G (Yq G (Yc (Yi (⟨_,YH (v:=.s _) G (ZL G),?_⟩))))))))))))))))))));rfl
def Zaz(P M:Nat->Int)(hz:∀ i,133<=i->P i=0)(hm:(M 0,M 1,M 2)∈XN P):WR AM 8 [.agg 133 (ia P),.agg 3 (ia M)] [] (fun v _ _=>v=.tup [.s (.str (UW P (M 0) (M 1) (M 2))),.s (.int .i64 0)]):=by
 have his:=YP (jG P M);rw[Zcl hm]at his;obtain⟨h1p,h2p,h3p⟩:=(DA hz).1 hm;obtain⟨hsq,htq,hg,hmt⟩:=yH h2p;have he:=Zd8 h2p;obtain⟨hk6,_,_,hne⟩:=yj hg;simp only at hsq htq hg hmt he hk6 hne;have htk:=YP (sV P M);rw[ZcA he]at htk;have hmv:=YP (qS P M);rw[he]at hmv;have hsz:=p7 (P:=P) (b:=M 2) hsq htq;refine YL (a:=a8) G G (YI _) (ZQ G) (m:=0) G (Ze (YC G (YC G (Yq G (Yq G (Yc (Ye (Ze (Yo G G ZN (Yo G G ZM (Yt G (his) G G G (Yv (r:=.bool _) G G (Yc (ZB G (Yh (Ye (Yg (Rr (v:=.aggv [.pnil,.snil]) G (w4 G G (sL w5 G G EN (Zy G (Ym (x:=M 0) G G ZO (G) (Zy G (Zw G G G (Yp G G ZP (Yy (Zl G (Yq (v:=.map _) G (Yz G G G G .here ?_)))))))))))))))))))))))))))));refine Yc (Wz (fun f n L=>∃ (kb:Nat) (s:ByteArray),(s=WG P (M 0) (M 1) (M 2))/\(f 2=.ptr 0 0 133)/\(f 3=.ptr 1 0 3)/\(f 6=.ptr 2 0 2)/\(L=[(kb,.sc (.gty 5) s.size (Xv s)),(2,UU 54 2 kb s.size),(1,.sc .var 3 (ia M)),(0,.sc .var 133 (ia P))])) ?_ (fun f nb L hI=>?_))
 ·refine Ze (Zz G (Ym (x:=M 1) G G ZP (G) (Zy G (Ym (x:=M 0) G G ZP (G) (Zt G G (Zj G (Yc (Yk (Ze (Zy G (Ym (x:=(P (sqI (M 0)))) G G ZM (G) (Zr G (Zk G (Ys (t:=64) G (fun h64=>?_) (fun h64=>?_))))))))))))))) <;> simp only[NM]at h64
  ·refine Yb G (Zj G (Yb G (Zr G (Zq G (Zk G (Yc (Yj G (fun h60=>?_) (fun h60=>?_)))))))) <;> simp only[NM]at h60
   ·refine Yf (Zl G (Rq G (XH (Lr:=[(_,_)]) (L0:=[_,_,_,_]) (ki (gS1 ⟨#[79,45,79]⟩) (.ex 1) ⟨#[79,45,79]⟩ G (by decide) (by decide)) G G (Zcj (.refl _) ((Zcm _ ((Zcm _ ((Zcm _ (.refl _)).trans (.swap _ _ _))).trans (.swap _ _ _))).trans (.swap _ _ _))) G G G G G G G (Yc ?_))));refine⟨_,(.cons_cons _ (.cons_cons _ (.cons _ (.cons _ (.cons _ (.refl _)))))),6,_,ZeN h64 h60,G,G,G,G⟩
   refine Ze (Zy G (Ym (x:=(P (sqI (M 0)))) G G ZM (G) (Zr G (Zk G (Ys (t:=75) G (fun h75=>?_) (fun h75=>?_)))))) <;> simp only[NM]at h75
   ·refine Yb G (Zj G (Yb G (Zr G (Zq G (Zk G (Yc (Yj G (fun h71=>?_) (fun h71=>?_)))))))) <;> simp only[NM]at h71
    ·refine Yf (Zl G (Rq G (XH (Lr:=[(_,_)]) (L0:=[_,_,_,_]) (ki (gS1 ⟨#[79,45,79,45,79]⟩) (.ex 1) ⟨#[79,45,79,45,79]⟩ G (by decide) (by decide)) G G (Zcj (.refl _) ((Zcm _ ((Zcm _ ((Zcm _ (.refl _)).trans (.swap _ _ _))).trans (.swap _ _ _))).trans (.swap _ _ _))) G G G G G G G (Yc ?_))));refine⟨_,(.cons_cons _ (.cons_cons _ (.cons _ (.cons _ (.cons _ (.refl _)))))),6,_,ZeA h75 h71,G,G,G,G⟩
    refine Ze (Yq G (Yc (Ye (Ze (Yo G G (.tail _ ZP) (Yo G G ZP (Yt G (htk) G G G (Zr G (Yc (Yj G (fun h35=>?_) (fun h35=>?_))))))))))) <;> simp only[NM]at h35
    ·refine Yf (Yq G (Yc (Ye (Yg (Zl G (Yq (v:=.map _) G (Zy G (Ym (x:=(P (sqI (M 0)))) G G ZM (G) (WK G G ZN G (W6 _) (Zy G (Ym (x:=M 0) G G ZP (G) (Yu G (WH _) G G G (Yq (v:=.s _) G (Zz G (Ym (x:=M 1) G G ZP (G) (Yu G (WH _) G G G (EP G G G G ?_)))))))))))))))));by_cases hk1:P (sqI (M 0))=1
     ·refine XH (Lr:=[(_,_)]) (L0:=[_,_,_,_]) (Tb (gS4 (XB (P (sqI (M 0)))) (YS (M 0)) ⟨#[120]⟩ (YS (M 1))) (.ex 4) (XB (P (sqI (M 0)))) (YS (M 0)) ⟨#[120]⟩ (YS (M 1)) G G G G (by rw[hk1];rfl) (by rw[YU hsq];omega) (by rw[YU hsq,YU htq];exact YF rfl)) G G (Zcj (.refl _) ((Zcm _ ((Zcm _ ((Zcm _ (.refl _)).trans (.swap _ _ _))).trans (.swap _ _ _))).trans (.swap _ _ _))) G G G G G G G (Zf (Yd (o':=2) G G G (Ym (x:=M 2) G G (.tail _ (.tail _ ZP)) (G) (Zr G (Yc (Yj G (fun h52=>?_) (fun h52=>?_))))))) <;> simp only[NM]at h52
      ·refine Yf (Zl G (Yq (v:=.map _) G (Yd (o':=2) G G G (Ym (x:=M 2) G G (.tail _ (.tail _ ZP)) (G) (WK G G (.tail _ ZP) G (W6 _) (Qc G G (XH (Lr:=[(_,_),(_,_)]) (L0:=[_,_,_,_,_]) (U1 (gS2 ⟨#[61]⟩ (XB (M 2))) (.ex 2) ⟨#[61]⟩ (XB (M 2)) (YS (M 0)++⟨#[120]⟩++YS (M 1)) G G (by rw[UK hk1 ((Vm h35).symm)];have h8:=V5 (M 2);have h9:=V2 (P:=P) hsq htq;have h7:(⟨#[61]⟩:ByteArray).size=1:=rfl;omega)) G G (Zcj (Zcj (.refl _) ((Zcm _ (.refl _)).trans (.swap _ _ _))) ((Zcm _ ((Zcm _ (.refl _)).trans (.swap _ _ _))).trans (.swap _ _ _))) G G G G G G G (Yc ?_))))))));refine⟨_,(.cons_cons _ (.cons_cons _ (.cons _ (.cons _ (.cons _ (.cons _ (.cons _ (.refl _)))))))),8,_,Je (fun q=>h60 q.2) (fun q=>h71 q.2) h52 (UK hk1 ((Vm h35).symm)),G,G,G,G⟩
      refine Yh ?_;refine⟨_,(.cons_cons _ (.cons_cons _ (.cons _ (.cons _ (.cons _ (.refl _)))))),6,_,Jd (fun q=>h60 q.2) (fun q=>h71 q.2) h52 (UK hk1 ((Vm h35).symm)),G,G,G,G⟩
     refine XH (Lr:=[(_,_)]) (L0:=[_,_,_,_]) (Es (gS4 (XB (P (sqI (M 0)))) (YS (M 0)) ⟨#[120]⟩ (YS (M 1))) (.ex 4) (XB (P (sqI (M 0)))) (YS (M 0)) ⟨#[120]⟩ (YS (M 1)) G G G G (by rw[Qn,ZcA (by omega)];omega) (by rw[YU hsq,YU htq,Qn,ZcA (by omega)];exact YF rfl)) G G (Zcj (.refl _) ((Zcm _ ((Zcm _ ((Zcm _ (.refl _)).trans (.swap _ _ _))).trans (.swap _ _ _))).trans (.swap _ _ _))) G G G G G G G (Zf (Yd (o':=2) G G G (Ym (x:=M 2) G G (.tail _ (.tail _ ZP)) (G) (Zr G (Yc (Yj G (fun h52=>?_) (fun h52=>?_))))))) <;> simp only[NM]at h52
     ·refine Yf (Zl G (Yq (v:=.map _) G (Yd (o':=2) G G G (Ym (x:=M 2) G G (.tail _ (.tail _ ZP)) (G) (WK G G (.tail _ ZP) G (W6 _) (Qc G G (XH (Lr:=[(_,_),(_,_)]) (L0:=[_,_,_,_,_]) (U1 (gS2 ⟨#[61]⟩ (XB (M 2))) (.ex 2) ⟨#[61]⟩ (XB (M 2)) (XB (P (sqI (M 0)))++YS (M 0)++⟨#[120]⟩++YS (M 1)) G G (by rw[UI ((Vm h35).symm)];have h8:=V5 (M 2);have h9:=V2 (P:=P) hsq htq;have h7:(⟨#[61]⟩:ByteArray).size=1:=rfl;omega)) G G (Zcj (Zcj (.refl _) ((Zcm _ (.refl _)).trans (.swap _ _ _))) ((Zcm _ ((Zcm _ (.refl _)).trans (.swap _ _ _))).trans (.swap _ _ _))) G G G G G G G (Yc ?_))))))));refine⟨_,(.cons_cons _ (.cons_cons _ (.cons _ (.cons _ (.cons _ (.cons _ (.cons _ (.refl _)))))))),8,_,Je (fun q=>h60 q.2) (fun q=>h71 q.2) h52 (UI ((Vm h35).symm)),G,G,G,G⟩
     refine Yh ?_;refine⟨_,(.cons_cons _ (.cons_cons _ (.cons _ (.cons _ (.cons _ (.refl _)))))),6,_,Jd (fun q=>h60 q.2) (fun q=>h71 q.2) h52 (UI ((Vm h35).symm)),G,G,G,G⟩
    refine Yh (Ye (Yg (Zl G (Yq (v:=.map _) G (Zy G (Ym (x:=(P (sqI (M 0)))) G G ZM (G) (WK G G ZN G (W6 _) (Zy G (Ym (x:=M 0) G G ZP (G) (Yu G (WH _) G G G (Yq (v:=.s _) G (Zz G (Ym (x:=M 1) G G ZP (G) (Yu G (WH _) G G G (EP G G G G ?_)))))))))))))));by_cases hk1:P (sqI (M 0))=1
    ·refine XH (Lr:=[(_,_)]) (L0:=[_,_,_,_]) (Tb (gS4 (XB (P (sqI (M 0)))) (YS (M 0)) ⟨#[45]⟩ (YS (M 1))) (.ex 4) (XB (P (sqI (M 0)))) (YS (M 0)) ⟨#[45]⟩ (YS (M 1)) G G G G (by rw[hk1];rfl) (by rw[YU hsq];omega) (by rw[YU hsq,YU htq];exact YF rfl)) G G (Zcj (.refl _) ((Zcm _ ((Zcm _ ((Zcm _ (.refl _)).trans (.swap _ _ _))).trans (.swap _ _ _))).trans (.swap _ _ _))) G G G G G G G (Zf (Yd (o':=2) G G G (Ym (x:=M 2) G G (.tail _ (.tail _ ZP)) (G) (Zr G (Yc (Yj G (fun h52=>?_) (fun h52=>?_))))))) <;> simp only[NM]at h52
     ·refine Yf (Zl G (Yq (v:=.map _) G (Yd (o':=2) G G G (Ym (x:=M 2) G G (.tail _ (.tail _ ZP)) (G) (WK G G (.tail _ ZP) G (W6 _) (Qc G G (XH (Lr:=[(_,_),(_,_)]) (L0:=[_,_,_,_,_]) (U1 (gS2 ⟨#[61]⟩ (XB (M 2))) (.ex 2) ⟨#[61]⟩ (XB (M 2)) (YS (M 0)++⟨#[45]⟩++YS (M 1)) G G (by rw[UK hk1 ((VM h35).symm)];have h8:=V5 (M 2);have h9:=V2 (P:=P) hsq htq;have h7:(⟨#[61]⟩:ByteArray).size=1:=rfl;omega)) G G (Zcj (Zcj (.refl _) ((Zcm _ (.refl _)).trans (.swap _ _ _))) ((Zcm _ ((Zcm _ (.refl _)).trans (.swap _ _ _))).trans (.swap _ _ _))) G G G G G G G (Yc ?_))))))));refine⟨_,(.cons_cons _ (.cons_cons _ (.cons _ (.cons _ (.cons _ (.cons _ (.cons _ (.refl _)))))))),8,_,Je (fun q=>h60 q.2) (fun q=>h71 q.2) h52 (UK hk1 ((VM h35).symm)),G,G,G,G⟩
     refine Yh ?_;refine⟨_,(.cons_cons _ (.cons_cons _ (.cons _ (.cons _ (.cons _ (.refl _)))))),6,_,Jd (fun q=>h60 q.2) (fun q=>h71 q.2) h52 (UK hk1 ((VM h35).symm)),G,G,G,G⟩
    refine XH (Lr:=[(_,_)]) (L0:=[_,_,_,_]) (Es (gS4 (XB (P (sqI (M 0)))) (YS (M 0)) ⟨#[45]⟩ (YS (M 1))) (.ex 4) (XB (P (sqI (M 0)))) (YS (M 0)) ⟨#[45]⟩ (YS (M 1)) G G G G (by rw[Qn,ZcA (by omega)];omega) (by rw[YU hsq,YU htq,Qn,ZcA (by omega)];exact YF rfl)) G G (Zcj (.refl _) ((Zcm _ ((Zcm _ ((Zcm _ (.refl _)).trans (.swap _ _ _))).trans (.swap _ _ _))).trans (.swap _ _ _))) G G G G G G G (Zf (Yd (o':=2) G G G (Ym (x:=M 2) G G (.tail _ (.tail _ ZP)) (G) (Zr G (Yc (Yj G (fun h52=>?_) (fun h52=>?_))))))) <;> simp only[NM]at h52
    ·refine Yf (Zl G (Yq (v:=.map _) G (Yd (o':=2) G G G (Ym (x:=M 2) G G (.tail _ (.tail _ ZP)) (G) (WK G G (.tail _ ZP) G (W6 _) (Qc G G (XH (Lr:=[(_,_),(_,_)]) (L0:=[_,_,_,_,_]) (U1 (gS2 ⟨#[61]⟩ (XB (M 2))) (.ex 2) ⟨#[61]⟩ (XB (M 2)) (XB (P (sqI (M 0)))++YS (M 0)++⟨#[45]⟩++YS (M 1)) G G (by rw[UI ((VM h35).symm)];have h8:=V5 (M 2);have h9:=V2 (P:=P) hsq htq;have h7:(⟨#[61]⟩:ByteArray).size=1:=rfl;omega)) G G (Zcj (Zcj (.refl _) ((Zcm _ (.refl _)).trans (.swap _ _ _))) ((Zcm _ ((Zcm _ (.refl _)).trans (.swap _ _ _))).trans (.swap _ _ _))) G G G G G G G (Yc ?_))))))));refine⟨_,(.cons_cons _ (.cons_cons _ (.cons _ (.cons _ (.cons _ (.cons _ (.cons _ (.refl _)))))))),8,_,Je (fun q=>h60 q.2) (fun q=>h71 q.2) h52 (UI ((VM h35).symm)),G,G,G,G⟩
    refine Yh ?_;refine⟨_,(.cons_cons _ (.cons_cons _ (.cons _ (.cons _ (.cons _ (.refl _)))))),6,_,Jd (fun q=>h60 q.2) (fun q=>h71 q.2) h52 (UI ((VM h35).symm)),G,G,G,G⟩
   exfalso;omega
  refine ZD G (Zq G (Zk G (Yc (ZB G (Ze (Zy G (Ym (x:=(P (sqI (M 0)))) G G ZM (G) (Zr G (Zk G (Ys (t:=75) G (fun h75=>?_) (fun h75=>?_))))))))))) <;> simp only[NM]at h75
  ·exfalso;omega
  refine ZD G (Zq G (Zk G (Yc (ZB G (Ze (Yq G (Yc (Ye (Ze (Yo G G (.tail _ ZP) (Yo G G ZP (Yt G (htk) G G G (Zr G (Yc (Yj G (fun h35=>?_) (fun h35=>?_)))))))))))))))) <;> simp only[NM]at h35
  ·refine Yf (Yq G (Yc (Ye (Yg (Zl G (Yq (v:=.map _) G (Zy G (Ym (x:=(P (sqI (M 0)))) G G ZM (G) (WK G G ZN G (W6 _) (Zy G (Ym (x:=M 0) G G ZP (G) (Yu G (WH _) G G G (Yq (v:=.s _) G (Zz G (Ym (x:=M 1) G G ZP (G) (Yu G (WH _) G G G (EP G G G G ?_)))))))))))))))));by_cases hk1:P (sqI (M 0))=1
   ·refine XH (Lr:=[(_,_)]) (L0:=[_,_,_,_]) (Tb (gS4 (XB (P (sqI (M 0)))) (YS (M 0)) ⟨#[120]⟩ (YS (M 1))) (.ex 4) (XB (P (sqI (M 0)))) (YS (M 0)) ⟨#[120]⟩ (YS (M 1)) G G G G (by rw[hk1];rfl) (by rw[YU hsq];omega) (by rw[YU hsq,YU htq];exact YF rfl)) G G (Zcj (.refl _) ((Zcm _ ((Zcm _ ((Zcm _ (.refl _)).trans (.swap _ _ _))).trans (.swap _ _ _))).trans (.swap _ _ _))) G G G G G G G (Zf (Yd (o':=2) G G G (Ym (x:=M 2) G G (.tail _ (.tail _ ZP)) (G) (Zr G (Yc (Yj G (fun h52=>?_) (fun h52=>?_))))))) <;> simp only[NM]at h52
    ·refine Yf (Zl G (Yq (v:=.map _) G (Yd (o':=2) G G G (Ym (x:=M 2) G G (.tail _ (.tail _ ZP)) (G) (WK G G (.tail _ ZP) G (W6 _) (Qc G G (XH (Lr:=[(_,_),(_,_)]) (L0:=[_,_,_,_,_]) (U1 (gS2 ⟨#[61]⟩ (XB (M 2))) (.ex 2) ⟨#[61]⟩ (XB (M 2)) (YS (M 0)++⟨#[120]⟩++YS (M 1)) G G (by rw[UK hk1 ((Vm h35).symm)];have h8:=V5 (M 2);have h9:=V2 (P:=P) hsq htq;have h7:(⟨#[61]⟩:ByteArray).size=1:=rfl;omega)) G G (Zcj (Zcj (.refl _) ((Zcm _ (.refl _)).trans (.swap _ _ _))) ((Zcm _ ((Zcm _ (.refl _)).trans (.swap _ _ _))).trans (.swap _ _ _))) G G G G G G G (Yc ?_))))))));refine⟨_,(.cons_cons _ (.cons_cons _ (.cons _ (.cons _ (.cons _ (.cons _ (.cons _ (.refl _)))))))),8,_,Je (fun q=>h64 q.1) (fun q=>h75 q.1) h52 (UK hk1 ((Vm h35).symm)),G,G,G,G⟩
    refine Yh ?_;refine⟨_,(.cons_cons _ (.cons_cons _ (.cons _ (.cons _ (.cons _ (.refl _)))))),6,_,Jd (fun q=>h64 q.1) (fun q=>h75 q.1) h52 (UK hk1 ((Vm h35).symm)),G,G,G,G⟩
   refine XH (Lr:=[(_,_)]) (L0:=[_,_,_,_]) (Es (gS4 (XB (P (sqI (M 0)))) (YS (M 0)) ⟨#[120]⟩ (YS (M 1))) (.ex 4) (XB (P (sqI (M 0)))) (YS (M 0)) ⟨#[120]⟩ (YS (M 1)) G G G G (by rw[Qn,ZcA (by omega)];omega) (by rw[YU hsq,YU htq,Qn,ZcA (by omega)];exact YF rfl)) G G (Zcj (.refl _) ((Zcm _ ((Zcm _ ((Zcm _ (.refl _)).trans (.swap _ _ _))).trans (.swap _ _ _))).trans (.swap _ _ _))) G G G G G G G (Zf (Yd (o':=2) G G G (Ym (x:=M 2) G G (.tail _ (.tail _ ZP)) (G) (Zr G (Yc (Yj G (fun h52=>?_) (fun h52=>?_))))))) <;> simp only[NM]at h52
   ·refine Yf (Zl G (Yq (v:=.map _) G (Yd (o':=2) G G G (Ym (x:=M 2) G G (.tail _ (.tail _ ZP)) (G) (WK G G (.tail _ ZP) G (W6 _) (Qc G G (XH (Lr:=[(_,_),(_,_)]) (L0:=[_,_,_,_,_]) (U1 (gS2 ⟨#[61]⟩ (XB (M 2))) (.ex 2) ⟨#[61]⟩ (XB (M 2)) (XB (P (sqI (M 0)))++YS (M 0)++⟨#[120]⟩++YS (M 1)) G G (by rw[UI ((Vm h35).symm)];have h8:=V5 (M 2);have h9:=V2 (P:=P) hsq htq;have h7:(⟨#[61]⟩:ByteArray).size=1:=rfl;omega)) G G (Zcj (Zcj (.refl _) ((Zcm _ (.refl _)).trans (.swap _ _ _))) ((Zcm _ ((Zcm _ (.refl _)).trans (.swap _ _ _))).trans (.swap _ _ _))) G G G G G G G (Yc ?_))))))));refine⟨_,(.cons_cons _ (.cons_cons _ (.cons _ (.cons _ (.cons _ (.cons _ (.cons _ (.refl _)))))))),8,_,Je (fun q=>h64 q.1) (fun q=>h75 q.1) h52 (UI ((Vm h35).symm)),G,G,G,G⟩
   refine Yh ?_;refine⟨_,(.cons_cons _ (.cons_cons _ (.cons _ (.cons _ (.cons _ (.refl _)))))),6,_,Jd (fun q=>h64 q.1) (fun q=>h75 q.1) h52 (UI ((Vm h35).symm)),G,G,G,G⟩
  refine Yh (Ye (Yg (Zl G (Yq (v:=.map _) G (Zy G (Ym (x:=(P (sqI (M 0)))) G G ZM (G) (WK G G ZN G (W6 _) (Zy G (Ym (x:=M 0) G G ZP (G) (Yu G (WH _) G G G (Yq (v:=.s _) G (Zz G (Ym (x:=M 1) G G ZP (G) (Yu G (WH _) G G G (EP G G G G ?_)))))))))))))));by_cases hk1:P (sqI (M 0))=1
  ·refine XH (Lr:=[(_,_)]) (L0:=[_,_,_,_]) (Tb (gS4 (XB (P (sqI (M 0)))) (YS (M 0)) ⟨#[45]⟩ (YS (M 1))) (.ex 4) (XB (P (sqI (M 0)))) (YS (M 0)) ⟨#[45]⟩ (YS (M 1)) G G G G (by rw[hk1];rfl) (by rw[YU hsq];omega) (by rw[YU hsq,YU htq];exact YF rfl)) G G (Zcj (.refl _) ((Zcm _ ((Zcm _ ((Zcm _ (.refl _)).trans (.swap _ _ _))).trans (.swap _ _ _))).trans (.swap _ _ _))) G G G G G G G (Zf (Yd (o':=2) G G G (Ym (x:=M 2) G G (.tail _ (.tail _ ZP)) (G) (Zr G (Yc (Yj G (fun h52=>?_) (fun h52=>?_))))))) <;> simp only[NM]at h52
   ·refine Yf (Zl G (Yq (v:=.map _) G (Yd (o':=2) G G G (Ym (x:=M 2) G G (.tail _ (.tail _ ZP)) (G) (WK G G (.tail _ ZP) G (W6 _) (Qc G G (XH (Lr:=[(_,_),(_,_)]) (L0:=[_,_,_,_,_]) (U1 (gS2 ⟨#[61]⟩ (XB (M 2))) (.ex 2) ⟨#[61]⟩ (XB (M 2)) (YS (M 0)++⟨#[45]⟩++YS (M 1)) G G (by rw[UK hk1 ((VM h35).symm)];have h8:=V5 (M 2);have h9:=V2 (P:=P) hsq htq;have h7:(⟨#[61]⟩:ByteArray).size=1:=rfl;omega)) G G (Zcj (Zcj (.refl _) ((Zcm _ (.refl _)).trans (.swap _ _ _))) ((Zcm _ ((Zcm _ (.refl _)).trans (.swap _ _ _))).trans (.swap _ _ _))) G G G G G G G (Yc ?_))))))));refine⟨_,(.cons_cons _ (.cons_cons _ (.cons _ (.cons _ (.cons _ (.cons _ (.cons _ (.refl _)))))))),8,_,Je (fun q=>h64 q.1) (fun q=>h75 q.1) h52 (UK hk1 ((VM h35).symm)),G,G,G,G⟩
   refine Yh ?_;refine⟨_,(.cons_cons _ (.cons_cons _ (.cons _ (.cons _ (.cons _ (.refl _)))))),6,_,Jd (fun q=>h64 q.1) (fun q=>h75 q.1) h52 (UK hk1 ((VM h35).symm)),G,G,G,G⟩
  refine XH (Lr:=[(_,_)]) (L0:=[_,_,_,_]) (Es (gS4 (XB (P (sqI (M 0)))) (YS (M 0)) ⟨#[45]⟩ (YS (M 1))) (.ex 4) (XB (P (sqI (M 0)))) (YS (M 0)) ⟨#[45]⟩ (YS (M 1)) G G G G (by rw[Qn,ZcA (by omega)];omega) (by rw[YU hsq,YU htq,Qn,ZcA (by omega)];exact YF rfl)) G G (Zcj (.refl _) ((Zcm _ ((Zcm _ ((Zcm _ (.refl _)).trans (.swap _ _ _))).trans (.swap _ _ _))).trans (.swap _ _ _))) G G G G G G G (Zf (Yd (o':=2) G G G (Ym (x:=M 2) G G (.tail _ (.tail _ ZP)) (G) (Zr G (Yc (Yj G (fun h52=>?_) (fun h52=>?_))))))) <;> simp only[NM]at h52
  ·refine Yf (Zl G (Yq (v:=.map _) G (Yd (o':=2) G G G (Ym (x:=M 2) G G (.tail _ (.tail _ ZP)) (G) (WK G G (.tail _ ZP) G (W6 _) (Qc G G (XH (Lr:=[(_,_),(_,_)]) (L0:=[_,_,_,_,_]) (U1 (gS2 ⟨#[61]⟩ (XB (M 2))) (.ex 2) ⟨#[61]⟩ (XB (M 2)) (XB (P (sqI (M 0)))++YS (M 0)++⟨#[45]⟩++YS (M 1)) G G (by rw[UI ((VM h35).symm)];have h8:=V5 (M 2);have h9:=V2 (P:=P) hsq htq;have h7:(⟨#[61]⟩:ByteArray).size=1:=rfl;omega)) G G (Zcj (Zcj (.refl _) ((Zcm _ (.refl _)).trans (.swap _ _ _))) ((Zcm _ ((Zcm _ (.refl _)).trans (.swap _ _ _))).trans (.swap _ _ _))) G G G G G G G (Yc ?_))))))));refine⟨_,(.cons_cons _ (.cons_cons _ (.cons _ (.cons _ (.cons _ (.cons _ (.cons _ (.refl _)))))))),8,_,Je (fun q=>h64 q.1) (fun q=>h75 q.1) h52 (UI ((VM h35).symm)),G,G,G,G⟩
  refine Yh ?_;refine⟨_,(.cons_cons _ (.cons_cons _ (.cons _ (.cons _ (.cons _ (.refl _)))))),6,_,Jd (fun q=>h64 q.1) (fun q=>h75 q.1) h52 (UI ((VM h35).symm)),G,G,G,G⟩
 obtain⟨kb,s,hs,k2,k3,k6,rfl⟩:=hI;refine Za 2 k2 (Za 3 k3 (Za 6 k6 ?_));rw[<-hs]at hsz;have hqz0:=fun(i9:Nat) (hi9:133<=i9)=>Q8 (P:=P) (a:=M 0) (t:=M 1) (b:=M 2) hi9
 obtain⟨Q,hQ⟩:∃ Q,Q=XV P (M 0) (M 1) (M 2):=⟨_,rfl⟩
 rw[<-hQ]at hmv hqz0;have hqid:ovA (fun _=>0) 0 133 Q=Q:=QG hqz0;have hof:RF AM 24 [.agg 133 (ia (ovA (fun _=>0) 0 133 Q))] (.tup [.s (.int .i64 (ofN Q (XN Q).length).1),.s (.int .i64 (ofN Q (XN Q).length).2)]):=by rw[hqid];exact YP (of_walk Q hqz0)
 have hchk:RF AM 25 [.agg 133 (ia (ovA (fun _=>0) 0 133 Q)),.s (.int .i64 (Q 128))] (.s (.bool (WU Q (Q 128)))):=by rw[hqid];exact RR Q (Q 128)
 refine Ze (Yo G G ZP (Yo G G ZO (Yt G (hmv) G G G (Zo G (YD (v:=.agg _ _) G G (YD (v:=.s (.int _ _)) G G (Yy (Yz G G G G .here (Zj G (Yc (Ye (Ze (Yo G G ZM (Yt G (hof) G G G (Zo G (YD (v:=.s (.int _ _)) G G (YD (v:=.s (.int _ _)) G G (Zj G (Zj G (Yc (Yk (Ze (Zj G (Zr G (Zk G (Yc (Yj G (fun h93=>?_) (fun h93=>?_)))))))))))))))))))))))))))) <;> simp only[NM]at h93
 ·refine Yf (Zl G (Rq G (XH (Lr:=[(_,_),(_,_)]) (L0:=[_,_,_]) (yo (gS1 ⟨#[35]⟩) (.ex 1) ⟨#[35]⟩ s G (by have h7:(⟨#[35]⟩:ByteArray).size=1:=rfl;omega)) G G (Zcj (Zcj (.refl _) ((Zcm _ ((Zcm _ (.refl _)).trans (.swap _ _ _))).trans (.swap _ _ _))) ((Zcm _ ((Zcm _ ((Zcm _ (.refl _)).trans (.swap _ _ _))).trans (.swap _ _ _))).trans (.swap _ _ _))) G G G G G G G (Zf (Zl G (YG G (Zy G (TL (E9 (s++⟨#[35]⟩) (by simp only[ZbP];omega) (by have h7:(⟨#[35]⟩:ByteArray).size=1:=rfl;simp only[ZbP];omega)) G G G G ZN .here (Yq (v:=.s _) G (Yq G (Yc (Yi (⟨_,YH (v:=.s _) G (ZL G),?_⟩)))))))))))));refine congrArg (fun x=>V.tup [.s (.str x),.s (.int .i64 0)]) ?_;unfold UW zt;rw[<-hQ,<-hs];rw[ZcA h93]
 refine Ze (Yo G G ZM (Yd (o':=128) G G G (Ym (x:=Q 128) G G ZM (G) (Yt G (hchk) G G G (Zk G (Yc (Yj G (fun h99=>?_) (fun h99=>?_))))))))
 ·refine Yf (Zl G (Rq G (XH (Lr:=[(_,_),(_,_)]) (L0:=[_,_,_]) (yo (gS1 ⟨#[43]⟩) (.ex 1) ⟨#[43]⟩ s G (by have h7:(⟨#[43]⟩:ByteArray).size=1:=rfl;omega)) G G (Zcj (Zcj (.refl _) ((Zcm _ ((Zcm _ (.refl _)).trans (.swap _ _ _))).trans (.swap _ _ _))) ((Zcm _ ((Zcm _ ((Zcm _ (.refl _)).trans (.swap _ _ _))).trans (.swap _ _ _))).trans (.swap _ _ _))) G G G G G G G (Zf (Zl G (YG G (Zy G (TL (E9 (s++⟨#[43]⟩) (by simp only[ZbP];omega) (by have h7:(⟨#[43]⟩:ByteArray).size=1:=rfl;simp only[ZbP];omega)) G G G G ZN .here (Yq (v:=.s _) G (Yq G (Yc (Yi (⟨_,YH (v:=.s _) G (ZL G),?_⟩)))))))))))));refine congrArg (fun x=>V.tup [.s (.str x),.s (.int .i64 0)]) ?_;unfold UW zt;rw[<-hQ,<-hs];rw[Zcz h93,ZcA h99]
 refine Yh (Ze (Zl G (YG G (Zy G (TL (E9 s (by omega) (by omega)) G G G G ZO (.there .here) (Yq (v:=.s _) G (Yq G (Yc (Yi (⟨_,YH (v:=.s _) G (ZL G),?_⟩))))))))));refine congrArg (fun x=>V.tup [.s (.str x),.s (.int .i64 0)]) ?_;unfold UW zt;rw[<-hQ,<-hs];rw[Zcz h93,h99,Zcz Bool.false_ne_true]
theorem Ze6:∀ k:Fin 5,(⟨#[78,66,82,81,75]⟩:ByteArray).extract k.val (k.val+1)=XB (k.val+2):=by decide +kernel
theorem Ze3:∀ k:Fin 4,(⟨#[78,66,82,81]⟩:ByteArray).extract k.val (k.val+1)=XB (k.val+2):=by decide +kernel
def ext5{k:Int}(h:2<=k/\k<=6):(⟨#[78,66,82,81,75]⟩:ByteArray).extract (k-2).toNat (k-1).toNat=XB k:=by
 have:=Ze6 ⟨(k-2).toNat,by omega⟩;simp only at this;rw[show(k-1).toNat=(k-2).toNat+1 by omega,this,show((k-2).toNat:Int)+2=k by omega]
def ZdG{k:Int}(h:2<=k/\k<=5):(⟨#[78,66,82,81]⟩:ByteArray).extract (k-2).toNat (k-1).toNat=XB k:=by
 have:=Ze3 ⟨(k-2).toNat,by omega⟩;simp only at this;rw[show(k-1).toNat=(k-2).toNat+1 by omega,this,show((k-2).toNat:Int)+2=k by omega]
def X0{a b:ByteArray}(h:a.size+b.size<=1000):Wc .add (.str a) (.str b)=some (.str (a++b)):=by
 show vJ .add a b=_;unfold vJ;rw[Zcz];show ¬ (((a.size+b.size:Nat):Int) > 9223372036854775807);omega
def Zdu{P:Nat->Int}{a t:Int}{g:ByteArray}(hk:P (sqI a)=1)(hg:g=Jw (Y7 P (P (sqI a)) a t)):(⟨#[]⟩:ByteArray)++YS a++g++YS t=QP P a t:=by
 rw[hg];unfold QP;rw[hk,Zau]
def Ze1(P M:Nat->Int)(hm:(M 0,M 1,M 2) ∉ Zdk P):WR AM 9 [.agg 133 (ia P),.agg 3 (ia M)] [] (fun v _ _=>v=.tup [.s (.str ⟨#[]⟩),.s (.int .i64 8)]):=by
 have his:=YP (ZdC P M);rw[Zci hm]at his;refine YL (a:=a9) G G (YI _) (ZQ G) (m:=0) G (Ze (YC G (YC G (Yq G (Yq G (Yc (Ye (Ze (Yo G G ZN (Yo G G ZM (Yt G (his) G G G (Yv (r:=.bool _) G G (Yc (ZA G (Ze (Yq G (Yq G (Yc (Yi (⟨_,YH (v:=.s _) G (ZL G),?_⟩))))))))))))))))))));rfl
def ZeV(P M:Nat->Int)(hz:∀ i,133<=i->P i=0)(hm:(M 0,M 1,M 2)∈XN P):WR AM 9 [.agg 133 (ia P),.agg 3 (ia M)] [] (fun v _ _=>v=.tup [.s (.str (UW P (M 0) (M 1) (M 2))),.s (.int .i64 0)]):=by
 have his:=YP (ZdC P M);rw[<-ZdB hz,Zcl hm]at his;obtain⟨h1p,h2p,h3p⟩:=(DA hz).1 hm;obtain⟨hsq,htq,hg,hmt⟩:=yH h2p;have he:=Zd8 h2p;have hbm:=tn hmt;obtain⟨hk6,_,_,hne⟩:=yj hg;simp only at hsq htq hg hmt he hk6 hne hbm;have hb5:M 2=0\/(2<=M 2/\M 2<=5):=by split at hbm <;> omega
 have htk:=gE (m:=M) he;have htb:=(VY (P:=P) (k:=P (sqI (M 0))) hsq htq).1;have hl1:=V5 (P (sqI (M 0)));have hl2:=V5 (M 2);have hn0:=YU hsq;have hn1:=YU htq;have z0:(⟨#[]⟩:ByteArray).size=0:=rfl;have z45:(⟨#[45]⟩:ByteArray).size=1:=rfl;have z120:(⟨#[120]⟩:ByteArray).size=1:=rfl;have z61:(⟨#[61]⟩:ByteArray).size=1:=rfl;have z35:(⟨#[35]⟩:ByteArray).size=1:=rfl;have z43:(⟨#[43]⟩:ByteArray).size=1:=rfl;have hsz:=p7 (P:=P) (b:=M 2) hsq htq;have hmv:=YP (Ew P M);rw[he]at hmv;refine YL (a:=a9) G G (YI _) (ZQ G) (m:=0) G (Ze (YC G (YC G (Yq G (Yq G (Yc (Ye (Ze (Yo G G ZN (Yo G G ZM (Yt G (his) G G G (Yv (r:=.bool _) G G (Yc (ZB G (Yh (Ze (Zy G (Ym (x:=M 0) G G ZM (G) (Zy G (Zw G G G (Yp G G ZN (Yy (Yz G G G G .here (Zf (Yq G (Yc (Wz (fun f n L=>∃ (s:ByteArray),(s=WG P (M 0) (M 1) (M 2))/\(f 2=.ptr 0 0 133)/\(f 3=.ptr 1 0 3)/\(f 7=.s (.str s))/\(L=[(1,.sc .var 3 (ia M)),(0,.sc .var 133 (ia P))])) ?_ (fun f nb L hI=>?_))))))))))))))))))))))))))))
 ·refine Yk (Ze (Zy G (Ym (x:=(P (sqI (M 0)))) G G ZM (G) (Zr G (Zk G (Ys (t:=64) G (fun h64=>?_) (fun h64=>?_))))))) <;> simp only[NM]at h64
  ·refine Yb G (Zz G (Yb G (Ym (x:=M 1) G G ZN (G) (Yb G (Zy G (Yb G (Ym (x:=M 0) G G ZN (G) (Yb G (Zs G G (Yb G (Zr G (Zq G (Zk G (Yc (Yj G (fun h60=>?_) (fun h60=>?_)))))))))))))))) <;> simp only[NM]at h60
   ·refine Yf (Yq G (Yc ?_));refine⟨_,(.cons _ (.refl _)),_,ZeN h64 (by omega),G,G,G,G⟩
   refine Ze (Zy G (Ym (x:=(P (sqI (M 0)))) G G ZM (G) (Zr G (Zk G (Ys (t:=76) G (fun h76=>?_) (fun h76=>?_)))))) <;> simp only[NM]at h76
   ·refine Yb G (Zz G (Yb G (Ym (x:=M 1) G G ZN (G) (Yb G (Zy G (Yb G (Ym (x:=M 0) G G ZN (G) (Yb G (Zt G G (Yb G (Zr G (Zq G (Zk G (Yc (Yj G (fun h72=>?_) (fun h72=>?_)))))))))))))))) <;> simp only[NM]at h72
    ·refine Yf (Yq G (Yc ?_));refine⟨_,(.cons _ (.refl _)),_,ZeA h76 (by omega),G,G,G,G⟩
    refine Ye (Ze (Zy G (Ym (x:=(P (sqI (M 0)))) G G ZM (G) (Zr G (Yc (Yj G (fun h24=>?_) (fun h24=>?_))))))) <;> simp only[NM]at h24
    ·refine Yf (Zy G (Ym (x:=(P (sqI (M 0)))) G G ZM (G) (Zt G G (Zy G (Ym (x:=(P (sqI (M 0)))) G G ZM (G) (Zt G G (Da (a:=(P (sqI (M 0)))-2) (b:=(P (sqI (M 0)))-1) G G G (by show _/\_/\_<=((5:Nat):Int);omega) ?_)))))));rw[ext5 (by omega)];refine Yq (v:=.s _) G (Zf (Yq G (Yc (Ye (Ze (Yo G G ZO (Yo G G ZN (Yt G (htk) G G G (Zr G (Yc (Yj G (fun h35=>?_) (fun h35=>?_)))))))))))) <;> simp only[NM]at h35
     ·refine Yf (Yq G (Yc (Ye (Yg (Yq (v:=.s _) G (Zy G (Ym (x:=M 0) G G ZN (G) (Yu G (YP (RY _)) G G G ?_))))))));refine Yr G G (X0 (by first|omega|(simp only[ZbP];omega))) ?_;refine Yq (v:=.s _) G ?_;refine Yr G G (X0 (by first|omega|(simp only[ZbP];omega))) ?_;refine Zz G (Ym (x:=M 1) G G ZN (G) (Yt G (YP (RY _)) G G G ?_));refine Yr G G (X0 (by first|omega|(simp only[ZbP];omega))) ?_;refine Yq (v:=.s _) G (Zf (Yd (o':=2) G G G (Ym (x:=M 2) G G ZN (G) (Zr G (Yc (Yj G (fun h49=>?_) (fun h49=>?_))))))) <;> simp only[NM]at h49
      ·refine Yf (Yq (v:=.s _) G ?_);refine Yr G G (X0 (by first|omega|(simp only[ZbP];omega))) ?_;refine Yd (o':=2) G G G (Ym (x:=M 2) G G ZN (G) (Zt G G (Yd (o':=2) G G G (Ym (x:=M 2) G G ZN (G) (Zt G G (Da (a:=M 2-2) (b:=M 2-1) G G G (by show _/\_/\_<=((4:Nat):Int);omega) ?_))))));rw[ZdG (by omega)];refine Yr G G (X0 (by first|omega|(simp only[ZbP];omega))) ?_;refine Yq (v:=.s _) G (Yc ?_);refine⟨_,(.cons _ (.refl _)),_,Je (fun q=>h60 (by omega)) (fun q=>h72 (by omega)) h49 (UI ((Vm (by omega)).symm)),G,G,G,G⟩
      refine Yh ?_;refine⟨_,(.cons _ (.refl _)),_,Jd (fun q=>h60 (by omega)) (fun q=>h72 (by omega)) h49 (UI ((Vm (by omega)).symm)),G,G,G,G⟩
     refine Yh (Ye (Yg (Yq (v:=.s _) G (Zy G (Ym (x:=M 0) G G ZN (G) (Yu G (YP (RY _)) G G G ?_))))));refine Yr G G (X0 (by first|omega|(simp only[ZbP];omega))) ?_;refine Yq (v:=.s _) G ?_;refine Yr G G (X0 (by first|omega|(simp only[ZbP];omega))) ?_;refine Zz G (Ym (x:=M 1) G G ZN (G) (Yt G (YP (RY _)) G G G ?_));refine Yr G G (X0 (by first|omega|(simp only[ZbP];omega))) ?_;refine Yq (v:=.s _) G (Zf (Yd (o':=2) G G G (Ym (x:=M 2) G G ZN (G) (Zr G (Yc (Yj G (fun h49=>?_) (fun h49=>?_))))))) <;> simp only[NM]at h49
     ·refine Yf (Yq (v:=.s _) G ?_);refine Yr G G (X0 (by first|omega|(simp only[ZbP];omega))) ?_;refine Yd (o':=2) G G G (Ym (x:=M 2) G G ZN (G) (Zt G G (Yd (o':=2) G G G (Ym (x:=M 2) G G ZN (G) (Zt G G (Da (a:=M 2-2) (b:=M 2-1) G G G (by show _/\_/\_<=((4:Nat):Int);omega) ?_))))));rw[ZdG (by omega)];refine Yr G G (X0 (by first|omega|(simp only[ZbP];omega))) ?_;refine Yq (v:=.s _) G (Yc ?_);refine⟨_,(.cons _ (.refl _)),_,Je (fun q=>h60 (by omega)) (fun q=>h72 (by omega)) h49 (UI ((VM (by omega)).symm)),G,G,G,G⟩
     refine Yh ?_;refine⟨_,(.cons _ (.refl _)),_,Jd (fun q=>h60 (by omega)) (fun q=>h72 (by omega)) h49 (UI ((VM (by omega)).symm)),G,G,G,G⟩
    refine Yh (Ze (Yq G (Yc (Ye (Ze (Yo G G ZO (Yo G G ZN (Yt G (htk) G G G (Zr G (Yc (Yj G (fun h35=>?_) (fun h35=>?_)))))))))))) <;> simp only[NM]at h35
    ·refine Yf (Yq G (Yc (Ye (Yg (Yq (v:=.s _) G (Zy G (Ym (x:=M 0) G G ZN (G) (Yu G (YP (RY _)) G G G ?_))))))));refine Yr G G (X0 (by first|omega|(simp only[ZbP];omega))) ?_;refine Yq (v:=.s _) G ?_;refine Yr G G (X0 (by first|omega|(simp only[ZbP];omega))) ?_;refine Zz G (Ym (x:=M 1) G G ZN (G) (Yt G (YP (RY _)) G G G ?_));refine Yr G G (X0 (by first|omega|(simp only[ZbP];omega))) ?_;refine Yq (v:=.s _) G (Zf (Yd (o':=2) G G G (Ym (x:=M 2) G G ZN (G) (Zr G (Yc (Yj G (fun h49=>?_) (fun h49=>?_))))))) <;> simp only[NM]at h49
     ·refine Yf (Yq (v:=.s _) G ?_);refine Yr G G (X0 (by first|omega|(simp only[ZbP];omega))) ?_;refine Yd (o':=2) G G G (Ym (x:=M 2) G G ZN (G) (Zt G G (Yd (o':=2) G G G (Ym (x:=M 2) G G ZN (G) (Zt G G (Da (a:=M 2-2) (b:=M 2-1) G G G (by show _/\_/\_<=((4:Nat):Int);omega) ?_))))));rw[ZdG (by omega)];refine Yr G G (X0 (by first|omega|(simp only[ZbP];omega))) ?_;refine Yq (v:=.s _) G (Yc ?_);refine⟨_,(.cons _ (.refl _)),_,Je (fun q=>h60 (by omega)) (fun q=>h72 (by omega)) h49 (Zdu h24 ((Vm (by omega)).symm)),G,G,G,G⟩
     refine Yh ?_;refine⟨_,(.cons _ (.refl _)),_,Jd (fun q=>h60 (by omega)) (fun q=>h72 (by omega)) h49 (Zdu h24 ((Vm (by omega)).symm)),G,G,G,G⟩
    refine Yh (Ye (Yg (Yq (v:=.s _) G (Zy G (Ym (x:=M 0) G G ZN (G) (Yu G (YP (RY _)) G G G ?_))))));refine Yr G G (X0 (by first|omega|(simp only[ZbP];omega))) ?_;refine Yq (v:=.s _) G ?_;refine Yr G G (X0 (by first|omega|(simp only[ZbP];omega))) ?_;refine Zz G (Ym (x:=M 1) G G ZN (G) (Yt G (YP (RY _)) G G G ?_));refine Yr G G (X0 (by first|omega|(simp only[ZbP];omega))) ?_;refine Yq (v:=.s _) G (Zf (Yd (o':=2) G G G (Ym (x:=M 2) G G ZN (G) (Zr G (Yc (Yj G (fun h49=>?_) (fun h49=>?_))))))) <;> simp only[NM]at h49
    ·refine Yf (Yq (v:=.s _) G ?_);refine Yr G G (X0 (by first|omega|(simp only[ZbP];omega))) ?_;refine Yd (o':=2) G G G (Ym (x:=M 2) G G ZN (G) (Zt G G (Yd (o':=2) G G G (Ym (x:=M 2) G G ZN (G) (Zt G G (Da (a:=M 2-2) (b:=M 2-1) G G G (by show _/\_/\_<=((4:Nat):Int);omega) ?_))))));rw[ZdG (by omega)];refine Yr G G (X0 (by first|omega|(simp only[ZbP];omega))) ?_;refine Yq (v:=.s _) G (Yc ?_);refine⟨_,(.cons _ (.refl _)),_,Je (fun q=>h60 (by omega)) (fun q=>h72 (by omega)) h49 (Zdu h24 ((VM (by omega)).symm)),G,G,G,G⟩
    refine Yh ?_;refine⟨_,(.cons _ (.refl _)),_,Jd (fun q=>h60 (by omega)) (fun q=>h72 (by omega)) h49 (Zdu h24 ((VM (by omega)).symm)),G,G,G,G⟩
   exfalso;omega
  refine ZE G (ZD G (Zq G (Zk G (Yc (ZB G (Ze (Zy G (Ym (x:=(P (sqI (M 0)))) G G ZM (G) (Zr G (Zk G (Ys (t:=76) G (fun h76=>?_) (fun h76=>?_)))))))))))) <;> simp only[NM]at h76
  ·exfalso;omega
  refine ZE G (ZD G (Zq G (Zk G (Yc (ZB G (Ye (Ze (Zy G (Ym (x:=(P (sqI (M 0)))) G G ZM (G) (Zr G (Yc (Yj G (fun h24=>?_) (fun h24=>?_))))))))))))) <;> simp only[NM]at h24
  ·refine Yf (Zy G (Ym (x:=(P (sqI (M 0)))) G G ZM (G) (Zt G G (Zy G (Ym (x:=(P (sqI (M 0)))) G G ZM (G) (Zt G G (Da (a:=(P (sqI (M 0)))-2) (b:=(P (sqI (M 0)))-1) G G G (by show _/\_/\_<=((5:Nat):Int);omega) ?_)))))));rw[ext5 (by omega)];refine Yq (v:=.s _) G (Zf (Yq G (Yc (Ye (Ze (Yo G G ZO (Yo G G ZN (Yt G (htk) G G G (Zr G (Yc (Yj G (fun h35=>?_) (fun h35=>?_)))))))))))) <;> simp only[NM]at h35
   ·refine Yf (Yq G (Yc (Ye (Yg (Yq (v:=.s _) G (Zy G (Ym (x:=M 0) G G ZN (G) (Yu G (YP (RY _)) G G G ?_))))))));refine Yr G G (X0 (by first|omega|(simp only[ZbP];omega))) ?_;refine Yq (v:=.s _) G ?_;refine Yr G G (X0 (by first|omega|(simp only[ZbP];omega))) ?_;refine Zz G (Ym (x:=M 1) G G ZN (G) (Yt G (YP (RY _)) G G G ?_));refine Yr G G (X0 (by first|omega|(simp only[ZbP];omega))) ?_;refine Yq (v:=.s _) G (Zf (Yd (o':=2) G G G (Ym (x:=M 2) G G ZN (G) (Zr G (Yc (Yj G (fun h49=>?_) (fun h49=>?_))))))) <;> simp only[NM]at h49
    ·refine Yf (Yq (v:=.s _) G ?_);refine Yr G G (X0 (by first|omega|(simp only[ZbP];omega))) ?_;refine Yd (o':=2) G G G (Ym (x:=M 2) G G ZN (G) (Zt G G (Yd (o':=2) G G G (Ym (x:=M 2) G G ZN (G) (Zt G G (Da (a:=M 2-2) (b:=M 2-1) G G G (by show _/\_/\_<=((4:Nat):Int);omega) ?_))))));rw[ZdG (by omega)];refine Yr G G (X0 (by first|omega|(simp only[ZbP];omega))) ?_;refine Yq (v:=.s _) G (Yc ?_);refine⟨_,(.cons _ (.refl _)),_,Je (fun q=>h64 q.1) (fun q=>h76 q.1) h49 (UI ((Vm (by omega)).symm)),G,G,G,G⟩
    refine Yh ?_;refine⟨_,(.cons _ (.refl _)),_,Jd (fun q=>h64 q.1) (fun q=>h76 q.1) h49 (UI ((Vm (by omega)).symm)),G,G,G,G⟩
   refine Yh (Ye (Yg (Yq (v:=.s _) G (Zy G (Ym (x:=M 0) G G ZN (G) (Yu G (YP (RY _)) G G G ?_))))));refine Yr G G (X0 (by first|omega|(simp only[ZbP];omega))) ?_;refine Yq (v:=.s _) G ?_;refine Yr G G (X0 (by first|omega|(simp only[ZbP];omega))) ?_;refine Zz G (Ym (x:=M 1) G G ZN (G) (Yt G (YP (RY _)) G G G ?_));refine Yr G G (X0 (by first|omega|(simp only[ZbP];omega))) ?_;refine Yq (v:=.s _) G (Zf (Yd (o':=2) G G G (Ym (x:=M 2) G G ZN (G) (Zr G (Yc (Yj G (fun h49=>?_) (fun h49=>?_))))))) <;> simp only[NM]at h49
   ·refine Yf (Yq (v:=.s _) G ?_);refine Yr G G (X0 (by first|omega|(simp only[ZbP];omega))) ?_;refine Yd (o':=2) G G G (Ym (x:=M 2) G G ZN (G) (Zt G G (Yd (o':=2) G G G (Ym (x:=M 2) G G ZN (G) (Zt G G (Da (a:=M 2-2) (b:=M 2-1) G G G (by show _/\_/\_<=((4:Nat):Int);omega) ?_))))));rw[ZdG (by omega)];refine Yr G G (X0 (by first|omega|(simp only[ZbP];omega))) ?_;refine Yq (v:=.s _) G (Yc ?_);refine⟨_,(.cons _ (.refl _)),_,Je (fun q=>h64 q.1) (fun q=>h76 q.1) h49 (UI ((VM (by omega)).symm)),G,G,G,G⟩
   refine Yh ?_;refine⟨_,(.cons _ (.refl _)),_,Jd (fun q=>h64 q.1) (fun q=>h76 q.1) h49 (UI ((VM (by omega)).symm)),G,G,G,G⟩
  refine Yh (Ze (Yq G (Yc (Ye (Ze (Yo G G ZO (Yo G G ZN (Yt G (htk) G G G (Zr G (Yc (Yj G (fun h35=>?_) (fun h35=>?_)))))))))))) <;> simp only[NM]at h35
  ·refine Yf (Yq G (Yc (Ye (Yg (Yq (v:=.s _) G (Zy G (Ym (x:=M 0) G G ZN (G) (Yu G (YP (RY _)) G G G ?_))))))));refine Yr G G (X0 (by first|omega|(simp only[ZbP];omega))) ?_;refine Yq (v:=.s _) G ?_;refine Yr G G (X0 (by first|omega|(simp only[ZbP];omega))) ?_;refine Zz G (Ym (x:=M 1) G G ZN (G) (Yt G (YP (RY _)) G G G ?_));refine Yr G G (X0 (by first|omega|(simp only[ZbP];omega))) ?_;refine Yq (v:=.s _) G (Zf (Yd (o':=2) G G G (Ym (x:=M 2) G G ZN (G) (Zr G (Yc (Yj G (fun h49=>?_) (fun h49=>?_))))))) <;> simp only[NM]at h49
   ·refine Yf (Yq (v:=.s _) G ?_);refine Yr G G (X0 (by first|omega|(simp only[ZbP];omega))) ?_;refine Yd (o':=2) G G G (Ym (x:=M 2) G G ZN (G) (Zt G G (Yd (o':=2) G G G (Ym (x:=M 2) G G ZN (G) (Zt G G (Da (a:=M 2-2) (b:=M 2-1) G G G (by show _/\_/\_<=((4:Nat):Int);omega) ?_))))));rw[ZdG (by omega)];refine Yr G G (X0 (by first|omega|(simp only[ZbP];omega))) ?_;refine Yq (v:=.s _) G (Yc ?_);refine⟨_,(.cons _ (.refl _)),_,Je (fun q=>h64 q.1) (fun q=>h76 q.1) h49 (Zdu h24 ((Vm (by omega)).symm)),G,G,G,G⟩
   refine Yh ?_;refine⟨_,(.cons _ (.refl _)),_,Jd (fun q=>h64 q.1) (fun q=>h76 q.1) h49 (Zdu h24 ((Vm (by omega)).symm)),G,G,G,G⟩
  refine Yh (Ye (Yg (Yq (v:=.s _) G (Zy G (Ym (x:=M 0) G G ZN (G) (Yu G (YP (RY _)) G G G ?_))))));refine Yr G G (X0 (by first|omega|(simp only[ZbP];omega))) ?_;refine Yq (v:=.s _) G ?_;refine Yr G G (X0 (by first|omega|(simp only[ZbP];omega))) ?_;refine Zz G (Ym (x:=M 1) G G ZN (G) (Yt G (YP (RY _)) G G G ?_));refine Yr G G (X0 (by first|omega|(simp only[ZbP];omega))) ?_;refine Yq (v:=.s _) G (Zf (Yd (o':=2) G G G (Ym (x:=M 2) G G ZN (G) (Zr G (Yc (Yj G (fun h49=>?_) (fun h49=>?_))))))) <;> simp only[NM]at h49
  ·refine Yf (Yq (v:=.s _) G ?_);refine Yr G G (X0 (by first|omega|(simp only[ZbP];omega))) ?_;refine Yd (o':=2) G G G (Ym (x:=M 2) G G ZN (G) (Zt G G (Yd (o':=2) G G G (Ym (x:=M 2) G G ZN (G) (Zt G G (Da (a:=M 2-2) (b:=M 2-1) G G G (by show _/\_/\_<=((4:Nat):Int);omega) ?_))))));rw[ZdG (by omega)];refine Yr G G (X0 (by first|omega|(simp only[ZbP];omega))) ?_;refine Yq (v:=.s _) G (Yc ?_);refine⟨_,(.cons _ (.refl _)),_,Je (fun q=>h64 q.1) (fun q=>h76 q.1) h49 (Zdu h24 ((VM (by omega)).symm)),G,G,G,G⟩
  refine Yh ?_;refine⟨_,(.cons _ (.refl _)),_,Jd (fun q=>h64 q.1) (fun q=>h76 q.1) h49 (Zdu h24 ((VM (by omega)).symm)),G,G,G,G⟩
 obtain⟨s,hs,k2,k3,k7,rfl⟩:=hI;refine Za 2 k2 (Za 3 k3 (Za 7 k7 ?_));rw[<-hs]at hsz;have hqz0:=fun(i9:Nat) (hi9:133<=i9)=>Q8 (P:=P) (a:=M 0) (t:=M 1) (b:=M 2) hi9
 have hq8:XV P (M 0) (M 1) (M 2) 128=XT (P 128):=by unfold XV;rw[ZcA he];rfl
 obtain⟨Q,hQ⟩:∃ Q,Q=XV P (M 0) (M 1) (M 2):=⟨_,rfl⟩
 rw[<-hQ]at hmv hqz0 hq8;have hqid:ovA (fun _=>0) 0 133 Q=Q:=QG hqz0;have hof:RF AM 31 [.agg 133 (ia (ovA (fun _=>0) 0 133 Q))] (.tup [.s (.int .i64 (ofN Q (XN Q).length).1),.s (.int .i64 (ofN Q (XN Q).length).2)]):=by rw[hqid,ZdB hqz0];exact YP (Ze9 Q)
 have hchk:RF AM 32 [.agg 133 (ia (ovA (fun _=>0) 0 133 Q)),.s (.int .i64 (XT (P 128)))] (.s (.bool (WU Q (Q 128)))):=by rw[hqid,hq8];exact YP (Zdp Q _)
 refine Ze (Yo G G ZN (Yo G G ZM (Yt G (hmv) G G G (Zo G (YD (v:=.agg _ _) G G (YD (v:=.s (.int _ _)) G G (Yy (Yz G G G G .here (Zj G (Zf (Yo G G ZM (Yt G (hof) G G G (Zo G (YD (v:=.s (.int _ _)) G G (YD (v:=.s (.int _ _)) G G (Zj G (Zj G (Yc (Ye (Ze (Zj G (Zr G (Yc (Yj G (fun h96=>?_) (fun h96=>?_))))))))))))))))))))))))) <;> simp only[NM]at h96
 ·refine Ze (Yq (v:=.s _) G ?_);refine Yr G G (X0 (by first|omega|(simp only[ZbP];omega))) ?_;refine Yq (v:=.s _) G (Yq G (Yc (Yi (⟨_,YH (v:=.s _) G (ZL G),?_⟩))));refine congrArg (fun x=>V.tup [.s (.str x),.s (.int .i64 0)]) ?_;unfold UW zt;rw[<-hQ,<-hs];rw[ZcA h96]
 refine Yh (Ye (Ye (Yg (Yo G G ZM (Yd (o':=128) G G G (Ym (x:=P 128) G G ZO (G) (Yu G (YP (sT _)) G G G (Yt G (hchk) G G G (Yc (Yj G (fun h103=>?_) (fun h103=>?_)))))))))))
 ·refine Ze (Yq (v:=.s _) G ?_);refine Yr G G (X0 (by first|omega|(simp only[ZbP];omega))) ?_;refine Yq (v:=.s _) G (Yq G (Yc (Yi (⟨_,YH (v:=.s _) G (ZL G),?_⟩))));refine congrArg (fun x=>V.tup [.s (.str x),.s (.int .i64 0)]) ?_;unfold UW zt;rw[<-hQ,<-hs];rw[Zcz h96,ZcA h103]
 refine Yh (Ze (Yq (v:=.s _) G (Yq (v:=.s _) G (Yq G (Yc (Yi (⟨_,YH (v:=.s _) G (ZL G),?_⟩)))))));refine congrArg (fun x=>V.tup [.s (.str x),.s (.int .i64 0)]) ?_;unfold UW zt;rw[<-hQ,<-hs];rw[Zcz h96,h103,Zcz Bool.false_ne_true]
set_option maxRecDepth 100000
def kc(i:Nat):Int:=if i=130 then -1 else if i=132 then 1 else 0
def xF(i:Nat):Int :=
 if i<16 then (if i%2=0 then ([4,2,3,5,6,3,2,4]:List Int).getD (i/2) 0 else 0)
 else if i<32 then (if i%2=0 then 1 else 0)
 else if i<96 then 0
 else if i<112 then 1
 else if i<128 then (if i%2=0 then ([4,2,3,5,6,3,2,4]:List Int).getD ((i-112)/2) 0 else 1)
 else if i=128 then 0 else if i=129 then 15 else if i=130 then -1 else if i=131 then 0 else if i=132 then 1 else 0
def pQ(i:Nat)(h:133<=i):kc i=0:=by
 unfold kc;rw[Zcz (by omega),Zcz (by omega)]
def qP(i:Nat)(h:133<=i):xF i=0:=by
 unfold xF;rw[Zcz (by omega),Zcz (by omega),Zcz (by omega),Zcz (by omega),Zcz (by omega),Zcz (by omega),Zcz (by omega),Zcz (by omega),Zcz (by omega),Zcz (by omega)]
def oB{P Q R:Nat->Int}{m:Nat}(h:∀ i,i<m->Q i=R i)(h2:∀ i,m<=i->P i=R i):ovA P 0 m Q=R:=by
 funext i;by_cases hi:i<m
 ·rw[X3 (by omega)];exact h i hi
 rw[Wb (by omega)];exact h2 i (by omega)
def tW :WR AM 45 [] [] (fun v _ _=>v=.agg 133 (ia kc)):=by
 refine YL (a:=a45) G G (YI _) (ZQ G) (m:=0) G (Ze (Yy (Zf (YB G (.one G (.one G .nil)) (Yz G G G G .here (Yc (Yi (⟨_,XM G G ZM (YW),?_⟩))))))));refine congrArg (fun P=>V.agg 133 (ia P)) ?_;refine oB (by decide +kernel) fun i hi=>(pQ i hi).symm
def ru :WR AM 35 [] [] (fun v _ _=>v=.agg 133 (ia xF)):=by
 refine YL (a:=a35) G G (YI _) (ZQ G) (m:=0) G (Ze (Yy (Zf (Yt G (YP tW) G G G (Yy (Yz G G G G .here (Zf (XA G (.one G (.one G (.one G (.one G (.one G (.one G (.one G (.one G .nil)))))))) (Zn G (Yc (Ye (Ze (Yq G (Yc (Yk (YO (Ye (Ze (Zj G (Zr G (Yc (Yj G (fun h1=>?_) (fun h1=>?_))))))))))))))))))))))) <;> simp only[NM]at h1
 ·refine Yh (Ye (Yk (Ze (Zj G (Zn G (Zj G (Zx G G (Ym (x:=_) G G ZM (G) (YB G (.one G (.one G .nil)) (Zy G (Zw G G G (Yz G G G G (.there .here) (Zf (Zj G (Zs G G (YB G (.one G (.one G .nil)) (Zy G (Zw G G G (Yz G G G G (.there .here) (Zf (Zj G (Zs G G (YB G (.one G (.one G .nil)) (Zy G (Zw G G G (Yz G G G G (.there .here) (Yc (Yf (Zj G ?_)))))))))))))))))))))))))))));refine Zs G G (Zn G (Zj G (Zx G G (Ym (x:=_) G G ZM (G) (YB G (.one G (.one G .nil)) (Zy G (Zw G G G (Yz G G G G (.there .here) (Yc (Yf (Zj G (Zs G G (Zj G (Yc (YO (Ye (Ze (Zj G (Zr G (Yc (Yj G (fun h2=>?_) (fun h2=>?_)))))))))))))))))))))) <;> simp only[NM]at h2
  ·refine Yh (Ye (Yk (Ze (Zj G (Zn G (Zj G (Zx G G (Ym (x:=_) G G ZM (G) (YB G (.one G (.one G .nil)) (Zy G (Zw G G G (Yz G G G G (.there .here) (Zf (Zj G (Zs G G (YB G (.one G (.one G .nil)) (Zy G (Zw G G G (Yz G G G G (.there .here) (Zf (Zj G (Zs G G (YB G (.one G (.one G .nil)) (Zy G (Zw G G G (Yz G G G G (.there .here) (Yc (Yf (Zj G ?_)))))))))))))))))))))))))))));refine Zs G G (Zn G (Zj G (Zx G G (Ym (x:=_) G G ZM (G) (YB G (.one G (.one G .nil)) (Zy G (Zw G G G (Yz G G G G (.there .here) (Yc (Yf (Zj G (Zs G G (Zj G (Yc (YO (Ye (Ze (Zj G (Zr G (Yc (Yj G (fun h3=>?_) (fun h3=>?_)))))))))))))))))))))) <;> simp only[NM]at h3
   ·refine Yh (Ye (Yk (Ze (Zj G (Zn G (Zj G (Zx G G (Ym (x:=_) G G ZM (G) (YB G (.one G (.one G .nil)) (Zy G (Zw G G G (Yz G G G G (.there .here) (Zf (Zj G (Zs G G (YB G (.one G (.one G .nil)) (Zy G (Zw G G G (Yz G G G G (.there .here) (Zf (Zj G (Zs G G (YB G (.one G (.one G .nil)) (Zy G (Zw G G G (Yz G G G G (.there .here) (Yc (Yf (Zj G ?_)))))))))))))))))))))))))))));refine Zs G G (Zn G (Zj G (Zx G G (Ym (x:=_) G G ZM (G) (YB G (.one G (.one G .nil)) (Zy G (Zw G G G (Yz G G G G (.there .here) (Yc (Yf (Zj G (Zs G G (Zj G (Yc (YO (Ye (Ze (Zj G (Zr G (Yc (Yj G (fun h4=>?_) (fun h4=>?_)))))))))))))))))))))) <;> simp only[NM]at h4
    ·refine Yh (Ye (Yk (Ze (Zj G (Zn G (Zj G (Zx G G (Ym (x:=_) G G ZM (G) (YB G (.one G (.one G .nil)) (Zy G (Zw G G G (Yz G G G G (.there .here) (Zf (Zj G (Zs G G (YB G (.one G (.one G .nil)) (Zy G (Zw G G G (Yz G G G G (.there .here) (Zf (Zj G (Zs G G (YB G (.one G (.one G .nil)) (Zy G (Zw G G G (Yz G G G G (.there .here) (Yc (Yf (Zj G ?_)))))))))))))))))))))))))))));refine Zs G G (Zn G (Zj G (Zx G G (Ym (x:=_) G G ZM (G) (YB G (.one G (.one G .nil)) (Zy G (Zw G G G (Yz G G G G (.there .here) (Yc (Yf (Zj G (Zs G G (Zj G (Yc (YO (Ye (Ze (Zj G (Zr G (Yc (Yj G (fun h5=>?_) (fun h5=>?_)))))))))))))))))))))) <;> simp only[NM]at h5
     ·refine Yh (Ye (Yk (Ze (Zj G (Zn G (Zj G (Zx G G (Ym (x:=_) G G ZM (G) (YB G (.one G (.one G .nil)) (Zy G (Zw G G G (Yz G G G G (.there .here) (Zf (Zj G (Zs G G (YB G (.one G (.one G .nil)) (Zy G (Zw G G G (Yz G G G G (.there .here) (Zf (Zj G (Zs G G (YB G (.one G (.one G .nil)) (Zy G (Zw G G G (Yz G G G G (.there .here) (Yc (Yf (Zj G ?_)))))))))))))))))))))))))))));refine Zs G G (Zn G (Zj G (Zx G G (Ym (x:=_) G G ZM (G) (YB G (.one G (.one G .nil)) (Zy G (Zw G G G (Yz G G G G (.there .here) (Yc (Yf (Zj G (Zs G G (Zj G (Yc (YO (Ye (Ze (Zj G (Zr G (Yc (Yj G (fun h6=>?_) (fun h6=>?_)))))))))))))))))))))) <;> simp only[NM]at h6
      ·refine Yh (Ye (Yk (Ze (Zj G (Zn G (Zj G (Zx G G (Ym (x:=_) G G ZM (G) (YB G (.one G (.one G .nil)) (Zy G (Zw G G G (Yz G G G G (.there .here) (Zf (Zj G (Zs G G (YB G (.one G (.one G .nil)) (Zy G (Zw G G G (Yz G G G G (.there .here) (Zf (Zj G (Zs G G (YB G (.one G (.one G .nil)) (Zy G (Zw G G G (Yz G G G G (.there .here) (Yc (Yf (Zj G ?_)))))))))))))))))))))))))))));refine Zs G G (Zn G (Zj G (Zx G G (Ym (x:=_) G G ZM (G) (YB G (.one G (.one G .nil)) (Zy G (Zw G G G (Yz G G G G (.there .here) (Yc (Yf (Zj G (Zs G G (Zj G (Yc (YO (Ye (Ze (Zj G (Zr G (Yc (Yj G (fun h7=>?_) (fun h7=>?_)))))))))))))))))))))) <;> simp only[NM]at h7
       ·refine Yh (Ye (Yk (Ze (Zj G (Zn G (Zj G (Zx G G (Ym (x:=_) G G ZM (G) (YB G (.one G (.one G .nil)) (Zy G (Zw G G G (Yz G G G G (.there .here) (Zf (Zj G (Zs G G (YB G (.one G (.one G .nil)) (Zy G (Zw G G G (Yz G G G G (.there .here) (Zf (Zj G (Zs G G (YB G (.one G (.one G .nil)) (Zy G (Zw G G G (Yz G G G G (.there .here) (Yc (Yf (Zj G ?_)))))))))))))))))))))))))))));refine Zs G G (Zn G (Zj G (Zx G G (Ym (x:=_) G G ZM (G) (YB G (.one G (.one G .nil)) (Zy G (Zw G G G (Yz G G G G (.there .here) (Yc (Yf (Zj G (Zs G G (Zj G (Yc (YO (Ye (Ze (Zj G (Zr G (Yc (Yj G (fun h8=>?_) (fun h8=>?_)))))))))))))))))))))) <;> simp only[NM]at h8
        ·refine Yh (Ye (Yk (Ze (Zj G (Zn G (Zj G (Zx G G (Ym (x:=_) G G ZM (G) (YB G (.one G (.one G .nil)) (Zy G (Zw G G G (Yz G G G G (.there .here) (Zf (Zj G (Zs G G (YB G (.one G (.one G .nil)) (Zy G (Zw G G G (Yz G G G G (.there .here) (Zf (Zj G (Zs G G (YB G (.one G (.one G .nil)) (Zy G (Zw G G G (Yz G G G G (.there .here) (Yc (Yf (Zj G ?_)))))))))))))))))))))))))))));refine Zs G G (Zn G (Zj G (Zx G G (Ym (x:=_) G G ZM (G) (YB G (.one G (.one G .nil)) (Zy G (Zw G G G (Yz G G G G (.there .here) (Yc (Yf (Zj G (Zs G G (Zj G (Yc (YO (Ye (Ze (Zj G (Zr G (Yc (Yj G (fun h9=>?_) (fun h9=>?_)))))))))))))))))))))) <;> simp only[NM]at h9
         ·exfalso;first|omega|(simp at h9)
         refine Y0 (Xb (Ze (Yd (o':=129) G G G (YA G G G G (.there .here) (Zf (Yo G G ZN (Yz G G G G (.there (.there .here)) (Yc (Yi (⟨_,XM G G ZO (YW),?_⟩))))))))));refine congrArg (fun P=>V.agg 133 (ia P)) ?_;refine oB (by decide +kernel) fun i hi=>(qP i hi).symm
        exfalso;first|omega|(simp at h8)
       exfalso;first|omega|(simp at h7)
      exfalso;first|omega|(simp at h6)
     exfalso;first|omega|(simp at h5)
    exfalso;first|omega|(simp at h4)
   exfalso;first|omega|(simp at h3)
  exfalso;first|omega|(simp at h2)
 exfalso;first|omega|(simp at h1)
def ex0:Nat->Int:=xF
def ex1:Nat->Int:=XV ex0 13 21 0
def ex2:Nat->Int:=XV ex1 52 36 0
def ex3:Nat->Int:=XV ex2 14 30 0
def ex0_z:∀ i,133<=i->ex0 i=0:=fun i hi=>qP i hi
def tS:∀ i,133<=i->ex1 i=0:=fun i hi=>Q8 hi
def tZ:∀ i,133<=i->ex2 i=0:=fun i hi=>Q8 hi
def zN:∀ i,133<=i->ex3 i=0:=fun i hi=>Q8 hi
theorem ex0_ok:Wj ex0 13 21 0=0:=by decide +kernel
theorem ex1_ok:Wj ex1 52 36 0=0:=by decide +kernel
theorem ex2_ok:Wj ex2 14 30 0=0:=by decide +kernel
def wh{P Q:Nat->Int}(hz:∀ i,133<=i->P i=0)(hq:∀ i,133<=i->Q i=0):ovA P 0 133 Q=Q:=by
 funext i;by_cases h:i<133
 ·rw[X3 (by omega)];rfl
 rw[Wb (by omega),hz i (by omega),hq i (by omega)]
def exL:List Int:=[13,21,0,52,36,0,14,30,0]
def ex_rd :RdR AM 34 3 [.agg 133 (ia ex0)] [] exL (.tup [.agg 133 (ia ex3),.s (.int .i64 0)]):=by
 refine WV fun v Bs hc=>?_
 refine YL (a:=a34) G G (YI _) (ZQ G) G ?_ (by first|rfl|(cases hc <;> rfl));have hr0:=hc.rx;rw[show YZ 0 Bs=YZ 0 Bs++[] from(Zcf _).symm];generalize hown:YZ 0 Bs=own0 at hr0 ⊢;refine Ze (YC G (Yy (Yq G (Yc (Ye (Ze (Yq G (Yc (Yk (YO (Ye (Ze (Zj G (Yq (v:=v) G (Xk G hr0 (by decide) (show exL.length=3*3 from G) (Yr (r:=.bool true) G G G (Yc (ZA G (Yh (Ye (Yk (Ye (Yg (Yo G G ZN (Yq (v:=v) G (Zj G ?_))))))))))))))))))))))))));obtain⟨b0,q0,md0,c0,F0,rfl,rfl,hF0⟩:=hr0.at (by decide) (show exL.length=3*3 from rfl) (by omega);refine Zx G G (Yo G G ZO ?_);have hmv0:=YP (Ew ex0 F0);rw[show F0 0=13 from hF0 0 (YF rfl),show F0 1=21 from hF0 1 (YF rfl),show F0 2=0 from hF0 2 (YF rfl),ex0_ok,show XV ex0 13 21 0=ex1 from rfl]at hmv0;refine Yu G (hmv0) G G G (Zo G (YD (v:=.agg _ _) G G (YD (v:=.s (.int _ _)) G G (Yy (Yz G G G G .here ?_)))));rw[show ovA (fun _=>0) 0 133 ex1=ex1 from QG tS];refine Zj G (Yc (Ye (Ze (Zj G (Yr G G (wM G) (Yc (ZB G (Yh (Yf (Yo G G ZM (Yz G G G G (.there (.there .here)) ?_)))))))))));rw[show ovA ex0 0 133 ex1=ex1 from wh ex0_z tS];refine Yc (Yf (Zj G (Zs G G (Zj G (Yc (YO (Ye (Ze (Zj G (Zn G (WX G (Yr (r:=.bool true) G G G (Yc (ZA G (Yh (Ye (Yk (Ye (Yg (Yo G G ZO (Zn G (Zj G (Zx G G (Yp G G ZP ?_))))))))))))))))))))))));have hmv1:=YP (Ew ex1 (dp F0 (0+(0+1:Int).toNat*3)));rw[show(dp F0 (0+(0+1:Int).toNat*3)) 0=52 from hF0 3 (YF rfl),show(dp F0 (0+(0+1:Int).toNat*3)) 1=36 from hF0 4 (YF rfl),show(dp F0 (0+(0+1:Int).toNat*3)) 2=0 from hF0 5 (YF rfl),ex1_ok,show XV ex1 52 36 0=ex2 from rfl]at hmv1;refine Yu G (hmv1) G G G (Zo G (YD (v:=.agg _ _) G G (YD (v:=.s (.int _ _)) G G (Yy (Yz G G G G .here ?_)))));rw[show ovA (fun _=>0) 0 133 ex2=ex2 from QG tZ];refine Zj G (Yc (Ye (Ze (Zj G (Yr G G (wM G) (Yc (ZB G (Yh (Yf (Yo G G ZM (Yz G G G G (.there (.there (.there .here))) ?_)))))))))));rw[show ovA ex1 0 133 ex2=ex2 from wh tS tZ];refine Yc (Yf (Zj G (Zs G G (Zj G (Yc (YO (Ye (Ze (Zj G (Zn G (WX G (Yr (r:=.bool true) G G G (Yc (ZA G (Yh (Ye (Yk (Ye (Yg (Yo G G ZP (Zn G (Zj G (Zx G G (Yp G G (.tail _ ZP) ?_))))))))))))))))))))))));have hmv2:=YP (Ew ex2 (dp F0 (0+(0+1+1:Int).toNat*3)));rw[show(dp F0 (0+(0+1+1:Int).toNat*3)) 0=14 from hF0 6 (YF rfl),show(dp F0 (0+(0+1+1:Int).toNat*3)) 1=30 from hF0 7 (YF rfl),show(dp F0 (0+(0+1+1:Int).toNat*3)) 2=0 from hF0 8 (YF rfl),ex2_ok,show XV ex2 14 30 0=ex3 from rfl]at hmv2;refine Yu G (hmv2) G G G (Zo G (YD (v:=.agg _ _) G G (YD (v:=.s (.int _ _)) G G (Yy (Yz G G G G .here ?_)))));rw[show ovA (fun _=>0) 0 133 ex3=ex3 from QG zN];refine Zj G (Yc (Ye (Ze (Zj G (Yr G G (wM G) (Yc (ZB G (Yh (Yf (Yo G G ZM (Yz G G G G (.there (.there (.there (.there .here)))) ?_)))))))))));rw[show ovA ex2 0 133 ex3=ex3 from wh tZ zN];refine Yc (Yf (Zj G (Zs G G (Zj G (Yc (YO (Ye (Ze (Zj G (Zn G (WX G (Yr (r:=.bool false) G G G (Yc (ZB G (Y0 (Xb (Ze (Yo G G (.tail _ ZP) (Yz G G G G (.there (.there (.there .here))) ?_)))))))))))))))))));rw[show ovA (fun _=>0) 0 133 ex3=ex3 from QG zN];refine Yq G (Yc (Yi (⟨_,XM G G ZP (ZL G),?_⟩)));exact⟨G,(UY (.tail _ (.tail _ ZP)))⟩
def yt(a:ByteArray):Wc .eql (.str a) (.str a)=some (.bool true):=by
 show some (S.bool (a.toList==a.toList))=_;rw[beq_self_eq_true]
def Qz(k:Int):ByteArray:=if k=2 then ⟨#[110]⟩ else if k=3 then ⟨#[98]⟩ else if k=4 then ⟨#[114]⟩ else if k=5 then ⟨#[113]⟩ else if k=6 then ⟨#[107]⟩ else ⟨#[]⟩
def wk(k:Int):RF AM 40 [.s (.str (XB k))] (.s (.str (Qz k))):=by
 refine⟨[],?_⟩;refine(WI (A:=AM) (pf:=zn) G _ _ G).trans ?_;unfold XB Qz;by_cases h2:k=2
 ·subst h2;rfl
 by_cases h3:k=3
 ·subst h3;rfl
 by_cases h4:k=4
 ·subst h4;rfl
 by_cases h5:k=5
 ·subst h5;rfl
 by_cases h6:k=6
 ·subst h6;rfl
 rw[Zcz h2,Zcz h3,Zcz h4,Zcz h5,Zcz h6,Zcz h2,Zcz h3,Zcz h4,Zcz h5,Zcz h6];rfl
def Rj(k:Int):(Qz k).size<=1:=by
 unfold Qz;split
 ·decide
 split
 ·decide
 split
 ·decide
 split
 ·decide
 split <;> decide
def ZcB(a t b:Int):ByteArray:=YS a++YS t++Qz b
def Txt(a t b:Int):Prop:=(0<=a/\a<64)/\(0<=t/\t<64)/\a≠t/\b≠1/\0<=b/\b<=5
def Uk(a t b:Int):Bool:=isM a&&(isM t&&(decide (a≠t)&&(decide (b≠1)&&(decide (0<=b)&&decide (b<=5)))))
def txtB_iff{a t b:Int}:Uk a t b=true↔Txt a t b:=by
 unfold Uk Txt isM;simp only[Zca,Zb7]
def Zbo(M:Nat->Int):WR AM 39 [.agg 3 (ia M)] [] (fun v _ _=>v=.s (.bool (Uk (M 0) (M 1) (M 2)))):=by
 refine YL (a:=a39) G G (YI _) (ZQ G) (m:=0) G (Ze (YC G (Yq G (Zf (Zy G (Ym (x:=M 0) G G ZM (G) (Yt G (U4 _) G G G (Zk G (Ys (t:=6) G (fun h1=>?_) (fun h1=>?_))))))))))
 ·refine Yb G (Zz G (Yb G (Ym (x:=M 1) G G ZM (G) (Yb G (Yt G (U4 _) G G G (Zq G (Zk G (Ys (t:=11) G (fun h2=>?_) (fun h2=>?_)))))))))
  ·refine Yb G (Zy G (Yb G (Ym (x:=M 0) G G ZM (G) (Yb G (Zz G (Yb G (Ym (x:=M 1) G G ZM (G) (Yb G (Zr G (Zq G (Zk G (Ys (t:=18) G (fun h3=>?_) (fun h3=>?_))))))))))))) <;> simp only[NM]at h3
   ·refine Yb G (Yd (o':=2) G G G (Yb G (Ym (x:=M 2) G G ZM (G) (Yb G (Zr G (Zq G (Zk G (Ys (t:=23) G (fun h4=>?_) (fun h4=>?_))))))))) <;> simp only[NM]at h4
    ·refine Yb G (Yd (o':=2) G G G (Yb G (Ym (x:=M 2) G G ZM (G) (Yb G (Zr G (Zq G (Zk G (Ys (t:=28) G (fun h5=>?_) (fun h5=>?_))))))))) <;> simp only[NM]at h5
     ·refine Yb G (Yd (o':=2) G G G (Yb G (Ym (x:=M 2) G G ZM (G) (Yb G (Zr G (Zq G (Zk G (Zg G (ZI ?_)))))))));unfold Uk;(simp_all;done)
     refine ZD G (ZC G (Zq G (Zk G (Zg G (ZI ?_)))));unfold Uk;(simp_all;omega)
    refine ZD G (ZC G (Zq G (Zk G (ZD G (ZC G (Zq G (Zk G (Zg G (ZI ?_)))))))));unfold Uk;(simp_all;done)
   refine ZD G (ZC G (Zq G (Zk G (ZD G (ZC G (Zq G (Zk G (ZD G (ZC G (Zq G (Zk G (Zg G (ZI ?_)))))))))))));unfold Uk;(simp_all;done)
  refine Ya G G (ZE G (Zq G (Zk G (ZD G (ZC G (Zq G (Zk G (ZD G (ZC G (Zq G (Zk G (ZD G (ZC G (Zq G (Zk G (Zg G (ZI ?_)))))))))))))))));unfold Uk;(simp_all;done)
 refine Ya G G (ZD G (Zq G (Zk G (ZE G (ZC G (Zq G (Zk G (ZD G (ZC G (Zq G (Zk G (ZD G (ZC G (Zq G (Zk G (ZD G (ZC G (Zq G (Zk G (Zg G (ZI ?_)))))))))))))))))))));unfold Uk;(simp_all;done)
def Q0(p:Mv->Bool):List Mv->Int
 |[]=>-1
 |y::l=>if p y=true then 0 else if Q0 p l=-1 then -1 else Q0 p l+1
def tx(p:Mv->Bool):∀ l:List Mv,-1<=Q0 p l/\Q0 p l<l.length
 |[]=>⟨Int.le_refl _,by simp[Q0]⟩
 |y::l=>by
  have:=tx p l;unfold Q0;rw[Zcd];split
  ·omega
  split <;> omega
def u3{p:Mv->Bool}:∀ {l:List Mv},(∀ i:Nat,i<l.length->p (l.getD i (0,0,0))=false)->Q0 p l=-1
 |[],_=>rfl
 |y::l,h=>by
  unfold Q0;have h0:p y=false:=by have:=h 0 (by simp);simpa using this
  have ih:=u3 (p:=p) (l:=l) fun i hi=>by have:=h (i+1) (by simpa using hi);simpa using this
  rw[h0,Zcz Bool.false_ne_true,ZcA ih]
def uU{p:Mv->Bool}:∀ {l:List Mv} {i:Nat},i<l.length->p (l.getD i (0,0,0))=true->(∀ j:Nat,j<i->p (l.getD j (0,0,0))=false)->Q0 p l=i
 |[],i,h,_,_=>by simp at h
 |y::l,0,_,h,_=>by
  unfold Q0;rw[ZcA (by simpa using h)];rfl
 |y::l,i+1,hi,h,hn=>by
  unfold Q0;have h0:p y=false:=by have:=hn 0 (by omega);simpa using this
  have ih:=uU (p:=p) (l:=l) (i:=i) (by simpa using hi) (by simpa using h) fun j hj=>by have:=hn (j+1) (by omega);simpa using this
  rw[h0,Zcz Bool.false_ne_true,Zcz (by omega),ih];omega
def vD{p:Mv->Bool}:∀ {l:List Mv},0<=Q0 p l↔l.any p=true
 |[]=>by simp[Q0]
 |y::l=>by
  have ih:=vD (p:=p) (l:=l);have:=tx p l;unfold Q0;rw[List.any_cons]
  cases hy:p y with
  |true=>simp
  |false=>
   rw[Zcz Bool.false_ne_true,Bool.false_or,<-ih];split <;> omega
def Ul(m:Mv):Bool:=!Uk m.1 m.2.1 m.2.2
def bad_yes{m:Mv}(h:Uk m.1 m.2.1 m.2.2=false):Ul m=true:=by unfold Ul;rw[h];rfl
def oz{m:Mv}(h:Uk m.1 m.2.1 m.2.2=true):Ul m=false:=by unfold Ul;rw[h];rfl
def sn(M:Nat->Int):WR AM 38 [.agg 3 (ia M)] [] (fun v _ _=>v=.s (.bool (!Uk (M 0) (M 1) (M 2)))):=by
 refine YL (a:=a38) G G (YI _) (ZQ G) (m:=0) G (Ze (YC G (Yq G (Zf (Yo G G ZM (Yt G (YP (Zbo M)) G G G (Yv (r:=.bool _) G G (Zk G (Zg G ?_)))))))));rfl
def rS(l:List Mv)(hlen:l.length<=1000000):RdR AM 73 3 [] [.fn 38 []] (YV l) (.s (.int .i64 (Q0 Ul l))):=by
 refine WV fun v Bs hc=>?_
 refine YL (a:=a73) G G (YI _) (ZQ G) G ?_ (by first|rfl|(cases hc <;> rfl));have hr0:=hc.rx;rw[show YZ 0 Bs=YZ 0 Bs++[] from(Zcf _).symm];generalize hown:YZ 0 Bs=own0 at hr0 ⊢;refine Ze (Yq G (Yc (Ye (Ze (Yq (v:=v) G (Xk G hr0 (by decide) (YQ l) (Yq G (Yc (Yk (Xo (ZbY (.refl _) .slnil) (Xu (fun m f _ L=>∃ (i:Nat),(i<=l.length)/\(m=l.length-i)/\(∀ j:Nat,j<i->Ul (l.getD j (0,0,0))=false)/\(f 0=v)/\(f 1=.fn 38 [])/\(f 7=.s (.int .i64 l.length))/\(f 8=.s (.int .i64 i))/\(L=(own0++[]))) (fun m f nb L hI=>?_) (l.length) (⟨0,by omega,by omega,fun j hj=>by omega,rfl,rfl,rfl,rfl,rfl⟩))))))))))));obtain⟨i,hi,hm,hn,k0,k1,k7,k8,rfl⟩:=hI;refine Za 0 k0 (Za 1 k1 (Za 7 k7 (Za 8 k8 (Ze (Zr G (Yc (Ye (Yj G (fun h6=>?_) (fun h6=>?_))))))))) <;> simp only[NM]at h6
 ·refine Yh (Ye (Yk (Ze (Zj G (Zj G (Zf (Yq (v:=.fn _ _) G (Yq (v:=v) G (Zj G ?_)))))))));obtain⟨b0,q0,md0,c0,F0,rfl,rfl,hF0⟩:=hr0.at (by decide) (YQ l) (by omega);refine Zx G G ?_;obtain⟨hx0,hx1,hx2⟩:=UE hF0 (i:=i) (by omega);have hq:=YP (sn (dp F0 (0+(i:Int).toNat*3)));rw[show(dp F0 (0+(i:Int).toNat*3)) 0=(l.getD i (0,0,0)).1 from hx0,show(dp F0 (0+(i:Int).toNat*3)) 1=(l.getD i (0,0,0)).2.1 from hx1,show(dp F0 (0+(i:Int).toNat*3)) 2=(l.getD i (0,0,0)).2.2 from hx2]at hq;refine Yp G G ZM (Yt G (hq) G G G (Yc (Yj G (fun h16=>?_) (fun h16=>?_)))) <;> simp only[NM]at h16
  ·refine Ze (Zj G (Zj G (Yc (Yi (⟨_,ZL G,?_⟩)))));refine⟨ZJ ?_,(fun _ h=>h)⟩;exact(uU (by omega) (bad_yes h16) hn).symm
  refine Yh (Yf (Zs G G (Zj G (Yc (⟨l.length-(i+1),_,by omega,(.refl _),i+1,by omega,rfl,?_,rfl,rfl,rfl,rfl,rfl⟩)))));intro j hj;by_cases e:j=i
  ·subst e;exact oz h16
  exact hn j (by omega)
 refine Y0 (Xb (Ze (Yq G (Yc (Yi (⟨_,ZL G,?_⟩))))));refine⟨ZJ ?_,(fun _ h=>h)⟩;exact(u3 fun j hj=>hn j (by omega)).symm
def Rh(l:List Mv)(hlen:l.length<=1000000):RdR AM 37 3 [] [.fn 38 []] (YV l) (.s (.bool (l.any Ul))):=by
 refine WV fun v Bs hc=>?_
 refine YL (a:=a37) G G (YI _) (ZQ G) G ?_ (by first|rfl|(cases hc <;> rfl));have hr0:=hc.rx;rw[show YZ 0 Bs=YZ 0 Bs++[] from(Zcf _).symm];generalize hown:YZ 0 Bs=own0 at hr0 ⊢;refine Ze (Yq G (Zf (Yq (v:=v) G (Yq (v:=.fn _ _) G (XX (caps:=[]) G (rS l hlen) G (hr0) (fun _ h=>(ZbV _ h)) G G G (Zr G (Zk G (Zg G (⟨ZI ?_,(fun _ h=>h)⟩)))))))));rw[Zce,<-vD];simp
def wE{a b:Int}(h:b<a):Wc .gtr (.int .i64 a) (.int .i64 b)=some (.bool true):=by
 show(if IntKind.i64=IntKind.i64 then some (S.bool (decide (b<a))) else none)=_;rw[ZcA rfl,Zcl h]
def vQ{a b:Int}(h:a<=b):Wc .gtr (.int .i64 a) (.int .i64 b)=some (.bool false):=by
 show(if IntKind.i64=IntKind.i64 then some (S.bool (decide (b<a))) else none)=_;rw[ZcA rfl,Zci (by omega)]
def Wv(l:List Mv):Nat->ByteArray
 |0=>⟨#[]⟩
 |i+1=>(if i=0 then YS (l.getD i (0,0,0)).1 else Wv l i++⟨#[32]⟩++YS (l.getD i (0,0,0)).1)++YS (l.getD i (0,0,0)).2.1++Qz (l.getD i (0,0,0)).2.2
def R3(l:List Mv):Wv l 1=YS (l.getD 0 (0,0,0)).1++YS (l.getD 0 (0,0,0)).2.1++Qz (l.getD 0 (0,0,0)).2.2:=rfl
def Jx(l:List Mv){i:Nat}(h:1<=i):Wv l (i+1)=Wv l i++⟨#[32]⟩++YS (l.getD i (0,0,0)).1++YS (l.getD i (0,0,0)).2.1++Qz (l.getD i (0,0,0)).2.2:=by
 show(if i=0 then _ else _)++_++_=_;rw[Zcz (by omega)]
def TQ{l:List Mv}(h:l.any Ul=false){i:Nat}(hi:i<l.length):Txt (l.getD i (0,0,0)).1 (l.getD i (0,0,0)).2.1 (l.getD i (0,0,0)).2.2:=by
 rw[List.any_eq_false]at h;have:=h _ (zi hi);unfold Ul at this;exact txtB_iff.1 (by simpa using this)
def El{l:List Mv}(h:l.any Ul=false):∀ {i:Nat},i<=l.length->(Wv l i).size<=6*i/\(1<=i->4<=(Wv l i).size)
 |0,_=>⟨Zcs _,fun h=>by omega⟩
 |i+1,hi=>by
  obtain⟨h1,h2,_⟩:=TQ h (i:=i) (by omega);have hl:=Rj (l.getD i (0,0,0)).2.2;have ih:=(El h (i:=i) (by omega)).1;have hs:(⟨#[32]⟩:ByteArray).size=1:=rfl;by_cases h0:i=0
  ·subst h0;rw[R3];simp only[ZbP,YU h1,YU h2];omega
  rw[Jx l (by omega)];simp only[ZbP,YU h1,YU h2];omega
def Za2(l:List Mv)(hlen:l.length<=1000000)(hb:l.any Ul=true):RdR AM 12 3 [] [] (YV l) (.tup [.s (.str ⟨#[]⟩),.s (.int .i64 2)]):=by
 refine WV fun v Bs hc=>?_
 have hcf:=Rh l hlen;rw[hb]at hcf;refine YL (a:=a12) G G (YI _) (ZQ G) G ?_ (by first|rfl|(cases hc <;> rfl));have hr0:=hc.rx;rw[show YZ 0 Bs=YZ 0 Bs++[] from(Zcf _).symm];generalize hown:YZ 0 Bs=own0 at hr0 ⊢;refine Ze (Yq G (Yq G (Yc (Ye (Ze (Yq (v:=v) G (XX (caps:=[]) G (hcf) G (hr0) (fun _ h=>(ZbV _ h)) G G G (Yc (ZA G (Ze (Yq G (Yq G (Yc (Yi (⟨_,YH (v:=.s _) G (ZL G),?_⟩)))))))))))))));exact⟨G,(fun _ h=>h)⟩
def gp(l:List Mv)(hlen:l.length<=1000000)(hb:l.any Ul=false)(hm:8192<l.length):RdR AM 12 3 [] [] (YV l) (.tup [.s (.str ⟨#[]⟩),.s (.int .i64 3)]):=by
 refine WV fun v Bs hc=>?_
 have hcf:=Rh l hlen;rw[hb]at hcf;refine YL (a:=a12) G G (YI _) (ZQ G) G ?_ (by first|rfl|(cases hc <;> rfl));have hr0:=hc.rx;rw[show YZ 0 Bs=YZ 0 Bs++[] from(Zcf _).symm];generalize hown:YZ 0 Bs=own0 at hr0 ⊢;refine Ze (Yq G (Yq G (Yc (Ye (Ze (Yq (v:=v) G (XX (caps:=[]) G (hcf) G (hr0) (fun _ h=>(ZbV _ h)) G G G (Yc (ZB G (Yh (Ye (Ze (Yq (v:=v) G (Xk G hr0 (by decide) (YQ l) (Yr G G (wE (by omega)) (Yc (ZA G (Ze (Yq G (Yq G (Yc (Yi (⟨_,YH (v:=.s _) G (ZL G),?_⟩)))))))))))))))))))))));exact⟨G,(fun _ h=>h)⟩
def ZcX(l:List Mv)(hb:l.any Ul=false)(hlen:l.length<=8192):RdR AM 12 3 [] [] (YV l) (.tup [.s (.str (Wv l l.length)),.s (.int .i64 0)]):=by
 refine WV fun v Bs hc=>?_
 have hcf:=Rh l (by omega);rw[hb]at hcf;refine YL (a:=a12) G G (YI _) (ZQ G) G ?_ (by first|rfl|(cases hc <;> rfl));have hr0:=hc.rx;rw[show YZ 0 Bs=YZ 0 Bs++[] from(Zcf _).symm];generalize hown:YZ 0 Bs=own0 at hr0 ⊢;refine Ze (Yq G (Yq G (Yc (Ye (Ze (Yq (v:=v) G (XX (caps:=[]) G (hcf) G (hr0) (fun _ h=>(ZbV _ h)) G G G (Yc (ZB G (Yh (Ye (Ze (Yq (v:=v) G (Xk G hr0 (by decide) (YQ l) (Yr G G (vQ (by omega)) (Yc (ZB G (Yh (Ze (Rr (v:=.aggv [.pnil,.snil]) G (w4 G G (qL w5 G G EN (Zl G (Yq (v:=.map _) G (Yc (Ye (Ze (Yq (v:=v) G (Xk G hr0 (by decide) (YQ l) ?_)))))))))))))))))))))))))))));refine Yq G (Yc (Yk (YO (Ze (Zr G (Yc (Ye (Yj G (fun h19=>?_) (fun h19=>?_))))))))) <;> simp only[NM]at h19
 ·refine Yh (Ye (Yk (Ze (Zj G ?_))));obtain⟨b0,q0,md0,c0,F0,rfl,rfl,hF0⟩:=hr0.at (by decide) (YQ l) (by omega);refine Zx G G ?_;obtain⟨h1,h2,_⟩:=TQ hb (i:=0) (by omega);obtain⟨hx0,hx1,hx2⟩:=UE hF0 (i:=0) (by omega);refine Yo G G ZO (Yy (Zj G (Yz G G G G .here (Yc (Ye (Ze (Zj G (Yr G G (vQ (by omega)) (Yc (ZB G (Yh (Yg (Zl G (Zy G (Ym (x:=(l.getD 0 (0,0,0)).1) G G ZM (hx0) (Yu G (WH _) G G G (Zz G (Ym (x:=(l.getD 0 (0,0,0)).2.1) G G ZM (hx1) (Yu G (WH _) G G G (Yq (v:=.map _) G (Yd (o':=2) G G G (Ym (x:=(l.getD 0 (0,0,0)).2.2) G G ZM (hx2) (WK G G ZN G (W6 _) (Yt G (wk _) G G G (yx G G G (XH (Lr:=[(_,_)]) (L0:=[_,_,_]) (kS (gS3 (YS (l.getD 0 (0,0,0)).1) (YS (l.getD 0 (0,0,0)).2.1) (Qz (l.getD 0 (0,0,0)).2.2)) (.ex 3) (YS (l.getD 0 (0,0,0)).1) (YS (l.getD 0 (0,0,0)).2.1) (Qz (l.getD 0 (0,0,0)).2.2) G G G (by rw[YU h1];omega) (by rw[YU h1,YU h2];have:=Rj (l.getD 0 (0,0,0)).2.2;omega)) G G (Zcj (.refl _) ((Zcm _ ((Zcm _ ((Zcm _ (.refl _)).trans (.swap _ _ _))).trans (.swap _ _ _))).trans (.swap _ _ _))) G G G G G G G (Yc (Yf (Zs G G ?_)))))))))))))))))))))))))))));refine Zj G (Yc (Xo (.cons_cons _ (.cons_cons _ (.cons _ (.cons _ (.refl _))))) (Xu (fun m f _ L=>∃ (i kb:Nat),(1<=i)/\(i<=l.length)/\(m=l.length-i)/\(f 4=.ptr (Bs.length) 0 2)/\(f 5=.map (Bs.length+1))/\(f 16=.sl b0 0 l.length 3 c0)/\(f 17=.s (.int .i64 l.length))/\(f 18=.s (.int .i64 i))/\(L=[(kb,.sc (.gty 5) (Wv l i).size (Xv (Wv l i))),(Bs.length,UU 54 (Bs.length) kb (Wv l i).size),(Bs.length+1,.mp .var Rz),(b0,.sc md0 q0 (ia F0))])) (fun m f nb L hI=>?_) (l.length-1) (⟨1,_,by omega,by omega,rfl,rfl,rfl,rfl,rfl,rfl,by rw[R3]⟩))));obtain⟨i,kb,h1i,hi,hm,k4,k5,k16,k17,k18,rfl⟩:=hI;refine Za 4 k4 (Za 5 k5 (Za 16 k16 (Za 17 k17 (Za 18 k18 ?_))));have hsz:=El hb hi;refine Ze (Zr G (Yc (Ye (Yj G (fun h19=>?_) (fun h19=>?_))))) <;> simp only[NM]at h19
  ·refine Yh (Ye (Yk (Ze (Zj G (Zx G G ?_)))));obtain⟨h1,h2,_⟩:=TQ hb (i:=i) (by omega);obtain⟨hx0,hx1,hx2⟩:=UE hF0 (i:=i) (by omega);refine Yp G G ZP (Yy (Zj G (Yz G G G G .here (Yc (Ye (Ze (Zj G (Yr G G (wE (by omega)) (Yc (ZA G (Yf (Zl G (Rq G (XH (Lr:=[(_,_),(_,_)]) (L0:=[_,_,_]) (yo (gS1 ⟨#[32]⟩) (.ex 1) ⟨#[32]⟩ (Wv l i) G (by have h7:(⟨#[32]⟩:ByteArray).size=1:=rfl;omega)) G G (Zcj (Zcj (.refl _) ((Zcm _ ((Zcm _ (.refl _)).trans (.swap _ _ _))).trans (.swap _ _ _))) ((Zcm _ ((Zcm _ ((Zcm _ (.refl _)).trans (.swap _ _ _))).trans (.swap _ _ _))).trans (.swap _ _ _))) G G G G G G G (Yc (Yg (Zl G (Zy G (Ym (x:=(l.getD i (0,0,0)).1) G G (.tail _ ZP) (hx0) (Yu G (WH _) G G G (Zz G (Ym (x:=(l.getD i (0,0,0)).2.1) G G (.tail _ ZP) (hx1) (Yu G (WH _) G G G (Yq (v:=.map _) G (Yd (o':=2) G G G (Ym (x:=(l.getD i (0,0,0)).2.2) G G (.tail _ ZP) (hx2) (WK G G (.tail _ (.tail _ ZP)) G (W6 _) (Yt G (wk _) G G G (yx G G G ?_)))))))))))))))))))))))))))));refine XH (Lr:=[(_,_),(_,_)]) (L0:=[_,_,_,_,_]) (Zac (gS3 (YS (l.getD i (0,0,0)).1) (YS (l.getD i (0,0,0)).2.1) (Qz (l.getD i (0,0,0)).2.2)) (.ex 3) (YS (l.getD i (0,0,0)).1) (YS (l.getD i (0,0,0)).2.1) (Qz (l.getD i (0,0,0)).2.2) (Wv l i++⟨#[32]⟩) G G G (by rw[ZbP,YU h1,YU h2];have h7:(⟨#[32]⟩:ByteArray).size=1:=rfl;have:=Rj (l.getD i (0,0,0)).2.2;omega)) G G (Zcj (Zcj (.refl _) ((Zcm _ (.refl _)).trans (.swap _ _ _))) ((Zcm _ ((Zcm _ (.refl _)).trans (.swap _ _ _))).trans (.swap _ _ _))) G G G G G G G (Yc (Yf (Zs G G (Zj G (Yc ?_)))));refine⟨l.length-(i+1),_,by omega,(.cons_cons _ (.cons_cons _ (.cons _ (.cons _ (.cons _ (.cons _ (.cons _ (.refl _)))))))),i+1,_,by omega,by omega,rfl,rfl,rfl,rfl,rfl,rfl,by rw[Jx l h1i]⟩
  refine Y0 (Xb (Ze (Zl G (YG G (Zy G (TL (E9 (Wv l i) (by have:=hsz.2 h1i;omega) (by omega)) G G G G ZN .here (Yq (v:=.s _) G (Yq G (Yc (Yi (⟨_,YH (v:=.s _) G (ZL G),?_⟩)))))))))));obtain rfl:i=l.length:=by omega
  exact⟨G,(UY ZP)⟩
 refine Y0 (Xb (Ze (Zl G (YG G (Zy G (Zbq (args:=[.ptr Bs.length 0 2]) (av:=[.ptr Bs.length 0 2]) (rs:=[_]) (Bs:=[_]) (Bs':=[_]) G G G str_B0 G (YF G) (fun _ h=>h) (by simp[rnL,V.renL,V.ren,pos]) ⟨ZN,G,trivial⟩ G G (.cons (UO ZN) .nil) (Yq (v:=.s _) G (Yq G (Yc (Yi (⟨_,YH (v:=.s _) G (ZL G),?_⟩)))))))))));have h0:l.length=0:=by omega
 refine⟨?_,(fun _ h=>(.tail _ (.tail _ h)))⟩;rw[h0];rfl
def ZaC(a t b:Int)(h:Txt a t b):RdR AM 12 3 [] [] [a,t,b] (.tup [.s (.str (ZcB a t b)),.s (.int .i64 0)]) :=
 ZcX [(a,t,b)] (by rw[List.any_cons,List.any_nil,oz (txtB_iff.2 h)];rfl) (by simp)
def wq(s:ByteArray)(c:Int):RF AM 82 [.s (.str s),.s (.int .u8 c)] (.s (.int .i64 (Lib.indexByte s.data.toList c.toNat.toUInt8))) :=
 ⟨[],by first|(rw[WI (A:=AM) (f:=85) (pf:=TE) rfl];rfl)|exact(WI (A:=AM) (pf:=TE) rfl _ _ rfl).trans rfl⟩
def YM(s:ByteArray)(i:Nat):Int:=((s.data.getD i 0).toNat:Nat)
def XU(s:ByteArray)(i:Nat):0<=YM s i/\YM s i<256:=by
 have:=(s.data.getD i 0).toNat_lt;unfold YM;omega
theorem sr:∀ n:Fin 256,Lib.indexByte (⟨#[97,98,99,100,101,102,103,104]⟩:ByteArray).data.toList n.val.toUInt8=if 97<=n.val/\n.val<=104 then (n.val:Int)-97 else -1:=by decide +kernel
theorem o6:∀ n:Fin 256,Lib.indexByte (⟨#[49,50,51,52,53,54,55,56]⟩:ByteArray).data.toList n.val.toUInt8=if 49<=n.val/\n.val<=56 then (n.val:Int)-49 else -1:=by decide +kernel
def Xg(c:Int):Int:=if 97<=c/\c<=104 then c-97 else -1
def Xj(c:Int):Int:=if 49<=c/\c<=56 then c-49 else -1
def vp{c:Int}(h:0<=c/\c<256):RF AM 82 [.s (.str ⟨#[97,98,99,100,101,102,103,104]⟩),.s (.int .u8 c)] (.s (.int .i64 (Xg c))):=by
 have h1:=wq ⟨#[97,98,99,100,101,102,103,104]⟩ c;have h2:=sr ⟨c.toNat,by omega⟩;simp only at h2;rw[h2]at h1;have e:(if 97<=c.toNat/\c.toNat<=104 then (c.toNat:Int)-97 else -1)=Xg c:=by
  unfold Xg;by_cases k:97<=c/\c<=104
  ·rw[ZcA k,ZcA (by omega)];omega
  rw[Zcz k,Zcz (by omega)]
 rw[e]at h1;exact h1
def qm{c:Int}(h:0<=c/\c<256):RF AM 82 [.s (.str ⟨#[49,50,51,52,53,54,55,56]⟩),.s (.int .u8 c)] (.s (.int .i64 (Xj c))):=by
 have h1:=wq ⟨#[49,50,51,52,53,54,55,56]⟩ c;have h2:=o6 ⟨c.toNat,by omega⟩;simp only at h2;rw[h2]at h1;have e:(if 49<=c.toNat/\c.toNat<=56 then (c.toNat:Int)-49 else -1)=Xj c:=by
  unfold Xj;by_cases k:49<=c/\c<=56
  ·rw[ZcA k,ZcA (by omega)];omega
  rw[Zcz k,Zcz (by omega)]
 rw[e]at h1;exact h1
def UJ(s:ByteArray):Prop:=s.size=2/\(97<=YM s 0/\YM s 0<=104)/\(49<=YM s 1/\YM s 1<=56)
instance (s:ByteArray):Decidable (UJ s):=by unfold UJ;infer_instance
def QE(s:ByteArray):Int:=if UJ s then (YM s 1-49)*8+(YM s 0-97) else 0
def Zc2{a:UInt8}{n:Nat}(h:a.toNat=n):UInt8.ofNat n=a:=by
 subst h;exact UInt8.ofNat_toNat
def jt(a b:Int)(i:Nat)(ha:0<=a/\a<256)(hb:0<=b/\b<256):-9223372036854775808<=ovA (fun _=>0) 0 2 (ov (ov (fun _=>0) 0 (Xg a)) 1 (Xj b)) i/\ovA (fun _=>0) 0 2 (ov (ov (fun _=>0) 0 (Xg a)) 1 (Xj b)) i<=9223372036854775807:=by
 rw[Dj];have h1:-1<=Xg a/\Xg a<256:=by unfold Xg;split <;> omega
 have h2:-1<=Xj b/\Xj b<256:=by unfold Xj;split <;> omega
 dsimp only;split
 ·omega
 split <;> omega
def jF{s:ByteArray}(h:¬ UJ s):(V.tup [.s (.int .i64 0),.s (.bool false)])=.tup [.s (.int .i64 (QE s)),.s (.bool (decide (UJ s)))]:=by
 rw[Zci h,QE,Zcz h]
def gt{s:ByteArray}{x:Int}(h:UJ s)(hx:x=QE s):(V.tup [.s (.int .i64 x),.s (.bool true)])=.tup [.s (.int .i64 (QE s)),.s (.bool (decide (UJ s)))]:=by
 rw[Zcl h,hx]
def Za9{s:ByteArray}(hs:(s.size:Int)=2)(h:0<=Xg (YM s 0)/\Xg (YM s 0)<8/\0<=Xj (YM s 1)/\Xj (YM s 1)<8):(V.tup [.s (.int .i64 (atM (Xg (YM s 0)) (Xj (YM s 1)))),.s (.bool true)])=.tup [.s (.int .i64 (QE s)),.s (.bool (decide (UJ s)))]:=by
 unfold Xg Xj at h;by_cases a:97<=YM s 0/\YM s 0<=104
 ·by_cases b:49<=YM s 1/\YM s 1<=56
  ·have hn:UJ s:=⟨by omega,a,b⟩
   refine gt hn ?_;unfold Xg Xj atM QE;rw[ZcA a,ZcA b,ZcA hn,ZcA (by omega)]
  rw[Zcz b]at h;omega
 rw[Zcz a]at h;omega
def sS(s:ByteArray):WR AM 109 [.s (.str s)] [] (fun v _ _=>v=.tup [.s (.int .i64 (QE s)),.s (.bool (decide (UJ s)))]):=by
 refine YL (a:=a109) G G (YI _) (ZQ G) (m:=0) G (Ze (Yq G (Yq G (Yc (Ye (Ze (Yq (v:=.s _) G (Xe G (Zr G (Yc (Yj G (fun h1=>?_) (fun h1=>?_)))))))))))) <;> simp only[NM]at h1
 ·refine Ze (Yq G (Yq G (Yc (Yi (⟨_,YH (v:=.s (.int _ _)) G (ZK G),?_⟩)))));exact jF (fun q=>by have:=q.1;omega)
 refine Yh (Ye (Yg (Yq (v:=.s _) G (XP G G (by omega) (Yu G (vp (XU s 0)) G G G (Yq (v:=.s _) G (XP G G (by omega) (Yu G (qm (XU s 1)) G G G (YB G (.one G (.one G .nil)) (Yy (Yz G G G G .here (Yc (Ye (Ze (Yo G G ZM (Yt G (show RF AM 134 _ (.s (.bool (decide (0<=Xg (YM s 0)/\Xg (YM s 0)<8/\0<=Xj (YM s 1)/\Xj (YM s 1)<8)))) from YP (y4 (ovA (fun _=>0) 0 2 (ov (ov (fun _=>0) 0 (Xg (YM s 0))) 1 (Xj (YM s 1)))) (jt _ _ 0 (XU s 0) (XU s 1)) (jt _ _ 1 (XU s 0) (XU s 1)))) G G G (Yv (r:=.bool _) G G (Yc (Yj G (fun h2=>?_) (fun h2=>?_)))))))))))))))))))) <;> simp only[NM]at h2
 ·refine Ze (Yq G (Yq G (Yc (Yi (⟨_,YH (v:=.s (.int _ _)) G (ZK G),?_⟩)))));exact jF (fun q=>by obtain⟨q1,q2,q3⟩:=q;have e1:Xg (YM s 0)=YM s 0-97:=ZcA q2;have e2:Xj (YM s 1)=YM s 1-49:=ZcA q3;omega)
 refine Yh (Ze (Yo G G ZM (Yt G (show RF AM 112 _ (.s (.int .i64 (atM (Xg (YM s 0)) (Xj (YM s 1))))) from YP (Jv (ovA (fun _=>0) 0 2 (ov (ov (fun _=>0) 0 (Xg (YM s 0))) 1 (Xj (YM s 1)))) (jt _ _ 0 (XU s 0) (XU s 1)) (jt _ _ 1 (XU s 0) (XU s 1)))) G G G (Zj G (Yq G (Yc (Yi (⟨_,YH (v:=.s (.int _ _)) G (ZK G),?_⟩))))))));exact Za9 (by omega) (by assumption)
def E4(s:ByteArray):RF AM 109 [.s (.str s)] (.tup [.s (.int .i64 (QE s)),.s (.bool (decide (UJ s)))]):=YP (sS s)
def WS(c:Int):Int:=if c=110 then 2 else if c=98 then 3 else if c=114 then 4 else if c=113 then 5 else 0
def sqN(s:ByteArray)(p:Nat):Int:=Xj (YM s (p+1))*8+Xg (YM s p)
def sqR(s:ByteArray)(no:Int)(p:Nat):Int×Bool×Nat :=
 if p<s.size/\0<=Xg (YM s p) then
  if p+1<s.size/\0<=Xj (YM s (p+1))/\sqN s p≠no then (sqN s p,true,p+2) else (0,false,p+1)
 else (0,false,p)
def JU{s:ByteArray}{no:Int}{p:Nat}(h:¬ (p<s.size/\0<=Xg (YM s p))):sqR s no p=(0,false,p):=Zcz h
def Ka{s:ByteArray}{no:Int}{p:Nat}(h:p<s.size/\0<=Xg (YM s p))(h2:¬ (p+1<s.size/\0<=Xj (YM s (p+1))/\sqN s p≠no)):sqR s no p=(0,false,p+1):=by
 unfold sqR;rw[ZcA h,Zcz h2]
def Kg{s:ByteArray}{no:Int}{p:Nat}(h:p<s.size/\0<=Xg (YM s p))(h2:p+1<s.size/\0<=Xj (YM s (p+1))/\sqN s p≠no):sqR s no p=(sqN s p,true,p+2):=by
 unfold sqR;rw[ZcA h,ZcA h2]
def mvR(s:ByteArray)(p:Nat):Mv×Bool×Nat :=
 let a:=sqR s (-1) p
 if a.2.1=true then
  let t:=sqR s a.1 a.2.2
  if t.2.1=true then
   if t.2.2<s.size/\WS (YM s t.2.2)≠0 then ((a.1,t.1,WS (YM s t.2.2)),true,t.2.2+1) else ((a.1,t.1,0),true,t.2.2)
  else ((a.1,0,0),false,t.2.2)
 else ((0,0,0),false,a.2.2)
def KL{s:ByteArray}{p q:Nat}{x:Int}(h:sqR s (-1) p=(x,false,q)):mvR s p=((0,0,0),false,q):=by
 unfold mvR;simp only[h,Zb1,if_false]
def Kj{s:ByteArray}{p q q':Nat}{x y:Int}(h:sqR s (-1) p=(x,true,q))(h2:sqR s x q=(y,false,q')):mvR s p=((x,0,0),false,q'):=by
 unfold mvR;simp only[h,h2,Zb1,if_false,if_true]
def Kk{s:ByteArray}{p q q':Nat}{x y:Int}(h:sqR s (-1) p=(x,true,q))(h2:sqR s x q=(y,true,q'))(h3:¬ (q'<s.size/\WS (YM s q')≠0)):mvR s p=((x,y,0),true,q'):=by
 unfold mvR;simp only[h,h2,if_true];rw[Zcz h3]
def Rm{s:ByteArray}{p q q':Nat}{x y:Int}(h:sqR s (-1) p=(x,true,q))(h2:sqR s x q=(y,true,q'))(h3:q'<s.size/\WS (YM s q')≠0):mvR s p=((x,y,WS (YM s q')),true,q'+1):=by
 unfold mvR;simp only[h,h2,if_true];rw[ZcA h3]
def yS(l:List Mv):List Mv×Int×Int:=if 8192<l.length then ([],0,3) else (l,0,0)
def US(s:ByteArray):Nat->Nat->List Mv->List Mv×Int×Int
 |0,_,_=>([],0,0)
 |k+1,p,l=>
  if (mvR s p).2.1=true then
   if (mvR s p).2.2=s.size then yS (l++[(mvR s p).1])
   else if YM s (mvR s p).2.2=32 then US s k ((mvR s p).2.2+1) (l++[(mvR s p).1])
   else ([],((mvR s p).2.2:Int),13)
  else ([],((mvR s p).2.2:Int),13)
def Wi(s:ByteArray):List Mv×Int×Int:=if 65536<s.size then ([],0,3) else if s.size=0 then ([],0,0) else US s (s.size+1) 0 []
def JT{c:Int}(h:0<=Xg c):97<=c/\c<=104/\Xg c=c-97:=by
 unfold Xg at h ⊢;split at h
 ·rename_i q;rw[ZcA q];exact⟨q.1,q.2,G⟩
 omega
def JK{c:Int}(h:0<=Xj c):49<=c/\c<=56/\Xj c=c-49:=by
 unfold Xj at h ⊢;split at h
 ·rename_i q;rw[ZcA q];exact⟨q.1,q.2,G⟩
 omega
def Ub{s:ByteArray}{k p q:Nat}{m:Mv}{l:List Mv}(h:mvR s p=(m,false,q)):US s (k+1) p l=([],(q:Int),13):=by
 unfold US;rw[h];simp only[Zb1,if_false]
def U7{s:ByteArray}{k p q:Nat}{m:Mv}{l:List Mv}(h:mvR s p=(m,true,q))(hq:q=s.size):US s (k+1) p l=yS (l++[m]):=by
 unfold US;rw[h];simp only[if_true];rw[ZcA hq]
def Ra{s:ByteArray}{k p q:Nat}{m:Mv}{l:List Mv}(h:mvR s p=(m,true,q))(hq:q≠s.size)(hb:YM s q≠32):US s (k+1) p l=([],(q:Int),13):=by
 unfold US;rw[h];simp only[if_true];rw[Zcz hq,Zcz hb]
def Tv{s:ByteArray}{k p q:Nat}{m:Mv}{l:List Mv}(h:mvR s p=(m,true,q))(hq:q≠s.size)(hb:YM s q=32):US s (k+1) p l=US s k (q+1) (l++[m]):=by
 conv=>lhs;unfold US
 rw[h];simp only[if_true];rw[Zcz hq,ZcA hb]
def xv{s:ByteArray}{no:Int}{p:Nat}(h:p<=s.size):p<=(sqR s no p).2.2/\(sqR s no p).2.2<=s.size:=by
 unfold sqR;split
 ·split
  ·simp only;omega
  simp only;omega
 simp only;omega
def ZcG{s:ByteArray}{p:Nat}(h:p<=s.size):p<=(mvR s p).2.2/\(mvR s p).2.2<=s.size:=by
 have h1:=xv (no:=-1) h;rcases ha:sqR s (-1) p with⟨x,b,q1⟩
 rw[ha]at h1
 cases b with
 |false=>rw[KL ha];exact h1
 |true=>
  have h2:=xv (no:=x) h1.2;simp only at h1 h2;rcases ht:sqR s x q1 with⟨y,b,q2⟩
  rw[ht]at h2;simp only at h2
  cases b with
  |false=>rw[Kj ha ht];simp only;omega
  |true=>
   by_cases hk:q2<s.size/\WS (YM s q2)≠0
   ·rw[Rm ha ht hk];simp only;omega
   rw[Kk ha ht hk];simp only;omega
def RJ(c:Int):Int:=if c=110 then 0 else if c=98 then 1 else if c=114 then 2 else if c=113 then 3 else -1
def yM{c:Int}(h:0<=RJ c):WS c=2+RJ c/\WS c≠0/\RJ c<=3:=by
 unfold RJ at h ⊢;unfold WS;split
 ·exact⟨G,by omega,by omega⟩
 split
 ·exact⟨G,by omega,by omega⟩
 split
 ·exact⟨G,by omega,by omega⟩
 split
 ·exact⟨G,by omega,by omega⟩
 rename_i a b d e;rw[Zcz a,Zcz b,Zcz d,Zcz e]at h;omega
def wL{c:Int}(h:RJ c<0):WS c=0:=by
 unfold RJ at h;unfold WS;split at h
 ·omega
 split at h
 ·omega
 split at h
 ·omega
 split at h
 ·omega
 rename_i a b d e;rw[Zcz a,Zcz b,Zcz d,Zcz e]
theorem g9:∀ n:Fin 256,Lib.indexByte (⟨#[110,98,114,113]⟩:ByteArray).data.toList n.val.toUInt8=RJ (n.val:Int):=by decide +kernel
def Zbn{c:Int}(h:0<=c/\c<256):RF AM 82 [.s (.str ⟨#[110,98,114,113]⟩),.s (.int .u8 c)] (.s (.int .i64 (RJ c))):=by
 have h1:=wq ⟨#[110,98,114,113]⟩ c;have h2:=g9 ⟨c.toNat,by omega⟩;simp only at h2;rw[h2,show((c.toNat:Nat):Int)=c by omega]at h1;exact h1
def qI{s:ByteArray}{p i:Nat}(h:p+2<=s.size)(hi:i<2):YM (s.extract p (p+2)) i=YM s (p+i):=by
 have hs:s.data.size=s.size:=rfl;unfold YM;rw[ByteArray.data_extract,ZbC,ZbC,Array.getElem?_extract,ZcA (by omega)]
def qJ{s:ByteArray}{p:Nat}(h:p+1<s.size)(hf:0<=Xg (YM s p))(hr:0<=Xj (YM s (p+1))){a b:Int}(ha:a=p)(hb:b=p+2):QE (s.extract a.toNat b.toNat)=sqN s p:=by
 rw[show a.toNat=p by omega,show b.toNat=p+2 by omega];obtain⟨f1,f2,f3⟩:=JT hf;obtain⟨r1,r2,r3⟩:=JK hr;have e0:YM (s.extract p (p+2)) 0=YM s p:=qI (i:=0) (by omega) (by omega);have e1:=qI (s:=s) (p:=p) (i:=1) (by omega) (by omega);have hn:UJ (s.extract p (p+2)):=⟨by rw[ByteArray.size_extract];omega,by omega,by omega⟩
 unfold QE sqN;rw[ZcA hn,e0,e1,f3,r3]
def xx(s:ByteArray)(no:Int)(p:Nat)(hp:p<=s.size)(hs:s.size<=4611686018427387904):RB AM 81 [.ptr 0 0 2,.s (.int .i64 no)] [.sc .var 2 (lc [.str s,.int .i64 p])] (.tup [.s (.int .i64 (sqR s no p).1),.s (.bool (sqR s no p).2.1)]) [.sc .var 2 (lc [.str s,.int .i64 (sqR s no p).2.2])]:=by
 refine V4 (YL (a:=a81) G G (YI _) (ZQ G) (m:=1) G (Ze (Yq G (Yq G (Yc (Ye (Ze (Kh G G (.part (v:=.s _) (ys:=[_,_]) G G G G (.part (v:=.s _) (ys:=[_,_]) G G G G .nil)) (Yq G (Yc (Yk (YO (Ze (Yr (r:=.bool true) G G G (Yc (Ye (ZA G (Yh (Ye (Yk (Ze (Zj G (Tw (a:=.str _) G G G (by omega) G (Zj G (Yq (v:=.s _) G (Yc (Ye (Ye (Yg ?_)))))))))))))))))))))))))))));refine Zl G (YG G (Zz G (Yn (x:=.int _ _) G G ZM G (Zl G (YG G (Zy G (Yn (x:=.str _) G G ZM G (Xe G (Zr G (Zk G (Ys (t:=27) G (fun h27=>?_) (fun h27=>?_)))))))))))) <;> simp only[NM]at h27
 ·refine ZF G (ZE G (Zq G (Yc (ZA G (Ze (Yq G (Yq G (Yc (Yi (⟨_,YH (v:=.s (.int _ _)) G (ZK G),?_⟩))))))))));rw[JU (fun hh=>by omega)];exact⟨G,ZM⟩
 refine Yb G (Yq (v:=.s _) G (Yb G (Zl G (Yb G (YG G (Yb G (Zy G (Yb G (Yn (x:=.str _) G G ZM G (Yb G (Zl G (Yb G (YG G (Yb G (Zz G (Yb G (Yn (x:=.int _ _) G G ZM G (Yb G (XP G G (by omega) (Yb G (Yt G (vp (XU s p)) G G G (Yb G (Zr G (Zq G (Yc (Yj G (fun h40=>?_) (fun h40=>?_))))))))))))))))))))))))))) <;> simp only[NM]at h40
 ·refine Ze (Yq G (Yq G (Yc (Yi (⟨_,YH (v:=.s (.int _ _)) G (ZK G),?_⟩)))));rw[JU (fun hh=>by omega)];exact⟨G,ZM⟩
 refine Yh (Ye (Ye (Yg (Zl G (YG G (Zy G (Yn (x:=.str _) G G ZM G (Zl G (YG G (Zz G (Yn (x:=.int _ _) G G ZM G (Zj G (Zt G G (Zl G (YG G (Zz G (Yn (x:=.int _ _) G G ZM G (Zs G G (Da G G G (by omega) (Yt G (E4 _) G G G (Zo G (YD (v:=.s (.int _ _)) G G (YD (v:=.s (.bool _)) G G (Zj G (Zk G (Zf (Zj G (Yr (r:=.bool false) G G G (Zk G ?_)))))))))))))))))))))))))))));refine ZD G (ZC G (Zq G (Yc (ZB G (Yh (Yf (Zl G (YG G (Zz G (Yn (x:=.int _ _) G G ZM G (Zs G G (YG G (Zz G (Qu (v:=.s (.int _ _)) G G G G G (V8 (ys:=[_,_]) G G) .here (Yc (Yf (Zs G G (Zj G (Yc (YO (Ze (Yr (r:=.bool true) G G G (Yc (Ye (ZA G (Yh (Ye (Yk (Ze ?_)))))))))))))))))))))))))))));refine Zj G (Tw (a:=.str _) G G G (by omega) G (Zj G (Yq (v:=.s _) G (Yc (Ye (Ye (Yg (Zl G (YG G (Zz G (Yn (x:=.int _ _) G G ZM G (Zl G (YG G (Zy G (Yn (x:=.str _) G G ZM G (Xe G (Zr G (Zk G (Ys (t:=27) G (fun h27=>?_) (fun h27=>?_)))))))))))))))))))) <;> simp only[NM]at h27
 ·refine ZF G (ZE G (Zq G (Yc (ZA G (Ze (Yq G (Yq G (Yc (Yi (⟨_,YH (v:=.s (.int _ _)) G (ZK G),?_⟩))))))))));rw[Ka (p:=p) ⟨by omega,by omega⟩ (fun hh=>by omega)];exact⟨G,ZM⟩
 refine Yb G (Yq (v:=.s _) G (Yb G (Zl G (Yb G (YG G (Yb G (Zy G (Yb G (Yn (x:=.str _) G G ZM G (Yb G (Zl G (Yb G (YG G (Yb G (Zz G (Yb G (Yn (x:=.int _ _) G G ZM G (Yb G (XP G G (by omega) (Yb G (Yt G (qm (XU s (p+1))) G G G (Yb G (Zr G (Zq G (Yc (Yj G (fun h40=>?_) (fun h40=>?_))))))))))))))))))))))))))) <;> simp only[NM]at h40
 ·refine Ze (Yq G (Yq G (Yc (Yi (⟨_,YH (v:=.s (.int _ _)) G (ZK G),?_⟩)))));rw[Ka (p:=p) ⟨by omega,by omega⟩ (fun hh=>by omega)];exact⟨G,ZM⟩
 refine Yh (Ye (Ye (Yg (Zl G (YG G (Zy G (Yn (x:=.str _) G G ZM G (Zl G (YG G (Zz G (Yn (x:=.int _ _) G G ZM G (Zj G (Zt G G (Zl G (YG G (Zz G (Yn (x:=.int _ _) G G ZM G (Zs G G (Da G G G (by omega) (Yt G (E4 _) G G G (Zo G (YD (v:=.s (.int _ _)) G G (YD (v:=.s (.bool _)) G G (Zj G (Zk G (Zf (Zj G (Yr (r:=.bool true) G G G (Zk G ?_)))))))))))))))))))))))))))));refine Yb G ?_;have hnm:=qJ (s:=s) (p:=p) (by omega) (by omega) (by omega) (a:=(p:Int)+1-(0+1)) (b:=(p:Int)+1+1) (by omega) (by omega);refine Zj G (Yb G (Zj G (Yb G (Zr G (Zq G (Yc (Yj G (fun h67=>?_) (fun h67=>?_)))))))) <;> simp only[NM]at h67
 ·refine Ze (Yq G (Yq G (Yc (Yi (⟨_,YH (v:=.s (.int _ _)) G (ZK G),?_⟩)))));rw[Ka (p:=p) ⟨by omega,by omega⟩ (fun hh=>by omega)];exact⟨G,ZM⟩
 refine Yh (Yf (Zl G (YG G (Zz G (Yn (x:=.int _ _) G G ZM G (Zs G G (YG G (Zz G (Qu (v:=.s (.int _ _)) G G G G G (V8 (ys:=[_,_]) G G) .here (Yc (Yf (Zs G G (Zj G (Yc (YO (Ze (Yr (r:=.bool false) G G G (Yc (Ye (ZB G (Y0 (Xb (Ye (Yg (Zl G (YG G (Zy G (Yn (x:=.str _) G G ZM G (Zl G ?_)))))))))))))))))))))))))))));refine YG G (Zz G (Yn (x:=.int _ _) G G ZM G (Zt G G (Zl G (YG G (Zz G (Yn (x:=.int _ _) G G ZM G (Da G G G (by omega) (Yt G (E4 _) G G G (Zo G (YD (v:=.s (.int _ _)) G G (YD (v:=.s (.bool _)) G G (Zj G (Zk G (Zf ?_)))))))))))))));have hnm:=qJ (s:=s) (p:=p) (by omega) (by omega) (by omega) (a:=(p:Int)+1+1-2) (b:=(p:Int)+1+1) (by omega) (by omega);refine Zj G (Zj G (Yq G (Yc (Yi (⟨_,YH (v:=.s (.int _ _)) G (ZK G),?_⟩)))));rw[Kg (p:=p) ⟨by omega,by omega⟩ ⟨by omega,by omega,by omega⟩,<-hnm];exact⟨G,ZM⟩
def kN{s:ByteArray}{no x:Int}{p q:Nat}(h:sqR s no p=(x,false,q)):x=0:=by
 unfold sqR at h;split at h
 ·split at h
  ·simp at h
  simp only[Zcn,true_and]at h;exact h.1.symm
 simp only[Zcn,true_and]at h;exact h.1.symm
def uZ{s:ByteArray}{no x:Int}{p q:Nat}{b:Bool}(h:sqR s no p=(x,b,q)):0<=x/\x<64:=by
 unfold sqR at h;split at h
 ·rename_i h1;split at h
  ·rename_i h2;simp only[Zcn]at h;obtain⟨rfl,_⟩:=h;obtain⟨d1,d2,d3⟩:=JT h1.2;obtain⟨e1,e2,e3⟩:=JK h2.2.1;unfold sqN;omega
  simp only[Zcn]at h;omega
 simp only[Zcn]at h;omega
def mvF(m:Mv):Nat->Int:=fun i=>if i=0 then m.1 else if i=1 then m.2.1 else if i=2 then m.2.2 else 0
def D7{X:Nat->Int}{m:Mv}(h0:X 0=m.1)(h1:X 1=m.2.1)(h2:X 2=m.2.2)(h3:∀ i,3<=i->X i=0):X=mvF m:=by
 funext i;unfold mvF;by_cases e0:i=0
 ·rw[ZcA e0,e0,h0]
 rw[Zcz e0];by_cases e1:i=1
 ·rw[ZcA e1,e1,h1]
 rw[Zcz e1];by_cases e2:i=2
 ·rw[ZcA e2,e2,h2]
 rw[Zcz e2];exact h3 i (by omega)
def Zbf(s:ByteArray)(p:Nat)(hp:p<=s.size)(hs:s.size<=4611686018427387904):RB AM 44 [.ptr 0 0 2] [.sc .var 2 (lc [.str s,.int .i64 p])] (.tup [.agg 3 (ia (mvF (mvR s p).1)),.s (.bool (mvR s p).2.1)]) [.sc .var 2 (lc [.str s,.int .i64 (mvR s p).2.2])]:=by
 refine V4 (YL (a:=a44) G G (YI _) (ZQ G) (m:=1) G (Ze (Yy (Yq G (Yc (Ye (Ze ?_)))))));rcases hA:sqR s (-1) p with⟨x,b,q⟩
 have h1:=xx s (-1) p hp hs;rw[hA]at h1;simp only at h1;have hq:=xv (no:=(-1)) (s:=s) (p:=p) hp;rw[hA]at hq;simp only at hq;have hx:=uZ hA;refine Zl G (V7 G (h1) G G G (.there .here) (Zo G (YD (v:=.s (.int _ _)) G G (YD (v:=.s (.bool _)) G G (Zy G (YA G G G G .here (Zk G (Zf (Zk G (Yv (r:=.bool _) G G (Yc (Yj G (fun h12=>?_) (fun h12=>?_))))))))))))) <;> simp only[NM]at h12
 ·refine Ze (Yo G G ZM (Yz G G G G .here (Yq G (Yc (Yi (⟨_,XM G G ZM (ZK G),?_⟩))))));subst h12;obtain rfl:=kN hA;rw[KL hA];exact⟨congrArg (fun X=>V.tup [.agg 3 (ia X),.s (.bool false)]) (D7 G G G (fun i hi=>by simp only[Wb (show i<0\/0+3<=i by omega),XF (show i≠0 by omega),XF (show i≠1 by omega),XF (show i≠2 by omega)])),ZN⟩
 refine Yh (Ye (Ze ?_));subst h12;rcases hB:sqR s x q with⟨y,b2,q2⟩
 have h2:=xx s x q hq.2 hs;rw[hB]at h2;simp only at h2;have hq2:=xv (no:=x) (s:=s) (p:=q) hq.2;rw[hB]at hq2;simp only at hq2;have hy:=uZ hB;refine Zl G (Zy G (Ym (x:=x) G G ZM (G) (V7 G (h2) G G G (.there .here) (Zo G (YD (v:=.s (.int _ _)) G G (YD (v:=.s (.bool _)) G G (Zz G (YA G G G G .here (Zk G (Zf (Zk G (Yv (r:=.bool _) G G (Yc (Yj G (fun h23=>?_) (fun h23=>?_))))))))))))))) <;> simp only[NM]at h23
 ·refine Ze (Yo G G ZM (Yz G G G G .here (Yq G (Yc (Yi (⟨_,XM G G ZM (ZK G),?_⟩))))));subst h23;obtain rfl:=kN hB;rw[Kj hA hB];exact⟨congrArg (fun X=>V.tup [.agg 3 (ia X),.s (.bool false)]) (D7 G G G (fun i hi=>by simp only[Wb (show i<0\/0+3<=i by omega),XF (show i≠0 by omega),XF (show i≠1 by omega),XF (show i≠2 by omega)])),ZN⟩
 refine Yh (Ye (Ye (Yg ?_)));subst h23;refine Zl G (YG G (Zz G (Yn (x:=.int _ _) G G ZN G (Zl G (YG G (Zy G (Yn (x:=.str _) G G ZN G (Xe G (Zr G (Yc (Yj G (fun h34=>?_) (fun h34=>?_)))))))))))) <;> simp only[NM]at h34
 ·refine Ye (Yg (Zl G (YG G (Zy G (Yn (x:=.str _) G G ZN G (Zl G (YG G (Zz G (Yn (x:=.int _ _) G G ZN G (XP G G (by omega) (Yt G (Zbn (XU s q2)) G G G (Zj G (Zf (Zj G (Zr G (Yc (Yj G (fun h46=>?_) (fun h46=>?_)))))))))))))))))) <;> simp only[NM]at h46
  ·refine Ze (Zj G ?_);obtain⟨hk1,hk2,hk3⟩:=yM (c:=YM s q2) (by omega);refine Zs G G (Yd (o':=2) G G G (YA G G G G .here (Yc (Yf (Zl G (YG G (Zz G (Yn (x:=.int _ _) G G ZN G (Zs G G (YG G (Zz G (Qu (v:=.s (.int _ _)) G G G G G (V8 (ys:=[_,_]) G G) (.there .here) (Zf (Yo G G ZM (Yz G G G G .here (Yq G (Yc (Yi (⟨_,XM G G ZM (ZK G),?_⟩)))))))))))))))))));rw[Rm hA hB ⟨by omega,hk2⟩,hk1];exact⟨congrArg (fun X=>V.tup [.agg 3 (ia X),.s (.bool true)]) (D7 G G G (fun i hi=>by simp only[Wb (show i<0\/0+3<=i by omega),XF (show i≠0 by omega),XF (show i≠1 by omega),XF (show i≠2 by omega)])),ZN⟩
  refine Yh (Ze (Yo G G ZM (Yz G G G G .here (Yq G (Yc (Yi (⟨_,XM G G ZM (ZK G),?_⟩)))))));rw[Kk hA hB fun hh=>hh.2 (wL (by omega))];exact⟨congrArg (fun X=>V.tup [.agg 3 (ia X),.s (.bool true)]) (D7 G G G (fun i hi=>by simp only[Wb (show i<0\/0+3<=i by omega),XF (show i≠0 by omega),XF (show i≠1 by omega),XF (show i≠2 by omega)])),ZN⟩
 refine Yh (Ze (Yo G G ZM (Yz G G G G .here (Yq G (Yc (Yi (⟨_,XM G G ZM (ZK G),?_⟩)))))));rw[Kk hA hB fun hh=>by omega];exact⟨congrArg (fun X=>V.tup [.agg 3 (ia X),.s (.bool true)]) (D7 G G G (fun i hi=>by simp only[Wb (show i<0\/0+3<=i by omega),XF (show i≠0 by omega),XF (show i≠1 by omega),XF (show i≠2 by omega)])),ZN⟩
def jK{a b:Int}(h:b<a):Wc .gtr (.int .i64 a) (.int .i64 b)=some (.bool true):=by
 show(if IntKind.i64=IntKind.i64 then some (S.bool (decide (b<a))) else none)=_;rw[ZcA rfl,Zcl h]
def wo{a b:Int}(h:a<=b):Wc .gtr (.int .i64 a) (.int .i64 b)=some (.bool false):=by
 show(if IntKind.i64=IntKind.i64 then some (S.bool (decide (b<a))) else none)=_;rw[ZcA rfl,Zci (by omega)]
def oE:Wc .neq (.str ⟨#[]⟩) (.str ⟨#[]⟩)=some (.bool false):=by
 show some (S.bool (!((⟨#[]⟩:ByteArray).toList==(⟨#[]⟩:ByteArray).toList)))=_;rw[beq_self_eq_true];rfl
def Zbc{s:ByteArray}(h:s.size≠0):Wc .neq (.str s) (.str ⟨#[]⟩)=some (.bool true):=by
 show some (S.bool (!(s.toList==(⟨#[]⟩:ByteArray).toList)))=_;have:(s.toList==(⟨#[]⟩:ByteArray).toList)=false:=beq_eq_false_iff_ne.2 fun e=>h (by
  rw[ByteArray.toList_eq,ByteArray.toList_eq]at e;have:=congrArg List.length e;rw[Zb0]at this;exact this)
 rw[this];rfl
def ze{l:List Mv}(h:8192<l.length):yS l=([],0,3):=ZcA h
def wU{l:List Mv}(h:l.length<=8192):yS l=(l,0,0):=Zcz (by omega)
def UA(l:List Mv)(m:Mv):YV l++[m.1,m.2.1,m.2.2]=YV (l++[m]):=(RU l [m]).symm
def qe{s:ByteArray}(h:65536<s.size):Wi s=([],0,3):=ZcA h
def w7{s:ByteArray}(h:s.size=0):Wi s=([],0,0):=by unfold Wi;rw[Zcz (by omega),ZcA h]
def qw{s:ByteArray}(h:s.size≠0)(h2:s.size<=65536):Wi s=US s (s.size+1) 0 []:=by unfold Wi;rw[Zcz (by omega),Zcz h]
def ZaR{s:ByteArray}{p q:Nat}{m:Mv}(h:mvR s p=(m,true,q)):p+4<=q:=by
 have two:∀ {no x:Int} {p q:Nat},sqR s no p=(x,true,q)->q=p+2:=fun {no x p q} h=>by
  unfold sqR at h;split at h
  ·split at h
   ·simp only[Zcn,true_and]at h;exact h.2.symm
   simp at h
  simp at h
 rcases ha:sqR s (-1) p with⟨x,b,q1⟩
 cases b with
 |false=>rw[KL ha]at h;simp at h
 |true=>
  rcases ht:sqR s x q1 with⟨y,b,q2⟩
  have e1:=two ha
  cases b with
  |false=>rw[Kj ha ht]at h;simp at h
  |true=>
   have e2:=two ht;by_cases hk:q2<s.size/\WS (YM s q2)≠0
   ·rw[Rm ha ht hk]at h;simp only[Zcn,true_and]at h;omega
   rw[Kk ha ht hk]at h;simp only[Zcn,true_and]at h;omega
def s7(s:ByteArray)(h:65536<s.size):RtT AM 17 3 [.s (.str s)] (YV (Wi s).1) (.int .i64 (Wi s).2.1) (.int .i64 (Wi s).2.2):=by
 rw[qe h];refine D3 (YL (a:=a17) G G (YI _) (ZQ G) (m:=0) G (Ze (Yq G (Yq G (Yq G (Yc (Ye (Ze (Yq (v:=.s _) G (Xe G (Yr G G (jK (by omega)) (Yc (ZA G (Ze (Yq G (Yq G (Yq G (Yc (Yi (⟨_,YH (v:=.snil) G (YH (v:=.s (.int _ _)) G (ZL G)),?_⟩))))))))))))))))))));exact⟨.snil,[],G,.nil G,fun _ h=>by cases h⟩
def ss(s:ByteArray)(h:s=⟨#[]⟩):RtT AM 17 3 [.s (.str s)] (YV (Wi s).1) (.int .i64 (Wi s).2.1) (.int .i64 (Wi s).2.2):=by
 subst h;rw[w7 rfl];refine D3 ?_;have h:(⟨#[]⟩:ByteArray).size=0:=rfl;refine YL (a:=a17) G G (YI _) (ZQ G) (m:=0) G (Ze (Yq G (Yq G (Yq G (Yc (Ye (Ze (Yq (v:=.s _) G (Xe G (Yr G G (wo (by rw[h];decide)) (Yc (ZB G (Yh (Ze (Yq (v:=.s _) G (Kh G G (.part (v:=.s _) (ys:=[_,_]) G G G G (.part (v:=.s (.int _ _)) (ys:=[_,_]) G G G G .nil)) (YC G (Zl G (Yc (Ye (Yk (YO (Ye (Ze (Yq (v:=.s _) G (Yr G G oE (Yc (ZB G (Y0 ?_)))))))))))))))))))))))))))));refine Xb (Ye (Ze (Yq (v:=.snil) G (tI G (Yr (r:=.bool false) G G G (Yc (ZB G (Yh (Ze (Yq (v:=.snil) G (Yq (v:=.snil) G (Yq G (Yq G (Yc (Yi (⟨_,YH (v:=.snil) G (YH (v:=.s (.int _ _)) G (ZL G)),?_⟩))))))))))))))));exact⟨.snil,[],G,.nil G,fun _ h=>by cases h⟩
def tV(s:ByteArray)(h0:s.size≠0)(h1:s.size<=65536):RtT AM 17 3 [.s (.str s)] (YV (Wi s).1) (.int .i64 (Wi s).2.1) (.int .i64 (Wi s).2.2):=by
 refine D3 (YL (a:=a17) G G (YI _) (ZQ G) (m:=0) G (Ze (Yq G (Yq G (Yq G (Yc (Ye (Ze (Yq (v:=.s _) G (Xe G (Yr G G (wo (by omega)) (Yc (ZB G (Yh (Ze (Yq (v:=.s _) G (Kh G G (.part (v:=.s _) (ys:=[_,_]) G G G G (.part (v:=.s (.int _ _)) (ys:=[_,_]) G G G G .nil)) (YC G (Zl G (Yc (Ye (Yk (Xo (.refl _) (Xu (fun m f _ L=>∃ (k p:Nat) (l:List Mv) (vL:V) (ownL:HA),(m=k)/\(s.size<p+k)/\(p<=s.size)/\(US s k p l=Wi s)/\(5*l.length<=p)/\(Rw 3 (YV l) vL ownL)/\(f 0=.s (.str s))/\(f 2=vL)/\(f 5=.ptr 0 0 2)/\(L=(ownL++[(0,.sc .var 2 (lc [.str s,.int .i64 p]))]))) (fun m f nb L hI=>?_) (s.size+1) (⟨s.size+1,0,[],.snil,[],G,by omega,by omega,(qw h0 h1).symm,Zct _,Rw.nil rfl,rfl,rfl,rfl,rfl⟩)))))))))))))))))))))))));obtain⟨k,p,l,vL,ownL,hk0,hk,hp,heq,hl,hrL,k0,k2,k5,rfl⟩:=hI;refine Za 0 k0 (Za 2 k2 (Za 5 k5 (Ye (Ze (Yq (v:=.s _) G (Yr G G (Zbc h0) (Yc (ZA G (Yh (Yk (Ze ?_)))))))))));obtain⟨k,rfl⟩:∃ j,k=j+1:=⟨k-1,by omega⟩
 rcases hm:mvR s p with⟨m,b,q⟩
 have hmv:=Zbf s p hp (by omega);rw[hm]at hmv;simp only at hmv;have hq:=ZcG hp;rw[hm]at hq;simp only at hq;refine Zl G (V7 G (hmv) G G G (At.appR _ .here) (Zo G (YD (v:=.agg _ _) G G (YD (v:=.s (.bool _)) G G (Yy (Yz G G G G .here (Zk G (Yc (Ye (Ze (Zk G (Yv (r:=.bool _) G G (Yc (Yj G (fun h22=>?_) (fun h22=>?_))))))))))))))) <;> simp only[NM]at h22
 ·refine Ye (Yg (Zl G (YG G (Zz G (Yn (x:=.int _ _) G G (.tail _ (ZbM _ ZM)) G (Yq G (Zj G (Yq G (Yc (Yi (⟨_,YH (v:=.snil) G (YH (v:=.s (.int _ _)) G (ZL G)),?_⟩)))))))))));subst h22;have e:=Ub (k:=k) (l:=l) hm;rw[heq]at e;rw[e];exact⟨.snil,[],G,.nil G,fun _ h=>by cases h⟩
 refine Yh (Ze ?_);subst h22;have hq4:=ZaR hm;refine Yq (v:=vL) rfl (Yo rfl rfl ZM (Wp rfl (.agg rfl .nil) (XZ (c:=[m.1,m.2.1,m.2.2]) rfl hrL rfl ZM (.there (.there .here)) (by decide) (by decide) rfl ((fun i hi=>by match i,hi with|0,_=>rfl|1,_=>rfl|2,_=>rfl)) (by rw[YQ];omega) (fun v1 own1 n1 hr1=>?_))));rw[UA]at hr1;refine Yq (v:=v1) G (Yc (Ye (Ze (Zl G (YG G (Zz G (Yn (x:=.int _ _) G G (ZbM _ ZO) G (Yq (v:=.s _) G (Xe G (Zr G (Yc (Yj G (fun h37=>?_) (fun h37=>?_))))))))))))) <;> simp only[NM]at h37
 ·refine Y0 (rP G (Xb (Ye (Ze (Yq (v:=v1) G (Xk G hr1.rx (by decide) (YQ _) (Zr G (Yc (Yj G (fun h58=>?_) (fun h58=>?_)))))))))) <;> simp only[NM]at h58
  ·refine Ze (Yq G (Yq G (Yq G (Yc (Yi (⟨_,YH (v:=.snil) G (YH (v:=.s (.int _ _)) G (ZL G)),?_⟩))))));have e:=U7 (k:=k) (l:=l) hm (by omega);rw[heq]at e;rw[e];rw[ze (by omega)];exact⟨.snil,[],G,.nil G,fun _ h=>by cases h⟩
  refine Yh (Ze (Yq (v:=v1) G (Yq (v:=v1) G (Yq G (Yq G (Yc (Yi (⟨_,YH (v:=v1) G (YH (v:=.s (.int _ _)) G (ZL G)),?_⟩))))))));have e:=U7 (k:=k) (l:=l) hm (by omega);rw[heq]at e;rw[e];rw[wU (by omega)];exact⟨_,_,G,hr1,(fun _ h=>(ZbV _ h))⟩
 refine Yh (Ye (Ze (Yq (v:=.s _) G (Zl G (YG G (Zz G (Yn (x:=.int _ _) G G (ZbM _ ZO) G (XP G G (by omega) (Zr G (Yc (Yj G (fun h44=>?_) (fun h44=>?_)))))))))))) <;> simp only[NM]at h44
 ·refine Ye (Yg (Zl G (YG G (Zz G (Yn (x:=.int _ _) G G (ZbM _ ZO) G (Yq G (Zj G (Yq G (Yc (Yi (⟨_,YH (v:=.snil) G (YH (v:=.s (.int _ _)) G (ZL G)),?_⟩)))))))))));have e:=Ra (k:=k) (l:=l) hm (by omega) (fun hb=>h44 hb);rw[heq]at e;rw[e];exact⟨.snil,[],G,.nil G,fun _ h=>by cases h⟩
 refine Yh (Yf (Zl G (YG G (Zz G (Yn (x:=.int _ _) G G (ZbM _ ZO) G (Zs G G (YG G (Zz G (Qu (v:=.s (.int _ _)) G G G G G (V8 (ys:=[_,_]) G G) (At.appR _ (.there (.there .here))) (Yc ?_))))))))));rw[Tv hm (by omega) h44]at heq;refine⟨k,_,by omega,(ZbY (.refl _) (.cons _ (.cons _ (.refl _)))),k,q+1,l++[m],_,_,rfl,by omega,by omega,heq,by rw[Zb2];simp only[Zcd,List.length_nil];omega,hr1,rfl,rfl,rfl,rfl⟩
def ox(s:ByteArray):RtT AM 17 3 [.s (.str s)] (YV (Wi s).1) (.int .i64 (Wi s).2.1) (.int .i64 (Wi s).2.2):=by
 by_cases h:65536<s.size
 ·exact s7 s h
 by_cases h0:s.size=0
 ·exact ss s (ByteArray.ext (Array.eq_empty_of_size_eq_zero h0))
 exact tV s h0 (by omega)
def inB(c:Int):List UInt8->Int
 |[]=>-1
 |y::l=>if (y.toNat:Int)=c then 0 else if inB c l=-1 then -1 else inB c l+1
def ph{c:Int}:∀ {l:List UInt8},(∀ i:Nat,i<l.length->((l.getD i 0).toNat:Int)≠c)->inB c l=-1
 |[],_=>rfl
 |y::l,h=>by
  unfold inB;have h0:=h 0 (by simp);have ih:=ph (c:=c) (l:=l) fun i hi=>by have:=h (i+1) (by simpa using hi);simpa using this
  rw[Zcz (fun e=>h0 (by simpa using e)),ZcA ih]
def oK{c:Int}:∀ {l:List UInt8} {i:Nat},i<l.length->((l.getD i 0).toNat:Int)=c->(∀ j:Nat,j<i->((l.getD j 0).toNat:Int)≠c)->inB c l=i
 |[],i,h,_,_=>by simp at h
 |y::l,0,_,h,_=>by
  unfold inB;rw[ZcA (by simpa using h)];rfl
 |y::l,i+1,hi,h,hn=>by
  unfold inB;have h0:=hn 0 (by omega);have ih:=oK (c:=c) (l:=l) (i:=i) (by simpa using hi) (by simpa using h) fun j hj=>by have:=hn (j+1) (by omega);simpa using this
  rw[Zcz (fun e=>h0 (by simpa using e)),Zcz (by omega),ih];omega
def Eu(s:ByteArray)(i:Nat):YM s i=(((s.data.toList).getD i 0).toNat:Int):=by
 unfold YM;rw[ZbD,ZbS,ZbC]
def in_no{c:Int}{s:ByteArray}{i:Nat}(hi:(s.size:Int)<=i)(hn:∀ j:Nat,j<i->YM s j≠c):inB c s.data.toList=-1:=ph fun j hj=>by
 rw[Zb0]at hj;rw[<-Eu];exact hn j (by have:j<s.size:=hj;omega)
def in_at{c:Int}{s:ByteArray}{i:Nat}(hi:(i:Int)<s.size)(h:YM s i=c)(hn:∀ j:Nat,j<i->YM s j≠c):inB c s.data.toList=i :=
 oK (by rw[Zb0];exact(show i<s.size by omega)) (by rw[<-Eu];exact h) fun j hj=>by rw[<-Eu];exact hn j hj
def wx(c:Int)(s:ByteArray)(hs:s.size<=1000):WR AM 80 [.s (.int .u8 c),.s (.str s)] [] (fun v _ _=>v=.s (.int .i64 (inB c s.data.toList))):=by
 refine YL (a:=a80) G G (YI _) (ZQ G) (m:=0) G (Ze (Yq G (Yc (Ye (Ze (Yq G (Yc (Yk (Xo (L':=[]) .slnil (Xu (fun m f _ L=>∃ (i:Nat),(i<=s.size)/\(m=s.size-i)/\(∀ j:Nat,j<i->YM s j≠c)/\(f 0=.s (.int .u8 c))/\(f 1=.s (.str s))/\(f 5=.s (.int .i64 i))/\(L=[])) (fun m f nb L hI=>?_) (s.size) ⟨0,by omega,rfl,fun j h=>by omega,rfl,rfl,rfl,rfl⟩))))))))));obtain⟨i,hi,hm,hn,k0,k1,k5,rfl⟩:=hI;refine Za 0 k0 (Za 1 k1 (Za 5 k5 (Ye (Ze (Zj G (Yq (v:=.s _) G (Xe G (Zr G (Yc (Yj G (fun h1=>?_) (fun h1=>?_))))))))))) <;> simp only[NM]at h1
 ·refine Yh (Ye (Yk (Ze (Yq (v:=.s _) G (Zj G (XP G G (by omega) (Zj G (Zr G (Yc (Yj G (fun h16=>?_) (fun h16=>?_))))))))))) <;> simp only[NM]at h16
  ·refine Ze (Zj G (Zj G (Yc (Yi (⟨_,ZL G,?_⟩)))));exact congrArg (fun x=>V.s (S.int .i64 x)) (in_at (by omega) h16 hn).symm
  refine Yh (Yf (Zj G (Zs G G (Zj G (Yc (⟨s.size-(i+1),_,by omega,.slnil,i+1,by omega,rfl,?_,rfl,rfl,rfl,rfl⟩))))));intro j hj;by_cases e:j=i
  ·subst e;exact h16
  exact hn j (by omega)
 refine Y0 (Xb (Ze (Yq G (Yc (Yi (⟨_,ZL G,?_⟩))))));exact congrArg (fun x=>V.s (S.int .i64 x)) (in_no (by omega) hn).symm
theorem Za1:∀ n:Fin 256,inB (n.val:Int) (⟨#[97,98,99,100,101,102,103,104]⟩:ByteArray).data.toList=Xg (n.val:Int):=by decide +kernel
def u7{c:Int}(h:0<=c/\c<256):RF AM 80 [.s (.int .u8 c),.s (.str ⟨#[97,98,99,100,101,102,103,104]⟩)] (.s (.int .i64 (Xg c))):=by
 have h1:=YP (wx c ⟨#[97,98,99,100,101,102,103,104]⟩ (by decide));have h2:=Za1 ⟨c.toNat,by omega⟩;simp only[show((c.toNat:Nat):Int)=c by omega]at h2;rw[h2]at h1;exact h1
theorem gM:∀ n:Fin 256,inB (n.val:Int) (⟨#[49,50,51,52,53,54,55,56]⟩:ByteArray).data.toList=Xj (n.val:Int):=by decide +kernel
def tL{c:Int}(h:0<=c/\c<256):RF AM 80 [.s (.int .u8 c),.s (.str ⟨#[49,50,51,52,53,54,55,56]⟩)] (.s (.int .i64 (Xj c))):=by
 have h1:=YP (wx c ⟨#[49,50,51,52,53,54,55,56]⟩ (by decide));have h2:=gM ⟨c.toNat,by omega⟩;simp only[show((c.toNat:Nat):Int)=c by omega]at h2;rw[h2]at h1;exact h1
theorem gT:∀ n:Fin 256,inB (n.val:Int) (⟨#[110,98,114,113]⟩:ByteArray).data.toList=RJ (n.val:Int):=by decide +kernel
def zJ{c:Int}(h:0<=c/\c<256):RF AM 80 [.s (.int .u8 c),.s (.str ⟨#[110,98,114,113]⟩)] (.s (.int .i64 (RJ c))):=by
 have h1:=YP (wx c ⟨#[110,98,114,113]⟩ (by decide));have h2:=gT ⟨c.toNat,by omega⟩;simp only[show((c.toNat:Nat):Int)=c by omega]at h2;rw[h2]at h1;exact h1
def yU(M:Nat->Int):WR AM 42 [.agg 3 (ia M)] [] (fun v _ _=>v=.s (.bool (Uk (M 0) (M 1) (M 2)))):=by
 refine YL (a:=a42) G G (YI _) (ZQ G) (m:=0) G (Ze (YC G (Yq G (Zf (Zy G (Ym (x:=M 0) G G ZM (G) (Yt G (YP (wG _)) G G G (Zk G (Ys (t:=6) G (fun h2=>?_) (fun h2=>?_))))))))))
 ·refine Yb G (Zz G (Yb G (Ym (x:=M 1) G G ZM (G) (Yb G (Yt G (YP (wG _)) G G G (Zq G (Zk G (Ys (t:=11) G (fun h3=>?_) (fun h3=>?_)))))))))
  ·refine Yb G (Zy G (Yb G (Ym (x:=M 0) G G ZM (G) (Yb G (Zz G (Yb G (Ym (x:=M 1) G G ZM (G) (Yb G (Zr G (Zq G (Zk G (Ys (t:=18) G (fun h4=>?_) (fun h4=>?_))))))))))))) <;> simp only[NM]at h4
   ·refine Yb G (Yd (o':=2) G G G (Yb G (Ym (x:=M 2) G G ZM (G) (Yb G (Zr G (Yb G (Zk G (Ys (t:=22) G (fun h5=>?_) (fun h5=>?_))))))))) <;> simp only[NM]at h5
    ·refine ZE G (YJ G (YJ G (YJ G (ZC G (Yb G (Zq G (Zq G (Zk G (Zg G (ZI ?_))))))))));unfold Uk;(simp_all;done)
    refine Yb G (Yd (o':=2) G G G (Yb G (Ym (x:=M 2) G G ZM (G) (Yb G (Zr G (Yb G (Zk G (Ys (t:=26) G (fun h6=>?_) (fun h6=>?_))))))))) <;> simp only[NM]at h6
    ·refine Yb G (Yd (o':=2) G G G (Yb G (Ym (x:=M 2) G G ZM (G) (Yb G (Zr G (Yb G (Zq G (Yb G (Zq G (Zq G (Zk G (Zg G (ZI ?_)))))))))))));unfold Uk;(simp_all;rw[Zci (show ¬M 2=1 by omega),Zcl (show 0<=M 2 by omega)];simp)
    refine ZD G (ZC G (Yb G (Zq G (Yb G (Zq G (Zq G (Zk G (Zg G (ZI ?_)))))))));unfold Uk;(simp_all;omega)
   refine ZE G (YJ G (YJ G (YJ G (YJ G (YJ G (YJ G (YJ G (YJ G (ZC G (Zq G (Zk G (Zg G (ZI ?_)))))))))))));unfold Uk;(simp_all;done)
  refine Ya G G (ZE G (Zq G (Zk G (ZE G (YJ G (YJ G (YJ G (YJ G (YJ G (YJ G (YJ G (YJ G (ZC G (Zq G (Zk G (Zg G (ZI ?_)))))))))))))))));unfold Uk;(simp_all;done)
 refine Ya G G (ZD G (Zq G (Zk G (ZE G (ZC G (Zq G (Zk G (ZE G (YJ G (YJ G (YJ G (YJ G (YJ G (YJ G (YJ G (YJ G (ZC G (Zq G (Zk G (Zg G (ZI ?_)))))))))))))))))))));unfold Uk;(simp_all;done)
end Go.Proofs.YtlkighkfkdpncaaGreatDoor
