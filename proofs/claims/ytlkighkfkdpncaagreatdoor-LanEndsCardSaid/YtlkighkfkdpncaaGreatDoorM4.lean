/- Texts of this seat,joined. -/
import Derived.Shelf.Strings.Builder1
import Derived.Shelf.Strings.Builder2
import Derived.Shelf.Strings.OnBuilder
import Derived.Shelf.Small.Strs
import Derived.Shelf.Strings.Search1
import Derived.Test.YtlkighkfkdpncaaGreatDoorProg
import Derived.LoopN
import Derived.Test.YtlkighkfkdpncaaGreatDoorTie
import Derived.Lay
import Derived.LaidMore
import Derived.OpenShut
import Derived.Stop.Joined
import Derived.ProofKit
import Derived.SizedLaws
import Derived.ChangeMaps5
import Derived.Test.YtlkighkfkdpncaaGreatDoorM3
set_option linter.defProp false
set_option linter.unusedSimpArgs false
set_option linter.unusedVariables false
namespace Go.Proofs.YtlkighkfkdpncaaGreatDoor
open Go Go.Am
def grow_rt(n:Int)(h:0<n/\n<=1000000):RtR AM 167 2 [.snil,.s (.int .i64 n)] [] [] []:=by
 refine .inr ⟨0,0,fun _=>0,G,fun i h=>absurd (show i<0 from h) (by omega),0,[.sc .grow 0 (ia fun _=>0)],?_,Zct _,G,trivial⟩;rw[WI (pf:=Ty) rfl _ _ rfl];simp only[Ty,ZcA h];rfl
def Zaj{md m1 m2:Md}{c c1 c2:Cp}(P Q:Nat->Int)(la lb:List Int)(ha:la.length=8)(hb:lb.length=8)(hP:∀ i,i<la.length->P i=la.getD i 0)(hQ:∀ i,i<lb.length->Q i=lb.getD i 0):WR AM 141 [.sl 0 0 2 1 c] [.vs md [.sl 1 0 4 2 c1,.sl 2 0 4 2 c2],.sc m1 (4*2) (ia P),.sc m2 (4*2) (ia Q)] (fun v _ L'=>∃ own L0,Rw 2 (la++lb) v own/\Dr own L' L0/\(0,Blk.vs md [.sl 1 0 4 2 c1,.sl 2 0 4 2 c2])∈L0/\(1,Blk.sc m1 (4*2) (ia P))∈L0/\(2,Blk.sc m2 (4*2) (ia Q))∈L0):=by
 refine YL (a:=a141) G G (YI _) (ZQ G) (m:=3) G (Ze (Yq G (Zf (Yq G (Yc (Ye (Ze (Zn G (WX G (Yq G (Yc (Yk (YO (Ze (Yr (r:=.bool true) G G G (Yc (Ye (ZA G (Yh (Ye (Yk (Ze (Dq G G (by decide) (VV (v:=.sl 1 0 4 2 c1) G G ZM G (Zn G (Zf (Zj G (Zn G (WX G ?_)))))))))))))))))))))))))))));refine Ur G G (by decide) (Zj G (Zf (Zj G (Yr (r:=.bool false) G G G (Yc (ZB G (Yh (Yf (Ur G G (by decide) (Zj G (Yc (YO (Ze (Yr (r:=.bool true) G G G (Yc (Ye (ZA G (Yh (Ye (Yk (Ze (Dq G G (by decide) (VV (v:=.sl 2 0 4 2 c2) G G ZM G (Zn G (Zf (Zj G (Zn G (WX G (Ur G G (by decide) ?_)))))))))))))))))))))))))))));refine Zj G (Zf (Zj G (Yr (r:=.bool false) G G G (Yc (ZB G (Yh (Yf (Ur G G (by decide) (Zj G (Yc (YO (Ze (Yr (r:=.bool false) G G G (Yc (Ye (ZB G (Y0 (Xb (Ze (Zj G (YE G (grow_rt _ (by decide)) G G (fun v1 own1 n1 hr1=>Yq (v:=v1) G (Yc (Ye (Ze (Zn G (WX G (Yq G (Yc ?_)))))))))))))))))))))))))))));refine Yk (YO (Ze (Yr (r:=.bool true) G G G (Yc (Ye (ZA G (Yh (Ye (Yk (Ze (Dq G G (by decide) (VV (v:=.sl 1 0 4 2 c1) G G (ZbM _ ZM) G (Zn G (Yc (Yf (Yq (v:=v1) G (Zn G (yN G hr1 G (Rx.row (l:=la) (by rw[ha]) hP) (UY (ZbM _ ZN)) .here (by decide) (by simp only[Zb2,List.length_nil,ha,hb];omega) (fun v2 own2 n2 hr2=>Yq (v:=v2) G (Yc (Yf (Ur G G (by decide) (Zj G (Yc (YO (Ze (Yr (r:=.bool true) G G G (Yc (Ye ?_)))))))))))))))))))))))))))));refine ZA G (Yh (Ye (Yk (Ze (Dq G G (by decide) (VV (v:=.sl 2 0 4 2 c2) G G (ZbM _ ZM) G (Zn G (Yc (Yf (Yq (v:=v2) G (Zn G (yN G hr2 G (Rx.row (l:=lb) (by rw[hb]) hQ) (UY (ZbM _ ZO)) .here (by decide) (by simp only[Zb2,List.length_nil,ha,hb];omega) (fun v3 own3 n3 hr3=>Yq (v:=v3) G (Yc (Yf (Ur G G (by decide) (Zj G (Yc (YO (Ze (Yr (r:=.bool false) G G G (Yc (Ye (ZB G (Y0 (Xb (Ze (Yq (v:=v3) G (Yq (v:=v3) G ?_)))))))))))))))))))))))))))));refine Yc (Yi (⟨_,YH (v:=v3) G (YW),?_⟩));refine⟨_,_,hr3,.here,?_,?_,?_⟩
 ·exact ZM
 ·exact ZN
 exact ZO
def pB{md m1 m2:Md}{c c1 c2:Cp}(P Q:Nat->Int)(la lb:List Int)(ha:la.length=8)(hb:lb.length=8)(hP:∀ i,i<la.length->P i=la.getD i 0)(hQ:∀ i,i<lb.length->Q i=lb.getD i 0):js AM 141 2 4 md m1 m2 c c1 c2 P Q (la++lb):=by
 obtain⟨v,σ',n',L',h1,h2,own,L0,hr,hd,e0,e1,e2⟩:=Zaj (md:=md) (m1:=m1) (m2:=m2) (c:=c) (c1:=c1) (c2:=c2) P Q la lb ha hb hP hQ;have hge:=hd.ge (Bs:=[.vs md [.sl 1 0 4 2 c1,.sl 2 0 4 2 c2],.sc m1 (4*2) (ia P),.sc m2 (4*2) (ia Q)]) h2 (fun p hp=>by
  rcases Zco.1 hp with rfl|hp
  ·exact e0
  rcases Zco.1 hp with rfl|hp
  ·exact e1
  rcases Zco.1 hp with rfl|hp
  ·exact e2
  cases hp)
 have hm:=fun p hp=>h2.2.mem (hd.mem p hp)
 have m0:=fun {b B} h=>(h2.2.mem (b:=b) (B:=B) (hd.sub.subset h)).2
 cases hr with
 |nil h=>have:=congrArg List.length h;rw[Zb2,ha,hb]at this;cases this
 |row hl hF=>exact⟨_,_,_,_,σ',h1,hge _ ZM,hl,hF,(hm _ ZM).2,m0 e0,m0 e1,m0 e2⟩
def uf:∃ P:Nat->Int,RF AM 137 [] (.agg 8 (ia P))/\∀ i,i<8->P i=(Wf straightL).getD i 0:=by
 obtain⟨v,σ',n',L',h1,h2,P,rfl,hP⟩:=kr;exact⟨P,⟨σ',h1⟩,hP⟩
def gV:∃ P:Nat->Int,RF AM 138 [] (.agg 8 (ia P))/\∀ i,i<8->P i=(Wf slantL).getD i 0:=by
 obtain⟨v,σ',n',L',h1,h2,P,rfl,hP⟩:=rN;exact⟨P,⟨σ',h1⟩,hP⟩
def gW:∃ P:Nat->Int,RF AM 140 [] (.agg 16 (ia P))/\∀ i,i<16->P i=(Wf jumpL).getD i 0:=by
 obtain⟨v,σ',n',L',h1,h2,P,rfl,hP⟩:=gu;exact⟨P,⟨σ',h1⟩,hP⟩
def Rk{m:Nat}{S:Nat->Int}{l:List Int}(hl:l.length=m)(h:∀ i,i<m->S i=l.getD i 0):∀ i,i<l.length->ovA (fun _=>0) 0 m S i=l.getD i 0:=fun i hi=>by
 rw[X3 (by omega),Nat.sub_zero];exact h i (by omega)
def Zan(on:Int):∀ i,i<(Wf [(-1,on),(1,on)]).length->ovA (ovA (fun _=>0) (0*2) 2 (ov (ov (fun _=>0) 0 (-1)) 1 on)) (1*2) 2 (ov (ov (fun _=>0) 0 1) 1 on) i=(Wf [(-1,on),(1,on)]).getD i 0
 |0,_=>rfl
 |1,_=>rfl
 |2,_=>rfl
 |3,_=>rfl
 |i+4,h=>absurd (show i+4<4 from h) (by omega)
section
variable{P:Nat->Int}{s:Int}(hc:P (sqI s+1)=0\/P (sqI s+1)=1)
include hc
def oV(hk:P (sqI s)=1):Wd P s=X7 s [(-1,1-2*P (sqI s+1)),(1,1-2*P (sqI s+1))]:=by
 unfold Wd Ui;rw[ZcA hc,hk];rfl
def px(hk:P (sqI s)=2):Wd P s=X7 s jumpL:=by
 unfold Wd Ui;rw[ZcA hc,hk];rfl
def pS(hk:P (sqI s)=6):Wd P s=X7 s (straightL++slantL):=by
 unfold Wd Ui;rw[ZcA hc,hk];rfl
def o0(hk:P (sqI s)=4):Wd P s=X8 P s straightL:=by
 unfold Wd Ui;rw[ZcA hc,hk];rfl
def oR(hk:P (sqI s)=3):Wd P s=X8 P s slantL:=by
 unfold Wd Ui;rw[ZcA hc,hk];rfl
def rU(hk:P (sqI s)=5):Wd P s=X8 P s (straightL++slantL):=by
 unfold Wd Ui;rw[ZcA hc,hk];rfl
def gK(h1:¬ P (sqI s)=1)(h2:¬ P (sqI s)=2)(h3:¬ P (sqI s)=3)(h4:¬ P (sqI s)=4)(h5:¬ P (sqI s)=5)(h6:¬ P (sqI s)=6):Wd P s=[]:=by
 unfold Wd Ui;rw[ZcA hc,Zcz h1,Zcz h2,Zcz h6,Zcz h4,Zcz h3,Zcz h5]
end
def Zam{P:Nat->Int}{s:Int}(hc:¬ (P (sqI s+1)=0\/P (sqI s+1)=1)):Wd P s=[]:=Zcz hc
end Go.Proofs.YtlkighkfkdpncaaGreatDoor
namespace Go.Am
open Go
def qv{A:AP}{N:Nat}{f:FE}{n:Nat}{L:HA}{K:KN}{Zp:V->KN}{l:List I}{d:Nat}{x y:O}{b o m z b' o' m' z':Nat}{c c':Cp}(hx:x.fv N f=.sl b o m z c)(hy:y.fv N f=.sl b' o' m' z' c')(k:WO A N l (upd f d (.sl n 0 2 1 (.ex 2))) (n+1) ((n,.vs .var [.sl b o m z c,.sl b' o' m' z' c'])::L) K Zp):WO A N (⟨some d,none,.h (.mksl 2 1 (.one .snil) [(0,x),(1,y)])⟩::l) f n L K Zp :=
 Xl (v:=.sl n 0 2 1 (.ex 2)) (fun σ hσ=>⟨σ++[.vs .var [.sl b o m z c,.sl b' o' m' z' c']],by
  simp only[YK,Z.row,Ws,List.map_cons,List.map_nil,Ql,Y2,hx,hy,hσ.1];rfl,hσ.new _⟩) k
end Go.Am
namespace Go.Proofs.YtlkighkfkdpncaaGreatDoor
open Go Go.Am
def wl(P:Nat->Int)(s:Int)(hs:0<=s/\s<64):RtR AM 115 1 [.agg 133 (ia P),.s (.int .i64 s)] [] (Wd P s) []:=by
 refine Qq (YL (a:=a115) G G (YI _) (ZQ G) (m:=0) G (Ze (YC G (Yq G (Zf (Zj G (Zy G (Zy G (Zw G G G (Yp G G ZM (Yy (Yz G G G G .here (Zf (Yq G (Yc (Wz (fun f n L=>(P (sqI s+1)=0\/P (sqI s+1)=1)/\(f 1=.s (.int .i64 s))/\(f 2=.ptr 0 0 133)/\(f 5=.ptr 1 0 2)/\(f 6=.s (.int .i64 (1-2*P (sqI s+1))))/\(L=[(1,.sc .var 2 (ia (ovA (fun _=>0) 0 2 (dp P (0+s.toNat*2))))),(0,.sc .var 133 (ia P))])) ?_ (fun f nb L hI=>?_)))))))))))))))))
 ·refine Ze (Zz G (Ym (x:=P (sqI s+1)) G G ZM (G) (Yc (Yk (Ze (Zr G (Zk G (Yc (Yj G (fun h1=>?_) (fun h1=>?_)))))))))) <;> simp only[NM]at h1
  ·refine Yf (Yq G (Yc ?_));exact⟨_,(.refl _),by omega,rfl,rfl,rfl,congrArg (fun x=>V.s (S.int .i64 x)) (by omega),rfl⟩
  refine Ze (Zr G (Zk G (Yc (Yj G (fun h2=>?_) (fun h2=>?_))))) <;> simp only[NM]at h2
  ·refine Yh ?_;exact⟨_,(.refl _),by omega,rfl,rfl,rfl,congrArg (fun x=>V.s (S.int .i64 x)) (by omega),rfl⟩
  refine Ze (Yq G (Yc (Yi (⟨_,YH (v:=.snil) G (YW),?_⟩))));exact⟨[],.nil (Zam (by omega)),fun _ h=>by cases h⟩
 obtain⟨hc,k1,k2,k5,k6,rfl⟩:=hI;refine Za 1 k1 (Za 2 k2 (Za 5 k5 (Za 6 k6 (Ze ?_))));obtain⟨S1,hR1,hS1⟩:=uf;obtain⟨S2,hR2,hS2⟩:=gV;refine Yt G (hR1) G G G (Yt G (hR2) G G G (Yy (Yy (Yz G G G G (.there .here) (Yz G G G G .here (Yc (Ye (Ze (Zy G (Ym (x:=P (sqI s)) G G ZO (G) (Yc (Yk (Ze (Zr G (Zk G (Yc (Yj G (fun h3=>?_) (fun h3=>?_)))))))))))))))))) <;> simp only[NM]at h3
 ·refine Ze (Zj G (Zj G (YB G (.one G (.one G .nil)) (Zj G (YB G (.one G (.one G .nil)) (Wp G (.agg G (.agg G .nil)) (UP (caps:=[]) G (wO s [(-1,1-2*P (sqI s+1)),(1,1-2*P (sqI s+1))] (YF G)) G (Rx.row (l:=Wf [(-1,1-2*P (sqI s+1)),(1,1-2*P (sqI s+1))]) G (Zan _)) (UY ZM) G G (fun v1 own1 n1 hr1=>Yq (v:=v1) G (Yc (Yi (⟨_,YH (v:=v1) G (YW),?_⟩)))))))))));exact⟨_,(oV hc (by assumption)).symm ▸ hr1,(fun _ h=>(ZbV _ h))⟩
 refine Ze (Zr G (Zk G (Yc (Yj G (fun h4=>?_) (fun h4=>?_))))) <;> simp only[NM]at h4
 ·refine Ze ?_;obtain⟨S3,hR3,hS3⟩:=gW;refine Yt G (hR3) G G G (Yy (Yz G G G G .here (Zf (Zj G (Kz G G (by decide) (UP (caps:=[]) G (wO s jumpL (YF G)) G (Rx.row (l:=Wf jumpL) G (Rk G hS3)) (UY ZM) G G (fun v2 own2 n2 hr2=>Yq (v:=v2) G (Yc (Yi (⟨_,YH (v:=v2) G (YW),?_⟩))))))))));exact⟨_,(px hc (by assumption)).symm ▸ hr2,(fun _ h=>(ZbV _ h))⟩
 refine Ze (Zr G (Zk G (Yc (Yj G (fun h5=>?_) (fun h5=>?_))))) <;> simp only[NM]at h5
 ·refine Ye (Yg (Zj G (Kz G G (by decide) (Kz G G (by decide) (qv G G (WO_cat (z:=2) (m:=4) G G (pB _ _ (Wf straightL) (Wf slantL) G G (Rk G hS1) (Rk G hS2)) ZM ZO ZN (by omega) (fun v3 own3 n3 hr3=>UP (caps:=[]) G (wO s (straightL++slantL) (YF G)) G (hr3.rx) (fun _ h=>(ZbV _ h)) G G (fun v4 own4 n4 hr4=>Yq (v:=v4) G (Yc (Yi (⟨_,YH (v:=v4) G (YW),?_⟩)))))))))));exact⟨_,(pS hc (by assumption)).symm ▸ hr4,(fun _ h=>(ZbV _ h))⟩
 refine Ze (Zr G (Zk G (Yc (Yj G (fun h6=>?_) (fun h6=>?_))))) <;> simp only[NM]at h6
 ·refine Ye (Yg (Yo G G ZP (Zj G (Kz G G (by decide) (UP (caps:=[]) G (yD P s straightL (by decide) (by decide)) G (Rx.row (l:=Wf straightL) G (Rk G hS1)) (UY ZN) G G (fun v5 own5 n5 hr5=>Yq (v:=v5) G (Yc (Yi (⟨_,YH (v:=v5) G (YW),?_⟩)))))))));exact⟨_,(o0 hc (by assumption)).symm ▸ hr5,(fun _ h=>(ZbV _ h))⟩
 refine Ze (Zr G (Zk G (Yc (Yj G (fun h7=>?_) (fun h7=>?_))))) <;> simp only[NM]at h7
 ·refine Ye (Yg (Yo G G ZP (Zj G (Kz G G (by decide) (UP (caps:=[]) G (yD P s slantL (by decide) (by decide)) G (Rx.row (l:=Wf slantL) G (Rk G hS2)) (UY ZM) G G (fun v6 own6 n6 hr6=>Yq (v:=v6) G (Yc (Yi (⟨_,YH (v:=v6) G (YW),?_⟩)))))))));exact⟨_,(oR hc (by assumption)).symm ▸ hr6,(fun _ h=>(ZbV _ h))⟩
 refine Ze (Zr G (Zk G (Yc (Yj G (fun h8=>?_) (fun h8=>?_))))) <;> simp only[NM]at h8
 ·refine Ye (Yg (Yo G G ZP (Zj G (Kz G G (by decide) (Kz G G (by decide) (qv G G (WO_catq (z:=2) (m:=4) G G (pB _ _ (Wf straightL) (Wf slantL) G G (Rk G hS1) (Rk G hS2)) ZM ZO ZN (by omega) (fun v7 own7 n7 hr7=>UP (caps:=[]) G (yD P s (straightL++slantL) (by decide) (by decide)) G (hr7.rx) (fun _ h=>(ZbV _ h)) G G (fun v8 own8 n8 hr8=>Yq (v:=v8) G (Yc (Yi (⟨_,YH (v:=v8) G (YW),?_⟩))))))))))));exact⟨_,(rU hc (by assumption)).symm ▸ hr8,(fun _ h=>(ZbV _ h))⟩
 refine Yh (Ze (Yq G (Yc (Yi (⟨_,YH (v:=.snil) G (YW),?_⟩)))));exact⟨[],.nil (gK hc (by assumption) (by assumption) (by assumption) (by assumption) (by assumption) (by assumption)),fun _ h=>by cases h⟩
open Go Go.Am
def qM{F:Nat->Int}{l:List Int}{m:Nat}(hl:l.length=m)(hF:∀ i,i<l.length->F i=l.getD i 0):X1 (ia F) m=l:=by
 unfold X1;refine List.ext_getElem (by simp[hl]) fun i h1 h2=>?_
 rw[List.getElem_map,List.getElem_range];show F i=_;rw[hF i h2,ZbD,ZbH h2];rfl
def allI{F:Nat->Int}(m:Nat):Xp m (fun i=>VJ (ia F i))=true:=allB_true (fun _=>rfl) m
def uR(l:List Int)(F:Nat->Int):EL l (ia F)=ia (fun i=>bif Nat.blt i l.length then l.getD i 0 else F i):=by
 funext i;unfold EL;show _=S.int .i64 (bif Nat.blt i l.length then l.getD i 0 else F i)
 cases Nat.blt i l.length <;> rfl
def gB{l:List Int}{F:Nat->Int}:∀ i,i<l.length->(bif Nat.blt i l.length then l.getD i 0 else F i)=l.getD i 0:=fun i hi=>by
 rw[show Nat.blt i l.length=true from ZbN hi];rfl
def sort_st(l:List Int)(hlen:l.length<=1000000):StR AM 175 1 [] [] l (KI l):=by
 refine⟨(Q5 l).length_eq,fun _=>⟨[],?_,trivial⟩,fun m q F hl hF=>⟨_,gB (F:=F),[_],?_,G,⟨_,_,_,G⟩,trivial⟩⟩
 ·rw[WI (pf:=TO) rfl _ _ rfl];rfl
 rw[WI (pf:=TO) rfl _ _ rfl];have hl':l.length=m:=by rw[hl,Nat.mul_one]
 have hlt:Nat.blt m 4611686018427387904=true:=ZbN (by omega);show(bif Xp m (fun i=>VJ (ia F i))&&Nat.blt m 4611686018427387904 then some (V.tup [],[Blk.sc .grow q (EL (KI (X1 (ia F) m)) (ia F))]) else none)=_;rw[allI,hlt,qM hl' hF,uR];rfl
def Za5(P:Nat->Int)(s:Int)(l:List (Int×Int))(h:l.length<=8):(X8 P s l).length<=64:=Zcq (DH P s l) (by omega)
def DR(P:Nat->Int)(s:Int):(Wd P s).length<=64:=by
 have h1:=fun l=>RW s l
 unfold Wd Ui;repeat' split
 all_goals first
  |exact Za5 P s _ (by decide)
  |exact Zcq (RW s _) (by decide)
  |exact Zcq (RW s _) (YF rfl)
  |exact Zct _
def Jz{P Q:Nat->Int}(h:∀ i,i<133->Q i=P i){t:Int}(ht:0<=t/\t<64):Xf Q t=Xf P t:=Ti ht fun i hi=>h i (by omega)
def qj{P Q:Nat→Int}(h:∀ i,i<133→Q i=P i):∀ {l:List Int},(∀ t∈l,0≤t∧t<64)→VU Q l=VU P l
 |[],_=>rfl
 |t::l,hl=>by
  unfold VU;rw[Jz h (hl t ZM),qj h fun u hu=>hl u (.tail _ hu)]
def tX{P Q:Nat->Int}(h:∀ i,i<133->Q i=P i)(s:Int)(l:List (Int×Int)):X8 Q s l=X8 P s l:=by
 unfold X8;exact congrArg (fun f=>l.flatMap f) (funext fun w=>qj h fun t ht=>xN ht)
def zc{P Q:Nat->Int}(h:∀ i,i<133->Q i=P i){s:Int}(hs:0<=s/\s<64):Wd Q s=Wd P s:=by
 have hq:sqI s=0+s.toNat*2:=rfl;unfold Wd Ui;rw[h (sqI s) (by omega),h (sqI s+1) (by omega)];simp only[tX h]
def tO(P:Nat->Int)(s:Int):RtR AM 157 1 [.agg 133 (ia P),.s (.int .i64 s)] [] (Wk P s) []:=by
 refine Qq (YL (a:=a157) G G (YI _) (ZQ G) (m:=0) G (Ze (YC G (Yq G (Yc (Ye (Ze (Zj G (Yt G (U4 _) G G G (Yv (r:=.bool _) G G (Yc (Yj G (fun h1=>?_) (fun h1=>?_))))))))))))) <;> simp only[NM]at h1
 ·try simp only[isM,Zb7,ZbJ]at h1
  refine Ze (Yq G (Yc (Yi (⟨_,YH (v:=.snil) G (YW),?_⟩))));have e:Wk P s=[]:=Zcz (by assumption);exact⟨[],.nil e,fun _ h=>by cases h⟩
 try simp only[isM,Zb7,ZbJ]at h1
 refine Yh (Ze (Yo G G ZM (YB (Q:=ovA (fun _=>0) 0 133 P) G (.agg G .nil) (Zj G ?_))));have hcut:∀ i,i<133->ovA (fun _=>0) 0 133 P i=P i:=fun i hi=>by rw[X3 (by omega),Nat.sub_zero]
 have hfrom:=zc hcut (by omega) ▸ wl (ovA (fun _=>0) 0 133 P) s (by omega);refine YE G (hfrom) G G (fun v1 own1 n1 hr1=>Yq (v:=v1) G (Zf (Yq (v:=v1) G (qq (caps:=[]) G (sort_st (Wd P s) (Zcq (DR P s) (by decide))) G hr1 .here G G (fun own2 hr2=>Zf (Yq (v:=v1) G (Yq (v:=v1) G (Yc (Yi (⟨_,YH (v:=v1) G (YW),?_⟩))))))))));have e:Wk P s=KI (Wd P s):=ZcA (by assumption);exact⟨_,e ▸ hr2,(fun _ h=>(ZbV _ h))⟩
open Go Go.Am
def Jp(P:Nat->Int)(c s a:Int):Bool:=decide (P (sqI a+1)=c)&&decide (s∈Wd P a)
def QM(P:Nat->Int)(c s:Int):Bool:=(Wq 64).any (Jp P c s)
def any_no{p:Int->Bool}{i:Nat}(h:∀ a:Nat,a<i->p a=false):(Wq i).any p=false:=by
 unfold Wq;rw[List.any_map,List.any_eq_false];intro a ha;have:=h a (Zck.1 ha);simpa using this
def any_yes{p:Int->Bool}{i k:Nat}(hi:i<k)(h:p i=true):(Wq k).any p=true:=by
 unfold Wq;rw[List.any_map,List.any_eq_true];exact⟨i,Zck.2 hi,h⟩
def optV:Option S->V
 |none=>.undef
 |some x=>.s x
def J0(g0 g10 g11 g18:Nat->S)(x1 x9 x13 x14 x15 x17 x19 x20:S)(ml o:Nat)(c:Cp)(u:Option S):List V:=[.agg 133 g0,.s x1,.sl 4 0 ml 1 c,.ptr 1 0 133,.undef,.undef,.ptr 2 0 1,.ptr 3 0 133,.undef,.s x9,.agg 133 g10,.agg 133 g11,.sl 4 0 ml 1 c,.s x13,.s x14,.s x15,.ptr 4 o 1,.s x17,.agg 133 g18,.s x19,.s x20,.fn 113 [.ptr 5 0 133,.ptr 6 0 1,.ptr 7 0 1],.undef,optV u]
section
variable(g0 g10 g11 g18:Nat->S)(x1 x9 x13 x14 x15 x17 x19 x20:S)(ml o:Nat)(c:Cp)(u:Option S)
noncomputable def U6(st:Nat)(r:Nat->S)(B1 B3 B4:Blk)(P:Nat->Int)(b s:Int):List Blk:=[.lp 22 wz (J0 g0 g10 g11 g18 x1 x9 x13 x14 x15 x17 x19 x20 ml o c u) st,B1,.sc .var 1 r,B3,B4,.sc .var 133 (ia P),.sc .var 1 (fun _=>.int .i64 b),.sc .var 1 (fun _=>.int .i64 s)]
def ZaY{r:Nat->S}{B1 B3 B4:Blk}{P:Nat->Int}{b s a:Int}:WR AM 22 [.pan .undef,.yv 0,.s (.int .i64 a)] (U6 g0 g10 g11 g18 x1 x9 x13 x14 x15 x17 x19 x20 ml o c u 0 r B1 B3 B4 P b s) (fun v n L=>v=.s (.bool false)/\UF L 0 (U6 g0 g10 g11 g18 x1 x9 x13 x14 x15 x17 x19 x20 ml o c u 2 (WE r 0 1 fun _=>.bool true) B1 B3 B4 P b s)):=by
 refine TF (N:=24) (B:=B54) (f:=YI ((J0 g0 g10 g11 g18 x1 x9 x13 x14 x15 x17 x19 x20 ml o c u).set 22 (.s (.int .i64 a)))) (caps:=J0 g0 g10 g11 g18 x1 x9 x13 x14 x15 x17 x19 x20 ml o c u) G G G (Dn G) G (Yh ⟨22,wz,J0 g0 g10 g11 g18 x1 x9 x13 x14 x15 x17 x19 x20 ml o c u,G,?_⟩);refine Yk (Ye (Yf (Qu G G G G G G (.there (.there .here)) (Yc (Yi ⟨22,wz,J0 g0 g10 g11 g18 x1 x9 x13 x14 x15 x17 x19 x20 ml o c u,G,G,?_⟩)))));exact⟨.head _,.tail _ ZM,.tail _ ZN,.tail _ ZO,.tail _ ZP,.tail _ (.tail _ ZP),.tail _ (.tail _ (.tail _ ZP)),.tail _ (.tail _ (.tail _ (.tail _ ZP))),trivial⟩
def vF{st:Nat}{r G1 G3 G4:Nat->S}{md:Md}{q:Nat}{P:Nat->Int}{b s:Int}:Xt [0,1,2,3,4,5,6,7] (U6 g0 g10 g11 g18 x1 x9 x13 x14 x15 x17 x19 x20 ml o c u st r (.sc .var 133 G1) (.sc .var 133 G3) (.sc md q G4) P b s)=some (U6 g0 g10 g11 g18 x1 x9 x13 x14 x15 x17 x19 x20 ml o c u st r (.sc .var 133 G1) (.sc .var 133 G3) (.sc md q G4) P b s):=by cases u <;> rfl
def s8{st:Nat}{r G1 G3 G4:Nat->S}{md:Md}{q:Nat}{P:Nat->Int}{b s:Int}:YN (U6 g0 g10 g11 g18 x1 x9 x13 x14 x15 x17 x19 x20 ml o c u st r (.sc .var 133 G1) (.sc .var 133 G3) (.sc md q G4) P b s) 64 [0] []=List.range 8:=by cases u <;> rfl
def um{st:Nat}{r G1 G3 G4:Nat->S}{md:Md}{q:Nat}{P:Nat->Int}{b s:Int}:YN (U6 g0 g10 g11 g18 x1 x9 x13 x14 x15 x17 x19 x20 ml o c u st r (.sc .var 133 G1) (.sc .var 133 G3) (.sc md q G4) P b s) 64 [0,5,6,7] []=List.range 8:=by cases u <;> rfl
end
def jl(P:Nat->Int)(s b:Int):WR AM 92 [.agg 133 (ia P),.s (.int .i64 s),.s (.int .i64 b)] [] (fun v n L=>v=.fn 113 [.ptr 0 0 133,.ptr 2 0 1,.ptr 1 0 1]/\n=3/\L=[(2,.sc .var 1 fun _=>.int .i64 b),(1,.sc .var 1 fun _=>.int .i64 s),(0,.sc .var 133 (ia P))]):=by
 refine YL (a:=a92) G G (YI _) (ZQ G) (m:=0) G (Ye (Yf (YC G (uV G (uV G (Yq G (Yc (Ye (Yf (KF G (Yq G (Yc ?_))))))))))));exact Yi ⟨_,YH G YW,G,G,G⟩
def ZaT{A:AP}{fid:FuncId}{z:Nat}{av:List V}{l:List Int}(hs:RtR A fid z av [] l [])(h1:V.looseL av=true){n:Nat}{L:HA}:∀ σ,Hp σ n L->∃ r,Y5 (Run A) false (.fn fid []) av σ=some r:=fun σ hσ=>by
 have hk:=YE (A:=A) (N:=0) (f:=fun _=>.undef) (n:=n) (L:=L) (K:=fun _ _ _=>True) (Zp:=fun _ _ _ _=>False) (rest:=[]) (d:=0) (x:=.k (.fn fid [])) (xs:=av.map .k) rfl hs (by rw[List.map_map];exact List.map_id'' (fun _=>rfl) _) h1 (fun _ _ _ _=>Yc trivial);obtain⟨x,f',σ',n',L',e1,e2,e3⟩:=hk σ hσ;have hev:(av.map O.k).map (fun x=>x.ev (E 0 fun _=>.undef))=av:=by rw[List.map_map];exact List.map_id'' (fun _=>rfl) _
 cases hc:Y5 (Run A) false (.fn fid []) av σ with
 |some r=>exact⟨r,rfl⟩
 |none=>
  exfalso;simp only[WF,XO,Xr,YK,hev]at e1;rw[show(O.k (.fn fid [])).ev (E 0 fun _=>.undef)=.fn fid [] from rfl,hc]at e1;simp only[Option.map_none,ZbK,Zcn]at e1;obtain⟨y,_,h,_⟩:=e1;subst h;exact e3
def iter_is(g0 g10 g11 g18:Nat->S)(x1 x9 x13 x14 x15 x17 x19 x20:S)(ml o:Nat)(c:Cp)(u:Option S){r G1 G3 G4:Nat->S}{md:Md}{q:Nat}(P:Nat->Int)(b s:Int):WR AM 113 [.yv 0,.ptr 5 0 133,.ptr 6 0 1,.ptr 7 0 1] (U6 g0 g10 g11 g18 x1 x9 x13 x14 x15 x17 x19 x20 ml o c u 0 r (.sc .var 133 G1) (.sc .var 133 G3) (.sc md q G4) P b s) (fun v _ L=>v=.tup []/\UF L 0 (if QM P b s=true then U6 g0 g10 g11 g18 x1 x9 x13 x14 x15 x17 x19 x20 ml o c u 2 (WE r 0 1 fun _=>.bool true) (.sc .var 133 G1) (.sc .var 133 G3) (.sc md q G4) P b s else U6 g0 g10 g11 g18 x1 x9 x13 x14 x15 x17 x19 x20 ml o c u 0 r (.sc .var 133 G1) (.sc .var 133 G3) (.sc md q G4) P b s)):=by
 refine YL (a:=a113) G G (YI _) (ZQ G) (m:=8) G (Ze (Zy G (Zy G (Yo G G (.tail _ (.tail _ ZP)) (Yq G (Yc (Yk (Xo (.refl _) (Xu (fun m f _ L=>∃ (i:Nat),(i<=64)/\(m=64-i)/\(∀ a:Nat,a<i->Jp P b s a=false)/\(f 0=.yv 0)/\(f 1=.ptr 5 0 133)/\(f 2=.ptr 6 0 1)/\(f 3=.ptr 7 0 1)/\(f 9=.agg 128 (ia P))/\(f 10=.s (.int .i64 i))/\(L=[(0,.lp 22 wz (J0 g0 g10 g11 g18 x1 x9 x13 x14 x15 x17 x19 x20 ml o c u) 0),(1,.sc .var 133 G1),(2,.sc .var 1 r),(3,.sc .var 133 G3),(4,.sc md q G4),(5,.sc .var 133 (ia P)),(6,.sc .var 1 (fun _=>.int .i64 b)),(7,.sc .var 1 (fun _=>.int .i64 s))])) (fun m f nb L hI=>?_) (64) (⟨0,by omega,rfl,fun a h=>by omega,rfl,rfl,rfl,rfl,rfl,rfl,rfl⟩))))))))));obtain⟨i,hi,hm,hn,k0,k1,k2,k3,k9,k10,rfl⟩:=hI;refine Za 0 k0 (Za 1 k1 (Za 2 k2 (Za 3 k3 (Za 9 k9 (Za 10 k10 (Ze (Zr G (Yc (Ye (Yj G (fun h1=>?_) (fun h1=>?_))))))))))) <;> simp only[NM]at h1
 ·refine Yh (Ye (Yk (Ze (Zj G (y7 G G G (by omega) (Yy (Zj G (Yz G G G G .here (Yc (Ye (WP_parcO2' [0,1,2,3,4,5,6] [7,8,9,10,11,12,13,14,15,16] [8,7,9,10,11,12,13,14,15,16] G (by decide +kernel) ?_)))))))))));simp only[Xy,List.getElem?_cons_zero,List.getElem?_cons_succ];refine Zz G (Ym (x:=P (sqI i+1)) G G ZM (show P ((i:Int).toNat*2+1)=_ from congrArg P (by have hq:sqI (i:Int)=0+(i:Int).toNat*2:=rfl;omega)) (Yn (x:=.int _ _) G G (.tail _ (.tail _ (.tail _ (.tail _ ZP)))) G (Zr G (Zk G (Ys (t:=18) G (fun h2=>?_) (fun h2=>?_)))))) <;> simp only[NM]at h2
  ·refine Yb G (Yo G G (.tail _ (.tail _ (.tail _ ZP))) (Yb G (Zj G (Yc (⟨je (t:=18) (b:=7) G G G G (.tail _ (.tail _ (.tail _ (.tail _ (.tail _ ZP))))) ⟨.s (.int .i64 s),fun σ h=>by simp only[rdV,h,cond_false]⟩ G G (ZaT (wl P i (by omega)) G),?_⟩)))));refine KE (l1:=[_,_,_,_,_,_,_]) (l2:=[_,_,_]) (Yb G (YE G (wl P i (by omega)) G G (fun v1 own1 n1 hr1=>Yb G (Yn (x:=.int _ _) G G (ZbM _ (.tail _ (.tail _ (.tail _ (.tail _ (.tail _ ZP)))))) G (Yb G (XX (caps:=[]) G (kJ s (Wd P i) (Zcq (DR P i) (by decide))) G (hr1.rx) (fun _ h=>(ZbV _ h)) G G G (Zq G (Zk G (Ys (t:=25) G (fun h3=>?_) (fun h3=>?_)))))))))) <;> simp only[NM]at h3
   ·refine Yb G (Yq (v:=.yv _) G (Yb G (Zj G (Yc (Q2 (ZbB (.cons _ (.refl _))) (DB G ?_))))));refine Zbw (Lr:=[(0,_),(1,_),(2,_),(3,_),(4,_),(5,_),(6,_),(7,_)]) (L0:=[]) (vs:=[.yv 0,.s (.int .i64 i)]) (Bs:=U6 g0 g10 g11 g18 x1 x9 x13 x14 x15 x17 x19 x20 ml o c u 0 r (.sc .var 133 G1) (.sc .var 133 G3) (.sc md q G4) P b s) (by first|(rw[Zcf];done)|(rw[Zcf];exact .refl _)) G G ZM G (vF g0 g10 g11 g18 x1 x9 x13 x14 x15 x17 x19 x20 ml o c u) G (s8 g0 g10 g11 g18 x1 x9 x13 x14 x15 x17 x19 x20 ml o c u) ?_;refine Qm (ZaY g0 g10 g11 g18 x1 x9 x13 x14 x15 x17 x19 x20 ml o c u) ?_;rintro v n1 L1 ⟨rfl,hfa⟩;refine⟨U6 g0 g10 g11 g18 x1 x9 x13 x14 x15 x17 x19 x20 ml o c u 2 (WE r 0 1 fun _=>.bool true) (.sc .var 133 G1) (.sc .var 133 G3) (.sc md q G4) P b s,.s (.bool false),_,hfa,G,G,G,vF g0 g10 g11 g18 x1 x9 x13 x14 x15 x17 x19 x20 ml o c u,?_⟩;refine Vd (Yb G (Yv (r:=.bool _) G G (Zq G (Yc (ZA G (Yi (⟨_,YW,?_⟩)))))));refine⟨G,?_⟩;rw[ZcA (show QM P b s=true from any_yes (p:=Jp P b s) (i:=i) (by omega) (by unfold Jp;rw[Zca,Zb7,Zb7];exact⟨by assumption,by assumption⟩))];exact⟨ZM,ZN,ZO,ZP,(.tail _ ZP),(.tail _ (.tail _ ZP)),(.tail _ (.tail _ (.tail _ ZP))),(.tail _ (.tail _ (.tail _ (.tail _ ZP)))),trivial⟩
   refine ZD G (Yc (Vd (ZD G (Zq G (Yc (ZB G (Yh (Yf (Zs G G (Zj G (Yc (⟨64-(i+1),_,by omega,(ZbB (.cons _ (.refl _))),i+1,by omega,rfl,?_,rfl,rfl,rfl,rfl,rfl,rfl,rfl⟩))))))))))));intro a ha;by_cases e:a=i
   · subst e;unfold Jp;rw[ZbO,ZbJ,ZbJ];first|exact .inl (by assumption)|exact .inr (by assumption)
   exact hn a (by omega)
  refine ZD G (Yc (⟨p5 (t:=18) G G G G G G,Vd ?_⟩));refine ZD G (ZC G (Zq G (Zk G (ZE G (Zq G (Yc (ZB G (Yh (Yf (Zs G G (Zj G (Yc (⟨64-(i+1),_,by omega,(.cons _ (.refl _)),i+1,by omega,rfl,?_,rfl,rfl,rfl,rfl,rfl,rfl,rfl⟩)))))))))))));intro a ha;by_cases e:a=i
  · subst e;unfold Jp;rw[ZbO,ZbJ,ZbJ];first|exact .inl (by assumption)|exact .inr (by assumption)
  exact hn a (by omega)
 refine Y0 (Xb (⟨_,YW,?_⟩));obtain rfl:i=64:=by omega
 refine⟨G,?_⟩;have hno:=any_no (p:=Jp P b s) hn;rw[Zcz (show ¬ QM P b s=true by unfold QM;rw[hno];decide)];exact⟨ZM,ZN,ZO,ZP,(.tail _ ZP),(.tail _ (.tail _ ZP)),(.tail _ (.tail _ (.tail _ ZP))),(.tail _ (.tail _ (.tail _ (.tail _ ZP)))),trivial⟩
open Go Go.Am
def perm7{α:Type}(a b c d e f g:α):[g,f,e,a,b,c,d].Perm [a,b,c,d,e,f,g]:=by
 have h:([g,f,e]++[a,b,c,d]).Perm ([a,b,c,d]++[g,f,e]):=List.perm_append_comm;exact h.trans (List.Perm.append_left [a,b,c,d] (List.reverse_perm [e,f,g]))
def perm3{α:Type}(a b c:α)(l:List α):(c::b::a::l).Perm (a::b::c::l):=(List.reverse_perm [a,b,c]).append_right l
def cut2(P:Nat->Int):∀ i,i<133->ovA (fun _=>0) 0 133 (ovA (fun _=>0) 0 133 P) i=P i:=Ez P
def q5{P Q:Nat->Int}(h:∀ i,i<133->Q i=P i)(c s:Int):QM Q c s=QM P c s:=by
 have hh:∀ a:Nat,a<64->Jp Q c s a=Jp P c s a:=fun a ha=>by
  have hq:sqI (a:Int)=0+(a:Int).toNat*2:=rfl;unfold Jp;rw[h (sqI (a:Int)+1) (by omega),zc h (by omega)]
 unfold QM Wq;rw[List.any_map,List.any_map,Zce,List.any_eq_true,List.any_eq_true];constructor
 ·rintro⟨a,ha,hx⟩;exact⟨a,ha,by show Jp P c s a=true;rw[<-hh a (Zck.1 ha)];exact hx⟩
 rintro⟨a,ha,hx⟩;exact⟨a,ha,by show Jp Q c s a=true;rw[hh a (Zck.1 ha)];exact hx⟩
def ZeX{p:Int->Bool}{l:List Int}{i:Nat}(hi:i<l.length)(h:p (l.getD i 0)=true):l.any p=true:=by
 rw[List.any_eq_true];rw[ZbD,ZbH hi]at h;exact⟨l[i],List.getElem_mem hi,h⟩
def Zao{p:Int->Bool}{l:List Int}(h:∀ j:Nat,j<l.length->p (l.getD j 0)=false):l.any p=false:=by
 rw[List.any_eq_false];intro x hx;obtain⟨j,hj,rfl⟩:=List.mem_iff_getElem.1 hx;have:=h j hj;rw[ZbD,ZbH hj]at this;simpa using this
def rC(P:Nat->Int)(c:Int)(l:List Int)(hlen:l.length<=1000000):RdR AM 54 1 [.agg 133 (ia P),.s (.int .i64 c)] [] l (.s (.bool (l.any (QM P c)))):=by
 refine WV fun v Bs hc=>?_
 refine YL (a:=a54) G G (YI _) (ZQ G) G ?_ (by first|rfl|(cases hc <;> rfl));have hr0:=hc.rx;rw[show YZ 0 Bs=YZ 0 Bs++[] from(Zcf _).symm];generalize hown:YZ 0 Bs=own0 at hr0 ⊢;refine Ze (YC G (gA (Zf (Yo G G ZN (YB (Q:=ovA (fun _=>0) 0 133 P) G (.agg G .nil) (Yy (Yz G G G G .here (Yc (Ye (Ze (Yq (v:=v) G (Xk G hr0 (by decide) Te (Yq G (Yc (Yk (wQ (perm3 _ _ _ _) (Xo (.cons_cons _ (.cons_cons _ (.cons_cons _ (ZbY (.refl _) .slnil)))) (Xu (fun m f _ L=>∃ (i:Nat) (u:Option S),(i<=l.length)/\(m=l.length-i)/\(∀ j:Nat,j<i->QM P c (l.getD j 0)=false)/\(f 0=.agg 133 (ia P))/\(f 1=.s (.int .i64 c))/\(f 2=v)/\(f 3=.ptr Bs.length 0 133)/\(f 4=.undef)/\(f 5=.undef)/\(f 6=.ptr (Bs.length+1) 0 1)/\(f 7=.ptr (Bs.length+1+1) 0 133)/\(f 8=.undef)/\(f 10=.agg 133 (ia P))/\(f 11=.agg 133 (ia (ovA (fun _=>0) 0 133 P)))/\(f 12=v)/\(f 13=.s (.int .i64 l.length))/\(f 14=.s (.int .i64 i))/\(f 22=.undef)/\(f 23=optV u)/\(L=(Bs.length,.sc .var 133 (ia P))::(Bs.length+1,.sc .var 1 (fun _=>.bool false))::(Bs.length+1+1,.sc .var 133 (ia (ovA (fun _=>0) 0 133 (ovA (fun _=>0) 0 133 P))))::(own0++[]))) (fun m f nb L hI=>?_) (l.length) (⟨0,none,by omega,by omega,fun j hj=>by omega,rfl,rfl,rfl,rfl,rfl,rfl,rfl,rfl,rfl,rfl,rfl,rfl,rfl,rfl,rfl,rfl,rfl⟩)))))))))))))))))));obtain⟨i,u,hi,hm,hn,k0,k1,k2,k3,k4,k5,k6,k7,k8,k10,k11,k12,k13,k14,k22,k23,rfl⟩:=hI;refine Za 0 k0 (Za 1 k1 (Za 2 k2 (Za 3 k3 (Za 4 k4 (Za 5 k5 (Za 6 k6 (Za 7 k7 (Za 8 k8 (Za 10 k10 (Za 11 k11 (Za 12 k12 (Za 13 k13 (Za 14 k14 (Za 22 k22 (Za 23 k23 (Ze (Zr G (Yc (Ye (Yj G (fun h1=>?_) (fun h1=>?_))))))))))))))))))))) <;> simp only[NM]at h1
 ·refine Yh (Ye (Yk (Ze ?_)));obtain⟨b0,q0,md0,c0,F0,rfl,rfl,hF0⟩:=hr0.at (by decide) Te (by omega);refine Zx G G (Ym (x:=(l.getD i 0)) G G ZP (ld1 hF0 (by omega)) (Zj G (Zf (Yo G G ZO (Zj G (Zj G (vm (fv:=.fn 92 []) (rs:=[]) (vs:=[.agg 133 (ia (ovA (fun _=>0) 0 133 (ovA (fun _=>0) 0 133 P))),.s (.int .i64 (l.getD i 0)),.s (.int .i64 c)]) (Bs:=[]) G G G G (Qm (jl (ovA (fun _=>0) 0 133 (ovA (fun _=>0) 0 133 P)) (l.getD i 0) c) ?_))))))));rintro v9 n9 L9 ⟨rfl,rfl,rfl⟩;refine⟨.fn 113 [.ptr nb 0 133,.ptr (nb+1) 0 1,.ptr (nb+2) 0 1],[],[.sc .var 133 (ia (ovA (fun _=>0) 0 133 (ovA (fun _=>0) 0 133 P))),.sc .var 1 (fun _=>.int .i64 c),.sc .var 1 (fun _=>.int .i64 (l.getD i 0))],G,?_⟩;refine Yc (Yk ?_);refine WP_rfnD (Lr:=[(Bs.length,_),(Bs.length+1,_),(Bs.length+1+1,_),(b0,_),(nb,_),(nb+1,_),(nb+2,_)]) (L0:=[]) (vs:=[.yv 0,.ptr 5 0 133,.ptr 6 0 1,.ptr 7 0 1]) (caps:=J0 (ia P) (ia P) (ia (ovA (fun _=>0) 0 133 P)) (ia (ovA (fun _=>0) 0 133 (ovA (fun _=>0) 0 133 P))) (.int .i64 c) (.int .i64 (l.getD i 0)) (.int .i64 l.length) (.int .i64 i) (.bool (decide ((i:Int)<(l.length:Int)))) (.int .i64 (l.getD i 0)) (.int .i64 (l.getD i 0)) (.int .i64 c) l.length (0+(i:Int).toNat*1) c0 u) (Br:=[.sc .var 133 (ia P),.sc .var 1 (fun _=>.bool false),.sc .var 133 (ia (ovA (fun _=>0) 0 133 (ovA (fun _=>0) 0 133 P))),.sc md0 q0 (ia F0),.sc .var 133 (ia (ovA (fun _=>0) 0 133 (ovA (fun _=>0) 0 133 P))),.sc .var 1 (fun _=>.int .i64 c),.sc .var 1 (fun _=>.int .i64 (l.getD i 0))]) (perm7 _ _ _ _ _ _ _) G G (by cases u <;> rfl) G G (um (ia P) (ia P) (ia (ovA (fun _=>0) 0 133 P)) (ia (ovA (fun _=>0) 0 133 (ovA (fun _=>0) 0 133 P))) (.int .i64 c) (.int .i64 (l.getD i 0)) (.int .i64 l.length) (.int .i64 i) (.bool (decide ((i:Int)<(l.length:Int)))) (.int .i64 (l.getD i 0)) (.int .i64 (l.getD i 0)) (.int .i64 c) l.length (0+(i:Int).toNat*1) c0 u) ?_;refine Qm (iter_is (ia P) (ia P) (ia (ovA (fun _=>0) 0 133 P)) (ia (ovA (fun _=>0) 0 133 (ovA (fun _=>0) 0 133 P))) (.int .i64 c) (.int .i64 (l.getD i 0)) (.int .i64 l.length) (.int .i64 i) (.bool (decide ((i:Int)<(l.length:Int)))) (.int .i64 (l.getD i 0)) (.int .i64 (l.getD i 0)) (.int .i64 c) l.length (0+(i:Int).toNat*1) c0 u (ovA (fun _=>0) 0 133 (ovA (fun _=>0) 0 133 P)) c (l.getD i 0)) ?_;rintro v9 n9 L9 ⟨rfl,hfa⟩;by_cases hh:QM (ovA (fun _=>0) 0 133 (ovA (fun _=>0) 0 133 P)) c (l.getD i 0)=true
  ·rw[ZcA hh]at hfa;refine⟨[.sc .var 133 (ia P),.sc .var 1 (WE (fun _=>.bool false) 0 1 fun _=>.bool true),.sc .var 133 (ia (ovA (fun _=>0) 0 133 (ovA (fun _=>0) 0 133 P))),.sc md0 q0 (ia F0),.sc .var 133 (ia (ovA (fun _=>0) 0 133 (ovA (fun _=>0) 0 133 P))),.sc .var 1 (fun _=>.int .i64 c),.sc .var 1 (fun _=>.int .i64 (l.getD i 0))],.tup [],[.sc .var 133 (ia P),.sc .var 1 (WE (fun _=>.bool false) 0 1 fun _=>.bool true),.sc .var 133 (ia (ovA (fun _=>0) 0 133 (ovA (fun _=>0) 0 133 P))),.sc md0 q0 (ia F0),.sc .var 133 (ia (ovA (fun _=>0) 0 133 (ovA (fun _=>0) 0 133 P))),.sc .var 1 (fun _=>.int .i64 c),.sc .var 1 (fun _=>.int .i64 (l.getD i 0))],2,hfa,G,G,G,G,?_⟩;refine⟨_,kp G G ZN G (YW),?_⟩;refine⟨?_,(UY ZP)⟩;rw[ZeX (i:=i) (by omega) (by rw[<-q5 (cut2 P)];exact hh)];rfl
  rw[Zcz hh]at hfa;refine⟨[.sc .var 133 (ia P),.sc .var 1 (fun _=>.bool false),.sc .var 133 (ia (ovA (fun _=>0) 0 133 (ovA (fun _=>0) 0 133 P))),.sc md0 q0 (ia F0),.sc .var 133 (ia (ovA (fun _=>0) 0 133 (ovA (fun _=>0) 0 133 P))),.sc .var 1 (fun _=>.int .i64 c),.sc .var 1 (fun _=>.int .i64 (l.getD i 0))],.tup [],[.sc .var 133 (ia P),.sc .var 1 (fun _=>.bool false),.sc .var 133 (ia (ovA (fun _=>0) 0 133 (ovA (fun _=>0) 0 133 P))),.sc md0 q0 (ia F0),.sc .var 133 (ia (ovA (fun _=>0) 0 133 (ovA (fun _=>0) 0 133 P))),.sc .var 1 (fun _=>.int .i64 c),.sc .var 1 (fun _=>.int .i64 (l.getD i 0))],0,hfa,G,G,G,G,?_⟩;refine Yf (Zs G G (Zj G (Yc (⟨l.length-(i+1),_,by omega,(.cons_cons _ (.cons_cons _ (.cons_cons _ (.cons_cons _ (.cons _ (.cons _ (.cons _ .slnil))))))),i+1,some _,by omega,rfl,?_,rfl,rfl,rfl,rfl,rfl,rfl,rfl,rfl,rfl,rfl,rfl,rfl,rfl,rfl,rfl,rfl,rfl⟩))));intro j hj;by_cases e:j=i
  ·subst e;rw[<-q5 (cut2 P)];simpa using hh
  exact hn j (by omega)
 refine Y0 (Xb (Ze (WO_st1 G G G G (.there .here) (Yc (Yi (⟨_,kp G G ZN G (YW),?_⟩))))));obtain rfl:i=l.length:=by omega
 refine⟨?_,(fun _ h=>(.tail _ (.tail _ (.tail _ h))))⟩;rw[Zao hn];rfl
def ju(c:Int):Nat->Int:=ov (ov (fun _=>0) 0 6) 1 c
def WU(P:Nat->Int)(c:Int):Bool:=if c=0\/c=1 then (jz P (ju c)).any (QM P (XT c)) else false
def w8(P X:Nat->Int):(jz P X).length<=64:=vK _ 64
def tT(P:Nat->Int)(c:Int):WR AM 25 [.agg 133 (ia P),.s (.int .i64 c)] [] (fun v _ _=>v=.s (.bool (WU P c))):=by
 refine YL (a:=a25) G G (YI _) (ZQ G) (m:=0) G (Ze (YC G (Yq G (Yc (Ye (Ze (Zj G (Zr G (Zk G (Ys (t:=7) G (fun h2=>?_) (fun h2=>?_))))))))))) <;> simp only[NM]at h2
 ·refine Yb G (Zj G (Yb G (Zr G (Zq G (Yc (Yj G (fun h3=>?_) (fun h3=>?_))))))) <;> simp only[NM]at h3
  ·refine Ze (Yq G (Zg G ?_));unfold WU;(rw[Zcz (by omega)];rfl)
  refine Yh (Ye (Yg (Yo G G ZM (Zj G (Yu G (YP (VW _)) G G G (Yo G G ZM (Zj G (YB G (.one G (.one G .nil)) (QC G (uS P (ju c)) G G (fun v1 own1 n1 hr1=>XX (caps:=[]) G (rC P (XT c) _ (Zcq (w8 _ _) (by decide))) G (hr1.rx) (fun _ h=>(ZbV _ h)) G G G (Zk G (Zg G ?_))))))))))));unfold WU;(rw[ZcA (by omega)];rfl)
 refine ZD G (Zq G (Yc (ZB G (Yh (Ye (Yg (Yo G G ZM (Zj G (Yu G (YP (VW _)) G G G (Yo G G ZM (Zj G (YB G (.one G (.one G .nil)) (QC G (uS P (ju c)) G G (fun v2 own2 n2 hr2=>XX (caps:=[]) G (rC P (XT c) _ (Zcq (w8 _ _) (by decide))) G (hr2.rx) (fun _ h=>(ZbV _ h)) G G G (Zk G (Zg G ?_))))))))))))))));unfold WU;(rw[ZcA (by omega)];rfl)
def RR(P:Nat->Int)(c:Int):RF AM 25 [.agg 133 (ia P),.s (.int .i64 c)] (.s (.bool (WU P c))):=YP (tT P c)
open Go Go.Am
def Y1(P:Nat->Int)(t:Int):Bool:=isM t&&Xf P t
def R9(P:Nat->Int)(t:Int):Int:=P (sqI t+1)
def U2(P:Nat->Int)(s c:Int):List Int :=
 (if Y1 P (YT s 0 (1-2*c))=true then [YT s 0 (1-2*c)] else []) ++
 (if Wh s=1+5*c/\Y1 P (YT s 0 (1-2*c))=true/\Y1 P (YT s 0 (2*(1-2*c)))=true then [YT s 0 (2*(1-2*c))] else []) ++
 (Wk P s).filter fun t=>(!Xf P t&&decide (R9 P t=XT c))||(Y1 P t&&decide (t=P 130))
def V3(P:Nat->Int)(c t:Int):Bool:=decide (P (sqI t)=4/\P (sqI t+1)=c)
def XR(P:Nat->Int)(s k c:Int):List Int :=
 if k≠6\/s≠56*c+4\/P 129<0\/15<P 129 then []
 else (if P 129/Y4 c%2=1/\V3 P c (s+3)=true/\Y1 P (s+1)=true/\Y1 P (s+2)=true then [s+2] else []) ++
  (if P 129/(2*Y4 c)%2=1/\V3 P c (s-4)=true/\Y1 P (s-1)=true/\Y1 P (s-2)=true/\Y1 P (s-3)=true then [s-2] else [])
def U5(P:Nat->Int)(c t:Int):Bool:=!Xf P t&&decide (R9 P t=c)
def XL(P:Nat->Int)(s k c:Int):List Int :=
 if k=1 then U2 P s c else ((Wk P s).filter fun t=>!U5 P c t)++XR P s k c
def ZdZ(k c t:Int):Bool:=decide (k=1/\t/8=7*(1-c))
def toM(s k c t:Int):List Mv:=if ZdZ k c t=true then [(s,t,2),(s,t,3),(s,t,4),(s,t,5)] else [(s,t,0)]
def Ww(P:Nat->Int)(s:Int):Bool:=Xm (P (sqI s)) (P (sqI s+1))&&decide (P (sqI s+1)=P 128)
def VT(P:Nat->Int)(s:Int):List Mv:=(XL P s (P (sqI s)) (P (sqI s+1))).flatMap (toM s (P (sqI s)) (P (sqI s+1)))
def UX(P:Nat->Int)(n:Nat):List Mv:=(Wq n).flatMap fun s=>if Ww P s=true then VT P s else []
def Ey(P:Nat->Int):List Mv:=KH (UX P 64)
def goP(P:Nat->Int)(s t c:Int):Bool :=
 if t=s+8*(1-2*c) then Y1 P t
 else if t=s+16*(1-2*c)/\s/8=1+5*c then Y1 P (s+8*(1-2*c))&&Y1 P t
 else Kv P s t&&((!Xf P t&&decide (R9 P t=XT c))||(Y1 P t&&decide (t=P 130)))
def goC(P:Nat->Int)(s t c:Int):Bool :=
 if s≠56*c+4\/P 129<0\/15<P 129 then false
 else if t=s+2 then decide (P 129/Y4 c%2=1)&&V3 P c (s+3)&&Y1 P (s+1)&&Y1 P (s+2)
 else decide (t=s-2)&&decide (P 129/(2*Y4 c)%2=1)&&V3 P c (s-4)&&Y1 P (s-1)&&Y1 P (s-2)&&Y1 P (s-3)
def goK(P:Nat->Int)(s t k c:Int):Bool :=
 if k=1 then goP P s t c else (Kv P s t&&!U5 P c t)||(decide (k=6)&&goC P s t c)
def R6(P:Nat->Int)(s t:Int):Bool:=Ww P s&&decide (s≠t)&&goK P s t (P (sqI s)) (P (sqI s+1))
def QS(P:Nat->Int)(s:Int)(n:Nat):List Mv:=(Wq n).flatMap fun t=>if R6 P s t=true then toM s (P (sqI s)) (P (sqI s+1)) t else []
def Rn(P:Nat->Int)(n:Nat):List Mv:=(Wq n).flatMap fun s=>QS P s 64
def kR{P:Nat->Int}{s t:Int}(h:Kv P s t=true):s≠t:=by
 intro e;unfold Kv wt at h;rw[ZcA (.inr e)]at h
 cases h
def yr{P:Nat->Int}{s t:Int}(h:Kv P s t=true)(hk:P (sqI s)=1):Vl (t%8-s%8)=1:=by
 unfold Kv wt at h;rw[hk]at h;split at h
 ·cases h
 rw[ZcA rfl,Zb7]at h;exact h.1
def g6{P:Nat->Int}{s t:Int}(h:Kv P s t=true)(hk:P (sqI s)=6):Vl (t%8-s%8)<=1:=by
 unfold Kv wt at h;rw[hk]at h;split at h
 ·cases h
 rw[Zcz (by decide),Zcz (by decide),ZcA rfl,Zb7]at h;exact h.1
def EJ{P:Nat->Int}{s t:Int}(hs:0<=s/\s<64):t∈Wk P s↔(0<=t/\t<64)/\Kv P s t=true:=by
 rw[Zar];unfold attL;rw[ZcA hs,Zch];unfold Wq;rw[List.mem_map];constructor
 ·rintro⟨⟨i,hi,rfl⟩,h⟩;exact⟨⟨by omega,by have:=Zck.1 hi;omega⟩,h⟩
 rintro⟨h1,h2⟩;exact⟨⟨t.toNat,Zck.2 (by omega),by omega⟩,h2⟩
def fromS_nodup{P:Nat->Int}{s:Int}:(Wk P s).Nodup:=by
 unfold Wk;split
 ·rename_i h;exact(Q5 _).nodup_iff.2 (y5 h)
 exact .nil
def uI{P:Nat->Int}{t:Int}(h:Y1 P t=true):0<=t/\t<64:=by
 unfold Y1 isM at h;rw[Zca,Zb7]at h;exact h.1
def KU{s d:Int}(hs:0<=s/\s<64)(hd:-8<d/\d<8):YT s 0 d=if 0<=s+8*d/\s+8*d<64 then s+8*d else -1:=by
 unfold YT atM;rw[ZcA ⟨hs,by omega,hd⟩];split <;> split <;> omega
def Ja{p:Prop}[Decidable p]{x t:Int}:t∈(if p then [x] else [])↔p/\t=x:=by
 split
 ·rename_i h;simp[h]
 rename_i h;simp[h]
def rY{P:Nat->Int}{s t c:Int}(hs:0<=s/\s<64)(hc:c=0\/c=1)(hk:P (sqI s)=1):t∈U2 P s c↔(0<=t/\t<64)/\goP P s t c=true:=by
 unfold U2 goP;rw[Zcg,Zcg,Ja,Ja,Zch,EJ hs,KU hs (by omega),KU hs (by omega)];have hr:Wh s=s/8:=ZcA hs;rw[hr];have f0:Y1 P (-1)=false:=rfl;by_cases h1:t=s+8*(1-2*c)
 ·rw[ZcA h1];subst h1;have na:¬ Kv P s (s+8*(1-2*c))=true:=fun h=>by
   have:=yr h hk;unfold Vl at this;split at this <;> omega
  constructor
  ·rintro((⟨h2,h3⟩|⟨⟨h2,h3,h4⟩,h5⟩)|⟨⟨_,h⟩,_⟩)
   ·split at h2
    ·rename_i hb;exact⟨hb,h2⟩
    rw[f0]at h2;cases h2
   ·split at h4
    ·split at h5 <;> omega
    rw[f0]at h4;cases h4
   exact absurd h na
  rintro⟨h2,h3⟩;rw[ZcA (by omega)];exact .inl (.inl ⟨by rw[show s+8*(1-2*c)=s+8*(1-2*c) from rfl];exact h3,rfl⟩)
 rw[Zcz h1];have n1:¬ (Y1 P (if 0<=s+8*(1-2*c)/\s+8*(1-2*c)<64 then s+8*(1-2*c) else -1)=true/\t=if 0<=s+8*(1-2*c)/\s+8*(1-2*c)<64 then s+8*(1-2*c) else -1):=by
  rintro⟨h2,h3⟩;split at h2
  ·rename_i hb;rw[ZcA hb]at h3;exact h1 h3
  rw[f0]at h2;cases h2
 by_cases h2:t=s+16*(1-2*c)/\s/8=1+5*c
 ·rw[ZcA h2];obtain⟨h2,h3⟩:=h2;have na:¬ Kv P s t=true:=fun h=>by
   have:=yr h hk;unfold Vl at this;split at this <;> omega
  rw[ZcA (by omega),ZcA (by omega)];constructor
  ·rintro((h|⟨⟨_,h4,h5⟩,h6⟩)|⟨⟨_,h⟩,_⟩)
   ·rw[ZcA (by omega)]at n1;exact absurd h n1
   ·refine⟨by omega,?_⟩;rw[h4,Bool.true_and,h6];exact h5
   exact absurd h na
  rintro⟨h4,h5⟩;rw[Zca]at h5;refine .inl (.inr ⟨⟨h3,h5.1,?_⟩,by omega⟩);rw[show s+8*(2*(1-2*c))=t by omega];exact h5.2
 rw[Zcz h2];have n2:¬ ((s/8=1+5*c/\Y1 P (if 0<=s+8*(1-2*c)/\s+8*(1-2*c)<64 then s+8*(1-2*c) else -1)=true/\Y1 P (if 0<=s+8*(2*(1-2*c))/\s+8*(2*(1-2*c))<64 then s+8*(2*(1-2*c)) else -1)=true)/\t=if 0<=s+8*(2*(1-2*c))/\s+8*(2*(1-2*c))<64 then s+8*(2*(1-2*c)) else -1):=by
  rintro⟨⟨h3,h4,h5⟩,h6⟩;split at h5
  ·rename_i hb;rw[ZcA hb]at h6;exact h2 ⟨by omega,h3⟩
  rw[f0]at h5;cases h5
 simp only[n1,n2,false_or,Zca,and_assoc]
def ut{P:Nat->Int}{s c:Int}(hs:0<=s/\s<64)(hc:c=0\/c=1)(hk:P (sqI s)=1):(U2 P s c).Nodup:=by
 have f0:Y1 P (-1)=false:=rfl;unfold U2;rw[List.nodup_append,List.nodup_append];refine⟨⟨by split <;> simp,by split <;> simp,fun a ha b hb e=>?_⟩,fromS_nodup.filter _,fun a ha b hb e=>?_⟩
 ·rw[Ja]at ha hb;subst e;have h1:=uI ha.1;have h2:=uI hb.1.2.2;have e1:=ha.2;have e2:=hb.2;rw[KU hs (by omega)]at h1 e1;rw[KU hs (by omega)]at h2 e2;split at h1 <;> split at h2 <;> omega
 subst e;have hb:=(EJ hs).1 (Zch.1 hb).1;have ht:=yr hb.2 hk;rw[Zcg,Ja,Ja,KU hs (by omega),KU hs (by omega)]at ha;unfold Vl at ht;have hb:=hb.1;rcases ha with⟨_,e⟩|⟨_,e⟩
 ·split at e <;> split at ht <;> omega
 split at e <;> split at ht <;> omega
def E2{P:Nat->Int}{s t k c:Int}(hk:k=6):t∈XR P s k c↔goC P s t c=true:=by
 unfold XR goC;by_cases h:s≠56*c+4\/P 129<0\/15<P 129
 ·rw[ZcA h,ZcA (.inr h)];simp
 have hn:¬ (k≠6\/s≠56*c+4\/P 129<0\/15<P 129):=by
  rintro(h'|h')
  ·exact h' hk
  exact h h'
 rw[Zcz h,Zcz hn,Zcg,Ja,Ja];by_cases h2:t=s+2
 ·rw[ZcA h2];have:¬ t=s-2:=by omega
  simp[h2,this,and_assoc];omega
 rw[Zcz h2];simp[h2,and_assoc];constructor
 ·rintro⟨a,b,c,d,e,f⟩;exact⟨f,a,b,c,d,e⟩
 rintro⟨f,a,b,c,d,e⟩;exact⟨a,b,c,d,e,f⟩
def Tx{P:Nat->Int}{s k c:Int}(hk:k≠6):XR P s k c=[]:=ZcA (.inl hk)
def goC_bd{P:Nat->Int}{s t c:Int}(hc:c=0\/c=1)(h:goC P s t c=true):(0<=t/\t<64)/\s≠t:=by
 unfold goC at h;split at h
 ·cases h
 split at h <;> simp at h <;> omega
def z7{P:Nat->Int}{s t:Int}(hs:0<=s/\s<64)(hm:Ww P s=true):t∈XL P s (P (sqI s)) (P (sqI s+1))↔(0<=t/\t<64)/\R6 P s t=true:=by
 unfold R6;rw[hm,Bool.true_and,Zca,Zb7];have hc:P (sqI s+1)=0\/P (sqI s+1)=1:=by
  unfold Ww Xm at hm;simp only[Zca,Zb7]at hm;omega
 unfold XL goK;by_cases hk:P (sqI s)=1
 ·rw[ZcA hk,ZcA hk,rY hs hc hk];constructor
  ·rintro⟨h1,h2⟩;refine⟨h1,fun e=>?_,h2⟩;subst e;unfold goP at h2;rw[Zcz (by omega),Zcz (by omega),Zca]at h2;exact kR h2.1 G
  rintro⟨h1,_,h2⟩;exact⟨h1,h2⟩
 rw[Zcz hk,Zcz hk,Zcg,Zch,EJ hs];by_cases h6:P (sqI s)=6
 ·rw[E2 h6,Bool.or_eq_true,Zca,Zca,Zb7];constructor
  ·rintro(⟨⟨h1,h2⟩,h3⟩|h)
   ·exact⟨h1,kR h2,.inl ⟨h2,h3⟩⟩
   have:=goC_bd hc h;exact⟨this.1,this.2,.inr ⟨h6,h⟩⟩
  rintro⟨h1,_,⟨h2,h3⟩|⟨_,h⟩⟩
  ·exact .inl ⟨⟨h1,h2⟩,h3⟩
  exact .inr h
 rw[Tx h6,Bool.or_eq_true,Zca,Zca,Zb7];constructor
 ·rintro(⟨⟨h1,h2⟩,h3⟩|h)
  ·exact⟨h1,kR h2,.inl ⟨h2,h3⟩⟩
  cases h
 rintro⟨h1,_,⟨h2,h3⟩|⟨h,_⟩⟩
 ·exact .inl ⟨⟨h1,h2⟩,h3⟩
 exact absurd h h6
def jc{P:Nat->Int}{s:Int}(hs:0<=s/\s<64)(hm:Ww P s=true):(XL P s (P (sqI s)) (P (sqI s+1))).Nodup:=by
 have hc:P (sqI s+1)=0\/P (sqI s+1)=1:=by
  unfold Ww Xm at hm;simp only[Zca,Zb7]at hm;omega
 unfold XL;by_cases hk:P (sqI s)=1
 ·rw[ZcA hk];exact ut hs hc hk
 rw[Zcz hk,List.nodup_append];refine⟨fromS_nodup.filter _,?_,fun a ha b hb e=>?_⟩
 ·unfold XR;split
  ·exact .nil
  rw[List.nodup_append];refine⟨by split <;> simp,by split <;> simp,fun a ha b hb e=>?_⟩;rw[Ja]at ha hb;omega
 subst e;by_cases h6:P (sqI s)=6
 ·rw[E2 h6]at hb;have ha:=(EJ hs).1 (Zch.1 ha).1;have hka:=g6 ha.2 h6;have ha:=ha.1;unfold goC at hb;unfold Vl at hka;split at hb
  ·cases hb
  split at hb
  ·split at hka <;> omega
  simp at hb;split at hka <;> omega
 rw[Tx h6]at hb;cases hb
def JN{s k c t:Int}{m:Mv}(h:m∈toM s k c t):m.1=s/\m.2.1=t:=by
 unfold toM at h;split at h <;> simp at h
 ·rcases h with rfl|rfl|rfl|rfl <;> exact⟨rfl,rfl⟩
 subst h;exact⟨G,G⟩
def rV(s k c t:Int):(toM s k c t).Pairwise lt3:=by
 unfold toM;split <;> simp[lt3]
def Zbv(P:Nat->Int)(s:Int)(n:Nat):(QS P s n).Pairwise lt3:=by
 unfold QS;rw[List.pairwise_flatMap];refine⟨fun t _=>?_,?_⟩
 ·split
  ·exact rV _ _ _ _
  exact .nil
 unfold Wq;rw[List.pairwise_map];refine List.pairwise_lt_range.imp fun h x hx y hy=>?_
 split at hx
 ·split at hy
  ·have h1:=JN hx;have h2:=JN hy;unfold lt3;omega
  cases hy
 cases hx
def Jb{P:Nat->Int}{s:Int}{n:Nat}{m:Mv}(h:m∈QS P s n):m.1=s:=by
 unfold QS at h;rw[List.mem_flatMap]at h;obtain⟨t,_,h⟩:=h;split at h
 ·exact(JN h).1
 cases h
def allR_lt(P:Nat->Int)(n:Nat):(Rn P n).Pairwise lt3:=by
 unfold Rn;rw[List.pairwise_flatMap];refine⟨fun s _=>Zbv P s 64,?_⟩;unfold Wq;rw[List.pairwise_map];refine List.pairwise_lt_range.imp fun h x hx y hy=>?_
 have h1:=Jb hx;have h2:=Jb hy;unfold lt3;omega
def mem64{t:Int}:t∈Wq 64↔0<=t/\t<64:=by
 unfold Wq;rw[List.mem_map];constructor
 ·rintro⟨i,hi,rfl⟩;have:=Zck.1 hi;omega
 intro h;exact⟨t.toNat,Zck.2 (by omega),by omega⟩
def JG{P:Nat->Int}{s:Int}(hs:0<=s/\s<64)(hm:Ww P s=true)(m:Mv):m∈VT P s↔m∈QS P s 64:=by
 unfold VT QS;rw[List.mem_flatMap,List.mem_flatMap];constructor
 ·rintro⟨t,h1,h2⟩;obtain⟨h3,h4⟩:=(z7 hs hm).1 h1;exact⟨t,mem64.2 h3,by rw[ZcA h4];exact h2⟩
 rintro⟨t,h1,h2⟩;split at h2
 ·rename_i h4;exact⟨t,(z7 hs hm).2 ⟨mem64.1 h1,h4⟩,h2⟩
 cases h2
def vi{P:Nat->Int}{s:Int}(hs:0<=s/\s<64)(hm:Ww P s=true):(VT P s).Nodup:=by
 unfold VT;unfold List.Nodup;rw[List.pairwise_flatMap];refine⟨fun t _=>(rV _ _ _ _).imp fun h e=>by subst e;exact we _ _ h h,(jc hs hm).imp fun h x hx y hy e=>?_⟩;subst e;exact h ((JN hx).2.symm.trans (JN hy).2)
def sO{P:Nat->Int}{s:Int}(hm:¬ Ww P s=true)(n:Nat):QS P s n=[]:=by
 unfold QS;rw[List.flatMap_eq_nil_iff];intro t _;rw[Zcz];unfold R6;simp[hm]
def Zex(P:Nat->Int):Ey P=Rn P 64:=by
 unfold Ey;refine srt3_is ?_ (allR_lt P 64) fun m=>?_
 ·unfold UX List.Nodup;rw[List.pairwise_flatMap];refine⟨fun s hs=>?_,?_⟩
  ·split
   ·rename_i hm;exact vi (mem64.1 hs) hm
   exact .nil
  unfold Wq;rw[List.pairwise_map];refine List.pairwise_lt_range.imp_of_mem fun {a b} ha hb h x hx y hy e=>?_
  subst e;split at hx
  ·split at hy
   ·rename_i m1 m2;have ha:=Zck.1 ha;have hb:=Zck.1 hb;have h1:=Jb ((JG (by omega) m1 _).1 hx);have h2:=Jb ((JG (by omega) m2 _).1 hy);omega
   cases hy
  cases hx
 unfold UX Rn;rw[List.mem_flatMap,List.mem_flatMap];constructor
 ·rintro⟨s,hs,h⟩;split at h
  ·rename_i hm;exact⟨s,hs,(JG (mem64.1 hs) hm m).1 h⟩
  cases h
 rintro⟨s,hs,h⟩;by_cases hm:Ww P s=true
 ·exact⟨s,hs,by rw[ZcA hm];exact(JG (mem64.1 hs) hm m).2 h⟩
 rw[sO hm]at h;cases h
open Go Go.Am
def Qd(p:Nat->Bool):Nat->Int
 |0=>-1
 |n+1=>if Qd p n=-1 then (if p n=true then n else -1) else Qd p n
def DQ{p:Nat->Bool}:∀ {n:Nat},(∀ j,j<n->p j=false)->Qd p n=-1
 |0,_=>rfl
 |n+1,h=>by
  unfold Qd;rw[ZcA (DQ fun j hj=>h j (by omega)),h n (by omega)];rfl
def ti{p:Nat->Bool}{i:Nat}:∀ {n:Nat},i<n->p i=true->(∀ j,j<i->p j=false)->Qd p n=i
 |0,h,_,_=>by omega
 |n+1,h,hp,hn=>by
  unfold Qd;by_cases e:i=n
  ·subst e;rw[ZcA (DQ hn),ZcA hp]
  rw[ti (by omega) hp hn,Zcz (by omega)]
def tF{p:Nat->Bool}:∀ {n:Nat},0<=Qd p n↔∃ i,i<n/\p i=true
 |0=>by simp[Qd]
 |n+1=>by
  have ih:=tF (p:=p) (n:=n);unfold Qd;by_cases h:Qd p n=-1
  ·rw[ZcA h];have hn:¬ ∃ i,i<n/\p i=true:=fun hx=>by have:=ih.2 hx;omega
   by_cases hp:p n=true
   ·rw[ZcA hp];exact⟨fun _=>⟨n,by omega,hp⟩,fun _=>by omega⟩
   rw[Zcz hp];constructor
   ·intro h;omega
   rintro⟨i,hi,hx⟩;by_cases e:i=n
   ·subst e;exact absurd hx hp
   exact absurd ⟨i,by omega,hx⟩ hn
  rw[Zcz h,ih];constructor
  ·rintro⟨i,hi,h⟩;exact⟨i,by omega,h⟩
  rintro⟨i,hi,hp⟩;by_cases e:i=n
  ·have hlo:-1<=Qd p n:=fstI_lo n;exact ih.1 (by omega)
  exact⟨i,by omega,hp⟩
 where
 fstI_lo:∀ n,-1<=Qd p n
  |0=>Int.le_refl _
  |n+1=>by
   have:=fstI_lo n;unfold Qd;split
   ·split <;> omega
   exact this
def sh{md:Md}(M:Nat->Int)(t:Int):WR AM 190 [.s (.int .i64 t),.ptr 0 0 136] [.sc md 136 (ia M)] (fun v _ L=>v=.s (.bool (!Y1 M t))/\(0,Blk.sc md 136 (ia M))∈L):=by
 refine YL (a:=a190) G G (YI _) (ZQ G) (m:=1) G (Ze (Yq G (Zf (Zj G (Yt G (U4 _) G G G (Yv (r:=.bool _) G G (Zk G (Ys (t:=7) G (fun h1=>?_) (fun h1=>?_))))))))) <;> simp only[NM]at h1
 ·try simp only[isM,Zb7,ZbJ]at h1
  refine ZE G (ZD G (ZC G (Zq G (Zk G (Zg G (⟨ZI ?_,ZM⟩))))));unfold Y1 isM;(rw[Zci (by assumption)];rfl)
 try simp only[isM,Zb7,ZbJ]at h1
 refine Yb G (Zj G (Yb G (Zy G (Yb G (Zy G (Yb G (Zw G G G (Yb G (Yp G G ZM (Yb G (YB G .nil (Yb G (Yw G G (Zq G (Zk G (Zg G (⟨ZI ?_,ZM⟩)))))))))))))))));unfold Y1 isM;(rw[Zcl (by assumption),Bool.true_and];rfl)
def ud{md md2:Md}{q:Nat}{c:Cp}(K M:Nat->Int)(nn:Nat)(hnn:nn<=1000000):WR AM 174 [.sl 0 0 nn 1 c,.fn 190 [.ptr 1 0 136]] [.sc md q (ia K),.sc md2 136 (ia M)] (fun v _ L=>v=.s (.int .i64 (Qd (fun j=>!Y1 M (K j)) nn))/\(0,Blk.sc md q (ia K))∈L/\(1,Blk.sc md2 136 (ia M))∈L):=by
 refine YL (a:=a174) G G (YI _) (ZQ G) (m:=2) G (Ze (Yq G (Yc (Ye (Ze (Zn G (WX G (Yq G (Yc (Yk (Xo (.refl _) (Xu (fun m f _ L=>∃ (i:Nat),(i<=nn)/\(m=nn-i)/\(∀ j,j<i->(!Y1 M (K j))=false)/\(f 0=.sl 0 0 nn 1 c)/\(f 1=.fn 190 [.ptr 1 0 136])/\(f 7=.s (.int .i64 nn))/\(f 8=.s (.int .i64 i))/\(L=[(0,.sc md q (ia K)),(1,.sc md2 136 (ia M))])) (fun m f nb L hI=>?_) (nn) (⟨0,by omega,by omega,fun j hj=>by omega,rfl,rfl,rfl,rfl,rfl⟩)))))))))))));obtain⟨i,hi,hm,hn,k0,k1,k7,k8,rfl⟩:=hI;refine Za 0 k0 (Za 1 k1 (Za 7 k7 (Za 8 k8 (Ze (Zr G (Yc (Ye (Yj G (fun h2=>?_) (fun h2=>?_))))))))) <;> simp only[NM]at h2
 ·refine Yh (Ye (Yk (Ze (Zj G (Zj G (Zf (Yq (v:=.fn _ _) G (Zn G (Zj G (Zx G G (Ym (x:=K i) G G ZM (by rw[show 0+(i:Int).toNat*1=i by omega]) (Wr (rs:=[1]) (Bs:=[.sc md2 136 (ia M)]) G (V4 (sh M (K i))) G G (YF G) (fun _ h=>h) G ⟨ZN,⟨_,_,_,G⟩,trivial⟩ G G G (.cons (.there .here) .nil) (Yc (Yj G (fun h3=>?_) (fun h3=>?_))))))))))))))) <;> simp only[NM]at h3
  ·refine Ze (Zj G (Zj G (Yc (Yi (⟨_,ZL G,?_⟩)))));refine⟨ZJ ?_,ZM,ZN⟩;exact(ti (i:=i) (by omega) (by simp[*]) hn).symm
  refine Yh (Yf (Zs G G (Zj G (Yc (⟨nn-(i+1),_,by omega,(.refl _),i+1,by omega,rfl,?_,rfl,rfl,rfl,rfl,rfl⟩)))));intro j hj;by_cases e:j=i
  ·subst e;simp[*]
  exact hn j (by omega)
 refine Y0 (Xb (Ze (Yq G (Yc (Yi (⟨_,ZL G,?_⟩))))));refine⟨ZJ ?_,ZM,ZN⟩;exact(DQ fun j hj=>hn j (by omega)).symm
def wC{md md2:Md}{q:Nat}{c:Cp}(K M:Nat->Int)(nn:Nat)(hnn:nn<=1000000):WR AM 189 [.sl 0 0 nn 1 c,.fn 190 [.ptr 1 0 136]] [.sc md q (ia K),.sc md2 136 (ia M)] (fun v _ L=>v=.s (.bool (decide (0<=Qd (fun j=>!Y1 M (K j)) nn)))/\(0,Blk.sc md q (ia K))∈L/\(1,Blk.sc md2 136 (ia M))∈L):=by
 refine YL (a:=a189) G G (YI _) (ZQ G) (m:=2) G (Ze (Yq G (Zf (Zn G (Yq (v:=.fn _ _) G (Vy (rs:=[0,1]) (Bs:=[.sc md q (ia K),.sc md2 136 (ia M)]) G (kZ (ud K M nn hnn)) G G (YF G) (fun _ h=>h) G ⟨ZM,⟨_,_,_,G⟩,ZN,⟨_,_,_,G⟩,trivial⟩ G G G (.cons .here (.cons (.there .here) .nil)) (Zr G (Zk G (Zg G ?_)))))))));exact⟨G,ZM,ZN⟩
def o9{md:Md}{q:Nat}{c:Cp}(K M:Nat->Int)(nn:Nat)(hnn:nn<=1000000):WR AM 173 [.agg 136 (ia M),.sl 0 0 nn 1 c] [.sc md q (ia K)] (fun v _ L=>v=.s (.bool (!decide (0<=Qd (fun j=>!Y1 M (K j)) nn)))/\(0,Blk.sc md q (ia K))∈L):=by
 refine YL (a:=a173) G G (YI _) (ZQ G) (m:=1) G (Ze (YC G (Yq G (Zf (Zn G (KF G (Vy (rs:=[0,1]) (Bs:=[.sc md q (ia K),.sc .var 136 (ia M)]) G (kZ (wC K M nn hnn)) G G (YF G) (fun _ h=>h) G ⟨ZN,⟨_,_,_,G⟩,ZM,⟨_,_,_,G⟩,trivial⟩ G G G (.cons (.there .here) (.cons .here .nil)) (Yv (r:=.bool _) G G (Zk G (Zg G ?_))))))))));exact⟨G,ZN⟩
def free_l{M K:Nat->Int}{l:List Int}(hK:∀ i,i<l.length->K i=l.getD i 0):(!decide (0<=Qd (fun j=>!Y1 M (K j)) l.length))=l.all (Y1 M):=by
 rw[Zce,Zb6,ZbJ,tF,Zcc];constructor
 ·intro h x hx;obtain⟨j,hj,rfl⟩:=List.mem_iff_getElem.1 hx
  cases hf:Y1 M l[j] with
  |true=>rfl
  |false=>exact absurd ⟨j,hj,by rw[hK j hj,ZbD,ZbH hj];simp[hf]⟩ h
 rintro h ⟨j,hj,hx⟩;rw[hK j hj,ZbD,ZbH hj]at hx;have:=h _ (List.getElem_mem hj);simp[this]at hx
def free_rb{md:Md}{q:Nat}{c:Cp}(K M:Nat->Int)(l:List Int)(hK:∀ i,i<l.length->K i=l.getD i 0)(hl:l.length<=1000000):RB AM 173 [.agg 136 (ia M),.sl 0 0 l.length 1 c] [.sc md q (ia K)] (.s (.bool (l.all (Y1 M)))) [.sc md q (ia K)]:=by
 have:=V4 (o9 (md:=md) (q:=q) (c:=c) K M l.length hl);rw[free_l hK]at this;exact this
open Go Go.Am
def eqI_cut{n:Nat}{Y Z:Nat->Int}:eqI n (ovA (fun _=>0) 0 n Y) Z=eqI n Y Z:=by
 rw[Zce,Qo,Qo];exact⟨fun h i hi=>by have:=h i hi;rwa [X3 (by omega),Nat.sub_zero]at this,fun h i hi=>by rw[X3 (by omega),Nat.sub_zero];exact h i hi⟩
def Wa(M:Nat->Int)(c t:Int):Bool:=(!Xf M t&&decide (R9 M t=XT c))||(Y1 M t&&decide (t=M 130))
def Ky{M:Nat->Int}{c t:Int}(h:Y1 M t=true)(h2:t=M 130):Wa M c t=true:=by
 unfold Wa;rw[h,Zcl h2];simp
def K8(M:Nat->Int)(s c:Int):U2 M s c=(if Y1 M (YT s 0 (1-2*c))=true then [YT s 0 (1-2*c)] else [])++(if Wh s=1+5*c/\Y1 M (YT s 0 (1-2*c))=true/\Y1 M (YT s 0 (2*(1-2*c)))=true then [YT s 0 (2*(1-2*c))] else [])++(Wk M s).filter (Wa M c):=rfl
def QX{P:Nat->Int}{s t:Int}(h:t∈Wk P s):0<=t/\t<64:=by
 unfold Wk at h;split at h
 ·exact tA (srtM_mem.1 h)
 cases h
def Jg(P:Nat->Int)(s:Int):(Wk P s).length<=64:=by
 unfold Wk;split
 ·rw[(Q5 _).length_eq];exact DR P s
 exact Zct _
def Zak{l:List Int}{i:Nat}(hi:i<l.length):l.getD i 0∈l:=by
 rw[ZbD,ZbH hi];exact List.getElem_mem hi
def DD{p:Int->Bool}{r:List Int}{i:Nat}(hi:i<r.length)(h:p (r.getD i 0)=true):(r.take (i+1)).filter p=(r.take i).filter p++[r.getD i 0]:=by
 rw[VX 0 hi,List.filter_append,List.filter_cons,h,ZcA rfl];rfl
def TW{p:Int->Bool}{r:List Int}{i:Nat}(hi:i<r.length)(h:p (r.getD i 0)=false):(r.take (i+1)).filter p=(r.take i).filter p:=by
 rw[VX 0 hi,List.filter_append,List.filter_cons,h,Zcz (by decide)];simp
def UG{p:Prop}[Decidable p](x:Int):(if p then [x] else []).length<=1:=by split <;> simp
def KX{md:Md}{q:Nat}{c:Cp}(n:Nat)(K M:Nat->Int)(l:List Int)(hn:l.length=n)(hK:∀ i,i<l.length->K i=l.getD i 0)(hl:n<=1000000):RB AM 173 [.agg 136 (ia M),.sl 0 0 n 1 c] [.sc md q (ia K)] (.s (.bool (l.all (Y1 M)))) [.sc md q (ia K)]:=by
 subst hn;exact free_rb K M l hK hl
def QR{p:Int->Bool}{x:Int}:[x].all p=p x:=by simp
def QN{p:Int->Bool}{x y:Int}:[x,y].all p=(p x&&p y):=by simp
def QQ{p:Int->Bool}{x y z:Int}:[x,y,z].all p=(p x&&(p y&&p z)):=by simp
def gU(M:Nat->Int)(ha:0<=M 133/\M 133<64)(hc:M 135=0\/M 135=1):RtR AM 154 1 [.agg 136 (ia M)] [] (U2 M (M 133) (M 135)) []:=by
 refine Qq (YL (a:=a154) G G (YI _) (ZQ G) (m:=0) G (Ze (YC G (Yq G (Zf (Yd (o':=134) G G G (Yd (o':=135) G G G (Ym G G ZM G (Wn G G (by omega) (Zt G G (Zj G (Yc (Ye (Yg (Yd (o':=133) G G G (Ym G G ZM G (Zj G (Yu G (UC _ _ _) G G G (Yd (o':=133) G G G (Ym G G ZM G (Zj G (Wn G G (by omega) (Yt G (UC _ _ _) G G G (Zj G (Zj G (Yc (Wz (fun f n L=>∃ (vA:V) (ownA:HA),(Rw 1 ((if Y1 M (YT (M 133) 0 (1-2*(M 135)))=true then [(YT (M 133) 0 (1-2*(M 135)))] else [])) vA ownA)/\(f 1=.ptr 0 0 136)/\(f 2=vA)/\(f 4=.s (.int .i64 (YT (M 133) 0 (1-2*(M 135)))))/\(f 5=.s (.int .i64 (YT (M 133) 0 (2*(1-2*(M 135))))))/\(L=(ownA++[(0,.sc .var 136 (ia M))]))) ?_ (fun f nb L hI=>?_))))))))))))))))))))))))))))
 ·refine Ze (Yo G G ZM (Zj G (XA G (.one G .nil) (Vy (rs:=[1]) (Bs:=[_]) (av:=[.agg 136 (ia M),.sl (1) 0 1 1 (.ex 1)]) G (KX (c:=.ex 1) 1 _ M [(YT (M 133) 0 (1-2*(M 135)))] G jv (YF G)) G G (YF G) (fun _ h=>h) (by simp[rnL,V.renL,V.ren,pos]) ⟨ZM,⟨_,_,_,G⟩,trivial⟩ G G G (.cons .here .nil) (Yc (Yj G (fun h1=>?_) (fun h1=>?_)))))))
  ·try simp only[QR,QN,QQ,Zca,ZbO]at h1
   refine Yf (Yq (v:=.snil) G (Zj G (XA G (.one G .nil) (XZ (c:=[(YT (M 133) 0 (1-2*(M 135)))]) G (Rw.nil G) G ZM (Dr.here (own:=[])) (by decide) (by decide) G (Jn) (by simp only[List.length_nil];omega) (fun v1 own1 n1 hr1=>Yq (v:=v1) G (Yc (⟨_,(ZbY (.refl _) (.cons _ (.cons _ (.refl _)))),_,own1,?_,G,G,G,G,G⟩)))))));(rw[ZcA (by assumption)];exact hr1)
  try simp only[QR,QN,QQ,Zca,ZbO]at h1
  refine Yh (⟨_,(.cons _ (.refl _)),_,[],?_,G,G,G,G,G⟩);(rw[Zcz (by simp[*])];exact(Rw.nil rfl))
 obtain⟨vA,ownA,hrA,k1,k2,k4,k5,rfl⟩:=hI;refine Za 1 k1 (Za 2 k2 (Za 4 k4 (Za 5 k5 (Wz (fun f n L=>∃ (vA:V) (ownA:HA),(Rw 1 ((if Y1 M (YT (M 133) 0 (1-2*(M 135)))=true then [(YT (M 133) 0 (1-2*(M 135)))] else [])++(if Wh (M 133)=1+5*(M 135)/\Y1 M (YT (M 133) 0 (1-2*(M 135)))=true/\Y1 M (YT (M 133) 0 (2*(1-2*(M 135))))=true then [(YT (M 133) 0 (2*(1-2*(M 135))))] else [])) vA ownA)/\(f 1=.ptr 0 0 136)/\(f 2=vA)/\(L=(ownA++[(0,.sc .var 136 (ia M))]))) ?_ (fun f nb L hI=>?_)))))
 ·refine Ye (Yg (Yd (o':=133) G G G (Ym G G (ZbM _ ZM) G (Yu G (KG _) G G G (Yd (o':=134) G G G (Yd (o':=135) G G G (Ym G G (ZbM _ ZM) G (Wn G G (by omega) (Zs G G (Zr G (Zk G (Ys (t:=40) G (fun h2=>?_) (fun h2=>?_))))))))))))) <;> simp only[NM]at h2
  ·refine Yb G (Yo G G (ZbM _ ZM) (Yb G (Zj G (Yb G (Zj G (Yb G (XA G (.one G (.one G .nil)) (Yb G (Vy (rs:=[nb]) (Bs:=[_]) (av:=[.agg 136 (ia M),.sl (nb) 0 2 1 (.ex 2)]) G (KX (c:=.ex 2) 2 _ M [(YT (M 133) 0 (1-2*(M 135))),(YT (M 133) 0 (2*(1-2*(M 135))))] G sP (YF G)) G G (YF G) (fun _ h=>h) (by simp[rnL,V.renL,V.ren,pos]) ⟨ZM,⟨_,_,_,G⟩,trivial⟩ G G G (.cons .here .nil) (Zq G (Yc (Yj G (fun h3=>?_) (fun h3=>?_)))))))))))))
   ·try simp only[QR,QN,QQ,Zca,ZbO]at h3
    refine Yf (Yq (v:=vA) G (Zj G (XA G (.one G .nil) (XZ (c:=[(YT (M 133) 0 (2*(1-2*(M 135))))]) G hrA G ZM (.there (.there .here)) (by decide) (by decide) G (Jn) (by have:=UG (p:=Y1 M (YT (M 133) 0 (1-2*(M 135)))=true) (YT (M 133) 0 (1-2*(M 135)));omega) (fun v2 own2 n2 hr2=>Yq (v:=v2) G (Yc (⟨_,(ZbY (.refl _) (.cons _ (.cons _ (.refl _)))),_,own2,?_,G,G,G⟩)))))));(rw[ZcA (c:=Wh (M 133)=1+5*(M 135)/\_/\_) ⟨by assumption,by assumption⟩];exact hr2)
   try simp only[QR,QN,QQ,Zca,ZbO]at h3
   refine Yh (⟨_,(.cons _ (ZbY (.refl _) (.refl _))),_,ownA,?_,G,G,G⟩);(rw[Zcz (c:=Wh (M 133)=1+5*(M 135)/\_/\_) (by rintro⟨a1,a2,a3⟩;simp_all),Zcf];exact hrA)
  refine ZE G (ZC G (Zq G (Yc (ZB G (Yh (⟨_,(ZbY (.refl _) (.refl _)),_,ownA,?_,G,G,G⟩))))));(rw[Zcz (c:=Wh (M 133)=1+5*(M 135)/\_/\_) (by rintro⟨a1,a2,a3⟩;simp_all),Zcf];exact hrA)
 obtain⟨vA,ownA,hrA,k1,k2,rfl⟩:=hI;refine Za 1 k1 (Za 2 k2 (Ye (Ze (Zy G (Yo G G (ZbM _ ZM) (Yd (o':=133) G G G (Ym G G (ZbM _ ZM) G ?_)))))));obtain⟨r,hreq⟩:∃ r,r=Wk M (M 133):=⟨_,rfl⟩
 have hfrom:=tO M (M 133);rw[<-hreq]at hfrom;have hrl:r.length<=64:=by rw[hreq];exact Jg _ _
 refine YE G (hfrom) G G (fun v3 own3 n3 hr3=>Xk G hr3.rx (by decide) Te (Yq G (Yc (Yk (wQ (Dr.appR _ .here).all (Xo (ZbY (.refl _) (ZbY (.refl _) (.refl _))) (Xu (fun m f _ L=>∃ (i:Nat) (vO:V) (ownO:HA),(i<=r.length)/\(m=r.length-i)/\(Rw 1 ((if Y1 M (YT (M 133) 0 (1-2*(M 135)))=true then [(YT (M 133) 0 (1-2*(M 135)))] else [])++(if Wh (M 133)=1+5*(M 135)/\Y1 M (YT (M 133) 0 (1-2*(M 135)))=true/\Y1 M (YT (M 133) 0 (2*(1-2*(M 135))))=true then [(YT (M 133) 0 (2*(1-2*(M 135))))] else [])++(r.take i).filter (Wa M (M 135))) vO ownO)/\(f 1=.ptr 0 0 136)/\(f 2=vO)/\(f 55=v3)/\(f 56=.s (.int .i64 r.length))/\(f 57=.s (.int .i64 i))/\(L=(ownO++(own3++[(0,.sc .var 136 (ia M))])))) (fun m f nb L hI=>?_) (r.length) (⟨0,vA,ownA,by omega,by omega,by rw[List.take_zero,List.filter_nil,Zcf];exact hrA,rfl,rfl,rfl,rfl,rfl,rfl⟩))))))));obtain⟨i,vO,ownO,hi,hm,hrO,k1,k2,k55,k56,k57,rfl⟩:=hI;refine Za 1 k1 (Za 2 k2 (Za 55 k55 (Za 56 k56 (Za 57 k57 (Ze (Zr G (Yc (Ye (Yj G (fun h4=>?_) (fun h4=>?_)))))))))) <;> simp only[NM]at h4
 ·refine Yh (Ye (Yk (Ze ?_)));have htb:0<=r.getD i 0/\r.getD i 0<64:=QX (P:=M) (s:=M 133) (by rw[<-hreq];exact Zak (by omega));obtain⟨b3,q3,md3,c3,F3,rfl,rfl,hF3⟩:=hr3.rx.at (by decide) Te (by omega);refine Zx G G (Ym (x:=(r.getD i 0)) G G (ZbM _ ZM) (ld1 hF3 (by omega)) (Zj G (Zf (Zj G (Zy G (Zy G (Zw G G G (Yp G G (ZbM _ ZN) (Yy (Yz G G G G .here (Yc (Ye (Yg (Yo G G ZM (YB G .nil (Yx (b:=!Xf M (r.getD i 0)) G G (congrArg (fun b=>!b) eqI_cut) (Zk G (Ys (t:=69) G (fun h5=>?_) (fun h5=>?_))))))))))))))))))) <;> simp only[NM]at h5
  ·refine Yb G (Zz G (Yb G (Ym (x:=R9 M (r.getD i 0)) G G ZM (G) (Yb G (Yd (o':=134) G G G (Yb G (Yd (o':=135) G G G (Yb G (Ym G G (.tail _ (ZbM _ ZN)) G (Yb G (Yu G (YP (VW _)) G G G (Yb G (Zr G (Zq G (Zk G (Ys (t:=78) G (fun h6=>?_) (fun h6=>?_))))))))))))))))) <;> simp only[NM]at h6
   ·refine ZE G (ZC G (YJ G (YJ G (YJ G (YJ G (YJ G (ZC G (Zq G (Yc (ZA G (Yf (Yq (v:=vO) G (Zj G (XA G (.one G .nil) (XZ (c:=[(r.getD i 0)]) G hrO G ZM (.there (.there .here)) (by decide) (by decide) G (Jn) (by rw[Zb2,Zb2];have:=UG (p:=Y1 M (YT (M 133) 0 (1-2*(M 135)))=true) (YT (M 133) 0 (1-2*(M 135)));have:=UG (p:=Wh (M 133)=1+5*(M 135)/\Y1 M (YT (M 133) 0 (1-2*(M 135)))=true/\Y1 M (YT (M 133) 0 (2*(1-2*(M 135))))=true) (YT (M 133) 0 (2*(1-2*(M 135))));have:=ZbU (Wa M (M 135)) (r.take i);rw[Zcb]at this;omega) (fun v4 own4 n4 hr4=>Yq (v:=v4) G (Yc (Yf (Zs G G (Zj G (Yc (⟨r.length-(i+1),_,by omega,(ZbY (.refl _) (.cons _ (.cons _ (.refl _)))),i+1,_,_,by omega,rfl,?_,rfl,rfl,rfl,rfl,rfl,rfl⟩))))))))))))))))))))));(rw[DD (p:=Wa M (M 135)) (i:=i) (by omega) (by first|exact Ky (by assumption) (by assumption)|(unfold Wa;simp[*,-hreq,-List.getD_eq_getElem?_getD])|(unfold Wa;simp_all [-hreq,-List.getD_eq_getElem?_getD])),<-Zb5];exact hr4)
   refine Yb G (Yo G G (.tail _ (ZbM _ ZN)) (Yb G (Zj G (Yb G (XA G (.one G .nil) (Yb G (Vy (rs:=[nb+1]) (Bs:=[_]) (av:=[.agg 136 (ia M),.sl (nb+1) 0 1 1 (.ex 1)]) G (KX (c:=.ex 1) 1 _ M [(r.getD i 0)] G jv (YF G)) G G (YF G) (fun _ h=>h) (by simp[rnL,V.renL,V.ren,pos]) ⟨ZM,⟨_,_,_,G⟩,trivial⟩ G G G (.cons .here .nil) (Yb G (Zk G (Ys (t:=83) G (fun h7=>?_) (fun h7=>?_)))))))))))
   ·try simp only[QR,QN,QQ,Zca,ZbO]at h7
    refine Yb G (Zj G (Yb G (Zy G (Yb G (Yd (o':=130) G G G (Yb G (Ym G G (.tail _ (.tail _ (ZbM _ ZN))) G (Yb G (Zr G (Yb G (Zq G (Zq G (Yc (Yj G (fun h8=>?_) (fun h8=>?_))))))))))))))) <;> simp only[NM]at h8
    ·refine Yf (Yq (v:=vO) G (Zj G (XA G (.one G .nil) (XZ (c:=[(r.getD i 0)]) G hrO G ZM (.there (.there (.there .here))) (by decide) (by decide) G (Jn) (by rw[Zb2,Zb2];have:=UG (p:=Y1 M (YT (M 133) 0 (1-2*(M 135)))=true) (YT (M 133) 0 (1-2*(M 135)));have:=UG (p:=Wh (M 133)=1+5*(M 135)/\Y1 M (YT (M 133) 0 (1-2*(M 135)))=true/\Y1 M (YT (M 133) 0 (2*(1-2*(M 135))))=true) (YT (M 133) 0 (2*(1-2*(M 135))));have:=ZbU (Wa M (M 135)) (r.take i);rw[Zcb]at this;omega) (fun v5 own5 n5 hr5=>Yq (v:=v5) G (Yc (Yf (Zs G G (Zj G (Yc (⟨r.length-(i+1),_,by omega,(ZbY (.refl _) (.cons _ (.cons _ (.cons _ (.refl _))))),i+1,_,_,by omega,rfl,?_,rfl,rfl,rfl,rfl,rfl,rfl⟩)))))))))));(rw[DD (p:=Wa M (M 135)) (i:=i) (by omega) (by first|exact Ky (by assumption) (by assumption)|(unfold Wa;simp[*,-hreq,-List.getD_eq_getElem?_getD])|(unfold Wa;simp_all [-hreq,-List.getD_eq_getElem?_getD])),<-Zb5];exact hr5)
    refine Yh (Yf (Zs G G (Zj G (Yc (⟨r.length-(i+1),_,by omega,(.cons _ (.cons _ (ZbY (.refl _) (.refl _)))),i+1,_,_,by omega,rfl,?_,rfl,rfl,rfl,rfl,rfl,rfl⟩)))));(rw[TW (p:=Wa M (M 135)) (i:=i) (by omega) (by first|exact Ky (by assumption) (by assumption)|(unfold Wa;simp[*,-hreq,-List.getD_eq_getElem?_getD])|(unfold Wa;simp_all [-hreq,-List.getD_eq_getElem?_getD]))];exact hrO)
   try simp only[QR,QN,QQ,Zca,ZbO]at h7
   refine ZE G (ZC G (Yb G (Zq G (Zq G (Yc (ZB G (Yh (Yf (Zs G G (Zj G (Yc (⟨r.length-(i+1),_,by omega,(.cons _ (.cons _ (ZbY (.refl _) (.refl _)))),i+1,_,_,by omega,rfl,?_,rfl,rfl,rfl,rfl,rfl,rfl⟩))))))))))));(rw[TW (p:=Wa M (M 135)) (i:=i) (by omega) (by first|exact Ky (by assumption) (by assumption)|(unfold Wa;simp[*,-hreq,-List.getD_eq_getElem?_getD])|(unfold Wa;simp_all [-hreq,-List.getD_eq_getElem?_getD]))];exact hrO)
  refine ZE G (ZD G (ZC G (Zq G (Zk G (Yb G (Yo G G (.tail _ (ZbM _ ZN)) (Yb G (Zj G (Yb G (XA G (.one G .nil) (Yb G (Vy (rs:=[nb+1]) (Bs:=[_]) (av:=[.agg 136 (ia M),.sl (nb+1) 0 1 1 (.ex 1)]) G (KX (c:=.ex 1) 1 _ M [(r.getD i 0)] G jv (YF G)) G G (YF G) (fun _ h=>h) (by simp[rnL,V.renL,V.ren,pos]) ⟨ZM,⟨_,_,_,G⟩,trivial⟩ G G G (.cons .here .nil) (Yb G (Zk G (Ys (t:=83) G (fun h9=>?_) (fun h9=>?_))))))))))))))))
  ·try simp only[QR,QN,QQ,Zca,ZbO]at h9
   refine Yb G (Zj G (Yb G (Zy G (Yb G (Yd (o':=130) G G G (Yb G (Ym G G (.tail _ (.tail _ (ZbM _ ZN))) G (Yb G (Zr G (Yb G (Zq G (Zq G (Yc (Yj G (fun h10=>?_) (fun h10=>?_))))))))))))))) <;> simp only[NM]at h10
   ·refine Yf (Yq (v:=vO) G (Zj G (XA G (.one G .nil) (XZ (c:=[(r.getD i 0)]) G hrO G ZM (.there (.there (.there .here))) (by decide) (by decide) G (Jn) (by rw[Zb2,Zb2];have:=UG (p:=Y1 M (YT (M 133) 0 (1-2*(M 135)))=true) (YT (M 133) 0 (1-2*(M 135)));have:=UG (p:=Wh (M 133)=1+5*(M 135)/\Y1 M (YT (M 133) 0 (1-2*(M 135)))=true/\Y1 M (YT (M 133) 0 (2*(1-2*(M 135))))=true) (YT (M 133) 0 (2*(1-2*(M 135))));have:=ZbU (Wa M (M 135)) (r.take i);rw[Zcb]at this;omega) (fun v6 own6 n6 hr6=>Yq (v:=v6) G (Yc (Yf (Zs G G (Zj G (Yc (⟨r.length-(i+1),_,by omega,(ZbY (.refl _) (.cons _ (.cons _ (.cons _ (.refl _))))),i+1,_,_,by omega,rfl,?_,rfl,rfl,rfl,rfl,rfl,rfl⟩)))))))))));(rw[DD (p:=Wa M (M 135)) (i:=i) (by omega) (by first|exact Ky (by assumption) (by assumption)|(unfold Wa;simp[*,-hreq,-List.getD_eq_getElem?_getD])|(unfold Wa;simp_all [-hreq,-List.getD_eq_getElem?_getD])),<-Zb5];exact hr6)
   refine Yh (Yf (Zs G G (Zj G (Yc (⟨r.length-(i+1),_,by omega,(.cons _ (.cons _ (ZbY (.refl _) (.refl _)))),i+1,_,_,by omega,rfl,?_,rfl,rfl,rfl,rfl,rfl,rfl⟩)))));(rw[TW (p:=Wa M (M 135)) (i:=i) (by omega) (by first|exact Ky (by assumption) (by assumption)|(unfold Wa;simp[*,-hreq,-List.getD_eq_getElem?_getD])|(unfold Wa;simp_all [-hreq,-List.getD_eq_getElem?_getD]))];exact hrO)
  try simp only[QR,QN,QQ,Zca,ZbO]at h9
  refine ZE G (ZC G (Yb G (Zq G (Zq G (Yc (ZB G (Yh (Yf (Zs G G (Zj G (Yc (⟨r.length-(i+1),_,by omega,(.cons _ (.cons _ (ZbY (.refl _) (.refl _)))),i+1,_,_,by omega,rfl,?_,rfl,rfl,rfl,rfl,rfl,rfl⟩))))))))))));(rw[TW (p:=Wa M (M 135)) (i:=i) (by omega) (by first|exact Ky (by assumption) (by assumption)|(unfold Wa;simp[*,-hreq,-List.getD_eq_getElem?_getD])|(unfold Wa;simp_all [-hreq,-List.getD_eq_getElem?_getD]))];exact hrO)
 refine Y0 (Xb (Ze (Yq (v:=vO) G (Yq (v:=vO) G (Yc (Yi (⟨_,YH (v:=vO) G (YW),?_⟩)))))));obtain rfl:i=r.length:=by omega
 rw[List.take_length,hreq,<-K8]at hrO;exact⟨_,hrO,(fun _ h=>(ZbV _ h))⟩
def gd{x c:Int}(h:0<=x/\x<=15)(hc:c=0\/c=1):Wc .shr (.int .i64 x) (.int .i64 (2*c))=some (.int .i64 (x/Y4 c)):=by
 obtain⟨n,rfl⟩:∃ n:Nat,x=n:=⟨x.toNat,by omega⟩
 have:n=0\/n=1\/n=2\/n=3\/n=4\/n=5\/n=6\/n=7\/n=8\/n=9\/n=10\/n=11\/n=12\/n=13\/n=14\/n=15:=by omega
 rcases hc with rfl|rfl <;> rcases this with rfl|rfl|rfl|rfl|rfl|rfl|rfl|rfl|rfl|rfl|rfl|rfl|rfl|rfl|rfl|rfl <;> rfl
def ks{c:Int}:Y4 c=1\/Y4 c=4:=by unfold Y4;split <;> simp
def gh{x c:Int}(h:0<=x/\x<=15):0<=x/Y4 c/\x/Y4 c<=15:=by
 rcases ks (c:=c) with e|e <;> rw[e] <;> omega
def Za6{x c:Int}(h:0<=x/\x<=15):Wc .neq (.int .i64 (KW (x/Y4 c) 1)) (.int .i64 0)=some (.bool (decide (x/Y4 c%2=1))):=by
 have e:=ka (C:=x/Y4 c) (s:=1) (gh h) (.inl rfl);rw[Int.ediv_one]at e;show some (S.bool (KW (x/Y4 c) 1 != 0))=_;rw[show(KW (x/Y4 c) 1 != 0)=decide (x/Y4 c%2=1) by rw[Zce,bne_iff_ne,Zb7];exact e]
def Zbt{x c:Int}(h:0<=x/\x<=15):Wc .neq (.int .i64 (KW (x/Y4 c) 2)) (.int .i64 0)=some (.bool (decide (x/(2*Y4 c)%2=1))):=by
 have e:=ka (C:=x/Y4 c) (s:=2) (gh h) (.inr (.inl rfl));have e2:x/Y4 c/2=x/(2*Y4 c):=by rcases ks (c:=c) with e|e <;> rw[e] <;> omega
 rw[e2]at e;show some (S.bool (KW (x/Y4 c) 2 != 0))=_;rw[show(KW (x/Y4 c) 2 != 0)=decide (x/(2*Y4 c)%2=1) by rw[Zce,bne_iff_ne,Zb7];exact e]
def kU{M:Nat->Int}{c t:Int}:eqI 2 (dp M (sqI t)) (ovA (fun _=>0) 0 2 (ov (ov (fun _=>0) 0 4) 1 c))=V3 M c t:=by
 rw[Zce,Qo];unfold V3;rw[Zb7];exact⟨fun h=>⟨h 0 (by omega),h 1 (by omega)⟩,fun h i hi=>by
  obtain rfl|rfl:i=0\/i=1:=by omega
  ·exact h.1
  exact h.2⟩
def Ko{M:Nat->Int}{s k c:Int}(hk:k=6)(hs:s=56*c+4)(h:0<=M 129/\M 129<=15):XR M s k c=(if M 129/Y4 c%2=1/\V3 M c ((56*c+4)+3)=true/\Y1 M ((56*c+4)+1)=true/\Y1 M ((56*c+4)+2)=true then [(56*c+4)+2] else [])++(if M 129/(2*Y4 c)%2=1/\V3 M c ((56*c+4)-4)=true/\Y1 M ((56*c+4)-1)=true/\Y1 M ((56*c+4)-2)=true/\Y1 M ((56*c+4)-3)=true then [(56*c+4)-2] else []):=by
 unfold XR;rw[Zcz (by omega),hs]
def QO{M:Nat->Int}{s k c:Int}(h:k≠6\/s≠56*c+4\/M 129<0\/15<M 129):XR M s k c=[]:=ZcA h
def kC(M:Nat->Int)(ha:0<=M 133/\M 133<64)(hc:M 135=0\/M 135=1):RtR AM 158 1 [.agg 136 (ia M)] [] (XR M (M 133) (M 134) (M 135)) []:=by
 refine Qq (YL (a:=a158) G G (YI _) (ZQ G) (m:=0) G (Ze (YC G (Yq G (Zf (Yd (o':=134) G G G (Yd (o':=135) G G G (Ym G G ZM G (Wn G G (by omega) (Zs G G (Zj G (Yc (Ye (Ze (Yd (o':=134) G G G (Yd (o':=134) G G G (Ym G G ZM G (Zr G (Zk G (Ys (t:=15) G (fun h11=>?_) (fun h11=>?_))))))))))))))))))))) <;> simp only[NM]at h11
 ·refine ZE G (Zq G (Zk G (ZE G (Zq G (Zk G (ZE G (Zq G (Yc (ZA G (Ze (Yq G (Yc (Yi (⟨_,YH (v:=.snil) G (YW),?_⟩))))))))))))));refine⟨[],Rw.nil (QO (by omega)),fun _ h=>nomatch h⟩
 refine Yb G (Yd (o':=133) G G G (Yb G (Ym G G ZM G (Yb G (Zj G (Yb G (Zr G (Zq G (Zk G (Ys (t:=21) G (fun h12=>?_) (fun h12=>?_))))))))))) <;> simp only[NM]at h12
 ·refine ZE G (Zq G (Zk G (ZE G (Zq G (Yc (ZA G (Ze (Yq G (Yc (Yi (⟨_,YH (v:=.snil) G (YW),?_⟩)))))))))));refine⟨[],Rw.nil (QO (by omega)),fun _ h=>nomatch h⟩
 refine Yb G (Zy G (Yb G (Yd (o':=129) G G G (Yb G (Ym G G ZM G (Yb G (Zr G (Zq G (Zk G (Ys (t:=27) G (fun h13=>?_) (fun h13=>?_))))))))))) <;> simp only[NM]at h13
 ·refine ZE G (Zq G (Yc (ZA G (Ze (Yq G (Yc (Yi (⟨_,YH (v:=.snil) G (YW),?_⟩))))))));refine⟨[],Rw.nil (QO (by omega)),fun _ h=>nomatch h⟩
 refine Yb G (Zy G (Yb G (Yd (o':=129) G G G (Yb G (Ym G G ZM G (Yb G (Zr G (Zq G (Yc (Yj G (fun h14=>?_) (fun h14=>?_))))))))))) <;> simp only[NM]at h14
 ·refine Ze (Yq G (Yc (Yi (⟨_,YH (v:=.snil) G (YW),?_⟩))));refine⟨[],Rw.nil (QO (by omega)),fun _ h=>nomatch h⟩
 refine Yh (Ze (Yd (o':=134) G G G (Yd (o':=135) G G G (Ym G G ZM G (YB G (.one G (.one G .nil)) (Yy (Yz G G G G .here (Zf (Zy G (Yd (o':=129) G G G (Ym G G ZN G (Yd (o':=134) G G G (Yd (o':=135) G G G (Ym G G ZN G (Wn G G (by omega) (Yr G G (gd (by omega) hc) (Zj G (Yc (Wz (fun f n L=>∃ (vA:V) (ownA:HA),(Rw 1 ((if M 129/Y4 (M 135)%2=1/\V3 M (M 135) ((56*(M 135)+4)+3)=true/\Y1 M ((56*(M 135)+4)+1)=true/\Y1 M ((56*(M 135)+4)+2)=true then [(56*(M 135)+4)+2] else [])) vA ownA)/\(f 1=.ptr 0 0 136)/\(f 2=vA)/\(f 3=.s (.int .i64 (56*(M 135)+4)))/\(f 4=.ptr 1 0 2)/\(f 5=.s (.int .i64 (M 129/Y4 (M 135))))/\(L=(ownA++[(1,.sc .var 2 (ia (ovA (fun _=>0) 0 2 (ov (ov (fun _=>0) 0 4) 1 (M 135))))),(0,.sc .var 136 (ia M))]))) ?_ (fun f nb L hI=>?_))))))))))))))))))))
 ·refine Ye (Yg (Zj G (Yr G G G (Yr G G (Za6 (by omega)) (Zk G (Ys (t:=48) G (fun h15=>?_) (fun h15=>?_))))))) <;> simp only[NM]at h15
  ·refine Yb G (Zj G (Yb G (Zs G G (Yb G (Zy G (Yb G (Zy G (Yb G (Zw G G G (Yb G (Yp G G ZN (Yb G (Yo G G ZM (Yb G (Yx (b:=V3 M (M 135) ((56*(M 135)+4)+3)) G G (kU) (Zq G (Zk G (Ys (t:=58) G (fun h16=>?_) (fun h16=>?_)))))))))))))))))))
   ·refine Yb G (Yo G G ZN (Yb G (Zj G (Yb G (Zs G G (Yb G (Zj G (Yb G (Zs G G (Yb G (XA G (.one G (.one G .nil)) (Yb G (Vy (rs:=[2]) (Bs:=[_]) (av:=[.agg 136 (ia M),.sl (2) 0 2 1 (.ex 2)]) G (KX (c:=.ex 2) 2 _ M [(56*(M 135)+4)+1,(56*(M 135)+4)+2] G sP (YF G)) G G (YF G) (fun _ h=>h) (by simp[rnL,V.renL,V.ren,pos]) ⟨ZM,⟨_,_,_,G⟩,trivial⟩ G G G (.cons .here .nil) (Zq G (Yc (Yj G (fun h17=>?_) (fun h17=>?_)))))))))))))))))
    ·try simp only[QR,QN,QQ,Zca,ZbO]at h17
     refine Yf (Yq (v:=.snil) G (Zj G (Zs G G (XA G (.one G .nil) (XZ (c:=[(56*(M 135)+4)+2]) G (Rw.nil G) G ZM (Dr.here (own:=[])) (by decide) (by decide) G (Jn) (by simp only[List.length_nil];omega) (fun v1 own1 n1 hr1=>Yq (v:=v1) G (Yc (⟨_,(ZbY (.refl _) (.cons _ (.cons _ (.refl _)))),_,own1,?_,G,G,G,G,G,G⟩))))))));(rw[ZcA ⟨by assumption,by assumption,by assumption⟩];exact hr1)
    try simp only[QR,QN,QQ,Zca,ZbO]at h17
    refine Yh (⟨_,(.cons _ (.refl _)),_,[],?_,G,G,G,G,G,G⟩);(rw[Zcz (by rintro⟨a1,a2,a3⟩;simp_all only[or_self,and_true,and_false,false_or,not_true_eq_false,reduceCtorEq])];exact(Rw.nil rfl))
   refine Ya G G (ZE G (ZD G (Zq G (Yc (ZB G (Yh (⟨_,(.refl _),_,[],?_,G,G,G,G,G,G⟩)))))));(rw[Zcz (by rintro⟨a1,a2,a3⟩;simp_all only[or_self,and_true,and_false,false_or,not_true_eq_false,reduceCtorEq])];exact(Rw.nil rfl))
  refine ZF G (Zq G (Zk G (ZE G (ZD G (ZC G (Zq G (Yc (ZB G (Yh (⟨_,(.refl _),_,[],?_,G,G,G,G,G,G⟩))))))))));(rw[Zcz (by rintro⟨a1,a2,a3⟩;simp_all only[or_self,and_true,and_false,false_or,not_true_eq_false,reduceCtorEq])];exact(Rw.nil rfl))
 obtain⟨vA,ownA,hrA,k1,k2,k3,k4,k5,rfl⟩:=hI;refine Za 1 k1 (Za 2 k2 (Za 3 k3 (Za 4 k4 (Za 5 k5 (Ye (Ye (Yg (Zj G (Yr G G G (Yr G G (Zbt (by omega)) (Zk G (Ys (t:=75) G (fun h18=>?_) (fun h18=>?_))))))))))))) <;> simp only[NM]at h18
 ·refine Yb G (Zj G (Yb G (Zt G G (Yb G (Zy G (Yb G (Zy G (Yb G (Zw G G G (Yb G (Yp G G (ZbM _ ZN) (Yb G (Yo G G (ZbM _ ZM) (Yb G (Yx (b:=V3 M (M 135) ((56*(M 135)+4)-4)) G G (kU) (Zq G (Zk G (Ys (t:=85) G (fun h19=>?_) (fun h19=>?_)))))))))))))))))))
  ·refine Yb G (Yo G G (ZbM _ ZN) (Yb G (Zj G (Yb G (Zt G G (Yb G (Zj G (Yb G (Zt G G (Yb G (Zj G (Yb G (Zt G G (Yb G (XA G (.one G (.one G (.one G .nil))) (Yb G (Vy (rs:=[nb]) (Bs:=[_]) (av:=[.agg 136 (ia M),.sl (nb) 0 3 1 (.ex 3)]) G (KX (c:=.ex 3) 3 _ M [(56*(M 135)+4)-1,(56*(M 135)+4)-2,(56*(M 135)+4)-3] G lit3r (YF G)) G G (YF G) (fun _ h=>h) (by simp[rnL,V.renL,V.ren,pos]) ⟨ZM,⟨_,_,_,G⟩,trivial⟩ G G G (.cons .here .nil) (Zq G (Yc (Yj G (fun h20=>?_) (fun h20=>?_)))))))))))))))))))))
   ·try simp only[QR,QN,QQ,Zca,ZbO]at h20
    refine Yf (Yq (v:=vA) G (Zj G (Zt G G (XA G (.one G .nil) (XZ (c:=[(56*(M 135)+4)-2]) G hrA G ZM (.there (.there .here)) (by decide) (by decide) G (Jn) (by have:=UG (p:=M 129/Y4 (M 135)%2=1/\V3 M (M 135) ((56*(M 135)+4)+3)=true/\Y1 M ((56*(M 135)+4)+1)=true/\Y1 M ((56*(M 135)+4)+2)=true) ((56*(M 135)+4)+2);omega) (fun v2 own2 n2 hr2=>Yq (v:=v2) G (Zf (Yq (v:=v2) G (Yq (v:=v2) G (Yc (Yi (⟨_,YH (v:=v2) G (YW),?_⟩))))))))))));rw[Ko (by omega) (by omega) (by omega)];exact⟨_,by first|(rw[ZcA (c:=M 129/(2*_)%2=1/\_) ⟨by assumption,by assumption,by assumption⟩];exact hr2)|(rw[Zcz (c:=M 129/(2*_)%2=1/\_) (by rintro⟨a1,a2,a3⟩;simp_all only[or_self,and_true,and_false,false_or,not_true_eq_false,reduceCtorEq]),Zcf];exact hr2),(fun _ h=>(ZbV _ h))⟩
   try simp only[QR,QN,QQ,Zca,ZbO]at h20
   refine Yh (Ze (Yq (v:=vA) G (Yq (v:=vA) G (Yc (Yi (⟨_,YH (v:=vA) G (YW),?_⟩))))));rw[Ko (by omega) (by omega) (by omega)];exact⟨_,by first|(rw[ZcA (c:=M 129/(2*_)%2=1/\_) ⟨by assumption,by assumption,by assumption⟩];exact hrA)|(rw[Zcz (c:=M 129/(2*_)%2=1/\_) (by rintro⟨a1,a2,a3⟩;simp_all only[or_self,and_true,and_false,false_or,not_true_eq_false,reduceCtorEq]),Zcf];exact hrA),(fun _ h=>(.tail _ (ZbV _ h)))⟩
  refine Ya G G (ZF G (Zq G (Yc (ZB G (Yh (Ze (Yq (v:=vA) G (Yq (v:=vA) G (Yc (Yi (⟨_,YH (v:=vA) G (YW),?_⟩)))))))))));rw[Ko (by omega) (by omega) (by omega)];exact⟨_,by first|(rw[ZcA (c:=M 129/(2*_)%2=1/\_) ⟨by assumption,by assumption,by assumption⟩];exact hrA)|(rw[Zcz (c:=M 129/(2*_)%2=1/\_) (by rintro⟨a1,a2,a3⟩;simp_all only[or_self,and_true,and_false,false_or,not_true_eq_false,reduceCtorEq]),Zcf];exact hrA),(fun _ h=>(ZbV _ h))⟩
 refine ZF G (Zq G (Zk G (ZF G (ZC G (Zq G (Yc (ZB G (Yh (Ze (Yq (v:=vA) G (Yq (v:=vA) G (Yc (Yi (⟨_,YH (v:=vA) G (YW),?_⟩))))))))))))));rw[Ko (by omega) (by omega) (by omega)];exact⟨_,by first|(rw[ZcA (c:=M 129/(2*_)%2=1/\_) ⟨by assumption,by assumption,by assumption⟩];exact hrA)|(rw[Zcz (c:=M 129/(2*_)%2=1/\_) (by rintro⟨a1,a2,a3⟩;simp_all only[or_self,and_true,and_false,false_or,not_true_eq_false,reduceCtorEq]),Zcf];exact hrA),(fun _ h=>(ZbV _ h))⟩
open Go Go.Am
def E0(M:Nat->Int)(s k c:Int):(XR M s k c).length<=2:=by
 unfold XR;split
 ·exact Zct _
 rw[Zb2];have h1:=UG (p:=M 129/Y4 c%2=1/\V3 M c (s+3)=true/\Y1 M (s+1)=true/\Y1 M (s+2)=true) (s+2);have h2:=UG (p:=M 129/(2*Y4 c)%2=1/\V3 M c (s-4)=true/\Y1 M (s-1)=true/\Y1 M (s-2)=true/\Y1 M (s-3)=true) (s-2);omega
def own_is{M:Nat->Int}{t:Int}(ht:0<=t/\t<64):UT (ia M) t=U5 M (M 135) t:=by
 have hq:sqI t=0+t.toNat*2:=rfl;have e:Xf M t=(decide (M (t.toNat*2)=0)&&decide (M (t.toNat*2+1)=0)):=by
  rw[Zce,Zca,Zb7,Zb7];unfold Xf;rw[Qo,hq,Zcp];exact⟨fun h=>⟨h 0 (by omega),h 1 (by omega)⟩,fun h i hi=>by
   obtain rfl|rfl:i=0\/i=1:=by omega
   ·exact h.1
   exact h.2⟩
 unfold UT U5 R9;rw[e,hq,Zcp];rfl
def allB_true'{p:Nat->Bool}:∀ {n:Nat},(∀ i,i<n->p i=true)->Xp n p=true
 |0,_=>rfl
 |n+1,h=>by
  show(Xp n p&&p n)=true;rw[h n (Nat.lt_succ_self n),allB_true' fun i hi=>h i (Nat.lt_succ_of_lt hi)];rfl
def K2{p q:Int→Bool}:∀ {l:List Int},(∀ t∈l,p t=q t)→l.filter p=l.filter q
 |[],_=>rfl
 |t::l,h=>by rw[List.filter_cons,List.filter_cons,h t ZM,K2 fun u hu=>h u (.tail _ hu)]
def tG{l:List Int}{i:Nat}(hi:i<l.length):l.getD i 0∈l:=by
 rw[ZbD,ZbH hi];exact List.getElem_mem hi
def th{md:Md}(M:Nat->Int):RB AM 156 [.snil,.fn 155 [.ptr 0 0 136]] [.sc md 136 (ia M)] .snil [.sc md 136 (ia M)]:=by
 refine⟨[_],?_,G,⟨_,_,_,G⟩,trivial⟩;rw[WI (pf:=Tz 155) rfl _ _ rfl];rfl
def uD{md:Md}(M F:Nat→Int)(l:List Int)(m q:Nat)(hl:l.length=m)(hF:∀ i,i<l.length→F i=l.getD i 0)(hb:∀ t∈l,0≤t∧t<64)(hm:m≤1000000) :
  ∃ q' F',(∀ i,i<(l.filter fun t=>!U5 M (M 135) t).length->F' i=(l.filter fun t=>!U5 M (M 135) t).getD i 0)/\RNd AM 156 [.sl 0 0 m 1 .whole,.fn 155 [.ptr 1 0 136]] [.sc .grow q (ia F),.sc md 136 (ia M)] (fun b=>.sl b 0 (l.filter fun t=>!U5 M (M 135) t).length 1 .whole) (.sc .grow q' (ia F')) [.dead,.sc md 136 (ia M)]:=by
 have hn:=qM hl hF
 have he:(X1 (ia F) m).filter (fun t=>!UT (ia M) t)=l.filter fun t=>!U5 M (M 135) t:=by
  rw[hn];exact K2 fun t ht=>by rw[own_is (hb t ht)]
 have h1:Xp m (fun i=>VJ (ia F i)&&(decide (0<=Wm (ia F i))&&decide (Wm (ia F i)<64)))=true:=allB_true' fun i hi=>by
  have hx:=hb _ (tG (l:=l) (i:=i) (by omega));rw[<-hF i (by omega)]at hx;show(true&&(decide (0<=F i)&&decide (F i<64)))=true;rw[Zcl hx.1,Zcl hx.2];rfl
 have h2:Xp 136 (fun i=>VJ (ia M i))=true:=allI 136
 have h3:Nat.ble m 4611686018427387904=true:=ZbN (by omega)
 refine⟨_,fun i=>(l.filter fun t=>!U5 M (M 135) t).getD i 0,fun i _=>rfl,2,[.dead,.sc md 136 (ia M),.sc .grow (l.filter fun t=>!U5 M (M 135) t).length (ia fun i=>(l.filter fun t=>!U5 M (M 135) t).getD i 0)],?_,Zcs _,G,G,G,G,G,trivial⟩
 rw[WI (pf:=Tz 155) rfl _ _ rfl]
 show(bif (decide (0≠1)&&(Xp m (fun i=>VJ (ia F i)&&(decide (0<=Wm (ia F i))&&decide (Wm (ia F i)<64)))&&(Xp 136 (fun i=>VJ (ia M i))&&Nat.ble m 4611686018427387904))) then
  some (V.sl 2 0 ((X1 (ia F) m).filter fun t=>!UT (ia M) t).length 1 .whole,[Blk.dead,.sc md 136 (ia M)]++[.sc .grow ((X1 (ia F) m).filter fun t=>!UT (ia M) t).length fun i=>.int .i64 (((X1 (ia F) m).filter fun t=>!UT (ia M) t).getD i 0)]) else none)=_
 rw[h1,h2,h3,he];rfl
def xd(M:Nat->Int)(ha:0<=M 133/\M 133<64)(hc:M 135=0\/M 135=1):RtR AM 127 1 [.agg 136 (ia M)] [] (XL M (M 133) (M 134) (M 135)) []:=by
 refine Qq (YL (a:=a127) G G (YI _) (ZQ G) (m:=0) G (Ze (YC G (Yq G (Yc (Ye (Ze (Yd (o':=134) G G G (Yd (o':=134) G G G (Ym G G ZM G (Zr G (Yc (Yj G (fun h1=>?_) (fun h1=>?_)))))))))))))) <;> simp only[NM]at h1
 ·refine Ze (Yo G G ZM (YE G (gU M ha hc) G G (fun v1 own1 n1 hr1=>Yq (v:=v1) G (Yc (Yi (⟨_,YH (v:=v1) G (YW),?_⟩))))));have e:XL M (M 133) (M 134) (M 135)=U2 M (M 133) (M 135):=ZcA (by assumption);exact⟨_,e ▸ hr1,(fun _ h=>(ZbV _ h))⟩
 refine Yh (Ze (KF G (Yq (v:=.fn _ _) G (Yc (Ye (Zbb [0,1,2,3] [4,5,6,7,8,9,10] [[4,5,6,7,8,9,10],[4,5,7,6,8,9,10],[5,4,6,7,8,9,10],[5,4,7,6,8,9,10],[7,4,5,6,8,9,10],[5,7,4,6,8,9,10]] G (by decide +kernel) ?_))))));simp only[Xy,List.getElem?_cons_zero,List.getElem?_cons_succ];have hfrom:=tO M (M 133);have hcast:=kC M ha hc;have hl1:=Jg M (M 133);have hl2:=ZbU (fun t=>!U5 M (M 135) t) (Wk M (M 133));have hl3:=E0 M (M 133) (M 134) (M 135);refine Zy G (Yo G G ZM (Yd (o':=133) G G G (Ym G G ZM G (Yc (⟨?_,Vd ?_⟩)))))
 ·refine Zay (fun l=>TS (b:=0) (B:=.sc .var 136 (ia M)) (v:=.fn 155 [.ptr 0 0 136]) G G ZM (fun σ _=>rfl) (YE G hfrom G G (fun v own n2 hr=>Yc (ZbM _ ZM))) l) (fun l=>TS (b:=0) (B:=.sc .var 136 (ia M)) (v:=.agg 136 fun i=>ia M (0+i)) G G ZM (fun σ h=>DV (z:=136) (o:=0) G G (by simp only[rdV,h,cond_true]))  (YE G hfrom G G (fun v own n2 hr=>Yc (ZbM _ ZM))) l) G
   (YE rfl hfrom rfl rfl (fun v own n2 hr=>Yc trivial)) (Yq (v:=.fn 155 [.ptr 0 0 136]) rfl (Yc fun l=>TS (b:=0) (B:=.sc .var 136 (ia M)) (v:=.agg 136 fun i=>ia M (0+i)) rfl rfl ZM (fun σ h=>DV (z:=136) (o:=0) rfl rfl (by simp only[rdV,h,cond_true]))  (YE rfl hfrom rfl rfl (fun v own n2 hr=>Yc (ZbM _ ZM))) l))
   (YE rfl hfrom rfl rfl (fun v own n2 hr=>Yq (v:=.fn 155 [.ptr 0 0 136]) rfl (Yc fun l=>TS (b:=0) (B:=.sc .var 136 (ia M)) (v:=.agg 136 fun i=>ia M (0+i)) rfl rfl (ZbM _ ZM) (fun σ h=>DV (z:=136) (o:=0) rfl rfl (by simp only[rdV,h,cond_true]))  (xm (l':=(Wk M (M 133)).filter fun t=>!U5 M (M 135) t) rfl rfl hr .here ZM ⟨_,_,_,rfl⟩ (fun h=>⟨by rw[h];rfl,th M⟩) (fun m q F h1 h2=>uD M F (Wk M (M 133)) m q h1 h2 (fun t ht=>QX ht) (by have:=Jg M (M 133);omega)) (fun v2 own2 n3 hr2=>Yc (ZbM _ ZM))) l)))
 refine YE G (hfrom) G G (fun v2 own2 n2 hr2=>Yq (v:=.fn _ _) G (xm (l':=(Wk M (M 133)).filter fun t=>!U5 M (M 135) t) G G hr2 .here ZM ⟨_,_,_,G⟩ (fun h=>⟨by rw[h];rfl,th M⟩) (fun m q F h1 h2=>uD M F (Wk M (M 133)) m q h1 h2 (fun t ht=>QX ht) (by have:=Jg M (M 133);omega)) (fun v3 own3 n3 hr3=>Yo G G (ZbM _ ZM) (YE G (hcast) G G (fun v4 own4 n4 hr4=>yN G hr3 G (hr4.rx) (fun _ h=>(ZbV _ h)) (Dr.appR _ .here) (by decide) (by omega) (fun v5 own5 n5 hr5=>Yq (v:=v5) G (Yc (Yi (⟨_,YH (v:=v5) G (YW),?_⟩)))))))));have e:XL M (M 133) (M 134) (M 135)=((Wk M (M 133)).filter fun t=>!U5 M (M 135) t)++XR M (M 133) (M 134) (M 135):=Zcz (by assumption);exact⟨_,e ▸ hr5,(fun _ h=>(ZbV _ h))⟩
open Go Go.Am
def jB{Q:Nat->Int}{x y z:Int}(h0:Q 0=x)(h1:Q 1=y)(h2:Q 2=z):∀ i,i < [x,y,z].length->ovA (fun _=>0) (0*3) 3 Q (0+i)=[x,y,z].getD i 0
 |0,_=>h0
 |1,_=>h1
 |2,_=>h2
 |i+3,h=>absurd (show i+3<3 from h) (by omega)
def RU(a b:List Mv):YV (a++b)=YV a++YV b:=by unfold YV;exact List.flatMap_append
def Zey(s k c t:Int):(toM s k c t).length<=4:=by
 unfold toM;split
 ·exact Zcs 4
 exact YF G
def ky(s k c:Int):∀ l:List Int,(l.flatMap (toM s k c)).length<=l.length*4
 |[]=>Zct _
 |t::l=>by
  have h1:=Zey s k c t;have h2:=ky s k c l;rw[Zb8,Zb2,Zcd];omega
def Kn(s k c:Int)(l:List Int):(YV (l.flatMap (toM s k c))).length<=l.length*12:=by
 have:=ky s k c l;rw[YQ];omega
def wB{s k c:Int}{l:List Int}{i:Nat}(hi:i<l.length):YV ((l.take (i+1)).flatMap (toM s k c))=YV ((l.take i).flatMap (toM s k c))++YV (toM s k c (l.getD i 0)):=by
 rw[VX 0 hi,List.flatMap_append,RU];simp
def Em(s t:Int)(j:Nat):List Int:=YV ((([2,3,4,5]:List Int).take j).map fun p=>(s,t,p))
def r7(s t:Int):∀ j,j<4->Em s t (j+1)=Em s t j++[s,t,2+(j:Int)]
 |0,_=>rfl
 |1,_=>rfl
 |2,_=>rfl
 |3,_=>rfl
 |j+4,h=>absurd h (by omega)
def Zaq(s t:Int)(j:Nat):(Em s t j).length<=12:=by
 unfold Em;rw[YQ,List.length_map,Zcb];show min j 4*3<=12;omega
def to_end{s k c t:Int}(hb:0<=t/\t<64)(hk:k=1)(ht:Wh t=7*(1-c)):YV (toM s k c t)=Em s t 4:=by
 unfold Wh at ht;rw[ZcA hb]at ht;unfold toM ZdZ;rw[ZcA (Zcl ⟨hk,ht⟩)];rfl
def rE{s k c t:Int}(hb:0<=t/\t<64)(h:k≠1\/Wh t≠7*(1-c)):YV (toM s k c t)=[s,t,0]:=by
 unfold Wh at h;rw[ZcA hb]at h;unfold toM ZdZ;rw[Zcz (by rw[Zb7];omega)];rfl
def to_rt(M:Nat→Int)(hM:M 135=0∨M 135=1)(l:List Int)(hlen:l.length≤1000)(hb:∀ t∈l,0≤t∧t<64):wS AM 126 1 3 [.agg 136 (ia M)] [] l (YV (l.flatMap (toM (M 133) (M 134) (M 135)))):=by
 refine yk fun v Bs hc=>?_
 refine YL (a:=a126) G G (YI _) (ZQ G) G ?_ (by first|rfl|(cases hc <;> rfl));have hr0:=hc.rx;rw[show YZ 0 Bs=YZ 0 Bs++[] from(Zcf _).symm];generalize hown:YZ 0 Bs=own0 at hr0 ⊢;refine Ze (YC G (Yq G (Yc (Ye (Ze (Yq (v:=v) G (Xk G hr0 (by decide) Te (Yq G (Yc (Yk (Xo (.cons_cons _ (ZbY (.refl _) .slnil)) (Xu (fun m f _ L=>∃ (i:Nat) (vO:V) (ownO:HA),(i<=l.length)/\(m=l.length-i)/\(Rw 3 (YV ((l.take i).flatMap (toM (M 133) (M 134) (M 135)))) vO ownO)/\(f 2=.ptr Bs.length 0 136)/\(f 4=vO)/\(f 8=v)/\(f 9=.s (.int .i64 l.length))/\(f 10=.s (.int .i64 i))/\(L=(ownO++(Bs.length,.sc .var 136 (ia M))::(own0++[])))) (fun m f nb L hI=>?_) (l.length) (⟨0,.snil,[],by omega,rfl,.nil rfl,rfl,rfl,rfl,rfl,rfl,rfl⟩)))))))))))));obtain⟨i,vO,ownO,hi,hm,hrO,k2,k4,k8,k9,k10,rfl⟩:=hI;refine Za 2 k2 (Za 4 k4 (Za 8 k8 (Za 9 k9 (Za 10 k10 (Ze (Zr G (Yc (Ye (Yj G (fun h1=>?_) (fun h1=>?_)))))))))) <;> simp only[NM]at h1
 ·refine Yh (Ye (Yk (Ze ?_)));have htb:0<=l.getD i 0/\l.getD i 0<64:=hb _ (tG (by omega));obtain⟨b0,q0,md0,c0,F0,rfl,rfl,hF0⟩:=hr0.at (by decide) Te (by omega);refine Zx G G (Ym (x:=(l.getD i 0)) G G (ZbM _ ZN) (ld1 hF0 (by omega)) (Zj G (Yc (Ye (Ye (Yg (Yd (o':=134) G G G (Yd (o':=134) G G G (Ym G G (ZbM _ ZM) G (Zr G (Zk G (Ys (t:=18) G (fun h2=>?_) (fun h2=>?_))))))))))))) <;> simp only[NM]at h2
  ·refine ZF G (Zq G (Yc (ZA G (Ze (Yq (v:=vO) G (Yd (o':=133) G G G (Ym G G (ZbM _ ZM) G (Zj G (YB G (.one G (.one G .nil)) (Wp G (.agg G .nil) (XZ (c:=[(M 133),(l.getD i 0),0]) G hrO G ZM (.there .here) (by decide) (by decide) G ((jB G G G)) (by have e1:=Kn (M 133) (M 134) (M 135) (l.take i);rw[Zcb]at e1;omega) (fun v1 own1 n1 hr1=>Yq (v:=v1) G (Yc (Y0 (Xb (Yf (Zs G G (Zj G (Yc (⟨l.length-(i+1),_,by omega,(ZbY (.refl _) (.cons _ (.refl _))),i+1,_,_,by omega,rfl,?_,rfl,rfl,rfl,rfl,rfl,rfl⟩))))))))))))))))))));rw[wB (l:=l) (i:=i) (by omega)];(rw[rE htb (by first|exact .inl (by assumption)|exact .inr (by assumption))];exact hr1)
  refine Yb G (Zj G (Yb G (Yu G (KG _) G G G (Yb G (Yd (o':=134) G G G (Yb G (Yd (o':=135) G G G (Yb G (Ym G G (ZbM _ ZM) G (Yb G (Zt G G (Yb G (Wn G G (by omega) (Yb G (Zr G (Zq G (Yc (Yj G (fun h3=>?_) (fun h3=>?_))))))))))))))))))) <;> simp only[NM]at h3
  ·refine Ze (Yq (v:=vO) G (Yd (o':=133) G G G (Ym G G (ZbM _ ZM) G (Zj G (YB G (.one G (.one G .nil)) (Wp G (.agg G .nil) (XZ (c:=[(M 133),(l.getD i 0),0]) G hrO G ZM (.there .here) (by decide) (by decide) G ((jB G G G)) (by have e1:=Kn (M 133) (M 134) (M 135) (l.take i);rw[Zcb]at e1;omega) (fun v2 own2 n2 hr2=>Yq (v:=v2) G (Yc (Y0 (Xb (Yf (Zs G G (Zj G (Yc (⟨l.length-(i+1),_,by omega,(ZbY (.refl _) (.cons _ (.refl _))),i+1,_,_,by omega,rfl,?_,rfl,rfl,rfl,rfl,rfl,rfl⟩))))))))))))))));rw[wB (l:=l) (i:=i) (by omega)];(rw[rE htb (by first|exact .inl (by assumption)|exact .inr (by assumption))];exact hr2)
  refine Yh (Ze (Yq G (Yc (Yk (Xo (ZbY (.refl _) (.refl _)) (Xu (fun m f _ L=>∃ (j:Nat) (vP:V) (ownP:HA),(j<=4)/\(m=4-j)/\(Rw 3 (YV ((l.take i).flatMap (toM (M 133) (M 134) (M 135)))++Em (M 133) (l.getD i 0) j) vP ownP)/\(f 2=.ptr Bs.length 0 136)/\(f 4=vP)/\(f 6=.s (.int .i64 (l.getD i 0)))/\(f 7=.s (.int .i64 (2+(j:Int))))/\(f 8=.sl b0 0 l.length 1 c0)/\(f 9=.s (.int .i64 l.length))/\(f 10=.s (.int .i64 i))/\(L=(ownP++[(Bs.length,.sc .var 136 (ia M)),(b0,.sc md0 q0 (ia F0))]))) (fun m f nb L hI=>?_) (4) (⟨0,vO,ownO,by omega,by omega,by rw[show Em (M 133) (l.getD i 0) 0=[] from rfl,Zcf];exact hrO,rfl,rfl,rfl,rfl,rfl,rfl,rfl,rfl⟩)))))));obtain⟨j,vP,ownP,hj,hm2,hrP,k2,k4,k6,k7,k8,k9,k10,rfl⟩:=hI;refine Za 2 k2 (Za 4 k4 (Za 6 k6 (Za 7 k7 (Za 8 k8 (Za 9 k9 (Za 10 k10 (Ye (Ze (Zj G (Zr G (Yc (Yj G (fun h4=>?_) (fun h4=>?_))))))))))))) <;> simp only[NM]at h4
  ·refine Yh (Ye (Yk (Yf (Yq (v:=vP) G (Yd (o':=133) G G G (Ym G G (ZbM _ ZM) G (Zj G (Zj G (YB G (.one G (.one G (.one G .nil))) (Wp G (.agg G .nil) (XZ (c:=[(M 133),(l.getD i 0),2+(j:Int)]) G hrP G ZM (.there .here) (by decide) (by decide) G ((jB G G G)) (by have e1:=Kn (M 133) (M 134) (M 135) (l.take i);rw[Zcb]at e1;have e2:=Zaq (M 133) (l.getD i 0) j;rw[Zb2];omega) (fun v3 own3 n3 hr3=>Yq (v:=v3) G (Yc (Yf (Zj G (Zs G G (Zj G (Yc (⟨4-(j+1),_,by omega,(ZbY (.refl _) (.cons _ (.refl _))),j+1,_,_,by omega,rfl,?_,rfl,rfl,rfl,by rw[show(2:Int)+((j+1:Nat):Int)=2+(j:Int)+1 by omega];rfl,rfl,rfl,rfl,rfl⟩)))))))))))))))))));rw[r7 _ _ _ (by omega),<-Zb5];exact hr3
  refine Y0 (Xb (Yf (Zs G G (Zj G (Yc (⟨l.length-(i+1),_,by omega,(ZbY (.refl _) (.refl _)),i+1,_,_,by omega,rfl,?_,rfl,rfl,rfl,rfl,rfl,rfl⟩))))));rw[wB (l:=l) (i:=i) (by omega)];(rw[to_end htb (by assumption) (by assumption)];obtain rfl:j=4:=(by omega);exact hrP)
 refine Y0 (Xb (Ze (Yq (v:=vO) G (Yq (v:=vO) G (Yc (Yi (⟨_,YH (v:=vO) G (YW),?_⟩)))))));obtain rfl:i=l.length:=by omega
 rw[List.take_length]at hrO;exact⟨_,_,hrO,.here,(fun _ h=>(.tail _ h))⟩
open Go Go.Am
def KJ:∀ {l:List Mv} {i:Nat},i<l.length->(YV l).getD (3*i) 0=(l.getD i (0,0,0)).1/\(YV l).getD (3*i+1) 0=(l.getD i (0,0,0)).2.1/\(YV l).getD (3*i+2) 0=(l.getD i (0,0,0)).2.2
 |x::l,0,_=>⟨rfl,rfl,rfl⟩
 |x::l,i+1,h=>by
  have ih:=KJ (l:=l) (i:=i) (by simpa using h);have e:YV (x::l)=x.1::x.2.1::x.2.2::YV l:=rfl;rw[e,show 3*(i+1)=3*i+1+1+1 by omega];exact ih
def mvOf_is{F:Nat->Int}{l:List Mv}{m:Nat}(hl:(YV l).length=m*3)(hF:∀ i,i<(YV l).length->F i=(YV l).getD i 0):VE (ia F) m=l:=by
 have hm:l.length=m:=by rw[YQ]at hl;omega
 unfold VE;refine List.ext_getElem (by simp[hm]) fun i h1 h2=>?_
 rw[List.getElem_map,List.getElem_range];obtain⟨e1,e2,e3⟩:=KJ h2;have hb:3*i+2<(YV l).length:=by rw[YQ];omega
 rw[<-hF _ (by omega)]at e1 e2 e3;have hg:l.getD i (0,0,0)=l[i]:=by rw[ZbD,ZbH h2];rfl
 rw[hg]at e1 e2 e3;show(F (3*i),F (3*i+1),F (3*i+2))=_;rw[e1,e2,e3]
def Zbx(l:List Mv)(hlen:l.length<=1000000):StR AM 128 3 [] [.fn 129 []] (YV l) (YV (KH l)):=by
 have hp:=(Qa l).length_eq;refine⟨by rw[YQ,YQ,hp],fun _=>⟨[],?_,trivial⟩,fun m q F hl hF=>⟨_,gB (F:=F),[_],?_,rfl,⟨_,_,_,rfl⟩,trivial⟩⟩
 ·rw[WI (pf:=RH 129) rfl _ _ rfl];rfl
 rw[WI (pf:=RH 129) rfl _ _ rfl];have hm:l.length=m:=by rw[YQ]at hl;omega
 have hlt:Nat.blt m 4611686018427387904=true:=ZbN (by omega);show(bif Xp (m*3) (fun i=>VJ (ia F i))&&Nat.blt m 4611686018427387904 then some (V.tup [],[Blk.sc .grow q (EL (YV (KH (VE (ia F) m))) (ia F))]) else none)=_;rw[allI,hlt,mvOf_is hl hF,uR];rfl
def rh(P:Nat->Int):WR AM 125 [.agg 133 (ia P)] [] (fun v n L=>v=.fn 153 [.ptr 0 0 133]/\n=1/\L=[(0,.sc .var 133 (ia P))]):=by
 refine YL (a:=a125) G G (YI _) (ZQ G) (m:=0) G (Ye (Yf (YC G (Yq G (Yc (Ye (Yf (KF G (Yq G (Yc ?_))))))))));exact Yi ⟨_,YH G YW,G,G,G⟩
def ww(M:Nat->Int):List Mv:=(XL M (M 133) (M 134) (M 135)).flatMap (toM (M 133) (M 134) (M 135))
def VB(g0 g4:Nat->S)(c:Nat):List V:=[.agg 133 g0,.ptr 1 0 133,.ptr 2 0 1,.undef,.agg 133 g4,.fn 153 [.ptr c 0 133],.undef,.undef,.undef,.undef,.undef,.undef,.undef,.undef,.undef,.undef]
section
variable(g0 g4 g1:Nat->S)(Q:Nat->Int)
noncomputable def Jy(c st:Nat):Blk:=.lp 6 Kx (VB g0 g4 c) st
def Dd(M:Nat→Int)(ha:0≤(ovA (fun _=>0) 0 136 M) 133∧(ovA (fun _=>0) 0 136 M) 133<64)(hc:(ovA (fun _=>0) 0 136 M) 135=0∨(ovA (fun _=>0) 0 136 M) 135=1)(hb:∀ t∈XL (ovA (fun _=>0) 0 136 M) ((ovA (fun _=>0) 0 136 M) 133) ((ovA (fun _=>0) 0 136 M) 134) ((ovA (fun _=>0) 0 136 M) 135),0≤t∧t<64)(hl:(XL (ovA (fun _=>0) 0 136 M) ((ovA (fun _=>0) 0 136 M) 133) ((ovA (fun _=>0) 0 136 M) 134) ((ovA (fun _=>0) 0 136 M) 135)).length≤1000) :
  WR AM 6 [.pan .undef,.yv 0,.agg 136 (ia M)] [Jy g0 g4 3 0,.sc .var 133 g1,.vs .var [.snil],.sc .var 133 (ia Q)] (fun v n L=>v=.s (.bool true)/\ED L [Jy g0 g4 3 0,.sc .var 133 g1] [.sc .var 133 (ia Q)] (YV (ww (ovA (fun _=>0) 0 136 M)))):=by
 refine TF (N:=16) (B:=B100) (f:=YI ((VB g0 g4 3).set 6 (.agg 136 (ia M)))) (caps:=VB g0 g4 3) G G G (Dn G) G (Yf (Yy (Yz G G G G .here (Yc (⟨6,Kx,VB g0 g4 3,G,?_⟩)))))
 refine Yk (Yg (VV (v:=.snil) G G ZP G (Yo G G ZM (Yo G G ZM (QC G (xd (ovA (fun _=>0) 0 136 M) ha hc) G G (fun v1 own1 n1 hr1=>DW (caps:=[]) G (to_rt (ovA (fun _=>0) 0 136 M) hc _ hl hb) G hr1.rx (fun p hp=>ZbV _ hp) G G (fun v2 own2 n2 hr2=>?_)))))))
 have hroom:=Kn ((ovA (fun _=>0) 0 136 M) 133) ((ovA (fun _=>0) 0 136 M) 134) ((ovA (fun _=>0) 0 136 M) 135) (XL (ovA (fun _=>0) 0 136 M) ((ovA (fun _=>0) 0 136 M) 133) ((ovA (fun _=>0) 0 136 M) 134) ((ovA (fun _=>0) 0 136 M) 135))
 refine Et G (Rw.nil G) G hr2.rx (fun p hp=>ZbV _ hp) (Dr.here (own:=[])) (by decide) (by rw[List.length_nil];omega) (fun v3 own3 n3 hr3 hn3=>TK (b:=2) (u:=.snil) (v:=v3) G G hr3.isrow (.appR _ (.appR _ (.appR _ (.appR _ (.there (.there (.there .here))))))) (Vj (L':=own3++[(0,.lp 6 Kx (VB g0 g4 3) 1),(1,.sc .var 133 g1),(2,.vs .var [v3]),(3,.sc .var 133 (ia Q))]) (ZbY (.refl _) (ZbB (ZbB (ZbB (.cons _ (.refl _)))))) (VA List.perm_append_comm (Yc ⟨6,Kx,VB g0 g4 3,G,G,?_⟩))))
 have h4:∀ p∈own3,4<p.1:=fun p hp=>hn3 p hp (4,_) (ZbM _ (ZbM _ ZM))
 rw[List.nil_append]at hr3
 refine JI hr3 ⟨.head _,.tail _ ZM,.tail _ ZN,.tail _ ZO,trivial⟩ (fun p hp=>⟨.tail _ (.tail _ (.tail _ (.tail _ ?_))),Nat.le_of_lt (h4 p hp)⟩)
 show p∈setL 0 _ own3
 rw[Ji (fun p hp=>by have:=h4 p hp;omega)];exact hp
def D2(M:Nat→Int)(ha:0≤(ovA (fun _=>0) 0 136 M) 133∧(ovA (fun _=>0) 0 136 M) 133<64)(hc:(ovA (fun _=>0) 0 136 M) 135=0∨(ovA (fun _=>0) 0 136 M) 135=1)(hb:∀ t∈XL (ovA (fun _=>0) 0 136 M) ((ovA (fun _=>0) 0 136 M) 133) ((ovA (fun _=>0) 0 136 M) 134) ((ovA (fun _=>0) 0 136 M) 135),0≤t∧t<64)(hl:(XL (ovA (fun _=>0) 0 136 M) ((ovA (fun _=>0) 0 136 M) 133) ((ovA (fun _=>0) 0 136 M) 134) ((ovA (fun _=>0) 0 136 M) 135)).length≤1000)(l:List Int)(m q:Nat)(F:Nat→Int)(hlm:l.length=m*3)(hF:∀ i,i<l.length→F i=l.getD i 0)(hll:l.length≤1000000) :
  WR AM 6 [.pan .undef,.yv 0,.agg 136 (ia M)] [Jy g0 g4 4 0,.sc .var 133 g1,Vk .var 3 m 3,.sc .grow q (ia F),.sc .var 133 (ia Q)] (fun v n L=>v=.s (.bool true)/\ED L [Jy g0 g4 4 0,.sc .var 133 g1] [.dead,.sc .var 133 (ia Q)] (l++YV (ww (ovA (fun _=>0) 0 136 M)))):=by
 refine TF (N:=16) (B:=B100) (f:=YI ((VB g0 g4 4).set 6 (.agg 136 (ia M)))) (caps:=VB g0 g4 4) G G G (Dn G) G (Yf (Yy (Yz G G G G .here (Yc (⟨6,Kx,VB g0 g4 4,G,?_⟩)))))
 refine Yk (Yg (VV (v:=.sl 3 0 m 3 .whole) G G ZP G (Yo G G ZM (Yo G G ZM (QC G (xd (ovA (fun _=>0) 0 136 M) ha hc) G G (fun v1 own1 n1 hr1=>DW (caps:=[]) G (to_rt (ovA (fun _=>0) 0 136 M) hc _ hl hb) G hr1.rx (fun p hp=>ZbV _ hp) G G (fun v2 own2 n2 hr2=>?_)))))))
 have hroom:=Kn ((ovA (fun _=>0) 0 136 M) 133) ((ovA (fun _=>0) 0 136 M) 134) ((ovA (fun _=>0) 0 136 M) 135) (XL (ovA (fun _=>0) 0 136 M) ((ovA (fun _=>0) 0 136 M) 133) ((ovA (fun _=>0) 0 136 M) 134) ((ovA (fun _=>0) 0 136 M) 135))
 refine Et G (Rw.row hlm hF) G hr2.rx (fun p hp=>ZbV _ hp) (.appR _ (.appR _ (.there (.there (.there (.there .here)))))) (by decide) (by omega) (fun v3 own3 n3 hr3 hn3=>TK (b:=2) (u:=.sl 3 0 m 3 .whole) (v:=v3) G G hr3.isrow (.appR _ (.there (.appR _ (.appR _ (.appR _ (.there (.there (.there .here)))))))) (Vj (L':=own3++[(3,.dead),(0,.lp 6 Kx (VB g0 g4 4) 1),(1,.sc .var 133 g1),(2,.vs .var [v3]),(4,.sc .var 133 (ia Q))]) (ZbY (.refl _) (.cons_cons _ (ZbB (ZbB (.cons _ (.refl _)))))) (VA List.perm_append_comm (Yc ⟨6,Kx,VB g0 g4 4,G,G,?_⟩))))
 have h4:∀ p∈own3,5<p.1:=fun p hp=>hn3 p hp (5,_) (ZbM _ (ZbM _ ZM))
 refine JI hr3 ⟨.tail _ ZM,.tail _ ZN,.tail _ ZO,.head _,.tail _ ZP,trivial⟩ (fun p hp=>⟨.tail _ (.tail _ (.tail _ (.tail _ (.tail _ ?_)))),Nat.le_of_lt (h4 p hp)⟩)
 show p∈setL 0 _ own3
 rw[Ji (fun p hp=>by have:=h4 p hp;omega)];exact hp
end
end Go.Proofs.YtlkighkfkdpncaaGreatDoor
namespace Go.Proofs.YtlkighkfkdpncaaGreatDoor
open Go Go.Am Go.RowKit Go.Sort Go.Lib
def zC(x y:Mv):ltOf wu x y=decide (lt3 x y):=by
 obtain⟨a,b,c⟩:=x;obtain⟨a',b',c'⟩:=y;unfold ltOf wu or3M Lib.compareInt lt3;refine decide_eq_decide.2 ?_;dsimp only;repeat' split
 all_goals omega
def swo3:SWO (ltOf wu) where
 irrefl x:=by rw[zC];exact Zci fun h=>we x x h h
 trans x y z h1 h2:=by
  rw[zC,Zb7]at *;unfold lt3 at *;omega
 ntrans x y z h1 h2:=by
  rw[zC,ZbJ]at *;unfold lt3 at *;omega
def qf(l:List Mv){i:Nat}(hi:i<l.length*3):(flatK TX 3 l.toArray)[i]! = .int .i64 ((YV l).getD i 0):=by
 rw[get_flatK _ _ _ _ (by simpa using hi)];have h:=KJ (l:=l) (i:=i/3) (by omega);have hg:l.toArray[i/3]! = l.getD (i/3) (0,0,0):=by
  rw[ZbD,ZbH (by omega),getElem!_pos l.toArray (i/3) (by simp;omega)];simp
 rw[hg];have h3:i%3=0\/i%3=1\/i%3=2:=by omega
 rcases h3 with e|e|e
 ·rw[e,show i=3*(i/3) by omega,show 3*(i/3)/3=i/3 by omega,h.1];rfl
 ·rw[e,show i=3*(i/3)+1 by omega,show(3*(i/3)+1)/3=i/3 by omega,h.2.1];rfl
 rw[e,show i=3*(i/3)+2 by omega,show(3*(i/3)+2)/3=i/3 by omega,h.2.2];rfl
section
variable{σ σ':Heap}{args:List V}{v:V}{ι:Inj}{W:World}{av:List Value}
def srt3_ok[Bas](h:RH 129 args σ=some (v,σ'))(hR:RelW ι σ W)(hD:Dom ι σ)(hv:VRL ι args av) :
  Calls Tryz.prog 128 av.toArray W fun e W'=>∃ ι' v',e=.returned v'/\VR ι' v v'/\Post ι σ W ι' σ' W':=by
 have eg:∀ args w,(callFunc 129 args).run Tryz.prog w=.ok (.enter 129 args) w:=enters_of Tryz.func129 (by kernel_rfl) rfl
 unfold RH at h
 split at h
 ·split at h
  ·injection h with h
   injection h with h1 h2
   subst h1;subst h2;simp only[VRL,VR]at hv;obtain⟨_,_,rfl,rfl,_,_,rfl,⟨cs,rfl,rfl⟩,rfl⟩:=hv;refine Calls.mono (Zag _ W) ?_;rintro e W' ⟨rfl,rfl⟩;exact⟨ι,_,G,⟨[],G,G⟩,(QPost.refl hR).post⟩
  cases h
 ·rename_i b m f;split at h
  ·rename_i q g hb
   cases hcond:(decide (f=129)&&(Xp (m*3) (fun i=>VJ (g i))&&Nat.blt m 4611686018427387904)) with
   |false=>rw[hcond]at h;cases h
   |true=>
    rw[hcond,cond_true]at h;injection h with h
    injection h with h1 h2
    subst h1;subst h2;simp only[Zca,Zb7]at hcond;obtain⟨rfl,hg,hm⟩:=hcond;have hm:m<4611686018427387904:=YF hm;simp only[VRL,VR]at hv;obtain⟨_,_,rfl,⟨p,cap,hp,hle,rfl,hcap⟩,_,_,rfl,⟨cs,rfl,rfl⟩,rfl⟩:=hv;have hB:=hR.blk b p _ hp hb;have hlt:=hR.lt b p hp;have hq:m*3<=q:=by have:=hB.1;omega
    have hml:(VE g m).length=m:=by simp[VE]
    have hnum:∀ i,i<m*3->(YV (VE g m)).getD i 0=Wm (g i):=fun i hi=>by
     have h:=KJ (l:=VE g m) (i:=i/3) (by omega);have hg:(VE g m).getD (i/3) (0,0,0)=(Wm (g (3*(i/3))),Wm (g (3*(i/3)+1)),Wm (g (3*(i/3)+2))):=by
      unfold VE;rw[ZbD,Zb9,ZbZ (by omega)];rfl
     rw[hg]at h;have h3:i%3=0\/i%3=1\/i%3=2:=by omega
     rcases h3 with e|e|e
     ·have e':i=3*(i/3):=by omega
      rw[e'];exact h.1
     ·have e':i=3*(i/3)+1:=by omega
      rw[e'];exact h.2.1
     have e':i=3*(i/3)+2:=by omega
     rw[e'];exact h.2.2
    have hH:HoldsK TX 3 W p.c (p.base+0) (VE g m).toArray:=fun j hj=>by
     have hj:j<m*3:=by simpa[hml] using hj
     obtain⟨c1,c2,c3⟩:=hB;obtain⟨hb0,hle',cs,T,hc,hs,hT⟩:=c3 rfl;refine⟨?_,Lib.frozen_of_heap hc _⟩;rw[Nat.add_zero,c2 j (by omega),D5 (JX hg j hj)];show some _=some ((flatK TX 3 (VE g m).toArray)[j]!);rw[qf _ (by rw[hml];exact hj),hnum j hj]
    have hcon:=AnyQ.slices_SortFunc Tryz.laysSF 3 Tryz.isAgg31 Tryz.sizeOf31 TX (fun _=>rfl) (fun x v hv=>by simp[TX]at hv;rcases hv with rfl|rfl|rfl <;> rfl) wu swo3 129 #[] p.c (p.base+0) cap (VE g m).toArray W eg (fun _ _ _ _ x y=>rF x y _) hH hlt (by simp[hml];exact hm);rw[show(VE g m).toArray.size=m by simp[hml]]at hcon;refine Calls.mono hcon ?_;rintro e W' ⟨rfl,d',n,os,hpm,hso,rfl⟩;have hds:d'.size=m:=by have:=hpm.1;simpa[hml] using this
    have hperm:d'.toList.Perm (VE g m):=by
     have:=hpm.2.2;rw[show d'.extract 0 m=d' by rw[<-hds];simp,show(VE g m).toArray.extract 0 m=(VE g m).toArray from(by have h0:List.take m (VE g m)=VE g m:=List.take_of_length_le (by omega);simp[h0])]at this;simpa using this
    have hsorted:d'.toList.Pairwise (fun x y=>¬ lt3 y x):=by
     rw[List.pairwise_iff_getElem];intro i j hi hj hij;have:=hso i j (Zct _) hij (by simpa[hds] using hj);rw[zC,ZbJ,getElem!_pos d' i (by simpa using hi),getElem!_pos d' j (by simpa using hj)]at this;simpa using this
    have hd:d'.toList=KH (VE g m):=go hperm hsorted;have hd2:d'=(KH (VE g m)).toArray:=by rw[<-hd]
    have hsl:(KH (VE g m)).length=m:=by rw[(Qa _).length_eq,hml]
    have hrp:=wA hB id (flatK TX 3 d') (YV (KH (VE g m))) (by simp[hds,YQ,hsl]) (by rw[YQ,hsl];exact hq) (fun i hi=>by
     rw[hd2];exact qf _ (by rw[YQ]at hi;exact hi)) n os hlt
    obtain⟨r1,r2⟩:=hrp;refine⟨ι,_,G,⟨[],G,G⟩,?_⟩;change Post _ _ _ _ _ (Sort.grow (Sort.putRow id (Sort.ahead W n) p.c p.base (flatK TX 3 d')) os);refine vg hR hp hb G ⟨G,G,G,?_⟩ r2 r1;simp[Sort.grow,Sort.putRow,Sort.mapBlock,Sort.ahead]
  cases h
 cases h
end
end Go.Proofs.YtlkighkfkdpncaaGreatDoor
namespace Go.Proofs
open Go.Shelf
def Tryz.lays159_ren:Go.Shelf.Ren:=⟨fun|159=>40|165=>75|166=>46|167=>76|169=>26|230=>77|204=>78|240=>83|241=>103|197=>104|118=>105|168=>106|270=>107|262=>108|276=>111|277=>130|260=>131|242=>132|313=>133|278=>164|274=>165|275=>166|n=>n,fun|9=>9|4=>4|3=>3|5=>5|72=>52|0=>0|76=>85|75=>84|107=>118|70=>49|20=>20|37=>50|127=>102|21=>21|105=>138|164=>145|162=>167|203=>165|119=>189|46=>147|139=>192|138=>191|51=>193|160=>194|208=>217|206=>215|80=>67|n=>n,fun|13=>0|3=>2|4=>3|n=>n⟩
def Tryz.lays159:Go.Proofs.Lays.n159 Tryz.prog Tryz.lays159_ren:={
 mixed:=by kernel_rfl
 f118:=Tryz.func105.trans (congrArg some (by kernel_rfl))
 f159:=Tryz.func40.trans (congrArg some (by kernel_rfl))
 f165:=Tryz.func75.trans (congrArg some (by kernel_rfl))
 f166:=Tryz.func46.trans (congrArg some (by kernel_rfl))
 f167:=Tryz.func76.trans (congrArg some (by kernel_rfl))
 f168:=Tryz.func106.trans (congrArg some (by kernel_rfl))
 f169:=Tryz.func26.trans (congrArg some (by kernel_rfl))
 f197:=Tryz.func104.trans (congrArg some (by kernel_rfl))
 f204:=Tryz.func78.trans (congrArg some (by kernel_rfl))
 f230:=Tryz.func77.trans (congrArg some (by kernel_rfl))
 f240:=Tryz.func83.trans (congrArg some (by kernel_rfl))
 f241:=Tryz.func103.trans (congrArg some (by kernel_rfl))
 f242:=Tryz.func132.trans (congrArg some (by kernel_rfl))
 f260:=Tryz.func131.trans (congrArg some (by kernel_rfl))
 f262:=Tryz.func108.trans (congrArg some (by kernel_rfl))
 f270:=Tryz.func107.trans (congrArg some (by kernel_rfl))
 f274:=Tryz.func165.trans (congrArg some (by kernel_rfl))
 f275:=Tryz.func166.trans (congrArg some (by kernel_rfl))
 f276:=Tryz.func111.trans (congrArg some (by kernel_rfl))
 f277:=Tryz.func130.trans (congrArg some (by kernel_rfl))
 f278:=Tryz.func164.trans (congrArg some (by kernel_rfl))
 f313:=Tryz.func133.trans (congrArg some (by kernel_rfl))
 t0:=Tryz.underlying0
 a0:=Tryz.isAgg0
 z0:=Tryz.sizeOf0
 v0:=Tryz.zeroValue0
 t3:=Tryz.underlying3
 a3:=Tryz.isAgg3
 z3:=Tryz.sizeOf3
 v3:=Tryz.zeroValue3
 t4:=Tryz.underlying4
 a4:=Tryz.isAgg4
 z4:=Tryz.sizeOf4
 v4:=Tryz.zeroValue4
 t5:=Tryz.underlying5
 a5:=Tryz.isAgg5
 z5:=Tryz.sizeOf5
 v5:=Tryz.zeroValue5
 t9:=Tryz.underlying9
 a9:=Tryz.isAgg9
 z9:=Tryz.sizeOf9
 v9:=Tryz.zeroValue9
 t20:=Tryz.underlying20
 a20:=Tryz.isAgg20
 z20:=Tryz.sizeOf20
 v20:=Tryz.zeroValue20
 t21:=Tryz.underlying21
 a21:=Tryz.isAgg21
 z21:=Tryz.sizeOf21
 v21:=Tryz.zeroValue21
 t37:=Tryz.underlying50
 a37:=Tryz.isAgg50
 z37:=Tryz.sizeOf50
 v37:=Tryz.zeroValue50
 t46:=Tryz.underlying147
 a46:=Tryz.isAgg147
 z46:=Tryz.sizeOf147
 v46:=Tryz.zeroValue147
 t51:=Tryz.underlying193
 a51:=Tryz.isAgg193
 z51:=Tryz.sizeOf193
 v51:=Tryz.zeroValue193
 t70:=Tryz.underlying49
 a70:=Tryz.isAgg49
 z70:=Tryz.sizeOf49
 v70:=Tryz.zeroValue49
 t72:=Tryz.underlying52
 a72:=Tryz.isAgg52
 z72:=Tryz.sizeOf52
 v72:=Tryz.zeroValue52
 t75:=Tryz.underlying84
 a75:=Tryz.isAgg84
 z75:=Tryz.sizeOf84
 v75:=Tryz.zeroValue84
 t76:=Tryz.underlying85
 a76:=Tryz.isAgg85
 z76:=Tryz.sizeOf85
 v76:=Tryz.zeroValue85
 t105:=Tryz.underlying138
 a105:=Tryz.isAgg138
 z105:=Tryz.sizeOf138
 v105:=Tryz.zeroValue138
 t107:=Tryz.underlying118
 a107:=Tryz.isAgg118
 z107:=Tryz.sizeOf118
 v107:=Tryz.zeroValue118
 t119:=Tryz.underlying189
 a119:=Tryz.isAgg189
 z119:=Tryz.sizeOf189
 t127:=Tryz.underlying102
 a127:=Tryz.isAgg102
 z127:=Tryz.sizeOf102
 v127:=Tryz.zeroValue102
 t138:=Tryz.underlying191
 a138:=Tryz.isAgg191
 z138:=Tryz.sizeOf191
 v138:=Tryz.zeroValue191
 t139:=Tryz.underlying192
 a139:=Tryz.isAgg192
 z139:=Tryz.sizeOf192
 v139:=Tryz.zeroValue192
 t160:=Tryz.underlying194
 a160:=Tryz.isAgg194
 z160:=Tryz.sizeOf194
 v160:=Tryz.zeroValue194
 t162:=Tryz.underlying167
 a162:=Tryz.isAgg167
 z162:=Tryz.sizeOf167
 v162:=Tryz.zeroValue167
 t164:=Tryz.underlying145
 a164:=Tryz.isAgg145
 z164:=Tryz.sizeOf145
 v164:=Tryz.zeroValue145
 t203:=Tryz.underlying165
 a203:=Tryz.isAgg165
 z203:=Tryz.sizeOf165
 v203:=Tryz.zeroValue165
 t206:=Tryz.underlying215
 a206:=Tryz.isAgg215
 z206:=Tryz.sizeOf215
 v206:=Tryz.zeroValue215
 t208:=Tryz.underlying217
 a208:=Tryz.isAgg217
 z208:=Tryz.sizeOf217
 v208:=Tryz.zeroValue217
 g3:=by kernel_rfl
 g4:=by kernel_rfl
 g13:=by kernel_rfl }
def Tryz.Builder_Extra_159:Builder.Extra Tryz.prog Tryz.lays159_ren:={
 sizeBuilder:=by kernel_rfl
 liesBuilder:=by kernel_rfl
 t5:=Tryz.underlying5
 a5:=Tryz.isAgg5
 z5:=Tryz.sizeOf5
 v5:=Tryz.zeroValue5
 infoByte:=by kernel_rfl
 cellsByte:=by kernel_rfl
 sizeByte:=by kernel_rfl
 neB5:=by decide }
open Go.RowKit in
def Tryz.strings_ToLower_ascii(s:ByteArray)(w:World)(hs:s.size<=140737488355328)(hascii:∀ (j:Nat) (b:UInt8),s.data.toList[j]? = some b->b.toNat<128) :
 Calls Tryz.prog 40 #[.string s] w fun e w'=>e=.returned (.string ⟨(Lib.toLowerA s.data.toList).toArray⟩)/\Below w.heap.size w w':=Any.strings_ToLower_ascii Tryz.lays159 Tryz.Builder_Extra_159 s w hs hascii
def Tryz.lays137_ren:Go.Shelf.Ren:=⟨fun|137=>82|217=>110|266=>135|n=>n,fun|9=>9|5=>5|3=>3|n=>n,fun|n=>n⟩
def Tryz.lays137:Go.Proofs.Lays.n137 Tryz.prog Tryz.lays137_ren:={
 mixed:=by kernel_rfl
 f137:=Tryz.func82.trans (congrArg some (by kernel_rfl))
 f217:=Tryz.func110.trans (congrArg some (by kernel_rfl))
 f266:=Tryz.func135.trans (congrArg some (by kernel_rfl))
 t3:=Tryz.underlying3
 a3:=Tryz.isAgg3
 z3:=Tryz.sizeOf3
 v3:=Tryz.zeroValue3
 t5:=Tryz.underlying5
 a5:=Tryz.isAgg5
 z5:=Tryz.sizeOf5
 v5:=Tryz.zeroValue5
 t9:=Tryz.underlying9
 a9:=Tryz.isAgg9
 z9:=Tryz.sizeOf9
 v9:=Tryz.zeroValue9 }
open Go.RowKit in
def Tryz.strings_IndexByte(s:ByteArray)(c:Int)(w:World) :
 Calls Tryz.prog 82 #[.string s,.int .u8 c] w fun e w'=>e=.returned (.int .i64 (Lib.indexByte s.data.toList c.toNat.toUInt8))/\w'=w:=Any.strings_IndexByte Tryz.lays137 s c w
end Go.Proofs
namespace Go.Proofs
open Go Go.Shelf Go.RowKit
set_option maxHeartbeats 1000000 in
set_option maxRecDepth 100000 in
def Tryz.copyFresh(b:Nat)(w:World)(h0:w.cell? ⟨b,0,none⟩=some (.pointer none))(hsh:w.shape? b=some (54,2))(hfz:w.frozen? ⟨b,0,none⟩=false) :
  Calls Tryz.prog 83 #[.pointer (some ⟨b,0,none⟩)] w fun e w'=>e=.returned (.tuple #[])/\w'=w.setCell ⟨b,0,none⟩ (.pointer (some ⟨b,0,none⟩)):=by
 have hl:liesAt Tryz.prog Tryz.prog.depth 54 (2/Tryz.prog.cellsOf 54) 0 52 1=true:=by kernel_rfl
 obtain⟨j,hj,hjs⟩:=Go.Am.ZbK.1 Tryz.Builder_Extra_159.sizeBuilder
 have hj':Tryz.prog.info? 52=some j:=hj
 have mixed:=Tryz.lays159.mixed
 go_enter Tryz.func83,Tryz.ntmps83
 go_wp2
 rw[Lib.run_to_unsafe w ⟨b,0,none⟩ (show Tryz.prog.underlying 49=some (.pointer 52) from Tryz.lays159.t70) (show Tryz.prog.underlying 145=some .unsafePointer from Tryz.lays159.t164) hj' (by rw[hjs];decide) hsh (Nat.zero_lt_succ 1)]
 simp only[Result.andThen]
 rw[Oper.upon_value]
 go_wp2
 rw[run_callFunc_extern Tryz.func111 (by kernel_rfl) (by kernel_rfl) (by kernel_rfl) (e:=Extern.AbiNoEscape.same) (by kernel_rfl)]
 rw[Lib.run_noEscape]
 simp only[Result.andThen]
 rw[Oper.upon_value]
 go_wp2
 rw[Lib.run_from_unsafe w ⟨b,0,none⟩ (show Tryz.prog.underlying 145=some .unsafePointer from Tryz.lays159.t164) (show Tryz.prog.underlying 49=some (.pointer 52) from Tryz.lays159.t70) hj' hsh hl]
 simp only[Result.andThen]
 rw[Oper.upon_value]
 go_wp2
 go_end0
 exact⟨rfl,rfl⟩
def Tryz.copyUsed(b:Nat)(w:World)(h0:w.cell? ⟨b,0,none⟩=some (.pointer (some ⟨b,0,none⟩))) :
  Calls Tryz.prog 83 #[.pointer (some ⟨b,0,none⟩)] w fun e w'=>e=.returned (.tuple #[])/\w'=w :=
 Any.Builder_copyCheck_used (ρ:=Tryz.lays159_ren) { Tryz.lays159 with } Tryz.Builder_Extra_159.toX72 b w h0
set_option maxHeartbeats 1000000 in
set_option maxRecDepth 100000 in
def Tryz.readAll(b g cap:Nat)(p:Value)(cur:Array Value)(l:List UInt8)(w:World)(hbk:w.heap[b]? = some (.cells #[p,.slice (some ⟨g,0,none⟩) l.length cap] 54 (0,0)))(hg:w.heap[g]? = some (.cells cur 5 (0,0)))
  (h0:l≠[]) (hc:l.length<=cap) (hm:l.length<=maxLen) (hcs:cur.size=cap) (hl:∀ (j:Nat) x,l[j]? = some x->cur[j]? = some (.int .u8 x.toNat)) :
  Calls Tryz.prog 26 #[.pointer (some ⟨b,0,none⟩)] w fun e w'=>e=.returned (.string ⟨l.toArray⟩)/\w'=w.drew.freeze ⟨g,0,none⟩ l.length:=by
 have hl0:l.length≠0:=by simpa using h0
 have c1:w.drew.cell? ⟨b,1,none⟩=some (.slice (some ⟨g,0,none⟩) l.length cap):=by
  have:w.drew.heap[b]? = some (.cells #[p,.slice (some ⟨g,0,none⟩) l.length cap] 54 (0,0)):=hbk;rw[Lib.cell_of_heap this];rfl
 have hSD:(Builtin.unsafeSliceData_ #[50] 102 #[.slice (some ⟨g,0,none⟩) l.length cap]).run Tryz.prog w.drew=.ok (.pointer (some ⟨g,0,none⟩)) w.drew :=
  Lib.run_unsafeSliceData_row _ _ _ _ _ _ (by omega)
 have hUS:(Builtin.unsafeString_ #[102,3] 9 #[.pointer (some ⟨g,0,none⟩),.int .i64 l.length]).run Tryz.prog w.drew=.ok (.string ⟨l.toArray⟩) (w.drew.freeze ⟨g,0,none⟩ l.length):=by
  refine Lib.run_unsafeString_row w.drew 102 3 9 5 Tryz.underlying102 Tryz.Builder_Extra_159.cellsByte g cur.size (by have hg':w.drew.heap[g]? = some (.cells cur 5 (0,0)):=hg;simp[World.shape?,hg']) l h0 (by omega) (by unfold maxLen at hm;omega) ?_;intro j x hx;have hg':w.drew.heap[g]? = some (.cells cur 5 (0,0)):=hg;have ea:Addr.add ⟨g,0,none⟩ j=⟨g,j,none⟩:=by
   unfold Addr.add;split
   ·rename_i h;rw[h]
   simp
  rw[ea,Lib.cell_of_heap hg'];exact hl j x hx
 have mixed:=Tryz.lays159.mixed
 go_enter Tryz.func26,Tryz.ntmps26
 go_wp2
 go_region_o
 all_goals (go_wp2;go_ret;exact⟨rfl,rfl⟩)
end Go.Proofs
namespace Go.Proofs
open Go Go.Shelf Go.RowKit
set_option maxHeartbeats 1000000 in
set_option maxRecDepth 100000 in
def Tryz.readNone(b:Nat)(p:Value)(w:World)(hbk:w.heap[b]? = some (.cells #[p,.slice none 0 0] 54 (0,0))) :
  Calls Tryz.prog 26 #[.pointer (some ⟨b,0,none⟩)] w fun e w'=>e=.returned (.string ⟨#[]⟩)/\w'=w.drew:=by
 have c1:w.drew.cell? ⟨b,1,none⟩=some (.slice none 0 0):=by
  have:w.drew.heap[b]? = some (.cells #[p,.slice none 0 0] 54 (0,0)):=hbk;rw[Lib.cell_of_heap this];rfl
 have hSD:(Builtin.unsafeSliceData_ #[50] 102 #[.slice none 0 0]).run Tryz.prog w.drew=.ok (.pointer none) w.drew:=Lib.run_unsafeSliceData_nil _ _ _ _ _
 have hUS:(Builtin.unsafeString_ #[102,3] 9 #[.pointer none,.int .i64 0]).run Tryz.prog w.drew=.ok (.string ⟨#[]⟩) w.drew:=Lib.run_unsafeString_none _ _ _ _ _
 have mixed:=Tryz.lays159.mixed
 go_enter Tryz.func26,Tryz.ntmps26
 go_wp2
 go_region_o
 all_goals (go_wp2;go_ret;exact⟨rfl,rfl⟩)
end Go.Proofs
namespace Go.Proofs.YtlkighkfkdpncaaGreatDoor
open Go Go.Am Go.RowKit
def xk[Bas]{ι:Inj}{σ:Heap}{W W':World}(hR:RelW ι σ W)(hb:Below W.heap.size W W'):Post ι σ W ι σ W' :=
 QPost.post ⟨⟨hb.os,hb.tape,hb.output,hb.size⟩,.refl ι,⟨fun b p h=>Zb3 (hR.lt b p h) hb.size,fun b p x h hx=>(hR.blk b p x h hx).keep (.refl ι) (hb.block _ (hR.lt b p h)),hR.sep,hR.gap,Zcq hR.bsz hb.size,fun c hc=>(hb.block c (Zb3 hc hR.bsz)).trans (hR.bas c hc)⟩,⟨[],by simp⟩,fun c hc=>hb.block c hc,fun b p h hn=>by rw[h]at hn;cases hn⟩
section
variable{σ σ':Heap}{args:List V}{v:V}{ι:Inj}{W:World}{av:List Value}
def idx_ok[Bas](h:TE args σ=some (v,σ'))(hR:RelW ι σ W)(hv:VRL ι args av) :
  Calls Tryz.prog 82 av.toArray W fun e W'=>∃ ι' v',e=.returned v'/\VR ι' v v'/\Post ι σ W ι' σ' W':=by
 unfold TE at h
 split at h
 ·injection h with h
  injection h with h1 h2
  subst h1;subst h2;simp only[VRL,VR,S.val]at hv;obtain⟨_,_,rfl,rfl,_,_,rfl,rfl,rfl⟩:=hv;refine(Tryz.strings_IndexByte _ _ W).mono ?_;rintro e W' ⟨rfl,rfl⟩;exact⟨ι,_,G,by simp only[VR,S.val],(QPost.refl hR).post⟩
 cases h
def low_one{c:UInt8}(h0:65<=c.toNat)(h1:c.toNat<=90):Lib.toLowerA [c]=[c+32]:=by
 have h:∀ k:Fin 26,Lib.toLowerA [UInt8.ofNat (k.val+65)]=[UInt8.ofNat (k.val+65)+32]:=by decide +kernel
 have:=h ⟨c.toNat-65,by omega⟩;simp only at this;rw[show c.toNat-65+65=c.toNat by omega,UInt8.ofNat_toNat]at this;exact this
def low_ok[Bas](h:zn args σ=some (v,σ'))(hR:RelW ι σ W)(hv:VRL ι args av) :
  Calls Tryz.prog 40 av.toArray W fun e W'=>∃ ι' v',e=.returned v'/\VR ι' v v'/\Post ι σ W ι' σ' W':=by
 unfold zn at h
 split at h
 ·rename_i t;split at h
  ·rename_i h0;injection h with h
   injection h with h1 h2
   subst h1;subst h2;simp only[VRL,VR,S.val]at hv;obtain⟨_,_,rfl,rfl,rfl⟩:=hv;have ht:t=⟨#[]⟩:=by
    obtain⟨⟨l⟩⟩:=t;match l,h0 with
    |[],_=>rfl
   rw[ht];refine(Tryz.strings_ToLower_ascii ⟨#[]⟩ W (by decide) (fun j b hj=>by simp at hj)).mono ?_;rintro e W' ⟨rfl,hbl⟩;exact⟨ι,_,G,G,xk hR hbl⟩
  split at h
  ·rename_i hb;injection h with h
   injection h with h1 h2
   subst h1;subst h2;simp only[VRL,VR,S.val]at hv;obtain⟨_,_,rfl,rfl,rfl⟩:=hv;have ht:t=⟨#[t.data.getD 0 0]⟩:=by
    obtain⟨⟨l⟩⟩:=t;match l,hb.1 with
    |[x],_=>rfl
   obtain⟨c,hc⟩:∃ c,c=t.data.getD 0 0:=⟨_,rfl⟩
   rw[<-hc]at ht hb ⊢;rw[ht];refine(Tryz.strings_ToLower_ascii ⟨#[c]⟩ W (by simp[ByteArray.size]) (fun j b hj=>?_)).mono ?_
   ·match j,hj with
    |0,hj=>simp at hj;subst hj;omega
    |j+1,hj=>simp at hj
   rintro e W' ⟨rfl,hbl⟩;exact⟨ι,_,G,by simp only[VR,S.val];exact congrArg (fun l:List UInt8=>Value.string ⟨l.toArray⟩) (low_one hb.2.1 hb.2.2),xk hR hbl⟩
  cases h
 cases h
def zh{t:TypeId}{b:Nat}{x y:V}{p:Am.Place}[Bas](hR:RelW ι σ W)(hp:ι b=some p)(hb:σ[b]? = some (.vs (.ty t) [x,y])) :
  p.base=0/\p.n=2/\∃ u0 u1,W.heap[p.c]? = some (.cells #[u0,u1] t (0,0))/\VR ι x u0/\VR ι y u1:=by
 obtain⟨h1,h2,h3⟩:=hR.blk b p _ hp hb
 obtain⟨hb0,hle,cs,T,hc,hs,hT,hsz⟩:=h3 rfl
 obtain rfl:T=t:=hT
 have hn:p.n=2:=h1.symm
 have h0:=h2 0 x rfl
 have h1':=h2 1 y rfl
 obtain⟨u0,hu0,r0⟩:=h0
 obtain⟨u1,hu1,r1⟩:=h1'
 have hcs:cs.size=2:=by omega
 rw[hb0]at hu0 hu1
 rw[Lib.cell_of_heap hc]at hu0 hu1
 obtain⟨l⟩:=cs
 match l,hcs with
 |[a,c],_=>
  simp at hu0 hu1
  subst hu0;subst hu1
  exact⟨hb0,hn,a,c,hc,r0,r1⟩
def copy_ok[Bas](h:Rp 54 args σ=some (v,σ'))(hR:RelW ι σ W)(hv:VRL ι args av) :
  Calls Tryz.prog 83 av.toArray W fun e W'=>∃ ι' v',e=.returned v'/\VR ι' v v'/\Post ι σ W ι' σ' W':=by
 unfold Rp at h
 split at h
 ·rename_i b;simp only[VRL,VR]at hv;obtain⟨_,_,rfl,⟨p,hp,hz,rfl⟩,rfl⟩:=hv;split at h
  ·rename_i t x hb;split at h
   ·rename_i ht;subst ht;injection h with h
    injection h with h1 h2
    subst h1;subst h2;obtain⟨hb0,hn,u0,u1,hc,r0,r1⟩:=zh hR hp hb;simp only[VR]at r0;subst r0;rw[hb0,Zcp];refine(Tryz.copyFresh p.c W (by rw[Lib.cell_of_heap hc];rfl) (by simp[World.shape?,hc]) (Lib.frozen_of_heap hc 0)).mono ?_;rintro e W' ⟨rfl,rfl⟩;have hw:(W.setCell ⟨p.c,0,none⟩ (.pointer (some ⟨p.c,0,none⟩))).heap[p.c]? = some (.cells #[.pointer (some ⟨p.c,0,none⟩),u1] 54 (0,0)):=by
     simp[World.setCell,Array.getElem?_modify,hc]
    refine⟨ι,_,rfl,⟨[],rfl,rfl⟩,Qw hR hp hb rfl ⟨rfl,rfl,rfl,by simp⟩ (fun c hne=>by simp[World.setCell,Array.getElem?_modify,Ne.symm hne]) ⟨hn.symm,fun i y hy=>?_,fun _=>⟨hb0,by have:=hR.blk b p _ hp hb;obtain⟨_,_,h3⟩:=this;exact(h3 rfl).2.1,_,_,hw,?_,rfl,?_⟩⟩⟩
    ·rw[hb0,Zcp,Lib.cell_of_heap hw];match i,hy with
     |0,hy=>simp at hy;subst hy;exact⟨_,G,by simp only[VR];exact⟨p,hp,hz,by rw[hb0];rfl⟩⟩
     |1,hy=>simp at hy;subst hy;exact⟨_,G,r1⟩
     |i+2,hy=>simp at hy
    ·obtain⟨_,_,h3⟩:=hR.blk b p _ hp hb;obtain⟨_,_,cs,T,hc2,hs,_,hsz⟩:=h3 rfl;rw[hsz,hn];rfl
    obtain⟨_,_,h3⟩:=hR.blk b p _ hp hb;obtain⟨_,_,cs,T,hc2,hs,_,hsz⟩:=h3 rfl;exact hsz
   cases h
  ·rename_i t c x hb;split at h
   ·rename_i ht;obtain⟨rfl,rfl⟩:=ht;injection h with h
    injection h with h1 h2
    subst h1;subst h2;obtain⟨hb0,hn,u0,u1,hc,r0,r1⟩:=zh hR hp hb;simp only[VR]at r0;obtain⟨p',hp',_,rfl⟩:=r0;rw[hp]at hp';injection hp' with hp'
    subst hp';rw[hb0,Zcp];rw[hb0]at hc;refine(Tryz.copyUsed p.c W (by rw[Lib.cell_of_heap hc];rfl)).mono ?_;rintro e W' ⟨rfl,rfl⟩;exact⟨ι,_,G,⟨[],G,G⟩,(QPost.refl hR).post⟩
   cases h
  cases h
 cases h
def tR{x:S}(h:Ro x=true):x.val=.int .u8 (UInt8.ofNat (Am.byteOf x)).toNat:=by
 cases x with
 |int k n=>
  cases k <;> simp[Ro]at h
  have:(UInt8.ofNat n.toNat).toNat=n.toNat:=by
   rw[UInt8.toNat_ofNat'];omega
  simp only[Am.byteOf,S.val,this];rw[Int.toNat_of_nonneg h.1]
 |bool b=>simp[Ro]at h
 |str s=>simp[Ro]at h
def str_ok[Bas](h:JQ 54 5 args σ=some (v,σ'))(hR:RelW ι σ W)(hv:VRL ι args av) :
  Calls Tryz.prog 26 av.toArray W fun e W'=>∃ ι' v',e=.returned v'/\VR ι' v v'/\Post ι σ W ι' σ' W':=by
 unfold JQ at h
 split at h
 ·rename_i b;simp only[VRL,VR]at hv;obtain⟨_,_,rfl,⟨p,hp,hz,rfl⟩,rfl⟩:=hv;split at h
  ·rename_i t x g m hb;split at h
   ·rename_i e q f hg;split at h
    ·rename_i ht;obtain⟨rfl,rfl,hm0,hm,hall⟩:=ht;injection h with h
     injection h with h1 h2
     subst h1;subst h2;obtain⟨hb0,hn,u0,u1,hc,r0,r1⟩:=zh hR hp hb;simp only[VR,Jt]at r1;obtain⟨pg,cap,hpg,hle,rfl,_,hgb,hcp,hmc,hcs,hmn⟩:=r1;obtain⟨hq,hcell,hown⟩:=hR.blk g pg _ hpg hg;obtain⟨_,_,cur,T,hgc,hcz,hT⟩:=hown rfl;obtain rfl:T=5:=hT;rw[hb0,Zcp];rw[hgb,Zcp]at hc;have hlen:(Zdi f m).length=m:=by simp[Zdi]
     refine(Tryz.readAll p.c pg.c cap u0 cur (Zdi f m) W (by rw[hlen];exact hc) hgc (fun e=>hm0 (by rw[<-hlen,e];rfl)) (by omega) (by unfold maxLen;omega) (by omega) (fun j y hy=>?_)).mono ?_
     ·have hj:j<m:=by
       rw[<-hlen];exact(List.getElem?_eq_some_iff.1 hy).1
      have h1:=hcell j (by omega);rw[hgb,Zcp,Lib.cell_of_heap hgc]at h1;rw[h1,tR (Zcc.1 hall j (Zck.2 hj))];have:(Zdi f m)[j]? = some (UInt8.ofNat (Am.byteOf (f j))):=by simp[Zdi,hj]
      rw[this]at hy;injection hy with hy
      rw[hy]
     rintro e W' ⟨rfl,rfl⟩;have hk:∀ c,c≠pg.c->(W.drew.freeze ⟨pg.c,0,none⟩ (Zdi f m).length).heap[c]? = W.heap[c]?:=fun c hne=>by
      unfold World.freeze;rw[Zcz (by rw[hlen];exact hm0)];simp only[Array.getElem?_modify];rw[Zcz (Ne.symm hne)];rfl
     have hs:(W.drew.freeze ⟨pg.c,0,none⟩ (Zdi f m).length).heap.size=W.heap.size:=by
      unfold World.freeze;split
      ·rfl
      simp
     have ho:(W.drew.freeze ⟨pg.c,0,none⟩ (Zdi f m).length).os=W.os/\(W.drew.freeze ⟨pg.c,0,none⟩ (Zdi f m).length).tape=W.tape/\(W.drew.freeze ⟨pg.c,0,none⟩ (Zdi f m).length).output=W.output:=by
      unfold World.freeze;split <;> exact⟨rfl,rfl,rfl⟩
     exact⟨ι,_,G,G,Qw hR hpg hg G ⟨ho.1,ho.2.1,ho.2.2,by rw[hs];exact Zcs _⟩ hk trivial⟩
    cases h
   cases h
  ·rename_i t x hb;split at h
   ·rename_i ht;subst ht;injection h with h
    injection h with h1 h2
    subst h1;subst h2;obtain⟨hb0,hn,u0,u1,hc,r0,r1⟩:=zh hR hp hb;simp only[VR]at r1;subst r1;rw[hb0,Zcp];refine(Tryz.readNone p.c u0 W hc).mono ?_;rintro e W' ⟨rfl,rfl⟩;exact⟨ι,_,G,G,(QPost.refl hR.toDrew).ofDrew.post⟩
   cases h
  cases h
 cases h
end
end Go.Proofs.YtlkighkfkdpncaaGreatDoor
set_option maxRecDepth 100000
namespace Go.Proofs.YtlkighkfkdpncaaGreatDoor
open Go Go.Am Go.RowKit
def primsOK[Bas]:zD Tryz.prog AM:=fun f pf hb args σ v σ' h=>by
 have hb:sR f=some pf:=hb;unfold sR primL at hb;simp only[sy]at hb
 cases h0:Nat.beq f 175 with
 |true=>
  rw[h0,cond_true]at hb;injection hb with hb;subst hb
  obtain rfl:=ZbR h0;exact⟨⟨_,Tryz.func175,by kernel_rfl,by decide⟩,fun ι W av hR hD hv=>srt_ok h hR hD hv⟩
 |false=>
 rw[h0,cond_false]at hb;skip
 cases h0:Nat.beq f 128 with
 |true=>
  rw[h0,cond_true]at hb;injection hb with hb;subst hb
  obtain rfl:=ZbR h0;exact⟨⟨_,Tryz.func128,by kernel_rfl,by decide⟩,fun ι W av hR hD hv=>srt3_ok h hR hD hv⟩
 |false=>
 rw[h0,cond_false]at hb;skip
 cases h0:Nat.beq f 156 with
 |true=>
  rw[h0,cond_true]at hb;injection hb with hb;subst hb
  obtain rfl:=ZbR h0;exact⟨⟨_,Tryz.func156,by kernel_rfl,by decide⟩,fun ι W av hR hD hv=>del_ok h hR hD hv⟩
 |false=>
 rw[h0,cond_false]at hb;skip
 cases h0:Nat.beq f 167 with
 |true=>
  rw[h0,cond_true]at hb;injection hb with hb;subst hb
  obtain rfl:=ZbR h0;exact⟨⟨_,Tryz.func167,by kernel_rfl,by decide⟩,fun ι W av hR hD hv=>grw_ok h hR hD hv⟩
 |false=>
 rw[h0,cond_false]at hb;skip
 cases h0:Nat.beq f 82 with
 |true=>
  rw[h0,cond_true]at hb;injection hb with hb;subst hb
  obtain rfl:=ZbR h0;exact⟨⟨_,Tryz.func82,by kernel_rfl,by decide⟩,fun ι W av hR _ hv=>idx_ok h hR hv⟩
 |false=>
 rw[h0,cond_false]at hb;skip
 cases h0:Nat.beq f 40 with
 |true=>
  rw[h0,cond_true]at hb;injection hb with hb;subst hb
  obtain rfl:=ZbR h0;exact⟨⟨_,Tryz.func40,by kernel_rfl,by decide⟩,fun ι W av hR _ hv=>low_ok h hR hv⟩
 |false=>
 rw[h0,cond_false]at hb;skip
 cases h0:Nat.beq f 83 with
 |true=>
  rw[h0,cond_true]at hb;injection hb with hb;subst hb
  obtain rfl:=ZbR h0;exact⟨⟨_,Tryz.func83,by kernel_rfl,by decide⟩,fun ι W av hR _ hv=>copy_ok h hR hv⟩
 |false=>
 rw[h0,cond_false]at hb;skip
 cases h0:Nat.beq f 26 with
 |true=>
  rw[h0,cond_true]at hb;injection hb with hb;subst hb
  obtain rfl:=ZbR h0;exact⟨⟨_,Tryz.func26,by kernel_rfl,by decide⟩,fun ι W av hR _ hv=>str_ok h hR hv⟩
 |false=>
 rw[h0,cond_false]at hb
 cases hb
theorem runOK[Bas]:WD Tryz.prog (Run AM):=run_ok fnsOK primsOK (by kernel_rfl) bodsOK
end Go.Proofs.YtlkighkfkdpncaaGreatDoor
namespace Go.Proofs.YtlkighkfkdpncaaGreatDoor
open Go Go.Am Go.ChangeShapes Go.WideShapes Go.ChangeAt Go.RowKit
theorem Tryz.own:ownKnob Tryz.prog.godebug=none:=by kernel_rfl
theorem Tryz.laidOut:laidOutB Tryz.prog=true:=by kernel_rfl
abbrev Ep : List (String×DataW Unit) := [("unicode/utf8.acceptRanges",Rows.laid_unicode_utf8_acceptRanges),("unicode.CaseRanges",Rows.laid_unicode_CaseRanges),("unicode/utf8.first",Rows.laid_unicode_utf8_first)]
@[reducible] def basOf(W:World):Bas:={ w:=W }
def Zap(os:Os)(args:Array Value):laidMetH Tryz.prog Ep ((World.laidAll Tryz.prog os Ep).forCall (fun _ _=>0) ⟨#[],args,[]⟩).memory:=by
 rw[MakeChecks.laidMetH_plain _ _ _ (by kernel_rfl)];exact laidMet_laidAll _ (by kernel_rfl) (by kernel_rfl)
def zeros(n:Nat):Value:=.agg (Array.replicate n (.int .i64 0))
end Go.Proofs.YtlkighkfkdpncaaGreatDoor
namespace Go.Proofs.YtlkighkfkdpncaaGreatDoor
open Go Go.Am Go.ChangeShapes Go.WideShapes Go.ChangeAt Go.RowKit
open Go Go.Am
def tJ(own:Bool):BC AM own 83 [] 54 (.tup []):=by
 refine⟨[.vs (.ty 54) [.ptr 0 0 2,.snil]],?_,G⟩;refine(WI (A:=AM) (pf:=Rp 54) G _ _ G).trans ?_
 cases own <;> rfl
def copy_BU(m:Nat)(g:Nat->S):BU AM 83 [] 54 5 m g (.tup []):=by
 refine⟨[.vs (.ty 54) [.ptr 0 0 2,.sl 1 0 m 1 .whole],.sc (.gty 5) m g],?_,G,G⟩;refine(WI (A:=AM) (pf:=Rp 54) G _ _ G).trans ?_;rfl
def s9(s:ByteArray):Zdi (Xv s) s.size=s.data.toList:=by
 refine List.ext_getElem (by simp[Zdi]) fun i h1 h2=>?_
 have hi:i<s.data.size:=by simpa using h2
 simp only[Zdi,List.getElem_map,List.getElem_range,Xv,Am.byteOf,Array.getElem_toList];rw[ZbC,ZbG hi,Option.getD_some];simp
def ok_strS(s:ByteArray)(m:Nat):(List.range m).all (fun i=>Ro (Xv s i))=true:=by
 rw[Zcc];intro i _;simp only[Xv,Ro,Zb7];have:=(s.data.getD i 0).toNat_lt;omega
def E9(s:ByteArray)(h0:s.size≠0)(h1:s.size<=140737488355328):BE AM 26 [] 54 5 s.size (Xv s) (.s (.str s)):=by
 refine⟨[.vs (.ty 54) [.ptr 0 0 2,.sl 1 0 s.size 1 .whole],.dead],?_,G,G⟩;refine(WI (A:=AM) (pf:=JQ 54 5) G _ _ G).trans ?_;simp only[JQ,List.getElem?_cons_zero,List.getElem?_cons_succ];rw[ZcA ⟨trivial,trivial,h0,h1,ok_strS s _⟩,s9];rfl
def T0(own:Bool)(t:ByteArray)(h0:t.size≠0)(hr:t.size<=140737488355328):BN AM own 46 [.s (.str t)] 54 5 (.tup [.s (.int .i64 t.size),.inil]) t.size (Xv t):=by
 suffices h:WR AM 46 [.ptr 0 0 2,.s (.str t)] [.vs (.ty 54) [KA own 0,.snil]] (fun v _ L=>v=.tup [.s (.int .i64 t.size),.inil]/\(0,Blk.vs (.ty 54) [.ptr 0 0 2,.sl 1 0 t.size 1 .whole])∈L/\(1,Blk.sc (.gty 5) t.size (Xv t))∈L) by
  obtain⟨v,σ',n',L',h1,h2,rfl,h3,h4⟩:=h;exact⟨σ',1,h1,(h2.2.mem h3).2,Zcs _,(h2.2.mem h4).2⟩
 refine YL (a:=a46) G G (YI _) (ZQ G) (m:=1) G (Ye (Yf (Yq G (Yq G (Yc (Ye (Yf (Yq G (wZ (own:=own) (tJ own) G G G G .here (Yc (Ye (Yf (Yq G (Yq G (YG G (Zz G (VV G G ZM G (Yq G (kz (t:=t) G G h0 (by simpa[XC] using hr) (YG G (Zz G (kh G G G G G G G G (.there .here) (Yc (Ye (Yf (Yq G (Xe G (Yq G (Yq G (Yc (Yi ?_)))))))))))))))))))))))))))))));exact⟨_,YH G (YH G YW),G,.tail _ ZM,.head _⟩
def WY(s t:ByteArray)(hr:s.size+t.size<=140737488355328):BW AM 46 [.s (.str t)] 54 5 s.size (Xv s) (.tup [.s (.int .i64 t.size),.inil]) (s++t).size (Xv (s++t)):=by
 have hsz:(s++t).size=s.size+t.size:=ZbP;suffices h:WR AM 46 [.ptr 0 0 2,.s (.str t)] [.vs (.ty 54) [.ptr 0 0 2,.sl 1 0 s.size 1 .whole],.sc (.gty 5) s.size (Xv s)] (fun v _ L=>v=.tup [.s (.int .i64 t.size),.inil]/\(0,Blk.vs (.ty 54) [.ptr 0 0 2,.sl 2 0 (s.size+t.size) 1 .whole])∈L/\(1,Blk.dead)∈L/\(2,Blk.sc (.gty 5) (s.size+t.size) (fun i=>bif Nat.blt i s.size then Xv s i else Xv t (i-s.size)))∈L) by
  obtain⟨v,σ',n',L',h1,h2,rfl,h3,h4,h5⟩:=h;rw[hsz,<-Tp];exact⟨σ',2,h1,(h2.2.mem h3).2,Zcs _,(h2.2.mem h4).2,(h2.2.mem h5).2⟩
 refine YL (a:=a46) G G (YI _) (ZQ G) (m:=2) G (Ye (Yf (Yq G (Yq G (Yc (Ye (Yf (Yq G (WO_bldU (copy_BU _ _) G G G G ZM ZN (Yc (Ye (Yf (Yq G (Yq G (YG G (Zz G (VV G G ZM G (Yq G (Zax (t:=t) G G (by simpa[XC] using hr) (.there .here) (YG G (Zz G (kh G G G G G G G G (.there .here) (Yc (Ye (Yf (Yq G (Xe G (Yq G (Yq G (Yc (Yi ?_)))))))))))))))))))))))))))))));exact⟨_,YH G (YH G YW),G,.tail _ ZM,.tail _ ZN,.head _⟩
def Zbe(own:Bool)(t:ByteArray)(h0:t.size=0):BC AM own 46 [.s (.str t)] 54 (.tup [.s (.int .i64 0),.inil]):=by
 suffices h:WR AM 46 [.ptr 0 0 2,.s (.str t)] [.vs (.ty 54) [KA own 0,.snil]] (fun v _ L=>v=.tup [.s (.int .i64 0),.inil]/\(0,Blk.vs (.ty 54) [.ptr 0 0 2,.snil])∈L) by
  obtain⟨v,σ',n',L',h1,h2,rfl,h3⟩:=h;exact⟨σ',h1,(h2.2.mem h3).2⟩
 refine YL (a:=a46) G G (YI _) (ZQ G) (m:=1) G (Ye (Yf (Yq G (Yq G (Yc (Ye (Yf (Yq G (wZ (own:=own) (tJ own) G G G G .here (Yc (Ye (Yf (Yq G (Yq G (YG G (Zz G (VV G G ZM G (Yq G (jS (t:=t) G G h0 (YG G (Zz G (kh G G G G G G G G .here (Yc (Ye (Yf (Yq G (Xe G (Yq G (Yq G (Yc (Yi ?_)))))))))))))))))))))))))))))));exact⟨_,YH (v:=.s (.int .i64 0)) (by show V.s (.int .i64 t.size)=_;rw[h0];rfl) (YH G YW),G,.head _⟩
def str_B0:RL AM 26 [.ptr 0 0 2] [.vs (.ty 54) [.pnil,.snil]] (.s (.str ⟨#[]⟩)) [.vs (.ty 54) [.pnil,.snil]]:=by
 refine⟨[.vs (.ty 54) [.pnil,.snil]],?_,G,G,trivial⟩;refine(WI (A:=AM) (pf:=JQ 54 5) G _ _ G).trans ?_;rfl
open Go Go.Am
def ki(g:Nat->S)(cp:Cp)(a:ByteArray)(h0:g 0=.str a)(hn:a.size≠0)(hr:a.size<=140737488355328):D0 AM 20 [.ptr 0 0 2,.sl 1 0 1 1 cp] [.vs (.ty 54) [.pnil,.snil],.sc .var 1 g] 54 5 (.tup []) (a).size (Xv (a)) [.sc .var 1 g]:=by
 refine YL (a:=a20) G G (YI _) (ZQ G) (m:=2) G (Ze (Zn G (WX G (Yq G (Yc (Yk (YO (Ze (Yr (r:=.bool true) G G G (Yc (Ye (ZA G (Yh (Ye (Yk (Ze (Zx G G (Yn (x:=.str a) G G ZN h0 (Yq (v:=.s _) G (Yc (Yf (Zl G (YG G (Zy G (Yq (v:=.s _) G (zE (own:=false) (T0 false a hn (by omega)) G G G G .here (Yc (Yf (Zs G G ?_)))))))))))))))))))))))))))));refine Zj G (Yc (YO (Ze (Yr (r:=.bool false) G G G (Yc (Ye (ZB G (Y0 (Xb (⟨_,YW,?_⟩))))))))));refine⟨G,2,YF G,⟨ZN,ZO,trivial⟩,ZM⟩
def kS(g:Nat->S)(cp:Cp)(a b c:ByteArray)(h0:g 0=.str a)(h1:g 1=.str b)(h2:g 2=.str c)(hn:a.size≠0)(hr:a.size+b.size+c.size<=140737488355328):D0 AM 20 [.ptr 0 0 2,.sl 1 0 3 1 cp] [.vs (.ty 54) [.pnil,.snil],.sc .var 3 g] 54 5 (.tup []) (((a++b)++c)).size (Xv (((a++b)++c))) [.sc .var 3 g]:=by
 refine YL (a:=a20) G G (YI _) (ZQ G) (m:=2) G (Ze (Zn G (WX G (Yq G (Yc (Yk (YO (Ze (Yr (r:=.bool true) G G G (Yc (Ye (ZA G (Yh (Ye (Yk (Ze (Zx G G (Yn (x:=.str a) G G ZN h0 (Yq (v:=.s _) G (Yc (Yf (Zl G (YG G (Zy G (Yq (v:=.s _) G (zE (own:=false) (T0 false a hn (by omega)) G G G G .here (Yc (Yf (Zs G G ?_)))))))))))))))))))))))))))));refine Zj G (Yc (YO (Ze (Yr (r:=.bool true) G G G (Yc (Ye (ZA G (Yh (Ye (Yk (Ze (Zx G G (Yn (x:=.str b) G G ZO h1 (Yq (v:=.s _) G (Yc (Yf (Zl G (YG G (Zy G (Yq (v:=.s _) G (Vx (WY a b (by omega)) G G G G (.there .here) ZM .here (Yc (Yf (Zs G G (Zj G (Yc (YO (Ze (Yr (r:=.bool true) G G G ?_)))))))))))))))))))))))))))));refine Yc (Ye (ZA G (Yh (Ye (Yk (Ze (Zx G G (Yn (x:=.str c) G G ZP h2 (Yq (v:=.s _) G (Yc (Yf (Zl G (YG G (Zy G (Yq (v:=.s _) G (Vx (WY (a++b) c (by simp only[ZbP];omega)) G G G G (.there (.there .here)) ZM .here (Yc (Yf (Zs G G (Zj G (Yc (YO (Ze (Yr (r:=.bool false) G G G (Yc (Ye (ZB G (Y0 (Xb ?_)))))))))))))))))))))))))))));refine⟨_,YW,?_⟩;refine⟨G,4,YF G,⟨ZP,(.tail _ ZP),trivial⟩,ZM⟩
def Es(g:Nat->S)(cp:Cp)(a b c d:ByteArray)(h0:g 0=.str a)(h1:g 1=.str b)(h2:g 2=.str c)(h3:g 3=.str d)(hn:a.size≠0)(hr:a.size+b.size+c.size+d.size<=140737488355328):D0 AM 20 [.ptr 0 0 2,.sl 1 0 4 1 cp] [.vs (.ty 54) [.pnil,.snil],.sc .var 4 g] 54 5 (.tup []) ((((a++b)++c)++d)).size (Xv ((((a++b)++c)++d))) [.sc .var 4 g]:=by
 refine YL (a:=a20) G G (YI _) (ZQ G) (m:=2) G (Ze (Zn G (WX G (Yq G (Yc (Yk (YO (Ze (Yr (r:=.bool true) G G G (Yc (Ye (ZA G (Yh (Ye (Yk (Ze (Zx G G (Yn (x:=.str a) G G ZN h0 (Yq (v:=.s _) G (Yc (Yf (Zl G (YG G (Zy G (Yq (v:=.s _) G (zE (own:=false) (T0 false a hn (by omega)) G G G G .here (Yc (Yf (Zs G G ?_)))))))))))))))))))))))))))));refine Zj G (Yc (YO (Ze (Yr (r:=.bool true) G G G (Yc (Ye (ZA G (Yh (Ye (Yk (Ze (Zx G G (Yn (x:=.str b) G G ZO h1 (Yq (v:=.s _) G (Yc (Yf (Zl G (YG G (Zy G (Yq (v:=.s _) G (Vx (WY a b (by omega)) G G G G (.there .here) ZM .here (Yc (Yf (Zs G G (Zj G (Yc (YO (Ze (Yr (r:=.bool true) G G G ?_)))))))))))))))))))))))))))));refine Yc (Ye (ZA G (Yh (Ye (Yk (Ze (Zx G G (Yn (x:=.str c) G G ZP h2 (Yq (v:=.s _) G (Yc (Yf (Zl G (YG G (Zy G (Yq (v:=.s _) G (Vx (WY (a++b) c (by simp only[ZbP];omega)) G G G G (.there (.there .here)) ZM .here (Yc (Yf (Zs G G (Zj G (Yc (YO (Ze (Yr (r:=.bool true) G G G (Yc (Ye (ZA G (Yh (Ye ?_)))))))))))))))))))))))))))));refine Yk (Ze (Zx G G (Yn (x:=.str d) G G (.tail _ ZP) h3 (Yq (v:=.s _) G (Yc (Yf (Zl G (YG G (Zy G (Yq (v:=.s _) G (Vx (WY ((a++b)++c) d (by simp only[ZbP];omega)) G G G G (.there (.there (.there .here))) ZM .here (Yc (Yf (Zs G G (Zj G (Yc (YO (Ze (Yr (r:=.bool false) G G G (Yc (Ye (ZB G (Y0 (Xb (⟨_,YW,?_⟩)))))))))))))))))))))))));refine⟨G,5,YF G,⟨(.tail _ ZP),(.tail _ (.tail _ ZP)),trivial⟩,ZM⟩
def Tb(g:Nat->S)(cp:Cp)(a b c d:ByteArray)(h0:g 0=.str a)(h1:g 1=.str b)(h2:g 2=.str c)(h3:g 3=.str d)(he0:a.size=0)(hn:b.size≠0)(hr:b.size+c.size+d.size<=140737488355328):D0 AM 20 [.ptr 0 0 2,.sl 1 0 4 1 cp] [.vs (.ty 54) [.pnil,.snil],.sc .var 4 g] 54 5 (.tup []) (((b++c)++d)).size (Xv (((b++c)++d))) [.sc .var 4 g]:=by
 refine YL (a:=a20) G G (YI _) (ZQ G) (m:=2) G (Ze (Zn G (WX G (Yq G (Yc (Yk (YO (Ze (Yr (r:=.bool true) G G G (Yc (Ye (ZA G (Yh (Ye (Yk (Ze (Zx G G (Yn (x:=.str a) G G ZN h0 (Yq (v:=.s _) G (Yc (Yf (Zl G (YG G (Zy G (Yq (v:=.s _) G (wZ (own:=false) (Zbe false a he0) G G G G .here (Yc (Yf (Zs G G ?_)))))))))))))))))))))))))))));refine Zj G (Yc (YO (Ze (Yr (r:=.bool true) G G G (Yc (Ye (ZA G (Yh (Ye (Yk (Ze (Zx G G (Yn (x:=.str b) G G ZN h1 (Yq (v:=.s _) G (Yc (Yf (Zl G (YG G (Zy G (Yq (v:=.s _) G (zE (own:=true) (T0 true b hn (by omega)) G G G G .here (Yc (Yf (Zs G G (Zj G (Yc (YO (Ze (Yr (r:=.bool true) G G G ?_)))))))))))))))))))))))))))));refine Yc (Ye (ZA G (Yh (Ye (Yk (Ze (Zx G G (Yn (x:=.str c) G G ZO h2 (Yq (v:=.s _) G (Yc (Yf (Zl G (YG G (Zy G (Yq (v:=.s _) G (Vx (WY b c (by omega)) G G G G (.there .here) ZM .here (Yc (Yf (Zs G G (Zj G (Yc (YO (Ze (Yr (r:=.bool true) G G G (Yc (Ye (ZA G (Yh (Ye ?_)))))))))))))))))))))))))))));refine Yk (Ze (Zx G G (Yn (x:=.str d) G G ZP h3 (Yq (v:=.s _) G (Yc (Yf (Zl G (YG G (Zy G (Yq (v:=.s _) G (Vx (WY (b++c) d (by simp only[ZbP];omega)) G G G G (.there (.there .here)) ZM .here (Yc (Yf (Zs G G (Zj G (Yc (YO (Ze (Yr (r:=.bool false) G G G (Yc (Ye (ZB G (Y0 (Xb (⟨_,YW,?_⟩)))))))))))))))))))))))));refine⟨G,4,YF G,⟨ZP,(.tail _ ZP),trivial⟩,ZM⟩
def yo(g:Nat->S)(cp:Cp)(a:ByteArray)(s:ByteArray)(h0:g 0=.str a)(hr:s.size+a.size<=140737488355328):D0 AM 20 [.ptr 0 0 2,.sl 2 0 1 1 cp] [UU 54 0 1 s.size,.sc (.gty 5) s.size (Xv s),.sc .var 1 g] 54 5 (.tup []) ((s++a)).size (Xv ((s++a))) [.dead,.sc .var 1 g]:=by
 refine YL (a:=a20) G G (YI _) (ZQ G) (m:=3) G (Ze (Zn G (WX G (Yq G (Yc (Yk (YO (Ze (Yr (r:=.bool true) G G G (Yc (Ye (ZA G (Yh (Ye (Yk (Ze (Zx G G (Yn (x:=.str a) G G ZO h0 (Yq (v:=.s _) G (Yc (Yf (Zl G (YG G (Zy G (Yq (v:=.s _) G (Vx (WY s a (by omega)) G G G G .here ZN (.there .here) (Yc (Yf (Zs G G ?_)))))))))))))))))))))))))))));refine Zj G (Yc (YO (Ze (Yr (r:=.bool false) G G G (Yc (Ye (ZB G (Y0 (Xb (⟨_,YW,?_⟩))))))))));refine⟨G,3,YF G,⟨ZN,ZO,ZP,trivial⟩,ZM⟩
def U1(g:Nat->S)(cp:Cp)(a b:ByteArray)(s:ByteArray)(h0:g 0=.str a)(h1:g 1=.str b)(hr:s.size+a.size+b.size<=140737488355328):D0 AM 20 [.ptr 0 0 2,.sl 2 0 2 1 cp] [UU 54 0 1 s.size,.sc (.gty 5) s.size (Xv s),.sc .var 2 g] 54 5 (.tup []) (((s++a)++b)).size (Xv (((s++a)++b))) [.dead,.sc .var 2 g]:=by
 refine YL (a:=a20) G G (YI _) (ZQ G) (m:=3) G (Ze (Zn G (WX G (Yq G (Yc (Yk (YO (Ze (Yr (r:=.bool true) G G G (Yc (Ye (ZA G (Yh (Ye (Yk (Ze (Zx G G (Yn (x:=.str a) G G ZO h0 (Yq (v:=.s _) G (Yc (Yf (Zl G (YG G (Zy G (Yq (v:=.s _) G (Vx (WY s a (by omega)) G G G G .here ZN (.there .here) (Yc (Yf (Zs G G ?_)))))))))))))))))))))))))))));refine Zj G (Yc (YO (Ze (Yr (r:=.bool true) G G G (Yc (Ye (ZA G (Yh (Ye (Yk (Ze (Zx G G (Yn (x:=.str b) G G ZP h1 (Yq (v:=.s _) G (Yc (Yf (Zl G (YG G (Zy G (Yq (v:=.s _) G (Vx (WY (s++a) b (by simp only[ZbP];omega)) G G G G (.there .here) ZM .here (Yc (Yf (Zs G G (Zj G (Yc (YO (Ze (Yr (r:=.bool false) G G G ?_)))))))))))))))))))))))))))));refine Yc (Ye (ZB G (Y0 (Xb (⟨_,YW,?_⟩)))));refine⟨G,4,YF G,⟨ZO,ZP,(.tail _ ZP),trivial⟩,ZM⟩
def Zac(g:Nat->S)(cp:Cp)(a b c:ByteArray)(s:ByteArray)(h0:g 0=.str a)(h1:g 1=.str b)(h2:g 2=.str c)(hr:s.size+a.size+b.size+c.size<=140737488355328):D0 AM 20 [.ptr 0 0 2,.sl 2 0 3 1 cp] [UU 54 0 1 s.size,.sc (.gty 5) s.size (Xv s),.sc .var 3 g] 54 5 (.tup []) ((((s++a)++b)++c)).size (Xv ((((s++a)++b)++c))) [.dead,.sc .var 3 g]:=by
 refine YL (a:=a20) G G (YI _) (ZQ G) (m:=3) G (Ze (Zn G (WX G (Yq G (Yc (Yk (YO (Ze (Yr (r:=.bool true) G G G (Yc (Ye (ZA G (Yh (Ye (Yk (Ze (Zx G G (Yn (x:=.str a) G G ZO h0 (Yq (v:=.s _) G (Yc (Yf (Zl G (YG G (Zy G (Yq (v:=.s _) G (Vx (WY s a (by omega)) G G G G .here ZN (.there .here) (Yc (Yf (Zs G G ?_)))))))))))))))))))))))))))));refine Zj G (Yc (YO (Ze (Yr (r:=.bool true) G G G (Yc (Ye (ZA G (Yh (Ye (Yk (Ze (Zx G G (Yn (x:=.str b) G G ZP h1 (Yq (v:=.s _) G (Yc (Yf (Zl G (YG G (Zy G (Yq (v:=.s _) G (Vx (WY (s++a) b (by simp only[ZbP];omega)) G G G G (.there .here) ZM .here (Yc (Yf (Zs G G (Zj G (Yc (YO (Ze (Yr (r:=.bool true) G G G ?_)))))))))))))))))))))))))))));refine Yc (Ye (ZA G (Yh (Ye (Yk (Ze (Zx G G (Yn (x:=.str c) G G (.tail _ ZP) h2 (Yq (v:=.s _) G (Yc (Yf (Zl G (YG G (Zy G (Yq (v:=.s _) G (Vx (WY ((s++a)++b) c (by simp only[ZbP];omega)) G G G G (.there (.there .here)) ZM .here (Yc (Yf (Zs G G (Zj G (Yc (YO (Ze (Yr (r:=.bool false) G G G (Yc (Ye (ZB G (Y0 (Xb ?_)))))))))))))))))))))))))))));refine⟨_,YW,?_⟩;refine⟨G,5,YF G,⟨ZP,(.tail _ ZP),(.tail _ (.tail _ ZP)),trivial⟩,ZM⟩
end Go.Proofs.YtlkighkfkdpncaaGreatDoor
