/- Texts of this seat,joined. -/
import Derived.Test.YtlkighkfkdpncaaGreatDoorM7
set_option linter.defProp false
set_option linter.unusedSimpArgs false
set_option linter.unusedVariables false
namespace Go.Proofs.YtlkighkfkdpncaaGreatDoor
open Go Go.Am
def VD{s:ByteArray}{p:Nat}(h:p+1<s.size)(hf:0<=Xg (YM s p))(hr:0<=Xj (YM s (p+1))):sqR s (-1) p=(sqN s p,true,p+2) :=
 Kg ⟨by omega,hf⟩ ⟨h,hr,by unfold sqN;omega⟩
def uQ{c:Int}(h:0<=RJ c):c≠32:=by
 rintro rfl;exact absurd h (by decide)
def TV{s:ByteArray}{p:Nat}(h:1<=p):((s.data.getD ((p:Int)-1).toNat 0).toNat:Int)=YM s (p-1):=by
 unfold YM;rw[show((p:Int)-1).toNat=p-1 by omega]
def StP(s:ByteArray)(k p:Nat)(l:List Mv):Prop:=((US s k p l=Wi s/\5*l.length<=p)/\(p<s.size\/(0<l.length/\1<=p/\YM s (p-1)=32)))\/(p=s.size/\yS l=Wi s/\(l.length=0\/(1<=p/\YM s (p-1)≠32)))
def ZaQ{s:ByteArray}(h:s.size<=65536):StP s (s.size+1) 0 []:=by
 by_cases h0:s.size=0
 ·exact .inr ⟨h0.symm,by rw[w7 h0];rfl,.inl rfl⟩
 exact .inl ⟨⟨(qw h0 h).symm,Zct _⟩,.inl (by omega)⟩
def stP_one{s:ByteArray}{k p:Nat}{l:List Mv}(h:StP s k p l)(h2:¬ p<s.size)(hl:0<l.length):1<=p:=by
 rcases h with⟨_,h|h⟩|⟨_,_,h|h⟩ <;> omega
def xe{s:ByteArray}{k p:Nat}{l:List Mv}(h:StP s k p l)(h2:p<s.size\/(0<l.length/\YM s (p-1)=32)):US s k p l=Wi s/\5*l.length<=p:=by
 rcases h with⟨h,_⟩|⟨h3,_,h4⟩
 ·exact h
 exfalso;rcases h2 with h2|⟨h2,h5⟩
 ·omega
 rcases h4 with h4|h4
 ·omega
 exact h4.2 h5
def uO{s:ByteArray}{k p:Nat}{l:List Mv}(h:StP s k p l)(h2:¬ p<s.size)(h3:l.length=0\/YM s (p-1)≠32):yS l=Wi s:=by
 rcases h with⟨_,h|h⟩|⟨_,h,_⟩
 ·exact absurd h h2
 ·rcases h3 with h3|h3
  ·omega
  exact absurd h.2.2 h3
 exact h
set_option maxRecDepth 100000
def up(s:ByteArray)(h1:s.size<=65536):RtT AM 43 3 [.s (.str s)] (YV (Wi s).1) (.int .i64 (Wi s).2.1) (.int .i64 (Wi s).2.2):=by
 refine D3 (YL (a:=a43) G G (YI _) (ZQ G) (m:=0) G (Ze (Yq G (Yq G (Yq G (Yc (Ye (Ze (Yq (v:=.s _) G (Xe G (Yr G G (wo (by omega)) (Yc (ZB G (Yh (Ze (Yq G (Zf (Yq G (Yc (Ye (Yk (Xo .slnil (Xu (fun m f _ L=>∃ (k p:Nat) (l:List Mv) (vL:V) (ownL:HA),(m=k)/\(s.size<p+k)/\(p<=s.size)/\(StP s k p l)/\(Rw 3 (YV l) vL ownL)/\(f 0=.s (.str s))/\(f 5=vL)/\(f 6=.s (.int .i64 p))/\(L=(ownL++[]))) (fun m f nb L hI=>?_) (s.size+1) (⟨s.size+1,0,[],.snil,[],G,by omega,by omega,ZaQ h1,Rw.nil rfl,rfl,rfl,rfl,rfl⟩))))))))))))))))))))))));obtain⟨k,p,l,vL,ownL,hk0,hk,hp,hst,hrL,k0,k5,k6,rfl⟩:=hI;refine Za 0 k0 (Za 5 k5 (Za 6 k6 (Wz (fun f n L=>∃ (k p:Nat) (l:List Mv) (vL:V) (ownL:HA),(m=k)/\(s.size<p+k)/\(p<=s.size)/\(US s k p l=Wi s)/\(5*l.length<=p)/\(Rw 3 (YV l) vL ownL)/\(f 0=.s (.str s))/\(f 5=vL)/\(f 6=.s (.int .i64 p))/\(L=(ownL++[]))) ?_ (fun f nb L hI=>?_))))
 ·refine Ze (Zj G (Yq (v:=.s _) G (Xe G (Zr G (Zk G (Ys (t:=18) G (fun h18=>?_) (fun h18=>?_))))))) <;> simp only[NM]at h18
  ·refine ZE G (YJ G (YJ G (YJ G (YJ G (ZD G (YJ G (YJ G (YJ G (YJ G (YJ G (ZC G (Zq G (Yc (ZA G (Yh ?_)))))))))))))));refine⟨_,(ZbY (.refl _) .slnil),k,p,l,_,_,hk0,hk,hp,(xe hst (.inl (by omega))).1,(xe hst (.inl (by omega))).2,hrL,G,G,G,G⟩
  refine Yb G (Yq (v:=vL) G (Yb G (Xk G hrL.rx (by decide) (YQ _) (Yb G (Zr G (Yb G (Zk G (Ys (t:=22) G (fun h22=>?_) (fun h22=>?_))))))))) <;> simp only[NM]at h22
  ·refine Yb G (Zj G (Yb G (Yq (v:=.s _) G (Yb G (Xe G (Yb G (Zr G (Yb G (Zq G (Yb G (Zk G (Ys (t:=28) G (fun h28=>?_) (fun h28=>?_))))))))))))) <;> simp only[NM]at h28
   ·refine Yb G (Yq (v:=.s _) G (Yb G (Zj G (Yb G ?_))));have h1p:=stP_one hst (by omega) (by omega);refine Zt G G (Yb G (XP G G (by omega) (Yb G (Zr G (Yb G (Zq G (Zq G (Yc (Yj G (fun h35=>?_) (fun h35=>?_)))))))))) <;> simp only[NM]at h35
    ·refine Yh ?_;refine⟨_,(ZbY (.refl _) .slnil),k,p,l,_,_,hk0,hk,hp,(xe hst (.inr ⟨by omega,by rw[<-TV h1p];exact h35⟩)).1,(xe hst (.inr ⟨by omega,by rw[<-TV h1p];exact h35⟩)).2,hrL,G,G,G,G⟩
    refine Y0 (Xb (Ye (Ze ?_)));have hfin:=uO hst (by omega) (.inr fun hb=>h35 (by rw[TV h1p];exact hb));refine Yq (v:=vL) G (Xk G hrL.rx (by decide) (YQ _) (Zr G (Yc (Yj G (fun h135=>?_) (fun h135=>?_))))) <;> simp only[NM]at h135
    ·refine Ze (Yq G (Yq G (Yq G (Yc (Yi (⟨_,YH (v:=.snil) G (YH (v:=.s (.int _ _)) G (ZL G)),?_⟩))))));rw[<-hfin,ze (by omega)];exact⟨.snil,[],G,.nil G,fun _ h=>by cases h⟩
    refine Yh (Ze (Yq (v:=vL) G (Yq (v:=vL) G (Yq G (Yq G (Yc (Yi (⟨_,YH (v:=vL) G (YH (v:=.s (.int _ _)) G (ZL G)),?_⟩))))))));rw[<-hfin,wU (by omega)];exact⟨_,_,G,hrL,(fun _ h=>(ZbV _ h))⟩
   exfalso;omega
  refine ZE G (Yb G (Zq G (Yb G (Zk G (ZE G (ZC G (Yb G (Zq G (Zq G (Yc (ZB G (Y0 (Xb (Ye (Ze ?_)))))))))))))));have hfin:=uO hst (by omega) (.inl (by omega));refine Yq (v:=vL) G (Xk G hrL.rx (by decide) (YQ _) (Zr G (Yc (Yj G (fun h135=>?_) (fun h135=>?_))))) <;> simp only[NM]at h135
  ·refine Ze (Yq G (Yq G (Yq G (Yc (Yi (⟨_,YH (v:=.snil) G (YH (v:=.s (.int _ _)) G (ZL G)),?_⟩))))));rw[<-hfin,ze (by omega)];exact⟨.snil,[],G,.nil G,fun _ h=>by cases h⟩
  refine Yh (Ze (Yq (v:=vL) G (Yq (v:=vL) G (Yq G (Yq G (Yc (Yi (⟨_,YH (v:=vL) G (YH (v:=.s (.int _ _)) G (ZL G)),?_⟩))))))));rw[<-hfin,wU (by omega)];exact⟨_,_,G,hrL,(fun _ h=>(ZbV _ h))⟩
 obtain⟨k,p,l,vL,ownL,hk0,hk,hp,heq,hl,hrL,k0,k5,k6,rfl⟩:=hI;refine Za 0 k0 (Za 5 k5 (Za 6 k6 ?_));obtain⟨k,rfl⟩:∃ j,k=j+1:=⟨k-1,by omega⟩
 refine Yk (Ze (Yy (Yc (Ye (Ze (Yq G (Yc (Yk (YO (Ye (Ze (Zj G (Yr (r:=.bool true) G G G (Yc (ZA G (Yh (Ye (Yk (Ye (Ze (Zj G (Yq (v:=.s _) G (Xe G (Zr G (Yc (Yj G (fun h43=>?_) (fun h43=>?_))))))))))))))))))))))))))) <;> simp only[NM]at h43
 ·refine Ze (Zj G (Yq G (Zj G (Yq G (Yc (Yi (⟨_,YH (v:=.snil) G (YH (v:=.s (.int _ _)) G (ZL G)),?_⟩)))))));have e:=Ub (k:=k) (l:=l) (KL (JU (s:=s) (p:=p) (fun hh=>by omega)));rw[heq]at e;rw[e];exact⟨.snil,[],G,.nil G,fun _ h=>by cases h⟩
 refine Yh (Ze (Yq G (Yc (Ye (Ze (Zj G (Yr (r:=.int .i64 0) G G G (Yr (r:=.bool false) G G G (Yc (ZB G (Yh (Ze (Zj G (Yq (v:=.s _) G (Zj G (XP G G (by omega) (Yq (v:=.s _) G (Yt G (u7 (XU s p)) G G G (Zw G G G (YA G G G G .here (Yc (Ye (Ze (Zj G (Zw G G G (Ym (x:=Xg (YM s p)) G G ZM (G) (Zr G (Zk G (Ys (t:=59) G (fun h59=>?_) (fun h59=>?_)))))))))))))))))))))))))))))) <;> simp only[NM]at h59
 ·refine ZD G (ZC G (YJ G (YJ G (YJ G (YJ G (YJ G (ZD G (YJ G (YJ G (YJ G (YJ G (YJ G (ZC G (Zq G (Yc (ZA G (Ze (Zj G (Yq G (Zj G (Yq G (Yc (Yi (⟨_,YH (v:=.snil) G (YH (v:=.s (.int _ _)) G (ZL G)),?_⟩))))))))))))))))))))))));have e:=Ub (k:=k) (l:=l) (KL (JU (s:=s) (p:=p) (fun hh=>by omega)));rw[heq]at e;rw[e];exact⟨.snil,[],G,.nil G,fun _ h=>by cases h⟩
 refine Yb G (Zj G (Yb G (Yr (r:=.bool false) G G G (Yb G (Zk G (ZE G (ZC G (Yb G (Zq G (Yb G (Zk G (ZE G (ZC G (Yb G (Zq G (Zq G (Yc (ZB G (Yh (Yf (Zj G (Zs G G (Zj G (Yc (Yf (Zj G (Zs G G (Zj G (Yc ?_)))))))))))))))))))))))))))));refine YO (Ye (Ze (Zj G (Yr (r:=.bool true) G G G (Yc (ZA G (Yh (Ye (Yk (Ye (Ze (Zj G (Yq (v:=.s _) G (Xe G (Zr G (Yc (Yj G (fun h43=>?_) (fun h43=>?_)))))))))))))))))) <;> simp only[NM]at h43
 ·refine Ze (Zj G (Yq G (Zj G (Yq G (Yc (Yi (⟨_,YH (v:=.snil) G (YH (v:=.s (.int _ _)) G (ZL G)),?_⟩)))))));have e:=Ub (k:=k) (l:=l) (KL (Ka (s:=s) (p:=p) ⟨by omega,by omega⟩ (fun hh=>by omega)));rw[heq]at e;rw[e];exact⟨.snil,[],G,.nil G,fun _ h=>by cases h⟩
 refine Yh (Ze (Yq G (Yc (Ye (Ze (Zj G (Yr (r:=.int .i64 1) G G G (Yr (r:=.bool true) G G G (Yc (ZA G (Yf (Yq G (Zf (Zj G (Yq (v:=.s _) G (Zj G (XP G G (by omega) (Yq (v:=.s _) G (Yt G (tL (XU s (p+1))) G G G (Zw G G G (YA G G G G .here (Yc (Ye (Ze (Zj G (Zw G G G (Ym (x:=Xj (YM s (p+1))) G G ZM (G) (Zr G (Zk G ?_)))))))))))))))))))))))))))));refine Ys (t:=59) G (fun h59=>?_) (fun h59=>?_) <;> simp only[NM]at h59
 ·refine ZD G (ZC G (YJ G (YJ G (YJ G (YJ G (YJ G (ZD G (YJ G (YJ G (YJ G (YJ G (YJ G (ZC G (Zq G (Yc (ZA G (Ze (Zj G (Yq G (Zj G (Yq G (Yc (Yi (⟨_,YH (v:=.snil) G (YH (v:=.s (.int _ _)) G (ZL G)),?_⟩))))))))))))))))))))))));have e:=Ub (k:=k) (l:=l) (KL (Ka (s:=s) (p:=p) ⟨by omega,by omega⟩ (fun hh=>by omega)));rw[heq]at e;rw[e];exact⟨.snil,[],G,.nil G,fun _ h=>by cases h⟩
 refine Yb G (Zj G (Yb G (Yr (r:=.bool false) G G G (Yb G (Zk G (ZE G (ZC G (Yb G (Zq G (Yb G (Zk G (ZE G (ZC G (Yb G (Zq G (Zq G (Yc (ZB G (Yh (Yf (Zj G (Zs G G (Zj G (Yc (Yf (Zj G (Zs G G (Zj G (Yc ?_)))))))))))))))))))))))))))));refine YO (Ye (Ze (Zj G (Yr (r:=.bool true) G G G (Yc (ZA G (Yh (Ye (Yk (Ye (Ze (Zj G (Yq (v:=.s _) G (Xe G (Zr G (Yc (Yj G (fun h43=>?_) (fun h43=>?_)))))))))))))))))) <;> simp only[NM]at h43
 ·refine Ze (Zj G (Yq G (Zj G (Yq G (Yc (Yi (⟨_,YH (v:=.snil) G (YH (v:=.s (.int _ _)) G (ZL G)),?_⟩)))))));have e:=Ub (k:=k) (l:=l) (Kj (VD (s:=s) (p:=p) (by omega) (by omega) (by omega)) (JU (p:=p+2) (fun hh=>by omega)));rw[heq]at e;rw[e];exact⟨.snil,[],G,.nil G,fun _ h=>by cases h⟩
 refine Yh (Ze (Yq G (Yc (Ye (Ze (Zj G (Yr (r:=.int .i64 0) G G G (Yr (r:=.bool false) G G G (Yc (ZB G (Yh (Ze (Zj G (Yq (v:=.s _) G (Zj G (XP G G (by omega) (Yq (v:=.s _) G (Yt G (u7 (XU s (p+2))) G G G (Zw G G G (YA G G G G .here (Yc (Ye (Ze (Zj G (Zw G G G (Ym (x:=Xg (YM s (p+2))) G G ZM (G) (Zr G (Zk G (Ys (t:=59) G (fun h59=>?_) (fun h59=>?_)))))))))))))))))))))))))))))) <;> simp only[NM]at h59
 ·refine ZD G (ZC G (YJ G (YJ G (YJ G (YJ G (YJ G (ZD G (YJ G (YJ G (YJ G (YJ G (YJ G (ZC G (Zq G (Yc (ZA G (Ze (Zj G (Yq G (Zj G (Yq G (Yc (Yi (⟨_,YH (v:=.snil) G (YH (v:=.s (.int _ _)) G (ZL G)),?_⟩))))))))))))))))))))))));have e:=Ub (k:=k) (l:=l) (Kj (VD (s:=s) (p:=p) (by omega) (by omega) (by omega)) (JU (p:=p+2) (fun hh=>by omega)));rw[heq]at e;rw[e];exact⟨.snil,[],G,.nil G,fun _ h=>by cases h⟩
 refine Yb G (Zj G (Yb G (Yr (r:=.bool false) G G G (Yb G (Zk G (ZE G (ZC G (Yb G (Zq G (Yb G (Zk G (ZE G (ZC G (Yb G (Zq G (Zq G (Yc (ZB G (Yh (Yf (Zj G (Zs G G (Zj G (Yc (Yf (Zj G (Zs G G (Zj G (Yc ?_)))))))))))))))))))))))))))));refine YO (Ye (Ze (Zj G (Yr (r:=.bool true) G G G (Yc (ZA G (Yh (Ye (Yk (Ye (Ze (Zj G (Yq (v:=.s _) G (Xe G (Zr G (Yc (Yj G (fun h43=>?_) (fun h43=>?_)))))))))))))))))) <;> simp only[NM]at h43
 ·refine Ze (Zj G (Yq G (Zj G (Yq G (Yc (Yi (⟨_,YH (v:=.snil) G (YH (v:=.s (.int _ _)) G (ZL G)),?_⟩)))))));have e:=Ub (k:=k) (l:=l) (Kj (VD (s:=s) (p:=p) (by omega) (by omega) (by omega)) (Ka (p:=p+2) ⟨by omega,by omega⟩ (fun hh=>by obtain⟨a1,a2,a3⟩:=hh;first|omega|exact a3 (by unfold sqN;omega))));rw[heq]at e;rw[e];exact⟨.snil,[],G,.nil G,fun _ h=>by cases h⟩
 refine Yh (Ze (Yq G (Yc (Ye (Ze (Zj G (Yr (r:=.int .i64 1) G G G (Yr (r:=.bool true) G G G (Yc (ZA G (Yf (Yq G (Zf (Zj G (Yq (v:=.s _) G (Zj G (XP G G (by omega) (Yq (v:=.s _) G (Yt G (tL (XU s (p+2+1))) G G G (Zw G G G (YA G G G G .here (Yc (Ye (Ze (Zj G (Zw G G G (Ym (x:=Xj (YM s (p+2+1))) G G ZM (G) (Zr G (Zk G ?_)))))))))))))))))))))))))))));refine Ys (t:=59) G (fun h59=>?_) (fun h59=>?_) <;> simp only[NM]at h59
 ·refine ZD G (ZC G (YJ G (YJ G (YJ G (YJ G (YJ G (ZD G (YJ G (YJ G (YJ G (YJ G (YJ G (ZC G (Zq G (Yc (ZA G (Ze (Zj G (Yq G (Zj G (Yq G (Yc (Yi (⟨_,YH (v:=.snil) G (YH (v:=.s (.int _ _)) G (ZL G)),?_⟩))))))))))))))))))))))));have e:=Ub (k:=k) (l:=l) (Kj (VD (s:=s) (p:=p) (by omega) (by omega) (by omega)) (Ka (p:=p+2) ⟨by omega,by omega⟩ (fun hh=>by obtain⟨a1,a2,a3⟩:=hh;first|omega|exact a3 (by unfold sqN;omega))));rw[heq]at e;rw[e];exact⟨.snil,[],G,.nil G,fun _ h=>by cases h⟩
 refine Yb G (Zj G (Yb G (Yr (r:=.bool true) G G G (Yb G (Zk G (Yb G (Zw G G G (Yb G (Ym (x:=Xg (YM s p)) G G ZM (G) (Yb G (Zw G G G (Yb G (Ym (x:=Xg (YM s (p+2))) G G ZM (G) (Yb G (Zr G (Yb G (Zq G (Yb G (Zk G (Ys (t:=69) G (fun h69=>?_) (fun h69=>?_))))))))))))))))))))) <;> simp only[NM]at h69
 ·refine Yb G (Zw G G G (Yb G (Ym (x:=Xj (YM s (p+1))) G G ZM (G) (Yb G (Zw G G G (Yb G (Ym (x:=Xj (YM s (p+2+1))) G G ZM (G) (Yb G (Zr G (Yb G (Zq G (Zq G (Yc (Yj G (fun h76=>?_) (fun h76=>?_))))))))))))))) <;> simp only[NM]at h76
  ·refine Ze (Zj G (Yq G (Zj G (Yq G (Yc (Yi (⟨_,YH (v:=.snil) G (YH (v:=.s (.int _ _)) G (ZL G)),?_⟩)))))));have e:=Ub (k:=k) (l:=l) (Kj (VD (s:=s) (p:=p) (by omega) (by omega) (by omega)) (Ka (p:=p+2) ⟨by omega,by omega⟩ (fun hh=>by obtain⟨a1,a2,a3⟩:=hh;first|omega|exact a3 (by unfold sqN;omega))));rw[heq]at e;rw[e];exact⟨.snil,[],G,.nil G,fun _ h=>by cases h⟩
  refine Yh (Yf (Zj G (Zs G G (Zj G (Yc (Yf (Zj G (Zs G G (Zj G (Yc (YO (Ye (Ze (Zj G (Yr (r:=.bool false) G G G (Yc (ZB G (Y0 (Xb (Ze ?_))))))))))))))))))));have f0:=JT (c:=YM s p) (by omega);have f1:=JK (c:=YM s (p+1)) (by omega);have f2:=JT (c:=YM s (p+2)) (by omega);have f3:=JK (c:=YM s (p+2+1)) (by omega);have hne:sqN s (p+2)≠sqN s p:=fun e=>by unfold sqN at e;omega
  have e0:8*Xj (YM s (p+1))+Xg (YM s p)=sqN s p:=by unfold sqN;omega
  have e1:8*Xj (YM s (p+2+1))+Xg (YM s (p+2))=sqN s (p+2):=by unfold sqN;omega
  refine Zw G G G (Ym (x:=Xj (YM s (p+1))) G G ZM (G) (Wn G G (by omega) (Zw G G G (Ym (x:=Xg (YM s p)) G G ZM (G) (Zs G G (Zw G G G (Ym (x:=Xj (YM s (p+2+1))) G G ZM (G) (Wn G G (by omega) (Zw G G G (Ym (x:=Xg (YM s (p+2))) G G ZM (G) (Zs G G (YB G (.one G (.one G .nil)) (Yy (Yz G G G G .here (Yc (Ye (Ze (Zj G (Yq (v:=.s _) G (Xe G (Zr G (Zk G (Ys (t:=97) G (fun h97=>?_) (fun h97=>?_)))))))))))))))))))))))) <;> simp only[NM]at h97
  ·refine Yb G (Yq (v:=.s _) G (Yb G (Zj G (Yb G (XP G G (by omega) (Yb G (Yt G (zJ (XU s (p+2+2))) G G G (Yb G (Zr G (Zq G (Yc (Yj G (fun h103=>?_) (fun h103=>?_))))))))))))) <;> simp only[NM]at h103
   ·refine Ze (Yq (v:=.s _) G (Zj G (XP G G (by omega) (Yt G (zJ (XU s (p+2+2))) G G G ?_))));obtain⟨hk1,hk2,hk3⟩:=yM h103;refine Zs G G (Yd (o':=2) G G G (YA G G G G .here (Yc (Yf (Zj G (Zs G G (Zj G (Zf ?_))))))));have hm:mvR s p=((sqN s p,sqN s (p+2),WS (YM s (p+2+2))),true,p+2+2+1):=Rm (VD (by omega) (by omega) (by omega)) (Kg ⟨by omega,by omega⟩ ⟨by omega,by omega,hne⟩) ⟨by omega,hk2⟩;refine Yq (v:=vL) rfl (Yo rfl rfl ZM (Wp rfl (.agg rfl .nil) (XZ (c:=[sqN s p,sqN s (p+2),WS (YM s (p+2+2))]) rfl hrL rfl ZM (.there (.there (.there .here))) (by decide) (by decide) rfl ((fun i hi=>by match i,hi with|0,_=>exact e0|1,_=>exact e1|2,_=>exact hk1.symm)) (by rw[YQ];omega) (fun v1 own1 n1 hr1=>?_))));rw[UA l (sqN s p,sqN s (p+2),WS (YM s (p+2+2)))]at hr1;refine Yq (v:=v1) G (Yc (Ye (Ze (Zj G (Yq (v:=.s _) G (Xe G (Zr G (Zk G (Ys (t:=120) G (fun h120=>?_) (fun h120=>?_)))))))))) <;> simp only[NM]at h120
    ·refine Yb G (Yq (v:=.s _) G (Yb G (Zj G (Yb G (XP G G (by omega) (Yb G (Zr G (Zq G (Yc (Yj G (fun h125=>?_) (fun h125=>?_))))))))))) <;> simp only[NM]at h125
     ·refine Ze (Zj G (Yq G (Zj G (Yq G (Yc (Yi (⟨_,YH (v:=.snil) G (YH (v:=.s (.int _ _)) G (ZL G)),?_⟩)))))));have e:=Ra (k:=k) (l:=l) hm (by omega) (fun hb=>h125 hb);rw[heq]at e;rw[e];exact⟨.snil,[],G,.nil G,fun _ h=>by cases h⟩
     refine Yh (Ze (Zj G (Yq (v:=.s _) G (Xe G (Zr G (Yc (Yj G (fun h130=>?_) (fun h130=>?_)))))))) <;> simp only[NM]at h130
     ·refine Yf (Zj G (Zs G G (Zj G (Yc ?_))));rw[Tv hm (by omega) h125]at heq;refine⟨k,_,by omega,(ZbY (.refl _) (.cons _ (.cons _ (.cons _ .slnil)))),k,p+2+2+1+1,l++[(sqN s p,sqN s (p+2),WS (YM s (p+2+2)))],_,_,rfl,by omega,by omega,.inl ⟨⟨heq,by rw[Zb2];simp only[Zcd,List.length_nil];omega⟩,.inr ⟨by rw[Zb2];simp only[Zcd,List.length_nil];omega,by omega,h125⟩⟩,hr1,rfl,rfl,rfl,rfl⟩
     exfalso;omega
    refine ZE G (Zq G (Yc (ZB G (Yh (Ze (Zj G (Yq (v:=.s _) G (Xe G (Zr G (Yc (Yj G (fun h130=>?_) (fun h130=>?_)))))))))))) <;> simp only[NM]at h130
    ·exfalso;omega
    refine Yh ?_;have e:=U7 (k:=k) (l:=l) hm (by omega);rw[heq]at e;refine⟨k,_,by omega,(ZbY (.refl _) (.cons _ (.cons _ (.cons _ .slnil)))),k,p+2+2+1,l++[(sqN s p,sqN s (p+2),WS (YM s (p+2+2)))],_,_,rfl,by omega,by omega,.inr ⟨by omega,e.symm,.inr ⟨by omega,fun hb=>uQ h103 hb⟩⟩,hr1,rfl,rfl,rfl,rfl⟩
   refine Yh (Ze ?_);have hm:mvR s p=((sqN s p,sqN s (p+2),0),true,p+2+2):=Kk (VD (by omega) (by omega) (by omega)) (Kg ⟨by omega,by omega⟩ ⟨by omega,by omega,hne⟩) (fun hh=>hh.2 (wL (by omega)));refine Yq (v:=vL) rfl (Yo rfl rfl ZM (Wp rfl (.agg rfl .nil) (XZ (c:=[sqN s p,sqN s (p+2),0]) rfl hrL rfl ZM (.there (.there (.there .here))) (by decide) (by decide) rfl ((fun i hi=>by match i,hi with|0,_=>exact e0|1,_=>exact e1|2,_=>exact rfl)) (by rw[YQ];omega) (fun v2 own2 n2 hr2=>?_))));rw[UA l (sqN s p,sqN s (p+2),0)]at hr2;refine Yq (v:=v2) G (Yc (Ye (Ze (Zj G (Yq (v:=.s _) G (Xe G (Zr G (Zk G (Ys (t:=120) G (fun h120=>?_) (fun h120=>?_)))))))))) <;> simp only[NM]at h120
   ·refine Yb G (Yq (v:=.s _) G (Yb G (Zj G (Yb G (XP G G (by omega) (Yb G (Zr G (Zq G (Yc (Yj G (fun h125=>?_) (fun h125=>?_))))))))))) <;> simp only[NM]at h125
    ·refine Ze (Zj G (Yq G (Zj G (Yq G (Yc (Yi (⟨_,YH (v:=.snil) G (YH (v:=.s (.int _ _)) G (ZL G)),?_⟩)))))));have e:=Ra (k:=k) (l:=l) hm (by omega) (fun hb=>h125 hb);rw[heq]at e;rw[e];exact⟨.snil,[],G,.nil G,fun _ h=>by cases h⟩
    refine Yh (Ze (Zj G (Yq (v:=.s _) G (Xe G (Zr G (Yc (Yj G (fun h130=>?_) (fun h130=>?_)))))))) <;> simp only[NM]at h130
    ·refine Yf (Zj G (Zs G G (Zj G (Yc ?_))));rw[Tv hm (by omega) h125]at heq;refine⟨k,_,by omega,(ZbY (.refl _) (.cons _ (.cons _ (.cons _ .slnil)))),k,p+2+2+1,l++[(sqN s p,sqN s (p+2),0)],_,_,rfl,by omega,by omega,.inl ⟨⟨heq,by rw[Zb2];simp only[Zcd,List.length_nil];omega⟩,.inr ⟨by rw[Zb2];simp only[Zcd,List.length_nil];omega,by omega,h125⟩⟩,hr2,rfl,rfl,rfl,rfl⟩
    exfalso;omega
   refine ZE G (Zq G (Yc (ZB G (Yh (Ze (Zj G (Yq (v:=.s _) G (Xe G (Zr G (Yc (Yj G (fun h130=>?_) (fun h130=>?_)))))))))))) <;> simp only[NM]at h130
   ·exfalso;omega
   refine Yh ?_;have e:=U7 (k:=k) (l:=l) hm (by omega);rw[heq]at e;refine⟨k,_,by omega,(ZbY (.refl _) (.cons _ (.cons _ (.cons _ .slnil)))),k,p+2+2,l++[(sqN s p,sqN s (p+2),0)],_,_,rfl,by omega,by omega,.inr ⟨by omega,e.symm,.inr ⟨by omega,fun hb=>by rw[show p+2+2-1=p+2+1 by omega]at hb;omega⟩⟩,hr2,rfl,rfl,rfl,rfl⟩
  refine ZE G (ZC G (Zq G (Yc (ZB G (Yh (Ze ?_))))));have hm:mvR s p=((sqN s p,sqN s (p+2),0),true,p+2+2):=Kk (VD (by omega) (by omega) (by omega)) (Kg ⟨by omega,by omega⟩ ⟨by omega,by omega,hne⟩) (fun hh=>by omega);refine Yq (v:=vL) rfl (Yo rfl rfl ZM (Wp rfl (.agg rfl .nil) (XZ (c:=[sqN s p,sqN s (p+2),0]) rfl hrL rfl ZM (.there (.there (.there .here))) (by decide) (by decide) rfl ((fun i hi=>by match i,hi with|0,_=>exact e0|1,_=>exact e1|2,_=>exact rfl)) (by rw[YQ];omega) (fun v3 own3 n3 hr3=>?_))));rw[UA l (sqN s p,sqN s (p+2),0)]at hr3;refine Yq (v:=v3) G (Yc (Ye (Ze (Zj G (Yq (v:=.s _) G (Xe G (Zr G (Zk G (Ys (t:=120) G (fun h120=>?_) (fun h120=>?_)))))))))) <;> simp only[NM]at h120
  ·exfalso;omega
  refine ZE G (Zq G (Yc (ZB G (Yh (Ze (Zj G (Yq (v:=.s _) G (Xe G (Zr G (Yc (Yj G (fun h130=>?_) (fun h130=>?_)))))))))))) <;> simp only[NM]at h130
  ·exfalso;omega
  refine Yh ?_;have e:=U7 (k:=k) (l:=l) hm (by omega);rw[heq]at e;refine⟨k,_,by omega,(ZbY (.refl _) (.cons _ (.cons _ (.cons _ .slnil)))),k,p+2+2,l++[(sqN s p,sqN s (p+2),0)],_,_,rfl,by omega,by omega,.inr ⟨by omega,e.symm,.inr ⟨by omega,fun hb=>by rw[show p+2+2-1=p+2+1 by omega]at hb;omega⟩⟩,hr3,rfl,rfl,rfl,rfl⟩
 refine ZE G (ZC G (Yb G (Zq G (Zq G (Yc (ZB G (Yh (Yf (Zj G (Zs G G (Zj G (Yc (Yf (Zj G (Zs G G (Zj G (Yc (YO (Ye (Ze (Zj G (Yr (r:=.bool false) G G G (Yc (ZB G (Y0 (Xb (Ze ?_)))))))))))))))))))))))))));have f0:=JT (c:=YM s p) (by omega);have f1:=JK (c:=YM s (p+1)) (by omega);have f2:=JT (c:=YM s (p+2)) (by omega);have f3:=JK (c:=YM s (p+2+1)) (by omega);have hne:sqN s (p+2)≠sqN s p:=fun e=>by unfold sqN at e;omega
 have e0:8*Xj (YM s (p+1))+Xg (YM s p)=sqN s p:=by unfold sqN;omega
 have e1:8*Xj (YM s (p+2+1))+Xg (YM s (p+2))=sqN s (p+2):=by unfold sqN;omega
 refine Zw G G G (Ym (x:=Xj (YM s (p+1))) G G ZM (G) (Wn G G (by omega) (Zw G G G (Ym (x:=Xg (YM s p)) G G ZM (G) (Zs G G (Zw G G G (Ym (x:=Xj (YM s (p+2+1))) G G ZM (G) (Wn G G (by omega) (Zw G G G (Ym (x:=Xg (YM s (p+2))) G G ZM (G) (Zs G G (YB G (.one G (.one G .nil)) (Yy (Yz G G G G .here (Yc (Ye (Ze (Zj G (Yq (v:=.s _) G (Xe G (Zr G (Zk G (Ys (t:=97) G (fun h97=>?_) (fun h97=>?_)))))))))))))))))))))))) <;> simp only[NM]at h97
 ·refine Yb G (Yq (v:=.s _) G (Yb G (Zj G (Yb G (XP G G (by omega) (Yb G (Yt G (zJ (XU s (p+2+2))) G G G (Yb G (Zr G (Zq G (Yc (Yj G (fun h103=>?_) (fun h103=>?_))))))))))))) <;> simp only[NM]at h103
  ·refine Ze (Yq (v:=.s _) G (Zj G (XP G G (by omega) (Yt G (zJ (XU s (p+2+2))) G G G ?_))));obtain⟨hk1,hk2,hk3⟩:=yM h103;refine Zs G G (Yd (o':=2) G G G (YA G G G G .here (Yc (Yf (Zj G (Zs G G (Zj G (Zf ?_))))))));have hm:mvR s p=((sqN s p,sqN s (p+2),WS (YM s (p+2+2))),true,p+2+2+1):=Rm (VD (by omega) (by omega) (by omega)) (Kg ⟨by omega,by omega⟩ ⟨by omega,by omega,hne⟩) ⟨by omega,hk2⟩;refine Yq (v:=vL) rfl (Yo rfl rfl ZM (Wp rfl (.agg rfl .nil) (XZ (c:=[sqN s p,sqN s (p+2),WS (YM s (p+2+2))]) rfl hrL rfl ZM (.there (.there (.there .here))) (by decide) (by decide) rfl ((fun i hi=>by match i,hi with|0,_=>exact e0|1,_=>exact e1|2,_=>exact hk1.symm)) (by rw[YQ];omega) (fun v4 own4 n4 hr4=>?_))));rw[UA l (sqN s p,sqN s (p+2),WS (YM s (p+2+2)))]at hr4;refine Yq (v:=v4) G (Yc (Ye (Ze (Zj G (Yq (v:=.s _) G (Xe G (Zr G (Zk G (Ys (t:=120) G (fun h120=>?_) (fun h120=>?_)))))))))) <;> simp only[NM]at h120
   ·refine Yb G (Yq (v:=.s _) G (Yb G (Zj G (Yb G (XP G G (by omega) (Yb G (Zr G (Zq G (Yc (Yj G (fun h125=>?_) (fun h125=>?_))))))))))) <;> simp only[NM]at h125
    ·refine Ze (Zj G (Yq G (Zj G (Yq G (Yc (Yi (⟨_,YH (v:=.snil) G (YH (v:=.s (.int _ _)) G (ZL G)),?_⟩)))))));have e:=Ra (k:=k) (l:=l) hm (by omega) (fun hb=>h125 hb);rw[heq]at e;rw[e];exact⟨.snil,[],G,.nil G,fun _ h=>by cases h⟩
    refine Yh (Ze (Zj G (Yq (v:=.s _) G (Xe G (Zr G (Yc (Yj G (fun h130=>?_) (fun h130=>?_)))))))) <;> simp only[NM]at h130
    ·refine Yf (Zj G (Zs G G (Zj G (Yc ?_))));rw[Tv hm (by omega) h125]at heq;refine⟨k,_,by omega,(ZbY (.refl _) (.cons _ (.cons _ (.cons _ .slnil)))),k,p+2+2+1+1,l++[(sqN s p,sqN s (p+2),WS (YM s (p+2+2)))],_,_,rfl,by omega,by omega,.inl ⟨⟨heq,by rw[Zb2];simp only[Zcd,List.length_nil];omega⟩,.inr ⟨by rw[Zb2];simp only[Zcd,List.length_nil];omega,by omega,h125⟩⟩,hr4,rfl,rfl,rfl,rfl⟩
    exfalso;omega
   refine ZE G (Zq G (Yc (ZB G (Yh (Ze (Zj G (Yq (v:=.s _) G (Xe G (Zr G (Yc (Yj G (fun h130=>?_) (fun h130=>?_)))))))))))) <;> simp only[NM]at h130
   ·exfalso;omega
   refine Yh ?_;have e:=U7 (k:=k) (l:=l) hm (by omega);rw[heq]at e;refine⟨k,_,by omega,(ZbY (.refl _) (.cons _ (.cons _ (.cons _ .slnil)))),k,p+2+2+1,l++[(sqN s p,sqN s (p+2),WS (YM s (p+2+2)))],_,_,rfl,by omega,by omega,.inr ⟨by omega,e.symm,.inr ⟨by omega,fun hb=>uQ h103 hb⟩⟩,hr4,rfl,rfl,rfl,rfl⟩
  refine Yh (Ze ?_);have hm:mvR s p=((sqN s p,sqN s (p+2),0),true,p+2+2):=Kk (VD (by omega) (by omega) (by omega)) (Kg ⟨by omega,by omega⟩ ⟨by omega,by omega,hne⟩) (fun hh=>hh.2 (wL (by omega)));refine Yq (v:=vL) rfl (Yo rfl rfl ZM (Wp rfl (.agg rfl .nil) (XZ (c:=[sqN s p,sqN s (p+2),0]) rfl hrL rfl ZM (.there (.there (.there .here))) (by decide) (by decide) rfl ((fun i hi=>by match i,hi with|0,_=>exact e0|1,_=>exact e1|2,_=>exact rfl)) (by rw[YQ];omega) (fun v5 own5 n5 hr5=>?_))));rw[UA l (sqN s p,sqN s (p+2),0)]at hr5;refine Yq (v:=v5) G (Yc (Ye (Ze (Zj G (Yq (v:=.s _) G (Xe G (Zr G (Zk G (Ys (t:=120) G (fun h120=>?_) (fun h120=>?_)))))))))) <;> simp only[NM]at h120
  ·refine Yb G (Yq (v:=.s _) G (Yb G (Zj G (Yb G (XP G G (by omega) (Yb G (Zr G (Zq G (Yc (Yj G (fun h125=>?_) (fun h125=>?_))))))))))) <;> simp only[NM]at h125
   ·refine Ze (Zj G (Yq G (Zj G (Yq G (Yc (Yi (⟨_,YH (v:=.snil) G (YH (v:=.s (.int _ _)) G (ZL G)),?_⟩)))))));have e:=Ra (k:=k) (l:=l) hm (by omega) (fun hb=>h125 hb);rw[heq]at e;rw[e];exact⟨.snil,[],G,.nil G,fun _ h=>by cases h⟩
   refine Yh (Ze (Zj G (Yq (v:=.s _) G (Xe G (Zr G (Yc (Yj G (fun h130=>?_) (fun h130=>?_)))))))) <;> simp only[NM]at h130
   ·refine Yf (Zj G (Zs G G (Zj G (Yc ?_))));rw[Tv hm (by omega) h125]at heq;refine⟨k,_,by omega,(ZbY (.refl _) (.cons _ (.cons _ (.cons _ .slnil)))),k,p+2+2+1,l++[(sqN s p,sqN s (p+2),0)],_,_,rfl,by omega,by omega,.inl ⟨⟨heq,by rw[Zb2];simp only[Zcd,List.length_nil];omega⟩,.inr ⟨by rw[Zb2];simp only[Zcd,List.length_nil];omega,by omega,h125⟩⟩,hr5,rfl,rfl,rfl,rfl⟩
   exfalso;omega
  refine ZE G (Zq G (Yc (ZB G (Yh (Ze (Zj G (Yq (v:=.s _) G (Xe G (Zr G (Yc (Yj G (fun h130=>?_) (fun h130=>?_)))))))))))) <;> simp only[NM]at h130
  ·exfalso;omega
  refine Yh ?_;have e:=U7 (k:=k) (l:=l) hm (by omega);rw[heq]at e;refine⟨k,_,by omega,(ZbY (.refl _) (.cons _ (.cons _ (.cons _ .slnil)))),k,p+2+2,l++[(sqN s p,sqN s (p+2),0)],_,_,rfl,by omega,by omega,.inr ⟨by omega,e.symm,.inr ⟨by omega,fun hb=>by rw[show p+2+2-1=p+2+1 by omega]at hb;omega⟩⟩,hr5,rfl,rfl,rfl,rfl⟩
 refine ZE G (ZC G (Zq G (Yc (ZB G (Yh (Ze ?_))))));have hm:mvR s p=((sqN s p,sqN s (p+2),0),true,p+2+2):=Kk (VD (by omega) (by omega) (by omega)) (Kg ⟨by omega,by omega⟩ ⟨by omega,by omega,hne⟩) (fun hh=>by omega);refine Yq (v:=vL) rfl (Yo rfl rfl ZM (Wp rfl (.agg rfl .nil) (XZ (c:=[sqN s p,sqN s (p+2),0]) rfl hrL rfl ZM (.there (.there (.there .here))) (by decide) (by decide) rfl ((fun i hi=>by match i,hi with|0,_=>exact e0|1,_=>exact e1|2,_=>exact rfl)) (by rw[YQ];omega) (fun v6 own6 n6 hr6=>?_))));rw[UA l (sqN s p,sqN s (p+2),0)]at hr6;refine Yq (v:=v6) G (Yc (Ye (Ze (Zj G (Yq (v:=.s _) G (Xe G (Zr G (Zk G (Ys (t:=120) G (fun h120=>?_) (fun h120=>?_)))))))))) <;> simp only[NM]at h120
 ·exfalso;omega
 refine ZE G (Zq G (Yc (ZB G (Yh (Ze (Zj G (Yq (v:=.s _) G (Xe G (Zr G (Yc (Yj G (fun h130=>?_) (fun h130=>?_)))))))))))) <;> simp only[NM]at h130
 ·exfalso;omega
 refine Yh ?_;have e:=U7 (k:=k) (l:=l) hm (by omega);rw[heq]at e;refine⟨k,_,by omega,(ZbY (.refl _) (.cons _ (.cons _ (.cons _ .slnil)))),k,p+2+2,l++[(sqN s p,sqN s (p+2),0)],_,_,rfl,by omega,by omega,.inr ⟨by omega,e.symm,.inr ⟨by omega,fun hb=>by rw[show p+2+2-1=p+2+1 by omega]at hb;omega⟩⟩,hr6,rfl,rfl,rfl,rfl⟩
def vZ(s:ByteArray)(h:65536<s.size):RtT AM 43 3 [.s (.str s)] (YV (Wi s).1) (.int .i64 (Wi s).2.1) (.int .i64 (Wi s).2.2):=by
 rw[qe h];refine D3 (YL (a:=a43) G G (YI _) (ZQ G) (m:=0) G (Ze (Yq G (Yq G (Yq G (Yc (Ye (Ze (Yq (v:=.s _) G (Xe G (Yr G G (jK (by omega)) (Yc (ZA G (Ze (Yq G (Yq G (Yq G (Yc (Yi (⟨_,YH (v:=.snil) G (YH (v:=.s (.int _ _)) G (ZL G)),?_⟩))))))))))))))))))));exact⟨.snil,[],G,.nil G,fun _ h=>by cases h⟩
def sB(s:ByteArray):RtT AM 43 3 [.s (.str s)] (YV (Wi s).1) (.int .i64 (Wi s).2.1) (.int .i64 (Wi s).2.2):=by
 by_cases h:65536<s.size
 ·exact vZ s h
 exact up s (by omega)
def anyV_no{l:List Mv}(h:∀ j:Nat,j<l.length->Ul (l.getD j (0,0,0))=false):l.any Ul=false:=by
 rw[List.any_eq_false];intro m hm;obtain⟨i,hi,rfl⟩:=List.getElem_of_mem hm;have:=h i hi;rw[ZbD,ZbH hi,Option.getD_some]at this;rw[this];exact Bool.false_ne_true
def low_u{b:Int}(h:2<=b)(h5:b<=5):Qz b=⟨#[(⟨#[110,98,114,113]⟩:ByteArray).data.getD (b-2).toNat 0]⟩:=by
 have:b=2\/b=3\/b=4\/b=5:=by omega
 rcases this with rfl|rfl|rfl|rfl <;> rfl
def sh_0n{l:List Mv}(h:(l.getD 0 (0,0,0)).2.2=0):Wv l 0++YS (l.getD 0 (0,0,0)).1++YS (l.getD 0 (0,0,0)).2.1=Wv l 1:=by
 rw[R3,h,show Wv l 0++YS (l.getD 0 (0,0,0)).1=YS (l.getD 0 (0,0,0)).1 from ByteArray.empty_append];exact(ByteArray.append_empty).symm
def sh_0y{l:List Mv}(h:2<=(l.getD 0 (0,0,0)).2.2)(h5:(l.getD 0 (0,0,0)).2.2<=5):Wv l 0++YS (l.getD 0 (0,0,0)).1++YS (l.getD 0 (0,0,0)).2.1++⟨#[(⟨#[110,98,114,113]⟩:ByteArray).data.getD ((l.getD 0 (0,0,0)).2.2-2).toNat 0]⟩=Wv l 1:=by
 rw[R3,low_u h h5,show Wv l 0++YS (l.getD 0 (0,0,0)).1=YS (l.getD 0 (0,0,0)).1 from ByteArray.empty_append]
def sh_1n{l:List Mv}{i:Nat}(h1:1<=i)(h:(l.getD i (0,0,0)).2.2=0):Wv l i++⟨#[32]⟩++YS (l.getD i (0,0,0)).1++YS (l.getD i (0,0,0)).2.1=Wv l (i+1):=by
 rw[Jx l h1,h];exact(ByteArray.append_empty).symm
def sh_1y{l:List Mv}{i:Nat}(h1:1<=i)(h:2<=(l.getD i (0,0,0)).2.2)(h5:(l.getD i (0,0,0)).2.2<=5):Wv l i++⟨#[32]⟩++YS (l.getD i (0,0,0)).1++YS (l.getD i (0,0,0)).2.1++⟨#[(⟨#[110,98,114,113]⟩:ByteArray).data.getD ((l.getD i (0,0,0)).2.2-2).toNat 0]⟩=Wv l (i+1):=by
 rw[Jx l h1,low_u h h5]
def rQ(l:List Mv)(hlen:l.length<=1000000)(hb:l.any Ul=true):RdR AM 14 3 [] [] (YV l) (.tup [.s (.str ⟨#[]⟩),.s (.int .i64 2)]):=by
 refine WV fun v Bs hc=>?_
 refine YL (a:=a14) G G (YI _) (ZQ G) G ?_ (by first|rfl|(cases hc <;> rfl));have hr0:=hc.rx;rw[show YZ 0 Bs=YZ 0 Bs++[] from(Zcf _).symm];generalize hown:YZ 0 Bs=own0 at hr0 ⊢;refine Ze (Yq G (Yq G (Yc (Ye (Ze (Yq G (Yc (Yk (Xo (ZbY (.refl _) .slnil) (Xu (fun m f _ L=>∃ (i:Nat),(i<=l.length)/\(m=l.length-i)/\(∀ j:Nat,j<i->Ul (l.getD j (0,0,0))=false)/\(f 0=v)/\(f 4=.s (.int .i64 i))/\(L=(own0++[]))) (fun m f nb L hI=>?_) (l.length) (⟨0,by omega,by omega,fun j hj=>by omega,rfl,rfl,rfl⟩)))))))))));obtain⟨i,hi,hm,hn,k0,k4,rfl⟩:=hI;refine Za 0 k0 (Za 4 k4 (Ye (Ze (Zj G (Yq (v:=v) G (Xk G hr0 (by decide) (YQ l) (Zr G (Yc (Yj G (fun h10=>?_) (fun h10=>?_)))))))))) <;> simp only[NM]at h10
 ·refine Yh (Ye (Yk (Ze (Yq (v:=v) G (Zj G ?_)))));obtain⟨b0,q0,md0,c0,F0,rfl,rfl,hF0⟩:=hr0.at (by decide) (YQ l) (by omega);refine Zx G G ?_;obtain⟨hx0,hx1,hx2⟩:=UE hF0 (i:=i) (by omega);have hq:=YP (yU (dp F0 (0+(i:Int).toNat*3)));rw[show(dp F0 (0+(i:Int).toNat*3)) 0=(l.getD i (0,0,0)).1 from hx0,show(dp F0 (0+(i:Int).toNat*3)) 1=(l.getD i (0,0,0)).2.1 from hx1,show(dp F0 (0+(i:Int).toNat*3)) 2=(l.getD i (0,0,0)).2.2 from hx2]at hq;refine Yp G G ZM (Yt G (hq) G G G (Yv (r:=.bool _) G G (Yc (Yj G (fun h18=>?_) (fun h18=>?_))))) <;> simp only[NM]at h18
  ·refine Ze (Yq G (Yq G (Yc (Yi (⟨_,YH (v:=.s _) G (ZL G),?_⟩)))));exact⟨G,(UY ZM)⟩
  refine Yh (Yf (Zj G (Zs G G (Zj G (Yc (⟨l.length-(i+1),_,by omega,(.refl _),i+1,by omega,rfl,?_,rfl,rfl,rfl⟩))))));intro j hj;by_cases e:j=i
  ·subst e;exact oz h18
  exact hn j (by omega)
 exfalso;exact absurd hb (by rw[anyV_no fun j hj=>hn j (by omega)];decide)
def sJ(l:List Mv)(hlen:l.length<=1000000)(hb:l.any Ul=false)(hm8:8192<l.length):RdR AM 14 3 [] [] (YV l) (.tup [.s (.str ⟨#[]⟩),.s (.int .i64 3)]):=by
 refine WV fun v Bs hc=>?_
 refine YL (a:=a14) G G (YI _) (ZQ G) G ?_ (by first|rfl|(cases hc <;> rfl));have hr0:=hc.rx;rw[show YZ 0 Bs=YZ 0 Bs++[] from(Zcf _).symm];generalize hown:YZ 0 Bs=own0 at hr0 ⊢;refine Ze (Yq G (Yq G (Yc (Ye (Ze (Yq G (Yc (Yk (Xo (ZbY (.refl _) .slnil) (Xu (fun m f _ L=>∃ (i:Nat),(i<=l.length)/\(m=l.length-i)/\(f 0=v)/\(f 4=.s (.int .i64 i))/\(L=(own0++[]))) (fun m f nb L hI=>?_) (l.length) (⟨0,by omega,by omega,rfl,rfl,rfl⟩)))))))))));obtain⟨i,hi,hm,k0,k4,rfl⟩:=hI;refine Za 0 k0 (Za 4 k4 (Ye (Ze (Zj G (Yq (v:=v) G (Xk G hr0 (by decide) (YQ l) (Zr G (Yc (Yj G (fun h1=>?_) (fun h1=>?_)))))))))) <;> simp only[NM]at h1
 ·refine Yh (Ye (Yk (Ze (Yq (v:=v) G (Zj G ?_)))));obtain⟨b0,q0,md0,c0,F0,rfl,rfl,hF0⟩:=hr0.at (by decide) (YQ l) (by omega);refine Zx G G ?_;obtain⟨hx0,hx1,hx2⟩:=UE hF0 (i:=i) (by omega);have hq:=YP (yU (dp F0 (0+(i:Int).toNat*3)));rw[show(dp F0 (0+(i:Int).toNat*3)) 0=(l.getD i (0,0,0)).1 from hx0,show(dp F0 (0+(i:Int).toNat*3)) 1=(l.getD i (0,0,0)).2.1 from hx1,show(dp F0 (0+(i:Int).toNat*3)) 2=(l.getD i (0,0,0)).2.2 from hx2]at hq;rw[txtB_iff.2 (TQ hb (i:=i) (by omega))]at hq;refine Yp G G ZM (Yt G (hq) G G G (Yv (r:=.bool _) G G (Yc (ZB G (Yh (Yf (Zj G (Zs G G (Zj G (Yc ?_))))))))));refine⟨l.length-(i+1),_,by omega,(.refl _),i+1,by omega,rfl,rfl,rfl,rfl⟩
 refine Y0 (Xb (Ye (Ze (Yq (v:=v) G (Xk G hr0 (by decide) (YQ l) (Yr G G (wE (by omega)) (Yc (ZA G (Ze (Yq G (Yq G (Yc (Yi (⟨_,YH (v:=.s _) G (ZL G),?_⟩))))))))))))));exact⟨G,(fun _ h=>h)⟩
def Zbl(l:List Mv)(hb:l.any Ul=false)(hlen:l.length<=8192):RdR AM 14 3 [] [] (YV l) (.tup [.s (.str (Wv l l.length)),.s (.int .i64 0)]):=by
 refine WV fun v Bs hc=>?_
 refine YL (a:=a14) G G (YI _) (ZQ G) G ?_ (by first|rfl|(cases hc <;> rfl));have hr0:=hc.rx;rw[show YZ 0 Bs=YZ 0 Bs++[] from(Zcf _).symm];generalize hown:YZ 0 Bs=own0 at hr0 ⊢;refine Ze (Yq G (Yq G (Yc (Ye (Ze (Yq G (Yc (Yk (Xo (ZbY (.refl _) .slnil) (Xu (fun m f _ L=>∃ (i:Nat),(i<=l.length)/\(m=l.length-i)/\(f 0=v)/\(f 4=.s (.int .i64 i))/\(L=(own0++[]))) (fun m f nb L hI=>?_) (l.length) (⟨0,by omega,by omega,rfl,rfl,rfl⟩)))))))))));obtain⟨i,hi,hm,k0,k4,rfl⟩:=hI;refine Za 0 k0 (Za 4 k4 (Ye (Ze (Zj G (Yq (v:=v) G (Xk G hr0 (by decide) (YQ l) (Zr G (Yc (Yj G (fun h2=>?_) (fun h2=>?_)))))))))) <;> simp only[NM]at h2
 ·refine Yh (Ye (Yk (Ze (Yq (v:=v) G (Zj G ?_)))));obtain⟨b0,q0,md0,c0,F0,rfl,rfl,hF0⟩:=hr0.at (by decide) (YQ l) (by omega);refine Zx G G ?_;obtain⟨hx0,hx1,hx2⟩:=UE hF0 (i:=i) (by omega);have hq:=YP (yU (dp F0 (0+(i:Int).toNat*3)));rw[show(dp F0 (0+(i:Int).toNat*3)) 0=(l.getD i (0,0,0)).1 from hx0,show(dp F0 (0+(i:Int).toNat*3)) 1=(l.getD i (0,0,0)).2.1 from hx1,show(dp F0 (0+(i:Int).toNat*3)) 2=(l.getD i (0,0,0)).2.2 from hx2]at hq;rw[txtB_iff.2 (TQ hb (i:=i) (by omega))]at hq;refine Yp G G ZM (Yt G (hq) G G G (Yv (r:=.bool _) G G (Yc (ZB G (Yh (Yf (Zj G (Zs G G (Zj G (Yc ?_))))))))));refine⟨l.length-(i+1),_,by omega,(.refl _),i+1,by omega,rfl,rfl,rfl,rfl⟩
 refine Y0 (Xb (Ye (Ze (Yq (v:=v) G (Xk G hr0 (by decide) (YQ l) (Yr G G (vQ (by omega)) (Yc (ZB G (Yh (Ze (Yq G (Yc (Ye (Ze (Yq G (Yc (Yk (Xo (ZbY (.refl _) .slnil) (Xu (fun m f _ L=>∃ (i:Nat) (vB:V) (ownB:HA),(i<=l.length)/\(m=l.length-i)/\(Bw 5 (Wv l i) vB ownB)/\(f 0=v)/\(f 5=vB)/\(f 6=.s (.int .i64 i))/\(L=(ownB++(own0++[])))) (fun m f nb L hI=>?_) (l.length) (⟨0,.snil,[],by omega,by omega,Bw.nil rfl,rfl,rfl,rfl,rfl⟩))))))))))))))))))));obtain⟨i,vB,ownB,hi,hm,hrB,k0,k5,k6,rfl⟩:=hI;refine Za 0 k0 (Za 5 k5 (Za 6 k6 ?_));have hsz:=El hb hi;refine Ye (Ze (Zj G (Yq (v:=v) G (Xk G hr0 (by decide) (YQ l) (Zr G (Yc (Yj G (fun h25=>?_) (fun h25=>?_)))))))) <;> simp only[NM]at h25
 ·refine Yh (Ye (Yk (Ye (Ze ?_))));obtain⟨h1,h2,_,hb1,hb0,hb5⟩:=TQ hb (i:=i) (by omega);refine Zj G (Zr G (Yc (Yj G (fun h29=>?_) (fun h29=>?_)))) <;> simp only[NM]at h29
  ·refine Yf (Yq (v:=vB) G (yy G (.one G .nil) (yE (u:=32) G hrB G ZM G (.there .here) (by have:=hsz.2 (by omega);omega) (by(try simp only[ZbP]);have e1:=hsz.1;have e2:=YU h1;have e3:=YU h2;have e4:(⟨#[32]⟩:ByteArray).size=1:=rfl;omega) (fun v1 own1 n1 hr1=>Yq (v:=v1) G (Zf (Yq (v:=v1) G (Yq (v:=v) G (Zj G ?_))))))));obtain⟨b0,q0,md0,c0,F0,rfl,rfl,hF0⟩:=hr0.at (by decide) (YQ l) (by omega);refine Zx G G (Yd G G G ?_);obtain⟨hx0,hx1,hx2⟩:=UE hF0 (i:=i) (by omega);refine Ym (x:=(l.getD i (0,0,0)).1) G G (ZbM _ ZN) (hx0) (Yt G (YP (RY _)) G G G (T5 G hr1 G .here (by(try simp only[ZbP]);have e1:=hsz.1;have e2:=YU h1;have e3:=YU h2;have e4:(⟨#[32]⟩:ByteArray).size=1:=rfl;omega) (fun v2 own2 n2 hr2=>Yq (v:=v2) G (Zf (Yq (v:=v2) G (Zn G (Zj G (Zx G G (Yd G G G (Ym (x:=(l.getD i (0,0,0)).2.1) G G (ZbM _ ZN) (hx1) (Yt G (YP (RY _)) G G G (T5 G hr2 G .here (by(try simp only[ZbP]);have e1:=hsz.1;have e2:=YU h1;have e3:=YU h2;have e4:(⟨#[32]⟩:ByteArray).size=1:=rfl;omega) (fun v3 own3 n3 hr3=>Yq (v:=v3) G (Zf (Zn G (Zj G (Zx G G (Yd G G G (Ym (x:=(l.getD i (0,0,0)).2.2) G G (ZbM _ ZN) (hx2) (Zr G (Yc (Yj G (fun h54=>?_) (fun h54=>?_))))))))))))))))))))))) <;> simp only[NM]at h54
   ·refine Yf (Yq (v:=v3) G (Zn G (Zj G (Zx G G (Yd G G G (Ym (x:=(l.getD i (0,0,0)).2.2) G G (ZbM _ ZN) (hx2) (Zt G G (XP G G (show 0<=_/\_<((4:Nat):Int) by omega) (yy G (.one G .nil) (yE (u:=((⟨#[110,98,114,113]⟩:ByteArray).data.getD ((l.getD i (0,0,0)).2.2-2).toNat 0)) G hr3 G ZM G (.there .here) (by simp only[ZbP];have e2:=YU h1;omega) (by(try simp only[ZbP]);have e1:=hsz.1;have e2:=YU h1;have e3:=YU h2;have e4:(⟨#[32]⟩:ByteArray).size=1:=rfl;omega) (fun v4 own4 n4 hr4=>Yq (v:=v4) G (Yc (Yf (Zj G (Zs G G (Zj G (Yc ?_)))))))))))))))));rw[sh_1y (by omega) (by omega) (by omega)]at hr4;refine⟨l.length-(i+1),_,by omega,(ZbY (.refl _) (.cons _ (.cons _ (.refl _)))),_,_,_,by omega,rfl,hr4,rfl,rfl,rfl,rfl⟩
   refine Yh (Yf (Zj G (Zs G G (Zj G (Yc ?_)))));rw[sh_1n (by omega) h54]at hr3;refine⟨l.length-(i+1),_,by omega,(ZbY (.refl _) (.cons _ (.refl _))),_,_,_,by omega,rfl,hr3,rfl,rfl,rfl,rfl⟩
  refine Yh (Ze (Yq (v:=vB) G (Yq (v:=v) G (Zj G ?_))));obtain⟨b0,q0,md0,c0,F0,rfl,rfl,hF0⟩:=hr0.at (by decide) (YQ l) (by omega);refine Zx G G (Yd G G G ?_);obtain⟨hx0,hx1,hx2⟩:=UE hF0 (i:=i) (by omega);refine Ym (x:=(l.getD i (0,0,0)).1) G G (ZbM _ ZM) (hx0) (Yt G (YP (RY _)) G G G (T5 G hrB G .here (by(try simp only[ZbP]);have e1:=hsz.1;have e2:=YU h1;have e3:=YU h2;have e4:(⟨#[32]⟩:ByteArray).size=1:=rfl;omega) (fun v5 own5 n5 hr5=>Yq (v:=v5) G (Zf (Yq (v:=v5) G (Zn G (Zj G (Zx G G (Yd G G G (Ym (x:=(l.getD i (0,0,0)).2.1) G G (ZbM _ ZM) (hx1) (Yt G (YP (RY _)) G G G (T5 G hr5 G .here (by(try simp only[ZbP]);have e1:=hsz.1;have e2:=YU h1;have e3:=YU h2;have e4:(⟨#[32]⟩:ByteArray).size=1:=rfl;omega) (fun v6 own6 n6 hr6=>Yq (v:=v6) G (Zf (Zn G (Zj G (Zx G G (Yd G G G (Ym (x:=(l.getD i (0,0,0)).2.2) G G (ZbM _ ZM) (hx2) (Zr G (Yc (Yj G (fun h54=>?_) (fun h54=>?_))))))))))))))))))))))) <;> simp only[NM]at h54
  ·refine Yf (Yq (v:=v6) G (Zn G (Zj G (Zx G G (Yd G G G (Ym (x:=(l.getD i (0,0,0)).2.2) G G (ZbM _ ZM) (hx2) (Zt G G (XP G G (show 0<=_/\_<((4:Nat):Int) by omega) (yy G (.one G .nil) (yE (u:=((⟨#[110,98,114,113]⟩:ByteArray).data.getD ((l.getD i (0,0,0)).2.2-2).toNat 0)) G hr6 G ZM G (.there .here) (by simp only[ZbP];have e2:=YU h1;omega) (by(try simp only[ZbP]);have e1:=hsz.1;have e2:=YU h1;have e3:=YU h2;have e4:(⟨#[32]⟩:ByteArray).size=1:=rfl;omega) (fun v7 own7 n7 hr7=>Yq (v:=v7) G (Yc (Yf (Zj G (Zs G G (Zj G (Yc ?_)))))))))))))))));obtain rfl:i=0:=by omega
   rw[sh_0y (by omega) (by omega)]at hr7;refine⟨l.length-(0+1),_,by omega,(ZbY (.refl _) (.cons _ (.refl _))),_,_,_,by omega,rfl,hr7,rfl,rfl,rfl,rfl⟩
  refine Yh (Yf (Zj G (Zs G G (Zj G (Yc ?_)))));obtain rfl:i=0:=by omega
  rw[sh_0n h54]at hr6;refine⟨l.length-(0+1),_,by omega,(ZbY (.refl _) (.refl _)),_,_,_,by omega,rfl,hr6,rfl,rfl,rfl,rfl⟩
 refine Y0 (Xb (Ze (Yq (v:=vB) G (WO_b2sB G hrB (fun _ h=>(ZbV _ h)) (Yq (v:=.s _) G (Yq G (Yc (Yi (⟨_,YH (v:=.s _) G (ZL G),?_⟩)))))))));obtain rfl:i=l.length:=by omega
 exact⟨G,(fun _ h=>(ZbM _ h))⟩
set_option maxRecDepth 100000
def tab(l:List Int)(i:Nat):Int:=l.getD i 0
def sF{l:List Int}(h:l.length=133):∀ i,133<=i->tab l i=0:=fun i hi=>by
 unfold tab;rw[ZbD,ZbQ (by omega)];rfl
def ow{P:Nat->Int}{l:List Int}(h:l.length=133)(hz:∀ i,133<=i->P i=0)(h2:∀ i:Fin 133,P i.val=tab l i.val):P=tab l:=by
 funext i;by_cases hi:i<133
 ·exact h2 ⟨i,hi⟩
 rw[hz i (by omega),sF h i (by omega)]
def t3:List Int:=[4,0,2,0,3,0,5,0,6,0,3,0,2,0,4,0,1,0,1,0,1,0,1,0,1,0,0,0,0,0,1,0,0,0,0,0,0,0,0,0,0,0,1,0,0,0,0,0,0,0,0,0,0,0,0,0,0,0,0,0,1,0,0,0,0,0,0,0,0,0,0,0,1,1,0,0,0,0,0,0,0,0,0,0,0,0,0,0,0,0,0,0,0,0,0,0,1,1,1,1,1,1,1,1,0,0,1,1,1,1,1,1,4,1,2,1,3,1,5,1,6,1,3,1,2,1,4,1,1,15,22,0,2]
def t4:List Int:=[4,0,2,0,3,0,5,0,6,0,3,0,2,0,4,0,1,0,1,0,1,0,1,0,1,0,0,0,0,0,1,0,0,0,0,0,0,0,0,0,0,0,1,0,0,0,0,0,0,0,0,0,0,0,0,0,0,0,0,0,1,0,5,1,0,0,0,0,0,0,0,0,1,1,0,0,0,0,0,0,0,0,0,0,0,0,0,0,0,0,0,0,0,0,0,0,1,1,1,1,1,1,1,1,0,0,1,1,1,1,1,1,4,1,2,1,3,1,0,0,6,1,3,1,2,1,4,1,0,15,-1,1,3]
theorem pI:ex3=tab t3:=ow rfl zN (by decide +kernel)
theorem ex4_is:XV (tab t3) 59 31 0=tab t4:=ow rfl (fun i hi=>Q8 hi) (by decide +kernel)
def ex3_mem:((59,31,0):Mv)∈XN ex3:=by
 rw[pI];exact(DA (sF G)).2 ⟨by decide +kernel,by decide +kernel,by decide +kernel⟩
def ex4_end:(ofN (tab t4) (XN (tab t4)).length).2=1:=by
 rw[zb (sF rfl)];decide +kernel
theorem Zas:WG (tab t3) 59 31 0=⟨#[81,100,56,45,104,52]⟩:=by decide +kernel
def ex_long:UW ex3 59 31 0=⟨#[81,100,56,45,104,52,35]⟩:=by
 unfold UW zt;rw[pI,ex4_is,ZcA ex4_end,Zas];rfl
theorem ex_show:ZcB 52 60 5=⟨#[101,55,101,56,113]⟩:=by decide +kernel
def DG :WR AM 10 [] [] (fun v _ _=>v=.s (.bool true)):=by
 have hsh:=ZaC 52 60 5 ⟨by omega,by omega,by omega,by omega,by omega,by omega⟩;rw[ex_show]at hsh;have hid:ovA (fun _=>0) 0 133 ex3=ex3:=QG zN;have hlong:=YP (Zaz (ovA (fun _=>0) 0 133 ex3) (ov (ov (fun _=>0) 0 59) 1 31) (by rw[hid];exact zN) (by rw[hid];exact ex3_mem));rw[show UW (ovA (fun _=>0) 0 133 ex3) ((ov (ov (fun _=>0) 0 59) 1 31) 0) ((ov (ov (fun _=>0) 0 59) 1 31) 1) ((ov (ov (fun _=>0) 0 59) 1 31) 2)=⟨#[81,100,56,45,104,52,35]⟩ by rw[hid];exact ex_long]at hlong;refine YL (a:=a10) G G (YI _) (ZQ G) (m:=0) G (Ze (Yq G (Zf (YB G (.one G (.one G (.one G .nil))) (Wp G (.agg G .nil) (XX (caps:=[]) G (hsh) G ((.row G (by decide))) (UY ZM) G G G (Zo G (YD (v:=.s _) G G (YD (v:=.s (.int _ _)) G G (Yq (v:=.s _) G (Zj G (Zf (Yt G (YP ru) G G G (YB G (.one G (.one G .nil)) (YB G (.one G (.one G .nil)) (YB G (.one G (.one G .nil)) (Wp G (.agg G (.agg G (.agg G .nil))) (XX (caps:=[]) G (ex_rd) G ((.row G (by decide))) (UY ZM) G G G (Zo G (YD (v:=.agg _ _) G G (YD (v:=.s (.int _ _)) G G (Yy (Yz G G G G .here (Zj G (Zf (Yo G G ZM (YB G (.one G (.one G .nil)) (Yt G (hlong) G G G (Zo G ?_)))))))))))))))))))))))))))));refine YD (v:=.s _) G G (YD (v:=.s (.int _ _)) G G (Yq (v:=.s _) G (Zj G (Zf (Zj G (Yr G G (RC G) (Zk G (Yb G (Yq (v:=.s _) G (Yb G (Yr G G (yt _) (Zq G (Zk G (Yb G (Zj G (Yb G (Yr G G (RC G) (Zq G (Zk G (Yb G (Yq (v:=.s _) G (Yb G (Yr G G (yt _) (Zq G (Zk G (Zg G ?_))))))))))))))))))))))))));rfl
def Zeu(P M:Nat->Int)(hz:∀ i,133<=i->P i=0)(hm:(M 0,M 1,M 2)∈XN P):WR AM 3 [.agg 133 (ia P),.agg 3 (ia M)] [] (fun v _ _=>v=.s (.bool true)):=by
 refine YL (a:=a3) G G (YI _) (ZQ G) (m:=0) G (Ze (YC G (YC G (Yq G (Zf (Yo G G ZN (Yo G G ZM (Yt G (YP (Zaz P M hz hm)) G G G (Zo G (YD (v:=.s _) G G (YD (v:=.s (.int _ _)) G G (Yq (v:=.s _) G (Zj G (Zf (Yo G G ZN (Yo G G ZM (Yt G (YP (ZeV P M hz hm)) G G G (Zo G (YD (v:=.s _) G G (YD (v:=.s (.int _ _)) G G (Yq (v:=.s _) G (Zj G (Zf (Yq (v:=.s _) G (Yq (v:=.s _) G (Yr G G (yt _) (Zk G (Yb G (Zj G ?_)))))))))))))))))))))))))))));refine Yb G (Zj G (Yb G (Yr G G (RC G) (Zq G (Zk G (Yb G (Yt G (YP DG) G G G (Zq G (Zk G (Zg G ?_))))))))));rfl
def ZeE(P M:Nat->Int)(hz:∀ i,133<=i->P i=0)(hm:(M 0,M 1,M 2) ∉ XN P):WR AM 3 [.agg 133 (ia P),.agg 3 (ia M)] [] (fun v _ _=>v=.s (.bool true)):=by
 refine YL (a:=a3) G G (YI _) (ZQ G) (m:=0) G (Ze (YC G (YC G (Yq G (Zf (Yo G G ZN (Yo G G ZM (Yt G (YP (Long_no P M hm)) G G G (Zo G (YD (v:=.s _) G G (YD (v:=.s (.int _ _)) G G (Yq (v:=.s _) G (Zj G (Zf (Yo G G ZN (Yo G G ZM (Yt G (YP (Ze1 P M (by rw[<-ZdB hz];exact hm))) G G G (Zo G (YD (v:=.s _) G G (YD (v:=.s (.int _ _)) G G (Yq (v:=.s _) G (Zj G (Zf (Yq (v:=.s _) G (Yq (v:=.s _) G (Yr G G (yt _) (Zk G (Yb G (Zj G ?_)))))))))))))))))))))))))))));refine Yb G (Zj G (Yb G (Yr G G (RC G) (Zq G (Zk G (Yb G (Yt G (YP DG) G G G (Zq G (Zk G (Zg G ?_))))))))));rfl
def Zes(P M:Nat->Int)(hz:∀ i,133<=i->P i=0):WR AM 3 [.agg 133 (ia P),.agg 3 (ia M)] [] (fun v _ _=>v=.s (.bool true)):=by
 by_cases hm:(M 0,M 1,M 2)∈XN P
 ·exact Zeu P M hz hm
 exact ZeE P M hz hm
def bl(s:ByteArray):List UInt8:=s.data.toList
def Rg(s t:ByteArray):bl (s++t)=bl s++bl t:=by unfold bl;rw[ByteArray.data_append,Array.toList_append]
def tj{x:Int}(h:0<=x/\x<64):bl (YS x)=[UInt8.ofNat (97+(x%8).toNat),UInt8.ofNat (49+(x/8).toNat)]:=by rw[ZdH h];rfl
def bl_inj{s t:ByteArray}(h:bl s=bl t):s=t:=by
 cases s;cases t;unfold bl at h;exact congrArg ByteArray.mk (Array.toList_inj.1 h)
def ZdJ(s:ByteArray):s.size=(bl s).length:=by unfold bl;rw[Zb0];rfl
def Zec{a b:ByteArray}(h:a=b):Wc .neq (.str a) (.str b)=some (.bool false):=by
 subst h;show some (S.bool (!(a.toList==a.toList)))=_;rw[beq_self_eq_true];rfl
def eq33{P Q:Nat->Int}{a b:Mv}(h0:P 0=a.1)(h1:P 1=a.2.1)(h2:P 2=a.2.2)(g0:Q 0=b.1)(g1:Q 1=b.2.1)(g2:Q 2=b.2.2):eqI 3 P Q=decide (a=b):=by
 rw[eq3 (P:=P) g0 g1 g2,h0,h1,h2]
def vM{a b:List Mv}{i:Nat}(hn:∀ j:Nat,j<i->a.getD j (0,0,0)=b.getD j (0,0,0))(ha:i<=a.length)(hb:i<=b.length)(he:a.length<=i\/b.length<=i):((a.length:Int)==(b.length:Int))=decide (a=b):=by
 rw[Zce,Zcu,Zb7];constructor
 ·intro h;refine List.ext_getElem (by omega) fun j h1 h2=>?_
  have:=hn j (by omega);rw[ZbD,ZbD,ZbH h1,ZbH h2]at this;exact this
 rintro rfl;rfl
def same_rd(a b:List Mv)(ha:a.length<=1000000000000000)(hb:b.length<=1000000000000000):Rd2 AM 15 3 (YV a) (YV b) (.s (.bool (decide (a=b)))):=by
 refine Rd2_of fun v u Bs hc=>?_
 refine YL (a:=a15) G G (YI _) (ZQ G) G ?_ (by first|rfl|(cases hc <;> rfl));obtain⟨own0,own1,hown,hr0,hr1⟩:=hc.rx;rw[hown];refine Ze (Yq G (Yc (Ye (Ze (Yq G (Yc (Yk (Xo (ZbY (.refl _) (ZbY (.refl _) .slnil)) (Xu (fun m f _ L=>∃ (i:Nat),(i<=a.length)/\(i<=b.length)/\(m=a.length-i)/\(∀ j:Nat,j<i->a.getD j (0,0,0)=b.getD j (0,0,0))/\(f 0=v)/\(f 1=u)/\(f 5=.s (.int .i64 i))/\(L=(own0++(own1++[])))) (fun m f nb L hI=>?_) (a.length) (⟨0,by omega,by omega,by omega,fun j hj=>by omega,rfl,rfl,rfl,by rw[Zcf]⟩))))))))));obtain⟨i,hi,hi2,hm,hn,k0,k1,k5,rfl⟩:=hI;refine Za 0 k0 (Za 1 k1 (Za 5 k5 (Ye (Ze (Zj G (Yq (v:=v) G (Xk G hr0 (by decide) (YQ a) (Zr G (Zk G (Ys (t:=10) G (fun h10=>?_) (fun h10=>?_))))))))))) <;> simp only[NM]at h10
 ·refine Yb G (Zj G (Yb G (Yq (v:=u) G (Yb G (Xk G hr1 (by decide) (YQ b) (Yb G (Zr G (Zq G (Yc (Yj G (fun h15=>?_) (fun h15=>?_))))))))))) <;> simp only[NM]at h15
  ·refine Yh (Ye (Yk (Ye (Yg (Yq (v:=v) G (Zj G ?_))))));obtain⟨b0,q0,md0,c0,F0,rfl,rfl,hF0⟩:=hr0.at (by decide) (YQ a) (by omega);refine Zx G G (Yp G G ZM (Yq (v:=u) G (Zj G ?_)));obtain⟨b1,q1,md1,c1,F1,rfl,rfl,hF1⟩:=hr1.at (by decide) (YQ b) (by omega);refine Zx G G (Yp G G ZN ?_);obtain⟨hx0,hx1,hx2⟩:=UE hF0 (i:=i) (by omega);obtain⟨hy0,hy1,hy2⟩:=UE hF1 (i:=i) (by omega);have heq:=congrArg (fun q=>!q) (eq33 (P:=dp F0 (0+(i:Int).toNat*3)) (Q:=dp F1 (0+(i:Int).toNat*3)) hx0 hx1 hx2 hy0 hy1 hy2);refine Yx (b:=!decide ((a.getD i (0,0,0))=(b.getD i (0,0,0)))) G G heq (Yc (Yj G (fun h26=>?_) (fun h26=>?_))) <;> simp only[NM]at h26
   ·refine Ze (Yq G (Zg G ?_));exact⟨congrArg (fun q=>V.s (S.bool q)) (Zci fun e=>(show ¬ (a.getD i (0,0,0))=(b.getD i (0,0,0)) by simpa using h26) (by rw[e])).symm,fun p hp=>hp⟩
   refine Yh (Yf (Zj G (Zs G G (Zj G (Yc (⟨a.length-(i+1),_,by omega,(.refl _),i+1,by omega,by omega,rfl,?_,rfl,rfl,rfl,rfl⟩))))));intro j hj;by_cases e:j=i
   ·subst e;simpa using h26
   exact hn j (by omega)
  refine Y0 (Xb (Ze (Yq (v:=v) G (Xk G hr0 (by decide) (YQ a) (Yq (v:=u) G (Xk G hr1 (by decide) (YQ b) (Zr G (Zk G (Zg G ?_)))))))));exact⟨congrArg (fun q=>V.s (S.bool q)) (vM hn hi hi2 (by omega)),fun p hp=>hp⟩
 refine ZE G (Zq G (Yc (ZB G (Y0 (Xb (Ze (Yq (v:=v) G (Xk G hr0 (by decide) (YQ a) (Yq (v:=u) G (Xk G hr1 (by decide) (YQ b) (Zr G (Zk G (Zg G ?_)))))))))))));exact⟨congrArg (fun q=>V.s (S.bool q)) (vM hn hi hi2 (by omega)),fun p hp=>hp⟩
def qO(a:List Mv)(ha:a.length<=1000000000000000):Rd2 AM 15 3 (YV a) (YV a) (.s (.bool true)):=by
 have:=same_rd a a ha ha;rw[Zcl rfl]at this;exact this
def jO{s:ByteArray}:∀ {k p:Nat} {l:List Mv},(US s k p l).1.length<=8192
 |0,_,_=>Zct _
 |k+1,p,l=>by
  unfold US;split
  ·split
   ·unfold yS;split
    ·exact Zct _
    show(l++[_]).length<=_;omega
   split
   ·exact jO
   exact Zct _
  exact Zct _
def Za3(s:ByteArray):(Wi s).1.length<=8192:=by
 unfold Wi;split
 ·exact Zct _
 split
 ·exact Zct _
 exact jO
def oW(s:ByteArray):WR AM 16 [.s (.str s)] [] (fun v _ _=>v=.s (.bool true)):=by
 refine YL (a:=a16) G G (YI _) (ZQ G) (m:=0) G (Ze (Yq G (Zf (Yq (v:=.s _) G (xh G (ox s) G G (fun v1 own1 n1 hr1=>Zo G (YD (v:=v1) G G (YD (v:=.s (.int _ _)) G G (YD (v:=.s (.int _ _)) G G (Yq (v:=v1) G (Zj G (Zj G (Zf (Yq (v:=.s _) G (xh G (sB s) G G (fun v2 own2 n2 hr2=>Zo G (YD (v:=v2) G G (YD (v:=.s (.int _ _)) G G (YD (v:=.s (.int _ _)) G G (Yq (v:=v2) G (Zj G (Zj G (Zf (Yq (v:=v1) G (Yq (v:=v2) G (xW G (qO _ (by have:=Za3 s;omega)) G (hr1.rx) (hr2.rx) ((Dr.all (Dr.appR _ .here)).trans (List.Perm.append_left _ (Dr.all .here))) G (Zk G (Yb G (Zj G ?_)))))))))))))))))))))))))))));refine Yb G (Zj G (Yb G (Yr G G (RC G) (Zq G (Zk G (Yb G (Zj G (Yb G (Zj G (Yb G (Yr G G (RC G) (Zq G (Zk G (Zg G ?_))))))))))))));rfl
def gC(l:List Mv)(hlen:l.length<=1000000):∃ X e,RdR AM 12 3 [] [] (YV l) (.tup [.s (.str X),.s (.int .i64 e)])/\RdR AM 14 3 [] [] (YV l) (.tup [.s (.str X),.s (.int .i64 e)]):=by
 cases hb:l.any Ul with
 |true=>exact⟨_,_,Za2 l hlen hb,rQ l hlen hb⟩
 |false=>
  by_cases h:8192<l.length
  ·exact⟨_,_,gp l hlen hb h,sJ l hlen hb h⟩
  exact⟨_,_,ZcX l hb (by omega),Zbl l hb (by omega)⟩
def ZcR(s:ByteArray)(p i:Nat):YM s (p+i)=(((bl s).drop p).getD i 0).toNat:=by
 unfold YM bl;rw[ZbD,List.getElem?_drop,ZbS,ZbC]
def ZcC{s:ByteArray}{p:Nat}{u:UInt8}{r:List UInt8}(h:(bl s).drop p=u::r):p<s.size/\YM s p=u.toNat/\(bl s).drop (p+1)=r:=by
 refine⟨?_,?_,?_⟩
 ·rw[ZdJ];rcases Zcr p (bl s).length with hp|hp
  ·exact hp
  rw[List.drop_eq_nil_of_le hp]at h;cases h
 ·have:=ZcR s p 0;rw[h]at this;exact this
 rw[<-List.drop_drop,h];rfl
def ZcI{s:ByteArray}{p:Nat}(h:p<s.size):∃ u,(bl s).drop p=u::(bl s).drop (p+1)/\YM s p=u.toNat:=by
 rw[ZdJ]at h;have e:=List.drop_eq_getElem_cons h;exact⟨_,e,(ZcC e).2.1⟩
def Zde{s:ByteArray}{p:Nat}(h:(bl s).drop p=[]):s.size<=p:=by
 rw[ZdJ];exact List.drop_eq_nil_iff.1 h
def Zda{b:Int}(h0:0<=b)(h1:b≠1)(h5:b<=5)(hb:b≠0):∃ u,bl (Qz b)=[u]/\WS u.toNat=b:=by
 have:b=2\/b=3\/b=4\/b=5:=by omega
 rcases this with rfl|rfl|rfl|rfl
 ·exact⟨110,G,G⟩
 ·exact⟨98,G,G⟩
 ·exact⟨114,G,G⟩
 exact⟨113,G,G⟩
def Zdd{u:UInt8}(h:WS u.toNat≠0):bl (Qz (WS u.toNat))=[u]/\WS u.toNat≠1/\0<=WS u.toNat/\WS u.toNat<=5:=by
 have key:∀ u:Fin 256,WS u.val≠0->bl (Qz (WS u.val))=[UInt8.ofNat u.val]/\WS u.val≠1/\0<=WS u.val/\WS u.val<=5:=by decide +kernel
 have:=key ⟨u.toNat,u.toNat_lt⟩ h;rw[UInt8.ofNat_toNat]at this;exact this
def Zc5{s:ByteArray}{no x:Int}{p:Nat}{r:List UInt8}(hx:0<=x/\x<64)(hn:x≠no)(h:(bl s).drop p=bl (YS x)++r):sqR s no p=(x,true,p+2)/\(bl s).drop (p+2)=r:=by
 rw[tj hx]at h;obtain⟨a1,a2,a3⟩:=ZcC h;obtain⟨b1,b2,b3⟩:=ZcC a3;have c1:(UInt8.ofNat (97+(x%8).toNat)).toNat=97+(x%8).toNat:=by rw[UInt8.toNat_ofNat'];omega
 have c2:(UInt8.ofNat (49+(x/8).toNat)).toNat=49+(x/8).toNat:=by rw[UInt8.toNat_ofNat'];omega
 rw[c1]at a2;rw[c2]at b2;have f1:Xg (YM s p)=x%8:=by unfold Xg;rw[ZcA (by omega)];omega
 have f2:Xj (YM s (p+1))=x/8:=by unfold Xj;rw[ZcA (by omega)];omega
 have e:sqN s p=x:=by unfold sqN;omega
 exact⟨by rw[Kg ⟨a1,by omega⟩ ⟨b1,by omega,by omega⟩,e],b3⟩
def Zc6{s:ByteArray}{no x:Int}{p q:Nat}(h:sqR s no p=(x,true,q)):(0<=x/\x<64)/\x≠no/\q=p+2/\q<=s.size/\(bl s).drop p=bl (YS x)++(bl s).drop q:=by
 unfold sqR at h;split at h
 ·rename_i h1;split at h
  ·rename_i h2;simp only[Zcn,true_and]at h;obtain⟨rfl,rfl⟩:=h;obtain⟨d1,d2,d3⟩:=JT h1.2;obtain⟨e1,e2,e3⟩:=JK h2.2.1;have hx:0<=sqN s p/\sqN s p<64:=by unfold sqN;omega
   refine⟨hx,h2.2.2,G,by omega,?_⟩;obtain⟨u,hu,hu2⟩:=ZcI h1.1;obtain⟨w,hw,hw2⟩:=ZcI h2.1;rw[tj hx,hu,hw];have g1:UInt8.ofNat (97+(sqN s p%8).toNat)=u:=Zc2 (by unfold sqN;omega);have g2:UInt8.ofNat (49+(sqN s p/8).toNat)=w:=Zc2 (by unfold sqN;omega);rw[g1,g2];rfl
  simp at h
 simp at h
def ZcM(m:Mv):bl (ZcB m.1 m.2.1 m.2.2)=bl (YS m.1)++(bl (YS m.2.1)++bl (Qz m.2.2)):=by
 unfold ZcB;rw[Rg,Rg,Zb5]
def low0:bl (Qz 0)=[]:=rfl
def Zc3{s:ByteArray}{p:Nat}{m:Mv}{r:List UInt8}(hm:Txt m.1 m.2.1 m.2.2)(h:(bl s).drop p=bl (ZcB m.1 m.2.1 m.2.2)++r)(hr:∀ u w,r=u::w->WS u.toNat=0) :
  ∃ q,mvR s p=(m,true,q)/\(bl s).drop q=r:=by
 obtain⟨ha,ht,hne,hb1,hb0,hb5⟩:=hm
 rw[ZcM,Zb5,Zb5]at h
 obtain⟨e1,h⟩:=Zc5 (no:=-1) ha (by omega) h
 obtain⟨e2,h⟩:=Zc5 (no:=m.1) ht hne.symm h
 by_cases hb:m.2.2=0
 ·rw[hb,low0,List.nil_append]at h;refine⟨_,?_,h⟩;rw[Kk e1 e2 fun hh=>?_,<-hb];obtain⟨u,hu,hu2⟩:=ZcI hh.1;rw[h]at hu;have:=hr u _ hu;rw[<-hu2]at this;exact hh.2 this
 obtain⟨u,hu,hk⟩:=Zda hb0 hb1 hb5 hb;rw[hu]at h;obtain⟨g1,g2,g3⟩:=ZcC h;refine⟨_,?_,g3⟩;rw[<-g2]at hk;rw[Rm e1 e2 ⟨g1,by rw[hk];exact hb⟩,hk]
def mvR_is{s:ByteArray}{p q:Nat}{m:Mv}(h:mvR s p=(m,true,q)):Txt m.1 m.2.1 m.2.2/\p+4<=q/\q<=s.size/\(bl s).drop p=bl (ZcB m.1 m.2.1 m.2.2)++(bl s).drop q:=by
 rcases ha:sqR s (-1) p with⟨x,b,q1⟩
 cases b with
 |false=>rw[KL ha]at h;simp at h
 |true=>
  rcases ht:sqR s x q1 with⟨y,b,q2⟩
  cases b with
  |false=>rw[Kj ha ht]at h;simp at h
  |true=>
   obtain⟨hx,_,rfl,_,d1⟩:=Zc6 ha;obtain⟨hy,hne,rfl,hq,d2⟩:=Zc6 ht;by_cases hk:p+2+2<s.size/\WS (YM s (p+2+2))≠0
   ·rw[Rm ha ht hk]at h;simp only[Zcn,true_and]at h;obtain⟨rfl,rfl⟩:=h;obtain⟨u,hu,hu2⟩:=ZcI hk.1;obtain⟨k1,k2,k3,k4⟩:=Zdd (u:=u) (by rw[<-hu2];exact hk.2);rw[<-hu2]at k1 k2 k3 k4;refine⟨⟨hx,hy,hne.symm,k2,k3,k4⟩,by omega,by omega,?_⟩;rw[ZcM];simp only;rw[d1,d2,hu,k1];simp
   rw[Kk ha ht hk]at h;simp only[Zcn,true_and]at h;obtain⟨rfl,rfl⟩:=h;refine⟨⟨hx,hy,hne.symm,by simp,by simp,by simp⟩,by omega,hq,?_⟩;rw[ZcM];simp only;rw[d1,d2,low0];simp
def ZcD:List Mv->List UInt8
 |[]=>[]
 |[m]=>bl (ZcB m.1 m.2.1 m.2.2)
 |m::x::l=>bl (ZcB m.1 m.2.1 m.2.2)++32::ZcD (x::l)
def ZcJ{m:Mv}{l:List Mv}(h:l≠[]):ZcD (m::l)=bl (ZcB m.1 m.2.1 m.2.2)++32::ZcD l:=by
 cases l with
 |nil=>exact absurd rfl h
 |cons x l=>rfl
def ZcQ(m:Mv):∀ {l:List Mv},l≠[]->ZcD (l++[m])=ZcD l++32::bl (ZcB m.1 m.2.1 m.2.2)
 |[],h=>absurd rfl h
 |[x],_=>rfl
 |x::y::l,_=>by
  rw[show x::y::l++[m]=x::(y::l++[m]) from rfl,ZcJ (m:=x) (l:=y::l++[m]) (by simp),ZcQ m (l:=y::l) (by simp),ZcJ (m:=x) (l:=y::l) (by simp),Zb5,List.cons_append]
def Zc7{l:List Mv}{i:Nat}(h:i<l.length):l.take (i+1)=l.take i++[l.getD i (0,0,0)]:=by
 rw[List.take_succ_eq_append_getElem h,ZbD,ZbH h];rfl
def ZcO(l:List Mv):∀ {i:Nat},i<=l.length->bl (Wv l i)=ZcD (l.take i)
 |0,_=>rfl
 |i+1,hi=>by
  rw[Zc7 (by omega)];by_cases h0:i=0
  ·subst h0;rw[R3,List.take_zero,List.nil_append];show bl (ZcB _ _ _)=_;rfl
  rw[Jx l (by omega),ZcQ _ (by intro e;have:=congrArg List.length e;rw[Zcb,List.length_nil]at this;omega),<-ZcO l (by omega)];simp only[Rg,ZcM,Zb5];rfl
def ZcS{s:ByteArray}:∀ {r:List Mv} {k p:Nat} {l:List Mv},r≠[]→(∀ m∈r,Txt m.1 m.2.1 m.2.2)→(bl s).drop p=ZcD r→p≤s.size→s.size<p+k→US s k p l=yS (l++r)
 |[],_,_,_,h,_,_,_,_=>absurd rfl h
 |m::r,0,p,l,_,_,_,h1,h2=>by omega
 |[m],k+1,p,l,_,hm,h,h1,h2=>by
  obtain⟨q,e,hq⟩:=Zc3 (r:=[]) (hm m ZM) (by rw[h,Zcf];rfl) (fun u w e=>by cases e);have h3:=ZcG h1;rw[e]at h3;simp only at h3;have h4:=Zde hq;unfold US;rw[e];simp only[if_true];rw[ZcA (by omega)]
 |m::x::r,k+1,p,l,_,hm,h,h1,h2=>by
  obtain⟨q,e,hq⟩:=Zc3 (r:=32::ZcD (x::r)) (hm m ZM) (by rw[h];rfl) (fun u w e=>by injection e with e1 _;subst e1;rfl);obtain⟨g1,g2,g3⟩:=ZcC hq;obtain⟨_,h5,_⟩:=mvR_is e;unfold US;rw[e];simp only[if_true];rw[Zcz (by omega),ZcA (by rw[g2];rfl),ZcS (by simp) (fun m h=>hm m (.tail _ h)) g3 (by omega) (by omega),Zb5];rfl
def txt_all{l:List Mv}(h:l.any Ul=false):∀ m∈l,Txt m.1 m.2.1 m.2.2:=fun m hm=>by
 rw[List.any_eq_false]at h;have:=h _ hm;unfold Ul at this;exact txtB_iff.1 (by simpa using this)
def all_txt{l:List Mv}(h:∀ m∈l,Txt m.1 m.2.1 m.2.2):l.any Ul=false:=by
 rw[List.any_eq_false];intro m hm;unfold Ul;rw[txtB_iff.2 (h m hm)];simp
def Zc9{l:List Mv}(h:l.any Ul=false)(hl:(Wv l l.length).size<=65536):Wi (Wv l l.length)=yS l:=by
 have hs:=El h (Zcs _);unfold Wi;rw[Zcz (by omega)];by_cases h0:l=[]
 ·subst h0;rfl
 have h1:1<=l.length:=by cases l with|nil=>exact absurd rfl h0|cons=>simp
 have h2:=hs.2 h1;rw[Zcz (by omega),ZcS (r:=l) h0 (txt_all h) (by rw[List.drop_zero,ZcO l (Zcs _),List.take_length]) (by omega) (by omega),List.nil_append]
def ZcU{a b:ByteArray}(h:a.size+b.size<=1000000):Wc .add (.str a) (.str b)=some (.str (a++b)):=by
 show(if ((a.size+b.size:Nat):Int) > IntKind.i64.max then none else some (S.str (a++b)))=_;rw[Zcz (by have:IntKind.i64.max=9223372036854775807:=rfl;omega)]
def zA{P Q:Nat->Int}{o n:Nat}(h:∀ i,133<=i->P i=0)(hb:o+n<=133):∀ i,133<=i->ovA P o n Q i=0:=fun i hi=>by rw[Wb (by omega)];exact h i hi
def zO{P:Nat->Int}{o:Nat}{x:Int}(h:∀ i,133<=i->P i=0)(hb:o<133):∀ i,133<=i->ov P o x i=0:=fun i hi=>by rw[XF (by omega)];exact h i hi
def Zeq :WR AM 18 [] [] (fun v _ _=>v=.s (.bool true)):=by
 refine YL (a:=a18) G G (YI _) (ZQ G) (m:=0) G (Ze (Yq G (Zf (Yt G (YP tW) G G G (Yy (Yz G G G G .here (Zf (YB G (.one G .nil) (Zy G (Zw G G G (Yz G G G G .here (Zf (YB G (.one G .nil) (Zy G (Zw G G G (Yz G G G G .here (Zf (YB G (.one G .nil) (Zy G (Zw G G G (Yz G G G G .here (Zf (Yd (o':=129) G G G (YA G G G G .here (Zf (YB G (.one G .nil) (Zy G (Zw G G G (Yz G G G G .here ?_)))))))))))))))))))))))))))));refine Yc (Ye (Ze (Yq G (Yc (Yk (Xo (L':=[_]) (.refl _) (Xu (fun m f _ L=>∃ (i:Nat) (X:Nat->Int),(i<=64)/\(m=64-i)/\(∀ i,133<=i->X i=0)/\(f 1=.ptr 0 0 133)/\(f 2=.s (.int .i64 i))/\(L=[(0,.sc .var 133 (ia X))])) (fun m f nb L hI=>?_) (64) ⟨0,_,by omega,by omega,zA (zO (zA (zA (zA (zA (fun _ _=>rfl) (by omega)) (by omega)) (by omega)) (by omega)) (by omega)) (by omega),rfl,rfl,rfl⟩)))))));obtain⟨i,X,hi,hm,hz,k1,k2,rfl⟩:=hI;refine Za 1 k1 (Za 2 k2 (Ye (Ze (Zj G (Zr G (Yc (Yj G (fun h21=>?_) (fun h21=>?_)))))))) <;> simp only[NM]at h21
 ·refine Yh (Ye (Yk (Ze (Yo G G ZM (Yy (Yz G G G G .here (Yc (Ye (Ze (Zj G (Zy G (Zw G G G (Yp G G ZM (YB G .nil (Yw G G (Yc (Yj G (fun h30=>?_) (fun h30=>?_)))))))))))))))))) <;> simp only[NM]at h30
  ·refine Y0 (Xb (Yf (Zj G (Zs G G (Zj G (Yc ?_))))));exact⟨64-(i+1),_,by omega,(.cons _ (.refl _)),i+1,X,by omega,rfl,hz,rfl,rfl,rfl⟩
  refine Yh (Ze (Zj G (YB G (.one G (.one G .nil)) (Zy G (Zw G G G (Yz G G G G .here (Zf (YB G (.one G (.one G .nil)) (YB G (.one G (.one G .nil)) (YB G (.one G (.one G (.one G .nil))) (YB G (.one G (.one G (.one G .nil))) (YB G (.one G (.one G .nil)) (YB G (.one G (.one G .nil)) (Wp G (.agg G (.agg G (.agg G (.agg G (.agg G (.agg G .nil)))))) (Zn G (Zf (Yq G (Yc (Yk ?_)))))))))))))))))));obtain⟨n3,rfl⟩:∃ q,q=nb:=⟨_,rfl⟩
  refine Xo (L':=[_,_,_]) (.refl _) (Xu (fun m f _ L=>∃ (j:Nat) (Y Z:Nat->Int),(j<=6)/\(m=6-j)/\(∀ i,133<=i->Y i=0)/\(f 1=.ptr 0 0 133)/\(f 2=.s (.int .i64 i))/\(f 3=.ptr n3 0 133)/\(f 4=.sl (n3+1) 0 6 3 (.ex 6))/\(f 5=.s (.int .i64 j))/\(L=[(n3+1,.sc .var 18 (ia Z)),(n3,.sc .var 133 (ia Y)),(0,.sc .var 133 (ia X))])) (fun m f nb L hI=>?_) (6) ⟨0,_,_,by omega,by omega,zA (zA (fun _ _=>rfl) (by omega)) (by omega),rfl,rfl,rfl,rfl,rfl,rfl⟩);obtain⟨j,Y,Z,hj,hm2,hy,k1,k2,k3,k4,k5,rfl⟩:=hI;refine Za 1 k1 (Za 2 k2 (Za 3 k3 (Za 4 k4 (Za 5 k5 (Ye (Ze (Zj G (Zn G (WX G (Zr G (Yc (Yj G (fun h45=>?_) (fun h45=>?_))))))))))))) <;> simp only[NM]at h45
  ·refine Yh (Ye (Yk (Ye (Yg (Yo G G ZN (Zn G (Zj G (Zx G G (Yp G G ZM (Yt G (YP (Zes _ _ hy)) G G G (Yv (r:=.bool _) G G (Yc (ZB G (Yh (Yf (Zj G (Zs G G (Zj G (Yc ?_)))))))))))))))))));exact⟨6-(j+1),_,by omega,(.refl _),j+1,Y,Z,by omega,rfl,hy,rfl,rfl,rfl,rfl,rfl,rfl⟩
  refine Y0 (Xb (Yf (Zj G (Zs G G (Zj G (Yc ?_))))));exact⟨64-(i+1),_,by omega,(.cons _ (.cons _ (.refl _))),i+1,X,by omega,rfl,hz,rfl,rfl,rfl⟩
 refine Y0 (Xb (Ze (Yq G (Zg G ?_))));rfl
def wholeS:ByteArray:=⟨#[101,50,101,52,32,101,55,101,56,113,32,97,49,104,56,110,32,104,49,97,56]⟩
def someS:ByteArray:=⟨#[97,49,104,105,57,32,113,110,107,81,48,45,0,255]⟩
def ZeH:wholeS.size=21:=rfl
def ZeO:someS.size=14:=rfl
def rep(n:Nat):List Mv:=List.replicate n (12,28,0)
def Zdo(n:Nat):(rep n).length=n:=List.length_replicate
def Zdz(n:Nat):rep (n+1)=rep n++[(12,28,0)]:=List.replicate_succ'
def Zd9(n:Nat):YV (rep n)++[12,28,0]=YV (rep (n+1)):=by rw[Zdz,RU];rfl
def ZdI(n:Nat):(rep n).any Ul=false:=all_txt fun m hm=>by
 rw[List.eq_of_mem_replicate hm];exact⟨⟨by decide,by decide⟩,⟨by decide,by decide⟩,by decide,by decide,by decide,by decide⟩
def ZeL(n:Nat):rep (n+1)≠[]:=by rw[Zdz];simp
theorem ZdU:bl (ZcB 12 28 0)=[101,50,101,52]:=by decide +kernel
def Zd0:∀ n:Nat,(ZcD (rep (n+1))).length=5*n+4
 |0=>by
  show(bl (ZcB 12 28 0)).length=4;rw[ZdU];rfl
 |n+1=>by
  rw[Zdz (n+1),ZcQ _ (ZeL n),Zb2,Zd0 n];simp only[ZdU,Zcd,List.length_nil];omega
def Zef(n:Nat):bl (Wv (rep n) (rep n).length)=ZcD (rep n):=by rw[ZcO _ (Zcs _),List.take_length]
def Zek(n:Nat):(Wv (rep (n+1)) (rep (n+1)).length).size=5*n+4:=by rw[ZdJ,Zef,Zd0]
def Ze4(n:Nat):Wv (rep (n+1)) (rep (n+1)).length++⟨#[32,101,50,101,52]⟩=Wv (rep (n+2)) (rep (n+2)).length:=bl_inj (by
 rw[Rg,Zef,Zef,Zdz (n+1),ZcQ _ (ZeL n),ZdU];rfl)
def ZeQ(n:Nat)(hn:n=8191):∃ X:ByteArray,X.size<=100000/\RdR AM 12 3 [] [] (YV (rep (n+1))) (.tup [.s (.str X),.s (.int .i64 0)])/\RdR AM 12 3 [] [] (YV (rep (n+2))) (.tup [.s (.str ⟨#[]⟩),.s (.int .i64 3)]) /\
  RtT AM 17 3 [.s (.str X)] (YV (rep (n+1))) (.int .i64 0) (.int .i64 0)/\RtT AM 17 3 [.s (.str (X++⟨#[32,101,50,101,52]⟩))] [] (.int .i64 0) (.int .i64 3)/\RtT AM 17 3 [.s (.str (X++X))] [] (.int .i64 0) (.int .i64 3):=by
 have z1:=Zek n
 have z2:(Wv (rep (n+2)) (rep (n+2)).length).size=5*(n+1)+4:=Zek (n+1)
 have l1:=Zdo (n+1)
 have l2:=Zdo (n+2)
 have p1:=ox (Wv (rep (n+1)) (rep (n+1)).length)
 have p2:=ox (Wv (rep (n+1)) (rep (n+1)).length++⟨#[32,101,50,101,52]⟩)
 have p3:=ox (Wv (rep (n+1)) (rep (n+1)).length++Wv (rep (n+1)) (rep (n+1)).length)
 rw[Zc9 (ZdI _) (by omega),wU (by omega)]at p1
 rw[show Wi (Wv (rep (n+1)) (rep (n+1)).length++⟨#[32,101,50,101,52]⟩)=([],0,3) by rw[Ze4,Zc9 (ZdI _) (by omega),ze (by omega)]]at p2
 rw[qe (by rw[ZbP];omega)]at p3
 exact⟨_,by omega,ZcX _ (ZdI _) (by omega),gp _ (by omega) (ZdI _) (by omega),p1,p2,p3⟩
def Rw.at2{z m:Nat}{l:List Int}{v:V}{own:HA}(h:Rw z l v own)(hz:0<z)(hl:l.length=m*z)(hm:0<m):∃ b q F,v=.sl b 0 m z .whole/\own=[(b,.sc .grow q (ia F))]/\∀ i,i<l.length->F i=l.getD i 0:=by
 cases h with
 |nil h=>
  subst h;have:=Nat.mul_pos hm hz;simp at hl;omega
 |@row b m' q F hl' hF=>
  obtain rfl:=Nat.eq_of_mul_eq_mul_right hz (hl.symm.trans hl');exact⟨b,q,F,G,G,hF⟩
def rep_pre{n:Nat}{F:Nat->Int}(h:∀ i,i<(YV (rep (n+2))).length->F i=(YV (rep (n+2))).getD i 0):∀ i,i<(YV (rep (n+1))).length->F i=(YV (rep (n+1))).getD i 0:=fun i hi=>by
 rw[h i (by rw[YQ,Zdo]at hi ⊢;omega),<-Zd9 (n+1),Zav,ZcA hi]
def Zer :WR AM 6 [] [] (fun v _ _=>v=.s (.bool true)):=by
 refine YL (a:=a6) G G (YI _) (ZQ G) (m:=0) G (Ze (Yq G (Yc (Ye (Ze (Yq G (Yc (Yk (Xo (L':=[]) .slnil (Xu (fun m f _ L=>∃ (i:Nat),(i<=4356)/\(m=4356-i)/\(f 1=.s (.int .i64 i))/\(L=[])) (fun m f nb L hI=>?_) (4356) ⟨0,by omega,by omega,rfl,rfl⟩))))))))));obtain⟨i,hi,hm,k1,rfl⟩:=hI;refine Za 1 k1 (Ye (Ze (Zj G (Zr G (Yc (Yj G (fun h26=>?_) (fun h26=>?_))))))) <;> simp only[NM]at h26
 ·refine Yh (Ye (Yk (Ze (Zj G (Zv G G (Zt G G (Zj G (Zu G G (Zt G G (Zj G (Zv G G (Zt G G (YB G (.one G (.one G (.one G .nil))) (Yy (Yz G G G G .here (Zf ?_))))))))))))))));obtain⟨X,e,hs1,hs2⟩:=gC [((i:Int)%66-1,(i:Int)/66-1,(i:Int)%8-1)] (by simp);refine Yo rfl rfl ZM (Wp rfl (.agg rfl .nil) (XX (caps:=[]) rfl (hs1) rfl ((.row rfl (fun j hj=>by match j,hj with|0,_=>rfl|1,_=>rfl|2,_=>rfl))) (UY ZM) rfl rfl rfl (Zo rfl (YD (v:=.s _) rfl rfl (YD (v:=.s (.int _ _)) rfl rfl (Yq (v:=.s _) rfl (Zj rfl (Zf (Yo rfl rfl ZN (Wp rfl (.agg rfl .nil) (XX (caps:=[]) rfl (hs2) rfl ((.row rfl (fun j hj=>by match j,hj with|0,_=>rfl|1,_=>rfl|2,_=>rfl))) (UY ZM) rfl rfl rfl (Zo rfl (YD (v:=.s _) rfl rfl (YD (v:=.s (.int _ _)) rfl rfl (Yq (v:=.s _) rfl (Zj rfl (Zf (Yq (v:=.s _) rfl (Yq (v:=.s _) rfl (Yr rfl rfl (Zec rfl) (Zk rfl (Yb rfl (Zj rfl (Yb rfl (Zj rfl (Yb rfl (Yr rfl rfl (wM rfl) (Zq rfl (Zk rfl ?_)))))))))))))))))))))))))))));refine Yb G (Zj G (Yb G (Zr G (Yb G (Zk G (Ys (t:=62) G (fun h62=>?_) (fun h62=>?_))))))) <;> simp only[NM]at h62
  ·refine Yb G (Zj G (Yb G (Zv G G (Yb G (Zr G (Yb G (Zq G (Yb G (Zk G (Ys (t:=67) G (fun h67=>?_) (fun h67=>?_))))))))))) <;> simp only[NM]at h67
   ·refine Yb G (Yq (v:=.s _) G (Yb G (Yt G (YP (oW _)) G G G (Yb G (Yv (r:=.bool _) G G (Yb G (Zq G (Zq G (Yc (ZB G (Yh (Yf (Zj G (Zs G G (Zj G (Yc ?_))))))))))))))));exact⟨4356-(i+1),_,by omega,(.cons _ (.cons _ (.cons _ .slnil))),i+1,by omega,rfl,rfl,rfl⟩
   refine ZD G (ZC G (Yb G (Zq G (Zq G (Yc (ZB G (Yh (Yf (Zj G (Zs G G (Zj G (Yc ?_))))))))))));exact⟨4356-(i+1),_,by omega,(.cons _ (.cons _ (.cons _ .slnil))),i+1,by omega,rfl,rfl,rfl⟩
  refine ZD G (ZC G (Yb G (Zq G (Yb G (Zk G (ZD G (ZC G (Yb G (Zq G (Zq G (Yc (ZB G (Yh (Yf (Zj G (Zs G G (Zj G (Yc ?_))))))))))))))))));exact⟨4356-(i+1),_,by omega,(.cons _ (.cons _ (.cons _ .slnil))),i+1,by omega,rfl,rfl,rfl⟩
 refine Y0 (Xb (Ze (Yq G (Zf (Yq G (Yc (Ye (Ze (Yq G (Yc (Yk (Xo (L':=[]) .slnil (Xu (fun m f _ L=>∃ (i:Nat),(i<=22)/\(m=22-i)/\(f 7=.s (.str wholeS))/\(f 8=.s (.str someS))/\(f 9=.s (.int .i64 i))/\(L=[])) (fun m f nb L hI=>?_) (22) ⟨0,by omega,by omega,rfl,rfl,rfl,rfl⟩)))))))))))));obtain⟨i,hi,hm,k7,k8,k9,rfl⟩:=hI;refine Za 7 k7 (Za 8 k8 (Za 9 k9 ?_));have hw:=ZeH;have hv:=ZeO;refine Ye (Ze (Zj G (Yq (v:=.s _) G (Xe G (Zr G (Yc (Yj G (fun h76=>?_) (fun h76=>?_)))))))) <;> simp only[NM]at h76
 ·refine Yh (Ye (Yk (Ye (Ze (Yq (v:=.s _) G (Zj G (Da G G G (by omega) (Yt G (YP (oW _)) G G G (Yv (r:=.bool _) G G (Zk G (Yb G (Yq (v:=.s _) G (Yb G (Zj G (Yb G (Da G G G (by omega) (Yb G (Yt G (YP (oW _)) G G G (Yb G (Yv (r:=.bool _) G G (Zq G (Yc (ZB G (Yh (Ze (Yq G (Yc (Yk (Xo (L':=[]) .slnil ?_)))))))))))))))))))))))))))));refine Xu (fun m f _ L=>∃ (k:Nat),(k<=14)/\(m=14-k)/\(f 7=.s (.str wholeS))/\(f 8=.s (.str someS))/\(f 9=.s (.int .i64 i))/\(f 10=.s (.int .i64 k))/\(L=[])) (fun m f nb L hI=>?_) (14) ⟨0,by omega,by omega,rfl,rfl,rfl,rfl,rfl⟩;obtain⟨k,hk,hm,k7,k8,k9,k10,rfl⟩:=hI;refine Za 7 k7 (Za 8 k8 (Za 9 k9 (Za 10 k10 (Ye (Ze (Zj G (Yq (v:=.s _) G (Xe G (Zr G (Yc (Yj G (fun h94=>?_) (fun h94=>?_)))))))))))) <;> simp only[NM]at h94
  ·refine Yh (Ye (Yk (Ye (Yg (Yq (v:=.s _) G (Zj G (Da G G G (by omega) (Yq (v:=.s _) G (Zj G (Zj G (Zs G G (Da G G G (by omega) (Yr G G (ZcU (by simp only[ZbP,ByteArray.size_extract];omega)) (Yq (v:=.s _) G (Zj G (Da G G G (by omega) (Yr G G (ZcU (by simp only[ZbP,ByteArray.size_extract];omega)) (Yt G (YP (oW _)) G G G (Yv (r:=.bool _) G G (Zk G (Yb G (Zj G (Yb G (Yq (v:=.s _) G (Yb G (Xe G (Yb G (Zr G (Yb G ?_)))))))))))))))))))))))))))));refine Zk G (Ys (t:=117) G (fun h117=>?_) (fun h117=>?_)) <;> simp only[NM]at h117
   ·refine Yb G (Yq (v:=.s _) G (Yb G (Zj G (Yb G (Da G G G (by omega) (Yb G (Yq (v:=.s _) G (Yb G (Zj G (Yb G (Zj G (Yb G (Zs G G (Yb G (Da G G G (by omega) (Yb G (Yr G G (ZcU (by simp only[ZbP,ByteArray.size_extract];omega)) (Yb G (Yq (v:=.s _) G (Yb G (Zj G (Yb G (Zs G G (Yb G (Da G G G (by omega) (Yb G (Yr G G (ZcU (by simp only[ZbP,ByteArray.size_extract];omega)) (Yb G (Yt G (YP (oW _)) G G G ?_)))))))))))))))))))))))))))));refine Yb G (Yv (r:=.bool _) G G (Yb G (Zq G (Zq G (Yc (ZB G (Yh (Yf (Zj G (Zs G G (Zj G (Yc ?_))))))))))));exact⟨14-(k+1),_,by omega,.slnil,k+1,by omega,rfl,rfl,rfl,rfl,rfl,rfl⟩
   refine ZF G (ZF G (Yb G (Zq G (Zq G (Yc (ZB G (Yh (Yf (Zj G (Zs G G (Zj G (Yc ?_))))))))))));exact⟨14-(k+1),_,by omega,.slnil,k+1,by omega,rfl,rfl,rfl,rfl,rfl,rfl⟩
  refine Y0 (Xb (Yf (Zj G (Zs G G (Zj G (Yc ?_))))));exact⟨22-(i+1),_,by omega,.slnil,i+1,by omega,rfl,rfl,rfl,rfl,rfl⟩
 refine Y0 (Xb (Ze (Yq G (Yc (Ye (Yk (Xo .slnil (Xu (fun m f _ L=>∃ (i:Nat) (vL:V) (ownL:HA),(i<=8193)/\(m=8193-i)/\(Rw 3 (YV (rep i)) vL ownL)/\(f 11=vL)/\(L=(ownL++[]))) (fun m f nb L hI=>?_) (8193) (⟨0,.snil,[],by omega,by omega,Rw.nil rfl,rfl,rfl⟩)))))))));obtain⟨i,vL,ownL,hi,hm,hrL,k11,rfl⟩:=hI;refine Za 11 k11 ?_;have hlr:=Zdo i;refine Ye (Ze (Yq (v:=vL) G (Xk G hrL.rx (by decide) (YQ _) (Zr G (Yc (Yj G (fun h138=>?_) (fun h138=>?_))))))) <;> simp only[NM]at h138
 ·refine Yh (Yk (Yf (Yq (v:=vL) rfl (YB rfl (.one rfl (.one rfl .nil)) (Wp rfl (.agg rfl .nil) (XZ (c:=[12,28,0]) rfl hrL rfl ZM (.there .here) (by decide) (by decide) rfl ((fun j hj=>by match j,hj with|0,_=>rfl|1,_=>rfl|2,_=>rfl)) (by rw[YQ,Zdo];omega) (fun v1 own1 n1 hr1=>?_)))))));rw[Zd9]at hr1;refine Yq (v:=v1) G (Yc ?_);refine⟨8193-(i+1),_,by omega,(ZbY (.refl _) (.cons _ .slnil)),i+1,_,_,by omega,rfl,hr1,rfl,rfl⟩
 refine Y0 (Xb (Ze ?_));obtain⟨n,rfl⟩:∃ q,i=q+2:=⟨i-2,by omega⟩
 have hn:n=8191:=by omega
 obtain⟨X,hX,hs3,hs4,hp1,hp2,hp3⟩:=ZeQ n hn;obtain⟨bR,qR,FR,rfl,rfl,hFR⟩:=Rw.at2 (m:=n+2) hrL (by decide) (by rw[YQ,Zdo]) (by omega);refine Yq (v:=.sl bR 0 (n+2) 3 .whole) G (WO_slV (p:=0) (q:=8192) G G G G (by omega) ?_);rw[show V.sl bR (0+(0:Int).toNat*3) ((8192:Int).toNat-(0:Int).toNat) 3 .unk=V.sl bR 0 (n+1) 3 .unk by rw[hn];rfl];refine XX (caps:=[]) G (hs3) G ((.row (by rw[YQ,Zdo]) (rep_pre hFR))) (UY ZM) G G G (Zo G (YD (v:=.s _) G G (YD (v:=.s (.int _ _)) G G (Yq (v:=.s _) G (Zj G (Zf (Zn G (XX (caps:=[]) G (hs4) G ((.row (by rw[YQ,Zdo]) hFR)) (UY ZM) G G G (Zo G (YD (v:=.s _) G G (YD (v:=.s (.int _ _)) G G (Yq (v:=.s _) G (Zj G (Zf (Yq (v:=.s _) G (xh G (hp1) G G (fun v2 own2 n2 hr2=>Zo G (YD (v:=v2) G G (YD (v:=.s (.int _ _)) G G (YD (v:=.s (.int _ _)) G G (Yq (v:=v2) G (Zj G (Zj G (Zf (Yq (v:=.s _) G (Yr G G (ZcU (by have h5:(⟨#[32,101,50,101,52]⟩:ByteArray).size=5:=rfl;omega)) (xh G (hp2) G G (fun v3 own3 n3 hr3=>Zo G (YD (v:=v3) G G ?_)))))))))))))))))))))))))))));refine YD (v:=.s (.int _ _)) G G (YD (v:=.s (.int _ _)) G G (Yq (v:=v3) G (Zj G (Zj G (Zf (Yq (v:=.s _) G (Yq (v:=.s _) G (Yr G G (ZcU (by omega)) (xh G (hp3) G G (fun v4 own4 n4 hr4=>Zo G (YD (v:=v4) G G (YD (v:=.s (.int _ _)) G G (YD (v:=.s (.int _ _)) G G (Yq (v:=v4) G (Zj G (Zj G (Yc (Ye (Ze (Zj G (Yr G G (wM G) (Zk G (Yb G (Zj G (Yb G (Yr G G (wM G) (Zq G (Zk G (Yb G ?_)))))))))))))))))))))))))))));refine Zj G (Yb G (Yr G G (wM G) (Zq G (Zk G (Yb G (Yq (v:=v2) G (Yb G (Xk G hr2.rx (by decide) (YQ _) (Yb G (Yr G G (wM (by rw[Zdo,hn];rfl)) (Zq G (Zk G (Yb G (Zj G (Yb G (Yr G G (wM G) (Zq G (Zk G (Yb G (Zj G (Yb G (Yr G G (wM G) (Zq G (Zk G (Yb G (Zj G (Yb G (Yr G G (wM G) (Zq G ?_)))))))))))))))))))))))))))));refine Zk G (Yb G (Zj G (Yb G (Yr G G (wM G) (Zq G (Yc (ZB G (Yh (Ze (Yt G (YP Zeq) G G G (Zk G (Yb G (Yt G (YP DG) G G G (Zq G (Zk G (Zg G ?_))))))))))))))));rfl
end Go.Proofs.YtlkighkfkdpncaaGreatDoor
