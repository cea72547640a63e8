/- Texts of this seat,joined. -/
import Derived.Test.YtlkighkfkdpncaaGreatDoorM5
set_option linter.defProp false
set_option linter.unusedSimpArgs false
set_option linter.unusedVariables false
namespace Go.Proofs.YtlkighkfkdpncaaGreatDoor
open Go Go.Am
def ZeP(a b:Int):Bool:=decide (a=b)||(!(Uh a b||Uf a b)||(decide (1<=kq a b/\b=a+wi a b*kq a b)&&(List.range (kq a b-1)).all fun(j:Nat)=>decide ((0<=a+wi a b*((j:Int)+1)/\a+wi a b*((j:Int)+1)<64)/\a+wi a b*((j:Int)+1)≠b)))
theorem Ze2:(JA fun a=>JA fun b=>ZeP a b)=true:=by decide +kernel
def path_at{a b:Int}(ha:0<=a/\a<64)(hb:0<=b/\b<64)(hn:a≠b)(h:(Uh a b||Uf a b)=true):(1<=kq a b/\b=a+wi a b*kq a b)/\∀ j:Nat,j<kq a b-1->(0<=a+wi a b*((j:Int)+1)/\a+wi a b*((j:Int)+1)<64)/\a+wi a b*((j:Int)+1)≠b:=by
 obtain⟨x,rfl⟩:=RE ha;obtain⟨y,rfl⟩:=RE hb;have h1:=V6 (V6 Ze2 x) y;unfold ZeP at h1;rw[Zci hn,Bool.false_or,h,Bool.not_true,Bool.false_or,Zca,Zb7,Zcc]at h1;exact⟨h1.1,fun j hj=>of_decide_eq_true (h1.2 j (Zck.2 hj))⟩
def Ze7{P:Nat->Int}{a b:Int}(h:∀ i:Nat,i<kq a b-1->Xf P (a+wi a b*((i:Int)+1))=true):zw P a b=true:=by
 unfold zw;rw[Zcc];exact fun i hi=>h i (Zck.1 hi)
def open_no{P:Nat->Int}{a b:Int}{j:Nat}(hj:j<kq a b-1)(h:Xf P (a+wi a b*((j:Int)+1))=false):zw P a b=false:=by
 unfold zw;rw[List.all_eq_false];exact⟨j,Zck.2 hj,by rw[h];decide⟩
def ZeY(x:Int):-1<=Zds x/\Zds x<=1:=by unfold Zds;repeat' split <;> omega
def ZdP{x:Int}(h:-64<=x/\x<=64):0<=Vl x/\Vl x<=64:=by unfold Vl;split <;> omega
def ZdS(a b:Int)(ha:0<=a/\a<64)(hb:0<=b/\b<64):WR AM 146 [.s (.int .i64 a),.s (.int .i64 b)] [] (fun v _ _=>v=.tup [.s (.int .i64 (b%8-a%8)),.s (.int .i64 (b/8-a/8))]):=by
 refine YL (a:=a146) G G (YI _) (ZQ G) (m:=0) G (Ze (Yq G (Yq G (Zf (Zj G (Zv G G (Zj G (Zv G G (Zt G G (Zj G (Zu G G (Zj G (Zu G G (Zt G G (Zj G (Zj G (Yc (Yi (⟨_,YH (v:=.s (.int _ _)) G (ZL G),?_⟩)))))))))))))))))));rfl
def Zdg(x:Int)(h:-1000<=x/\x<=1000):WR AM 147 [.s (.int .i64 x)] [] (fun v _ _=>v=.s (.int .i64 (Vl x))):=by
 refine YL (a:=a147) G G (YI _) (ZQ G) (m:=0) G (Ze (Yq G (Yc (Ye (Ze (Zj G (Zr G (Yc (Yj G (fun h1=>?_) (fun h1=>?_)))))))))) <;> simp only[NM]at h1
 ·refine Ze (Zj G (oi G (by omega) (Zj G (Yc (Yi (⟨_,ZL G,?_⟩))))));refine ZJ ?_;unfold Vl;(rw[ZcA (by omega)];done)
 refine Yh (Ze (Zj G (Zj G (Yc (Yi (⟨_,ZL G,?_⟩))))));refine ZJ ?_;unfold Vl;(rw[Zcz (by omega)];done)
def Zd5(x:Int):WR AM 171 [.s (.int .i64 x)] [] (fun v _ _=>v=.s (.int .i64 (Zds x))):=by
 refine YL (a:=a171) G G (YI _) (ZQ G) (m:=0) G (Ze (Yq G (Yc (Ye (Ze (Zj G (Zr G (Yc (Yj G (fun h2=>?_) (fun h2=>?_)))))))))) <;> simp only[NM]at h2
 ·refine Ze (Yq G (Yc (Yi (⟨_,ZL G,?_⟩))));refine ZJ ?_;unfold Zds;(rw[ZcA (by omega)];done)
 refine Yh (Ye (Ze (Zj G (Zr G (Yc (Yj G (fun h3=>?_) (fun h3=>?_))))))) <;> simp only[NM]at h3
 ·refine Ze (Yq G (Yc (Yi (⟨_,ZL G,?_⟩))));refine ZJ ?_;unfold Zds;(rw[Zcz (by omega),ZcA (by omega)];done)
 refine Yh (Ze (Yq G (Yc (Yi (⟨_,ZL G,?_⟩)))));refine ZJ ?_;unfold Zds;(rw[Zcz (by omega),Zcz (by omega)];done)
def Zdn(P:Nat->Int)(a b:Int)(ha:0<=a/\a<64)(hb:0<=b/\b<64)(hn:a≠b)(hl:(Uh a b||Uf a b)=true):WR AM 148 [.agg 133 (ia P),.s (.int .i64 a),.s (.int .i64 b)] [] (fun v _ _=>v=.s (.bool (zw P a b))):=by
 refine YL (a:=a148) G G (YI _) (ZQ G) (m:=0) G (Ze (YC G (Yq G (Zf (Zj G (Zj G ?_))))));have hs1:=ZeY (b/8-a/8);have hs2:=ZeY (b%8-a%8);have hst:wi a b=8*Zds (b/8-a/8)+Zds (b%8-a%8):=rfl;obtain⟨⟨hf1,hf2⟩,hpath⟩:=path_at ha hb hn hl;refine Yt G (YP (ZdS a b ha hb)) G G G (Zo G (YD (v:=.s (.int _ _)) G G (YD (v:=.s (.int _ _)) G G (Zj G (Zj G (Zf (Zj G (Yt G (YP (Zd5 _)) G G G (Wn G G (by omega) (Zj G (Yt G (YP (Zd5 _)) G G G (Zs G G (Zj G (Yc (Ye (Ze (Zj G (Zj G (Zs G G (Zj G (Yc (Yk (Xo (.refl _) (Xu (fun m f _ L=>∃ (j:Nat),(j<=kq a b-1)/\(m=kq a b-1-j)/\(∀ i:Nat,i<j->Xf P (a+wi a b*((i:Int)+1))=true)/\(f 1=.s (.int .i64 a))/\(f 2=.s (.int .i64 b))/\(f 3=.ptr 0 0 133)/\(f 9=.s (.int .i64 (wi a b)))/\(f 10=.s (.int .i64 (a+wi a b*((j:Int)+1))))/\(L=[(0,.sc .var 133 (ia P))])) (fun m f nb L hI=>?_) (kq a b-1) (⟨0,by omega,by omega,fun i hi=>by omega,rfl,rfl,rfl,rfl,by show V.s (S.int .i64 _)=V.s (S.int .i64 _);rw[show((0:Nat):Int)+1=1 from rfl,Int.mul_one];rfl,rfl⟩)))))))))))))))))))))))));obtain⟨j,hj,hm,hno,k1,k2,k3,k9,k10,rfl⟩:=hI;refine Za 1 k1 (Za 2 k2 (Za 3 k3 (Za 9 k9 (Za 10 k10 (Ye (Ze (Zj G (Zj G ?_))))))));have hsb:0<=(a+wi a b*((j:Int)+1))/\(a+wi a b*((j:Int)+1))<64:=by
   by_cases e:j<kq a b-1
   · exact(hpath j e).1
   obtain⟨k,hk⟩ : ∃ k,kq a b = k := ⟨_,rfl⟩;rw[hk]at hf1 hf2 hj e;rw[show(j:Int)+1=k by omega,<-hf2];exact hb
 refine Zr G (Yc (Yj G (fun h4=>?_) (fun h4=>?_))) <;> simp only[NM]at h4
 ·refine Yh (Ye (Yk (Ze (Zj G (Zy G ?_)))));have hjl:j<kq a b-1:=by
    refine Nat.lt_of_not_le fun e=>?_
    have e2:(j:Int)+1=(kq a b:Int):=by omega
    have e3:(a+wi a b*((j:Int)+1))=b:=by rw[e2];exact hf2.symm
    exact absurd e3 (by assumption)
  refine Zw G G G (Yp G G ZM (YB G .nil (Yw G G (Yc (Yj G (fun h5=>?_) (fun h5=>?_)))))) <;> simp only[NM]at h5
  ·refine Ze (Yq G (Zg G (ZI ?_)));exact(open_no hjl (by assumption)).symm
  refine Yh (Yf (Zj G (Zj G (Zs G G (Zj G (Yc (⟨kq a b-1-(j+1),_,by omega,(.refl _),j+1,by omega,rfl,?_,rfl,rfl,rfl,rfl,?_,rfl⟩)))))))
  · intro i hi;by_cases e:i=j
    ·subst e;assumption
    exact hno i (by omega)
  show V.s (S.int .i64 _) = V.s (S.int .i64 _);rw[show((j+1:Nat):Int)+1=((j:Int)+1)+1 by omega,Int.mul_add (wi a b) ((j:Int)+1) 1,Int.mul_one,Int.add_assoc]
 refine Y0 (Xb (Ze (Yq G (Zg G (congrArg (fun b=>V.s (S.bool b)) ((Ze7 fun i hi=>?_).symm))))));by_cases e:i<j
 · exact hno i e
 exact absurd (by omega) (hpath j (by omega)).2
def Zdt{a b:Int}(h:(b%8-a%8=0\/b/8-a/8=0)\/Vl (b%8-a%8)=Vl (b/8-a/8)):(Uh a b||Uf a b)=true:=by
 unfold Uh Uf;rw[Bool.or_eq_true,Zb7,Zb7];exact h
def ZeZ{x y:Int}(h:0<=x/\x<=64)(k:0<=y/\y<=64):-9223372036854775808<=x*y/\x*y<=9223372036854775807:=by
 have h1:=Int.mul_le_mul h.2 k.2 k.1 (by omega);have h2:=Int.mul_nonneg h.1 k.1;omega
section
variable{P:Nat->Int}{a b:Int}
def ZeW(h:Xm (P (sqI a)) (P (sqI a+1))=false\/a=b):Kv P a b=false:=ZcA h
def Zdy(hm:Xm (P (sqI a)) (P (sqI a+1))=true)(hn:¬ a=b):¬ (Xm (P (sqI a)) (P (sqI a+1))=false\/a=b):=fun h=>h.elim (fun h=>by rw[hm]at h;cases h) hn
def Zdm(hm:Xm (P (sqI a)) (P (sqI a+1))=true)(hn:¬ a=b)(hk:P (sqI a)=1):Kv P a b=decide (Vl (b%8-a%8)=1/\b/8-a/8=1-2*P (sqI a+1)):=by
 unfold Kv wt;rw[Zcz (Zdy hm hn),ZcA hk]
def ZeM(hm:Xm (P (sqI a)) (P (sqI a+1))=true)(hn:¬ a=b)(hk:P (sqI a)=2):Kv P a b=decide (Vl (b%8-a%8)*Vl (b/8-a/8)=2):=by
 unfold Kv wt;rw[Zcz (Zdy hm hn),Zcz (by omega),ZcA hk]
def ZdO(hm:Xm (P (sqI a)) (P (sqI a+1))=true)(hn:¬ a=b)(hk:P (sqI a)=6):Kv P a b=decide (Vl (b%8-a%8)<=1/\Vl (b/8-a/8)<=1):=by
 unfold Kv wt;rw[Zcz (Zdy hm hn),Zcz (by omega),Zcz (by omega),ZcA hk]
def Zel(hm:Xm (P (sqI a)) (P (sqI a+1))=true)(hn:¬ a=b)(hk:P (sqI a)=4):Kv P a b=(Uh a b&&zw P a b):=by
 unfold Kv wt;rw[Zcz (Zdy hm hn),Zcz (by omega),Zcz (by omega),Zcz (by omega),ZcA hk]
def ZdR(hm:Xm (P (sqI a)) (P (sqI a+1))=true)(hn:¬ a=b)(hk:P (sqI a)=3):Kv P a b=(Uf a b&&zw P a b):=by
 unfold Kv wt;rw[Zcz (Zdy hm hn),Zcz (by omega),Zcz (by omega),Zcz (by omega),Zcz (by omega),ZcA hk]
def ZdT(hm:Xm (P (sqI a)) (P (sqI a+1))=true)(hn:¬ a=b)(h1:¬ P (sqI a)=1)(h2:¬ P (sqI a)=2)(h6:¬ P (sqI a)=6)(h4:¬ P (sqI a)=4)(h3:¬ P (sqI a)=3):Kv P a b=((Uh a b||Uf a b)&&zw P a b):=by
 unfold Kv wt;rw[Zcz (Zdy hm hn),Zcz h1,Zcz h2,Zcz h6,Zcz h4,Zcz h3]
end
def ZdQ{a b:Int}(h:b%8-a%8=0\/b/8-a/8=0):Uh a b=true:=Zcl h
def Zeg{a b:Int}(h:¬ (b%8-a%8=0\/b/8-a/8=0)):Uh a b=false:=Zci h
def Zei{a b:Int}(h:Vl (b%8-a%8)=Vl (b/8-a/8)):Uf a b=true:=Zcl h
def Zee{a b:Int}(h:¬ Vl (b%8-a%8)=Vl (b/8-a/8)):Uf a b=false:=Zci h
def Zdq(P:Nat->Int)(a b:Int)(ha:0<=a/\a<64)(hb:0<=b/\b<64):WR AM 121 [.agg 133 (ia P),.s (.int .i64 a),.s (.int .i64 b)] [] (fun v _ _=>v=.s (.bool (Kv P a b))):=by
 refine YL (a:=a121) G G (YI _) (ZQ G) (m:=0) G (Ze (YC G (Yq G (Zf (Zj G (Zy G (Zw G G G (Yp G G ZM (Yy (Yz G G G G .here (Yc (Ye (Ze (Yo G G ZM (Yt G (show RF AM 95 _ (.s (.bool (Xm (P (sqI a)) (P (sqI a+1))))) from YP (ZaP _)) G G G (Yv (r:=.bool _) G G (Zk G (Ys (t:=19) G (fun h6=>?_) (fun h6=>?_))))))))))))))))))) <;> simp only[NM]at h6
 ·refine ZD G (ZC G (Zq G (Yc (ZA G (Ze (Yq G (Zg G (ZI ?_))))))));exact(ZeW (by first|exact .inl (by assumption)|exact .inr (by assumption))).symm
 refine Yb G (Zj G (Yb G (Zj G (Yb G (Zr G (Zq G (Yc (Yj G (fun h7=>?_) (fun h7=>?_))))))))) <;> simp only[NM]at h7
 ·refine Ze (Yq G (Zg G (ZI ?_)));exact(ZeW (by first|exact .inl (by assumption)|exact .inr (by assumption))).symm
 refine Yh (Ze (Zj G (Zj G (Yt G (YP (ZdS a b ha hb)) G G G (Zo G (YD (v:=.s (.int _ _)) G G (YD (v:=.s (.int _ _)) G G (Zj G (Zj G (Zf (Zj G (Zr G (Zk G (Ys (t:=32) G (fun h8=>?_) (fun h8=>?_))))))))))))))) <;> simp only[NM]at h8
 ·refine ZD G (Zq G (Zj G (Yt G (YP (Zdg _ (by omega))) G G G (Zj G (Yt G (YP (Zdg _ (by omega))) G G G (Zr G (Zk G (Zk G (Yc (Ye (Ze ?_)))))))))));have hf:=ZdP (x:=b%8-a%8) (by omega);have hr:=ZdP (x:=b/8-a/8) (by omega);refine Zy G (Ym (x:=P (sqI a)) G G ZM (G) (Yc (Yk (Ze (Zr G (Zk G (Yc (Yj G (fun h9=>?_) (fun h9=>?_))))))))) <;> simp only[NM]at h9
  ·refine Ze (Zj G (Yt G (YP (Zdg _ (by omega))) G G G (Zr G (Zk G (Ys (t:=48) G (fun h10=>?_) (fun h10=>?_)))))) <;> simp only[NM]at h10
   ·refine Yb G (Zz G (Yb G (Ym (x:=P (sqI a+1)) G G ZM (G) (Yb G (Zr G (Yb G (Zk G (Ys (t:=52) G (fun h11=>?_) (fun h11=>?_))))))))) <;> simp only[NM]at h11
    ·refine Yb G (Zj G (Yb G (Zr G (Yb G (Zq G (Yb G (Zk G (Ys (t:=56) G (fun h12=>?_) (fun h12=>?_))))))))) <;> simp only[NM]at h12
     ·refine ZE G (YJ G (YJ G (ZC G (Yb G (Zq G (Zq G (Zk G (Zg G (ZI ?_)))))))));rw[Zdm (by assumption) (by assumption) (by assumption)];simp only[Xm,Zb7]at *;rw[Zce];simp only[Zcu,Zb7,Zb1,Zcx,Zcv,Zcy,Zcw];omega
     refine Yb G (Zz G (Yb G (Ym (x:=P (sqI a+1)) G G ZM (G) (Yb G (Zr G (Yb G (Zk G (Ys (t:=60) G (fun h13=>?_) (fun h13=>?_))))))))) <;> simp only[NM]at h13
     ·refine Yb G (Zj G (Yb G (Zr G (Yb G (Zq G (Yb G (Zq G (Zq G (Zk G (Zg G (ZI ?_)))))))))));rw[Zdm (by assumption) (by assumption) (by assumption)];simp only[Xm,Zb7]at *;rw[Zce];simp only[Zcu,Zb7,Zb1,Zcx,Zcv,Zcy,Zcw];omega
     refine ZD G (Yb G (Zq G (Yb G (Zq G (Zq G (Zk G (Zg G (ZI ?_))))))));rw[Zdm (by assumption) (by assumption) (by assumption)];simp only[Xm,Zb7]at *;rw[Zce];simp only[Zcu,Zb7,Zb1,Zcx,Zcv,Zcy,Zcw];omega
    refine ZD G (Yb G (Zq G (Yb G (Zk G (Yb G (Zz G (Yb G (Ym (x:=P (sqI a+1)) G G ZM (G) (Yb G (Zr G (Yb G (Zk G (Ys (t:=60) G (fun h14=>?_) (fun h14=>?_)))))))))))))) <;> simp only[NM]at h14
    ·refine Yb G (Zj G (Yb G (Zr G (Yb G (Zq G (Yb G (Zq G (Zq G (Zk G (Zg G (ZI ?_)))))))))));rw[Zdm (by assumption) (by assumption) (by assumption)];simp only[Xm,Zb7]at *;rw[Zce];simp only[Zcu,Zb7,Zb1,Zcx,Zcv,Zcy,Zcw];omega
    refine ZD G (Yb G (Zq G (Yb G (Zq G (Zq G (Zk G (Zg G (ZI ?_))))))));rw[Zdm (by assumption) (by assumption) (by assumption)];simp only[Xm,Zb7]at *;rw[Zce];simp only[Zcu,Zb7,Zb1,Zcx,Zcv,Zcy,Zcw];omega
   refine ZE G (YJ G (YJ G (ZD G (YJ G (YJ G (YJ G (YJ G (YJ G (YJ G (YJ G (ZC G (Zq G (Zk G (Zg G (ZI ?_)))))))))))))));rw[Zdm (by assumption) (by assumption) (by assumption)];simp only[Xm,Zb7]at *;rw[Zce];simp only[Zcu,Zb7,Zb1,Zcx,Zcv,Zcy,Zcw];omega
  refine Ze (Zr G (Zk G (Yc (Yj G (fun h15=>?_) (fun h15=>?_))))) <;> simp only[NM]at h15
  ·refine Ze (Zj G (Yt G (YP (Zdg _ (by omega))) G G G (Zj G (Yt G (YP (Zdg _ (by omega))) G G G (Wn G G (ZeZ hf hr) (Zr G (Zk G (Zg G (ZI ?_)))))))));rw[ZeM (by assumption) (by assumption) (by assumption)];rfl
  refine Ze (Zr G (Zk G (Yc (Yj G (fun h16=>?_) (fun h16=>?_))))) <;> simp only[NM]at h16
  ·refine Ze (Zj G (Yt G (YP (Zdg _ (by omega))) G G G (Zr G (Zk G (Ys (t:=79) G (fun h17=>?_) (fun h17=>?_)))))) <;> simp only[NM]at h17
   ·refine Yb G (Zj G (Yb G (Yt G (YP (Zdg _ (by omega))) G G G (Yb G (Zr G (Zq G (Zk G (Zg G (ZI ?_)))))))));rw[ZdO (by assumption) (by assumption) (by assumption)];rw[Zce];simp only[Zcu,Zb7,Zb1,Zcx,Zcv,Zcy,Zcw];omega
   refine ZD G (ZC G (Zq G (Zk G (Zg G (ZI ?_)))));rw[ZdO (by assumption) (by assumption) (by assumption)];rw[Zce];simp only[Zcu,Zb7,Zb1,Zcx,Zcv,Zcy,Zcw];omega
  refine Ze (Zr G (Zk G (Yc (Yj G (fun h18=>?_) (fun h18=>?_))))) <;> simp only[NM]at h18
  ·refine Ze (Zk G (Zk G (Yb G (Yo G G ZN (Yb G (Zj G (Yb G (Zj G (Yb G (Yt G (YP (Zdn P a b ha hb (by omega) (Zdt (by omega)))) G G G (Zq G (Zk G (Zg G (ZI ?_))))))))))))));rw[Zel (by assumption) (by assumption) (by assumption)];rw[ZdQ (by omega)];rfl
  refine Ze (Zr G (Zk G (Yc (Yj G (fun h19=>?_) (fun h19=>?_))))) <;> simp only[NM]at h19
  ·refine Ze (Zk G (Zk G (Ys (t:=96) G (fun h20=>?_) (fun h20=>?_)))) <;> simp only[NM]at h20
   ·refine Yb G (Yo G G ZN (Yb G (Zj G (Yb G (Zj G (Yb G (Yt G (YP (Zdn P a b ha hb (by omega) (Zdt (by omega)))) G G G (Zq G (Zk G (Zg G (ZI ?_)))))))))));rw[ZdR (by assumption) (by assumption) (by assumption)];rw[Zei (by omega)];rfl
   refine ZE G (Zq G (Zk G (Zg G (ZI ?_))));rw[ZdR (by assumption) (by assumption) (by assumption)];rw[Zee (by omega)];rfl
  refine Yh (Ze (Zk G (Zk G (ZC G (Zq G (Zk G (Yb G (Yo G G ZN (Yb G (Zj G (Yb G (Zj G (Yb G (Yt G (YP (Zdn P a b ha hb (by omega) (Zdt (by omega)))) G G G (Zq G (Zk G (Zg G (ZI ?_))))))))))))))))));rw[ZdT (by assumption) (by assumption) (by omega) (by omega) (by omega) (by omega) (by omega)];(rw[ZdQ (by omega),Bool.true_or];rfl)
 refine Yb G (Zj G (Yb G (Zr G (Zq G (Zj G (Yt G (YP (Zdg _ (by omega))) G G G (Zj G (Yt G (YP (Zdg _ (by omega))) G G G (Zr G (Zk G (Zk G (Yc (Ye (Ze ?_))))))))))))));have hf:=ZdP (x:=b%8-a%8) (by omega);have hr:=ZdP (x:=b/8-a/8) (by omega);refine Zy G (Ym (x:=P (sqI a)) G G ZM (G) (Yc (Yk (Ze (Zr G (Zk G (Yc (Yj G (fun h21=>?_) (fun h21=>?_))))))))) <;> simp only[NM]at h21
 ·refine Ze (Zj G (Yt G (YP (Zdg _ (by omega))) G G G (Zr G (Zk G (Ys (t:=48) G (fun h22=>?_) (fun h22=>?_)))))) <;> simp only[NM]at h22
  ·refine Yb G (Zz G (Yb G (Ym (x:=P (sqI a+1)) G G ZM (G) (Yb G (Zr G (Yb G (Zk G (Ys (t:=52) G (fun h23=>?_) (fun h23=>?_))))))))) <;> simp only[NM]at h23
   ·refine Yb G (Zj G (Yb G (Zr G (Yb G (Zq G (Yb G (Zk G (Ys (t:=56) G (fun h24=>?_) (fun h24=>?_))))))))) <;> simp only[NM]at h24
    ·refine ZE G (YJ G (YJ G (ZC G (Yb G (Zq G (Zq G (Zk G (Zg G (ZI ?_)))))))));rw[Zdm (by assumption) (by assumption) (by assumption)];simp only[Xm,Zb7]at *;rw[Zce];simp only[Zcu,Zb7,Zb1,Zcx,Zcv,Zcy,Zcw];omega
    refine Yb G (Zz G (Yb G (Ym (x:=P (sqI a+1)) G G ZM (G) (Yb G (Zr G (Yb G (Zk G (Ys (t:=60) G (fun h25=>?_) (fun h25=>?_))))))))) <;> simp only[NM]at h25
    ·refine Yb G (Zj G (Yb G (Zr G (Yb G (Zq G (Yb G (Zq G (Zq G (Zk G (Zg G (ZI ?_)))))))))));rw[Zdm (by assumption) (by assumption) (by assumption)];simp only[Xm,Zb7]at *;rw[Zce];simp only[Zcu,Zb7,Zb1,Zcx,Zcv,Zcy,Zcw];omega
    refine ZD G (Yb G (Zq G (Yb G (Zq G (Zq G (Zk G (Zg G (ZI ?_))))))));rw[Zdm (by assumption) (by assumption) (by assumption)];simp only[Xm,Zb7]at *;rw[Zce];simp only[Zcu,Zb7,Zb1,Zcx,Zcv,Zcy,Zcw];omega
   refine ZD G (Yb G (Zq G (Yb G (Zk G (Yb G (Zz G (Yb G (Ym (x:=P (sqI a+1)) G G ZM (G) (Yb G (Zr G (Yb G (Zk G (Ys (t:=60) G (fun h26=>?_) (fun h26=>?_)))))))))))))) <;> simp only[NM]at h26
   ·refine Yb G (Zj G (Yb G (Zr G (Yb G (Zq G (Yb G (Zq G (Zq G (Zk G (Zg G (ZI ?_)))))))))));rw[Zdm (by assumption) (by assumption) (by assumption)];simp only[Xm,Zb7]at *;rw[Zce];simp only[Zcu,Zb7,Zb1,Zcx,Zcv,Zcy,Zcw];omega
   refine ZD G (Yb G (Zq G (Yb G (Zq G (Zq G (Zk G (Zg G (ZI ?_))))))));rw[Zdm (by assumption) (by assumption) (by assumption)];simp only[Xm,Zb7]at *;rw[Zce];simp only[Zcu,Zb7,Zb1,Zcx,Zcv,Zcy,Zcw];omega
  refine ZE G (YJ G (YJ G (ZD G (YJ G (YJ G (YJ G (YJ G (YJ G (YJ G (YJ G (ZC G (Zq G (Zk G (Zg G (ZI ?_)))))))))))))));rw[Zdm (by assumption) (by assumption) (by assumption)];simp only[Xm,Zb7]at *;rw[Zce];simp only[Zcu,Zb7,Zb1,Zcx,Zcv,Zcy,Zcw];omega
 refine Ze (Zr G (Zk G (Yc (Yj G (fun h27=>?_) (fun h27=>?_))))) <;> simp only[NM]at h27
 ·refine Ze (Zj G (Yt G (YP (Zdg _ (by omega))) G G G (Zj G (Yt G (YP (Zdg _ (by omega))) G G G (Wn G G (ZeZ hf hr) (Zr G (Zk G (Zg G (ZI ?_)))))))));rw[ZeM (by assumption) (by assumption) (by assumption)];rfl
 refine Ze (Zr G (Zk G (Yc (Yj G (fun h28=>?_) (fun h28=>?_))))) <;> simp only[NM]at h28
 ·refine Ze (Zj G (Yt G (YP (Zdg _ (by omega))) G G G (Zr G (Zk G (Ys (t:=79) G (fun h29=>?_) (fun h29=>?_)))))) <;> simp only[NM]at h29
  ·refine Yb G (Zj G (Yb G (Yt G (YP (Zdg _ (by omega))) G G G (Yb G (Zr G (Zq G (Zk G (Zg G (ZI ?_)))))))));rw[ZdO (by assumption) (by assumption) (by assumption)];rw[Zce];simp only[Zcu,Zb7,Zb1,Zcx,Zcv,Zcy,Zcw];omega
  refine ZD G (ZC G (Zq G (Zk G (Zg G (ZI ?_)))));rw[ZdO (by assumption) (by assumption) (by assumption)];rw[Zce];simp only[Zcu,Zb7,Zb1,Zcx,Zcv,Zcy,Zcw];omega
 refine Ze (Zr G (Zk G (Yc (Yj G (fun h30=>?_) (fun h30=>?_))))) <;> simp only[NM]at h30
 ·refine Ze (Zk G (Zk G (Ys (t:=87) G (fun h31=>?_) (fun h31=>?_)))) <;> simp only[NM]at h31
  ·refine Yb G (Yo G G ZN (Yb G (Zj G (Yb G (Zj G (Yb G (Yt G (YP (Zdn P a b ha hb (by omega) (Zdt (by omega)))) G G G (Zq G (Zk G (Zg G (ZI ?_)))))))))));rw[Zel (by assumption) (by assumption) (by assumption)];rw[ZdQ (by omega)];rfl
  refine ZE G (Zq G (Zk G (Zg G (ZI ?_))));rw[Zel (by assumption) (by assumption) (by assumption)];rw[Zeg (by omega)];rfl
 refine Ze (Zr G (Zk G (Yc (Yj G (fun h32=>?_) (fun h32=>?_))))) <;> simp only[NM]at h32
 ·refine Ze (Zk G (Zk G (Ys (t:=96) G (fun h33=>?_) (fun h33=>?_)))) <;> simp only[NM]at h33
  ·refine Yb G (Yo G G ZN (Yb G (Zj G (Yb G (Zj G (Yb G (Yt G (YP (Zdn P a b ha hb (by omega) (Zdt (by omega)))) G G G (Zq G (Zk G (Zg G (ZI ?_)))))))))));rw[ZdR (by assumption) (by assumption) (by assumption)];rw[Zei (by omega)];rfl
  refine ZE G (Zq G (Zk G (Zg G (ZI ?_))));rw[ZdR (by assumption) (by assumption) (by assumption)];rw[Zee (by omega)];rfl
 refine Yh (Ze (Zk G (Zk G (Ys (t:=103) G (fun h34=>?_) (fun h34=>?_))))) <;> simp only[NM]at h34
 ·refine ZC G (Zq G (Zk G (Yb G (Yo G G ZN (Yb G (Zj G (Yb G (Zj G (Yb G (Yt G (YP (Zdn P a b ha hb (by omega) (Zdt (by omega)))) G G G (Zq G (Zk G (Zg G (ZI ?_))))))))))))));rw[ZdT (by assumption) (by assumption) (by omega) (by omega) (by omega) (by omega) (by omega)];(rw[ZdQ (by omega),Bool.true_or];rfl)
 refine Yb G (Zk G (Zq G (Zk G (Ys (t:=106) G (fun h35=>?_) (fun h35=>?_))))) <;> simp only[NM]at h35
 ·refine Yb G (Yo G G ZN (Yb G (Zj G (Yb G (Zj G (Yb G (Yt G (YP (Zdn P a b ha hb (by omega) (Zdt (by omega)))) G G G (Zq G (Zk G (Zg G (ZI ?_)))))))))));rw[ZdT (by assumption) (by assumption) (by omega) (by omega) (by omega) (by omega) (by omega)];(rw[Zeg (by omega),Zei (by omega)];rfl)
 refine ZE G (Zq G (Zk G (Zg G (ZI ?_))));rw[ZdT (by assumption) (by assumption) (by omega) (by omega) (by omega) (by omega) (by omega)];(rw[Zeg (by omega),Zee (by omega)];rfl)
def Zew{P X Q:Nat->Int}{s:Nat}(hQ:∀ j,j<2->Q j=P (sqI s+j)):eqI 2 Q X=isX P X s:=by
 unfold isX;rw[QK,hQ 0 (by omega),hQ 1 (by omega)];rfl
def Zen(P X:Nat->Int):RtR AM 69 1 [.agg 133 (ia P),.agg 2 (ia X)] [] (jz P X) []:=by
 refine Qq (YL (a:=a69) G G (YI _) (ZQ G) (m:=0) G (Ze (YC G (YC G (Yq G (Zf (Yq G (Yc (Ye (Ze (Yq G (Yc (Yk (Xo (.refl _) (Xu (fun m f _ L=>∃ (i:Nat) (vO:V) (ownO:HA),(i<=64)/\(m=64-i)/\(Rw 1 ((Wq i).filter (isX P X)) vO ownO)/\(f 2=.ptr 0 0 133)/\(f 3=.ptr 1 0 2)/\(f 5=vO)/\(f 6=.s (.int .i64 i))/\(L=(ownO++[(1,.sc .var 2 (ia X)),(0,.sc .var 133 (ia P))]))) (fun m f nb L hI=>?_) (64) (⟨0,.snil,[],by omega,rfl,.nil rfl,rfl,rfl,rfl,rfl,rfl⟩))))))))))))))));obtain⟨i,vO,ownO,hi,hm,hrO,k2,k3,k5,k6,rfl⟩:=hI;refine Za 2 k2 (Za 3 k3 (Za 5 k5 (Za 6 k6 (Ye (Ze (Zj G (Zr G (Yc (Yj G (fun h36=>?_) (fun h36=>?_)))))))))) <;> simp only[NM]at h36
 ·refine Yh (Ye (Yk (Ye (Yg (Zj G (Zy G (Zw G G G (Yp G G (ZbM _ ZN) (Yo G G (ZbM _ ZM) (Yw G G (Yc (Yj G (fun h37=>?_) (fun h37=>?_))))))))))))) <;> simp only[NM]at h37
  ·refine Yf (Yq (v:=vO) G (Zj G (XA G (.one G .nil) (XZ (c:=[(i:Int)]) G hrO G ZM (.there .here) (by decide) (by decide) G (Jn) (by have:=vK (isX P X) i;omega) (fun v1 own1 n1 hr1=>Yq (v:=v1) G (Yc (Yf (Zj G (Zs G G (Zj G (Yc ?_)))))))))));have e0:∀ j,j<2->dp P (0+(i:Int).toNat*2) j=P (sqI i+j):=fun j hj=>by have hq:sqI (i:Int)=0+(i:Int).toNat*2:=rfl;exact congrArg P (by omega)
   refine⟨64-(i+1),_,by omega,(ZbY (.refl _) (.cons _ (.refl _))),i+1,_,_,by omega,rfl,?_,rfl,rfl,rfl,rfl,rfl⟩;exact(ZaS (p:=isX P X) (i:=i) (by rw[<-Zew e0];assumption)).symm ▸ hr1
  refine Yh (Yf (Zj G (Zs G G (Zj G (Yc ?_)))));have e0:∀ j,j<2->dp P (0+(i:Int).toNat*2) j=P (sqI i+j):=fun j hj=>by have hq:sqI (i:Int)=0+(i:Int).toNat*2:=rfl;exact congrArg P (by omega)
  refine⟨64-(i+1),_,by omega,(ZbY (.refl _) (.refl _)),i+1,_,_,by omega,rfl,?_,rfl,rfl,rfl,rfl,rfl⟩;exact(ZdW (p:=isX P X) (i:=i) (by rw[<-Zew e0];assumption)).symm ▸ hrO
 refine Y0 (Xb (Ze (Yq (v:=vO) G (Yq (v:=vO) G (Yc (Yi (⟨_,YH (v:=vO) G (YW),?_⟩)))))));obtain rfl:i=64:=by omega
 exact⟨_,hrO,(fun _ h=>(ZbV _ h))⟩
def ZdL(P:Nat->Int)(c s a:Int):Bool:=decide (P (sqI a+1)=c)&&Kv P a s
def toL(P:Nat->Int)(s c:Int)(n:Nat):List Int:=if 0<=s/\s<64 then (Wq n).filter (ZdL P c s) else []
def toL_len(P:Nat->Int)(s c:Int)(n:Nat):(toL P s c n).length<=n:=by
 unfold toL;split
 ·exact vK _ n
 exact Zct _
def isR(P:Nat->Int)(c:Int)(s:Int):Bool:=decide (0<(toL P s c 64).length)
def ZdE(P:Nat->Int)(c:Int):Bool:=if c=0\/c=1 then (jz P (ju c)).any (isR P (XT c)) else false
def Zeb{P:Nat->Int}{c s:Int}(hs:0<=s/\s<64):isR P c s=QM P c s:=by
 unfold isR toL QM;rw[ZcA hs,Zce,Zb7,List.length_pos_iff_exists_mem,List.any_eq_true];constructor
 ·rintro⟨a,ha⟩;obtain⟨h1,h2⟩:=Zch.1 ha;refine⟨a,h1,?_⟩;unfold ZdL at h2;unfold Jp;rw[Zca]at h2 ⊢;exact⟨h2.1,Zcl ((ku (mem64.1 h1) hs).2 h2.2)⟩
 rintro⟨a,h1,h2⟩;refine⟨a,Zch.2 ⟨h1,?_⟩⟩;unfold Jp at h2;unfold ZdL;rw[Zca]at h2 ⊢;exact⟨h2.1,(ku (mem64.1 h1) hs).1 (of_decide_eq_true h2.2)⟩
def ZdF(P:Nat->Int)(c:Int):ZdE P c=WU P c:=by
 unfold ZdE WU;split
 ·rw[Zce,List.any_eq_true,List.any_eq_true];constructor
  ·rintro⟨x,hx,h⟩;refine⟨x,hx,?_⟩;rw[<-Zeb (mem64.1 (Zch.1 hx).1)];exact h
  rintro⟨x,hx,h⟩;refine⟨x,hx,?_⟩;rw[Zeb (mem64.1 (Zch.1 hx).1)];exact h
 rfl
def to_yes{P:Nat->Int}{s c:Int}{i:Nat}(hs:0<=s/\s<64)(h1:P (sqI i+1)=c)(h2:Kv P i s=true):toL P s c (i+1)=toL P s c i++[(i:Int)]:=by
 unfold toL;rw[ZcA hs,ZcA hs];exact ZaS (p:=ZdL P c s) (by unfold ZdL;rw[Zcl h1,h2];rfl)
def to_no{P:Nat->Int}{s c:Int}{i:Nat}(hs:0<=s/\s<64)(h:P (sqI i+1)≠c\/Kv P i s=false):toL P s c (i+1)=toL P s c i:=by
 unfold toL;rw[ZcA hs,ZcA hs];refine ZdW (p:=ZdL P c s) ?_;unfold ZdL;rcases h with h|h
 ·rw[Zci h];rfl
 rw[h,Bool.and_false]
def dTo_rt(P:Nat->Int)(s c:Int):RtR AM 97 1 [.agg 133 (ia P),.s (.int .i64 s),.s (.int .i64 c)] [] (toL P s c 64) []:=by
 refine Qq (YL (a:=a97) G G (YI _) (ZQ G) (m:=0) G (Ze (YC G (Yq G (Zf (Yq G (Yc (Ye (Ze (Yq G (Yc (Yk (Xo (.refl _) ?_)))))))))))));refine Xu (fun m f _ L=>∃ (i:Nat) (vO:V) (ownO:HA),(i<=64)/\(m=64-i)/\(Rw 1 (toL P s c i) vO ownO)/\(f 1=.s (.int .i64 s))/\(f 2=.s (.int .i64 c))/\(f 3=.ptr 0 0 133)/\(f 7=vO)/\(f 8=.s (.int .i64 i))/\(L=(ownO++[(0,.sc .var 133 (ia P))]))) (fun m f nb L hI=>?_) (64) (⟨0,.snil,[],by omega,rfl,.nil (by unfold toL;split <;> rfl),rfl,rfl,rfl,rfl,rfl,rfl⟩);obtain⟨i,vO,ownO,hi,hm,hrO,k1,k2,k3,k7,k8,rfl⟩:=hI;refine Za 1 k1 (Za 2 k2 (Za 3 k3 (Za 7 k7 (Za 8 k8 (Ye (Ze (Zj G (Zr G (Zk G (Ys (t:=11) G (fun h38=>?_) (fun h38=>?_))))))))))) <;> simp only[NM]at h38
 ·refine Yb G (Zj G (Yb G (Zr G (Zq G (Zk G (Ys (t:=15) G (fun h39=>?_) (fun h39=>?_))))))) <;> simp only[NM]at h39
  ·refine Yb G (Zj G (Yb G (Zr G (Zq G (Yc (Yj G (fun h40=>?_) (fun h40=>?_))))))) <;> simp only[NM]at h40
   ·refine Yh (Ye (Yk (Ze (Zj G (Zy G (Zw G G G (Yd G G G (Ym (x:=P (sqI i+1)) G G (ZbM _ ZM) (show P (0+(i:Int).toNat*2+1)=_ from congrArg P (by have hq:sqI (i:Int)=0+(i:Int).toNat*2:=rfl;omega)) (Zj G (Zr G (Zk G (Ys (t:=28) G (fun h41=>?_) (fun h41=>?_))))))))))))) <;> simp only[NM]at h41
    ·refine Yb G (Yo G G (ZbM _ ZM) (Yb G (Zj G (Yb G (Zj G (Yb G (Yt G (YP (Zdq P i s (by omega) (by omega))) G G G (Zq G (Yc (Yj G (fun h42=>?_) (fun h42=>?_)))))))))))
     ·refine Yf (Yq (v:=vO) G (Zj G (XA G (.one G .nil) (XZ (c:=[(i:Int)]) G hrO G ZM (.there .here) (by decide) (by decide) G (Jn) (by have:=toL_len P s c i;omega) (fun v1 own1 n1 hr1=>Yq (v:=v1) G (Yc (Yf (Zj G (Zs G G (Zj G (Yc (⟨64-(i+1),_,by omega,(ZbY (.refl _) (.cons _ (.refl _))),i+1,_,_,by omega,rfl,?_,rfl,rfl,rfl,rfl,rfl,rfl⟩))))))))))));exact(to_yes (c:=c) ⟨by omega,by omega⟩ (by assumption) (by assumption)).symm ▸ hr1
     refine Yh (Yf (Zj G (Zs G G (Zj G (Yc (⟨64-(i+1),_,by omega,(ZbY (.refl _) (.refl _)),i+1,_,_,by omega,rfl,?_,rfl,rfl,rfl,rfl,rfl,rfl⟩))))));exact(to_no (c:=c) ⟨by omega,by omega⟩ (by first|exact .inl (by assumption)|exact .inr (by assumption))).symm ▸ hrO
    refine ZE G (Zq G (Yc (ZB G (Yh (Yf (Zj G (Zs G G (Zj G (Yc (⟨64-(i+1),_,by omega,(ZbY (.refl _) (.refl _)),i+1,_,_,by omega,rfl,?_,rfl,rfl,rfl,rfl,rfl,rfl⟩))))))))));exact(to_no (c:=c) ⟨by omega,by omega⟩ (by first|exact .inl (by assumption)|exact .inr (by assumption))).symm ▸ hrO
   refine Y0 (Xb (Ze (Yq (v:=vO) G (Yq (v:=vO) G (Yc (Yi (⟨_,YH (v:=vO) G (YW),?_⟩)))))));have e:toL P s c 64=toL P s c i:=by
    by_cases e:0<=s/\s<64
    · obtain rfl : i = 64 := by omega
      rfl
    unfold toL;rw[Zcz e,Zcz e]
   exact⟨_,e ▸ hrO,(fun _ h=>(ZbV _ h))⟩
  refine ZD G (Zq G (Yc (ZB G (Y0 (Xb (Ze (Yq (v:=vO) G (Yq (v:=vO) G (Yc (Yi (⟨_,YH (v:=vO) G (YW),?_⟩)))))))))));have e:toL P s c 64=toL P s c i:=by
   by_cases e:0<=s/\s<64
   · obtain rfl : i = 64 := by omega
     rfl
   unfold toL;rw[Zcz e,Zcz e]
  exact⟨_,e ▸ hrO,(fun _ h=>(ZbV _ h))⟩
 refine ZD G (Zq G (Zk G (ZD G (Zq G (Yc (ZB G (Y0 (Xb (Ze (Yq (v:=vO) G (Yq (v:=vO) G (Yc (Yi (⟨_,YH (v:=vO) G (YW),?_⟩))))))))))))));have e:toL P s c 64=toL P s c i:=by
  by_cases e:0<=s/\s<64
  · obtain rfl : i = 64 := by omega
    rfl
  unfold toL;rw[Zcz e,Zcz e]
 exact⟨_,e ▸ hrO,(fun _ h=>(ZbV _ h))⟩
def Zed(P:Nat->Int)(c:Int)(l:List Int)(hlen:l.length<=1000000):RdR AM 68 1 [.agg 133 (ia P),.s (.int .i64 c)] [] l (.s (.bool (l.any (isR P c)))):=by
 refine WV fun v Bs hc=>?_
 refine YL (a:=a68) G G (YI _) (ZQ G) G ?_ (by first|rfl|(cases hc <;> rfl));have hr0:=hc.rx;rw[show YZ 0 Bs=YZ 0 Bs++[] from(Zcf _).symm];generalize hown:YZ 0 Bs=own0 at hr0 ⊢;refine Ze (YC G (Yq G (Yc (Ye (Ze (Yq G (Yc (Yk (Xo (.cons_cons _ (ZbY (.refl _) .slnil)) (Xu (fun m f _ L=>∃ (i:Nat),(i<=l.length)/\(m=l.length-i)/\(∀ j:Nat,j<i->isR P c (l.getD j 0)=false)/\(f 1=.s (.int .i64 c))/\(f 2=v)/\(f 3=.ptr Bs.length 0 133)/\(f 7=.s (.int .i64 i))/\(L=(Bs.length,.sc .var 133 (ia P))::(own0++[]))) (fun m f nb L hI=>?_) (l.length) (⟨0,by omega,by omega,fun j hj=>by omega,rfl,rfl,rfl,rfl,rfl⟩)))))))))));obtain⟨i,hi,hm,hn,k1,k2,k3,k7,rfl⟩:=hI;refine Za 1 k1 (Za 2 k2 (Za 3 k3 (Za 7 k7 (Ye (Ze (Zj G (Yq (v:=v) G (Xk G hr0 (by decide) Te (Zr G (Yc (Yj G (fun h43=>?_) (fun h43=>?_)))))))))))) <;> simp only[NM]at h43
 ·refine Yh (Ye (Yk (Ye (Yg (Yo G G ZM (Yq (v:=v) G (Zj G ?_)))))));obtain⟨b0,q0,md0,c0,F0,rfl,rfl,hF0⟩:=hr0.at (by decide) Te (by omega);refine Zx G G (Ym (x:=(l.getD i 0)) G G ZN (ld1 hF0 (by omega)) (Zj G (YE G (dTo_rt P (l.getD i 0) c) G G (fun v1 own1 n1 hr1=>Yq (v:=v1) G (Zf (Yq (v:=v1) G (Xk G hr1.rx (by decide) Te (Zr G (Yc (Yj G (fun h44=>?_) (fun h44=>?_))))))))))) <;> simp only[NM]at h44
  ·refine Ze (Yq G (Zg G (⟨?_,(UY (ZbM _ ZN))⟩)));rw[ZeX (p:=isR P c) (i:=i) (by omega) (Zcl (by omega))];rfl
  refine Yh (Yf (Zj G (Zs G G (Zj G (Yc (⟨l.length-(i+1),_,by omega,(ZbB (.refl _)),i+1,by omega,rfl,?_,rfl,rfl,rfl,rfl,rfl⟩))))));intro j hj;by_cases e:j=i
  ·subst e;exact Zci (by omega)
  exact hn j (by omega)
 refine Y0 (Xb (Ze (Yq G (Zg G ?_))));obtain rfl:i=l.length:=by omega
 refine⟨?_,(fun _ h=>(.tail _ h))⟩;rw[Zao (p:=isR P c) hn];rfl
def Zdp(P:Nat->Int)(c:Int):WR AM 32 [.agg 133 (ia P),.s (.int .i64 c)] [] (fun v _ _=>v=.s (.bool (WU P c))):=by
 refine YL (a:=a32) G G (YI _) (ZQ G) (m:=0) G (Ze (YC G (Yq G (Yc (Ye (Ze (Zj G (Zr G (Zk G (Ys (t:=7) G (fun h45=>?_) (fun h45=>?_))))))))))) <;> simp only[NM]at h45
 ·refine Yb G (Zj G (Yb G (Zr G (Zq G (Yc (Yj G (fun h46=>?_) (fun h46=>?_))))))) <;> simp only[NM]at h46
  ·refine Ze (Yq G (Zg G ?_));rw[<-ZdF];unfold ZdE;(rw[Zcz (by omega)];rfl)
  refine Yh (Ye (Yg (Yo G G ZM (Zj G (Yu G (YP (sT _)) G G G (Yo G G ZM (Zj G (YB G (.one G (.one G .nil)) (QC G (Zen P (ju c)) G G (fun v1 own1 n1 hr1=>XX (caps:=[]) G (Zed P (XT c) _ (Zcq (w8 _ _) (by decide))) G (hr1.rx) (fun _ h=>(ZbV _ h)) G G G (Zk G (Zg G ?_))))))))))));rw[<-ZdF];unfold ZdE;(rw[ZcA (by omega)];rfl)
 refine ZD G (Zq G (Yc (ZB G (Yh (Ye (Yg (Yo G G ZM (Zj G (Yu G (YP (sT _)) G G G (Yo G G ZM (Zj G (YB G (.one G (.one G .nil)) (QC G (Zen P (ju c)) G G (fun v2 own2 n2 hr2=>XX (caps:=[]) G (Zed P (XT c) _ (Zcq (w8 _ _) (by decide))) G (hr2.rx) (fun _ h=>(ZbV _ h)) G G G (Zk G (Zg G ?_))))))))))))))));rw[<-ZdF];unfold ZdE;(rw[ZcA (by omega)];rfl)
def zl(P:Nat->Int)(s:Int):WR AM 188 [.agg 133 (ia P),.s (.int .i64 s)] [] (fun v _ _=>v=.s (.bool (Y1 P s))):=by
 refine YL (a:=a188) G G (YI _) (ZQ G) (m:=0) G (Ze (YC G (Yq G (Zf (Zj G (Zr G (Zk G (Ys (t:=7) G (fun h1=>?_) (fun h1=>?_))))))))) <;> simp only[NM]at h1
 ·refine Yb G (Zj G (Yb G (Zr G (Zq G (Zk G (Ys (t:=11) G (fun h2=>?_) (fun h2=>?_))))))) <;> simp only[NM]at h2
  ·refine Yb G (Zj G (Yb G (Zy G (Yb G (Zw G G G (Yb G (Yp G G ZM (Yb G (YB G .nil (Yb G (Yw G G (Zq G (Zk G (Zg G (ZI ?_)))))))))))))));unfold Y1 isM;(rw[Zcl (by omega),Bool.true_and];rfl)
  refine ZE G (ZD G (Zq G (Zk G (Zg G (ZI ?_)))));unfold Y1 isM;(rw[Zci (by omega)];rfl)
 refine ZD G (Zq G (Zk G (ZE G (ZD G (Zq G (Zk G (Zg G (ZI ?_))))))));unfold Y1 isM;(rw[Zci (by omega)];rfl)
section
variable{P:Nat->Int}{s t c:Int}
def goP_1(h:t=s+8*(1-2*c)):goP P s t c=Y1 P t:=ZcA h
def Zd7(h1:¬ t=s+8*(1-2*c))(h2:t=s+16*(1-2*c)/\s/8=1+5*c):goP P s t c=(Y1 P (s+8*(1-2*c))&&Y1 P t):=by
 unfold goP;rw[Zcz h1,ZcA h2]
def Zdf(h1:¬ t=s+8*(1-2*c))(h2:¬ (t=s+16*(1-2*c)/\s/8=1+5*c)):goP P s t c=(Kv P s t&&((!Xf P t&&decide (R9 P t=XT c))||(Y1 P t&&decide (t=P 130)))):=by
 unfold goP;rw[Zcz h1,Zcz h2]
def Zdv(x:Int):eqI 2 (dp P (0+x.toNat*2)) (ovA (fun _=>0) 0 2 (ov (ov (fun _=>0) 0 4) 1 c))=V3 P c x:=by
 rw[QK];rfl
def Zea:eqI 2 P (ovA (fun _=>0) 0 2 (ov (ov (fun _=>0) 0 4) 1 c))=V3 P c 0:=by
 rw[QK];rfl
end
def ZeG(P:Nat->Int)(s t:Int)(hs:0<=s/\s<64)(ht:0<=t/\t<64)(hc:P (sqI s+1)=0):WR AM 169 [.agg 133 (ia P),.s (.int .i64 s),.s (.int .i64 t)] [] (fun v _ _=>v=.s (.bool (goP P s t 0))):=by
 refine YL (a:=a169) G G (YI _) (ZQ G) (m:=0) G (Ze (YC G (Yq G (Zf (Zj G (Zy G (Zw G G G (Yp G G ZM (Yy (Yz G G G G .here (Zf (Yq G (Yq G (Yc (Ye (Ze (Zz G (Ym (x:=0) G G ZM (hc) (Yr G G (Zev (by omega)) (Yc (ZB G (Yh (Ye (Ze (Zj G (Zj G (Zj G (Zs G G (Zr G ?_)))))))))))))))))))))))))))));refine Yc (Yj G (fun h3=>?_) (fun h3=>?_)) <;> simp only[NM]at h3
 ·refine Ze (Yo G G ZN (Zj G (Yt G (YP (zl P _)) G G G (Zk G (Zg G (ZI ?_))))));exact(goP_1 (by omega)).symm
 refine Yh (Ye (Ze (Zj G (Zj G (Zj G (Wn G G (by omega) (Zs G G (Zr G (Zk G (Ys (t:=32) G (fun h4=>?_) (fun h4=>?_))))))))))) <;> simp only[NM]at h4
 ·refine Yb G (Zj G (Yb G (Zu G G (Yb G (Zj G (Yb G (Zr G (Zq G (Yc (Yj G (fun h5=>?_) (fun h5=>?_))))))))))) <;> simp only[NM]at h5
  ·refine Ze (Yo G G ZN (Zj G (Zj G (Zs G G (Yt G (YP (zl P _)) G G G (Zk G (Ys (t:=43) G (fun h6=>?_) (fun h6=>?_))))))))
   ·refine Yb G (Yo G G ZN (Yb G (Zj G (Yb G (Yt G (YP (zl P _)) G G G (Zq G (Zk G (Zg G (ZI ?_)))))))));rw[Zd7 (by omega) (by omega),show s+8*(1-2*0)=s+8 by omega];rw[show Y1 P (s+8)=true by assumption];rfl
   refine Ya G G (ZD G (Zq G (Zk G (Zg G (ZI ?_)))));rw[Zd7 (by omega) (by omega),show s+8*(1-2*0)=s+8 by omega];rw[show Y1 P (s+8)=false by assumption];rfl
  refine Yh (Ye (Ze (Yo G G ZN (Zj G (Zj G (Yt G (YP (Zdq P s t hs ht)) G G G (Yv (r:=.bool _) G G (Yc (Yj G (fun h7=>?_) (fun h7=>?_)))))))))) <;> simp only[NM]at h7
  ·refine Ze (Yq G (Zg G (ZI ?_)));rw[Zdf (by omega) (by omega)];rw[show Kv P s t=false by assumption];rfl
  refine Yh (Ze (Zj G (Zy G (Zw G G G (Yp G G ZN (Yy (Yz G G G G .here (Yc (Ye (Yg (Yo G G ZM (YB G .nil (Yw G G (Zk G (Ys (t:=60) G (fun h8=>?_) (fun h8=>?_)))))))))))))))) <;> simp only[NM]at h8
  ·change Xf P t=false at h8;refine Yb G (Zz G (Yb G (Ym (x:=R9 P t) G G ZM (G) (Yb G (Zz G (Yb G (Ym (x:=0) G G ZN (hc) (Yb G (Yu G (show RF AM 33 [.s (.int .i64 0)] (.s (.int .i64 (XT 0))) from YP (sT 0)) G G G (Yb G (Zr G (Zq G (Zk G (Ys (t:=68) G (fun h9=>?_) (fun h9=>?_))))))))))))))) <;> simp only[NM]at h9
   ·refine ZE G (YJ G (YJ G (YJ G (YJ G (ZC G (Zq G (Zk G (Zg G (ZI ?_)))))))));rw[Zdf (by omega) (by omega)];rw[show Kv P s t=true by assumption];rw[show Xf P t=false by assumption];rw[Zcl (show R9 P t=XT 0 by assumption)];rfl
   refine Yb G (Yo G G ZO (Yb G (Zj G (Yb G (Yt G (YP (zl P _)) G G G (Yb G (Zk G (Ys (t:=72) G (fun h10=>?_) (fun h10=>?_)))))))))
   ·refine Yb G (Zj G (Yb G (Yd (o':=130) G G G (Yb G (Ym (x:=P 130) G G ZO (G) (Yb G (Zr G (Yb G (Zq G (Zq G (Zk G (Zg G (ZI ?_)))))))))))));rw[Zdf (by omega) (by omega)];rw[show Kv P s t=true by assumption];rw[show Xf P t=false by assumption];rw[show Y1 P t=true by assumption];rw[Zci (show ¬ R9 P t=XT 0 by assumption)];rfl
   refine Ya G G (ZD G (ZC G (Yb G (Zq G (Zq G (Zk G (Zg G (ZI ?_))))))));rw[Zdf (by omega) (by omega)];rw[show Kv P s t=true by assumption];rw[show Xf P t=false by assumption];rw[show Y1 P t=false by assumption];rw[Zci (show ¬ R9 P t=XT 0 by assumption)];rfl
  change Xf P t=true at h8;refine ZE G (ZD G (Zq G (Zk G (Yb G (Yo G G ZO (Yb G (Zj G (Yb G (Yt G (YP (zl P _)) G G G (Yb G (Zk G (Ys (t:=72) G (fun h11=>?_) (fun h11=>?_)))))))))))))
  ·refine Yb G (Zj G (Yb G (Yd (o':=130) G G G (Yb G (Ym (x:=P 130) G G ZO (G) (Yb G (Zr G (Yb G (Zq G (Zq G (Zk G (Zg G (ZI ?_)))))))))))));rw[Zdf (by omega) (by omega)];rw[show Kv P s t=true by assumption];rw[show Xf P t=true by assumption];rw[show Y1 P t=true by assumption];rfl
  refine Ya G G (ZD G (ZC G (Yb G (Zq G (Zq G (Zk G (Zg G (ZI ?_))))))));rw[Zdf (by omega) (by omega)];rw[show Kv P s t=true by assumption];rw[show Xf P t=true by assumption];rw[show Y1 P t=false by assumption];rfl
 refine ZE G (Zq G (Yc (ZB G (Yh (Ye (Ze (Yo G G ZN (Zj G (Zj G (Yt G (YP (Zdq P s t hs ht)) G G G (Yv (r:=.bool _) G G (Yc (Yj G (fun h12=>?_) (fun h12=>?_)))))))))))))) <;> simp only[NM]at h12
 ·refine Ze (Yq G (Zg G (ZI ?_)));rw[Zdf (by omega) (by omega)];rw[show Kv P s t=false by assumption];rfl
 refine Yh (Ze (Zj G (Zy G (Zw G G G (Yp G G ZN (Yy (Yz G G G G .here (Yc (Ye (Yg (Yo G G ZM (YB G .nil (Yw G G (Zk G (Ys (t:=60) G (fun h13=>?_) (fun h13=>?_)))))))))))))))) <;> simp only[NM]at h13
 ·change Xf P t=false at h13;refine Yb G (Zz G (Yb G (Ym (x:=R9 P t) G G ZM (G) (Yb G (Zz G (Yb G (Ym (x:=0) G G ZN (hc) (Yb G (Yu G (show RF AM 33 [.s (.int .i64 0)] (.s (.int .i64 (XT 0))) from YP (sT 0)) G G G (Yb G (Zr G (Zq G (Zk G (Ys (t:=68) G (fun h14=>?_) (fun h14=>?_))))))))))))))) <;> simp only[NM]at h14
  ·refine ZE G (YJ G (YJ G (YJ G (YJ G (ZC G (Zq G (Zk G (Zg G (ZI ?_)))))))));rw[Zdf (by omega) (by omega)];rw[show Kv P s t=true by assumption];rw[show Xf P t=false by assumption];rw[Zcl (show R9 P t=XT 0 by assumption)];rfl
  refine Yb G (Yo G G ZO (Yb G (Zj G (Yb G (Yt G (YP (zl P _)) G G G (Yb G (Zk G (Ys (t:=72) G (fun h15=>?_) (fun h15=>?_)))))))))
  ·refine Yb G (Zj G (Yb G (Yd (o':=130) G G G (Yb G (Ym (x:=P 130) G G ZO (G) (Yb G (Zr G (Yb G (Zq G (Zq G (Zk G (Zg G (ZI ?_)))))))))))));rw[Zdf (by omega) (by omega)];rw[show Kv P s t=true by assumption];rw[show Xf P t=false by assumption];rw[show Y1 P t=true by assumption];rw[Zci (show ¬ R9 P t=XT 0 by assumption)];rfl
  refine Ya G G (ZD G (ZC G (Yb G (Zq G (Zq G (Zk G (Zg G (ZI ?_))))))));rw[Zdf (by omega) (by omega)];rw[show Kv P s t=true by assumption];rw[show Xf P t=false by assumption];rw[show Y1 P t=false by assumption];rw[Zci (show ¬ R9 P t=XT 0 by assumption)];rfl
 change Xf P t=true at h13;refine ZE G (ZD G (Zq G (Zk G (Yb G (Yo G G ZO (Yb G (Zj G (Yb G (Yt G (YP (zl P _)) G G G (Yb G (Zk G (Ys (t:=72) G (fun h16=>?_) (fun h16=>?_)))))))))))))
 ·refine Yb G (Zj G (Yb G (Yd (o':=130) G G G (Yb G (Ym (x:=P 130) G G ZO (G) (Yb G (Zr G (Yb G (Zq G (Zq G (Zk G (Zg G (ZI ?_)))))))))))));rw[Zdf (by omega) (by omega)];rw[show Kv P s t=true by assumption];rw[show Xf P t=true by assumption];rw[show Y1 P t=true by assumption];rfl
 refine Ya G G (ZD G (ZC G (Yb G (Zq G (Zq G (Zk G (Zg G (ZI ?_))))))));rw[Zdf (by omega) (by omega)];rw[show Kv P s t=true by assumption];rw[show Xf P t=true by assumption];rw[show Y1 P t=false by assumption];rfl
def Zej(P:Nat->Int)(s t:Int)(hs:0<=s/\s<64)(ht:0<=t/\t<64)(hc:P (sqI s+1)=0):WR AM 170 [.agg 133 (ia P),.s (.int .i64 s),.s (.int .i64 t)] [] (fun v _ _=>v=.s (.bool (goC P s t 0))):=by
 refine YL (a:=a170) G G (YI _) (ZQ G) (m:=0) G (Ze (YC G (Yq G (Zf (Zj G (Zy G (Zw G G G (Yd G G G (Ym (x:=0) G G ZM (hc) (Zj G (Zf (Yq G (Yq G (Yq G (Yc (Ye (Ze (Zj G (Yr G G (Zev (by omega)) (Yc (ZB G (Yh (Ye (Ze (Zj G (Zj G (Zr G (Zk G (Ys (t:=22) G (fun h17=>?_) (fun h17=>?_)))))))))))))))))))))))))))))) <;> simp only[NM]at h17
 ·refine ZD G (ZC G (Zq G (Zk G (ZD G (ZC G (Zq G (Yc (ZA G (Ze (Yq G (Zg G (ZI ?_))))))))))));unfold goC;rw[ZcA (by omega)]
 refine Yb G (Yd (o':=129) G G G (Yb G (Ym (x:=P 129) G G ZM (G) (Yb G (Zr G (Zq G (Zk G (Ys (t:=27) G (fun h18=>?_) (fun h18=>?_))))))))) <;> simp only[NM]at h18
 ·refine ZD G (ZC G (Zq G (Yc (ZA G (Ze (Yq G (Zg G (ZI ?_))))))));unfold goC;rw[ZcA (by omega)]
 refine Yb G (Yd (o':=129) G G G (Yb G (Ym (x:=P 129) G G ZM (G) (Yb G (Zr G (Zq G (Yc (Yj G (fun h19=>?_) (fun h19=>?_))))))))) <;> simp only[NM]at h19
 ·refine Ze (Yq G (Zg G (ZI ?_)));unfold goC;rw[ZcA (by omega)]
 refine Yh (Ze ?_);obtain rfl:s=4:=by omega
 refine Zj G (YB G (.one G (.one G .nil)) (Yy (Yz G G G G .here (Yc (Ye (Ze (Zj G (Zj G (Zs G G (Zr G (Yc (Yj G (fun h20=>?_) (fun h20=>?_))))))))))))) <;> simp only[NM]at h20
 ·refine Ye (Yg (Yd (o':=129) G G G (Ym (x:=P 129) G G ZN (G) (Zj G (Zu G G (Zv G G (Zr G (Zk G (Ys (t:=44) G (fun h21=>?_) (fun h21=>?_)))))))))) <;> simp only[NM]at h21
  ·refine Yb G (Zj G (Yb G (Zs G G (Yb G (Zy G (Yb G (Zw G G G (Yb G (Yp G G ZN (Yb G (Yo G G ZM (Yb G (Yw G G (Zq G (Zk G (Ys (t:=53) G (fun h22=>?_) (fun h22=>?_))))))))))))))))) <;> simp only[NM]at h22
   ·rw[Zdv]at h22;refine Yb G (Yo G G ZN (Yb G (Zj G (Yb G (Zs G G (Yb G (Yt G (YP (zl P _)) G G G (Zq G (Zk G (Ys (t:=59) G (fun h23=>?_) (fun h23=>?_)))))))))))
    ·refine Yb G (Yo G G ZN (Yb G (Zj G (Yb G (Zs G G (Yb G (Yt G (YP (zl P _)) G G G (Zq G (Zk G (Zg G (ZI ?_)))))))))));unfold goC;rw[Zcz (by omega)];rw[ZcA (by assumption)];simp_all [Y4]
    refine Ya G G (ZD G (ZC G (Zq G (Zk G (Zg G (ZI ?_))))));unfold goC;rw[Zcz (by omega)];rw[ZcA (by assumption)];simp_all [Y4]
   rw[Zdv]at h22;refine ZE G (Zq G (Zk G (ZE G (Zq G (Zk G (Zg G (ZI ?_)))))));unfold goC;rw[Zcz (by omega)];rw[ZcA (by assumption)];simp_all [Y4]
  refine ZE G (ZD G (ZC G (Zq G (Zk G (ZE G (Zq G (Zk G (ZE G (Zq G (Zk G (Zg G (ZI ?_))))))))))));unfold goC;rw[Zcz (by omega)];rw[ZcA (by assumption)];simp_all [Y4]
 refine Yh (Ye (Yg (Zj G (Zj G (Zt G G (Zr G (Zk G (Ys (t:=69) G (fun h24=>?_) (fun h24=>?_))))))))) <;> simp only[NM]at h24
 ·refine Yb G (Yd (o':=129) G G G (Yb G (Ym (x:=P 129) G G ZN (G) (Yb G (Zj G (Yb G (Zu G G (Yb G (Zv G G (Yb G (Zr G (Zq G (Zk G (Ys (t:=77) G (fun h25=>?_) (fun h25=>?_))))))))))))))) <;> simp only[NM]at h25
  ·refine Yb G (Zj G (Yb G (Zt G G (Yb G (Zy G (Yb G (Zw G G G (Yb G (Yo G G ZN (Yb G (Yo G G ZM (Yb G (Yw G G (Zq G (Zk G (Ys (t:=86) G (fun h26=>?_) (fun h26=>?_))))))))))))))))) <;> simp only[NM]at h26
   ·rw[Zea]at h26;refine Yb G (Yo G G ZN (Yb G (Zj G (Yb G (Zt G G (Yb G (Yt G (YP (zl P _)) G G G (Zq G (Zk G (Ys (t:=92) G (fun h27=>?_) (fun h27=>?_)))))))))))
    ·refine Yb G (Yo G G ZN (Yb G (Zj G (Yb G (Zt G G (Yb G (Yt G (YP (zl P _)) G G G (Zq G (Zk G (Ys (t:=98) G (fun h28=>?_) (fun h28=>?_)))))))))))
     ·refine Yb G (Yo G G ZN (Yb G (Zj G (Yb G (Zt G G (Yb G (Yt G (YP (zl P _)) G G G (Zq G (Zk G (Zg G (ZI ?_)))))))))));unfold goC;rw[Zcz (by omega)];rw[Zcz (by assumption)];simp_all [Y4]
     refine Ya G G (ZD G (ZC G (Zq G (Zk G (Zg G (ZI ?_))))));unfold goC;rw[Zcz (by omega)];rw[Zcz (by assumption)];simp_all [Y4]
    refine Ya G G (ZD G (ZC G (Zq G (Zk G (ZE G (Zq G (Zk G (Zg G (ZI ?_)))))))));unfold goC;rw[Zcz (by omega)];rw[Zcz (by assumption)];simp_all [Y4]
   rw[Zea]at h26;refine ZE G (Zq G (Zk G (ZE G (Zq G (Zk G (ZE G (Zq G (Zk G (Zg G (ZI ?_))))))))));unfold goC;rw[Zcz (by omega)];rw[Zcz (by assumption)];simp_all [Y4]
  refine ZE G (ZD G (ZC G (Zq G (Zk G (ZE G (Zq G (Zk G (ZE G (Zq G (Zk G (ZE G (Zq G (Zk G (Zg G (ZI ?_)))))))))))))));unfold goC;rw[Zcz (by omega)];rw[Zcz (by assumption)];simp_all [Y4]
 refine ZE G (ZD G (Zq G (Zk G (ZE G (ZD G (ZC G (Zq G (Zk G (ZE G (Zq G (Zk G (ZE G (Zq G (Zk G (ZE G (Zq G (Zk G (Zg G (ZI ?_)))))))))))))))))));unfold goC;rw[Zcz (by omega)];rw[Zcz (by assumption)];simp_all [Y4]
def ZeC(P:Nat->Int)(s t:Int)(hs:0<=s/\s<64)(ht:0<=t/\t<64)(hc:P (sqI s+1)=1):WR AM 169 [.agg 133 (ia P),.s (.int .i64 s),.s (.int .i64 t)] [] (fun v _ _=>v=.s (.bool (goP P s t 1))):=by
 refine YL (a:=a169) G G (YI _) (ZQ G) (m:=0) G (Ze (YC G (Yq G (Zf (Zj G (Zy G (Zw G G G (Yp G G ZM (Yy (Yz G G G G .here (Zf (Yq G (Yq G (Yc (Ye (Ze (Zz G (Ym (x:=1) G G ZM (hc) (Yr G G (RC (by omega)) (Yc (ZA G (Yf (Yq G (Yq G (Yc (Ye (Ze (Zj G (Zj G ?_)))))))))))))))))))))))))))));refine Zj G (Zs G G (Zr G (Yc (Yj G (fun h29=>?_) (fun h29=>?_))))) <;> simp only[NM]at h29
 ·refine Ze (Yo G G ZN (Zj G (Yt G (YP (zl P _)) G G G (Zk G (Zg G (ZI ?_))))));exact(goP_1 (by omega)).symm
 refine Yh (Ye (Ze (Zj G (Zj G (Zj G (Wn G G (by omega) (Zs G G (Zr G (Zk G (Ys (t:=32) G (fun h30=>?_) (fun h30=>?_))))))))))) <;> simp only[NM]at h30
 ·refine Yb G (Zj G (Yb G (Zu G G (Yb G (Zj G (Yb G (Zr G (Zq G (Yc (Yj G (fun h31=>?_) (fun h31=>?_))))))))))) <;> simp only[NM]at h31
  ·refine Ze (Yo G G ZN (Zj G (Zj G (Zs G G (Yt G (YP (zl P _)) G G G (Zk G (Ys (t:=43) G (fun h32=>?_) (fun h32=>?_))))))))
   ·refine Yb G (Yo G G ZN (Yb G (Zj G (Yb G (Yt G (YP (zl P _)) G G G (Zq G (Zk G (Zg G (ZI ?_)))))))));rw[Zd7 (by omega) (by omega),show s+8*(1-2*1)=s+-8 by omega];rw[show Y1 P (s+-8)=true by assumption];rfl
   refine Ya G G (ZD G (Zq G (Zk G (Zg G (ZI ?_)))));rw[Zd7 (by omega) (by omega),show s+8*(1-2*1)=s+-8 by omega];rw[show Y1 P (s+-8)=false by assumption];rfl
  refine Yh (Ye (Ze (Yo G G ZN (Zj G (Zj G (Yt G (YP (Zdq P s t hs ht)) G G G (Yv (r:=.bool _) G G (Yc (Yj G (fun h33=>?_) (fun h33=>?_)))))))))) <;> simp only[NM]at h33
  ·refine Ze (Yq G (Zg G (ZI ?_)));rw[Zdf (by omega) (by omega)];rw[show Kv P s t=false by assumption];rfl
  refine Yh (Ze (Zj G (Zy G (Zw G G G (Yp G G ZN (Yy (Yz G G G G .here (Yc (Ye (Yg (Yo G G ZM (YB G .nil (Yw G G (Zk G (Ys (t:=60) G (fun h34=>?_) (fun h34=>?_)))))))))))))))) <;> simp only[NM]at h34
  ·change Xf P t=false at h34;refine Yb G (Zz G (Yb G (Ym (x:=R9 P t) G G ZM (G) (Yb G (Zz G (Yb G (Ym (x:=1) G G ZN (hc) (Yb G (Yu G (show RF AM 33 [.s (.int .i64 1)] (.s (.int .i64 (XT 1))) from YP (sT 1)) G G G (Yb G (Zr G (Zq G (Zk G (Ys (t:=68) G (fun h35=>?_) (fun h35=>?_))))))))))))))) <;> simp only[NM]at h35
   ·refine ZE G (YJ G (YJ G (YJ G (YJ G (ZC G (Zq G (Zk G (Zg G (ZI ?_)))))))));rw[Zdf (by omega) (by omega)];rw[show Kv P s t=true by assumption];rw[show Xf P t=false by assumption];rw[Zcl (show R9 P t=XT 1 by assumption)];rfl
   refine Yb G (Yo G G ZO (Yb G (Zj G (Yb G (Yt G (YP (zl P _)) G G G (Yb G (Zk G (Ys (t:=72) G (fun h36=>?_) (fun h36=>?_)))))))))
   ·refine Yb G (Zj G (Yb G (Yd (o':=130) G G G (Yb G (Ym (x:=P 130) G G ZO (G) (Yb G (Zr G (Yb G (Zq G (Zq G (Zk G (Zg G (ZI ?_)))))))))))));rw[Zdf (by omega) (by omega)];rw[show Kv P s t=true by assumption];rw[show Xf P t=false by assumption];rw[show Y1 P t=true by assumption];rw[Zci (show ¬ R9 P t=XT 1 by assumption)];rfl
   refine Ya G G (ZD G (ZC G (Yb G (Zq G (Zq G (Zk G (Zg G (ZI ?_))))))));rw[Zdf (by omega) (by omega)];rw[show Kv P s t=true by assumption];rw[show Xf P t=false by assumption];rw[show Y1 P t=false by assumption];rw[Zci (show ¬ R9 P t=XT 1 by assumption)];rfl
  change Xf P t=true at h34;refine ZE G (ZD G (Zq G (Zk G (Yb G (Yo G G ZO (Yb G (Zj G (Yb G (Yt G (YP (zl P _)) G G G (Yb G (Zk G (Ys (t:=72) G (fun h37=>?_) (fun h37=>?_)))))))))))))
  ·refine Yb G (Zj G (Yb G (Yd (o':=130) G G G (Yb G (Ym (x:=P 130) G G ZO (G) (Yb G (Zr G (Yb G (Zq G (Zq G (Zk G (Zg G (ZI ?_)))))))))))));rw[Zdf (by omega) (by omega)];rw[show Kv P s t=true by assumption];rw[show Xf P t=true by assumption];rw[show Y1 P t=true by assumption];rfl
  refine Ya G G (ZD G (ZC G (Yb G (Zq G (Zq G (Zk G (Zg G (ZI ?_))))))));rw[Zdf (by omega) (by omega)];rw[show Kv P s t=true by assumption];rw[show Xf P t=true by assumption];rw[show Y1 P t=false by assumption];rfl
 refine ZE G (Zq G (Yc (ZB G (Yh (Ye (Ze (Yo G G ZN (Zj G (Zj G (Yt G (YP (Zdq P s t hs ht)) G G G (Yv (r:=.bool _) G G (Yc (Yj G (fun h38=>?_) (fun h38=>?_)))))))))))))) <;> simp only[NM]at h38
 ·refine Ze (Yq G (Zg G (ZI ?_)));rw[Zdf (by omega) (by omega)];rw[show Kv P s t=false by assumption];rfl
 refine Yh (Ze (Zj G (Zy G (Zw G G G (Yp G G ZN (Yy (Yz G G G G .here (Yc (Ye (Yg (Yo G G ZM (YB G .nil (Yw G G (Zk G (Ys (t:=60) G (fun h39=>?_) (fun h39=>?_)))))))))))))))) <;> simp only[NM]at h39
 ·change Xf P t=false at h39;refine Yb G (Zz G (Yb G (Ym (x:=R9 P t) G G ZM (G) (Yb G (Zz G (Yb G (Ym (x:=1) G G ZN (hc) (Yb G (Yu G (show RF AM 33 [.s (.int .i64 1)] (.s (.int .i64 (XT 1))) from YP (sT 1)) G G G (Yb G (Zr G (Zq G (Zk G (Ys (t:=68) G (fun h40=>?_) (fun h40=>?_))))))))))))))) <;> simp only[NM]at h40
  ·refine ZE G (YJ G (YJ G (YJ G (YJ G (ZC G (Zq G (Zk G (Zg G (ZI ?_)))))))));rw[Zdf (by omega) (by omega)];rw[show Kv P s t=true by assumption];rw[show Xf P t=false by assumption];rw[Zcl (show R9 P t=XT 1 by assumption)];rfl
  refine Yb G (Yo G G ZO (Yb G (Zj G (Yb G (Yt G (YP (zl P _)) G G G (Yb G (Zk G (Ys (t:=72) G (fun h41=>?_) (fun h41=>?_)))))))))
  ·refine Yb G (Zj G (Yb G (Yd (o':=130) G G G (Yb G (Ym (x:=P 130) G G ZO (G) (Yb G (Zr G (Yb G (Zq G (Zq G (Zk G (Zg G (ZI ?_)))))))))))));rw[Zdf (by omega) (by omega)];rw[show Kv P s t=true by assumption];rw[show Xf P t=false by assumption];rw[show Y1 P t=true by assumption];rw[Zci (show ¬ R9 P t=XT 1 by assumption)];rfl
  refine Ya G G (ZD G (ZC G (Yb G (Zq G (Zq G (Zk G (Zg G (ZI ?_))))))));rw[Zdf (by omega) (by omega)];rw[show Kv P s t=true by assumption];rw[show Xf P t=false by assumption];rw[show Y1 P t=false by assumption];rw[Zci (show ¬ R9 P t=XT 1 by assumption)];rfl
 change Xf P t=true at h39;refine ZE G (ZD G (Zq G (Zk G (Yb G (Yo G G ZO (Yb G (Zj G (Yb G (Yt G (YP (zl P _)) G G G (Yb G (Zk G (Ys (t:=72) G (fun h42=>?_) (fun h42=>?_)))))))))))))
 ·refine Yb G (Zj G (Yb G (Yd (o':=130) G G G (Yb G (Ym (x:=P 130) G G ZO (G) (Yb G (Zr G (Yb G (Zq G (Zq G (Zk G (Zg G (ZI ?_)))))))))))));rw[Zdf (by omega) (by omega)];rw[show Kv P s t=true by assumption];rw[show Xf P t=true by assumption];rw[show Y1 P t=true by assumption];rfl
 refine Ya G G (ZD G (ZC G (Yb G (Zq G (Zq G (Zk G (Zg G (ZI ?_))))))));rw[Zdf (by omega) (by omega)];rw[show Kv P s t=true by assumption];rw[show Xf P t=true by assumption];rw[show Y1 P t=false by assumption];rfl
def Zeh(P:Nat->Int)(s t:Int)(hs:0<=s/\s<64)(ht:0<=t/\t<64)(hc:P (sqI s+1)=1):WR AM 170 [.agg 133 (ia P),.s (.int .i64 s),.s (.int .i64 t)] [] (fun v _ _=>v=.s (.bool (goC P s t 1))):=by
 refine YL (a:=a170) G G (YI _) (ZQ G) (m:=0) G (Ze (YC G (Yq G (Zf (Zj G (Zy G (Zw G G G (Yd G G G (Ym (x:=1) G G ZM (hc) (Zj G (Zf (Yq G (Yq G (Yq G (Yc (Ye (Ze (Zj G (Yr G G (RC (by omega)) (Yc (ZA G (Yf (Yq G (Yq G (Yq G (Yc (Ye (Ze (Zj G ?_)))))))))))))))))))))))))))));refine Zj G (Zr G (Zk G (Ys (t:=22) G (fun h43=>?_) (fun h43=>?_)))) <;> simp only[NM]at h43
 ·refine ZD G (ZC G (Zq G (Zk G (ZD G (ZC G (Zq G (Yc (ZA G (Ze (Yq G (Zg G (ZI ?_))))))))))));unfold goC;rw[ZcA (by omega)]
 refine Yb G (Yd (o':=129) G G G (Yb G (Ym (x:=P 129) G G ZM (G) (Yb G (Zr G (Zq G (Zk G (Ys (t:=27) G (fun h44=>?_) (fun h44=>?_))))))))) <;> simp only[NM]at h44
 ·refine ZD G (ZC G (Zq G (Yc (ZA G (Ze (Yq G (Zg G (ZI ?_))))))));unfold goC;rw[ZcA (by omega)]
 refine Yb G (Yd (o':=129) G G G (Yb G (Ym (x:=P 129) G G ZM (G) (Yb G (Zr G (Zq G (Yc (Yj G (fun h45=>?_) (fun h45=>?_))))))))) <;> simp only[NM]at h45
 ·refine Ze (Yq G (Zg G (ZI ?_)));unfold goC;rw[ZcA (by omega)]
 refine Yh (Ze ?_);obtain rfl:s=60:=by omega
 refine Zj G (YB G (.one G (.one G .nil)) (Yy (Yz G G G G .here (Yc (Ye (Ze (Zj G (Zj G (Zs G G (Zr G (Yc (Yj G (fun h46=>?_) (fun h46=>?_))))))))))))) <;> simp only[NM]at h46
 ·refine Ye (Yg (Yd (o':=129) G G G (Ym (x:=P 129) G G ZN (G) (Zj G (Zu G G (Zv G G (Zr G (Zk G (Ys (t:=44) G (fun h47=>?_) (fun h47=>?_)))))))))) <;> simp only[NM]at h47
  ·refine Yb G (Zj G (Yb G (Zs G G (Yb G (Zy G (Yb G (Zw G G G (Yb G (Yp G G ZN (Yb G (Yo G G ZM (Yb G (Yw G G (Zq G (Zk G (Ys (t:=53) G (fun h48=>?_) (fun h48=>?_))))))))))))))))) <;> simp only[NM]at h48
   ·rw[Zdv]at h48;refine Yb G (Yo G G ZN (Yb G (Zj G (Yb G (Zs G G (Yb G (Yt G (YP (zl P _)) G G G (Zq G (Zk G (Ys (t:=59) G (fun h49=>?_) (fun h49=>?_)))))))))))
    ·refine Yb G (Yo G G ZN (Yb G (Zj G (Yb G (Zs G G (Yb G (Yt G (YP (zl P _)) G G G (Zq G (Zk G (Zg G (ZI ?_)))))))))));unfold goC;rw[Zcz (by omega)];rw[ZcA (by assumption)];simp_all [Y4]
    refine Ya G G (ZD G (ZC G (Zq G (Zk G (Zg G (ZI ?_))))));unfold goC;rw[Zcz (by omega)];rw[ZcA (by assumption)];simp_all [Y4]
   rw[Zdv]at h48;refine ZE G (Zq G (Zk G (ZE G (Zq G (Zk G (Zg G (ZI ?_)))))));unfold goC;rw[Zcz (by omega)];rw[ZcA (by assumption)];simp_all [Y4]
  refine ZE G (ZD G (ZC G (Zq G (Zk G (ZE G (Zq G (Zk G (ZE G (Zq G (Zk G (Zg G (ZI ?_))))))))))));unfold goC;rw[Zcz (by omega)];rw[ZcA (by assumption)];simp_all [Y4]
 refine Yh (Ye (Yg (Zj G (Zj G (Zt G G (Zr G (Zk G (Ys (t:=69) G (fun h50=>?_) (fun h50=>?_))))))))) <;> simp only[NM]at h50
 ·refine Yb G (Yd (o':=129) G G G (Yb G (Ym (x:=P 129) G G ZN (G) (Yb G (Zj G (Yb G (Zu G G (Yb G (Zv G G (Yb G (Zr G (Zq G (Zk G (Ys (t:=77) G (fun h51=>?_) (fun h51=>?_))))))))))))))) <;> simp only[NM]at h51
  ·refine Yb G (Zj G (Yb G (Zt G G (Yb G (Zy G (Yb G (Zw G G G (Yb G (Yp G G ZN (Yb G (Yo G G ZM (Yb G (Yw G G (Zq G (Zk G (Ys (t:=86) G (fun h52=>?_) (fun h52=>?_))))))))))))))))) <;> simp only[NM]at h52
   ·rw[Zdv]at h52;refine Yb G (Yo G G ZN (Yb G (Zj G (Yb G (Zt G G (Yb G (Yt G (YP (zl P _)) G G G (Zq G (Zk G (Ys (t:=92) G (fun h53=>?_) (fun h53=>?_)))))))))))
    ·refine Yb G (Yo G G ZN (Yb G (Zj G (Yb G (Zt G G (Yb G (Yt G (YP (zl P _)) G G G (Zq G (Zk G (Ys (t:=98) G (fun h54=>?_) (fun h54=>?_)))))))))))
     ·refine Yb G (Yo G G ZN (Yb G (Zj G (Yb G (Zt G G (Yb G (Yt G (YP (zl P _)) G G G (Zq G (Zk G (Zg G (ZI ?_)))))))))));unfold goC;rw[Zcz (by omega)];rw[Zcz (by assumption)];simp_all [Y4]
     refine Ya G G (ZD G (ZC G (Zq G (Zk G (Zg G (ZI ?_))))));unfold goC;rw[Zcz (by omega)];rw[Zcz (by assumption)];simp_all [Y4]
    refine Ya G G (ZD G (ZC G (Zq G (Zk G (ZE G (Zq G (Zk G (Zg G (ZI ?_)))))))));unfold goC;rw[Zcz (by omega)];rw[Zcz (by assumption)];simp_all [Y4]
   rw[Zdv]at h52;refine ZE G (Zq G (Zk G (ZE G (Zq G (Zk G (ZE G (Zq G (Zk G (Zg G (ZI ?_))))))))));unfold goC;rw[Zcz (by omega)];rw[Zcz (by assumption)];simp_all [Y4]
  refine ZE G (ZD G (ZC G (Zq G (Zk G (ZE G (Zq G (Zk G (ZE G (Zq G (Zk G (ZE G (Zq G (Zk G (Zg G (ZI ?_)))))))))))))));unfold goC;rw[Zcz (by omega)];rw[Zcz (by assumption)];simp_all [Y4]
 refine ZE G (ZD G (Zq G (Zk G (ZE G (ZD G (ZC G (Zq G (Zk G (ZE G (Zq G (Zk G (ZE G (Zq G (Zk G (ZE G (Zq G (Zk G (Zg G (ZI ?_)))))))))))))))))));unfold goC;rw[Zcz (by omega)];rw[Zcz (by assumption)];simp_all [Y4]
def pawn_is(P:Nat->Int)(s t:Int)(hs:0<=s/\s<64)(ht:0<=t/\t<64)(hc:P (sqI s+1)=0\/P (sqI s+1)=1):RF AM 169 [.agg 133 (ia P),.s (.int .i64 s),.s (.int .i64 t)] (.s (.bool (goP P s t (P (sqI s+1))))):=by
 rcases hc with hc|hc
 ·rw[hc];exact YP (ZeG P s t hs ht hc)
 rw[hc];exact YP (ZeC P s t hs ht hc)
def Zd6(P:Nat->Int)(s t:Int)(hs:0<=s/\s<64)(ht:0<=t/\t<64)(hc:P (sqI s+1)=0\/P (sqI s+1)=1):RF AM 170 [.agg 133 (ia P),.s (.int .i64 s),.s (.int .i64 t)] (.s (.bool (goC P s t (P (sqI s+1))))):=by
 rcases hc with hc|hc
 ·rw[hc];exact YP (Zej P s t hs ht hc)
 rw[hc];exact YP (Zeh P s t hs ht hc)
def ZdX{P:Nat->Int}{s t:Int}(h:Xm (P (sqI s)) (P (sqI s+1))=false\/P (sqI s+1)≠P 128\/s=t):R6 P s t=false:=by
 unfold R6 Ww;rcases h with h|h|h
 ·rw[h];rfl
 ·rw[Zci h];simp
 rw[Zci (show ¬ s≠t from fun q=>q h)];simp
def Zdr{P:Nat->Int}{s t:Int}(h1:Xm (P (sqI s)) (P (sqI s+1))=true)(h2:P (sqI s+1)=P 128)(h3:¬ s=t):R6 P s t=goK P s t (P (sqI s)) (P (sqI s+1)):=by
 unfold R6 Ww;rw[h1,Zcl h2,Zcl h3];rfl
def ZdN{k c:Int}(h:Xm k c=true):c=0\/c=1:=(of_decide_eq_true h).2.2
def ZeS(P:Nat->Int)(s t:Int)(hs:0<=s/\s<64)(ht:0<=t/\t<64):WR AM 143 [.agg 133 (ia P),.s (.int .i64 s),.s (.int .i64 t)] [] (fun v _ _=>v=.s (.bool (R6 P s t))):=by
 refine YL (a:=a143) G G (YI _) (ZQ G) (m:=0) G (Ze (YC G (Yq G (Zf (Zj G (Zy G (Zw G G G (Yp G G ZM (Yy (Yz G G G G .here (Yc (Ye (Ze (Yo G G ZM (Yt G (show RF AM 95 _ (.s (.bool (Xm (P (sqI s)) (P (sqI s+1))))) from YP (ZaP _)) G G G (Yv (r:=.bool _) G G (Zk G (Ys (t:=16) G (fun h1=>?_) (fun h1=>?_))))))))))))))))))) <;> simp only[NM]at h1
 ·refine ZE G (ZC G (Zq G (Zk G (ZD G (ZC G (Zq G (Yc (ZA G (Ze (Yq G (Zg G (ZI ?_))))))))))));exact(ZdX (by first|exact .inl (by assumption)|exact .inr (.inl (by assumption))|exact .inr (.inr (by assumption)))).symm
 refine Yb G (Zz G (Yb G (Ym (x:=P (sqI s+1)) G G ZM (G) (Yb G (Yd (o':=128) G G G (Yb G (Ym (x:=P 128) G G ZN (G) (Yb G (Zr G (Zq G (Zk G (Ys (t:=23) G (fun h2=>?_) (fun h2=>?_))))))))))))) <;> simp only[NM]at h2
 ·refine ZD G (ZC G (Zq G (Yc (ZA G (Ze (Yq G (Zg G (ZI ?_))))))));exact(ZdX (by first|exact .inl (by assumption)|exact .inr (.inl (by assumption))|exact .inr (.inr (by assumption)))).symm
 refine Yb G (Zj G (Yb G (Zj G (Yb G (Zr G (Zq G (Yc (Yj G (fun h3=>?_) (fun h3=>?_))))))))) <;> simp only[NM]at h3
 ·refine Ze (Yq G (Zg G (ZI ?_)));exact(ZdX (by first|exact .inl (by assumption)|exact .inr (.inl (by assumption))|exact .inr (.inr (by assumption)))).symm
 refine Yh (Ye (Ze (Zy G (Ym (x:=P (sqI s)) G G ZM (G) (Zr G (Yc (Yj G (fun h4=>?_) (fun h4=>?_)))))))) <;> simp only[NM]at h4
 ·refine Ze (Yo G G ZN (Zj G (Zj G (Yt G (pawn_is P s t hs ht (ZdN (k:=P (sqI s)) (by assumption))) G G G (Zk G (Zg G (ZI ?_)))))));rw[Zdr (by assumption) (by assumption) (by assumption)];unfold goK;rw[ZcA (by assumption)]
 refine Yh (Ze (Zj G (Zy G (Zw G G G (Yp G G ZN (Yy (Yz G G G G .here (Yc (Ye (Ze (Yo G G ZO (Zj G (Zj G (Yt G (YP (Zdq P s t hs ht)) G G G (Zk G (Ys (t:=43) G (fun h5=>?_) (fun h5=>?_)))))))))))))))))
 ·refine Yb G (Yo G G ZM (Yb G (YB G .nil (Yb G (Yw G G (Yb G (Zk G (Ys (t:=47) G (fun h6=>?_) (fun h6=>?_))))))))) <;> simp only[NM]at h6
  ·change Xf P t=true at h6;refine ZE G (ZC G (Yb G (Zq G (Zq G (Yc (ZA G (Ze (Yq G (Zg G (ZI ?_))))))))));rw[Zdr (by assumption) (by assumption) (by assumption)];unfold goK;rw[Zcz (by assumption)];unfold U5;rw[show Kv P s t=true by assumption];rw[show Xf P t=true by assumption];rfl
  change Xf P t=false at h6;refine Yb G (Zz G (Yb G (Ym (x:=R9 P t) G G ZM (G) (Yb G (Zz G (Yb G (Ym (x:=P (sqI s+1)) G G ZN (G) (Yb G (Zr G (Yb G (Zq G (Zq G (Yc (Yj G (fun h7=>?_) (fun h7=>?_))))))))))))))) <;> simp only[NM]at h7
  ·refine Ze (Yq G (Zg G (ZI ?_)));rw[Zdr (by assumption) (by assumption) (by assumption)];unfold goK;rw[Zcz (by assumption)];unfold U5;rw[show Kv P s t=true by assumption];rw[show Xf P t=false by assumption];rw[Zci (show ¬ R9 P t=P (sqI s+1) by assumption)];rfl
  refine Yh (Ze (Zy G (Ym (x:=P (sqI s)) G G ZN (G) (Zr G (Zk G (Ys (t:=58) G (fun h8=>?_) (fun h8=>?_))))))) <;> simp only[NM]at h8
  ·refine Yb G (Yo G G ZO (Yb G (Zj G (Yb G (Zj G (Yb G (Yt G (Zd6 P s t hs ht (ZdN (k:=P (sqI s)) (by assumption))) G G G (Zq G (Zk G (Zg G (ZI ?_)))))))))));rw[Zdr (by assumption) (by assumption) (by assumption)];unfold goK;rw[Zcz (by assumption)];unfold U5;rw[show Kv P s t=true by assumption];rw[show Xf P t=false by assumption];rw[Zcl (show R9 P t=P (sqI s+1) by assumption)];rw[Zcl (show P (sqI s)=6 by assumption)];rfl
  refine ZE G (Zq G (Zk G (Zg G (ZI ?_))));rw[Zdr (by assumption) (by assumption) (by assumption)];unfold goK;rw[Zcz (by assumption)];unfold U5;rw[show Kv P s t=true by assumption];rw[show Xf P t=false by assumption];rw[Zcl (show R9 P t=P (sqI s+1) by assumption)];rw[Zci (show ¬ P (sqI s)=6 by assumption)];rfl
 refine Ya G G (ZD G (ZC G (YJ G (YJ G (YJ G (YJ G (YJ G (ZC G (Zq G (Yc (ZB G (Yh (Ze (Zy G (Ym (x:=P (sqI s)) G G ZN (G) (Zr G (Zk G (Ys (t:=58) G (fun h9=>?_) (fun h9=>?_))))))))))))))))))) <;> simp only[NM]at h9
 ·refine Yb G (Yo G G ZO (Yb G (Zj G (Yb G (Zj G (Yb G (Yt G (Zd6 P s t hs ht (ZdN (k:=P (sqI s)) (by assumption))) G G G (Zq G (Zk G (Zg G (ZI ?_)))))))))));rw[Zdr (by assumption) (by assumption) (by assumption)];unfold goK;rw[Zcz (by assumption)];unfold U5;rw[show Kv P s t=false by assumption];rw[Zcl (show P (sqI s)=6 by assumption)];rfl
 refine ZE G (Zq G (Zk G (Zg G (ZI ?_))));rw[Zdr (by assumption) (by assumption) (by assumption)];unfold goK;rw[Zcz (by assumption)];unfold U5;rw[show Kv P s t=false by assumption];rw[Zci (show ¬ P (sqI s)=6 by assumption)];rfl
def ui(P:Nat->Int)(s:Int)(n:Nat):List Mv:=if 0<=s/\s<64 then QS P s n else []
def ZdA(P:Nat->Int)(s:Int)(n:Nat):QS P s (n+1)=QS P s n++if R6 P s n=true then toM s (P (sqI s)) (P (sqI s+1)) n else []:=by
 unfold QS Wq;rw[List.range_succ,List.map_append,List.flatMap_append];simp
def Ze8{P:Nat->Int}{s:Int}{n:Nat}(h:R6 P s n=false):ui P s (n+1)=ui P s n:=by
 unfold ui;rw[ZdA,h];simp
def Zdl{P:Nat->Int}{s:Int}{n:Nat}(hs:0<=s/\s<64)(h:R6 P s n=true):YV (ui P s (n+1))=YV (ui P s n)++YV (toM s (P (sqI s)) (P (sqI s+1)) n):=by
 unfold ui;rw[ZcA hs,ZcA hs,ZdA,ZcA h,RU]
def ZdD(P:Nat->Int)(s:Int):∀ n:Nat,(ui P s n).length<=n*4
 |0=>by unfold ui;split <;> exact Zct _
 |n+1=>by
  have ih:=ZdD P s n;unfold ui at ih ⊢;split
  ·rename_i h;rw[ZcA h]at ih;rw[ZdA,Zb2];have:(if R6 P s n=true then toM s (P (sqI s)) (P (sqI s+1)) n else []).length<=4:=by
    split
    ·exact Zey _ _ _ _
    exact Zct _
   omega
  exact Zct _
def Zdj(P:Nat->Int)(s:Int)(n:Nat):(YV (ui P s n)).length<=n*12:=by
 have:=ZdD P s n;rw[YQ];omega
def ZdY{s k c t:Int}(h:k=1/\t/8=7*(1-c)):YV (toM s k c t)=Em s t 4:=by
 unfold toM ZdZ;rw[ZcA (Zcl h)];rfl
def Zdx{s k c t:Int}(h:¬ (k=1/\t/8=7*(1-c))):YV (toM s k c t)=[s,t,0]:=by
 unfold toM ZdZ;rw[Zcz (by rw[Zb7];exact h)];rfl
def ZeU{P:Nat->Int}{s t:Int}(h:R6 P s t=true):P (sqI s+1)=0\/P (sqI s+1)=1:=(yj h).2.1
def Zfa(P:Nat->Int)(s:Int):RtR AM 116 3 [.agg 133 (ia P),.s (.int .i64 s)] [] (YV (ui P s 64)) []:=by
 refine Qq (YL (a:=a116) G G (YI _) (ZQ G) (m:=0) G (Ze (YC G (Yq G (Zf (Yq G (Yc (Ye (Ze (Yq G (Yc (Yk (Xo (.refl _) ?_)))))))))))));refine Xu (fun m f _ L=>∃ (i:Nat) (vO:V) (ownO:HA),(i<=64)/\(m=64-i)/\(Rw 3 (YV (ui P s i)) vO ownO)/\(f 1=.s (.int .i64 s))/\(f 2=.ptr 0 0 133)/\(f 5=vO)/\(f 6=.s (.int .i64 i))/\(L=(ownO++[(0,.sc .var 133 (ia P))]))) (fun m f nb L hI=>?_) (64) (⟨0,.snil,[],by omega,rfl,.nil (by unfold ui;split <;> rfl),rfl,rfl,rfl,rfl,rfl⟩);obtain⟨i,vO,ownO,hi,hm,hrO,k1,k2,k5,k6,rfl⟩:=hI;refine Za 1 k1 (Za 2 k2 (Za 5 k5 (Za 6 k6 (Ye (Ze (Zj G (Zr G (Zk G (Ys (t:=11) G (fun h10=>?_) (fun h10=>?_)))))))))) <;> simp only[NM]at h10
 ·refine Yb G (Zj G (Yb G (Zr G (Zq G (Zk G (Ys (t:=15) G (fun h11=>?_) (fun h11=>?_))))))) <;> simp only[NM]at h11
  ·refine Yb G (Zj G (Yb G (Zr G (Zq G (Yc (Yj G (fun h12=>?_) (fun h12=>?_))))))) <;> simp only[NM]at h12
   ·refine Yh (Ye (Yk (Ye (Ze (Yo G G (ZbM _ ZM) (Zj G (Zj G (Yt G (YP (ZeS P s i ⟨by omega,by omega⟩ (by omega))) G G G (Yv (r:=.bool _) G G (Yc (Yj G (fun h13=>?_) (fun h13=>?_)))))))))))) <;> simp only[NM]at h13
    ·refine Y0 (Xb (Yf (Zj G (Zs G G (Zj G (Yc (⟨64-(i+1),_,by omega,(ZbY (.refl _) (.refl _)),i+1,_,_,by omega,rfl,?_,rfl,rfl,rfl,rfl,rfl⟩)))))));(rw[Ze8 (by assumption)];exact hrO)
    refine Yh (Ze ?_);have hgo:R6 P s i=true:=by assumption
    have hgs:=ZeU hgo;refine Zj G (Zy G (Zw G G G (Yp G G (ZbM _ ZM) (Yy (Yz G G G G .here (Zf (Zy G (Ym (x:=P (sqI s)) G G ZM (G) (Zr G (Zk G (Ys (t:=33) G (fun h14=>?_) (fun h14=>?_)))))))))))) <;> simp only[NM]at h14
    ·refine Yb G (Zz G (Yb G (Ym (x:=P (sqI s+1)) G G ZM (G) (Yb G (Zr G (Yb G (Zk G (Ys (t:=37) G (fun h15=>?_) (fun h15=>?_))))))))) <;> simp only[NM]at h15
     ·refine Yb G (Zj G (Yb G (Zu G G (Yb G (Zr G (Yb G (Zq G (Yb G (Zk G (Ys (t:=42) G (fun h16=>?_) (fun h16=>?_))))))))))) <;> simp only[NM]at h16
      ·refine ZE G (YJ G (YJ G (YJ G (ZC G (Yb G (Zq G (Zq G (Yc (ZA G (Ze (Yq G (Yc (Yk (Xo (.cons _ (ZbY (.refl _) (.refl _))) (Xu (fun m f _ L=>∃ (j:Nat) (vP:V) (ownP:HA),(j<=4)/\(m=4-j)/\(Rw 3 (YV (ui P s i)++Em s i j) vP ownP)/\(f 1=.s (.int .i64 s))/\(f 2=.ptr 0 0 133)/\(f 5=vP)/\(f 6=.s (.int .i64 i))/\(f 8=.s (.int .i64 (2+(j:Int))))/\(L=(ownP++[(0,.sc .var 133 (ia P))]))) (fun m f nb L hI=>?_) (4) (⟨0,vO,ownO,by omega,by omega,by rw[show Em s i 0=[] from rfl,Zcf];exact hrO,rfl,rfl,rfl,rfl,rfl,rfl⟩))))))))))))))));obtain⟨j,vP,ownP,hj,hm2,hrP,k1,k2,k5,k6,k8,rfl⟩:=hI;refine Za 1 k1 (Za 2 k2 (Za 5 k5 (Za 6 k6 (Za 8 k8 (Ye (Ze (Zj G (Zr G (Yc (Yj G (fun h17=>?_) (fun h17=>?_))))))))))) <;> simp only[NM]at h17
       ·refine Yh (Ye (Yk (Yf (Yq (v:=vP) G (Zj G (Zj G (Zj G (YB G (.one G (.one G (.one G .nil))) (Wp G (.agg G .nil) (XZ (c:=[s,(i:Int),2+(j:Int)]) G hrP G ZM (.there .here) (by decide) (by decide) G ((jB G G G)) (by have e1:=Zdj P s i;have e2:=Zaq s i j;rw[Zb2];omega) (fun v1 own1 n1 hr1=>Yq (v:=v1) G (Yc (Yf (Zj G (Zs G G (Zj G (Yc (⟨4-(j+1),_,by omega,(ZbY (.refl _) (.cons _ (.refl _))),j+1,_,_,by omega,rfl,?_,rfl,rfl,rfl,rfl,by rw[show(2:Int)+((j+1:Nat):Int)=2+(j:Int)+1 by omega];rfl,rfl⟩))))))))))))))))));rw[r7 _ _ _ (by omega),<-Zb5];exact hr1
       refine Y0 (Xb (Yf (Zj G (Zs G G (Zj G (Yc (⟨64-(i+1),_,by omega,(ZbY (.refl _) (.refl _)),i+1,_,_,by omega,rfl,?_,rfl,rfl,rfl,rfl,rfl⟩)))))));(rw[Zdl ⟨by omega,by omega⟩ hgo,ZdY (by omega)];obtain rfl:j=4:=(by omega);exact hrP)
      refine Yb G (Zz G (Yb G (Ym (x:=P (sqI s+1)) G G ZM (G) (Yb G (Zr G (Yb G (Zk G (Ys (t:=46) G (fun h18=>?_) (fun h18=>?_))))))))) <;> simp only[NM]at h18
      ·refine Yb G (Zj G (Yb G (Zu G G (Yb G (Zr G (Yb G (Zq G (Yb G (Zq G (Zq G (Yc (Yj G (fun h19=>?_) (fun h19=>?_))))))))))))) <;> simp only[NM]at h19
       ·refine Ze (Yq G (Yc (Yk (Xo (.cons _ (ZbY (.refl _) (.refl _))) (Xu (fun m f _ L=>∃ (j:Nat) (vP:V) (ownP:HA),(j<=4)/\(m=4-j)/\(Rw 3 (YV (ui P s i)++Em s i j) vP ownP)/\(f 1=.s (.int .i64 s))/\(f 2=.ptr 0 0 133)/\(f 5=vP)/\(f 6=.s (.int .i64 i))/\(f 8=.s (.int .i64 (2+(j:Int))))/\(L=(ownP++[(0,.sc .var 133 (ia P))]))) (fun m f nb L hI=>?_) (4) (⟨0,vO,ownO,by omega,by omega,by rw[show Em s i 0=[] from rfl,Zcf];exact hrO,rfl,rfl,rfl,rfl,rfl,rfl⟩))))));obtain⟨j,vP,ownP,hj,hm2,hrP,k1,k2,k5,k6,k8,rfl⟩:=hI;refine Za 1 k1 (Za 2 k2 (Za 5 k5 (Za 6 k6 (Za 8 k8 (Ye (Ze (Zj G (Zr G (Yc (Yj G (fun h20=>?_) (fun h20=>?_))))))))))) <;> simp only[NM]at h20
        ·refine Yh (Ye (Yk (Yf (Yq (v:=vP) G (Zj G (Zj G (Zj G (YB G (.one G (.one G (.one G .nil))) (Wp G (.agg G .nil) (XZ (c:=[s,(i:Int),2+(j:Int)]) G hrP G ZM (.there .here) (by decide) (by decide) G ((jB G G G)) (by have e1:=Zdj P s i;have e2:=Zaq s i j;rw[Zb2];omega) (fun v2 own2 n2 hr2=>Yq (v:=v2) G (Yc (Yf (Zj G (Zs G G (Zj G (Yc (⟨4-(j+1),_,by omega,(ZbY (.refl _) (.cons _ (.refl _))),j+1,_,_,by omega,rfl,?_,rfl,rfl,rfl,rfl,by rw[show(2:Int)+((j+1:Nat):Int)=2+(j:Int)+1 by omega];rfl,rfl⟩))))))))))))))))));rw[r7 _ _ _ (by omega),<-Zb5];exact hr2
        refine Y0 (Xb (Yf (Zj G (Zs G G (Zj G (Yc (⟨64-(i+1),_,by omega,(ZbY (.refl _) (.refl _)),i+1,_,_,by omega,rfl,?_,rfl,rfl,rfl,rfl,rfl⟩)))))));(rw[Zdl ⟨by omega,by omega⟩ hgo,ZdY (by omega)];obtain rfl:j=4:=(by omega);exact hrP)
       refine Yf (Yq (v:=vO) G (Zj G (Zj G (YB G (.one G (.one G .nil)) (Wp G (.agg G .nil) (XZ (c:=[s,(i:Int),0]) G hrO G ZM (.there (.there .here)) (by decide) (by decide) G ((jB G G G)) (by have:=Zdj P s i;omega) (fun v3 own3 n3 hr3=>Yq (v:=v3) G (Yc (Yf (Zj G (Zs G G (Zj G (Yc (⟨64-(i+1),_,by omega,(ZbY (.refl _) (.cons _ (.cons _ (.refl _)))),i+1,_,_,by omega,rfl,?_,rfl,rfl,rfl,rfl,rfl⟩))))))))))))));(rw[Zdl ⟨by omega,by omega⟩ hgo,Zdx (by omega)];exact hr3)
      refine ZD G (ZC G (Yb G (Zq G (Yb G (Zq G (Zq G (Yc (ZB G (Yf (Yq (v:=vO) G (Zj G (Zj G (YB G (.one G (.one G .nil)) (Wp G (.agg G .nil) (XZ (c:=[s,(i:Int),0]) G hrO G ZM (.there (.there .here)) (by decide) (by decide) G ((jB G G G)) (by have:=Zdj P s i;omega) (fun v4 own4 n4 hr4=>Yq (v:=v4) G (Yc (Yf (Zj G (Zs G G (Zj G (Yc (⟨64-(i+1),_,by omega,(ZbY (.refl _) (.cons _ (.cons _ (.refl _)))),i+1,_,_,by omega,rfl,?_,rfl,rfl,rfl,rfl,rfl⟩)))))))))))))))))))))));(rw[Zdl ⟨by omega,by omega⟩ hgo,Zdx (by omega)];exact hr4)
     refine ZD G (ZC G (Yb G (Zq G (Yb G (Zk G (Yb G (Zz G (Yb G (Ym (x:=P (sqI s+1)) G G ZM (G) (Yb G (Zr G (Yb G (Zk G (Ys (t:=46) G (fun h21=>?_) (fun h21=>?_))))))))))))))) <;> simp only[NM]at h21
     ·refine Yb G (Zj G (Yb G (Zu G G (Yb G (Zr G (Yb G (Zq G (Yb G (Zq G (Zq G (Yc (Yj G (fun h22=>?_) (fun h22=>?_))))))))))))) <;> simp only[NM]at h22
      ·refine Ze (Yq G (Yc (Yk (Xo (.cons _ (ZbY (.refl _) (.refl _))) (Xu (fun m f _ L=>∃ (j:Nat) (vP:V) (ownP:HA),(j<=4)/\(m=4-j)/\(Rw 3 (YV (ui P s i)++Em s i j) vP ownP)/\(f 1=.s (.int .i64 s))/\(f 2=.ptr 0 0 133)/\(f 5=vP)/\(f 6=.s (.int .i64 i))/\(f 8=.s (.int .i64 (2+(j:Int))))/\(L=(ownP++[(0,.sc .var 133 (ia P))]))) (fun m f nb L hI=>?_) (4) (⟨0,vO,ownO,by omega,by omega,by rw[show Em s i 0=[] from rfl,Zcf];exact hrO,rfl,rfl,rfl,rfl,rfl,rfl⟩))))));obtain⟨j,vP,ownP,hj,hm2,hrP,k1,k2,k5,k6,k8,rfl⟩:=hI;refine Za 1 k1 (Za 2 k2 (Za 5 k5 (Za 6 k6 (Za 8 k8 (Ye (Ze (Zj G (Zr G (Yc (Yj G (fun h23=>?_) (fun h23=>?_))))))))))) <;> simp only[NM]at h23
       ·refine Yh (Ye (Yk (Yf (Yq (v:=vP) G (Zj G (Zj G (Zj G (YB G (.one G (.one G (.one G .nil))) (Wp G (.agg G .nil) (XZ (c:=[s,(i:Int),2+(j:Int)]) G hrP G ZM (.there .here) (by decide) (by decide) G ((jB G G G)) (by have e1:=Zdj P s i;have e2:=Zaq s i j;rw[Zb2];omega) (fun v5 own5 n5 hr5=>Yq (v:=v5) G (Yc (Yf (Zj G (Zs G G (Zj G (Yc (⟨4-(j+1),_,by omega,(ZbY (.refl _) (.cons _ (.refl _))),j+1,_,_,by omega,rfl,?_,rfl,rfl,rfl,rfl,by rw[show(2:Int)+((j+1:Nat):Int)=2+(j:Int)+1 by omega];rfl,rfl⟩))))))))))))))))));rw[r7 _ _ _ (by omega),<-Zb5];exact hr5
       refine Y0 (Xb (Yf (Zj G (Zs G G (Zj G (Yc (⟨64-(i+1),_,by omega,(ZbY (.refl _) (.refl _)),i+1,_,_,by omega,rfl,?_,rfl,rfl,rfl,rfl,rfl⟩)))))));(rw[Zdl ⟨by omega,by omega⟩ hgo,ZdY (by omega)];obtain rfl:j=4:=(by omega);exact hrP)
      refine Yf (Yq (v:=vO) G (Zj G (Zj G (YB G (.one G (.one G .nil)) (Wp G (.agg G .nil) (XZ (c:=[s,(i:Int),0]) G hrO G ZM (.there (.there .here)) (by decide) (by decide) G ((jB G G G)) (by have:=Zdj P s i;omega) (fun v6 own6 n6 hr6=>Yq (v:=v6) G (Yc (Yf (Zj G (Zs G G (Zj G (Yc (⟨64-(i+1),_,by omega,(ZbY (.refl _) (.cons _ (.cons _ (.refl _)))),i+1,_,_,by omega,rfl,?_,rfl,rfl,rfl,rfl,rfl⟩))))))))))))));(rw[Zdl ⟨by omega,by omega⟩ hgo,Zdx (by omega)];exact hr6)
     refine ZD G (ZC G (Yb G (Zq G (Yb G (Zq G (Zq G (Yc (ZB G (Yf (Yq (v:=vO) G (Zj G (Zj G (YB G (.one G (.one G .nil)) (Wp G (.agg G .nil) (XZ (c:=[s,(i:Int),0]) G hrO G ZM (.there (.there .here)) (by decide) (by decide) G ((jB G G G)) (by have:=Zdj P s i;omega) (fun v7 own7 n7 hr7=>Yq (v:=v7) G (Yc (Yf (Zj G (Zs G G (Zj G (Yc (⟨64-(i+1),_,by omega,(ZbY (.refl _) (.cons _ (.cons _ (.refl _)))),i+1,_,_,by omega,rfl,?_,rfl,rfl,rfl,rfl,rfl⟩)))))))))))))))))))))));(rw[Zdl ⟨by omega,by omega⟩ hgo,Zdx (by omega)];exact hr7)
    refine ZE G (YJ G (YJ G (YJ G (ZD G (YJ G (YJ G (YJ G (YJ G (YJ G (YJ G (YJ G (YJ G (ZC G (Zq G (Yc (ZB G (Yf (Yq (v:=vO) G (Zj G (Zj G (YB G (.one G (.one G .nil)) (Wp G (.agg G .nil) (XZ (c:=[s,(i:Int),0]) G hrO G ZM (.there (.there .here)) (by decide) (by decide) G ((jB G G G)) (by have:=Zdj P s i;omega) (fun v8 own8 n8 hr8=>Yq (v:=v8) G (Yc (Yf (Zj G (Zs G G (Zj G ?_)))))))))))))))))))))))))))));refine Yc (⟨64-(i+1),_,by omega,(ZbY (.refl _) (.cons _ (.cons _ (.refl _)))),i+1,_,_,by omega,rfl,?_,rfl,rfl,rfl,rfl,rfl⟩);(rw[Zdl ⟨by omega,by omega⟩ hgo,Zdx (by omega)];exact hr8)
   refine Y0 (Xb (Ze (Yq (v:=vO) G (Yq (v:=vO) G (Yc (Yi (⟨_,YH (v:=vO) G (YW),?_⟩)))))));have e:ui P s 64=ui P s i:=by
    by_cases e:0<=s/\s<64
    · obtain rfl : i = 64 := by omega
      rfl
    unfold ui;rw[Zcz e,Zcz e]
   exact⟨_,e ▸ hrO,(fun _ h=>(ZbV _ h))⟩
  refine ZD G (Zq G (Yc (ZB G (Y0 (Xb (Ze (Yq (v:=vO) G (Yq (v:=vO) G (Yc (Yi (⟨_,YH (v:=vO) G (YW),?_⟩)))))))))));have e:ui P s 64=ui P s i:=by
   by_cases e:0<=s/\s<64
   · obtain rfl : i = 64 := by omega
     rfl
   unfold ui;rw[Zcz e,Zcz e]
  exact⟨_,e ▸ hrO,(fun _ h=>(ZbV _ h))⟩
 refine ZD G (Zq G (Zk G (ZD G (Zq G (Yc (ZB G (Y0 (Xb (Ze (Yq (v:=vO) G (Yq (v:=vO) G (Yc (Yi (⟨_,YH (v:=vO) G (YW),?_⟩))))))))))))));have e:ui P s 64=ui P s i:=by
  by_cases e:0<=s/\s<64
  · obtain rfl : i = 64 := by omega
    rfl
  unfold ui;rw[Zcz e,Zcz e]
 exact⟨_,e ▸ hrO,(fun _ h=>(ZbV _ h))⟩
def ZdM(P:Nat->Int):∀ n:Nat,n<=64->(Rn P n).length<=n*256
 |0,_=>Zct _
 |n+1,hn=>by
  have ih:=ZdM P n (by omega);rw[Zd3,Zb2];have h2:=ZdD P n 64;unfold ui at h2;rw[ZcA (show 0<=(n:Int)/\(n:Int)<64 by omega)]at h2;omega
def dAll_rt(P:Nat->Int):RtR AM 93 3 [.agg 133 (ia P)] [] (YV (Rn P 64)) []:=by
 refine Qq (YL (a:=a93) G G (YI _) (ZQ G) (m:=0) G (Ze (YC G (Yq G (Zf (Yq G (Yc (Ye (Ze (Yq G (Yc (Yk (Xo (.refl _) (Xu (fun m f _ L=>∃ (i:Nat) (vO:V) (ownO:HA),(i<=64)/\(m=64-i)/\(Rw 3 (YV (Rn P i)) vO ownO)/\(f 1=.ptr 0 0 133)/\(f 3=vO)/\(f 4=.s (.int .i64 i))/\(L=(ownO++[(0,.sc .var 133 (ia P))]))) (fun m f nb L hI=>?_) (64) (⟨0,.snil,[],by omega,rfl,.nil rfl,rfl,rfl,rfl,rfl⟩)))))))))))))));obtain⟨i,vO,ownO,hi,hm,hrO,k1,k3,k4,rfl⟩:=hI;refine Za 1 k1 (Za 3 k3 (Za 4 k4 (Ye (Ze (Zj G (Zr G (Yc (Yj G (fun h24=>?_) (fun h24=>?_))))))))) <;> simp only[NM]at h24
 ·refine Yh (Ye (Yk (Yf (Yq (v:=vO) G (Yo G G (ZbM _ ZM) (Zj G (YE G (Zfa P i) G G (fun v1 own1 n1 hr1=>yN G hrO G (hr1.rx) (fun _ h=>(ZbV _ h)) (Dr.appR _ .here) (by decide) (by have e1:=ZdM P i (by omega);have e2:=Zdj P i 64;rw[YQ];omega) (fun v2 own2 n2 hr2=>Yq (v:=v2) G (Yc (Yf (Zj G (Zs G G (Zj G (Yc (⟨64-(i+1),_,by omega,(ZbY (.refl _) (ZbB (.refl _))),i+1,_,_,by omega,rfl,?_,rfl,rfl,rfl,rfl⟩))))))))))))))));rw[Zd3,RU,show QS P i 64=ui P i 64 from(ZcA ⟨by omega,by omega⟩).symm];exact hr2
 refine Y0 (Xb (Ze (Yq (v:=vO) G (Yq (v:=vO) G (Yc (Yi (⟨_,YH (v:=vO) G (YW),?_⟩)))))));obtain rfl:i=64:=by omega
 exact⟨_,hrO,(fun _ h=>(ZbV _ h))⟩
def Zd4(P:Nat->Int):WR AM 66 [.agg 133 (ia P)] [] (fun v _ _=>v=.s (.bool (Vn P))):=by
 refine YL (a:=a66) G G (YI _) (ZQ G) (m:=0) G (Ze (YC G (Yq G (Yc (Ye (Yg (Yo G G ZM (Yt G (YP (ZeB P)) G G G (Zk G (Ys (t:=5) G (fun h1=>?_) (fun h1=>?_)))))))))))
 ·refine Yb G (Yo G G ZM (Yb G (Yd (o':=128) G G G (Yb G (Ym (x:=P 128) G G ZM (G) (Yb G (Yu G (YP (sT _)) G G G (Yb G (Yt G (YP (Zdp P _)) G G G (Yb G (Yv (r:=.bool _) G G (Zq G (Zk G (Zg G (ZI ?_)))))))))))))));unfold Vn;(rw[show QJ P=true by assumption];rfl)
 refine Ya G G (ZE G (ZC G (Zq G (Zk G (Zg G (ZI ?_))))));unfold Vn;(rw[show QJ P=false by assumption];rfl)
def ZeK(P X:Nat->Int)(ha:0<=X 0/\X 0<64)(ht:0<=X 1/\X 1<64):WR AM 117 [.agg 133 (ia P),.agg 3 (ia X)] [] (fun v _ _=>v=.s (.bool (Jc P (X 0) (X 1)))):=by
 refine YL (a:=a117) G G (YI _) (ZQ G) (m:=0) G (Ze (YC G (YC G (Yq G (Zf (Zy G (Ym G G ZM G (Zy G (Zw G G G (Yd G G G (Ym (x:=P (sqI (X 0))) G G ZN (G) (Zr G (Zk G (Ys (t:=12) G (fun h2=>?_) (fun h2=>?_))))))))))))))) <;> simp only[NM]at h2
 ·refine Yb G (Zz G (Yb G (Ym G G ZM G (Yb G (Zy G (Yb G (Ym G G ZM G (Yb G (Zs G G (Yb G (Zr G (Yb G (Zk G (Ys (t:=19) G (fun h3=>?_) (fun h3=>?_))))))))))))))) <;> simp only[NM]at h3
  ·refine ZE G (ZD G (Yb G (Zq G (Zq G (Zk G (Zg G (ZI ?_)))))));unfold Jc;(rw[Zcl (by omega)];done)
  refine Yb G (Zz G (Yb G (Ym G G ZM G (Yb G (Zy G (Yb G (Ym G G ZM G (Yb G (Zt G G (Yb G (Zr G (Yb G (Zq G (Zq G (Zk G (Zg G (ZI ?_)))))))))))))))));unfold Jc;(rw[Zce];simp only[Zcu,Zb7];omega)
 refine ZE G (ZD G (ZC G (YJ G (YJ G (YJ G (YJ G (YJ G (YJ G (ZC G (Zq G (Zk G (Zg G (ZI ?_)))))))))))));unfold Jc;(rw[Zci (by omega)];done)
def Zdh(P:Nat->Int)(m:Mv):Bool:=decide (Wj P m.1 m.2.1 m.2.2=0)&&(!WU (XV P m.1 m.2.1 m.2.2) (P 128)&&(!Jc P m.1 m.2.1||(!WU P (P 128)&&!([(m.1+m.2.1)/2].any (isR P (XT (P 128)))))))
section
variable{P:Nat->Int}{m:Mv}
def fine_a(h:Wj P m.1 m.2.1 m.2.2≠0):Zdh P m=false:=by unfold Zdh;rw[Zci h];rfl
def fine_b(h:WU (XV P m.1 m.2.1 m.2.2) (P 128)=true):Zdh P m=false:=by unfold Zdh;rw[h];simp
def Zem(h1:Wj P m.1 m.2.1 m.2.2=0)(h2:WU (XV P m.1 m.2.1 m.2.2) (P 128)=false):Zdh P m=(!Jc P m.1 m.2.1||(!WU P (P 128)&&!([(m.1+m.2.1)/2].any (isR P (XT (P 128)))))):=by unfold Zdh;rw[Zcl h1,h2];rfl
end
def ZeR(P X:Nat->Int)(ha:0<=X 0/\X 0<64)(ht:0<=X 1/\X 1<64):WR AM 94 [.agg 133 (ia P),.agg 3 (ia X)] [] (fun v _ _=>v=.s (.bool (Zdh P (X 0,X 1,X 2)))):=by
 refine YL (a:=a94) G G (YI _) (ZQ G) (m:=0) G (Ze (YC G (YC G (Yq G (Zf ?_)))));have hmove:=YP (Ew P X);have hid:ovA (fun _=>0) 0 133 (XV P (X 0) (X 1) (X 2))=(XV P (X 0) (X 1) (X 2)):=QG (fun i hi=>Q8 hi);have hchk:=YP (Zdp (ovA (fun _=>0) 0 133 (XV P (X 0) (X 1) (X 2))) (P 128));rw[show WU (ovA (fun _=>0) 0 133 (XV P (X 0) (X 1) (X 2))) (P 128)=WU (XV P (X 0) (X 1) (X 2)) (P 128) by rw[hid]]at hchk;refine Yo G G ZN (Yo G G ZM (Yt G (hmove) G G G (Zo G (YD (v:=.agg _ _) G G (YD (v:=.s (.int _ _)) G G (Yy (Yz G G G G .here (Zj G (Yc (Ye (Ze (Zj G (Zr G (Zk G (Ys (t:=15) G (fun h4=>?_) (fun h4=>?_)))))))))))))))) <;> simp only[NM]at h4
 ·refine ZE G (Zq G (Yc (ZA G (Ze (Yq G (Zg G (ZI ?_)))))));exact(fine_a (m:=(X 0,X 1,X 2)) (by assumption)).symm
 refine Yb G (Yo G G ZM (Yb G (Yd (o':=128) G G G (Yb G (Ym (x:=P 128) G G ZO (G) (Yb G (Yt G (hchk) G G G (Zq G (Yc (Yj G (fun h5=>?_) (fun h5=>?_)))))))))))
 ·refine Ze (Yq G (Zg G (ZI ?_)));exact(fine_b (m:=(X 0,X 1,X 2)) (by assumption)).symm
 refine Yh (Ye (Ze (Yo G G ZO (Yo G G ZN (Yt G (YP (ZeK P X ha ht)) G G G (Yv (r:=.bool _) G G (Yc (Yj G (fun h6=>?_) (fun h6=>?_))))))))) <;> simp only[NM]at h6
 ·refine Ze (Yq G (Zg G (ZI ?_)));rw[Zem (m:=(X 0,X 1,X 2)) (by assumption) (by assumption)];show _=(!Jc P (X 0) (X 1)||(!WU P (P 128)&&!([(X 0+X 1)/2].any (isR P (XT (P 128))))));rw[show Jc P (X 0) (X 1)=false by assumption];rfl
 refine Yh (Ye (Yg (Yo G G ZO (Yd (o':=128) G G G (Ym (x:=P 128) G G ZO (G) (Yt G (YP (Zdp P (P 128))) G G G (Yv (r:=.bool _) G G (Zk G (Ys (t:=30) G (fun h7=>?_) (fun h7=>?_)))))))))) <;> simp only[NM]at h7
 ·refine Yb G (Yo G G ZO (Yb G (Yd (o':=128) G G G (Yb G (Ym (x:=P 128) G G ZO (G) (Yb G (Yu G (YP (sT _)) G G G (Yb G (Zy G (Yb G (Ym (x:=X 0) G G ZN (G) (Yb G (Zz G (Yb G (Ym (x:=X 1) G G ZN (G) (Yb G (Zs G G (Yb G (Zu G G (Yb G (XA G (.one G .nil) (Yb G (XX (caps:=[]) G (Zed P (XT (P 128)) [(X 0+X 1)/2] (YF G)) G ((.row G jv)) (UY ZM) G G G (Yb G (Yv (r:=.bool _) G G (Zq G (Zk G (Zg G (ZI ?_)))))))))))))))))))))))))))));rw[Zem (m:=(X 0,X 1,X 2)) (by assumption) (by assumption)];show _=(!Jc P (X 0) (X 1)||(!WU P (P 128)&&!([(X 0+X 1)/2].any (isR P (XT (P 128))))));rw[show Jc P (X 0) (X 1)=true by assumption];rw[show WU P (P 128)=false by assumption];rfl
 refine ZF G (ZE G (ZC G (Zq G (Zk G (Zg G (ZI ?_))))));rw[Zem (m:=(X 0,X 1,X 2)) (by assumption) (by assumption)];show _=(!Jc P (X 0) (X 1)||(!WU P (P 128)&&!([(X 0+X 1)/2].any (isR P (XT (P 128))))));rw[show Jc P (X 0) (X 1)=true by assumption];rw[show WU P (P 128)=true by assumption];rfl
def Zdk(P:Nat->Int):List Mv:=if Vn P=true then (Rn P 64).filter (Zdh P) else []
def fin_yes{P X:Nat->Int}{l:List Mv}{i:Nat}(hi:i<l.length)(h0:X 0=(l.getD i (0,0,0)).1)(h1:X 1=(l.getD i (0,0,0)).2.1)(h2:X 2=(l.getD i (0,0,0)).2.2)(h:Zdh P (X 0,X 1,X 2)=true):YV ((l.take i).filter (Zdh P))++[X 0,X 1,X 2]=YV ((l.take (i+1)).filter (Zdh P)):=by
 have e:(X 0,X 1,X 2)=l.getD i (0,0,0):=Prod.ext h0 (Prod.ext h1 h2);rw[VX (0,0,0) hi,List.filter_append,List.filter_cons,<-e,h,ZcA rfl,RU];rfl
def fin_no{P X:Nat->Int}{l:List Mv}{i:Nat}(hi:i<l.length)(h0:X 0=(l.getD i (0,0,0)).1)(h1:X 1=(l.getD i (0,0,0)).2.1)(h2:X 2=(l.getD i (0,0,0)).2.2)(h:Zdh P (X 0,X 1,X 2)=false):YV ((l.take (i+1)).filter (Zdh P))=YV ((l.take i).filter (Zdh P)):=by
 have e:(X 0,X 1,X 2)=l.getD i (0,0,0):=Prod.ext h0 (Prod.ext h1 h2);rw[VX (0,0,0) hi,List.filter_append,List.filter_cons,<-e,h,Zcz (by decide)];simp
def Zeo(P:Nat->Int){l:List Mv}(i:Nat):(YV ((l.take i).filter (Zdh P))).length<=l.length*3:=by
 have h1:=ZbU (Zdh P) (l.take i);rw[Zcb]at h1;rw[YQ];omega
def Zd1(P:Nat->Int):RtR AM 56 3 [.agg 133 (ia P)] [] (YV (Zdk P)) []:=by
 refine Qq (YL (a:=a56) G G (YI _) (ZQ G) (m:=0) G (Ze (YC G (Yq G (Yc (Ye (Ze (Yo G G ZM (Yt G (YP (Zd4 P)) G G G (Yv (r:=.bool _) G G (Yc (Yj G (fun h8=>?_) (fun h8=>?_))))))))))))) <;> simp only[NM]at h8
 ·refine Ze (Yq G (Yc (Yi (⟨_,YH (v:=.snil) G (YW),?_⟩))));have e:Zdk P=[]:=by unfold Zdk;rw[Zcz (by rw[show Vn P=false by assumption];decide)]
  exact⟨[],.nil (by rw[e];rfl),fun _ h=>by cases h⟩
 refine Yh (Ze (Yq G (Zf ?_)));obtain⟨l,hleq⟩:∃ l,l=Rn P 64:=⟨_,rfl⟩
 have hall:=dAll_rt P;rw[<-hleq]at hall;have hlen:=ZdM P 64 (by omega);rw[<-hleq]at hlen;refine Yo G G ZM (YE G (hall) G G (fun v1 own1 n1 hr1=>Yq (v:=v1) G (Yc (Ye (Ze (Yq G (Yc (Yk (Xo (ZbY (.refl _) (.refl _)) (Xu (fun m f _ L=>∃ (i:Nat) (vO:V) (ownO:HA),(i<=l.length)/\(m=l.length-i)/\(Rw 3 (YV ((l.take i).filter (Zdh P))) vO ownO)/\(f 1=.ptr 0 0 133)/\(f 3=vO)/\(f 4=v1)/\(f 5=.s (.int .i64 i))/\(L=(ownO++(own1++[(0,.sc .var 133 (ia P))])))) (fun m f nb L hI=>?_) (l.length) (⟨0,.snil,[],by omega,by omega,Rw.nil rfl,rfl,rfl,rfl,rfl,rfl⟩)))))))))));obtain⟨i,vO,ownO,hi,hm,hrO,k1,k3,k4,k5,rfl⟩:=hI;refine Za 1 k1 (Za 3 k3 (Za 4 k4 (Za 5 k5 (Ye (Ze (Zj G (Yq (v:=v1) G (Xk G hr1.rx (by decide) (YQ l) (Zr G (Yc (Yj G (fun h9=>?_) (fun h9=>?_)))))))))))) <;> simp only[NM]at h9
 ·refine Yh (Ye (Yk (Ye (Yg (Yo G G (ZbM _ (ZbM _ ZM)) (Yq (v:=v1) G (Zj G ?_)))))));obtain⟨b1,q1,md1,c1,F1,rfl,rfl,hF1⟩:=hr1.rx.at (by decide) (YQ l) (by omega);refine Zx G G ?_;obtain⟨hx0,hx1,hx2⟩:=UE hF1 (i:=i) (by omega);obtain⟨hba,hbt,_,_⟩:=yH (P:=P) (m:=l.getD i (0,0,0)) (by rw[<-hleq];exact mv_in (by omega));have hfine:=YP (ZeR P (dp F1 (0+(i:Int).toNat*3)) (by rw[show(dp F1 (0+(i:Int).toNat*3)) 0=_ from hx0];exact hba) (by rw[show(dp F1 (0+(i:Int).toNat*3)) 1=_ from hx1];exact hbt));refine Yp G G (ZbM _ ZM) (Yt G (hfine) G G G (Yc (Yj G (fun h10=>?_) (fun h10=>?_))))
  ·refine Yf (Yq (v:=vO) G (Zn G (Zj G (Zx G G (Yp G G (ZbM _ ZM) (Wp G (.agg G .nil) (XZ (c:=[(dp F1 (0+(i:Int).toNat*3)) 0,(dp F1 (0+(i:Int).toNat*3)) 1,(dp F1 (0+(i:Int).toNat*3)) 2]) G hrO G ZM (.there .here) (by decide) (by decide) G ((jB G G G)) (by have:=Zeo P (l:=l) i;omega) (fun v2 own2 n2 hr2=>Yq (v:=v2) G (Yc (Yf (Zj G (Zs G G (Zj G (Yc (⟨l.length-(i+1),_,by omega,(ZbY (.refl _) (.cons _ (.refl _))),i+1,_,_,by omega,rfl,?_,rfl,rfl,rfl,rfl,rfl⟩)))))))))))))));(rw[<-fin_yes (P:=P) (by omega) hx0 hx1 hx2 (by assumption)];exact hr2)
  refine Yh (Yf (Zj G (Zs G G (Zj G (Yc (⟨l.length-(i+1),_,by omega,(ZbY (.refl _) (.refl _)),i+1,_,_,by omega,rfl,?_,rfl,rfl,rfl,rfl,rfl⟩))))));(rw[fin_no (P:=P) (by omega) hx0 hx1 hx2 (by assumption)];exact hrO)
 refine Y0 (Xb (Ze (Yq (v:=vO) G (Yq (v:=vO) G (Yc (Yi (⟨_,YH (v:=vO) G (YW),?_⟩)))))));obtain rfl:i=l.length:=by omega
 rw[List.take_length]at hrO;have e:Zdk P=l.filter (Zdh P):=by rw[hleq];exact ZcA (by assumption)
 exact⟨_,e ▸ hrO,(fun _ h=>(ZbV _ h))⟩
def sC(s:Int):Int:=if s=1 then 2 else 1
def ofN(P:Nat->Int)(n:Nat):Int×Int:=if Vn P=false\/0<n then (0,0) else if WU P (P 128)=true then (sC (XT (P 128)),1) else (3,2)
section
variable{P:Nat->Int}{n:Nat}
def ZdV(h:Vn P=false\/0<n):ofN P n=(0,0):=ZcA h
def of_go(h1:Vn P=true)(h2:¬ 0<n):¬ (Vn P=false\/0<n):=fun h=>h.elim (fun h=>by rw[h1]at h;cases h) h2
def Zez(h1:Vn P=true)(h2:¬ 0<n)(h3:WU P (P 128)=true):ofN P n=(sC (XT (P 128)),1):=by
 unfold ofN;rw[Zcz (of_go h1 h2),ZcA h3]
def ZaB(h1:Vn P=true)(h2:¬ 0<n)(h3:WU P (P 128)=false):ofN P n=(3,2):=by
 unfold ofN;rw[Zcz (of_go h1 h2),Zcz (by rw[h3];decide)]
end
def ZeF(s:Int):WR AM 67 [.s (.int .i64 s)] [] (fun v _ _=>v=.s (.int .i64 (sC s))):=by
 refine YL (a:=a67) G G (YI _) (ZQ G) (m:=0) G (Ze (Yq G (Yc (Ye (Ze (Zj G (Zr G (Yc (Yj G (fun h11=>?_) (fun h11=>?_)))))))))) <;> simp only[NM]at h11
 ·refine Ze (Yq G (Yc (Yi (⟨_,ZL G,?_⟩))));refine ZJ ?_;exact(ZcA (by omega)).symm
 refine Yh (Ze (Yq G (Yc (Yi (⟨_,ZL G,?_⟩)))));refine ZJ ?_;exact(Zcz (by omega)).symm
def Ze9(P:Nat->Int):WR AM 31 [.agg 133 (ia P)] [] (fun v _ _=>v=.tup [.s (.int .i64 (ofN P (Zdk P).length).1),.s (.int .i64 (ofN P (Zdk P).length).2)]):=by
 refine YL (a:=a31) G G (YI _) (ZQ G) (m:=0) G (Ze (YC G (Yq G (Yq G (Zf (Yo G G ZM (YE G (Zd1 P) G G (fun v1 own1 n1 hr1=>Yq (v:=v1) G (Yc (Ye (Ze (Yo G G (ZbM _ ZM) (Yt G (YP (Zd4 P)) G G G (Yv (r:=.bool _) G G (Zk G (Ys (t:=10) G (fun h12=>?_) (fun h12=>?_))))))))))))))))) <;> simp only[NM]at h12
 ·refine ZD G (ZC G (Zq G (Yc (ZA G (Ze (Yq G (Yq G (Yc (Yi (⟨_,YH (v:=.s (.int _ _)) G (ZL G),?_⟩))))))))));(rw[ZdV (by first|exact .inl (by assumption)|exact .inr (by omega))];rfl)
 refine Yb G (Yq (v:=v1) G (Yb G (Xk G hr1.rx (by decide) (YQ _) (Yb G (Zr G (Zq G (Yc (Yj G (fun h13=>?_) (fun h13=>?_))))))))) <;> simp only[NM]at h13
 ·refine Ze (Yq G (Yq G (Yc (Yi (⟨_,YH (v:=.s (.int _ _)) G (ZL G),?_⟩)))));(rw[ZdV (by first|exact .inl (by assumption)|exact .inr (by omega))];rfl)
 refine Yh (Ye (Ze (Yo G G (ZbM _ ZM) (Yd (o':=128) G G G (Ym (x:=P 128) G G (ZbM _ ZM) (G) (Yt G (YP (Zdp P (P 128))) G G G (Yc (Yj G (fun h14=>?_) (fun h14=>?_)))))))))
 ·refine Ze (Yd (o':=128) G G G (Ym (x:=P 128) G G (ZbM _ ZM) (G) (Yt G (YP (sT _)) G G G (Yt G (YP (ZeF _)) G G G (Zj G (Yq G (Yc (Yi (⟨_,YH (v:=.s (.int _ _)) G (ZL G),?_⟩)))))))));(rw[Zez (by assumption) (by omega) (by assumption)];rfl)
 refine Yh (Ze (Yq G (Yq G (Yc (Yi (⟨_,YH (v:=.s (.int _ _)) G (ZL G),?_⟩))))));(rw[ZaB (by assumption) (by omega) (by assumption)];rfl)
def Clean(P:Nat->Int):Prop:=∀ s:Nat,s<64->(P (s*2)=0/\P (s*2+1)=0)\/(1<=P (s*2)/\P (s*2)<=6/\(P (s*2+1)=0\/P (s*2+1)=1))
def sqI_nat(s:Nat):sqI (s:Int)=s*2:=by show 0+(s:Int).toNat*2=_;omega
def find_mem{P:Nat->Int}{c x:Int}:x∈jz P (ju c)↔(0<=x/\x<64)/\P (sqI x)=6/\P (sqI x+1)=c:=by
 unfold jz;rw[Zch,mem64];unfold isX;rw[Zb7];exact Iff.rfl
def Ze0{P:Nat->Int}{c:Int}(hc:c=0\/c=1):WU P c=true↔∃ x,((0<=x/\x<64)/\P (sqI x)=6/\P (sqI x+1)=c)/\QM P (1-c) x=true:=by
 unfold WU;rw[ZcA hc,Qg hc,List.any_eq_true];constructor
 ·rintro⟨x,hx,h⟩;exact⟨x,find_mem.1 hx,h⟩
 rintro⟨x,hx,h⟩;exact⟨x,find_mem.2 hx,h⟩
def ZeT{P:Nat->Int}(h:QJ P=true):Clean P/\(P 128=0\/P 128=1):=by
 unfold QJ at h;simp only[Zca]at h;have h:=qh h.1.1.1;refine⟨fun s hs=>?_,h.2.2.2⟩;have:=h.1 s hs;unfold okM at this;rw[sqI_nat]at this;omega
def wide_of{P:Nat->Int}{s t:Int}(hs:0<=s/\s<64)(ht:0<=t/\t<64)(hg:R6 P s t=true)(h:Jc P s t=true):(s=4\/s=60)/\(t=s+2\/t=s-2):=by
 unfold Jc at h;rw[Zb7]at h;obtain⟨h1,h2⟩:=h;obtain⟨_,hc,_,_⟩:=yj hg;unfold R6 at hg;rw[Zca]at hg;have hg:=hg.2;unfold goK at hg;rw[Zcz (by omega),Bool.or_eq_true,Zca,Zca]at hg;rcases hg with⟨ha,_⟩|⟨_,hg⟩
 ·have:=g6 ha h1;unfold Vl at this;split at this <;> omega
 unfold goC at hg;split at hg
 ·cases hg
 omega
def oD{P:Nat->Int}{c:Int}{a:Nat}(hk:P (sqI (a:Int))=6/\P (sqI (a:Int)+1)=c):∀ n:Nat,a<n->1<=kM P c n
 |0,h=>by omega
 |n+1,h=>by
  have hb:=jA P c n;unfold kM;by_cases e:a=n
  ·subst e;rw[ZcA hk];omega
  have:=oD hk n (by omega);split <;> omega
def vy{P:Nat->Int}{c:Int}{a b:Nat}(ha:P (sqI (a:Int))=6/\P (sqI (a:Int)+1)=c)(hb:P (sqI (b:Int))=6/\P (sqI (b:Int)+1)=c)(hab:a<b):∀ n:Nat,b<n->2<=kM P c n
 |0,h=>by omega
 |n+1,h=>by
  unfold kM;by_cases e:b=n
  ·subst e;have:=oD ha b hab;rw[ZcA hb];omega
  have:=vy ha hb hab n (by omega);split <;> omega
def sm{P:Nat->Int}(h:QJ P=true):kM P (P 128) 64=1:=by
 unfold QJ at h;simp only[Zca]at h;obtain⟨_,h0,h1,h2⟩:=qh h.1.1.1;rcases h2 with h2|h2 <;> rw[h2] <;> assumption
def Zbd{P:Nat->Int}{c x y:Int}(h:kM P c 64=1)(hx:(0<=x/\x<64)/\P (sqI x)=6/\P (sqI x+1)=c)(hy:(0<=y/\y<64)/\P (sqI y)=6/\P (sqI y+1)=c):x=y:=by
 obtain⟨a,rfl⟩:∃ a:Nat,x=a:=⟨x.toNat,by omega⟩
 obtain⟨b,rfl⟩:∃ b:Nat,y=b:=⟨y.toNat,by omega⟩
 rcases Nat.lt_trichotomy a b with e|e|e
 ·have:=vy hx.2 hy.2 e 64 (by omega);omega
 ·rw[e]
 have:=vy hy.2 hx.2 e 64 (by omega);omega
def ZeD{P:Nat->Int}(h:QJ P=true){x:Int}(hx:0<=x/\x<64)(hk:P (sqI x)=6)(hs:P (sqI x+1)=P 128):WU P (P 128)=QM P (XT (P 128)) x:=by
 have hc:=(ZeT h).2;rw[Zce,Ze0 hc,Qg hc];constructor
 ·rintro⟨y,hy,h2⟩;rw[Zbd (sm h) ⟨hx,hk,hs⟩ hy];exact h2
 intro h2;exact⟨x,⟨hx,hk,hs⟩,h2⟩
def pC{P:Nat->Int}(h:Vn P=true):QJ P=true:=by
 unfold Vn at h;rw[Zca]at h;exact h.1
def ZeI{P:Nat->Int}(hp:Vn P=true){m:Mv}(h:m∈Rn P 64):Zdh P m=Wy P m:=by
 obtain⟨hs,ht,hg,hm⟩:=yH h;have he:=Zd8 h;unfold Zdh Wy;rw[Zcl he]
 cases hc:Jc P m.1 m.2.1 with
 |false=>simp
 |true=>
  have hw:=wide_of hs ht hg hc;have hk:P (sqI m.1)=6:=by
   unfold Jc at hc;rw[Zb7]at hc;exact hc.1
  rw[ZeD (pC hp) hs hk (yj hg).2.2.1];unfold jq;simp only[List.any_cons,List.any_nil,Bool.or_false];rw[Zeb (s:=(m.1+m.2.1)/2) (by omega)]
  cases WU (XV P m.1 m.2.1 m.2.2) (P 128) <;> cases QM P (XT (P 128)) m.1 <;> cases QM P (XT (P 128)) ((m.1+m.2.1)/2) <;> rfl
def zb{P:Nat->Int}(hz:∀ i,133<=i->P i=0):XN P=if Vn P=true then (Rn P 64).filter (Wy P) else []:=by
 unfold XN xz;rw[QG hz,Zex]
def ZdB{P:Nat->Int}(hz:∀ i,133<=i->P i=0):XN P=Zdk P:=by
 rw[zb hz];unfold Zdk;by_cases hp:Vn P=true
 ·rw[ZcA hp,ZcA hp];exact List.filter_congr fun m hm=>(ZeI hp hm).symm
 rw[Zcz hp,Zcz hp]
def DA{P:Nat->Int}(hz:∀ i,133<=i->P i=0){m:Mv}:m∈XN P↔Vn P=true/\m∈Rn P 64/\Wy P m=true:=by
 rw[zb hz];by_cases hp:Vn P=true
 ·rw[ZcA hp,Zch];simp[hp]
 rw[Zcz hp];simp[hp]
end Go.Proofs.YtlkighkfkdpncaaGreatDoor
