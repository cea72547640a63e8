/- Texts of this seat, joined. -/
import Derived.Test.YtlkighkfkdpncaaGreatDoorM6
set_option linter.unusedSimpArgs false
set_option linter.unusedVariables false
namespace Go.Proofs.YtlkighkfkdpncaaGreatDoor
open Go Go.Am
theorem gI:∀ k:Fin 5,(⟨#[78,66,82,81,75]⟩:ByteArray).extract k.val (k.val+1)=XA (k.val+2):=by decide +kernel
theorem gx:∀ k:Fin 4,(⟨#[78,66,82,81]⟩:ByteArray).extract k.val (k.val+1)=XA (k.val+2):=by decide +kernel
theorem ext5 {k:Int} (h:2<=k/\k<=6):(⟨#[78,66,82,81,75]⟩:ByteArray).extract (k - 2).toNat (k - 1).toNat=XA k:=by
 have:=gI ⟨(k - 2).toNat,by omega⟩
 simp only at this
 rw [show (k - 1).toNat=(k - 2).toNat+1 by omega,this,show ((k - 2).toNat:Int)+2=k by omega]
theorem Dg {k:Int} (h:2<=k/\k<=5):(⟨#[78,66,82,81]⟩:ByteArray).extract (k - 2).toNat (k - 1).toNat=XA k:=by
 have:=gx ⟨(k - 2).toNat,by omega⟩
 simp only at this
 rw [show (k - 1).toNat=(k - 2).toNat+1 by omega,this,show ((k - 2).toNat:Int)+2=k by omega]
theorem Xd {a b:ByteArray} (h:a.size+b.size<=1000):Wx .add (.str a) (.str b)=some (.str (a++b)):=by
 show Dk .add a b=_
 unfold Dk
 rw [Za7]
 show ¬ (((a.size+b.size:Nat):Int) > 9223372036854775807)
 omega
theorem Ju {P:Nat->Int} {a t:Int} {g:ByteArray} (hk:P (sqI a)=1) (hg:g=RI (Y7 P (P (sqI a)) a t)):(⟨#[]⟩:ByteArray)++Y2 a++g++Y2 t=Q1 P a t:=by
 rw [hg]; unfold Q1
 rw [hk,j3]
theorem oO (P M:Nat->Int) (hm:(M 0,M 1,M 2) ∉ Ut P):WR AM 9 [.agg 133 (ia P),.agg 3 (ia M)] [] (fun v _ _=>v=.tup [.s (.str ⟨#[]⟩),.s (.int .i64 8)]):=by
 have his:=YG (EW P M)
 rw [ZaT hm] at his
 refine YJ (a:=a9) rfl rfl (YI _) (ZQ rfl) (m:=0) rfl (Ze (YC rfl (YC rfl (Yq rfl (Yq rfl (Yc (Ye (Ze (Yo rfl rfl ZN (Yo rfl rfl ZM (Yt rfl (his) rfl rfl rfl (Yv (r:=.bool _) rfl rfl (Yc (ZA rfl (Ze (Yq rfl (Yq rfl (Yc (Yi (⟨_,YK (v:=.s _) rfl (ZL rfl),?_⟩))))))))))))))))))))
 rfl
theorem pd (P M:Nat->Int) (hz:∀ i,133<=i->P i=0) (hm:(M 0,M 1,M 2)∈XE P):WR AM 9 [.agg 133 (ia P),.agg 3 (ia M)] [] (fun v _ _=>v=.tup [.s (.str (Kn P (M 0) (M 1) (M 2))),.s (.int .i64 0)]):=by
 have his:=YG (EW P M)
 rw [<- Eb hz,ZaV hm] at his
 obtain ⟨h1p,h2p,h3p⟩:=(DV hz).1 hm
 obtain ⟨hsq,htq,hg,hmt⟩:=Ry h2p
 have he:=j7 h2p
 have hbm:=uO hmt
 obtain ⟨hk6,_,_,hne⟩:=Ja hg
 simp only at hsq htq hg hmt he hk6 hne hbm
 have hb5:M 2=0\/(2<=M 2/\M 2<=5):=by split at hbm <;> omega
 have htk:=qE (m:=M) he
 have htb:=(VH (P:=P) (k:=P (sqI (M 0))) hsq htq).1
 have hl1:=Vv (P (sqI (M 0)))
 have hl2:=Vv (M 2)
 have hn0:=Xh hsq
 have hn1:=Xh htq
 have z0:(⟨#[]⟩:ByteArray).size=0:=rfl
 have z45:(⟨#[45]⟩:ByteArray).size=1:=rfl
 have z120:(⟨#[120]⟩:ByteArray).size=1:=rfl
 have z61:(⟨#[61]⟩:ByteArray).size=1:=rfl
 have z35:(⟨#[35]⟩:ByteArray).size=1:=rfl
 have z43:(⟨#[43]⟩:ByteArray).size=1:=rfl
 have hsz:=qF (P:=P) (b:=M 2) hsq htq
 have hmv:=YG (Kr P M)
 rw [he] at hmv
 refine YJ (a:=a9) rfl rfl (YI _) (ZQ rfl) (m:=0) rfl (Ze (YC rfl (YC rfl (Yq rfl (Yq rfl (Yc (Ye (Ze (Yo rfl rfl ZN (Yo rfl rfl ZM (Yt rfl (his) rfl rfl rfl (Yv (r:=.bool _) rfl rfl (Yc (ZB rfl (Yh (Ze (Zy rfl (Ym (x:=M 0) rfl rfl ZM (rfl) (Zy rfl (Zw rfl rfl rfl (Yp rfl rfl ZN (Yy (Yz rfl rfl rfl rfl .here (Zf (Yq rfl (Yc (WD (fun f n L=>∃ (s:ByteArray),(s=UM P (M 0) (M 1) (M 2))/\(f 2=.ptr 0 0 133)/\(f 3=.ptr 1 0 3)/\(f 7=.s (.str s))/\(L=[(1,.sc .var 3 (ia M)),(0,.sc .var 133 (ia P))])) ?_ (fun f nb L hI=>?_))))))))))))))))))))))))))))
 ·refine Yk (Ze (Zy rfl (Ym (x:=(P (sqI (M 0)))) rfl rfl ZM (rfl) (Zr rfl (Zk rfl (Ys (t:=64) rfl (fun h64=>?_) (fun h64=>?_))))))) <;> simp only [NM] at h64
  ·refine Yb rfl (Zz rfl (Yb rfl (Ym (x:=M 1) rfl rfl ZN (rfl) (Yb rfl (Zy rfl (Yb rfl (Ym (x:=M 0) rfl rfl ZN (rfl) (Yb rfl (Zs rfl rfl (Yb rfl (Zr rfl (Zq rfl (Zk rfl (Yc (Yj rfl (fun h60=>?_) (fun h60=>?_)))))))))))))))) <;> simp only [NM] at h60
   ·refine Yf (Yq rfl (Yc ?_))
    refine ⟨_,(.cons _ (.refl _)),_,rz h64 (by omega),rfl,rfl,rfl,rfl⟩
   refine Ze (Zy rfl (Ym (x:=(P (sqI (M 0)))) rfl rfl ZM (rfl) (Zr rfl (Zk rfl (Ys (t:=76) rfl (fun h76=>?_) (fun h76=>?_)))))) <;> simp only [NM] at h76
   ·refine Yb rfl (Zz rfl (Yb rfl (Ym (x:=M 1) rfl rfl ZN (rfl) (Yb rfl (Zy rfl (Yb rfl (Ym (x:=M 0) rfl rfl ZN (rfl) (Yb rfl (Zt rfl rfl (Yb rfl (Zr rfl (Zq rfl (Zk rfl (Yc (Yj rfl (fun h72=>?_) (fun h72=>?_)))))))))))))))) <;> simp only [NM] at h72
    ·refine Yf (Yq rfl (Yc ?_))
     refine ⟨_,(.cons _ (.refl _)),_,u7 h76 (by omega),rfl,rfl,rfl,rfl⟩
    refine Ye (Ze (Zy rfl (Ym (x:=(P (sqI (M 0)))) rfl rfl ZM (rfl) (Zr rfl (Yc (Yj rfl (fun h24=>?_) (fun h24=>?_))))))) <;> simp only [NM] at h24
    ·refine Yf (Zy rfl (Ym (x:=(P (sqI (M 0)))) rfl rfl ZM (rfl) (Zt rfl rfl (Zy rfl (Ym (x:=(P (sqI (M 0)))) rfl rfl ZM (rfl) (Zt rfl rfl (UT (a:=(P (sqI (M 0))) - 2) (b:=(P (sqI (M 0))) - 1) rfl rfl rfl (by show _/\_/\_<=((5:Nat):Int); omega) ?_)))))))
     rw [ext5 (by omega)]
     refine Yq (v:=.s _) rfl (Zf (Yq rfl (Yc (Ye (Ze (Yo rfl rfl ZO (Yo rfl rfl ZN (Yt rfl (htk) rfl rfl rfl (Zr rfl (Yc (Yj rfl (fun h35=>?_) (fun h35=>?_)))))))))))) <;> simp only [NM] at h35
     ·refine Yf (Yq rfl (Yc (Ye (Yg (Yq (v:=.s _) rfl (Zy rfl (Ym (x:=M 0) rfl rfl ZN (rfl) (Yu rfl (YG (Wb _)) rfl rfl rfl ?_))))))))
      refine Yr rfl rfl (Xd (by first | omega | (simp only [Zbf]; omega))) ?_
      refine Yq (v:=.s _) rfl ?_
      refine Yr rfl rfl (Xd (by first | omega | (simp only [Zbf]; omega))) ?_
      refine Zz rfl (Ym (x:=M 1) rfl rfl ZN (rfl) (Yt rfl (YG (Wb _)) rfl rfl rfl ?_))
      refine Yr rfl rfl (Xd (by first | omega | (simp only [Zbf]; omega))) ?_
      refine Yq (v:=.s _) rfl (Zf (Yd (o':=2) rfl rfl rfl (Ym (x:=M 2) rfl rfl ZN (rfl) (Zr rfl (Yc (Yj rfl (fun h49=>?_) (fun h49=>?_))))))) <;> simp only [NM] at h49
      ·refine Yf (Yq (v:=.s _) rfl ?_)
       refine Yr rfl rfl (Xd (by first | omega | (simp only [Zbf]; omega))) ?_
       refine Yd (o':=2) rfl rfl rfl (Ym (x:=M 2) rfl rfl ZN (rfl) (Zt rfl rfl (Yd (o':=2) rfl rfl rfl (Ym (x:=M 2) rfl rfl ZN (rfl) (Zt rfl rfl (UT (a:=M 2 - 2) (b:=M 2 - 1) rfl rfl rfl (by show _/\_/\_<=((4:Nat):Int); omega) ?_))))))
       rw [Dg (by omega)]
       refine Yr rfl rfl (Xd (by first | omega | (simp only [Zbf]; omega))) ?_
       refine Yq (v:=.s _) rfl (Yc ?_)
       refine ⟨_,(.cons _ (.refl _)),_,VB (fun q=>h60 (by omega)) (fun q=>h72 (by omega)) h49 (WF ((XZ (by omega)).symm)),rfl,rfl,rfl,rfl⟩
      refine Yh ?_
      refine ⟨_,(.cons _ (.refl _)),_,VA (fun q=>h60 (by omega)) (fun q=>h72 (by omega)) h49 (WF ((XZ (by omega)).symm)),rfl,rfl,rfl,rfl⟩
     refine Yh (Ye (Yg (Yq (v:=.s _) rfl (Zy rfl (Ym (x:=M 0) rfl rfl ZN (rfl) (Yu rfl (YG (Wb _)) rfl rfl rfl ?_))))))
     refine Yr rfl rfl (Xd (by first | omega | (simp only [Zbf]; omega))) ?_
     refine Yq (v:=.s _) rfl ?_
     refine Yr rfl rfl (Xd (by first | omega | (simp only [Zbf]; omega))) ?_
     refine Zz rfl (Ym (x:=M 1) rfl rfl ZN (rfl) (Yt rfl (YG (Wb _)) rfl rfl rfl ?_))
     refine Yr rfl rfl (Xd (by first | omega | (simp only [Zbf]; omega))) ?_
     refine Yq (v:=.s _) rfl (Zf (Yd (o':=2) rfl rfl rfl (Ym (x:=M 2) rfl rfl ZN (rfl) (Zr rfl (Yc (Yj rfl (fun h49=>?_) (fun h49=>?_))))))) <;> simp only [NM] at h49
     ·refine Yf (Yq (v:=.s _) rfl ?_)
      refine Yr rfl rfl (Xd (by first | omega | (simp only [Zbf]; omega))) ?_
      refine Yd (o':=2) rfl rfl rfl (Ym (x:=M 2) rfl rfl ZN (rfl) (Zt rfl rfl (Yd (o':=2) rfl rfl rfl (Ym (x:=M 2) rfl rfl ZN (rfl) (Zt rfl rfl (UT (a:=M 2 - 2) (b:=M 2 - 1) rfl rfl rfl (by show _/\_/\_<=((4:Nat):Int); omega) ?_))))))
      rw [Dg (by omega)]
      refine Yr rfl rfl (Xd (by first | omega | (simp only [Zbf]; omega))) ?_
      refine Yq (v:=.s _) rfl (Yc ?_)
      refine ⟨_,(.cons _ (.refl _)),_,VB (fun q=>h60 (by omega)) (fun q=>h72 (by omega)) h49 (WF ((Wi (by omega)).symm)),rfl,rfl,rfl,rfl⟩
     refine Yh ?_
     refine ⟨_,(.cons _ (.refl _)),_,VA (fun q=>h60 (by omega)) (fun q=>h72 (by omega)) h49 (WF ((Wi (by omega)).symm)),rfl,rfl,rfl,rfl⟩
    refine Yh (Ze (Yq rfl (Yc (Ye (Ze (Yo rfl rfl ZO (Yo rfl rfl ZN (Yt rfl (htk) rfl rfl rfl (Zr rfl (Yc (Yj rfl (fun h35=>?_) (fun h35=>?_)))))))))))) <;> simp only [NM] at h35
    ·refine Yf (Yq rfl (Yc (Ye (Yg (Yq (v:=.s _) rfl (Zy rfl (Ym (x:=M 0) rfl rfl ZN (rfl) (Yu rfl (YG (Wb _)) rfl rfl rfl ?_))))))))
     refine Yr rfl rfl (Xd (by first | omega | (simp only [Zbf]; omega))) ?_
     refine Yq (v:=.s _) rfl ?_
     refine Yr rfl rfl (Xd (by first | omega | (simp only [Zbf]; omega))) ?_
     refine Zz rfl (Ym (x:=M 1) rfl rfl ZN (rfl) (Yt rfl (YG (Wb _)) rfl rfl rfl ?_))
     refine Yr rfl rfl (Xd (by first | omega | (simp only [Zbf]; omega))) ?_
     refine Yq (v:=.s _) rfl (Zf (Yd (o':=2) rfl rfl rfl (Ym (x:=M 2) rfl rfl ZN (rfl) (Zr rfl (Yc (Yj rfl (fun h49=>?_) (fun h49=>?_))))))) <;> simp only [NM] at h49
     ·refine Yf (Yq (v:=.s _) rfl ?_)
      refine Yr rfl rfl (Xd (by first | omega | (simp only [Zbf]; omega))) ?_
      refine Yd (o':=2) rfl rfl rfl (Ym (x:=M 2) rfl rfl ZN (rfl) (Zt rfl rfl (Yd (o':=2) rfl rfl rfl (Ym (x:=M 2) rfl rfl ZN (rfl) (Zt rfl rfl (UT (a:=M 2 - 2) (b:=M 2 - 1) rfl rfl rfl (by show _/\_/\_<=((4:Nat):Int); omega) ?_))))))
      rw [Dg (by omega)]
      refine Yr rfl rfl (Xd (by first | omega | (simp only [Zbf]; omega))) ?_
      refine Yq (v:=.s _) rfl (Yc ?_)
      refine ⟨_,(.cons _ (.refl _)),_,VB (fun q=>h60 (by omega)) (fun q=>h72 (by omega)) h49 (Ju h24 ((XZ (by omega)).symm)),rfl,rfl,rfl,rfl⟩
     refine Yh ?_
     refine ⟨_,(.cons _ (.refl _)),_,VA (fun q=>h60 (by omega)) (fun q=>h72 (by omega)) h49 (Ju h24 ((XZ (by omega)).symm)),rfl,rfl,rfl,rfl⟩
    refine Yh (Ye (Yg (Yq (v:=.s _) rfl (Zy rfl (Ym (x:=M 0) rfl rfl ZN (rfl) (Yu rfl (YG (Wb _)) rfl rfl rfl ?_))))))
    refine Yr rfl rfl (Xd (by first | omega | (simp only [Zbf]; omega))) ?_
    refine Yq (v:=.s _) rfl ?_
    refine Yr rfl rfl (Xd (by first | omega | (simp only [Zbf]; omega))) ?_
    refine Zz rfl (Ym (x:=M 1) rfl rfl ZN (rfl) (Yt rfl (YG (Wb _)) rfl rfl rfl ?_))
    refine Yr rfl rfl (Xd (by first | omega | (simp only [Zbf]; omega))) ?_
    refine Yq (v:=.s _) rfl (Zf (Yd (o':=2) rfl rfl rfl (Ym (x:=M 2) rfl rfl ZN (rfl) (Zr rfl (Yc (Yj rfl (fun h49=>?_) (fun h49=>?_))))))) <;> simp only [NM] at h49
    ·refine Yf (Yq (v:=.s _) rfl ?_)
     refine Yr rfl rfl (Xd (by first | omega | (simp only [Zbf]; omega))) ?_
     refine Yd (o':=2) rfl rfl rfl (Ym (x:=M 2) rfl rfl ZN (rfl) (Zt rfl rfl (Yd (o':=2) rfl rfl rfl (Ym (x:=M 2) rfl rfl ZN (rfl) (Zt rfl rfl (UT (a:=M 2 - 2) (b:=M 2 - 1) rfl rfl rfl (by show _/\_/\_<=((4:Nat):Int); omega) ?_))))))
     rw [Dg (by omega)]
     refine Yr rfl rfl (Xd (by first | omega | (simp only [Zbf]; omega))) ?_
     refine Yq (v:=.s _) rfl (Yc ?_)
     refine ⟨_,(.cons _ (.refl _)),_,VB (fun q=>h60 (by omega)) (fun q=>h72 (by omega)) h49 (Ju h24 ((Wi (by omega)).symm)),rfl,rfl,rfl,rfl⟩
    refine Yh ?_
    refine ⟨_,(.cons _ (.refl _)),_,VA (fun q=>h60 (by omega)) (fun q=>h72 (by omega)) h49 (Ju h24 ((Wi (by omega)).symm)),rfl,rfl,rfl,rfl⟩
   exfalso; omega
  refine ZE rfl (ZD rfl (Zq rfl (Zk rfl (Yc (ZB rfl (Ze (Zy rfl (Ym (x:=(P (sqI (M 0)))) rfl rfl ZM (rfl) (Zr rfl (Zk rfl (Ys (t:=76) rfl (fun h76=>?_) (fun h76=>?_)))))))))))) <;> simp only [NM] at h76
  ·exfalso; omega
  refine ZE rfl (ZD rfl (Zq rfl (Zk rfl (Yc (ZB rfl (Ye (Ze (Zy rfl (Ym (x:=(P (sqI (M 0)))) rfl rfl ZM (rfl) (Zr rfl (Yc (Yj rfl (fun h24=>?_) (fun h24=>?_))))))))))))) <;> simp only [NM] at h24
  ·refine Yf (Zy rfl (Ym (x:=(P (sqI (M 0)))) rfl rfl ZM (rfl) (Zt rfl rfl (Zy rfl (Ym (x:=(P (sqI (M 0)))) rfl rfl ZM (rfl) (Zt rfl rfl (UT (a:=(P (sqI (M 0))) - 2) (b:=(P (sqI (M 0))) - 1) rfl rfl rfl (by show _/\_/\_<=((5:Nat):Int); omega) ?_)))))))
   rw [ext5 (by omega)]
   refine Yq (v:=.s _) rfl (Zf (Yq rfl (Yc (Ye (Ze (Yo rfl rfl ZO (Yo rfl rfl ZN (Yt rfl (htk) rfl rfl rfl (Zr rfl (Yc (Yj rfl (fun h35=>?_) (fun h35=>?_)))))))))))) <;> simp only [NM] at h35
   ·refine Yf (Yq rfl (Yc (Ye (Yg (Yq (v:=.s _) rfl (Zy rfl (Ym (x:=M 0) rfl rfl ZN (rfl) (Yu rfl (YG (Wb _)) rfl rfl rfl ?_))))))))
    refine Yr rfl rfl (Xd (by first | omega | (simp only [Zbf]; omega))) ?_
    refine Yq (v:=.s _) rfl ?_
    refine Yr rfl rfl (Xd (by first | omega | (simp only [Zbf]; omega))) ?_
    refine Zz rfl (Ym (x:=M 1) rfl rfl ZN (rfl) (Yt rfl (YG (Wb _)) rfl rfl rfl ?_))
    refine Yr rfl rfl (Xd (by first | omega | (simp only [Zbf]; omega))) ?_
    refine Yq (v:=.s _) rfl (Zf (Yd (o':=2) rfl rfl rfl (Ym (x:=M 2) rfl rfl ZN (rfl) (Zr rfl (Yc (Yj rfl (fun h49=>?_) (fun h49=>?_))))))) <;> simp only [NM] at h49
    ·refine Yf (Yq (v:=.s _) rfl ?_)
     refine Yr rfl rfl (Xd (by first | omega | (simp only [Zbf]; omega))) ?_
     refine Yd (o':=2) rfl rfl rfl (Ym (x:=M 2) rfl rfl ZN (rfl) (Zt rfl rfl (Yd (o':=2) rfl rfl rfl (Ym (x:=M 2) rfl rfl ZN (rfl) (Zt rfl rfl (UT (a:=M 2 - 2) (b:=M 2 - 1) rfl rfl rfl (by show _/\_/\_<=((4:Nat):Int); omega) ?_))))))
     rw [Dg (by omega)]
     refine Yr rfl rfl (Xd (by first | omega | (simp only [Zbf]; omega))) ?_
     refine Yq (v:=.s _) rfl (Yc ?_)
     refine ⟨_,(.cons _ (.refl _)),_,VB (fun q=>h64 q.1) (fun q=>h76 q.1) h49 (WF ((XZ (by omega)).symm)),rfl,rfl,rfl,rfl⟩
    refine Yh ?_
    refine ⟨_,(.cons _ (.refl _)),_,VA (fun q=>h64 q.1) (fun q=>h76 q.1) h49 (WF ((XZ (by omega)).symm)),rfl,rfl,rfl,rfl⟩
   refine Yh (Ye (Yg (Yq (v:=.s _) rfl (Zy rfl (Ym (x:=M 0) rfl rfl ZN (rfl) (Yu rfl (YG (Wb _)) rfl rfl rfl ?_))))))
   refine Yr rfl rfl (Xd (by first | omega | (simp only [Zbf]; omega))) ?_
   refine Yq (v:=.s _) rfl ?_
   refine Yr rfl rfl (Xd (by first | omega | (simp only [Zbf]; omega))) ?_
   refine Zz rfl (Ym (x:=M 1) rfl rfl ZN (rfl) (Yt rfl (YG (Wb _)) rfl rfl rfl ?_))
   refine Yr rfl rfl (Xd (by first | omega | (simp only [Zbf]; omega))) ?_
   refine Yq (v:=.s _) rfl (Zf (Yd (o':=2) rfl rfl rfl (Ym (x:=M 2) rfl rfl ZN (rfl) (Zr rfl (Yc (Yj rfl (fun h49=>?_) (fun h49=>?_))))))) <;> simp only [NM] at h49
   ·refine Yf (Yq (v:=.s _) rfl ?_)
    refine Yr rfl rfl (Xd (by first | omega | (simp only [Zbf]; omega))) ?_
    refine Yd (o':=2) rfl rfl rfl (Ym (x:=M 2) rfl rfl ZN (rfl) (Zt rfl rfl (Yd (o':=2) rfl rfl rfl (Ym (x:=M 2) rfl rfl ZN (rfl) (Zt rfl rfl (UT (a:=M 2 - 2) (b:=M 2 - 1) rfl rfl rfl (by show _/\_/\_<=((4:Nat):Int); omega) ?_))))))
    rw [Dg (by omega)]
    refine Yr rfl rfl (Xd (by first | omega | (simp only [Zbf]; omega))) ?_
    refine Yq (v:=.s _) rfl (Yc ?_)
    refine ⟨_,(.cons _ (.refl _)),_,VB (fun q=>h64 q.1) (fun q=>h76 q.1) h49 (WF ((Wi (by omega)).symm)),rfl,rfl,rfl,rfl⟩
   refine Yh ?_
   refine ⟨_,(.cons _ (.refl _)),_,VA (fun q=>h64 q.1) (fun q=>h76 q.1) h49 (WF ((Wi (by omega)).symm)),rfl,rfl,rfl,rfl⟩
  refine Yh (Ze (Yq rfl (Yc (Ye (Ze (Yo rfl rfl ZO (Yo rfl rfl ZN (Yt rfl (htk) rfl rfl rfl (Zr rfl (Yc (Yj rfl (fun h35=>?_) (fun h35=>?_)))))))))))) <;> simp only [NM] at h35
  ·refine Yf (Yq rfl (Yc (Ye (Yg (Yq (v:=.s _) rfl (Zy rfl (Ym (x:=M 0) rfl rfl ZN (rfl) (Yu rfl (YG (Wb _)) rfl rfl rfl ?_))))))))
   refine Yr rfl rfl (Xd (by first | omega | (simp only [Zbf]; omega))) ?_
   refine Yq (v:=.s _) rfl ?_
   refine Yr rfl rfl (Xd (by first | omega | (simp only [Zbf]; omega))) ?_
   refine Zz rfl (Ym (x:=M 1) rfl rfl ZN (rfl) (Yt rfl (YG (Wb _)) rfl rfl rfl ?_))
   refine Yr rfl rfl (Xd (by first | omega | (simp only [Zbf]; omega))) ?_
   refine Yq (v:=.s _) rfl (Zf (Yd (o':=2) rfl rfl rfl (Ym (x:=M 2) rfl rfl ZN (rfl) (Zr rfl (Yc (Yj rfl (fun h49=>?_) (fun h49=>?_))))))) <;> simp only [NM] at h49
   ·refine Yf (Yq (v:=.s _) rfl ?_)
    refine Yr rfl rfl (Xd (by first | omega | (simp only [Zbf]; omega))) ?_
    refine Yd (o':=2) rfl rfl rfl (Ym (x:=M 2) rfl rfl ZN (rfl) (Zt rfl rfl (Yd (o':=2) rfl rfl rfl (Ym (x:=M 2) rfl rfl ZN (rfl) (Zt rfl rfl (UT (a:=M 2 - 2) (b:=M 2 - 1) rfl rfl rfl (by show _/\_/\_<=((4:Nat):Int); omega) ?_))))))
    rw [Dg (by omega)]
    refine Yr rfl rfl (Xd (by first | omega | (simp only [Zbf]; omega))) ?_
    refine Yq (v:=.s _) rfl (Yc ?_)
    refine ⟨_,(.cons _ (.refl _)),_,VB (fun q=>h64 q.1) (fun q=>h76 q.1) h49 (Ju h24 ((XZ (by omega)).symm)),rfl,rfl,rfl,rfl⟩
   refine Yh ?_
   refine ⟨_,(.cons _ (.refl _)),_,VA (fun q=>h64 q.1) (fun q=>h76 q.1) h49 (Ju h24 ((XZ (by omega)).symm)),rfl,rfl,rfl,rfl⟩
  refine Yh (Ye (Yg (Yq (v:=.s _) rfl (Zy rfl (Ym (x:=M 0) rfl rfl ZN (rfl) (Yu rfl (YG (Wb _)) rfl rfl rfl ?_))))))
  refine Yr rfl rfl (Xd (by first | omega | (simp only [Zbf]; omega))) ?_
  refine Yq (v:=.s _) rfl ?_
  refine Yr rfl rfl (Xd (by first | omega | (simp only [Zbf]; omega))) ?_
  refine Zz rfl (Ym (x:=M 1) rfl rfl ZN (rfl) (Yt rfl (YG (Wb _)) rfl rfl rfl ?_))
  refine Yr rfl rfl (Xd (by first | omega | (simp only [Zbf]; omega))) ?_
  refine Yq (v:=.s _) rfl (Zf (Yd (o':=2) rfl rfl rfl (Ym (x:=M 2) rfl rfl ZN (rfl) (Zr rfl (Yc (Yj rfl (fun h49=>?_) (fun h49=>?_))))))) <;> simp only [NM] at h49
  ·refine Yf (Yq (v:=.s _) rfl ?_)
   refine Yr rfl rfl (Xd (by first | omega | (simp only [Zbf]; omega))) ?_
   refine Yd (o':=2) rfl rfl rfl (Ym (x:=M 2) rfl rfl ZN (rfl) (Zt rfl rfl (Yd (o':=2) rfl rfl rfl (Ym (x:=M 2) rfl rfl ZN (rfl) (Zt rfl rfl (UT (a:=M 2 - 2) (b:=M 2 - 1) rfl rfl rfl (by show _/\_/\_<=((4:Nat):Int); omega) ?_))))))
   rw [Dg (by omega)]
   refine Yr rfl rfl (Xd (by first | omega | (simp only [Zbf]; omega))) ?_
   refine Yq (v:=.s _) rfl (Yc ?_)
   refine ⟨_,(.cons _ (.refl _)),_,VB (fun q=>h64 q.1) (fun q=>h76 q.1) h49 (Ju h24 ((Wi (by omega)).symm)),rfl,rfl,rfl,rfl⟩
  refine Yh ?_
  refine ⟨_,(.cons _ (.refl _)),_,VA (fun q=>h64 q.1) (fun q=>h76 q.1) h49 (Ju h24 ((Wi (by omega)).symm)),rfl,rfl,rfl,rfl⟩
 obtain ⟨s,hs,k2,k3,k7,rfl⟩:=hI
 refine Za 2 k2 (Za 3 k3 (Za 7 k7 ?_))
 rw [<- hs] at hsz
 have hqz0:=fun (i9:Nat) (hi9:133<=i9)=>UF (P:=P) (a:=M 0) (t:=M 1) (b:=M 2) hi9
 have hq8:Xq P (M 0) (M 1) (M 2) 128=Y5 (P 128):=by unfold Xq; rw [Za8 he]; rfl
 obtain ⟨Q,hQ⟩:∃ Q,Q=Xq P (M 0) (M 1) (M 2):=⟨_,rfl⟩
 rw [<- hQ] at hmv hqz0 hq8
 have hqid:ovA (fun _=>0) 0 133 Q=Q:=UX hqz0
 have hof:RF AM 31 [.agg 133 (ia (ovA (fun _=>0) 0 133 Q))] (.tup [.s (.int .i64 (ofN Q (XE Q).length).1),.s (.int .i64 (ofN Q (XE Q).length).2)]):=by rw [hqid,Eb hqz0]; exact YG (oY Q)
 have hchk:RF AM 32 [.agg 133 (ia (ovA (fun _=>0) 0 133 Q)),.s (.int .i64 (Y5 (P 128)))] (.s (.bool (Xt Q (Q 128)))):=by rw [hqid,hq8]; exact YG (QT Q _)
 refine Ze (Yo rfl rfl ZN (Yo rfl rfl ZM (Yt rfl (hmv) rfl rfl rfl (Zo rfl (YD (v:=.agg _ _) rfl rfl (YD (v:=.s (.int _ _)) rfl rfl (Yy (Yz rfl rfl rfl rfl .here (Zj rfl (Zf (Yo rfl rfl ZM (Yt rfl (hof) rfl rfl rfl (Zo rfl (YD (v:=.s (.int _ _)) rfl rfl (YD (v:=.s (.int _ _)) rfl rfl (Zj rfl (Zj rfl (Yc (Ye (Ze (Zj rfl (Zr rfl (Yc (Yj rfl (fun h96=>?_) (fun h96=>?_))))))))))))))))))))))))) <;> simp only [NM] at h96
 ·refine Ze (Yq (v:=.s _) rfl ?_)
  refine Yr rfl rfl (Xd (by first | omega | (simp only [Zbf]; omega))) ?_
  refine Yq (v:=.s _) rfl (Yq rfl (Yc (Yi (⟨_,YK (v:=.s _) rfl (ZL rfl),?_⟩))))
  refine congrArg (fun x=>V.tup [.s (.str x),.s (.int .i64 0)]) ?_
  unfold Kn RU
  rw [<- hQ,<- hs]
  rw [Za8 h96]
 refine Yh (Ye (Ye (Yg (Yo rfl rfl ZM (Yd (o':=128) rfl rfl rfl (Ym (x:=P 128) rfl rfl ZO (rfl) (Yu rfl (YG (WT _)) rfl rfl rfl (Yt rfl (hchk) rfl rfl rfl (Yc (Yj rfl (fun h103=>?_) (fun h103=>?_)))))))))))
 ·refine Ze (Yq (v:=.s _) rfl ?_)
  refine Yr rfl rfl (Xd (by first | omega | (simp only [Zbf]; omega))) ?_
  refine Yq (v:=.s _) rfl (Yq rfl (Yc (Yi (⟨_,YK (v:=.s _) rfl (ZL rfl),?_⟩))))
  refine congrArg (fun x=>V.tup [.s (.str x),.s (.int .i64 0)]) ?_
  unfold Kn RU
  rw [<- hQ,<- hs]
  rw [Za7 h96,Za8 h103]
 refine Yh (Ze (Yq (v:=.s _) rfl (Yq (v:=.s _) rfl (Yq rfl (Yc (Yi (⟨_,YK (v:=.s _) rfl (ZL rfl),?_⟩)))))))
 refine congrArg (fun x=>V.tup [.s (.str x),.s (.int .i64 0)]) ?_
 unfold Kn RU
 rw [<- hQ,<- hs]
 rw [Za7 h96,h103,Za7 Bool.false_ne_true]
set_option maxRecDepth 100000
def jS (i:Nat):Int:=if i=130 then -1 else if i=132 then 1 else 0
def xt (i:Nat):Int :=
 if i < 16 then (if i % 2=0 then ([4,2,3,5,6,3,2,4]:List Int).getD (i / 2) 0 else 0)
 else if i < 32 then (if i % 2=0 then 1 else 0)
 else if i < 96 then 0
 else if i < 112 then 1
 else if i < 128 then (if i % 2=0 then ([4,2,3,5,6,3,2,4]:List Int).getD ((i - 112) / 2) 0 else 1)
 else if i=128 then 0 else if i=129 then 15 else if i=130 then -1 else if i=131 then 0 else if i=132 then 1 else 0
theorem rR (i:Nat) (h:133<=i):jS i=0:=by
 unfold jS
 rw [Za7 (by omega),Za7 (by omega)]
theorem qk (i:Nat) (h:133<=i):xt i=0:=by
 unfold xt
 rw [Za7 (by omega),Za7 (by omega),Za7 (by omega),Za7 (by omega),Za7 (by omega),Za7 (by omega),Za7 (by omega),Za7 (by omega),Za7 (by omega),Za7 (by omega)]
theorem pp {P Q R:Nat->Int} {m:Nat} (h:∀ i,i < m->Q i=R i) (h2:∀ i,m<=i->P i=R i):ovA P 0 m Q=R:=by
 funext i
 by_cases hi:i < m
 ·rw [X1 (by omega)]; exact h i hi
 rw [WV (by omega)]; exact h2 i (by omega)
theorem se :WR AM 45 [] [] (fun v _ _=>v=.agg 133 (ia jS)):=by
 refine YJ (a:=a45) rfl rfl (YI _) (ZQ rfl) (m:=0) rfl (Ze (Yy (Zf (YB rfl (.one rfl (.one rfl .nil)) (Yz rfl rfl rfl rfl .here (Yc (Yi (⟨_,X9 rfl rfl ZM (YP),?_⟩))))))))
 refine congrArg (fun P=>V.agg 133 (ia P)) ?_
 refine pp (by decide +kernel) fun i hi=>(rR i hi).symm
theorem tc :WR AM 35 [] [] (fun v _ _=>v=.agg 133 (ia xt)):=by
 refine YJ (a:=a35) rfl rfl (YI _) (ZQ rfl) (m:=0) rfl (Ze (Yy (Zf (Yt rfl (YG se) rfl rfl rfl (Yy (Yz rfl rfl rfl rfl .here (Zf (Xo rfl (.one rfl (.one rfl (.one rfl (.one rfl (.one rfl (.one rfl (.one rfl (.one rfl .nil)))))))) (Zn rfl (Yc (Ye (Ze (Yq rfl (Yc (Yk (YW (Ye (Ze (Zj rfl (Zr rfl (Yc (Yj rfl (fun h1=>?_) (fun h1=>?_))))))))))))))))))))))) <;> simp only [NM] at h1
 ·refine Yh (Ye (Yk (Ze (Zj rfl (Zn rfl (Zj rfl (Zx rfl rfl (Ym (x:=_) rfl rfl ZM (rfl) (YB rfl (.one rfl (.one rfl .nil)) (Zy rfl (Zw rfl rfl rfl (Yz rfl rfl rfl rfl (.there .here) (Zf (Zj rfl (Zs rfl rfl (YB rfl (.one rfl (.one rfl .nil)) (Zy rfl (Zw rfl rfl rfl (Yz rfl rfl rfl rfl (.there .here) (Zf (Zj rfl (Zs rfl rfl (YB rfl (.one rfl (.one rfl .nil)) (Zy rfl (Zw rfl rfl rfl (Yz rfl rfl rfl rfl (.there .here) (Yc (Yf (Zj rfl ?_)))))))))))))))))))))))))))))
  refine Zs rfl rfl (Zn rfl (Zj rfl (Zx rfl rfl (Ym (x:=_) rfl rfl ZM (rfl) (YB rfl (.one rfl (.one rfl .nil)) (Zy rfl (Zw rfl rfl rfl (Yz rfl rfl rfl rfl (.there .here) (Yc (Yf (Zj rfl (Zs rfl rfl (Zj rfl (Yc (YW (Ye (Ze (Zj rfl (Zr rfl (Yc (Yj rfl (fun h2=>?_) (fun h2=>?_)))))))))))))))))))))) <;> simp only [NM] at h2
  ·refine Yh (Ye (Yk (Ze (Zj rfl (Zn rfl (Zj rfl (Zx rfl rfl (Ym (x:=_) rfl rfl ZM (rfl) (YB rfl (.one rfl (.one rfl .nil)) (Zy rfl (Zw rfl rfl rfl (Yz rfl rfl rfl rfl (.there .here) (Zf (Zj rfl (Zs rfl rfl (YB rfl (.one rfl (.one rfl .nil)) (Zy rfl (Zw rfl rfl rfl (Yz rfl rfl rfl rfl (.there .here) (Zf (Zj rfl (Zs rfl rfl (YB rfl (.one rfl (.one rfl .nil)) (Zy rfl (Zw rfl rfl rfl (Yz rfl rfl rfl rfl (.there .here) (Yc (Yf (Zj rfl ?_)))))))))))))))))))))))))))))
   refine Zs rfl rfl (Zn rfl (Zj rfl (Zx rfl rfl (Ym (x:=_) rfl rfl ZM (rfl) (YB rfl (.one rfl (.one rfl .nil)) (Zy rfl (Zw rfl rfl rfl (Yz rfl rfl rfl rfl (.there .here) (Yc (Yf (Zj rfl (Zs rfl rfl (Zj rfl (Yc (YW (Ye (Ze (Zj rfl (Zr rfl (Yc (Yj rfl (fun h3=>?_) (fun h3=>?_)))))))))))))))))))))) <;> simp only [NM] at h3
   ·refine Yh (Ye (Yk (Ze (Zj rfl (Zn rfl (Zj rfl (Zx rfl rfl (Ym (x:=_) rfl rfl ZM (rfl) (YB rfl (.one rfl (.one rfl .nil)) (Zy rfl (Zw rfl rfl rfl (Yz rfl rfl rfl rfl (.there .here) (Zf (Zj rfl (Zs rfl rfl (YB rfl (.one rfl (.one rfl .nil)) (Zy rfl (Zw rfl rfl rfl (Yz rfl rfl rfl rfl (.there .here) (Zf (Zj rfl (Zs rfl rfl (YB rfl (.one rfl (.one rfl .nil)) (Zy rfl (Zw rfl rfl rfl (Yz rfl rfl rfl rfl (.there .here) (Yc (Yf (Zj rfl ?_)))))))))))))))))))))))))))))
    refine Zs rfl rfl (Zn rfl (Zj rfl (Zx rfl rfl (Ym (x:=_) rfl rfl ZM (rfl) (YB rfl (.one rfl (.one rfl .nil)) (Zy rfl (Zw rfl rfl rfl (Yz rfl rfl rfl rfl (.there .here) (Yc (Yf (Zj rfl (Zs rfl rfl (Zj rfl (Yc (YW (Ye (Ze (Zj rfl (Zr rfl (Yc (Yj rfl (fun h4=>?_) (fun h4=>?_)))))))))))))))))))))) <;> simp only [NM] at h4
    ·refine Yh (Ye (Yk (Ze (Zj rfl (Zn rfl (Zj rfl (Zx rfl rfl (Ym (x:=_) rfl rfl ZM (rfl) (YB rfl (.one rfl (.one rfl .nil)) (Zy rfl (Zw rfl rfl rfl (Yz rfl rfl rfl rfl (.there .here) (Zf (Zj rfl (Zs rfl rfl (YB rfl (.one rfl (.one rfl .nil)) (Zy rfl (Zw rfl rfl rfl (Yz rfl rfl rfl rfl (.there .here) (Zf (Zj rfl (Zs rfl rfl (YB rfl (.one rfl (.one rfl .nil)) (Zy rfl (Zw rfl rfl rfl (Yz rfl rfl rfl rfl (.there .here) (Yc (Yf (Zj rfl ?_)))))))))))))))))))))))))))))
     refine Zs rfl rfl (Zn rfl (Zj rfl (Zx rfl rfl (Ym (x:=_) rfl rfl ZM (rfl) (YB rfl (.one rfl (.one rfl .nil)) (Zy rfl (Zw rfl rfl rfl (Yz rfl rfl rfl rfl (.there .here) (Yc (Yf (Zj rfl (Zs rfl rfl (Zj rfl (Yc (YW (Ye (Ze (Zj rfl (Zr rfl (Yc (Yj rfl (fun h5=>?_) (fun h5=>?_)))))))))))))))))))))) <;> simp only [NM] at h5
     ·refine Yh (Ye (Yk (Ze (Zj rfl (Zn rfl (Zj rfl (Zx rfl rfl (Ym (x:=_) rfl rfl ZM (rfl) (YB rfl (.one rfl (.one rfl .nil)) (Zy rfl (Zw rfl rfl rfl (Yz rfl rfl rfl rfl (.there .here) (Zf (Zj rfl (Zs rfl rfl (YB rfl (.one rfl (.one rfl .nil)) (Zy rfl (Zw rfl rfl rfl (Yz rfl rfl rfl rfl (.there .here) (Zf (Zj rfl (Zs rfl rfl (YB rfl (.one rfl (.one rfl .nil)) (Zy rfl (Zw rfl rfl rfl (Yz rfl rfl rfl rfl (.there .here) (Yc (Yf (Zj rfl ?_)))))))))))))))))))))))))))))
      refine Zs rfl rfl (Zn rfl (Zj rfl (Zx rfl rfl (Ym (x:=_) rfl rfl ZM (rfl) (YB rfl (.one rfl (.one rfl .nil)) (Zy rfl (Zw rfl rfl rfl (Yz rfl rfl rfl rfl (.there .here) (Yc (Yf (Zj rfl (Zs rfl rfl (Zj rfl (Yc (YW (Ye (Ze (Zj rfl (Zr rfl (Yc (Yj rfl (fun h6=>?_) (fun h6=>?_)))))))))))))))))))))) <;> simp only [NM] at h6
      ·refine Yh (Ye (Yk (Ze (Zj rfl (Zn rfl (Zj rfl (Zx rfl rfl (Ym (x:=_) rfl rfl ZM (rfl) (YB rfl (.one rfl (.one rfl .nil)) (Zy rfl (Zw rfl rfl rfl (Yz rfl rfl rfl rfl (.there .here) (Zf (Zj rfl (Zs rfl rfl (YB rfl (.one rfl (.one rfl .nil)) (Zy rfl (Zw rfl rfl rfl (Yz rfl rfl rfl rfl (.there .here) (Zf (Zj rfl (Zs rfl rfl (YB rfl (.one rfl (.one rfl .nil)) (Zy rfl (Zw rfl rfl rfl (Yz rfl rfl rfl rfl (.there .here) (Yc (Yf (Zj rfl ?_)))))))))))))))))))))))))))))
       refine Zs rfl rfl (Zn rfl (Zj rfl (Zx rfl rfl (Ym (x:=_) rfl rfl ZM (rfl) (YB rfl (.one rfl (.one rfl .nil)) (Zy rfl (Zw rfl rfl rfl (Yz rfl rfl rfl rfl (.there .here) (Yc (Yf (Zj rfl (Zs rfl rfl (Zj rfl (Yc (YW (Ye (Ze (Zj rfl (Zr rfl (Yc (Yj rfl (fun h7=>?_) (fun h7=>?_)))))))))))))))))))))) <;> simp only [NM] at h7
       ·refine Yh (Ye (Yk (Ze (Zj rfl (Zn rfl (Zj rfl (Zx rfl rfl (Ym (x:=_) rfl rfl ZM (rfl) (YB rfl (.one rfl (.one rfl .nil)) (Zy rfl (Zw rfl rfl rfl (Yz rfl rfl rfl rfl (.there .here) (Zf (Zj rfl (Zs rfl rfl (YB rfl (.one rfl (.one rfl .nil)) (Zy rfl (Zw rfl rfl rfl (Yz rfl rfl rfl rfl (.there .here) (Zf (Zj rfl (Zs rfl rfl (YB rfl (.one rfl (.one rfl .nil)) (Zy rfl (Zw rfl rfl rfl (Yz rfl rfl rfl rfl (.there .here) (Yc (Yf (Zj rfl ?_)))))))))))))))))))))))))))))
        refine Zs rfl rfl (Zn rfl (Zj rfl (Zx rfl rfl (Ym (x:=_) rfl rfl ZM (rfl) (YB rfl (.one rfl (.one rfl .nil)) (Zy rfl (Zw rfl rfl rfl (Yz rfl rfl rfl rfl (.there .here) (Yc (Yf (Zj rfl (Zs rfl rfl (Zj rfl (Yc (YW (Ye (Ze (Zj rfl (Zr rfl (Yc (Yj rfl (fun h8=>?_) (fun h8=>?_)))))))))))))))))))))) <;> simp only [NM] at h8
        ·refine Yh (Ye (Yk (Ze (Zj rfl (Zn rfl (Zj rfl (Zx rfl rfl (Ym (x:=_) rfl rfl ZM (rfl) (YB rfl (.one rfl (.one rfl .nil)) (Zy rfl (Zw rfl rfl rfl (Yz rfl rfl rfl rfl (.there .here) (Zf (Zj rfl (Zs rfl rfl (YB rfl (.one rfl (.one rfl .nil)) (Zy rfl (Zw rfl rfl rfl (Yz rfl rfl rfl rfl (.there .here) (Zf (Zj rfl (Zs rfl rfl (YB rfl (.one rfl (.one rfl .nil)) (Zy rfl (Zw rfl rfl rfl (Yz rfl rfl rfl rfl (.there .here) (Yc (Yf (Zj rfl ?_)))))))))))))))))))))))))))))
         refine Zs rfl rfl (Zn rfl (Zj rfl (Zx rfl rfl (Ym (x:=_) rfl rfl ZM (rfl) (YB rfl (.one rfl (.one rfl .nil)) (Zy rfl (Zw rfl rfl rfl (Yz rfl rfl rfl rfl (.there .here) (Yc (Yf (Zj rfl (Zs rfl rfl (Zj rfl (Yc (YW (Ye (Ze (Zj rfl (Zr rfl (Yc (Yj rfl (fun h9=>?_) (fun h9=>?_)))))))))))))))))))))) <;> simp only [NM] at h9
         ·exfalso; first | omega | (simp at h9)
         refine YX (Xe (Ze (Yd (o':=129) rfl rfl rfl (YA rfl rfl rfl rfl (.there .here) (Zf (Yo rfl rfl ZN (Yz rfl rfl rfl rfl (.there (.there .here)) (Yc (Yi (⟨_,X9 rfl rfl ZO (YP),?_⟩))))))))))
         refine congrArg (fun P=>V.agg 133 (ia P)) ?_
         refine pp (by decide +kernel) fun i hi=>(qk i hi).symm
        exfalso; first | omega | (simp at h8)
       exfalso; first | omega | (simp at h7)
      exfalso; first | omega | (simp at h6)
     exfalso; first | omega | (simp at h5)
    exfalso; first | omega | (simp at h4)
   exfalso; first | omega | (simp at h3)
  exfalso; first | omega | (simp at h2)
 exfalso; first | omega | (simp at h1)
def ex0:Nat->Int:=xt
def ex1:Nat->Int:=Xq ex0 13 21 0
def ex2:Nat->Int:=Xq ex1 52 36 0
def ex3:Nat->Int:=Xq ex2 14 30 0
theorem ex0_z:∀ i,133<=i->ex0 i=0:=fun i hi=>qk i hi
theorem tp:∀ i,133<=i->ex1 i=0:=fun i hi=>UF hi
theorem tf:∀ i,133<=i->ex2 i=0:=fun i hi=>UF hi
theorem zn:∀ i,133<=i->ex3 i=0:=fun i hi=>UF hi
theorem ex0_ok:Wf ex0 13 21 0=0:=by decide +kernel
theorem ex1_ok:Wf ex1 52 36 0=0:=by decide +kernel
theorem ex2_ok:Wf ex2 14 30 0=0:=by decide +kernel
theorem we {P Q:Nat->Int} (hz:∀ i,133<=i->P i=0) (hq:∀ i,133<=i->Q i=0):ovA P 0 133 Q=Q:=by
 funext i
 by_cases h:i < 133
 ·rw [X1 (by omega)]; rfl
 rw [WV (by omega),hz i (by omega),hq i (by omega)]
def exL:List Int:=[13,21,0,52,36,0,14,30,0]
theorem ex_rd :RdR AM 34 3 [.agg 133 (ia ex0)] [] exL (.tup [.agg 133 (ia ex3),.s (.int .i64 0)]):=by
 refine Ql fun v Bs hc=>?_
 refine YJ (a:=a34) rfl rfl (YI _) (ZQ rfl) rfl ?_ (by first | rfl | (cases hc <;> rfl))
 have hr0:=hc.rx
 rw [show Xb 0 Bs=Xb 0 Bs++[] from (ZaQ _).symm]
 generalize hown:Xb 0 Bs=own0 at hr0 ⊢
 refine Ze (YC rfl (Yy (Yq rfl (Yc (Ye (Ze (Yq rfl (Yc (Yk (YW (Ye (Ze (Zj rfl (Yq (v:=v) rfl (Wq rfl hr0 (by decide) (show exL.length=3*3 from rfl) (Yr (r:=.bool true) rfl rfl rfl (Yc (ZA rfl (Yh (Ye (Yk (Ye (Yg (Yo rfl rfl ZN (Yq (v:=v) rfl (Zj rfl ?_))))))))))))))))))))))))))
 obtain ⟨b0,q0,md0,c0,F0,rfl,rfl,hF0⟩:=hr0.at (by decide) (show exL.length=3*3 from rfl) (by omega)
 refine Zx rfl rfl (Yo rfl rfl ZO ?_)
 have hmv0:=YG (Kr ex0 F0)
 rw [show F0 0=13 from hF0 0 (YF rfl),show F0 1=21 from hF0 1 (YF rfl),show F0 2=0 from hF0 2 (YF rfl),ex0_ok,show Xq ex0 13 21 0=ex1 from rfl] at hmv0
 refine Yu rfl (hmv0) rfl rfl rfl (Zo rfl (YD (v:=.agg _ _) rfl rfl (YD (v:=.s (.int _ _)) rfl rfl (Yy (Yz rfl rfl rfl rfl .here ?_)))))
 rw [show ovA (fun _=>0) 0 133 ex1=ex1 from UX tp]
 refine Zj rfl (Yc (Ye (Ze (Zj rfl (Yr rfl rfl (xZ rfl) (Yc (ZB rfl (Yh (Yf (Yo rfl rfl ZM (Yz rfl rfl rfl rfl (.there (.there .here)) ?_)))))))))))
 rw [show ovA ex0 0 133 ex1=ex1 from we ex0_z tp]
 refine Yc (Yf (Zj rfl (Zs rfl rfl (Zj rfl (Yc (YW (Ye (Ze (Zj rfl (Zn rfl (Vi rfl (Yr (r:=.bool true) rfl rfl rfl (Yc (ZA rfl (Yh (Ye (Yk (Ye (Yg (Yo rfl rfl ZO (Zn rfl (Zj rfl (Zx rfl rfl (Yp rfl rfl ZP ?_))))))))))))))))))))))))
 have hmv1:=YG (Kr ex1 (dp F0 (0+(0+1:Int).toNat*3)))
 rw [show (dp F0 (0+(0+1:Int).toNat*3)) 0=52 from hF0 3 (YF rfl),show (dp F0 (0+(0+1:Int).toNat*3)) 1=36 from hF0 4 (YF rfl),show (dp F0 (0+(0+1:Int).toNat*3)) 2=0 from hF0 5 (YF rfl),ex1_ok,show Xq ex1 52 36 0=ex2 from rfl] at hmv1
 refine Yu rfl (hmv1) rfl rfl rfl (Zo rfl (YD (v:=.agg _ _) rfl rfl (YD (v:=.s (.int _ _)) rfl rfl (Yy (Yz rfl rfl rfl rfl .here ?_)))))
 rw [show ovA (fun _=>0) 0 133 ex2=ex2 from UX tf]
 refine Zj rfl (Yc (Ye (Ze (Zj rfl (Yr rfl rfl (xZ rfl) (Yc (ZB rfl (Yh (Yf (Yo rfl rfl ZM (Yz rfl rfl rfl rfl (.there (.there (.there .here))) ?_)))))))))))
 rw [show ovA ex1 0 133 ex2=ex2 from we tp tf]
 refine Yc (Yf (Zj rfl (Zs rfl rfl (Zj rfl (Yc (YW (Ye (Ze (Zj rfl (Zn rfl (Vi rfl (Yr (r:=.bool true) rfl rfl rfl (Yc (ZA rfl (Yh (Ye (Yk (Ye (Yg (Yo rfl rfl ZP (Zn rfl (Zj rfl (Zx rfl rfl (Yp rfl rfl (.tail _ ZP) ?_))))))))))))))))))))))))
 have hmv2:=YG (Kr ex2 (dp F0 (0+(0+1+1:Int).toNat*3)))
 rw [show (dp F0 (0+(0+1+1:Int).toNat*3)) 0=14 from hF0 6 (YF rfl),show (dp F0 (0+(0+1+1:Int).toNat*3)) 1=30 from hF0 7 (YF rfl),show (dp F0 (0+(0+1+1:Int).toNat*3)) 2=0 from hF0 8 (YF rfl),ex2_ok,show Xq ex2 14 30 0=ex3 from rfl] at hmv2
 refine Yu rfl (hmv2) rfl rfl rfl (Zo rfl (YD (v:=.agg _ _) rfl rfl (YD (v:=.s (.int _ _)) rfl rfl (Yy (Yz rfl rfl rfl rfl .here ?_)))))
 rw [show ovA (fun _=>0) 0 133 ex3=ex3 from UX zn]
 refine Zj rfl (Yc (Ye (Ze (Zj rfl (Yr rfl rfl (xZ rfl) (Yc (ZB rfl (Yh (Yf (Yo rfl rfl ZM (Yz rfl rfl rfl rfl (.there (.there (.there (.there .here)))) ?_)))))))))))
 rw [show ovA ex2 0 133 ex3=ex3 from we tf zn]
 refine Yc (Yf (Zj rfl (Zs rfl rfl (Zj rfl (Yc (YW (Ye (Ze (Zj rfl (Zn rfl (Vi rfl (Yr (r:=.bool false) rfl rfl rfl (Yc (ZB rfl (YX (Xe (Ze (Yo rfl rfl (.tail _ ZP) (Yz rfl rfl rfl rfl (.there (.there (.there .here))) ?_)))))))))))))))))))
 rw [show ovA (fun _=>0) 0 133 ex3=ex3 from UX zn]
 refine Yq rfl (Yc (Yi (⟨_,X9 rfl rfl ZP (ZL rfl),?_⟩)))
 exact ⟨rfl,(Qf (.tail _ (.tail _ ZP)))⟩
theorem geq_yes {a b:Int} (h:b<=a):Wx .geq (.int .i64 a) (.int .i64 b)=some (.bool true):=by
 show (if IntKind.i64=IntKind.i64 then some (S.bool (decide (b<=a))) else none)=_
 rw [Za8 rfl,ZaV h]
theorem leq_yes {a b:Int} (h:a<=b):Wx .leq (.int .i64 a) (.int .i64 b)=some (.bool true):=by
 show (if IntKind.i64=IntKind.i64 then some (S.bool (decide (a<=b))) else none)=_
 rw [Za8 rfl,ZaV h]
theorem Ec (a:ByteArray):Wx .eql (.str a) (.str a)=some (.bool true):=by
 show some (S.bool (a.toList == a.toList))=_
 rw [beq_self_eq_true]
def Dd (k:Int):ByteArray:=if k=2 then ⟨#[110]⟩ else if k=3 then ⟨#[98]⟩ else if k=4 then ⟨#[114]⟩ else if k=5 then ⟨#[113]⟩ else if k=6 then ⟨#[107]⟩ else ⟨#[]⟩
theorem low_run (k:Int):RF AM 40 [.s (.str (XA k))] (.s (.str (Dd k))):=by
 refine ⟨[],?_⟩
 refine (VP (A:=AM) (pf:=zj) rfl _ _ rfl).trans ?_
 unfold XA Dd
 by_cases h2:k=2
 ·subst h2; rfl
 by_cases h3:k=3
 ·subst h3; rfl
 by_cases h4:k=4
 ·subst h4; rfl
 by_cases h5:k=5
 ·subst h5; rfl
 by_cases h6:k=6
 ·subst h6; rfl
 rw [Za7 h2,Za7 h3,Za7 h4,Za7 h5,Za7 h6,Za7 h2,Za7 h3,Za7 h4,Za7 h5,Za7 h6]; rfl
theorem vg (k:Int):(Dd k).size<=1:=by
 unfold Dd
 split
 ·decide
 split
 ·decide
 split
 ·decide
 split
 ·decide
 split <;> decide
def showS (a t b:Int):ByteArray:=Y2 a++Y2 t++Dd b
def Txt (a t b:Int):Prop:=(0<=a/\a < 64)/\(0<=t/\t < 64)/\a≠t/\b≠1/\0<=b/\b<=5
theorem sY {x:Int} (h:0<=x/\x < 64):RF AM 74 [.s (.int .i64 x)] (.s (.bool true)):=by
 have:=KQ x
 rw [show isM x=true from ZaV h] at this; exact this
theorem gr (M:Nat->Int) (h:Txt (M 0) (M 1) (M 2)):WR AM 39 [.agg 3 (ia M)] [] (fun v _ _=>v=.s (.bool true)):=by
 obtain ⟨h1,h2,h3,h4,h5,h6⟩:=h
 refine YJ (a:=a39) rfl rfl (YI _) (ZQ rfl) (m:=0) rfl (Ze (YC rfl (Yq rfl (Zf (Zy rfl (Ym (x:=M 0) rfl rfl ZM (rfl) (Yt rfl (sY h1) rfl rfl rfl (Zk rfl (Yb rfl (Zz rfl (Yb rfl (Ym (x:=M 1) rfl rfl ZM (rfl) (Yb rfl (Yt rfl (sY h2) rfl rfl rfl (Zq rfl (Zk rfl (Yb rfl (Zy rfl (Yb rfl (Ym (x:=M 0) rfl rfl ZM (rfl) (Yb rfl (Zz rfl (Yb rfl (Ym (x:=M 1) rfl rfl ZM (rfl) (Yb rfl (Yr rfl rfl (ut h3) (Zq rfl (Zk rfl (Yb rfl ?_)))))))))))))))))))))))))))))
 refine Yd (o':=2) rfl rfl rfl (Yb rfl (Ym (x:=M 2) rfl rfl ZM (rfl) (Yb rfl (Yr rfl rfl (ut h4) (Zq rfl (Zk rfl (Yb rfl (Yd (o':=2) rfl rfl rfl (Yb rfl (Ym (x:=M 2) rfl rfl ZM (rfl) (Yb rfl (Yr rfl rfl (geq_yes h5) (Zq rfl (Zk rfl (Yb rfl (Yd (o':=2) rfl rfl rfl (Yb rfl (Ym (x:=M 2) rfl rfl ZM (rfl) (Yb rfl (Yr rfl rfl (leq_yes h6) (Zq rfl (Zk rfl (Zg rfl ?_)))))))))))))))))))))))
 rfl
theorem oK (M:Nat->Int) (h:Txt (M 0) (M 1) (M 2)):WR AM 38 [.agg 3 (ia M)] [] (fun v _ _=>v=.s (.bool false)):=by
 refine YJ (a:=a38) rfl rfl (YI _) (ZQ rfl) (m:=0) rfl (Ze (YC rfl (Yq rfl (Zf (Yo rfl rfl ZM (Yt rfl (YG (gr M h)) rfl rfl rfl (Yv (r:=.bool _) rfl rfl (Zk rfl (Zg rfl ?_)))))))))
 rfl
theorem tF (a t b:Int) (h:Txt a t b):RdR AM 73 3 [] [.fn 38 []] [a,t,b] (.s (.int .i64 (-1))):=by
 refine Ql fun v Bs hc=>?_
 refine YJ (a:=a73) rfl rfl (YI _) (ZQ rfl) rfl ?_ (by first | rfl | (cases hc <;> rfl))
 have hr0:=hc.rx
 rw [show Xb 0 Bs=Xb 0 Bs++[] from (ZaQ _).symm]
 generalize hown:Xb 0 Bs=own0 at hr0 ⊢
 refine Ze (Yq rfl (Yc (Ye (Ze (Yq (v:=v) rfl (Wq rfl hr0 (by decide) (show [a,t,b].length=1*3 from rfl) (Yq rfl (Yc (Yk (YW (Ze (Yr (r:=.bool true) rfl rfl rfl (Yc (Ye (ZA rfl (Yh (Ye (Yk (Ze (Zj rfl (Zj rfl (Zf (Yq (v:=.fn _ _) rfl (Yq (v:=v) rfl (Zj rfl ?_)))))))))))))))))))))))))
 obtain ⟨b0,q0,md0,c0,F0,rfl,rfl,hF0⟩:=hr0.at (by decide) (show [a,t,b].length=1*3 from rfl) (by omega)
 refine Zx rfl rfl ?_
 have f0:F0 0=a:=hF0 0 (YF rfl)
 have f1:F0 1=t:=hF0 1 (YF rfl)
 have f2:F0 2=b:=hF0 2 (YF rfl)
 have h0:Txt (F0 0) (F0 1) (F0 2):=by rw [f0,f1,f2]; exact h
 refine Yo rfl rfl ZM (Yt rfl (YG (oK F0 h0)) rfl rfl rfl (Yc (ZB rfl (Yh (Yf (Zs rfl rfl (Zj rfl (Yc (YW (Ze (Yr (r:=.bool false) rfl rfl rfl (Yc (Ye (ZB rfl (YX (Xe (Ze (Yq rfl (Yc (Yi (⟨_,ZL rfl,?_⟩)))))))))))))))))))))
 exact ⟨rfl,(Qf ZM)⟩
theorem qS (a t b:Int) (h:Txt a t b):RdR AM 37 3 [] [.fn 38 []] [a,t,b] (.s (.bool false)):=by
 refine Ql fun v Bs hc=>?_
 refine YJ (a:=a37) rfl rfl (YI _) (ZQ rfl) rfl ?_ (by first | rfl | (cases hc <;> rfl))
 have hr0:=hc.rx
 rw [show Xb 0 Bs=Xb 0 Bs++[] from (ZaQ _).symm]
 generalize hown:Xb 0 Bs=own0 at hr0 ⊢
 refine Ze (Yq rfl (Zf (Yq (v:=v) rfl (Yq (v:=.fn _ _) rfl (Wp (caps:=[]) rfl (tF a t b h) rfl (hr0) (fun _ h=>(ZaC _ h)) rfl rfl rfl (Yr (r:=.bool false) rfl rfl rfl (Zk rfl (Zg rfl ?_))))))))
 exact ⟨rfl,(fun _ h=>h)⟩
theorem gD (a t b:Int) (h:Txt a t b):RdR AM 12 3 [] [] [a,t,b] (.tup [.s (.str (showS a t b)),.s (.int .i64 0)]):=by
 refine Ql fun v Bs hc=>?_
 obtain ⟨h1,h2,h3,h4,h5,h6⟩:=id h
 refine YJ (a:=a12) rfl rfl (YI _) (ZQ rfl) rfl ?_ (by first | rfl | (cases hc <;> rfl))
 have hr0:=hc.rx
 rw [show Xb 0 Bs=Xb 0 Bs++[] from (ZaQ _).symm]
 generalize hown:Xb 0 Bs=own0 at hr0 ⊢
 refine Ze (Yq rfl (Yq rfl (Yc (Ye (Ze (Yq (v:=v) rfl (Wp (caps:=[]) rfl (qS a t b h) rfl (hr0) (fun _ h=>(ZaC _ h)) rfl rfl rfl (Yc (ZB rfl (Yh (Ye (Ze (Yq (v:=v) rfl (Wq rfl hr0 (by decide) (show [a,t,b].length=1*3 from rfl) (Yr (r:=.bool false) rfl rfl rfl (Yc (ZB rfl (Yh (Ze (EP (v:=.aggv [.pnil,.snil]) rfl (uN rfl rfl (pk uT rfl rfl xz (Zl rfl (Yq (v:=.map _) rfl (Yc (Ye (Ze (Yq (v:=v) rfl (Wq rfl hr0 (by decide) (show [a,t,b].length=1*3 from rfl) ?_)))))))))))))))))))))))))))))
 refine Yq rfl (Yc (Yk (YW (Ze (Yr (r:=.bool true) rfl rfl rfl (Yc (Ye (ZA rfl (Yh (Ye (Yk (Ze (Zj rfl ?_)))))))))))))
 obtain ⟨b0,q0,md0,c0,F0,rfl,rfl,hF0⟩:=hr0.at (by decide) (show [a,t,b].length=1*3 from rfl) (by omega)
 refine Zx rfl rfl ?_
 have f0:F0 0=a:=hF0 0 (YF rfl)
 have f1:F0 1=t:=hF0 1 (YF rfl)
 have f2:F0 2=b:=hF0 2 (YF rfl)
 refine Yo rfl rfl ZO (Yy (Zj rfl (Yz rfl rfl rfl rfl .here (Yc (Ye (Ze (Zj rfl (Yr (r:=.bool false) rfl rfl rfl (Yc (ZB rfl (Yh (Yg (Zl rfl (Zy rfl (Ym (x:=a) rfl rfl ZM (f0) (Yu rfl (Ul _) rfl rfl rfl (Zz rfl (Ym (x:=t) rfl rfl ZM (f1) (Yu rfl (Ul _) rfl rfl rfl (Yq (v:=.map _) rfl (Yd (o':=2) rfl rfl rfl (Ym (x:=b) rfl rfl ZM (f2) (Vo rfl rfl ZN rfl (VL _) (Yt rfl (low_run _) rfl rfl rfl (gM rfl rfl rfl (XS (Lr:=[(_,_)]) (L0:=[_,_,_]) (gY (gS3 (Y2 a) (Y2 t) (Dd b)) (.ex 3) (Y2 a) (Y2 t) (Dd b) rfl rfl rfl (by rw [Xh h1]; omega) (by rw [Xh h1,Xh h2]; have:=vg b; omega)) rfl rfl (Zbr (.refl _) ((Zbs _ ((Zbs _ ((Zbs _ (.refl _)).trans (.swap _ _ _))).trans (.swap _ _ _))).trans (.swap _ _ _))) rfl rfl rfl rfl rfl rfl rfl (Yc (Yf (Zs rfl rfl ?_)))))))))))))))))))))))))))))
 refine Zj rfl (Yc (YW (Ze (Yr (r:=.bool false) rfl rfl rfl (Yc (Ye (ZB rfl (YX (Xe (Ze (Zl rfl (YM rfl (Zy rfl (D9 (yG (Y2 a++Y2 t++Dd b) (by simp only [Zbf,Xh h1]; omega) (by simp only [Zbf,Xh h1,Xh h2]; have:=vg b; omega)) rfl rfl rfl rfl ZN .here (Yq (v:=.s _) rfl (Yq rfl (Yc (Yi (⟨_,YK (v:=.s _) rfl (ZL rfl),?_⟩)))))))))))))))))))
 exact ⟨rfl,(Qf (.tail _ (.tail _ ZP)))⟩
set_option maxRecDepth 100000
def tab (l:List Int) (i:Nat):Int:=l.getD i 0
theorem sx {l:List Int} (h:l.length=133):∀ i,133<=i->tab l i=0:=fun i hi=>by
 unfold tab
 rw [Zau,Zbg (by omega)]; rfl
theorem rQ {P:Nat->Int} {l:List Int} (h:l.length=133) (hz:∀ i,133<=i->P i=0) (h2:∀ i:Fin 133,P i.val=tab l i.val):P=tab l:=by
 funext i
 by_cases hi:i < 133
 ·exact h2 ⟨i,hi⟩
 rw [hz i (by omega),sx h i (by omega)]
def t3:List Int:=[4,0,2,0,3,0,5,0,6,0,3,0,2,0,4,0,1,0,1,0,1,0,1,0,1,0,0,0,0,0,1,0,0,0,0,0,0,0,0,0,0,0,1,0,0,0,0,0,0,0,0,0,0,0,0,0,0,0,0,0,1,0,0,0,0,0,0,0,0,0,0,0,1,1,0,0,0,0,0,0,0,0,0,0,0,0,0,0,0,0,0,0,0,0,0,0,1,1,1,1,1,1,1,1,0,0,1,1,1,1,1,1,4,1,2,1,3,1,5,1,6,1,3,1,2,1,4,1,1,15,22,0,2]
def t4:List Int:=[4,0,2,0,3,0,5,0,6,0,3,0,2,0,4,0,1,0,1,0,1,0,1,0,1,0,0,0,0,0,1,0,0,0,0,0,0,0,0,0,0,0,1,0,0,0,0,0,0,0,0,0,0,0,0,0,0,0,0,0,1,0,5,1,0,0,0,0,0,0,0,0,1,1,0,0,0,0,0,0,0,0,0,0,0,0,0,0,0,0,0,0,0,0,0,0,1,1,1,1,1,1,1,1,0,0,1,1,1,1,1,1,4,1,2,1,3,1,0,0,6,1,3,1,2,1,4,1,0,15,-1,1,3]
theorem pm:ex3=tab t3:=rQ rfl zn (by decide +kernel)
theorem ex4_is:Xq (tab t3) 59 31 0=tab t4:=rQ rfl (fun i hi=>UF hi) (by decide +kernel)
theorem ex3_mem:((59,31,0):Mv)∈XE ex3:=by
 rw [pm]
 exact (DV (sx rfl)).2 ⟨by decide +kernel,by decide +kernel,by decide +kernel⟩
theorem ex4_end:(ofN (tab t4) (XE (tab t4)).length).2=1:=by
 rw [Dh (sx rfl)]
 decide +kernel
theorem Zag:UM (tab t3) 59 31 0=⟨#[81,100,56,45,104,52]⟩:=by decide +kernel
theorem ex_long:Kn ex3 59 31 0=⟨#[81,100,56,45,104,52,35]⟩:=by
 unfold Kn RU
 rw [pm,ex4_is,Za8 ex4_end,Zag]; rfl
theorem ex_show:showS 52 60 5=⟨#[101,55,101,56,113]⟩:=by decide +kernel
theorem D4 :WR AM 10 [] [] (fun v _ _=>v=.s (.bool true)):=by
 have hsh:=gD 52 60 5 ⟨by omega,by omega,by omega,by omega,by omega,by omega⟩
 rw [ex_show] at hsh
 have hid:ovA (fun _=>0) 0 133 ex3=ex3:=UX zn
 have hlong:=YG (kU (ovA (fun _=>0) 0 133 ex3) (ov (ov (fun _=>0) 0 59) 1 31) (by rw [hid]; exact zn) (by rw [hid]; exact ex3_mem))
 rw [show Kn (ovA (fun _=>0) 0 133 ex3) ((ov (ov (fun _=>0) 0 59) 1 31) 0) ((ov (ov (fun _=>0) 0 59) 1 31) 1) ((ov (ov (fun _=>0) 0 59) 1 31) 2)=⟨#[81,100,56,45,104,52,35]⟩ by rw [hid]; exact ex_long] at hlong
 refine YJ (a:=a10) rfl rfl (YI _) (ZQ rfl) (m:=0) rfl (Ze (Yq rfl (Zf (YB rfl (.one rfl (.one rfl (.one rfl .nil))) (Wo rfl (.agg rfl .nil) (Wp (caps:=[]) rfl (hsh) rfl ((.row rfl (by decide))) (Qf ZM) rfl rfl rfl (Zo rfl (YD (v:=.s _) rfl rfl (YD (v:=.s (.int _ _)) rfl rfl (Yq (v:=.s _) rfl (Zj rfl (Zf (Yt rfl (YG tc) rfl rfl rfl (YB rfl (.one rfl (.one rfl .nil)) (YB rfl (.one rfl (.one rfl .nil)) (YB rfl (.one rfl (.one rfl .nil)) (Wo rfl (.agg rfl (.agg rfl (.agg rfl .nil))) (Wp (caps:=[]) rfl (ex_rd) rfl ((.row rfl (by decide))) (Qf ZM) rfl rfl rfl (Zo rfl (YD (v:=.agg _ _) rfl rfl (YD (v:=.s (.int _ _)) rfl rfl (Yy (Yz rfl rfl rfl rfl .here (Zj rfl (Zf (Yo rfl rfl ZM (YB rfl (.one rfl (.one rfl .nil)) (Yt rfl (hlong) rfl rfl rfl (Zo rfl ?_)))))))))))))))))))))))))))))
 refine YD (v:=.s _) rfl rfl (YD (v:=.s (.int _ _)) rfl rfl (Yq (v:=.s _) rfl (Zj rfl (Zf (Zj rfl (Yr rfl rfl (K5 rfl) (Zk rfl (Yb rfl (Yq (v:=.s _) rfl (Yb rfl (Yr rfl rfl (Ec _) (Zq rfl (Zk rfl (Yb rfl (Zj rfl (Yb rfl (Yr rfl rfl (K5 rfl) (Zq rfl (Zk rfl (Yb rfl (Yq (v:=.s _) rfl (Yb rfl (Yr rfl rfl (Ec _) (Zq rfl (Zk rfl (Zg rfl ?_))))))))))))))))))))))))))
 rfl
theorem vJ (P M:Nat->Int) (hz:∀ i,133<=i->P i=0) (hm:(M 0,M 1,M 2)∈XE P):WR AM 3 [.agg 133 (ia P),.agg 3 (ia M)] [] (fun v _ _=>v=.s (.bool true)):=by
 refine YJ (a:=a3) rfl rfl (YI _) (ZQ rfl) (m:=0) rfl (Ze (YC rfl (YC rfl (Yq rfl (Zf (Yo rfl rfl ZN (Yo rfl rfl ZM (Yt rfl (YG (kU P M hz hm)) rfl rfl rfl (Zo rfl (YD (v:=.s _) rfl rfl (YD (v:=.s (.int _ _)) rfl rfl (Yq (v:=.s _) rfl (Zj rfl (Zf (Yo rfl rfl ZN (Yo rfl rfl ZM (Yt rfl (YG (pd P M hz hm)) rfl rfl rfl (Zo rfl (YD (v:=.s _) rfl rfl (YD (v:=.s (.int _ _)) rfl rfl (Yq (v:=.s _) rfl (Zj rfl (Zf (Yq (v:=.s _) rfl (Yq (v:=.s _) rfl (Yr rfl rfl (Ec _) (Zk rfl (Yb rfl (Zj rfl ?_)))))))))))))))))))))))))))))
 refine Yb rfl (Zj rfl (Yb rfl (Yr rfl rfl (K5 rfl) (Zq rfl (Zk rfl (Yb rfl (Yt rfl (YG D4) rfl rfl rfl (Zq rfl (Zk rfl (Zg rfl ?_))))))))))
 rfl
theorem tu (P M:Nat->Int) (hz:∀ i,133<=i->P i=0) (hm:(M 0,M 1,M 2) ∉ XE P):WR AM 3 [.agg 133 (ia P),.agg 3 (ia M)] [] (fun v _ _=>v=.s (.bool true)):=by
 refine YJ (a:=a3) rfl rfl (YI _) (ZQ rfl) (m:=0) rfl (Ze (YC rfl (YC rfl (Yq rfl (Zf (Yo rfl rfl ZN (Yo rfl rfl ZM (Yt rfl (YG (Long_no P M hm)) rfl rfl rfl (Zo rfl (YD (v:=.s _) rfl rfl (YD (v:=.s (.int _ _)) rfl rfl (Yq (v:=.s _) rfl (Zj rfl (Zf (Yo rfl rfl ZN (Yo rfl rfl ZM (Yt rfl (YG (oO P M (by rw [<- Eb hz]; exact hm))) rfl rfl rfl (Zo rfl (YD (v:=.s _) rfl rfl (YD (v:=.s (.int _ _)) rfl rfl (Yq (v:=.s _) rfl (Zj rfl (Zf (Yq (v:=.s _) rfl (Yq (v:=.s _) rfl (Yr rfl rfl (Ec _) (Zk rfl (Yb rfl (Zj rfl ?_)))))))))))))))))))))))))))))
 refine Yb rfl (Zj rfl (Yb rfl (Yr rfl rfl (K5 rfl) (Zq rfl (Zk rfl (Yb rfl (Yt rfl (YG D4) rfl rfl rfl (Zq rfl (Zk rfl (Zg rfl ?_))))))))))
 rfl
theorem vE (P M:Nat->Int) (hz:∀ i,133<=i->P i=0):WR AM 3 [.agg 133 (ia P),.agg 3 (ia M)] [] (fun v _ _=>v=.s (.bool true)):=by
 by_cases hm:(M 0,M 1,M 2)∈XE P
 ·exact vJ P M hz hm
 exact tu P M hz hm
end Go.Proofs.YtlkighkfkdpncaaGreatDoor
