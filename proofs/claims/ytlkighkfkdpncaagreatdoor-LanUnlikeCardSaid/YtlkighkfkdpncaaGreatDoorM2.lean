/- Texts of this seat, joined. -/
import Derived.Test.YtlkighkfkdpncaaGreatDoorM1
set_option linter.unusedSimpArgs false
set_option linter.unusedVariables false
namespace Go.Proofs.YtlkighkfkdpncaaGreatDoor
open Go Go.Am
theorem ovK {F:Nat->Int} {x y:Int}:ov (ov F 0 x) 1 y 0=x/\ov (ov F 0 x) 1 y 1=y:=⟨rfl,rfl⟩
theorem kB (s:Nat) (h:s < 64):RF AM 84 [.s (.int .i64 (s:Int))] (.s (.int .i64 ((s:Int) / 8))):=by
 have:=K7 (s:Int)
 rw [Wj,Za8 (by omega)] at this
 exact this
theorem pE (P:Nat->Int):WR AM 122 [.agg 133 (ia P)] [] (fun v _ _=>v=.s (.bool (WW P))):=by
 refine YJ (a:=a122) rfl rfl (YI _) (ZQ rfl) (m:=0) rfl (Ze (YC rfl (Yq rfl (Zf (Yy (Yc (Ye (Ze (Zy rfl (Zy rfl (Yo rfl rfl ZN (Yq rfl (Yc (Yk (Xm (L':=[_,_]) (.refl _) (Xp (fun m f _ L=>∃ (i:Nat) (C:Nat->Int),(i<=64)/\(m=64 - i)/\(∀ s:Nat,s < i->okM P s)/\(C 0=kM P 0 i)/\(C 1=kM P 1 i)/\(f 1=.ptr 0 0 133)/\(f 3=.ptr 1 0 2)/\(f 9=.agg 128 (ia P))/\(f 10=.s (.int .i64 i))/\(L=[(1,.sc .var 2 (ia C)),(0,.sc .var 133 (ia P))])) (fun m f nb L hI=>?_) (64) ⟨0,fun _=>0,by omega,rfl,fun s h=>by omega,rfl,rfl,rfl,rfl,rfl,rfl,rfl⟩))))))))))))))))
 obtain ⟨i,C,hi,hm,hok,hc0,hc1,k1,k3,k9,k10,rfl⟩:=hI
 refine Za 1 k1 (Za 3 k3 (Za 9 k9 (Za 10 k10 (Ze (Zr rfl (Yc (Ye (Yj rfl (fun h1=>?_) (fun h1=>?_))))))))) <;> simp only [NM] at h1
 ·refine Yh (Ye (Yk (Ze (Zj rfl ?_))))
  refine xQ rfl rfl rfl (by first | omega | (simp only [YZ,ZaL] at *; omega)) ?_
  rw [dp_ix]
  refine Yy (Zj rfl (Yz rfl rfl rfl rfl .here (Yc (Ye (Ze (Yo rfl rfl ZM (YB rfl .nil (Yw rfl rfl (Yc (Yj rfl (fun h2=>?_) (fun h2=>?_))))))))))) <;> simp only [NM] at h2
  ·try simp only [Wd,ovA2.1,ovA2.2,ovK.1,ovK.2,ZaL,Zax,YZ,dp,Nat.add_zero] at h2
   refine YX (Xe (Yf (Zs rfl rfl (Zj rfl (Yc ?_)))))
   (have hk:=Qj hc0 hc1 (by omega); refine ⟨64 - (i+1),_,by omega,(.cons _ (.refl _)),i+1,_,by omega,rfl,W9 hok (by unfold okM; omega),hk.1,hk.2,rfl,rfl,rfl,rfl,rfl⟩)
  try simp only [Wd,ovA2.1,ovA2.2,ovK.1,ovK.2,ZaL,Zax,YZ,dp,Nat.add_zero] at h2
  refine Yh (Ze (Zj rfl (Yt rfl (kB i (by omega)) rfl rfl rfl (Zr rfl (Zk rfl (Ys (t:=20) rfl (fun h3=>?_) (fun h3=>?_))))))) <;> simp only [NM] at h3
  ·refine ZD rfl (ZC rfl (Zq rfl (Zk rfl (Yc (Ye (Ze (Yo rfl rfl ZM (Yt rfl (show RF AM 149 _ (.s (.bool (YZ (P (sqI i)) (P (sqI i+1))))) from YG (uu (ovA (fun _=>0) 0 2 (dp P (sqI i))))) rfl rfl rfl (Yv (r:=.bool _) rfl rfl (Zk rfl (Ys (t:=28) rfl (fun h4=>?_) (fun h4=>?_)))))))))))) <;> simp only [NM] at h4
   ·try simp only [Wd,ovA2.1,ovA2.2,ovK.1,ovK.2,ZaL,Zax,YZ,dp,Nat.add_zero] at h4
    refine ZD rfl (YH rfl (YH rfl (YH rfl (ZC rfl (Zq rfl (Yc (ZA rfl (Ze (Yq rfl (Zg rfl ?_))))))))))
    exact congrArg (fun b=>V.s (S.bool b)) (Wa (fun q=>absurd (q.1 i (by omega)) (by unfold okM; omega))).symm
   try simp only [Wd,ovA2.1,ovA2.2,ovK.1,ovK.2,ZaL,Zax,YZ,dp,Nat.add_zero] at h4
   refine Yb rfl (Zk rfl (Yb rfl (Zk rfl (Yb rfl (Zy rfl (Yb rfl (Ym (x:=P (sqI i)) rfl rfl ZM (rfl) (Yb rfl (Zr rfl (Yb rfl (Zq rfl (Zq rfl (Yc (Yj rfl (fun h5=>?_) (fun h5=>?_))))))))))))))) <;> simp only [NM] at h5
   ·refine Ze (Yq rfl (Zg rfl ?_))
    exact congrArg (fun b=>V.s (S.bool b)) (Wa (fun q=>absurd (q.1 i (by omega)) (by unfold okM; omega))).symm
   refine Yh (Ze (Zy rfl (Ym (x:=P (sqI i)) rfl rfl ZM (rfl) (Zr rfl (Yc (Yj rfl (fun h6=>?_) (fun h6=>?_))))))) <;> simp only [NM] at h6
   ·refine Yf (Zz rfl (Ym (x:=P (sqI i+1)) rfl rfl ZM (rfl) ?_))
    refine XY rfl rfl rfl (by first | omega | (simp only [YZ,ZaL] at *; omega)) ?_
    refine Ym rfl rfl ZN rfl (Vg rfl rfl (KH hc0 hc1 hi (by omega)) ?_)
    refine XY rfl rfl rfl (by first | omega | (simp only [YZ,ZaL] at *; omega)) ?_
    refine YA rfl rfl rfl rfl (.there .here) (Yc (Yf (Zs rfl rfl (Zj rfl (Yc ?_)))))
    (have hk:=Qi hc0 hc1 (by omega) (by omega); refine ⟨64 - (i+1),_,by omega,(.cons _ (.refl _)),i+1,_,by omega,rfl,W9 hok (by unfold okM; omega),hk.1,hk.2,rfl,rfl,rfl,rfl,rfl⟩)
   refine Yh (Yf (Zs rfl rfl (Zj rfl (Yc ?_))))
   (have hk:=Qj hc0 hc1 (by omega); refine ⟨64 - (i+1),_,by omega,(.cons _ (.refl _)),i+1,_,by omega,rfl,W9 hok (by unfold okM; omega),hk.1,hk.2,rfl,rfl,rfl,rfl,rfl⟩)
  refine Yb rfl (Zj rfl (Yb rfl (Yt rfl (kB i (by omega)) rfl rfl rfl (Yb rfl (Zr rfl (Zq rfl (Zk rfl (Yc (Ye (Ze (Yo rfl rfl ZM (Yt rfl (show RF AM 149 _ (.s (.bool (YZ (P (sqI i)) (P (sqI i+1))))) from YG (uu (ovA (fun _=>0) 0 2 (dp P (sqI i))))) rfl rfl rfl (Yv (r:=.bool _) rfl rfl (Zk rfl (Ys (t:=28) rfl (fun h7=>?_) (fun h7=>?_)))))))))))))))) <;> simp only [NM] at h7
  ·try simp only [Wd,ovA2.1,ovA2.2,ovK.1,ovK.2,ZaL,Zax,YZ,dp,Nat.add_zero] at h7
   refine ZD rfl (YH rfl (YH rfl (YH rfl (ZC rfl (Zq rfl (Yc (ZA rfl (Ze (Yq rfl (Zg rfl ?_))))))))))
   exact congrArg (fun b=>V.s (S.bool b)) (Wa (fun q=>absurd (q.1 i (by omega)) (by unfold okM; omega))).symm
  try simp only [Wd,ovA2.1,ovA2.2,ovK.1,ovK.2,ZaL,Zax,YZ,dp,Nat.add_zero] at h7
  refine Yb rfl (Zk rfl (Yb rfl (Zk rfl (Ys (t:=30) rfl (fun h8=>?_) (fun h8=>?_))))) <;> simp only [NM] at h8
  ·refine Yb rfl (Zy rfl (Yb rfl (Ym (x:=P (sqI i)) rfl rfl ZM (rfl) (Yb rfl (Zr rfl (Yb rfl (Zq rfl (Zq rfl (Yc (Yj rfl (fun h9=>?_) (fun h9=>?_))))))))))) <;> simp only [NM] at h9
   ·refine Ze (Yq rfl (Zg rfl ?_))
    exact congrArg (fun b=>V.s (S.bool b)) (Wa (fun q=>absurd (q.1 i (by omega)) (by unfold okM; omega))).symm
   refine Yh (Ze (Zy rfl (Ym (x:=P (sqI i)) rfl rfl ZM (rfl) (Zr rfl (Yc (Yj rfl (fun h10=>?_) (fun h10=>?_))))))) <;> simp only [NM] at h10
   ·refine Yf (Zz rfl (Ym (x:=P (sqI i+1)) rfl rfl ZM (rfl) ?_))
    refine XY rfl rfl rfl (by first | omega | (simp only [YZ,ZaL] at *; omega)) ?_
    refine Ym rfl rfl ZN rfl (Vg rfl rfl (KH hc0 hc1 hi (by omega)) ?_)
    refine XY rfl rfl rfl (by first | omega | (simp only [YZ,ZaL] at *; omega)) ?_
    refine YA rfl rfl rfl rfl (.there .here) (Yc (Yf (Zs rfl rfl (Zj rfl (Yc ?_)))))
    (have hk:=Qi hc0 hc1 (by omega) (by omega); refine ⟨64 - (i+1),_,by omega,(.cons _ (.refl _)),i+1,_,by omega,rfl,W9 hok (by unfold okM; omega),hk.1,hk.2,rfl,rfl,rfl,rfl,rfl⟩)
   refine Yh (Yf (Zs rfl rfl (Zj rfl (Yc ?_))))
   (have hk:=Qj hc0 hc1 (by omega); refine ⟨64 - (i+1),_,by omega,(.cons _ (.refl _)),i+1,_,by omega,rfl,W9 hok (by unfold okM; omega),hk.1,hk.2,rfl,rfl,rfl,rfl,rfl⟩)
  refine ZD rfl (ZC rfl (Yb rfl (Zq rfl (Zq rfl (Yc (ZB rfl (Yh (Ze (Zy rfl (Ym (x:=P (sqI i)) rfl rfl ZM (rfl) (Zr rfl (Yc (Yj rfl (fun h11=>?_) (fun h11=>?_)))))))))))))) <;> simp only [NM] at h11
  ·refine Yf (Zz rfl (Ym (x:=P (sqI i+1)) rfl rfl ZM (rfl) ?_))
   refine XY rfl rfl rfl (by first | omega | (simp only [YZ,ZaL] at *; omega)) ?_
   refine Ym rfl rfl ZN rfl (Vg rfl rfl (KH hc0 hc1 hi (by omega)) ?_)
   refine XY rfl rfl rfl (by first | omega | (simp only [YZ,ZaL] at *; omega)) ?_
   refine YA rfl rfl rfl rfl (.there .here) (Yc (Yf (Zs rfl rfl (Zj rfl (Yc ?_)))))
   (have hk:=Qi hc0 hc1 (by omega) (by omega); refine ⟨64 - (i+1),_,by omega,(.cons _ (.refl _)),i+1,_,by omega,rfl,W9 hok (by unfold okM; omega),hk.1,hk.2,rfl,rfl,rfl,rfl,rfl⟩)
  refine Yh (Yf (Zs rfl rfl (Zj rfl (Yc ?_))))
  (have hk:=Qj hc0 hc1 (by omega); refine ⟨64 - (i+1),_,by omega,(.cons _ (.refl _)),i+1,_,by omega,rfl,W9 hok (by unfold okM; omega),hk.1,hk.2,rfl,rfl,rfl,rfl,rfl⟩)
 refine YX (Xe (Ze (Yo rfl rfl ZM (YB rfl (.one rfl (.one rfl .nil)) (Yw rfl rfl (Zk rfl (Ys (t:=49) rfl (fun h12=>?_) (fun h12=>?_)))))))) <;> simp only [NM] at h12
 ·try simp only [Wd,ovA2.1,ovA2.2,ovK.1,ovK.2,ZaL,Zax,YZ,dp,Nat.add_zero] at h12
  refine Yb rfl (Zy rfl (Yb rfl (Yd (o':=128) rfl rfl rfl (Yb rfl (Ym rfl rfl ZN rfl (Yb rfl (Zr rfl (Yb rfl (Zk rfl (Ys (t:=54) rfl (fun h13=>?_) (fun h13=>?_))))))))))) <;> simp only [NM] at h13
  ·refine ZE rfl (Yb rfl (Zq rfl (Zq rfl (Zk rfl (Zg rfl ?_)))))
   obtain rfl:i=64:=by omega
   refine ZI ?_
   by_cases hq:(∀ s:Nat,s < 64->okM P s)/\kM P 0 64=1/\kM P 1 64=1/\(P 128=0\/P 128=1)
   · refine Eq.trans (b:=true) ?_ (UI hq).symm; have hq2:=hq.2; first | rfl | (exfalso; omega) | exact Za2.2 (by omega)
   refine Eq.trans (b:=false) ?_ (Wa hq).symm; have hn:¬ (kM P 0 64=1/\kM P 1 64=1/\(P 128=0\/P 128=1)):=fun e=>hq ⟨hok,e⟩; first | rfl | (exfalso; omega) | exact beq_eq_false_iff_ne.2 (by omega)
  refine Yb rfl (Zy rfl (Yb rfl (Yd (o':=128) rfl rfl rfl (Yb rfl (Ym rfl rfl ZN rfl (Yb rfl (Zr rfl (Yb rfl (Zq rfl (Zq rfl (Zk rfl (Zg rfl ?_))))))))))))
  obtain rfl:i=64:=by omega
  refine ZI ?_
  by_cases hq:(∀ s:Nat,s < 64->okM P s)/\kM P 0 64=1/\kM P 1 64=1/\(P 128=0\/P 128=1)
  · refine Eq.trans (b:=true) ?_ (UI hq).symm; have hq2:=hq.2; first | rfl | (exfalso; omega) | exact Za2.2 (by omega)
  refine Eq.trans (b:=false) ?_ (Wa hq).symm; have hn:¬ (kM P 0 64=1/\kM P 1 64=1/\(P 128=0\/P 128=1)):=fun e=>hq ⟨hok,e⟩; first | rfl | (exfalso; omega) | exact beq_eq_false_iff_ne.2 (by omega)
 try simp only [Wd,ovA2.1,ovA2.2,ovK.1,ovK.2,ZaL,Zax,YZ,dp,Nat.add_zero] at h12
 refine ZE rfl (ZC rfl (YH rfl (YH rfl (YH rfl (YH rfl (ZC rfl (Zq rfl (Zk rfl (Zg rfl ?_)))))))))
 obtain rfl:i=64:=by omega
 refine ZI ?_
 by_cases hq:(∀ s:Nat,s < 64->okM P s)/\kM P 0 64=1/\kM P 1 64=1/\(P 128=0\/P 128=1)
 · refine Eq.trans (b:=true) ?_ (UI hq).symm; have hq2:=hq.2; first | rfl | (exfalso; omega) | exact Za2.2 (by omega)
 refine Eq.trans (b:=false) ?_ (Wa hq).symm; have hn:¬ (kM P 0 64=1/\kM P 1 64=1/\(P 128=0\/P 128=1)):=fun e=>hq ⟨hok,e⟩; first | rfl | (exfalso; omega) | exact beq_eq_false_iff_ne.2 (by omega)
theorem uY {x:Int} (hx:0<=x/\x < 64) (h:x / 8 < 7):RF AM 152 [.s (.int .i64 x),.s (.int .i64 0),.s (.int .i64 1)] (.s (.int .i64 (x+8))):=by
 have:=UO x 0 1
 rw [uW hx (by omega)] at this
 exact this
theorem uw {x:Int} (hx:0<=x/\x < 64) (h:1<=x / 8):RF AM 152 [.s (.int .i64 x),.s (.int .i64 0),.s (.int .i64 (-1))] (.s (.int .i64 (x - 8))):=by
 have:=UO x 0 (-1)
 rw [uW hx (by omega)] at this
 exact this
theorem Uq {x:Int} (h:x=0\/x=1):Y5 x=1 - x:=by
 unfold Y5; split <;> omega
theorem VU (x:Int):(0<=x/\x < 64/\Wj x=x / 8)\/(¬ (0<=x/\x < 64)/\Wj x=-1):=by
 unfold Wj; split
 ·exact .inl ⟨by omega,by omega,rfl⟩
 exact .inr ⟨by assumption,rfl⟩
theorem over_ok (P:Nat->Int) (hs:P 128=0\/P 128=1):WR AM 124 [.agg 133 (ia P)] [] (fun v _ _=>v=.s (.bool (Xu P))):=by
 refine YJ (a:=a124) rfl rfl (YI _) (ZQ rfl) (m:=0) rfl (Ze (YC rfl (Yq rfl (Yc (Ye (Ze (Zy rfl (Yd (o':=130) rfl rfl rfl (Ym rfl rfl ZM rfl (Zr rfl (Yc (Yj rfl (fun h30=>?_) (fun h30=>?_))))))))))))) <;> simp only [NM] at h30
 ·refine Ze (Yq rfl (Zg rfl (ZI ?_)))
  have ho:=Uq hs
  have hra:=VU (P 130)
  rw [ZaP]
  simp only [Xu,Y4,ZaL,ZaF,Za3,Za5,ho] at *
  omega
 refine Yh (Ze (Yq rfl (Yq rfl (Yc (Ye (Ze (Zy rfl (Yd (o':=128) rfl rfl rfl (Ym rfl rfl ZM rfl (Zr rfl (Yc (Yj rfl (fun h31=>?_) (fun h31=>?_))))))))))))) <;> simp only [NM] at h31
 ·refine Yf (Yq rfl (Yq rfl (Yc (Ye (Ze (Zy rfl (Yd (o':=130) rfl rfl rfl (Ym rfl rfl ZM rfl (Yt rfl (K7 _) rfl rfl rfl (Zj rfl (Zr rfl (Zk rfl (Ys (t:=20) rfl (fun h32=>?_) (fun h32=>?_)))))))))))))) <;> simp only [NM] at h32
  ·refine ZE rfl (Zq rfl (Yc (ZA rfl (Ze (Yq rfl (Zg rfl (ZI ?_)))))))
   have ho:=Uq hs
   have hra:=VU (P 130)
   rw [ZaP]
   simp only [Xu,Y4,ZaL,ZaF,Za3,Za5,ho] at *
   omega
  refine Yb rfl (Zy rfl (Yb rfl (Yd (o':=131) rfl rfl rfl (Yb rfl (Ym rfl rfl ZM rfl (Yb rfl (Zr rfl (Zq rfl (Yc (Yj rfl (fun h33=>?_) (fun h33=>?_))))))))))) <;> simp only [NM] at h33
  ·refine Ze (Yq rfl (Zg rfl (ZI ?_)))
   have ho:=Uq hs
   have hra:=VU (P 130)
   rw [ZaP]
   simp only [Xu,Y4,ZaL,ZaF,Za3,Za5,ho] at *
   omega
  refine Yh (Ze (KY rfl (Yq (v:=.fn _ _) rfl (Yc (Ye (Yg (Yq (v:=.fn _ _) rfl (Zy rfl (Yd (o':=130) rfl rfl rfl (Ym rfl rfl ZM rfl ?_))))))))))
  have hin31:=Ke (x:=P 130) (by assumption) (by omega)
  refine VW (rs:=[0]) (Bs:=[_]) rfl (UU (T1 (md:=.var) P _ (by omega))) rfl rfl (YF rfl) (fun _ h=>h) rfl ⟨ZM,⟨_,_,_,rfl⟩,trivial⟩ rfl rfl rfl (.cons .here .nil) (Zk rfl (Ys (t:=32) rfl (fun h34=>?_) (fun h34=>?_)))
  ·try simp only [Y4,ZaL,Zax] at h34
   refine Yb rfl (Yq (v:=.fn _ _) rfl (Yb rfl (Zy rfl (Yb rfl (Yd (o':=130) rfl rfl rfl (Yb rfl (Ym rfl rfl ZM rfl (Yb rfl (Zj rfl (Yb rfl ?_))))))))))
   have hin38:=Ke (x:=P 130) (by assumption) (by omega)
   refine Yt rfl (uw hin38.1 (by omega)) rfl rfl rfl (Yb rfl ?_)
   have hin39:=Ke (x:=P 130) (by assumption) (by omega)
   refine VW (rs:=[0]) (Bs:=[_]) rfl (UU (T1 (md:=.var) P _ (by omega))) rfl rfl (YF rfl) (fun _ h=>h) rfl ⟨ZM,⟨_,_,_,rfl⟩,trivial⟩ rfl rfl rfl (.cons .here .nil) (Zq rfl (Zk rfl (Ys (t:=41) rfl (fun h35=>?_) (fun h35=>?_))))
   ·try simp only [Y4,ZaL,Zax] at h35
    refine Yb rfl (Yo rfl rfl ZM (Yb rfl (Zy rfl (Yb rfl (Yd (o':=128) rfl rfl rfl (Yb rfl (Ym rfl rfl ZM rfl (Yb rfl (Yu rfl (YG (Uc _)) rfl rfl rfl (Yb rfl (Zy rfl (Yb rfl (Yd (o':=130) rfl rfl rfl (Yb rfl (Ym rfl rfl ZM rfl (Yb rfl (Zj rfl (Yb rfl (jX rfl (by omega) (Yb rfl ?_))))))))))))))))))))
    have hin52:=Ke (x:=P 130) (by assumption) (by omega)
    refine Yu rfl (uY hin52.1 (by omega)) rfl rfl rfl (Yb rfl (Yt rfl (YG (Va _ _ _ _ (by omega))) rfl rfl rfl (Zq rfl (Zk rfl (Zg rfl (ZI ?_))))))
    have ho:=Uq hs
    have hra:=VU (P 130)
    rw [ZaP]
    simp only [Xu,Y4,ZaL,ZaF,Za3,Za5,ho] at *
    omega
   try simp only [Y4,ZaL,Zax] at h35
   refine ZF rfl (ZE rfl (Zq rfl (Zk rfl (Zg rfl (ZI ?_)))))
   have ho:=Uq hs
   have hra:=VU (P 130)
   rw [ZaP]
   simp only [Xu,Y4,ZaL,ZaF,Za3,Za5,ho] at *
   omega
  try simp only [Y4,ZaL,Zax] at h34
  refine ZE rfl (ZD rfl (ZC rfl (Zq rfl (Zk rfl (ZF rfl (ZE rfl (Zq rfl (Zk rfl (Zg rfl (ZI ?_))))))))))
  have ho:=Uq hs
  have hra:=VU (P 130)
  rw [ZaP]
  simp only [Xu,Y4,ZaL,ZaF,Za3,Za5,ho] at *
  omega
 refine Yh (Ye (Ze (Zy rfl (Yd (o':=130) rfl rfl rfl (Ym rfl rfl ZM rfl (Yt rfl (K7 _) rfl rfl rfl (Zj rfl (Zr rfl (Zk rfl (Ys (t:=20) rfl (fun h36=>?_) (fun h36=>?_))))))))))) <;> simp only [NM] at h36
 ·refine ZE rfl (Zq rfl (Yc (ZA rfl (Ze (Yq rfl (Zg rfl (ZI ?_)))))))
  have ho:=Uq hs
  have hra:=VU (P 130)
  rw [ZaP]
  simp only [Xu,Y4,ZaL,ZaF,Za3,Za5,ho] at *
  omega
 refine Yb rfl (Zy rfl (Yb rfl (Yd (o':=131) rfl rfl rfl (Yb rfl (Ym rfl rfl ZM rfl (Yb rfl (Zr rfl (Zq rfl (Yc (Yj rfl (fun h37=>?_) (fun h37=>?_))))))))))) <;> simp only [NM] at h37
 ·refine Ze (Yq rfl (Zg rfl (ZI ?_)))
  have ho:=Uq hs
  have hra:=VU (P 130)
  rw [ZaP]
  simp only [Xu,Y4,ZaL,ZaF,Za3,Za5,ho] at *
  omega
 refine Yh (Ze (KY rfl (Yq (v:=.fn _ _) rfl (Yc (Ye (Yg (Yq (v:=.fn _ _) rfl (Zy rfl (Yd (o':=130) rfl rfl rfl (Ym rfl rfl ZM rfl ?_))))))))))
 have hin31:=Ke (x:=P 130) (by assumption) (by omega)
 refine VW (rs:=[0]) (Bs:=[_]) rfl (UU (T1 (md:=.var) P _ (by omega))) rfl rfl (YF rfl) (fun _ h=>h) rfl ⟨ZM,⟨_,_,_,rfl⟩,trivial⟩ rfl rfl rfl (.cons .here .nil) (Zk rfl (Ys (t:=32) rfl (fun h38=>?_) (fun h38=>?_)))
 ·try simp only [Y4,ZaL,Zax] at h38
  refine Yb rfl (Yq (v:=.fn _ _) rfl (Yb rfl (Zy rfl (Yb rfl (Yd (o':=130) rfl rfl rfl (Yb rfl (Ym rfl rfl ZM rfl (Yb rfl (Zj rfl (Yb rfl ?_))))))))))
  have hin38:=Ke (x:=P 130) (by assumption) (by omega)
  refine Yt rfl (uY hin38.1 (by omega)) rfl rfl rfl (Yb rfl ?_)
  have hin39:=Ke (x:=P 130) (by assumption) (by omega)
  refine VW (rs:=[0]) (Bs:=[_]) rfl (UU (T1 (md:=.var) P _ (by omega))) rfl rfl (YF rfl) (fun _ h=>h) rfl ⟨ZM,⟨_,_,_,rfl⟩,trivial⟩ rfl rfl rfl (.cons .here .nil) (Zq rfl (Zk rfl (Ys (t:=41) rfl (fun h39=>?_) (fun h39=>?_))))
  ·try simp only [Y4,ZaL,Zax] at h39
   refine Yb rfl (Yo rfl rfl ZM (Yb rfl (Zy rfl (Yb rfl (Yd (o':=128) rfl rfl rfl (Yb rfl (Ym rfl rfl ZM rfl (Yb rfl (Yu rfl (YG (Uc _)) rfl rfl rfl (Yb rfl (Zy rfl (Yb rfl (Yd (o':=130) rfl rfl rfl (Yb rfl (Ym rfl rfl ZM rfl (Yb rfl (Zj rfl (Yb rfl (jX rfl (by omega) (Yb rfl ?_))))))))))))))))))))
   have hin52:=Ke (x:=P 130) (by assumption) (by omega)
   refine Yu rfl (uw hin52.1 (by omega)) rfl rfl rfl (Yb rfl (Yt rfl (YG (Va _ _ _ _ (by omega))) rfl rfl rfl (Zq rfl (Zk rfl (Zg rfl (ZI ?_))))))
   have ho:=Uq hs
   have hra:=VU (P 130)
   rw [ZaP]
   simp only [Xu,Y4,ZaL,ZaF,Za3,Za5,ho] at *
   omega
  try simp only [Y4,ZaL,Zax] at h39
  refine ZF rfl (ZE rfl (Zq rfl (Zk rfl (Zg rfl (ZI ?_)))))
  have ho:=Uq hs
  have hra:=VU (P 130)
  rw [ZaP]
  simp only [Xu,Y4,ZaL,ZaF,Za3,Za5,ho] at *
  omega
 try simp only [Y4,ZaL,Zax] at h38
 refine ZE rfl (ZD rfl (ZC rfl (Zq rfl (Zk rfl (ZF rfl (ZE rfl (Zq rfl (Zk rfl (Zg rfl (ZI ?_))))))))))
 have ho:=Uq hs
 have hra:=VU (P 130)
 rw [ZaP]
 simp only [Xu,Y4,ZaL,ZaF,Za3,Za5,ho] at *
 omega
theorem wn {P Q:Nat->Int} (h:∀ i,i < 128->P i=Q i) (c:Int):∀ n:Nat,n<=64->kM P c n=kM Q c n
 | 0,_=>rfl
 | n+1,hn=>by
  have hq:sqI n=0+(n:Int).toNat*2:=rfl
  unfold kM
  rw [wn h c n (by omega),h (sqI n) (by omega),h (sqI n+1) (by omega)]
theorem jU {P Q:Nat->Int} (h:∀ i,i < 128->P i=Q i) {s:Nat} (hs:s < 64):okM P s=okM Q s:=by
 have hq:sqI s=0+(s:Int).toNat*2:=rfl
 unfold okM
 rw [h (sqI s) (by omega),h (sqI s+1) (by omega)]
theorem km {P Q:Nat->Int} (h:∀ i,i < 133->P i=Q i):WW P=WW Q:=by
 have hl:∀ i,i < 128->P i=Q i:=fun i hi=>h i (by omega)
 have ho:(∀ s:Nat,s < 64->okM P s)↔(∀ s:Nat,s < 64->okM Q s):=⟨fun a s hs=>(jU hl hs) ▸ a s hs,fun a s hs=>(jU hl hs).symm ▸ a s hs⟩
 unfold WW
 rw [ZaP,ZaL,ZaL,ho,wn hl 0 64 (by omega),wn hl 1 64 (by omega),h 128 (by omega)]
theorem QU {P Q:Nat->Int} (h:∀ i,i < 133->P i=Q i) {x k c:Int} (hx:0<=x/\x < 64):Y4 P x k c=Y4 Q x k c:=by
 have hq:sqI x=0+x.toNat*2:=rfl
 unfold Y4
 rw [h (sqI x) (by omega),h (sqI x+1) (by omega)]
theorem JL {P Q:Nat->Int} (h:∀ i,i < 133->P i=Q i) {s a b:Int} (ha:0<=a/\a < 64) (hb:0<=b/\b < 64):Xc P s a b=Xc Q s a b:=by
 have hq:sqI a=0+a.toNat*2:=rfl
 have hq2:sqI b=0+b.toNat*2:=rfl
 unfold Xc
 rw [h (sqI a) (by omega),h (sqI a+1) (by omega),h (sqI b) (by omega),h (sqI b+1) (by omega)]
theorem qV {P Q:Nat->Int} (h:∀ i,i < 133->P i=Q i):Y1 P=Y1 Q:=by
 unfold Y1
 rw [h 129 (by omega),JL h (by omega) (by omega),JL h (by omega) (by omega),JL h (by omega) (by omega),JL h (by omega) (by omega)]
theorem vG {P Q:Nat->Int} (h:∀ i,i < 133->P i=Q i):Xu P=Xu Q:=by
 unfold Xu
 rw [h 130 (by omega),h 131 (by omega),h 128 (by omega)]
 by_cases hx:(0<=Q 130/\Q 130 < 64)/\(Q 130 / 8=2\/Q 130 / 8=5)
 ·rw [QU h (x:=Q 130) (by omega),QU h (x:=Q 130 - 8) (by omega),QU h (x:=Q 130+8) (by omega),QU h (x:=Q 130+8) (by omega),QU h (x:=Q 130 - 8) (by omega)]
 rw [ZaP,ZaL,ZaL]
 constructor
 ·rintro (e | ⟨e,_,⟨_,f,_⟩ | ⟨_,f,_⟩⟩)
  ·exact .inl e
  ·exact absurd ⟨e,.inl f⟩ hx
  exact absurd ⟨e,.inr f⟩ hx
 rintro (e | ⟨e,_,⟨_,f,_⟩ | ⟨_,f,_⟩⟩)
 ·exact .inl e
 ·exact absurd ⟨e,.inl f⟩ hx
 exact absurd ⟨e,.inr f⟩ hx
theorem EM (P:Nat->Int):∀ i,i < 133->ovA (fun _=>0) 0 133 (ovA (fun _=>0) 0 133 P) i=P i:=fun i hi=>by
 rw [X1 (by omega),Nat.sub_zero,X1 (by omega),Nat.sub_zero]
theorem WS {P:Nat->Int} {a b c r:Bool} (ha:a=WW P) (hb:a=true->b=Y1 P) (hc:a=true->b=true->c=Xu P) (hr:r=(a&&b&&c&&decide (0<=P 131/\P 131<=1024/\1<=P 132/\P 132<=16384))):r=VO P:=by
 subst hr ha
 unfold VO
 cases hp:WW P with
 | false=>simp
 | true =>
  have hb:=hb hp
  subst hb
  cases hq:Y1 P with
  | false=>simp
  | true =>
   have hc:=hc hp hq
   subst hc
   simp
theorem pU (P:Nat->Int):WR AM 98 [.agg 133 (ia P)] [] (fun v _ _=>v=.s (.bool (VO P))):=by
 refine YJ (a:=a98) rfl rfl (YI _) (ZQ rfl) (m:=0) rfl (Ze (YC rfl (Yq rfl (Zf (Yo rfl rfl ZM (YB rfl (.agg rfl .nil) (Yy (Yz rfl rfl rfl rfl .here (Zf (Yo rfl rfl ZM ?_))))))))))
 obtain ⟨bp,hbp⟩:∃ b,b=WW P:=⟨_,rfl⟩
 have hP:=YG (pE (ovA (fun _=>0) 0 133 (ovA (fun _=>0) 0 133 P)))
 rw [km (EM P),<- hbp] at hP
 refine Yt rfl (hP) rfl rfl rfl (Zk rfl (Ys (t:=8) rfl (fun h51=>?_) (fun h51=>?_)))
 ·refine Yb rfl (Yo rfl rfl ZM (Yb rfl ?_))
  obtain ⟨bc,hbc⟩:∃ b,b=Y1 P:=⟨_,rfl⟩
  have hC:=YG (tW (ovA (fun _=>0) 0 133 (ovA (fun _=>0) 0 133 P)))
  rw [qV (EM P),<- hbc] at hC
  refine Yt rfl (hC) rfl rfl rfl (Zq rfl (Zk rfl (Ys (t:=12) rfl (fun h52=>?_) (fun h52=>?_))))
  ·refine Yb rfl (Yo rfl rfl ZM (Yb rfl ?_))
   have hbt:bp=true:=by assumption
   have hs:=(R0 (P:=P) (by rw [<- hbp]; exact hbt)).2.2.2
   obtain ⟨bo,hbo⟩:∃ b,b=Xu P:=⟨_,rfl⟩
   have hO:=YG (over_ok (ovA (fun _=>0) 0 133 (ovA (fun _=>0) 0 133 P)) hs)
   rw [vG (EM P),<- hbo] at hO
   refine Yt rfl (hO) rfl rfl rfl (Zq rfl (Zk rfl (Ys (t:=16) rfl (fun h53=>?_) (fun h53=>?_))))
   ·refine Yb rfl (Yd (o':=131) rfl rfl rfl (Yb rfl (Ym (x:=P 131) rfl rfl ZN (rfl) (Yb rfl (Zr rfl (Zq rfl (Zk rfl (Ys (t:=21) rfl (fun h54=>?_) (fun h54=>?_))))))))) <;> simp only [NM] at h54
    ·refine Yb rfl (Yd (o':=131) rfl rfl rfl (Yb rfl (Ym (x:=P 131) rfl rfl ZN (rfl) (Yb rfl (Zr rfl (Zq rfl (Zk rfl (Ys (t:=26) rfl (fun h55=>?_) (fun h55=>?_))))))))) <;> simp only [NM] at h55
     ·refine Yb rfl (Yd (o':=132) rfl rfl rfl (Yb rfl (Ym (x:=P 132) rfl rfl ZN (rfl) (Yb rfl (Zr rfl (Zq rfl (Zk rfl (Ys (t:=31) rfl (fun h56=>?_) (fun h56=>?_))))))))) <;> simp only [NM] at h56
      ·refine Yb rfl (Yd (o':=132) rfl rfl rfl (Yb rfl (Ym (x:=P 132) rfl rfl ZN (rfl) (Yb rfl (Zr rfl (Zq rfl (Zk rfl (Zg rfl (congrArg (fun b=>V.s (S.bool b)) (WS (b:=bc) (c:=bo) hbp (fun _=>hbc) (fun _ _=>hbo) ?_))))))))))
       clear hbp hbc hbo hP hC hO
       (simp [*]; done)
      refine ZD rfl (ZC rfl (Zq rfl (Zk rfl (Zg rfl (congrArg (fun b=>V.s (S.bool b)) (WS (b:=bc) (c:=bo) hbp (fun _=>hbc) (fun _ _=>hbo) ?_))))))
      clear hbp hbc hbo hP hC hO
      (subst_vars; simp only [Bool.true_and]; rw [ZaP]; simp only [ZaL,ZaF,Za3,Za5]; omega)
     refine ZD rfl (ZC rfl (Zq rfl (Zk rfl (ZD rfl (ZC rfl (Zq rfl (Zk rfl (Zg rfl (congrArg (fun b=>V.s (S.bool b)) (WS (b:=bc) (c:=bo) hbp (fun _=>hbc) (fun _ _=>hbo) ?_))))))))))
     clear hbp hbc hbo hP hC hO
     (subst_vars; simp only [Bool.true_and]; rw [ZaP]; simp only [ZaL,ZaF,Za3,Za5]; omega)
    refine ZD rfl (ZC rfl (Zq rfl (Zk rfl (ZD rfl (ZC rfl (Zq rfl (Zk rfl (ZD rfl (ZC rfl (Zq rfl (Zk rfl (Zg rfl (congrArg (fun b=>V.s (S.bool b)) (WS (b:=bc) (c:=bo) hbp (fun _=>hbc) (fun _ _=>hbo) ?_))))))))))))))
    clear hbp hbc hbo hP hC hO
    (subst_vars; simp only [Bool.true_and]; rw [ZaP]; simp only [ZaL,ZaF,Za3,Za5]; omega)
   refine Ya rfl rfl (ZD rfl (Zq rfl (Zk rfl (ZD rfl (ZC rfl (Zq rfl (Zk rfl (ZD rfl (ZC rfl (Zq rfl (Zk rfl (ZD rfl (ZC rfl (Zq rfl (Zk rfl (Zg rfl (congrArg (fun b=>V.s (S.bool b)) (WS (b:=bc) (c:=bo) hbp (fun _=>hbc) (fun _ _=>hbo) ?_))))))))))))))))))
   clear hbp hbc hbo hP hC hO
   (simp [*]; done)
  refine Ya rfl rfl (ZC rfl (Zq rfl (Zk rfl (ZD rfl (ZC rfl (Zq rfl (Zk rfl (ZD rfl (ZC rfl (Zq rfl (Zk rfl (ZD rfl (ZC rfl (Zq rfl (Zk rfl (ZD rfl (ZC rfl (Zq rfl (Zk rfl (Zg rfl ?_))))))))))))))))))))
  exact congrArg (fun b=>V.s (S.bool b)) (WS (b:=bc) (c:=Xu P) hbp (fun _=>hbc) (fun _ _=>rfl) (by clear hbp hbc hP hC; simp [*]))
 refine Ya rfl rfl (ZC rfl (Zq rfl (Zk rfl (ZD rfl (Zq rfl (Zk rfl (ZD rfl (ZC rfl (Zq rfl (Zk rfl (ZD rfl (ZC rfl (Zq rfl (Zk rfl (ZD rfl (ZC rfl (Zq rfl (Zk rfl (ZD rfl (ZC rfl (Zq rfl (Zk rfl (Zg rfl ?_)))))))))))))))))))))))
 exact congrArg (fun b=>V.s (S.bool b)) (WS (b:=Y1 P) (c:=Xu P) hbp (fun _=>rfl) (fun _ _=>rfl) (by clear hbp hP; simp [*]))
end Go.Proofs.YtlkighkfkdpncaaGreatDoor
namespace Go.Am
open Go
section
variable {A:AP} {N:Nat} {f:FE} {n:Nat} {L:HA} {K:KN} {Zp:V->KN} {l:List I} {d:Nat}
theorem K4 {len z:Nat} {x:O} {b o z':Nat} (hx:x.fv N f=.ptr b o z') (hz:Nat.ble (len*z) z'=true) (h0:0 < len) (k:WO A N l (upd f d (.sl b o len z (.ex len))) n L K Zp):WO A N (⟨some d,none,.p (.slA len z x none none)⟩::l) f n L K Zp :=
 Vt (v:=.sl b o len z (.ex len)) (by
  simp only [YV,Y6,hx,uC,fvb,Za8 (YF hz)]
  rw [Za8 (by omega),Za8 (by omega)]
  simp) k
end
end Go.Am
namespace Go.Proofs.YtlkighkfkdpncaaGreatDoor
open Go Go.Am
def IsFst (S1:Nat->Bool) (n:Nat) (x:Int):Prop:=(x=-1/\∀ j:Nat,j < n->S1 j=false)\/(∃ i:Nat,i < n/\x=i/\S1 i=true/\∀ j:Nat,j < i->S1 j=false)
def lstM (S1:Nat->Bool):Nat->Nat × (Nat->Int)
 | 0=>(0,fun _=>0)
 | i+1=>if S1 i=true then ((lstM S1 i).1+1,fun j=>if j < (lstM S1 i).1 then (lstM S1 i).2 j else i) else lstM S1 i
def stB (P X:Nat->Int) (s:Nat):Bool:=Y4 P s (X 0) (X 1)
abbrev kgX (s:Int):Nat->Int:=ov (ov (fun _=>0) 0 6) 1 s
def Q8 (x:Int):List Int->Int
 | []=>-1
 | y::l=>if x=y then 0 else if Q8 x l=-1 then -1 else Q8 x l+1
theorem uv (x:Int):∀ l:List Int,-1<=Q8 x l/\Q8 x l < l.length
 | []=>⟨Int.le_refl _,by simp [Q8]⟩
 | y::l=>by
  have:=uv x l
  unfold Q8
  rw [Zbq]
  split
  ·omega
  split <;> omega
theorem u6 {x:Int}:∀ {l:List Int},(∀ i:Nat,i < l.length->l.getD i 0≠x)->Q8 x l=-1
 | [],_=>rfl
 | y::l,h=>by
  unfold Q8
  have h0:=h 0 (by simp)
  have ih:=u6 (x:=x) (l:=l) fun i hi=>by have:=h (i+1) (by simpa using hi); simpa using this
  rw [Za7 (fun e=>h0 (by simp [e])),Za8 ih]
theorem uM {x:Int}:∀ {l:List Int} {i:Nat},i < l.length->l.getD i 0=x->(∀ j:Nat,j < i->l.getD j 0≠x)->Q8 x l=i
 | [],i,h,_,_=>by simp at h
 | y::l,0,_,h,_=>by
  unfold Q8
  rw [Za8 (by simpa using h.symm)]; rfl
 | y::l,i+1,hi,h,hn=>by
  unfold Q8
  have h0:=hn 0 (by omega)
  have ih:=uM (x:=x) (l:=l) (i:=i) (by simpa using hi) (by simpa using h) fun j hj=>by have:=hn (j+1) (by omega); simpa using this
  rw [Za7 (fun e=>h0 (by simp [e])),Za7 (by omega),ih]; omega
theorem kX {x:Int}:∀ {l:List Int},0<=Q8 x l↔x∈l
 | []=>by simp [Q8]
 | y::l=>by
  have ih:=kX (x:=x) (l:=l)
  have:=uv x l
  unfold Q8
  rw [ZaX]
  by_cases e:x=y
  ·rw [Za8 e]; simp [e]
  rw [Za7 e]
  simp only [e,false_or]
  rw [<- ih]
  split <;> omega
theorem ld1 {F:Nat->Int} {l:List Int} (hF:∀ i,i < l.length->F i=l.getD i 0) {i:Nat} (hi:i < l.length):F (0+(i:Int).toNat*1)=l.getD i 0:=by
 rw [show 0+(i:Int).toNat*1=i by omega]; exact hF i hi
theorem KO {l:List Int}:l.length=l.length*1:=(Nat.mul_one _).symm
theorem rY (x:Int) (l:List Int) (hlen:l.length<=1000000):RdR AM 136 1 [] [.s (.int .i64 x)] l (.s (.int .i64 (Q8 x l))):=by
 refine Ql fun v Bs hc=>?_
 refine YJ (a:=a136) rfl rfl (YI _) (ZQ rfl) rfl ?_ (by first | rfl | (cases hc <;> rfl))
 have hr0:=hc.rx
 rw [show Xb 0 Bs=Xb 0 Bs++[] from (ZaQ _).symm]
 generalize hown:Xb 0 Bs=own0 at hr0 ⊢
 refine Ze (Yq rfl (Yc (Ye (Ze (Yq (v:=v) rfl (Wq rfl hr0 (by decide) KO (Yq rfl (Yc (Yk (Xm (ZaE (.refl _) .slnil) (Xp (fun m f _ L=>∃ (i:Nat),(i<=l.length)/\(m=l.length - i)/\(∀ j:Nat,j < i->l.getD j 0≠x)/\(f 0=v)/\(f 1=.s (.int .i64 x))/\(f 7=.s (.int .i64 l.length))/\(f 8=.s (.int .i64 i))/\(L=(own0++[]))) (fun m f nb L hI=>?_) (l.length) (⟨0,by omega,by omega,fun j hj=>by omega,rfl,rfl,rfl,rfl,rfl⟩))))))))))))
 obtain ⟨i,hi,hm,hn,k0,k1,k7,k8,rfl⟩:=hI
 refine Za 0 k0 (Za 1 k1 (Za 7 k7 (Za 8 k8 (Ze (Zr rfl (Yc (Ye (Yj rfl (fun h1=>?_) (fun h1=>?_))))))))) <;> simp only [NM] at h1
 ·refine Yh (Ye (Yk (Ze (Zj rfl (Zj rfl (Zf (Zj rfl (Yq (v:=v) rfl (Zj rfl ?_)))))))))
  obtain ⟨b0,q0,md0,c0,F0,rfl,rfl,hF0⟩:=hr0.at (by decide) KO (by omega)
  refine Zx rfl rfl (Ym (x:=l.getD i 0) rfl rfl ZM (ld1 hF0 (by omega)) (Zr rfl (Yc (Yj rfl (fun h2=>?_) (fun h2=>?_))))) <;> simp only [NM] at h2
  ·refine Ze (Zj rfl (Zj rfl (Yc (Yi (⟨_,ZL rfl,?_⟩)))))
   refine ⟨ZJ ?_,(fun _ h=>h)⟩
   exact (uM (by omega) (by omega) hn).symm
  refine Yh (Yf (Zs rfl rfl (Zj rfl (Yc (⟨l.length - (i+1),_,by omega,(.refl _),i+1,by omega,rfl,?_,rfl,rfl,rfl,rfl,rfl⟩)))))
  intro j hj
  by_cases e:j=i
  ·subst e; exact fun e=>by omega
  exact hn j (by omega)
 refine YX (Xe (Ze (Yq rfl (Yc (Yi (⟨_,ZL rfl,?_⟩))))))
 refine ⟨ZJ ?_,(fun _ h=>h)⟩
 exact (u6 fun j hj=>hn j (by omega)).symm
theorem vh (x:Int) (l:List Int) (hlen:l.length<=1000000):RdR AM 114 1 [] [.s (.int .i64 x)] l (.s (.bool (decide (x∈l)))):=by
 refine Ql fun v Bs hc=>?_
 refine YJ (a:=a114) rfl rfl (YI _) (ZQ rfl) rfl ?_ (by first | rfl | (cases hc <;> rfl))
 have hr0:=hc.rx
 rw [show Xb 0 Bs=Xb 0 Bs++[] from (ZaQ _).symm]
 generalize hown:Xb 0 Bs=own0 at hr0 ⊢
 refine Ze (Yq rfl (Zf (Yq (v:=v) rfl (Zj rfl (Wp (caps:=[]) rfl (rY x l hlen) rfl (hr0) (fun _ h=>(ZaC _ h)) rfl rfl rfl (Zr rfl (Zk rfl (Zg rfl (⟨ZI ?_,(fun _ h=>h)⟩)))))))))
 exact decide_eq_decide.2 kX
theorem muM_pos {s f r:Int} (h:0<=s/\s < 64):1<=muM s f r:=by
 unfold muM
 rw [Za7 (by omega)]
 split
 ·omega
 split
 ·omega
 split <;> omega
theorem kA {p r t:Int} {k:Nat} (hz:¬ (p=0/\r=0)) (ht:t≠-1) (hb:-1<=t/\t < 64) (hk:muM t p r<=k+1):∃ k',Vm p r k t=(if YR t p r=-1 then [] else YR t p r::Vm p r k' (YR t p r))/\muM (YR t p r) p r<=k'+1:=by
 have hs:=yu hz ht hb
 match k with
 | 0 =>
  have hb':=Ug t p r
  have:YR t p r=-1:=by
   by_cases e:YR t p r=-1
   ·exact e
   have:=muM_pos (f:=p) (r:=r) (s:=YR t p r) (by omega); omega
  exact ⟨0,by rw [Za8 this]; rfl,by omega⟩
 | k+1=>exact ⟨k,rfl,by omega⟩
theorem J0 (f r:Int):∀ (k:Nat) (s:Int),(Vm f r k s).length<=k
 | 0,_=>Za1 _
 | k+1,s=>by
  unfold Vm
  split
  ·simp
  have:=J0 f r k (YR s f r); rw [Zbq]; omega
theorem sG {a b:List Int} {n:Nat} (h:(a++b).length<=n):a.length<=n:=by rw [ZaG] at h; omega
theorem ray_rt (s p r:Int) (hz:¬ (p=0/\r=0)):RtR AM 168 1 [.s (.int .i64 s),.s (.int .i64 p),.s (.int .i64 r)] [] (Vm p r 8 s) []:=by
 refine Vs (YJ (a:=a168) rfl rfl (YI _) (ZQ rfl) (m:=0) rfl (Ze (Yq rfl (Yc (Ye (Ze (Zj rfl (Zr rfl (Zk rfl (Ys (t:=9) rfl (fun h1=>?_) (fun h1=>?_))))))))))) <;> simp only [NM] at h1
 ·refine Yb rfl (Zj rfl (Yb rfl (Zr rfl (Zq rfl (Yc (Yj rfl (fun h2=>?_) (fun h2=>?_))))))) <;> simp only [NM] at h2
  ·refine Ze (Yq rfl (Yc (Yi (⟨_,YK (v:=.snil) rfl (YP),?_⟩))))
   exfalso; omega
  refine Yh (Ye (Ze (Zj rfl (Zj rfl (Zj rfl (Yt rfl (UO _ _ _) rfl rfl rfl (Zj rfl (Yc (Yk (Xm .slnil (Xp (fun m f _ L=>∃ (t:Int) (acc:List Int) (k:Nat) (vO:V) (ownO:HA),(Vm p r 8 s=acc++(if t=-1 then [] else t::Vm p r k t))/\(muM t p r<=k+1)/\(m=muM t p r)/\(-1<=t/\t < 64)/\(Rw 1 (acc) vO ownO)/\(f 0=.s (.int .i64 t))/\(f 1=.s (.int .i64 p))/\(f 2=.s (.int .i64 r))/\(f 6=vO)/\(L=(ownO++[]))) (fun m f nb L hI=>?_) (muM (YR s p r) p r) (⟨YR s p r,[],7,.snil,[],rfl,rt (Ug s p r).2,rfl,Ug s p r,.nil rfl,rfl,rfl,rfl,rfl,rfl⟩))))))))))))
  obtain ⟨t,acc,k,vO,ownO,hacc,hk,hm,hb,hrO,k0,k1,k2,k6,rfl⟩:=hI
  refine Za 0 k0 (Za 1 k1 (Za 2 k2 (Za 6 k6 (Ye (Ze (Zj rfl (Zr rfl (Yc (Yj rfl (fun h3=>?_) (fun h3=>?_)))))))))) <;> simp only [NM] at h3
  ·refine Yh (Ye (Yk (Yf (Yq (v:=vO) rfl (Zj rfl (Xo rfl (.one rfl .nil) (XK (c:=[t]) rfl hrO rfl ZM (.there .here) (by decide) (by decide) rfl (Ko) (by have:=sG (b:=if t=-1 then [] else t::Vm p r k t) (by rw [<- hacc]; exact J0 p r 8 s); omega) (fun v1 own1 n1 hr1=>Yq (v:=v1) rfl (Yc (Yf (Zj rfl (Zj rfl (Zj rfl (Yt rfl (UO _ _ _) rfl rfl rfl (Zj rfl (Yc ?_))))))))))))))))
   have ht:t≠-1:=by omega
   obtain ⟨k2,hk1,hk2⟩:=kA hz ht hb hk
   refine ⟨muM (YR t p r) p r,_,by rw [hm]; exact yu hz ht hb,(ZaE (.refl _) (.cons _ .slnil)),YR t p r,acc++[t],k2,_,_,?_,hk2,rfl,Ug t p r,hr1,rfl,rfl,rfl,rfl,rfl⟩
   rw [hacc,Za7 ht,hk1,ZaJ]; rfl
  refine YX (Xe (Ze (Yq (v:=vO) rfl (Yq (v:=vO) rfl (Yc (Yi (⟨_,YK (v:=vO) rfl (YP),?_⟩)))))))
  have ht:t=-1:=by omega
  rw [Za8 ht,ZaQ] at hacc
  exact ⟨_,hacc ▸ hrO,(fun _ h=>(ZaC _ h))⟩
 refine ZD rfl (Zq rfl (Yc (ZB rfl (Yh (Ye (Ze (Zj rfl (Zj rfl (Zj rfl (Yt rfl (UO _ _ _) rfl rfl rfl (Zj rfl (Yc (Yk (Xm .slnil (Xp (fun m f _ L=>∃ (t:Int) (acc:List Int) (k:Nat) (vO:V) (ownO:HA),(Vm p r 8 s=acc++(if t=-1 then [] else t::Vm p r k t))/\(muM t p r<=k+1)/\(m=muM t p r)/\(-1<=t/\t < 64)/\(Rw 1 (acc) vO ownO)/\(f 0=.s (.int .i64 t))/\(f 1=.s (.int .i64 p))/\(f 2=.s (.int .i64 r))/\(f 6=vO)/\(L=(ownO++[]))) (fun m f nb L hI=>?_) (muM (YR s p r) p r) (⟨YR s p r,[],7,.snil,[],rfl,rt (Ug s p r).2,rfl,Ug s p r,.nil rfl,rfl,rfl,rfl,rfl,rfl⟩))))))))))))))))
 obtain ⟨t,acc,k,vO,ownO,hacc,hk,hm,hb,hrO,k0,k1,k2,k6,rfl⟩:=hI
 refine Za 0 k0 (Za 1 k1 (Za 2 k2 (Za 6 k6 (Ye (Ze (Zj rfl (Zr rfl (Yc (Yj rfl (fun h4=>?_) (fun h4=>?_)))))))))) <;> simp only [NM] at h4
 ·refine Yh (Ye (Yk (Yf (Yq (v:=vO) rfl (Zj rfl (Xo rfl (.one rfl .nil) (XK (c:=[t]) rfl hrO rfl ZM (.there .here) (by decide) (by decide) rfl (Ko) (by have:=sG (b:=if t=-1 then [] else t::Vm p r k t) (by rw [<- hacc]; exact J0 p r 8 s); omega) (fun v2 own2 n2 hr2=>Yq (v:=v2) rfl (Yc (Yf (Zj rfl (Zj rfl (Zj rfl (Yt rfl (UO _ _ _) rfl rfl rfl (Zj rfl (Yc ?_))))))))))))))))
  have ht:t≠-1:=by omega
  obtain ⟨k2,hk1,hk2⟩:=kA hz ht hb hk
  refine ⟨muM (YR t p r) p r,_,by rw [hm]; exact yu hz ht hb,(ZaE (.refl _) (.cons _ .slnil)),YR t p r,acc++[t],k2,_,_,?_,hk2,rfl,Ug t p r,hr2,rfl,rfl,rfl,rfl,rfl⟩
  rw [hacc,Za7 ht,hk1,ZaJ]; rfl
 refine YX (Xe (Ze (Yq (v:=vO) rfl (Yq (v:=vO) rfl (Yc (Yi (⟨_,YK (v:=vO) rfl (YP),?_⟩)))))))
 have ht:t=-1:=by omega
 rw [Za8 ht,ZaQ] at hacc
 exact ⟨_,hacc ▸ hrO,(fun _ h=>(ZaC _ h))⟩
theorem wZ (i:Nat):Wg (i+1)=Wg i++[(i:Int)]:=by
 unfold Wg
 rw [List.range_succ,List.map_append]; rfl
theorem Ev (p:Int->Bool) (i:Nat):((Wg i).filter p).length<=i:=by
 refine ZaZ (Zbk _ _) ?_
 unfold Wg
 rw [List.length_map,List.length_range]; exact Za1 _
theorem yl {p:Int->Bool} {i:Nat} (h:p i=true):(Wg (i+1)).filter p=(Wg i).filter p++[(i:Int)]:=by
 rw [wZ,List.filter_append]; simp [h]
theorem filt_no {p:Int->Bool} {i:Nat} (h:p i=false):(Wg (i+1)).filter p=(Wg i).filter p:=by
 rw [wZ,List.filter_append]; simp [h]
def isX (P X:Nat->Int) (s:Int):Bool:=decide (P (sqI s)=X 0/\P (sqI s+1)=X 1)
def TU (P X:Nat->Int):List Int:=(Wg 64).filter (isX P X)
theorem rZ {P X Q:Nat->Int} {s:Nat} (hQ:∀ j,j < 2->Q j=P (sqI s+j)):eqI 2 X Q=isX P X s:=by
 unfold isX
 rw [ZaP,Uw,ZaL]
 constructor
 ·intro h
  have h0:=h 0 (by omega); have h1:=h 1 (by omega)
  rw [hQ 0 (by omega)] at h0; rw [hQ 1 (by omega)] at h1
  exact ⟨h0.symm,h1.symm⟩
 rintro ⟨h0,h1⟩ i hi
 rw [hQ i hi]
 match i,hi with
 | 0,_=>exact h0.symm
 | 1,_=>exact h1.symm
theorem uk (P X:Nat->Int):RtR AM 55 1 [.agg 133 (ia P),.agg 2 (ia X)] [] (TU P X) []:=by
 refine Vs (YJ (a:=a55) rfl rfl (YI _) (ZQ rfl) (m:=0) rfl (Ze (YC rfl (YC rfl (Yq rfl (Yc (Ye (Ze (Zy rfl (Yo rfl rfl ZN (Yq rfl (Yc (Yk (Xm (.cons_cons _ (.cons _ .slnil)) (Xp (fun m f _ L=>∃ (i:Nat) (vO:V) (ownO:HA),(i<=64)/\(m=64 - i)/\(Rw 1 ((Wg i).filter (isX P X)) vO ownO)/\(f 3=.ptr 1 0 2)/\(f 4=vO)/\(f 8=.agg 128 (ia P))/\(f 9=.s (.int .i64 i))/\(L=(ownO++[(1,.sc .var 2 (ia X))]))) (fun m f nb L hI=>?_) (64) (⟨0,.snil,[],by omega,rfl,.nil rfl,rfl,rfl,rfl,rfl,rfl⟩))))))))))))))))
 obtain ⟨i,vO,ownO,hi,hm,hrO,k3,k4,k8,k9,rfl⟩:=hI
 refine Za 3 k3 (Za 4 k4 (Za 8 k8 (Za 9 k9 (Ze (Zr rfl (Yc (Ye (Yj rfl (fun h5=>?_) (fun h5=>?_))))))))) <;> simp only [NM] at h5
 ·refine Yh (Ye (Yk (Ze (Zj rfl (xQ rfl rfl rfl (by omega) (Yy (Zj rfl (Yz rfl rfl rfl rfl .here (Zf (Yo rfl rfl (.tail _ (Zaz _ ZM)) (Yo rfl rfl ZM (Yw rfl rfl (Yc (Yj rfl (fun h6=>?_) (fun h6=>?_))))))))))))))) <;> simp only [NM] at h6
  ·refine Yf (Yq (v:=vO) rfl (Zj rfl (Xo rfl (.one rfl .nil) (XK (c:=[(i:Int)]) rfl hrO rfl ZM (.there (.there .here)) (by decide) (by decide) rfl (Ko) (by have:=Ev (isX P X) i; omega) (fun v1 own1 n1 hr1=>Yq (v:=v1) rfl (Yc (Yf (Zs rfl rfl (Zj rfl (Yc ?_))))))))))
   have e0:∀ j,j < 2->ovA (fun _=>0) 0 2 (dp P ((i:Int).toNat*2)) j=P (sqI i+j):=fun j hj=>by rw [X1 (by omega)]; have hq:sqI (i:Int)=0+(i:Int).toNat*2:=rfl; exact congrArg P (by omega)
   refine ⟨64 - (i+1),_,by omega,(ZaE (.refl _) (.cons _ (.cons _ (.refl _)))),i+1,_,_,by omega,rfl,?_,rfl,rfl,rfl,rfl,rfl⟩
   exact (yl (p:=isX P X) (i:=i) (by rw [<- rZ e0]; assumption)).symm ▸ hr1
  refine Yh (Yf (Zs rfl rfl (Zj rfl (Yc ?_))))
  have e0:∀ j,j < 2->ovA (fun _=>0) 0 2 (dp P ((i:Int).toNat*2)) j=P (sqI i+j):=fun j hj=>by rw [X1 (by omega)]; have hq:sqI (i:Int)=0+(i:Int).toNat*2:=rfl; exact congrArg P (by omega)
  refine ⟨64 - (i+1),_,by omega,(.cons _ (ZaE (.refl _) (.refl _))),i+1,_,_,by omega,rfl,?_,rfl,rfl,rfl,rfl,rfl⟩
  exact (filt_no (p:=isX P X) (i:=i) (by rw [<- rZ e0]; assumption)).symm ▸ hrO
 refine YX (Xe (Ze (Yq (v:=vO) rfl (Yq (v:=vO) rfl (Yc (Yi (⟨_,YK (v:=vO) rfl (YP),?_⟩)))))))
 obtain rfl:i=64:=by omega
 exact ⟨_,hrO,(fun _ h=>(ZaC _ h))⟩
def Wk (l:List (Int × Int)):List Int:=l.flatMap fun w=>[w.1,w.2]
theorem Qp:∀ l:List (Int × Int),(Wk l).length=l.length*2
 | []=>rfl
 | w::l=>by
  have:=Qp l
  unfold Wk at *
  rw [Zbo,ZaG,this]
  simp only [Zbq,List.length_nil]
  omega
theorem yo:∀ {l:List (Int × Int)} {i:Nat},i < l.length->(Wk l).getD (i*2) 0=(l.getD i (0,0)).1/\(Wk l).getD (i*2+1) 0=(l.getD i (0,0)).2
 | [],i,h=>absurd (show i < 0 from h) (by omega)
 | w::l,0,_=>⟨rfl,rfl⟩
 | w::l,i+1,h=>by
  have:=yo (l:=l) (i:=i) (by simpa using h)
  have e:Wk (w::l)=w.1::w.2::Wk l:=rfl
  rw [e,show (i+1)*2=i*2+1+1 by omega,show i*2+1+1+1=i*2+1+1+1 from rfl]
  simpa using this
theorem way0 {F:Nat->Int} {l:List (Int × Int)} (hF:∀ i,i < (Wk l).length->F i=(Wk l).getD i 0) {i:Nat} (hi:i < l.length):F (0+(i:Int).toNat*2+0)=(l.getD i (0,0)).1:=by
 rw [show 0+(i:Int).toNat*2+0=i*2 by omega,hF _ (by rw [Qp]; omega),(yo hi).1]
theorem way1 {F:Nat->Int} {l:List (Int × Int)} (hF:∀ i,i < (Wk l).length->F i=(Wk l).getD i 0) {i:Nat} (hi:i < l.length):F (0+(i:Int).toNat*2+1)=(l.getD i (0,0)).2:=by
 rw [show 0+(i:Int).toNat*2+1=i*2+1 by omega,hF _ (by rw [Qp]; omega),(yo hi).2]
theorem Vh {α:Type} {l:List α} {i:Nat} (d:α) (hi:i < l.length):l.take (i+1)=l.take i++[l.getD i d]:=by
 rw [List.take_succ_eq_append_getElem hi,Zau,Zav hi]; rfl
theorem sI {s:Int} {l:List (Int × Int)} {i:Nat} (hi:i < l.length) (h:YR s (l.getD i (0,0)).1 (l.getD i (0,0)).2≠-1):X4 s (l.take (i+1))=X4 s (l.take i)++[YR s (l.getD i (0,0)).1 (l.getD i (0,0)).2]:=by
 unfold X4
 rw [Vh (0,0) hi,List.map_append,List.filter_append]
 generalize l.getD i (0,0)=w at h ⊢
 simp [h]
theorem go {s:Int} {l:List (Int × Int)} {i:Nat} (hi:i < l.length) (h:YR s (l.getD i (0,0)).1 (l.getD i (0,0)).2=-1):X4 s (l.take (i+1))=X4 s (l.take i):=by
 unfold X4
 rw [Vh (0,0) hi,List.map_append,List.filter_append]
 generalize l.getD i (0,0)=w at h ⊢
 simp [h]
theorem R3 (s:Int) (l:List (Int × Int)):(X4 s l).length<=l.length:=by
 unfold X4
 exact ZaZ (Zbk _ _) (by simp)
theorem oR (s:Int) (l:List (Int × Int)) (i:Nat):(X4 s (l.take i)).length<=l.length:=ZaZ (R3 _ _) (by rw [ZaN]; exact Nat.min_le_right _ _)
theorem x7 (s:Int) (l:List (Int × Int)) (hlen:l.length<=1000000):wk AM 139 2 1 [.s (.int .i64 s)] [] (Wk l) (X4 s l):=by
 refine yk fun v Bs hc=>?_
 refine YJ (a:=a139) rfl rfl (YI _) (ZQ rfl) rfl ?_ (by first | rfl | (cases hc <;> rfl))
 have hr0:=hc.rx
 rw [show Xb 0 Bs=Xb 0 Bs++[] from (ZaQ _).symm]
 generalize hown:Xb 0 Bs=own0 at hr0 ⊢
 refine Ze (Yq rfl (Yc (Ye (Ze (Yq (v:=v) rfl (Wq rfl hr0 (by decide) (Qp l) (Yq rfl (Yc (Yk (Xm (ZaE (.refl _) .slnil) (Xp (fun m f _ L=>∃ (i:Nat) (vO:V) (ownO:HA),(i<=l.length)/\(m=l.length - i)/\(Rw 1 (X4 s (l.take i)) vO ownO)/\(f 0=.s (.int .i64 s))/\(f 4=vO)/\(f 8=v)/\(f 9=.s (.int .i64 l.length))/\(f 10=.s (.int .i64 i))/\(L=(ownO++(own0++[])))) (fun m f nb L hI=>?_) (l.length) (⟨0,.snil,[],by omega,rfl,.nil rfl,rfl,rfl,rfl,rfl,rfl,rfl⟩))))))))))))
 obtain ⟨i,vO,ownO,hi,hm,hrO,k0,k4,k8,k9,k10,rfl⟩:=hI
 refine Za 0 k0 (Za 4 k4 (Za 8 k8 (Za 9 k9 (Za 10 k10 (Ze (Zr rfl (Yc (Ye (Yj rfl (fun h7=>?_) (fun h7=>?_)))))))))) <;> simp only [NM] at h7
 ·refine Yh (Ye (Yk (Ze ?_)))
  obtain ⟨b0,q0,md0,c0,F0,rfl,rfl,hF0⟩:=hr0.at (by decide) (Qp l) (by omega)
  refine Zx rfl rfl (Yp rfl rfl (Zaz _ ZM) (Yy (Yz rfl rfl rfl rfl .here (Zf (Zj rfl (Zw rfl rfl rfl (Ym (x:=(l.getD i (0,0)).1) rfl rfl ZM (way0 hF0 (by omega)) (Zw rfl rfl rfl (Ym (x:=(l.getD i (0,0)).2) rfl rfl ZM (way1 hF0 (by omega)) (Yt rfl (UO _ _ _) rfl rfl rfl (Zj rfl (Zf (Zj rfl (Zr rfl (Yc (Yj rfl (fun h8=>?_) (fun h8=>?_))))))))))))))))) <;> simp only [NM] at h8
  ·refine Yf (Yq (v:=vO) rfl (Zj rfl (Xo rfl (.one rfl .nil) (XK (c:=[YR s (l.getD i (0,0)).1 (l.getD i (0,0)).2]) rfl hrO rfl ZM (.there (.there .here)) (by decide) (by decide) rfl (Ko) (by have:=oR s l i; omega) (fun v1 own1 n1 hr1=>Yq (v:=v1) rfl (Yc (Yf (Zs rfl rfl (Zj rfl (Yc (⟨l.length - (i+1),_,by omega,(ZaE (.refl _) (.cons _ (.cons _ (.refl _)))),i+1,_,_,by omega,rfl,?_,rfl,rfl,rfl,rfl,rfl,rfl⟩)))))))))))
   exact (sI (l:=l) (i:=i) (by omega) (by omega)).symm ▸ hr1
  refine Yh (Yf (Zs rfl rfl (Zj rfl (Yc (⟨l.length - (i+1),_,by omega,(.cons _ (ZaE (.refl _) (.refl _))),i+1,_,_,by omega,rfl,?_,rfl,rfl,rfl,rfl,rfl,rfl⟩)))))
  exact (go (l:=l) (i:=i) (by omega) (by omega)).symm ▸ hrO
 refine YX (Xe (Ze (Yq (v:=vO) rfl (Yq (v:=vO) rfl (Yc (Yi (⟨_,YK (v:=vO) rfl (YP),?_⟩)))))))
 obtain rfl:i=l.length:=by omega
 rw [List.take_length] at hrO
 exact ⟨_,_,hrO,.here,(fun _ h=>h)⟩
theorem jK :WR AM 137 [] [] (fun v' _ _=>∃ P:Nat->Int,v'=.agg 8 (ia P)/\∀ i,i < 8->P i=(Wk straightL).getD i 0):=by
 refine YJ (a:=a137) rfl rfl (YI _) (ZQ rfl) (m:=0) rfl (Ze (Yy (Zf (YB rfl (.one rfl (.one rfl .nil)) (YB rfl (.one rfl (.one rfl .nil)) (YB rfl (.one rfl (.one rfl .nil)) (YB rfl (.one rfl (.one rfl .nil)) (YB rfl (.agg rfl (.agg rfl (.agg rfl (.agg rfl .nil)))) (Yz rfl rfl rfl rfl .here (Yc (Yi (⟨_,X9 rfl rfl ZM (YP),?_⟩))))))))))))
 refine ⟨_,rfl,?_⟩
 decide
theorem om :WR AM 138 [] [] (fun v' _ _=>∃ P:Nat->Int,v'=.agg 8 (ia P)/\∀ i,i < 8->P i=(Wk slantL).getD i 0):=by
 refine YJ (a:=a138) rfl rfl (YI _) (ZQ rfl) (m:=0) rfl (Ze (Yy (Zf (YB rfl (.one rfl (.one rfl .nil)) (YB rfl (.one rfl (.one rfl .nil)) (YB rfl (.one rfl (.one rfl .nil)) (YB rfl (.one rfl (.one rfl .nil)) (YB rfl (.agg rfl (.agg rfl (.agg rfl (.agg rfl .nil)))) (Yz rfl rfl rfl rfl .here (Yc (Yi (⟨_,X9 rfl rfl ZM (YP),?_⟩))))))))))))
 refine ⟨_,rfl,?_⟩
 decide
theorem py :WR AM 140 [] [] (fun v' _ _=>∃ P:Nat->Int,v'=.agg 16 (ia P)/\∀ i,i < 16->P i=(Wk jumpL).getD i 0):=by
 refine YJ (a:=a140) rfl rfl (YI _) (ZQ rfl) (m:=0) rfl (Ze (Yy (Zf (YB rfl (.one rfl (.one rfl .nil)) (YB rfl (.one rfl (.one rfl .nil)) (YB rfl (.one rfl (.one rfl .nil)) (YB rfl (.one rfl (.one rfl .nil)) (YB rfl (.one rfl (.one rfl .nil)) (YB rfl (.one rfl (.one rfl .nil)) (YB rfl (.one rfl (.one rfl .nil)) (YB rfl (.one rfl (.one rfl .nil)) (YB rfl (.agg rfl (.agg rfl (.agg rfl (.agg rfl (.agg rfl (.agg rfl (.agg rfl (.agg rfl .nil)))))))) (Yz rfl rfl rfl rfl .here (Yc (Yi (⟨_,X9 rfl rfl ZM (YP),?_⟩))))))))))))))))
 refine ⟨_,rfl,?_⟩
 decide
theorem w9 {P:Nat->Int}:∀ {r:List Int} {j:Nat},(∀ u,u < j->YT P (r.getD u 0)=true)->j < r.length->YT P (r.getD j 0)=false->V8 P r=r.take (j+1)
 | [],j,_,h,_=>absurd (show j < 0 from h) (by omega)
 | t::r,0,_,_,h=>by
  have h:YT P t=false:=h
  unfold V8
  rw [Za7 (by rw [h]; decide)]; simp
 | t::r,j+1,hu,hj,h=>by
  have h0:YT P t=true:=hu 0 (by omega)
  have ih:=w9 (P:=P) (r:=r) (j:=j) (fun u h=>by have:=hu (u+1) (by omega); simpa using this) (by simpa using hj) (by simpa using h)
  unfold V8
  rw [Za8 h0,ih]; rfl
theorem jm {P:Nat->Int}:∀ {r:List Int} {j:Nat},(∀ u,u < j->YT P (r.getD u 0)=true)->j=r.length->V8 P r=r.take j
 | [],j,_,h=>by simp [V8]
 | t::r,0,_,h=>by simp at h
 | t::r,j+1,hu,h=>by
  have h0:YT P t=true:=hu 0 (by omega)
  have ih:=jm (P:=P) (r:=r) (j:=j) (fun u h=>by have:=hu (u+1) (by omega); simpa using this) (by simpa using h)
  unfold V8
  rw [Za8 h0,ih]; rfl
theorem xC {P:Nat->Int} {s:Int} {l:List (Int × Int)} {i:Nat} (hi:i < l.length):X6 P s (l.take (i+1))=X6 P s (l.take i)++V8 P (Vm (l.getD i (0,0)).1 (l.getD i (0,0)).2 8 s):=by
 unfold X6
 rw [Vh (0,0) hi,List.flatMap_append]
 simp
theorem DG (P:Nat->Int) (s:Int):∀ l:List (Int × Int),(X6 P s l).length<=l.length*8
 | []=>Zbt _
 | w::l=>by
  have h1:=DG P s l
  have h2:=(T0 P (Vm w.1 w.2 8 s)).length_le
  have h3:=J0 w.1 w.2 8 s
  unfold X6 at *
  rw [Zbo,ZaG,Zbq]
  omega
theorem Zae (P:Nat->Int) (s:Int) (l:List (Int × Int)) (i:Nat):(X6 P s (l.take i)).length<=l.length*8:=ZaZ (DG P s _) (ZaD 8 (by rw [ZaN]; exact Nat.min_le_right _ _))
theorem ray_in {p q s:Int} {r:List Int} {j:Nat} (h:r=Vm p q 8 s) (hj:j < r.length):0<=r.getD j 0/\r.getD j 0 < 64:=by
 refine yR (f:=p) (r:=q) (k:=8) (s:=s) ?_
 rw [<- h,Zau,Zav hj]
 exact List.getElem_mem hj
theorem hu_next {P:Nat->Int} {r:List Int} {j:Nat} (hu:∀ u,u < j->YT P (r.getD u 0)=true) (h:YT P (r.getD j 0)=true):∀ u,u < j+1->YT P (r.getD u 0)=true:=fun u hu'=>by
 by_cases e:u=j
 ·subst e; exact h
 exact hu u (by omega)
theorem kR {r:List Int} {j:Nat} (a:List Int) (hj:j < r.length):a++r.take j++[r.getD j 0]=a++r.take (j+1):=by
 rw [Vh 0 hj,ZaJ]
theorem zY (P:Nat->Int) (s:Int) (l:List (Int × Int)) (hlen:l.length<=1000) (hw:∀ i,i < l.length->¬ ((l.getD i (0,0)).1=0/\(l.getD i (0,0)).2=0)):wk AM 142 2 1 [.agg 133 (ia P),.s (.int .i64 s)] [] (Wk l) (X6 P s l):=by
 refine yk fun v Bs hc=>?_
 refine YJ (a:=a142) rfl rfl (YI _) (ZQ rfl) rfl ?_ (by first | rfl | (cases hc <;> rfl))
 have hr0:=hc.rx
 rw [show Xb 0 Bs=Xb 0 Bs++[] from (ZaQ _).symm]
 generalize hown:Xb 0 Bs=own0 at hr0 ⊢
 refine Ze (YC rfl (Yq rfl (Yc (Ye (Ze (Yq (v:=v) rfl (Wq rfl hr0 (by decide) (Qp l) (Yq rfl (Yc (Yk (Xm (.cons_cons _ (ZaE (.refl _) .slnil)) (Xp (fun m f _ L=>∃ (i:Nat) (vO:V) (ownO:HA),(i<=l.length)/\(m=l.length - i)/\(Rw 1 (X6 P s (l.take i)) vO ownO)/\(f 1=.s (.int .i64 s))/\(f 3=.ptr Bs.length 0 133)/\(f 6=vO)/\(f 11=v)/\(f 12=.s (.int .i64 l.length))/\(f 13=.s (.int .i64 i))/\(L=(ownO++(Bs.length,.sc .var 133 (ia P))::(own0++[])))) (fun m f nb L hI=>?_) (l.length) (⟨0,.snil,[],by omega,rfl,.nil rfl,rfl,rfl,rfl,rfl,rfl,rfl,rfl⟩)))))))))))))
 obtain ⟨i,vO,ownO,hi,hm,hrO,k1,k3,k6,k11,k12,k13,rfl⟩:=hI
 refine Za 1 k1 (Za 3 k3 (Za 6 k6 (Za 11 k11 (Za 12 k12 (Za 13 k13 (Ze (Zr rfl (Yc (Ye (Yj rfl (fun h1=>?_) (fun h1=>?_))))))))))) <;> simp only [NM] at h1
 ·refine Yh (Ye (Yk (Ze ?_)))
  obtain ⟨b0,q0,md0,c0,F0,rfl,rfl,hF0⟩:=hr0.at (by decide) (Qp l) (by omega)
  refine Zx rfl rfl (Yp rfl rfl (Zaz _ ZN) (Yy (Yz rfl rfl rfl rfl .here (Zf (Zj rfl (Zw rfl rfl rfl (Ym (x:=(l.getD i (0,0)).1) rfl rfl ZM (way0 hF0 (by omega)) (Zw rfl rfl rfl (Ym (x:=(l.getD i (0,0)).2) rfl rfl ZM (way1 hF0 (by omega)) ?_)))))))))
  obtain ⟨r,hreq⟩:∃ r,r=Vm (l.getD i (0,0)).1 (l.getD i (0,0)).2 8 s:=⟨_,rfl⟩
  have hray:=ray_rt s _ _ (hw i (by omega))
  rw [<- hreq] at hray
  have hrl:r.length<=8:=by rw [hreq]; exact J0 _ _ _ _
  refine YE rfl (hray) rfl rfl (fun v1 own1 n1 hr1=>Wq rfl hr1.rx (by decide) KO (Yq rfl (Yc (Yk (wg (Dr.appR _ (.there .here)).all (Xm (ZaE (.refl _) (ZaE (.refl _) (.cons _ (.refl _)))) (Xp (fun m f _ L=>∃ (j:Nat) (vP:V) (ownP:HA),(j<=r.length)/\(m=r.length - j)/\(∀ u,u < j->YT P (r.getD u 0)=true)/\(Rw 1 (X6 P s (l.take i)++r.take j) vP ownP)/\(f 1=.s (.int .i64 s))/\(f 3=.ptr Bs.length 0 133)/\(f 6=vP)/\(f 11=.sl b0 0 l.length 2 c0)/\(f 12=.s (.int .i64 l.length))/\(f 13=.s (.int .i64 i))/\(f 22=v1)/\(f 23=.s (.int .i64 r.length))/\(f 24=.s (.int .i64 j))/\(L=(ownP++(own1++[(Bs.length,.sc .var 133 (ia P)),(b0,.sc md0 q0 (ia F0))])))) (fun m f nb L hI=>?_) (r.length) (⟨0,vO,ownO,by omega,by omega,fun u h=>by omega,by rw [List.take_zero,ZaQ]; exact hrO,rfl,rfl,rfl,rfl,rfl,rfl,rfl,rfl,rfl,rfl⟩))))))))
  obtain ⟨j,vP,ownP,hj,hm2,hu,hrP,k1,k3,k6,k11,k12,k13,k22,k23,k24,rfl⟩:=hI
  refine Za 1 k1 (Za 3 k3 (Za 6 k6 (Za 11 k11 (Za 12 k12 (Za 13 k13 (Za 22 k22 (Za 23 k23 (Za 24 k24 (Ze (Zr rfl (Yc (Ye (Yj rfl (fun h2=>?_) (fun h2=>?_)))))))))))))) <;> simp only [NM] at h2
  ·refine Yh (Ye (Yk (Ze ?_)))
   have hjb:=ray_in hreq (j:=j) (by omega)
   obtain ⟨b1,q1,md1,c1,F1,rfl,rfl,hF1⟩:=hr1.rx.at (by decide) KO (by omega)
   refine Zx rfl rfl (Ym (x:=r.getD j 0) rfl rfl (Zaz _ ZM) (ld1 hF1 (by omega)) (Zj rfl (Zf (Yq (v:=vP) rfl (Zj rfl (Xo rfl (.one rfl .nil) (XK (c:=[r.getD j 0]) rfl hrP rfl ZM (.there .here) (by decide) (by decide) rfl (Ko) (by have:=Zae P s l i; rw [ZaG,ZaN]; omega) (fun v2 own2 n2 hr2=>Yq (v:=v2) rfl (Zf (Zj rfl (Zy rfl (Zy rfl (Zw rfl rfl rfl (Yp rfl rfl (Zaz _ ZO) (YB rfl .nil (Yw rfl rfl (Yc (Yj rfl (fun h3=>?_) (fun h3=>?_))))))))))))))))))) <;> simp only [NM] at h3
   ·refine YX (xthere rfl (Xe (Yf (Zs rfl rfl (Zj rfl (Yc (⟨l.length - (i+1),_,by omega,(ZaE (.refl _) (.cons _ (.cons _ (.refl _)))),i+1,_,_,by omega,rfl,?_,rfl,rfl,rfl,rfl,rfl,rfl,rfl⟩)))))))
    rw [xC (l:=l) (i:=i) (by omega),<- hreq]
    (rw [w9 hu (by omega) (by assumption),<- kR _ (by omega)]; exact hr2)
   refine Yh (Yf (Zs rfl rfl (Zj rfl (Yc (⟨r.length - (j+1),_,by omega,(ZaE (.refl _) (.cons _ (.refl _))),j+1,_,_,by omega,rfl,hu_next hu (by assumption),?_,rfl,rfl,rfl,rfl,rfl,rfl,rfl,rfl,rfl,rfl⟩)))))
   rw [<- kR _ (by omega)]; exact hr2
  refine YX (Xe (Yf (Zs rfl rfl (Zj rfl (Yc (⟨l.length - (i+1),_,by omega,(ZaE (.refl _) (Za9 (.refl _))),i+1,_,_,by omega,rfl,?_,rfl,rfl,rfl,rfl,rfl,rfl,rfl⟩))))))
  rw [xC (l:=l) (i:=i) (by omega),<- hreq]
  (rw [jm hu (by omega)]; exact hrP)
 refine YX (Xe (Ze (Yq (v:=vO) rfl (Yq (v:=vO) rfl (Yc (Yi (⟨_,YK (v:=vO) rfl (YP),?_⟩)))))))
 obtain rfl:i=l.length:=by omega
 rw [List.take_length] at hrO
 exact ⟨_,_,hrO,.here,(fun _ h=>(.tail _ h))⟩
end Go.Proofs.YtlkighkfkdpncaaGreatDoor
namespace Go.Am
open Go
def je (A:AP) (fid:FuncId) (z m:Nat) (md m1 m2:Md) (c c1 c2:Cp) (P Q:Nat->Int) (l:List Int):Prop :=
 ∃ b k q F σ1,Run A fid [.sl 0 0 2 1 c] [.vs md [.sl 1 0 m z c1,.sl 2 0 m z c2],.sc m1 (m*z) (ia P),.sc m2 (m*z) (ia Q)]=some (.sl b 0 k z .whole,σ1)/\3<=b/\l.length=k*z/\(∀ i,i < l.length->F i=l.getD i 0)/\σ1[b]? = some (.sc .grow q (ia F)) /\
  σ1[0]? = some (.vs md [.sl 1 0 m z c1,.sl 2 0 m z c2])/\σ1[1]? = some (.sc m1 (m*z) (ia P))/\σ1[2]? = some (.sc m2 (m*z) (ia Q))
theorem take3 {σ:Heap} {B C D:Blk} (h:σ[0]? = some B) (h2:σ[1]? = some C) (h3:σ[2]? = some D):σ.take 3=[B,C,D]:=by
 cases σ with
 | nil=>cases h
 | cons x l =>
  simp only [List.getElem?_cons_zero,ZaI] at h; subst h
  simp only [List.getElem?_cons_succ] at h2 h3
  rw [List.take_succ_cons,jb h2 h3]
section
variable {A:AP} {N:Nat} {f:FE} {n:Nat} {L:HA} {K:KN} {Zp:V->KN} {rest:List I} {d:Nat}
theorem vi {fid:FuncId} {q0:Bool} {z m b0 b1 b2:Nat} {md m1 m2:Md} {c c1 c2:Cp} {P Q:Nat->Int} {l:List Int} (hs:je A fid z m (XI q0 md) (XI q0 m1) (XI q0 m2) c c1 c2 P Q l)
  (h0:(b0,Blk.vs md [.sl b1 0 m z c1,.sl b2 0 m z c2])∈L) (h1:(b1,Blk.sc m1 (m*z) (ia P))∈L) (h2:(b2,Blk.sc m2 (m*z) (ia Q))∈L) (hne:b1≠b2) {σ:Heap} (h:Hp σ n L) :
  ∃ v B σ',Y3 (Run A) q0 (.fn fid []) [.sl b0 0 2 1 c] σ=some (v,σ')/\Rw z l v [(n,B)]/\Hp σ' (n+1) ((n,B)::L):=by
 obtain ⟨b,k,q,F,σ1,hrun,hb,hl,hF,e3,e0,e1,e2⟩:=hs
 have k0:=(h.2.mem h0).2
 have k1:=(h.2.mem h1).2
 have k2:=(h.2.mem h2).2
 have n01:b1≠b0:=fun e=>by subst e; rw [k0] at k1; cases k1
 have n02:b2≠b0:=fun e=>by subst e; rw [k0] at k2; cases k2
 have hre:YO σ 64 [b0] []=[b0,b1,b2]:=by
  have c1':([b0]:List Nat).contains b1=false:=by simp [n01]
  have c2':([b0,b1]:List Nat).contains b2=false:=by simp [n02,Ne.symm hne]
  show (bif ([]:List Nat).contains b0 then YO σ 63 [] [] else YO σ 63 ((σ.getD b0 .dead).refs++[]) ([]++[b0]))=_
  rw [X3 k0]
  show (bif ([b0]:List Nat).contains b1 then YO σ 62 [b2] [b0] else YO σ 62 ((σ.getD b1 .dead).refs++[b2]) ([b0]++[b1]))=_
  rw [c1',X3 k1]
  show (bif ([b0,b1]:List Nat).contains b2 then YO σ 61 [] [b0,b1] else YO σ 61 ((σ.getD b2 .dead).refs++[]) ([b0,b1]++[b2]))=_
  rw [c2',X3 k2]; rfl
 have p0:pos b0 [b0,b1,b2]=some 0:=by simp [pos]
 have p1:pos b1 [b0,b1,b2]=some 1:=by
  have:(b0 == b1)=false:=by simpa using Ne.symm n01
  simp [pos,this]
 have p2:pos b2 [b0,b1,b2]=some 2:=by
  have a1:(b0 == b2)=false:=by simpa using Ne.symm n02
  have a2:(b1 == b2)=false:=by simpa using hne
  simp [pos,a1,a2]
 have hen:XB q0 [.sl b0 0 2 1 c] σ=some ([b0,b1,b2],[.sl 0 0 2 1 c],[.vs (XI q0 md) [.sl 1 0 m z c1,.sl 2 0 m z c2],.sc (XI q0 m1) (m*z) (ia P),.sc (XI q0 m2) (m*z) (ia Q)]):=by
  have hrefs:V.refsL [.sl b0 0 2 1 c]=[b0]:=by simp [V.refsL,V.refs]
  unfold XB
  rw [hrefs,hre]
  simp only [V.renL,V.ren,p0,p1,p2,Option.map_some,Xa,k0,k1,k2,Option.bind_some,Blk.ren]
 have hns:Xl q0 3 (.sl b 0 k z .whole) σ1=[b]:=by
  unfold Xl
  have hd:σ1.getD b .dead=.sc .grow q (ia F):=X3 e3
  have hbr:YO σ1 64 ((V.sl b 0 k z .whole).refs++bif q0 then [] else (σ1.take 3).flatMap Blk.refs) []=bif q0 then [b] else [b,1,2]:=by
   cases q0 with
   | true =>
    show (bif ([]:List Nat).contains b then YO σ1 63 [] [] else YO σ1 63 ((σ1.getD b .dead).refs++[]) ([]++[b]))=_
    rw [hd]; rfl
   | false =>
    rw [cond_false,take3 e0 e1 e2]
    have x1:([b]:List Nat).contains 1=false:=by simp; omega
    have x2:([b,1]:List Nat).contains 2=false:=by simp; omega
    show (bif ([]:List Nat).contains b then YO σ1 63 [1,2] [] else YO σ1 63 ((σ1.getD b .dead).refs++[1,2]) ([]++[b]))=_
    rw [hd]
    show (bif ([b]:List Nat).contains 1 then YO σ1 62 [2] [b] else YO σ1 62 ((σ1.getD 1 .dead).refs++[2]) ([b]++[1]))=_
    rw [x1,X3 e1]
    show (bif ([b,1]:List Nat).contains 2 then YO σ1 61 [] [b,1] else YO σ1 61 ((σ1.getD 2 .dead).refs++[]) ([b,1]++[2]))=_
    rw [x2,X3 e2]; rfl
  rw [hbr]
  have hbb:Nat.ble 3 b=true:=ZaA hb
  cases q0 with
  | true=>simp [hbb]
  | false=>simp [hbb]
 have hlt:=QZ e2
 have hble:Nat.ble 3 σ1.length=true:=ZaA (by omega)
 have hnd:nodup [b0,b1,b2]=true:=by simp [nodup,n01,n02,hne,Ne.symm n01,Ne.symm n02]
 have bb:Xf [b0,b1,b2] [b] σ.length 3 b=some n:=by
  have:Nat.blt b 3=false:=by
   cases hx:Nat.blt b 3 with
   | false=>rfl
   | true=>have:=YF hx; omega
  unfold Xf
  rw [this,h.1]
  simp [pos]
 have f0:Xf [b0,b1,b2] [b] σ.length 3 0=some b0:=rfl
 have f1:Xf [b0,b1,b2] [b] σ.length 3 1=some b1:=rfl
 have f2:Xf [b0,b1,b2] [b] σ.length 3 2=some b2:=rfl
 have hn1:nodup [b]=true:=rfl
 have hpk:Xa false (Xf [b0,b1,b2] [b] σ.length 3) σ1 [b]=some [.sc .grow q (ia F)]:=by
  simp only [Xa,e3,Option.bind_some,Blk.ren,XI,cond_false]
 have hrn:(V.sl b 0 k z .whole).ren (Xf [b0,b1,b2] [b] σ.length 3)=some (.sl n 0 k z .whole):=by
  simp only [V.ren,bb,Option.map_some]
 have hlv:Xn q0 σ [b0,b1,b2] (.sl b 0 k z .whole) σ1=some (.sl n 0 k z .whole,σ++[.sc .grow q (ia F)]):=by
  unfold Xn
  simp only [Zbq,List.length_nil,ZaY,Nat.reduceAdd,hns,hnd,hble,hn1,Bool.and_self,cond_true,hrn,hpk]
  cases q0 with
  | true=>rfl
  | false =>
   have hset:((σ.set b0 (.vs md [.sl b1 0 m z c1,.sl b2 0 m z c2])).set b1 (.sc m1 (m*z) (ia P))).set b2 (.sc m2 (m*z) (ia Q))=σ:=by
    have s0:σ.set b0 (.vs md [.sl b1 0 m z c1,.sl b2 0 m z c2])=σ:=set_same k0
    have s1:σ.set b1 (.sc m1 (m*z) (ia P))=σ:=set_same k1
    have s2:σ.set b2 (.sc m2 (m*z) (ia Q))=σ:=set_same k2
    rw [s0,s1,s2]
   have hrg:List.range 3=[0,1,2]:=rfl
   simp only [XI,cond_false] at e0 e1 e2
   simp only [hrg,Xa,e0,e1,e2,Option.bind_some,Blk.ren,V.renL,V.ren,f0,f1,f2,Option.map_some,XI,cond_false,XL,hset]
 refine ⟨.sl n 0 k z .whole,.sc .grow q (ia F),σ++[.sc .grow q (ia F)],?_,.row hl hF,h.new _⟩
 simp only [Y3,target,ZaQ,Option.bind_some,hen,hrun,hlv]
 where
 set_same {σ:Heap} {b:Nat} {B:Blk} (h:σ[b]? = some B):σ.set b B=σ:=by
  refine List.ext_getElem? fun i=>?_
  by_cases e:b=i
  ·subst e; rw [Zbe (QZ h),h]
  rw [Zbl e]
theorem WO_cat {x y:O} {fid:FuncId} {z m b0 b1 b2:Nat} {md m1 m2:Md} {c c1 c2:Cp} {P Q:Nat->Int} {l:List Int} (hf:x.fv N f=.fn fid []) (hy:y.fv N f=.sl b0 0 2 1 c) (hs:je A fid z m md m1 m2 c c1 c2 P Q l)
  (h0:(b0,Blk.vs md [.sl b1 0 m z c1,.sl b2 0 m z c2])∈L) (h1:(b1,Blk.sc m1 (m*z) (ia P))∈L) (h2:(b2,Blk.sc m2 (m*z) (ia Q))∈L) (hne:b1≠b2) (k:∀ v own n',Rw z l v own->WO A N rest (upd f d v) n' (own++L) K Zp):WO A N (⟨some d,none,.h (.call x [y])⟩::rest) f n L K Zp:=fun σ h=>by
 obtain ⟨v,B,σ',e1,e2,e3⟩:=vi (q0:=false) hs h0 h1 h2 hne h
 obtain ⟨ex,f',σ2,n2,L2,e4,e5,e6⟩:=k v [(n,B)] (n+1) e2 σ' e3
 refine ⟨ex,f',σ2,n2,L2,?_,e5,e6⟩
 rw [<- e4]
 simp only [WU,XO,Xw,YL,Y6,hf,List.map_cons,List.map_nil,hy,e1,Option.map_some,RK]
 rfl
theorem WO_catq {x y:O} {fid:FuncId} {z m b0 b1 b2:Nat} {md m1 m2:Md} {c c1 c2:Cp} {P Q:Nat->Int} {l:List Int} (hf:x.fv N f=.fn fid []) (hy:y.fv N f=.sl b0 0 2 1 c) (hs:je A fid z m .ro .ro .ro c c1 c2 P Q l)
  (h0:(b0,Blk.vs md [.sl b1 0 m z c1,.sl b2 0 m z c2])∈L) (h1:(b1,Blk.sc m1 (m*z) (ia P))∈L) (h2:(b2,Blk.sc m2 (m*z) (ia Q))∈L) (hne:b1≠b2) (k:∀ v own n',Rw z l v own->WO A N rest (upd f d v) n' (own++L) K Zp):WO A N (⟨some d,none,.h (.callq x [y])⟩::rest) f n L K Zp:=fun σ h=>by
 obtain ⟨v,B,σ',e1,e2,e3⟩:=vi (q0:=true) hs h0 h1 h2 hne h
 obtain ⟨ex,f',σ2,n2,L2,e4,e5,e6⟩:=k v [(n,B)] (n+1) e2 σ' e3
 refine ⟨ex,f',σ2,n2,L2,?_,e5,e6⟩
 rw [<- e4]
 simp only [WU,XO,Xw,YL,Y6,hf,List.map_cons,List.map_nil,hy,e1,Option.map_some,RK]
 rfl
end
end Go.Am
namespace Go.Proofs.YtlkighkfkdpncaaGreatDoor
open Go Go.Am
theorem grow_rt (n:Int) (h:0 < n/\n<=1000000):RtR AM 167 2 [.snil,.s (.int .i64 n)] [] [] []:=by
 refine .inr ⟨0,0,fun _=>0,rfl,fun i h=>absurd (show i < 0 from h) (by omega),0,[.sc .grow 0 (ia fun _=>0)],?_,Zbt _,rfl,trivial⟩
 rw [VP (pf:=Tm) rfl _ _ rfl]
 simp only [Tm,Za8 h]
 rfl
theorem Zad {md m1 m2:Md} {c c1 c2:Cp} (P Q:Nat->Int) (la lb:List Int) (ha:la.length=8) (hb:lb.length=8) (hP:∀ i,i < la.length->P i=la.getD i 0) (hQ:∀ i,i < lb.length->Q i=lb.getD i 0):WR AM 141 [.sl 0 0 2 1 c] [.vs md [.sl 1 0 4 2 c1,.sl 2 0 4 2 c2],.sc m1 (4*2) (ia P),.sc m2 (4*2) (ia Q)] (fun v _ L'=>∃ own L0,Rw 2 (la++lb) v own/\Dr own L' L0/\(0,Blk.vs md [.sl 1 0 4 2 c1,.sl 2 0 4 2 c2])∈L0/\(1,Blk.sc m1 (4*2) (ia P))∈L0/\(2,Blk.sc m2 (4*2) (ia Q))∈L0):=by
 refine YJ (a:=a141) rfl rfl (YI _) (ZQ rfl) (m:=3) rfl (Ze (Yq rfl (Zf (Yq rfl (Yc (Ye (Ze (Zn rfl (Vi rfl (Yq rfl (Yc (Yk (YW (Ze (Yr (r:=.bool true) rfl rfl rfl (Yc (Ye (ZA rfl (Yh (Ye (Yk (Ze (D2 rfl rfl (by decide) (V6 (v:=.sl 1 0 4 2 c1) rfl rfl ZM rfl (Zn rfl (Zf (Zj rfl (Zn rfl (Vi rfl ?_)))))))))))))))))))))))))))))
 refine Vg rfl rfl (by decide) (Zj rfl (Zf (Zj rfl (Yr (r:=.bool false) rfl rfl rfl (Yc (ZB rfl (Yh (Yf (Vg rfl rfl (by decide) (Zj rfl (Yc (YW (Ze (Yr (r:=.bool true) rfl rfl rfl (Yc (Ye (ZA rfl (Yh (Ye (Yk (Ze (D2 rfl rfl (by decide) (V6 (v:=.sl 2 0 4 2 c2) rfl rfl ZM rfl (Zn rfl (Zf (Zj rfl (Zn rfl (Vi rfl (Vg rfl rfl (by decide) ?_)))))))))))))))))))))))))))))
 refine Zj rfl (Zf (Zj rfl (Yr (r:=.bool false) rfl rfl rfl (Yc (ZB rfl (Yh (Yf (Vg rfl rfl (by decide) (Zj rfl (Yc (YW (Ze (Yr (r:=.bool false) rfl rfl rfl (Yc (Ye (ZB rfl (YX (Xe (Ze (Zj rfl (YE rfl (grow_rt _ (by decide)) rfl rfl (fun v1 own1 n1 hr1=>Yq (v:=v1) rfl (Yc (Ye (Ze (Zn rfl (Vi rfl (Yq rfl (Yc ?_)))))))))))))))))))))))))))))
 refine Yk (YW (Ze (Yr (r:=.bool true) rfl rfl rfl (Yc (Ye (ZA rfl (Yh (Ye (Yk (Ze (D2 rfl rfl (by decide) (V6 (v:=.sl 1 0 4 2 c1) rfl rfl (Zaz _ ZM) rfl (Zn rfl (Yc (Yf (Yq (v:=v1) rfl (Zn rfl (Ed rfl hr1 rfl (Rx.row (l:=la) (by rw [ha]) hP) (Qf (Zaz _ ZN)) .here (by decide) (by simp only [ZaG,List.length_nil,ha,hb]; omega) (fun v2 own2 n2 hr2=>Yq (v:=v2) rfl (Yc (Yf (Vg rfl rfl (by decide) (Zj rfl (Yc (YW (Ze (Yr (r:=.bool true) rfl rfl rfl (Yc (Ye ?_)))))))))))))))))))))))))))))
 refine ZA rfl (Yh (Ye (Yk (Ze (D2 rfl rfl (by decide) (V6 (v:=.sl 2 0 4 2 c2) rfl rfl (Zaz _ ZM) rfl (Zn rfl (Yc (Yf (Yq (v:=v2) rfl (Zn rfl (Ed rfl hr2 rfl (Rx.row (l:=lb) (by rw [hb]) hQ) (Qf (Zaz _ ZO)) .here (by decide) (by simp only [ZaG,List.length_nil,ha,hb]; omega) (fun v3 own3 n3 hr3=>Yq (v:=v3) rfl (Yc (Yf (Vg rfl rfl (by decide) (Zj rfl (Yc (YW (Ze (Yr (r:=.bool false) rfl rfl rfl (Yc (Ye (ZB rfl (YX (Xe (Ze (Yq (v:=v3) rfl (Yq (v:=v3) rfl ?_)))))))))))))))))))))))))))))
 refine Yc (Yi (⟨_,YK (v:=v3) rfl (YP),?_⟩))
 refine ⟨_,_,hr3,.here,?_,?_,?_⟩
 ·exact ZM
 ·exact ZN
 exact ZO
theorem rC {md m1 m2:Md} {c c1 c2:Cp} (P Q:Nat->Int) (la lb:List Int) (ha:la.length=8) (hb:lb.length=8) (hP:∀ i,i < la.length->P i=la.getD i 0) (hQ:∀ i,i < lb.length->Q i=lb.getD i 0):je AM 141 2 4 md m1 m2 c c1 c2 P Q (la++lb):=by
 obtain ⟨v,σ',n',L',h1,h2,own,L0,hr,hd,e0,e1,e2⟩:=Zad (md:=md) (m1:=m1) (m2:=m2) (c:=c) (c1:=c1) (c2:=c2) P Q la lb ha hb hP hQ
 have hge:=hd.ge (Bs:=[.vs md [.sl 1 0 4 2 c1,.sl 2 0 4 2 c2],.sc m1 (4*2) (ia P),.sc m2 (4*2) (ia Q)]) h2 (fun p hp=>by
  rcases ZaX.1 hp with rfl | hp
  ·exact e0
  rcases ZaX.1 hp with rfl | hp
  ·exact e1
  rcases ZaX.1 hp with rfl | hp
  ·exact e2
  cases hp)
 have hm:=fun p hp=>h2.2.mem (hd.mem p hp)
 have m0:=fun {b B} h=>(h2.2.mem (b:=b) (B:=B) (hd.sub.subset h)).2
 cases hr with
 | nil h=>have:=congrArg List.length h; rw [ZaG,ha,hb] at this; cases this
 | row hl hF=>exact ⟨_,_,_,_,σ',h1,hge _ ZM,hl,hF,(hm _ ZM).2,m0 e0,m0 e1,m0 e2⟩
theorem vu:∃ P:Nat->Int,RF AM 137 [] (.agg 8 (ia P))/\∀ i,i < 8->P i=(Wk straightL).getD i 0:=by
 obtain ⟨v,σ',n',L',h1,h2,P,rfl,hP⟩:=jK
 exact ⟨P,⟨σ',h1⟩,hP⟩
theorem Zar:∃ P:Nat->Int,RF AM 138 [] (.agg 8 (ia P))/\∀ i,i < 8->P i=(Wk slantL).getD i 0:=by
 obtain ⟨v,σ',n',L',h1,h2,P,rfl,hP⟩:=om
 exact ⟨P,⟨σ',h1⟩,hP⟩
theorem gz:∃ P:Nat->Int,RF AM 140 [] (.agg 16 (ia P))/\∀ i,i < 16->P i=(Wk jumpL).getD i 0:=by
 obtain ⟨v,σ',n',L',h1,h2,P,rfl,hP⟩:=py
 exact ⟨P,⟨σ',h1⟩,hP⟩
theorem Rp {m:Nat} {S:Nat->Int} {l:List Int} (hl:l.length=m) (h:∀ i,i < m->S i=l.getD i 0):∀ i,i < l.length->ovA (fun _=>0) 0 m S i=l.getD i 0:=fun i hi=>by
 rw [X1 (by omega),Nat.sub_zero]; exact h i (by omega)
theorem Zac (on:Int):∀ i,i < (Wk [(-1,on),(1,on)]).length->ovA (ovA (fun _=>0) (0*2) 2 (ov (ov (fun _=>0) 0 (-1)) 1 on)) (1*2) 2 (ov (ov (fun _=>0) 0 1) 1 on) i=(Wk [(-1,on),(1,on)]).getD i 0
 | 0,_=>rfl
 | 1,_=>rfl
 | 2,_=>rfl
 | 3,_=>rfl
 | i+4,h=>absurd (show i+4 < 4 from h) (by omega)
section
variable {P:Nat->Int} {s:Int} (hc:P (sqI s+1)=0\/P (sqI s+1)=1)
include hc
theorem sC (hk:P (sqI s)=1):Wc P s=X4 s [(-1,1 - 2*P (sqI s+1)),(1,1 - 2*P (sqI s+1))]:=by
 unfold Wc Um
 rw [Za8 hc,hk]; rfl
theorem rO (hk:P (sqI s)=2):Wc P s=X4 s jumpL:=by
 unfold Wc Um
 rw [Za8 hc,hk]; rfl
theorem ph (hk:P (sqI s)=6):Wc P s=X4 s (straightL++slantL):=by
 unfold Wc Um
 rw [Za8 hc,hk]; rfl
theorem ot (hk:P (sqI s)=4):Wc P s=X6 P s straightL:=by
 unfold Wc Um
 rw [Za8 hc,hk]; rfl
theorem rW (hk:P (sqI s)=3):Wc P s=X6 P s slantL:=by
 unfold Wc Um
 rw [Za8 hc,hk]; rfl
theorem p4 (hk:P (sqI s)=5):Wc P s=X6 P s (straightL++slantL):=by
 unfold Wc Um
 rw [Za8 hc,hk]; rfl
theorem rp (h1:¬ P (sqI s)=1) (h2:¬ P (sqI s)=2) (h3:¬ P (sqI s)=3) (h4:¬ P (sqI s)=4) (h5:¬ P (sqI s)=5) (h6:¬ P (sqI s)=6):Wc P s=[]:=by
 unfold Wc Um
 rw [Za8 hc,Za7 h1,Za7 h2,Za7 h6,Za7 h4,Za7 h3,Za7 h5]
end
theorem Zai {P:Nat->Int} {s:Int} (hc:¬ (P (sqI s+1)=0\/P (sqI s+1)=1)):Wc P s=[]:=Za7 hc
end Go.Proofs.YtlkighkfkdpncaaGreatDoor
namespace Go.Am
open Go
theorem qw {A:AP} {N:Nat} {f:FE} {n:Nat} {L:HA} {K:KN} {Zp:V->KN} {l:List I} {d:Nat} {x y:O} {b o m z b' o' m' z':Nat} {c c':Cp} (hx:x.fv N f=.sl b o m z c) (hy:y.fv N f=.sl b' o' m' z' c') (k:WO A N l (upd f d (.sl n 0 2 1 (.ex 2))) (n+1) ((n,.vs .var [.sl b o m z c,.sl b' o' m' z' c'])::L) K Zp):WO A N (⟨some d,none,.h (.mksl 2 1 (.one .snil) [(0,x),(1,y)])⟩::l) f n L K Zp :=
 XF (v:=.sl n 0 2 1 (.ex 2)) (fun σ hσ=>⟨σ++[.vs .var [.sl b o m z c,.sl b' o' m' z' c']],by
  simp only [YL,Z.row,WG,List.map_cons,List.map_nil,QI,Y6,hx,hy,hσ.1]
  rfl,hσ.new _⟩) k
end Go.Am
namespace Go.Proofs.YtlkighkfkdpncaaGreatDoor
open Go Go.Am
theorem wa (P:Nat->Int) (s:Int) (hs:0<=s/\s < 64):RtR AM 115 1 [.agg 133 (ia P),.s (.int .i64 s)] [] (Wc P s) []:=by
 refine Vs (YJ (a:=a115) rfl rfl (YI _) (ZQ rfl) (m:=0) rfl (Ze (YC rfl (Yq rfl (Zf (Zj rfl (Zy rfl (Zy rfl (Zw rfl rfl rfl (Yp rfl rfl ZM (Yy (Yz rfl rfl rfl rfl .here (Zf (Yq rfl (Yc (WD (fun f n L=>(P (sqI s+1)=0\/P (sqI s+1)=1)/\(f 1=.s (.int .i64 s))/\(f 2=.ptr 0 0 133)/\(f 5=.ptr 1 0 2)/\(f 6=.s (.int .i64 (1 - 2*P (sqI s+1))))/\(L=[(1,.sc .var 2 (ia (ovA (fun _=>0) 0 2 (dp P (0+s.toNat*2))))),(0,.sc .var 133 (ia P))])) ?_ (fun f nb L hI=>?_)))))))))))))))))
 ·refine Ze (Zz rfl (Ym (x:=P (sqI s+1)) rfl rfl ZM (rfl) (Yc (Yk (Ze (Zr rfl (Zk rfl (Yc (Yj rfl (fun h1=>?_) (fun h1=>?_)))))))))) <;> simp only [NM] at h1
  ·refine Yf (Yq rfl (Yc ?_))
   exact ⟨_,(.refl _),by omega,rfl,rfl,rfl,congrArg (fun x=>V.s (S.int .i64 x)) (by omega),rfl⟩
  refine Ze (Zr rfl (Zk rfl (Yc (Yj rfl (fun h2=>?_) (fun h2=>?_))))) <;> simp only [NM] at h2
  ·refine Yh ?_
   exact ⟨_,(.refl _),by omega,rfl,rfl,rfl,congrArg (fun x=>V.s (S.int .i64 x)) (by omega),rfl⟩
  refine Ze (Yq rfl (Yc (Yi (⟨_,YK (v:=.snil) rfl (YP),?_⟩))))
  exact ⟨[],.nil (Zai (by omega)),fun _ h=>by cases h⟩
 obtain ⟨hc,k1,k2,k5,k6,rfl⟩:=hI
 refine Za 1 k1 (Za 2 k2 (Za 5 k5 (Za 6 k6 (Ze ?_))))
 obtain ⟨S1,hR1,hS1⟩:=vu
 obtain ⟨S2,hR2,hS2⟩:=Zar
 refine Yt rfl (hR1) rfl rfl rfl (Yt rfl (hR2) rfl rfl rfl (Yy (Yy (Yz rfl rfl rfl rfl (.there .here) (Yz rfl rfl rfl rfl .here (Yc (Ye (Ze (Zy rfl (Ym (x:=P (sqI s)) rfl rfl ZO (rfl) (Yc (Yk (Ze (Zr rfl (Zk rfl (Yc (Yj rfl (fun h3=>?_) (fun h3=>?_)))))))))))))))))) <;> simp only [NM] at h3
 ·refine Ze (Zj rfl (Zj rfl (YB rfl (.one rfl (.one rfl .nil)) (Zj rfl (YB rfl (.one rfl (.one rfl .nil)) (Wo rfl (.agg rfl (.agg rfl .nil)) (U5 (caps:=[]) rfl (x7 s [(-1,1 - 2*P (sqI s+1)),(1,1 - 2*P (sqI s+1))] (YF rfl)) rfl (Rx.row (l:=Wk [(-1,1 - 2*P (sqI s+1)),(1,1 - 2*P (sqI s+1))]) rfl (Zac _)) (Qf ZM) rfl rfl (fun v1 own1 n1 hr1=>Yq (v:=v1) rfl (Yc (Yi (⟨_,YK (v:=v1) rfl (YP),?_⟩)))))))))))
  exact ⟨_,(sC hc (by assumption)).symm ▸ hr1,(fun _ h=>(ZaC _ h))⟩
 refine Ze (Zr rfl (Zk rfl (Yc (Yj rfl (fun h4=>?_) (fun h4=>?_))))) <;> simp only [NM] at h4
 ·refine Ze ?_
  obtain ⟨S3,hR3,hS3⟩:=gz
  refine Yt rfl (hR3) rfl rfl rfl (Yy (Yz rfl rfl rfl rfl .here (Zf (Zj rfl (K4 rfl rfl (by decide) (U5 (caps:=[]) rfl (x7 s jumpL (YF rfl)) rfl (Rx.row (l:=Wk jumpL) rfl (Rp rfl hS3)) (Qf ZM) rfl rfl (fun v2 own2 n2 hr2=>Yq (v:=v2) rfl (Yc (Yi (⟨_,YK (v:=v2) rfl (YP),?_⟩))))))))))
  exact ⟨_,(rO hc (by assumption)).symm ▸ hr2,(fun _ h=>(ZaC _ h))⟩
 refine Ze (Zr rfl (Zk rfl (Yc (Yj rfl (fun h5=>?_) (fun h5=>?_))))) <;> simp only [NM] at h5
 ·refine Ye (Yg (Zj rfl (K4 rfl rfl (by decide) (K4 rfl rfl (by decide) (qw rfl rfl (WO_cat (z:=2) (m:=4) rfl rfl (rC _ _ (Wk straightL) (Wk slantL) rfl rfl (Rp rfl hS1) (Rp rfl hS2)) ZM ZO ZN (by omega) (fun v3 own3 n3 hr3=>U5 (caps:=[]) rfl (x7 s (straightL++slantL) (YF rfl)) rfl (hr3.rx) (fun _ h=>(ZaC _ h)) rfl rfl (fun v4 own4 n4 hr4=>Yq (v:=v4) rfl (Yc (Yi (⟨_,YK (v:=v4) rfl (YP),?_⟩)))))))))))
  exact ⟨_,(ph hc (by assumption)).symm ▸ hr4,(fun _ h=>(ZaC _ h))⟩
 refine Ze (Zr rfl (Zk rfl (Yc (Yj rfl (fun h6=>?_) (fun h6=>?_))))) <;> simp only [NM] at h6
 ·refine Ye (Yg (Yo rfl rfl ZP (Zj rfl (K4 rfl rfl (by decide) (U5 (caps:=[]) rfl (zY P s straightL (by decide) (by decide)) rfl (Rx.row (l:=Wk straightL) rfl (Rp rfl hS1)) (Qf ZN) rfl rfl (fun v5 own5 n5 hr5=>Yq (v:=v5) rfl (Yc (Yi (⟨_,YK (v:=v5) rfl (YP),?_⟩)))))))))
  exact ⟨_,(ot hc (by assumption)).symm ▸ hr5,(fun _ h=>(ZaC _ h))⟩
 refine Ze (Zr rfl (Zk rfl (Yc (Yj rfl (fun h7=>?_) (fun h7=>?_))))) <;> simp only [NM] at h7
 ·refine Ye (Yg (Yo rfl rfl ZP (Zj rfl (K4 rfl rfl (by decide) (U5 (caps:=[]) rfl (zY P s slantL (by decide) (by decide)) rfl (Rx.row (l:=Wk slantL) rfl (Rp rfl hS2)) (Qf ZM) rfl rfl (fun v6 own6 n6 hr6=>Yq (v:=v6) rfl (Yc (Yi (⟨_,YK (v:=v6) rfl (YP),?_⟩)))))))))
  exact ⟨_,(rW hc (by assumption)).symm ▸ hr6,(fun _ h=>(ZaC _ h))⟩
 refine Ze (Zr rfl (Zk rfl (Yc (Yj rfl (fun h8=>?_) (fun h8=>?_))))) <;> simp only [NM] at h8
 ·refine Ye (Yg (Yo rfl rfl ZP (Zj rfl (K4 rfl rfl (by decide) (K4 rfl rfl (by decide) (qw rfl rfl (WO_catq (z:=2) (m:=4) rfl rfl (rC _ _ (Wk straightL) (Wk slantL) rfl rfl (Rp rfl hS1) (Rp rfl hS2)) ZM ZO ZN (by omega) (fun v7 own7 n7 hr7=>U5 (caps:=[]) rfl (zY P s (straightL++slantL) (by decide) (by decide)) rfl (hr7.rx) (fun _ h=>(ZaC _ h)) rfl rfl (fun v8 own8 n8 hr8=>Yq (v:=v8) rfl (Yc (Yi (⟨_,YK (v:=v8) rfl (YP),?_⟩))))))))))))
  exact ⟨_,(p4 hc (by assumption)).symm ▸ hr8,(fun _ h=>(ZaC _ h))⟩
 refine Yh (Ze (Yq rfl (Yc (Yi (⟨_,YK (v:=.snil) rfl (YP),?_⟩)))))
 exact ⟨[],.nil (rp hc (by assumption) (by assumption) (by assumption) (by assumption) (by assumption) (by assumption)),fun _ h=>by cases h⟩
theorem qj {F:Nat->Int} {l:List Int} {m:Nat} (hl:l.length=m) (hF:∀ i,i < l.length->F i=l.getD i 0):XW (ia F) m=l:=by
 unfold XW
 refine List.ext_getElem (by simp [hl]) fun i h1 h2=>?_
 rw [List.getElem_map,List.getElem_range]
 show F i=_
 rw [hF i h2,Zau,Zav h2]; rfl
theorem allI {F:Nat->Int} (m:Nat):Xs m (fun i=>VY (ia F i))=true:=allB_true (fun _=>rfl) m
theorem uB (l:List Int) (F:Nat->Int):ED l (ia F)=ia (fun i=>bif Nat.blt i l.length then l.getD i 0 else F i):=by
 funext i
 unfold ED
 show _=S.int .i64 (bif Nat.blt i l.length then l.getD i 0 else F i)
 cases Nat.blt i l.length <;> rfl
theorem sE {l:List Int} {F:Nat->Int}:∀ i,i < l.length->(bif Nat.blt i l.length then l.getD i 0 else F i)=l.getD i 0:=fun i hi=>by
 rw [show Nat.blt i l.length=true from ZaA hi]; rfl
theorem sort_st (l:List Int) (hlen:l.length<=1000000):StR AM 175 1 [] [] l (K0 l):=by
 refine ⟨(Kc l).length_eq,fun _=>⟨[],?_,trivial⟩,fun m q F hl hF=>⟨_,sE (F:=F),[_],?_,rfl,⟨_,_,_,rfl⟩,trivial⟩⟩
 ·rw [VP (pf:=TG) rfl _ _ rfl]; rfl
 rw [VP (pf:=TG) rfl _ _ rfl]
 have hl':l.length=m:=by rw [hl,Nat.mul_one]
 have hlt:Nat.blt m 4611686018427387904=true:=ZaA (by omega)
 show (bif Xs m (fun i=>VY (ia F i))&&Nat.blt m 4611686018427387904 then some (V.tup [],[Blk.sc .grow q (ED (K0 (XW (ia F) m)) (ia F))]) else none)=_
 rw [allI,hlt,qj hl' hF,uB]; rfl
theorem gH (P:Nat->Int) (s:Int) (l:List (Int × Int)) (h:l.length<=8):(X6 P s l).length<=64:=ZaZ (DG P s l) (by omega)
theorem D0 (P:Nat->Int) (s:Int):(Wc P s).length<=64:=by
 have h1:=fun l=>R3 s l
 unfold Wc Um
 repeat' split
 all_goals first
  | exact gH P s _ (by decide)
  | exact ZaZ (R3 s _) (by decide)
  | exact ZaZ (R3 s _) (YF rfl)
  | exact Zbt _
theorem JA {P Q:Nat->Int} (h:∀ i,i < 133->Q i=P i) {t:Int} (ht:0<=t/\t < 64):YT Q t=YT P t:=R7 ht fun i hi=>h i (by omega)
theorem wV {P Q:Nat→Int} (h:∀ i,i < 133→Q i=P i):∀ {l:List Int},(∀ t∈l,0≤t∧t < 64)→V8 Q l=V8 P l
 | [],_=>rfl
 | t::l,hl=>by
  unfold V8
  rw [JA h (hl t ZM),wV h fun u hu=>hl u (.tail _ hu)]
theorem tK {P Q:Nat->Int} (h:∀ i,i < 133->Q i=P i) (s:Int) (l:List (Int × Int)):X6 Q s l=X6 P s l:=by
 unfold X6
 exact congrArg (fun f=>l.flatMap f) (funext fun w=>wV h fun t ht=>yR ht)
theorem DJ {P Q:Nat->Int} (h:∀ i,i < 133->Q i=P i) {s:Int} (hs:0<=s/\s < 64):Wc Q s=Wc P s:=by
 have hq:sqI s=0+s.toNat*2:=rfl
 unfold Wc Um
 rw [h (sqI s) (by omega),h (sqI s+1) (by omega)]
 simp only [tK h]
theorem ux (P:Nat->Int) (s:Int):RtR AM 157 1 [.agg 133 (ia P),.s (.int .i64 s)] [] (Wt P s) []:=by
 refine Vs (YJ (a:=a157) rfl rfl (YI _) (ZQ rfl) (m:=0) rfl (Ze (YC rfl (Yq rfl (Yc (Ye (Ze (Zj rfl (Yt rfl (KQ _) rfl rfl rfl (Yv (r:=.bool _) rfl rfl (Yc (Yj rfl (fun h1=>?_) (fun h1=>?_))))))))))))) <;> simp only [NM] at h1
 ·try simp only [isM,ZaL,Zax] at h1
  refine Ze (Yq rfl (Yc (Yi (⟨_,YK (v:=.snil) rfl (YP),?_⟩))))
  have e:Wt P s=[]:=Za7 (by assumption)
  exact ⟨[],.nil e,fun _ h=>by cases h⟩
 try simp only [isM,ZaL,Zax] at h1
 refine Yh (Ze (Yo rfl rfl ZM (YB (Q:=ovA (fun _=>0) 0 133 P) rfl (.agg rfl .nil) (Zj rfl ?_))))
 have hcut:∀ i,i < 133->ovA (fun _=>0) 0 133 P i=P i:=fun i hi=>by rw [X1 (by omega),Nat.sub_zero]
 have hfrom:=DJ hcut (by omega) ▸ wa (ovA (fun _=>0) 0 133 P) s (by omega)
 refine YE rfl (hfrom) rfl rfl (fun v1 own1 n1 hr1=>Yq (v:=v1) rfl (Zf (Yq (v:=v1) rfl (wR (caps:=[]) rfl (sort_st (Wc P s) (ZaZ (D0 P s) (by decide))) rfl hr1 .here rfl rfl (fun own2 hr2=>Zf (Yq (v:=v1) rfl (Yq (v:=v1) rfl (Yc (Yi (⟨_,YK (v:=v1) rfl (YP),?_⟩))))))))))
 have e:Wt P s=K0 (Wc P s):=Za8 (by assumption)
 exact ⟨_,e ▸ hr2,(fun _ h=>(ZaC _ h))⟩
def Ku (P:Nat->Int) (c s a:Int):Bool:=decide (P (sqI a+1)=c)&&decide (s∈Wc P a)
def VX (P:Nat->Int) (c s:Int):Bool:=(Wg 64).any (Ku P c s)
theorem any_no {p:Int->Bool} {i:Nat} (h:∀ a:Nat,a < i->p a=false):(Wg i).any p=false:=by
 unfold Wg
 rw [List.any_map,List.any_eq_false]
 intro a ha
 have:=h a (ZaU.1 ha)
 simpa using this
theorem any_yes {p:Int->Bool} {i k:Nat} (hi:i < k) (h:p i=true):(Wg k).any p=true:=by
 unfold Wg
 rw [List.any_map,List.any_eq_true]
 exact ⟨i,ZaU.2 hi,h⟩
def optV:Option S->V
 | none=>.undef
 | some x=>.s x
def Ri (g0 g10 g11 g18:Nat->S) (x1 x9 x13 x14 x15 x17 x19 x20:S) (ml o:Nat) (c:Cp) (u:Option S):List V:=[.agg 133 g0,.s x1,.sl 4 0 ml 1 c,.ptr 1 0 133,.undef,.undef,.ptr 2 0 1,.ptr 3 0 133,.undef,.s x9,.agg 133 g10,.agg 133 g11,.sl 4 0 ml 1 c,.s x13,.s x14,.s x15,.ptr 4 o 1,.s x17,.agg 133 g18,.s x19,.s x20,.fn 113 [.ptr 5 0 133,.ptr 6 0 1,.ptr 7 0 1],.undef,optV u]
section
variable (g0 g10 g11 g18:Nat->S) (x1 x9 x13 x14 x15 x17 x19 x20:S) (ml o:Nat) (c:Cp) (u:Option S)
noncomputable def Qe (st:Nat) (r:Nat->S) (B1 B3 B4:Blk) (P:Nat->Int) (b s:Int):List Blk:=[.lp 22 wD (Ri g0 g10 g11 g18 x1 x9 x13 x14 x15 x17 x19 x20 ml o c u) st,B1,.sc .var 1 r,B3,B4,.sc .var 133 (ia P),.sc .var 1 (fun _=>.int .i64 b),.sc .var 1 (fun _=>.int .i64 s)]
theorem gR {r:Nat->S} {B1 B3 B4:Blk} {P:Nat->Int} {b s a:Int}:WR AM 22 [.pan .undef,.yv 0,.s (.int .i64 a)] (Qe g0 g10 g11 g18 x1 x9 x13 x14 x15 x17 x19 x20 ml o c u 0 r B1 B3 B4 P b s) (fun v n L=>v=.s (.bool false)/\UZ L 0 (Qe g0 g10 g11 g18 x1 x9 x13 x14 x15 x17 x19 x20 ml o c u 2 (WN r 0 1 fun _=>.bool true) B1 B3 B4 P b s)):=by
 refine Tq (N:=24) (B:=B54) (f:=YI ((Ri g0 g10 g11 g18 x1 x9 x13 x14 x15 x17 x19 x20 ml o c u).set 22 (.s (.int .i64 a)))) (caps:=Ri g0 g10 g11 g18 x1 x9 x13 x14 x15 x17 x19 x20 ml o c u) rfl rfl rfl (DK rfl) rfl (Yh ⟨22,wD,Ri g0 g10 g11 g18 x1 x9 x13 x14 x15 x17 x19 x20 ml o c u,rfl,?_⟩)
 refine Yk (Ye (Yf (JE rfl rfl rfl rfl rfl rfl (.there (.there .here)) (Yc (Yi ⟨22,wD,Ri g0 g10 g11 g18 x1 x9 x13 x14 x15 x17 x19 x20 ml o c u,rfl,rfl,?_⟩)))))
 exact ⟨.head _,.tail _ ZM,.tail _ ZN,.tail _ ZO,.tail _ ZP,.tail _ (.tail _ ZP),.tail _ (.tail _ (.tail _ ZP)),.tail _ (.tail _ (.tail _ (.tail _ ZP))),trivial⟩
theorem kC {st:Nat} {r G1 G3 G4:Nat->S} {md:Md} {q:Nat} {P:Nat->Int} {b s:Int}:Xx [0,1,2,3,4,5,6,7] (Qe g0 g10 g11 g18 x1 x9 x13 x14 x15 x17 x19 x20 ml o c u st r (.sc .var 133 G1) (.sc .var 133 G3) (.sc md q G4) P b s)=some (Qe g0 g10 g11 g18 x1 x9 x13 x14 x15 x17 x19 x20 ml o c u st r (.sc .var 133 G1) (.sc .var 133 G3) (.sc md q G4) P b s):=by cases u <;> rfl
theorem tz {st:Nat} {r G1 G3 G4:Nat->S} {md:Md} {q:Nat} {P:Nat->Int} {b s:Int}:YO (Qe g0 g10 g11 g18 x1 x9 x13 x14 x15 x17 x19 x20 ml o c u st r (.sc .var 133 G1) (.sc .var 133 G3) (.sc md q G4) P b s) 64 [0] []=List.range 8:=by cases u <;> rfl
theorem vU {st:Nat} {r G1 G3 G4:Nat->S} {md:Md} {q:Nat} {P:Nat->Int} {b s:Int}:YO (Qe g0 g10 g11 g18 x1 x9 x13 x14 x15 x17 x19 x20 ml o c u st r (.sc .var 133 G1) (.sc .var 133 G3) (.sc md q G4) P b s) 64 [0,5,6,7] []=List.range 8:=by cases u <;> rfl
end
theorem qW (P:Nat->Int) (s b:Int):WR AM 92 [.agg 133 (ia P),.s (.int .i64 s),.s (.int .i64 b)] [] (fun v n L=>v=.fn 113 [.ptr 0 0 133,.ptr 2 0 1,.ptr 1 0 1]/\n=3/\L=[(2,.sc .var 1 fun _=>.int .i64 b),(1,.sc .var 1 fun _=>.int .i64 s),(0,.sc .var 133 (ia P))]):=by
 refine YJ (a:=a92) rfl rfl (YI _) (ZQ rfl) (m:=0) rfl (Ye (Yf (YC rfl (uG rfl (uG rfl (Yq rfl (Yc (Ye (Yf (KY rfl (Yq rfl (Yc ?_))))))))))))
 exact Yi ⟨_,YK rfl YP,rfl,rfl,rfl⟩
theorem gZ {A:AP} {fid:FuncId} {z:Nat} {av:List V} {l:List Int} (hs:RtR A fid z av [] l []) (h1:V.looseL av=true) {n:Nat} {L:HA}:∀ σ,Hp σ n L->∃ r,Y3 (Run A) false (.fn fid []) av σ=some r:=fun σ hσ=>by
 have hk:=YE (A:=A) (N:=0) (f:=fun _=>.undef) (n:=n) (L:=L) (K:=fun _ _ _=>True) (Zp:=fun _ _ _ _=>False) (rest:=[]) (d:=0) (x:=.k (.fn fid [])) (xs:=av.map .k) rfl hs (by rw [List.map_map]; exact List.map_id'' (fun _=>rfl) _) h1 (fun _ _ _ _=>Yc trivial)
 obtain ⟨x,f',σ',n',L',e1,e2,e3⟩:=hk σ hσ
 have hev:(av.map O.k).map (fun x=>x.ev (E 0 fun _=>.undef))=av:=by rw [List.map_map]; exact List.map_id'' (fun _=>rfl) _
 cases hc:Y3 (Run A) false (.fn fid []) av σ with
 | some r=>exact ⟨r,rfl⟩
 | none =>
  exfalso
  simp only [WU,XO,Xw,YL,hev] at e1
  rw [show (O.k (.fn fid [])).ev (E 0 fun _=>.undef)=.fn fid [] from rfl,hc] at e1
  simp only [Option.map_none,Zay,ZaW] at e1
  obtain ⟨y,_,h,_⟩:=e1
  subst h
  exact e3
theorem iter_is (g0 g10 g11 g18:Nat->S) (x1 x9 x13 x14 x15 x17 x19 x20:S) (ml o:Nat) (c:Cp) (u:Option S) {r G1 G3 G4:Nat->S} {md:Md} {q:Nat} (P:Nat->Int) (b s:Int):WR AM 113 [.yv 0,.ptr 5 0 133,.ptr 6 0 1,.ptr 7 0 1] (Qe g0 g10 g11 g18 x1 x9 x13 x14 x15 x17 x19 x20 ml o c u 0 r (.sc .var 133 G1) (.sc .var 133 G3) (.sc md q G4) P b s) (fun v _ L=>v=.tup []/\UZ L 0 (if VX P b s=true then Qe g0 g10 g11 g18 x1 x9 x13 x14 x15 x17 x19 x20 ml o c u 2 (WN r 0 1 fun _=>.bool true) (.sc .var 133 G1) (.sc .var 133 G3) (.sc md q G4) P b s else Qe g0 g10 g11 g18 x1 x9 x13 x14 x15 x17 x19 x20 ml o c u 0 r (.sc .var 133 G1) (.sc .var 133 G3) (.sc md q G4) P b s)):=by
 refine YJ (a:=a113) rfl rfl (YI _) (ZQ rfl) (m:=8) rfl (Ze (Zy rfl (Zy rfl (Yo rfl rfl (.tail _ (.tail _ ZP)) (Yq rfl (Yc (Yk (Xm (.refl _) (Xp (fun m f _ L=>∃ (i:Nat),(i<=64)/\(m=64 - i)/\(∀ a:Nat,a < i->Ku P b s a=false)/\(f 0=.yv 0)/\(f 1=.ptr 5 0 133)/\(f 2=.ptr 6 0 1)/\(f 3=.ptr 7 0 1)/\(f 9=.agg 128 (ia P))/\(f 10=.s (.int .i64 i))/\(L=[(0,.lp 22 wD (Ri g0 g10 g11 g18 x1 x9 x13 x14 x15 x17 x19 x20 ml o c u) 0),(1,.sc .var 133 G1),(2,.sc .var 1 r),(3,.sc .var 133 G3),(4,.sc md q G4),(5,.sc .var 133 (ia P)),(6,.sc .var 1 (fun _=>.int .i64 b)),(7,.sc .var 1 (fun _=>.int .i64 s))])) (fun m f nb L hI=>?_) (64) (⟨0,by omega,rfl,fun a h=>by omega,rfl,rfl,rfl,rfl,rfl,rfl,rfl⟩))))))))))
 obtain ⟨i,hi,hm,hn,k0,k1,k2,k3,k9,k10,rfl⟩:=hI
 refine Za 0 k0 (Za 1 k1 (Za 2 k2 (Za 3 k3 (Za 9 k9 (Za 10 k10 (Ze (Zr rfl (Yc (Ye (Yj rfl (fun h1=>?_) (fun h1=>?_))))))))))) <;> simp only [NM] at h1
 ·refine Yh (Ye (Yk (Ze (Zj rfl (xQ rfl rfl rfl (by omega) (Yy (Zj rfl (Yz rfl rfl rfl rfl .here (Yc (Ye (WP_parcO2' [0,1,2,3,4,5,6] [7,8,9,10,11,12,13,14,15,16] [8,7,9,10,11,12,13,14,15,16] rfl (by decide +kernel) ?_)))))))))))
  simp only [XD,List.getElem?_cons_zero,List.getElem?_cons_succ]
  refine Zz rfl (Ym (x:=P (sqI i+1)) rfl rfl ZM (show P ((i:Int).toNat*2+1)=_ from congrArg P (by have hq:sqI (i:Int)=0+(i:Int).toNat*2:=rfl; omega)) (Yn (x:=.int _ _) rfl rfl (.tail _ (.tail _ (.tail _ (.tail _ ZP)))) rfl (Zr rfl (Zk rfl (Ys (t:=18) rfl (fun h2=>?_) (fun h2=>?_)))))) <;> simp only [NM] at h2
  ·refine Yb rfl (Yo rfl rfl (.tail _ (.tail _ (.tail _ ZP))) (Yb rfl (Zj rfl (Yc (⟨qT (t:=18) (b:=7) rfl rfl rfl rfl (.tail _ (.tail _ (.tail _ (.tail _ (.tail _ ZP))))) ⟨.s (.int .i64 s),fun σ h=>by simp only [rdV,h,cond_false]⟩ rfl rfl (gZ (wa P i (by omega)) rfl),?_⟩)))))
   refine KS (l1:=[_,_,_,_,_,_,_]) (l2:=[_,_,_]) (Yb rfl (YE rfl (wa P i (by omega)) rfl rfl (fun v1 own1 n1 hr1=>Yb rfl (Yn (x:=.int _ _) rfl rfl (Zaz _ (.tail _ (.tail _ (.tail _ (.tail _ (.tail _ ZP)))))) rfl (Yb rfl (Wp (caps:=[]) rfl (vh s (Wc P i) (ZaZ (D0 P i) (by decide))) rfl (hr1.rx) (fun _ h=>(ZaC _ h)) rfl rfl rfl (Zq rfl (Zk rfl (Ys (t:=25) rfl (fun h3=>?_) (fun h3=>?_)))))))))) <;> simp only [NM] at h3
   ·refine Yb rfl (Yq (v:=.yv _) rfl (Yb rfl (Zj rfl (Yc (Ka (Za9 (.cons _ (.refl _))) (Df rfl ?_))))))
    refine o9 (Lr:=[(0,_),(1,_),(2,_),(3,_),(4,_),(5,_),(6,_),(7,_)]) (L0:=[]) (vs:=[.yv 0,.s (.int .i64 i)]) (Bs:=Qe g0 g10 g11 g18 x1 x9 x13 x14 x15 x17 x19 x20 ml o c u 0 r (.sc .var 133 G1) (.sc .var 133 G3) (.sc md q G4) P b s) (by first | (rw [ZaQ]; done) | (rw [ZaQ]; exact .refl _)) rfl rfl ZM rfl (kC g0 g10 g11 g18 x1 x9 x13 x14 x15 x17 x19 x20 ml o c u) rfl (tz g0 g10 g11 g18 x1 x9 x13 x14 x15 x17 x19 x20 ml o c u) ?_
    refine QL (gR g0 g10 g11 g18 x1 x9 x13 x14 x15 x17 x19 x20 ml o c u) ?_
    rintro v n1 L1 ⟨rfl,hfa⟩
    refine ⟨Qe g0 g10 g11 g18 x1 x9 x13 x14 x15 x17 x19 x20 ml o c u 2 (WN r 0 1 fun _=>.bool true) (.sc .var 133 G1) (.sc .var 133 G3) (.sc md q G4) P b s,.s (.bool false),_,hfa,rfl,rfl,rfl,kC g0 g10 g11 g18 x1 x9 x13 x14 x15 x17 x19 x20 ml o c u,?_⟩
    refine Vk (Yb rfl (Yv (r:=.bool _) rfl rfl (Zq rfl (Yc (ZA rfl (Yi (⟨_,YP,?_⟩)))))))
    refine ⟨rfl,?_⟩
    rw [Za8 (show VX P b s=true from any_yes (p:=Ku P b s) (i:=i) (by omega) (by unfold Ku; rw [ZaM,ZaL,ZaL]; exact ⟨by assumption,by assumption⟩))]
    exact ⟨ZM,ZN,ZO,ZP,(.tail _ ZP),(.tail _ (.tail _ ZP)),(.tail _ (.tail _ (.tail _ ZP))),(.tail _ (.tail _ (.tail _ (.tail _ ZP)))),trivial⟩
   refine ZD rfl (Yc (Vk (ZD rfl (Zq rfl (Yc (ZB rfl (Yh (Yf (Zs rfl rfl (Zj rfl (Yc (⟨64 - (i+1),_,by omega,(Za9 (.cons _ (.refl _))),i+1,by omega,rfl,?_,rfl,rfl,rfl,rfl,rfl,rfl,rfl⟩))))))))))))
   intro a ha
   by_cases e:a=i
   · subst e; unfold Ku; rw [ZaB,Zax,Zax]; first | exact .inl (by assumption) | exact .inr (by assumption)
   exact hn a (by omega)
  refine ZD rfl (Yc (⟨pD (t:=18) rfl rfl rfl rfl rfl rfl,Vk ?_⟩))
  refine ZD rfl (ZC rfl (Zq rfl (Zk rfl (ZE rfl (Zq rfl (Yc (ZB rfl (Yh (Yf (Zs rfl rfl (Zj rfl (Yc (⟨64 - (i+1),_,by omega,(.cons _ (.refl _)),i+1,by omega,rfl,?_,rfl,rfl,rfl,rfl,rfl,rfl,rfl⟩)))))))))))))
  intro a ha
  by_cases e:a=i
  · subst e; unfold Ku; rw [ZaB,Zax,Zax]; first | exact .inl (by assumption) | exact .inr (by assumption)
  exact hn a (by omega)
 refine YX (Xe (⟨_,YP,?_⟩))
 obtain rfl:i=64:=by omega
 refine ⟨rfl,?_⟩
 have hno:=any_no (p:=Ku P b s) hn
 rw [Za7 (show ¬ VX P b s=true by unfold VX; rw [hno]; decide)]
 exact ⟨ZM,ZN,ZO,ZP,(.tail _ ZP),(.tail _ (.tail _ ZP)),(.tail _ (.tail _ (.tail _ ZP))),(.tail _ (.tail _ (.tail _ (.tail _ ZP)))),trivial⟩
theorem perm7 {α:Type} (a b c d e f g:α):[g,f,e,a,b,c,d].Perm [a,b,c,d,e,f,g]:=by
 have h:([g,f,e]++[a,b,c,d]).Perm ([a,b,c,d]++[g,f,e]):=List.perm_append_comm
 exact h.trans (List.Perm.append_left [a,b,c,d] (List.reverse_perm [e,f,g]))
theorem perm3 {α:Type} (a b c:α) (l:List α):(c::b::a::l).Perm (a::b::c::l):=(List.reverse_perm [a,b,c]).append_right l
theorem cut2 (P:Nat->Int):∀ i,i < 133->ovA (fun _=>0) 0 133 (ovA (fun _=>0) 0 133 P) i=P i:=EM P
theorem qJ {P Q:Nat->Int} (h:∀ i,i < 133->Q i=P i) (c s:Int):VX Q c s=VX P c s:=by
 have hh:∀ a:Nat,a < 64->Ku Q c s a=Ku P c s a:=fun a ha=>by
  have hq:sqI (a:Int)=0+(a:Int).toNat*2:=rfl
  unfold Ku
  rw [h (sqI (a:Int)+1) (by omega),DJ h (by omega)]
 unfold VX Wg
 rw [List.any_map,List.any_map,ZaP,List.any_eq_true,List.any_eq_true]
 constructor
 ·rintro ⟨a,ha,hx⟩; exact ⟨a,ha,by show Ku P c s a=true; rw [<- hh a (ZaU.1 ha)]; exact hx⟩
 rintro ⟨a,ha,hx⟩; exact ⟨a,ha,by show Ku Q c s a=true; rw [hh a (ZaU.1 ha)]; exact hx⟩
theorem any_at {p:Int->Bool} {l:List Int} {i:Nat} (hi:i < l.length) (h:p (l.getD i 0)=true):l.any p=true:=by
 rw [List.any_eq_true]
 rw [Zau,Zav hi] at h
 exact ⟨l[i],List.getElem_mem hi,h⟩
theorem jy {p:Int->Bool} {l:List Int} (h:∀ j:Nat,j < l.length->p (l.getD j 0)=false):l.any p=false:=by
 rw [List.any_eq_false]
 intro x hx
 obtain ⟨j,hj,rfl⟩:=List.mem_iff_getElem.1 hx
 have:=h j hj
 rw [Zau,Zav hj] at this
 simpa using this
theorem sh (P:Nat->Int) (c:Int) (l:List Int) (hlen:l.length<=1000000):RdR AM 54 1 [.agg 133 (ia P),.s (.int .i64 c)] [] l (.s (.bool (l.any (VX P c)))):=by
 refine Ql fun v Bs hc=>?_
 refine YJ (a:=a54) rfl rfl (YI _) (ZQ rfl) rfl ?_ (by first | rfl | (cases hc <;> rfl))
 have hr0:=hc.rx
 rw [show Xb 0 Bs=Xb 0 Bs++[] from (ZaQ _).symm]
 generalize hown:Xb 0 Bs=own0 at hr0 ⊢
 refine Ze (YC rfl (rb (Zf (Yo rfl rfl ZN (YB (Q:=ovA (fun _=>0) 0 133 P) rfl (.agg rfl .nil) (Yy (Yz rfl rfl rfl rfl .here (Yc (Ye (Ze (Yq (v:=v) rfl (Wq rfl hr0 (by decide) KO (Yq rfl (Yc (Yk (wg (perm3 _ _ _ _) (Xm (.cons_cons _ (.cons_cons _ (.cons_cons _ (ZaE (.refl _) .slnil)))) (Xp (fun m f _ L=>∃ (i:Nat) (u:Option S),(i<=l.length)/\(m=l.length - i)/\(∀ j:Nat,j < i->VX P c (l.getD j 0)=false)/\(f 0=.agg 133 (ia P))/\(f 1=.s (.int .i64 c))/\(f 2=v)/\(f 3=.ptr Bs.length 0 133)/\(f 4=.undef)/\(f 5=.undef)/\(f 6=.ptr (Bs.length+1) 0 1)/\(f 7=.ptr (Bs.length+1+1) 0 133)/\(f 8=.undef)/\(f 10=.agg 133 (ia P))/\(f 11=.agg 133 (ia (ovA (fun _=>0) 0 133 P)))/\(f 12=v)/\(f 13=.s (.int .i64 l.length))/\(f 14=.s (.int .i64 i))/\(f 22=.undef)/\(f 23=optV u)/\(L=(Bs.length,.sc .var 133 (ia P))::(Bs.length+1,.sc .var 1 (fun _=>.bool false))::(Bs.length+1+1,.sc .var 133 (ia (ovA (fun _=>0) 0 133 (ovA (fun _=>0) 0 133 P))))::(own0++[]))) (fun m f nb L hI=>?_) (l.length) (⟨0,none,by omega,by omega,fun j hj=>by omega,rfl,rfl,rfl,rfl,rfl,rfl,rfl,rfl,rfl,rfl,rfl,rfl,rfl,rfl,rfl,rfl,rfl⟩)))))))))))))))))))
 obtain ⟨i,u,hi,hm,hn,k0,k1,k2,k3,k4,k5,k6,k7,k8,k10,k11,k12,k13,k14,k22,k23,rfl⟩:=hI
 refine Za 0 k0 (Za 1 k1 (Za 2 k2 (Za 3 k3 (Za 4 k4 (Za 5 k5 (Za 6 k6 (Za 7 k7 (Za 8 k8 (Za 10 k10 (Za 11 k11 (Za 12 k12 (Za 13 k13 (Za 14 k14 (Za 22 k22 (Za 23 k23 (Ze (Zr rfl (Yc (Ye (Yj rfl (fun h1=>?_) (fun h1=>?_))))))))))))))))))))) <;> simp only [NM] at h1
 ·refine Yh (Ye (Yk (Ze ?_)))
  obtain ⟨b0,q0,md0,c0,F0,rfl,rfl,hF0⟩:=hr0.at (by decide) KO (by omega)
  refine Zx rfl rfl (Ym (x:=(l.getD i 0)) rfl rfl ZP (ld1 hF0 (by omega)) (Zj rfl (Zf (Yo rfl rfl ZO (Zj rfl (Zj rfl (jQ (fv:=.fn 92 []) (rs:=[]) (vs:=[.agg 133 (ia (ovA (fun _=>0) 0 133 (ovA (fun _=>0) 0 133 P))),.s (.int .i64 (l.getD i 0)),.s (.int .i64 c)]) (Bs:=[]) rfl rfl rfl rfl (QL (qW (ovA (fun _=>0) 0 133 (ovA (fun _=>0) 0 133 P)) (l.getD i 0) c) ?_))))))))
  rintro v9 n9 L9 ⟨rfl,rfl,rfl⟩
  refine ⟨.fn 113 [.ptr nb 0 133,.ptr (nb+1) 0 1,.ptr (nb+2) 0 1],[],[.sc .var 133 (ia (ovA (fun _=>0) 0 133 (ovA (fun _=>0) 0 133 P))),.sc .var 1 (fun _=>.int .i64 c),.sc .var 1 (fun _=>.int .i64 (l.getD i 0))],rfl,?_⟩
  refine Yc (Yk ?_)
  refine WP_rfnD (Lr:=[(Bs.length,_),(Bs.length+1,_),(Bs.length+1+1,_),(b0,_),(nb,_),(nb+1,_),(nb+2,_)]) (L0:=[]) (vs:=[.yv 0,.ptr 5 0 133,.ptr 6 0 1,.ptr 7 0 1]) (caps:=Ri (ia P) (ia P) (ia (ovA (fun _=>0) 0 133 P)) (ia (ovA (fun _=>0) 0 133 (ovA (fun _=>0) 0 133 P))) (.int .i64 c) (.int .i64 (l.getD i 0)) (.int .i64 l.length) (.int .i64 i) (.bool (decide ((i:Int) < (l.length:Int)))) (.int .i64 (l.getD i 0)) (.int .i64 (l.getD i 0)) (.int .i64 c) l.length (0+(i:Int).toNat*1) c0 u) (Br:=[.sc .var 133 (ia P),.sc .var 1 (fun _=>.bool false),.sc .var 133 (ia (ovA (fun _=>0) 0 133 (ovA (fun _=>0) 0 133 P))),.sc md0 q0 (ia F0),.sc .var 133 (ia (ovA (fun _=>0) 0 133 (ovA (fun _=>0) 0 133 P))),.sc .var 1 (fun _=>.int .i64 c),.sc .var 1 (fun _=>.int .i64 (l.getD i 0))]) (perm7 _ _ _ _ _ _ _) rfl rfl (by cases u <;> rfl) rfl rfl (vU (ia P) (ia P) (ia (ovA (fun _=>0) 0 133 P)) (ia (ovA (fun _=>0) 0 133 (ovA (fun _=>0) 0 133 P))) (.int .i64 c) (.int .i64 (l.getD i 0)) (.int .i64 l.length) (.int .i64 i) (.bool (decide ((i:Int) < (l.length:Int)))) (.int .i64 (l.getD i 0)) (.int .i64 (l.getD i 0)) (.int .i64 c) l.length (0+(i:Int).toNat*1) c0 u) ?_
  refine QL (iter_is (ia P) (ia P) (ia (ovA (fun _=>0) 0 133 P)) (ia (ovA (fun _=>0) 0 133 (ovA (fun _=>0) 0 133 P))) (.int .i64 c) (.int .i64 (l.getD i 0)) (.int .i64 l.length) (.int .i64 i) (.bool (decide ((i:Int) < (l.length:Int)))) (.int .i64 (l.getD i 0)) (.int .i64 (l.getD i 0)) (.int .i64 c) l.length (0+(i:Int).toNat*1) c0 u (ovA (fun _=>0) 0 133 (ovA (fun _=>0) 0 133 P)) c (l.getD i 0)) ?_
  rintro v9 n9 L9 ⟨rfl,hfa⟩
  by_cases hh:VX (ovA (fun _=>0) 0 133 (ovA (fun _=>0) 0 133 P)) c (l.getD i 0)=true
  ·rw [Za8 hh] at hfa
   refine ⟨[.sc .var 133 (ia P),.sc .var 1 (WN (fun _=>.bool false) 0 1 fun _=>.bool true),.sc .var 133 (ia (ovA (fun _=>0) 0 133 (ovA (fun _=>0) 0 133 P))),.sc md0 q0 (ia F0),.sc .var 133 (ia (ovA (fun _=>0) 0 133 (ovA (fun _=>0) 0 133 P))),.sc .var 1 (fun _=>.int .i64 c),.sc .var 1 (fun _=>.int .i64 (l.getD i 0))],.tup [],[.sc .var 133 (ia P),.sc .var 1 (WN (fun _=>.bool false) 0 1 fun _=>.bool true),.sc .var 133 (ia (ovA (fun _=>0) 0 133 (ovA (fun _=>0) 0 133 P))),.sc md0 q0 (ia F0),.sc .var 133 (ia (ovA (fun _=>0) 0 133 (ovA (fun _=>0) 0 133 P))),.sc .var 1 (fun _=>.int .i64 c),.sc .var 1 (fun _=>.int .i64 (l.getD i 0))],2,hfa,rfl,rfl,rfl,rfl,?_⟩
   refine ⟨_,kp rfl rfl ZN rfl (YP),?_⟩
   refine ⟨?_,(Qf ZP)⟩
   rw [any_at (i:=i) (by omega) (by rw [<- qJ (cut2 P)]; exact hh)]; rfl
  rw [Za7 hh] at hfa
  refine ⟨[.sc .var 133 (ia P),.sc .var 1 (fun _=>.bool false),.sc .var 133 (ia (ovA (fun _=>0) 0 133 (ovA (fun _=>0) 0 133 P))),.sc md0 q0 (ia F0),.sc .var 133 (ia (ovA (fun _=>0) 0 133 (ovA (fun _=>0) 0 133 P))),.sc .var 1 (fun _=>.int .i64 c),.sc .var 1 (fun _=>.int .i64 (l.getD i 0))],.tup [],[.sc .var 133 (ia P),.sc .var 1 (fun _=>.bool false),.sc .var 133 (ia (ovA (fun _=>0) 0 133 (ovA (fun _=>0) 0 133 P))),.sc md0 q0 (ia F0),.sc .var 133 (ia (ovA (fun _=>0) 0 133 (ovA (fun _=>0) 0 133 P))),.sc .var 1 (fun _=>.int .i64 c),.sc .var 1 (fun _=>.int .i64 (l.getD i 0))],0,hfa,rfl,rfl,rfl,rfl,?_⟩
  refine Yf (Zs rfl rfl (Zj rfl (Yc (⟨l.length - (i+1),_,by omega,(.cons_cons _ (.cons_cons _ (.cons_cons _ (.cons_cons _ (.cons _ (.cons _ (.cons _ .slnil))))))),i+1,some _,by omega,rfl,?_,rfl,rfl,rfl,rfl,rfl,rfl,rfl,rfl,rfl,rfl,rfl,rfl,rfl,rfl,rfl,rfl,rfl⟩))))
  intro j hj
  by_cases e:j=i
  ·subst e; rw [<- qJ (cut2 P)]; simpa using hh
  exact hn j (by omega)
 refine YX (Xe (Ze (WO_st1 rfl rfl rfl rfl (.there .here) (Yc (Yi (⟨_,kp rfl rfl ZN rfl (YP),?_⟩))))))
 obtain rfl:i=l.length:=by omega
 refine ⟨?_,(fun _ h=>(.tail _ (.tail _ (.tail _ h))))⟩
 rw [jy hn]; rfl
def T4 (c:Int):Nat->Int:=ov (ov (fun _=>0) 0 6) 1 c
def Xt (P:Nat->Int) (c:Int):Bool:=if c=0\/c=1 then (TU P (T4 c)).any (VX P (Y5 c)) else false
theorem RM (P X:Nat->Int):(TU P X).length<=64:=Ev _ 64
theorem sn (P:Nat->Int) (c:Int):WR AM 25 [.agg 133 (ia P),.s (.int .i64 c)] [] (fun v _ _=>v=.s (.bool (Xt P c))):=by
 refine YJ (a:=a25) rfl rfl (YI _) (ZQ rfl) (m:=0) rfl (Ze (YC rfl (Yq rfl (Yc (Ye (Ze (Zj rfl (Zr rfl (Zk rfl (Ys (t:=7) rfl (fun h2=>?_) (fun h2=>?_))))))))))) <;> simp only [NM] at h2
 ·refine Yb rfl (Zj rfl (Yb rfl (Zr rfl (Zq rfl (Yc (Yj rfl (fun h3=>?_) (fun h3=>?_))))))) <;> simp only [NM] at h3
  ·refine Ze (Yq rfl (Zg rfl ?_))
   unfold Xt
   (rw [Za7 (by omega)]; rfl)
  refine Yh (Ye (Yg (Yo rfl rfl ZM (Zj rfl (Yu rfl (YG (Uc _)) rfl rfl rfl (Yo rfl rfl ZM (Zj rfl (YB rfl (.one rfl (.one rfl .nil)) (Uh rfl (uk P (T4 c)) rfl rfl (fun v1 own1 n1 hr1=>Wp (caps:=[]) rfl (sh P (Y5 c) _ (ZaZ (RM _ _) (by decide))) rfl (hr1.rx) (fun _ h=>(ZaC _ h)) rfl rfl rfl (Zk rfl (Zg rfl ?_))))))))))))
  unfold Xt
  (rw [Za8 (by omega)]; rfl)
 refine ZD rfl (Zq rfl (Yc (ZB rfl (Yh (Ye (Yg (Yo rfl rfl ZM (Zj rfl (Yu rfl (YG (Uc _)) rfl rfl rfl (Yo rfl rfl ZM (Zj rfl (YB rfl (.one rfl (.one rfl .nil)) (Uh rfl (uk P (T4 c)) rfl rfl (fun v2 own2 n2 hr2=>Wp (caps:=[]) rfl (sh P (Y5 c) _ (ZaZ (RM _ _) (by decide))) rfl (hr2.rx) (fun _ h=>(ZaC _ h)) rfl rfl rfl (Zk rfl (Zg rfl ?_))))))))))))))))
 unfold Xt
 (rw [Za8 (by omega)]; rfl)
theorem RO (P:Nat->Int) (c:Int):RF AM 25 [.agg 133 (ia P),.s (.int .i64 c)] (.s (.bool (Xt P c))):=YG (sn P c)
def YN (P:Nat->Int) (t:Int):Bool:=isM t&&YT P t
def We (P:Nat->Int) (t:Int):Int:=P (sqI t+1)
def Qx (P:Nat->Int) (s c:Int):List Int :=
 (if YN P (YR s 0 (1 - 2*c))=true then [YR s 0 (1 - 2*c)] else []) ++
 (if Wj s=1+5*c/\YN P (YR s 0 (1 - 2*c))=true/\YN P (YR s 0 (2*(1 - 2*c)))=true then [YR s 0 (2*(1 - 2*c))] else []) ++
 (Wt P s).filter fun t=>(!YT P t&&decide (We P t=Y5 c)) || (YN P t&&decide (t=P 130))
def VE (P:Nat->Int) (c t:Int):Bool:=decide (P (sqI t)=4/\P (sqI t+1)=c)
def XR (P:Nat->Int) (s k c:Int):List Int :=
 if k≠6\/s≠56*c+4\/P 129 < 0\/15 < P 129 then []
 else (if P 129 / YS c % 2=1/\VE P c (s+3)=true/\YN P (s+1)=true/\YN P (s+2)=true then [s+2] else []) ++
  (if P 129 / (2*YS c) % 2=1/\VE P c (s - 4)=true/\YN P (s - 1)=true/\YN P (s - 2)=true/\YN P (s - 3)=true then [s - 2] else [])
def VS (P:Nat->Int) (c t:Int):Bool:=!YT P t&&decide (We P t=c)
def XM (P:Nat->Int) (s k c:Int):List Int :=
 if k=1 then Qx P s c else ((Wt P s).filter fun t=>!VS P c t)++XR P s k c
def endM (k c t:Int):Bool:=decide (k=1/\t / 8=7*(1 - c))
def toM (s k c t:Int):List Mv:=if endM k c t=true then [(s,t,2),(s,t,3),(s,t,4),(s,t,5)] else [(s,t,0)]
def Ww (P:Nat->Int) (s:Int):Bool:=YZ (P (sqI s)) (P (sqI s+1))&&decide (P (sqI s+1)=P 128)
def Ud (P:Nat->Int) (s:Int):List Mv:=(XM P s (P (sqI s)) (P (sqI s+1))).flatMap (toM s (P (sqI s)) (P (sqI s+1)))
def Qk (P:Nat->Int) (n:Nat):List Mv:=(Wg n).flatMap fun s=>if Ww P s=true then Ud P s else []
def TX (P:Nat->Int):List Mv:=KI (Qk P 64)
def fromSv (P:Nat->Int) (s:Int):List Mv:=if (0<=s/\s < 64)/\Ww P s=true then KI (Ud P s) else []
def goP (P:Nat->Int) (s t c:Int):Bool :=
 if t=s+8*(1 - 2*c) then YN P t
 else if t=s+16*(1 - 2*c)/\s / 8=1+5*c then YN P (s+8*(1 - 2*c))&&YN P t
 else Xk P s t&&((!YT P t&&decide (We P t=Y5 c)) || (YN P t&&decide (t=P 130)))
def goC (P:Nat->Int) (s t c:Int):Bool :=
 if s≠56*c+4\/P 129 < 0\/15 < P 129 then false
 else if t=s+2 then decide (P 129 / YS c % 2=1)&&VE P c (s+3)&&YN P (s+1)&&YN P (s+2)
 else decide (t=s - 2)&&decide (P 129 / (2*YS c) % 2=1)&&VE P c (s - 4)&&YN P (s - 1)&&YN P (s - 2)&&YN P (s - 3)
def goK (P:Nat->Int) (s t k c:Int):Bool :=
 if k=1 then goP P s t c else (Xk P s t&&!VS P c t) || (decide (k=6)&&goC P s t c)
def Vd (P:Nat->Int) (s t:Int):Bool:=Ww P s&&decide (s≠t)&&goK P s t (P (sqI s)) (P (sqI s+1))
def V5 (P:Nat->Int) (s:Int) (n:Nat):List Mv:=(Wg n).flatMap fun t=>if Vd P s t=true then toM s (P (sqI s)) (P (sqI s+1)) t else []
def UQ (P:Nat->Int) (n:Nat):List Mv:=(Wg n).flatMap fun s=>V5 P s 64
theorem kF {P:Nat->Int} {s t:Int} (h:Xk P s t=true):s≠t:=by
 intro e
 unfold Xk Jx at h
 rw [Za8 (.inr e)] at h
 cases h
theorem ym {P:Nat->Int} {s t:Int} (h:Xk P s t=true) (hk:P (sqI s)=1):XT (t % 8 - s % 8)=1:=by
 unfold Xk Jx at h
 rw [hk] at h
 split at h
 ·cases h
 rw [Za8 rfl,ZaL] at h; exact h.1
theorem jH {P:Nat->Int} {s t:Int} (h:Xk P s t=true) (hk:P (sqI s)=6):XT (t % 8 - s % 8)<=1:=by
 unfold Xk Jx at h
 rw [hk] at h
 split at h
 ·cases h
 rw [Za7 (by decide),Za7 (by decide),Za8 rfl,ZaL] at h; exact h.1
theorem Eu {P:Nat->Int} {s t:Int} (hs:0<=s/\s < 64):t∈Wt P s↔(0<=t/\t < 64)/\Xk P s t=true:=by
 rw [oS]
 unfold attL
 rw [Za8 hs,ZaS]
 unfold Wg
 rw [List.mem_map]
 constructor
 ·rintro ⟨⟨i,hi,rfl⟩,h⟩
  exact ⟨⟨by omega,by have:=ZaU.1 hi; omega⟩,h⟩
 rintro ⟨h1,h2⟩
 exact ⟨⟨t.toNat,ZaU.2 (by omega),by omega⟩,h2⟩
theorem fromS_nodup {P:Nat->Int} {s:Int}:(Wt P s).Nodup:=by
 unfold Wt
 split
 ·rename_i h
  exact (Kc _).nodup_iff.2 (xp h)
 exact .nil
theorem vZ {P:Nat->Int} {t:Int} (h:YN P t=true):0<=t/\t < 64:=by
 unfold YN isM at h
 rw [ZaM,ZaL] at h
 exact h.1
theorem KW {s d:Int} (hs:0<=s/\s < 64) (hd:-8 < d/\d < 8):YR s 0 d=if 0<=s+8*d/\s+8*d < 64 then s+8*d else -1:=by
 unfold YR atM
 rw [Za8 ⟨hs,by omega,hd⟩]
 split <;> split <;> omega
theorem Jn {p:Prop} [Decidable p] {x t:Int}:t∈(if p then [x] else [])↔p/\t=x:=by
 split
 ·rename_i h; simp [h]
 rename_i h; simp [h]
theorem sM {P:Nat->Int} {s t c:Int} (hs:0<=s/\s < 64) (hc:c=0\/c=1) (hk:P (sqI s)=1):t∈Qx P s c↔(0<=t/\t < 64)/\goP P s t c=true:=by
 unfold Qx goP
 rw [ZaR,ZaR,Jn,Jn,ZaS,Eu hs,KW hs (by omega),KW hs (by omega)]
 have hr:Wj s=s / 8:=Za8 hs
 rw [hr]
 have f0:YN P (-1)=false:=rfl
 by_cases h1:t=s+8*(1 - 2*c)
 ·rw [Za8 h1]
  subst h1
  have na:¬ Xk P s (s+8*(1 - 2*c))=true:=fun h=>by
   have:=ym h hk
   unfold XT at this
   split at this <;> omega
  constructor
  ·rintro ((⟨h2,h3⟩ | ⟨⟨h2,h3,h4⟩,h5⟩) | ⟨⟨_,h⟩,_⟩)
   ·split at h2
    ·rename_i hb; exact ⟨hb,h2⟩
    rw [f0] at h2; cases h2
   ·split at h4
    ·split at h5 <;> omega
    rw [f0] at h4; cases h4
   exact absurd h na
  rintro ⟨h2,h3⟩
  rw [Za8 (by omega)]
  exact .inl (.inl ⟨by rw [show s+8*(1 - 2*c)=s+8*(1 - 2*c) from rfl]; exact h3,rfl⟩)
 rw [Za7 h1]
 have n1:¬ (YN P (if 0<=s+8*(1 - 2*c)/\s+8*(1 - 2*c) < 64 then s+8*(1 - 2*c) else -1)=true/\t=if 0<=s+8*(1 - 2*c)/\s+8*(1 - 2*c) < 64 then s+8*(1 - 2*c) else -1):=by
  rintro ⟨h2,h3⟩
  split at h2
  ·rename_i hb; rw [Za8 hb] at h3; exact h1 h3
  rw [f0] at h2; cases h2
 by_cases h2:t=s+16*(1 - 2*c)/\s / 8=1+5*c
 ·rw [Za8 h2]
  obtain ⟨h2,h3⟩:=h2
  have na:¬ Xk P s t=true:=fun h=>by
   have:=ym h hk
   unfold XT at this
   split at this <;> omega
  rw [Za8 (by omega),Za8 (by omega)]
  constructor
  ·rintro ((h | ⟨⟨_,h4,h5⟩,h6⟩) | ⟨⟨_,h⟩,_⟩)
   ·rw [Za8 (by omega)] at n1; exact absurd h n1
   ·refine ⟨by omega,?_⟩
    rw [h4,Bool.true_and,h6]
    exact h5
   exact absurd h na
  rintro ⟨h4,h5⟩
  rw [ZaM] at h5
  refine .inl (.inr ⟨⟨h3,h5.1,?_⟩,by omega⟩)
  rw [show s+8*(2*(1 - 2*c))=t by omega]
  exact h5.2
 rw [Za7 h2]
 have n2:¬ ((s / 8=1+5*c/\YN P (if 0<=s+8*(1 - 2*c)/\s+8*(1 - 2*c) < 64 then s+8*(1 - 2*c) else -1)=true/\YN P (if 0<=s+8*(2*(1 - 2*c))/\s+8*(2*(1 - 2*c)) < 64 then s+8*(2*(1 - 2*c)) else -1)=true)/\t=if 0<=s+8*(2*(1 - 2*c))/\s+8*(2*(1 - 2*c)) < 64 then s+8*(2*(1 - 2*c)) else -1):=by
  rintro ⟨⟨h3,h4,h5⟩,h6⟩
  split at h5
  ·rename_i hb
   rw [Za8 hb] at h6
   exact h2 ⟨by omega,h3⟩
  rw [f0] at h5; cases h5
 simp only [n1,n2,false_or,ZaM,and_assoc]
theorem vH {P:Nat->Int} {s c:Int} (hs:0<=s/\s < 64) (hc:c=0\/c=1) (hk:P (sqI s)=1):(Qx P s c).Nodup:=by
 have f0:YN P (-1)=false:=rfl
 unfold Qx
 rw [List.nodup_append,List.nodup_append]
 refine ⟨⟨by split <;> simp,by split <;> simp,fun a ha b hb e=>?_⟩,fromS_nodup.filter _,fun a ha b hb e=>?_⟩
 ·rw [Jn] at ha hb
  subst e
  have h1:=vZ ha.1
  have h2:=vZ hb.1.2.2
  have e1:=ha.2
  have e2:=hb.2
  rw [KW hs (by omega)] at h1 e1
  rw [KW hs (by omega)] at h2 e2
  split at h1 <;> split at h2 <;> omega
 subst e
 have hb:=(Eu hs).1 (ZaS.1 hb).1
 have ht:=ym hb.2 hk
 rw [ZaR,Jn,Jn,KW hs (by omega),KW hs (by omega)] at ha
 unfold XT at ht
 have hb:=hb.1
 rcases ha with ⟨_,e⟩ | ⟨_,e⟩
 ·split at e <;> split at ht <;> omega
 split at e <;> split at ht <;> omega
theorem ET {P:Nat->Int} {s t k c:Int} (hk:k=6):t∈XR P s k c↔goC P s t c=true:=by
 unfold XR goC
 by_cases h:s≠56*c+4\/P 129 < 0\/15 < P 129
 ·rw [Za8 h,Za8 (.inr h)]; simp
 have hn:¬ (k≠6\/s≠56*c+4\/P 129 < 0\/15 < P 129):=by
  rintro (h' | h')
  ·exact h' hk
  exact h h'
 rw [Za7 h,Za7 hn,ZaR,Jn,Jn]
 by_cases h2:t=s+2
 ·rw [Za8 h2]
  have:¬ t=s - 2:=by omega
  simp [h2,this,and_assoc]
  omega
 rw [Za7 h2]
 simp [h2,and_assoc]
 constructor
 ·rintro ⟨a,b,c,d,e,f⟩; exact ⟨f,a,b,c,d,e⟩
 rintro ⟨f,a,b,c,d,e⟩; exact ⟨a,b,c,d,e,f⟩
theorem Tu {P:Nat->Int} {s k c:Int} (hk:k≠6):XR P s k c=[]:=Za8 (.inl hk)
theorem goC_bd {P:Nat->Int} {s t c:Int} (hc:c=0\/c=1) (h:goC P s t c=true):(0<=t/\t < 64)/\s≠t:=by
 unfold goC at h
 split at h
 ·cases h
 split at h <;> simp at h <;> omega
theorem zJ {P:Nat->Int} {s t:Int} (hs:0<=s/\s < 64) (hm:Ww P s=true):t∈XM P s (P (sqI s)) (P (sqI s+1))↔(0<=t/\t < 64)/\Vd P s t=true:=by
 unfold Vd
 rw [hm,Bool.true_and,ZaM,ZaL]
 have hc:P (sqI s+1)=0\/P (sqI s+1)=1:=by
  unfold Ww YZ at hm
  simp only [ZaM,ZaL] at hm
  omega
 unfold XM goK
 by_cases hk:P (sqI s)=1
 ·rw [Za8 hk,Za8 hk,sM hs hc hk]
  constructor
  ·rintro ⟨h1,h2⟩
   refine ⟨h1,fun e=>?_,h2⟩
   subst e
   unfold goP at h2
   rw [Za7 (by omega),Za7 (by omega),ZaM] at h2
   exact kF h2.1 rfl
  rintro ⟨h1,_,h2⟩
  exact ⟨h1,h2⟩
 rw [Za7 hk,Za7 hk,ZaR,ZaS,Eu hs]
 by_cases h6:P (sqI s)=6
 ·rw [ET h6,Bool.or_eq_true,ZaM,ZaM,ZaL]
  constructor
  ·rintro (⟨⟨h1,h2⟩,h3⟩ | h)
   ·exact ⟨h1,kF h2,.inl ⟨h2,h3⟩⟩
   have:=goC_bd hc h
   exact ⟨this.1,this.2,.inr ⟨h6,h⟩⟩
  rintro ⟨h1,_,⟨h2,h3⟩ | ⟨_,h⟩⟩
  ·exact .inl ⟨⟨h1,h2⟩,h3⟩
  exact .inr h
 rw [Tu h6,Bool.or_eq_true,ZaM,ZaM,ZaL]
 constructor
 ·rintro (⟨⟨h1,h2⟩,h3⟩ | h)
  ·exact ⟨h1,kF h2,.inl ⟨h2,h3⟩⟩
  cases h
 rintro ⟨h1,_,⟨h2,h3⟩ | ⟨h,_⟩⟩
 ·exact .inl ⟨⟨h1,h2⟩,h3⟩
 exact absurd h h6
theorem qR {P:Nat->Int} {s:Int} (hs:0<=s/\s < 64) (hm:Ww P s=true):(XM P s (P (sqI s)) (P (sqI s+1))).Nodup:=by
 have hc:P (sqI s+1)=0\/P (sqI s+1)=1:=by
  unfold Ww YZ at hm
  simp only [ZaM,ZaL] at hm
  omega
 unfold XM
 by_cases hk:P (sqI s)=1
 ·rw [Za8 hk]; exact vH hs hc hk
 rw [Za7 hk,List.nodup_append]
 refine ⟨fromS_nodup.filter _,?_,fun a ha b hb e=>?_⟩
 ·unfold XR
  split
  ·exact .nil
  rw [List.nodup_append]
  refine ⟨by split <;> simp,by split <;> simp,fun a ha b hb e=>?_⟩
  rw [Jn] at ha hb
  omega
 subst e
 by_cases h6:P (sqI s)=6
 ·rw [ET h6] at hb
  have ha:=(Eu hs).1 (ZaS.1 ha).1
  have hka:=jH ha.2 h6
  have ha:=ha.1
  unfold goC at hb
  unfold XT at hka
  split at hb
  ·cases hb
  split at hb
  ·split at hka <;> omega
  simp at hb
  split at hka <;> omega
 rw [Tu h6] at hb; cases hb
theorem JS {s k c t:Int} {m:Mv} (h:m∈toM s k c t):m.1=s/\m.2.1=t:=by
 unfold toM at h
 split at h <;> simp at h
 ·rcases h with rfl | rfl | rfl | rfl <;> exact ⟨rfl,rfl⟩
 subst h; exact ⟨rfl,rfl⟩
theorem rX (s k c t:Int):(toM s k c t).Pairwise lt3:=by
 unfold toM
 split <;> simp [lt3]
theorem g6 (P:Nat->Int) (s:Int) (n:Nat):(V5 P s n).Pairwise lt3:=by
 unfold V5
 rw [List.pairwise_flatMap]
 refine ⟨fun t _=>?_,?_⟩
 ·split
  ·exact rX _ _ _ _
  exact .nil
 unfold Wg
 rw [List.pairwise_map]
 refine List.pairwise_lt_range.imp fun h x hx y hy=>?_
 split at hx
 ·split at hy
  ·have h1:=JS hx; have h2:=JS hy
   unfold lt3; omega
  cases hy
 cases hx
theorem Jr {P:Nat->Int} {s:Int} {n:Nat} {m:Mv} (h:m∈V5 P s n):m.1=s:=by
 unfold V5 at h
 rw [List.mem_flatMap] at h
 obtain ⟨t,_,h⟩:=h
 split at h
 ·exact (JS h).1
 cases h
theorem Zb4 (P:Nat->Int) (n:Nat):(UQ P n).Pairwise lt3:=by
 unfold UQ
 rw [List.pairwise_flatMap]
 refine ⟨fun s _=>g6 P s 64,?_⟩
 unfold Wg
 rw [List.pairwise_map]
 refine List.pairwise_lt_range.imp fun h x hx y hy=>?_
 have h1:=Jr hx; have h2:=Jr hy
 unfold lt3; omega
theorem mem64 {t:Int}:t∈Wg 64↔0<=t/\t < 64:=by
 unfold Wg
 rw [List.mem_map]
 constructor
 ·rintro ⟨i,hi,rfl⟩; have:=ZaU.1 hi; omega
 intro h; exact ⟨t.toNat,ZaU.2 (by omega),by omega⟩
theorem JF {P:Nat->Int} {s:Int} (hs:0<=s/\s < 64) (hm:Ww P s=true) (m:Mv):m∈Ud P s↔m∈V5 P s 64:=by
 unfold Ud V5
 rw [List.mem_flatMap,List.mem_flatMap]
 constructor
 ·rintro ⟨t,h1,h2⟩
  obtain ⟨h3,h4⟩:=(zJ hs hm).1 h1
  exact ⟨t,mem64.2 h3,by rw [Za8 h4]; exact h2⟩
 rintro ⟨t,h1,h2⟩
 split at h2
 ·rename_i h4
  exact ⟨t,(zJ hs hm).2 ⟨mem64.1 h1,h4⟩,h2⟩
 cases h2
theorem kZ {P:Nat->Int} {s:Int} (hs:0<=s/\s < 64) (hm:Ww P s=true):(Ud P s).Nodup:=by
 unfold Ud
 unfold List.Nodup
 rw [List.pairwise_flatMap]
 refine ⟨fun t _=>(rX _ _ _ _).imp fun h e=>by subst e; exact xW _ _ h h,(qR hs hm).imp fun h x hx y hy e=>?_⟩
 subst e
 exact h ((JS hx).2.symm.trans (JS hy).2)
theorem sj {P:Nat->Int} {s:Int} (hm:¬ Ww P s=true) (n:Nat):V5 P s n=[]:=by
 unfold V5
 rw [List.flatMap_eq_nil_iff]
 intro t _
 rw [Za7]
 unfold Vd
 simp [hm]
theorem allS_is (P:Nat->Int):TX P=UQ P 64:=by
 unfold TX
 refine srt3_is ?_ (Zb4 P 64) fun m=>?_
 ·unfold Qk List.Nodup
  rw [List.pairwise_flatMap]
  refine ⟨fun s hs=>?_,?_⟩
  ·split
   ·rename_i hm; exact kZ (mem64.1 hs) hm
   exact .nil
  unfold Wg
  rw [List.pairwise_map]
  refine List.pairwise_lt_range.imp_of_mem fun {a b} ha hb h x hx y hy e=>?_
  subst e
  split at hx
  ·split at hy
   ·rename_i m1 m2
    have ha:=ZaU.1 ha
    have hb:=ZaU.1 hb
    have h1:=Jr ((JF (by omega) m1 _).1 hx)
    have h2:=Jr ((JF (by omega) m2 _).1 hy)
    omega
   cases hy
  cases hx
 unfold Qk UQ
 rw [List.mem_flatMap,List.mem_flatMap]
 constructor
 ·rintro ⟨s,hs,h⟩
  split at h
  ·rename_i hm; exact ⟨s,hs,(JF (mem64.1 hs) hm m).1 h⟩
  cases h
 rintro ⟨s,hs,h⟩
 by_cases hm:Ww P s=true
 ·exact ⟨s,hs,by rw [Za8 hm]; exact (JF (mem64.1 hs) hm m).2 h⟩
 rw [sj hm] at h; cases h
def Qy (p:Nat->Bool):Nat->Int
 | 0=>-1
 | n+1=>if Qy p n=-1 then (if p n=true then n else -1) else Qy p n
theorem DO {p:Nat->Bool}:∀ {n:Nat},(∀ j,j < n->p j=false)->Qy p n=-1
 | 0,_=>rfl
 | n+1,h=>by
  unfold Qy
  rw [Za8 (DO fun j hj=>h j (by omega)),h n (by omega)]; rfl
theorem uh {p:Nat->Bool} {i:Nat}:∀ {n:Nat},i < n->p i=true->(∀ j,j < i->p j=false)->Qy p n=i
 | 0,h,_,_=>by omega
 | n+1,h,hp,hn=>by
  unfold Qy
  by_cases e:i=n
  ·subst e
   rw [Za8 (DO hn),Za8 hp]
  rw [uh (by omega) hp hn,Za7 (by omega)]
theorem uL {p:Nat->Bool}:∀ {n:Nat},0<=Qy p n↔∃ i,i < n/\p i=true
 | 0=>by simp [Qy]
 | n+1=>by
  have ih:=uL (p:=p) (n:=n)
  unfold Qy
  by_cases h:Qy p n=-1
  ·rw [Za8 h]
   have hn:¬ ∃ i,i < n/\p i=true:=fun hx=>by have:=ih.2 hx; omega
   by_cases hp:p n=true
   ·rw [Za8 hp]; exact ⟨fun _=>⟨n,by omega,hp⟩,fun _=>by omega⟩
   rw [Za7 hp]
   constructor
   ·intro h; omega
   rintro ⟨i,hi,hx⟩
   by_cases e:i=n
   ·subst e; exact absurd hx hp
   exact absurd ⟨i,by omega,hx⟩ hn
  rw [Za7 h,ih]
  constructor
  ·rintro ⟨i,hi,h⟩; exact ⟨i,by omega,h⟩
  rintro ⟨i,hi,hp⟩
  by_cases e:i=n
  ·have hlo:-1<=Qy p n:=fstI_lo n
   exact ih.1 (by omega)
  exact ⟨i,by omega,hp⟩
 where
 fstI_lo:∀ n,-1<=Qy p n
  | 0=>Int.le_refl _
  | n+1=>by
   have:=fstI_lo n
   unfold Qy
   split
   ·split <;> omega
   exact this
theorem sw {md:Md} (M:Nat->Int) (t:Int):WR AM 190 [.s (.int .i64 t),.ptr 0 0 136] [.sc md 136 (ia M)] (fun v _ L=>v=.s (.bool (!YN M t))/\(0,Blk.sc md 136 (ia M))∈L):=by
 refine YJ (a:=a190) rfl rfl (YI _) (ZQ rfl) (m:=1) rfl (Ze (Yq rfl (Zf (Zj rfl (Yt rfl (KQ _) rfl rfl rfl (Yv (r:=.bool _) rfl rfl (Zk rfl (Ys (t:=7) rfl (fun h1=>?_) (fun h1=>?_))))))))) <;> simp only [NM] at h1
 ·try simp only [isM,ZaL,Zax] at h1
  refine ZE rfl (ZD rfl (ZC rfl (Zq rfl (Zk rfl (Zg rfl (⟨ZI ?_,ZM⟩))))))
  unfold YN isM
  (rw [ZaT (by assumption)]; rfl)
 try simp only [isM,ZaL,Zax] at h1
 refine Yb rfl (Zj rfl (Yb rfl (Zy rfl (Yb rfl (Zy rfl (Yb rfl (Zw rfl rfl rfl (Yb rfl (Yp rfl rfl ZM (Yb rfl (YB rfl .nil (Yb rfl (Yw rfl rfl (Zq rfl (Zk rfl (Zg rfl (⟨ZI ?_,ZM⟩)))))))))))))))))
 unfold YN isM
 (rw [ZaV (by assumption),Bool.true_and]; rfl)
theorem vy {md md2:Md} {q:Nat} {c:Cp} (K M:Nat->Int) (nn:Nat) (hnn:nn<=1000000):WR AM 174 [.sl 0 0 nn 1 c,.fn 190 [.ptr 1 0 136]] [.sc md q (ia K),.sc md2 136 (ia M)] (fun v _ L=>v=.s (.int .i64 (Qy (fun j=>!YN M (K j)) nn))/\(0,Blk.sc md q (ia K))∈L/\(1,Blk.sc md2 136 (ia M))∈L):=by
 refine YJ (a:=a174) rfl rfl (YI _) (ZQ rfl) (m:=2) rfl (Ze (Yq rfl (Yc (Ye (Ze (Zn rfl (Vi rfl (Yq rfl (Yc (Yk (Xm (.refl _) (Xp (fun m f _ L=>∃ (i:Nat),(i<=nn)/\(m=nn - i)/\(∀ j,j < i->(!YN M (K j))=false)/\(f 0=.sl 0 0 nn 1 c)/\(f 1=.fn 190 [.ptr 1 0 136])/\(f 7=.s (.int .i64 nn))/\(f 8=.s (.int .i64 i))/\(L=[(0,.sc md q (ia K)),(1,.sc md2 136 (ia M))])) (fun m f nb L hI=>?_) (nn) (⟨0,by omega,by omega,fun j hj=>by omega,rfl,rfl,rfl,rfl,rfl⟩)))))))))))))
 obtain ⟨i,hi,hm,hn,k0,k1,k7,k8,rfl⟩:=hI
 refine Za 0 k0 (Za 1 k1 (Za 7 k7 (Za 8 k8 (Ze (Zr rfl (Yc (Ye (Yj rfl (fun h2=>?_) (fun h2=>?_))))))))) <;> simp only [NM] at h2
 ·refine Yh (Ye (Yk (Ze (Zj rfl (Zj rfl (Zf (Yq (v:=.fn _ _) rfl (Zn rfl (Zj rfl (Zx rfl rfl (Ym (x:=K i) rfl rfl ZM (by rw [show 0+(i:Int).toNat*1=i by omega]) (VW (rs:=[1]) (Bs:=[.sc md2 136 (ia M)]) rfl (UU (sw M (K i))) rfl rfl (YF rfl) (fun _ h=>h) rfl ⟨ZN,⟨_,_,_,rfl⟩,trivial⟩ rfl rfl rfl (.cons (.there .here) .nil) (Yc (Yj rfl (fun h3=>?_) (fun h3=>?_))))))))))))))) <;> simp only [NM] at h3
  ·refine Ze (Zj rfl (Zj rfl (Yc (Yi (⟨_,ZL rfl,?_⟩)))))
   refine ⟨ZJ ?_,ZM,ZN⟩
   exact (uh (i:=i) (by omega) (by simp [*]) hn).symm
  refine Yh (Yf (Zs rfl rfl (Zj rfl (Yc (⟨nn - (i+1),_,by omega,(.refl _),i+1,by omega,rfl,?_,rfl,rfl,rfl,rfl,rfl⟩)))))
  intro j hj
  by_cases e:j=i
  ·subst e; simp [*]
  exact hn j (by omega)
 refine YX (Xe (Ze (Yq rfl (Yc (Yi (⟨_,ZL rfl,?_⟩))))))
 refine ⟨ZJ ?_,ZM,ZN⟩
 exact (DO fun j hj=>hn j (by omega)).symm
theorem wE {md md2:Md} {q:Nat} {c:Cp} (K M:Nat->Int) (nn:Nat) (hnn:nn<=1000000):WR AM 189 [.sl 0 0 nn 1 c,.fn 190 [.ptr 1 0 136]] [.sc md q (ia K),.sc md2 136 (ia M)] (fun v _ L=>v=.s (.bool (decide (0<=Qy (fun j=>!YN M (K j)) nn)))/\(0,Blk.sc md q (ia K))∈L/\(1,Blk.sc md2 136 (ia M))∈L):=by
 refine YJ (a:=a189) rfl rfl (YI _) (ZQ rfl) (m:=2) rfl (Ze (Yq rfl (Zf (Zn rfl (Yq (v:=.fn _ _) rfl (VN (rs:=[0,1]) (Bs:=[.sc md q (ia K),.sc md2 136 (ia M)]) rfl (jV (vy K M nn hnn)) rfl rfl (YF rfl) (fun _ h=>h) rfl ⟨ZM,⟨_,_,_,rfl⟩,ZN,⟨_,_,_,rfl⟩,trivial⟩ rfl rfl rfl (.cons .here (.cons (.there .here) .nil)) (Zr rfl (Zk rfl (Zg rfl ?_)))))))))
 exact ⟨rfl,ZM,ZN⟩
theorem sH {md:Md} {q:Nat} {c:Cp} (K M:Nat->Int) (nn:Nat) (hnn:nn<=1000000):WR AM 173 [.agg 136 (ia M),.sl 0 0 nn 1 c] [.sc md q (ia K)] (fun v _ L=>v=.s (.bool (!decide (0<=Qy (fun j=>!YN M (K j)) nn)))/\(0,Blk.sc md q (ia K))∈L):=by
 refine YJ (a:=a173) rfl rfl (YI _) (ZQ rfl) (m:=1) rfl (Ze (YC rfl (Yq rfl (Zf (Zn rfl (KY rfl (VN (rs:=[0,1]) (Bs:=[.sc md q (ia K),.sc .var 136 (ia M)]) rfl (jV (wE K M nn hnn)) rfl rfl (YF rfl) (fun _ h=>h) rfl ⟨ZN,⟨_,_,_,rfl⟩,ZM,⟨_,_,_,rfl⟩,trivial⟩ rfl rfl rfl (.cons (.there .here) (.cons .here .nil)) (Yv (r:=.bool _) rfl rfl (Zk rfl (Zg rfl ?_))))))))))
 exact ⟨rfl,ZN⟩
theorem free_l {M K:Nat->Int} {l:List Int} (hK:∀ i,i < l.length->K i=l.getD i 0):(!decide (0<=Qy (fun j=>!YN M (K j)) l.length))=l.all (YN M):=by
 rw [ZaP,ZaK,Zax,uL,ZaO]
 constructor
 ·intro h x hx
  obtain ⟨j,hj,rfl⟩:=List.mem_iff_getElem.1 hx
  cases hf:YN M l[j] with
  | true=>rfl
  | false=>exact absurd ⟨j,hj,by rw [hK j hj,Zau,Zav hj]; simp [hf]⟩ h
 rintro h ⟨j,hj,hx⟩
 rw [hK j hj,Zau,Zav hj] at hx
 have:=h _ (List.getElem_mem hj)
 simp [this] at hx
theorem free_rb {md:Md} {q:Nat} {c:Cp} (K M:Nat->Int) (l:List Int) (hK:∀ i,i < l.length->K i=l.getD i 0) (hl:l.length<=1000000):RB AM 173 [.agg 136 (ia M),.sl 0 0 l.length 1 c] [.sc md q (ia K)] (.s (.bool (l.all (YN M)))) [.sc md q (ia K)]:=by
 have:=UU (sH (md:=md) (q:=q) (c:=c) K M l.length hl)
 rw [free_l hK] at this
 exact this
theorem eqI_cut {n:Nat} {Y Z:Nat->Int}:eqI n (ovA (fun _=>0) 0 n Y) Z=eqI n Y Z:=by
 rw [ZaP,Uw,Uw]
 exact ⟨fun h i hi=>by have:=h i hi; rwa [X1 (by omega),Nat.sub_zero] at this,fun h i hi=>by rw [X1 (by omega),Nat.sub_zero]; exact h i hi⟩
def X7 (M:Nat->Int) (c t:Int):Bool:=(!YT M t&&decide (We M t=Y5 c)) || (YN M t&&decide (t=M 130))
theorem KJ {M:Nat->Int} {c t:Int} (h:YN M t=true) (h2:t=M 130):X7 M c t=true:=by
 unfold X7; rw [h,ZaV h2]; simp
theorem Jq (M:Nat->Int) (s c:Int):Qx M s c=(if YN M (YR s 0 (1 - 2*c))=true then [YR s 0 (1 - 2*c)] else [])++(if Wj s=1+5*c/\YN M (YR s 0 (1 - 2*c))=true/\YN M (YR s 0 (2*(1 - 2*c)))=true then [YR s 0 (2*(1 - 2*c))] else [])++(Wt M s).filter (X7 M c):=rfl
theorem Q7 {P:Nat->Int} {s t:Int} (h:t∈Wt P s):0<=t/\t < 64:=by
 unfold Wt at h
 split at h
 ·exact vW (srtM_mem.1 h)
 cases h
theorem Jl (P:Nat->Int) (s:Int):(Wt P s).length<=64:=by
 unfold Wt
 split
 ·rw [(Kc _).length_eq]; exact D0 P s
 exact Zbt _
theorem Zat {l:List Int} {i:Nat} (hi:i < l.length):l.getD i 0∈l:=by
 rw [Zau,Zav hi]
 exact List.getElem_mem hi
theorem Db {p:Int->Bool} {r:List Int} {i:Nat} (hi:i < r.length) (h:p (r.getD i 0)=true):(r.take (i+1)).filter p=(r.take i).filter p++[r.getD i 0]:=by
 rw [Vh 0 hi,List.filter_append,List.filter_cons,h,Za8 rfl]; rfl
theorem EB {p:Int->Bool} {r:List Int} {i:Nat} (hi:i < r.length) (h:p (r.getD i 0)=false):(r.take (i+1)).filter p=(r.take i).filter p:=by
 rw [Vh 0 hi,List.filter_append,List.filter_cons,h,Za7 (by decide)]; simp
theorem UV {p:Prop} [Decidable p] (x:Int):(if p then [x] else []).length<=1:=by split <;> simp
theorem K2 {md:Md} {q:Nat} {c:Cp} (n:Nat) (K M:Nat->Int) (l:List Int) (hn:l.length=n) (hK:∀ i,i < l.length->K i=l.getD i 0) (hl:n<=1000000):RB AM 173 [.agg 136 (ia M),.sl 0 0 n 1 c] [.sc md q (ia K)] (.s (.bool (l.all (YN M)))) [.sc md q (ia K)]:=by
 subst hn; exact free_rb K M l hK hl
theorem Q2 {p:Int->Bool} {x:Int}:[x].all p=p x:=by simp
theorem Q0 {p:Int->Bool} {x y:Int}:[x,y].all p=(p x&&p y):=by simp
theorem QX {p:Int->Bool} {x y z:Int}:[x,y,z].all p=(p x&&(p y&&p z)):=by simp
theorem gN (M:Nat->Int) (ha:0<=M 133/\M 133 < 64) (hc:M 135=0\/M 135=1):RtR AM 154 1 [.agg 136 (ia M)] [] (Qx M (M 133) (M 135)) []:=by
 refine Vs (YJ (a:=a154) rfl rfl (YI _) (ZQ rfl) (m:=0) rfl (Ze (YC rfl (Yq rfl (Zf (Yd (o':=134) rfl rfl rfl (Yd (o':=135) rfl rfl rfl (Ym rfl rfl ZM rfl (Wn rfl rfl (by omega) (Zt rfl rfl (Zj rfl (Yc (Ye (Yg (Yd (o':=133) rfl rfl rfl (Ym rfl rfl ZM rfl (Zj rfl (Yu rfl (UO _ _ _) rfl rfl rfl (Yd (o':=133) rfl rfl rfl (Ym rfl rfl ZM rfl (Zj rfl (Wn rfl rfl (by omega) (Yt rfl (UO _ _ _) rfl rfl rfl (Zj rfl (Zj rfl (Yc (WD (fun f n L=>∃ (vA:V) (ownA:HA),(Rw 1 ((if YN M (YR (M 133) 0 (1 - 2*(M 135)))=true then [(YR (M 133) 0 (1 - 2*(M 135)))] else [])) vA ownA)/\(f 1=.ptr 0 0 136)/\(f 2=vA)/\(f 4=.s (.int .i64 (YR (M 133) 0 (1 - 2*(M 135)))))/\(f 5=.s (.int .i64 (YR (M 133) 0 (2*(1 - 2*(M 135))))))/\(L=(ownA++[(0,.sc .var 136 (ia M))]))) ?_ (fun f nb L hI=>?_))))))))))))))))))))))))))))
 ·refine Ze (Yo rfl rfl ZM (Zj rfl (Xo rfl (.one rfl .nil) (VN (rs:=[1]) (Bs:=[_]) (av:=[.agg 136 (ia M),.sl (1) 0 1 1 (.ex 1)]) rfl (K2 (c:=.ex 1) 1 _ M [(YR (M 133) 0 (1 - 2*(M 135)))] rfl yB (YF rfl)) rfl rfl (YF rfl) (fun _ h=>h) (by simp [rnL,V.renL,V.ren,pos]) ⟨ZM,⟨_,_,_,rfl⟩,trivial⟩ rfl rfl rfl (.cons .here .nil) (Yc (Yj rfl (fun h1=>?_) (fun h1=>?_)))))))
  ·try simp only [Q2,Q0,QX,ZaM,ZaB] at h1
   refine Yf (Yq (v:=.snil) rfl (Zj rfl (Xo rfl (.one rfl .nil) (XK (c:=[(YR (M 133) 0 (1 - 2*(M 135)))]) rfl (Rw.nil rfl) rfl ZM (Dr.here (own:=[])) (by decide) (by decide) rfl (Ko) (by simp only [List.length_nil]; omega) (fun v1 own1 n1 hr1=>Yq (v:=v1) rfl (Yc (⟨_,(ZaE (.refl _) (.cons _ (.cons _ (.refl _)))),_,own1,?_,rfl,rfl,rfl,rfl,rfl⟩)))))))
   (rw [Za8 (by assumption)]; exact hr1)
  try simp only [Q2,Q0,QX,ZaM,ZaB] at h1
  refine Yh (⟨_,(.cons _ (.refl _)),_,[],?_,rfl,rfl,rfl,rfl,rfl⟩)
  (rw [Za7 (by simp [*])]; exact (Rw.nil rfl))
 obtain ⟨vA,ownA,hrA,k1,k2,k4,k5,rfl⟩:=hI
 refine Za 1 k1 (Za 2 k2 (Za 4 k4 (Za 5 k5 (WD (fun f n L=>∃ (vA:V) (ownA:HA),(Rw 1 ((if YN M (YR (M 133) 0 (1 - 2*(M 135)))=true then [(YR (M 133) 0 (1 - 2*(M 135)))] else [])++(if Wj (M 133)=1+5*(M 135)/\YN M (YR (M 133) 0 (1 - 2*(M 135)))=true/\YN M (YR (M 133) 0 (2*(1 - 2*(M 135))))=true then [(YR (M 133) 0 (2*(1 - 2*(M 135))))] else [])) vA ownA)/\(f 1=.ptr 0 0 136)/\(f 2=vA)/\(L=(ownA++[(0,.sc .var 136 (ia M))]))) ?_ (fun f nb L hI=>?_)))))
 ·refine Ye (Yg (Yd (o':=133) rfl rfl rfl (Ym rfl rfl (Zaz _ ZM) rfl (Yu rfl (K7 _) rfl rfl rfl (Yd (o':=134) rfl rfl rfl (Yd (o':=135) rfl rfl rfl (Ym rfl rfl (Zaz _ ZM) rfl (Wn rfl rfl (by omega) (Zs rfl rfl (Zr rfl (Zk rfl (Ys (t:=40) rfl (fun h2=>?_) (fun h2=>?_))))))))))))) <;> simp only [NM] at h2
  ·refine Yb rfl (Yo rfl rfl (Zaz _ ZM) (Yb rfl (Zj rfl (Yb rfl (Zj rfl (Yb rfl (Xo rfl (.one rfl (.one rfl .nil)) (Yb rfl (VN (rs:=[nb]) (Bs:=[_]) (av:=[.agg 136 (ia M),.sl (nb) 0 2 1 (.ex 2)]) rfl (K2 (c:=.ex 2) 2 _ M [(YR (M 133) 0 (1 - 2*(M 135))),(YR (M 133) 0 (2*(1 - 2*(M 135))))] rfl tJ (YF rfl)) rfl rfl (YF rfl) (fun _ h=>h) (by simp [rnL,V.renL,V.ren,pos]) ⟨ZM,⟨_,_,_,rfl⟩,trivial⟩ rfl rfl rfl (.cons .here .nil) (Zq rfl (Yc (Yj rfl (fun h3=>?_) (fun h3=>?_)))))))))))))
   ·try simp only [Q2,Q0,QX,ZaM,ZaB] at h3
    refine Yf (Yq (v:=vA) rfl (Zj rfl (Xo rfl (.one rfl .nil) (XK (c:=[(YR (M 133) 0 (2*(1 - 2*(M 135))))]) rfl hrA rfl ZM (.there (.there .here)) (by decide) (by decide) rfl (Ko) (by have:=UV (p:=YN M (YR (M 133) 0 (1 - 2*(M 135)))=true) (YR (M 133) 0 (1 - 2*(M 135))); omega) (fun v2 own2 n2 hr2=>Yq (v:=v2) rfl (Yc (⟨_,(ZaE (.refl _) (.cons _ (.cons _ (.refl _)))),_,own2,?_,rfl,rfl,rfl⟩)))))))
    (rw [Za8 (c:=Wj (M 133)=1+5*(M 135)/\_/\_) ⟨by assumption,by assumption⟩]; exact hr2)
   try simp only [Q2,Q0,QX,ZaM,ZaB] at h3
   refine Yh (⟨_,(.cons _ (ZaE (.refl _) (.refl _))),_,ownA,?_,rfl,rfl,rfl⟩)
   (rw [Za7 (c:=Wj (M 133)=1+5*(M 135)/\_/\_) (by rintro ⟨a1,a2,a3⟩; simp_all),ZaQ]; exact hrA)
  refine ZE rfl (ZC rfl (Zq rfl (Yc (ZB rfl (Yh (⟨_,(ZaE (.refl _) (.refl _)),_,ownA,?_,rfl,rfl,rfl⟩))))))
  (rw [Za7 (c:=Wj (M 133)=1+5*(M 135)/\_/\_) (by rintro ⟨a1,a2,a3⟩; simp_all),ZaQ]; exact hrA)
 obtain ⟨vA,ownA,hrA,k1,k2,rfl⟩:=hI
 refine Za 1 k1 (Za 2 k2 (Ye (Ze (Zy rfl (Yo rfl rfl (Zaz _ ZM) (Yd (o':=133) rfl rfl rfl (Ym rfl rfl (Zaz _ ZM) rfl ?_)))))))
 obtain ⟨r,hreq⟩:∃ r,r=Wt M (M 133):=⟨_,rfl⟩
 have hfrom:=ux M (M 133)
 rw [<- hreq] at hfrom
 have hrl:r.length<=64:=by rw [hreq]; exact Jl _ _
 refine YE rfl (hfrom) rfl rfl (fun v3 own3 n3 hr3=>Wq rfl hr3.rx (by decide) KO (Yq rfl (Yc (Yk (wg (Dr.appR _ .here).all (Xm (ZaE (.refl _) (ZaE (.refl _) (.refl _))) (Xp (fun m f _ L=>∃ (i:Nat) (vO:V) (ownO:HA),(i<=r.length)/\(m=r.length - i)/\(Rw 1 ((if YN M (YR (M 133) 0 (1 - 2*(M 135)))=true then [(YR (M 133) 0 (1 - 2*(M 135)))] else [])++(if Wj (M 133)=1+5*(M 135)/\YN M (YR (M 133) 0 (1 - 2*(M 135)))=true/\YN M (YR (M 133) 0 (2*(1 - 2*(M 135))))=true then [(YR (M 133) 0 (2*(1 - 2*(M 135))))] else [])++(r.take i).filter (X7 M (M 135))) vO ownO)/\(f 1=.ptr 0 0 136)/\(f 2=vO)/\(f 55=v3)/\(f 56=.s (.int .i64 r.length))/\(f 57=.s (.int .i64 i))/\(L=(ownO++(own3++[(0,.sc .var 136 (ia M))])))) (fun m f nb L hI=>?_) (r.length) (⟨0,vA,ownA,by omega,by omega,by rw [List.take_zero,List.filter_nil,ZaQ]; exact hrA,rfl,rfl,rfl,rfl,rfl,rfl⟩))))))))
 obtain ⟨i,vO,ownO,hi,hm,hrO,k1,k2,k55,k56,k57,rfl⟩:=hI
 refine Za 1 k1 (Za 2 k2 (Za 55 k55 (Za 56 k56 (Za 57 k57 (Ze (Zr rfl (Yc (Ye (Yj rfl (fun h4=>?_) (fun h4=>?_)))))))))) <;> simp only [NM] at h4
 ·refine Yh (Ye (Yk (Ze ?_)))
  have htb:0<=r.getD i 0/\r.getD i 0 < 64:=Q7 (P:=M) (s:=M 133) (by rw [<- hreq]; exact Zat (by omega))
  obtain ⟨b3,q3,md3,c3,F3,rfl,rfl,hF3⟩:=hr3.rx.at (by decide) KO (by omega)
  refine Zx rfl rfl (Ym (x:=(r.getD i 0)) rfl rfl (Zaz _ ZM) (ld1 hF3 (by omega)) (Zj rfl (Zf (Zj rfl (Zy rfl (Zy rfl (Zw rfl rfl rfl (Yp rfl rfl (Zaz _ ZN) (Yy (Yz rfl rfl rfl rfl .here (Yc (Ye (Yg (Yo rfl rfl ZM (YB rfl .nil (Yx (b:=!YT M (r.getD i 0)) rfl rfl (congrArg (fun b=>!b) eqI_cut) (Zk rfl (Ys (t:=69) rfl (fun h5=>?_) (fun h5=>?_))))))))))))))))))) <;> simp only [NM] at h5
  ·refine Yb rfl (Zz rfl (Yb rfl (Ym (x:=We M (r.getD i 0)) rfl rfl ZM (rfl) (Yb rfl (Yd (o':=134) rfl rfl rfl (Yb rfl (Yd (o':=135) rfl rfl rfl (Yb rfl (Ym rfl rfl (.tail _ (Zaz _ ZN)) rfl (Yb rfl (Yu rfl (YG (Uc _)) rfl rfl rfl (Yb rfl (Zr rfl (Zq rfl (Zk rfl (Ys (t:=78) rfl (fun h6=>?_) (fun h6=>?_))))))))))))))))) <;> simp only [NM] at h6
   ·refine ZE rfl (ZC rfl (YH rfl (YH rfl (YH rfl (YH rfl (YH rfl (ZC rfl (Zq rfl (Yc (ZA rfl (Yf (Yq (v:=vO) rfl (Zj rfl (Xo rfl (.one rfl .nil) (XK (c:=[(r.getD i 0)]) rfl hrO rfl ZM (.there (.there .here)) (by decide) (by decide) rfl (Ko) (by rw [ZaG,ZaG]; have:=UV (p:=YN M (YR (M 133) 0 (1 - 2*(M 135)))=true) (YR (M 133) 0 (1 - 2*(M 135))); have:=UV (p:=Wj (M 133)=1+5*(M 135)/\YN M (YR (M 133) 0 (1 - 2*(M 135)))=true/\YN M (YR (M 133) 0 (2*(1 - 2*(M 135))))=true) (YR (M 133) 0 (2*(1 - 2*(M 135)))); have:=Zbk (X7 M (M 135)) (r.take i); rw [ZaN] at this; omega) (fun v4 own4 n4 hr4=>Yq (v:=v4) rfl (Yc (Yf (Zs rfl rfl (Zj rfl (Yc (⟨r.length - (i+1),_,by omega,(ZaE (.refl _) (.cons _ (.cons _ (.refl _)))),i+1,_,_,by omega,rfl,?_,rfl,rfl,rfl,rfl,rfl,rfl⟩))))))))))))))))))))))
    (rw [Db (p:=X7 M (M 135)) (i:=i) (by omega) (by first | exact KJ (by assumption) (by assumption) | (unfold X7; simp [*,-hreq,-List.getD_eq_getElem?_getD]) | (unfold X7; simp_all [-hreq,-List.getD_eq_getElem?_getD])),<- ZaJ]; exact hr4)
   refine Yb rfl (Yo rfl rfl (.tail _ (Zaz _ ZN)) (Yb rfl (Zj rfl (Yb rfl (Xo rfl (.one rfl .nil) (Yb rfl (VN (rs:=[nb+1]) (Bs:=[_]) (av:=[.agg 136 (ia M),.sl (nb+1) 0 1 1 (.ex 1)]) rfl (K2 (c:=.ex 1) 1 _ M [(r.getD i 0)] rfl yB (YF rfl)) rfl rfl (YF rfl) (fun _ h=>h) (by simp [rnL,V.renL,V.ren,pos]) ⟨ZM,⟨_,_,_,rfl⟩,trivial⟩ rfl rfl rfl (.cons .here .nil) (Yb rfl (Zk rfl (Ys (t:=83) rfl (fun h7=>?_) (fun h7=>?_)))))))))))
   ·try simp only [Q2,Q0,QX,ZaM,ZaB] at h7
    refine Yb rfl (Zj rfl (Yb rfl (Zy rfl (Yb rfl (Yd (o':=130) rfl rfl rfl (Yb rfl (Ym rfl rfl (.tail _ (.tail _ (Zaz _ ZN))) rfl (Yb rfl (Zr rfl (Yb rfl (Zq rfl (Zq rfl (Yc (Yj rfl (fun h8=>?_) (fun h8=>?_))))))))))))))) <;> simp only [NM] at h8
    ·refine Yf (Yq (v:=vO) rfl (Zj rfl (Xo rfl (.one rfl .nil) (XK (c:=[(r.getD i 0)]) rfl hrO rfl ZM (.there (.there (.there .here))) (by decide) (by decide) rfl (Ko) (by rw [ZaG,ZaG]; have:=UV (p:=YN M (YR (M 133) 0 (1 - 2*(M 135)))=true) (YR (M 133) 0 (1 - 2*(M 135))); have:=UV (p:=Wj (M 133)=1+5*(M 135)/\YN M (YR (M 133) 0 (1 - 2*(M 135)))=true/\YN M (YR (M 133) 0 (2*(1 - 2*(M 135))))=true) (YR (M 133) 0 (2*(1 - 2*(M 135)))); have:=Zbk (X7 M (M 135)) (r.take i); rw [ZaN] at this; omega) (fun v5 own5 n5 hr5=>Yq (v:=v5) rfl (Yc (Yf (Zs rfl rfl (Zj rfl (Yc (⟨r.length - (i+1),_,by omega,(ZaE (.refl _) (.cons _ (.cons _ (.cons _ (.refl _))))),i+1,_,_,by omega,rfl,?_,rfl,rfl,rfl,rfl,rfl,rfl⟩)))))))))))
     (rw [Db (p:=X7 M (M 135)) (i:=i) (by omega) (by first | exact KJ (by assumption) (by assumption) | (unfold X7; simp [*,-hreq,-List.getD_eq_getElem?_getD]) | (unfold X7; simp_all [-hreq,-List.getD_eq_getElem?_getD])),<- ZaJ]; exact hr5)
    refine Yh (Yf (Zs rfl rfl (Zj rfl (Yc (⟨r.length - (i+1),_,by omega,(.cons _ (.cons _ (ZaE (.refl _) (.refl _)))),i+1,_,_,by omega,rfl,?_,rfl,rfl,rfl,rfl,rfl,rfl⟩)))))
    (rw [EB (p:=X7 M (M 135)) (i:=i) (by omega) (by first | exact KJ (by assumption) (by assumption) | (unfold X7; simp [*,-hreq,-List.getD_eq_getElem?_getD]) | (unfold X7; simp_all [-hreq,-List.getD_eq_getElem?_getD]))]; exact hrO)
   try simp only [Q2,Q0,QX,ZaM,ZaB] at h7
   refine ZE rfl (ZC rfl (Yb rfl (Zq rfl (Zq rfl (Yc (ZB rfl (Yh (Yf (Zs rfl rfl (Zj rfl (Yc (⟨r.length - (i+1),_,by omega,(.cons _ (.cons _ (ZaE (.refl _) (.refl _)))),i+1,_,_,by omega,rfl,?_,rfl,rfl,rfl,rfl,rfl,rfl⟩))))))))))))
   (rw [EB (p:=X7 M (M 135)) (i:=i) (by omega) (by first | exact KJ (by assumption) (by assumption) | (unfold X7; simp [*,-hreq,-List.getD_eq_getElem?_getD]) | (unfold X7; simp_all [-hreq,-List.getD_eq_getElem?_getD]))]; exact hrO)
  refine ZE rfl (ZD rfl (ZC rfl (Zq rfl (Zk rfl (Yb rfl (Yo rfl rfl (.tail _ (Zaz _ ZN)) (Yb rfl (Zj rfl (Yb rfl (Xo rfl (.one rfl .nil) (Yb rfl (VN (rs:=[nb+1]) (Bs:=[_]) (av:=[.agg 136 (ia M),.sl (nb+1) 0 1 1 (.ex 1)]) rfl (K2 (c:=.ex 1) 1 _ M [(r.getD i 0)] rfl yB (YF rfl)) rfl rfl (YF rfl) (fun _ h=>h) (by simp [rnL,V.renL,V.ren,pos]) ⟨ZM,⟨_,_,_,rfl⟩,trivial⟩ rfl rfl rfl (.cons .here .nil) (Yb rfl (Zk rfl (Ys (t:=83) rfl (fun h9=>?_) (fun h9=>?_))))))))))))))))
  ·try simp only [Q2,Q0,QX,ZaM,ZaB] at h9
   refine Yb rfl (Zj rfl (Yb rfl (Zy rfl (Yb rfl (Yd (o':=130) rfl rfl rfl (Yb rfl (Ym rfl rfl (.tail _ (.tail _ (Zaz _ ZN))) rfl (Yb rfl (Zr rfl (Yb rfl (Zq rfl (Zq rfl (Yc (Yj rfl (fun h10=>?_) (fun h10=>?_))))))))))))))) <;> simp only [NM] at h10
   ·refine Yf (Yq (v:=vO) rfl (Zj rfl (Xo rfl (.one rfl .nil) (XK (c:=[(r.getD i 0)]) rfl hrO rfl ZM (.there (.there (.there .here))) (by decide) (by decide) rfl (Ko) (by rw [ZaG,ZaG]; have:=UV (p:=YN M (YR (M 133) 0 (1 - 2*(M 135)))=true) (YR (M 133) 0 (1 - 2*(M 135))); have:=UV (p:=Wj (M 133)=1+5*(M 135)/\YN M (YR (M 133) 0 (1 - 2*(M 135)))=true/\YN M (YR (M 133) 0 (2*(1 - 2*(M 135))))=true) (YR (M 133) 0 (2*(1 - 2*(M 135)))); have:=Zbk (X7 M (M 135)) (r.take i); rw [ZaN] at this; omega) (fun v6 own6 n6 hr6=>Yq (v:=v6) rfl (Yc (Yf (Zs rfl rfl (Zj rfl (Yc (⟨r.length - (i+1),_,by omega,(ZaE (.refl _) (.cons _ (.cons _ (.cons _ (.refl _))))),i+1,_,_,by omega,rfl,?_,rfl,rfl,rfl,rfl,rfl,rfl⟩)))))))))))
    (rw [Db (p:=X7 M (M 135)) (i:=i) (by omega) (by first | exact KJ (by assumption) (by assumption) | (unfold X7; simp [*,-hreq,-List.getD_eq_getElem?_getD]) | (unfold X7; simp_all [-hreq,-List.getD_eq_getElem?_getD])),<- ZaJ]; exact hr6)
   refine Yh (Yf (Zs rfl rfl (Zj rfl (Yc (⟨r.length - (i+1),_,by omega,(.cons _ (.cons _ (ZaE (.refl _) (.refl _)))),i+1,_,_,by omega,rfl,?_,rfl,rfl,rfl,rfl,rfl,rfl⟩)))))
   (rw [EB (p:=X7 M (M 135)) (i:=i) (by omega) (by first | exact KJ (by assumption) (by assumption) | (unfold X7; simp [*,-hreq,-List.getD_eq_getElem?_getD]) | (unfold X7; simp_all [-hreq,-List.getD_eq_getElem?_getD]))]; exact hrO)
  try simp only [Q2,Q0,QX,ZaM,ZaB] at h9
  refine ZE rfl (ZC rfl (Yb rfl (Zq rfl (Zq rfl (Yc (ZB rfl (Yh (Yf (Zs rfl rfl (Zj rfl (Yc (⟨r.length - (i+1),_,by omega,(.cons _ (.cons _ (ZaE (.refl _) (.refl _)))),i+1,_,_,by omega,rfl,?_,rfl,rfl,rfl,rfl,rfl,rfl⟩))))))))))))
  (rw [EB (p:=X7 M (M 135)) (i:=i) (by omega) (by first | exact KJ (by assumption) (by assumption) | (unfold X7; simp [*,-hreq,-List.getD_eq_getElem?_getD]) | (unfold X7; simp_all [-hreq,-List.getD_eq_getElem?_getD]))]; exact hrO)
 refine YX (Xe (Ze (Yq (v:=vO) rfl (Yq (v:=vO) rfl (Yc (Yi (⟨_,YK (v:=vO) rfl (YP),?_⟩)))))))
 obtain rfl:i=r.length:=by omega
 rw [List.take_length,hreq,<- Jq] at hrO
 exact ⟨_,hrO,(fun _ h=>(ZaC _ h))⟩
theorem pP {x c:Int} (h:0<=x/\x<=15) (hc:c=0\/c=1):Wx .shr (.int .i64 x) (.int .i64 (2*c))=some (.int .i64 (x / YS c)):=by
 obtain ⟨n,rfl⟩:∃ n:Nat,x=n:=⟨x.toNat,by omega⟩
 have:n=0\/n=1\/n=2\/n=3\/n=4\/n=5\/n=6\/n=7\/n=8\/n=9\/n=10\/n=11\/n=12\/n=13\/n=14\/n=15:=by omega
 rcases hc with rfl | rfl <;> rcases this with rfl | rfl | rfl | rfl | rfl | rfl | rfl | rfl | rfl | rfl | rfl | rfl | rfl | rfl | rfl | rfl <;> rfl
theorem kl {c:Int}:YS c=1\/YS c=4:=by unfold YS; split <;> simp
theorem re {x c:Int} (h:0<=x/\x<=15):0<=x / YS c/\x / YS c<=15:=by
 rcases kl (c:=c) with e | e <;> rw [e] <;> omega
theorem oH {x c:Int} (h:0<=x/\x<=15):Wx .neq (.int .i64 (KM (x / YS c) 1)) (.int .i64 0)=some (.bool (decide (x / YS c % 2=1))):=by
 have e:=ko (C:=x / YS c) (s:=1) (re h) (.inl rfl)
 rw [Int.ediv_one] at e
 show some (S.bool (KM (x / YS c) 1 != 0))=_
 rw [show (KM (x / YS c) 1 != 0)=decide (x / YS c % 2=1) by rw [ZaP,bne_iff_ne,ZaL]; exact e]
theorem oU {x c:Int} (h:0<=x/\x<=15):Wx .neq (.int .i64 (KM (x / YS c) 2)) (.int .i64 0)=some (.bool (decide (x / (2*YS c) % 2=1))):=by
 have e:=ko (C:=x / YS c) (s:=2) (re h) (.inr (.inl rfl))
 have e2:x / YS c / 2=x / (2*YS c):=by rcases kl (c:=c) with e | e <;> rw [e] <;> omega
 rw [e2] at e
 show some (S.bool (KM (x / YS c) 2 != 0))=_
 rw [show (KM (x / YS c) 2 != 0)=decide (x / (2*YS c) % 2=1) by rw [ZaP,bne_iff_ne,ZaL]; exact e]
theorem ke {M:Nat->Int} {c t:Int}:eqI 2 (dp M (sqI t)) (ovA (fun _=>0) 0 2 (ov (ov (fun _=>0) 0 4) 1 c))=VE M c t:=by
 rw [ZaP,Uw]; unfold VE; rw [ZaL]
 exact ⟨fun h=>⟨h 0 (by omega),h 1 (by omega)⟩,fun h i hi=>by
  obtain rfl | rfl:i=0\/i=1:=by omega
  ·exact h.1
  exact h.2⟩
theorem Kp {M:Nat->Int} {s k c:Int} (hk:k=6) (hs:s=56*c+4) (h:0<=M 129/\M 129<=15):XR M s k c=(if M 129 / YS c % 2=1/\VE M c ((56*c+4)+3)=true/\YN M ((56*c+4)+1)=true/\YN M ((56*c+4)+2)=true then [(56*c+4)+2] else [])++(if M 129 / (2*YS c) % 2=1/\VE M c ((56*c+4) - 4)=true/\YN M ((56*c+4) - 1)=true/\YN M ((56*c+4) - 2)=true/\YN M ((56*c+4) - 3)=true then [(56*c+4) - 2] else []):=by
 unfold XR
 rw [Za7 (by omega),hs]
theorem QW {M:Nat->Int} {s k c:Int} (h:k≠6\/s≠56*c+4\/M 129 < 0\/15 < M 129):XR M s k c=[]:=Za8 h
theorem jN (M:Nat->Int) (ha:0<=M 133/\M 133 < 64) (hc:M 135=0\/M 135=1):RtR AM 158 1 [.agg 136 (ia M)] [] (XR M (M 133) (M 134) (M 135)) []:=by
 refine Vs (YJ (a:=a158) rfl rfl (YI _) (ZQ rfl) (m:=0) rfl (Ze (YC rfl (Yq rfl (Zf (Yd (o':=134) rfl rfl rfl (Yd (o':=135) rfl rfl rfl (Ym rfl rfl ZM rfl (Wn rfl rfl (by omega) (Zs rfl rfl (Zj rfl (Yc (Ye (Ze (Yd (o':=134) rfl rfl rfl (Yd (o':=134) rfl rfl rfl (Ym rfl rfl ZM rfl (Zr rfl (Zk rfl (Ys (t:=15) rfl (fun h11=>?_) (fun h11=>?_))))))))))))))))))))) <;> simp only [NM] at h11
 ·refine ZE rfl (Zq rfl (Zk rfl (ZE rfl (Zq rfl (Zk rfl (ZE rfl (Zq rfl (Yc (ZA rfl (Ze (Yq rfl (Yc (Yi (⟨_,YK (v:=.snil) rfl (YP),?_⟩))))))))))))))
  refine ⟨[],Rw.nil (QW (by omega)),fun _ h=>nomatch h⟩
 refine Yb rfl (Yd (o':=133) rfl rfl rfl (Yb rfl (Ym rfl rfl ZM rfl (Yb rfl (Zj rfl (Yb rfl (Zr rfl (Zq rfl (Zk rfl (Ys (t:=21) rfl (fun h12=>?_) (fun h12=>?_))))))))))) <;> simp only [NM] at h12
 ·refine ZE rfl (Zq rfl (Zk rfl (ZE rfl (Zq rfl (Yc (ZA rfl (Ze (Yq rfl (Yc (Yi (⟨_,YK (v:=.snil) rfl (YP),?_⟩)))))))))))
  refine ⟨[],Rw.nil (QW (by omega)),fun _ h=>nomatch h⟩
 refine Yb rfl (Zy rfl (Yb rfl (Yd (o':=129) rfl rfl rfl (Yb rfl (Ym rfl rfl ZM rfl (Yb rfl (Zr rfl (Zq rfl (Zk rfl (Ys (t:=27) rfl (fun h13=>?_) (fun h13=>?_))))))))))) <;> simp only [NM] at h13
 ·refine ZE rfl (Zq rfl (Yc (ZA rfl (Ze (Yq rfl (Yc (Yi (⟨_,YK (v:=.snil) rfl (YP),?_⟩))))))))
  refine ⟨[],Rw.nil (QW (by omega)),fun _ h=>nomatch h⟩
 refine Yb rfl (Zy rfl (Yb rfl (Yd (o':=129) rfl rfl rfl (Yb rfl (Ym rfl rfl ZM rfl (Yb rfl (Zr rfl (Zq rfl (Yc (Yj rfl (fun h14=>?_) (fun h14=>?_))))))))))) <;> simp only [NM] at h14
 ·refine Ze (Yq rfl (Yc (Yi (⟨_,YK (v:=.snil) rfl (YP),?_⟩))))
  refine ⟨[],Rw.nil (QW (by omega)),fun _ h=>nomatch h⟩
 refine Yh (Ze (Yd (o':=134) rfl rfl rfl (Yd (o':=135) rfl rfl rfl (Ym rfl rfl ZM rfl (YB rfl (.one rfl (.one rfl .nil)) (Yy (Yz rfl rfl rfl rfl .here (Zf (Zy rfl (Yd (o':=129) rfl rfl rfl (Ym rfl rfl ZN rfl (Yd (o':=134) rfl rfl rfl (Yd (o':=135) rfl rfl rfl (Ym rfl rfl ZN rfl (Wn rfl rfl (by omega) (Yr rfl rfl (pP (by omega) hc) (Zj rfl (Yc (WD (fun f n L=>∃ (vA:V) (ownA:HA),(Rw 1 ((if M 129 / YS (M 135) % 2=1/\VE M (M 135) ((56*(M 135)+4)+3)=true/\YN M ((56*(M 135)+4)+1)=true/\YN M ((56*(M 135)+4)+2)=true then [(56*(M 135)+4)+2] else [])) vA ownA)/\(f 1=.ptr 0 0 136)/\(f 2=vA)/\(f 3=.s (.int .i64 (56*(M 135)+4)))/\(f 4=.ptr 1 0 2)/\(f 5=.s (.int .i64 (M 129 / YS (M 135))))/\(L=(ownA++[(1,.sc .var 2 (ia (ovA (fun _=>0) 0 2 (ov (ov (fun _=>0) 0 4) 1 (M 135))))),(0,.sc .var 136 (ia M))]))) ?_ (fun f nb L hI=>?_))))))))))))))))))))
 ·refine Ye (Yg (Zj rfl (Yr rfl rfl rfl (Yr rfl rfl (oH (by omega)) (Zk rfl (Ys (t:=48) rfl (fun h15=>?_) (fun h15=>?_))))))) <;> simp only [NM] at h15
  ·refine Yb rfl (Zj rfl (Yb rfl (Zs rfl rfl (Yb rfl (Zy rfl (Yb rfl (Zy rfl (Yb rfl (Zw rfl rfl rfl (Yb rfl (Yp rfl rfl ZN (Yb rfl (Yo rfl rfl ZM (Yb rfl (Yx (b:=VE M (M 135) ((56*(M 135)+4)+3)) rfl rfl (ke) (Zq rfl (Zk rfl (Ys (t:=58) rfl (fun h16=>?_) (fun h16=>?_)))))))))))))))))))
   ·refine Yb rfl (Yo rfl rfl ZN (Yb rfl (Zj rfl (Yb rfl (Zs rfl rfl (Yb rfl (Zj rfl (Yb rfl (Zs rfl rfl (Yb rfl (Xo rfl (.one rfl (.one rfl .nil)) (Yb rfl (VN (rs:=[2]) (Bs:=[_]) (av:=[.agg 136 (ia M),.sl (2) 0 2 1 (.ex 2)]) rfl (K2 (c:=.ex 2) 2 _ M [(56*(M 135)+4)+1,(56*(M 135)+4)+2] rfl tJ (YF rfl)) rfl rfl (YF rfl) (fun _ h=>h) (by simp [rnL,V.renL,V.ren,pos]) ⟨ZM,⟨_,_,_,rfl⟩,trivial⟩ rfl rfl rfl (.cons .here .nil) (Zq rfl (Yc (Yj rfl (fun h17=>?_) (fun h17=>?_)))))))))))))))))
    ·try simp only [Q2,Q0,QX,ZaM,ZaB] at h17
     refine Yf (Yq (v:=.snil) rfl (Zj rfl (Zs rfl rfl (Xo rfl (.one rfl .nil) (XK (c:=[(56*(M 135)+4)+2]) rfl (Rw.nil rfl) rfl ZM (Dr.here (own:=[])) (by decide) (by decide) rfl (Ko) (by simp only [List.length_nil]; omega) (fun v1 own1 n1 hr1=>Yq (v:=v1) rfl (Yc (⟨_,(ZaE (.refl _) (.cons _ (.cons _ (.refl _)))),_,own1,?_,rfl,rfl,rfl,rfl,rfl,rfl⟩))))))))
     (rw [Za8 ⟨by assumption,by assumption,by assumption⟩]; exact hr1)
    try simp only [Q2,Q0,QX,ZaM,ZaB] at h17
    refine Yh (⟨_,(.cons _ (.refl _)),_,[],?_,rfl,rfl,rfl,rfl,rfl,rfl⟩)
    (rw [Za7 (by rintro ⟨a1,a2,a3⟩; simp_all only [or_self,and_true,and_false,false_or,not_true_eq_false,reduceCtorEq])]; exact (Rw.nil rfl))
   refine Ya rfl rfl (ZE rfl (ZD rfl (Zq rfl (Yc (ZB rfl (Yh (⟨_,(.refl _),_,[],?_,rfl,rfl,rfl,rfl,rfl,rfl⟩)))))))
   (rw [Za7 (by rintro ⟨a1,a2,a3⟩; simp_all only [or_self,and_true,and_false,false_or,not_true_eq_false,reduceCtorEq])]; exact (Rw.nil rfl))
  refine ZF rfl (Zq rfl (Zk rfl (ZE rfl (ZD rfl (ZC rfl (Zq rfl (Yc (ZB rfl (Yh (⟨_,(.refl _),_,[],?_,rfl,rfl,rfl,rfl,rfl,rfl⟩))))))))))
  (rw [Za7 (by rintro ⟨a1,a2,a3⟩; simp_all only [or_self,and_true,and_false,false_or,not_true_eq_false,reduceCtorEq])]; exact (Rw.nil rfl))
 obtain ⟨vA,ownA,hrA,k1,k2,k3,k4,k5,rfl⟩:=hI
 refine Za 1 k1 (Za 2 k2 (Za 3 k3 (Za 4 k4 (Za 5 k5 (Ye (Ye (Yg (Zj rfl (Yr rfl rfl rfl (Yr rfl rfl (oU (by omega)) (Zk rfl (Ys (t:=75) rfl (fun h18=>?_) (fun h18=>?_))))))))))))) <;> simp only [NM] at h18
 ·refine Yb rfl (Zj rfl (Yb rfl (Zt rfl rfl (Yb rfl (Zy rfl (Yb rfl (Zy rfl (Yb rfl (Zw rfl rfl rfl (Yb rfl (Yp rfl rfl (Zaz _ ZN) (Yb rfl (Yo rfl rfl (Zaz _ ZM) (Yb rfl (Yx (b:=VE M (M 135) ((56*(M 135)+4) - 4)) rfl rfl (ke) (Zq rfl (Zk rfl (Ys (t:=85) rfl (fun h19=>?_) (fun h19=>?_)))))))))))))))))))
  ·refine Yb rfl (Yo rfl rfl (Zaz _ ZN) (Yb rfl (Zj rfl (Yb rfl (Zt rfl rfl (Yb rfl (Zj rfl (Yb rfl (Zt rfl rfl (Yb rfl (Zj rfl (Yb rfl (Zt rfl rfl (Yb rfl (Xo rfl (.one rfl (.one rfl (.one rfl .nil))) (Yb rfl (VN (rs:=[nb]) (Bs:=[_]) (av:=[.agg 136 (ia M),.sl (nb) 0 3 1 (.ex 3)]) rfl (K2 (c:=.ex 3) 3 _ M [(56*(M 135)+4) - 1,(56*(M 135)+4) - 2,(56*(M 135)+4) - 3] rfl lit3r (YF rfl)) rfl rfl (YF rfl) (fun _ h=>h) (by simp [rnL,V.renL,V.ren,pos]) ⟨ZM,⟨_,_,_,rfl⟩,trivial⟩ rfl rfl rfl (.cons .here .nil) (Zq rfl (Yc (Yj rfl (fun h20=>?_) (fun h20=>?_)))))))))))))))))))))
   ·try simp only [Q2,Q0,QX,ZaM,ZaB] at h20
    refine Yf (Yq (v:=vA) rfl (Zj rfl (Zt rfl rfl (Xo rfl (.one rfl .nil) (XK (c:=[(56*(M 135)+4) - 2]) rfl hrA rfl ZM (.there (.there .here)) (by decide) (by decide) rfl (Ko) (by have:=UV (p:=M 129 / YS (M 135) % 2=1/\VE M (M 135) ((56*(M 135)+4)+3)=true/\YN M ((56*(M 135)+4)+1)=true/\YN M ((56*(M 135)+4)+2)=true) ((56*(M 135)+4)+2); omega) (fun v2 own2 n2 hr2=>Yq (v:=v2) rfl (Zf (Yq (v:=v2) rfl (Yq (v:=v2) rfl (Yc (Yi (⟨_,YK (v:=v2) rfl (YP),?_⟩))))))))))))
    rw [Kp (by omega) (by omega) (by omega)]
    exact ⟨_,by first | (rw [Za8 (c:=M 129 / (2*_) % 2=1/\_) ⟨by assumption,by assumption,by assumption⟩]; exact hr2) | (rw [Za7 (c:=M 129 / (2*_) % 2=1/\_) (by rintro ⟨a1,a2,a3⟩; simp_all only [or_self,and_true,and_false,false_or,not_true_eq_false,reduceCtorEq]),ZaQ]; exact hr2),(fun _ h=>(ZaC _ h))⟩
   try simp only [Q2,Q0,QX,ZaM,ZaB] at h20
   refine Yh (Ze (Yq (v:=vA) rfl (Yq (v:=vA) rfl (Yc (Yi (⟨_,YK (v:=vA) rfl (YP),?_⟩))))))
   rw [Kp (by omega) (by omega) (by omega)]
   exact ⟨_,by first | (rw [Za8 (c:=M 129 / (2*_) % 2=1/\_) ⟨by assumption,by assumption,by assumption⟩]; exact hrA) | (rw [Za7 (c:=M 129 / (2*_) % 2=1/\_) (by rintro ⟨a1,a2,a3⟩; simp_all only [or_self,and_true,and_false,false_or,not_true_eq_false,reduceCtorEq]),ZaQ]; exact hrA),(fun _ h=>(.tail _ (ZaC _ h)))⟩
  refine Ya rfl rfl (ZF rfl (Zq rfl (Yc (ZB rfl (Yh (Ze (Yq (v:=vA) rfl (Yq (v:=vA) rfl (Yc (Yi (⟨_,YK (v:=vA) rfl (YP),?_⟩)))))))))))
  rw [Kp (by omega) (by omega) (by omega)]
  exact ⟨_,by first | (rw [Za8 (c:=M 129 / (2*_) % 2=1/\_) ⟨by assumption,by assumption,by assumption⟩]; exact hrA) | (rw [Za7 (c:=M 129 / (2*_) % 2=1/\_) (by rintro ⟨a1,a2,a3⟩; simp_all only [or_self,and_true,and_false,false_or,not_true_eq_false,reduceCtorEq]),ZaQ]; exact hrA),(fun _ h=>(ZaC _ h))⟩
 refine ZF rfl (Zq rfl (Zk rfl (ZF rfl (ZC rfl (Zq rfl (Yc (ZB rfl (Yh (Ze (Yq (v:=vA) rfl (Yq (v:=vA) rfl (Yc (Yi (⟨_,YK (v:=vA) rfl (YP),?_⟩))))))))))))))
 rw [Kp (by omega) (by omega) (by omega)]
 exact ⟨_,by first | (rw [Za8 (c:=M 129 / (2*_) % 2=1/\_) ⟨by assumption,by assumption,by assumption⟩]; exact hrA) | (rw [Za7 (c:=M 129 / (2*_) % 2=1/\_) (by rintro ⟨a1,a2,a3⟩; simp_all only [or_self,and_true,and_false,false_or,not_true_eq_false,reduceCtorEq]),ZaQ]; exact hrA),(fun _ h=>(ZaC _ h))⟩
end Go.Proofs.YtlkighkfkdpncaaGreatDoor
