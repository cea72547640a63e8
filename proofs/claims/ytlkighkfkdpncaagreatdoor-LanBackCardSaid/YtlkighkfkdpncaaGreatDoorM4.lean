/- Texts of this seat, joined. -/
import Derived.Test.YtlkighkfkdpncaaGreatDoorM3
set_option linter.unusedSimpArgs false
set_option linter.unusedVariables false
namespace Go.Proofs.YtlkighkfkdpncaaGreatDoor
open Go Go.Am
theorem rook_ex {md:Md} (H:Nat->Int) (ha:0<=H 133/\H 133 < 64) (ht:0<=H 134/\H 134 < 64) (hc:H 137=0\/H 137=1) (hC:0<=H 129/\H 129<=15) :
  ∃ x y z,Rl (H 136) (H 133) (H 134) (H 137) (H 129) x y z/\RB AM 88 [.ptr 0 0 138] [.sc md 138 (ia H)] (.tup [.s (.int .i64 x),.s (.int .i64 y),.s (.bool z)]) [.sc md 138 (ia H)]:=by
 obtain ⟨v,σ',n',L',h1,h2,⟨x,y,z,rfl,hr⟩,h3⟩:=Zbm (md:=md) H ha ht hc hC
 exact ⟨x,y,z,hr,σ',h1,(h2.2.mem h3).2,⟨_,_,_,rfl⟩,trivial⟩
structure Same (H J:Nat->Int) (B:Nat->Int):Prop where
 lo:∀ i,i < 128->J i=B i
 hi:∀ i,128<=i->J i=H i
theorem xw {md md2:Md} (hmd:md.mut=true) {q:Nat} {c:Cp} (H X K:Nat->Int) (n:Nat) (hn:n<=1000):∃ J,J=Qh H X K n/\RB AM 90 [.ptr 0 0 138,.agg 2 (ia X),.sl 1 0 n 1 c] [.sc md 138 (ia H),.sc md2 q (ia K)] (.tup []) [.sc md 138 (ia J),.sc md2 q (ia K)] :=
 ⟨_,rfl,kZ (set_run hmd H X K n hn)⟩
theorem set_two {H J:Nat->Int} {w a:Int} (e:J=Qh H (fun _=>0) (ov (ov (fun _=>0) (0*1) w) (1*1) a) 2) (ha:0<=a/\a < 64) (hw:-1<=w/\w < 64):Same H J (brd2 H w a):=by
 have h2:=zk (H:=H) (X:=fun _=>0) (K:=ov (ov (fun _=>0) (0*1) w) (1*1) a) (n:=1) (s:=a) rfl ha
 refine ⟨fun i _=>?_,fun i hi=>by rw [e]; exact yJ 2 i hi⟩
 rw [e,h2,brd2,DM]
 by_cases h:0<=w
 ·rw [zk (H:=H) (X:=fun _=>0) (K:=ov (ov (fun _=>0) (0*1) w) (1*1) a) (n:=0) (s:=w) rfl (by omega),ZcA h]; rfl
 rw [u9 (H:=H) (X:=fun _=>0) (K:=ov (ov (fun _=>0) (0*1) w) (1*1) a) (n:=0) (s:=w) rfl (by omega),Zcz h]; rfl
theorem J8 {H J J' B X Y:Nat->Int} {t:Int} (j:Same H J B) (e:J'=Qh J X (ov (fun _=>0) (0*1) t) 1) (ht:0<=t/\t < 64) (hx:∀ i,i < 2->X i=Y i):Same H J' (ovA B (sqI t) 2 Y):=by
 have h1:=zk (H:=J) (X:=X) (K:=ov (fun _=>0) (0*1) t) (n:=0) (s:=t) rfl ht
 refine ⟨fun i hi=>?_,fun i hi=>by rw [e,yJ 1 i hi]; exact j.hi i hi⟩
 rw [e,h1]
 exact Uw (n:=128) j.lo hx i hi
theorem two {X Y:Nat->Int} (h0:X 0=Y 0) (h1:X 1=Y 1):∀ i,i < 2->X i=Y i
 | 0,_=>h0
 | 1,_=>h1
 | n+2,h=>by omega
theorem TY {k a t c C:Int} (h:Y3 k a t c C≠0):a=56*c+4:=by
 unfold Y3 at h
 split at h
 ·omega
 split at h
 ·omega
 exact absurd rfl h
theorem Zaw {H J2 J3 J4 X:Nat->Int} {w k a t c b C x y:Int} {z:Bool} (j:Same H J2 (EX H w a t k c b)) (e3:J3=Qh J2 (fun _=>0) (ov (fun _=>0) (0*1) x) 1) (e4:J4=Qh J3 (ov (ov (fun _=>0) 0 4) 1 (X 1)) (ov (fun _=>0) (0*1) y) 1)
  (hr:Rl k a t c C x y z) (hz:z=true) (hc:c=0\/c=1) (hx1:X 1=c):Same H J4 (VK H w a t k c b (Y3 k a t c C)):=by
 rcases hr with ⟨hg,_,rfl,rfl⟩ | ⟨hg,_,rfl,rfl⟩ | ⟨_,hf⟩
 ·have:=TY (h:=by rw [hg]; decide)
  rw [hg,VK,ZcA rfl]
  exact J8 (J8 j e3 (by omega) (fun _ _=>rfl)) e4 (by omega) (two rfl hx1)
 ·have:=TY (h:=by rw [hg]; decide)
  rw [hg,VK,Zcz (by decide),ZcA rfl]
  exact J8 (J8 j e3 (by omega) (fun _ _=>rfl)) e4 (by omega) (two rfl hx1)
 rw [hz] at hf; cases hf
theorem sk {H J2:Nat->Int} {w k a t c b C x y:Int} {z:Bool} (j:Same H J2 (EX H w a t k c b)) (hr:Rl k a t c C x y z) (hz:z=false):Same H J2 (VK H w a t k c b (Y3 k a t c C)):=by
 rcases hr with ⟨_,h,_⟩ | ⟨_,h,_⟩ | ⟨hg,_⟩
 ·rw [hz] at h; cases h
 ·rw [hz] at h; cases h
 rw [hg,VK,Zcz (by decide),Zcz (by decide)]; exact j
structure Done (H J B:Nat->Int) (cs ovr hf fl:Int):Prop where
 lo:∀ i,i < 128->J i=B i
 s:J 128=H 128
 c:J 129=cs
 o:J 130=ovr
 h:J 131=hf
 f:J 132=fl
theorem done_is {H J:Nat->Int} {k c a t b C:Int} (h:Done H J (VK H (Y7 H k a t) a t k c b (Y3 k a t c C)) (VQ C (orM (orM 0 (Xx a)) (Xx t))) (Uz k a t c) (Ug H k (Y7 H k a t)) (QU H)) (i:Nat):ovA (fun _=>0) 0 133 (ov J 128 (XT (H 128))) i=Uq H k c a t b C i:=by
 unfold Uq
 by_cases hi:i < 133
 ·rw [X3 (by omega),Nat.sub_zero]
  by_cases h1:i < 128
  ·rw [ZcA h1,XF (by omega)]; exact h.lo i h1
  rw [Zcz h1]
  have hc:i=128\/i=129\/i=130\/i=131\/i=132:=by omega
  rcases hc with rfl | rfl | rfl | rfl | rfl
  ·rfl
  ·exact h.c
  ·exact h.o
  ·exact h.h
  exact h.f
 rw [Wb (by omega),Zcz (by omega),Zcz (by omega),Zcz (by omega),Zcz (by omega),Zcz (by omega),Zcz (by omega)]
theorem ZaD (H:Nat->Int) (ha:0<=H 133/\H 133 < 64) (ht:0<=H 134/\H 134 < 64) (hc:H 137=0\/H 137=1) (hC:0<=H 129/\H 129<=15):WR AM 50 [.ptr 0 0 138] [.sc .var 138 (ia H)] (fun v _ L=>∃ J,v=.agg 133 (ia (Uq H (H 136) (H 137) (H 133) (H 134) (H 135) (H 129)))/\(0,Blk.sc .var 138 (ia J))∈L):=by
 refine YL (a:=a50) rfl rfl (YI _) (ZQ rfl) (m:=1) rfl (Ze (Yy (Zf (Zl rfl (V7 rfl (V4 (qi H ha ht)) rfl rfl rfl (.there .here) (Zj rfl (Zf (Zl rfl ?_))))))))
 obtain ⟨x,y,z,hr,hR⟩:=rook_ex (md:=.var) H ha ht hc hC
 refine V7 rfl (hR) rfl rfl rfl (.there .here) (Zo rfl (YD (v:=.s (.int _ _)) rfl rfl (YD (v:=.s (.int _ _)) rfl rfl (YD (v:=.s (.bool _)) rfl rfl (Zj rfl (Zj rfl (Zk rfl (Zf (Yq rfl (Yc (Wz (fun f n L=>(f 0=.ptr 0 0 138)/\(f 2=.ptr 1 0 133)/\(f 3=.s (.int .i64 (Y7 H (H 136) (H 133) (H 134))))/\(f 4=.s (.int .i64 x))/\(f 5=.s (.int .i64 y))/\(f 6=.s (.bool z))/\(f 7=.s (.int .i64 (Uz (H 136) (H 133) (H 134) (H 137))))/\(L=[(1,.sc .var 133 (ia fun _=>0)),(0,.sc .var 138 (ia H))])/\(n=2)) ?_ (fun f nb L hI=>?_))))))))))))
 ·refine Ze (Zl rfl (V7 rfl (V4 (ZaM H ha ht hc)) rfl rfl rfl (.there .here) (Yc (Yj rfl (fun h1=>?_) (fun h1=>?_)))))
  ·refine Yg (Zl rfl (YG rfl (Yd (o':=133) rfl rfl rfl (Yd (o':=133) rfl rfl rfl (Ym rfl rfl ZN rfl (Zl rfl (YG rfl (Yd (o':=133) rfl rfl rfl (Yd (o':=134) rfl rfl rfl (Ym rfl rfl ZN rfl (Zs rfl rfl (Zu rfl rfl (Zj rfl (Yc (⟨_,(.refl _),rfl,rfl,rfl,rfl,rfl,rfl,?_,rfl,rfl⟩)))))))))))))))
   refine ZJ ?_
   rw [Uz]
   exact (ZcA (by assumption)).symm
  refine Yh (⟨_,(.refl _),rfl,rfl,rfl,rfl,rfl,rfl,?_,rfl,rfl⟩)
  refine ZJ ?_
  rw [Uz]
  exact (Zcz (Bool.eq_false_iff.1 (by assumption))).symm
 obtain ⟨k0,k2,k3,k4,k5,k6,k7,rfl,rfl⟩:=hI
 refine Za 0 k0 (Za 2 k2 (Za 3 k3 (Za 4 k4 (Za 5 k5 (Za 6 k6 (Za 7 k7 (Ze (Zl rfl (YG rfl (Yd (o':=136) rfl rfl rfl (Yp rfl rfl ZN (Yy (Yz rfl rfl rfl rfl .here (Yc (Wz (fun f n L=>∃ (X:Nat->Int),(X 0=(if H 135=0 then H 136 else H 135))/\(X 1=H 137)/\(f 0=.ptr 0 0 138)/\(f 2=.ptr 1 0 133)/\(f 3=.s (.int .i64 (Y7 H (H 136) (H 133) (H 134))))/\(f 4=.s (.int .i64 x))/\(f 5=.s (.int .i64 y))/\(f 6=.s (.bool z))/\(f 7=.s (.int .i64 (Uz (H 136) (H 133) (H 134) (H 137))))/\(f 8=.ptr 2 0 2)/\(L=[(2,.sc .var 2 (ia X)),(1,.sc .var 133 (ia fun _=>0)),(0,.sc .var 138 (ia H))])/\(n=3)) ?_ (fun f nb L hI=>?_))))))))))))))))
 ·refine Ze (Zl rfl (YG rfl (Yd (o':=133) rfl rfl rfl (Yd (o':=135) rfl rfl rfl (Ym rfl rfl ZO rfl (Zr rfl (Yc (Yj rfl (fun h2=>?_) (fun h2=>?_))))))))) <;> simp only [NM] at h2
  ·refine Yf (Zl rfl (YG rfl (Yd (o':=133) rfl rfl rfl (Yd (o':=135) rfl rfl rfl (Ym rfl rfl ZO rfl (Zy rfl (YA rfl rfl rfl rfl .here (Yc (⟨_,(.refl _),_,?_,?_,rfl,rfl,rfl,rfl,rfl,rfl,rfl,rfl,rfl,rfl⟩)))))))))
   · exact (Zcz (by assumption)).symm
   rfl
  refine Yh (⟨_,(.refl _),_,?_,?_,rfl,rfl,rfl,rfl,rfl,rfl,rfl,rfl,rfl,rfl⟩)
  · exact (ZcA (by assumption)).symm
  rfl
 obtain ⟨X,hx0,hx1,k0,k2,k3,k4,k5,k6,k7,k8,rfl,rfl⟩:=hI
 refine Za 0 k0 (Za 2 k2 (Za 3 k3 (Za 4 k4 (Za 5 k5 (Za 6 k6 (Za 7 k7 (Za 8 k8 (Ze (Zl rfl (YB rfl .nil (Zj rfl (Zl rfl (YG rfl (Yd (o':=133) rfl rfl rfl (Yd (o':=133) rfl rfl rfl (Ym (x:=H 133) rfl rfl ZO (rfl) (XA rfl (.one rfl (.one rfl .nil)) ?_)))))))))))))))))
 obtain ⟨J1,eJ1,hSJ1⟩:=xw (md:=.var) (md2:=.var) (q:=2) (c:=.ex 2) rfl H (fun _=>0) (ov (ov (fun _=>0) (0*1) (Y7 H (H 136) (H 133) (H 134))) (1*1) (H 133)) 2 (by omega)
 have j1:Same H J1 (brd2 H (Y7 H (H 136) (H 133) (H 134)) (H 133)):=set_two eJ1 ha (VY ha ht)
 refine Vy (rs:=[0,3]) (Bs:=[_,_]) rfl (hSJ1) rfl rfl (YF rfl) (fun _ h=>h) rfl ⟨ZP,⟨_,_,_,rfl⟩,⟨ZM,⟨_,_,_,rfl⟩,trivial⟩⟩ rfl rfl rfl (.cons (.there (.there (.there .here))) (.cons .here .nil)) (Yc (Ye (Yg (Zl rfl (Yo rfl rfl ZN (Zl rfl (YG rfl (Yd (o':=133) rfl rfl rfl (Yd (o':=134) rfl rfl rfl (Ym (x:=H 134) rfl rfl ZP (j1.hi 134 (by omega)) (XA rfl (.one rfl .nil) ?_)))))))))))
 obtain ⟨J2,eJ2,hSJ2⟩:=xw (md:=.var) (md2:=.var) (q:=1) (c:=.ex 1) rfl J1 X (ov (fun _=>0) (0*1) (H 134)) 1 (by omega)
 have j2:Same H J2 (EX H (Y7 H (H 136) (H 133) (H 134)) (H 133) (H 134) (H 136) (H 137) (H 135)):=J8 j1 eJ2 ht (two hx0 hx1)
 refine Vy (rs:=[0,4]) (Bs:=[_,_]) rfl (hSJ2) rfl rfl (YF rfl) (fun _ h=>h) rfl ⟨(.tail _ ZP),⟨_,_,_,rfl⟩,⟨ZM,⟨_,_,_,rfl⟩,trivial⟩⟩ rfl rfl rfl (.cons (.there (.there (.there (.there .here)))) (.cons .here .nil)) (Yc (Wz (fun f n L=>∃ (X J:Nat->Int),(3<=n)/\(Same H J (VK H (Y7 H (H 136) (H 133) (H 134)) (H 133) (H 134) (H 136) (H 137) (H 135) (Y3 (H 136) (H 133) (H 134) (H 137) (H 129))))/\(f 0=.ptr 0 0 138)/\(f 2=.ptr 1 0 133)/\(f 3=.s (.int .i64 (Y7 H (H 136) (H 133) (H 134))))/\(f 7=.s (.int .i64 (Uz (H 136) (H 133) (H 134) (H 137))))/\(L=[(2,.sc .var 2 (ia X)),(1,.sc .var 133 (ia fun _=>0)),(0,.sc .var 138 (ia J))])) ?_ (fun f nb L hI=>?_)))
 ·refine Ze (Zk rfl (Yc (Yj rfl (fun h3=>?_) (fun h3=>?_))))
  ·refine Ze (Zl rfl (YB rfl .nil (Zj rfl (XA rfl (.one rfl .nil) ?_))))
   obtain ⟨J3,eJ3,hSJ3⟩:=xw (md:=.var) (md2:=.var) (q:=1) (c:=.ex 1) rfl J2 (fun _=>0) (ov (fun _=>0) (0*1) x) 1 (by omega)
   refine Vy (rs:=[0,5]) (Bs:=[_,_]) rfl (hSJ3) rfl rfl (YF rfl) (fun _ h=>h) rfl ⟨(.tail _ (.tail _ ZP)),⟨_,_,_,rfl⟩,⟨ZM,⟨_,_,_,rfl⟩,trivial⟩⟩ rfl rfl rfl (.cons (.there (.there (.there (.there (.there .here))))) (.cons .here .nil)) (Yc (Yf (Zl rfl (Zz rfl (Ym rfl rfl ZP rfl (YB rfl (.one rfl (.one rfl .nil)) (Zj rfl (XA rfl (.one rfl .nil) ?_))))))))
   obtain ⟨J4,eJ4,hSJ4⟩:=xw (md:=.var) (md2:=.var) (q:=1) (c:=.ex 1) rfl J3 (ov (ov (fun _=>0) 0 4) 1 (X 1)) (ov (fun _=>0) (0*1) y) 1 (by omega)
   have j4:Same H J4 (VK H (Y7 H (H 136) (H 133) (H 134)) (H 133) (H 134) (H 136) (H 137) (H 135) (Y3 (H 136) (H 133) (H 134) (H 137) (H 129))):=Zaw j2 eJ3 eJ4 hr (by assumption) hc hx1
   refine Vy (rs:=[0,6]) (Bs:=[_,_]) rfl (hSJ4) rfl rfl (YF rfl) (fun _ h=>h) rfl ⟨(.tail _ (.tail _ (.tail _ ZP))),⟨_,_,_,rfl⟩,⟨ZM,⟨_,_,_,rfl⟩,trivial⟩⟩ rfl rfl rfl (.cons (.there (.there (.there (.there (.there (.there .here)))))) (.cons .here .nil)) (Yc ?_)
   exact ⟨_,(.cons _ (.cons _ (.cons _ (.cons _ (.refl _))))),X,J4,by omega,j4,rfl,rfl,rfl,rfl,rfl⟩
  refine Yh ?_
  exact ⟨_,(.cons _ (.cons _ (.refl _))),X,J2,by omega,sk j2 hr (by assumption),rfl,rfl,rfl,rfl,rfl⟩
 obtain ⟨X,J,hn3,hJ,k0,k2,k3,k7,rfl⟩:=hI
 refine Za 0 k0 (Za 2 k2 (Za 3 k3 (Za 7 k7 (Ze (Zl rfl (Zj rfl (YG rfl (Zy rfl (Yd (o':=130) rfl rfl rfl (YA rfl rfl rfl rfl (.there (.there .here)) (Yc (Ye (Yg (Zl rfl (YG rfl (Zy rfl (Yd (o':=129) rfl rfl rfl (Ym (x:=H 129) rfl rfl ZO (hJ.hi 129 (by omega)) (Zl rfl (YG rfl (Yd (o':=133) rfl rfl rfl (Yd (o':=133) rfl rfl rfl (Ym (x:=H 133) rfl rfl ZO (hJ.hi 133 (by omega)) (Zl rfl (YG rfl (Yd (o':=133) rfl rfl rfl (Yd (o':=134) rfl rfl rfl (Ym (x:=H 134) rfl rfl ZO (hJ.hi 134 (by omega)) (XA rfl (.one rfl (.one rfl .nil)) ?_)))))))))))))))))))))))))))))
 refine Zbh (rs:=[nb]) (Bs:=[_]) (av:=[.sl nb 0 2 1 (.ex 2)]) (v:=.s (.int .i64 (xP (ov (ov (fun _=>0) (0*1) (H 133)) (1*1) (H 134)) 2))) rfl (V4 (gD (md:=.ro) (q:=2) (c:=.ex 2) (ov (ov (fun _=>0) (0*1) (H 133)) (1*1) (H 134)) 2 (by omega))) rfl (by simp [V.refsL,V.refs,We]) (by simp [V.refsL,V.refs]) (by simp [V.refsL,V.refs]) (by simp [rnL,V.renL,V.ren,pos]) ⟨ZM,⟨_,_,_,rfl⟩,trivial⟩ rfl rfl rfl (Yr (r:=.int .i64 (VQ (H 129) _)) rfl rfl rfl (YG rfl (Zy rfl (Yd (o':=129) rfl rfl rfl (YA rfl rfl rfl rfl (.there (.there (.there .here))) (Zf (Zl rfl (Zl rfl (YG rfl (Zy rfl (Yd (o':=131) rfl rfl rfl (Ym (x:=H 131) rfl rfl ZP (hJ.hi 131 (by omega)) (Dw rfl rfl (Yr rfl rfl rfl (YG rfl (Zy rfl (Yd (o':=131) rfl rfl rfl (YA rfl rfl rfl rfl (.there (.there (.there .here))) (Yc (Wz (fun f n L=>∃ (J:Nat->Int),(Done H J (VK H (Y7 H (H 136) (H 133) (H 134)) (H 133) (H 134) (H 136) (H 137) (H 135) (Y3 (H 136) (H 133) (H 134) (H 137) (H 129))) (VQ (H 129) (orM (orM 0 (Xx (H 133))) (Xx (H 134)))) (Uz (H 136) (H 133) (H 134) (H 137)) (Ug H (H 136) (Y7 H (H 136) (H 133) (H 134))) (H 132))/\(f 0=.ptr 0 0 138)/\(f 2=.ptr 1 0 133)/\(L=[(1,.sc .var 133 (ia fun _=>0)),(0,.sc .var 138 (ia J))])) ?_ (fun f nb L hI=>?_)))))))))))))))))))))
 ·refine Ze (Zj rfl (Zr rfl (Zk rfl (Ys (t:=118) rfl (fun h4=>?_) (fun h4=>?_))))) <;> simp only [NM] at h4
  ·refine ZE rfl (ZD rfl (Zq rfl (Yc (ZA rfl (Yf (Zl rfl (YG rfl (Zy rfl (Yd (o':=131) rfl rfl rfl (YA rfl rfl rfl rfl (.there (.there (.there .here))) (Yc (⟨_,(.cons _ (.cons _ (.refl _))),_,?_,rfl,rfl,rfl⟩))))))))))))
   refine ⟨(by intro i hi; (repeat rw [XF (by omega)]); exact hJ.lo i hi),hJ.hi 128 (by omega),rfl,rfl,?_,hJ.hi 132 (by omega)⟩
   have hb:=VY (P:=H) (k:=H 136) ha ht
   rw [Ug]
   exact (ZcA (by omega)).symm
  refine Yb rfl (Zl rfl (Yb rfl (YG rfl (Yb rfl (Yd (o':=136) rfl rfl rfl (Yb rfl (Yd (o':=136) rfl rfl rfl (Yb rfl (Ym (x:=H 136) rfl rfl ZP (hJ.hi 136 (by omega)) (Yb rfl (Zr rfl (Zq rfl (Yc (Yj rfl (fun h5=>?_) (fun h5=>?_))))))))))))))) <;> simp only [NM] at h5
  ·refine Yf (Zl rfl (YG rfl (Zy rfl (Yd (o':=131) rfl rfl rfl (YA rfl rfl rfl rfl (.there (.there (.there .here))) (Yc (⟨_,(.cons _ (.cons _ (.refl _))),_,?_,rfl,rfl,rfl⟩)))))))
   refine ⟨(by intro i hi; (repeat rw [XF (by omega)]); exact hJ.lo i hi),hJ.hi 128 (by omega),rfl,rfl,?_,hJ.hi 132 (by omega)⟩
   have hb:=VY (P:=H) (k:=H 136) ha ht
   rw [Ug]
   exact (ZcA (by omega)).symm
  refine Yh (⟨_,(.cons _ (.cons _ (.refl _))),_,?_,rfl,rfl,rfl⟩)
  refine ⟨(by intro i hi; (repeat rw [XF (by omega)]); exact hJ.lo i hi),hJ.hi 128 (by omega),rfl,rfl,?_,hJ.hi 132 (by omega)⟩
  have hb:=VY (P:=H) (k:=H 136) ha ht
  rw [Ug]
  exact (Zcz (by omega)).symm
 obtain ⟨J,hD,k0,k2,rfl⟩:=hI
 refine Za 0 k0 (Za 2 k2 (Wz (fun f n L=>∃ (J:Nat->Int),(Done H J (VK H (Y7 H (H 136) (H 133) (H 134)) (H 133) (H 134) (H 136) (H 137) (H 135) (Y3 (H 136) (H 133) (H 134) (H 137) (H 129))) (VQ (H 129) (orM (orM 0 (Xx (H 133))) (Xx (H 134)))) (Uz (H 136) (H 133) (H 134) (H 137)) (Ug H (H 136) (Y7 H (H 136) (H 133) (H 134))) (QU H))/\(f 0=.ptr 0 0 138)/\(f 2=.ptr 1 0 133)/\(L=[(1,.sc .var 133 (ia fun _=>0)),(0,.sc .var 138 (ia J))])) ?_ (fun f nb L hI=>?_)))
 ·refine Ze (Zl rfl (YG rfl (Zy rfl (Yd (o':=128) rfl rfl rfl (Ym (x:=H 128) rfl rfl ZN (hD.s) (Zr rfl (Yc (Yj rfl (fun h6=>?_) (fun h6=>?_))))))))) <;> simp only [NM] at h6
  ·refine Yf (Zl rfl (Zl rfl (YG rfl (Zy rfl (Yd (o':=132) rfl rfl rfl (Ym (x:=H 132) rfl rfl ZN (hD.f) (Dw rfl rfl (Yr rfl rfl rfl (YG rfl (Zy rfl (Yd (o':=132) rfl rfl rfl (YA rfl rfl rfl rfl (.there .here) (Yc (⟨_,(.refl _),_,?_,rfl,rfl,rfl⟩))))))))))))))
   refine ⟨(by intro i hi; (repeat rw [XF (by omega)]); exact hD.lo i hi),hD.s,hD.c,hD.o,hD.h,?_⟩
   rw [QU]
   exact (ZcA (by assumption)).symm
  refine Yh (⟨_,(.refl _),_,?_,rfl,rfl,rfl⟩)
  refine ⟨(by intro i hi; (repeat rw [XF (by omega)]); exact hD.lo i hi),hD.s,hD.c,hD.o,hD.h,?_⟩
  rw [QU]
  exact hD.f.trans (Zcz (by assumption)).symm
 obtain ⟨J,hE,k0,k2,rfl⟩:=hI
 refine Za 0 k0 (Za 2 k2 (Ze (Zl rfl (Zl rfl (YG rfl (Zy rfl (Yd (o':=128) rfl rfl rfl (Ym (x:=H 128) rfl rfl ZN (hE.s) (Yt rfl (YP (VW _)) rfl rfl rfl (YG rfl (Zy rfl (Yd (o':=128) rfl rfl rfl (YA rfl rfl rfl rfl (.there .here) (Zf (Zl rfl (YG rfl (Zy rfl (Yo rfl rfl ZN (Yz rfl rfl rfl rfl .here (Yc (Yi (⟨_,XM rfl rfl ZM (YW),?_⟩))))))))))))))))))))))
 refine ⟨_,congrArg (fun g=>V.agg 133 (ia g)) (funext fun i=>?_),ZN⟩
 exact done_is hE i
structure HandOf (P m H:Nat->Int):Prop where
 lo:∀ i,i < 129->H i=P i
 c:H 129=W7 P
 hi:∀ i,130<=i->i < 133->H i=P i
 a:H 133=m 0
 t:H 134=m 1
 b:H 135=m 2
 k:H 136=P (sqI (m 0))
 s:H 137=P (sqI (m 0)+1)
def jr (P m:Nat->Int):Nat->Int:=ovA (ovA (ovA (fun _=>0) 0 133 P) 133 3 m) 136 2 (dp P (sqI (m 0)))
theorem J7 {P m:Nat->Int} {i:Nat} (h:i < 133):jr P m i=P i:=by
 unfold jr
 rw [Wb (by omega),Wb (by omega),X3 (by omega),Nat.sub_zero]
theorem om {P m:Nat->Int} (h:0<=P 129/\P 129<=15):HandOf P m (jr P m) :=
 ⟨fun i hi=>J7 (by omega),by rw [J7 (by omega),W7,Zcz (by omega)],fun i _ hi=>J7 hi,rfl,rfl,rfl,rfl,rfl⟩
theorem jb {P m:Nat->Int} (h:P 129 < 0\/15 < P 129):HandOf P m (ov (jr P m) 129 0) :=
 ⟨fun i hi=>by rw [XF (by omega)]; exact J7 (by omega),by rw [W7,ZcA h]; rfl,fun i h1 hi=>by rw [XF (by omega)]; exact J7 hi,rfl,rfl,rfl,rfl,rfl⟩
theorem VZ {P:Nat->Int} {a t b:Int} (h:¬ (1<=P (sqI a)/\P (sqI a)<=6/\P (sqI a+1)=P 128/\(P (sqI a+1)=0\/P (sqI a+1)=1)/\(if P (sqI a)=1/\t / 8=7*(1 - P (sqI a+1)) then 2<=b/\b<=5 else b=0))):XI P a t b=false:=Zci h
theorem UL {P:Nat->Int} {a t b:Int} (h:1<=P (sqI a)/\P (sqI a)<=6/\P (sqI a+1)=P 128/\(P (sqI a+1)=0\/P (sqI a+1)=1)/\(if P (sqI a)=1/\t / 8=7*(1 - P (sqI a+1)) then 2<=b/\b<=5 else b=0)):XI P a t b=true:=Zcl h
theorem oN (P m:Nat->Int):WR AM 47 [.agg 133 (ia P),.agg 3 (ia m)] [] (fun v _ L=>(v=.tup [.pnil,.s (.int .i64 (Wj P (m 0) (m 1) (m 2)))]/\Wj P (m 0) (m 1) (m 2)≠0)\/(Wj P (m 0) (m 1) (m 2)=0/\∃ b H,v=.tup [.ptr b 0 138,.s (.int .i64 (Wj P (m 0) (m 1) (m 2)))]/\HandOf P m H/\(b,Blk.sc .var 138 (ia H))∈L)):=by
 refine YL (a:=a47) rfl rfl (YI _) (ZQ rfl) (m:=0) rfl (Ze (YC rfl (YC rfl (Yq rfl (Yq rfl (Yc (Ye (Ze (Zy rfl (Ym rfl rfl ZM rfl (Yt rfl (U4 _) rfl rfl rfl (Yv (r:=.bool _) rfl rfl (Zk rfl (Ys (t:=13) rfl (fun h7=>?_) (fun h7=>?_))))))))))))))) <;> simp only [NM] at h7
 ·try simp only [isM,Zb7,ZbJ] at h7
  refine ZE rfl (Zq rfl (Zk rfl (ZE rfl (ZC rfl (Zq rfl (Yc (ZA rfl (Ze (Yq rfl (Yq rfl (Yc (Yi (⟨_,YH (v:=.pnil) rfl (ZL rfl),?_⟩)))))))))))))
  have he:=UD (P:=P) (a:=m 0) (t:=m 1) (b:=m 2) (by omega)
  rw [he]
  exact .inl ⟨rfl,by decide⟩
 try simp only [isM,Zb7,ZbJ] at h7
 refine Yb rfl (Zz rfl (Yb rfl (Ym rfl rfl ZM rfl (Yb rfl (Yt rfl (U4 _) rfl rfl rfl (Yb rfl (Yv (r:=.bool _) rfl rfl (Zq rfl (Zk rfl (Ys (t:=19) rfl (fun h8=>?_) (fun h8=>?_))))))))))) <;> simp only [NM] at h8
 ·try simp only [isM,Zb7,ZbJ] at h8
  refine ZE rfl (ZC rfl (Zq rfl (Yc (ZA rfl (Ze (Yq rfl (Yq rfl (Yc (Yi (⟨_,YH (v:=.pnil) rfl (ZL rfl),?_⟩))))))))))
  have he:=UD (P:=P) (a:=m 0) (t:=m 1) (b:=m 2) (by omega)
  rw [he]
  exact .inl ⟨rfl,by decide⟩
 try simp only [isM,Zb7,ZbJ] at h8
 refine Yb rfl (Zy rfl (Yb rfl (Ym rfl rfl ZM rfl (Yb rfl (Zz rfl (Yb rfl (Ym rfl rfl ZM rfl (Yb rfl (Zr rfl (Zq rfl (Yc (Yj rfl (fun h9=>?_) (fun h9=>?_))))))))))))) <;> simp only [NM] at h9
 ·refine Ze (Yq rfl (Yq rfl (Yc (Yi (⟨_,YH (v:=.pnil) rfl (ZL rfl),?_⟩)))))
  have he:=UD (P:=P) (a:=m 0) (t:=m 1) (b:=m 2) (by omega)
  rw [he]
  exact .inl ⟨rfl,by decide⟩
 refine Yh (Ye (Yg (Yo rfl rfl ZN (Yo rfl rfl ZM (Zy rfl (Ym rfl rfl ZM rfl (Zy rfl (Zw rfl rfl rfl (Yp rfl rfl ZN (YB rfl (.agg rfl (.agg rfl (.agg rfl .nil))) (YC rfl (Zl rfl (Yc (Wz (fun f n L=>∃ (H:Nat->Int),(HandOf P m H)/\(0<=m 0/\m 0 < 64)/\(0<=m 1/\m 1 < 64)/\(m 0≠m 1)/\(f 2=.ptr 0 0 133)/\(f 3=.ptr 1 0 3)/\(f 6=.ptr 2 0 138)/\(L=[(2,.sc .var 138 (ia H)),(1,.sc .var 3 (ia m)),(0,.sc .var 133 (ia P))])/\(n=3)) ?_ (fun f nb L hI=>?_)))))))))))))))
 ·refine Ze (Zl rfl (YG rfl (Zy rfl (Yd (o':=129) rfl rfl rfl (Ym (x:=P 129) rfl rfl ZM (rfl) (Zr rfl (Zk rfl (Ys (t:=41) rfl (fun h10=>?_) (fun h10=>?_))))))))) <;> simp only [NM] at h10
  ·refine ZE rfl (ZD rfl (Zq rfl (Yc (ZA rfl (Yf (Zl rfl (YG rfl (Zy rfl (Yd (o':=129) rfl rfl rfl (YA rfl rfl rfl rfl .here (Yc (⟨_,(.refl _),_,?_,by omega,by omega,by omega,rfl,rfl,rfl,rfl,rfl⟩))))))))))))
   exact jb (.inl (by assumption))
  refine Yb rfl (Zl rfl (Yb rfl (YG rfl (Yb rfl (Zy rfl (Yb rfl (Yd (o':=129) rfl rfl rfl (Yb rfl (Ym (x:=P 129) rfl rfl ZM (rfl) (Yb rfl (Zr rfl (Zq rfl (Yc (Yj rfl (fun h11=>?_) (fun h11=>?_))))))))))))))) <;> simp only [NM] at h11
  ·refine Yf (Zl rfl (YG rfl (Zy rfl (Yd (o':=129) rfl rfl rfl (YA rfl rfl rfl rfl .here (Yc (⟨_,(.refl _),_,?_,by omega,by omega,by omega,rfl,rfl,rfl,rfl,rfl⟩)))))))
   exact jb (.inr (by assumption))
  refine Yh (⟨_,(.refl _),_,?_,by omega,by omega,by omega,rfl,rfl,rfl,rfl,rfl⟩)
  exact om ⟨by omega,by omega⟩
 obtain ⟨H,hH,ha,ht,hat,k2,k3,k6,rfl,rfl⟩:=hI
 refine Za 2 k2 (Za 3 k3 (Za 6 k6 (Ze (Zl rfl (YG rfl (Yd (o':=136) rfl rfl rfl (Yp rfl rfl ZM (Yy (Yz rfl rfl rfl rfl .here (Yc (Ye (Ze (Zy rfl (Ym (x:=P (sqI (m 0))) rfl rfl ZM (hH.k) (Zr rfl (Zk rfl (Ys (t:=60) rfl (fun h12=>?_) (fun h12=>?_)))))))))))))))))) <;> simp only [NM] at h12
 ·refine ZD rfl (ZC rfl (Zq rfl (Zk rfl (ZE rfl (ZC rfl (Zq rfl (Zk rfl (ZE rfl (YJ rfl (YJ rfl (YJ rfl (ZC rfl (Zq rfl (Yc (ZA rfl (Ze (Yq rfl (Yq rfl (Yc (Yi (⟨_,YH (v:=.pnil) rfl (ZL rfl),?_⟩)))))))))))))))))))))
  have hh:XI P (m 0) (m 1) (m 2)=false:=VZ (by first | omega | (split <;> omega))
  have he:=Wo (by omega) hh
  rw [he]
  exact .inl ⟨rfl,by decide⟩
 refine Yb rfl (Zy rfl (Yb rfl (Ym (x:=P (sqI (m 0))) rfl rfl ZM (hH.k) (Yb rfl (Zr rfl (Zq rfl (Zk rfl (Ys (t:=65) rfl (fun h13=>?_) (fun h13=>?_))))))))) <;> simp only [NM] at h13
 ·refine ZE rfl (ZC rfl (Zq rfl (Zk rfl (ZE rfl (YJ rfl (YJ rfl (YJ rfl (ZC rfl (Zq rfl (Yc (ZA rfl (Ze (Yq rfl (Yq rfl (Yc (Yi (⟨_,YH (v:=.pnil) rfl (ZL rfl),?_⟩)))))))))))))))))
  have hh:XI P (m 0) (m 1) (m 2)=false:=VZ (by first | omega | (split <;> omega))
  have he:=Wo (by omega) hh
  rw [he]
  exact .inl ⟨rfl,by decide⟩
 refine Yb rfl (Zz rfl (Yb rfl (Ym (x:=P (sqI (m 0)+1)) rfl rfl ZM (hH.s) (Yb rfl (Yd (o':=128) rfl rfl rfl (Yb rfl (Ym rfl rfl ZP rfl (Yb rfl (Zr rfl (Zq rfl (Zk rfl (Ys (t:=72) rfl (fun h14=>?_) (fun h14=>?_))))))))))))) <;> simp only [NM] at h14
 ·refine ZE rfl (YJ rfl (YJ rfl (YJ rfl (ZC rfl (Zq rfl (Yc (ZA rfl (Ze (Yq rfl (Yq rfl (Yc (Yi (⟨_,YH (v:=.pnil) rfl (ZL rfl),?_⟩)))))))))))))
  have hh:XI P (m 0) (m 1) (m 2)=false:=VZ (by first | omega | (split <;> omega))
  have he:=Wo (by omega) hh
  rw [he]
  exact .inl ⟨rfl,by decide⟩
 refine Yb rfl (Zz rfl (Yb rfl (Ym (x:=P (sqI (m 0)+1)) rfl rfl ZM (hH.s) (Yb rfl (Zr rfl (Yb rfl (Zk rfl (Ys (t:=76) rfl (fun h15=>?_) (fun h15=>?_))))))))) <;> simp only [NM] at h15
 ·refine Yb rfl (Zz rfl (Yb rfl (Ym (x:=P (sqI (m 0)+1)) rfl rfl ZM (hH.s) (Yb rfl (Zr rfl (Yb rfl (Zq rfl (Zq rfl (Yc (Yj rfl (fun h16=>?_) (fun h16=>?_))))))))))) <;> simp only [NM] at h16
  ·refine Ze (Yq rfl (Yq rfl (Yc (Yi (⟨_,YH (v:=.pnil) rfl (ZL rfl),?_⟩)))))
   have hh:XI P (m 0) (m 1) (m 2)=false:=VZ (by first | omega | (split <;> omega))
   have he:=Wo (by omega) hh
   rw [he]
   exact .inl ⟨rfl,by decide⟩
  refine Yh (Ye (Yg (Zy rfl (Ym (x:=P (sqI (m 0))) rfl rfl ZM (hH.k) (Zr rfl (Zk rfl (Ys (t:=85) rfl (fun h17=>?_) (fun h17=>?_)))))))) <;> simp only [NM] at h17
  ·refine Yb rfl (Zz rfl (Yb rfl (Ym rfl rfl ZO rfl (Yb rfl (Yu rfl (TI (by omega)) rfl rfl rfl (Yb rfl (Zz rfl (Yb rfl (Ym (x:=P (sqI (m 0)+1)) rfl rfl ZM (hH.s) (Yb rfl (Zt rfl rfl (Yb rfl (Wn rfl rfl (by omega) (Yb rfl (Zr rfl (Zq rfl (Zk rfl (Yc (Ye (Ze (Zk rfl (Zk rfl (Ys (t:=96) rfl (fun h18=>?_) (fun h18=>?_)))))))))))))))))))))))) <;> simp only [NM] at h18
   ·refine Yb rfl (Yd (o':=2) rfl rfl rfl (Yb rfl (Ym rfl rfl ZO rfl (Yb rfl (Zr rfl (Yb rfl (Zk rfl (Ys (t:=100) rfl (fun h19=>?_) (fun h19=>?_))))))))) <;> simp only [NM] at h19
    ·refine ZD rfl (ZC rfl (Yb rfl (Zq rfl (Zq rfl (Zk rfl (ZD rfl (ZC rfl (YJ rfl (YJ rfl (YJ rfl (ZC rfl (Zq rfl (Yc (ZA rfl (Ze (Yq rfl (Yq rfl (Yc (Yi (⟨_,YH (v:=.pnil) rfl (ZL rfl),?_⟩))))))))))))))))))))
     have hh:XI P (m 0) (m 1) (m 2)=false:=VZ (by first | omega | (split <;> omega))
     have he:=Wo (by omega) hh
     rw [he]
     exact .inl ⟨rfl,by decide⟩
    refine Yb rfl (Yd (o':=2) rfl rfl rfl (Yb rfl (Ym rfl rfl ZO rfl (Yb rfl (Zr rfl (Yb rfl (Zq rfl (Zq rfl (Zk rfl (Ys (t:=106) rfl (fun h20=>?_) (fun h20=>?_))))))))))) <;> simp only [NM] at h20
    ·refine ZD rfl (ZC rfl (YJ rfl (YJ rfl (YJ rfl (ZC rfl (Zq rfl (Yc (ZA rfl (Ze (Yq rfl (Yq rfl (Yc (Yi (⟨_,YH (v:=.pnil) rfl (ZL rfl),?_⟩))))))))))))))
     have hh:XI P (m 0) (m 1) (m 2)=false:=VZ (by first | omega | (split <;> omega))
     have he:=Wo (by omega) hh
     rw [he]
     exact .inl ⟨rfl,by decide⟩
    refine Yb rfl (Zk rfl (Yb rfl (Yv (r:=.bool _) rfl rfl (Yb rfl (Zk rfl (Ys (t:=109) rfl (fun h21=>?_) (fun h21=>?_))))))) <;> simp only [NM] at h21
    ·refine Yb rfl (Yd (o':=2) rfl rfl rfl (Yb rfl (Ym rfl rfl ZO rfl (Yb rfl (Zr rfl (Yb rfl (Zq rfl (Zq rfl (Yc (Yj rfl (fun h22=>?_) (fun h22=>?_))))))))))) <;> simp only [NM] at h22
     ·refine Ze (Yq rfl (Yq rfl (Yc (Yi (⟨_,YH (v:=.pnil) rfl (ZL rfl),?_⟩)))))
      have hh:XI P (m 0) (m 1) (m 2)=false:=VZ (by first | omega | (split <;> omega))
      have he:=Wo (by omega) hh
      rw [he]
      exact .inl ⟨rfl,by decide⟩
     refine Yh (Ze (Zl rfl (Zl rfl (Yq rfl (Yc (Yi (⟨_,YH (v:=.ptr _ _ _) rfl (ZL rfl),?_⟩)))))))
     have hh:XI P (m 0) (m 1) (m 2)=true:=UL (by refine ⟨by omega,by omega,by omega,by omega,?_⟩; first | omega | (split <;> omega))
     have he:=Vi (by omega) hh
     rw [he]
     exact .inr ⟨rfl,_,H,rfl,hH,ZN⟩
    refine ZD rfl (ZC rfl (Yb rfl (Zq rfl (Zq rfl (Yc (ZB rfl (Yh (Ze (Zl rfl (Zl rfl (Yq rfl (Yc (Yi (⟨_,YH (v:=.ptr _ _ _) rfl (ZL rfl),?_⟩))))))))))))))
    have hh:XI P (m 0) (m 1) (m 2)=true:=UL (by refine ⟨by omega,by omega,by omega,by omega,?_⟩; first | omega | (split <;> omega))
    have he:=Vi (by omega) hh
    rw [he]
    exact .inr ⟨rfl,_,H,rfl,hH,ZN⟩
   refine ZE rfl (YJ rfl (YJ rfl (YJ rfl (ZC rfl (Zq rfl (Zk rfl (Yb rfl (Zk rfl (Yb rfl (Yv (r:=.bool _) rfl rfl (Yb rfl (Zk rfl (Ys (t:=109) rfl (fun h23=>?_) (fun h23=>?_)))))))))))))) <;> simp only [NM] at h23
   ·refine Yb rfl (Yd (o':=2) rfl rfl rfl (Yb rfl (Ym rfl rfl ZO rfl (Yb rfl (Zr rfl (Yb rfl (Zq rfl (Zq rfl (Yc (Yj rfl (fun h24=>?_) (fun h24=>?_))))))))))) <;> simp only [NM] at h24
    ·refine Ze (Yq rfl (Yq rfl (Yc (Yi (⟨_,YH (v:=.pnil) rfl (ZL rfl),?_⟩)))))
     have hh:XI P (m 0) (m 1) (m 2)=false:=VZ (by first | omega | (split <;> omega))
     have he:=Wo (by omega) hh
     rw [he]
     exact .inl ⟨rfl,by decide⟩
    refine Yh (Ze (Zl rfl (Zl rfl (Yq rfl (Yc (Yi (⟨_,YH (v:=.ptr _ _ _) rfl (ZL rfl),?_⟩)))))))
    have hh:XI P (m 0) (m 1) (m 2)=true:=UL (by refine ⟨by omega,by omega,by omega,by omega,?_⟩; first | omega | (split <;> omega))
    have he:=Vi (by omega) hh
    rw [he]
    exact .inr ⟨rfl,_,H,rfl,hH,ZN⟩
   refine ZD rfl (ZC rfl (Yb rfl (Zq rfl (Zq rfl (Yc (ZB rfl (Yh (Ze (Zl rfl (Zl rfl (Yq rfl (Yc (Yi (⟨_,YH (v:=.ptr _ _ _) rfl (ZL rfl),?_⟩))))))))))))))
   have hh:XI P (m 0) (m 1) (m 2)=true:=UL (by refine ⟨by omega,by omega,by omega,by omega,?_⟩; first | omega | (split <;> omega))
   have he:=Vi (by omega) hh
   rw [he]
   exact .inr ⟨rfl,_,H,rfl,hH,ZN⟩
  refine ZF rfl (Zq rfl (Zk rfl (Yc (Ye (Ze (Zk rfl (Zk rfl (ZE rfl (YJ rfl (YJ rfl (YJ rfl (ZC rfl (Zq rfl (Zk rfl (Yb rfl (Zk rfl (Yb rfl (Yv (r:=.bool _) rfl rfl (Yb rfl (Zk rfl (Yb rfl (Yd (o':=2) rfl rfl rfl (Yb rfl (Ym rfl rfl ZO rfl (Yb rfl (Zr rfl (Yb rfl (Zq rfl (Zq rfl ?_)))))))))))))))))))))))))))))
  refine Yc (Yj rfl (fun h25=>?_) (fun h25=>?_)) <;> simp only [NM] at h25
  ·refine Ze (Yq rfl (Yq rfl (Yc (Yi (⟨_,YH (v:=.pnil) rfl (ZL rfl),?_⟩)))))
   have hh:XI P (m 0) (m 1) (m 2)=false:=VZ (by first | omega | (split <;> omega))
   have he:=Wo (by omega) hh
   rw [he]
   exact .inl ⟨rfl,by decide⟩
  refine Yh (Ze (Zl rfl (Zl rfl (Yq rfl (Yc (Yi (⟨_,YH (v:=.ptr _ _ _) rfl (ZL rfl),?_⟩)))))))
  have hh:XI P (m 0) (m 1) (m 2)=true:=UL (by refine ⟨by omega,by omega,by omega,by omega,?_⟩; first | omega | (split <;> omega))
  have he:=Vi (by omega) hh
  rw [he]
  exact .inr ⟨rfl,_,H,rfl,hH,ZN⟩
 refine ZD rfl (ZC rfl (Yb rfl (Zq rfl (Zq rfl (Yc (ZB rfl (Yh (Ye (Yg (Zy rfl (Ym (x:=P (sqI (m 0))) rfl rfl ZM (hH.k) (Zr rfl (Zk rfl (Ys (t:=85) rfl (fun h26=>?_) (fun h26=>?_))))))))))))))) <;> simp only [NM] at h26
 ·refine Yb rfl (Zz rfl (Yb rfl (Ym rfl rfl ZO rfl (Yb rfl (Yu rfl (TI (by omega)) rfl rfl rfl (Yb rfl (Zz rfl (Yb rfl (Ym (x:=P (sqI (m 0)+1)) rfl rfl ZM (hH.s) (Yb rfl (Zt rfl rfl (Yb rfl (Wn rfl rfl (by omega) (Yb rfl (Zr rfl (Zq rfl (Zk rfl (Yc (Ye (Ze (Zk rfl (Zk rfl (Ys (t:=96) rfl (fun h27=>?_) (fun h27=>?_)))))))))))))))))))))))) <;> simp only [NM] at h27
  ·refine Yb rfl (Yd (o':=2) rfl rfl rfl (Yb rfl (Ym rfl rfl ZO rfl (Yb rfl (Zr rfl (Yb rfl (Zk rfl (Ys (t:=100) rfl (fun h28=>?_) (fun h28=>?_))))))))) <;> simp only [NM] at h28
   ·refine ZD rfl (ZC rfl (Yb rfl (Zq rfl (Zq rfl (Zk rfl (ZD rfl (ZC rfl (YJ rfl (YJ rfl (YJ rfl (ZC rfl (Zq rfl (Yc (ZA rfl (Ze (Yq rfl (Yq rfl (Yc (Yi (⟨_,YH (v:=.pnil) rfl (ZL rfl),?_⟩))))))))))))))))))))
    have hh:XI P (m 0) (m 1) (m 2)=false:=VZ (by first | omega | (split <;> omega))
    have he:=Wo (by omega) hh
    rw [he]
    exact .inl ⟨rfl,by decide⟩
   refine Yb rfl (Yd (o':=2) rfl rfl rfl (Yb rfl (Ym rfl rfl ZO rfl (Yb rfl (Zr rfl (Yb rfl (Zq rfl (Zq rfl (Zk rfl (Ys (t:=106) rfl (fun h29=>?_) (fun h29=>?_))))))))))) <;> simp only [NM] at h29
   ·refine ZD rfl (ZC rfl (YJ rfl (YJ rfl (YJ rfl (ZC rfl (Zq rfl (Yc (ZA rfl (Ze (Yq rfl (Yq rfl (Yc (Yi (⟨_,YH (v:=.pnil) rfl (ZL rfl),?_⟩))))))))))))))
    have hh:XI P (m 0) (m 1) (m 2)=false:=VZ (by first | omega | (split <;> omega))
    have he:=Wo (by omega) hh
    rw [he]
    exact .inl ⟨rfl,by decide⟩
   refine Yb rfl (Zk rfl (Yb rfl (Yv (r:=.bool _) rfl rfl (Yb rfl (Zk rfl (Ys (t:=109) rfl (fun h30=>?_) (fun h30=>?_))))))) <;> simp only [NM] at h30
   ·refine Yb rfl (Yd (o':=2) rfl rfl rfl (Yb rfl (Ym rfl rfl ZO rfl (Yb rfl (Zr rfl (Yb rfl (Zq rfl (Zq rfl (Yc (Yj rfl (fun h31=>?_) (fun h31=>?_))))))))))) <;> simp only [NM] at h31
    ·refine Ze (Yq rfl (Yq rfl (Yc (Yi (⟨_,YH (v:=.pnil) rfl (ZL rfl),?_⟩)))))
     have hh:XI P (m 0) (m 1) (m 2)=false:=VZ (by first | omega | (split <;> omega))
     have he:=Wo (by omega) hh
     rw [he]
     exact .inl ⟨rfl,by decide⟩
    refine Yh (Ze (Zl rfl (Zl rfl (Yq rfl (Yc (Yi (⟨_,YH (v:=.ptr _ _ _) rfl (ZL rfl),?_⟩)))))))
    have hh:XI P (m 0) (m 1) (m 2)=true:=UL (by refine ⟨by omega,by omega,by omega,by omega,?_⟩; first | omega | (split <;> omega))
    have he:=Vi (by omega) hh
    rw [he]
    exact .inr ⟨rfl,_,H,rfl,hH,ZN⟩
   refine ZD rfl (ZC rfl (Yb rfl (Zq rfl (Zq rfl (Yc (ZB rfl (Yh (Ze (Zl rfl (Zl rfl (Yq rfl (Yc (Yi (⟨_,YH (v:=.ptr _ _ _) rfl (ZL rfl),?_⟩))))))))))))))
   have hh:XI P (m 0) (m 1) (m 2)=true:=UL (by refine ⟨by omega,by omega,by omega,by omega,?_⟩; first | omega | (split <;> omega))
   have he:=Vi (by omega) hh
   rw [he]
   exact .inr ⟨rfl,_,H,rfl,hH,ZN⟩
  refine ZE rfl (YJ rfl (YJ rfl (YJ rfl (ZC rfl (Zq rfl (Zk rfl (Yb rfl (Zk rfl (Yb rfl (Yv (r:=.bool _) rfl rfl (Yb rfl (Zk rfl (Ys (t:=109) rfl (fun h32=>?_) (fun h32=>?_)))))))))))))) <;> simp only [NM] at h32
  ·refine Yb rfl (Yd (o':=2) rfl rfl rfl (Yb rfl (Ym rfl rfl ZO rfl (Yb rfl (Zr rfl (Yb rfl (Zq rfl (Zq rfl (Yc (Yj rfl (fun h33=>?_) (fun h33=>?_))))))))))) <;> simp only [NM] at h33
   ·refine Ze (Yq rfl (Yq rfl (Yc (Yi (⟨_,YH (v:=.pnil) rfl (ZL rfl),?_⟩)))))
    have hh:XI P (m 0) (m 1) (m 2)=false:=VZ (by first | omega | (split <;> omega))
    have he:=Wo (by omega) hh
    rw [he]
    exact .inl ⟨rfl,by decide⟩
   refine Yh (Ze (Zl rfl (Zl rfl (Yq rfl (Yc (Yi (⟨_,YH (v:=.ptr _ _ _) rfl (ZL rfl),?_⟩)))))))
   have hh:XI P (m 0) (m 1) (m 2)=true:=UL (by refine ⟨by omega,by omega,by omega,by omega,?_⟩; first | omega | (split <;> omega))
   have he:=Vi (by omega) hh
   rw [he]
   exact .inr ⟨rfl,_,H,rfl,hH,ZN⟩
  refine ZD rfl (ZC rfl (Yb rfl (Zq rfl (Zq rfl (Yc (ZB rfl (Yh (Ze (Zl rfl (Zl rfl (Yq rfl (Yc (Yi (⟨_,YH (v:=.ptr _ _ _) rfl (ZL rfl),?_⟩))))))))))))))
  have hh:XI P (m 0) (m 1) (m 2)=true:=UL (by refine ⟨by omega,by omega,by omega,by omega,?_⟩; first | omega | (split <;> omega))
  have he:=Vi (by omega) hh
  rw [he]
  exact .inr ⟨rfl,_,H,rfl,hH,ZN⟩
 refine ZF rfl (Zq rfl (Zk rfl (Yc (Ye (Ze (Zk rfl (Zk rfl (ZE rfl (YJ rfl (YJ rfl (YJ rfl (ZC rfl (Zq rfl (Zk rfl (Yb rfl (Zk rfl (Yb rfl (Yv (r:=.bool _) rfl rfl (Yb rfl (Zk rfl (Yb rfl (Yd (o':=2) rfl rfl rfl (Yb rfl (Ym rfl rfl ZO rfl (Yb rfl (Zr rfl (Yb rfl (Zq rfl (Zq rfl ?_)))))))))))))))))))))))))))))
 refine Yc (Yj rfl (fun h34=>?_) (fun h34=>?_)) <;> simp only [NM] at h34
 ·refine Ze (Yq rfl (Yq rfl (Yc (Yi (⟨_,YH (v:=.pnil) rfl (ZL rfl),?_⟩)))))
  have hh:XI P (m 0) (m 1) (m 2)=false:=VZ (by first | omega | (split <;> omega))
  have he:=Wo (by omega) hh
  rw [he]
  exact .inl ⟨rfl,by decide⟩
 refine Yh (Ze (Zl rfl (Zl rfl (Yq rfl (Yc (Yi (⟨_,YH (v:=.ptr _ _ _) rfl (ZL rfl),?_⟩)))))))
 have hh:XI P (m 0) (m 1) (m 2)=true:=UL (by refine ⟨by omega,by omega,by omega,by omega,?_⟩; first | omega | (split <;> omega))
 have he:=Vi (by omega) hh
 rw [he]
 exact .inr ⟨rfl,_,H,rfl,hH,ZN⟩
theorem DI {P:Nat->Int} {a t b:Int} (h:Wj P a t b=0):((0<=a/\a < 64)/\(0<=t/\t < 64)/\a≠t)/\XI P a t b=true:=by
 unfold Wj at h
 split at h
 ·rename_i h1
  split at h
  ·rename_i h2; exact ⟨h1,h2⟩
  omega
 omega
theorem D1 {P:Nat->Int} {a t b:Int} (h:XI P a t b=true):P (sqI a+1)=0\/P (sqI a+1)=1:=(of_decide_eq_true h).2.2.2.1
theorem JW:ovA (fun _=>0) 0 133 (fun _=>0)=(fun _=>0:Nat->Int):=by
 funext i
 by_cases h:i < 133
 ·rw [X3 (by omega)]
 rw [Wb (by omega)]
theorem QG {Q:Nat->Int} (h:∀ i,133<=i->Q i=0):ovA (fun _=>0) 0 133 Q=Q:=by
 funext i
 by_cases hi:i < 133
 ·rw [X3 (by omega),Nat.sub_zero]
 rw [Wb (by omega),h i (by omega)]
theorem xi {P:Nat->Int} {k c a t b C:Int} {i:Nat} (hi:133<=i):Uq P k c a t b C i=0:=by
 unfold Uq
 rw [Zcz (by omega),Zcz (by omega),Zcz (by omega),Zcz (by omega),Zcz (by omega),Zcz (by omega)]
theorem Q8 {P:Nat->Int} {a t b:Int} {i:Nat} (hi:133<=i):XV P a t b i=0:=by
 unfold XV
 split
 ·exact xi hi
 rfl
theorem gR {P Q:Nat->Int} {w a t k c b g:Int} (h:∀ i,i < 128->P i=Q i):∀ i,i < 128->VK P w a t k c b g i=VK Q w a t k c b g i:=by
 have h1:∀ i,i < 128->DM P w i=DM Q w i:=by
  unfold DM
  split
  ·exact Uw h fun _ _=>rfl
  exact h
 have h3:∀ i,i < 128->EX P w a t k c b i=EX Q w a t k c b i:=Uw (Uw h1 fun _ _=>rfl) fun _ _=>rfl
 unfold VK
 split
 ·exact Uw (Uw h3 fun _ _=>rfl) fun _ _=>rfl
 split
 ·exact Uw (Uw h3 fun _ _=>rfl) fun _ _=>rfl
 exact h3
theorem uu {P Q:Nat->Int} {k c a t b C:Int} (ha:0<=a/\a < 64) (ht:0<=t/\t < 64) (h:∀ i,i < 133->i≠129->P i=Q i):Uq P k c a t b C=Uq Q k c a t b C:=by
 funext i
 have ht2:Y7 P k a t=Y7 Q k a t:=ye ha ht (fun i hi=>h i (by omega) (by omega)) (h 130 (by omega) (by omega))
 unfold Uq
 rw [ht2]
 by_cases h1:i < 128
 ·rw [ZcA h1,ZcA h1]
  exact gR (fun i hi=>h i (by omega) (by omega)) i h1
 rw [Zcz h1,Zcz h1,h 128 (by omega) (by omega)]
 have hh:Ug P k (Y7 Q k a t)=Ug Q k (Y7 Q k a t):=by unfold Ug; rw [h 131 (by omega) (by omega)]
 have hf:QU P=QU Q:=by unfold QU; rw [h 128 (by omega) (by omega),h 132 (by omega) (by omega)]
 rw [hh,hf]
theorem HandOf.all {P m H:Nat->Int} (h:HandOf P m H):∀ i,i < 133->i≠129->H i=P i:=fun i hi hn=>by
 by_cases hl:i < 129
 ·exact h.lo i hl
 exact h.hi i (by omega) hi
theorem sU {P m H:Nat->Int} (h:HandOf P m H) (he:Wj P (m 0) (m 1) (m 2)=0):ovA (fun _=>0) 0 133 (Uq H (H 136) (H 137) (H 133) (H 134) (H 135) (H 129))=XV P (m 0) (m 1) (m 2):=by
 have ⟨hs,_⟩:=DI he
 rw [QG (fun i hi=>xi hi),h.a,h.t,h.b,h.k,h.s,h.c,XV,ZcA he]
 exact uu hs.1 hs.2.1 h.all
theorem jU (P m:Nat->Int):(Wj P (m 0) (m 1) (m 2)≠0/\RF AM 47 [.agg 133 (ia P),.agg 3 (ia m)] (.tup [.pnil,.s (.int .i64 (Wj P (m 0) (m 1) (m 2)))])) \/
  (Wj P (m 0) (m 1) (m 2)=0/\∃ H,HandOf P m H/\RN AM 47 [.agg 133 (ia P),.agg 3 (ia m)] [] (fun b=>.tup [.ptr b 0 138,.s (.int .i64 0)]) (.sc .var 138 (ia H)) []):=by
 obtain ⟨v,σ',n',L',h1,h2,h3⟩:=oN P m
 rcases h3 with ⟨rfl,he⟩ | ⟨he,b,H,rfl,hH,hm⟩
 ·exact .inl ⟨he,σ',h1⟩
 rw [he] at h1
 exact .inr ⟨he,H,hH,b,σ',h1,Zct _,(h2.2.mem hm).2,trivial⟩
theorem made_ex {P m H:Nat->Int} (h:HandOf P m H) (he:Wj P (m 0) (m 1) (m 2)=0):∃ J,RB AM 50 [.ptr 0 0 138] [.sc .var 138 (ia H)] (.agg 133 (ia (Uq H (H 136) (H 137) (H 133) (H 134) (H 135) (H 129)))) [.sc .var 138 (ia J)]:=by
 have ⟨hs,hc⟩:=DI he
 obtain ⟨v,σ',n',L',h1,h2,J,rfl,hm⟩:=ZaD H (by rw [h.a]; exact hs.1) (by rw [h.t]; exact hs.2.1) (by rw [h.s]; exact D1 hc) (by rw [h.c]; exact EO P)
 exact ⟨J,σ',h1,(h2.2.mem hm).2,⟨_,_,_,rfl⟩,trivial⟩
theorem rt {P m H:Nat->Int} (h:HandOf P m H) (he:Wj P (m 0) (m 1) (m 2)=0):RB AM 48 [.ptr 0 0 138] [.sc .var 138 (ia H)] (.s (.int .i64 (Y7 P (P (sqI (m 0))) (m 0) (m 1)))) [.sc .var 138 (ia H)]:=by
 have ⟨hs,hc⟩:=DI he
 have hr:=V4 (qi (md:=.var) H (by rw [h.a]; exact hs.1) (by rw [h.t]; exact hs.2.1))
 rw [h.a,h.t,h.k,ye hs.1 hs.2.1 (fun i hi=>h.lo i (by omega)) (h.hi 130 (by omega) (by omega))] at hr
 exact hr
theorem qS (P m:Nat->Int):WR AM 23 [.agg 133 (ia P),.agg 3 (ia m)] [] (fun v _ _=>v=.tup [.agg 133 (ia (XV P (m 0) (m 1) (m 2))),.s (.int .i64 (Wj P (m 0) (m 1) (m 2)))]):=by
 refine YL (a:=a23) rfl rfl (YI _) (ZQ rfl) (m:=0) rfl (Ze (YC rfl (YC rfl (Yy (Yq rfl (Zf (Yo rfl rfl ZO (Yo rfl rfl ZN ?_))))))))
 rcases jU P m with ⟨he,hT⟩ | ⟨he,H,hH,hT⟩
 ·refine Yt rfl (hT) rfl rfl rfl (Zo rfl (YD (v:=.pnil) rfl rfl (YD (v:=.s (.int _ _)) rfl rfl (Yq (v:=.pnil) rfl (Zj rfl (Yc (Ye (Ze (Zj rfl (Zr rfl (Yc (Yj rfl (fun h1=>?_) (fun h1=>?_))))))))))))) <;> simp only [NM] at h1
  ·refine Ze (YB rfl .nil (Zj rfl (Yz rfl rfl rfl rfl .here (Zj rfl (Yc (Yi (⟨_,XM rfl rfl ZM (ZL rfl),?_⟩)))))))
   rw [XV,Zcz he]
   exact congrArg (fun g=>V.tup [V.agg 133 (ia g),V.s (.int .i64 (Wj P (m 0) (m 1) (m 2)))]) JW
  exfalso; first | omega | (simp at h1)
 refine KS (mk:=fun b=>.tup [.ptr b 0 138,.s (.int .i64 0)]) (rs:=[]) (Bs:=[]) vu rfl hT rfl rfl (YF rfl) (fun _ h=>h) rfl trivial rfl rfl .nil (Zo rfl (YD (v:=.ptr _ _ _) rfl rfl (YD (v:=.s (.int _ _)) rfl rfl (Zl rfl (Zj rfl (Yc (Ye (Ze (Zj rfl (Zr rfl (Yc (Yj rfl (fun h2=>?_) (fun h2=>?_))))))))))))) <;> simp only [NM] at h2
 ·exfalso; first | omega | (simp at h2)
 refine Yh (Ze (Zl rfl ?_))
 obtain ⟨J,hJ⟩:=made_ex hH he
 refine V7 rfl (hJ) rfl rfl rfl .here (Yz rfl rfl rfl rfl (.there .here) (Yq rfl (Yc (Yi (⟨_,XM rfl rfl ZN (ZL rfl),?_⟩)))))
 rw [he,<- sU hH he]
 rfl
theorem sV (P m:Nat->Int):WR AM 21 [.agg 133 (ia P),.agg 3 (ia m)] [] (fun v _ _=>v=.s (.int .i64 (if Wj P (m 0) (m 1) (m 2)=0 then Y7 P (P (sqI (m 0))) (m 0) (m 1) else -1))):=by
 refine YL (a:=a21) rfl rfl (YI _) (ZQ rfl) (m:=0) rfl (Ze (YC rfl (YC rfl (Yq rfl (Zf (Yo rfl rfl ZN (Yo rfl rfl ZM ?_)))))))
 rcases jU P m with ⟨he,hT⟩ | ⟨he,H,hH,hT⟩
 ·refine Yt rfl (hT) rfl rfl rfl (Zo rfl (YD (v:=.pnil) rfl rfl (YD (v:=.s (.int _ _)) rfl rfl (Yq (v:=.pnil) rfl (Zj rfl (Yc (Ye (Ze (Zj rfl (Zr rfl (Yc (Yj rfl (fun h3=>?_) (fun h3=>?_))))))))))))) <;> simp only [NM] at h3
  ·refine Ze (Yq rfl (Yc (Yi (⟨_,ZL rfl,?_⟩))))
   rw [Zcz he]
   rfl
  exfalso; first | omega | (simp at h3)
 refine KS (mk:=fun b=>.tup [.ptr b 0 138,.s (.int .i64 0)]) (rs:=[]) (Bs:=[]) vu rfl hT rfl rfl (YF rfl) (fun _ h=>h) rfl trivial rfl rfl .nil (Zo rfl (YD (v:=.ptr _ _ _) rfl rfl (YD (v:=.s (.int _ _)) rfl rfl (Zl rfl (Zj rfl (Yc (Ye (Ze (Zj rfl (Zr rfl (Yc (Yj rfl (fun h4=>?_) (fun h4=>?_))))))))))))) <;> simp only [NM] at h4
 ·exfalso; first | omega | (simp at h4)
 refine Yh (Ze (Zl rfl (V7 rfl (rt hH he) rfl rfl rfl .here (Zj rfl (Yc (Yi (⟨_,ZL rfl,?_⟩)))))))
 rw [ZcA he]
 rfl
theorem gE {P m:Nat->Int} (he:Wj P (m 0) (m 1) (m 2)=0):RF AM 28 [.agg 133 (ia P),.agg 3 (ia m)] (.s (.int .i64 (Y7 P (P (sqI (m 0))) (m 0) (m 1)))):=by
 have h:=YP (tP P m)
 rw [ZcA he] at h
 exact h
theorem uh {P m:Nat->Int}:RF AM 62 [.s (.int .i64 (Vo (W7 P) (Xx (m 0)))),.s (.int .i64 (Xx (m 1)))] (.s (.int .i64 (VQ (W7 P) (orM (orM 0 (Xx (m 0))) (Xx (m 1)))))):=by
 have h:=YP (yg (Vo (W7 P) (Xx (m 0))) (Xx (m 1)) (zU _ _) (jR _))
 rw [sb (EO P)] at h
 exact h
structure SameP (P J B:Nat->Int):Prop where
 lo:∀ i,i < 128->J i=B i
 hi:∀ i,128<=i->i < 133->J i=P i
theorem SameP.put {P J B X Y:Nat->Int} {t:Int} (j:SameP P J B) (ht:0<=t/\t < 64) (hx:∀ i,i < 2->X i=Y i):SameP P (ovA J (0+t.toNat*2) 2 X) (ovA B (sqI t) 2 Y) :=
 ⟨Uw j.lo hx,fun i h1 h2=>by rw [Wb (by omega)]; exact j.hi i h1 h2⟩
theorem SameP.kind {P J B X Y:Nat->Int} {t b:Int} (j:SameP P (ovA J (0+t.toNat*2) 2 X) (ovA B (sqI t) 2 X)) (ht:0<=t/\t < 64) (h0:Y 0=b) (h1:Y 1=X 1):SameP P (ov (ovA J (0+t.toNat*2) 2 X) (0+t.toNat*2+0) b) (ovA B (sqI t) 2 Y):=by
 have hsq:sqI t=0+t.toNat*2:=rfl
 refine ⟨fun i hi=>?_,fun i h1 h2=>by rw [XF (by omega)]; exact j.hi i h1 h2⟩
 have hj:=j.lo i hi
 by_cases q:i=0+t.toNat*2+0
 ·subst q
  rw [X3 (by omega),show 0+t.toNat*2+0 - sqI t=0 from by show 0+t.toNat*2+0 - (0+t.toNat*2)=0; omega,h0]
  show (bif Nat.beq _ _ then b else _)=b
  rw [show Nat.beq (0+t.toNat*2+0) (0+t.toNat*2+0)=true from by simp]
  rfl
 rw [XF q,hj]
 by_cases r:sqI t<=i/\i < sqI t+2
 ·have e:i - sqI t=1:=by
   have:sqI t=0+t.toNat*2:=rfl
   omega
  rw [X3 r,X3 r,e,h1]
 rw [Wb (by omega),Wb (by omega)]
structure DoneP (P J B:Nat->Int) (s cs ovr hf fl:Int):Prop where
 lo:∀ i,i < 128->J i=B i
 s:J 128=s
 c:J 129=cs
 o:J 130=ovr
 h:J 131=hf
 f:J 132=fl
theorem gN {P J:Nat->Int} {k c a t b C:Int} (h:DoneP P J (VK P (Y7 P k a t) a t k c b (Y3 k a t c C)) (XT (P 128)) (VQ C (orM (orM 0 (Xx a)) (Xx t))) (Uz k a t c) (Ug P k (Y7 P k a t)) (QU P)):ovA (fun _=>0) 0 133 J=Uq P k c a t b C:=by
 funext i
 unfold Uq
 by_cases hi:i < 133
 ·rw [X3 (by omega),Nat.sub_zero]
  by_cases h1:i < 128
  ·rw [ZcA h1]; exact h.lo i h1
  rw [Zcz h1]
  have hc:i=128\/i=129\/i=130\/i=131\/i=132:=by omega
  rcases hc with rfl | rfl | rfl | rfl | rfl
  ·exact h.s
  ·exact h.c
  ·exact h.o
  ·exact h.h
  exact h.f
 rw [Wb (by omega),Zcz (by omega),Zcz (by omega),Zcz (by omega),Zcz (by omega),Zcz (by omega),Zcz (by omega)]
theorem Ew (P m:Nat->Int):WR AM 30 [.agg 133 (ia P),.agg 3 (ia m)] [] (fun v _ _=>v=.tup [.agg 133 (ia (XV P (m 0) (m 1) (m 2))),.s (.int .i64 (Wj P (m 0) (m 1) (m 2)))]):=by
 refine YL (a:=a30) rfl rfl (YI _) (ZQ rfl) (m:=0) rfl (Ze (YC rfl (YC rfl (Yy (Yq rfl (Yc (Ye (Ze (Zy rfl (Ym rfl rfl ZN rfl (Yt rfl (YP (zo _)) rfl rfl rfl (Yv (r:=.bool _) rfl rfl (Zk rfl (Ys (t:=13) rfl (fun h5=>?_) (fun h5=>?_))))))))))))))) <;> simp only [NM] at h5
 ·try simp only [isM,Zb7,ZbJ] at h5
  refine ZE rfl (Zq rfl (Zk rfl (ZE rfl (ZC rfl (Zq rfl (Yc (ZA rfl (Ze (YB rfl .nil (Yz rfl rfl rfl rfl .here (Yq rfl (Yc (Yi (⟨_,XM rfl rfl ZM (ZL rfl),?_⟩))))))))))))))
  have h6:=UD (P:=P) (a:=m 0) (t:=m 1) (b:=m 2) (by omega)
  rw [XV,h6,Zcz (by decide)]
  exact congrArg (fun g=>V.tup [V.agg 133 (ia g),V.s (.int .i64 6)]) JW
 try simp only [isM,Zb7,ZbJ] at h5
 refine Yb rfl (Zz rfl (Yb rfl (Ym rfl rfl ZN rfl (Yb rfl (Yt rfl (YP (zo _)) rfl rfl rfl (Yb rfl (Yv (r:=.bool _) rfl rfl (Zq rfl (Zk rfl (Ys (t:=19) rfl (fun h6=>?_) (fun h6=>?_))))))))))) <;> simp only [NM] at h6
 ·try simp only [isM,Zb7,ZbJ] at h6
  refine ZE rfl (ZC rfl (Zq rfl (Yc (ZA rfl (Ze (YB rfl .nil (Yz rfl rfl rfl rfl .here (Yq rfl (Yc (Yi (⟨_,XM rfl rfl ZM (ZL rfl),?_⟩)))))))))))
  have h6:=UD (P:=P) (a:=m 0) (t:=m 1) (b:=m 2) (by omega)
  rw [XV,h6,Zcz (by decide)]
  exact congrArg (fun g=>V.tup [V.agg 133 (ia g),V.s (.int .i64 6)]) JW
 try simp only [isM,Zb7,ZbJ] at h6
 refine Yb rfl (Zy rfl (Yb rfl (Ym rfl rfl ZN rfl (Yb rfl (Zz rfl (Yb rfl (Ym rfl rfl ZN rfl (Yb rfl (Zr rfl (Zq rfl (Yc (Yj rfl (fun h7=>?_) (fun h7=>?_))))))))))))) <;> simp only [NM] at h7
 ·refine Ze (YB rfl .nil (Yz rfl rfl rfl rfl .here (Yq rfl (Yc (Yi (⟨_,XM rfl rfl ZM (ZL rfl),?_⟩))))))
  have h6:=UD (P:=P) (a:=m 0) (t:=m 1) (b:=m 2) (by omega)
  rw [XV,h6,Zcz (by decide)]
  exact congrArg (fun g=>V.tup [V.agg 133 (ia g),V.s (.int .i64 6)]) JW
 refine Yh (Ye (Ze (Yo rfl rfl ZO (Yo rfl rfl ZN (Yt rfl (YP (kK _ _ (by assumption) (by assumption))) rfl rfl rfl (Yv (r:=.bool _) rfl rfl (Yc (Yj rfl (fun h8=>?_) (fun h8=>?_))))))))) <;> simp only [NM] at h8
 ·refine Ze (YB rfl .nil (Yz rfl rfl rfl rfl .here (Yq rfl (Yc (Yi (⟨_,XM rfl rfl ZM (ZL rfl),?_⟩))))))
  have h8:=Wo (P:=P) (a:=m 0) (t:=m 1) (b:=m 2) ⟨by assumption,by assumption,by assumption⟩ (by assumption)
  rw [XV,h8,Zcz (by decide)]
  exact congrArg (fun g=>V.tup [V.agg 133 (ia g),V.s (.int .i64 8)]) JW
 refine Yh (Ze (Zy rfl (Ym rfl rfl ZN rfl (Zy rfl ?_))))
 refine Vr rfl rfl rfl (by first | omega | (have:=hca (by omega); omega)) ?_
 refine Yp rfl rfl ZO (Yy (Yz rfl rfl rfl rfl .here (Zf (Yo rfl rfl ZP (Yy (Yz rfl rfl rfl rfl .here (Zf (Yo rfl rfl (.tail _ ZP) (Yo rfl rfl ZP ?_)))))))))
 have hs:(0<=m 0/\m 0 < 64)/\(0<=m 1/\m 1 < 64)/\m 0≠m 1:=⟨by assumption,by assumption,by assumption⟩
 have hcan:XI P (m 0) (m 1) (m 2)=true:=by assumption
 have he:=Vi hs hcan
 have hb:=VY (P:=P) (k:=(P (sqI (m 0)))) hs.1 hs.2.1
 refine Yt rfl (gE he) rfl rfl rfl (Zj rfl (Yc (Wz (fun f n L=>∃ (X J:Nat->Int),(Wj P (m 0) (m 1) (m 2)=0)/\(0<=m 0/\m 0 < 64)/\(0<=m 1/\m 1 < 64)/\((P (sqI (m 0)+1))=0\/(P (sqI (m 0)+1))=1)/\(X 0=(P (sqI (m 0))))/\(X 1=(P (sqI (m 0)+1)))/\(SameP P J (DM P (Y7 P (P (sqI (m 0))) (m 0) (m 1))))/\(f 2=.ptr 0 0 133)/\(f 3=.ptr 1 0 3)/\(f 4=.ptr 2 0 133)/\(f 6=.ptr 3 0 2)/\(f 7=.ptr 4 0 133)/\(f 8=.s (.int .i64 (Y7 P (P (sqI (m 0))) (m 0) (m 1))))/\(L=[(4,.sc .var 133 (ia J)),(3,.sc .var 2 (ia X)),(2,.sc .var 133 (ia fun _=>0)),(1,.sc .var 3 (ia m)),(0,.sc .var 133 (ia P))])/\(n=5)) ?_ (fun f nb L hI=>?_))))
 ·refine Ze (Zj rfl (Zr rfl (Yc (Yj rfl (fun h9=>?_) (fun h9=>?_))))) <;> simp only [NM] at h9
  ·refine Yf (Zj rfl (YB rfl .nil (Zy rfl ?_)))
   refine Vr rfl rfl rfl (by first | omega | (have:=hca (by omega); omega)) ?_
   refine Yz rfl rfl rfl rfl .here (Yc (⟨_,(.refl _),_,_,he,hs.1,hs.2.1,D1 hcan,?_,?_,?_,rfl,rfl,rfl,rfl,rfl,rfl,rfl,rfl⟩))
   · rfl
   · rfl
   have h0 : SameP P (ovA (fun _ => 0) 0 133 P) P := ⟨fun i hi => by rw [X3 (by omega), Nat.sub_zero], fun i _ hi => by rw [X3 (by omega), Nat.sub_zero]⟩
   have hb:=VY (P:=P) (k:=(P (sqI (m 0)))) hs.1 hs.2.1
   rw [DM]
   (rw [ZcA (by assumption)]; exact h0.put (by omega) (fun _ _=>rfl))
  refine Yh (⟨_,(.refl _),_,_,he,hs.1,hs.2.1,D1 hcan,?_,?_,?_,rfl,rfl,rfl,rfl,rfl,rfl,rfl,rfl⟩)
  · rfl
  · rfl
  have h0 : SameP P (ovA (fun _ => 0) 0 133 P) P := ⟨fun i hi => by rw [X3 (by omega), Nat.sub_zero], fun i _ hi => by rw [X3 (by omega), Nat.sub_zero]⟩
  have hb:=VY (P:=P) (k:=(P (sqI (m 0)))) hs.1 hs.2.1
  rw [DM]
  (rw [Zcz (by omega)]; exact h0)
 obtain ⟨X,J,he,ha,ht,hc,hx0,hx1,hJ,k2,k3,k4,k6,k7,k8,rfl,rfl⟩:=hI
 refine Za 2 k2 (Za 3 k3 (Za 4 k4 (Za 6 k6 (Za 7 k7 (Za 8 k8 ?_)))))
 have hb:=VY (P:=P) (k:=(P (sqI (m 0)))) ha ht
 refine Ze (Zy rfl (Ym rfl rfl ZP rfl (YB rfl .nil (Zy rfl ?_))))
 refine Vr rfl rfl rfl (by first | omega | (have:=hca (by omega); omega)) ?_
 refine Yz rfl rfl rfl rfl .here (Zf (Zz rfl (Ym rfl rfl ZP rfl (Yo rfl rfl ZN (Zy rfl ?_)))))
 refine Vr rfl rfl rfl (by first | omega | (have:=hca (by omega); omega)) ?_
 refine Yz rfl rfl rfl rfl .here (Yc (Wz (fun f n L=>∃ (J:Nat->Int),(SameP P J (EX P (Y7 P (P (sqI (m 0))) (m 0) (m 1)) (m 0) (m 1) (P (sqI (m 0))) (P (sqI (m 0)+1)) (m 2)))/\(f 2=.ptr 0 0 133)/\(f 3=.ptr 1 0 3)/\(f 4=.ptr 2 0 133)/\(f 6=.ptr 3 0 2)/\(f 7=.ptr 4 0 133)/\(f 8=.s (.int .i64 (Y7 P (P (sqI (m 0))) (m 0) (m 1))))/\(L=[(4,.sc .var 133 (ia J)),(3,.sc .var 2 (ia X)),(2,.sc .var 133 (ia fun _=>0)),(1,.sc .var 3 (ia m)),(0,.sc .var 133 (ia P))])/\(n=5)) ?_ (fun f nb L hI=>?_)))
 ·refine Ze (Yd (o':=2) rfl rfl rfl (Ym rfl rfl ZP rfl (Zr rfl (Yc (Yj rfl (fun h10=>?_) (fun h10=>?_)))))) <;> simp only [NM] at h10
  ·refine Yf (Zz rfl (Ym rfl rfl ZP rfl (Yd (o':=2) rfl rfl rfl (Ym rfl rfl ZP rfl (Zy rfl ?_)))))
   refine Vr rfl rfl rfl (by first | omega | (have:=hca (by omega); omega)) ?_
   refine Yd rfl rfl rfl (YA rfl rfl rfl rfl .here (Yc (⟨_,(.refl _),_,?_,rfl,rfl,rfl,rfl,rfl,rfl,rfl,rfl⟩)))
   have h2:=(hJ.put (X:=fun _=>0) (Y:=yW) ha (fun _ _=>rfl)).put (X:=X) (Y:=X) ht (fun _ _=>rfl)
   exact h2.kind (Y:=pc (if m 2=0 then (P (sqI (m 0))) else m 2) (P (sqI (m 0)+1))) ht (show (if m 2=0 then (P (sqI (m 0))) else m 2)=m 2 from Zcz (by assumption)) hx1.symm
  refine Yh (⟨_,(.refl _),_,?_,rfl,rfl,rfl,rfl,rfl,rfl,rfl,rfl⟩)
  have h2:=(hJ.put (X:=fun _=>0) (Y:=yW) ha (fun _ _=>rfl)).put (X:=X) (Y:=X) ht (fun _ _=>rfl)
  exact (hJ.put (X:=fun _=>0) (Y:=yW) ha (fun _ _=>rfl)).put (X:=X) ht (two (Y:=pc (if m 2=0 then (P (sqI (m 0))) else m 2) (P (sqI (m 0)+1))) (hx0.trans (ZcA (by assumption)).symm) hx1)
 obtain ⟨J,hJ,k2,k3,k4,k6,k7,k8,rfl,rfl⟩:=hI
 refine Za 2 k2 (Za 3 k3 (Za 4 k4 (Za 6 k6 (Za 7 k7 (Za 8 k8 ?_)))))
 have hb:=VY (P:=P) (k:=(P (sqI (m 0)))) ha ht
 refine Wz (fun f n L=>∃ (J:Nat->Int),(SameP P J (VK P (Y7 P (P (sqI (m 0))) (m 0) (m 1)) (m 0) (m 1) (P (sqI (m 0))) (P (sqI (m 0)+1)) (m 2) (Y3 (P (sqI (m 0))) (m 0) (m 1) (P (sqI (m 0)+1)) (W7 P))))/\(f 2=.ptr 0 0 133)/\(f 3=.ptr 1 0 3)/\(f 4=.ptr 2 0 133)/\(f 6=.ptr 3 0 2)/\(f 7=.ptr 4 0 133)/\(f 8=.s (.int .i64 (Y7 P (P (sqI (m 0))) (m 0) (m 1))))/\(L=[(4,.sc .var 133 (ia J)),(3,.sc .var 2 (ia X)),(2,.sc .var 133 (ia fun _=>0)),(1,.sc .var 3 (ia m)),(0,.sc .var 133 (ia P))])/\(n=5)) ?_ (fun f nb L hI=>?_)
 ·refine Ze (Yo rfl rfl (.tail _ ZP) (Yo rfl rfl ZP ?_))
  have hca:=TY (k:=(P (sqI (m 0)))) (a:=m 0) (t:=m 1) (c:=(P (sqI (m 0)+1))) (C:=W7 P)
  refine Yt rfl (YP (jn P m hc ha ht)) rfl rfl rfl ?_
  obtain ⟨g,hg⟩:∃ g,g=(Y3 (P (sqI (m 0))) (m 0) (m 1) (P (sqI (m 0)+1)) (W7 P)):=⟨_,rfl⟩
  rw [<- hg] at hca ⊢
  refine Yc (Yk (Ze (Zr rfl (Zk rfl (Yc (Yj rfl (fun h11=>?_) (fun h11=>?_))))))) <;> simp only [NM] at h11
  ·refine Ze (Zy rfl (Ym rfl rfl ZP rfl ?_))
   refine Ur rfl rfl (by first | omega | (have:=hca (by omega); omega)) ?_
   refine YB rfl .nil (Zy rfl ?_)
   refine Vr rfl rfl rfl (by first | omega | (have:=hca (by omega); omega)) ?_
   refine Yz rfl rfl rfl rfl .here (Yc (Yf (Zy rfl (Ym rfl rfl ZP rfl ?_))))
   refine Ur rfl rfl (by first | omega | (have:=hca (by omega); omega)) ?_
   refine Zz rfl (Ym (x:=X 1) rfl rfl ZN (rfl) (YB rfl (.one rfl (.one rfl .nil)) (Zy rfl ?_)))
   refine Vr rfl rfl rfl (by first | omega | (have:=hca (by omega); omega)) ?_
   refine Yz rfl rfl rfl rfl .here (Yc (⟨_,(.refl _),_,?_,rfl,rfl,rfl,rfl,rfl,rfl,rfl,rfl⟩))
   rw [VK]
   (rw [ZcA (by assumption)]; exact (hJ.put (by omega) (fun _ _=>rfl)).put (by omega) (two rfl hx1))
  refine Ze (Zr rfl (Zk rfl (Yc (Yj rfl (fun h12=>?_) (fun h12=>?_))))) <;> simp only [NM] at h12
  ·refine Ze (Zy rfl (Ym rfl rfl ZP rfl ?_))
   refine jJ rfl rfl (by first | omega | (have:=hca (by omega); omega)) ?_
   refine YB rfl .nil (Zy rfl ?_)
   refine Vr rfl rfl rfl (by first | omega | (have:=hca (by omega); omega)) ?_
   refine Yz rfl rfl rfl rfl .here (Yc (Yf (Zy rfl (Ym rfl rfl ZP rfl ?_))))
   refine jJ rfl rfl (by first | omega | (have:=hca (by omega); omega)) ?_
   refine Zz rfl (Ym (x:=X 1) rfl rfl ZN (rfl) (YB rfl (.one rfl (.one rfl .nil)) (Zy rfl ?_)))
   refine Vr rfl rfl rfl (by first | omega | (have:=hca (by omega); omega)) ?_
   refine Yz rfl rfl rfl rfl .here (Yc (⟨_,(.refl _),_,?_,rfl,rfl,rfl,rfl,rfl,rfl,rfl,rfl⟩))
   rw [VK]
   (rw [Zcz (by assumption),ZcA (by assumption)]; exact (hJ.put (by omega) (fun _ _=>rfl)).put (by omega) (two rfl hx1))
  refine Yh (⟨_,(.refl _),_,?_,rfl,rfl,rfl,rfl,rfl,rfl,rfl,rfl⟩)
  rw [VK]
  (rw [Zcz (by assumption),Zcz (by assumption)]; exact hJ)
 obtain ⟨J,hJ,k2,k3,k4,k6,k7,k8,rfl,rfl⟩:=hI
 refine Za 2 k2 (Za 3 k3 (Za 4 k4 (Za 6 k6 (Za 7 k7 (Za 8 k8 (Ze (Yd (o':=128) rfl rfl rfl (Ym (x:=P 128) rfl rfl (.tail _ ZP) (rfl) (Yt rfl (YP (sT _)) rfl rfl rfl (Yd (o':=128) rfl rfl rfl (YA rfl rfl rfl rfl .here (Yc (Ye (Yg (Yo rfl rfl (.tail _ ZP) (Yu rfl (YP (VG _)) rfl rfl rfl (Zy rfl (Ym rfl rfl ZP rfl (Yu rfl (YP (w9 _)) rfl rfl rfl (Yu rfl (YP (yg _ _ (EO P) (jR _))) rfl rfl rfl (Zz rfl (Ym rfl rfl ZP rfl (Yt rfl (YP (w9 _)) rfl rfl rfl (Yt rfl (uh) rfl rfl rfl (Yd (o':=129) rfl rfl rfl (YA rfl rfl rfl rfl .here (Zf (Yd (o':=130) rfl rfl rfl (YA rfl rfl rfl rfl .here ?_)))))))))))))))))))))))))))))
 refine Yc (Wz (fun f n L=>∃ (J:Nat->Int),(DoneP P J (VK P (Y7 P (P (sqI (m 0))) (m 0) (m 1)) (m 0) (m 1) (P (sqI (m 0))) (P (sqI (m 0)+1)) (m 2) (Y3 (P (sqI (m 0))) (m 0) (m 1) (P (sqI (m 0)+1)) (W7 P))) (XT (P 128)) (VQ (W7 P) (orM (orM 0 (Xx (m 0))) (Xx (m 1)))) (Uz (P (sqI (m 0))) (m 0) (m 1) (P (sqI (m 0)+1))) (P 131) (P 132))/\(f 2=.ptr 0 0 133)/\(f 3=.ptr 1 0 3)/\(f 4=.ptr 2 0 133)/\(f 6=.ptr 3 0 2)/\(f 7=.ptr 4 0 133)/\(f 8=.s (.int .i64 (Y7 P (P (sqI (m 0))) (m 0) (m 1))))/\(L=[(4,.sc .var 133 (ia J)),(3,.sc .var 2 (ia X)),(2,.sc .var 133 (ia fun _=>0)),(1,.sc .var 3 (ia m)),(0,.sc .var 133 (ia P))])/\(n=5)) ?_ (fun f nb L hI=>?_))
 ·refine Ze (Yo rfl rfl ZN (Yo rfl rfl ZP (Yt rfl (YP (pa X m (by rw [hx1]; exact hc) ha ht)) rfl rfl rfl (Yc (Yj rfl (fun h13=>?_) (fun h13=>?_))))))
  ·refine Yf (Zy rfl (Ym rfl rfl ZP rfl (Zz rfl (Ym rfl rfl ZP rfl ?_))))
   refine Ur rfl rfl (by first | omega | (have:=hca (by omega); omega)) ?_
   refine py rfl rfl (by first | omega | (have:=hca (by omega); omega)) ?_
   refine Yd (o':=130) rfl rfl rfl (YA rfl rfl rfl rfl .here (Yc (⟨_,(.refl _),_,?_,rfl,rfl,rfl,rfl,rfl,rfl,rfl,rfl⟩)))
   refine ⟨(by intro i hi; (repeat rw [XF (by omega)]); exact hJ.lo i hi),rfl,rfl,?_,hJ.hi 131 (by omega) (by omega),hJ.hi 132 (by omega) (by omega)⟩
   rw [Uz,<- hx0,<- hx1]
   (rw [ZcA (by assumption)]; rfl)
  refine Yh (⟨_,(.refl _),_,?_,rfl,rfl,rfl,rfl,rfl,rfl,rfl,rfl⟩)
  refine ⟨(by intro i hi; (repeat rw [XF (by omega)]); exact hJ.lo i hi),rfl,rfl,?_,hJ.hi 131 (by omega) (by omega),hJ.hi 132 (by omega) (by omega)⟩
  rw [Uz,<- hx0,<- hx1]
  (rw [Zcz (Bool.eq_false_iff.1 (by assumption))]; rfl)
 obtain ⟨J,hD,k2,k3,k4,k6,k7,k8,rfl,rfl⟩:=hI
 refine Za 2 k2 (Za 3 k3 (Za 4 k4 (Za 6 k6 (Za 7 k7 (Za 8 k8 (Ze (Yd (o':=131) rfl rfl rfl (Ym (x:=P 131) rfl rfl (.tail _ ZP) (rfl) (Dw rfl rfl (Yr rfl rfl rfl (Yd (o':=131) rfl rfl rfl (YA rfl rfl rfl rfl .here (Yc (Wz (fun f n L=>∃ (J:Nat->Int),(DoneP P J (VK P (Y7 P (P (sqI (m 0))) (m 0) (m 1)) (m 0) (m 1) (P (sqI (m 0))) (P (sqI (m 0)+1)) (m 2) (Y3 (P (sqI (m 0))) (m 0) (m 1) (P (sqI (m 0)+1)) (W7 P))) (XT (P 128)) (VQ (W7 P) (orM (orM 0 (Xx (m 0))) (Xx (m 1)))) (Uz (P (sqI (m 0))) (m 0) (m 1) (P (sqI (m 0)+1))) (Ug P (P (sqI (m 0))) (Y7 P (P (sqI (m 0))) (m 0) (m 1))) (P 132))/\(f 2=.ptr 0 0 133)/\(f 3=.ptr 1 0 3)/\(f 4=.ptr 2 0 133)/\(f 6=.ptr 3 0 2)/\(f 7=.ptr 4 0 133)/\(f 8=.s (.int .i64 (Y7 P (P (sqI (m 0))) (m 0) (m 1))))/\(L=[(4,.sc .var 133 (ia J)),(3,.sc .var 2 (ia X)),(2,.sc .var 133 (ia fun _=>0)),(1,.sc .var 3 (ia m)),(0,.sc .var 133 (ia P))])/\(n=5)) ?_ (fun f nb L hI=>?_)))))))))))))))
 ·refine Ze (Zy rfl (Ym (x:=(P (sqI (m 0)))) rfl rfl ZN (hx0) (Zr rfl (Zk rfl (Ys (t:=136) rfl (fun h14=>?_) (fun h14=>?_)))))) <;> simp only [NM] at h14
  ·refine ZD rfl (Zq rfl (Yc (ZA rfl (Yf (Yd (o':=131) rfl rfl rfl (YA rfl rfl rfl rfl .here (Yc (⟨_,(.refl _),_,?_,rfl,rfl,rfl,rfl,rfl,rfl,rfl,rfl⟩))))))))
   refine ⟨(by intro i hi; (repeat rw [XF (by omega)]); exact hD.lo i hi),hD.s,hD.c,hD.o,?_,hD.f⟩
   rw [Ug]
   (rw [ZcA (.inl (by assumption))]; rfl)
  refine Yb rfl (Zj rfl (Yb rfl (Zr rfl (Zq rfl (Yc (Yj rfl (fun h15=>?_) (fun h15=>?_))))))) <;> simp only [NM] at h15
  ·refine Yf (Yd (o':=131) rfl rfl rfl (YA rfl rfl rfl rfl .here (Yc (⟨_,(.refl _),_,?_,rfl,rfl,rfl,rfl,rfl,rfl,rfl,rfl⟩))))
   refine ⟨(by intro i hi; (repeat rw [XF (by omega)]); exact hD.lo i hi),hD.s,hD.c,hD.o,?_,hD.f⟩
   rw [Ug]
   (rw [ZcA (.inr (by assumption))]; rfl)
  refine Yh (⟨_,(.refl _),_,?_,rfl,rfl,rfl,rfl,rfl,rfl,rfl,rfl⟩)
  refine ⟨(by intro i hi; (repeat rw [XF (by omega)]); exact hD.lo i hi),hD.s,hD.c,hD.o,?_,hD.f⟩
  rw [Ug]
  (rw [Zcz (by omega)]; rfl)
 obtain ⟨J,hD,k2,k3,k4,k6,k7,k8,rfl,rfl⟩:=hI
 refine Za 2 k2 (Za 3 k3 (Za 4 k4 (Za 6 k6 (Za 7 k7 (Za 8 k8 (Wz (fun f n L=>∃ (J:Nat->Int),(DoneP P J (VK P (Y7 P (P (sqI (m 0))) (m 0) (m 1)) (m 0) (m 1) (P (sqI (m 0))) (P (sqI (m 0)+1)) (m 2) (Y3 (P (sqI (m 0))) (m 0) (m 1) (P (sqI (m 0)+1)) (W7 P))) (XT (P 128)) (VQ (W7 P) (orM (orM 0 (Xx (m 0))) (Xx (m 1)))) (Uz (P (sqI (m 0))) (m 0) (m 1) (P (sqI (m 0)+1))) (Ug P (P (sqI (m 0))) (Y7 P (P (sqI (m 0))) (m 0) (m 1))) (QU P))/\(f 2=.ptr 0 0 133)/\(f 3=.ptr 1 0 3)/\(f 4=.ptr 2 0 133)/\(f 6=.ptr 3 0 2)/\(f 7=.ptr 4 0 133)/\(f 8=.s (.int .i64 (Y7 P (P (sqI (m 0))) (m 0) (m 1))))/\(L=[(4,.sc .var 133 (ia J)),(3,.sc .var 2 (ia X)),(2,.sc .var 133 (ia fun _=>0)),(1,.sc .var 3 (ia m)),(0,.sc .var 133 (ia P))])/\(n=5)) ?_ (fun f nb L hI=>?_)))))))
 ·refine Ze (Yd (o':=128) rfl rfl rfl (Ym (x:=P 128) rfl rfl (.tail _ ZP) (rfl) (Zr rfl (Yc (Yj rfl (fun h16=>?_) (fun h16=>?_)))))) <;> simp only [NM] at h16
  ·refine Yf (Yd (o':=132) rfl rfl rfl (Ym (x:=P 132) rfl rfl (.tail _ ZP) (rfl) (Dw rfl rfl (Yr rfl rfl rfl (Yd (o':=132) rfl rfl rfl (YA rfl rfl rfl rfl .here (Yc (⟨_,(.refl _),_,?_,rfl,rfl,rfl,rfl,rfl,rfl,rfl,rfl⟩))))))))
   refine ⟨(by intro i hi; (repeat rw [XF (by omega)]); exact hD.lo i hi),hD.s,hD.c,hD.o,hD.h,?_⟩
   rw [QU]
   (rw [ZcA (by assumption)]; rfl)
  refine Yh (⟨_,(.refl _),_,?_,rfl,rfl,rfl,rfl,rfl,rfl,rfl,rfl⟩)
  refine ⟨(by intro i hi; (repeat rw [XF (by omega)]); exact hD.lo i hi),hD.s,hD.c,hD.o,hD.h,?_⟩
  rw [QU]
  (rw [Zcz (by assumption)]; exact hD.f)
 obtain ⟨J,hD,k2,k3,k4,k6,k7,k8,rfl,rfl⟩:=hI
 refine Za 2 k2 (Za 3 k3 (Za 4 k4 (Za 6 k6 (Za 7 k7 (Za 8 k8 (Ze (Yo rfl rfl ZM (Yz rfl rfl rfl rfl (.there (.there .here)) (Yq rfl (Yc (Yi (⟨_,XM rfl rfl ZO (ZL rfl),?_⟩))))))))))))
 rw [XV,he,ZcA rfl,<- gN hD]
 rfl
def Jc (P:Nat->Int) (a t:Int):Bool:=decide (P (sqI a)=6/\(t - a=2\/t - a=-2))
def jq (P:Nat->Int) (l:List Int):Bool:=!(l.any (QM P (XT (P 128))))
def Vn (P:Nat->Int):Bool:=QJ P&&!WU P (XT (P 128))
theorem vr (P m:Nat->Int) (ha:0<=m 0/\m 0 < 64) (ht:0<=m 1/\m 1 < 64):WR AM 101 [.agg 133 (ia P),.agg 3 (ia m)] [] (fun v _ _=>v=.s (.bool (Jc P (m 0) (m 1)))):=by
 refine YL (a:=a101) rfl rfl (YI _) (ZQ rfl) (m:=0) rfl (Ze (YC rfl (YC rfl (Yq rfl (Zf (Zz rfl (Ym rfl rfl ZM rfl (Zy rfl (Ym rfl rfl ZM rfl (Zt rfl rfl (Zj rfl (Zf (Zy rfl (Ym rfl rfl ZM rfl (Zy rfl (Zy rfl (Zw rfl rfl rfl (Yd rfl rfl rfl (Ym (x:=P (sqI (m 0))) rfl rfl ZN (congrArg P (by have hq:sqI (m 0)=0+(m 0).toNat*2:=rfl; omega)) (Zr rfl (Zk rfl (Ys (t:=19) rfl (fun h1=>?_) (fun h1=>?_))))))))))))))))))))))) <;> simp only [NM] at h1
 ·refine Yb rfl (Zj rfl (Yb rfl (Zr rfl (Yb rfl (Zk rfl (Ys (t:=22) rfl (fun h2=>?_) (fun h2=>?_))))))) <;> simp only [NM] at h2
  ·refine ZD rfl (Yb rfl (Zq rfl (Zq rfl (Zk rfl (Zg rfl ?_)))))
   unfold Jc
   (rw [Zcl (by omega)]; rfl)
  refine Yb rfl (Zj rfl (Yb rfl (Zr rfl (Yb rfl (Zq rfl (Zq rfl (Zk rfl (Zg rfl ?_))))))))
  unfold Jc
  (refine congrArg (fun b=>V.s (.bool b)) ?_; rw [Zce]; simp only [Zcu,Zb7]; omega)
 refine ZD rfl (ZC rfl (YJ rfl (YJ rfl (ZC rfl (Zq rfl (Zk rfl (Zg rfl ?_)))))))
 unfold Jc
 (rw [Zci (by omega)]; rfl)
theorem safe_rd (P:Nat->Int) (l:List Int) (hlen:l.length<=1000000):RdR AM 102 1 [.agg 133 (ia P)] [] l (.s (.bool (jq P l))):=by
 refine WV fun v Bs hc=>?_
 refine YL (a:=a102) rfl rfl (YI _) (ZQ rfl) rfl ?_ (by first | rfl | (cases hc <;> rfl))
 have hr0:=hc.rx
 rw [show YZ 0 Bs=YZ 0 Bs++[] from (Zcf _).symm]
 generalize hown:YZ 0 Bs=own0 at hr0 ⊢
 refine Ze (YC rfl (Yq rfl (Yc (Ye (Yg (Zy rfl (Yo rfl rfl ZM (Zy rfl (Yd (o':=128) rfl rfl rfl (Ym rfl rfl ZM rfl (Yu rfl (YP (VW _)) rfl rfl rfl (Yq (v:=v) rfl (XX (caps:=[]) rfl (rC P (XT (P 128)) l hlen) rfl (hr0) (fun _ h=>(.tail _ (ZbV _ h))) rfl rfl rfl (Yv (r:=.bool _) rfl rfl (Zk rfl (Zg rfl ?_))))))))))))))))
 exact ⟨rfl,(fun _ h=>(.tail _ h))⟩
theorem Jo (P:Nat->Int):WR AM 70 [.agg 133 (ia P)] [] (fun v _ _=>v=.s (.bool (Vn P))):=by
 refine YL (a:=a70) rfl rfl (YI _) (ZQ rfl) (m:=0) rfl (Ze (YC rfl (Yq rfl (Yc (Ye (Yg (Yo rfl rfl ZM (Yt rfl (YP (oq _)) rfl rfl rfl (Zk rfl (Ys (t:=5) rfl (fun h3=>?_) (fun h3=>?_)))))))))))
 ·refine Yb rfl (Yo rfl rfl ZM (Yb rfl (Yd (o':=128) rfl rfl rfl (Yb rfl (Ym rfl rfl ZM rfl (Yb rfl (Yu rfl (YP (VW _)) rfl rfl rfl (Yb rfl (Yt rfl (RR _ _) rfl rfl rfl (Yb rfl (Yv (r:=.bool _) rfl rfl (Zq rfl (Zk rfl (Zg rfl ?_))))))))))))))
  unfold Vn
  (rw [show QJ P=true by assumption]; rfl)
 refine Ya rfl rfl (ZE rfl (ZC rfl (Zq rfl (Zk rfl (Zg rfl ?_)))))
 unfold Vn
 (rw [show QJ P=false by assumption]; rfl)
theorem rR {g:FuncId} {o z:Nat}:One fun b=>.fn g [.ptr b o z]:=⟨fun _=>by simp [V.refs,V.refsL],fun h b=>by cases e:h b <;> simp [V.ren,V.renL,e]⟩
theorem jall_rn (P:Nat->Int):RN AM 72 [.agg 133 (ia P)] [] (fun b=>.fn 99 [.ptr b 0 133]) (.sc .var 133 (ia P)) []:=gJ (by
 refine YL (a:=a72) rfl rfl (YI _) (ZQ rfl) (m:=0) rfl (Ye (Yf (YC rfl (Yq rfl (Yc (Ye (Yf (KF rfl (Yq rfl (Yc ?_))))))))))
 exact Yi ⟨_,YH rfl YW,0,rfl,.head _⟩)
theorem of_rn (P:Nat->Int) (h:Vn P=true):RN AM 36 [.agg 133 (ia P)] [] (fun b=>.fn 99 [.ptr b 0 133]) (.sc .var 133 (ia (ovA (fun _=>0) 0 133 P))) []:=gJ (by
 refine YL (a:=a36) rfl rfl (YI _) (ZQ rfl) (m:=0) rfl (Ye (Yf (YC rfl (Yq rfl (Yc (Ye (Ye (Yf (Yo rfl rfl ZM (Yt rfl (YP (Jo P)) rfl rfl rfl ?_))))))))))
 rw [h]
 refine Yv (r:=.bool false) rfl rfl (Yc (Yj rfl (fun h=>nomatch h) (fun _=>Yh (Ye (Yf (Yo rfl rfl ZM (YB (Q:=ovA (fun _=>0) 0 133 P) rfl (.agg rfl .nil) (KS (rs:=[]) (Bs:=[]) (caps:=[]) (av:=[.agg 133 (ia (ovA (fun _=>0) 0 133 P))]) rR rfl (jall_rn _) rfl rfl (YF rfl) (fun _ h=>h) rfl trivial rfl rfl .nil (Yq rfl (Yc ?_))))))))))
 exact Yi ⟨_,YH rfl YW,1,rfl,.head _⟩)
theorem of_none (P:Nat->Int) (h:Vn P=false):RF AM 36 [.agg 133 (ia P)] (.fn 71 []):=YP (by
 refine YL (a:=a36) rfl rfl (YI _) (ZQ rfl) (m:=0) rfl (Ye (Yf (YC rfl (Yq rfl (Yc (Ye (Ye (Yf (Yo rfl rfl ZM (Yt rfl (YP (Jo P)) rfl rfl rfl ?_))))))))))
 rw [h]
 refine Yv (r:=.bool true) rfl rfl (Yc (ZA rfl (Ye (Yf (Yq rfl (Yc ?_))))))
 exact Yi ⟨_,YH rfl YW,rfl⟩)
def Up (g0 g4:Nat->S) (c:Nat):List V:=[.agg 133 g0,.ptr 1 0 133,.ptr 2 0 1,.undef,.agg 133 g4,.fn 99 [.ptr c 0 133],.undef,.undef,.undef,.undef,.undef,.undef,.undef]
section
variable (g0 g4 g1:Nat->S) (Q:Nat->Int)
noncomputable def T4 (c st:Nat):Blk:=.lp 607 KQ (Up g0 g4 c) st
theorem pv {Q:Nat->Int} {x y z:Int} (h0:Q 0=x) (h1:Q 1=y) (h2:Q 2=z):∀ i,i < [x,y,z].length->ovA (fun _=>0) (0*3) 3 Q i=[x,y,z].getD i 0:=fun i hi=>by have:=jB h0 h1 h2 i hi; rwa [Zcp] at this
theorem zY (M Y:Nat->Int) :
  WR AM 607 [.pan .undef,.yv 0,.agg 3 (ia M),.agg 133 (ia Y)] [T4 g0 g4 3 0,.sc .var 133 g1,.vs .var [.snil],.sc .var 133 (ia Q)] (fun v n L=>v=.s (.bool true)/\ED L [T4 g0 g4 3 0,.sc .var 133 g1] [.sc .var 133 (ia Q)] [M 0,M 1,M 2]):=by
 refine TF (N:=13) (B:=B11) (f:=YI (((Up g0 g4 3).set 6 (.agg 3 (ia M))).set 7 (.agg 133 (ia Y)))) (caps:=Up g0 g4 3) rfl rfl rfl (Dn rfl) rfl (Yf (Yy (Yz rfl rfl rfl rfl .here (Yc (⟨607,KQ,Up g0 g4 3,rfl,?_⟩)))))
 refine Yk (Yf (VV (v:=.snil) rfl rfl ZP rfl (Yo rfl rfl ZM (Wp rfl (.agg rfl .nil) (Et (c:=[M 0,M 1,M 2]) rfl (Rw.nil rfl) rfl (.row rfl (pv (Q:=ovA (fun _=>0) 0 3 M) rfl rfl rfl)) (UY ZM) (Dr.here (own:=[])) (by decide) (YF rfl) (fun v3 own3 n3 hr3 hn3=>TK (b:=2) (u:=.snil) (v:=v3) rfl rfl hr3.isrow (.appR _ (.appR _ (.there (.there (.there (.there .here)))))) (Vj (L':=own3++[(0,.lp 607 KQ (Up g0 g4 3) 1),(1,.sc .var 133 g1),(2,.vs .var [v3]),(3,.sc .var 133 (ia Q))]) (ZbY (.refl _) (ZbB (.cons _ (.cons _ (.refl _))))) (VA List.perm_append_comm (Yc ⟨607,KQ,Up g0 g4 3,rfl,rfl,?_⟩)))))))))
 have h4:∀ p∈own3,4 < p.1:=fun p hp=>hn3 p hp (4,_) ZN
 rw [List.nil_append] at hr3
 refine JI hr3 ⟨.head _,.tail _ ZM,.tail _ ZN,.tail _ ZO,trivial⟩ (fun p hp=>⟨.tail _ (.tail _ (.tail _ (.tail _ ?_))),Nat.le_of_lt (h4 p hp)⟩)
 show p∈setL 0 _ own3
 rw [Ji (fun p hp=>by have:=h4 p hp; omega)]; exact hp
theorem yd (M Y:Nat->Int) (l:List Int) (m q:Nat) (F:Nat->Int) (hlm:l.length=m*3) (hF:∀ i,i < l.length->F i=l.getD i 0) (hll:l.length<=1000000) :
  WR AM 607 [.pan .undef,.yv 0,.agg 3 (ia M),.agg 133 (ia Y)] [T4 g0 g4 4 0,.sc .var 133 g1,Vk .var 3 m 3,.sc .grow q (ia F),.sc .var 133 (ia Q)] (fun v n L=>v=.s (.bool true)/\ED L [T4 g0 g4 4 0,.sc .var 133 g1] [.dead,.sc .var 133 (ia Q)] (l++[M 0,M 1,M 2])):=by
 refine TF (N:=13) (B:=B11) (f:=YI (((Up g0 g4 4).set 6 (.agg 3 (ia M))).set 7 (.agg 133 (ia Y)))) (caps:=Up g0 g4 4) rfl rfl rfl (Dn rfl) rfl (Yf (Yy (Yz rfl rfl rfl rfl .here (Yc (⟨607,KQ,Up g0 g4 4,rfl,?_⟩)))))
 refine Yk (Yf (VV (v:=.sl 3 0 m 3 .whole) rfl rfl ZP rfl (Yo rfl rfl ZM (Wp rfl (.agg rfl .nil) (Et (c:=[M 0,M 1,M 2]) rfl (Rw.row hlm hF) rfl (.row rfl (pv (Q:=ovA (fun _=>0) 0 3 M) rfl rfl rfl)) (UY ZM) (.there (.there (.there (.there (.there .here))))) (by decide) (by simp only [Zcd,List.length_nil]; omega) (fun v3 own3 n3 hr3 hn3=>TK (b:=2) (u:=.sl 3 0 m 3 .whole) (v:=v3) rfl rfl hr3.isrow (.appR _ (.there (.appR _ (.there (.there (.there (.there .here))))))) (Vj (L':=own3++[(3,.dead),(0,.lp 607 KQ (Up g0 g4 4) 1),(1,.sc .var 133 g1),(2,.vs .var [v3]),(4,.sc .var 133 (ia Q))]) (ZbY (.refl _) (.cons_cons _ (.cons _ (.cons _ (.refl _))))) (VA List.perm_append_comm (Yc ⟨607,KQ,Up g0 g4 4,rfl,rfl,?_⟩)))))))))
 have h4:∀ p∈own3,5 < p.1:=fun p hp=>hn3 p hp (5,_) ZN
 refine JI hr3 ⟨.tail _ ZM,.tail _ ZN,.tail _ ZO,.head _,.tail _ ZP,trivial⟩ (fun p hp=>⟨.tail _ (.tail _ (.tail _ (.tail _ (.tail _ ?_)))),Nat.le_of_lt (h4 p hp)⟩)
 show p∈setL 0 _ own3
 rw [Ji (fun p hp=>by have:=h4 p hp; omega)]; exact hp
end
def Wy (P:Nat->Int) (m:Mv):Bool:=!(Jc P m.1 m.2.1&&!jq P [m.1,(m.1+m.2.1) / 2])&&(decide (Wj P m.1 m.2.1 m.2.2=0)&&!WU (XV P m.1 m.2.1 m.2.2) (P 128))
def xz (P:Nat->Int):List Mv:=(Ey P).filter (Wy P)
def mvX (F:Nat->Int) (o:Nat):Nat->Int:=ovA (fun _=>0) 0 3 (fun j=>F (o+j))
theorem UE {F:Nat->Int} {l:List Mv} {i:Nat} (hF:∀ j,j < (YV l).length->F j=(YV l).getD j 0) (hi:i < l.length):mvX F (0+(i:Int).toNat*3) 0=(l.getD i (0,0,0)).1/\mvX F (0+(i:Int).toNat*3) 1=(l.getD i (0,0,0)).2.1/\mvX F (0+(i:Int).toNat*3) 2=(l.getD i (0,0,0)).2.2:=by
 obtain ⟨e1,e2,e3⟩:=KJ hi
 have hb:3*i+2 < (YV l).length:=by rw [YQ]; omega
 rw [<- hF _ (by omega)] at e1 e2 e3
 refine ⟨?_,?_,?_⟩
 ·rw [<- e1]; show F _=F _; exact congrArg F (by omega)
 ·rw [<- e2]; show F _=F _; exact congrArg F (by omega)
 rw [<- e3]; show F _=F _; exact congrArg F (by omega)
theorem toM_bd {s k c t:Int} {m:Mv} (hs:0<=s/\s < 64) (ht:0<=t/\t < 64) (h:m∈toM s k c t):(0<=m.1/\m.1 < 64)/\(0<=m.2.1/\m.2.1 < 64):=by
 unfold toM at h
 split at h
 ·simp only [Zco,List.not_mem_nil,or_false] at h
  rcases h with rfl | rfl | rfl | rfl <;> exact ⟨hs,ht⟩
 rw [List.mem_singleton.1 h]; exact ⟨hs,ht⟩
theorem allS_bd {P:Nat->Int} {m:Mv} (h:m∈Ey P):(0<=m.1/\m.1 < 64)/\(0<=m.2.1/\m.2.1 < 64):=by
 have h:=(Qa _).mem_iff.1 h
 unfold UX Wq at h
 rw [List.mem_flatMap] at h
 obtain ⟨s,hs,h⟩:=h
 rw [List.mem_map] at hs
 obtain ⟨k,hk,rfl⟩:=hs
 have hk:=Zck.1 hk
 split at h
 ·unfold VT at h
  rw [List.mem_flatMap] at h
  obtain ⟨t,ht,h⟩:=h
  exact toM_bd (by constructor <;> omega) (Kw ht) h
 cases h
theorem vz (P:Nat->Int):(Ey P).length<=16896:=by
 have:=T7 P 64
 rw [show (Ey P).length=_ from (Qa _).length_eq]; omega
theorem zi {l:List Mv} {i:Nat} (hi:i < l.length):l.getD i (0,0,0)∈l:=by
 rw [ZbD,ZbH hi]
 exact List.getElem_mem hi
theorem uM {P X:Nat->Int} {l:List Mv} {i:Nat} (hi:i < l.length) (h0:X 0=(l.getD i (0,0,0)).1) (h1:X 1=(l.getD i (0,0,0)).2.1) (h2:X 2=(l.getD i (0,0,0)).2.2) (h:Wy P (l.getD i (0,0,0))=true):YV ((l.take i).filter (Wy P))++[X 0,X 1,X 2]=YV ((l.take (i+1)).filter (Wy P)):=by
 rw [VX (0,0,0) hi,List.filter_append,List.filter_cons,h,ZcA rfl,RU,h0,h1,h2]; rfl
theorem DP {P:Nat->Int} {l:List Mv} {i:Nat} (hi:i < l.length) (h:Wy P (l.getD i (0,0,0))=false):YV ((l.take (i+1)).filter (Wy P))=YV ((l.take i).filter (Wy P)):=by
 rw [VX (0,0,0) hi,List.filter_append,List.filter_cons,h,Zcz (by decide)]; simp
theorem yf (P:Nat->Int) {l:List Mv} (i:Nat):(YV ((l.take i).filter (Wy P))).length<=l.length*3:=by
 have h1:=ZbU (Wy P) (l.take i)
 rw [Zcb] at h1
 rw [YQ]; omega
theorem y6 {P:Nat->Int} {m:Mv} (h1:Jc P m.1 m.2.1=true) (h2:jq P [m.1,(m.1+m.2.1) / 2]=false):Wy P m=false:=by unfold Wy; rw [h1,h2]; rfl
theorem xl {P:Nat->Int} {m:Mv} (h:Wj P m.1 m.2.1 m.2.2≠0):Wy P m=false:=by unfold Wy; rw [Zci h]; simp
theorem xX {P:Nat->Int} {m:Mv} (h:WU (XV P m.1 m.2.1 m.2.2) (P 128)=true):Wy P m=false:=by unfold Wy; rw [h]; simp
theorem leg_t {P:Nat->Int} {m:Mv} (h1:Jc P m.1 m.2.1=false\/jq P [m.1,(m.1+m.2.1) / 2]=true) (h2:Wj P m.1 m.2.1 m.2.2=0) (h3:WU (XV P m.1 m.2.1 m.2.2) (P 128)=false):Wy P m=true:=by
 unfold Wy
 rw [Zcl h2,h3]
 rcases h1 with h | h <;> rw [h] <;> simp
theorem iter_mv (g0 g4 g1:Nat->S) (P:Nat->Int):WR AM 99 [.yv 0,.ptr 3 0 133] [(T4 g0 g4 3 0),.sc .var 133 g1,.vs .var [.snil],.sc .var 133 (ia P)] (fun v _ L=>v=.tup []/\ED L [(T4 g0 g4 3 0),.sc .var 133 g1] [.sc .var 133 (ia P)] (YV (xz P))):=by
 refine YL (a:=a99) rfl rfl (YI _) (ZQ rfl) (m:=4) rfl (Ze (Zy rfl (Yo rfl rfl ZP ?_)))
 obtain ⟨l,hleq⟩:∃ l,l=Ey P:=⟨_,rfl⟩
 have hall:=all_rt P
 rw [<- hleq] at hall
 have hlen:=vz P
 rw [<- hleq] at hlen
 refine YE rfl (hall) rfl rfl (fun v1 own1 n1 hr1=>Xk rfl hr1.rx (by decide) (YQ l) (Yq rfl (Yc (Yk (Xo (ZbY (.refl _) (.refl _)) (Xu (fun m f _ L=>∃ (i:Nat) (vO:V) (ownO:HA),(i≤l.length)∧(m=l.length - i)∧(∀ p∈ownO,4≤p.1)∧(Rw 3 (YV ((l.take i).filter (Wy P))) vO ownO)∧(f 0=.yv 0)∧(f 1=.ptr 3 0 133)∧(f 9=v1)∧(f 10=.s (.int .i64 l.length))∧(f 11=.s (.int .i64 i))∧(L=(ownO++(own1++[(0,(T4 g0 g4 3 0)),(1,.sc .var 133 g1),(2,.vs .var [vO]),(3,.sc .var 133 (ia P))])))) (fun m f nb L hI=>?_) (l.length) (⟨0,.snil,[],by omega,by omega,(fun p (hp:p∈([]:HA))=>(by cases hp)),Rw.nil rfl,rfl,rfl,rfl,rfl,rfl,rfl⟩)))))))
 obtain ⟨i,vO,ownO,hi,hm,hgO,hrO,k0,k1,k9,k10,k11,rfl⟩:=hI
 refine Za 0 k0 (Za 1 k1 (Za 9 k9 (Za 10 k10 (Za 11 k11 (Ze (Zr rfl (Yc (Ye (Yj rfl (fun h1=>?_) (fun h1=>?_)))))))))) <;> simp only [NM] at h1
 ·refine Yh (Ye (Yk (Ze ?_)))
  obtain ⟨b1,q1,md1,c1,F1,rfl,rfl,hF1⟩:=hr1.rx.at (by decide) (YQ l) (by omega)
  refine Zx rfl rfl (Yp rfl rfl (ZbM _ ZM) (Yy (Yz rfl rfl rfl rfl .here (Yc (Ye (Ze ?_))))))
  obtain ⟨hx0,hx1,hx2⟩:=UE hF1 (i:=i) (by omega)
  have hbd:(0<=(l.getD i (0,0,0)).1/\(l.getD i (0,0,0)).1 < 64)/\(0<=(l.getD i (0,0,0)).2.1/\(l.getD i (0,0,0)).2.1 < 64):=allS_bd (P:=P) (by rw [<- hleq]; exact zi (by omega))
  have hcas:=YP (vr P (mvX F1 (0+(i:Int).toNat*3)) (by omega) (by omega))
  rw [hx0,hx1] at hcas
  have hmove:=YP (qS P (mvX F1 (0+(i:Int).toNat*3)))
  rw [hx0,hx1,hx2] at hmove
  have hid:ovA (fun _=>0) 0 133 (XV P (l.getD i (0,0,0)).1 (l.getD i (0,0,0)).2.1 (l.getD i (0,0,0)).2.2)=(XV P (l.getD i (0,0,0)).1 (l.getD i (0,0,0)).2.1 (l.getD i (0,0,0)).2.2):=QG (fun i hi=>Q8 hi)
  have hchk:=RR (ovA (fun _=>0) 0 133 (XV P (l.getD i (0,0,0)).1 (l.getD i (0,0,0)).2.1 (l.getD i (0,0,0)).2.2)) (P 128)
  rw [show WU (ovA (fun _=>0) 0 133 (XV P (l.getD i (0,0,0)).1 (l.getD i (0,0,0)).2.1 (l.getD i (0,0,0)).2.2)) (P 128)=WU (XV P (l.getD i (0,0,0)).1 (l.getD i (0,0,0)).2.1 (l.getD i (0,0,0)).2.2) (P 128) by rw [hid]] at hchk
  refine Yo rfl rfl (.tail _ (ZbM _ (.tail _ ZP))) (Yo rfl rfl ZM (Yt rfl (hcas) rfl rfl rfl (Zk rfl (Ys (t:=18) rfl (fun h2=>?_) (fun h2=>?_)))))
  ·refine Yb rfl (Yo rfl rfl (.tail _ (ZbM _ (.tail _ ZP))) (Yb rfl (Zy rfl (Yb rfl (Ym (x:=(l.getD i (0,0,0)).1) rfl rfl ZM (hx0) (Yb rfl (Zy rfl (Yb rfl (Ym (x:=(l.getD i (0,0,0)).1) rfl rfl ZM (hx0) (Yb rfl (Zz rfl (Yb rfl (Ym (x:=(l.getD i (0,0,0)).2.1) rfl rfl ZM (hx1) (Yb rfl (Zs rfl rfl (Yb rfl (Zu rfl rfl (Yb rfl (XA rfl (.one rfl (.one rfl .nil)) (Yb rfl (XX (caps:=[]) rfl (safe_rd P [(l.getD i (0,0,0)).1,((l.getD i (0,0,0)).1+(l.getD i (0,0,0)).2.1) / 2] (YF rfl)) rfl ((.row rfl sP)) (UY ZM) rfl rfl rfl (Yb rfl (Yv (r:=.bool _) rfl rfl (Zq rfl (Yc (Yj rfl (fun h3=>?_) (fun h3=>?_))))))))))))))))))))))))))) <;> simp only [NM] at h3
   ·refine Y0 (Xb (Yf (Zs rfl rfl (Zj rfl (Yc (⟨l.length - (i+1),_,by omega,(.cons _ (.cons _ (ZbY (.refl _) (.refl _)))),i+1,_,_,by omega,rfl,hgO,?_,rfl,rfl,rfl,rfl,rfl,rfl⟩))))))
    (rw [DP (by omega) (by first | exact y6 (by assumption) (by assumption) | exact xl (by assumption) | exact xX (by assumption))]; exact hrO)
   refine Yh (Ze (Zy rfl (Yo rfl rfl (.tail _ (.tail _ (ZbM _ (.tail _ ZP)))) (Yo rfl rfl ZN (Yt rfl (hmove) rfl rfl rfl (Zo rfl (YD (v:=.agg _ _) rfl rfl (YD (v:=.s (.int _ _)) rfl rfl (Yy (Yz rfl rfl rfl rfl .here (Zj rfl (Yc (Ye (JJ (KE (l1:=[_,_,_,_,_,_,_,_,_,_,_,_,_,_]) (l2:=[_,_,_]) (Zj rfl (Zr rfl (Zk rfl (Ys (t:=41) rfl (fun h4=>?_) (fun h4=>?_)))))))))))))))))))) <;> simp only [NM] at h4
   ·refine Yb rfl (Yo rfl rfl ZM (Yb rfl (Zy rfl (Yb rfl (Yd (o':=128) rfl rfl rfl (Yb rfl (Ym rfl rfl (.tail _ (.tail _ (.tail _ (ZbM _ (.tail _ ZP))))) rfl (Yb rfl (Yt rfl (hchk) rfl rfl rfl (Yb rfl (Yv (r:=.bool _) rfl rfl (Zq rfl (Zk rfl (Ys (t:=49) rfl (fun h5=>?_) (fun h5=>?_))))))))))))))) <;> simp only [NM] at h5
    ·refine Yb rfl (Yq (v:=.yv _) rfl (Yb rfl (Yo rfl rfl ZO (Yb rfl (Yo rfl rfl ZM (Yc (Q2 (.cons _ (.cons _ (.cons _ (ZbY (.refl _) (.refl _))))) (DB rfl ?_))))))))
     have hll:=yf P (l:=l) i
     refine TR (caps:=Up g0 g4) (xa:=[.agg 3 (ia (mvX F1 (0+(i:Int).toNat*3))),.agg 133 (ia (ovA (fun _=>0) 0 133 (XV P (l.getD i (0,0,0)).1 (l.getD i (0,0,0)).2.1 (l.getD i (0,0,0)).2.2)))]) (L0:=[_]) rfl (fun _=>rfl) rfl rfl (fun _ _ _=>rfl) (YF rfl) (YF rfl) rfl rfl hrO (List.Perm.append_left _ (List.perm_append_comm (l₁:=[_]) (l₂:=[_,_,_,_]))) (fun e=>by have h:=zY g0 g4 g1 P (mvX F1 (0+(i:Int).toNat*3)) (ovA (fun _=>0) 0 133 (XV P (l.getD i (0,0,0)).1 (l.getD i (0,0,0)).2.1 (l.getD i (0,0,0)).2.2)); rw [e]; exact h) (fun m q F h1 h2=>yd g0 g4 g1 P (mvX F1 (0+(i:Int).toNat*3)) _ _ m q F h1 h2 (by omega)) (fun v2 own2 n2 hr2 hge2=>Vd ?_)
     rw [uM (by omega) hx0 hx1 hx2 (leg_t (by first | exact .inl (by assumption) | exact .inr (by assumption)) (by assumption) (by assumption))] at hr2
     refine VA (List.Perm.append_left _ (List.perm_append_comm (l₁:=[_,_,_,_]) (l₂:=[_]))) (Yb rfl (Yv (r:=.bool _) rfl rfl (Zq rfl (Yc (ZB rfl (Yh (Yf (Zs rfl rfl (Zj rfl (Yc (⟨l.length - (i+1),_,by omega,(ZbY (.refl _) (.refl _)),i+1,_,_,by omega,rfl,hge2,?_,rfl,rfl,rfl,rfl,rfl,rfl⟩)))))))))))
     exact hr2
    refine ZD rfl (ZC rfl (Yc (Vd (ZD rfl (Zq rfl (Yc (ZB rfl (Yh (Yf (Zs rfl rfl (Zj rfl (Yc (⟨l.length - (i+1),_,by omega,(.cons _ (.cons _ (.cons _ (ZbY (.refl _) (.refl _))))),i+1,_,_,by omega,rfl,hgO,?_,rfl,rfl,rfl,rfl,rfl,rfl⟩)))))))))))))
    (rw [DP (by omega) (by first | exact y6 (by assumption) (by assumption) | exact xl (by assumption) | exact xX (by assumption))]; exact hrO)
   refine ZE rfl (ZD rfl (Zq rfl (Zk rfl (ZD rfl (ZC rfl (Yc (Vd (ZD rfl (Zq rfl (Yc (ZB rfl (Yh (Yf (Zs rfl rfl (Zj rfl (Yc (⟨l.length - (i+1),_,by omega,(.cons _ (.cons _ (.cons _ (ZbY (.refl _) (.refl _))))),i+1,_,_,by omega,rfl,hgO,?_,rfl,rfl,rfl,rfl,rfl,rfl⟩)))))))))))))))))
   (rw [DP (by omega) (by first | exact y6 (by assumption) (by assumption) | exact xl (by assumption) | exact xX (by assumption))]; exact hrO)
  refine Ya rfl rfl (ZF rfl (ZD rfl (ZC rfl (Zq rfl (Yc (ZB rfl (Yh (Ze (Zy rfl (Yo rfl rfl (.tail _ (ZbM _ (.tail _ ZP))) (Yo rfl rfl ZM (Yt rfl (hmove) rfl rfl rfl (Zo rfl (YD (v:=.agg _ _) rfl rfl (YD (v:=.s (.int _ _)) rfl rfl (Yy (Yz rfl rfl rfl rfl .here (Zj rfl (Yc (Ye (JJ (KE (l1:=[_,_,_,_,_,_,_,_,_,_,_,_,_,_]) (l2:=[_,_,_]) (Zj rfl (Zr rfl (Zk rfl (Ys (t:=41) rfl (fun h6=>?_) (fun h6=>?_))))))))))))))))))))))))))) <;> simp only [NM] at h6
  ·refine Yb rfl (Yo rfl rfl ZM (Yb rfl (Zy rfl (Yb rfl (Yd (o':=128) rfl rfl rfl (Yb rfl (Ym rfl rfl (.tail _ (.tail _ (ZbM _ (.tail _ ZP)))) rfl (Yb rfl (Yt rfl (hchk) rfl rfl rfl (Yb rfl (Yv (r:=.bool _) rfl rfl (Zq rfl (Zk rfl (Ys (t:=49) rfl (fun h7=>?_) (fun h7=>?_))))))))))))))) <;> simp only [NM] at h7
   ·refine Yb rfl (Yq (v:=.yv _) rfl (Yb rfl (Yo rfl rfl ZN (Yb rfl (Yo rfl rfl ZM (Yc (Q2 (.cons _ (.cons _ (ZbY (.refl _) (.refl _)))) (DB rfl ?_))))))))
    have hll:=yf P (l:=l) i
    refine TR (caps:=Up g0 g4) (xa:=[.agg 3 (ia (mvX F1 (0+(i:Int).toNat*3))),.agg 133 (ia (ovA (fun _=>0) 0 133 (XV P (l.getD i (0,0,0)).1 (l.getD i (0,0,0)).2.1 (l.getD i (0,0,0)).2.2)))]) (L0:=[_]) rfl (fun _=>rfl) rfl rfl (fun _ _ _=>rfl) (YF rfl) (YF rfl) rfl rfl hrO (List.Perm.append_left _ (List.perm_append_comm (l₁:=[_]) (l₂:=[_,_,_,_]))) (fun e=>by have h:=zY g0 g4 g1 P (mvX F1 (0+(i:Int).toNat*3)) (ovA (fun _=>0) 0 133 (XV P (l.getD i (0,0,0)).1 (l.getD i (0,0,0)).2.1 (l.getD i (0,0,0)).2.2)); rw [e]; exact h) (fun m q F h1 h2=>yd g0 g4 g1 P (mvX F1 (0+(i:Int).toNat*3)) _ _ m q F h1 h2 (by omega)) (fun v3 own3 n3 hr3 hge3=>Vd ?_)
    rw [uM (by omega) hx0 hx1 hx2 (leg_t (by first | exact .inl (by assumption) | exact .inr (by assumption)) (by assumption) (by assumption))] at hr3
    refine VA (List.Perm.append_left _ (List.perm_append_comm (l₁:=[_,_,_,_]) (l₂:=[_]))) (Yb rfl (Yv (r:=.bool _) rfl rfl (Zq rfl (Yc (ZB rfl (Yh (Yf (Zs rfl rfl (Zj rfl (Yc (⟨l.length - (i+1),_,by omega,(ZbY (.refl _) (.refl _)),i+1,_,_,by omega,rfl,hge3,?_,rfl,rfl,rfl,rfl,rfl,rfl⟩)))))))))))
    exact hr3
   refine ZD rfl (ZC rfl (Yc (Vd (ZD rfl (Zq rfl (Yc (ZB rfl (Yh (Yf (Zs rfl rfl (Zj rfl (Yc (⟨l.length - (i+1),_,by omega,(.cons _ (.cons _ (ZbY (.refl _) (.refl _)))),i+1,_,_,by omega,rfl,hgO,?_,rfl,rfl,rfl,rfl,rfl,rfl⟩)))))))))))))
   (rw [DP (by omega) (by first | exact y6 (by assumption) (by assumption) | exact xl (by assumption) | exact xX (by assumption))]; exact hrO)
  refine ZE rfl (ZD rfl (Zq rfl (Zk rfl (ZD rfl (ZC rfl (Yc (Vd (ZD rfl (Zq rfl (Yc (ZB rfl (Yh (Yf (Zs rfl rfl (Zj rfl (Yc (⟨l.length - (i+1),_,by omega,(.cons _ (.cons _ (ZbY (.refl _) (.refl _)))),i+1,_,_,by omega,rfl,hgO,?_,rfl,rfl,rfl,rfl,rfl,rfl⟩)))))))))))))))))
  (rw [DP (by omega) (by first | exact y6 (by assumption) (by assumption) | exact xl (by assumption) | exact xX (by assumption))]; exact hrO)
 refine Y0 (Xb (⟨_,YW,?_⟩))
 obtain rfl:i=l.length:=by omega
 rw [List.take_length,hleq] at hrO
 exact ⟨rfl,JI hrO ⟨(ZbM _ (ZbM _ ZM)),(ZbM _ (ZbM _ ZN)),(ZbM _ (ZbM _ ZO)),(ZbM _ (ZbM _ ZP)),trivial⟩ (fun p hp=>⟨ZbV _ hp,hgO p hp⟩)⟩
def XN (P:Nat->Int):List Mv:=if Vn P=true then xz (ovA (fun _=>0) 0 133 P) else []
def capsNo (g0 g4:Nat->S):List V:=[.agg 133 g0,.ptr 1 0 133,.ptr 2 0 1,.undef,.agg 133 g4,.fn 71 [],.undef,.undef,.undef,.undef,.undef,.undef,.undef]
theorem vo (P:Nat->Int):RtR AM 11 3 [.agg 133 (ia P)] [] (YV (XN P)) []:=by
 refine Qq (gx (a:=a11) rfl rfl (YI _) (ZQ rfl) (m:=0) (c0:=2) rfl rfl (Ye (Yf (YC rfl (Jl (z:=.one .snil) rfl (Yc (Ye (Ye (Yf (Yo rfl rfl ZN ?_))))))))))
 have fin:∀ (f:FE) (n:Nat) (v:V) (own:HA),f 2=.ptr 1 0 1->Rw 3 (YV (XN P)) v own->WP AM a11.nt (.seq (.ops [ZZ 12 false 1 2,Z1 1 2 12]) .ret) f n (own++[(1,.vs .var [v])])
   (fun _ _ _=>False) (fun _ _ _ _=>False) (fun f n L=>∃ b md v,rd a11.nt f 2=.ptr b 0 1∧(b,Blk.vs md [v])∈L∧∃ own,Rw 3 (YV (XN P)) v own∧∀ p∈own,p∈L) (fun _ _ _ _=>False):=fun f n v own h2 hr=>by
  refine Za 2 h2 (Ye (Yf (VV (v:=v) rfl rfl (ZbM _ ZM) rfl (TK (b:=1) (u:=v) (v:=v) rfl rfl hr.isrow (.appR _ .here) ?_))))
  exact Yc (Yi ⟨1,.var,v,rfl,ZbM _ ZM,own,hr,fun p hp=>ZbV _ hp⟩)
 cases h:Vn P with
 | false =>
  have hl:YV (XN P)=[]:=by unfold XN; rw [h]; rfl
  refine Yt rfl (of_none P h) rfl rfl rfl (Yc (Yk (wI (Lr:=[(0,_),(1,_)]) (L0:=[]) (vs:=[.yv 0]) (Bs:=[.lp 607 KQ (capsNo (ia P) (ia P)) 0,.sc .var 133 (ia P),.vs .var [.snil]]) (List.reverse_perm [_,_]) rfl rfl rfl rfl rfl (YL (a:=a71) rfl rfl (YI _) (ZQ rfl) (m:=3) rfl (Yh ⟨_,YW,?_⟩)))))
  refine .inl ⟨[_,_,_],.tup [],_,⟨.head _,.tail _ ZM,.tail _ ZN,trivial⟩,rfl,rfl,rfl,rfl,607,KQ,_,0,_,.refl _,?_⟩
  refine Xo (.cons _ (.refl _)) ?_
  exact fin _ _ .snil [] rfl (.nil hl)
 | true =>
  have hl:YV (XN P)=YV (xz (ovA (fun _=>0) 0 133 P)):=by unfold XN; rw [h]; rfl
  refine KS (rs:=[]) (Bs:=[]) (caps:=[]) (av:=[.agg 133 (ia P)]) rR rfl (of_rn P h) rfl rfl (YF rfl) (fun _ h=>h) rfl trivial rfl rfl .nil (Yc (Yk (wI (Lr:=[(0,_),(1,_),(2,_)]) (L0:=[]) (vs:=[.yv 0,.ptr 3 0 133]) (Bs:=[T4 (ia P) (ia P) 3 0,.sc .var 133 (ia P),.vs .var [.snil],.sc .var 133 (ia (ovA (fun _=>0) 0 133 P))]) (List.reverse_perm [_,_,_]) rfl rfl rfl rfl rfl (Qm (iter_mv (ia P) (ia P) (ia P) (ovA (fun _=>0) 0 133 P)) ?_))))
  rintro r n1 L1 ⟨rfl,ho⟩
  rw [<- hl] at ho
  rcases ho with ⟨e1,e2⟩ | ⟨b,m,q,F,e1,e2,e3,e4,e5⟩
  ·refine .inl ⟨_,.tup [],_,e2,rfl,rfl,rfl,rfl,607,KQ,_,0,_,.refl _,?_⟩
   refine Xo (.cons _ (.cons_cons _ (.cons _ .slnil))) ?_
   exact fin _ _ .snil [] rfl (.nil e1)
  refine .inr ⟨[T4 (ia P) (ia P) 3 0,.sc .var 133 (ia P)],[.sc .var 133 (ia (ovA (fun _=>0) 0 133 P))],b,m,3,q,.var,.grow,ia F,.tup [],_,_,e3,rfl,e1,e2,rfl,rfl,rfl,rfl,rfl,(YF rfl),607,KQ,_,0,_,.swap _ _ _,?_⟩
  refine Xo (.cons_cons _ (.cons _ (.cons_cons _ (.cons _ .slnil)))) ?_
  exact fin _ _ _ [(_,_)] rfl (.row e4 e5)
theorem pK {P:Nat->Int} {s:Int} {m:Mv} (h:m∈QS P s 64):(0<=m.2.1/\m.2.1 < 64)/\R6 P s m.2.1=true/\m∈toM s (P (sqI s)) (P (sqI s+1)) m.2.1:=by
 unfold QS at h
 rw [List.mem_flatMap] at h
 obtain ⟨t,ht,h⟩:=h
 split at h
 ·rename_i hg
  have e:=(JN h).2
  rw [e]
  exact ⟨mem64.1 ht,hg,h⟩
 cases h
theorem yH {P:Nat->Int} {m:Mv} (h:m∈Rn P 64):(0<=m.1/\m.1 < 64)/\(0<=m.2.1/\m.2.1 < 64)/\R6 P m.1 m.2.1=true/\m∈toM m.1 (P (sqI m.1)) (P (sqI m.1+1)) m.2.1:=by
 unfold Rn at h
 rw [List.mem_flatMap] at h
 obtain ⟨s,hs,h⟩:=h
 have e:=Jb h
 rw [e]
 exact ⟨mem64.1 hs,pK h⟩
def cntR (P:Nat->Int) (s:Nat):Nat:=(Rn P s).length
theorem yj {P:Nat->Int} {s t:Int} (h:R6 P s t=true):(1<=P (sqI s)/\P (sqI s)<=6)/\(P (sqI s+1)=0\/P (sqI s+1)=1)/\P (sqI s+1)=P 128/\s≠t:=by
 unfold R6 Ww Xm at h
 simp only [Zca,Zb7] at h
 omega
theorem tn {P:Nat->Int} {m:Mv} (h:m∈toM m.1 (P (sqI m.1)) (P (sqI m.1+1)) m.2.1):if P (sqI m.1)=1/\m.2.1 / 8=7*(1 - P (sqI m.1+1)) then 2<=m.2.2/\m.2.2<=5 else m.2.2=0:=by
 unfold toM endM at h
 split at h
 ·rename_i e
  rw [Zb7] at e
  rw [ZcA e]
  simp only [Zco,List.not_mem_nil,or_false] at h
  rcases h with h | h | h | h <;> (have:=congrArg (fun m:Mv=>m.2.2) h; simp only at this; omega)
 rename_i e
 rw [Zb7] at e
 rw [Zcz e]
 have:=congrArg (fun m:Mv=>m.2.2) (List.mem_singleton.1 h)
 simpa using this
theorem mv_can {P:Nat->Int} {m:Mv} (h:m∈Rn P 64):Wj P m.1 m.2.1 m.2.2=0:=by
 obtain ⟨ha,ht,hg,hm⟩:=yH h
 obtain ⟨h1,h2,h3,h4⟩:=yj hg
 refine Vi ⟨ha,ht,h4⟩ ?_
 unfold XI
 exact Zcl ⟨h1.1,h1.2,h3,h2,tn hm⟩
def pathOK (a b:Int):Bool:=decide (a=b) || (!(Uh a b || Uf a b) || (decide (1<=kq a b/\b=a+wi a b*kq a b)&&(List.range (kq a b - 1)).all fun (j:Nat)=>decide ((0<=a+wi a b*((j:Int)+1)/\a+wi a b*((j:Int)+1) < 64)/\a+wi a b*((j:Int)+1)≠b)))
section
variable {P:Nat->Int} {a b:Int}
end
def hitA (P:Nat->Int) (c s a:Int):Bool:=decide (P (sqI a+1)=c)&&Kv P a s
def toL (P:Nat->Int) (s c:Int) (n:Nat):List Int:=if 0<=s/\s < 64 then (Wq n).filter (hitA P c s) else []
def isR (P:Nat->Int) (c:Int) (s:Int):Bool:=decide (0 < (toL P s c 64).length)
def checkR (P:Nat->Int) (c:Int):Bool:=if c=0\/c=1 then (jz P (ju c)).any (isR P (XT c)) else false
section
variable {P:Nat->Int} {s t c:Int}
end
def fromD (P:Nat->Int) (s:Int) (n:Nat):List Mv:=if 0<=s/\s < 64 then QS P s n else []
def fineM (P:Nat->Int) (m:Mv):Bool:=decide (Wj P m.1 m.2.1 m.2.2=0)&&(!WU (XV P m.1 m.2.1 m.2.2) (P 128)&&(!Jc P m.1 m.2.1 || (!WU P (P 128)&&!([(m.1+m.2.1) / 2].any (isR P (XT (P 128)))))))
section
variable {P:Nat->Int} {m:Mv}
end
def movesD (P:Nat->Int):List Mv:=if Vn P=true then (Rn P 64).filter (fineM P) else []
def sC (s:Int):Int:=if s=1 then 2 else 1
def ofN (P:Nat->Int) (n:Nat):Int × Int:=if Vn P=false\/0 < n then (0,0) else if WU P (P 128)=true then (sC (XT (P 128)),1) else (3,2)
section
variable {P:Nat->Int} {n:Nat}
theorem of_open (h:Vn P=false\/0 < n):ofN P n=(0,0):=ZcA h
theorem of_go (h1:Vn P=true) (h2:¬ 0 < n):¬ (Vn P=false\/0 < n):=fun h=>h.elim (fun h=>by rw [h1] at h; cases h) h2
theorem of_mate (h1:Vn P=true) (h2:¬ 0 < n) (h3:WU P (P 128)=true):ofN P n=(sC (XT (P 128)),1):=by
 unfold ofN; rw [Zcz (of_go h1 h2),ZcA h3]
theorem ZaB (h1:Vn P=true) (h2:¬ 0 < n) (h3:WU P (P 128)=false):ofN P n=(3,2):=by
 unfold ofN; rw [Zcz (of_go h1 h2),Zcz (by rw [h3]; decide)]
end
def sumB (g:Nat->Int):Nat->Int
 | 0=>0
 | n+1=>sumB g n+g n
def Clean (P:Nat->Int):Prop:=∀ s:Nat,s < 64->(P (s*2)=0/\P (s*2+1)=0)\/(1<=P (s*2)/\P (s*2)<=6/\(P (s*2+1)=0\/P (s*2+1)=1))
def betOK (a b:Int):Bool:=!(Uh a b || Uf a b) || (vk (DJ (JL a) (JL b)) ((DJ a b).map JL)&&(DJ a b).all fun t=>decide (0<=t/\t < 64))
def mvT (m:Mv):Mv:=(JL m.1,JL m.2.1,m.2.2)
theorem oD {P:Nat->Int} {c:Int} {a:Nat} (hk:P (sqI (a:Int))=6/\P (sqI (a:Int)+1)=c):∀ n:Nat,a < n->1<=kM P c n
 | 0,h=>by omega
 | n+1,h=>by
  have hb:=jA P c n
  unfold kM
  by_cases e:a=n
  ·subst e; rw [ZcA hk]; omega
  have:=oD hk n (by omega)
  split <;> omega
theorem vy {P:Nat->Int} {c:Int} {a b:Nat} (ha:P (sqI (a:Int))=6/\P (sqI (a:Int)+1)=c) (hb:P (sqI (b:Int))=6/\P (sqI (b:Int)+1)=c) (hab:a < b):∀ n:Nat,b < n->2<=kM P c n
 | 0,h=>by omega
 | n+1,h=>by
  unfold kM
  by_cases e:b=n
  ·subst e
   have:=oD ha b hab
   rw [ZcA hb]; omega
  have:=vy ha hb hab n (by omega)
  split <;> omega
theorem sm {P:Nat->Int} (h:QJ P=true):kM P (P 128) 64=1:=by
 unfold QJ at h
 simp only [Zca] at h
 obtain ⟨_,h0,h1,h2⟩:=qh h.1.1.1
 rcases h2 with h2 | h2 <;> rw [h2] <;> assumption
theorem Zbd {P:Nat->Int} {c x y:Int} (h:kM P c 64=1) (hx:(0<=x/\x < 64)/\P (sqI x)=6/\P (sqI x+1)=c) (hy:(0<=y/\y < 64)/\P (sqI y)=6/\P (sqI y+1)=c):x=y:=by
 obtain ⟨a,rfl⟩:∃ a:Nat,x=a:=⟨x.toNat,by omega⟩
 obtain ⟨b,rfl⟩:∃ b:Nat,y=b:=⟨y.toNat,by omega⟩
 rcases Nat.lt_trichotomy a b with e | e | e
 ·have:=vy hx.2 hy.2 e 64 (by omega); omega
 ·rw [e]
 have:=vy hy.2 hx.2 e 64 (by omega); omega
theorem pC {P:Nat->Int} (h:Vn P=true):QJ P=true:=by
 unfold Vn at h
 rw [Zca] at h
 exact h.1
theorem zb {P:Nat->Int} (hz:∀ i,133<=i->P i=0):XN P=if Vn P=true then (Rn P 64).filter (Wy P) else []:=by
 unfold XN xz
 rw [QG hz,allS_is]
theorem DA {P:Nat->Int} (hz:∀ i,133<=i->P i=0) {m:Mv}:m∈XN P↔Vn P=true/\m∈Rn P 64/\Wy P m=true:=by
 rw [zb hz]
 by_cases hp:Vn P=true
 ·rw [ZcA hp,Zch]; simp [hp]
 rw [Zcz hp]; simp [hp]
def Rz:List (S × V):=[(.int .i64 2,.s (.str ⟨#[78]⟩)),(.int .i64 3,.s (.str ⟨#[66]⟩)),(.int .i64 4,.s (.str ⟨#[82]⟩)),(.int .i64 5,.s (.str ⟨#[81]⟩)),(.int .i64 6,.s (.str ⟨#[75]⟩))]
theorem vt :WR AM 19 [] [] (fun v _ L=>v=.map 0/\(0,Blk.mp .var Rz)∈L):=by
 refine YL (a:=a19) rfl rfl (YI _) (ZQ rfl) (m:=0) rfl (Ze (Yq rfl (Zf (j5 (Us rfl rfl rfl rfl rfl rfl .here (Us rfl rfl rfl rfl rfl rfl .here (Us rfl rfl rfl rfl rfl rfl .here (Us rfl rfl rfl rfl rfl rfl .here (Us rfl rfl rfl rfl rfl rfl .here (Yq (v:=.map _) rfl (Yq (v:=.map _) rfl (Yc (Yi (⟨_,YH (v:=.map _) rfl (YW),?_⟩))))))))))))))
 exact ⟨rfl,.head _⟩
theorem EN:RN AM 19 [] [] (fun b=>.map b) (.mp .var Rz) []:=by
 obtain ⟨v,σ',n',L',h1,h2,rfl,h3⟩:=vt
 exact ⟨0,σ',h1,Zct _,(h2.2.mem h3).2,trivial⟩
def QW (x:Mv):List Mv->Int
 | []=>-1
 | y::l=>if x=y then 0 else if QW x l=-1 then -1 else QW x l+1
theorem td (x:Mv):∀ l:List Mv,-1<=QW x l/\QW x l < l.length
 | []=>⟨Int.le_refl _,by simp [QW]⟩
 | y::l=>by
  have:=td x l
  unfold QW
  rw [Zcd]
  split
  ·omega
  split <;> omega
theorem uW {x:Mv}:∀ {l:List Mv},(∀ i:Nat,i < l.length->x≠l.getD i (0,0,0))->QW x l=-1
 | [],_=>rfl
 | y::l,h=>by
  unfold QW
  have h0:=h 0 (by simp)
  have ih:=uW (x:=x) (l:=l) fun i hi=>by have:=h (i+1) (by simpa using hi); simpa using this
  rw [Zcz (fun e=>h0 (by simp [e])),ZcA ih]
theorem tz {x:Mv}:∀ {l:List Mv} {i:Nat},i < l.length->x=l.getD i (0,0,0)->(∀ j:Nat,j < i->x≠l.getD j (0,0,0))->QW x l=i
 | [],i,h,_,_=>by simp at h
 | y::l,0,_,h,_=>by
  unfold QW
  rw [ZcA (by simpa using h)]; rfl
 | y::l,i+1,hi,h,hn=>by
  unfold QW
  have h0:=hn 0 (by omega)
  have ih:=tz (x:=x) (l:=l) (i:=i) (by simpa using hi) (by simpa using h) fun j hj=>by have:=hn (j+1) (by omega); simpa using this
  rw [Zcz (fun e=>h0 (by simp [e])),Zcz (by omega),ih]; omega
theorem jZ {x:Mv}:∀ {l:List Mv},0<=QW x l↔x∈l
 | []=>by simp [QW]
 | y::l=>by
  have ih:=jZ (x:=x) (l:=l)
  have:=td x l
  unfold QW
  rw [Zco]
  by_cases e:x=y
  ·rw [ZcA e]; simp [e]
  rw [Zcz e]
  simp only [e,false_or]
  rw [<- ih]
  split <;> omega
theorem eq3 {P Q:Nat->Int} {m:Mv} (h0:Q 0=m.1) (h1:Q 1=m.2.1) (h2:Q 2=m.2.2):eqI 3 P Q=decide ((P 0,P 1,P 2)=m):=by
 rw [Zce,Qo,Zb7]
 constructor
 ·intro h
  exact Prod.ext ((h 0 (by omega)).trans h0) (Prod.ext ((h 1 (by omega)).trans h1) ((h 2 (by omega)).trans h2))
 rintro h
 have e0:=congrArg (fun m:Mv=>m.1) h
 have e1:=congrArg (fun m:Mv=>m.2.1) h
 have e2:=congrArg (fun m:Mv=>m.2.2) h
 exact three (e0.trans h0.symm) (e1.trans h1.symm) (e2.trans h2.symm)
theorem pM (M:Nat->Int) (l:List Mv) (hlen:l.length<=1000000):RdR AM 79 3 [] [.agg 3 (ia M)] (YV l) (.s (.int .i64 (QW (M 0,M 1,M 2) l))):=by
 refine WV fun v Bs hc=>?_
 refine YL (a:=a79) rfl rfl (YI _) (ZQ rfl) rfl ?_ (by first | rfl | (cases hc <;> rfl))
 have hr0:=hc.rx
 rw [show YZ 0 Bs=YZ 0 Bs++[] from (Zcf _).symm]
 generalize hown:YZ 0 Bs=own0 at hr0 ⊢
 refine Ze (YC rfl (Yq rfl (Yc (Ye (Ze (Yq (v:=v) rfl (Xk rfl hr0 (by decide) (YQ l) (Yq rfl (Yc (Yk (Xo (.cons_cons _ (ZbY (.refl _) .slnil)) (Xu (fun m f _ L=>∃ (i:Nat),(i<=l.length)/\(m=l.length - i)/\(∀ j:Nat,j < i->(M 0,M 1,M 2)≠l.getD j (0,0,0))/\(f 0=v)/\(f 3=.ptr Bs.length 0 3)/\(f 7=.s (.int .i64 l.length))/\(f 8=.s (.int .i64 i))/\(L=(Bs.length,.sc .var 3 (ia M))::(own0++[]))) (fun m f nb L hI=>?_) (l.length) (⟨0,by omega,by omega,fun j hj=>by omega,rfl,rfl,rfl,rfl,rfl⟩)))))))))))))
 obtain ⟨i,hi,hm,hn,k0,k3,k7,k8,rfl⟩:=hI
 refine Za 0 k0 (Za 3 k3 (Za 7 k7 (Za 8 k8 (Ze (Zr rfl (Yc (Ye (Yj rfl (fun h1=>?_) (fun h1=>?_))))))))) <;> simp only [NM] at h1
 ·skip
  refine Yh (Ye (Yk (Ze (Zj rfl (Zj rfl (Yc (Ye (Yg (Yo rfl rfl ZM (Yq (v:=v) rfl (Zj rfl ?_)))))))))))
  obtain ⟨b0,q0,md0,c0,F0,rfl,rfl,hF0⟩:=hr0.at (by decide) (YQ l) (by omega)
  refine Zx rfl rfl (Yp rfl rfl ZN ?_)
  obtain ⟨hx0,hx1,hx2⟩:=UE hF0 (i:=i) (by omega)
  have heq:=eq3 (P:=M) hx0 hx1 hx2
  refine Yx (b:=decide ((M 0,M 1,M 2)=(l.getD i (0,0,0)))) rfl rfl heq (Yc (Yj rfl (fun hdec=>?_) (fun hdec=>?_)))
  ·simp only [NM] at hdec
   (have hyes:(M 0,M 1,M 2)=(l.getD i (0,0,0)):=by simpa using hdec)
   refine Ze (Zj rfl (Zj rfl (Yc (Yi (⟨_,ZL rfl,?_⟩)))))
   refine ⟨ZJ ?_,(fun _ h=>(.tail _ h))⟩
   exact (tz (by omega) hyes hn).symm
  simp only [NM] at hdec
  (have hne:(M 0,M 1,M 2)≠(l.getD i (0,0,0)):=by simpa using hdec)
  refine Yh (Yf (Zs rfl rfl (Zj rfl (Yc (⟨l.length - (i+1),_,by omega,(.refl _),i+1,by omega,rfl,?_,rfl,rfl,rfl,rfl,rfl⟩)))))
  intro j hj
  by_cases e:j=i
  ·subst e; exact hne
  exact hn j (by omega)
 skip
 refine Y0 (Xb (Ze (Yq rfl (Yc (Yi (⟨_,ZL rfl,?_⟩))))))
 refine ⟨ZJ ?_,(fun _ h=>(.tail _ h))⟩
 exact (uW fun j hj=>hn j (by omega)).symm
theorem jT (M:Nat->Int) (l:List Mv) (hlen:l.length<=1000000):RdR AM 41 3 [] [.agg 3 (ia M)] (YV l) (.s (.bool (decide ((M 0,M 1,M 2)∈l)))):=by
 refine WV fun v Bs hc=>?_
 refine YL (a:=a41) rfl rfl (YI _) (ZQ rfl) rfl ?_ (by first | rfl | (cases hc <;> rfl))
 have hr0:=hc.rx
 rw [show YZ 0 Bs=YZ 0 Bs++[] from (Zcf _).symm]
 generalize hown:YZ 0 Bs=own0 at hr0 ⊢
 refine Ze (YC rfl (Yq rfl (Zf (Yq (v:=v) rfl (Yo rfl rfl ZM (XX (caps:=[]) rfl (pM M l hlen) rfl (hr0) (fun _ h=>(.tail _ (ZbV _ h))) rfl rfl rfl (Zr rfl (Zk rfl (Zg rfl (⟨ZI ?_,(fun _ h=>(.tail _ h))⟩))))))))))
 exact decide_eq_decide.2 jZ
theorem uo (P:Nat->Int):(XN P).length<=16896:=by
 unfold XN
 split
 ·exact Zcq (ZbU _ _) (vz _)
 exact Zct _
theorem jG (P M:Nat->Int):WR AM 13 [.agg 133 (ia P),.agg 3 (ia M)] [] (fun v _ _=>v=.s (.bool (decide ((M 0,M 1,M 2)∈XN P)))):=by
 refine YL (a:=a13) rfl rfl (YI _) (ZQ rfl) (m:=0) rfl (Ze (YC rfl (YC rfl (Yq rfl (Yc (Ye (Yg (Yo rfl rfl ZN (QC rfl (vo P) rfl rfl (fun v1 own1 n1 hr1=>Yo rfl rfl (ZbM _ ZM) (XX (caps:=[]) rfl (jT M (XN P) (Zcq (uo P) (YF rfl))) rfl (hr1.rx) (fun _ h=>(ZbV _ h)) rfl rfl rfl (Zk rfl (Zg rfl ?_)))))))))))))
 rfl
theorem oX (s:Int):WR AM 52 [.s (.int .i64 s)] [] (fun v _ _=>v=.s (.int .i64 (sC s))):=by
 refine YL (a:=a52) rfl rfl (YI _) (ZQ rfl) (m:=0) rfl (Ze (Yq rfl (Yc (Ye (Ze (Zj rfl (Zr rfl (Yc (Yj rfl (fun h1=>?_) (fun h1=>?_)))))))))) <;> simp only [NM] at h1
 ·refine Ze (Yq rfl (Yc (Yi (⟨_,ZL rfl,?_⟩))))
  refine ZJ ?_
  exact (ZcA (by omega)).symm
 refine Yh (Ze (Yq rfl (Yc (Yi (⟨_,ZL rfl,?_⟩)))))
 refine ZJ ?_
 exact (Zcz (by omega)).symm
def JZ (P:Nat->Int):Bool:=Vn P&&decide ((XN P).length=0)
theorem stuck_f {P:Nat->Int} (h:JZ P=false):Vn P=false\/0 < (XN P).length:=by
 unfold JZ at h
 cases hp:Vn P with
 | false=>exact .inl rfl
 | true =>
  rw [hp,Bool.true_and] at h
  have:=of_decide_eq_false h
  exact .inr (by omega)
theorem zu {P:Nat->Int} (h:JZ P=true):Vn P=true/\¬ 0 < (XN P).length:=by
 unfold JZ at h
 rw [Zca,Zb7] at h
 exact ⟨h.1,by omega⟩
theorem tY (P:Nat->Int) (hz:∀ i,133<=i->P i=0):WR AM 51 [.agg 133 (ia P)] [] (fun v _ _=>v=.s (.bool (JZ P))):=by
 refine YL (a:=a51) rfl rfl (YI _) (ZQ rfl) (m:=0) rfl (Ze (YC rfl (Yq rfl (Zf (Zy rfl (Yo rfl rfl ZM (Yt rfl (YP (Jo P)) rfl rfl rfl (Zk rfl (Ys (t:=6) rfl (fun h2=>?_) (fun h2=>?_))))))))))
 ·refine Yb rfl (Zy rfl (Yb rfl (Yo rfl rfl ZM (Yb rfl (YE rfl (vo P) rfl rfl (fun v1 own1 n1 hr1=>Yb rfl (Xk rfl hr1.rx (by decide) (YQ _) (Yb rfl (Zr rfl (Zq rfl (Zk rfl (Zg rfl (ZI ?_)))))))))))))
  unfold JZ
  (rw [show Vn P=true by assumption,Bool.true_and,Zce,Zcu,Zb7]; omega)
 refine Ya rfl rfl (ZE rfl (Zq rfl (Zk rfl (Zg rfl (ZI ?_)))))
 unfold JZ
 (rw [show Vn P=false by assumption]; rfl)
theorem of_walk (P:Nat->Int) (hz:∀ i,133<=i->P i=0):WR AM 24 [.agg 133 (ia P)] [] (fun v _ _=>v=.tup [.s (.int .i64 (ofN P (XN P).length).1),.s (.int .i64 (ofN P (XN P).length).2)]):=by
 have hid:ovA (fun _=>0) 0 133 P=P:=QG hz
 refine YL (a:=a24) rfl rfl (YI _) (ZQ rfl) (m:=0) rfl (Ze (YC rfl (Yq rfl (Yq rfl (Yc (Ye (Ze (Yo rfl rfl ZM (YB rfl (.agg rfl .nil) ?_)))))))))
 rw [hid]
 refine Yy (Yz rfl rfl rfl rfl .here ?_)
 rw [hid]
 refine Yc (Yk (Ze (Yo rfl rfl ZM (Yt rfl (YP (tY P hz)) rfl rfl rfl (Yv (r:=.bool _) rfl rfl (Zk rfl (Yc (Yj rfl (fun h3=>?_) (fun h3=>?_))))))))) <;> simp only [NM] at h3
 ·refine Ze (Yq rfl (Yq rfl (Yc (Yi (⟨_,YH (v:=.s (.int _ _)) rfl (ZL rfl),?_⟩)))))
  (rw [of_open (stuck_f (by assumption))]; rfl)
 refine Ze (Yo rfl rfl ZN (Zy rfl (Yd (o':=128) rfl rfl rfl (Ym (x:=P 128) rfl rfl ZM (rfl) (Yt rfl (RR P (P 128)) rfl rfl rfl (Zk rfl (Yc (Yj rfl (fun h4=>?_) (fun h4=>?_)))))))))
 ·refine Ze (Zy rfl (Yd (o':=128) rfl rfl rfl (Ym (x:=P 128) rfl rfl ZM (rfl) (Yt rfl (YP (VW _)) rfl rfl rfl (Yt rfl (YP (oX _)) rfl rfl rfl (Zj rfl (Yq rfl (Yc (Yi (⟨_,YH (v:=.s (.int _ _)) rfl (ZL rfl),?_⟩))))))))))
  (rw [of_mate (zu (by assumption)).1 (zu (by assumption)).2 (by assumption)]; rfl)
 refine Yh (Ze (Yq rfl (Yq rfl (Yc (Yi (⟨_,YH (v:=.s (.int _ _)) rfl (ZL rfl),?_⟩))))))
 (rw [ZaB (zu (by assumption)).1 (zu (by assumption)).2 (by assumption)]; rfl)
def kI (P:Nat->Int) (c:Int) (s:Nat):Int:=if P (s*2)=6/\P (s*2+1)=c then 1 else 0
def okX (X:Nat->Int):Prop:=(X 0=0/\X 1=0)\/((1<=X 0/\X 0<=6/\(X 1=0\/X 1=1))/\X 0≠1)
def XB (k:Int):ByteArray:=if k=2 then ⟨#[78]⟩ else if k=3 then ⟨#[66]⟩ else if k=4 then ⟨#[82]⟩ else if k=5 then ⟨#[81]⟩ else if k=6 then ⟨#[75]⟩ else ⟨#[]⟩
theorem W6 (k:Int):(QT (.int .i64 k) Rz).getD (.s (.str ⟨#[]⟩))=.s (.str (XB k)):=by
 by_cases h2:k=2
 ·subst h2; rfl
 by_cases h3:k=3
 ·subst h3; rfl
 by_cases h4:k=4
 ·subst h4; rfl
 by_cases h5:k=5
 ·subst h5; rfl
 by_cases h6:k=6
 ·subst h6; rfl
 simp [QT,Rz,S.eqB,XB,h2,h3,h4,h5,h6,Ne.symm h2,Ne.symm h3,Ne.symm h4,Ne.symm h5,Ne.symm h6]
theorem Qn (k:Int):(XB k).size=if 2<=k/\k<=6 then 1 else 0:=by
 unfold XB
 by_cases h2:k=2
 ·subst h2; rfl
 by_cases h3:k=3
 ·subst h3; rfl
 by_cases h4:k=4
 ·subst h4; rfl
 by_cases h5:k=5
 ·subst h5; rfl
 by_cases h6:k=6
 ·subst h6; rfl
 rw [Zcz h2,Zcz h3,Zcz h4,Zcz h5,Zcz h6,Zcz (by omega)]; rfl
theorem Zau:XB 1=⟨#[]⟩:=rfl
theorem V5 (k:Int):(XB k).size<=1:=by rw [Qn]; split <;> omega
theorem YU {x:Int} (h:0<=x/\x < 64):(YS x).size=2:=by rw [ZdH h]; rfl
def Jw (c:Int):ByteArray:=if c=-1 then ⟨#[45]⟩ else ⟨#[120]⟩
theorem VM {c:Int} (h:c=-1):Jw c=⟨#[45]⟩:=ZcA h
theorem Vm {c:Int} (h:c≠-1):Jw c=⟨#[120]⟩:=Zcz h
theorem rD (c:Int):(Jw c).size=1:=by unfold Jw; split <;> rfl
def QP (P:Nat->Int) (a t:Int):ByteArray:=XB (P (sqI a))++YS a++Jw (Y7 P (P (sqI a)) a t)++YS t
def WG (P:Nat->Int) (a t b:Int):ByteArray :=
 if P (sqI a)=6/\t - a=2 then ⟨#[79,45,79]⟩ else if P (sqI a)=6/\t - a=-2 then ⟨#[79,45,79,45,79]⟩ else if b=0 then QP P a t else QP P a t++⟨#[61]⟩++XB b
def zt (Q:Nat->Int) (s:ByteArray):ByteArray:=if (ofN Q (XN Q).length).2=1 then s++⟨#[35]⟩ else if WU Q (Q 128)=true then s++⟨#[43]⟩ else s
def UW (P:Nat->Int) (a t b:Int):ByteArray:=zt (XV P a t b) (WG P a t b)
theorem V2 {P:Nat->Int} {a t:Int} (ha:0<=a/\a < 64) (ht:0<=t/\t < 64):5<=(QP P a t).size/\(QP P a t).size<=6:=by
 unfold QP
 simp only [ZbP,YU ha,YU ht,rD]
 have:=V5 (P (sqI a))
 omega
theorem p7 {P:Nat->Int} {a t b:Int} (ha:0<=a/\a < 64) (ht:0<=t/\t < 64):(WG P a t b).size≠0/\(WG P a t b).size<=16:=by
 have h:=V2 (P:=P) ha ht
 have h2:=V5 b
 have h3:(⟨#[61]⟩:ByteArray).size=1:=rfl
 unfold WG
 split
 ·exact ⟨by decide,by decide⟩
 split
 ·exact ⟨by decide,by decide⟩
 split
 ·omega
 simp only [ZbP]; omega
theorem body_O {P:Nat->Int} {a t b:Int} (h:P (sqI a)=6) (h2:t - a=2):(⟨#[79,45,79]⟩:ByteArray)=WG P a t b:=by unfold WG; rw [ZcA ⟨h,h2⟩]
theorem body_OO {P:Nat->Int} {a t b:Int} (h:P (sqI a)=6) (h2:t - a=-2):(⟨#[79,45,79,45,79]⟩:ByteArray)=WG P a t b:=by unfold WG; rw [Zcz (by omega),ZcA ⟨h,h2⟩]
theorem Jd {P:Nat->Int} {a t b:Int} (h1:¬ (P (sqI a)=6/\t - a=2)) (h2:¬ (P (sqI a)=6/\t - a=-2)) (hb:b=0) {s:ByteArray} (hs:s=QP P a t):s=WG P a t b:=by unfold WG; rw [Zcz h1,Zcz h2,ZcA hb,hs]
theorem Je {P:Nat->Int} {a t b:Int} (h1:¬ (P (sqI a)=6/\t - a=2)) (h2:¬ (P (sqI a)=6/\t - a=-2)) (hb:b≠0) {s:ByteArray} (hs:s=QP P a t):s++⟨#[61]⟩++XB b=WG P a t b:=by unfold WG; rw [Zcz h1,Zcz h2,Zcz hb,hs]
theorem UI {P:Nat->Int} {a t:Int} {g:ByteArray} (hg:g=Jw (Y7 P (P (sqI a)) a t)):XB (P (sqI a))++YS a++g++YS t=QP P a t:=by rw [hg]; rfl
theorem UK {P:Nat->Int} {a t:Int} {g:ByteArray} (hk:P (sqI a)=1) (hg:g=Jw (Y7 P (P (sqI a)) a t)):YS a++g++YS t=QP P a t:=by
 rw [hg]; unfold QP
 rw [hk,Zau,show (⟨#[]⟩:ByteArray)++YS a=YS a from ByteArray.empty_append]
theorem Zaz (P M:Nat->Int) (hz:∀ i,133<=i->P i=0) (hm:(M 0,M 1,M 2)∈XN P):WR AM 8 [.agg 133 (ia P),.agg 3 (ia M)] [] (fun v _ _=>v=.tup [.s (.str (UW P (M 0) (M 1) (M 2))),.s (.int .i64 0)]):=by
 have his:=YP (jG P M)
 rw [Zcl hm] at his
 obtain ⟨h1p,h2p,h3p⟩:=(DA hz).1 hm
 obtain ⟨hsq,htq,hg,hmt⟩:=yH h2p
 have he:=mv_can h2p
 obtain ⟨hk6,_,_,hne⟩:=yj hg
 simp only at hsq htq hg hmt he hk6 hne
 have htk:=YP (sV P M)
 rw [ZcA he] at htk
 have hmv:=YP (qS P M)
 rw [he] at hmv
 have hsz:=p7 (P:=P) (b:=M 2) hsq htq
 refine YL (a:=a8) rfl rfl (YI _) (ZQ rfl) (m:=0) rfl (Ze (YC rfl (YC rfl (Yq rfl (Yq rfl (Yc (Ye (Ze (Yo rfl rfl ZN (Yo rfl rfl ZM (Yt rfl (his) rfl rfl rfl (Yv (r:=.bool _) rfl rfl (Yc (ZB rfl (Yh (Ye (Yg (Rr (v:=.aggv [.pnil,.snil]) rfl (w4 rfl rfl (sL w5 rfl rfl EN (Zy rfl (Ym (x:=M 0) rfl rfl ZO (rfl) (Zy rfl (Zw rfl rfl rfl (Yp rfl rfl ZP (Yy (Zl rfl (Yq (v:=.map _) rfl (Yz rfl rfl rfl rfl .here ?_)))))))))))))))))))))))))))))
 refine Yc (Wz (fun f n L=>∃ (kb:Nat) (s:ByteArray),(s=WG P (M 0) (M 1) (M 2))/\(f 2=.ptr 0 0 133)/\(f 3=.ptr 1 0 3)/\(f 6=.ptr 2 0 2)/\(L=[(kb,.sc (.gty 5) s.size (Xv s)),(2,UU 54 2 kb s.size),(1,.sc .var 3 (ia M)),(0,.sc .var 133 (ia P))])) ?_ (fun f nb L hI=>?_))
 ·refine Ze (Zz rfl (Ym (x:=M 1) rfl rfl ZP (rfl) (Zy rfl (Ym (x:=M 0) rfl rfl ZP (rfl) (Zt rfl rfl (Zj rfl (Yc (Yk (Ze (Zy rfl (Ym (x:=(P (sqI (M 0)))) rfl rfl ZM (rfl) (Zr rfl (Zk rfl (Ys (t:=64) rfl (fun h64=>?_) (fun h64=>?_))))))))))))))) <;> simp only [NM] at h64
  ·refine Yb rfl (Zj rfl (Yb rfl (Zr rfl (Zq rfl (Zk rfl (Yc (Yj rfl (fun h60=>?_) (fun h60=>?_)))))))) <;> simp only [NM] at h60
   ·refine Yf (Zl rfl (Rq rfl (XH (Lr:=[(_,_)]) (L0:=[_,_,_,_]) (ki (gS1 ⟨#[79,45,79]⟩) (.ex 1) ⟨#[79,45,79]⟩ rfl (by decide) (by decide)) rfl rfl (Zcj (.refl _) ((Zcm _ ((Zcm _ ((Zcm _ (.refl _)).trans (.swap _ _ _))).trans (.swap _ _ _))).trans (.swap _ _ _))) rfl rfl rfl rfl rfl rfl rfl (Yc ?_))))
    refine ⟨_,(.cons_cons _ (.cons_cons _ (.cons _ (.cons _ (.cons _ (.refl _)))))),6,_,body_O h64 h60,rfl,rfl,rfl,rfl⟩
   refine Ze (Zy rfl (Ym (x:=(P (sqI (M 0)))) rfl rfl ZM (rfl) (Zr rfl (Zk rfl (Ys (t:=75) rfl (fun h75=>?_) (fun h75=>?_)))))) <;> simp only [NM] at h75
   ·refine Yb rfl (Zj rfl (Yb rfl (Zr rfl (Zq rfl (Zk rfl (Yc (Yj rfl (fun h71=>?_) (fun h71=>?_)))))))) <;> simp only [NM] at h71
    ·refine Yf (Zl rfl (Rq rfl (XH (Lr:=[(_,_)]) (L0:=[_,_,_,_]) (ki (gS1 ⟨#[79,45,79,45,79]⟩) (.ex 1) ⟨#[79,45,79,45,79]⟩ rfl (by decide) (by decide)) rfl rfl (Zcj (.refl _) ((Zcm _ ((Zcm _ ((Zcm _ (.refl _)).trans (.swap _ _ _))).trans (.swap _ _ _))).trans (.swap _ _ _))) rfl rfl rfl rfl rfl rfl rfl (Yc ?_))))
     refine ⟨_,(.cons_cons _ (.cons_cons _ (.cons _ (.cons _ (.cons _ (.refl _)))))),6,_,body_OO h75 h71,rfl,rfl,rfl,rfl⟩
    refine Ze (Yq rfl (Yc (Ye (Ze (Yo rfl rfl (.tail _ ZP) (Yo rfl rfl ZP (Yt rfl (htk) rfl rfl rfl (Zr rfl (Yc (Yj rfl (fun h35=>?_) (fun h35=>?_))))))))))) <;> simp only [NM] at h35
    ·refine Yf (Yq rfl (Yc (Ye (Yg (Zl rfl (Yq (v:=.map _) rfl (Zy rfl (Ym (x:=(P (sqI (M 0)))) rfl rfl ZM (rfl) (WK rfl rfl ZN rfl (W6 _) (Zy rfl (Ym (x:=M 0) rfl rfl ZP (rfl) (Yu rfl (WH _) rfl rfl rfl (Yq (v:=.s _) rfl (Zz rfl (Ym (x:=M 1) rfl rfl ZP (rfl) (Yu rfl (WH _) rfl rfl rfl (EP rfl rfl rfl rfl ?_)))))))))))))))))
     by_cases hk1:P (sqI (M 0))=1
     ·refine XH (Lr:=[(_,_)]) (L0:=[_,_,_,_]) (Tb (gS4 (XB (P (sqI (M 0)))) (YS (M 0)) ⟨#[120]⟩ (YS (M 1))) (.ex 4) (XB (P (sqI (M 0)))) (YS (M 0)) ⟨#[120]⟩ (YS (M 1)) rfl rfl rfl rfl (by rw [hk1]; rfl) (by rw [YU hsq]; omega) (by rw [YU hsq,YU htq]; exact YF rfl)) rfl rfl (Zcj (.refl _) ((Zcm _ ((Zcm _ ((Zcm _ (.refl _)).trans (.swap _ _ _))).trans (.swap _ _ _))).trans (.swap _ _ _))) rfl rfl rfl rfl rfl rfl rfl (Zf (Yd (o':=2) rfl rfl rfl (Ym (x:=M 2) rfl rfl (.tail _ (.tail _ ZP)) (rfl) (Zr rfl (Yc (Yj rfl (fun h52=>?_) (fun h52=>?_))))))) <;> simp only [NM] at h52
      ·refine Yf (Zl rfl (Yq (v:=.map _) rfl (Yd (o':=2) rfl rfl rfl (Ym (x:=M 2) rfl rfl (.tail _ (.tail _ ZP)) (rfl) (WK rfl rfl (.tail _ ZP) rfl (W6 _) (Qc rfl rfl (XH (Lr:=[(_,_),(_,_)]) (L0:=[_,_,_,_,_]) (U1 (gS2 ⟨#[61]⟩ (XB (M 2))) (.ex 2) ⟨#[61]⟩ (XB (M 2)) (YS (M 0)++⟨#[120]⟩++YS (M 1)) rfl rfl (by rw [UK hk1 ((Vm h35).symm)]; have h8:=V5 (M 2); have h9:=V2 (P:=P) hsq htq; have h7:(⟨#[61]⟩:ByteArray).size=1:=rfl; omega)) rfl rfl (Zcj (Zcj (.refl _) ((Zcm _ (.refl _)).trans (.swap _ _ _))) ((Zcm _ ((Zcm _ (.refl _)).trans (.swap _ _ _))).trans (.swap _ _ _))) rfl rfl rfl rfl rfl rfl rfl (Yc ?_))))))))
       refine ⟨_,(.cons_cons _ (.cons_cons _ (.cons _ (.cons _ (.cons _ (.cons _ (.cons _ (.refl _)))))))),8,_,Je (fun q=>h60 q.2) (fun q=>h71 q.2) h52 (UK hk1 ((Vm h35).symm)),rfl,rfl,rfl,rfl⟩
      refine Yh ?_
      refine ⟨_,(.cons_cons _ (.cons_cons _ (.cons _ (.cons _ (.cons _ (.refl _)))))),6,_,Jd (fun q=>h60 q.2) (fun q=>h71 q.2) h52 (UK hk1 ((Vm h35).symm)),rfl,rfl,rfl,rfl⟩
     refine XH (Lr:=[(_,_)]) (L0:=[_,_,_,_]) (Es (gS4 (XB (P (sqI (M 0)))) (YS (M 0)) ⟨#[120]⟩ (YS (M 1))) (.ex 4) (XB (P (sqI (M 0)))) (YS (M 0)) ⟨#[120]⟩ (YS (M 1)) rfl rfl rfl rfl (by rw [Qn,ZcA (by omega)]; omega) (by rw [YU hsq,YU htq,Qn,ZcA (by omega)]; exact YF rfl)) rfl rfl (Zcj (.refl _) ((Zcm _ ((Zcm _ ((Zcm _ (.refl _)).trans (.swap _ _ _))).trans (.swap _ _ _))).trans (.swap _ _ _))) rfl rfl rfl rfl rfl rfl rfl (Zf (Yd (o':=2) rfl rfl rfl (Ym (x:=M 2) rfl rfl (.tail _ (.tail _ ZP)) (rfl) (Zr rfl (Yc (Yj rfl (fun h52=>?_) (fun h52=>?_))))))) <;> simp only [NM] at h52
     ·refine Yf (Zl rfl (Yq (v:=.map _) rfl (Yd (o':=2) rfl rfl rfl (Ym (x:=M 2) rfl rfl (.tail _ (.tail _ ZP)) (rfl) (WK rfl rfl (.tail _ ZP) rfl (W6 _) (Qc rfl rfl (XH (Lr:=[(_,_),(_,_)]) (L0:=[_,_,_,_,_]) (U1 (gS2 ⟨#[61]⟩ (XB (M 2))) (.ex 2) ⟨#[61]⟩ (XB (M 2)) (XB (P (sqI (M 0)))++YS (M 0)++⟨#[120]⟩++YS (M 1)) rfl rfl (by rw [UI ((Vm h35).symm)]; have h8:=V5 (M 2); have h9:=V2 (P:=P) hsq htq; have h7:(⟨#[61]⟩:ByteArray).size=1:=rfl; omega)) rfl rfl (Zcj (Zcj (.refl _) ((Zcm _ (.refl _)).trans (.swap _ _ _))) ((Zcm _ ((Zcm _ (.refl _)).trans (.swap _ _ _))).trans (.swap _ _ _))) rfl rfl rfl rfl rfl rfl rfl (Yc ?_))))))))
      refine ⟨_,(.cons_cons _ (.cons_cons _ (.cons _ (.cons _ (.cons _ (.cons _ (.cons _ (.refl _)))))))),8,_,Je (fun q=>h60 q.2) (fun q=>h71 q.2) h52 (UI ((Vm h35).symm)),rfl,rfl,rfl,rfl⟩
     refine Yh ?_
     refine ⟨_,(.cons_cons _ (.cons_cons _ (.cons _ (.cons _ (.cons _ (.refl _)))))),6,_,Jd (fun q=>h60 q.2) (fun q=>h71 q.2) h52 (UI ((Vm h35).symm)),rfl,rfl,rfl,rfl⟩
    refine Yh (Ye (Yg (Zl rfl (Yq (v:=.map _) rfl (Zy rfl (Ym (x:=(P (sqI (M 0)))) rfl rfl ZM (rfl) (WK rfl rfl ZN rfl (W6 _) (Zy rfl (Ym (x:=M 0) rfl rfl ZP (rfl) (Yu rfl (WH _) rfl rfl rfl (Yq (v:=.s _) rfl (Zz rfl (Ym (x:=M 1) rfl rfl ZP (rfl) (Yu rfl (WH _) rfl rfl rfl (EP rfl rfl rfl rfl ?_)))))))))))))))
    by_cases hk1:P (sqI (M 0))=1
    ·refine XH (Lr:=[(_,_)]) (L0:=[_,_,_,_]) (Tb (gS4 (XB (P (sqI (M 0)))) (YS (M 0)) ⟨#[45]⟩ (YS (M 1))) (.ex 4) (XB (P (sqI (M 0)))) (YS (M 0)) ⟨#[45]⟩ (YS (M 1)) rfl rfl rfl rfl (by rw [hk1]; rfl) (by rw [YU hsq]; omega) (by rw [YU hsq,YU htq]; exact YF rfl)) rfl rfl (Zcj (.refl _) ((Zcm _ ((Zcm _ ((Zcm _ (.refl _)).trans (.swap _ _ _))).trans (.swap _ _ _))).trans (.swap _ _ _))) rfl rfl rfl rfl rfl rfl rfl (Zf (Yd (o':=2) rfl rfl rfl (Ym (x:=M 2) rfl rfl (.tail _ (.tail _ ZP)) (rfl) (Zr rfl (Yc (Yj rfl (fun h52=>?_) (fun h52=>?_))))))) <;> simp only [NM] at h52
     ·refine Yf (Zl rfl (Yq (v:=.map _) rfl (Yd (o':=2) rfl rfl rfl (Ym (x:=M 2) rfl rfl (.tail _ (.tail _ ZP)) (rfl) (WK rfl rfl (.tail _ ZP) rfl (W6 _) (Qc rfl rfl (XH (Lr:=[(_,_),(_,_)]) (L0:=[_,_,_,_,_]) (U1 (gS2 ⟨#[61]⟩ (XB (M 2))) (.ex 2) ⟨#[61]⟩ (XB (M 2)) (YS (M 0)++⟨#[45]⟩++YS (M 1)) rfl rfl (by rw [UK hk1 ((VM h35).symm)]; have h8:=V5 (M 2); have h9:=V2 (P:=P) hsq htq; have h7:(⟨#[61]⟩:ByteArray).size=1:=rfl; omega)) rfl rfl (Zcj (Zcj (.refl _) ((Zcm _ (.refl _)).trans (.swap _ _ _))) ((Zcm _ ((Zcm _ (.refl _)).trans (.swap _ _ _))).trans (.swap _ _ _))) rfl rfl rfl rfl rfl rfl rfl (Yc ?_))))))))
      refine ⟨_,(.cons_cons _ (.cons_cons _ (.cons _ (.cons _ (.cons _ (.cons _ (.cons _ (.refl _)))))))),8,_,Je (fun q=>h60 q.2) (fun q=>h71 q.2) h52 (UK hk1 ((VM h35).symm)),rfl,rfl,rfl,rfl⟩
     refine Yh ?_
     refine ⟨_,(.cons_cons _ (.cons_cons _ (.cons _ (.cons _ (.cons _ (.refl _)))))),6,_,Jd (fun q=>h60 q.2) (fun q=>h71 q.2) h52 (UK hk1 ((VM h35).symm)),rfl,rfl,rfl,rfl⟩
    refine XH (Lr:=[(_,_)]) (L0:=[_,_,_,_]) (Es (gS4 (XB (P (sqI (M 0)))) (YS (M 0)) ⟨#[45]⟩ (YS (M 1))) (.ex 4) (XB (P (sqI (M 0)))) (YS (M 0)) ⟨#[45]⟩ (YS (M 1)) rfl rfl rfl rfl (by rw [Qn,ZcA (by omega)]; omega) (by rw [YU hsq,YU htq,Qn,ZcA (by omega)]; exact YF rfl)) rfl rfl (Zcj (.refl _) ((Zcm _ ((Zcm _ ((Zcm _ (.refl _)).trans (.swap _ _ _))).trans (.swap _ _ _))).trans (.swap _ _ _))) rfl rfl rfl rfl rfl rfl rfl (Zf (Yd (o':=2) rfl rfl rfl (Ym (x:=M 2) rfl rfl (.tail _ (.tail _ ZP)) (rfl) (Zr rfl (Yc (Yj rfl (fun h52=>?_) (fun h52=>?_))))))) <;> simp only [NM] at h52
    ·refine Yf (Zl rfl (Yq (v:=.map _) rfl (Yd (o':=2) rfl rfl rfl (Ym (x:=M 2) rfl rfl (.tail _ (.tail _ ZP)) (rfl) (WK rfl rfl (.tail _ ZP) rfl (W6 _) (Qc rfl rfl (XH (Lr:=[(_,_),(_,_)]) (L0:=[_,_,_,_,_]) (U1 (gS2 ⟨#[61]⟩ (XB (M 2))) (.ex 2) ⟨#[61]⟩ (XB (M 2)) (XB (P (sqI (M 0)))++YS (M 0)++⟨#[45]⟩++YS (M 1)) rfl rfl (by rw [UI ((VM h35).symm)]; have h8:=V5 (M 2); have h9:=V2 (P:=P) hsq htq; have h7:(⟨#[61]⟩:ByteArray).size=1:=rfl; omega)) rfl rfl (Zcj (Zcj (.refl _) ((Zcm _ (.refl _)).trans (.swap _ _ _))) ((Zcm _ ((Zcm _ (.refl _)).trans (.swap _ _ _))).trans (.swap _ _ _))) rfl rfl rfl rfl rfl rfl rfl (Yc ?_))))))))
     refine ⟨_,(.cons_cons _ (.cons_cons _ (.cons _ (.cons _ (.cons _ (.cons _ (.cons _ (.refl _)))))))),8,_,Je (fun q=>h60 q.2) (fun q=>h71 q.2) h52 (UI ((VM h35).symm)),rfl,rfl,rfl,rfl⟩
    refine Yh ?_
    refine ⟨_,(.cons_cons _ (.cons_cons _ (.cons _ (.cons _ (.cons _ (.refl _)))))),6,_,Jd (fun q=>h60 q.2) (fun q=>h71 q.2) h52 (UI ((VM h35).symm)),rfl,rfl,rfl,rfl⟩
   exfalso; omega
  refine ZD rfl (Zq rfl (Zk rfl (Yc (ZB rfl (Ze (Zy rfl (Ym (x:=(P (sqI (M 0)))) rfl rfl ZM (rfl) (Zr rfl (Zk rfl (Ys (t:=75) rfl (fun h75=>?_) (fun h75=>?_))))))))))) <;> simp only [NM] at h75
  ·exfalso; omega
  refine ZD rfl (Zq rfl (Zk rfl (Yc (ZB rfl (Ze (Yq rfl (Yc (Ye (Ze (Yo rfl rfl (.tail _ ZP) (Yo rfl rfl ZP (Yt rfl (htk) rfl rfl rfl (Zr rfl (Yc (Yj rfl (fun h35=>?_) (fun h35=>?_)))))))))))))))) <;> simp only [NM] at h35
  ·refine Yf (Yq rfl (Yc (Ye (Yg (Zl rfl (Yq (v:=.map _) rfl (Zy rfl (Ym (x:=(P (sqI (M 0)))) rfl rfl ZM (rfl) (WK rfl rfl ZN rfl (W6 _) (Zy rfl (Ym (x:=M 0) rfl rfl ZP (rfl) (Yu rfl (WH _) rfl rfl rfl (Yq (v:=.s _) rfl (Zz rfl (Ym (x:=M 1) rfl rfl ZP (rfl) (Yu rfl (WH _) rfl rfl rfl (EP rfl rfl rfl rfl ?_)))))))))))))))))
   by_cases hk1:P (sqI (M 0))=1
   ·refine XH (Lr:=[(_,_)]) (L0:=[_,_,_,_]) (Tb (gS4 (XB (P (sqI (M 0)))) (YS (M 0)) ⟨#[120]⟩ (YS (M 1))) (.ex 4) (XB (P (sqI (M 0)))) (YS (M 0)) ⟨#[120]⟩ (YS (M 1)) rfl rfl rfl rfl (by rw [hk1]; rfl) (by rw [YU hsq]; omega) (by rw [YU hsq,YU htq]; exact YF rfl)) rfl rfl (Zcj (.refl _) ((Zcm _ ((Zcm _ ((Zcm _ (.refl _)).trans (.swap _ _ _))).trans (.swap _ _ _))).trans (.swap _ _ _))) rfl rfl rfl rfl rfl rfl rfl (Zf (Yd (o':=2) rfl rfl rfl (Ym (x:=M 2) rfl rfl (.tail _ (.tail _ ZP)) (rfl) (Zr rfl (Yc (Yj rfl (fun h52=>?_) (fun h52=>?_))))))) <;> simp only [NM] at h52
    ·refine Yf (Zl rfl (Yq (v:=.map _) rfl (Yd (o':=2) rfl rfl rfl (Ym (x:=M 2) rfl rfl (.tail _ (.tail _ ZP)) (rfl) (WK rfl rfl (.tail _ ZP) rfl (W6 _) (Qc rfl rfl (XH (Lr:=[(_,_),(_,_)]) (L0:=[_,_,_,_,_]) (U1 (gS2 ⟨#[61]⟩ (XB (M 2))) (.ex 2) ⟨#[61]⟩ (XB (M 2)) (YS (M 0)++⟨#[120]⟩++YS (M 1)) rfl rfl (by rw [UK hk1 ((Vm h35).symm)]; have h8:=V5 (M 2); have h9:=V2 (P:=P) hsq htq; have h7:(⟨#[61]⟩:ByteArray).size=1:=rfl; omega)) rfl rfl (Zcj (Zcj (.refl _) ((Zcm _ (.refl _)).trans (.swap _ _ _))) ((Zcm _ ((Zcm _ (.refl _)).trans (.swap _ _ _))).trans (.swap _ _ _))) rfl rfl rfl rfl rfl rfl rfl (Yc ?_))))))))
     refine ⟨_,(.cons_cons _ (.cons_cons _ (.cons _ (.cons _ (.cons _ (.cons _ (.cons _ (.refl _)))))))),8,_,Je (fun q=>h64 q.1) (fun q=>h75 q.1) h52 (UK hk1 ((Vm h35).symm)),rfl,rfl,rfl,rfl⟩
    refine Yh ?_
    refine ⟨_,(.cons_cons _ (.cons_cons _ (.cons _ (.cons _ (.cons _ (.refl _)))))),6,_,Jd (fun q=>h64 q.1) (fun q=>h75 q.1) h52 (UK hk1 ((Vm h35).symm)),rfl,rfl,rfl,rfl⟩
   refine XH (Lr:=[(_,_)]) (L0:=[_,_,_,_]) (Es (gS4 (XB (P (sqI (M 0)))) (YS (M 0)) ⟨#[120]⟩ (YS (M 1))) (.ex 4) (XB (P (sqI (M 0)))) (YS (M 0)) ⟨#[120]⟩ (YS (M 1)) rfl rfl rfl rfl (by rw [Qn,ZcA (by omega)]; omega) (by rw [YU hsq,YU htq,Qn,ZcA (by omega)]; exact YF rfl)) rfl rfl (Zcj (.refl _) ((Zcm _ ((Zcm _ ((Zcm _ (.refl _)).trans (.swap _ _ _))).trans (.swap _ _ _))).trans (.swap _ _ _))) rfl rfl rfl rfl rfl rfl rfl (Zf (Yd (o':=2) rfl rfl rfl (Ym (x:=M 2) rfl rfl (.tail _ (.tail _ ZP)) (rfl) (Zr rfl (Yc (Yj rfl (fun h52=>?_) (fun h52=>?_))))))) <;> simp only [NM] at h52
   ·refine Yf (Zl rfl (Yq (v:=.map _) rfl (Yd (o':=2) rfl rfl rfl (Ym (x:=M 2) rfl rfl (.tail _ (.tail _ ZP)) (rfl) (WK rfl rfl (.tail _ ZP) rfl (W6 _) (Qc rfl rfl (XH (Lr:=[(_,_),(_,_)]) (L0:=[_,_,_,_,_]) (U1 (gS2 ⟨#[61]⟩ (XB (M 2))) (.ex 2) ⟨#[61]⟩ (XB (M 2)) (XB (P (sqI (M 0)))++YS (M 0)++⟨#[120]⟩++YS (M 1)) rfl rfl (by rw [UI ((Vm h35).symm)]; have h8:=V5 (M 2); have h9:=V2 (P:=P) hsq htq; have h7:(⟨#[61]⟩:ByteArray).size=1:=rfl; omega)) rfl rfl (Zcj (Zcj (.refl _) ((Zcm _ (.refl _)).trans (.swap _ _ _))) ((Zcm _ ((Zcm _ (.refl _)).trans (.swap _ _ _))).trans (.swap _ _ _))) rfl rfl rfl rfl rfl rfl rfl (Yc ?_))))))))
    refine ⟨_,(.cons_cons _ (.cons_cons _ (.cons _ (.cons _ (.cons _ (.cons _ (.cons _ (.refl _)))))))),8,_,Je (fun q=>h64 q.1) (fun q=>h75 q.1) h52 (UI ((Vm h35).symm)),rfl,rfl,rfl,rfl⟩
   refine Yh ?_
   refine ⟨_,(.cons_cons _ (.cons_cons _ (.cons _ (.cons _ (.cons _ (.refl _)))))),6,_,Jd (fun q=>h64 q.1) (fun q=>h75 q.1) h52 (UI ((Vm h35).symm)),rfl,rfl,rfl,rfl⟩
  refine Yh (Ye (Yg (Zl rfl (Yq (v:=.map _) rfl (Zy rfl (Ym (x:=(P (sqI (M 0)))) rfl rfl ZM (rfl) (WK rfl rfl ZN rfl (W6 _) (Zy rfl (Ym (x:=M 0) rfl rfl ZP (rfl) (Yu rfl (WH _) rfl rfl rfl (Yq (v:=.s _) rfl (Zz rfl (Ym (x:=M 1) rfl rfl ZP (rfl) (Yu rfl (WH _) rfl rfl rfl (EP rfl rfl rfl rfl ?_)))))))))))))))
  by_cases hk1:P (sqI (M 0))=1
  ·refine XH (Lr:=[(_,_)]) (L0:=[_,_,_,_]) (Tb (gS4 (XB (P (sqI (M 0)))) (YS (M 0)) ⟨#[45]⟩ (YS (M 1))) (.ex 4) (XB (P (sqI (M 0)))) (YS (M 0)) ⟨#[45]⟩ (YS (M 1)) rfl rfl rfl rfl (by rw [hk1]; rfl) (by rw [YU hsq]; omega) (by rw [YU hsq,YU htq]; exact YF rfl)) rfl rfl (Zcj (.refl _) ((Zcm _ ((Zcm _ ((Zcm _ (.refl _)).trans (.swap _ _ _))).trans (.swap _ _ _))).trans (.swap _ _ _))) rfl rfl rfl rfl rfl rfl rfl (Zf (Yd (o':=2) rfl rfl rfl (Ym (x:=M 2) rfl rfl (.tail _ (.tail _ ZP)) (rfl) (Zr rfl (Yc (Yj rfl (fun h52=>?_) (fun h52=>?_))))))) <;> simp only [NM] at h52
   ·refine Yf (Zl rfl (Yq (v:=.map _) rfl (Yd (o':=2) rfl rfl rfl (Ym (x:=M 2) rfl rfl (.tail _ (.tail _ ZP)) (rfl) (WK rfl rfl (.tail _ ZP) rfl (W6 _) (Qc rfl rfl (XH (Lr:=[(_,_),(_,_)]) (L0:=[_,_,_,_,_]) (U1 (gS2 ⟨#[61]⟩ (XB (M 2))) (.ex 2) ⟨#[61]⟩ (XB (M 2)) (YS (M 0)++⟨#[45]⟩++YS (M 1)) rfl rfl (by rw [UK hk1 ((VM h35).symm)]; have h8:=V5 (M 2); have h9:=V2 (P:=P) hsq htq; have h7:(⟨#[61]⟩:ByteArray).size=1:=rfl; omega)) rfl rfl (Zcj (Zcj (.refl _) ((Zcm _ (.refl _)).trans (.swap _ _ _))) ((Zcm _ ((Zcm _ (.refl _)).trans (.swap _ _ _))).trans (.swap _ _ _))) rfl rfl rfl rfl rfl rfl rfl (Yc ?_))))))))
    refine ⟨_,(.cons_cons _ (.cons_cons _ (.cons _ (.cons _ (.cons _ (.cons _ (.cons _ (.refl _)))))))),8,_,Je (fun q=>h64 q.1) (fun q=>h75 q.1) h52 (UK hk1 ((VM h35).symm)),rfl,rfl,rfl,rfl⟩
   refine Yh ?_
   refine ⟨_,(.cons_cons _ (.cons_cons _ (.cons _ (.cons _ (.cons _ (.refl _)))))),6,_,Jd (fun q=>h64 q.1) (fun q=>h75 q.1) h52 (UK hk1 ((VM h35).symm)),rfl,rfl,rfl,rfl⟩
  refine XH (Lr:=[(_,_)]) (L0:=[_,_,_,_]) (Es (gS4 (XB (P (sqI (M 0)))) (YS (M 0)) ⟨#[45]⟩ (YS (M 1))) (.ex 4) (XB (P (sqI (M 0)))) (YS (M 0)) ⟨#[45]⟩ (YS (M 1)) rfl rfl rfl rfl (by rw [Qn,ZcA (by omega)]; omega) (by rw [YU hsq,YU htq,Qn,ZcA (by omega)]; exact YF rfl)) rfl rfl (Zcj (.refl _) ((Zcm _ ((Zcm _ ((Zcm _ (.refl _)).trans (.swap _ _ _))).trans (.swap _ _ _))).trans (.swap _ _ _))) rfl rfl rfl rfl rfl rfl rfl (Zf (Yd (o':=2) rfl rfl rfl (Ym (x:=M 2) rfl rfl (.tail _ (.tail _ ZP)) (rfl) (Zr rfl (Yc (Yj rfl (fun h52=>?_) (fun h52=>?_))))))) <;> simp only [NM] at h52
  ·refine Yf (Zl rfl (Yq (v:=.map _) rfl (Yd (o':=2) rfl rfl rfl (Ym (x:=M 2) rfl rfl (.tail _ (.tail _ ZP)) (rfl) (WK rfl rfl (.tail _ ZP) rfl (W6 _) (Qc rfl rfl (XH (Lr:=[(_,_),(_,_)]) (L0:=[_,_,_,_,_]) (U1 (gS2 ⟨#[61]⟩ (XB (M 2))) (.ex 2) ⟨#[61]⟩ (XB (M 2)) (XB (P (sqI (M 0)))++YS (M 0)++⟨#[45]⟩++YS (M 1)) rfl rfl (by rw [UI ((VM h35).symm)]; have h8:=V5 (M 2); have h9:=V2 (P:=P) hsq htq; have h7:(⟨#[61]⟩:ByteArray).size=1:=rfl; omega)) rfl rfl (Zcj (Zcj (.refl _) ((Zcm _ (.refl _)).trans (.swap _ _ _))) ((Zcm _ ((Zcm _ (.refl _)).trans (.swap _ _ _))).trans (.swap _ _ _))) rfl rfl rfl rfl rfl rfl rfl (Yc ?_))))))))
   refine ⟨_,(.cons_cons _ (.cons_cons _ (.cons _ (.cons _ (.cons _ (.cons _ (.cons _ (.refl _)))))))),8,_,Je (fun q=>h64 q.1) (fun q=>h75 q.1) h52 (UI ((VM h35).symm)),rfl,rfl,rfl,rfl⟩
  refine Yh ?_
  refine ⟨_,(.cons_cons _ (.cons_cons _ (.cons _ (.cons _ (.cons _ (.refl _)))))),6,_,Jd (fun q=>h64 q.1) (fun q=>h75 q.1) h52 (UI ((VM h35).symm)),rfl,rfl,rfl,rfl⟩
 obtain ⟨kb,s,hs,k2,k3,k6,rfl⟩:=hI
 refine Za 2 k2 (Za 3 k3 (Za 6 k6 ?_))
 rw [<- hs] at hsz
 have hqz0:=fun (i9:Nat) (hi9:133<=i9)=>Q8 (P:=P) (a:=M 0) (t:=M 1) (b:=M 2) hi9
 obtain ⟨Q,hQ⟩:∃ Q,Q=XV P (M 0) (M 1) (M 2):=⟨_,rfl⟩
 rw [<- hQ] at hmv hqz0
 have hqid:ovA (fun _=>0) 0 133 Q=Q:=QG hqz0
 have hof:RF AM 24 [.agg 133 (ia (ovA (fun _=>0) 0 133 Q))] (.tup [.s (.int .i64 (ofN Q (XN Q).length).1),.s (.int .i64 (ofN Q (XN Q).length).2)]):=by rw [hqid]; exact YP (of_walk Q hqz0)
 have hchk:RF AM 25 [.agg 133 (ia (ovA (fun _=>0) 0 133 Q)),.s (.int .i64 (Q 128))] (.s (.bool (WU Q (Q 128)))):=by rw [hqid]; exact RR Q (Q 128)
 refine Ze (Yo rfl rfl ZP (Yo rfl rfl ZO (Yt rfl (hmv) rfl rfl rfl (Zo rfl (YD (v:=.agg _ _) rfl rfl (YD (v:=.s (.int _ _)) rfl rfl (Yy (Yz rfl rfl rfl rfl .here (Zj rfl (Yc (Ye (Ze (Yo rfl rfl ZM (Yt rfl (hof) rfl rfl rfl (Zo rfl (YD (v:=.s (.int _ _)) rfl rfl (YD (v:=.s (.int _ _)) rfl rfl (Zj rfl (Zj rfl (Yc (Yk (Ze (Zj rfl (Zr rfl (Zk rfl (Yc (Yj rfl (fun h93=>?_) (fun h93=>?_)))))))))))))))))))))))))))) <;> simp only [NM] at h93
 ·refine Yf (Zl rfl (Rq rfl (XH (Lr:=[(_,_),(_,_)]) (L0:=[_,_,_]) (yo (gS1 ⟨#[35]⟩) (.ex 1) ⟨#[35]⟩ s rfl (by have h7:(⟨#[35]⟩:ByteArray).size=1:=rfl; omega)) rfl rfl (Zcj (Zcj (.refl _) ((Zcm _ ((Zcm _ (.refl _)).trans (.swap _ _ _))).trans (.swap _ _ _))) ((Zcm _ ((Zcm _ ((Zcm _ (.refl _)).trans (.swap _ _ _))).trans (.swap _ _ _))).trans (.swap _ _ _))) rfl rfl rfl rfl rfl rfl rfl (Zf (Zl rfl (YG rfl (Zy rfl (TL (E9 (s++⟨#[35]⟩) (by simp only [ZbP]; omega) (by have h7:(⟨#[35]⟩:ByteArray).size=1:=rfl; simp only [ZbP]; omega)) rfl rfl rfl rfl ZN .here (Yq (v:=.s _) rfl (Yq rfl (Yc (Yi (⟨_,YH (v:=.s _) rfl (ZL rfl),?_⟩)))))))))))))
  refine congrArg (fun x=>V.tup [.s (.str x),.s (.int .i64 0)]) ?_
  unfold UW zt
  rw [<- hQ,<- hs]
  rw [ZcA h93]
 refine Ze (Yo rfl rfl ZM (Yd (o':=128) rfl rfl rfl (Ym (x:=Q 128) rfl rfl ZM (rfl) (Yt rfl (hchk) rfl rfl rfl (Zk rfl (Yc (Yj rfl (fun h99=>?_) (fun h99=>?_))))))))
 ·refine Yf (Zl rfl (Rq rfl (XH (Lr:=[(_,_),(_,_)]) (L0:=[_,_,_]) (yo (gS1 ⟨#[43]⟩) (.ex 1) ⟨#[43]⟩ s rfl (by have h7:(⟨#[43]⟩:ByteArray).size=1:=rfl; omega)) rfl rfl (Zcj (Zcj (.refl _) ((Zcm _ ((Zcm _ (.refl _)).trans (.swap _ _ _))).trans (.swap _ _ _))) ((Zcm _ ((Zcm _ ((Zcm _ (.refl _)).trans (.swap _ _ _))).trans (.swap _ _ _))).trans (.swap _ _ _))) rfl rfl rfl rfl rfl rfl rfl (Zf (Zl rfl (YG rfl (Zy rfl (TL (E9 (s++⟨#[43]⟩) (by simp only [ZbP]; omega) (by have h7:(⟨#[43]⟩:ByteArray).size=1:=rfl; simp only [ZbP]; omega)) rfl rfl rfl rfl ZN .here (Yq (v:=.s _) rfl (Yq rfl (Yc (Yi (⟨_,YH (v:=.s _) rfl (ZL rfl),?_⟩)))))))))))))
  refine congrArg (fun x=>V.tup [.s (.str x),.s (.int .i64 0)]) ?_
  unfold UW zt
  rw [<- hQ,<- hs]
  rw [Zcz h93,ZcA h99]
 refine Yh (Ze (Zl rfl (YG rfl (Zy rfl (TL (E9 s (by omega) (by omega)) rfl rfl rfl rfl ZO (.there .here) (Yq (v:=.s _) rfl (Yq rfl (Yc (Yi (⟨_,YH (v:=.s _) rfl (ZL rfl),?_⟩))))))))))
 refine congrArg (fun x=>V.tup [.s (.str x),.s (.int .i64 0)]) ?_
 unfold UW zt
 rw [<- hQ,<- hs]
 rw [Zcz h93,h99,Zcz Bool.false_ne_true]
end Go.Proofs.YtlkighkfkdpncaaGreatDoor
