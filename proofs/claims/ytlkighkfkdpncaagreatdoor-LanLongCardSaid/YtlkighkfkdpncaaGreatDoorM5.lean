/- Texts of this seat, joined. -/
import Derived.Test.YtlkighkfkdpncaaGreatDoorM4
set_option linter.unusedSimpArgs false
set_option linter.unusedVariables false
namespace Go.Proofs.YtlkighkfkdpncaaGreatDoor
open Go Go.Am
theorem rook_ex {md:Md} (H:Nat->Int) (ha:0<=H 133/\H 133 < 64) (ht:0<=H 134/\H 134 < 64) (hc:H 137=0\/H 137=1) (hC:0<=H 129/\H 129<=15) :
  ∃ x y z,Rk (H 136) (H 133) (H 134) (H 137) (H 129) x y z/\RB AM 88 [.ptr 0 0 138] [.sc md 138 (ia H)] (.tup [.s (.int .i64 x),.s (.int .i64 y),.s (.bool z)]) [.sc md 138 (ia H)]:=by
 obtain ⟨v,σ',n',L',h1,h2,⟨x,y,z,rfl,hr⟩,h3⟩:=gu (md:=md) H ha ht hc hC
 exact ⟨x,y,z,hr,σ',h1,(h2.2.mem h3).2,⟨_,_,_,rfl⟩,trivial⟩
structure Same (H J:Nat->Int) (B:Nat->Int):Prop where
 lo:∀ i,i < 128->J i=B i
 hi:∀ i,128<=i->J i=H i
theorem xr {md md2:Md} (hmd:md.mut=true) {q:Nat} {c:Cp} (H X K:Nat->Int) (n:Nat) (hn:n<=1000):∃ J,J=Qq H X K n/\RB AM 90 [.ptr 0 0 138,.agg 2 (ia X),.sl 1 0 n 1 c] [.sc md 138 (ia H),.sc md2 q (ia K)] (.tup []) [.sc md 138 (ia J),.sc md2 q (ia K)] :=
 ⟨_,rfl,jV (set_run hmd H X K n hn)⟩
theorem set_two {H J:Nat->Int} {w a:Int} (e:J=Qq H (fun _=>0) (ov (ov (fun _=>0) (0*1) w) (1*1) a) 2) (ha:0<=a/\a < 64) (hw:-1<=w/\w < 64):Same H J (brd2 H w a):=by
 have h2:=za (H:=H) (X:=fun _=>0) (K:=ov (ov (fun _=>0) (0*1) w) (1*1) a) (n:=1) (s:=a) rfl ha
 refine ⟨fun i _=>?_,fun i hi=>by rw [e]; exact ya 2 i hi⟩
 rw [e,h2,brd2,DW]
 by_cases h:0<=w
 ·rw [za (H:=H) (X:=fun _=>0) (K:=ov (ov (fun _=>0) (0*1) w) (1*1) a) (n:=0) (s:=w) rfl (by omega),Za8 h]; rfl
 rw [ur (H:=H) (X:=fun _=>0) (K:=ov (ov (fun _=>0) (0*1) w) (1*1) a) (n:=0) (s:=w) rfl (by omega),Za7 h]; rfl
theorem JY {H J J' B X Y:Nat->Int} {t:Int} (j:Same H J B) (e:J'=Qq J X (ov (fun _=>0) (0*1) t) 1) (ht:0<=t/\t < 64) (hx:∀ i,i < 2->X i=Y i):Same H J' (ovA B (sqI t) 2 Y):=by
 have h1:=za (H:=J) (X:=X) (K:=ov (fun _=>0) (0*1) t) (n:=0) (s:=t) rfl ht
 refine ⟨fun i hi=>?_,fun i hi=>by rw [e,ya 1 i hi]; exact j.hi i hi⟩
 rw [e,h1]
 exact UP (n:=128) j.lo hx i hi
theorem two {X Y:Nat->Int} (h0:X 0=Y 0) (h1:X 1=Y 1):∀ i,i < 2->X i=Y i
 | 0,_=>h0
 | 1,_=>h1
 | n+2,h=>by omega
theorem EO {k a t c C:Int} (h:Y0 k a t c C≠0):a=56*c+4:=by
 unfold Y0 at h
 split at h
 ·omega
 split at h
 ·omega
 exact absurd rfl h
theorem gm {H J2 J3 J4 X:Nat->Int} {w k a t c b C x y:Int} {z:Bool} (j:Same H J2 (Es H w a t k c b)) (e3:J3=Qq J2 (fun _=>0) (ov (fun _=>0) (0*1) x) 1) (e4:J4=Qq J3 (ov (ov (fun _=>0) 0 4) 1 (X 1)) (ov (fun _=>0) (0*1) y) 1)
  (hr:Rk k a t c C x y z) (hz:z=true) (hc:c=0\/c=1) (hx1:X 1=c):Same H J4 (V0 H w a t k c b (Y0 k a t c C)):=by
 rcases hr with ⟨hg,_,rfl,rfl⟩ | ⟨hg,_,rfl,rfl⟩ | ⟨_,hf⟩
 ·have:=EO (h:=by rw [hg]; decide)
  rw [hg,V0,Za8 rfl]
  exact JY (JY j e3 (by omega) (fun _ _=>rfl)) e4 (by omega) (two rfl hx1)
 ·have:=EO (h:=by rw [hg]; decide)
  rw [hg,V0,Za7 (by decide),Za8 rfl]
  exact JY (JY j e3 (by omega) (fun _ _=>rfl)) e4 (by omega) (two rfl hx1)
 rw [hz] at hf; cases hf
theorem tx {H J2:Nat->Int} {w k a t c b C x y:Int} {z:Bool} (j:Same H J2 (Es H w a t k c b)) (hr:Rk k a t c C x y z) (hz:z=false):Same H J2 (V0 H w a t k c b (Y0 k a t c C)):=by
 rcases hr with ⟨_,h,_⟩ | ⟨_,h,_⟩ | ⟨hg,_⟩
 ·rw [hz] at h; cases h
 ·rw [hz] at h; cases h
 rw [hg,V0,Za7 (by decide),Za7 (by decide)]; exact j
structure Done (H J B:Nat->Int) (cs ovr hf fl:Int):Prop where
 lo:∀ i,i < 128->J i=B i
 s:J 128=H 128
 c:J 129=cs
 o:J 130=ovr
 h:J 131=hf
 f:J 132=fl
theorem done_is {H J:Nat->Int} {k c a t b C:Int} (h:Done H J (V0 H (Y7 H k a t) a t k c b (Y0 k a t c C)) (V2 C (orM (orM 0 (Xz a)) (Xz t))) (UN k a t c) (Uo H k (Y7 H k a t)) (QY H)) (i:Nat):ovA (fun _=>0) 0 133 (ov J 128 (Y5 (H 128))) i=Uv H k c a t b C i:=by
 unfold Uv
 by_cases hi:i < 133
 ·rw [X1 (by omega),Nat.sub_zero]
  by_cases h1:i < 128
  ·rw [Za8 h1,W7 (by omega)]; exact h.lo i h1
  rw [Za7 h1]
  have hc:i=128\/i=129\/i=130\/i=131\/i=132:=by omega
  rcases hc with rfl | rfl | rfl | rfl | rfl
  ·rfl
  ·exact h.c
  ·exact h.o
  ·exact h.h
  exact h.f
 rw [WV (by omega),Za7 (by omega),Za7 (by omega),Za7 (by omega),Za7 (by omega),Za7 (by omega),Za7 (by omega)]
theorem gP (H:Nat->Int) (ha:0<=H 133/\H 133 < 64) (ht:0<=H 134/\H 134 < 64) (hc:H 137=0\/H 137=1) (hC:0<=H 129/\H 129<=15):WR AM 50 [.ptr 0 0 138] [.sc .var 138 (ia H)] (fun v _ L=>∃ J,v=.agg 133 (ia (Uv H (H 136) (H 137) (H 133) (H 134) (H 135) (H 129)))/\(0,Blk.sc .var 138 (ia J))∈L):=by
 refine YJ (a:=a50) rfl rfl (YI _) (ZQ rfl) (m:=1) rfl (Ze (Yy (Zf (Zl rfl (Q9 rfl (UU (qp H ha ht)) rfl rfl rfl (.there .here) (Zj rfl (Zf (Zl rfl ?_))))))))
 obtain ⟨x,y,z,hr,hR⟩:=rook_ex (md:=.var) H ha ht hc hC
 refine Q9 rfl (hR) rfl rfl rfl (.there .here) (Zo rfl (YD (v:=.s (.int _ _)) rfl rfl (YD (v:=.s (.int _ _)) rfl rfl (YD (v:=.s (.bool _)) rfl rfl (Zj rfl (Zj rfl (Zk rfl (Zf (Yq rfl (Yc (WD (fun f n L=>(f 0=.ptr 0 0 138)/\(f 2=.ptr 1 0 133)/\(f 3=.s (.int .i64 (Y7 H (H 136) (H 133) (H 134))))/\(f 4=.s (.int .i64 x))/\(f 5=.s (.int .i64 y))/\(f 6=.s (.bool z))/\(f 7=.s (.int .i64 (UN (H 136) (H 133) (H 134) (H 137))))/\(L=[(1,.sc .var 133 (ia fun _=>0)),(0,.sc .var 138 (ia H))])/\(n=2)) ?_ (fun f nb L hI=>?_))))))))))))
 ·refine Ze (Zl rfl (Q9 rfl (UU (oW H ha ht hc)) rfl rfl rfl (.there .here) (Yc (Yj rfl (fun h1=>?_) (fun h1=>?_)))))
  ·refine Yg (Zl rfl (YM rfl (Yd (o':=133) rfl rfl rfl (Yd (o':=133) rfl rfl rfl (Ym rfl rfl ZN rfl (Zl rfl (YM rfl (Yd (o':=133) rfl rfl rfl (Yd (o':=134) rfl rfl rfl (Ym rfl rfl ZN rfl (Zs rfl rfl (Zu rfl rfl (Zj rfl (Yc (⟨_,(.refl _),rfl,rfl,rfl,rfl,rfl,rfl,?_,rfl,rfl⟩)))))))))))))))
   refine ZJ ?_
   rw [UN]
   exact (Za8 (by assumption)).symm
  refine Yh (⟨_,(.refl _),rfl,rfl,rfl,rfl,rfl,rfl,?_,rfl,rfl⟩)
  refine ZJ ?_
  rw [UN]
  exact (Za7 (Bool.eq_false_iff.1 (by assumption))).symm
 obtain ⟨k0,k2,k3,k4,k5,k6,k7,rfl,rfl⟩:=hI
 refine Za 0 k0 (Za 2 k2 (Za 3 k3 (Za 4 k4 (Za 5 k5 (Za 6 k6 (Za 7 k7 (Ze (Zl rfl (YM rfl (Yd (o':=136) rfl rfl rfl (Yp rfl rfl ZN (Yy (Yz rfl rfl rfl rfl .here (Yc (WD (fun f n L=>∃ (X:Nat->Int),(X 0=(if H 135=0 then H 136 else H 135))/\(X 1=H 137)/\(f 0=.ptr 0 0 138)/\(f 2=.ptr 1 0 133)/\(f 3=.s (.int .i64 (Y7 H (H 136) (H 133) (H 134))))/\(f 4=.s (.int .i64 x))/\(f 5=.s (.int .i64 y))/\(f 6=.s (.bool z))/\(f 7=.s (.int .i64 (UN (H 136) (H 133) (H 134) (H 137))))/\(f 8=.ptr 2 0 2)/\(L=[(2,.sc .var 2 (ia X)),(1,.sc .var 133 (ia fun _=>0)),(0,.sc .var 138 (ia H))])/\(n=3)) ?_ (fun f nb L hI=>?_))))))))))))))))
 ·refine Ze (Zl rfl (YM rfl (Yd (o':=133) rfl rfl rfl (Yd (o':=135) rfl rfl rfl (Ym rfl rfl ZO rfl (Zr rfl (Yc (Yj rfl (fun h2=>?_) (fun h2=>?_))))))))) <;> simp only [NM] at h2
  ·refine Yf (Zl rfl (YM rfl (Yd (o':=133) rfl rfl rfl (Yd (o':=135) rfl rfl rfl (Ym rfl rfl ZO rfl (Zy rfl (YA rfl rfl rfl rfl .here (Yc (⟨_,(.refl _),_,?_,?_,rfl,rfl,rfl,rfl,rfl,rfl,rfl,rfl,rfl,rfl⟩)))))))))
   · exact (Za7 (by assumption)).symm
   rfl
  refine Yh (⟨_,(.refl _),_,?_,?_,rfl,rfl,rfl,rfl,rfl,rfl,rfl,rfl,rfl,rfl⟩)
  · exact (Za8 (by assumption)).symm
  rfl
 obtain ⟨X,hx0,hx1,k0,k2,k3,k4,k5,k6,k7,k8,rfl,rfl⟩:=hI
 refine Za 0 k0 (Za 2 k2 (Za 3 k3 (Za 4 k4 (Za 5 k5 (Za 6 k6 (Za 7 k7 (Za 8 k8 (Ze (Zl rfl (YB rfl .nil (Zj rfl (Zl rfl (YM rfl (Yd (o':=133) rfl rfl rfl (Yd (o':=133) rfl rfl rfl (Ym (x:=H 133) rfl rfl ZO (rfl) (Xo rfl (.one rfl (.one rfl .nil)) ?_)))))))))))))))))
 obtain ⟨J1,eJ1,hSJ1⟩:=xr (md:=.var) (md2:=.var) (q:=2) (c:=.ex 2) rfl H (fun _=>0) (ov (ov (fun _=>0) (0*1) (Y7 H (H 136) (H 133) (H 134))) (1*1) (H 133)) 2 (by omega)
 have j1:Same H J1 (brd2 H (Y7 H (H 136) (H 133) (H 134)) (H 133)):=set_two eJ1 ha (VH ha ht)
 refine VN (rs:=[0,3]) (Bs:=[_,_]) rfl (hSJ1) rfl rfl (YF rfl) (fun _ h=>h) rfl ⟨ZP,⟨_,_,_,rfl⟩,⟨ZM,⟨_,_,_,rfl⟩,trivial⟩⟩ rfl rfl rfl (.cons (.there (.there (.there .here))) (.cons .here .nil)) (Yc (Ye (Yg (Zl rfl (Yo rfl rfl ZN (Zl rfl (YM rfl (Yd (o':=133) rfl rfl rfl (Yd (o':=134) rfl rfl rfl (Ym (x:=H 134) rfl rfl ZP (j1.hi 134 (by omega)) (Xo rfl (.one rfl .nil) ?_)))))))))))
 obtain ⟨J2,eJ2,hSJ2⟩:=xr (md:=.var) (md2:=.var) (q:=1) (c:=.ex 1) rfl J1 X (ov (fun _=>0) (0*1) (H 134)) 1 (by omega)
 have j2:Same H J2 (Es H (Y7 H (H 136) (H 133) (H 134)) (H 133) (H 134) (H 136) (H 137) (H 135)):=JY j1 eJ2 ht (two hx0 hx1)
 refine VN (rs:=[0,4]) (Bs:=[_,_]) rfl (hSJ2) rfl rfl (YF rfl) (fun _ h=>h) rfl ⟨(.tail _ ZP),⟨_,_,_,rfl⟩,⟨ZM,⟨_,_,_,rfl⟩,trivial⟩⟩ rfl rfl rfl (.cons (.there (.there (.there (.there .here)))) (.cons .here .nil)) (Yc (WD (fun f n L=>∃ (X J:Nat->Int),(3<=n)/\(Same H J (V0 H (Y7 H (H 136) (H 133) (H 134)) (H 133) (H 134) (H 136) (H 137) (H 135) (Y0 (H 136) (H 133) (H 134) (H 137) (H 129))))/\(f 0=.ptr 0 0 138)/\(f 2=.ptr 1 0 133)/\(f 3=.s (.int .i64 (Y7 H (H 136) (H 133) (H 134))))/\(f 7=.s (.int .i64 (UN (H 136) (H 133) (H 134) (H 137))))/\(L=[(2,.sc .var 2 (ia X)),(1,.sc .var 133 (ia fun _=>0)),(0,.sc .var 138 (ia J))])) ?_ (fun f nb L hI=>?_)))
 ·refine Ze (Zk rfl (Yc (Yj rfl (fun h3=>?_) (fun h3=>?_))))
  ·refine Ze (Zl rfl (YB rfl .nil (Zj rfl (Xo rfl (.one rfl .nil) ?_))))
   obtain ⟨J3,eJ3,hSJ3⟩:=xr (md:=.var) (md2:=.var) (q:=1) (c:=.ex 1) rfl J2 (fun _=>0) (ov (fun _=>0) (0*1) x) 1 (by omega)
   refine VN (rs:=[0,5]) (Bs:=[_,_]) rfl (hSJ3) rfl rfl (YF rfl) (fun _ h=>h) rfl ⟨(.tail _ (.tail _ ZP)),⟨_,_,_,rfl⟩,⟨ZM,⟨_,_,_,rfl⟩,trivial⟩⟩ rfl rfl rfl (.cons (.there (.there (.there (.there (.there .here))))) (.cons .here .nil)) (Yc (Yf (Zl rfl (Zz rfl (Ym rfl rfl ZP rfl (YB rfl (.one rfl (.one rfl .nil)) (Zj rfl (Xo rfl (.one rfl .nil) ?_))))))))
   obtain ⟨J4,eJ4,hSJ4⟩:=xr (md:=.var) (md2:=.var) (q:=1) (c:=.ex 1) rfl J3 (ov (ov (fun _=>0) 0 4) 1 (X 1)) (ov (fun _=>0) (0*1) y) 1 (by omega)
   have j4:Same H J4 (V0 H (Y7 H (H 136) (H 133) (H 134)) (H 133) (H 134) (H 136) (H 137) (H 135) (Y0 (H 136) (H 133) (H 134) (H 137) (H 129))):=gm j2 eJ3 eJ4 hr (by assumption) hc hx1
   refine VN (rs:=[0,6]) (Bs:=[_,_]) rfl (hSJ4) rfl rfl (YF rfl) (fun _ h=>h) rfl ⟨(.tail _ (.tail _ (.tail _ ZP))),⟨_,_,_,rfl⟩,⟨ZM,⟨_,_,_,rfl⟩,trivial⟩⟩ rfl rfl rfl (.cons (.there (.there (.there (.there (.there (.there .here)))))) (.cons .here .nil)) (Yc ?_)
   exact ⟨_,(.cons _ (.cons _ (.cons _ (.cons _ (.refl _))))),X,J4,by omega,j4,rfl,rfl,rfl,rfl,rfl⟩
  refine Yh ?_
  exact ⟨_,(.cons _ (.cons _ (.refl _))),X,J2,by omega,tx j2 hr (by assumption),rfl,rfl,rfl,rfl,rfl⟩
 obtain ⟨X,J,hn3,hJ,k0,k2,k3,k7,rfl⟩:=hI
 refine Za 0 k0 (Za 2 k2 (Za 3 k3 (Za 7 k7 (Ze (Zl rfl (Zj rfl (YM rfl (Zy rfl (Yd (o':=130) rfl rfl rfl (YA rfl rfl rfl rfl (.there (.there .here)) (Yc (Ye (Yg (Zl rfl (YM rfl (Zy rfl (Yd (o':=129) rfl rfl rfl (Ym (x:=H 129) rfl rfl ZO (hJ.hi 129 (by omega)) (Zl rfl (YM rfl (Yd (o':=133) rfl rfl rfl (Yd (o':=133) rfl rfl rfl (Ym (x:=H 133) rfl rfl ZO (hJ.hi 133 (by omega)) (Zl rfl (YM rfl (Yd (o':=133) rfl rfl rfl (Yd (o':=134) rfl rfl rfl (Ym (x:=H 134) rfl rfl ZO (hJ.hi 134 (by omega)) (Xo rfl (.one rfl (.one rfl .nil)) ?_)))))))))))))))))))))))))))))
 refine gk (rs:=[nb]) (Bs:=[_]) (av:=[.sl nb 0 2 1 (.ex 2)]) (v:=.s (.int .i64 (yH (ov (ov (fun _=>0) (0*1) (H 133)) (1*1) (H 134)) 2))) rfl (UU (pj (md:=.ro) (q:=2) (c:=.ex 2) (ov (ov (fun _=>0) (0*1) (H 133)) (1*1) (H 134)) 2 (by omega))) rfl (by simp [V.refsL,V.refs,Ve]) (by simp [V.refsL,V.refs]) (by simp [V.refsL,V.refs]) (by simp [rnL,V.renL,V.ren,pos]) ⟨ZM,⟨_,_,_,rfl⟩,trivial⟩ rfl rfl rfl (Yr (r:=.int .i64 (V2 (H 129) _)) rfl rfl rfl (YM rfl (Zy rfl (Yd (o':=129) rfl rfl rfl (YA rfl rfl rfl rfl (.there (.there (.there .here))) (Zf (Zl rfl (Zl rfl (YM rfl (Zy rfl (Yd (o':=131) rfl rfl rfl (Ym (x:=H 131) rfl rfl ZP (hJ.hi 131 (by omega)) (DZ rfl rfl (Yr rfl rfl rfl (YM rfl (Zy rfl (Yd (o':=131) rfl rfl rfl (YA rfl rfl rfl rfl (.there (.there (.there .here))) (Yc (WD (fun f n L=>∃ (J:Nat->Int),(Done H J (V0 H (Y7 H (H 136) (H 133) (H 134)) (H 133) (H 134) (H 136) (H 137) (H 135) (Y0 (H 136) (H 133) (H 134) (H 137) (H 129))) (V2 (H 129) (orM (orM 0 (Xz (H 133))) (Xz (H 134)))) (UN (H 136) (H 133) (H 134) (H 137)) (Uo H (H 136) (Y7 H (H 136) (H 133) (H 134))) (H 132))/\(f 0=.ptr 0 0 138)/\(f 2=.ptr 1 0 133)/\(L=[(1,.sc .var 133 (ia fun _=>0)),(0,.sc .var 138 (ia J))])) ?_ (fun f nb L hI=>?_)))))))))))))))))))))
 ·refine Ze (Zj rfl (Zr rfl (Zk rfl (Ys (t:=118) rfl (fun h4=>?_) (fun h4=>?_))))) <;> simp only [NM] at h4
  ·refine ZE rfl (ZD rfl (Zq rfl (Yc (ZA rfl (Yf (Zl rfl (YM rfl (Zy rfl (Yd (o':=131) rfl rfl rfl (YA rfl rfl rfl rfl (.there (.there (.there .here))) (Yc (⟨_,(.cons _ (.cons _ (.refl _))),_,?_,rfl,rfl,rfl⟩))))))))))))
   refine ⟨(by intro i hi; (repeat rw [W7 (by omega)]); exact hJ.lo i hi),hJ.hi 128 (by omega),rfl,rfl,?_,hJ.hi 132 (by omega)⟩
   have hb:=VH (P:=H) (k:=H 136) ha ht
   rw [Uo]
   exact (Za8 (by omega)).symm
  refine Yb rfl (Zl rfl (Yb rfl (YM rfl (Yb rfl (Yd (o':=136) rfl rfl rfl (Yb rfl (Yd (o':=136) rfl rfl rfl (Yb rfl (Ym (x:=H 136) rfl rfl ZP (hJ.hi 136 (by omega)) (Yb rfl (Zr rfl (Zq rfl (Yc (Yj rfl (fun h5=>?_) (fun h5=>?_))))))))))))))) <;> simp only [NM] at h5
  ·refine Yf (Zl rfl (YM rfl (Zy rfl (Yd (o':=131) rfl rfl rfl (YA rfl rfl rfl rfl (.there (.there (.there .here))) (Yc (⟨_,(.cons _ (.cons _ (.refl _))),_,?_,rfl,rfl,rfl⟩)))))))
   refine ⟨(by intro i hi; (repeat rw [W7 (by omega)]); exact hJ.lo i hi),hJ.hi 128 (by omega),rfl,rfl,?_,hJ.hi 132 (by omega)⟩
   have hb:=VH (P:=H) (k:=H 136) ha ht
   rw [Uo]
   exact (Za8 (by omega)).symm
  refine Yh (⟨_,(.cons _ (.cons _ (.refl _))),_,?_,rfl,rfl,rfl⟩)
  refine ⟨(by intro i hi; (repeat rw [W7 (by omega)]); exact hJ.lo i hi),hJ.hi 128 (by omega),rfl,rfl,?_,hJ.hi 132 (by omega)⟩
  have hb:=VH (P:=H) (k:=H 136) ha ht
  rw [Uo]
  exact (Za7 (by omega)).symm
 obtain ⟨J,hD,k0,k2,rfl⟩:=hI
 refine Za 0 k0 (Za 2 k2 (WD (fun f n L=>∃ (J:Nat->Int),(Done H J (V0 H (Y7 H (H 136) (H 133) (H 134)) (H 133) (H 134) (H 136) (H 137) (H 135) (Y0 (H 136) (H 133) (H 134) (H 137) (H 129))) (V2 (H 129) (orM (orM 0 (Xz (H 133))) (Xz (H 134)))) (UN (H 136) (H 133) (H 134) (H 137)) (Uo H (H 136) (Y7 H (H 136) (H 133) (H 134))) (QY H))/\(f 0=.ptr 0 0 138)/\(f 2=.ptr 1 0 133)/\(L=[(1,.sc .var 133 (ia fun _=>0)),(0,.sc .var 138 (ia J))])) ?_ (fun f nb L hI=>?_)))
 ·refine Ze (Zl rfl (YM rfl (Zy rfl (Yd (o':=128) rfl rfl rfl (Ym (x:=H 128) rfl rfl ZN (hD.s) (Zr rfl (Yc (Yj rfl (fun h6=>?_) (fun h6=>?_))))))))) <;> simp only [NM] at h6
  ·refine Yf (Zl rfl (Zl rfl (YM rfl (Zy rfl (Yd (o':=132) rfl rfl rfl (Ym (x:=H 132) rfl rfl ZN (hD.f) (DZ rfl rfl (Yr rfl rfl rfl (YM rfl (Zy rfl (Yd (o':=132) rfl rfl rfl (YA rfl rfl rfl rfl (.there .here) (Yc (⟨_,(.refl _),_,?_,rfl,rfl,rfl⟩))))))))))))))
   refine ⟨(by intro i hi; (repeat rw [W7 (by omega)]); exact hD.lo i hi),hD.s,hD.c,hD.o,hD.h,?_⟩
   rw [QY]
   exact (Za8 (by assumption)).symm
  refine Yh (⟨_,(.refl _),_,?_,rfl,rfl,rfl⟩)
  refine ⟨(by intro i hi; (repeat rw [W7 (by omega)]); exact hD.lo i hi),hD.s,hD.c,hD.o,hD.h,?_⟩
  rw [QY]
  exact hD.f.trans (Za7 (by assumption)).symm
 obtain ⟨J,hE,k0,k2,rfl⟩:=hI
 refine Za 0 k0 (Za 2 k2 (Ze (Zl rfl (Zl rfl (YM rfl (Zy rfl (Yd (o':=128) rfl rfl rfl (Ym (x:=H 128) rfl rfl ZN (hE.s) (Yt rfl (YG (Uc _)) rfl rfl rfl (YM rfl (Zy rfl (Yd (o':=128) rfl rfl rfl (YA rfl rfl rfl rfl (.there .here) (Zf (Zl rfl (YM rfl (Zy rfl (Yo rfl rfl ZN (Yz rfl rfl rfl rfl .here (Yc (Yi (⟨_,X9 rfl rfl ZM (YP),?_⟩))))))))))))))))))))))
 refine ⟨_,congrArg (fun g=>V.agg 133 (ia g)) (funext fun i=>?_),ZN⟩
 exact done_is hE i
structure HandOf (P m H:Nat->Int):Prop where
 lo:∀ i,i < 129->H i=P i
 c:H 129=Vb P
 hi:∀ i,130<=i->i < 133->H i=P i
 a:H 133=m 0
 t:H 134=m 1
 b:H 135=m 2
 k:H 136=P (sqI (m 0))
 s:H 137=P (sqI (m 0)+1)
def ja (P m:Nat->Int):Nat->Int:=ovA (ovA (ovA (fun _=>0) 0 133 P) 133 3 m) 136 2 (dp P (sqI (m 0)))
theorem Rt {P m:Nat->Int} {i:Nat} (h:i < 133):ja P m i=P i:=by
 unfold ja
 rw [WV (by omega),WV (by omega),X1 (by omega),Nat.sub_zero]
theorem oh {P m:Nat->Int} (h:0<=P 129/\P 129<=15):HandOf P m (ja P m) :=
 ⟨fun i hi=>Rt (by omega),by rw [Rt (by omega),Vb,Za7 (by omega)],fun i _ hi=>Rt hi,rfl,rfl,rfl,rfl,rfl⟩
theorem qD {P m:Nat->Int} (h:P 129 < 0\/15 < P 129):HandOf P m (ov (ja P m) 129 0) :=
 ⟨fun i hi=>by rw [W7 (by omega)]; exact Rt (by omega),by rw [Vb,Za8 h]; rfl,fun i h1 hi=>by rw [W7 (by omega)]; exact Rt hi,rfl,rfl,rfl,rfl,rfl⟩
theorem Ue {P:Nat->Int} {a t b:Int} (h:¬ (1<=P (sqI a)/\P (sqI a)<=6/\P (sqI a+1)=P 128/\(P (sqI a+1)=0\/P (sqI a+1)=1)/\(if P (sqI a)=1/\t / 8=7*(1 - P (sqI a+1)) then 2<=b/\b<=5 else b=0))):XH P a t b=false:=ZaT h
theorem U3 {P:Nat->Int} {a t b:Int} (h:1<=P (sqI a)/\P (sqI a)<=6/\P (sqI a+1)=P 128/\(P (sqI a+1)=0\/P (sqI a+1)=1)/\(if P (sqI a)=1/\t / 8=7*(1 - P (sqI a+1)) then 2<=b/\b<=5 else b=0)):XH P a t b=true:=ZaV h
theorem sA (P m:Nat->Int):WR AM 47 [.agg 133 (ia P),.agg 3 (ia m)] [] (fun v _ L=>(v=.tup [.pnil,.s (.int .i64 (Wf P (m 0) (m 1) (m 2)))]/\Wf P (m 0) (m 1) (m 2)≠0)\/(Wf P (m 0) (m 1) (m 2)=0/\∃ b H,v=.tup [.ptr b 0 138,.s (.int .i64 (Wf P (m 0) (m 1) (m 2)))]/\HandOf P m H/\(b,Blk.sc .var 138 (ia H))∈L)):=by
 refine YJ (a:=a47) rfl rfl (YI _) (ZQ rfl) (m:=0) rfl (Ze (YC rfl (YC rfl (Yq rfl (Yq rfl (Yc (Ye (Ze (Zy rfl (Ym rfl rfl ZM rfl (Yt rfl (KQ _) rfl rfl rfl (Yv (r:=.bool _) rfl rfl (Zk rfl (Ys (t:=13) rfl (fun h7=>?_) (fun h7=>?_))))))))))))))) <;> simp only [NM] at h7
 ·try simp only [isM,ZaL,Zax] at h7
  refine ZE rfl (Zq rfl (Zk rfl (ZE rfl (ZC rfl (Zq rfl (Yc (ZA rfl (Ze (Yq rfl (Yq rfl (Yc (Yi (⟨_,YK (v:=.pnil) rfl (ZL rfl),?_⟩)))))))))))))
  have he:=UK (P:=P) (a:=m 0) (t:=m 1) (b:=m 2) (by omega)
  rw [he]
  exact .inl ⟨rfl,by decide⟩
 try simp only [isM,ZaL,Zax] at h7
 refine Yb rfl (Zz rfl (Yb rfl (Ym rfl rfl ZM rfl (Yb rfl (Yt rfl (KQ _) rfl rfl rfl (Yb rfl (Yv (r:=.bool _) rfl rfl (Zq rfl (Zk rfl (Ys (t:=19) rfl (fun h8=>?_) (fun h8=>?_))))))))))) <;> simp only [NM] at h8
 ·try simp only [isM,ZaL,Zax] at h8
  refine ZE rfl (ZC rfl (Zq rfl (Yc (ZA rfl (Ze (Yq rfl (Yq rfl (Yc (Yi (⟨_,YK (v:=.pnil) rfl (ZL rfl),?_⟩))))))))))
  have he:=UK (P:=P) (a:=m 0) (t:=m 1) (b:=m 2) (by omega)
  rw [he]
  exact .inl ⟨rfl,by decide⟩
 try simp only [isM,ZaL,Zax] at h8
 refine Yb rfl (Zy rfl (Yb rfl (Ym rfl rfl ZM rfl (Yb rfl (Zz rfl (Yb rfl (Ym rfl rfl ZM rfl (Yb rfl (Zr rfl (Zq rfl (Yc (Yj rfl (fun h9=>?_) (fun h9=>?_))))))))))))) <;> simp only [NM] at h9
 ·refine Ze (Yq rfl (Yq rfl (Yc (Yi (⟨_,YK (v:=.pnil) rfl (ZL rfl),?_⟩)))))
  have he:=UK (P:=P) (a:=m 0) (t:=m 1) (b:=m 2) (by omega)
  rw [he]
  exact .inl ⟨rfl,by decide⟩
 refine Yh (Ye (Yg (Yo rfl rfl ZN (Yo rfl rfl ZM (Zy rfl (Ym rfl rfl ZM rfl (Zy rfl (Zw rfl rfl rfl (Yp rfl rfl ZN (YB rfl (.agg rfl (.agg rfl (.agg rfl .nil))) (YC rfl (Zl rfl (Yc (WD (fun f n L=>∃ (H:Nat->Int),(HandOf P m H)/\(0<=m 0/\m 0 < 64)/\(0<=m 1/\m 1 < 64)/\(m 0≠m 1)/\(f 2=.ptr 0 0 133)/\(f 3=.ptr 1 0 3)/\(f 6=.ptr 2 0 138)/\(L=[(2,.sc .var 138 (ia H)),(1,.sc .var 3 (ia m)),(0,.sc .var 133 (ia P))])/\(n=3)) ?_ (fun f nb L hI=>?_)))))))))))))))
 ·refine Ze (Zl rfl (YM rfl (Zy rfl (Yd (o':=129) rfl rfl rfl (Ym (x:=P 129) rfl rfl ZM (rfl) (Zr rfl (Zk rfl (Ys (t:=41) rfl (fun h10=>?_) (fun h10=>?_))))))))) <;> simp only [NM] at h10
  ·refine ZE rfl (ZD rfl (Zq rfl (Yc (ZA rfl (Yf (Zl rfl (YM rfl (Zy rfl (Yd (o':=129) rfl rfl rfl (YA rfl rfl rfl rfl .here (Yc (⟨_,(.refl _),_,?_,by omega,by omega,by omega,rfl,rfl,rfl,rfl,rfl⟩))))))))))))
   exact qD (.inl (by assumption))
  refine Yb rfl (Zl rfl (Yb rfl (YM rfl (Yb rfl (Zy rfl (Yb rfl (Yd (o':=129) rfl rfl rfl (Yb rfl (Ym (x:=P 129) rfl rfl ZM (rfl) (Yb rfl (Zr rfl (Zq rfl (Yc (Yj rfl (fun h11=>?_) (fun h11=>?_))))))))))))))) <;> simp only [NM] at h11
  ·refine Yf (Zl rfl (YM rfl (Zy rfl (Yd (o':=129) rfl rfl rfl (YA rfl rfl rfl rfl .here (Yc (⟨_,(.refl _),_,?_,by omega,by omega,by omega,rfl,rfl,rfl,rfl,rfl⟩)))))))
   exact qD (.inr (by assumption))
  refine Yh (⟨_,(.refl _),_,?_,by omega,by omega,by omega,rfl,rfl,rfl,rfl,rfl⟩)
  exact oh ⟨by omega,by omega⟩
 obtain ⟨H,hH,ha,ht,hat,k2,k3,k6,rfl,rfl⟩:=hI
 refine Za 2 k2 (Za 3 k3 (Za 6 k6 (Ze (Zl rfl (YM rfl (Yd (o':=136) rfl rfl rfl (Yp rfl rfl ZM (Yy (Yz rfl rfl rfl rfl .here (Yc (Ye (Ze (Zy rfl (Ym (x:=P (sqI (m 0))) rfl rfl ZM (hH.k) (Zr rfl (Zk rfl (Ys (t:=60) rfl (fun h12=>?_) (fun h12=>?_)))))))))))))))))) <;> simp only [NM] at h12
 ·refine ZD rfl (ZC rfl (Zq rfl (Zk rfl (ZE rfl (ZC rfl (Zq rfl (Zk rfl (ZE rfl (YH rfl (YH rfl (YH rfl (ZC rfl (Zq rfl (Yc (ZA rfl (Ze (Yq rfl (Yq rfl (Yc (Yi (⟨_,YK (v:=.pnil) rfl (ZL rfl),?_⟩)))))))))))))))))))))
  have hh:XH P (m 0) (m 1) (m 2)=false:=Ue (by first | omega | (split <;> omega))
  have he:=Wy (by omega) hh
  rw [he]
  exact .inl ⟨rfl,by decide⟩
 refine Yb rfl (Zy rfl (Yb rfl (Ym (x:=P (sqI (m 0))) rfl rfl ZM (hH.k) (Yb rfl (Zr rfl (Zq rfl (Zk rfl (Ys (t:=65) rfl (fun h13=>?_) (fun h13=>?_))))))))) <;> simp only [NM] at h13
 ·refine ZE rfl (ZC rfl (Zq rfl (Zk rfl (ZE rfl (YH rfl (YH rfl (YH rfl (ZC rfl (Zq rfl (Yc (ZA rfl (Ze (Yq rfl (Yq rfl (Yc (Yi (⟨_,YK (v:=.pnil) rfl (ZL rfl),?_⟩)))))))))))))))))
  have hh:XH P (m 0) (m 1) (m 2)=false:=Ue (by first | omega | (split <;> omega))
  have he:=Wy (by omega) hh
  rw [he]
  exact .inl ⟨rfl,by decide⟩
 refine Yb rfl (Zz rfl (Yb rfl (Ym (x:=P (sqI (m 0)+1)) rfl rfl ZM (hH.s) (Yb rfl (Yd (o':=128) rfl rfl rfl (Yb rfl (Ym rfl rfl ZP rfl (Yb rfl (Zr rfl (Zq rfl (Zk rfl (Ys (t:=72) rfl (fun h14=>?_) (fun h14=>?_))))))))))))) <;> simp only [NM] at h14
 ·refine ZE rfl (YH rfl (YH rfl (YH rfl (ZC rfl (Zq rfl (Yc (ZA rfl (Ze (Yq rfl (Yq rfl (Yc (Yi (⟨_,YK (v:=.pnil) rfl (ZL rfl),?_⟩)))))))))))))
  have hh:XH P (m 0) (m 1) (m 2)=false:=Ue (by first | omega | (split <;> omega))
  have he:=Wy (by omega) hh
  rw [he]
  exact .inl ⟨rfl,by decide⟩
 refine Yb rfl (Zz rfl (Yb rfl (Ym (x:=P (sqI (m 0)+1)) rfl rfl ZM (hH.s) (Yb rfl (Zr rfl (Yb rfl (Zk rfl (Ys (t:=76) rfl (fun h15=>?_) (fun h15=>?_))))))))) <;> simp only [NM] at h15
 ·refine Yb rfl (Zz rfl (Yb rfl (Ym (x:=P (sqI (m 0)+1)) rfl rfl ZM (hH.s) (Yb rfl (Zr rfl (Yb rfl (Zq rfl (Zq rfl (Yc (Yj rfl (fun h16=>?_) (fun h16=>?_))))))))))) <;> simp only [NM] at h16
  ·refine Ze (Yq rfl (Yq rfl (Yc (Yi (⟨_,YK (v:=.pnil) rfl (ZL rfl),?_⟩)))))
   have hh:XH P (m 0) (m 1) (m 2)=false:=Ue (by first | omega | (split <;> omega))
   have he:=Wy (by omega) hh
   rw [he]
   exact .inl ⟨rfl,by decide⟩
  refine Yh (Ye (Yg (Zy rfl (Ym (x:=P (sqI (m 0))) rfl rfl ZM (hH.k) (Zr rfl (Zk rfl (Ys (t:=85) rfl (fun h17=>?_) (fun h17=>?_)))))))) <;> simp only [NM] at h17
  ·refine Yb rfl (Zz rfl (Yb rfl (Ym rfl rfl ZO rfl (Yb rfl (Yu rfl (To (by omega)) rfl rfl rfl (Yb rfl (Zz rfl (Yb rfl (Ym (x:=P (sqI (m 0)+1)) rfl rfl ZM (hH.s) (Yb rfl (Zt rfl rfl (Yb rfl (Wn rfl rfl (by omega) (Yb rfl (Zr rfl (Zq rfl (Zk rfl (Yc (Ye (Ze (Zk rfl (Zk rfl (Ys (t:=96) rfl (fun h18=>?_) (fun h18=>?_)))))))))))))))))))))))) <;> simp only [NM] at h18
   ·refine Yb rfl (Yd (o':=2) rfl rfl rfl (Yb rfl (Ym rfl rfl ZO rfl (Yb rfl (Zr rfl (Yb rfl (Zk rfl (Ys (t:=100) rfl (fun h19=>?_) (fun h19=>?_))))))))) <;> simp only [NM] at h19
    ·refine ZD rfl (ZC rfl (Yb rfl (Zq rfl (Zq rfl (Zk rfl (ZD rfl (ZC rfl (YH rfl (YH rfl (YH rfl (ZC rfl (Zq rfl (Yc (ZA rfl (Ze (Yq rfl (Yq rfl (Yc (Yi (⟨_,YK (v:=.pnil) rfl (ZL rfl),?_⟩))))))))))))))))))))
     have hh:XH P (m 0) (m 1) (m 2)=false:=Ue (by first | omega | (split <;> omega))
     have he:=Wy (by omega) hh
     rw [he]
     exact .inl ⟨rfl,by decide⟩
    refine Yb rfl (Yd (o':=2) rfl rfl rfl (Yb rfl (Ym rfl rfl ZO rfl (Yb rfl (Zr rfl (Yb rfl (Zq rfl (Zq rfl (Zk rfl (Ys (t:=106) rfl (fun h20=>?_) (fun h20=>?_))))))))))) <;> simp only [NM] at h20
    ·refine ZD rfl (ZC rfl (YH rfl (YH rfl (YH rfl (ZC rfl (Zq rfl (Yc (ZA rfl (Ze (Yq rfl (Yq rfl (Yc (Yi (⟨_,YK (v:=.pnil) rfl (ZL rfl),?_⟩))))))))))))))
     have hh:XH P (m 0) (m 1) (m 2)=false:=Ue (by first | omega | (split <;> omega))
     have he:=Wy (by omega) hh
     rw [he]
     exact .inl ⟨rfl,by decide⟩
    refine Yb rfl (Zk rfl (Yb rfl (Yv (r:=.bool _) rfl rfl (Yb rfl (Zk rfl (Ys (t:=109) rfl (fun h21=>?_) (fun h21=>?_))))))) <;> simp only [NM] at h21
    ·refine Yb rfl (Yd (o':=2) rfl rfl rfl (Yb rfl (Ym rfl rfl ZO rfl (Yb rfl (Zr rfl (Yb rfl (Zq rfl (Zq rfl (Yc (Yj rfl (fun h22=>?_) (fun h22=>?_))))))))))) <;> simp only [NM] at h22
     ·refine Ze (Yq rfl (Yq rfl (Yc (Yi (⟨_,YK (v:=.pnil) rfl (ZL rfl),?_⟩)))))
      have hh:XH P (m 0) (m 1) (m 2)=false:=Ue (by first | omega | (split <;> omega))
      have he:=Wy (by omega) hh
      rw [he]
      exact .inl ⟨rfl,by decide⟩
     refine Yh (Ze (Zl rfl (Zl rfl (Yq rfl (Yc (Yi (⟨_,YK (v:=.ptr _ _ _) rfl (ZL rfl),?_⟩)))))))
     have hh:XH P (m 0) (m 1) (m 2)=true:=U3 (by refine ⟨by omega,by omega,by omega,by omega,?_⟩; first | omega | (split <;> omega))
     have he:=Vr (by omega) hh
     rw [he]
     exact .inr ⟨rfl,_,H,rfl,hH,ZN⟩
    refine ZD rfl (ZC rfl (Yb rfl (Zq rfl (Zq rfl (Yc (ZB rfl (Yh (Ze (Zl rfl (Zl rfl (Yq rfl (Yc (Yi (⟨_,YK (v:=.ptr _ _ _) rfl (ZL rfl),?_⟩))))))))))))))
    have hh:XH P (m 0) (m 1) (m 2)=true:=U3 (by refine ⟨by omega,by omega,by omega,by omega,?_⟩; first | omega | (split <;> omega))
    have he:=Vr (by omega) hh
    rw [he]
    exact .inr ⟨rfl,_,H,rfl,hH,ZN⟩
   refine ZE rfl (YH rfl (YH rfl (YH rfl (ZC rfl (Zq rfl (Zk rfl (Yb rfl (Zk rfl (Yb rfl (Yv (r:=.bool _) rfl rfl (Yb rfl (Zk rfl (Ys (t:=109) rfl (fun h23=>?_) (fun h23=>?_)))))))))))))) <;> simp only [NM] at h23
   ·refine Yb rfl (Yd (o':=2) rfl rfl rfl (Yb rfl (Ym rfl rfl ZO rfl (Yb rfl (Zr rfl (Yb rfl (Zq rfl (Zq rfl (Yc (Yj rfl (fun h24=>?_) (fun h24=>?_))))))))))) <;> simp only [NM] at h24
    ·refine Ze (Yq rfl (Yq rfl (Yc (Yi (⟨_,YK (v:=.pnil) rfl (ZL rfl),?_⟩)))))
     have hh:XH P (m 0) (m 1) (m 2)=false:=Ue (by first | omega | (split <;> omega))
     have he:=Wy (by omega) hh
     rw [he]
     exact .inl ⟨rfl,by decide⟩
    refine Yh (Ze (Zl rfl (Zl rfl (Yq rfl (Yc (Yi (⟨_,YK (v:=.ptr _ _ _) rfl (ZL rfl),?_⟩)))))))
    have hh:XH P (m 0) (m 1) (m 2)=true:=U3 (by refine ⟨by omega,by omega,by omega,by omega,?_⟩; first | omega | (split <;> omega))
    have he:=Vr (by omega) hh
    rw [he]
    exact .inr ⟨rfl,_,H,rfl,hH,ZN⟩
   refine ZD rfl (ZC rfl (Yb rfl (Zq rfl (Zq rfl (Yc (ZB rfl (Yh (Ze (Zl rfl (Zl rfl (Yq rfl (Yc (Yi (⟨_,YK (v:=.ptr _ _ _) rfl (ZL rfl),?_⟩))))))))))))))
   have hh:XH P (m 0) (m 1) (m 2)=true:=U3 (by refine ⟨by omega,by omega,by omega,by omega,?_⟩; first | omega | (split <;> omega))
   have he:=Vr (by omega) hh
   rw [he]
   exact .inr ⟨rfl,_,H,rfl,hH,ZN⟩
  refine ZF rfl (Zq rfl (Zk rfl (Yc (Ye (Ze (Zk rfl (Zk rfl (ZE rfl (YH rfl (YH rfl (YH rfl (ZC rfl (Zq rfl (Zk rfl (Yb rfl (Zk rfl (Yb rfl (Yv (r:=.bool _) rfl rfl (Yb rfl (Zk rfl (Yb rfl (Yd (o':=2) rfl rfl rfl (Yb rfl (Ym rfl rfl ZO rfl (Yb rfl (Zr rfl (Yb rfl (Zq rfl (Zq rfl ?_)))))))))))))))))))))))))))))
  refine Yc (Yj rfl (fun h25=>?_) (fun h25=>?_)) <;> simp only [NM] at h25
  ·refine Ze (Yq rfl (Yq rfl (Yc (Yi (⟨_,YK (v:=.pnil) rfl (ZL rfl),?_⟩)))))
   have hh:XH P (m 0) (m 1) (m 2)=false:=Ue (by first | omega | (split <;> omega))
   have he:=Wy (by omega) hh
   rw [he]
   exact .inl ⟨rfl,by decide⟩
  refine Yh (Ze (Zl rfl (Zl rfl (Yq rfl (Yc (Yi (⟨_,YK (v:=.ptr _ _ _) rfl (ZL rfl),?_⟩)))))))
  have hh:XH P (m 0) (m 1) (m 2)=true:=U3 (by refine ⟨by omega,by omega,by omega,by omega,?_⟩; first | omega | (split <;> omega))
  have he:=Vr (by omega) hh
  rw [he]
  exact .inr ⟨rfl,_,H,rfl,hH,ZN⟩
 refine ZD rfl (ZC rfl (Yb rfl (Zq rfl (Zq rfl (Yc (ZB rfl (Yh (Ye (Yg (Zy rfl (Ym (x:=P (sqI (m 0))) rfl rfl ZM (hH.k) (Zr rfl (Zk rfl (Ys (t:=85) rfl (fun h26=>?_) (fun h26=>?_))))))))))))))) <;> simp only [NM] at h26
 ·refine Yb rfl (Zz rfl (Yb rfl (Ym rfl rfl ZO rfl (Yb rfl (Yu rfl (To (by omega)) rfl rfl rfl (Yb rfl (Zz rfl (Yb rfl (Ym (x:=P (sqI (m 0)+1)) rfl rfl ZM (hH.s) (Yb rfl (Zt rfl rfl (Yb rfl (Wn rfl rfl (by omega) (Yb rfl (Zr rfl (Zq rfl (Zk rfl (Yc (Ye (Ze (Zk rfl (Zk rfl (Ys (t:=96) rfl (fun h27=>?_) (fun h27=>?_)))))))))))))))))))))))) <;> simp only [NM] at h27
  ·refine Yb rfl (Yd (o':=2) rfl rfl rfl (Yb rfl (Ym rfl rfl ZO rfl (Yb rfl (Zr rfl (Yb rfl (Zk rfl (Ys (t:=100) rfl (fun h28=>?_) (fun h28=>?_))))))))) <;> simp only [NM] at h28
   ·refine ZD rfl (ZC rfl (Yb rfl (Zq rfl (Zq rfl (Zk rfl (ZD rfl (ZC rfl (YH rfl (YH rfl (YH rfl (ZC rfl (Zq rfl (Yc (ZA rfl (Ze (Yq rfl (Yq rfl (Yc (Yi (⟨_,YK (v:=.pnil) rfl (ZL rfl),?_⟩))))))))))))))))))))
    have hh:XH P (m 0) (m 1) (m 2)=false:=Ue (by first | omega | (split <;> omega))
    have he:=Wy (by omega) hh
    rw [he]
    exact .inl ⟨rfl,by decide⟩
   refine Yb rfl (Yd (o':=2) rfl rfl rfl (Yb rfl (Ym rfl rfl ZO rfl (Yb rfl (Zr rfl (Yb rfl (Zq rfl (Zq rfl (Zk rfl (Ys (t:=106) rfl (fun h29=>?_) (fun h29=>?_))))))))))) <;> simp only [NM] at h29
   ·refine ZD rfl (ZC rfl (YH rfl (YH rfl (YH rfl (ZC rfl (Zq rfl (Yc (ZA rfl (Ze (Yq rfl (Yq rfl (Yc (Yi (⟨_,YK (v:=.pnil) rfl (ZL rfl),?_⟩))))))))))))))
    have hh:XH P (m 0) (m 1) (m 2)=false:=Ue (by first | omega | (split <;> omega))
    have he:=Wy (by omega) hh
    rw [he]
    exact .inl ⟨rfl,by decide⟩
   refine Yb rfl (Zk rfl (Yb rfl (Yv (r:=.bool _) rfl rfl (Yb rfl (Zk rfl (Ys (t:=109) rfl (fun h30=>?_) (fun h30=>?_))))))) <;> simp only [NM] at h30
   ·refine Yb rfl (Yd (o':=2) rfl rfl rfl (Yb rfl (Ym rfl rfl ZO rfl (Yb rfl (Zr rfl (Yb rfl (Zq rfl (Zq rfl (Yc (Yj rfl (fun h31=>?_) (fun h31=>?_))))))))))) <;> simp only [NM] at h31
    ·refine Ze (Yq rfl (Yq rfl (Yc (Yi (⟨_,YK (v:=.pnil) rfl (ZL rfl),?_⟩)))))
     have hh:XH P (m 0) (m 1) (m 2)=false:=Ue (by first | omega | (split <;> omega))
     have he:=Wy (by omega) hh
     rw [he]
     exact .inl ⟨rfl,by decide⟩
    refine Yh (Ze (Zl rfl (Zl rfl (Yq rfl (Yc (Yi (⟨_,YK (v:=.ptr _ _ _) rfl (ZL rfl),?_⟩)))))))
    have hh:XH P (m 0) (m 1) (m 2)=true:=U3 (by refine ⟨by omega,by omega,by omega,by omega,?_⟩; first | omega | (split <;> omega))
    have he:=Vr (by omega) hh
    rw [he]
    exact .inr ⟨rfl,_,H,rfl,hH,ZN⟩
   refine ZD rfl (ZC rfl (Yb rfl (Zq rfl (Zq rfl (Yc (ZB rfl (Yh (Ze (Zl rfl (Zl rfl (Yq rfl (Yc (Yi (⟨_,YK (v:=.ptr _ _ _) rfl (ZL rfl),?_⟩))))))))))))))
   have hh:XH P (m 0) (m 1) (m 2)=true:=U3 (by refine ⟨by omega,by omega,by omega,by omega,?_⟩; first | omega | (split <;> omega))
   have he:=Vr (by omega) hh
   rw [he]
   exact .inr ⟨rfl,_,H,rfl,hH,ZN⟩
  refine ZE rfl (YH rfl (YH rfl (YH rfl (ZC rfl (Zq rfl (Zk rfl (Yb rfl (Zk rfl (Yb rfl (Yv (r:=.bool _) rfl rfl (Yb rfl (Zk rfl (Ys (t:=109) rfl (fun h32=>?_) (fun h32=>?_)))))))))))))) <;> simp only [NM] at h32
  ·refine Yb rfl (Yd (o':=2) rfl rfl rfl (Yb rfl (Ym rfl rfl ZO rfl (Yb rfl (Zr rfl (Yb rfl (Zq rfl (Zq rfl (Yc (Yj rfl (fun h33=>?_) (fun h33=>?_))))))))))) <;> simp only [NM] at h33
   ·refine Ze (Yq rfl (Yq rfl (Yc (Yi (⟨_,YK (v:=.pnil) rfl (ZL rfl),?_⟩)))))
    have hh:XH P (m 0) (m 1) (m 2)=false:=Ue (by first | omega | (split <;> omega))
    have he:=Wy (by omega) hh
    rw [he]
    exact .inl ⟨rfl,by decide⟩
   refine Yh (Ze (Zl rfl (Zl rfl (Yq rfl (Yc (Yi (⟨_,YK (v:=.ptr _ _ _) rfl (ZL rfl),?_⟩)))))))
   have hh:XH P (m 0) (m 1) (m 2)=true:=U3 (by refine ⟨by omega,by omega,by omega,by omega,?_⟩; first | omega | (split <;> omega))
   have he:=Vr (by omega) hh
   rw [he]
   exact .inr ⟨rfl,_,H,rfl,hH,ZN⟩
  refine ZD rfl (ZC rfl (Yb rfl (Zq rfl (Zq rfl (Yc (ZB rfl (Yh (Ze (Zl rfl (Zl rfl (Yq rfl (Yc (Yi (⟨_,YK (v:=.ptr _ _ _) rfl (ZL rfl),?_⟩))))))))))))))
  have hh:XH P (m 0) (m 1) (m 2)=true:=U3 (by refine ⟨by omega,by omega,by omega,by omega,?_⟩; first | omega | (split <;> omega))
  have he:=Vr (by omega) hh
  rw [he]
  exact .inr ⟨rfl,_,H,rfl,hH,ZN⟩
 refine ZF rfl (Zq rfl (Zk rfl (Yc (Ye (Ze (Zk rfl (Zk rfl (ZE rfl (YH rfl (YH rfl (YH rfl (ZC rfl (Zq rfl (Zk rfl (Yb rfl (Zk rfl (Yb rfl (Yv (r:=.bool _) rfl rfl (Yb rfl (Zk rfl (Yb rfl (Yd (o':=2) rfl rfl rfl (Yb rfl (Ym rfl rfl ZO rfl (Yb rfl (Zr rfl (Yb rfl (Zq rfl (Zq rfl ?_)))))))))))))))))))))))))))))
 refine Yc (Yj rfl (fun h34=>?_) (fun h34=>?_)) <;> simp only [NM] at h34
 ·refine Ze (Yq rfl (Yq rfl (Yc (Yi (⟨_,YK (v:=.pnil) rfl (ZL rfl),?_⟩)))))
  have hh:XH P (m 0) (m 1) (m 2)=false:=Ue (by first | omega | (split <;> omega))
  have he:=Wy (by omega) hh
  rw [he]
  exact .inl ⟨rfl,by decide⟩
 refine Yh (Ze (Zl rfl (Zl rfl (Yq rfl (Yc (Yi (⟨_,YK (v:=.ptr _ _ _) rfl (ZL rfl),?_⟩)))))))
 have hh:XH P (m 0) (m 1) (m 2)=true:=U3 (by refine ⟨by omega,by omega,by omega,by omega,?_⟩; first | omega | (split <;> omega))
 have he:=Vr (by omega) hh
 rw [he]
 exact .inr ⟨rfl,_,H,rfl,hH,ZN⟩
theorem Dq {P:Nat->Int} {a t b:Int} (h:Wf P a t b=0):((0<=a/\a < 64)/\(0<=t/\t < 64)/\a≠t)/\XH P a t b=true:=by
 unfold Wf at h
 split at h
 ·rename_i h1
  split at h
  ·rename_i h2; exact ⟨h1,h2⟩
  omega
 omega
theorem D3 {P:Nat->Int} {a t b:Int} (h:XH P a t b=true):P (sqI a+1)=0\/P (sqI a+1)=1:=(of_decide_eq_true h).2.2.2.1
theorem Rh:ovA (fun _=>0) 0 133 (fun _=>0)=(fun _=>0:Nat->Int):=by
 funext i
 by_cases h:i < 133
 ·rw [X1 (by omega)]
 rw [WV (by omega)]
theorem UX {Q:Nat->Int} (h:∀ i,133<=i->Q i=0):ovA (fun _=>0) 0 133 Q=Q:=by
 funext i
 by_cases hi:i < 133
 ·rw [X1 (by omega),Nat.sub_zero]
 rw [WV (by omega),h i (by omega)]
theorem yS {P:Nat->Int} {k c a t b C:Int} {i:Nat} (hi:133<=i):Uv P k c a t b C i=0:=by
 unfold Uv
 rw [Za7 (by omega),Za7 (by omega),Za7 (by omega),Za7 (by omega),Za7 (by omega),Za7 (by omega)]
theorem UF {P:Nat->Int} {a t b:Int} {i:Nat} (hi:133<=i):Xq P a t b i=0:=by
 unfold Xq
 split
 ·exact yS hi
 rfl
theorem gh {P Q:Nat->Int} {w a t k c b g:Int} (h:∀ i,i < 128->P i=Q i):∀ i,i < 128->V0 P w a t k c b g i=V0 Q w a t k c b g i:=by
 have h1:∀ i,i < 128->DW P w i=DW Q w i:=by
  unfold DW
  split
  ·exact UP h fun _ _=>rfl
  exact h
 have h3:∀ i,i < 128->Es P w a t k c b i=Es Q w a t k c b i:=UP (UP h1 fun _ _=>rfl) fun _ _=>rfl
 unfold V0
 split
 ·exact UP (UP h3 fun _ _=>rfl) fun _ _=>rfl
 split
 ·exact UP (UP h3 fun _ _=>rfl) fun _ _=>rfl
 exact h3
theorem vR {P Q:Nat->Int} {k c a t b C:Int} (ha:0<=a/\a < 64) (ht:0<=t/\t < 64) (h:∀ i,i < 133->i≠129->P i=Q i):Uv P k c a t b C=Uv Q k c a t b C:=by
 funext i
 have ht2:Y7 P k a t=Y7 Q k a t:=zN ha ht (fun i hi=>h i (by omega) (by omega)) (h 130 (by omega) (by omega))
 unfold Uv
 rw [ht2]
 by_cases h1:i < 128
 ·rw [Za8 h1,Za8 h1]
  exact gh (fun i hi=>h i (by omega) (by omega)) i h1
 rw [Za7 h1,Za7 h1,h 128 (by omega) (by omega)]
 have hh:Uo P k (Y7 Q k a t)=Uo Q k (Y7 Q k a t):=by unfold Uo; rw [h 131 (by omega) (by omega)]
 have hf:QY P=QY Q:=by unfold QY; rw [h 128 (by omega) (by omega),h 132 (by omega) (by omega)]
 rw [hh,hf]
theorem HandOf.all {P m H:Nat->Int} (h:HandOf P m H):∀ i,i < 133->i≠129->H i=P i:=fun i hi hn=>by
 by_cases hl:i < 129
 ·exact h.lo i hl
 exact h.hi i (by omega) hi
theorem ti {P m H:Nat->Int} (h:HandOf P m H) (he:Wf P (m 0) (m 1) (m 2)=0):ovA (fun _=>0) 0 133 (Uv H (H 136) (H 137) (H 133) (H 134) (H 135) (H 129))=Xq P (m 0) (m 1) (m 2):=by
 have ⟨hs,_⟩:=Dq he
 rw [UX (fun i hi=>yS hi),h.a,h.t,h.b,h.k,h.s,h.c,Xq,Za8 he]
 exact vR hs.1 hs.2.1 h.all
theorem kz (P m:Nat->Int):(Wf P (m 0) (m 1) (m 2)≠0/\RF AM 47 [.agg 133 (ia P),.agg 3 (ia m)] (.tup [.pnil,.s (.int .i64 (Wf P (m 0) (m 1) (m 2)))])) \/
  (Wf P (m 0) (m 1) (m 2)=0/\∃ H,HandOf P m H/\RN AM 47 [.agg 133 (ia P),.agg 3 (ia m)] [] (fun b=>.tup [.ptr b 0 138,.s (.int .i64 0)]) (.sc .var 138 (ia H)) []):=by
 obtain ⟨v,σ',n',L',h1,h2,h3⟩:=sA P m
 rcases h3 with ⟨rfl,he⟩ | ⟨he,b,H,rfl,hH,hm⟩
 ·exact .inl ⟨he,σ',h1⟩
 rw [he] at h1
 exact .inr ⟨he,H,hH,b,σ',h1,Zbt _,(h2.2.mem hm).2,trivial⟩
theorem made_ex {P m H:Nat->Int} (h:HandOf P m H) (he:Wf P (m 0) (m 1) (m 2)=0):∃ J,RB AM 50 [.ptr 0 0 138] [.sc .var 138 (ia H)] (.agg 133 (ia (Uv H (H 136) (H 137) (H 133) (H 134) (H 135) (H 129)))) [.sc .var 138 (ia J)]:=by
 have ⟨hs,hc⟩:=Dq he
 obtain ⟨v,σ',n',L',h1,h2,J,rfl,hm⟩:=gP H (by rw [h.a]; exact hs.1) (by rw [h.t]; exact hs.2.1) (by rw [h.s]; exact D3 hc) (by rw [h.c]; exact TK P)
 exact ⟨J,σ',h1,(h2.2.mem hm).2,⟨_,_,_,rfl⟩,trivial⟩
theorem tt {P m H:Nat->Int} (h:HandOf P m H) (he:Wf P (m 0) (m 1) (m 2)=0):RB AM 48 [.ptr 0 0 138] [.sc .var 138 (ia H)] (.s (.int .i64 (Y7 P (P (sqI (m 0))) (m 0) (m 1)))) [.sc .var 138 (ia H)]:=by
 have ⟨hs,hc⟩:=Dq he
 have hr:=UU (qp (md:=.var) H (by rw [h.a]; exact hs.1) (by rw [h.t]; exact hs.2.1))
 rw [h.a,h.t,h.k,zN hs.1 hs.2.1 (fun i hi=>h.lo i (by omega)) (h.hi 130 (by omega) (by omega))] at hr
 exact hr
theorem wS (P m:Nat->Int):WR AM 23 [.agg 133 (ia P),.agg 3 (ia m)] [] (fun v _ _=>v=.tup [.agg 133 (ia (Xq P (m 0) (m 1) (m 2))),.s (.int .i64 (Wf P (m 0) (m 1) (m 2)))]):=by
 refine YJ (a:=a23) rfl rfl (YI _) (ZQ rfl) (m:=0) rfl (Ze (YC rfl (YC rfl (Yy (Yq rfl (Zf (Yo rfl rfl ZO (Yo rfl rfl ZN ?_))))))))
 rcases kz P m with ⟨he,hT⟩ | ⟨he,H,hH,hT⟩
 ·refine Yt rfl (hT) rfl rfl rfl (Zo rfl (YD (v:=.pnil) rfl rfl (YD (v:=.s (.int _ _)) rfl rfl (Yq (v:=.pnil) rfl (Zj rfl (Yc (Ye (Ze (Zj rfl (Zr rfl (Yc (Yj rfl (fun h1=>?_) (fun h1=>?_))))))))))))) <;> simp only [NM] at h1
  ·refine Ze (YB rfl .nil (Zj rfl (Yz rfl rfl rfl rfl .here (Zj rfl (Yc (Yi (⟨_,X9 rfl rfl ZM (ZL rfl),?_⟩)))))))
   rw [Xq,Za7 he]
   exact congrArg (fun g=>V.tup [V.agg 133 (ia g),V.s (.int .i64 (Wf P (m 0) (m 1) (m 2)))]) Rh
  exfalso; first | omega | (simp at h1)
 refine Rz (mk:=fun b=>.tup [.ptr b 0 138,.s (.int .i64 0)]) (rs:=[]) (Bs:=[]) kK rfl hT rfl rfl (YF rfl) (fun _ h=>h) rfl trivial rfl rfl .nil (Zo rfl (YD (v:=.ptr _ _ _) rfl rfl (YD (v:=.s (.int _ _)) rfl rfl (Zl rfl (Zj rfl (Yc (Ye (Ze (Zj rfl (Zr rfl (Yc (Yj rfl (fun h2=>?_) (fun h2=>?_))))))))))))) <;> simp only [NM] at h2
 ·exfalso; first | omega | (simp at h2)
 refine Yh (Ze (Zl rfl ?_))
 obtain ⟨J,hJ⟩:=made_ex hH he
 refine Q9 rfl (hJ) rfl rfl rfl .here (Yz rfl rfl rfl rfl (.there .here) (Yq rfl (Yc (Yi (⟨_,X9 rfl rfl ZN (ZL rfl),?_⟩)))))
 rw [he,<- ti hH he]
 rfl
theorem tL (P m:Nat->Int):WR AM 21 [.agg 133 (ia P),.agg 3 (ia m)] [] (fun v _ _=>v=.s (.int .i64 (if Wf P (m 0) (m 1) (m 2)=0 then Y7 P (P (sqI (m 0))) (m 0) (m 1) else -1))):=by
 refine YJ (a:=a21) rfl rfl (YI _) (ZQ rfl) (m:=0) rfl (Ze (YC rfl (YC rfl (Yq rfl (Zf (Yo rfl rfl ZN (Yo rfl rfl ZM ?_)))))))
 rcases kz P m with ⟨he,hT⟩ | ⟨he,H,hH,hT⟩
 ·refine Yt rfl (hT) rfl rfl rfl (Zo rfl (YD (v:=.pnil) rfl rfl (YD (v:=.s (.int _ _)) rfl rfl (Yq (v:=.pnil) rfl (Zj rfl (Yc (Ye (Ze (Zj rfl (Zr rfl (Yc (Yj rfl (fun h3=>?_) (fun h3=>?_))))))))))))) <;> simp only [NM] at h3
  ·refine Ze (Yq rfl (Yc (Yi (⟨_,ZL rfl,?_⟩))))
   rw [Za7 he]
   rfl
  exfalso; first | omega | (simp at h3)
 refine Rz (mk:=fun b=>.tup [.ptr b 0 138,.s (.int .i64 0)]) (rs:=[]) (Bs:=[]) kK rfl hT rfl rfl (YF rfl) (fun _ h=>h) rfl trivial rfl rfl .nil (Zo rfl (YD (v:=.ptr _ _ _) rfl rfl (YD (v:=.s (.int _ _)) rfl rfl (Zl rfl (Zj rfl (Yc (Ye (Ze (Zj rfl (Zr rfl (Yc (Yj rfl (fun h4=>?_) (fun h4=>?_))))))))))))) <;> simp only [NM] at h4
 ·exfalso; first | omega | (simp at h4)
 refine Yh (Ze (Zl rfl (Q9 rfl (tt hH he) rfl rfl rfl .here (Zj rfl (Yc (Yi (⟨_,ZL rfl,?_⟩)))))))
 rw [Za8 he]
 rfl
theorem qE {P m:Nat->Int} (he:Wf P (m 0) (m 1) (m 2)=0):RF AM 28 [.agg 133 (ia P),.agg 3 (ia m)] (.s (.int .i64 (Y7 P (P (sqI (m 0))) (m 0) (m 1)))):=by
 have h:=YG (tC P m)
 rw [Za8 he] at h
 exact h
theorem vB {P m:Nat->Int}:RF AM 62 [.s (.int .i64 (Vz (Vb P) (Xz (m 0)))),.s (.int .i64 (Xz (m 1)))] (.s (.int .i64 (V2 (Vb P) (orM (orM 0 (Xz (m 0))) (Xz (m 1)))))):=by
 have h:=YG (zO (Vz (Vb P) (Xz (m 0))) (Xz (m 1)) (zQ _ _) (jP _))
 rw [tB (TK P)] at h
 exact h
structure SameP (P J B:Nat->Int):Prop where
 lo:∀ i,i < 128->J i=B i
 hi:∀ i,128<=i->i < 133->J i=P i
theorem SameP.put {P J B X Y:Nat->Int} {t:Int} (j:SameP P J B) (ht:0<=t/\t < 64) (hx:∀ i,i < 2->X i=Y i):SameP P (ovA J (0+t.toNat*2) 2 X) (ovA B (sqI t) 2 Y) :=
 ⟨UP j.lo hx,fun i h1 h2=>by rw [WV (by omega)]; exact j.hi i h1 h2⟩
theorem SameP.kind {P J B X Y:Nat->Int} {t b:Int} (j:SameP P (ovA J (0+t.toNat*2) 2 X) (ovA B (sqI t) 2 X)) (ht:0<=t/\t < 64) (h0:Y 0=b) (h1:Y 1=X 1):SameP P (ov (ovA J (0+t.toNat*2) 2 X) (0+t.toNat*2+0) b) (ovA B (sqI t) 2 Y):=by
 have hsq:sqI t=0+t.toNat*2:=rfl
 refine ⟨fun i hi=>?_,fun i h1 h2=>by rw [W7 (by omega)]; exact j.hi i h1 h2⟩
 have hj:=j.lo i hi
 by_cases q:i=0+t.toNat*2+0
 ·subst q
  rw [X1 (by omega),show 0+t.toNat*2+0 - sqI t=0 from by show 0+t.toNat*2+0 - (0+t.toNat*2)=0; omega,h0]
  show (bif Nat.beq _ _ then b else _)=b
  rw [show Nat.beq (0+t.toNat*2+0) (0+t.toNat*2+0)=true from by simp]
  rfl
 rw [W7 q,hj]
 by_cases r:sqI t<=i/\i < sqI t+2
 ·have e:i - sqI t=1:=by
   have:sqI t=0+t.toNat*2:=rfl
   omega
  rw [X1 r,X1 r,e,h1]
 rw [WV (by omega),WV (by omega)]
structure DoneP (P J B:Nat->Int) (s cs ovr hf fl:Int):Prop where
 lo:∀ i,i < 128->J i=B i
 s:J 128=s
 c:J 129=cs
 o:J 130=ovr
 h:J 131=hf
 f:J 132=fl
theorem Zak {P J:Nat->Int} {k c a t b C:Int} (h:DoneP P J (V0 P (Y7 P k a t) a t k c b (Y0 k a t c C)) (Y5 (P 128)) (V2 C (orM (orM 0 (Xz a)) (Xz t))) (UN k a t c) (Uo P k (Y7 P k a t)) (QY P)):ovA (fun _=>0) 0 133 J=Uv P k c a t b C:=by
 funext i
 unfold Uv
 by_cases hi:i < 133
 ·rw [X1 (by omega),Nat.sub_zero]
  by_cases h1:i < 128
  ·rw [Za8 h1]; exact h.lo i h1
  rw [Za7 h1]
  have hc:i=128\/i=129\/i=130\/i=131\/i=132:=by omega
  rcases hc with rfl | rfl | rfl | rfl | rfl
  ·exact h.s
  ·exact h.c
  ·exact h.o
  ·exact h.h
  exact h.f
 rw [WV (by omega),Za7 (by omega),Za7 (by omega),Za7 (by omega),Za7 (by omega),Za7 (by omega),Za7 (by omega)]
theorem Kr (P m:Nat->Int):WR AM 30 [.agg 133 (ia P),.agg 3 (ia m)] [] (fun v _ _=>v=.tup [.agg 133 (ia (Xq P (m 0) (m 1) (m 2))),.s (.int .i64 (Wf P (m 0) (m 1) (m 2)))]):=by
 refine YJ (a:=a30) rfl rfl (YI _) (ZQ rfl) (m:=0) rfl (Ze (YC rfl (YC rfl (Yy (Yq rfl (Yc (Ye (Ze (Zy rfl (Ym rfl rfl ZN rfl (Yt rfl (YG (zk _)) rfl rfl rfl (Yv (r:=.bool _) rfl rfl (Zk rfl (Ys (t:=13) rfl (fun h5=>?_) (fun h5=>?_))))))))))))))) <;> simp only [NM] at h5
 ·try simp only [isM,ZaL,Zax] at h5
  refine ZE rfl (Zq rfl (Zk rfl (ZE rfl (ZC rfl (Zq rfl (Yc (ZA rfl (Ze (YB rfl .nil (Yz rfl rfl rfl rfl .here (Yq rfl (Yc (Yi (⟨_,X9 rfl rfl ZM (ZL rfl),?_⟩))))))))))))))
  have h6:=UK (P:=P) (a:=m 0) (t:=m 1) (b:=m 2) (by omega)
  rw [Xq,h6,Za7 (by decide)]
  exact congrArg (fun g=>V.tup [V.agg 133 (ia g),V.s (.int .i64 6)]) Rh
 try simp only [isM,ZaL,Zax] at h5
 refine Yb rfl (Zz rfl (Yb rfl (Ym rfl rfl ZN rfl (Yb rfl (Yt rfl (YG (zk _)) rfl rfl rfl (Yb rfl (Yv (r:=.bool _) rfl rfl (Zq rfl (Zk rfl (Ys (t:=19) rfl (fun h6=>?_) (fun h6=>?_))))))))))) <;> simp only [NM] at h6
 ·try simp only [isM,ZaL,Zax] at h6
  refine ZE rfl (ZC rfl (Zq rfl (Yc (ZA rfl (Ze (YB rfl .nil (Yz rfl rfl rfl rfl .here (Yq rfl (Yc (Yi (⟨_,X9 rfl rfl ZM (ZL rfl),?_⟩)))))))))))
  have h6:=UK (P:=P) (a:=m 0) (t:=m 1) (b:=m 2) (by omega)
  rw [Xq,h6,Za7 (by decide)]
  exact congrArg (fun g=>V.tup [V.agg 133 (ia g),V.s (.int .i64 6)]) Rh
 try simp only [isM,ZaL,Zax] at h6
 refine Yb rfl (Zy rfl (Yb rfl (Ym rfl rfl ZN rfl (Yb rfl (Zz rfl (Yb rfl (Ym rfl rfl ZN rfl (Yb rfl (Zr rfl (Zq rfl (Yc (Yj rfl (fun h7=>?_) (fun h7=>?_))))))))))))) <;> simp only [NM] at h7
 ·refine Ze (YB rfl .nil (Yz rfl rfl rfl rfl .here (Yq rfl (Yc (Yi (⟨_,X9 rfl rfl ZM (ZL rfl),?_⟩))))))
  have h6:=UK (P:=P) (a:=m 0) (t:=m 1) (b:=m 2) (by omega)
  rw [Xq,h6,Za7 (by decide)]
  exact congrArg (fun g=>V.tup [V.agg 133 (ia g),V.s (.int .i64 6)]) Rh
 refine Yh (Ye (Ze (Yo rfl rfl ZO (Yo rfl rfl ZN (Yt rfl (YG (j6 _ _ (by assumption) (by assumption))) rfl rfl rfl (Yv (r:=.bool _) rfl rfl (Yc (Yj rfl (fun h8=>?_) (fun h8=>?_))))))))) <;> simp only [NM] at h8
 ·refine Ze (YB rfl .nil (Yz rfl rfl rfl rfl .here (Yq rfl (Yc (Yi (⟨_,X9 rfl rfl ZM (ZL rfl),?_⟩))))))
  have h8:=Wy (P:=P) (a:=m 0) (t:=m 1) (b:=m 2) ⟨by assumption,by assumption,by assumption⟩ (by assumption)
  rw [Xq,h8,Za7 (by decide)]
  exact congrArg (fun g=>V.tup [V.agg 133 (ia g),V.s (.int .i64 8)]) Rh
 refine Yh (Ze (Zy rfl (Ym rfl rfl ZN rfl (Zy rfl ?_))))
 refine XY rfl rfl rfl (by first | omega | (have:=hca (by omega); omega)) ?_
 refine Yp rfl rfl ZO (Yy (Yz rfl rfl rfl rfl .here (Zf (Yo rfl rfl ZP (Yy (Yz rfl rfl rfl rfl .here (Zf (Yo rfl rfl (.tail _ ZP) (Yo rfl rfl ZP ?_)))))))))
 have hs:(0<=m 0/\m 0 < 64)/\(0<=m 1/\m 1 < 64)/\m 0≠m 1:=⟨by assumption,by assumption,by assumption⟩
 have hcan:XH P (m 0) (m 1) (m 2)=true:=by assumption
 have he:=Vr hs hcan
 have hb:=VH (P:=P) (k:=(P (sqI (m 0)))) hs.1 hs.2.1
 refine Yt rfl (qE he) rfl rfl rfl (Zj rfl (Yc (WD (fun f n L=>∃ (X J:Nat->Int),(Wf P (m 0) (m 1) (m 2)=0)/\(0<=m 0/\m 0 < 64)/\(0<=m 1/\m 1 < 64)/\((P (sqI (m 0)+1))=0\/(P (sqI (m 0)+1))=1)/\(X 0=(P (sqI (m 0))))/\(X 1=(P (sqI (m 0)+1)))/\(SameP P J (DW P (Y7 P (P (sqI (m 0))) (m 0) (m 1))))/\(f 2=.ptr 0 0 133)/\(f 3=.ptr 1 0 3)/\(f 4=.ptr 2 0 133)/\(f 6=.ptr 3 0 2)/\(f 7=.ptr 4 0 133)/\(f 8=.s (.int .i64 (Y7 P (P (sqI (m 0))) (m 0) (m 1))))/\(L=[(4,.sc .var 133 (ia J)),(3,.sc .var 2 (ia X)),(2,.sc .var 133 (ia fun _=>0)),(1,.sc .var 3 (ia m)),(0,.sc .var 133 (ia P))])/\(n=5)) ?_ (fun f nb L hI=>?_))))
 ·refine Ze (Zj rfl (Zr rfl (Yc (Yj rfl (fun h9=>?_) (fun h9=>?_))))) <;> simp only [NM] at h9
  ·refine Yf (Zj rfl (YB rfl .nil (Zy rfl ?_)))
   refine XY rfl rfl rfl (by first | omega | (have:=hca (by omega); omega)) ?_
   refine Yz rfl rfl rfl rfl .here (Yc (⟨_,(.refl _),_,_,he,hs.1,hs.2.1,D3 hcan,?_,?_,?_,rfl,rfl,rfl,rfl,rfl,rfl,rfl,rfl⟩))
   · rfl
   · rfl
   have h0 : SameP P (ovA (fun _ => 0) 0 133 P) P := ⟨fun i hi => by rw [X1 (by omega), Nat.sub_zero], fun i _ hi => by rw [X1 (by omega), Nat.sub_zero]⟩
   have hb:=VH (P:=P) (k:=(P (sqI (m 0)))) hs.1 hs.2.1
   rw [DW]
   (rw [Za8 (by assumption)]; exact h0.put (by omega) (fun _ _=>rfl))
  refine Yh (⟨_,(.refl _),_,_,he,hs.1,hs.2.1,D3 hcan,?_,?_,?_,rfl,rfl,rfl,rfl,rfl,rfl,rfl,rfl⟩)
  · rfl
  · rfl
  have h0 : SameP P (ovA (fun _ => 0) 0 133 P) P := ⟨fun i hi => by rw [X1 (by omega), Nat.sub_zero], fun i _ hi => by rw [X1 (by omega), Nat.sub_zero]⟩
  have hb:=VH (P:=P) (k:=(P (sqI (m 0)))) hs.1 hs.2.1
  rw [DW]
  (rw [Za7 (by omega)]; exact h0)
 obtain ⟨X,J,he,ha,ht,hc,hx0,hx1,hJ,k2,k3,k4,k6,k7,k8,rfl,rfl⟩:=hI
 refine Za 2 k2 (Za 3 k3 (Za 4 k4 (Za 6 k6 (Za 7 k7 (Za 8 k8 ?_)))))
 have hb:=VH (P:=P) (k:=(P (sqI (m 0)))) ha ht
 refine Ze (Zy rfl (Ym rfl rfl ZP rfl (YB rfl .nil (Zy rfl ?_))))
 refine XY rfl rfl rfl (by first | omega | (have:=hca (by omega); omega)) ?_
 refine Yz rfl rfl rfl rfl .here (Zf (Zz rfl (Ym rfl rfl ZP rfl (Yo rfl rfl ZN (Zy rfl ?_)))))
 refine XY rfl rfl rfl (by first | omega | (have:=hca (by omega); omega)) ?_
 refine Yz rfl rfl rfl rfl .here (Yc (WD (fun f n L=>∃ (J:Nat->Int),(SameP P J (Es P (Y7 P (P (sqI (m 0))) (m 0) (m 1)) (m 0) (m 1) (P (sqI (m 0))) (P (sqI (m 0)+1)) (m 2)))/\(f 2=.ptr 0 0 133)/\(f 3=.ptr 1 0 3)/\(f 4=.ptr 2 0 133)/\(f 6=.ptr 3 0 2)/\(f 7=.ptr 4 0 133)/\(f 8=.s (.int .i64 (Y7 P (P (sqI (m 0))) (m 0) (m 1))))/\(L=[(4,.sc .var 133 (ia J)),(3,.sc .var 2 (ia X)),(2,.sc .var 133 (ia fun _=>0)),(1,.sc .var 3 (ia m)),(0,.sc .var 133 (ia P))])/\(n=5)) ?_ (fun f nb L hI=>?_)))
 ·refine Ze (Yd (o':=2) rfl rfl rfl (Ym rfl rfl ZP rfl (Zr rfl (Yc (Yj rfl (fun h10=>?_) (fun h10=>?_)))))) <;> simp only [NM] at h10
  ·refine Yf (Zz rfl (Ym rfl rfl ZP rfl (Yd (o':=2) rfl rfl rfl (Ym rfl rfl ZP rfl (Zy rfl ?_)))))
   refine XY rfl rfl rfl (by first | omega | (have:=hca (by omega); omega)) ?_
   refine Yd rfl rfl rfl (YA rfl rfl rfl rfl .here (Yc (⟨_,(.refl _),_,?_,rfl,rfl,rfl,rfl,rfl,rfl,rfl,rfl⟩)))
   have h2:=(hJ.put (X:=fun _=>0) (Y:=yb) ha (fun _ _=>rfl)).put (X:=X) (Y:=X) ht (fun _ _=>rfl)
   exact h2.kind (Y:=pc (if m 2=0 then (P (sqI (m 0))) else m 2) (P (sqI (m 0)+1))) ht (show (if m 2=0 then (P (sqI (m 0))) else m 2)=m 2 from Za7 (by assumption)) hx1.symm
  refine Yh (⟨_,(.refl _),_,?_,rfl,rfl,rfl,rfl,rfl,rfl,rfl,rfl⟩)
  have h2:=(hJ.put (X:=fun _=>0) (Y:=yb) ha (fun _ _=>rfl)).put (X:=X) (Y:=X) ht (fun _ _=>rfl)
  exact (hJ.put (X:=fun _=>0) (Y:=yb) ha (fun _ _=>rfl)).put (X:=X) ht (two (Y:=pc (if m 2=0 then (P (sqI (m 0))) else m 2) (P (sqI (m 0)+1))) (hx0.trans (Za8 (by assumption)).symm) hx1)
 obtain ⟨J,hJ,k2,k3,k4,k6,k7,k8,rfl,rfl⟩:=hI
 refine Za 2 k2 (Za 3 k3 (Za 4 k4 (Za 6 k6 (Za 7 k7 (Za 8 k8 ?_)))))
 have hb:=VH (P:=P) (k:=(P (sqI (m 0)))) ha ht
 refine WD (fun f n L=>∃ (J:Nat->Int),(SameP P J (V0 P (Y7 P (P (sqI (m 0))) (m 0) (m 1)) (m 0) (m 1) (P (sqI (m 0))) (P (sqI (m 0)+1)) (m 2) (Y0 (P (sqI (m 0))) (m 0) (m 1) (P (sqI (m 0)+1)) (Vb P))))/\(f 2=.ptr 0 0 133)/\(f 3=.ptr 1 0 3)/\(f 4=.ptr 2 0 133)/\(f 6=.ptr 3 0 2)/\(f 7=.ptr 4 0 133)/\(f 8=.s (.int .i64 (Y7 P (P (sqI (m 0))) (m 0) (m 1))))/\(L=[(4,.sc .var 133 (ia J)),(3,.sc .var 2 (ia X)),(2,.sc .var 133 (ia fun _=>0)),(1,.sc .var 3 (ia m)),(0,.sc .var 133 (ia P))])/\(n=5)) ?_ (fun f nb L hI=>?_)
 ·refine Ze (Yo rfl rfl (.tail _ ZP) (Yo rfl rfl ZP ?_))
  have hca:=EO (k:=(P (sqI (m 0)))) (a:=m 0) (t:=m 1) (c:=(P (sqI (m 0)+1))) (C:=Vb P)
  refine Yt rfl (YG (qX P m hc ha ht)) rfl rfl rfl ?_
  obtain ⟨g,hg⟩:∃ g,g=(Y0 (P (sqI (m 0))) (m 0) (m 1) (P (sqI (m 0)+1)) (Vb P)):=⟨_,rfl⟩
  rw [<- hg] at hca ⊢
  refine Yc (Yk (Ze (Zr rfl (Zk rfl (Yc (Yj rfl (fun h11=>?_) (fun h11=>?_))))))) <;> simp only [NM] at h11
  ·refine Ze (Zy rfl (Ym rfl rfl ZP rfl ?_))
   refine Vg rfl rfl (by first | omega | (have:=hca (by omega); omega)) ?_
   refine YB rfl .nil (Zy rfl ?_)
   refine XY rfl rfl rfl (by first | omega | (have:=hca (by omega); omega)) ?_
   refine Yz rfl rfl rfl rfl .here (Yc (Yf (Zy rfl (Ym rfl rfl ZP rfl ?_))))
   refine Vg rfl rfl (by first | omega | (have:=hca (by omega); omega)) ?_
   refine Zz rfl (Ym (x:=X 1) rfl rfl ZN (rfl) (YB rfl (.one rfl (.one rfl .nil)) (Zy rfl ?_)))
   refine XY rfl rfl rfl (by first | omega | (have:=hca (by omega); omega)) ?_
   refine Yz rfl rfl rfl rfl .here (Yc (⟨_,(.refl _),_,?_,rfl,rfl,rfl,rfl,rfl,rfl,rfl,rfl⟩))
   rw [V0]
   (rw [Za8 (by assumption)]; exact (hJ.put (by omega) (fun _ _=>rfl)).put (by omega) (two rfl hx1))
  refine Ze (Zr rfl (Zk rfl (Yc (Yj rfl (fun h12=>?_) (fun h12=>?_))))) <;> simp only [NM] at h12
  ·refine Ze (Zy rfl (Ym rfl rfl ZP rfl ?_))
   refine kW rfl rfl (by first | omega | (have:=hca (by omega); omega)) ?_
   refine YB rfl .nil (Zy rfl ?_)
   refine XY rfl rfl rfl (by first | omega | (have:=hca (by omega); omega)) ?_
   refine Yz rfl rfl rfl rfl .here (Yc (Yf (Zy rfl (Ym rfl rfl ZP rfl ?_))))
   refine kW rfl rfl (by first | omega | (have:=hca (by omega); omega)) ?_
   refine Zz rfl (Ym (x:=X 1) rfl rfl ZN (rfl) (YB rfl (.one rfl (.one rfl .nil)) (Zy rfl ?_)))
   refine XY rfl rfl rfl (by first | omega | (have:=hca (by omega); omega)) ?_
   refine Yz rfl rfl rfl rfl .here (Yc (⟨_,(.refl _),_,?_,rfl,rfl,rfl,rfl,rfl,rfl,rfl,rfl⟩))
   rw [V0]
   (rw [Za7 (by assumption),Za8 (by assumption)]; exact (hJ.put (by omega) (fun _ _=>rfl)).put (by omega) (two rfl hx1))
  refine Yh (⟨_,(.refl _),_,?_,rfl,rfl,rfl,rfl,rfl,rfl,rfl,rfl⟩)
  rw [V0]
  (rw [Za7 (by assumption),Za7 (by assumption)]; exact hJ)
 obtain ⟨J,hJ,k2,k3,k4,k6,k7,k8,rfl,rfl⟩:=hI
 refine Za 2 k2 (Za 3 k3 (Za 4 k4 (Za 6 k6 (Za 7 k7 (Za 8 k8 (Ze (Yd (o':=128) rfl rfl rfl (Ym (x:=P 128) rfl rfl (.tail _ ZP) (rfl) (Yt rfl (YG (WT _)) rfl rfl rfl (Yd (o':=128) rfl rfl rfl (YA rfl rfl rfl rfl .here (Yc (Ye (Yg (Yo rfl rfl (.tail _ ZP) (Yu rfl (YG (VQ _)) rfl rfl rfl (Zy rfl (Ym rfl rfl ZP rfl (Yu rfl (YG (wT _)) rfl rfl rfl (Yu rfl (YG (zO _ _ (TK P) (jP _))) rfl rfl rfl (Zz rfl (Ym rfl rfl ZP rfl (Yt rfl (YG (wT _)) rfl rfl rfl (Yt rfl (vB) rfl rfl rfl (Yd (o':=129) rfl rfl rfl (YA rfl rfl rfl rfl .here (Zf (Yd (o':=130) rfl rfl rfl (YA rfl rfl rfl rfl .here ?_)))))))))))))))))))))))))))))
 refine Yc (WD (fun f n L=>∃ (J:Nat->Int),(DoneP P J (V0 P (Y7 P (P (sqI (m 0))) (m 0) (m 1)) (m 0) (m 1) (P (sqI (m 0))) (P (sqI (m 0)+1)) (m 2) (Y0 (P (sqI (m 0))) (m 0) (m 1) (P (sqI (m 0)+1)) (Vb P))) (Y5 (P 128)) (V2 (Vb P) (orM (orM 0 (Xz (m 0))) (Xz (m 1)))) (UN (P (sqI (m 0))) (m 0) (m 1) (P (sqI (m 0)+1))) (P 131) (P 132))/\(f 2=.ptr 0 0 133)/\(f 3=.ptr 1 0 3)/\(f 4=.ptr 2 0 133)/\(f 6=.ptr 3 0 2)/\(f 7=.ptr 4 0 133)/\(f 8=.s (.int .i64 (Y7 P (P (sqI (m 0))) (m 0) (m 1))))/\(L=[(4,.sc .var 133 (ia J)),(3,.sc .var 2 (ia X)),(2,.sc .var 133 (ia fun _=>0)),(1,.sc .var 3 (ia m)),(0,.sc .var 133 (ia P))])/\(n=5)) ?_ (fun f nb L hI=>?_))
 ·refine Ze (Yo rfl rfl ZN (Yo rfl rfl ZP (Yt rfl (YG (rq X m (by rw [hx1]; exact hc) ha ht)) rfl rfl rfl (Yc (Yj rfl (fun h13=>?_) (fun h13=>?_))))))
  ·refine Yf (Zy rfl (Ym rfl rfl ZP rfl (Zz rfl (Ym rfl rfl ZP rfl ?_))))
   refine Vg rfl rfl (by first | omega | (have:=hca (by omega); omega)) ?_
   refine sS rfl rfl (by first | omega | (have:=hca (by omega); omega)) ?_
   refine Yd (o':=130) rfl rfl rfl (YA rfl rfl rfl rfl .here (Yc (⟨_,(.refl _),_,?_,rfl,rfl,rfl,rfl,rfl,rfl,rfl,rfl⟩)))
   refine ⟨(by intro i hi; (repeat rw [W7 (by omega)]); exact hJ.lo i hi),rfl,rfl,?_,hJ.hi 131 (by omega) (by omega),hJ.hi 132 (by omega) (by omega)⟩
   rw [UN,<- hx0,<- hx1]
   (rw [Za8 (by assumption)]; rfl)
  refine Yh (⟨_,(.refl _),_,?_,rfl,rfl,rfl,rfl,rfl,rfl,rfl,rfl⟩)
  refine ⟨(by intro i hi; (repeat rw [W7 (by omega)]); exact hJ.lo i hi),rfl,rfl,?_,hJ.hi 131 (by omega) (by omega),hJ.hi 132 (by omega) (by omega)⟩
  rw [UN,<- hx0,<- hx1]
  (rw [Za7 (Bool.eq_false_iff.1 (by assumption))]; rfl)
 obtain ⟨J,hD,k2,k3,k4,k6,k7,k8,rfl,rfl⟩:=hI
 refine Za 2 k2 (Za 3 k3 (Za 4 k4 (Za 6 k6 (Za 7 k7 (Za 8 k8 (Ze (Yd (o':=131) rfl rfl rfl (Ym (x:=P 131) rfl rfl (.tail _ ZP) (rfl) (DZ rfl rfl (Yr rfl rfl rfl (Yd (o':=131) rfl rfl rfl (YA rfl rfl rfl rfl .here (Yc (WD (fun f n L=>∃ (J:Nat->Int),(DoneP P J (V0 P (Y7 P (P (sqI (m 0))) (m 0) (m 1)) (m 0) (m 1) (P (sqI (m 0))) (P (sqI (m 0)+1)) (m 2) (Y0 (P (sqI (m 0))) (m 0) (m 1) (P (sqI (m 0)+1)) (Vb P))) (Y5 (P 128)) (V2 (Vb P) (orM (orM 0 (Xz (m 0))) (Xz (m 1)))) (UN (P (sqI (m 0))) (m 0) (m 1) (P (sqI (m 0)+1))) (Uo P (P (sqI (m 0))) (Y7 P (P (sqI (m 0))) (m 0) (m 1))) (P 132))/\(f 2=.ptr 0 0 133)/\(f 3=.ptr 1 0 3)/\(f 4=.ptr 2 0 133)/\(f 6=.ptr 3 0 2)/\(f 7=.ptr 4 0 133)/\(f 8=.s (.int .i64 (Y7 P (P (sqI (m 0))) (m 0) (m 1))))/\(L=[(4,.sc .var 133 (ia J)),(3,.sc .var 2 (ia X)),(2,.sc .var 133 (ia fun _=>0)),(1,.sc .var 3 (ia m)),(0,.sc .var 133 (ia P))])/\(n=5)) ?_ (fun f nb L hI=>?_)))))))))))))))
 ·refine Ze (Zy rfl (Ym (x:=(P (sqI (m 0)))) rfl rfl ZN (hx0) (Zr rfl (Zk rfl (Ys (t:=136) rfl (fun h14=>?_) (fun h14=>?_)))))) <;> simp only [NM] at h14
  ·refine ZD rfl (Zq rfl (Yc (ZA rfl (Yf (Yd (o':=131) rfl rfl rfl (YA rfl rfl rfl rfl .here (Yc (⟨_,(.refl _),_,?_,rfl,rfl,rfl,rfl,rfl,rfl,rfl,rfl⟩))))))))
   refine ⟨(by intro i hi; (repeat rw [W7 (by omega)]); exact hD.lo i hi),hD.s,hD.c,hD.o,?_,hD.f⟩
   rw [Uo]
   (rw [Za8 (.inl (by assumption))]; rfl)
  refine Yb rfl (Zj rfl (Yb rfl (Zr rfl (Zq rfl (Yc (Yj rfl (fun h15=>?_) (fun h15=>?_))))))) <;> simp only [NM] at h15
  ·refine Yf (Yd (o':=131) rfl rfl rfl (YA rfl rfl rfl rfl .here (Yc (⟨_,(.refl _),_,?_,rfl,rfl,rfl,rfl,rfl,rfl,rfl,rfl⟩))))
   refine ⟨(by intro i hi; (repeat rw [W7 (by omega)]); exact hD.lo i hi),hD.s,hD.c,hD.o,?_,hD.f⟩
   rw [Uo]
   (rw [Za8 (.inr (by assumption))]; rfl)
  refine Yh (⟨_,(.refl _),_,?_,rfl,rfl,rfl,rfl,rfl,rfl,rfl,rfl⟩)
  refine ⟨(by intro i hi; (repeat rw [W7 (by omega)]); exact hD.lo i hi),hD.s,hD.c,hD.o,?_,hD.f⟩
  rw [Uo]
  (rw [Za7 (by omega)]; rfl)
 obtain ⟨J,hD,k2,k3,k4,k6,k7,k8,rfl,rfl⟩:=hI
 refine Za 2 k2 (Za 3 k3 (Za 4 k4 (Za 6 k6 (Za 7 k7 (Za 8 k8 (WD (fun f n L=>∃ (J:Nat->Int),(DoneP P J (V0 P (Y7 P (P (sqI (m 0))) (m 0) (m 1)) (m 0) (m 1) (P (sqI (m 0))) (P (sqI (m 0)+1)) (m 2) (Y0 (P (sqI (m 0))) (m 0) (m 1) (P (sqI (m 0)+1)) (Vb P))) (Y5 (P 128)) (V2 (Vb P) (orM (orM 0 (Xz (m 0))) (Xz (m 1)))) (UN (P (sqI (m 0))) (m 0) (m 1) (P (sqI (m 0)+1))) (Uo P (P (sqI (m 0))) (Y7 P (P (sqI (m 0))) (m 0) (m 1))) (QY P))/\(f 2=.ptr 0 0 133)/\(f 3=.ptr 1 0 3)/\(f 4=.ptr 2 0 133)/\(f 6=.ptr 3 0 2)/\(f 7=.ptr 4 0 133)/\(f 8=.s (.int .i64 (Y7 P (P (sqI (m 0))) (m 0) (m 1))))/\(L=[(4,.sc .var 133 (ia J)),(3,.sc .var 2 (ia X)),(2,.sc .var 133 (ia fun _=>0)),(1,.sc .var 3 (ia m)),(0,.sc .var 133 (ia P))])/\(n=5)) ?_ (fun f nb L hI=>?_)))))))
 ·refine Ze (Yd (o':=128) rfl rfl rfl (Ym (x:=P 128) rfl rfl (.tail _ ZP) (rfl) (Zr rfl (Yc (Yj rfl (fun h16=>?_) (fun h16=>?_)))))) <;> simp only [NM] at h16
  ·refine Yf (Yd (o':=132) rfl rfl rfl (Ym (x:=P 132) rfl rfl (.tail _ ZP) (rfl) (DZ rfl rfl (Yr rfl rfl rfl (Yd (o':=132) rfl rfl rfl (YA rfl rfl rfl rfl .here (Yc (⟨_,(.refl _),_,?_,rfl,rfl,rfl,rfl,rfl,rfl,rfl,rfl⟩))))))))
   refine ⟨(by intro i hi; (repeat rw [W7 (by omega)]); exact hD.lo i hi),hD.s,hD.c,hD.o,hD.h,?_⟩
   rw [QY]
   (rw [Za8 (by assumption)]; rfl)
  refine Yh (⟨_,(.refl _),_,?_,rfl,rfl,rfl,rfl,rfl,rfl,rfl,rfl⟩)
  refine ⟨(by intro i hi; (repeat rw [W7 (by omega)]); exact hD.lo i hi),hD.s,hD.c,hD.o,hD.h,?_⟩
  rw [QY]
  (rw [Za7 (by assumption)]; exact hD.f)
 obtain ⟨J,hD,k2,k3,k4,k6,k7,k8,rfl,rfl⟩:=hI
 refine Za 2 k2 (Za 3 k3 (Za 4 k4 (Za 6 k6 (Za 7 k7 (Za 8 k8 (Ze (Yo rfl rfl ZM (Yz rfl rfl rfl rfl (.there (.there .here)) (Yq rfl (Yc (Yi (⟨_,X9 rfl rfl ZO (ZL rfl),?_⟩))))))))))))
 rw [Xq,he,Za8 rfl,<- Zak hD]
 rfl
def Wm (P:Nat->Int) (a t:Int):Bool:=decide (P (sqI a)=6/\(t - a=2\/t - a=-2))
def y0 (P:Nat->Int) (l:List Int):Bool:=!(l.any (VX P (Y5 (P 128))))
def WC (P:Nat->Int):Bool:=VO P&&!Xt P (Y5 (P 128))
theorem ku (P m:Nat->Int) (ha:0<=m 0/\m 0 < 64) (ht:0<=m 1/\m 1 < 64):WR AM 101 [.agg 133 (ia P),.agg 3 (ia m)] [] (fun v _ _=>v=.s (.bool (Wm P (m 0) (m 1)))):=by
 refine YJ (a:=a101) rfl rfl (YI _) (ZQ rfl) (m:=0) rfl (Ze (YC rfl (YC rfl (Yq rfl (Zf (Zz rfl (Ym rfl rfl ZM rfl (Zy rfl (Ym rfl rfl ZM rfl (Zt rfl rfl (Zj rfl (Zf (Zy rfl (Ym rfl rfl ZM rfl (Zy rfl (Zy rfl (Zw rfl rfl rfl (Yd rfl rfl rfl (Ym (x:=P (sqI (m 0))) rfl rfl ZN (congrArg P (by have hq:sqI (m 0)=0+(m 0).toNat*2:=rfl; omega)) (Zr rfl (Zk rfl (Ys (t:=19) rfl (fun h1=>?_) (fun h1=>?_))))))))))))))))))))))) <;> simp only [NM] at h1
 ·refine Yb rfl (Zj rfl (Yb rfl (Zr rfl (Yb rfl (Zk rfl (Ys (t:=22) rfl (fun h2=>?_) (fun h2=>?_))))))) <;> simp only [NM] at h2
  ·refine ZD rfl (Yb rfl (Zq rfl (Zq rfl (Zk rfl (Zg rfl ?_)))))
   unfold Wm
   (rw [ZaV (by omega)]; rfl)
  refine Yb rfl (Zj rfl (Yb rfl (Zr rfl (Yb rfl (Zq rfl (Zq rfl (Zk rfl (Zg rfl ?_))))))))
  unfold Wm
  (refine congrArg (fun b=>V.s (.bool b)) ?_; rw [ZaP]; simp only [Za2,ZaL]; omega)
 refine ZD rfl (ZC rfl (YH rfl (YH rfl (ZC rfl (Zq rfl (Zk rfl (Zg rfl ?_)))))))
 unfold Wm
 (rw [ZaT (by omega)]; rfl)
theorem safe_rd (P:Nat->Int) (l:List Int) (hlen:l.length<=1000000):RdR AM 102 1 [.agg 133 (ia P)] [] l (.s (.bool (y0 P l))):=by
 refine Ql fun v Bs hc=>?_
 refine YJ (a:=a102) rfl rfl (YI _) (ZQ rfl) rfl ?_ (by first | rfl | (cases hc <;> rfl))
 have hr0:=hc.rx
 rw [show Xb 0 Bs=Xb 0 Bs++[] from (ZaQ _).symm]
 generalize hown:Xb 0 Bs=own0 at hr0 ⊢
 refine Ze (YC rfl (Yq rfl (Yc (Ye (Yg (Zy rfl (Yo rfl rfl ZM (Zy rfl (Yd (o':=128) rfl rfl rfl (Ym rfl rfl ZM rfl (Yu rfl (YG (Uc _)) rfl rfl rfl (Yq (v:=v) rfl (Wp (caps:=[]) rfl (sh P (Y5 (P 128)) l hlen) rfl (hr0) (fun _ h=>(.tail _ (ZaC _ h))) rfl rfl rfl (Yv (r:=.bool _) rfl rfl (Zk rfl (Zg rfl ?_))))))))))))))))
 exact ⟨rfl,(fun _ h=>(.tail _ h))⟩
theorem Jv (P:Nat->Int):WR AM 70 [.agg 133 (ia P)] [] (fun v _ _=>v=.s (.bool (WC P))):=by
 refine YJ (a:=a70) rfl rfl (YI _) (ZQ rfl) (m:=0) rfl (Ze (YC rfl (Yq rfl (Yc (Ye (Yg (Yo rfl rfl ZM (Yt rfl (YG (pU _)) rfl rfl rfl (Zk rfl (Ys (t:=5) rfl (fun h3=>?_) (fun h3=>?_)))))))))))
 ·refine Yb rfl (Yo rfl rfl ZM (Yb rfl (Yd (o':=128) rfl rfl rfl (Yb rfl (Ym rfl rfl ZM rfl (Yb rfl (Yu rfl (YG (Uc _)) rfl rfl rfl (Yb rfl (Yt rfl (RO _ _) rfl rfl rfl (Yb rfl (Yv (r:=.bool _) rfl rfl (Zq rfl (Zk rfl (Zg rfl ?_))))))))))))))
  unfold WC
  (rw [show VO P=true by assumption]; rfl)
 refine Ya rfl rfl (ZE rfl (ZC rfl (Zq rfl (Zk rfl (Zg rfl ?_)))))
 unfold WC
 (rw [show VO P=false by assumption]; rfl)
theorem pb {g:FuncId} {o z:Nat}:One fun b=>.fn g [.ptr b o z]:=⟨fun _=>by simp [V.refs,V.refsL],fun h b=>by cases e:h b <;> simp [V.ren,V.renL,e]⟩
theorem jall_rn (P:Nat->Int):RN AM 72 [.agg 133 (ia P)] [] (fun b=>.fn 99 [.ptr b 0 133]) (.sc .var 133 (ia P)) []:=r7 (by
 refine YJ (a:=a72) rfl rfl (YI _) (ZQ rfl) (m:=0) rfl (Ye (Yf (YC rfl (Yq rfl (Yc (Ye (Yf (KY rfl (Yq rfl (Yc ?_))))))))))
 exact Yi ⟨_,YK rfl YP,0,rfl,.head _⟩)
theorem of_rn (P:Nat->Int) (h:WC P=true):RN AM 36 [.agg 133 (ia P)] [] (fun b=>.fn 99 [.ptr b 0 133]) (.sc .var 133 (ia (ovA (fun _=>0) 0 133 P))) []:=r7 (by
 refine YJ (a:=a36) rfl rfl (YI _) (ZQ rfl) (m:=0) rfl (Ye (Yf (YC rfl (Yq rfl (Yc (Ye (Ye (Yf (Yo rfl rfl ZM (Yt rfl (YG (Jv P)) rfl rfl rfl ?_))))))))))
 rw [h]
 refine Yv (r:=.bool false) rfl rfl (Yc (Yj rfl (fun h=>nomatch h) (fun _=>Yh (Ye (Yf (Yo rfl rfl ZM (YB (Q:=ovA (fun _=>0) 0 133 P) rfl (.agg rfl .nil) (Rz (rs:=[]) (Bs:=[]) (caps:=[]) (av:=[.agg 133 (ia (ovA (fun _=>0) 0 133 P))]) pb rfl (jall_rn _) rfl rfl (YF rfl) (fun _ h=>h) rfl trivial rfl rfl .nil (Yq rfl (Yc ?_))))))))))
 exact Yi ⟨_,YK rfl YP,1,rfl,.head _⟩)
theorem of_none (P:Nat->Int) (h:WC P=false):RF AM 36 [.agg 133 (ia P)] (.fn 71 []):=YG (by
 refine YJ (a:=a36) rfl rfl (YI _) (ZQ rfl) (m:=0) rfl (Ye (Yf (YC rfl (Yq rfl (Yc (Ye (Ye (Yf (Yo rfl rfl ZM (Yt rfl (YG (Jv P)) rfl rfl rfl ?_))))))))))
 rw [h]
 refine Yv (r:=.bool true) rfl rfl (Yc (ZA rfl (Ye (Yf (Yq rfl (Yc ?_))))))
 exact Yi ⟨_,YK rfl YP,rfl⟩)
def Ux (g0 g4:Nat->S) (c:Nat):List V:=[.agg 133 g0,.ptr 1 0 133,.ptr 2 0 1,.undef,.agg 133 g4,.fn 99 [.ptr c 0 133],.undef,.undef,.undef,.undef,.undef,.undef,.undef]
section
variable (g0 g4 g1:Nat->S) (Q:Nat->Int)
noncomputable def Ee (c st:Nat):Blk:=.lp 607 Jc (Ux g0 g4 c) st
theorem pM {Q:Nat->Int} {x y z:Int} (h0:Q 0=x) (h1:Q 1=y) (h2:Q 2=z):∀ i,i < [x,y,z].length->ovA (fun _=>0) (0*3) 3 Q i=[x,y,z].getD i 0:=fun i hi=>by have:=QH h0 h1 h2 i hi; rwa [ZaY] at this
theorem zy (M Y:Nat->Int) :
  WR AM 607 [.pan .undef,.yv 0,.agg 3 (ia M),.agg 133 (ia Y)] [Ee g0 g4 3 0,.sc .var 133 g1,.vs .var [.snil],.sc .var 133 (ia Q)] (fun v n L=>v=.s (.bool true)/\EN L [Ee g0 g4 3 0,.sc .var 133 g1] [.sc .var 133 (ia Q)] [M 0,M 1,M 2]):=by
 refine Tq (N:=13) (B:=B11) (f:=YI (((Ux g0 g4 3).set 6 (.agg 3 (ia M))).set 7 (.agg 133 (ia Y)))) (caps:=Ux g0 g4 3) rfl rfl rfl (DK rfl) rfl (Yf (Yy (Yz rfl rfl rfl rfl .here (Yc (⟨607,Jc,Ux g0 g4 3,rfl,?_⟩)))))
 refine Yk (Yf (V6 (v:=.snil) rfl rfl ZP rfl (Yo rfl rfl ZM (Wo rfl (.agg rfl .nil) (EL (c:=[M 0,M 1,M 2]) rfl (Rw.nil rfl) rfl (.row rfl (pM (Q:=ovA (fun _=>0) 0 3 M) rfl rfl rfl)) (Qf ZM) (Dr.here (own:=[])) (by decide) (YF rfl) (fun v3 own3 n3 hr3 hn3=>Tn (b:=2) (u:=.snil) (v:=v3) rfl rfl hr3.isrow (.appR _ (.appR _ (.there (.there (.there (.there .here)))))) (Ur (L':=own3++[(0,.lp 607 Jc (Ux g0 g4 3) 1),(1,.sc .var 133 g1),(2,.vs .var [v3]),(3,.sc .var 133 (ia Q))]) (ZaE (.refl _) (Za9 (.cons _ (.cons _ (.refl _))))) (UD List.perm_append_comm (Yc ⟨607,Jc,Ux g0 g4 3,rfl,rfl,?_⟩)))))))))
 have h4:∀ p∈own3,4 < p.1:=fun p hp=>hn3 p hp (4,_) ZN
 rw [List.nil_append] at hr3
 refine JV hr3 ⟨.head _,.tail _ ZM,.tail _ ZN,.tail _ ZO,trivial⟩ (fun p hp=>⟨.tail _ (.tail _ (.tail _ (.tail _ ?_))),Nat.le_of_lt (h4 p hp)⟩)
 show p∈setL 0 _ own3
 rw [Jo (fun p hp=>by have:=h4 p hp; omega)]; exact hp
theorem zC (M Y:Nat->Int) (l:List Int) (m q:Nat) (F:Nat->Int) (hlm:l.length=m*3) (hF:∀ i,i < l.length->F i=l.getD i 0) (hll:l.length<=1000000) :
  WR AM 607 [.pan .undef,.yv 0,.agg 3 (ia M),.agg 133 (ia Y)] [Ee g0 g4 4 0,.sc .var 133 g1,Vw .var 3 m 3,.sc .grow q (ia F),.sc .var 133 (ia Q)] (fun v n L=>v=.s (.bool true)/\EN L [Ee g0 g4 4 0,.sc .var 133 g1] [.dead,.sc .var 133 (ia Q)] (l++[M 0,M 1,M 2])):=by
 refine Tq (N:=13) (B:=B11) (f:=YI (((Ux g0 g4 4).set 6 (.agg 3 (ia M))).set 7 (.agg 133 (ia Y)))) (caps:=Ux g0 g4 4) rfl rfl rfl (DK rfl) rfl (Yf (Yy (Yz rfl rfl rfl rfl .here (Yc (⟨607,Jc,Ux g0 g4 4,rfl,?_⟩)))))
 refine Yk (Yf (V6 (v:=.sl 3 0 m 3 .whole) rfl rfl ZP rfl (Yo rfl rfl ZM (Wo rfl (.agg rfl .nil) (EL (c:=[M 0,M 1,M 2]) rfl (Rw.row hlm hF) rfl (.row rfl (pM (Q:=ovA (fun _=>0) 0 3 M) rfl rfl rfl)) (Qf ZM) (.there (.there (.there (.there (.there .here))))) (by decide) (by simp only [Zbq,List.length_nil]; omega) (fun v3 own3 n3 hr3 hn3=>Tn (b:=2) (u:=.sl 3 0 m 3 .whole) (v:=v3) rfl rfl hr3.isrow (.appR _ (.there (.appR _ (.there (.there (.there (.there .here))))))) (Ur (L':=own3++[(3,.dead),(0,.lp 607 Jc (Ux g0 g4 4) 1),(1,.sc .var 133 g1),(2,.vs .var [v3]),(4,.sc .var 133 (ia Q))]) (ZaE (.refl _) (.cons_cons _ (.cons _ (.cons _ (.refl _))))) (UD List.perm_append_comm (Yc ⟨607,Jc,Ux g0 g4 4,rfl,rfl,?_⟩)))))))))
 have h4:∀ p∈own3,5 < p.1:=fun p hp=>hn3 p hp (5,_) ZN
 refine JV hr3 ⟨.tail _ ZM,.tail _ ZN,.tail _ ZO,.head _,.tail _ ZP,trivial⟩ (fun p hp=>⟨.tail _ (.tail _ (.tail _ (.tail _ (.tail _ ?_)))),Nat.le_of_lt (h4 p hp)⟩)
 show p∈setL 0 _ own3
 rw [Jo (fun p hp=>by have:=h4 p hp; omega)]; exact hp
end
def Wv (P:Nat->Int) (m:Mv):Bool:=!(Wm P m.1 m.2.1&&!y0 P [m.1,(m.1+m.2.1) / 2])&&(decide (Wf P m.1 m.2.1 m.2.2=0)&&!Xt (Xq P m.1 m.2.1 m.2.2) (P 128))
def yE (P:Nat->Int):List Mv:=(TX P).filter (Wv P)
def mvX (F:Nat->Int) (o:Nat):Nat->Int:=ovA (fun _=>0) 0 3 (fun j=>F (o+j))
theorem xq {F:Nat->Int} {l:List Mv} {i:Nat} (hF:∀ j,j < (YY l).length->F j=(YY l).getD j 0) (hi:i < l.length):mvX F (0+(i:Int).toNat*3) 0=(l.getD i (0,0,0)).1/\mvX F (0+(i:Int).toNat*3) 1=(l.getD i (0,0,0)).2.1/\mvX F (0+(i:Int).toNat*3) 2=(l.getD i (0,0,0)).2.2:=by
 obtain ⟨e1,e2,e3⟩:=Rn hi
 have hb:3*i+2 < (YY l).length:=by rw [Xj]; omega
 rw [<- hF _ (by omega)] at e1 e2 e3
 refine ⟨?_,?_,?_⟩
 ·rw [<- e1]; show F _=F _; exact congrArg F (by omega)
 ·rw [<- e2]; show F _=F _; exact congrArg F (by omega)
 rw [<- e3]; show F _=F _; exact congrArg F (by omega)
theorem toM_bd {s k c t:Int} {m:Mv} (hs:0<=s/\s < 64) (ht:0<=t/\t < 64) (h:m∈toM s k c t):(0<=m.1/\m.1 < 64)/\(0<=m.2.1/\m.2.1 < 64):=by
 unfold toM at h
 split at h
 ·simp only [ZaX,List.not_mem_nil,or_false] at h
  rcases h with rfl | rfl | rfl | rfl <;> exact ⟨hs,ht⟩
 rw [List.mem_singleton.1 h]; exact ⟨hs,ht⟩
theorem allS_bd {P:Nat->Int} {m:Mv} (h:m∈TX P):(0<=m.1/\m.1 < 64)/\(0<=m.2.1/\m.2.1 < 64):=by
 have h:=(Qo _).mem_iff.1 h
 unfold Qk Wg at h
 rw [List.mem_flatMap] at h
 obtain ⟨s,hs,h⟩:=h
 rw [List.mem_map] at hs
 obtain ⟨k,hk,rfl⟩:=hs
 have hk:=ZaU.1 hk
 split at h
 ·unfold Ud at h
  rw [List.mem_flatMap] at h
  obtain ⟨t,ht,h⟩:=h
  exact toM_bd (by constructor <;> omega) (KF ht) h
 cases h
theorem zW (P:Nat->Int):(TX P).length<=16896:=by
 have:=TT P 64
 rw [show (TX P).length=_ from (Qo _).length_eq]; omega
theorem getD_mv {l:List Mv} {i:Nat} (hi:i < l.length):l.getD i (0,0,0)∈l:=by
 rw [Zau,Zav hi]
 exact List.getElem_mem hi
theorem uZ {P X:Nat->Int} {l:List Mv} {i:Nat} (hi:i < l.length) (h0:X 0=(l.getD i (0,0,0)).1) (h1:X 1=(l.getD i (0,0,0)).2.1) (h2:X 2=(l.getD i (0,0,0)).2.2) (h:Wv P (l.getD i (0,0,0))=true):YY ((l.take i).filter (Wv P))++[X 0,X 1,X 2]=YY ((l.take (i+1)).filter (Wv P)):=by
 rw [Vh (0,0,0) hi,List.filter_append,List.filter_cons,h,Za8 rfl,Ki,h0,h1,h2]; rfl
theorem Do {P:Nat->Int} {l:List Mv} {i:Nat} (hi:i < l.length) (h:Wv P (l.getD i (0,0,0))=false):YY ((l.take (i+1)).filter (Wv P))=YY ((l.take i).filter (Wv P)):=by
 rw [Vh (0,0,0) hi,List.filter_append,List.filter_cons,h,Za7 (by decide)]; simp
theorem zK (P:Nat->Int) {l:List Mv} (i:Nat):(YY ((l.take i).filter (Wv P))).length<=l.length*3:=by
 have h1:=Zbk (Wv P) (l.take i)
 rw [ZaN] at h1
 rw [Xj]; omega
theorem xM {P:Nat->Int} {m:Mv} (h1:Wm P m.1 m.2.1=true) (h2:y0 P [m.1,(m.1+m.2.1) / 2]=false):Wv P m=false:=by unfold Wv; rw [h1,h2]; rfl
theorem yJ {P:Nat->Int} {m:Mv} (h:Wf P m.1 m.2.1 m.2.2≠0):Wv P m=false:=by unfold Wv; rw [ZaT h]; simp
theorem xc {P:Nat->Int} {m:Mv} (h:Xt (Xq P m.1 m.2.1 m.2.2) (P 128)=true):Wv P m=false:=by unfold Wv; rw [h]; simp
theorem leg_t {P:Nat->Int} {m:Mv} (h1:Wm P m.1 m.2.1=false\/y0 P [m.1,(m.1+m.2.1) / 2]=true) (h2:Wf P m.1 m.2.1 m.2.2=0) (h3:Xt (Xq P m.1 m.2.1 m.2.2) (P 128)=false):Wv P m=true:=by
 unfold Wv
 rw [ZaV h2,h3]
 rcases h1 with h | h <;> rw [h] <;> simp
theorem iter_mv (g0 g4 g1:Nat->S) (P:Nat->Int):WR AM 99 [.yv 0,.ptr 3 0 133] [(Ee g0 g4 3 0),.sc .var 133 g1,.vs .var [.snil],.sc .var 133 (ia P)] (fun v _ L=>v=.tup []/\EN L [(Ee g0 g4 3 0),.sc .var 133 g1] [.sc .var 133 (ia P)] (YY (yE P))):=by
 refine YJ (a:=a99) rfl rfl (YI _) (ZQ rfl) (m:=4) rfl (Ze (Zy rfl (Yo rfl rfl ZP ?_)))
 obtain ⟨l,hleq⟩:∃ l,l=TX P:=⟨_,rfl⟩
 have hall:=all_rt P
 rw [<- hleq] at hall
 have hlen:=zW P
 rw [<- hleq] at hlen
 refine YE rfl (hall) rfl rfl (fun v1 own1 n1 hr1=>Wq rfl hr1.rx (by decide) (Xj l) (Yq rfl (Yc (Yk (Xm (ZaE (.refl _) (.refl _)) (Xp (fun m f _ L=>∃ (i:Nat) (vO:V) (ownO:HA),(i≤l.length)∧(m=l.length - i)∧(∀ p∈ownO,4≤p.1)∧(Rw 3 (YY ((l.take i).filter (Wv P))) vO ownO)∧(f 0=.yv 0)∧(f 1=.ptr 3 0 133)∧(f 9=v1)∧(f 10=.s (.int .i64 l.length))∧(f 11=.s (.int .i64 i))∧(L=(ownO++(own1++[(0,(Ee g0 g4 3 0)),(1,.sc .var 133 g1),(2,.vs .var [vO]),(3,.sc .var 133 (ia P))])))) (fun m f nb L hI=>?_) (l.length) (⟨0,.snil,[],by omega,by omega,(fun p (hp:p∈([]:HA))=>(by cases hp)),Rw.nil rfl,rfl,rfl,rfl,rfl,rfl,rfl⟩)))))))
 obtain ⟨i,vO,ownO,hi,hm,hgO,hrO,k0,k1,k9,k10,k11,rfl⟩:=hI
 refine Za 0 k0 (Za 1 k1 (Za 9 k9 (Za 10 k10 (Za 11 k11 (Ze (Zr rfl (Yc (Ye (Yj rfl (fun h1=>?_) (fun h1=>?_)))))))))) <;> simp only [NM] at h1
 ·refine Yh (Ye (Yk (Ze ?_)))
  obtain ⟨b1,q1,md1,c1,F1,rfl,rfl,hF1⟩:=hr1.rx.at (by decide) (Xj l) (by omega)
  refine Zx rfl rfl (Yp rfl rfl (Zaz _ ZM) (Yy (Yz rfl rfl rfl rfl .here (Yc (Ye (Ze ?_))))))
  obtain ⟨hx0,hx1,hx2⟩:=xq hF1 (i:=i) (by omega)
  have hbd:(0<=(l.getD i (0,0,0)).1/\(l.getD i (0,0,0)).1 < 64)/\(0<=(l.getD i (0,0,0)).2.1/\(l.getD i (0,0,0)).2.1 < 64):=allS_bd (P:=P) (by rw [<- hleq]; exact getD_mv (by omega))
  have hcas:=YG (ku P (mvX F1 (0+(i:Int).toNat*3)) (by omega) (by omega))
  rw [hx0,hx1] at hcas
  have hmove:=YG (wS P (mvX F1 (0+(i:Int).toNat*3)))
  rw [hx0,hx1,hx2] at hmove
  have hid:ovA (fun _=>0) 0 133 (Xq P (l.getD i (0,0,0)).1 (l.getD i (0,0,0)).2.1 (l.getD i (0,0,0)).2.2)=(Xq P (l.getD i (0,0,0)).1 (l.getD i (0,0,0)).2.1 (l.getD i (0,0,0)).2.2):=UX (fun i hi=>UF hi)
  have hchk:=RO (ovA (fun _=>0) 0 133 (Xq P (l.getD i (0,0,0)).1 (l.getD i (0,0,0)).2.1 (l.getD i (0,0,0)).2.2)) (P 128)
  rw [show Xt (ovA (fun _=>0) 0 133 (Xq P (l.getD i (0,0,0)).1 (l.getD i (0,0,0)).2.1 (l.getD i (0,0,0)).2.2)) (P 128)=Xt (Xq P (l.getD i (0,0,0)).1 (l.getD i (0,0,0)).2.1 (l.getD i (0,0,0)).2.2) (P 128) by rw [hid]] at hchk
  refine Yo rfl rfl (.tail _ (Zaz _ (.tail _ ZP))) (Yo rfl rfl ZM (Yt rfl (hcas) rfl rfl rfl (Zk rfl (Ys (t:=18) rfl (fun h2=>?_) (fun h2=>?_)))))
  ·refine Yb rfl (Yo rfl rfl (.tail _ (Zaz _ (.tail _ ZP))) (Yb rfl (Zy rfl (Yb rfl (Ym (x:=(l.getD i (0,0,0)).1) rfl rfl ZM (hx0) (Yb rfl (Zy rfl (Yb rfl (Ym (x:=(l.getD i (0,0,0)).1) rfl rfl ZM (hx0) (Yb rfl (Zz rfl (Yb rfl (Ym (x:=(l.getD i (0,0,0)).2.1) rfl rfl ZM (hx1) (Yb rfl (Zs rfl rfl (Yb rfl (Zu rfl rfl (Yb rfl (Xo rfl (.one rfl (.one rfl .nil)) (Yb rfl (Wp (caps:=[]) rfl (safe_rd P [(l.getD i (0,0,0)).1,((l.getD i (0,0,0)).1+(l.getD i (0,0,0)).2.1) / 2] (YF rfl)) rfl ((.row rfl tJ)) (Qf ZM) rfl rfl rfl (Yb rfl (Yv (r:=.bool _) rfl rfl (Zq rfl (Yc (Yj rfl (fun h3=>?_) (fun h3=>?_))))))))))))))))))))))))))) <;> simp only [NM] at h3
   ·refine YX (Xe (Yf (Zs rfl rfl (Zj rfl (Yc (⟨l.length - (i+1),_,by omega,(.cons _ (.cons _ (ZaE (.refl _) (.refl _)))),i+1,_,_,by omega,rfl,hgO,?_,rfl,rfl,rfl,rfl,rfl,rfl⟩))))))
    (rw [Do (by omega) (by first | exact xM (by assumption) (by assumption) | exact yJ (by assumption) | exact xc (by assumption))]; exact hrO)
   refine Yh (Ze (Zy rfl (Yo rfl rfl (.tail _ (.tail _ (Zaz _ (.tail _ ZP)))) (Yo rfl rfl ZN (Yt rfl (hmove) rfl rfl rfl (Zo rfl (YD (v:=.agg _ _) rfl rfl (YD (v:=.s (.int _ _)) rfl rfl (Yy (Yz rfl rfl rfl rfl .here (Zj rfl (Yc (Ye (JT (KS (l1:=[_,_,_,_,_,_,_,_,_,_,_,_,_,_]) (l2:=[_,_,_]) (Zj rfl (Zr rfl (Zk rfl (Ys (t:=41) rfl (fun h4=>?_) (fun h4=>?_)))))))))))))))))))) <;> simp only [NM] at h4
   ·refine Yb rfl (Yo rfl rfl ZM (Yb rfl (Zy rfl (Yb rfl (Yd (o':=128) rfl rfl rfl (Yb rfl (Ym rfl rfl (.tail _ (.tail _ (.tail _ (Zaz _ (.tail _ ZP))))) rfl (Yb rfl (Yt rfl (hchk) rfl rfl rfl (Yb rfl (Yv (r:=.bool _) rfl rfl (Zq rfl (Zk rfl (Ys (t:=49) rfl (fun h5=>?_) (fun h5=>?_))))))))))))))) <;> simp only [NM] at h5
    ·refine Yb rfl (Yq (v:=.yv _) rfl (Yb rfl (Yo rfl rfl ZO (Yb rfl (Yo rfl rfl ZM (Yc (Ka (.cons _ (.cons _ (.cons _ (ZaE (.refl _) (.refl _))))) (Df rfl ?_))))))))
     have hll:=zK P (l:=l) i
     refine TZ (caps:=Ux g0 g4) (xa:=[.agg 3 (ia (mvX F1 (0+(i:Int).toNat*3))),.agg 133 (ia (ovA (fun _=>0) 0 133 (Xq P (l.getD i (0,0,0)).1 (l.getD i (0,0,0)).2.1 (l.getD i (0,0,0)).2.2)))]) (L0:=[_]) rfl (fun _=>rfl) rfl rfl (fun _ _ _=>rfl) (YF rfl) (YF rfl) rfl rfl hrO (List.Perm.append_left _ (List.perm_append_comm (l₁:=[_]) (l₂:=[_,_,_,_]))) (fun e=>by have h:=zy g0 g4 g1 P (mvX F1 (0+(i:Int).toNat*3)) (ovA (fun _=>0) 0 133 (Xq P (l.getD i (0,0,0)).1 (l.getD i (0,0,0)).2.1 (l.getD i (0,0,0)).2.2)); rw [e]; exact h) (fun m q F h1 h2=>zC g0 g4 g1 P (mvX F1 (0+(i:Int).toNat*3)) _ _ m q F h1 h2 (by omega)) (fun v2 own2 n2 hr2 hge2=>Vk ?_)
     rw [uZ (by omega) hx0 hx1 hx2 (leg_t (by first | exact .inl (by assumption) | exact .inr (by assumption)) (by assumption) (by assumption))] at hr2
     refine UD (List.Perm.append_left _ (List.perm_append_comm (l₁:=[_,_,_,_]) (l₂:=[_]))) (Yb rfl (Yv (r:=.bool _) rfl rfl (Zq rfl (Yc (ZB rfl (Yh (Yf (Zs rfl rfl (Zj rfl (Yc (⟨l.length - (i+1),_,by omega,(ZaE (.refl _) (.refl _)),i+1,_,_,by omega,rfl,hge2,?_,rfl,rfl,rfl,rfl,rfl,rfl⟩)))))))))))
     exact hr2
    refine ZD rfl (ZC rfl (Yc (Vk (ZD rfl (Zq rfl (Yc (ZB rfl (Yh (Yf (Zs rfl rfl (Zj rfl (Yc (⟨l.length - (i+1),_,by omega,(.cons _ (.cons _ (.cons _ (ZaE (.refl _) (.refl _))))),i+1,_,_,by omega,rfl,hgO,?_,rfl,rfl,rfl,rfl,rfl,rfl⟩)))))))))))))
    (rw [Do (by omega) (by first | exact xM (by assumption) (by assumption) | exact yJ (by assumption) | exact xc (by assumption))]; exact hrO)
   refine ZE rfl (ZD rfl (Zq rfl (Zk rfl (ZD rfl (ZC rfl (Yc (Vk (ZD rfl (Zq rfl (Yc (ZB rfl (Yh (Yf (Zs rfl rfl (Zj rfl (Yc (⟨l.length - (i+1),_,by omega,(.cons _ (.cons _ (.cons _ (ZaE (.refl _) (.refl _))))),i+1,_,_,by omega,rfl,hgO,?_,rfl,rfl,rfl,rfl,rfl,rfl⟩)))))))))))))))))
   (rw [Do (by omega) (by first | exact xM (by assumption) (by assumption) | exact yJ (by assumption) | exact xc (by assumption))]; exact hrO)
  refine Ya rfl rfl (ZF rfl (ZD rfl (ZC rfl (Zq rfl (Yc (ZB rfl (Yh (Ze (Zy rfl (Yo rfl rfl (.tail _ (Zaz _ (.tail _ ZP))) (Yo rfl rfl ZM (Yt rfl (hmove) rfl rfl rfl (Zo rfl (YD (v:=.agg _ _) rfl rfl (YD (v:=.s (.int _ _)) rfl rfl (Yy (Yz rfl rfl rfl rfl .here (Zj rfl (Yc (Ye (JT (KS (l1:=[_,_,_,_,_,_,_,_,_,_,_,_,_,_]) (l2:=[_,_,_]) (Zj rfl (Zr rfl (Zk rfl (Ys (t:=41) rfl (fun h6=>?_) (fun h6=>?_))))))))))))))))))))))))))) <;> simp only [NM] at h6
  ·refine Yb rfl (Yo rfl rfl ZM (Yb rfl (Zy rfl (Yb rfl (Yd (o':=128) rfl rfl rfl (Yb rfl (Ym rfl rfl (.tail _ (.tail _ (Zaz _ (.tail _ ZP)))) rfl (Yb rfl (Yt rfl (hchk) rfl rfl rfl (Yb rfl (Yv (r:=.bool _) rfl rfl (Zq rfl (Zk rfl (Ys (t:=49) rfl (fun h7=>?_) (fun h7=>?_))))))))))))))) <;> simp only [NM] at h7
   ·refine Yb rfl (Yq (v:=.yv _) rfl (Yb rfl (Yo rfl rfl ZN (Yb rfl (Yo rfl rfl ZM (Yc (Ka (.cons _ (.cons _ (ZaE (.refl _) (.refl _)))) (Df rfl ?_))))))))
    have hll:=zK P (l:=l) i
    refine TZ (caps:=Ux g0 g4) (xa:=[.agg 3 (ia (mvX F1 (0+(i:Int).toNat*3))),.agg 133 (ia (ovA (fun _=>0) 0 133 (Xq P (l.getD i (0,0,0)).1 (l.getD i (0,0,0)).2.1 (l.getD i (0,0,0)).2.2)))]) (L0:=[_]) rfl (fun _=>rfl) rfl rfl (fun _ _ _=>rfl) (YF rfl) (YF rfl) rfl rfl hrO (List.Perm.append_left _ (List.perm_append_comm (l₁:=[_]) (l₂:=[_,_,_,_]))) (fun e=>by have h:=zy g0 g4 g1 P (mvX F1 (0+(i:Int).toNat*3)) (ovA (fun _=>0) 0 133 (Xq P (l.getD i (0,0,0)).1 (l.getD i (0,0,0)).2.1 (l.getD i (0,0,0)).2.2)); rw [e]; exact h) (fun m q F h1 h2=>zC g0 g4 g1 P (mvX F1 (0+(i:Int).toNat*3)) _ _ m q F h1 h2 (by omega)) (fun v3 own3 n3 hr3 hge3=>Vk ?_)
    rw [uZ (by omega) hx0 hx1 hx2 (leg_t (by first | exact .inl (by assumption) | exact .inr (by assumption)) (by assumption) (by assumption))] at hr3
    refine UD (List.Perm.append_left _ (List.perm_append_comm (l₁:=[_,_,_,_]) (l₂:=[_]))) (Yb rfl (Yv (r:=.bool _) rfl rfl (Zq rfl (Yc (ZB rfl (Yh (Yf (Zs rfl rfl (Zj rfl (Yc (⟨l.length - (i+1),_,by omega,(ZaE (.refl _) (.refl _)),i+1,_,_,by omega,rfl,hge3,?_,rfl,rfl,rfl,rfl,rfl,rfl⟩)))))))))))
    exact hr3
   refine ZD rfl (ZC rfl (Yc (Vk (ZD rfl (Zq rfl (Yc (ZB rfl (Yh (Yf (Zs rfl rfl (Zj rfl (Yc (⟨l.length - (i+1),_,by omega,(.cons _ (.cons _ (ZaE (.refl _) (.refl _)))),i+1,_,_,by omega,rfl,hgO,?_,rfl,rfl,rfl,rfl,rfl,rfl⟩)))))))))))))
   (rw [Do (by omega) (by first | exact xM (by assumption) (by assumption) | exact yJ (by assumption) | exact xc (by assumption))]; exact hrO)
  refine ZE rfl (ZD rfl (Zq rfl (Zk rfl (ZD rfl (ZC rfl (Yc (Vk (ZD rfl (Zq rfl (Yc (ZB rfl (Yh (Yf (Zs rfl rfl (Zj rfl (Yc (⟨l.length - (i+1),_,by omega,(.cons _ (.cons _ (ZaE (.refl _) (.refl _)))),i+1,_,_,by omega,rfl,hgO,?_,rfl,rfl,rfl,rfl,rfl,rfl⟩)))))))))))))))))
  (rw [Do (by omega) (by first | exact xM (by assumption) (by assumption) | exact yJ (by assumption) | exact xc (by assumption))]; exact hrO)
 refine YX (Xe (⟨_,YP,?_⟩))
 obtain rfl:i=l.length:=by omega
 rw [List.take_length,hleq] at hrO
 exact ⟨rfl,JV hrO ⟨(Zaz _ (Zaz _ ZM)),(Zaz _ (Zaz _ ZN)),(Zaz _ (Zaz _ ZO)),(Zaz _ (Zaz _ ZP)),trivial⟩ (fun p hp=>⟨ZaC _ hp,hgO p hp⟩)⟩
def XE (P:Nat->Int):List Mv:=if WC P=true then yE (ovA (fun _=>0) 0 133 P) else []
def capsNo (g0 g4:Nat->S):List V:=[.agg 133 g0,.ptr 1 0 133,.ptr 2 0 1,.undef,.agg 133 g4,.fn 71 [],.undef,.undef,.undef,.undef,.undef,.undef,.undef]
theorem vj (P:Nat->Int):RtR AM 11 3 [.agg 133 (ia P)] [] (YY (XE P)) []:=by
 refine Vs (sK (a:=a11) rfl rfl (YI _) (ZQ rfl) (m:=0) (c0:=2) rfl rfl (Ye (Yf (YC rfl (Jt (z:=.one .snil) rfl (Yc (Ye (Ye (Yf (Yo rfl rfl ZN ?_))))))))))
 have fin:∀ (f:FE) (n:Nat) (v:V) (own:HA),f 2=.ptr 1 0 1->Rw 3 (YY (XE P)) v own->WP AM a11.nt (.seq (.ops [ZZ 12 false 1 2,Z1 1 2 12]) .ret) f n (own++[(1,.vs .var [v])])
   (fun _ _ _=>False) (fun _ _ _ _=>False) (fun f n L=>∃ b md v,rd a11.nt f 2=.ptr b 0 1∧(b,Blk.vs md [v])∈L∧∃ own,Rw 3 (YY (XE P)) v own∧∀ p∈own,p∈L) (fun _ _ _ _=>False):=fun f n v own h2 hr=>by
  refine Za 2 h2 (Ye (Yf (V6 (v:=v) rfl rfl (Zaz _ ZM) rfl (Tn (b:=1) (u:=v) (v:=v) rfl rfl hr.isrow (.appR _ .here) ?_))))
  exact Yc (Yi ⟨1,.var,v,rfl,Zaz _ ZM,own,hr,fun p hp=>ZaC _ hp⟩)
 cases h:WC P with
 | false =>
  have hl:YY (XE P)=[]:=by unfold XE; rw [h]; rfl
  refine Yt rfl (of_none P h) rfl rfl rfl (Yc (Yk (xV (Lr:=[(0,_),(1,_)]) (L0:=[]) (vs:=[.yv 0]) (Bs:=[.lp 607 Jc (capsNo (ia P) (ia P)) 0,.sc .var 133 (ia P),.vs .var [.snil]]) (List.reverse_perm [_,_]) rfl rfl rfl rfl rfl (YJ (a:=a71) rfl rfl (YI _) (ZQ rfl) (m:=3) rfl (Yh ⟨_,YP,?_⟩)))))
  refine .inl ⟨[_,_,_],.tup [],_,⟨.head _,.tail _ ZM,.tail _ ZN,trivial⟩,rfl,rfl,rfl,rfl,607,Jc,_,0,_,.refl _,?_⟩
  refine Xm (.cons _ (.refl _)) ?_
  exact fin _ _ .snil [] rfl (.nil hl)
 | true =>
  have hl:YY (XE P)=YY (yE (ovA (fun _=>0) 0 133 P)):=by unfold XE; rw [h]; rfl
  refine Rz (rs:=[]) (Bs:=[]) (caps:=[]) (av:=[.agg 133 (ia P)]) pb rfl (of_rn P h) rfl rfl (YF rfl) (fun _ h=>h) rfl trivial rfl rfl .nil (Yc (Yk (xV (Lr:=[(0,_),(1,_),(2,_)]) (L0:=[]) (vs:=[.yv 0,.ptr 3 0 133]) (Bs:=[Ee (ia P) (ia P) 3 0,.sc .var 133 (ia P),.vs .var [.snil],.sc .var 133 (ia (ovA (fun _=>0) 0 133 P))]) (List.reverse_perm [_,_,_]) rfl rfl rfl rfl rfl (QL (iter_mv (ia P) (ia P) (ia P) (ovA (fun _=>0) 0 133 P)) ?_))))
  rintro r n1 L1 ⟨rfl,ho⟩
  rw [<- hl] at ho
  rcases ho with ⟨e1,e2⟩ | ⟨b,m,q,F,e1,e2,e3,e4,e5⟩
  ·refine .inl ⟨_,.tup [],_,e2,rfl,rfl,rfl,rfl,607,Jc,_,0,_,.refl _,?_⟩
   refine Xm (.cons _ (.cons_cons _ (.cons _ .slnil))) ?_
   exact fin _ _ .snil [] rfl (.nil e1)
  refine .inr ⟨[Ee (ia P) (ia P) 3 0,.sc .var 133 (ia P)],[.sc .var 133 (ia (ovA (fun _=>0) 0 133 P))],b,m,3,q,.var,.grow,ia F,.tup [],_,_,e3,rfl,e1,e2,rfl,rfl,rfl,rfl,rfl,(YF rfl),607,Jc,_,0,_,.swap _ _ _,?_⟩
  refine Xm (.cons_cons _ (.cons _ (.cons_cons _ (.cons _ .slnil)))) ?_
  exact fin _ _ _ [(_,_)] rfl (.row e4 e5)
theorem oy {P:Nat->Int} {s:Int} {m:Mv} (h:m∈V5 P s 64):(0<=m.2.1/\m.2.1 < 64)/\Vd P s m.2.1=true/\m∈toM s (P (sqI s)) (P (sqI s+1)) m.2.1:=by
 unfold V5 at h
 rw [List.mem_flatMap] at h
 obtain ⟨t,ht,h⟩:=h
 split at h
 ·rename_i hg
  have e:=(JS h).2
  rw [e]
  exact ⟨mem64.1 ht,hg,h⟩
 cases h
theorem Ry {P:Nat->Int} {m:Mv} (h:m∈UQ P 64):(0<=m.1/\m.1 < 64)/\(0<=m.2.1/\m.2.1 < 64)/\Vd P m.1 m.2.1=true/\m∈toM m.1 (P (sqI m.1)) (P (sqI m.1+1)) m.2.1:=by
 unfold UQ at h
 rw [List.mem_flatMap] at h
 obtain ⟨s,hs,h⟩:=h
 have e:=Jr h
 rw [e]
 exact ⟨mem64.1 hs,oy h⟩
theorem qA (P:Nat->Int) (n:Nat):UQ P (n+1)=UQ P n++V5 P n 64:=by
 unfold UQ Wg
 rw [List.range_succ,List.map_append,List.flatMap_append]
 simp
def cntR (P:Nat->Int) (s:Nat):Nat:=(UQ P s).length
theorem mv_in {l:List Mv} {i:Nat} (hi:i < l.length):l.getD i (0,0,0)∈l:=by
 rw [Zau,Zav hi]
 exact List.getElem_mem hi
theorem Ja {P:Nat->Int} {s t:Int} (h:Vd P s t=true):(1<=P (sqI s)/\P (sqI s)<=6)/\(P (sqI s+1)=0\/P (sqI s+1)=1)/\P (sqI s+1)=P 128/\s≠t:=by
 unfold Vd Ww YZ at h
 simp only [ZaM,ZaL] at h
 omega
theorem uO {P:Nat->Int} {m:Mv} (h:m∈toM m.1 (P (sqI m.1)) (P (sqI m.1+1)) m.2.1):if P (sqI m.1)=1/\m.2.1 / 8=7*(1 - P (sqI m.1+1)) then 2<=m.2.2/\m.2.2<=5 else m.2.2=0:=by
 unfold toM wH at h
 split at h
 ·rename_i e
  rw [ZaL] at e
  rw [Za8 e]
  simp only [ZaX,List.not_mem_nil,or_false] at h
  rcases h with h | h | h | h <;> (have:=congrArg (fun m:Mv=>m.2.2) h; simp only at this; omega)
 rename_i e
 rw [ZaL] at e
 rw [Za7 e]
 have:=congrArg (fun m:Mv=>m.2.2) (List.mem_singleton.1 h)
 simpa using this
theorem j7 {P:Nat->Int} {m:Mv} (h:m∈UQ P 64):Wf P m.1 m.2.1 m.2.2=0:=by
 obtain ⟨ha,ht,hg,hm⟩:=Ry h
 obtain ⟨h1,h2,h3,h4⟩:=Ja hg
 refine Vr ⟨ha,ht,h4⟩ ?_
 unfold XH
 exact ZaV ⟨h1.1,h1.2,h3,h2,uO hm⟩
def sV (a b:Int):Bool:=decide (a=b) || (!(WK a b || WH a b) || (decide (1<=U8 a b/\b=a+Uu a b*U8 a b)&&(List.range (U8 a b - 1)).all fun (j:Nat)=>decide ((0<=a+Uu a b*((j:Int)+1)/\a+Uu a b*((j:Int)+1) < 64)/\a+Uu a b*((j:Int)+1)≠b)))
theorem gd:(KA fun a=>KA fun b=>sV a b)=true:=by decide +kernel
theorem path_at {a b:Int} (ha:0<=a/\a < 64) (hb:0<=b/\b < 64) (hn:a≠b) (h:(WK a b || WH a b)=true):(1<=U8 a b/\b=a+Uu a b*U8 a b)/\∀ j:Nat,j < U8 a b - 1->(0<=a+Uu a b*((j:Int)+1)/\a+Uu a b*((j:Int)+1) < 64)/\a+Uu a b*((j:Int)+1)≠b:=by
 obtain ⟨x,rfl⟩:=Kx ha
 obtain ⟨y,rfl⟩:=Kx hb
 have h1:=Vu (Vu gd x) y
 unfold sV at h1
 rw [ZaT hn,Bool.false_or,h,Bool.not_true,Bool.false_or,ZaM,ZaL,ZaO] at h1
 exact ⟨h1.1,fun j hj=>of_decide_eq_true (h1.2 j (ZaU.2 hj))⟩
theorem oD {P:Nat->Int} {a b:Int} (h:∀ i:Nat,i < U8 a b - 1->YT P (a+Uu a b*((i:Int)+1))=true):Qa P a b=true:=by
 unfold Qa
 rw [ZaO]
 exact fun i hi=>h i (ZaU.1 hi)
theorem open_no {P:Nat->Int} {a b:Int} {j:Nat} (hj:j < U8 a b - 1) (h:YT P (a+Uu a b*((j:Int)+1))=false):Qa P a b=false:=by
 unfold Qa
 rw [List.all_eq_false]
 exact ⟨j,ZaU.2 hj,by rw [h]; decide⟩
theorem rn (x:Int):-1<=KP x/\KP x<=1:=by unfold KP; repeat' split <;> omega
theorem yM {x:Int} (h:-64<=x/\x<=64):0<=XT x/\XT x<=64:=by unfold XT; split <;> omega
theorem yW (a b:Int) (ha:0<=a/\a < 64) (hb:0<=b/\b < 64):WR AM 146 [.s (.int .i64 a),.s (.int .i64 b)] [] (fun v _ _=>v=.tup [.s (.int .i64 (b % 8 - a % 8)),.s (.int .i64 (b / 8 - a / 8))]):=by
 refine YJ (a:=a146) rfl rfl (YI _) (ZQ rfl) (m:=0) rfl (Ze (Yq rfl (Yq rfl (Zf (Zj rfl (Zv rfl rfl (Zj rfl (Zv rfl rfl (Zt rfl rfl (Zj rfl (Zu rfl rfl (Zj rfl (Zu rfl rfl (Zt rfl rfl (Zj rfl (Zj rfl (Yc (Yi (⟨_,YK (v:=.s (.int _ _)) rfl (ZL rfl),?_⟩)))))))))))))))))))
 rfl
theorem WQ (x:Int) (h:-1000<=x/\x<=1000):WR AM 147 [.s (.int .i64 x)] [] (fun v _ _=>v=.s (.int .i64 (XT x))):=by
 refine YJ (a:=a147) rfl rfl (YI _) (ZQ rfl) (m:=0) rfl (Ze (Yq rfl (Yc (Ye (Ze (Zj rfl (Zr rfl (Yc (Yj rfl (fun h1=>?_) (fun h1=>?_)))))))))) <;> simp only [NM] at h1
 ·refine Ze (Zj rfl (jX rfl (by omega) (Zj rfl (Yc (Yi (⟨_,ZL rfl,?_⟩))))))
  refine ZJ ?_
  unfold XT
  (rw [Za8 (by omega)]; done)
 refine Yh (Ze (Zj rfl (Zj rfl (Yc (Yi (⟨_,ZL rfl,?_⟩))))))
 refine ZJ ?_
 unfold XT
 (rw [Za7 (by omega)]; done)
theorem qe (x:Int):WR AM 171 [.s (.int .i64 x)] [] (fun v _ _=>v=.s (.int .i64 (KP x))):=by
 refine YJ (a:=a171) rfl rfl (YI _) (ZQ rfl) (m:=0) rfl (Ze (Yq rfl (Yc (Ye (Ze (Zj rfl (Zr rfl (Yc (Yj rfl (fun h2=>?_) (fun h2=>?_)))))))))) <;> simp only [NM] at h2
 ·refine Ze (Yq rfl (Yc (Yi (⟨_,ZL rfl,?_⟩))))
  refine ZJ ?_
  unfold KP
  (rw [Za8 (by omega)]; done)
 refine Yh (Ye (Ze (Zj rfl (Zr rfl (Yc (Yj rfl (fun h3=>?_) (fun h3=>?_))))))) <;> simp only [NM] at h3
 ·refine Ze (Yq rfl (Yc (Yi (⟨_,ZL rfl,?_⟩))))
  refine ZJ ?_
  unfold KP
  (rw [Za7 (by omega),Za8 (by omega)]; done)
 refine Yh (Ze (Yq rfl (Yc (Yi (⟨_,ZL rfl,?_⟩)))))
 refine ZJ ?_
 unfold KP
 (rw [Za7 (by omega),Za7 (by omega)]; done)
theorem Qt (P:Nat->Int) (a b:Int) (ha:0<=a/\a < 64) (hb:0<=b/\b < 64) (hn:a≠b) (hl:(WK a b || WH a b)=true):WR AM 148 [.agg 133 (ia P),.s (.int .i64 a),.s (.int .i64 b)] [] (fun v _ _=>v=.s (.bool (Qa P a b))):=by
 refine YJ (a:=a148) rfl rfl (YI _) (ZQ rfl) (m:=0) rfl (Ze (YC rfl (Yq rfl (Zf (Zj rfl (Zj rfl ?_))))))
 have hs1:=rn (b / 8 - a / 8)
 have hs2:=rn (b % 8 - a % 8)
 have hst:Uu a b=8*KP (b / 8 - a / 8)+KP (b % 8 - a % 8):=rfl
 obtain ⟨⟨hf1,hf2⟩,hpath⟩:=path_at ha hb hn hl
 refine Yt rfl (YG (yW a b ha hb)) rfl rfl rfl (Zo rfl (YD (v:=.s (.int _ _)) rfl rfl (YD (v:=.s (.int _ _)) rfl rfl (Zj rfl (Zj rfl (Zf (Zj rfl (Yt rfl (YG (qe _)) rfl rfl rfl (Wn rfl rfl (by omega) (Zj rfl (Yt rfl (YG (qe _)) rfl rfl rfl (Zs rfl rfl (Zj rfl (Yc (Ye (Ze (Zj rfl (Zj rfl (Zs rfl rfl (Zj rfl (Yc (Yk (Xm (.refl _) (Xp (fun m f _ L=>∃ (j:Nat),(j<=U8 a b - 1)/\(m=U8 a b - 1 - j)/\(∀ i:Nat,i < j->YT P (a+Uu a b*((i:Int)+1))=true)/\(f 1=.s (.int .i64 a))/\(f 2=.s (.int .i64 b))/\(f 3=.ptr 0 0 133)/\(f 9=.s (.int .i64 (Uu a b)))/\(f 10=.s (.int .i64 (a+Uu a b*((j:Int)+1))))/\(L=[(0,.sc .var 133 (ia P))])) (fun m f nb L hI=>?_) (U8 a b - 1) (⟨0,by omega,by omega,fun i hi=>by omega,rfl,rfl,rfl,rfl,by show V.s (S.int .i64 _)=V.s (S.int .i64 _); rw [show ((0:Nat):Int)+1=1 from rfl,Int.mul_one]; rfl,rfl⟩)))))))))))))))))))))))))
 obtain ⟨j,hj,hm,hno,k1,k2,k3,k9,k10,rfl⟩:=hI
 refine Za 1 k1 (Za 2 k2 (Za 3 k3 (Za 9 k9 (Za 10 k10 (Ye (Ze (Zj rfl (Zj rfl ?_))))))))
 have hsb:0<=(a+Uu a b*((j:Int)+1))/\(a+Uu a b*((j:Int)+1)) < 64:=by
   by_cases e:j < U8 a b - 1
   · exact (hpath j e).1
   obtain ⟨k, hk⟩ : ∃ k, U8 a b = k := ⟨_, rfl⟩
   rw [hk] at hf1 hf2 hj e
   rw [show (j:Int)+1=k by omega,<- hf2]; exact hb
 refine Zr rfl (Yc (Yj rfl (fun h4=>?_) (fun h4=>?_))) <;> simp only [NM] at h4
 ·refine Yh (Ye (Yk (Ze (Zj rfl (Zy rfl ?_)))))
  have hjl:j < U8 a b - 1:=by
    refine Nat.lt_of_not_le fun e=>?_
    have e2:(j:Int)+1=(U8 a b:Int):=by omega
    have e3:(a+Uu a b*((j:Int)+1))=b:=by rw [e2]; exact hf2.symm
    exact absurd e3 (by assumption)
  refine Zw rfl rfl rfl (Yp rfl rfl ZM (YB rfl .nil (Yw rfl rfl (Yc (Yj rfl (fun h5=>?_) (fun h5=>?_)))))) <;> simp only [NM] at h5
  ·refine Ze (Yq rfl (Zg rfl (ZI ?_)))
   exact (open_no hjl (by assumption)).symm
  refine Yh (Yf (Zj rfl (Zj rfl (Zs rfl rfl (Zj rfl (Yc (⟨U8 a b - 1 - (j+1),_,by omega,(.refl _),j+1,by omega,rfl,?_,rfl,rfl,rfl,rfl,?_,rfl⟩)))))))
  · intro i hi
    by_cases e:i=j
    ·subst e; assumption
    exact hno i (by omega)
  show V.s (S.int .i64 _) = V.s (S.int .i64 _)
  rw [show ((j+1:Nat):Int)+1=((j:Int)+1)+1 by omega,Int.mul_add (Uu a b) ((j:Int)+1) 1,Int.mul_one,Int.add_assoc]
 refine YX (Xe (Ze (Yq rfl (Zg rfl (congrArg (fun b=>V.s (S.bool b)) ((oD fun i hi=>?_).symm))))))
 by_cases e:i < j
 · exact hno i e
 exact absurd (by omega) (hpath j (by omega)).2
theorem KZ {a b:Int} (h:(b % 8 - a % 8=0\/b / 8 - a / 8=0)\/XT (b % 8 - a % 8)=XT (b / 8 - a / 8)):(WK a b || WH a b)=true:=by
 unfold WK WH
 rw [Bool.or_eq_true,ZaL,ZaL]; exact h
theorem pI {x y:Int} (h:0<=x/\x<=64) (k:0<=y/\y<=64):-9223372036854775808<=x*y/\x*y<=9223372036854775807:=by
 have h1:=Int.mul_le_mul h.2 k.2 k.1 (by omega)
 have h2:=Int.mul_nonneg h.1 k.1
 omega
section
variable {P:Nat->Int} {a b:Int}
theorem rH (h:YZ (P (sqI a)) (P (sqI a+1))=false\/a=b):Xk P a b=false:=Za8 h
theorem TE (hm:YZ (P (sqI a)) (P (sqI a+1))=true) (hn:¬ a=b):¬ (YZ (P (sqI a)) (P (sqI a+1))=false\/a=b):=fun h=>h.elim (fun h=>by rw [hm] at h; cases h) hn
theorem UW (hm:YZ (P (sqI a)) (P (sqI a+1))=true) (hn:¬ a=b) (hk:P (sqI a)=1):Xk P a b=decide (XT (b % 8 - a % 8)=1/\b / 8 - a / 8=1 - 2*P (sqI a+1)):=by
 unfold Xk Jx; rw [Za7 (TE hm hn),Za8 hk]
theorem rE (hm:YZ (P (sqI a)) (P (sqI a+1))=true) (hn:¬ a=b) (hk:P (sqI a)=2):Xk P a b=decide (XT (b % 8 - a % 8)*XT (b / 8 - a / 8)=2):=by
 unfold Xk Jx; rw [Za7 (TE hm hn),Za7 (by omega),Za8 hk]
theorem xn (hm:YZ (P (sqI a)) (P (sqI a+1))=true) (hn:¬ a=b) (hk:P (sqI a)=6):Xk P a b=decide (XT (b % 8 - a % 8)<=1/\XT (b / 8 - a / 8)<=1):=by
 unfold Xk Jx; rw [Za7 (TE hm hn),Za7 (by omega),Za7 (by omega),Za8 hk]
theorem jl (hm:YZ (P (sqI a)) (P (sqI a+1))=true) (hn:¬ a=b) (hk:P (sqI a)=4):Xk P a b=(WK a b&&Qa P a b):=by
 unfold Xk Jx; rw [Za7 (TE hm hn),Za7 (by omega),Za7 (by omega),Za7 (by omega),Za8 hk]
theorem xK (hm:YZ (P (sqI a)) (P (sqI a+1))=true) (hn:¬ a=b) (hk:P (sqI a)=3):Xk P a b=(WH a b&&Qa P a b):=by
 unfold Xk Jx; rw [Za7 (TE hm hn),Za7 (by omega),Za7 (by omega),Za7 (by omega),Za7 (by omega),Za8 hk]
theorem xH (hm:YZ (P (sqI a)) (P (sqI a+1))=true) (hn:¬ a=b) (h1:¬ P (sqI a)=1) (h2:¬ P (sqI a)=2) (h6:¬ P (sqI a)=6) (h4:¬ P (sqI a)=4) (h3:¬ P (sqI a)=3):Xk P a b=((WK a b || WH a b)&&Qa P a b):=by
 unfold Xk Jx; rw [Za7 (TE hm hn),Za7 h1,Za7 h2,Za7 h6,Za7 h4,Za7 h3]
end
theorem yT {a b:Int} (h:b % 8 - a % 8=0\/b / 8 - a / 8=0):WK a b=true:=ZaV h
theorem jq {a b:Int} (h:¬ (b % 8 - a % 8=0\/b / 8 - a / 8=0)):WK a b=false:=ZaT h
theorem jw {a b:Int} (h:XT (b % 8 - a % 8)=XT (b / 8 - a / 8)):WH a b=true:=ZaV h
theorem vf {a b:Int} (h:¬ XT (b % 8 - a % 8)=XT (b / 8 - a / 8)):WH a b=false:=ZaT h
theorem Kj (P:Nat->Int) (a b:Int) (ha:0<=a/\a < 64) (hb:0<=b/\b < 64):WR AM 121 [.agg 133 (ia P),.s (.int .i64 a),.s (.int .i64 b)] [] (fun v _ _=>v=.s (.bool (Xk P a b))):=by
 refine YJ (a:=a121) rfl rfl (YI _) (ZQ rfl) (m:=0) rfl (Ze (YC rfl (Yq rfl (Zf (Zj rfl (Zy rfl (Zw rfl rfl rfl (Yp rfl rfl ZM (Yy (Yz rfl rfl rfl rfl .here (Yc (Ye (Ze (Yo rfl rfl ZM (Yt rfl (show RF AM 95 _ (.s (.bool (YZ (P (sqI a)) (P (sqI a+1))))) from YG (TI _)) rfl rfl rfl (Yv (r:=.bool _) rfl rfl (Zk rfl (Ys (t:=19) rfl (fun h6=>?_) (fun h6=>?_))))))))))))))))))) <;> simp only [NM] at h6
 ·refine ZD rfl (ZC rfl (Zq rfl (Yc (ZA rfl (Ze (Yq rfl (Zg rfl (ZI ?_))))))))
  exact (rH (by first | exact .inl (by assumption) | exact .inr (by assumption))).symm
 refine Yb rfl (Zj rfl (Yb rfl (Zj rfl (Yb rfl (Zr rfl (Zq rfl (Yc (Yj rfl (fun h7=>?_) (fun h7=>?_))))))))) <;> simp only [NM] at h7
 ·refine Ze (Yq rfl (Zg rfl (ZI ?_)))
  exact (rH (by first | exact .inl (by assumption) | exact .inr (by assumption))).symm
 refine Yh (Ze (Zj rfl (Zj rfl (Yt rfl (YG (yW a b ha hb)) rfl rfl rfl (Zo rfl (YD (v:=.s (.int _ _)) rfl rfl (YD (v:=.s (.int _ _)) rfl rfl (Zj rfl (Zj rfl (Zf (Zj rfl (Zr rfl (Zk rfl (Ys (t:=32) rfl (fun h8=>?_) (fun h8=>?_))))))))))))))) <;> simp only [NM] at h8
 ·refine ZD rfl (Zq rfl (Zj rfl (Yt rfl (YG (WQ _ (by omega))) rfl rfl rfl (Zj rfl (Yt rfl (YG (WQ _ (by omega))) rfl rfl rfl (Zr rfl (Zk rfl (Zk rfl (Yc (Ye (Ze ?_)))))))))))
  have hf:=yM (x:=b % 8 - a % 8) (by omega)
  have hr:=yM (x:=b / 8 - a / 8) (by omega)
  refine Zy rfl (Ym (x:=P (sqI a)) rfl rfl ZM (rfl) (Yc (Yk (Ze (Zr rfl (Zk rfl (Yc (Yj rfl (fun h9=>?_) (fun h9=>?_))))))))) <;> simp only [NM] at h9
  ·refine Ze (Zj rfl (Yt rfl (YG (WQ _ (by omega))) rfl rfl rfl (Zr rfl (Zk rfl (Ys (t:=48) rfl (fun h10=>?_) (fun h10=>?_)))))) <;> simp only [NM] at h10
   ·refine Yb rfl (Zz rfl (Yb rfl (Ym (x:=P (sqI a+1)) rfl rfl ZM (rfl) (Yb rfl (Zr rfl (Yb rfl (Zk rfl (Ys (t:=52) rfl (fun h11=>?_) (fun h11=>?_))))))))) <;> simp only [NM] at h11
    ·refine Yb rfl (Zj rfl (Yb rfl (Zr rfl (Yb rfl (Zq rfl (Yb rfl (Zk rfl (Ys (t:=56) rfl (fun h12=>?_) (fun h12=>?_))))))))) <;> simp only [NM] at h12
     ·refine ZE rfl (YH rfl (YH rfl (ZC rfl (Yb rfl (Zq rfl (Zq rfl (Zk rfl (Zg rfl (ZI ?_)))))))))
      rw [UW (by assumption) (by assumption) (by assumption)]
      simp only [YZ,ZaL] at *
      rw [ZaP]
      simp only [Za2,ZaL,ZaF,Za5,Za3,Za6,Za4]
      omega
     refine Yb rfl (Zz rfl (Yb rfl (Ym (x:=P (sqI a+1)) rfl rfl ZM (rfl) (Yb rfl (Zr rfl (Yb rfl (Zk rfl (Ys (t:=60) rfl (fun h13=>?_) (fun h13=>?_))))))))) <;> simp only [NM] at h13
     ·refine Yb rfl (Zj rfl (Yb rfl (Zr rfl (Yb rfl (Zq rfl (Yb rfl (Zq rfl (Zq rfl (Zk rfl (Zg rfl (ZI ?_)))))))))))
      rw [UW (by assumption) (by assumption) (by assumption)]
      simp only [YZ,ZaL] at *
      rw [ZaP]
      simp only [Za2,ZaL,ZaF,Za5,Za3,Za6,Za4]
      omega
     refine ZD rfl (Yb rfl (Zq rfl (Yb rfl (Zq rfl (Zq rfl (Zk rfl (Zg rfl (ZI ?_))))))))
     rw [UW (by assumption) (by assumption) (by assumption)]
     simp only [YZ,ZaL] at *
     rw [ZaP]
     simp only [Za2,ZaL,ZaF,Za5,Za3,Za6,Za4]
     omega
    refine ZD rfl (Yb rfl (Zq rfl (Yb rfl (Zk rfl (Yb rfl (Zz rfl (Yb rfl (Ym (x:=P (sqI a+1)) rfl rfl ZM (rfl) (Yb rfl (Zr rfl (Yb rfl (Zk rfl (Ys (t:=60) rfl (fun h14=>?_) (fun h14=>?_)))))))))))))) <;> simp only [NM] at h14
    ·refine Yb rfl (Zj rfl (Yb rfl (Zr rfl (Yb rfl (Zq rfl (Yb rfl (Zq rfl (Zq rfl (Zk rfl (Zg rfl (ZI ?_)))))))))))
     rw [UW (by assumption) (by assumption) (by assumption)]
     simp only [YZ,ZaL] at *
     rw [ZaP]
     simp only [Za2,ZaL,ZaF,Za5,Za3,Za6,Za4]
     omega
    refine ZD rfl (Yb rfl (Zq rfl (Yb rfl (Zq rfl (Zq rfl (Zk rfl (Zg rfl (ZI ?_))))))))
    rw [UW (by assumption) (by assumption) (by assumption)]
    simp only [YZ,ZaL] at *
    rw [ZaP]
    simp only [Za2,ZaL,ZaF,Za5,Za3,Za6,Za4]
    omega
   refine ZE rfl (YH rfl (YH rfl (ZD rfl (YH rfl (YH rfl (YH rfl (YH rfl (YH rfl (YH rfl (YH rfl (ZC rfl (Zq rfl (Zk rfl (Zg rfl (ZI ?_)))))))))))))))
   rw [UW (by assumption) (by assumption) (by assumption)]
   simp only [YZ,ZaL] at *
   rw [ZaP]
   simp only [Za2,ZaL,ZaF,Za5,Za3,Za6,Za4]
   omega
  refine Ze (Zr rfl (Zk rfl (Yc (Yj rfl (fun h15=>?_) (fun h15=>?_))))) <;> simp only [NM] at h15
  ·refine Ze (Zj rfl (Yt rfl (YG (WQ _ (by omega))) rfl rfl rfl (Zj rfl (Yt rfl (YG (WQ _ (by omega))) rfl rfl rfl (Wn rfl rfl (pI hf hr) (Zr rfl (Zk rfl (Zg rfl (ZI ?_)))))))))
   rw [rE (by assumption) (by assumption) (by assumption)]
   rfl
  refine Ze (Zr rfl (Zk rfl (Yc (Yj rfl (fun h16=>?_) (fun h16=>?_))))) <;> simp only [NM] at h16
  ·refine Ze (Zj rfl (Yt rfl (YG (WQ _ (by omega))) rfl rfl rfl (Zr rfl (Zk rfl (Ys (t:=79) rfl (fun h17=>?_) (fun h17=>?_)))))) <;> simp only [NM] at h17
   ·refine Yb rfl (Zj rfl (Yb rfl (Yt rfl (YG (WQ _ (by omega))) rfl rfl rfl (Yb rfl (Zr rfl (Zq rfl (Zk rfl (Zg rfl (ZI ?_)))))))))
    rw [xn (by assumption) (by assumption) (by assumption)]
    rw [ZaP]
    simp only [Za2,ZaL,ZaF,Za5,Za3,Za6,Za4]
    omega
   refine ZD rfl (ZC rfl (Zq rfl (Zk rfl (Zg rfl (ZI ?_)))))
   rw [xn (by assumption) (by assumption) (by assumption)]
   rw [ZaP]
   simp only [Za2,ZaL,ZaF,Za5,Za3,Za6,Za4]
   omega
  refine Ze (Zr rfl (Zk rfl (Yc (Yj rfl (fun h18=>?_) (fun h18=>?_))))) <;> simp only [NM] at h18
  ·refine Ze (Zk rfl (Zk rfl (Yb rfl (Yo rfl rfl ZN (Yb rfl (Zj rfl (Yb rfl (Zj rfl (Yb rfl (Yt rfl (YG (Qt P a b ha hb (by omega) (KZ (by omega)))) rfl rfl rfl (Zq rfl (Zk rfl (Zg rfl (ZI ?_))))))))))))))
   rw [jl (by assumption) (by assumption) (by assumption)]
   rw [yT (by omega)]
   rfl
  refine Ze (Zr rfl (Zk rfl (Yc (Yj rfl (fun h19=>?_) (fun h19=>?_))))) <;> simp only [NM] at h19
  ·refine Ze (Zk rfl (Zk rfl (Ys (t:=96) rfl (fun h20=>?_) (fun h20=>?_)))) <;> simp only [NM] at h20
   ·refine Yb rfl (Yo rfl rfl ZN (Yb rfl (Zj rfl (Yb rfl (Zj rfl (Yb rfl (Yt rfl (YG (Qt P a b ha hb (by omega) (KZ (by omega)))) rfl rfl rfl (Zq rfl (Zk rfl (Zg rfl (ZI ?_)))))))))))
    rw [xK (by assumption) (by assumption) (by assumption)]
    rw [jw (by omega)]
    rfl
   refine ZE rfl (Zq rfl (Zk rfl (Zg rfl (ZI ?_))))
   rw [xK (by assumption) (by assumption) (by assumption)]
   rw [vf (by omega)]
   rfl
  refine Yh (Ze (Zk rfl (Zk rfl (ZC rfl (Zq rfl (Zk rfl (Yb rfl (Yo rfl rfl ZN (Yb rfl (Zj rfl (Yb rfl (Zj rfl (Yb rfl (Yt rfl (YG (Qt P a b ha hb (by omega) (KZ (by omega)))) rfl rfl rfl (Zq rfl (Zk rfl (Zg rfl (ZI ?_))))))))))))))))))
  rw [xH (by assumption) (by assumption) (by omega) (by omega) (by omega) (by omega) (by omega)]
  (rw [yT (by omega),Bool.true_or]; rfl)
 refine Yb rfl (Zj rfl (Yb rfl (Zr rfl (Zq rfl (Zj rfl (Yt rfl (YG (WQ _ (by omega))) rfl rfl rfl (Zj rfl (Yt rfl (YG (WQ _ (by omega))) rfl rfl rfl (Zr rfl (Zk rfl (Zk rfl (Yc (Ye (Ze ?_))))))))))))))
 have hf:=yM (x:=b % 8 - a % 8) (by omega)
 have hr:=yM (x:=b / 8 - a / 8) (by omega)
 refine Zy rfl (Ym (x:=P (sqI a)) rfl rfl ZM (rfl) (Yc (Yk (Ze (Zr rfl (Zk rfl (Yc (Yj rfl (fun h21=>?_) (fun h21=>?_))))))))) <;> simp only [NM] at h21
 ·refine Ze (Zj rfl (Yt rfl (YG (WQ _ (by omega))) rfl rfl rfl (Zr rfl (Zk rfl (Ys (t:=48) rfl (fun h22=>?_) (fun h22=>?_)))))) <;> simp only [NM] at h22
  ·refine Yb rfl (Zz rfl (Yb rfl (Ym (x:=P (sqI a+1)) rfl rfl ZM (rfl) (Yb rfl (Zr rfl (Yb rfl (Zk rfl (Ys (t:=52) rfl (fun h23=>?_) (fun h23=>?_))))))))) <;> simp only [NM] at h23
   ·refine Yb rfl (Zj rfl (Yb rfl (Zr rfl (Yb rfl (Zq rfl (Yb rfl (Zk rfl (Ys (t:=56) rfl (fun h24=>?_) (fun h24=>?_))))))))) <;> simp only [NM] at h24
    ·refine ZE rfl (YH rfl (YH rfl (ZC rfl (Yb rfl (Zq rfl (Zq rfl (Zk rfl (Zg rfl (ZI ?_)))))))))
     rw [UW (by assumption) (by assumption) (by assumption)]
     simp only [YZ,ZaL] at *
     rw [ZaP]
     simp only [Za2,ZaL,ZaF,Za5,Za3,Za6,Za4]
     omega
    refine Yb rfl (Zz rfl (Yb rfl (Ym (x:=P (sqI a+1)) rfl rfl ZM (rfl) (Yb rfl (Zr rfl (Yb rfl (Zk rfl (Ys (t:=60) rfl (fun h25=>?_) (fun h25=>?_))))))))) <;> simp only [NM] at h25
    ·refine Yb rfl (Zj rfl (Yb rfl (Zr rfl (Yb rfl (Zq rfl (Yb rfl (Zq rfl (Zq rfl (Zk rfl (Zg rfl (ZI ?_)))))))))))
     rw [UW (by assumption) (by assumption) (by assumption)]
     simp only [YZ,ZaL] at *
     rw [ZaP]
     simp only [Za2,ZaL,ZaF,Za5,Za3,Za6,Za4]
     omega
    refine ZD rfl (Yb rfl (Zq rfl (Yb rfl (Zq rfl (Zq rfl (Zk rfl (Zg rfl (ZI ?_))))))))
    rw [UW (by assumption) (by assumption) (by assumption)]
    simp only [YZ,ZaL] at *
    rw [ZaP]
    simp only [Za2,ZaL,ZaF,Za5,Za3,Za6,Za4]
    omega
   refine ZD rfl (Yb rfl (Zq rfl (Yb rfl (Zk rfl (Yb rfl (Zz rfl (Yb rfl (Ym (x:=P (sqI a+1)) rfl rfl ZM (rfl) (Yb rfl (Zr rfl (Yb rfl (Zk rfl (Ys (t:=60) rfl (fun h26=>?_) (fun h26=>?_)))))))))))))) <;> simp only [NM] at h26
   ·refine Yb rfl (Zj rfl (Yb rfl (Zr rfl (Yb rfl (Zq rfl (Yb rfl (Zq rfl (Zq rfl (Zk rfl (Zg rfl (ZI ?_)))))))))))
    rw [UW (by assumption) (by assumption) (by assumption)]
    simp only [YZ,ZaL] at *
    rw [ZaP]
    simp only [Za2,ZaL,ZaF,Za5,Za3,Za6,Za4]
    omega
   refine ZD rfl (Yb rfl (Zq rfl (Yb rfl (Zq rfl (Zq rfl (Zk rfl (Zg rfl (ZI ?_))))))))
   rw [UW (by assumption) (by assumption) (by assumption)]
   simp only [YZ,ZaL] at *
   rw [ZaP]
   simp only [Za2,ZaL,ZaF,Za5,Za3,Za6,Za4]
   omega
  refine ZE rfl (YH rfl (YH rfl (ZD rfl (YH rfl (YH rfl (YH rfl (YH rfl (YH rfl (YH rfl (YH rfl (ZC rfl (Zq rfl (Zk rfl (Zg rfl (ZI ?_)))))))))))))))
  rw [UW (by assumption) (by assumption) (by assumption)]
  simp only [YZ,ZaL] at *
  rw [ZaP]
  simp only [Za2,ZaL,ZaF,Za5,Za3,Za6,Za4]
  omega
 refine Ze (Zr rfl (Zk rfl (Yc (Yj rfl (fun h27=>?_) (fun h27=>?_))))) <;> simp only [NM] at h27
 ·refine Ze (Zj rfl (Yt rfl (YG (WQ _ (by omega))) rfl rfl rfl (Zj rfl (Yt rfl (YG (WQ _ (by omega))) rfl rfl rfl (Wn rfl rfl (pI hf hr) (Zr rfl (Zk rfl (Zg rfl (ZI ?_)))))))))
  rw [rE (by assumption) (by assumption) (by assumption)]
  rfl
 refine Ze (Zr rfl (Zk rfl (Yc (Yj rfl (fun h28=>?_) (fun h28=>?_))))) <;> simp only [NM] at h28
 ·refine Ze (Zj rfl (Yt rfl (YG (WQ _ (by omega))) rfl rfl rfl (Zr rfl (Zk rfl (Ys (t:=79) rfl (fun h29=>?_) (fun h29=>?_)))))) <;> simp only [NM] at h29
  ·refine Yb rfl (Zj rfl (Yb rfl (Yt rfl (YG (WQ _ (by omega))) rfl rfl rfl (Yb rfl (Zr rfl (Zq rfl (Zk rfl (Zg rfl (ZI ?_)))))))))
   rw [xn (by assumption) (by assumption) (by assumption)]
   rw [ZaP]
   simp only [Za2,ZaL,ZaF,Za5,Za3,Za6,Za4]
   omega
  refine ZD rfl (ZC rfl (Zq rfl (Zk rfl (Zg rfl (ZI ?_)))))
  rw [xn (by assumption) (by assumption) (by assumption)]
  rw [ZaP]
  simp only [Za2,ZaL,ZaF,Za5,Za3,Za6,Za4]
  omega
 refine Ze (Zr rfl (Zk rfl (Yc (Yj rfl (fun h30=>?_) (fun h30=>?_))))) <;> simp only [NM] at h30
 ·refine Ze (Zk rfl (Zk rfl (Ys (t:=87) rfl (fun h31=>?_) (fun h31=>?_)))) <;> simp only [NM] at h31
  ·refine Yb rfl (Yo rfl rfl ZN (Yb rfl (Zj rfl (Yb rfl (Zj rfl (Yb rfl (Yt rfl (YG (Qt P a b ha hb (by omega) (KZ (by omega)))) rfl rfl rfl (Zq rfl (Zk rfl (Zg rfl (ZI ?_)))))))))))
   rw [jl (by assumption) (by assumption) (by assumption)]
   rw [yT (by omega)]
   rfl
  refine ZE rfl (Zq rfl (Zk rfl (Zg rfl (ZI ?_))))
  rw [jl (by assumption) (by assumption) (by assumption)]
  rw [jq (by omega)]
  rfl
 refine Ze (Zr rfl (Zk rfl (Yc (Yj rfl (fun h32=>?_) (fun h32=>?_))))) <;> simp only [NM] at h32
 ·refine Ze (Zk rfl (Zk rfl (Ys (t:=96) rfl (fun h33=>?_) (fun h33=>?_)))) <;> simp only [NM] at h33
  ·refine Yb rfl (Yo rfl rfl ZN (Yb rfl (Zj rfl (Yb rfl (Zj rfl (Yb rfl (Yt rfl (YG (Qt P a b ha hb (by omega) (KZ (by omega)))) rfl rfl rfl (Zq rfl (Zk rfl (Zg rfl (ZI ?_)))))))))))
   rw [xK (by assumption) (by assumption) (by assumption)]
   rw [jw (by omega)]
   rfl
  refine ZE rfl (Zq rfl (Zk rfl (Zg rfl (ZI ?_))))
  rw [xK (by assumption) (by assumption) (by assumption)]
  rw [vf (by omega)]
  rfl
 refine Yh (Ze (Zk rfl (Zk rfl (Ys (t:=103) rfl (fun h34=>?_) (fun h34=>?_))))) <;> simp only [NM] at h34
 ·refine ZC rfl (Zq rfl (Zk rfl (Yb rfl (Yo rfl rfl ZN (Yb rfl (Zj rfl (Yb rfl (Zj rfl (Yb rfl (Yt rfl (YG (Qt P a b ha hb (by omega) (KZ (by omega)))) rfl rfl rfl (Zq rfl (Zk rfl (Zg rfl (ZI ?_))))))))))))))
  rw [xH (by assumption) (by assumption) (by omega) (by omega) (by omega) (by omega) (by omega)]
  (rw [yT (by omega),Bool.true_or]; rfl)
 refine Yb rfl (Zk rfl (Zq rfl (Zk rfl (Ys (t:=106) rfl (fun h35=>?_) (fun h35=>?_))))) <;> simp only [NM] at h35
 ·refine Yb rfl (Yo rfl rfl ZN (Yb rfl (Zj rfl (Yb rfl (Zj rfl (Yb rfl (Yt rfl (YG (Qt P a b ha hb (by omega) (KZ (by omega)))) rfl rfl rfl (Zq rfl (Zk rfl (Zg rfl (ZI ?_)))))))))))
  rw [xH (by assumption) (by assumption) (by omega) (by omega) (by omega) (by omega) (by omega)]
  (rw [jq (by omega),jw (by omega)]; rfl)
 refine ZE rfl (Zq rfl (Zk rfl (Zg rfl (ZI ?_))))
 rw [xH (by assumption) (by assumption) (by omega) (by omega) (by omega) (by omega) (by omega)]
 (rw [jq (by omega),vf (by omega)]; rfl)
theorem uH {P X Q:Nat->Int} {s:Nat} (hQ:∀ j,j < 2->Q j=P (sqI s+j)):eqI 2 Q X=isX P X s:=by
 unfold isX
 rw [Wd,hQ 0 (by omega),hQ 1 (by omega)]; rfl
theorem jZ (P X:Nat->Int):RtR AM 69 1 [.agg 133 (ia P),.agg 2 (ia X)] [] (TU P X) []:=by
 refine Vs (YJ (a:=a69) rfl rfl (YI _) (ZQ rfl) (m:=0) rfl (Ze (YC rfl (YC rfl (Yq rfl (Zf (Yq rfl (Yc (Ye (Ze (Yq rfl (Yc (Yk (Xm (.refl _) (Xp (fun m f _ L=>∃ (i:Nat) (vO:V) (ownO:HA),(i<=64)/\(m=64 - i)/\(Rw 1 ((Wg i).filter (isX P X)) vO ownO)/\(f 2=.ptr 0 0 133)/\(f 3=.ptr 1 0 2)/\(f 5=vO)/\(f 6=.s (.int .i64 i))/\(L=(ownO++[(1,.sc .var 2 (ia X)),(0,.sc .var 133 (ia P))]))) (fun m f nb L hI=>?_) (64) (⟨0,.snil,[],by omega,rfl,.nil rfl,rfl,rfl,rfl,rfl,rfl⟩))))))))))))))))
 obtain ⟨i,vO,ownO,hi,hm,hrO,k2,k3,k5,k6,rfl⟩:=hI
 refine Za 2 k2 (Za 3 k3 (Za 5 k5 (Za 6 k6 (Ye (Ze (Zj rfl (Zr rfl (Yc (Yj rfl (fun h36=>?_) (fun h36=>?_)))))))))) <;> simp only [NM] at h36
 ·refine Yh (Ye (Yk (Ye (Yg (Zj rfl (Zy rfl (Zw rfl rfl rfl (Yp rfl rfl (Zaz _ ZN) (Yo rfl rfl (Zaz _ ZM) (Yw rfl rfl (Yc (Yj rfl (fun h37=>?_) (fun h37=>?_))))))))))))) <;> simp only [NM] at h37
  ·refine Yf (Yq (v:=vO) rfl (Zj rfl (Xo rfl (.one rfl .nil) (XK (c:=[(i:Int)]) rfl hrO rfl ZM (.there .here) (by decide) (by decide) rfl (Ko) (by have:=Ev (isX P X) i; omega) (fun v1 own1 n1 hr1=>Yq (v:=v1) rfl (Yc (Yf (Zj rfl (Zs rfl rfl (Zj rfl (Yc ?_)))))))))))
   have e0:∀ j,j < 2->dp P (0+(i:Int).toNat*2) j=P (sqI i+j):=fun j hj=>by have hq:sqI (i:Int)=0+(i:Int).toNat*2:=rfl; exact congrArg P (by omega)
   refine ⟨64 - (i+1),_,by omega,(ZaE (.refl _) (.cons _ (.refl _))),i+1,_,_,by omega,rfl,?_,rfl,rfl,rfl,rfl,rfl⟩
   exact (yl (p:=isX P X) (i:=i) (by rw [<- uH e0]; assumption)).symm ▸ hr1
  refine Yh (Yf (Zj rfl (Zs rfl rfl (Zj rfl (Yc ?_)))))
  have e0:∀ j,j < 2->dp P (0+(i:Int).toNat*2) j=P (sqI i+j):=fun j hj=>by have hq:sqI (i:Int)=0+(i:Int).toNat*2:=rfl; exact congrArg P (by omega)
  refine ⟨64 - (i+1),_,by omega,(ZaE (.refl _) (.refl _)),i+1,_,_,by omega,rfl,?_,rfl,rfl,rfl,rfl,rfl⟩
  exact (x6 (p:=isX P X) (i:=i) (by rw [<- uH e0]; assumption)).symm ▸ hrO
 refine YX (Xe (Ze (Yq (v:=vO) rfl (Yq (v:=vO) rfl (Yc (Yi (⟨_,YK (v:=vO) rfl (YP),?_⟩)))))))
 obtain rfl:i=64:=by omega
 exact ⟨_,hrO,(fun _ h=>(ZaC _ h))⟩
def yp (P:Nat->Int) (c s a:Int):Bool:=decide (P (sqI a+1)=c)&&Xk P a s
def toL (P:Nat->Int) (s c:Int) (n:Nat):List Int:=if 0<=s/\s < 64 then (Wg n).filter (yp P c s) else []
theorem toL_len (P:Nat->Int) (s c:Int) (n:Nat):(toL P s c n).length<=n:=by
 unfold toL
 split
 ·exact Ev _ n
 exact Zbt _
def isR (P:Nat->Int) (c:Int) (s:Int):Bool:=decide (0 < (toL P s c 64).length)
def EZ (P:Nat->Int) (c:Int):Bool:=if c=0\/c=1 then (TU P (T4 c)).any (isR P (Y5 c)) else false
theorem ks {P:Nat->Int} {c s:Int} (hs:0<=s/\s < 64):isR P c s=VX P c s:=by
 unfold isR toL VX
 rw [Za8 hs,ZaP,ZaL,List.length_pos_iff_exists_mem,List.any_eq_true]
 constructor
 ·rintro ⟨a,ha⟩
  obtain ⟨h1,h2⟩:=ZaS.1 ha
  refine ⟨a,h1,?_⟩
  unfold yp at h2
  unfold Ku
  rw [ZaM] at h2 ⊢
  exact ⟨h2.1,ZaV ((TS (mem64.1 h1) hs).2 h2.2)⟩
 rintro ⟨a,h1,h2⟩
 refine ⟨a,ZaS.2 ⟨h1,?_⟩⟩
 unfold Ku at h2
 unfold yp
 rw [ZaM] at h2 ⊢
 exact ⟨h2.1,(TS (mem64.1 h1) hs).1 (of_decide_eq_true h2.2)⟩
theorem Dj (P:Nat->Int) (c:Int):EZ P c=Xt P c:=by
 unfold EZ Xt
 split
 ·rw [ZaP,List.any_eq_true,List.any_eq_true]
  constructor
  ·rintro ⟨x,hx,h⟩
   refine ⟨x,hx,?_⟩
   rw [<- ks (mem64.1 (ZaS.1 hx).1)]; exact h
  rintro ⟨x,hx,h⟩
  refine ⟨x,hx,?_⟩
  rw [ks (mem64.1 (ZaS.1 hx).1)]; exact h
 rfl
theorem to_yes {P:Nat->Int} {s c:Int} {i:Nat} (hs:0<=s/\s < 64) (h1:P (sqI i+1)=c) (h2:Xk P i s=true):toL P s c (i+1)=toL P s c i++[(i:Int)]:=by
 unfold toL
 rw [Za8 hs,Za8 hs]
 exact yl (p:=yp P c s) (by unfold yp; rw [ZaV h1,h2]; rfl)
theorem to_no {P:Nat->Int} {s c:Int} {i:Nat} (hs:0<=s/\s < 64) (h:P (sqI i+1)≠c\/Xk P i s=false):toL P s c (i+1)=toL P s c i:=by
 unfold toL
 rw [Za8 hs,Za8 hs]
 refine x6 (p:=yp P c s) ?_
 unfold yp
 rcases h with h | h
 ·rw [ZaT h]; rfl
 rw [h,Bool.and_false]
theorem dTo_rt (P:Nat->Int) (s c:Int):RtR AM 97 1 [.agg 133 (ia P),.s (.int .i64 s),.s (.int .i64 c)] [] (toL P s c 64) []:=by
 refine Vs (YJ (a:=a97) rfl rfl (YI _) (ZQ rfl) (m:=0) rfl (Ze (YC rfl (Yq rfl (Zf (Yq rfl (Yc (Ye (Ze (Yq rfl (Yc (Yk (Xm (.refl _) ?_)))))))))))))
 refine Xp (fun m f _ L=>∃ (i:Nat) (vO:V) (ownO:HA),(i<=64)/\(m=64 - i)/\(Rw 1 (toL P s c i) vO ownO)/\(f 1=.s (.int .i64 s))/\(f 2=.s (.int .i64 c))/\(f 3=.ptr 0 0 133)/\(f 7=vO)/\(f 8=.s (.int .i64 i))/\(L=(ownO++[(0,.sc .var 133 (ia P))]))) (fun m f nb L hI=>?_) (64) (⟨0,.snil,[],by omega,rfl,.nil (by unfold toL; split <;> rfl),rfl,rfl,rfl,rfl,rfl,rfl⟩)
 obtain ⟨i,vO,ownO,hi,hm,hrO,k1,k2,k3,k7,k8,rfl⟩:=hI
 refine Za 1 k1 (Za 2 k2 (Za 3 k3 (Za 7 k7 (Za 8 k8 (Ye (Ze (Zj rfl (Zr rfl (Zk rfl (Ys (t:=11) rfl (fun h38=>?_) (fun h38=>?_))))))))))) <;> simp only [NM] at h38
 ·refine Yb rfl (Zj rfl (Yb rfl (Zr rfl (Zq rfl (Zk rfl (Ys (t:=15) rfl (fun h39=>?_) (fun h39=>?_))))))) <;> simp only [NM] at h39
  ·refine Yb rfl (Zj rfl (Yb rfl (Zr rfl (Zq rfl (Yc (Yj rfl (fun h40=>?_) (fun h40=>?_))))))) <;> simp only [NM] at h40
   ·refine Yh (Ye (Yk (Ze (Zj rfl (Zy rfl (Zw rfl rfl rfl (Yd rfl rfl rfl (Ym (x:=P (sqI i+1)) rfl rfl (Zaz _ ZM) (show P (0+(i:Int).toNat*2+1)=_ from congrArg P (by have hq:sqI (i:Int)=0+(i:Int).toNat*2:=rfl; omega)) (Zj rfl (Zr rfl (Zk rfl (Ys (t:=28) rfl (fun h41=>?_) (fun h41=>?_))))))))))))) <;> simp only [NM] at h41
    ·refine Yb rfl (Yo rfl rfl (Zaz _ ZM) (Yb rfl (Zj rfl (Yb rfl (Zj rfl (Yb rfl (Yt rfl (YG (Kj P i s (by omega) (by omega))) rfl rfl rfl (Zq rfl (Yc (Yj rfl (fun h42=>?_) (fun h42=>?_)))))))))))
     ·refine Yf (Yq (v:=vO) rfl (Zj rfl (Xo rfl (.one rfl .nil) (XK (c:=[(i:Int)]) rfl hrO rfl ZM (.there .here) (by decide) (by decide) rfl (Ko) (by have:=toL_len P s c i; omega) (fun v1 own1 n1 hr1=>Yq (v:=v1) rfl (Yc (Yf (Zj rfl (Zs rfl rfl (Zj rfl (Yc (⟨64 - (i+1),_,by omega,(ZaE (.refl _) (.cons _ (.refl _))),i+1,_,_,by omega,rfl,?_,rfl,rfl,rfl,rfl,rfl,rfl⟩))))))))))))
      exact (to_yes (c:=c) ⟨by omega,by omega⟩ (by assumption) (by assumption)).symm ▸ hr1
     refine Yh (Yf (Zj rfl (Zs rfl rfl (Zj rfl (Yc (⟨64 - (i+1),_,by omega,(ZaE (.refl _) (.refl _)),i+1,_,_,by omega,rfl,?_,rfl,rfl,rfl,rfl,rfl,rfl⟩))))))
     exact (to_no (c:=c) ⟨by omega,by omega⟩ (by first | exact .inl (by assumption) | exact .inr (by assumption))).symm ▸ hrO
    refine ZE rfl (Zq rfl (Yc (ZB rfl (Yh (Yf (Zj rfl (Zs rfl rfl (Zj rfl (Yc (⟨64 - (i+1),_,by omega,(ZaE (.refl _) (.refl _)),i+1,_,_,by omega,rfl,?_,rfl,rfl,rfl,rfl,rfl,rfl⟩))))))))))
    exact (to_no (c:=c) ⟨by omega,by omega⟩ (by first | exact .inl (by assumption) | exact .inr (by assumption))).symm ▸ hrO
   refine YX (Xe (Ze (Yq (v:=vO) rfl (Yq (v:=vO) rfl (Yc (Yi (⟨_,YK (v:=vO) rfl (YP),?_⟩)))))))
   have e:toL P s c 64=toL P s c i:=by
    by_cases e:0<=s/\s < 64
    · obtain rfl : i = 64 := by omega
      rfl
    unfold toL; rw [Za7 e,Za7 e]
   exact ⟨_,e ▸ hrO,(fun _ h=>(ZaC _ h))⟩
  refine ZD rfl (Zq rfl (Yc (ZB rfl (YX (Xe (Ze (Yq (v:=vO) rfl (Yq (v:=vO) rfl (Yc (Yi (⟨_,YK (v:=vO) rfl (YP),?_⟩)))))))))))
  have e:toL P s c 64=toL P s c i:=by
   by_cases e:0<=s/\s < 64
   · obtain rfl : i = 64 := by omega
     rfl
   unfold toL; rw [Za7 e,Za7 e]
  exact ⟨_,e ▸ hrO,(fun _ h=>(ZaC _ h))⟩
 refine ZD rfl (Zq rfl (Zk rfl (ZD rfl (Zq rfl (Yc (ZB rfl (YX (Xe (Ze (Yq (v:=vO) rfl (Yq (v:=vO) rfl (Yc (Yi (⟨_,YK (v:=vO) rfl (YP),?_⟩))))))))))))))
 have e:toL P s c 64=toL P s c i:=by
  by_cases e:0<=s/\s < 64
  · obtain rfl : i = 64 := by omega
    rfl
  unfold toL; rw [Za7 e,Za7 e]
 exact ⟨_,e ▸ hrO,(fun _ h=>(ZaC _ h))⟩
theorem jJ (P:Nat->Int) (c:Int) (l:List Int) (hlen:l.length<=1000000):RdR AM 68 1 [.agg 133 (ia P),.s (.int .i64 c)] [] l (.s (.bool (l.any (isR P c)))):=by
 refine Ql fun v Bs hc=>?_
 refine YJ (a:=a68) rfl rfl (YI _) (ZQ rfl) rfl ?_ (by first | rfl | (cases hc <;> rfl))
 have hr0:=hc.rx
 rw [show Xb 0 Bs=Xb 0 Bs++[] from (ZaQ _).symm]
 generalize hown:Xb 0 Bs=own0 at hr0 ⊢
 refine Ze (YC rfl (Yq rfl (Yc (Ye (Ze (Yq rfl (Yc (Yk (Xm (.cons_cons _ (ZaE (.refl _) .slnil)) (Xp (fun m f _ L=>∃ (i:Nat),(i<=l.length)/\(m=l.length - i)/\(∀ j:Nat,j < i->isR P c (l.getD j 0)=false)/\(f 1=.s (.int .i64 c))/\(f 2=v)/\(f 3=.ptr Bs.length 0 133)/\(f 7=.s (.int .i64 i))/\(L=(Bs.length,.sc .var 133 (ia P))::(own0++[]))) (fun m f nb L hI=>?_) (l.length) (⟨0,by omega,by omega,fun j hj=>by omega,rfl,rfl,rfl,rfl,rfl⟩)))))))))))
 obtain ⟨i,hi,hm,hn,k1,k2,k3,k7,rfl⟩:=hI
 refine Za 1 k1 (Za 2 k2 (Za 3 k3 (Za 7 k7 (Ye (Ze (Zj rfl (Yq (v:=v) rfl (Wq rfl hr0 (by decide) KO (Zr rfl (Yc (Yj rfl (fun h43=>?_) (fun h43=>?_)))))))))))) <;> simp only [NM] at h43
 ·refine Yh (Ye (Yk (Ye (Yg (Yo rfl rfl ZM (Yq (v:=v) rfl (Zj rfl ?_)))))))
  obtain ⟨b0,q0,md0,c0,F0,rfl,rfl,hF0⟩:=hr0.at (by decide) KO (by omega)
  refine Zx rfl rfl (Ym (x:=(l.getD i 0)) rfl rfl ZN (ld1 hF0 (by omega)) (Zj rfl (YE rfl (dTo_rt P (l.getD i 0) c) rfl rfl (fun v1 own1 n1 hr1=>Yq (v:=v1) rfl (Zf (Yq (v:=v1) rfl (Wq rfl hr1.rx (by decide) KO (Zr rfl (Yc (Yj rfl (fun h44=>?_) (fun h44=>?_))))))))))) <;> simp only [NM] at h44
  ·refine Ze (Yq rfl (Zg rfl (⟨?_,(Qf (Zaz _ ZN))⟩)))
   rw [ob (p:=isR P c) (i:=i) (by omega) (ZaV (by omega))]; rfl
  refine Yh (Yf (Zj rfl (Zs rfl rfl (Zj rfl (Yc (⟨l.length - (i+1),_,by omega,(Za9 (.refl _)),i+1,by omega,rfl,?_,rfl,rfl,rfl,rfl,rfl⟩))))))
  intro j hj
  by_cases e:j=i
  ·subst e; exact ZaT (by omega)
  exact hn j (by omega)
 refine YX (Xe (Ze (Yq rfl (Zg rfl ?_))))
 obtain rfl:i=l.length:=by omega
 refine ⟨?_,(fun _ h=>(.tail _ h))⟩
 rw [jy (p:=isR P c) hn]; rfl
theorem QT (P:Nat->Int) (c:Int):WR AM 32 [.agg 133 (ia P),.s (.int .i64 c)] [] (fun v _ _=>v=.s (.bool (Xt P c))):=by
 refine YJ (a:=a32) rfl rfl (YI _) (ZQ rfl) (m:=0) rfl (Ze (YC rfl (Yq rfl (Yc (Ye (Ze (Zj rfl (Zr rfl (Zk rfl (Ys (t:=7) rfl (fun h45=>?_) (fun h45=>?_))))))))))) <;> simp only [NM] at h45
 ·refine Yb rfl (Zj rfl (Yb rfl (Zr rfl (Zq rfl (Yc (Yj rfl (fun h46=>?_) (fun h46=>?_))))))) <;> simp only [NM] at h46
  ·refine Ze (Yq rfl (Zg rfl ?_))
   rw [<- Dj]
   unfold EZ
   (rw [Za7 (by omega)]; rfl)
  refine Yh (Ye (Yg (Yo rfl rfl ZM (Zj rfl (Yu rfl (YG (WT _)) rfl rfl rfl (Yo rfl rfl ZM (Zj rfl (YB rfl (.one rfl (.one rfl .nil)) (Uh rfl (jZ P (T4 c)) rfl rfl (fun v1 own1 n1 hr1=>Wp (caps:=[]) rfl (jJ P (Y5 c) _ (ZaZ (RM _ _) (by decide))) rfl (hr1.rx) (fun _ h=>(ZaC _ h)) rfl rfl rfl (Zk rfl (Zg rfl ?_))))))))))))
  rw [<- Dj]
  unfold EZ
  (rw [Za8 (by omega)]; rfl)
 refine ZD rfl (Zq rfl (Yc (ZB rfl (Yh (Ye (Yg (Yo rfl rfl ZM (Zj rfl (Yu rfl (YG (WT _)) rfl rfl rfl (Yo rfl rfl ZM (Zj rfl (YB rfl (.one rfl (.one rfl .nil)) (Uh rfl (jZ P (T4 c)) rfl rfl (fun v2 own2 n2 hr2=>Wp (caps:=[]) rfl (jJ P (Y5 c) _ (ZaZ (RM _ _) (by decide))) rfl (hr2.rx) (fun _ h=>(ZaC _ h)) rfl rfl rfl (Zk rfl (Zg rfl ?_))))))))))))))))
 rw [<- Dj]
 unfold EZ
 (rw [Za8 (by omega)]; rfl)
end Go.Proofs.YtlkighkfkdpncaaGreatDoor
