/- Texts of this seat, joined. -/
import Derived.Test.YtlkighkfkdpncaaGreatAm0
import Derived.Test.YtlkighkfkdpncaaGreatAm1
import Derived.Test.YtlkighkfkdpncaaGreatAm2
import Derived.Test.YtlkighkfkdpncaaGreatM0
import Derived.Test.YtlkighkfkdpncaaGreatM1
import Derived.Test.YtlkighkfkdpncaaGreatM2
set_option linter.unusedSimpArgs false
set_option linter.unusedVariables false
namespace Go.Proofs.YtlkighkfkdpncaaGreat
open Go Go.Am
theorem rook_ex {md:Md} (H:Nat→Int) (ha:0≤H 133∧H 133 < 64) (ht:0≤H 134∧H 134 < 64) (hc:H 137 = 0∨H 137 = 1) (hC:0≤H 129∧H 129≤15) :
  ∃ x y z,Js (H 136) (H 133) (H 134) (H 137) (H 129) x y z∧RB AM 122 [.ptr 0 0 138] [.sc md 138 (ia H)] (.tup [.s (.int .i64 x),.s (.int .i64 y),.s (.bool z)]) [.sc md 138 (ia H)]:=by
 obtain ⟨v,σ',n',L',h1,h2,⟨x,y,z,rfl,hr⟩,h3⟩:=pF (md:=md) H ha ht hc hC
 exact ⟨x,y,z,hr,σ',h1,(h2.2.mem h3).2,⟨_,_,_,rfl⟩,trivial⟩
structure Same (H J:Nat→Int) (B:Nat→Int):Prop where
 lo:∀ i,i < 128→J i = B i
 hi:∀ i,128≤i→J i = H i
theorem yd {md md2:Md} (hmd:md.mut = true) {q:Nat} {c:Cp} (H X K:Nat→Int) (n:Nat) (hn:n≤1000):∃ J,J = UJ H X K n∧RB AM 124 [.ptr 0 0 138,.agg 2 (ia X),.sl 1 0 n 1 c] [.sc md 138 (ia H),.sc md2 q (ia K)] (.tup []) [.sc md 138 (ia J),.sc md2 q (ia K)] :=
 ⟨_,rfl,Ew (set_run hmd H X K n hn)⟩
theorem set_two {H J:Nat→Int} {w a:Int} (e:J = UJ H (fun _=>0) (ov (ov (fun _=>0) (0*1) w) (1*1) a) 2) (ha:0≤a∧a < 64) (hw:-1≤w∧w < 64):Same H J (oV H w a):=by
 have h2:=E6 (H:=H) (X:=fun _=>0) (K:=ov (ov (fun _=>0) (0*1) w) (1*1) a) (n:=1) (s:=a) rfl ha
 refine ⟨fun i _=>?_,fun i hi=>by rw [e]; exact za 2 i hi⟩
 rw [e,h2,oV,T1]
 by_cases h:0≤w
 ·rw [E6 (H:=H) (X:=fun _=>0) (K:=ov (ov (fun _=>0) (0*1) w) (1*1) a) (n:=0) (s:=w) rfl (by omega),if_pos h]; rfl
 ·rw [kF (H:=H) (X:=fun _=>0) (K:=ov (ov (fun _=>0) (0*1) w) (1*1) a) (n:=0) (s:=w) rfl (by omega),if_neg h]; rfl
theorem JB {H J J' B X Y:Nat→Int} {t:Int} (j:Same H J B) (e:J' = UJ J X (ov (fun _=>0) (0*1) t) 1) (ht:0≤t∧t < 64) (hx:∀ i,i < 2→X i = Y i):Same H J' (ovA B (sqI t) 2 Y):=by
 have h1:=E6 (H:=J) (X:=X) (K:=ov (fun _=>0) (0*1) t) (n:=0) (s:=t) rfl ht
 refine ⟨fun i hi=>?_,fun i hi=>by rw [e,za 1 i hi]; exact j.hi i hi⟩
 rw [e,h1]
 exact Ug (n:=128) j.lo hx i hi
theorem two {X Y:Nat→Int} (h0:X 0 = Y 0) (h1:X 1 = Y 1):∀ i,i < 2→X i = Y i
 | 0,_=>h0
 | 1,_=>h1
 | n+2,h=>by omega
theorem Tw {k a t c C:Int} (h:YW k a t c C ≠ 0):a = 56*c+4:=by
 unfold YW at h
 split at h
 ·omega
 ·split at h
  ·omega
  ·exact absurd rfl h
theorem py {H J2 J3 J4 X:Nat→Int} {w k a t c b C x y:Int} {z:Bool} (j:Same H J2 (Tt H w a t k c b)) (e3:J3 = UJ J2 (fun _=>0) (ov (fun _=>0) (0*1) x) 1) (e4:J4 = UJ J3 (ov (ov (fun _=>0) 0 4) 1 (X 1)) (ov (fun _=>0) (0*1) y) 1)
  (hr:Js k a t c C x y z) (hz:z = true) (hc:c = 0∨c = 1) (hx1:X 1 = c):Same H J4 (VA H w a t k c b (YW k a t c C)):=by
 rcases hr with ⟨hg,_,rfl,rfl⟩ | ⟨hg,_,rfl,rfl⟩ | ⟨_,hf⟩
 ·have:=Tw (h:=by rw [hg]; decide)
  rw [hg,VA,if_pos rfl]
  exact JB (JB j e3 (by omega) (fun _ _=>rfl)) e4 (by omega) (two rfl hx1)
 ·have:=Tw (h:=by rw [hg]; decide)
  rw [hg,VA,if_neg (by decide),if_pos rfl]
  exact JB (JB j e3 (by omega) (fun _ _=>rfl)) e4 (by omega) (two rfl hx1)
 ·rw [hz] at hf; cases hf
theorem uc {H J2:Nat→Int} {w k a t c b C x y:Int} {z:Bool} (j:Same H J2 (Tt H w a t k c b)) (hr:Js k a t c C x y z) (hz:z = false):Same H J2 (VA H w a t k c b (YW k a t c C)):=by
 rcases hr with ⟨_,h,_⟩ | ⟨_,h,_⟩ | ⟨hg,_⟩
 ·rw [hz] at h; cases h
 ·rw [hz] at h; cases h
 ·rw [hg,VA,if_neg (by decide),if_neg (by decide)]; exact j
structure Done (H J B:Nat→Int) (cs ovr hf fl:Int):Prop where
 lo:∀ i,i < 128→J i = B i
 s:J 128 = H 128
 c:J 129 = cs
 o:J 130 = ovr
 h:J 131 = hf
 f:J 132 = fl
theorem done_is {H J:Nat→Int} {k c a t b C:Int} (h:Done H J (VA H (Y5 H k a t) a t k c b (YW k a t c C)) (VD C (orM (orM 0 (Xp a)) (Xp t))) (Un k a t c) (VU H k (Y5 H k a t)) (Qj H)) (i:Nat):ovA (fun _=>0) 0 133 (ov J 128 (Y0 (H 128))) i = V6 H k c a t b C i:=by
 unfold V6
 by_cases hi:i < 133
 ·rw [XR (by omega),Nat.sub_zero]
  by_cases h1:i < 128
  ·rw [if_pos h1,WF (by omega)]; exact h.lo i h1
  ·rw [if_neg h1]
   have hc:i = 128∨i = 129∨i = 130∨i = 131∨i = 132:=by omega
   rcases hc with rfl | rfl | rfl | rfl | rfl
   ·rfl
   ·exact h.c
   ·exact h.o
   ·exact h.h
   ·exact h.f
 ·rw [WA (by omega),if_neg (by omega),if_neg (by omega),if_neg (by omega),if_neg (by omega),if_neg (by omega),if_neg (by omega)]
theorem pC (H:Nat→Int) (ha:0≤H 133∧H 133 < 64) (ht:0≤H 134∧H 134 < 64) (hc:H 137 = 0∨H 137 = 1) (hC:0≤H 129∧H 129≤15):WR AM 96 [.ptr 0 0 138] [.sc .var 138 (ia H)] (fun v _ L=>∃ J,v = .agg 133 (ia (V6 H (H 136) (H 137) (H 133) (H 134) (H 135) (H 129)))∧(0,Blk.sc .var 138 (ia J))∈L):=by
 refine YI (a:=a96) rfl rfl (YH _) (ZP rfl) (m:=1) rfl (Zd (Yx (Ze (Zk rfl (Q9 rfl (Ua (sH H ha ht)) rfl rfl rfl (.there .here) (Zi rfl (Ze (Zk rfl ?_))))))))
 obtain ⟨x,y,z,hr,hR⟩:=rook_ex (md:=.var) H ha ht hc hC
 refine Q9 rfl (hR) rfl rfl rfl (.there .here) (Zn rfl (YC (v:=.s (.int _ _)) rfl rfl (YC (v:=.s (.int _ _)) rfl rfl (YC (v:=.s (.bool _)) rfl rfl (Zi rfl (Zi rfl (Zj rfl (Ze (Yp rfl (Yb (WE (fun f n L=>(f 0 = .ptr 0 0 138)∧(f 2 = .ptr 1 0 133)∧(f 3 = .s (.int .i64 (Y5 H (H 136) (H 133) (H 134))))∧(f 4 = .s (.int .i64 x))∧(f 5 = .s (.int .i64 y))∧(f 6 = .s (.bool z))∧(f 7 = .s (.int .i64 (Un (H 136) (H 133) (H 134) (H 137))))∧(L = [(1,.sc .var 133 (ia fun _=>0)),(0,.sc .var 138 (ia H))])∧(n = 2)) ?_ (fun f nb L hI=>?_))))))))))))
 ·refine Zd (Zk rfl (Q9 rfl (Ua (rn H ha ht hc)) rfl rfl rfl (.there .here) (Yb (Yi rfl (fun h1=>?_) (fun h1=>?_)))))
  ·refine Yf (Zk rfl (YR rfl (Yc (o':=133) rfl rfl rfl (Yc (o':=133) rfl rfl rfl (Yl rfl rfl ZM rfl (Zk rfl (YR rfl (Yc (o':=133) rfl rfl rfl (Yc (o':=134) rfl rfl rfl (Yl rfl rfl ZM rfl (Zr rfl rfl (Zt rfl rfl (Zi rfl (Yb (⟨_,(.refl _),rfl,rfl,rfl,rfl,rfl,rfl,?_,rfl,rfl⟩)))))))))))))))
   refine ZI ?_
   rw [Un]
   exact (if_pos (by assumption)).symm
  ·refine Yg (⟨_,(.refl _),rfl,rfl,rfl,rfl,rfl,rfl,?_,rfl,rfl⟩)
   refine ZI ?_
   rw [Un]
   exact (if_neg (Bool.eq_false_iff.1 (by assumption))).symm
 ·obtain ⟨k0,k2,k3,k4,k5,k6,k7,rfl,rfl⟩:=hI
  refine pH 0 k0 (pH 2 k2 (pH 3 k3 (pH 4 k4 (pH 5 k5 (pH 6 k6 (pH 7 k7 (Zd (Zk rfl (YR rfl (Yc (o':=136) rfl rfl rfl (Yo rfl rfl ZM (Yx (Yy rfl rfl rfl rfl .here (Yb (WE (fun f n L=>∃ (X:Nat→Int),(X 0 = (if H 135 = 0 then H 136 else H 135))∧(X 1 = H 137)∧(f 0 = .ptr 0 0 138)∧(f 2 = .ptr 1 0 133)∧(f 3 = .s (.int .i64 (Y5 H (H 136) (H 133) (H 134))))∧(f 4 = .s (.int .i64 x))∧(f 5 = .s (.int .i64 y))∧(f 6 = .s (.bool z))∧(f 7 = .s (.int .i64 (Un (H 136) (H 133) (H 134) (H 137))))∧(f 8 = .ptr 2 0 2)∧(L = [(2,.sc .var 2 (ia X)),(1,.sc .var 133 (ia fun _=>0)),(0,.sc .var 138 (ia H))])∧(n = 3)) ?_ (fun f nb L hI=>?_))))))))))))))))
  ·refine Zd (Zk rfl (YR rfl (Yc (o':=133) rfl rfl rfl (Yc (o':=135) rfl rfl rfl (Yl rfl rfl ZN rfl (Zq rfl (Yb (Yi rfl (fun h2=>?_) (fun h2=>?_))))))))) <;> simp only [NM] at h2
   ·refine Ye (Zk rfl (YR rfl (Yc (o':=133) rfl rfl rfl (Yc (o':=135) rfl rfl rfl (Yl rfl rfl ZN rfl (Zx rfl (Yz rfl rfl rfl rfl .here (Yb (⟨_,(.refl _),_,?_,?_,rfl,rfl,rfl,rfl,rfl,rfl,rfl,rfl,rfl,rfl⟩)))))))))
    · exact (if_neg (by assumption)).symm
    · rfl
   ·refine Yg (⟨_,(.refl _),_,?_,?_,rfl,rfl,rfl,rfl,rfl,rfl,rfl,rfl,rfl,rfl⟩)
    · exact (if_pos (by assumption)).symm
    · rfl
  ·obtain ⟨X,hx0,hx1,k0,k2,k3,k4,k5,k6,k7,k8,rfl,rfl⟩:=hI
   refine pH 0 k0 (pH 2 k2 (pH 3 k3 (pH 4 k4 (pH 5 k5 (pH 6 k6 (pH 7 k7 (pH 8 k8 (Zd (Zk rfl (YA rfl .nil (Zi rfl (Zk rfl (YR rfl (Yc (o':=133) rfl rfl rfl (Yc (o':=133) rfl rfl rfl (Yl (x:=H 133) rfl rfl ZN (rfl) (Xd rfl (.one rfl (.one rfl .nil)) ?_)))))))))))))))))
   obtain ⟨J1,eJ1,hSJ1⟩:=yd (md:=.var) (md2:=.var) (q:=2) (c:=.ex 2) rfl H (fun _=>0) (ov (ov (fun _=>0) (0*1) (Y5 H (H 136) (H 133) (H 134))) (1*1) (H 133)) 2 (by omega)
   have j1:Same H J1 (oV H (Y5 H (H 136) (H 133) (H 134)) (H 133)):=set_two eJ1 ha (VK ha ht)
   refine Wn (rs:=[0,3]) (Bs:=[_,_]) rfl (hSJ1) rfl rfl (YE rfl) (fun _ h=>h) rfl ⟨ZO,⟨_,_,_,rfl⟩,⟨ZL,⟨_,_,_,rfl⟩,trivial⟩⟩ rfl rfl rfl (.cons (.there (.there (.there .here))) (.cons .here .nil)) (Yb (Yd (Yf (Zk rfl (Yn rfl rfl ZM (Zk rfl (YR rfl (Yc (o':=133) rfl rfl rfl (Yc (o':=134) rfl rfl rfl (Yl (x:=H 134) rfl rfl ZO (j1.hi 134 (by omega)) (Xd rfl (.one rfl .nil) ?_)))))))))))
   obtain ⟨J2,eJ2,hSJ2⟩:=yd (md:=.var) (md2:=.var) (q:=1) (c:=.ex 1) rfl J1 X (ov (fun _=>0) (0*1) (H 134)) 1 (by omega)
   have j2:Same H J2 (Tt H (Y5 H (H 136) (H 133) (H 134)) (H 133) (H 134) (H 136) (H 137) (H 135)):=JB j1 eJ2 ht (two hx0 hx1)
   refine Wn (rs:=[0,4]) (Bs:=[_,_]) rfl (hSJ2) rfl rfl (YE rfl) (fun _ h=>h) rfl ⟨(.tail _ ZO),⟨_,_,_,rfl⟩,⟨ZL,⟨_,_,_,rfl⟩,trivial⟩⟩ rfl rfl rfl (.cons (.there (.there (.there (.there .here)))) (.cons .here .nil)) (Yb (WE (fun f n L=>∃ (X J:Nat→Int),(3≤n)∧(Same H J (VA H (Y5 H (H 136) (H 133) (H 134)) (H 133) (H 134) (H 136) (H 137) (H 135) (YW (H 136) (H 133) (H 134) (H 137) (H 129))))∧(f 0 = .ptr 0 0 138)∧(f 2 = .ptr 1 0 133)∧(f 3 = .s (.int .i64 (Y5 H (H 136) (H 133) (H 134))))∧(f 7 = .s (.int .i64 (Un (H 136) (H 133) (H 134) (H 137))))∧(L = [(2,.sc .var 2 (ia X)),(1,.sc .var 133 (ia fun _=>0)),(0,.sc .var 138 (ia J))])) ?_ (fun f nb L hI=>?_)))
   ·refine Zd (Zj rfl (Yb (Yi rfl (fun h3=>?_) (fun h3=>?_))))
    ·refine Zd (Zk rfl (YA rfl .nil (Zi rfl (Xd rfl (.one rfl .nil) ?_))))
     obtain ⟨J3,eJ3,hSJ3⟩:=yd (md:=.var) (md2:=.var) (q:=1) (c:=.ex 1) rfl J2 (fun _=>0) (ov (fun _=>0) (0*1) x) 1 (by omega)
     refine Wn (rs:=[0,5]) (Bs:=[_,_]) rfl (hSJ3) rfl rfl (YE rfl) (fun _ h=>h) rfl ⟨(.tail _ (.tail _ ZO)),⟨_,_,_,rfl⟩,⟨ZL,⟨_,_,_,rfl⟩,trivial⟩⟩ rfl rfl rfl (.cons (.there (.there (.there (.there (.there .here))))) (.cons .here .nil)) (Yb (Ye (Zk rfl (Zy rfl (Yl rfl rfl ZO rfl (YA rfl (.one rfl (.one rfl .nil)) (Zi rfl (Xd rfl (.one rfl .nil) ?_))))))))
     obtain ⟨J4,eJ4,hSJ4⟩:=yd (md:=.var) (md2:=.var) (q:=1) (c:=.ex 1) rfl J3 (ov (ov (fun _=>0) 0 4) 1 (X 1)) (ov (fun _=>0) (0*1) y) 1 (by omega)
     have j4:Same H J4 (VA H (Y5 H (H 136) (H 133) (H 134)) (H 133) (H 134) (H 136) (H 137) (H 135) (YW (H 136) (H 133) (H 134) (H 137) (H 129))):=py j2 eJ3 eJ4 hr (by assumption) hc hx1
     refine Wn (rs:=[0,6]) (Bs:=[_,_]) rfl (hSJ4) rfl rfl (YE rfl) (fun _ h=>h) rfl ⟨(.tail _ (.tail _ (.tail _ ZO))),⟨_,_,_,rfl⟩,⟨ZL,⟨_,_,_,rfl⟩,trivial⟩⟩ rfl rfl rfl (.cons (.there (.there (.there (.there (.there (.there .here)))))) (.cons .here .nil)) (Yb ?_)
     exact ⟨_,(.cons _ (.cons _ (.cons _ (.cons _ (.refl _))))),X,J4,by omega,j4,rfl,rfl,rfl,rfl,rfl⟩
    ·refine Yg ?_
     exact ⟨_,(.cons _ (.cons _ (.refl _))),X,J2,by omega,uc j2 hr (by assumption),rfl,rfl,rfl,rfl,rfl⟩
   ·obtain ⟨X,J,hn3,hJ,k0,k2,k3,k7,rfl⟩:=hI
    refine pH 0 k0 (pH 2 k2 (pH 3 k3 (pH 7 k7 (Zd (Zk rfl (Zi rfl (YR rfl (Zx rfl (Yc (o':=130) rfl rfl rfl (Yz rfl rfl rfl rfl (.there (.there .here)) (Yb (Yd (Yf (Zk rfl (YR rfl (Zx rfl (Yc (o':=129) rfl rfl rfl (Yl (x:=H 129) rfl rfl ZN (hJ.hi 129 (by omega)) (Zk rfl (YR rfl (Yc (o':=133) rfl rfl rfl (Yc (o':=133) rfl rfl rfl (Yl (x:=H 133) rfl rfl ZN (hJ.hi 133 (by omega)) (Zk rfl (YR rfl (Yc (o':=133) rfl rfl rfl (Yc (o':=134) rfl rfl rfl (Yl (x:=H 134) rfl rfl ZN (hJ.hi 134 (by omega)) (Xd rfl (.one rfl (.one rfl .nil)) ?_)))))))))))))))))))))))))))))
    refine s9 (rs:=[nb]) (Bs:=[_]) (av:=[.sl nb 0 2 1 (.ex 2)]) (v:=.s (.int .i64 (zy (ov (ov (fun _=>0) (0*1) (H 133)) (1*1) (H 134)) 2))) rfl (Ua (uk (md:=.ro) (q:=2) (c:=.ex 2) (ov (ov (fun _=>0) (0*1) (H 133)) (1*1) (H 134)) 2 (by omega))) rfl (by simp [V.refsL,V.refs,WL]) (by simp [V.refsL,V.refs]) (by simp [V.refsL,V.refs]) (by simp [rnL,V.renL,V.ren,pos]) ⟨ZL,⟨_,_,_,rfl⟩,trivial⟩ rfl rfl rfl (Yq (r:=.int .i64 (VD (H 129) _)) rfl rfl rfl (YR rfl (Zx rfl (Yc (o':=129) rfl rfl rfl (Yz rfl rfl rfl rfl (.there (.there (.there .here))) (Ze (Zk rfl (Zk rfl (YR rfl (Zx rfl (Yc (o':=131) rfl rfl rfl (Yl (x:=H 131) rfl rfl ZO (hJ.hi 131 (by omega)) (T7 rfl rfl (Yq rfl rfl rfl (YR rfl (Zx rfl (Yc (o':=131) rfl rfl rfl (Yz rfl rfl rfl rfl (.there (.there (.there .here))) (Yb (WE (fun f n L=>∃ (J:Nat→Int),(Done H J (VA H (Y5 H (H 136) (H 133) (H 134)) (H 133) (H 134) (H 136) (H 137) (H 135) (YW (H 136) (H 133) (H 134) (H 137) (H 129))) (VD (H 129) (orM (orM 0 (Xp (H 133))) (Xp (H 134)))) (Un (H 136) (H 133) (H 134) (H 137)) (VU H (H 136) (Y5 H (H 136) (H 133) (H 134))) (H 132))∧(f 0 = .ptr 0 0 138)∧(f 2 = .ptr 1 0 133)∧(L = [(1,.sc .var 133 (ia fun _=>0)),(0,.sc .var 138 (ia J))])) ?_ (fun f nb L hI=>?_)))))))))))))))))))))
    ·refine Zd (Zi rfl (Zq rfl (Zj rfl (Yr (t:=118) rfl (fun h4=>?_) (fun h4=>?_))))) <;> simp only [NM] at h4
     ·refine ZD rfl (ZC rfl (Zo rfl (Yb (Zz rfl (Ye (Zk rfl (YR rfl (Zx rfl (Yc (o':=131) rfl rfl rfl (Yz rfl rfl rfl rfl (.there (.there (.there .here))) (Yb (⟨_,(.cons _ (.cons _ (.refl _))),_,?_,rfl,rfl,rfl⟩))))))))))))
      refine ⟨(by intro i hi; (repeat rw [WF (by omega)]); exact hJ.lo i hi),hJ.hi 128 (by omega),rfl,rfl,?_,hJ.hi 132 (by omega)⟩
      have hb:=VK (P:=H) (k:=H 136) ha ht
      rw [VU]
      exact (if_pos (by omega)).symm
     ·refine Ya rfl (Zk rfl (Ya rfl (YR rfl (Ya rfl (Yc (o':=136) rfl rfl rfl (Ya rfl (Yc (o':=136) rfl rfl rfl (Ya rfl (Yl (x:=H 136) rfl rfl ZO (hJ.hi 136 (by omega)) (Ya rfl (Zq rfl (Zo rfl (Yb (Yi rfl (fun h5=>?_) (fun h5=>?_))))))))))))))) <;> simp only [NM] at h5
      ·refine Ye (Zk rfl (YR rfl (Zx rfl (Yc (o':=131) rfl rfl rfl (Yz rfl rfl rfl rfl (.there (.there (.there .here))) (Yb (⟨_,(.cons _ (.cons _ (.refl _))),_,?_,rfl,rfl,rfl⟩)))))))
       refine ⟨(by intro i hi; (repeat rw [WF (by omega)]); exact hJ.lo i hi),hJ.hi 128 (by omega),rfl,rfl,?_,hJ.hi 132 (by omega)⟩
       have hb:=VK (P:=H) (k:=H 136) ha ht
       rw [VU]
       exact (if_pos (by omega)).symm
      ·refine Yg (⟨_,(.cons _ (.cons _ (.refl _))),_,?_,rfl,rfl,rfl⟩)
       refine ⟨(by intro i hi; (repeat rw [WF (by omega)]); exact hJ.lo i hi),hJ.hi 128 (by omega),rfl,rfl,?_,hJ.hi 132 (by omega)⟩
       have hb:=VK (P:=H) (k:=H 136) ha ht
       rw [VU]
       exact (if_neg (by omega)).symm
    ·obtain ⟨J,hD,k0,k2,rfl⟩:=hI
     refine pH 0 k0 (pH 2 k2 (WE (fun f n L=>∃ (J:Nat→Int),(Done H J (VA H (Y5 H (H 136) (H 133) (H 134)) (H 133) (H 134) (H 136) (H 137) (H 135) (YW (H 136) (H 133) (H 134) (H 137) (H 129))) (VD (H 129) (orM (orM 0 (Xp (H 133))) (Xp (H 134)))) (Un (H 136) (H 133) (H 134) (H 137)) (VU H (H 136) (Y5 H (H 136) (H 133) (H 134))) (Qj H))∧(f 0 = .ptr 0 0 138)∧(f 2 = .ptr 1 0 133)∧(L = [(1,.sc .var 133 (ia fun _=>0)),(0,.sc .var 138 (ia J))])) ?_ (fun f nb L hI=>?_)))
     ·refine Zd (Zk rfl (YR rfl (Zx rfl (Yc (o':=128) rfl rfl rfl (Yl (x:=H 128) rfl rfl ZM (hD.s) (Zq rfl (Yb (Yi rfl (fun h6=>?_) (fun h6=>?_))))))))) <;> simp only [NM] at h6
      ·refine Ye (Zk rfl (Zk rfl (YR rfl (Zx rfl (Yc (o':=132) rfl rfl rfl (Yl (x:=H 132) rfl rfl ZM (hD.f) (T7 rfl rfl (Yq rfl rfl rfl (YR rfl (Zx rfl (Yc (o':=132) rfl rfl rfl (Yz rfl rfl rfl rfl (.there .here) (Yb (⟨_,(.refl _),_,?_,rfl,rfl,rfl⟩))))))))))))))
       refine ⟨(by intro i hi; (repeat rw [WF (by omega)]); exact hD.lo i hi),hD.s,hD.c,hD.o,hD.h,?_⟩
       rw [Qj]
       exact (if_pos (by assumption)).symm
      ·refine Yg (⟨_,(.refl _),_,?_,rfl,rfl,rfl⟩)
       refine ⟨(by intro i hi; (repeat rw [WF (by omega)]); exact hD.lo i hi),hD.s,hD.c,hD.o,hD.h,?_⟩
       rw [Qj]
       exact hD.f.trans (if_neg (by assumption)).symm
     ·obtain ⟨J,hE,k0,k2,rfl⟩:=hI
      refine pH 0 k0 (pH 2 k2 (Zd (Zk rfl (Zk rfl (YR rfl (Zx rfl (Yc (o':=128) rfl rfl rfl (Yl (x:=H 128) rfl rfl ZM (hE.s) (Ys rfl (YF (VH _)) rfl rfl rfl (YR rfl (Zx rfl (Yc (o':=128) rfl rfl rfl (Yz rfl rfl rfl rfl (.there .here) (Ze (Zk rfl (YR rfl (Zx rfl (Yn rfl rfl ZM (Yy rfl rfl rfl rfl .here (Yb (Yh (⟨_,X5 rfl rfl ZL (YS),?_⟩))))))))))))))))))))))
      refine ⟨_,congrArg (fun g=>V.agg 133 (ia g)) (funext fun i=>?_),ZM⟩
      exact done_is hE i
structure HandOf (P m H:Nat→Int):Prop where
 lo:∀ i,i < 129→H i = P i
 c:H 129 = WK P
 hi:∀ i,130≤i→i < 133→H i = P i
 a:H 133 = m 0
 t:H 134 = m 1
 b:H 135 = m 2
 k:H 136 = P (sqI (m 0))
 s:H 137 = P (sqI (m 0)+1)
def wM (P m:Nat→Int):Nat→Int:=ovA (ovA (ovA (fun _=>0) 0 133 P) 133 3 m) 136 2 (dp P (sqI (m 0)))
theorem Jk {P m:Nat→Int} {i:Nat} (h:i < 133):wM P m i = P i:=by
 unfold wM
 rw [WA (by omega),WA (by omega),XR (by omega),Nat.sub_zero]
theorem sf {P m:Nat→Int} (h:0≤P 129∧P 129≤15):HandOf P m (wM P m) :=
 ⟨fun i hi=>Jk (by omega),by rw [Jk (by omega),WK,if_neg (by omega)],fun i _ hi=>Jk hi,rfl,rfl,rfl,rfl,rfl⟩
theorem xC {P m:Nat→Int} (h:P 129 < 0∨15 < P 129):HandOf P m (ov (wM P m) 129 0) :=
 ⟨fun i hi=>by rw [WF (by omega)]; exact Jk (by omega),by rw [WK,if_pos h]; rfl,fun i h1 hi=>by rw [WF (by omega)]; exact Jk hi,rfl,rfl,rfl,rfl,rfl⟩
theorem VI {P:Nat→Int} {a t b:Int} (h:¬ (1≤P (sqI a)∧P (sqI a)≤6∧P (sqI a+1) = P 128∧(P (sqI a+1) = 0∨P (sqI a+1) = 1)∧(if P (sqI a) = 1∧t / 8 = 7*(1 - P (sqI a+1)) then 2≤b∧b≤5 else b = 0))):Xv P a t b = false:=decide_eq_false h
theorem Uv {P:Nat→Int} {a t b:Int} (h:1≤P (sqI a)∧P (sqI a)≤6∧P (sqI a+1) = P 128∧(P (sqI a+1) = 0∨P (sqI a+1) = 1)∧(if P (sqI a) = 1∧t / 8 = 7*(1 - P (sqI a+1)) then 2≤b∧b≤5 else b = 0)):Xv P a t b = true:=decide_eq_true h
theorem ti (P m:Nat→Int):WR AM 95 [.agg 133 (ia P),.agg 3 (ia m)] [] (fun v _ L=>(v = .tup [.pnil,.s (.int .i64 (Wk P (m 0) (m 1) (m 2)))]∧Wk P (m 0) (m 1) (m 2) ≠ 0)∨(Wk P (m 0) (m 1) (m 2) = 0∧∃ b H,v = .tup [.ptr b 0 138,.s (.int .i64 (Wk P (m 0) (m 1) (m 2)))]∧HandOf P m H∧(b,Blk.sc .var 138 (ia H))∈L)):=by
 refine YI (a:=a95) rfl rfl (YH _) (ZP rfl) (m:=0) rfl (Zd (YB rfl (YB rfl (Yp rfl (Yp rfl (Yb (Yd (Zd (Zx rfl (Yl rfl rfl ZL rfl (Ys rfl (Ju _) rfl rfl rfl (Yu (r:=.bool _) rfl rfl (Zj rfl (Yr (t:=13) rfl (fun h7=>?_) (fun h7=>?_))))))))))))))) <;> simp only [NM] at h7
 ·try simp only [isM,decide_eq_true_eq,decide_eq_false_iff_not] at h7
  refine ZD rfl (Zo rfl (Zj rfl (ZD rfl (ZB rfl (Zo rfl (Yb (Zz rfl (Zd (Yp rfl (Yp rfl (Yb (Yh (⟨_,YK (v:=.pnil) rfl (ZK rfl),?_⟩)))))))))))))
  have he:=Uk (P:=P) (a:=m 0) (t:=m 1) (b:=m 2) (by omega)
  rw [he]
  exact .inl ⟨rfl,by decide⟩
 ·try simp only [isM,decide_eq_true_eq,decide_eq_false_iff_not] at h7
  refine Ya rfl (Zy rfl (Ya rfl (Yl rfl rfl ZL rfl (Ya rfl (Ys rfl (Ju _) rfl rfl rfl (Ya rfl (Yu (r:=.bool _) rfl rfl (Zo rfl (Zj rfl (Yr (t:=19) rfl (fun h8=>?_) (fun h8=>?_))))))))))) <;> simp only [NM] at h8
  ·try simp only [isM,decide_eq_true_eq,decide_eq_false_iff_not] at h8
   refine ZD rfl (ZB rfl (Zo rfl (Yb (Zz rfl (Zd (Yp rfl (Yp rfl (Yb (Yh (⟨_,YK (v:=.pnil) rfl (ZK rfl),?_⟩))))))))))
   have he:=Uk (P:=P) (a:=m 0) (t:=m 1) (b:=m 2) (by omega)
   rw [he]
   exact .inl ⟨rfl,by decide⟩
  ·try simp only [isM,decide_eq_true_eq,decide_eq_false_iff_not] at h8
   refine Ya rfl (Zx rfl (Ya rfl (Yl rfl rfl ZL rfl (Ya rfl (Zy rfl (Ya rfl (Yl rfl rfl ZL rfl (Ya rfl (Zq rfl (Zo rfl (Yb (Yi rfl (fun h9=>?_) (fun h9=>?_))))))))))))) <;> simp only [NM] at h9
   ·refine Zd (Yp rfl (Yp rfl (Yb (Yh (⟨_,YK (v:=.pnil) rfl (ZK rfl),?_⟩)))))
    have he:=Uk (P:=P) (a:=m 0) (t:=m 1) (b:=m 2) (by omega)
    rw [he]
    exact .inl ⟨rfl,by decide⟩
   ·refine Yg (Yd (Yf (Yn rfl rfl ZM (Yn rfl rfl ZL (Zx rfl (Yl rfl rfl ZL rfl (Zx rfl (Zv rfl rfl rfl (Yo rfl rfl ZM (YA rfl (.agg rfl (.agg rfl (.agg rfl .nil))) (YB rfl (Zk rfl (Yb (WE (fun f n L=>∃ (H:Nat→Int),(HandOf P m H)∧(0≤m 0∧m 0 < 64)∧(0≤m 1∧m 1 < 64)∧(m 0 ≠ m 1)∧(f 2 = .ptr 0 0 133)∧(f 3 = .ptr 1 0 3)∧(f 6 = .ptr 2 0 138)∧(L = [(2,.sc .var 138 (ia H)),(1,.sc .var 3 (ia m)),(0,.sc .var 133 (ia P))])∧(n = 3)) ?_ (fun f nb L hI=>?_)))))))))))))))
    ·refine Zd (Zk rfl (YR rfl (Zx rfl (Yc (o':=129) rfl rfl rfl (Yl (x:=P 129) rfl rfl ZL (rfl) (Zq rfl (Zj rfl (Yr (t:=41) rfl (fun h10=>?_) (fun h10=>?_))))))))) <;> simp only [NM] at h10
     ·refine ZD rfl (ZC rfl (Zo rfl (Yb (Zz rfl (Ye (Zk rfl (YR rfl (Zx rfl (Yc (o':=129) rfl rfl rfl (Yz rfl rfl rfl rfl .here (Yb (⟨_,(.refl _),_,?_,by omega,by omega,by omega,rfl,rfl,rfl,rfl,rfl⟩))))))))))))
      exact xC (.inl (by assumption))
     ·refine Ya rfl (Zk rfl (Ya rfl (YR rfl (Ya rfl (Zx rfl (Ya rfl (Yc (o':=129) rfl rfl rfl (Ya rfl (Yl (x:=P 129) rfl rfl ZL (rfl) (Ya rfl (Zq rfl (Zo rfl (Yb (Yi rfl (fun h11=>?_) (fun h11=>?_))))))))))))))) <;> simp only [NM] at h11
      ·refine Ye (Zk rfl (YR rfl (Zx rfl (Yc (o':=129) rfl rfl rfl (Yz rfl rfl rfl rfl .here (Yb (⟨_,(.refl _),_,?_,by omega,by omega,by omega,rfl,rfl,rfl,rfl,rfl⟩)))))))
       exact xC (.inr (by assumption))
      ·refine Yg (⟨_,(.refl _),_,?_,by omega,by omega,by omega,rfl,rfl,rfl,rfl,rfl⟩)
       exact sf ⟨by omega,by omega⟩
    ·obtain ⟨H,hH,ha,ht,hat,k2,k3,k6,rfl,rfl⟩:=hI
     refine pH 2 k2 (pH 3 k3 (pH 6 k6 (Zd (Zk rfl (YR rfl (Yc (o':=136) rfl rfl rfl (Yo rfl rfl ZL (Yx (Yy rfl rfl rfl rfl .here (Yb (Yd (Zd (Zx rfl (Yl (x:=P (sqI (m 0))) rfl rfl ZL (hH.k) (Zq rfl (Zj rfl (Yr (t:=60) rfl (fun h12=>?_) (fun h12=>?_)))))))))))))))))) <;> simp only [NM] at h12
     ·refine ZC rfl (ZB rfl (Zo rfl (Zj rfl (ZD rfl (ZB rfl (Zo rfl (Zj rfl (ZD rfl (YG rfl (YG rfl (YG rfl (ZB rfl (Zo rfl (Yb (Zz rfl (Zd (Yp rfl (Yp rfl (Yb (Yh (⟨_,YK (v:=.pnil) rfl (ZK rfl),?_⟩)))))))))))))))))))))
      have hh:Xv P (m 0) (m 1) (m 2) = false:=VI (by first | omega | (split <;> omega))
      have he:=Wf (by omega) hh
      rw [he]
      exact .inl ⟨rfl,by decide⟩
     ·refine Ya rfl (Zx rfl (Ya rfl (Yl (x:=P (sqI (m 0))) rfl rfl ZL (hH.k) (Ya rfl (Zq rfl (Zo rfl (Zj rfl (Yr (t:=65) rfl (fun h13=>?_) (fun h13=>?_))))))))) <;> simp only [NM] at h13
      ·refine ZD rfl (ZB rfl (Zo rfl (Zj rfl (ZD rfl (YG rfl (YG rfl (YG rfl (ZB rfl (Zo rfl (Yb (Zz rfl (Zd (Yp rfl (Yp rfl (Yb (Yh (⟨_,YK (v:=.pnil) rfl (ZK rfl),?_⟩)))))))))))))))))
       have hh:Xv P (m 0) (m 1) (m 2) = false:=VI (by first | omega | (split <;> omega))
       have he:=Wf (by omega) hh
       rw [he]
       exact .inl ⟨rfl,by decide⟩
      ·refine Ya rfl (Zy rfl (Ya rfl (Yl (x:=P (sqI (m 0)+1)) rfl rfl ZL (hH.s) (Ya rfl (Yc (o':=128) rfl rfl rfl (Ya rfl (Yl rfl rfl ZO rfl (Ya rfl (Zq rfl (Zo rfl (Zj rfl (Yr (t:=72) rfl (fun h14=>?_) (fun h14=>?_))))))))))))) <;> simp only [NM] at h14
       ·refine ZD rfl (YG rfl (YG rfl (YG rfl (ZB rfl (Zo rfl (Yb (Zz rfl (Zd (Yp rfl (Yp rfl (Yb (Yh (⟨_,YK (v:=.pnil) rfl (ZK rfl),?_⟩)))))))))))))
        have hh:Xv P (m 0) (m 1) (m 2) = false:=VI (by first | omega | (split <;> omega))
        have he:=Wf (by omega) hh
        rw [he]
        exact .inl ⟨rfl,by decide⟩
       ·refine Ya rfl (Zy rfl (Ya rfl (Yl (x:=P (sqI (m 0)+1)) rfl rfl ZL (hH.s) (Ya rfl (Zq rfl (Ya rfl (Zj rfl (Yr (t:=76) rfl (fun h15=>?_) (fun h15=>?_))))))))) <;> simp only [NM] at h15
        ·refine Ya rfl (Zy rfl (Ya rfl (Yl (x:=P (sqI (m 0)+1)) rfl rfl ZL (hH.s) (Ya rfl (Zq rfl (Ya rfl (Zo rfl (Zo rfl (Yb (Yi rfl (fun h16=>?_) (fun h16=>?_))))))))))) <;> simp only [NM] at h16
         ·refine Zd (Yp rfl (Yp rfl (Yb (Yh (⟨_,YK (v:=.pnil) rfl (ZK rfl),?_⟩)))))
          have hh:Xv P (m 0) (m 1) (m 2) = false:=VI (by first | omega | (split <;> omega))
          have he:=Wf (by omega) hh
          rw [he]
          exact .inl ⟨rfl,by decide⟩
         ·refine Yg (Yd (Yf (Zx rfl (Yl (x:=P (sqI (m 0))) rfl rfl ZL (hH.k) (Zq rfl (Zj rfl (Yr (t:=85) rfl (fun h17=>?_) (fun h17=>?_)))))))) <;> simp only [NM] at h17
          ·refine Ya rfl (Zy rfl (Ya rfl (Yl rfl rfl ZN rfl (Ya rfl (Yt rfl (Rs (by omega)) rfl rfl rfl (Ya rfl (Zy rfl (Ya rfl (Yl (x:=P (sqI (m 0)+1)) rfl rfl ZL (hH.s) (Ya rfl (Zs rfl rfl (Ya rfl (X9 rfl rfl (by omega) (Ya rfl (Zq rfl (Zo rfl (Zj rfl (Yb (Yd (Zd (Zj rfl (Zj rfl (Yr (t:=96) rfl (fun h18=>?_) (fun h18=>?_)))))))))))))))))))))))) <;> simp only [NM] at h18
           ·refine Ya rfl (Yc (o':=2) rfl rfl rfl (Ya rfl (Yl rfl rfl ZN rfl (Ya rfl (Zq rfl (Ya rfl (Zj rfl (Yr (t:=100) rfl (fun h19=>?_) (fun h19=>?_))))))))) <;> simp only [NM] at h19
            ·refine ZC rfl (ZB rfl (Ya rfl (Zo rfl (Zo rfl (Zj rfl (ZC rfl (ZB rfl (YG rfl (YG rfl (YG rfl (ZB rfl (Zo rfl (Yb (Zz rfl (Zd (Yp rfl (Yp rfl (Yb (Yh (⟨_,YK (v:=.pnil) rfl (ZK rfl),?_⟩))))))))))))))))))))
             have hh:Xv P (m 0) (m 1) (m 2) = false:=VI (by first | omega | (split <;> omega))
             have he:=Wf (by omega) hh
             rw [he]
             exact .inl ⟨rfl,by decide⟩
            ·refine Ya rfl (Yc (o':=2) rfl rfl rfl (Ya rfl (Yl rfl rfl ZN rfl (Ya rfl (Zq rfl (Ya rfl (Zo rfl (Zo rfl (Zj rfl (Yr (t:=106) rfl (fun h20=>?_) (fun h20=>?_))))))))))) <;> simp only [NM] at h20
             ·refine ZC rfl (ZB rfl (YG rfl (YG rfl (YG rfl (ZB rfl (Zo rfl (Yb (Zz rfl (Zd (Yp rfl (Yp rfl (Yb (Yh (⟨_,YK (v:=.pnil) rfl (ZK rfl),?_⟩))))))))))))))
              have hh:Xv P (m 0) (m 1) (m 2) = false:=VI (by first | omega | (split <;> omega))
              have he:=Wf (by omega) hh
              rw [he]
              exact .inl ⟨rfl,by decide⟩
             ·refine Ya rfl (Zj rfl (Ya rfl (Yu (r:=.bool _) rfl rfl (Ya rfl (Zj rfl (Yr (t:=109) rfl (fun h21=>?_) (fun h21=>?_))))))) <;> simp only [NM] at h21
              ·refine Ya rfl (Yc (o':=2) rfl rfl rfl (Ya rfl (Yl rfl rfl ZN rfl (Ya rfl (Zq rfl (Ya rfl (Zo rfl (Zo rfl (Yb (Yi rfl (fun h22=>?_) (fun h22=>?_))))))))))) <;> simp only [NM] at h22
               ·refine Zd (Yp rfl (Yp rfl (Yb (Yh (⟨_,YK (v:=.pnil) rfl (ZK rfl),?_⟩)))))
                have hh:Xv P (m 0) (m 1) (m 2) = false:=VI (by first | omega | (split <;> omega))
                have he:=Wf (by omega) hh
                rw [he]
                exact .inl ⟨rfl,by decide⟩
               ·refine Yg (Zd (Zk rfl (Zk rfl (Yp rfl (Yb (Yh (⟨_,YK (v:=.ptr _ _ _) rfl (ZK rfl),?_⟩)))))))
                have hh:Xv P (m 0) (m 1) (m 2) = true:=Uv (by refine ⟨by omega,by omega,by omega,by omega,?_⟩; first | omega | (split <;> omega))
                have he:=W8 (by omega) hh
                rw [he]
                exact .inr ⟨rfl,_,H,rfl,hH,ZM⟩
              ·refine ZC rfl (ZB rfl (Ya rfl (Zo rfl (Zo rfl (Yb (ZA rfl (Yg (Zd (Zk rfl (Zk rfl (Yp rfl (Yb (Yh (⟨_,YK (v:=.ptr _ _ _) rfl (ZK rfl),?_⟩))))))))))))))
               have hh:Xv P (m 0) (m 1) (m 2) = true:=Uv (by refine ⟨by omega,by omega,by omega,by omega,?_⟩; first | omega | (split <;> omega))
               have he:=W8 (by omega) hh
               rw [he]
               exact .inr ⟨rfl,_,H,rfl,hH,ZM⟩
           ·refine ZD rfl (YG rfl (YG rfl (YG rfl (ZB rfl (Zo rfl (Zj rfl (Ya rfl (Zj rfl (Ya rfl (Yu (r:=.bool _) rfl rfl (Ya rfl (Zj rfl (Yr (t:=109) rfl (fun h23=>?_) (fun h23=>?_)))))))))))))) <;> simp only [NM] at h23
            ·refine Ya rfl (Yc (o':=2) rfl rfl rfl (Ya rfl (Yl rfl rfl ZN rfl (Ya rfl (Zq rfl (Ya rfl (Zo rfl (Zo rfl (Yb (Yi rfl (fun h24=>?_) (fun h24=>?_))))))))))) <;> simp only [NM] at h24
             ·refine Zd (Yp rfl (Yp rfl (Yb (Yh (⟨_,YK (v:=.pnil) rfl (ZK rfl),?_⟩)))))
              have hh:Xv P (m 0) (m 1) (m 2) = false:=VI (by first | omega | (split <;> omega))
              have he:=Wf (by omega) hh
              rw [he]
              exact .inl ⟨rfl,by decide⟩
             ·refine Yg (Zd (Zk rfl (Zk rfl (Yp rfl (Yb (Yh (⟨_,YK (v:=.ptr _ _ _) rfl (ZK rfl),?_⟩)))))))
              have hh:Xv P (m 0) (m 1) (m 2) = true:=Uv (by refine ⟨by omega,by omega,by omega,by omega,?_⟩; first | omega | (split <;> omega))
              have he:=W8 (by omega) hh
              rw [he]
              exact .inr ⟨rfl,_,H,rfl,hH,ZM⟩
            ·refine ZC rfl (ZB rfl (Ya rfl (Zo rfl (Zo rfl (Yb (ZA rfl (Yg (Zd (Zk rfl (Zk rfl (Yp rfl (Yb (Yh (⟨_,YK (v:=.ptr _ _ _) rfl (ZK rfl),?_⟩))))))))))))))
             have hh:Xv P (m 0) (m 1) (m 2) = true:=Uv (by refine ⟨by omega,by omega,by omega,by omega,?_⟩; first | omega | (split <;> omega))
             have he:=W8 (by omega) hh
             rw [he]
             exact .inr ⟨rfl,_,H,rfl,hH,ZM⟩
          ·refine ZE rfl (Zo rfl (Zj rfl (Yb (Yd (Zd (Zj rfl (Zj rfl (ZD rfl (YG rfl (YG rfl (YG rfl (ZB rfl (Zo rfl (Zj rfl (Ya rfl (Zj rfl (Ya rfl (Yu (r:=.bool _) rfl rfl (Ya rfl (Zj rfl (Ya rfl (Yc (o':=2) rfl rfl rfl (Ya rfl (Yl rfl rfl ZN rfl (Ya rfl (Zq rfl (Ya rfl (Zo rfl (Zo rfl ?_)))))))))))))))))))))))))))))
           refine Yb (Yi rfl (fun h25=>?_) (fun h25=>?_)) <;> simp only [NM] at h25
           ·refine Zd (Yp rfl (Yp rfl (Yb (Yh (⟨_,YK (v:=.pnil) rfl (ZK rfl),?_⟩)))))
            have hh:Xv P (m 0) (m 1) (m 2) = false:=VI (by first | omega | (split <;> omega))
            have he:=Wf (by omega) hh
            rw [he]
            exact .inl ⟨rfl,by decide⟩
           ·refine Yg (Zd (Zk rfl (Zk rfl (Yp rfl (Yb (Yh (⟨_,YK (v:=.ptr _ _ _) rfl (ZK rfl),?_⟩)))))))
            have hh:Xv P (m 0) (m 1) (m 2) = true:=Uv (by refine ⟨by omega,by omega,by omega,by omega,?_⟩; first | omega | (split <;> omega))
            have he:=W8 (by omega) hh
            rw [he]
            exact .inr ⟨rfl,_,H,rfl,hH,ZM⟩
        ·refine ZC rfl (ZB rfl (Ya rfl (Zo rfl (Zo rfl (Yb (ZA rfl (Yg (Yd (Yf (Zx rfl (Yl (x:=P (sqI (m 0))) rfl rfl ZL (hH.k) (Zq rfl (Zj rfl (Yr (t:=85) rfl (fun h26=>?_) (fun h26=>?_))))))))))))))) <;> simp only [NM] at h26
         ·refine Ya rfl (Zy rfl (Ya rfl (Yl rfl rfl ZN rfl (Ya rfl (Yt rfl (Rs (by omega)) rfl rfl rfl (Ya rfl (Zy rfl (Ya rfl (Yl (x:=P (sqI (m 0)+1)) rfl rfl ZL (hH.s) (Ya rfl (Zs rfl rfl (Ya rfl (X9 rfl rfl (by omega) (Ya rfl (Zq rfl (Zo rfl (Zj rfl (Yb (Yd (Zd (Zj rfl (Zj rfl (Yr (t:=96) rfl (fun h27=>?_) (fun h27=>?_)))))))))))))))))))))))) <;> simp only [NM] at h27
          ·refine Ya rfl (Yc (o':=2) rfl rfl rfl (Ya rfl (Yl rfl rfl ZN rfl (Ya rfl (Zq rfl (Ya rfl (Zj rfl (Yr (t:=100) rfl (fun h28=>?_) (fun h28=>?_))))))))) <;> simp only [NM] at h28
           ·refine ZC rfl (ZB rfl (Ya rfl (Zo rfl (Zo rfl (Zj rfl (ZC rfl (ZB rfl (YG rfl (YG rfl (YG rfl (ZB rfl (Zo rfl (Yb (Zz rfl (Zd (Yp rfl (Yp rfl (Yb (Yh (⟨_,YK (v:=.pnil) rfl (ZK rfl),?_⟩))))))))))))))))))))
            have hh:Xv P (m 0) (m 1) (m 2) = false:=VI (by first | omega | (split <;> omega))
            have he:=Wf (by omega) hh
            rw [he]
            exact .inl ⟨rfl,by decide⟩
           ·refine Ya rfl (Yc (o':=2) rfl rfl rfl (Ya rfl (Yl rfl rfl ZN rfl (Ya rfl (Zq rfl (Ya rfl (Zo rfl (Zo rfl (Zj rfl (Yr (t:=106) rfl (fun h29=>?_) (fun h29=>?_))))))))))) <;> simp only [NM] at h29
            ·refine ZC rfl (ZB rfl (YG rfl (YG rfl (YG rfl (ZB rfl (Zo rfl (Yb (Zz rfl (Zd (Yp rfl (Yp rfl (Yb (Yh (⟨_,YK (v:=.pnil) rfl (ZK rfl),?_⟩))))))))))))))
             have hh:Xv P (m 0) (m 1) (m 2) = false:=VI (by first | omega | (split <;> omega))
             have he:=Wf (by omega) hh
             rw [he]
             exact .inl ⟨rfl,by decide⟩
            ·refine Ya rfl (Zj rfl (Ya rfl (Yu (r:=.bool _) rfl rfl (Ya rfl (Zj rfl (Yr (t:=109) rfl (fun h30=>?_) (fun h30=>?_))))))) <;> simp only [NM] at h30
             ·refine Ya rfl (Yc (o':=2) rfl rfl rfl (Ya rfl (Yl rfl rfl ZN rfl (Ya rfl (Zq rfl (Ya rfl (Zo rfl (Zo rfl (Yb (Yi rfl (fun h31=>?_) (fun h31=>?_))))))))))) <;> simp only [NM] at h31
              ·refine Zd (Yp rfl (Yp rfl (Yb (Yh (⟨_,YK (v:=.pnil) rfl (ZK rfl),?_⟩)))))
               have hh:Xv P (m 0) (m 1) (m 2) = false:=VI (by first | omega | (split <;> omega))
               have he:=Wf (by omega) hh
               rw [he]
               exact .inl ⟨rfl,by decide⟩
              ·refine Yg (Zd (Zk rfl (Zk rfl (Yp rfl (Yb (Yh (⟨_,YK (v:=.ptr _ _ _) rfl (ZK rfl),?_⟩)))))))
               have hh:Xv P (m 0) (m 1) (m 2) = true:=Uv (by refine ⟨by omega,by omega,by omega,by omega,?_⟩; first | omega | (split <;> omega))
               have he:=W8 (by omega) hh
               rw [he]
               exact .inr ⟨rfl,_,H,rfl,hH,ZM⟩
             ·refine ZC rfl (ZB rfl (Ya rfl (Zo rfl (Zo rfl (Yb (ZA rfl (Yg (Zd (Zk rfl (Zk rfl (Yp rfl (Yb (Yh (⟨_,YK (v:=.ptr _ _ _) rfl (ZK rfl),?_⟩))))))))))))))
              have hh:Xv P (m 0) (m 1) (m 2) = true:=Uv (by refine ⟨by omega,by omega,by omega,by omega,?_⟩; first | omega | (split <;> omega))
              have he:=W8 (by omega) hh
              rw [he]
              exact .inr ⟨rfl,_,H,rfl,hH,ZM⟩
          ·refine ZD rfl (YG rfl (YG rfl (YG rfl (ZB rfl (Zo rfl (Zj rfl (Ya rfl (Zj rfl (Ya rfl (Yu (r:=.bool _) rfl rfl (Ya rfl (Zj rfl (Yr (t:=109) rfl (fun h32=>?_) (fun h32=>?_)))))))))))))) <;> simp only [NM] at h32
           ·refine Ya rfl (Yc (o':=2) rfl rfl rfl (Ya rfl (Yl rfl rfl ZN rfl (Ya rfl (Zq rfl (Ya rfl (Zo rfl (Zo rfl (Yb (Yi rfl (fun h33=>?_) (fun h33=>?_))))))))))) <;> simp only [NM] at h33
            ·refine Zd (Yp rfl (Yp rfl (Yb (Yh (⟨_,YK (v:=.pnil) rfl (ZK rfl),?_⟩)))))
             have hh:Xv P (m 0) (m 1) (m 2) = false:=VI (by first | omega | (split <;> omega))
             have he:=Wf (by omega) hh
             rw [he]
             exact .inl ⟨rfl,by decide⟩
            ·refine Yg (Zd (Zk rfl (Zk rfl (Yp rfl (Yb (Yh (⟨_,YK (v:=.ptr _ _ _) rfl (ZK rfl),?_⟩)))))))
             have hh:Xv P (m 0) (m 1) (m 2) = true:=Uv (by refine ⟨by omega,by omega,by omega,by omega,?_⟩; first | omega | (split <;> omega))
             have he:=W8 (by omega) hh
             rw [he]
             exact .inr ⟨rfl,_,H,rfl,hH,ZM⟩
           ·refine ZC rfl (ZB rfl (Ya rfl (Zo rfl (Zo rfl (Yb (ZA rfl (Yg (Zd (Zk rfl (Zk rfl (Yp rfl (Yb (Yh (⟨_,YK (v:=.ptr _ _ _) rfl (ZK rfl),?_⟩))))))))))))))
            have hh:Xv P (m 0) (m 1) (m 2) = true:=Uv (by refine ⟨by omega,by omega,by omega,by omega,?_⟩; first | omega | (split <;> omega))
            have he:=W8 (by omega) hh
            rw [he]
            exact .inr ⟨rfl,_,H,rfl,hH,ZM⟩
         ·refine ZE rfl (Zo rfl (Zj rfl (Yb (Yd (Zd (Zj rfl (Zj rfl (ZD rfl (YG rfl (YG rfl (YG rfl (ZB rfl (Zo rfl (Zj rfl (Ya rfl (Zj rfl (Ya rfl (Yu (r:=.bool _) rfl rfl (Ya rfl (Zj rfl (Ya rfl (Yc (o':=2) rfl rfl rfl (Ya rfl (Yl rfl rfl ZN rfl (Ya rfl (Zq rfl (Ya rfl (Zo rfl (Zo rfl ?_)))))))))))))))))))))))))))))
          refine Yb (Yi rfl (fun h34=>?_) (fun h34=>?_)) <;> simp only [NM] at h34
          ·refine Zd (Yp rfl (Yp rfl (Yb (Yh (⟨_,YK (v:=.pnil) rfl (ZK rfl),?_⟩)))))
           have hh:Xv P (m 0) (m 1) (m 2) = false:=VI (by first | omega | (split <;> omega))
           have he:=Wf (by omega) hh
           rw [he]
           exact .inl ⟨rfl,by decide⟩
          ·refine Yg (Zd (Zk rfl (Zk rfl (Yp rfl (Yb (Yh (⟨_,YK (v:=.ptr _ _ _) rfl (ZK rfl),?_⟩)))))))
           have hh:Xv P (m 0) (m 1) (m 2) = true:=Uv (by refine ⟨by omega,by omega,by omega,by omega,?_⟩; first | omega | (split <;> omega))
           have he:=W8 (by omega) hh
           rw [he]
           exact .inr ⟨rfl,_,H,rfl,hH,ZM⟩
theorem xT {P:Nat→Int} {a t b:Int} (h:Wk P a t b = 0):((0≤a∧a < 64)∧(0≤t∧t < 64)∧a ≠ t)∧Xv P a t b = true:=by
 unfold Wk at h
 split at h
 ·rename_i h1
  split at h
  ·rename_i h2; exact ⟨h1,h2⟩
  ·omega
 ·omega
theorem Ef {P:Nat→Int} {a t b:Int} (h:Xv P a t b = true):P (sqI a+1) = 0∨P (sqI a+1) = 1:=(of_decide_eq_true h).2.2.2.1
theorem Jc:ovA (fun _=>0) 0 133 (fun _=>0) = (fun _=>0:Nat→Int):=by
 funext i
 by_cases h:i < 133
 ·rw [XR (by omega)]
 ·rw [WA (by omega)]
theorem JA {Q:Nat→Int} (h:∀ i,133≤i→Q i = 0):ovA (fun _=>0) 0 133 Q = Q:=by
 funext i
 by_cases hi:i < 133
 ·rw [XR (by omega),Nat.sub_zero]
 ·rw [WA (by omega),h i (by omega)]
theorem zk {P:Nat→Int} {k c a t b C:Int} {i:Nat} (hi:133≤i):V6 P k c a t b C i = 0:=by
 unfold V6
 rw [if_neg (by omega),if_neg (by omega),if_neg (by omega),if_neg (by omega),if_neg (by omega),if_neg (by omega)]
theorem x6 {P:Nat→Int} {a t b:Int} {i:Nat} (hi:133≤i):XI P a t b i = 0:=by
 unfold XI
 split
 ·exact zk hi
 ·rfl
theorem rr {P Q:Nat→Int} {w a t k c b g:Int} (h:∀ i,i < 128→P i = Q i):∀ i,i < 128→VA P w a t k c b g i = VA Q w a t k c b g i:=by
 have h1:∀ i,i < 128→T1 P w i = T1 Q w i:=by
  unfold T1
  split
  ·exact Ug h fun _ _=>rfl
  ·exact h
 have h3:∀ i,i < 128→Tt P w a t k c b i = Tt Q w a t k c b i:=Ug (Ug h1 fun _ _=>rfl) fun _ _=>rfl
 unfold VA
 split
 ·exact Ug (Ug h3 fun _ _=>rfl) fun _ _=>rfl
 ·split
  ·exact Ug (Ug h3 fun _ _=>rfl) fun _ _=>rfl
  ·exact h3
theorem jF {P Q:Nat→Int} {k c a t b C:Int} (ha:0≤a∧a < 64) (ht:0≤t∧t < 64) (h:∀ i,i < 133→i ≠ 129→P i = Q i):V6 P k c a t b C = V6 Q k c a t b C:=by
 funext i
 have ht2:Y5 P k a t = Y5 Q k a t:=jO ha ht (fun i hi=>h i (by omega) (by omega)) (h 130 (by omega) (by omega))
 unfold V6
 rw [ht2]
 by_cases h1:i < 128
 ·rw [if_pos h1,if_pos h1]
  exact rr (fun i hi=>h i (by omega) (by omega)) i h1
 ·rw [if_neg h1,if_neg h1,h 128 (by omega) (by omega)]
  have hh:VU P k (Y5 Q k a t) = VU Q k (Y5 Q k a t):=by unfold VU; rw [h 131 (by omega) (by omega)]
  have hf:Qj P = Qj Q:=by unfold Qj; rw [h 128 (by omega) (by omega),h 132 (by omega) (by omega)]
  rw [hh,hf]
theorem HandOf.all {P m H:Nat→Int} (h:HandOf P m H):∀ i,i < 133→i ≠ 129→H i = P i:=fun i hi hn=>by
 by_cases hl:i < 129
 ·exact h.lo i hl
 ·exact h.hi i (by omega) hi
theorem vW {P m H:Nat→Int} (h:HandOf P m H) (he:Wk P (m 0) (m 1) (m 2) = 0):ovA (fun _=>0) 0 133 (V6 H (H 136) (H 137) (H 133) (H 134) (H 135) (H 129)) = XI P (m 0) (m 1) (m 2):=by
 have ⟨hs,_⟩:=xT he
 rw [JA (fun i hi=>zk hi),h.a,h.t,h.b,h.k,h.s,h.c,XI,if_pos he]
 exact jF hs.1 hs.2.1 h.all
theorem rO (P m:Nat→Int):(Wk P (m 0) (m 1) (m 2) ≠ 0∧RF AM 95 [.agg 133 (ia P),.agg 3 (ia m)] (.tup [.pnil,.s (.int .i64 (Wk P (m 0) (m 1) (m 2)))])) ∨
  (Wk P (m 0) (m 1) (m 2) = 0∧∃ H,HandOf P m H∧RN AM 95 [.agg 133 (ia P),.agg 3 (ia m)] [] (fun b=>.tup [.ptr b 0 138,.s (.int .i64 0)]) (.sc .var 138 (ia H)) []):=by
 obtain ⟨v,σ',n',L',h1,h2,h3⟩:=ti P m
 rcases h3 with ⟨rfl,he⟩ | ⟨he,b,H,rfl,hH,hm⟩
 ·exact .inl ⟨he,σ',h1⟩
 ·rw [he] at h1
  exact .inr ⟨he,H,hH,b,σ',h1,Nat.zero_le _,(h2.2.mem hm).2,trivial⟩
theorem made_ex {P m H:Nat→Int} (h:HandOf P m H) (he:Wk P (m 0) (m 1) (m 2) = 0):∃ J,RB AM 96 [.ptr 0 0 138] [.sc .var 138 (ia H)] (.agg 133 (ia (V6 H (H 136) (H 137) (H 133) (H 134) (H 135) (H 129)))) [.sc .var 138 (ia J)]:=by
 have ⟨hs,hc⟩:=xT he
 obtain ⟨v,σ',n',L',h1,h2,J,rfl,hm⟩:=pC H (by rw [h.a]; exact hs.1) (by rw [h.t]; exact hs.2.1) (by rw [h.s]; exact Ef hc) (by rw [h.c]; exact Tp P)
 exact ⟨J,σ',h1,(h2.2.mem hm).2,⟨_,_,_,rfl⟩,trivial⟩
theorem sr (P m:Nat→Int):WR AM 71 [.agg 133 (ia P),.agg 3 (ia m)] [] (fun v _ _=>v = .tup [.agg 133 (ia (XI P (m 0) (m 1) (m 2))),.s (.int .i64 (Wk P (m 0) (m 1) (m 2)))]):=by
 refine YI (a:=a71) rfl rfl (YH _) (ZP rfl) (m:=0) rfl (Zd (YB rfl (YB rfl (Yx (Yp rfl (Ze (Yn rfl rfl ZN (Yn rfl rfl ZM ?_))))))))
 rcases rO P m with ⟨he,hT⟩ | ⟨he,H,hH,hT⟩
 ·refine Ys rfl (hT) rfl rfl rfl (Zn rfl (YC (v:=.pnil) rfl rfl (YC (v:=.s (.int _ _)) rfl rfl (Yp (v:=.pnil) rfl (Zi rfl (Yb (Yd (Zd (Zi rfl (Zq rfl (Yb (Yi rfl (fun h1=>?_) (fun h1=>?_))))))))))))) <;> simp only [NM] at h1
  ·refine Zd (YA rfl .nil (Zi rfl (Yy rfl rfl rfl rfl .here (Zi rfl (Yb (Yh (⟨_,X5 rfl rfl ZL (ZK rfl),?_⟩)))))))
   rw [XI,if_neg he]
   exact congrArg (fun g=>V.tup [V.agg 133 (ia g),V.s (.int .i64 (Wk P (m 0) (m 1) (m 2)))]) Jc
  ·exfalso; first | omega | (simp at h1)
 ·refine TI (mk:=fun b=>.tup [.ptr b 0 138,.s (.int .i64 0)]) (rs:=[]) (Bs:=[]) rj rfl hT rfl rfl (YE rfl) (fun _ h=>h) rfl trivial rfl rfl .nil (Zn rfl (YC (v:=.ptr _ _ _) rfl rfl (YC (v:=.s (.int _ _)) rfl rfl (Zk rfl (Zi rfl (Yb (Yd (Zd (Zi rfl (Zq rfl (Yb (Yi rfl (fun h2=>?_) (fun h2=>?_))))))))))))) <;> simp only [NM] at h2
  ·exfalso; first | omega | (simp at h2)
  ·refine Yg (Zd (Zk rfl ?_))
   obtain ⟨J,hJ⟩:=made_ex hH he
   refine Q9 rfl (hJ) rfl rfl rfl .here (Yy rfl rfl rfl rfl (.there .here) (Yp rfl (Yb (Yh (⟨_,X5 rfl rfl ZM (ZK rfl),?_⟩)))))
   rw [he,← vW hH he]
   rfl
structure SameP (P J B:Nat→Int):Prop where
 lo:∀ i,i < 128→J i = B i
 hi:∀ i,128≤i→i < 133→J i = P i
theorem SameP.put {P J B X Y:Nat→Int} {t:Int} (j:SameP P J B) (ht:0≤t∧t < 64) (hx:∀ i,i < 2→X i = Y i):SameP P (ovA J (0+t.toNat*2) 2 X) (ovA B (sqI t) 2 Y) :=
 ⟨Ug j.lo hx,fun i h1 h2=>by rw [WA (by omega)]; exact j.hi i h1 h2⟩
theorem SameP.kind {P J B X Y:Nat→Int} {t b:Int} (j:SameP P (ovA J (0+t.toNat*2) 2 X) (ovA B (sqI t) 2 X)) (ht:0≤t∧t < 64) (h0:Y 0 = b) (h1:Y 1 = X 1):SameP P (ov (ovA J (0+t.toNat*2) 2 X) (0+t.toNat*2+0) b) (ovA B (sqI t) 2 Y):=by
 have hsq:sqI t = 0+t.toNat*2:=rfl
 refine ⟨fun i hi=>?_,fun i h1 h2=>by rw [WF (by omega)]; exact j.hi i h1 h2⟩
 have hj:=j.lo i hi
 by_cases q:i = 0+t.toNat*2+0
 ·subst q
  rw [XR (by omega),show 0+t.toNat*2+0 - sqI t = 0 from by show 0+t.toNat*2+0 - (0+t.toNat*2) = 0; omega,h0]
  show (bif Nat.beq _ _ then b else _) = b
  rw [show Nat.beq (0+t.toNat*2+0) (0+t.toNat*2+0) = true from by simp]
  rfl
 ·rw [WF q,hj]
  by_cases r:sqI t≤i∧i < sqI t+2
  ·have e:i - sqI t = 1:=by
    have:sqI t = 0+t.toNat*2:=rfl
    omega
   rw [XR r,XR r,e,h1]
  ·rw [WA (by omega),WA (by omega)]
structure DoneP (P J B:Nat→Int) (s cs ovr hf fl:Int):Prop where
 lo:∀ i,i < 128→J i = B i
 s:J 128 = s
 c:J 129 = cs
 o:J 130 = ovr
 h:J 131 = hf
 f:J 132 = fl
def X8 (P:Nat→Int) (a t:Int):Bool:=decide (P (sqI a) = 6∧(t - a = 2∨t - a = -2))
def zF (P:Nat→Int) (l:List Int):Bool:=!(l.any (Vx P (Y0 (P 128))))
def XG (P:Nat→Int):Bool:=Vq P && !Xu P (Y0 (P 128))
theorem qm (P m:Nat→Int) (ha:0≤m 0∧m 0 < 64) (ht:0≤m 1∧m 1 < 64):WR AM 69 [.agg 133 (ia P),.agg 3 (ia m)] [] (fun v _ _=>v = .s (.bool (X8 P (m 0) (m 1)))):=by
 refine YI (a:=a69) rfl rfl (YH _) (ZP rfl) (m:=0) rfl (Zd (YB rfl (YB rfl (Yp rfl (Ze (Zy rfl (Yl rfl rfl ZL rfl (Zx rfl (Yl rfl rfl ZL rfl (Zs rfl rfl (Zi rfl (Ze (Zx rfl (Yl rfl rfl ZL rfl (Zx rfl (Zx rfl (Zv rfl rfl rfl (Yc rfl rfl rfl (Yl (x:=P (sqI (m 0))) rfl rfl ZM (congrArg P (by have hq:sqI (m 0) = 0+(m 0).toNat*2:=rfl; omega)) (Zq rfl (Zj rfl (Yr (t:=19) rfl (fun h1=>?_) (fun h1=>?_))))))))))))))))))))))) <;> simp only [NM] at h1
 ·refine Ya rfl (Zi rfl (Ya rfl (Zq rfl (Ya rfl (Zj rfl (Yr (t:=22) rfl (fun h2=>?_) (fun h2=>?_))))))) <;> simp only [NM] at h2
  ·refine ZC rfl (Ya rfl (Zo rfl (Zo rfl (Zj rfl (Zf rfl ?_)))))
   unfold X8
   (rw [decide_eq_true (by omega)]; rfl)
  ·refine Ya rfl (Zi rfl (Ya rfl (Zq rfl (Ya rfl (Zo rfl (Zo rfl (Zj rfl (Zf rfl ?_))))))))
   unfold X8
   (refine congrArg (fun b=>V.s (.bool b)) ?_; rw [Bool.eq_iff_iff]; simp only [beq_iff_eq,decide_eq_true_eq]; omega)
 ·refine ZC rfl (ZB rfl (YG rfl (YG rfl (ZB rfl (Zo rfl (Zj rfl (Zf rfl ?_)))))))
  unfold X8
  (rw [decide_eq_false (by omega)]; rfl)
theorem Zaz (P:Nat→Int) (l:List Int) (hlen:l.length≤1000000):RdR AM 70 1 [.agg 133 (ia P)] [] l (.s (.bool (zF P l))):=by
 refine ER fun v Bs hc=>?_
 refine YI (a:=a70) rfl rfl (YH _) (ZP rfl) rfl ?_ (by first | rfl | (cases hc <;> rfl))
 have hr0:=hc.rx
 rw [show Xj 0 Bs = Xj 0 Bs++[] from (List.append_nil _).symm]
 generalize hown:Xj 0 Bs = own0 at hr0 ⊢
 refine Zd (YB rfl (Yp rfl (Yb (Yd (Yf (Zx rfl (Yn rfl rfl ZL (Zx rfl (Yc (o':=128) rfl rfl rfl (Yl rfl rfl ZL rfl (Yt rfl (YF (VH _)) rfl rfl rfl (Yp (v:=v) rfl (VF (caps:=[]) rfl (kY P (Y0 (P 128)) l hlen) rfl (hr0) (fun _ h=>(.tail _ (List.mem_append_left _ h))) rfl rfl rfl (Yu (r:=.bool _) rfl rfl (Zj rfl (Zf rfl ?_))))))))))))))))
 exact ⟨rfl,(fun _ h=>(.tail _ h))⟩
theorem Qg (P:Nat→Int):WR AM 19 [.agg 133 (ia P)] [] (fun v _ _=>v = .s (.bool (XG P))):=by
 refine YI (a:=a19) rfl rfl (YH _) (ZP rfl) (m:=0) rfl (Zd (YB rfl (Yp rfl (Yb (Yd (Yf (Yn rfl rfl ZL (Ys rfl (YF (sK _)) rfl rfl rfl (Zj rfl (Yr (t:=5) rfl (fun h3=>?_) (fun h3=>?_)))))))))))
 ·refine Ya rfl (Yn rfl rfl ZL (Ya rfl (Yc (o':=128) rfl rfl rfl (Ya rfl (Yl rfl rfl ZL rfl (Ya rfl (Yt rfl (YF (VH _)) rfl rfl rfl (Ya rfl (Ys rfl (EM _ _) rfl rfl rfl (Ya rfl (Yu (r:=.bool _) rfl rfl (Zo rfl (Zj rfl (Zf rfl ?_))))))))))))))
  unfold XG
  (rw [show Vq P = true by assumption]; rfl)
 ·refine Z9 rfl rfl (ZD rfl (ZB rfl (Zo rfl (Zj rfl (Zf rfl ?_)))))
  unfold XG
  (rw [show Vq P = false by assumption]; rfl)
theorem tH {g:FuncId} {o z:Nat}:One fun b=>.fn g [.ptr b o z]:=⟨fun _=>by simp [V.refs,V.refsL],fun h b=>by cases e:h b <;> simp [V.ren,V.renL,e]⟩
theorem jall_rn (P:Nat→Int):RN AM 52 [.agg 133 (ia P)] [] (fun b=>.fn 67 [.ptr b 0 133]) (.sc .var 133 (ia P)) []:=uq (by
 refine YI (a:=a52) rfl rfl (YH _) (ZP rfl) (m:=0) rfl (Yd (Ye (YB rfl (Yp rfl (Yb (Yd (Ye (Qz rfl (Yp rfl (Yb ?_))))))))))
 exact Yh ⟨_,YK rfl YS,0,rfl,.head _⟩)
theorem of_rn (P:Nat→Int) (h:XG P = true):RN AM 32 [.agg 133 (ia P)] [] (fun b=>.fn 67 [.ptr b 0 133]) (.sc .var 133 (ia (ovA (fun _=>0) 0 133 P))) []:=uq (by
 refine YI (a:=a32) rfl rfl (YH _) (ZP rfl) (m:=0) rfl (Yd (Ye (YB rfl (Yp rfl (Yb (Yd (Yd (Ye (Yn rfl rfl ZL (Ys rfl (YF (Qg P)) rfl rfl rfl ?_))))))))))
 rw [h]
 refine Yu (r:=.bool false) rfl rfl (Yb (Yi rfl (fun h=>nomatch h) (fun _=>Yg (Yd (Ye (Yn rfl rfl ZL (YA (Q:=ovA (fun _=>0) 0 133 P) rfl (.agg rfl .nil) (TI (rs:=[]) (Bs:=[]) (caps:=[]) (av:=[.agg 133 (ia (ovA (fun _=>0) 0 133 P))]) tH rfl (jall_rn _) rfl rfl (YE rfl) (fun _ h=>h) rfl trivial rfl rfl .nil (Yp rfl (Yb ?_))))))))))
 exact Yh ⟨_,YK rfl YS,1,rfl,.head _⟩)
theorem of_none (P:Nat→Int) (h:XG P = false):RF AM 32 [.agg 133 (ia P)] (.fn 51 []):=YF (by
 refine YI (a:=a32) rfl rfl (YH _) (ZP rfl) (m:=0) rfl (Yd (Ye (YB rfl (Yp rfl (Yb (Yd (Yd (Ye (Yn rfl rfl ZL (Ys rfl (YF (Qg P)) rfl rfl rfl ?_))))))))))
 rw [h]
 refine Yu (r:=.bool true) rfl rfl (Yb (Zz rfl (Yd (Ye (Yp rfl (Yb ?_))))))
 exact Yh ⟨_,YK rfl YS,rfl⟩)
def VZ (g0 g4:Nat→S) (c:Nat):List V:=[.agg 133 g0,.ptr 1 0 133,.ptr 2 0 1,.undef,.agg 133 g4,.fn 67 [.ptr c 0 133],.undef,.undef,.undef,.undef,.undef,.undef,.undef]
section
variable (g0 g4 g1:Nat→S) (Q:Nat→Int)
noncomputable def Tm (c st:Nat):Blk:=.lp 607 Q8 (VZ g0 g4 c) st
theorem tW {Q:Nat→Int} {x y z:Int} (h0:Q 0 = x) (h1:Q 1 = y) (h2:Q 2 = z):∀ i,i < [x,y,z].length→ovA (fun _=>0) (0*3) 3 Q i = [x,y,z].getD i 0:=fun i hi=>by have:=U7 h0 h1 h2 i hi; rwa [Nat.zero_add] at this
theorem Dt (M Y:Nat→Int) :
  WR AM 607 [.pan .undef,.yv 0,.agg 3 (ia M),.agg 133 (ia Y)] [Tm g0 g4 3 0,.sc .var 133 g1,.vs .var [.snil],.sc .var 133 (ia Q)] (fun v n L=>v = .s (.bool true)∧TK L [Tm g0 g4 3 0,.sc .var 133 g1] [.sc .var 133 (ia Q)] [M 0,M 1,M 2]):=by
 refine RC (N:=13) (B:=B20) (f:=YH (((VZ g0 g4 3).set 6 (.agg 3 (ia M))).set 7 (.agg 133 (ia Y)))) (caps:=VZ g0 g4 3) rfl rfl rfl (Ek rfl) rfl (Ye (Yx (Yy rfl rfl rfl rfl .here (Yb (⟨607,Q8,VZ g0 g4 3,rfl,?_⟩)))))
 refine Yj (Ye (UX (v:=.snil) rfl rfl ZO rfl (Yn rfl rfl ZL (Wm rfl (.agg rfl .nil) (R9 (c:=[M 0,M 1,M 2]) rfl (Rw.nil rfl) rfl (.row rfl (tW (Q:=ovA (fun _=>0) 0 3 M) rfl rfl rfl)) (KG ZL) (Dr.here (own:=[])) (by decide) (YE rfl) (fun v3 own3 n3 hr3 hn3=>Ru (b:=2) (u:=.snil) (v:=v3) rfl rfl hr3.isrow (.appR _ (.appR _ (.there (.there (.there (.there .here)))))) (Ub (L':=own3++[(0,.lp 607 Q8 (VZ g0 g4 3) 1),(1,.sc .var 133 g1),(2,.vs .var [v3]),(3,.sc .var 133 (ia Q))]) (List.Sublist.append (.refl _) (List.sublist_append_of_sublist_right (.cons _ (.cons _ (.refl _))))) (V7 List.perm_append_comm (Yb ⟨607,Q8,VZ g0 g4 3,rfl,rfl,?_⟩)))))))))
 have h4:∀ p∈own3,4 < p.1:=fun p hp=>hn3 p hp (4,_) ZM
 rw [List.nil_append] at hr3
 refine K0 hr3 ⟨.head _,.tail _ ZL,.tail _ ZM,.tail _ ZN,trivial⟩ (fun p hp=>⟨.tail _ (.tail _ (.tail _ (.tail _ ?_))),Nat.le_of_lt (h4 p hp)⟩)
 show p∈setL 0 _ own3
 rw [Kv (fun p hp=>by have:=h4 p hp; omega)]; exact hp
theorem Dq (M Y:Nat→Int) (l:List Int) (m q:Nat) (F:Nat→Int) (hlm:l.length = m*3) (hF:∀ i,i < l.length→F i = l.getD i 0) (hll:l.length≤1000000) :
  WR AM 607 [.pan .undef,.yv 0,.agg 3 (ia M),.agg 133 (ia Y)] [Tm g0 g4 4 0,.sc .var 133 g1,Vf .var 3 m 3,.sc .grow q (ia F),.sc .var 133 (ia Q)] (fun v n L=>v = .s (.bool true)∧TK L [Tm g0 g4 4 0,.sc .var 133 g1] [.dead,.sc .var 133 (ia Q)] (l++[M 0,M 1,M 2])):=by
 refine RC (N:=13) (B:=B20) (f:=YH (((VZ g0 g4 4).set 6 (.agg 3 (ia M))).set 7 (.agg 133 (ia Y)))) (caps:=VZ g0 g4 4) rfl rfl rfl (Ek rfl) rfl (Ye (Yx (Yy rfl rfl rfl rfl .here (Yb (⟨607,Q8,VZ g0 g4 4,rfl,?_⟩)))))
 refine Yj (Ye (UX (v:=.sl 3 0 m 3 .whole) rfl rfl ZO rfl (Yn rfl rfl ZL (Wm rfl (.agg rfl .nil) (R9 (c:=[M 0,M 1,M 2]) rfl (Rw.row hlm hF) rfl (.row rfl (tW (Q:=ovA (fun _=>0) 0 3 M) rfl rfl rfl)) (KG ZL) (.there (.there (.there (.there (.there .here))))) (by decide) (by simp only [List.length_cons,List.length_nil]; omega) (fun v3 own3 n3 hr3 hn3=>Ru (b:=2) (u:=.sl 3 0 m 3 .whole) (v:=v3) rfl rfl hr3.isrow (.appR _ (.there (.appR _ (.there (.there (.there (.there .here))))))) (Ub (L':=own3++[(3,.dead),(0,.lp 607 Q8 (VZ g0 g4 4) 1),(1,.sc .var 133 g1),(2,.vs .var [v3]),(4,.sc .var 133 (ia Q))]) (List.Sublist.append (.refl _) (.cons_cons _ (.cons _ (.cons _ (.refl _))))) (V7 List.perm_append_comm (Yb ⟨607,Q8,VZ g0 g4 4,rfl,rfl,?_⟩)))))))))
 have h4:∀ p∈own3,5 < p.1:=fun p hp=>hn3 p hp (5,_) ZM
 refine K0 hr3 ⟨.tail _ ZL,.tail _ ZM,.tail _ ZN,.head _,.tail _ ZO,trivial⟩ (fun p hp=>⟨.tail _ (.tail _ (.tail _ (.tail _ (.tail _ ?_)))),Nat.le_of_lt (h4 p hp)⟩)
 show p∈setL 0 _ own3
 rw [Kv (fun p hp=>by have:=h4 p hp; omega)]; exact hp
end
def Wi (P:Nat→Int) (m:Mv):Bool:=!(X8 P m.1 m.2.1 && !zF P [m.1,(m.1+m.2.1) / 2]) && (decide (Wk P m.1 m.2.1 m.2.2 = 0) && !Xu (XI P m.1 m.2.1 m.2.2) (P 128))
def yj (P:Nat→Int):List Mv:=(Td P).filter (Wi P)
def mvX (F:Nat→Int) (o:Nat):Nat→Int:=ovA (fun _=>0) 0 3 (fun j=>F (o+j))
theorem su {F:Nat→Int} {l:List Mv} {i:Nat} (hF:∀ j,j < (YV l).length→F j = (YV l).getD j 0) (hi:i < l.length):mvX F (0+(i:Int).toNat*3) 0 = (l.getD i (0,0,0)).1∧mvX F (0+(i:Int).toNat*3) 1 = (l.getD i (0,0,0)).2.1∧mvX F (0+(i:Int).toNat*3) 2 = (l.getD i (0,0,0)).2.2:=by
 obtain ⟨e1,e2,e3⟩:=Jo hi
 have hb:3*i+2 < (YV l).length:=by rw [Xm]; omega
 rw [← hF _ (by omega)] at e1 e2 e3
 refine ⟨?_,?_,?_⟩
 ·rw [← e1]; show F _ = F _; exact congrArg F (by omega)
 ·rw [← e2]; show F _ = F _; exact congrArg F (by omega)
 ·rw [← e3]; show F _ = F _; exact congrArg F (by omega)
theorem toM_bd {s k c t:Int} {m:Mv} (hs:0≤s∧s < 64) (ht:0≤t∧t < 64) (h:m∈toM s k c t):(0≤m.1∧m.1 < 64)∧(0≤m.2.1∧m.2.1 < 64):=by
 unfold toM at h
 split at h
 ·simp only [List.mem_cons,List.not_mem_nil,or_false] at h
  rcases h with rfl | rfl | rfl | rfl <;> exact ⟨hs,ht⟩
 ·rw [List.mem_singleton.1 h]; exact ⟨hs,ht⟩
theorem Zaw {P:Nat→Int} {m:Mv} (h:m∈Td P):(0≤m.1∧m.1 < 64)∧(0≤m.2.1∧m.2.1 < 64):=by
 have h:=(UP _).mem_iff.1 h
 unfold UG X4 at h
 rw [List.mem_flatMap] at h
 obtain ⟨s,hs,h⟩:=h
 rw [List.mem_map] at hs
 obtain ⟨k,hk,rfl⟩:=hs
 have hk:=List.mem_range.1 hk
 split at h
 ·unfold VM at h
  rw [List.mem_flatMap] at h
  obtain ⟨t,ht,h⟩:=h
  exact toM_bd (by constructor <;> omega) (QL ht) h
 ·cases h
theorem ru (P:Nat→Int):(Td P).length≤16896:=by
 have:=RU P 64
 rw [show (Td P).length = _ from (UP _).length_eq]; omega
theorem g6 {l:List Mv} {i:Nat} (hi:i < l.length):l.getD i (0,0,0)∈l:=by
 rw [List.getD_eq_getElem?_getD,List.getElem?_eq_getElem hi]
 exact List.getElem_mem hi
theorem j5 {P X:Nat→Int} {l:List Mv} {i:Nat} (hi:i < l.length) (h0:X 0 = (l.getD i (0,0,0)).1) (h1:X 1 = (l.getD i (0,0,0)).2.1) (h2:X 2 = (l.getD i (0,0,0)).2.2) (h:Wi P (l.getD i (0,0,0)) = true):YV ((l.take i).filter (Wi P))++[X 0,X 1,X 2] = YV ((l.take (i+1)).filter (Wi P)):=by
 rw [W5 (0,0,0) hi,List.filter_append,List.filter_cons,h,if_pos rfl,QA,h0,h1,h2]; rfl
theorem EN {P:Nat→Int} {l:List Mv} {i:Nat} (hi:i < l.length) (h:Wi P (l.getD i (0,0,0)) = false):YV ((l.take (i+1)).filter (Wi P)) = YV ((l.take i).filter (Wi P)):=by
 rw [W5 (0,0,0) hi,List.filter_append,List.filter_cons,h,if_neg (by decide)]; simp
theorem Dp (P:Nat→Int) {l:List Mv} (i:Nat):(YV ((l.take i).filter (Wi P))).length≤l.length*3:=by
 have h1:=List.length_filter_le (Wi P) (l.take i)
 rw [List.length_take] at h1
 rw [Xm]; omega
theorem ya {P:Nat→Int} {m:Mv} (h1:X8 P m.1 m.2.1 = true) (h2:zF P [m.1,(m.1+m.2.1) / 2] = false):Wi P m = false:=by unfold Wi; rw [h1,h2]; rfl
theorem zn {P:Nat→Int} {m:Mv} (h:Wk P m.1 m.2.1 m.2.2 ≠ 0):Wi P m = false:=by unfold Wi; rw [decide_eq_false h]; simp
theorem zJ {P:Nat→Int} {m:Mv} (h:Xu (XI P m.1 m.2.1 m.2.2) (P 128) = true):Wi P m = false:=by unfold Wi; rw [h]; simp
theorem Zaj {P:Nat→Int} {m:Mv} (h1:X8 P m.1 m.2.1 = false∨zF P [m.1,(m.1+m.2.1) / 2] = true) (h2:Wk P m.1 m.2.1 m.2.2 = 0) (h3:Xu (XI P m.1 m.2.1 m.2.2) (P 128) = false):Wi P m = true:=by
 unfold Wi
 rw [decide_eq_true h2,h3]
 rcases h1 with h | h <;> rw [h] <;> simp
theorem iter_mv (g0 g4 g1:Nat→S) (P:Nat→Int):WR AM 67 [.yv 0,.ptr 3 0 133] [(Tm g0 g4 3 0),.sc .var 133 g1,.vs .var [.snil],.sc .var 133 (ia P)] (fun v _ L=>v = .tup []∧TK L [(Tm g0 g4 3 0),.sc .var 133 g1] [.sc .var 133 (ia P)] (YV (yj P))):=by
 refine YI (a:=a67) rfl rfl (YH _) (ZP rfl) (m:=4) rfl (Zd (Zx rfl (Yn rfl rfl ZO ?_)))
 obtain ⟨l,hleq⟩:∃ l,l = Td P:=⟨_,rfl⟩
 have hall:=ZaC P
 rw [← hleq] at hall
 have hlen:=ru P
 rw [← hleq] at hlen
 refine YD rfl (hall) rfl rfl (fun v1 own1 n1 hr1=>Vn rfl hr1.rx (by decide) (Xm l) (Yp rfl (Yb (Yj (Xe (List.Sublist.append (.refl _) (.refl _)) (Xg (fun m f _ L=>∃ (i:Nat) (vO:V) (ownO:HA),(i≤l.length)∧(m = l.length - i)∧(∀ p∈ownO,4≤p.1)∧(Rw 3 (YV ((l.take i).filter (Wi P))) vO ownO)∧(f 0 = .yv 0)∧(f 1 = .ptr 3 0 133)∧(f 9 = v1)∧(f 10 = .s (.int .i64 l.length))∧(f 11 = .s (.int .i64 i))∧(L = (ownO++(own1++[(0,(Tm g0 g4 3 0)),(1,.sc .var 133 g1),(2,.vs .var [vO]),(3,.sc .var 133 (ia P))])))) (fun m f nb L hI=>?_) (l.length) (⟨0,.snil,[],by omega,by omega,(fun p (hp:p∈([]:HA))=>(by cases hp)),Rw.nil rfl,rfl,rfl,rfl,rfl,rfl,rfl⟩)))))))
 obtain ⟨i,vO,ownO,hi,hm,hgO,hrO,k0,k1,k9,k10,k11,rfl⟩:=hI
 refine pH 0 k0 (pH 1 k1 (pH 9 k9 (pH 10 k10 (pH 11 k11 (Zd (Zq rfl (Yb (Yd (Yi rfl (fun h1=>?_) (fun h1=>?_)))))))))) <;> simp only [NM] at h1
 ·refine Yg (Yd (Yj (Zd ?_)))
  obtain ⟨b1,q1,md1,c1,F1,rfl,rfl,hF1⟩:=hr1.rx.at (by decide) (Xm l) (by omega)
  refine Zw rfl rfl (Yo rfl rfl (List.mem_append_right _ ZL) (Yx (Yy rfl rfl rfl rfl .here (Yb (Yd (Zd ?_))))))
  obtain ⟨hx0,hx1,hx2⟩:=su hF1 (i:=i) (by omega)
  have hbd:(0≤(l.getD i (0,0,0)).1∧(l.getD i (0,0,0)).1 < 64)∧(0≤(l.getD i (0,0,0)).2.1∧(l.getD i (0,0,0)).2.1 < 64):=Zaw (P:=P) (by rw [← hleq]; exact g6 (by omega))
  have hcas:=YF (qm P (mvX F1 (0+(i:Int).toNat*3)) (by omega) (by omega))
  rw [hx0,hx1] at hcas
  have hmove:=YF (sr P (mvX F1 (0+(i:Int).toNat*3)))
  rw [hx0,hx1,hx2] at hmove
  have hid:ovA (fun _=>0) 0 133 (XI P (l.getD i (0,0,0)).1 (l.getD i (0,0,0)).2.1 (l.getD i (0,0,0)).2.2) = (XI P (l.getD i (0,0,0)).1 (l.getD i (0,0,0)).2.1 (l.getD i (0,0,0)).2.2):=JA (fun i hi=>x6 hi)
  have hchk:=EM (ovA (fun _=>0) 0 133 (XI P (l.getD i (0,0,0)).1 (l.getD i (0,0,0)).2.1 (l.getD i (0,0,0)).2.2)) (P 128)
  rw [show Xu (ovA (fun _=>0) 0 133 (XI P (l.getD i (0,0,0)).1 (l.getD i (0,0,0)).2.1 (l.getD i (0,0,0)).2.2)) (P 128) = Xu (XI P (l.getD i (0,0,0)).1 (l.getD i (0,0,0)).2.1 (l.getD i (0,0,0)).2.2) (P 128) by rw [hid]] at hchk
  refine Yn rfl rfl (.tail _ (List.mem_append_right _ (.tail _ ZO))) (Yn rfl rfl ZL (Ys rfl (hcas) rfl rfl rfl (Zj rfl (Yr (t:=18) rfl (fun h2=>?_) (fun h2=>?_)))))
  ·refine Ya rfl (Yn rfl rfl (.tail _ (List.mem_append_right _ (.tail _ ZO))) (Ya rfl (Zx rfl (Ya rfl (Yl (x:=(l.getD i (0,0,0)).1) rfl rfl ZL (hx0) (Ya rfl (Zx rfl (Ya rfl (Yl (x:=(l.getD i (0,0,0)).1) rfl rfl ZL (hx0) (Ya rfl (Zy rfl (Ya rfl (Yl (x:=(l.getD i (0,0,0)).2.1) rfl rfl ZL (hx1) (Ya rfl (Zr rfl rfl (Ya rfl (Zt rfl rfl (Ya rfl (Xd rfl (.one rfl (.one rfl .nil)) (Ya rfl (VF (caps:=[]) rfl (Zaz P [(l.getD i (0,0,0)).1,((l.getD i (0,0,0)).1+(l.getD i (0,0,0)).2.1) / 2] (YE rfl)) rfl ((.row rfl wH)) (KG ZL) rfl rfl rfl (Ya rfl (Yu (r:=.bool _) rfl rfl (Zo rfl (Yb (Yi rfl (fun h3=>?_) (fun h3=>?_))))))))))))))))))))))))))) <;> simp only [NM] at h3
   ·refine YZ (Xc (Ye (Zr rfl rfl (Zi rfl (Yb (⟨l.length - (i+1),_,by omega,(.cons _ (.cons _ (List.Sublist.append (.refl _) (.refl _)))),i+1,_,_,by omega,rfl,hgO,?_,rfl,rfl,rfl,rfl,rfl,rfl⟩))))))
    (rw [EN (by omega) (by first | exact ya (by assumption) (by assumption) | exact zn (by assumption) | exact zJ (by assumption))]; exact hrO)
   ·refine Yg (Zd (Zx rfl (Yn rfl rfl (.tail _ (.tail _ (List.mem_append_right _ (.tail _ ZO)))) (Yn rfl rfl ZM (Ys rfl (hmove) rfl rfl rfl (Zn rfl (YC (v:=.agg _ _) rfl rfl (YC (v:=.s (.int _ _)) rfl rfl (Yx (Yy rfl rfl rfl rfl .here (Zi rfl (Yb (Yd (K5 (Ki (l1:=[_,_,_,_,_,_,_,_,_,_,_,_,_,_]) (l2:=[_,_,_]) (Zi rfl (Zq rfl (Zj rfl (Yr (t:=41) rfl (fun h4=>?_) (fun h4=>?_)))))))))))))))))))) <;> simp only [NM] at h4
    ·refine Ya rfl (Yn rfl rfl ZL (Ya rfl (Zx rfl (Ya rfl (Yc (o':=128) rfl rfl rfl (Ya rfl (Yl rfl rfl (.tail _ (.tail _ (.tail _ (List.mem_append_right _ (.tail _ ZO))))) rfl (Ya rfl (Ys rfl (hchk) rfl rfl rfl (Ya rfl (Yu (r:=.bool _) rfl rfl (Zo rfl (Zj rfl (Yr (t:=49) rfl (fun h5=>?_) (fun h5=>?_))))))))))))))) <;> simp only [NM] at h5
     ·refine Ya rfl (Yp (v:=.yv _) rfl (Ya rfl (Yn rfl rfl ZN (Ya rfl (Yn rfl rfl ZL (Yb (Qn (.cons _ (.cons _ (.cons _ (List.Sublist.append (.refl _) (.refl _))))) (Eo rfl ?_))))))))
      have hll:=Dp P (l:=l) i
      refine To (caps:=VZ g0 g4) (xa:=[.agg 3 (ia (mvX F1 (0+(i:Int).toNat*3))),.agg 133 (ia (ovA (fun _=>0) 0 133 (XI P (l.getD i (0,0,0)).1 (l.getD i (0,0,0)).2.1 (l.getD i (0,0,0)).2.2)))]) (L0:=[_]) rfl (fun _=>rfl) rfl rfl (fun _ _ _=>rfl) (YE rfl) (YE rfl) rfl rfl hrO (List.Perm.append_left _ (List.perm_append_comm (l₁:=[_]) (l₂:=[_,_,_,_]))) (fun e=>by have h:=Dt g0 g4 g1 P (mvX F1 (0+(i:Int).toNat*3)) (ovA (fun _=>0) 0 133 (XI P (l.getD i (0,0,0)).1 (l.getD i (0,0,0)).2.1 (l.getD i (0,0,0)).2.2)); rw [e]; exact h) (fun m q F h1 h2=>Dq g0 g4 g1 P (mvX F1 (0+(i:Int).toNat*3)) _ _ m q F h1 h2 (by omega)) (fun v2 own2 n2 hr2 hge2=>WY ?_)
      rw [j5 (by omega) hx0 hx1 hx2 (Zaj (by first | exact .inl (by assumption) | exact .inr (by assumption)) (by assumption) (by assumption))] at hr2
      refine V7 (List.Perm.append_left _ (List.perm_append_comm (l₁:=[_,_,_,_]) (l₂:=[_]))) (Ya rfl (Yu (r:=.bool _) rfl rfl (Zo rfl (Yb (ZA rfl (Yg (Ye (Zr rfl rfl (Zi rfl (Yb (⟨l.length - (i+1),_,by omega,(List.Sublist.append (.refl _) (.refl _)),i+1,_,_,by omega,rfl,hge2,?_,rfl,rfl,rfl,rfl,rfl,rfl⟩)))))))))))
      exact hr2
     ·refine ZC rfl (ZB rfl (Yb (WY (ZC rfl (Zo rfl (Yb (ZA rfl (Yg (Ye (Zr rfl rfl (Zi rfl (Yb (⟨l.length - (i+1),_,by omega,(.cons _ (.cons _ (.cons _ (List.Sublist.append (.refl _) (.refl _))))),i+1,_,_,by omega,rfl,hgO,?_,rfl,rfl,rfl,rfl,rfl,rfl⟩)))))))))))))
      (rw [EN (by omega) (by first | exact ya (by assumption) (by assumption) | exact zn (by assumption) | exact zJ (by assumption))]; exact hrO)
    ·refine ZD rfl (ZC rfl (Zo rfl (Zj rfl (ZC rfl (ZB rfl (Yb (WY (ZC rfl (Zo rfl (Yb (ZA rfl (Yg (Ye (Zr rfl rfl (Zi rfl (Yb (⟨l.length - (i+1),_,by omega,(.cons _ (.cons _ (.cons _ (List.Sublist.append (.refl _) (.refl _))))),i+1,_,_,by omega,rfl,hgO,?_,rfl,rfl,rfl,rfl,rfl,rfl⟩)))))))))))))))))
     (rw [EN (by omega) (by first | exact ya (by assumption) (by assumption) | exact zn (by assumption) | exact zJ (by assumption))]; exact hrO)
  ·refine Z9 rfl rfl (ZE rfl (ZC rfl (ZB rfl (Zo rfl (Yb (ZA rfl (Yg (Zd (Zx rfl (Yn rfl rfl (.tail _ (List.mem_append_right _ (.tail _ ZO))) (Yn rfl rfl ZL (Ys rfl (hmove) rfl rfl rfl (Zn rfl (YC (v:=.agg _ _) rfl rfl (YC (v:=.s (.int _ _)) rfl rfl (Yx (Yy rfl rfl rfl rfl .here (Zi rfl (Yb (Yd (K5 (Ki (l1:=[_,_,_,_,_,_,_,_,_,_,_,_,_,_]) (l2:=[_,_,_]) (Zi rfl (Zq rfl (Zj rfl (Yr (t:=41) rfl (fun h6=>?_) (fun h6=>?_))))))))))))))))))))))))))) <;> simp only [NM] at h6
   ·refine Ya rfl (Yn rfl rfl ZL (Ya rfl (Zx rfl (Ya rfl (Yc (o':=128) rfl rfl rfl (Ya rfl (Yl rfl rfl (.tail _ (.tail _ (List.mem_append_right _ (.tail _ ZO)))) rfl (Ya rfl (Ys rfl (hchk) rfl rfl rfl (Ya rfl (Yu (r:=.bool _) rfl rfl (Zo rfl (Zj rfl (Yr (t:=49) rfl (fun h7=>?_) (fun h7=>?_))))))))))))))) <;> simp only [NM] at h7
    ·refine Ya rfl (Yp (v:=.yv _) rfl (Ya rfl (Yn rfl rfl ZM (Ya rfl (Yn rfl rfl ZL (Yb (Qn (.cons _ (.cons _ (List.Sublist.append (.refl _) (.refl _)))) (Eo rfl ?_))))))))
     have hll:=Dp P (l:=l) i
     refine To (caps:=VZ g0 g4) (xa:=[.agg 3 (ia (mvX F1 (0+(i:Int).toNat*3))),.agg 133 (ia (ovA (fun _=>0) 0 133 (XI P (l.getD i (0,0,0)).1 (l.getD i (0,0,0)).2.1 (l.getD i (0,0,0)).2.2)))]) (L0:=[_]) rfl (fun _=>rfl) rfl rfl (fun _ _ _=>rfl) (YE rfl) (YE rfl) rfl rfl hrO (List.Perm.append_left _ (List.perm_append_comm (l₁:=[_]) (l₂:=[_,_,_,_]))) (fun e=>by have h:=Dt g0 g4 g1 P (mvX F1 (0+(i:Int).toNat*3)) (ovA (fun _=>0) 0 133 (XI P (l.getD i (0,0,0)).1 (l.getD i (0,0,0)).2.1 (l.getD i (0,0,0)).2.2)); rw [e]; exact h) (fun m q F h1 h2=>Dq g0 g4 g1 P (mvX F1 (0+(i:Int).toNat*3)) _ _ m q F h1 h2 (by omega)) (fun v3 own3 n3 hr3 hge3=>WY ?_)
     rw [j5 (by omega) hx0 hx1 hx2 (Zaj (by first | exact .inl (by assumption) | exact .inr (by assumption)) (by assumption) (by assumption))] at hr3
     refine V7 (List.Perm.append_left _ (List.perm_append_comm (l₁:=[_,_,_,_]) (l₂:=[_]))) (Ya rfl (Yu (r:=.bool _) rfl rfl (Zo rfl (Yb (ZA rfl (Yg (Ye (Zr rfl rfl (Zi rfl (Yb (⟨l.length - (i+1),_,by omega,(List.Sublist.append (.refl _) (.refl _)),i+1,_,_,by omega,rfl,hge3,?_,rfl,rfl,rfl,rfl,rfl,rfl⟩)))))))))))
     exact hr3
    ·refine ZC rfl (ZB rfl (Yb (WY (ZC rfl (Zo rfl (Yb (ZA rfl (Yg (Ye (Zr rfl rfl (Zi rfl (Yb (⟨l.length - (i+1),_,by omega,(.cons _ (.cons _ (List.Sublist.append (.refl _) (.refl _)))),i+1,_,_,by omega,rfl,hgO,?_,rfl,rfl,rfl,rfl,rfl,rfl⟩)))))))))))))
     (rw [EN (by omega) (by first | exact ya (by assumption) (by assumption) | exact zn (by assumption) | exact zJ (by assumption))]; exact hrO)
   ·refine ZD rfl (ZC rfl (Zo rfl (Zj rfl (ZC rfl (ZB rfl (Yb (WY (ZC rfl (Zo rfl (Yb (ZA rfl (Yg (Ye (Zr rfl rfl (Zi rfl (Yb (⟨l.length - (i+1),_,by omega,(.cons _ (.cons _ (List.Sublist.append (.refl _) (.refl _)))),i+1,_,_,by omega,rfl,hgO,?_,rfl,rfl,rfl,rfl,rfl,rfl⟩)))))))))))))))))
    (rw [EN (by omega) (by first | exact ya (by assumption) (by assumption) | exact zn (by assumption) | exact zJ (by assumption))]; exact hrO)
 ·refine YZ (Xc (⟨_,YS,?_⟩))
  obtain rfl:i = l.length:=by omega
  rw [List.take_length,hleq] at hrO
  exact ⟨rfl,K0 hrO ⟨(List.mem_append_right _ (List.mem_append_right _ ZL)),(List.mem_append_right _ (List.mem_append_right _ ZM)),(List.mem_append_right _ (List.mem_append_right _ ZN)),(List.mem_append_right _ (List.mem_append_right _ ZO)),trivial⟩ (fun p hp=>⟨List.mem_append_left _ hp,hgO p hp⟩)⟩
def WT (P:Nat→Int):List Mv:=if XG P = true then yj (ovA (fun _=>0) 0 133 P) else []
def capsNo (g0 g4:Nat→S):List V:=[.agg 133 g0,.ptr 1 0 133,.ptr 2 0 1,.undef,.agg 133 g4,.fn 51 [],.undef,.undef,.undef,.undef,.undef,.undef,.undef]
theorem pp (P:Nat→Int):RtR AM 20 3 [.agg 133 (ia P)] [] (YV (WT P)) []:=by
 refine W7 (uh (a:=a20) rfl rfl (YH _) (ZP rfl) (m:=0) (c0:=2) rfl rfl (Yd (Ye (YB rfl (Kw (z:=.one .snil) rfl (Yb (Yd (Yd (Ye (Yn rfl rfl ZM ?_))))))))))
 have fin:∀ (f:FE) (n:Nat) (v:V) (own:HA),f 2 = .ptr 1 0 1→Rw 3 (YV (WT P)) v own→WP AM a20.nt (.seq (.ops [ZY 12 false 1 2,Z0 1 2 12]) .ret) f n (own++[(1,.vs .var [v])])
   (fun _ _ _=>False) (fun _ _ _ _=>False) (fun f n L=>∃ b md v,rd a20.nt f 2 = .ptr b 0 1∧(b,Blk.vs md [v])∈L∧∃ own,Rw 3 (YV (WT P)) v own∧∀ p∈own,p∈L) (fun _ _ _ _=>False):=fun f n v own h2 hr=>by
  refine pH 2 h2 (Yd (Ye (UX (v:=v) rfl rfl (List.mem_append_right _ ZL) rfl (Ru (b:=1) (u:=v) (v:=v) rfl rfl hr.isrow (.appR _ .here) ?_))))
  exact Yb (Yh ⟨1,.var,v,rfl,List.mem_append_right _ ZL,own,hr,fun p hp=>List.mem_append_left _ hp⟩)
 cases h:XG P with
 | false =>
  have hl:YV (WT P) = []:=by unfold WT; rw [h]; rfl
  refine Ys rfl (of_none P h) rfl rfl rfl (Yb (Yj (yI (Lr:=[(0,_),(1,_)]) (L0:=[]) (vs:=[.yv 0]) (Bs:=[.lp 607 Q8 (capsNo (ia P) (ia P)) 0,.sc .var 133 (ia P),.vs .var [.snil]]) (List.reverse_perm [_,_]) rfl rfl rfl rfl rfl (YI (a:=a51) rfl rfl (YH _) (ZP rfl) (m:=3) rfl (Yg ⟨_,YS,?_⟩)))))
  refine .inl ⟨[_,_,_],.tup [],_,⟨.head _,.tail _ ZL,.tail _ ZM,trivial⟩,rfl,rfl,rfl,rfl,607,Q8,_,0,_,.refl _,?_⟩
  refine Xe (.cons _ (.refl _)) ?_
  exact fin _ _ .snil [] rfl (.nil hl)
 | true =>
  have hl:YV (WT P) = YV (yj (ovA (fun _=>0) 0 133 P)):=by unfold WT; rw [h]; rfl
  refine TI (rs:=[]) (Bs:=[]) (caps:=[]) (av:=[.agg 133 (ia P)]) tH rfl (of_rn P h) rfl rfl (YE rfl) (fun _ h=>h) rfl trivial rfl rfl .nil (Yb (Yj (yI (Lr:=[(0,_),(1,_),(2,_)]) (L0:=[]) (vs:=[.yv 0,.ptr 3 0 133]) (Bs:=[Tm (ia P) (ia P) 3 0,.sc .var 133 (ia P),.vs .var [.snil],.sc .var 133 (ia (ovA (fun _=>0) 0 133 P))]) (List.reverse_perm [_,_,_]) rfl rfl rfl rfl rfl (U0 (iter_mv (ia P) (ia P) (ia P) (ovA (fun _=>0) 0 133 P)) ?_))))
  rintro r n1 L1 ⟨rfl,ho⟩
  rw [← hl] at ho
  rcases ho with ⟨e1,e2⟩ | ⟨b,m,q,F,e1,e2,e3,e4,e5⟩
  ·refine .inl ⟨_,.tup [],_,e2,rfl,rfl,rfl,rfl,607,Q8,_,0,_,.refl _,?_⟩
   refine Xe (.cons _ (.cons_cons _ (.cons _ .slnil))) ?_
   exact fin _ _ .snil [] rfl (.nil e1)
  ·refine .inr ⟨[Tm (ia P) (ia P) 3 0,.sc .var 133 (ia P)],[.sc .var 133 (ia (ovA (fun _=>0) 0 133 P))],b,m,3,q,.var,.grow,ia F,.tup [],_,_,e3,rfl,e1,e2,rfl,rfl,rfl,rfl,rfl,(YE rfl),607,Q8,_,0,_,.swap _ _ _,?_⟩
   refine Xe (.cons_cons _ (.cons _ (.cons_cons _ (.cons _ .slnil)))) ?_
   exact fin _ _ _ [(_,_)] rfl (.row e4 e5)
theorem ut {P:Nat→Int} {s:Int} {m:Mv} (h:m∈VN P s 64):(0≤m.2.1∧m.2.1 < 64)∧WN P s m.2.1 = true∧m∈toM s (P (sqI s)) (P (sqI s+1)) m.2.1:=by
 unfold VN at h
 rw [List.mem_flatMap] at h
 obtain ⟨t,ht,h⟩:=h
 split at h
 ·rename_i hg
  have e:=(K3 h).2
  rw [e]
  exact ⟨mem64.1 ht,hg,h⟩
 ·cases h
theorem D9 {P:Nat→Int} {m:Mv} (h:m∈UB P 64):(0≤m.1∧m.1 < 64)∧(0≤m.2.1∧m.2.1 < 64)∧WN P m.1 m.2.1 = true∧m∈toM m.1 (P (sqI m.1)) (P (sqI m.1+1)) m.2.1:=by
 unfold UB at h
 rw [List.mem_flatMap] at h
 obtain ⟨s,hs,h⟩:=h
 have e:=KD h
 rw [e]
 exact ⟨mem64.1 hs,ut h⟩
def cntR (P:Nat→Int) (s:Nat):Nat:=(UB P s).length
theorem RZ {P:Nat→Int} {s t:Int} (h:WN P s t = true):(1≤P (sqI s)∧P (sqI s)≤6)∧(P (sqI s+1) = 0∨P (sqI s+1) = 1)∧P (sqI s+1) = P 128∧s ≠ t:=by
 unfold WN We YU at h
 simp only [Bool.and_eq_true,decide_eq_true_eq] at h
 omega
theorem ZaA {P:Nat→Int} {m:Mv} (h:m∈toM m.1 (P (sqI m.1)) (P (sqI m.1+1)) m.2.1):if P (sqI m.1) = 1∧m.2.1 / 8 = 7*(1 - P (sqI m.1+1)) then 2≤m.2.2∧m.2.2≤5 else m.2.2 = 0:=by
 unfold toM endM at h
 split at h
 ·rename_i e
  rw [decide_eq_true_eq] at e
  rw [if_pos e]
  simp only [List.mem_cons,List.not_mem_nil,or_false] at h
  rcases h with h | h | h | h <;> (have:=congrArg (fun m:Mv=>m.2.2) h; simp only at this; omega)
 ·rename_i e
  rw [decide_eq_true_eq] at e
  rw [if_neg e]
  have:=congrArg (fun m:Mv=>m.2.2) (List.mem_singleton.1 h)
  simpa using this
theorem ZaH {P:Nat→Int} {m:Mv} (h:m∈UB P 64):Wk P m.1 m.2.1 m.2.2 = 0:=by
 obtain ⟨ha,ht,hg,hm⟩:=D9 h
 obtain ⟨h1,h2,h3,h4⟩:=RZ hg
 refine W8 ⟨ha,ht,h4⟩ ?_
 unfold Xv
 exact decide_eq_true ⟨h1.1,h1.2,h3,h2,ZaA hm⟩
def fnzM:List Int→Int
 | []=>0
 | x::l=>if x = 0 then fnzM l else x
def cmpM (x y:Int):Int:=if x < y then -1 else if y < x then 1 else 0
theorem kq {a b:Int} (h:a ≠ b):WX .eql (.int .i64 a) (.int .i64 b) = some (.bool false):=by
 show (if IntKind.i64 = IntKind.i64 then some (S.bool (a == b)) else none) = _
 simp [h]
theorem Ui {a b:Int} (h:a = b):WX .eql (.int .i64 a) (.int .i64 b) = some (.bool true):=by
 subst h
 show (if IntKind.i64 = IntKind.i64 then some (S.bool (a == a)) else none) = _
 simp
theorem pR {a b:Int} (h:a = b):WX .neq (.int .i64 a) (.int .i64 b) = some (.bool false):=by
 subst h
 show (if IntKind.i64 = IntKind.i64 then some (S.bool (a != a)) else none) = _
 simp
theorem three {A B:Nat→Int} (h0:A 0 = B 0) (h1:A 1 = B 1) (h2:A 2 = B 2):∀ i,i < 3→A i = B i
 | 0,_=>h0
 | 1,_=>h1
 | 2,_=>h2
 | i+3,h=>by omega
def pathOK (a b:Int):Bool:=decide (a = b) || (!(Wt a b || Wq a b) || (decide (1≤UC a b∧b = a+V9 a b*UC a b) && (List.range (UC a b - 1)).all fun (j:Nat)=>decide ((0≤a+V9 a b*((j:Int)+1)∧a+V9 a b*((j:Int)+1) < 64)∧a+V9 a b*((j:Int)+1) ≠ b)))
section
variable {P:Nat→Int} {a b:Int}
end
def hitA (P:Nat→Int) (c s a:Int):Bool:=decide (P (sqI a+1) = c) && Xb P a s
def toL (P:Nat→Int) (s c:Int) (n:Nat):List Int:=if 0≤s∧s < 64 then (X4 n).filter (hitA P c s) else []
def isR (P:Nat→Int) (c:Int) (s:Int):Bool:=decide (0 < (toL P s c 64).length)
def checkR (P:Nat→Int) (c:Int):Bool:=if c = 0∨c = 1 then (R8 P (RV c)).any (isR P (Y0 c)) else false
section
variable {P:Nat→Int} {s t c:Int}
end
def fromD (P:Nat→Int) (s:Int) (n:Nat):List Mv:=if 0≤s∧s < 64 then VN P s n else []
def fineM (P:Nat→Int) (m:Mv):Bool:=decide (Wk P m.1 m.2.1 m.2.2 = 0) && (!Xu (XI P m.1 m.2.1 m.2.2) (P 128) && (!X8 P m.1 m.2.1 || (!Xu P (P 128) && !([(m.1+m.2.1) / 2].any (isR P (Y0 (P 128)))))))
section
variable {P:Nat→Int} {m:Mv}
end
def movesD (P:Nat→Int):List Mv:=if XG P = true then (UB P 64).filter (fineM P) else []
def wE (s:Int):Int:=if s = 1 then 2 else 1
def ofN (P:Nat→Int) (n:Nat):Int × Int:=if XG P = false∨0 < n then (0,0) else if Xu P (P 128) = true then (wE (Y0 (P 128)),1) else (3,2)
section
variable {P:Nat→Int} {n:Nat}
theorem of_open (h:XG P = false∨0 < n):ofN P n = (0,0):=if_pos h
theorem of_go (h1:XG P = true) (h2:¬ 0 < n):¬ (XG P = false∨0 < n):=fun h=>h.elim (fun h=>by rw [h1] at h; cases h) h2
theorem of_mate (h1:XG P = true) (h2:¬ 0 < n) (h3:Xu P (P 128) = true):ofN P n = (wE (Y0 (P 128)),1):=by
 unfold ofN; rw [if_neg (of_go h1 h2),if_pos h3]
theorem w6 (h1:XG P = true) (h2:¬ 0 < n) (h3:Xu P (P 128) = false):ofN P n = (3,2):=by
 unfold ofN; rw [if_neg (of_go h1 h2),if_neg (by rw [h3]; decide)]
end
theorem wa (s:Int):WR AM 13 [.s (.int .i64 s)] [] (fun v _ _=>v = .s (.int .i64 (wE s))):=by
 refine YI (a:=a13) rfl rfl (YH _) (ZP rfl) (m:=0) rfl (Zd (Yp rfl (Yb (Yd (Zd (Zi rfl (Zq rfl (Yb (Yi rfl (fun h1=>?_) (fun h1=>?_)))))))))) <;> simp only [NM] at h1
 ·refine Zd (Yp rfl (Yb (Yh (⟨_,ZK rfl,?_⟩))))
  refine ZI ?_
  exact (if_pos (by omega)).symm
 ·refine Yg (Zd (Yp rfl (Yb (Yh (⟨_,ZK rfl,?_⟩)))))
  refine ZI ?_
  exact (if_neg (by omega)).symm
def Je (P:Nat→Int):Bool:=XG P && decide ((WT P).length = 0)
theorem stuck_f {P:Nat→Int} (h:Je P = false):XG P = false∨0 < (WT P).length:=by
 unfold Je at h
 cases hp:XG P with
 | false=>exact .inl rfl
 | true =>
  rw [hp,Bool.true_and] at h
  have:=of_decide_eq_false h
  exact .inr (by omega)
theorem E0 {P:Nat→Int} (h:Je P = true):XG P = true∧¬ 0 < (WT P).length:=by
 unfold Je at h
 rw [Bool.and_eq_true,decide_eq_true_eq] at h
 exact ⟨h.1,by omega⟩
theorem allL_of {K:Nat→Int} {h:Int} {l:List Int} (hK:∀ i,i < l.length→K i = l.getD i 0):(!decide (0≤VS (fun j=>decide (h < K j)) l.length)) = l.all (fun n=>decide (n≤h)):=by
 rw [Bool.eq_iff_iff,Bool.not_eq_true',decide_eq_false_iff_not,yZ,List.all_eq_true]
 constructor
 ·intro hn x hx
  obtain ⟨j,hj,rfl⟩:=List.mem_iff_getElem.1 hx
  rw [decide_eq_true_eq]
  refine Int.not_lt.1 fun hlt=>hn ⟨j,hj,?_⟩
  rw [hK j hj,List.getD_eq_getElem?_getD,List.getElem?_eq_getElem hj]
  exact decide_eq_true hlt
 ·rintro hn ⟨j,hj,hx⟩
  rw [hK j hj,List.getD_eq_getElem?_getD,List.getElem?_eq_getElem hj,decide_eq_true_eq] at hx
  have:=hn _ (List.getElem_mem hj)
  rw [decide_eq_true_eq] at this
  simp at hx
  omega
theorem vC (P:Nat→Int) (hz:∀ i,133≤i→P i = 0):WR AM 26 [.agg 133 (ia P)] [] (fun v _ _=>v = .s (.bool (Je P))):=by
 refine YI (a:=a26) rfl rfl (YH _) (ZP rfl) (m:=0) rfl (Zd (YB rfl (Yp rfl (Ze (Zx rfl (Yn rfl rfl ZL (Ys rfl (YF (Qg P)) rfl rfl rfl (Zj rfl (Yr (t:=6) rfl (fun h2=>?_) (fun h2=>?_))))))))))
 ·refine Ya rfl (Zx rfl (Ya rfl (Yn rfl rfl ZL (Ya rfl (YD rfl (pp P) rfl rfl (fun v1 own1 n1 hr1=>Ya rfl (Vn rfl hr1.rx (by decide) (Xm _) (Ya rfl (Zq rfl (Zo rfl (Zj rfl (Zf rfl (ZH ?_)))))))))))))
  unfold Je
  (rw [show XG P = true by assumption,Bool.true_and,Bool.eq_iff_iff,beq_iff_eq,decide_eq_true_eq]; omega)
 ·refine Z9 rfl rfl (ZD rfl (Zo rfl (Zj rfl (Zf rfl (ZH ?_)))))
  unfold Je
  (rw [show XG P = false by assumption]; rfl)
theorem yO (P:Nat→Int) (hz:∀ i,133≤i→P i = 0):WR AM 7 [.agg 133 (ia P)] [] (fun v _ _=>v = .tup [.s (.int .i64 (ofN P (WT P).length).1),.s (.int .i64 (ofN P (WT P).length).2)]):=by
 have hid:ovA (fun _=>0) 0 133 P = P:=JA hz
 refine YI (a:=a7) rfl rfl (YH _) (ZP rfl) (m:=0) rfl (Zd (YB rfl (Yp rfl (Yp rfl (Yb (Yd (Zd (Yn rfl rfl ZL (YA rfl (.agg rfl .nil) ?_)))))))))
 rw [hid]
 refine Yx (Yy rfl rfl rfl rfl .here ?_)
 rw [hid]
 refine Yb (Yj (Zd (Yn rfl rfl ZL (Ys rfl (YF (vC P hz)) rfl rfl rfl (Yu (r:=.bool _) rfl rfl (Zj rfl (Yb (Yi rfl (fun h3=>?_) (fun h3=>?_))))))))) <;> simp only [NM] at h3
 ·refine Zd (Yp rfl (Yp rfl (Yb (Yh (⟨_,YK (v:=.s (.int _ _)) rfl (ZK rfl),?_⟩)))))
  (rw [of_open (stuck_f (by assumption))]; rfl)
 ·refine Zd (Yn rfl rfl ZM (Zx rfl (Yc (o':=128) rfl rfl rfl (Yl (x:=P 128) rfl rfl ZL (rfl) (Ys rfl (EM P (P 128)) rfl rfl rfl (Zj rfl (Yb (Yi rfl (fun h4=>?_) (fun h4=>?_)))))))))
  ·refine Zd (Zx rfl (Yc (o':=128) rfl rfl rfl (Yl (x:=P 128) rfl rfl ZL (rfl) (Ys rfl (YF (VH _)) rfl rfl rfl (Ys rfl (YF (wa _)) rfl rfl rfl (Zi rfl (Yp rfl (Yb (Yh (⟨_,YK (v:=.s (.int _ _)) rfl (ZK rfl),?_⟩))))))))))
   (rw [of_mate (E0 (by assumption)).1 (E0 (by assumption)).2 (by assumption)]; rfl)
  ·refine Yg (Zd (Yp rfl (Yp rfl (Yb (Yh (⟨_,YK (v:=.s (.int _ _)) rfl (ZK rfl),?_⟩))))))
   (rw [w6 (E0 (by assumption)).1 (E0 (by assumption)).2 (by assumption)]; rfl)
theorem sU {md:Md} (M:Nat→Int) (t:Int):WR AM 50 [.s (.int .i64 t),.ptr 0 0 133] [.sc md 133 (ia M)] (fun v _ L=>v = .s (.bool (decide (M 131 < t)))∧(0,Blk.sc md 133 (ia M))∈L):=by
 refine YI (a:=a50) rfl rfl (YH _) (ZP rfl) (m:=1) rfl (Zd (Yp rfl (Ze (Zx rfl (Yc (o':=131) rfl rfl rfl (Yl (x:=M 131) rfl rfl ZL (rfl) (Zi rfl (Zq rfl (Zj rfl (Zf rfl ?_))))))))))
 exact ⟨rfl,ZL⟩
theorem jR {md md2:Md} {q:Nat} {c:Cp} (K M:Nat→Int) (nn:Nat) (hnn:nn≤1000000):WR AM 66 [.sl 0 0 nn 1 c,.fn 50 [.ptr 1 0 133]] [.sc md q (ia K),.sc md2 133 (ia M)] (fun v _ L=>v = .s (.int .i64 (VS (fun j=>decide (M 131 < K j)) nn))∧(0,Blk.sc md q (ia K))∈L∧(1,Blk.sc md2 133 (ia M))∈L):=by
 refine YI (a:=a66) rfl rfl (YH _) (ZP rfl) (m:=2) rfl (Zd (Yp rfl (Yb (Yd (Zd (Zm rfl (QR rfl (Yp rfl (Yb (Yj (Xe (.refl _) (Xg (fun m f _ L=>∃ (i:Nat),(i≤nn)∧(m = nn - i)∧(∀ j,j < i→decide (M 131 < K j) = false)∧(f 0 = .sl 0 0 nn 1 c)∧(f 1 = .fn 50 [.ptr 1 0 133])∧(f 7 = .s (.int .i64 nn))∧(f 8 = .s (.int .i64 i))∧(L = [(0,.sc md q (ia K)),(1,.sc md2 133 (ia M))])) (fun m f nb L hI=>?_) (nn) (⟨0,by omega,by omega,fun j hj=>by omega,rfl,rfl,rfl,rfl,rfl⟩)))))))))))))
 obtain ⟨i,hi,hm,hn,k0,k1,k7,k8,rfl⟩:=hI
 refine pH 0 k0 (pH 1 k1 (pH 7 k7 (pH 8 k8 (Zd (Zq rfl (Yb (Yd (Yi rfl (fun h5=>?_) (fun h5=>?_))))))))) <;> simp only [NM] at h5
 ·refine Yg (Yd (Yj (Zd (Zi rfl (Zi rfl (Ze (Yp (v:=.fn _ _) rfl (Zm rfl (Zi rfl (Zw rfl rfl (Yl (x:=K i) rfl rfl ZL (by rw [show 0+(i:Int).toNat*1 = i by omega]) (Vd (rs:=[1]) (Bs:=[.sc md2 133 (ia M)]) rfl (Ua (sU M (K i))) rfl rfl (YE rfl) (fun _ h=>h) rfl ⟨ZM,⟨_,_,_,rfl⟩,trivial⟩ rfl rfl rfl (.cons (.there .here) .nil) (Yb (Yi rfl (fun h6=>?_) (fun h6=>?_))))))))))))))) <;> simp only [NM] at h6
  ·refine Zd (Zi rfl (Zi rfl (Yb (Yh (⟨_,ZK rfl,?_⟩)))))
   refine ⟨ZI ?_,ZL,ZM⟩
   exact (y9 (i:=i) (by omega) (decide_eq_true (by omega)) hn).symm
  ·refine Yg (Ye (Zr rfl rfl (Zi rfl (Yb (⟨nn - (i+1),_,by omega,(.refl _),i+1,by omega,rfl,?_,rfl,rfl,rfl,rfl,rfl⟩)))))
   intro j hj
   by_cases e:j = i
   ·subst e; exact decide_eq_false (by omega)
   ·exact hn j (by omega)
 ·refine YZ (Xc (Zd (Yp rfl (Yb (Yh (⟨_,ZK rfl,?_⟩))))))
  refine ⟨ZI ?_,ZL,ZM⟩
  exact (JI fun j hj=>hn j (by omega)).symm
theorem xh {md md2:Md} {q:Nat} {c:Cp} (K M:Nat→Int) (nn:Nat) (hnn:nn≤1000000):WR AM 49 [.sl 0 0 nn 1 c,.fn 50 [.ptr 1 0 133]] [.sc md q (ia K),.sc md2 133 (ia M)] (fun v _ L=>v = .s (.bool (decide (0≤VS (fun j=>decide (M 131 < K j)) nn)))∧(0,Blk.sc md q (ia K))∈L∧(1,Blk.sc md2 133 (ia M))∈L):=by
 refine YI (a:=a49) rfl rfl (YH _) (ZP rfl) (m:=2) rfl (Zd (Yp rfl (Ze (Zm rfl (Yp (v:=.fn _ _) rfl (Wn (rs:=[0,1]) (Bs:=[.sc md q (ia K),.sc md2 133 (ia M)]) rfl (Ew (jR K M nn hnn)) rfl rfl (YE rfl) (fun _ h=>h) rfl ⟨ZL,⟨_,_,_,rfl⟩,ZM,⟨_,_,_,rfl⟩,trivial⟩ rfl rfl rfl (.cons .here (.cons (.there .here) .nil)) (Zq rfl (Zj rfl (Zf rfl ?_)))))))))
 exact ⟨rfl,ZL,ZM⟩
theorem jL {md:Md} {q:Nat} {c:Cp} (K M:Nat→Int) (nn:Nat) (hnn:nn≤1000000):WR AM 31 [.agg 133 (ia M),.sl 0 0 nn 1 c] [.sc md q (ia K)] (fun v _ L=>v = .s (.bool (XG M && !decide (0≤VS (fun j=>decide (M 131 < K j)) nn)))∧(0,Blk.sc md q (ia K))∈L):=by
 refine YI (a:=a31) rfl rfl (YH _) (ZP rfl) (m:=1) rfl (Zd (YB rfl (Yp rfl (Ze (Zx rfl (Yn rfl rfl ZL (Ys rfl (YF (Qg M)) rfl rfl rfl (Zj rfl (Yr (t:=8) rfl (fun h7=>?_) (fun h7=>?_))))))))))
 ·refine Ya rfl (Zm rfl (Ya rfl (Qz rfl (Ya rfl (Wn (rs:=[0,1]) (Bs:=[.sc md q (ia K),.sc .var 133 (ia M)]) rfl (Ew (xh K M nn hnn)) rfl rfl (YE rfl) (fun _ h=>h) rfl ⟨ZM,⟨_,_,_,rfl⟩,ZL,⟨_,_,_,rfl⟩,trivial⟩ rfl rfl rfl (.cons (.there .here) (.cons .here .nil)) (Ya rfl (Yu (r:=.bool _) rfl rfl (Zo rfl (Zj rfl (Zf rfl (⟨ZH ?_,ZM⟩)))))))))))
  rw [show XG M = true by assumption]
  rfl
 ·refine Z9 rfl rfl (ZC rfl (ZB rfl (Zo rfl (Zj rfl (Zf rfl (⟨ZH ?_,ZM⟩))))))
  rw [show XG M = false by assumption]
  rfl
theorem wl {md:Md} {q:Nat} {c:Cp} (n:Nat) (K M:Nat→Int) (l:List Int) (hn:l.length = n) (hK:∀ i,i < l.length→K i = l.getD i 0) (hl:n≤1000000):RB AM 31 [.agg 133 (ia M),.sl 0 0 n 1 c] [.sc md q (ia K)] (.s (.bool (XG M && l.all (fun n=>decide (n≤M 131))))) [.sc md q (ia K)]:=by
 subst hn
 have:=Ua (jL (md:=md) (q:=q) (c:=c) K M l.length hl)
 rw [allL_of hK] at this
 exact this
theorem vz (P:Nat→Int) (hz:∀ i,133≤i→P i = 0):WR AM 9 [.agg 133 (ia P)] [] (fun v _ _=>v = .s (.bool (XG P && decide (100≤P 131)))):=by
 have hid:ovA (fun _=>0) 0 133 P = P:=JA hz
 refine YI (a:=a9) rfl rfl (YH _) (ZP rfl) (m:=0) rfl (Zd (YB rfl (Yp rfl (Ze (Yn rfl rfl ZL (YA rfl (.agg rfl .nil) ?_))))))
 rw [hid]
 refine Xd rfl (.one rfl .nil) (Wn (rs:=[1]) (Bs:=[_]) (av:=[.agg 133 (ia P),.sl (1) 0 1 1 (.ex 1)]) rfl (wl (c:=.ex 1) 1 _ P [100] rfl Da (YE rfl)) rfl rfl (YE rfl) (fun _ h=>h) (by simp [rnL,V.renL,V.ren,pos]) ⟨ZL,⟨_,_,_,rfl⟩,trivial⟩ rfl rfl rfl (.cons .here .nil) (Zj rfl (Zf rfl (congrArg (fun b=>V.s (S.bool b)) (congrArg (fun b=>XG P && b) ?_)))))
 rw [Bool.eq_iff_iff]
 simp only [List.all_cons,List.all_nil,Bool.and_true,Bool.and_eq_true,decide_eq_true_eq]
theorem pA (P:Nat→Int) (hz:∀ i,133≤i→P i = 0):WR AM 11 [.agg 133 (ia P)] [] (fun v _ _=>v = .s (.bool (XG P && decide (150≤P 131)))):=by
 have hid:ovA (fun _=>0) 0 133 P = P:=JA hz
 refine YI (a:=a11) rfl rfl (YH _) (ZP rfl) (m:=0) rfl (Zd (YB rfl (Yp rfl (Ze (Yn rfl rfl ZL (YA rfl (.agg rfl .nil) ?_))))))
 rw [hid]
 refine Xd rfl (.one rfl (.one rfl .nil)) (Wn (rs:=[1]) (Bs:=[_]) (av:=[.agg 133 (ia P),.sl (1) 0 2 1 (.ex 2)]) rfl (wl (c:=.ex 2) 2 _ P [100,150] rfl wH (YE rfl)) rfl rfl (YE rfl) (fun _ h=>h) (by simp [rnL,V.renL,V.ren,pos]) ⟨ZL,⟨_,_,_,rfl⟩,trivial⟩ rfl rfl rfl (.cons .here .nil) (Zj rfl (Zf rfl (congrArg (fun b=>V.s (S.bool b)) (congrArg (fun b=>XG P && b) ?_)))))
 rw [Bool.eq_iff_iff]
 simp only [List.all_cons,List.all_nil,Bool.and_true,Bool.and_eq_true,decide_eq_true_eq]
 omega
def om (g:Nat→Int):Nat→Int
 | 0=>0
 | n+1=>om g n+g n
theorem oE {g h:Nat→Int}:∀ (n:Nat),(∀ s,s < n→g s = h s)→om g n = om h n
 | 0,_=>rfl
 | n+1,e=>by
  show om g n+g n = om h n+h n
  rw [oE n (fun s hs=>e s (by omega)),e n (by omega)]
theorem oS (P:Nat→Int) (c:Int):∀ n:Nat,kM P c n = om (fun s=>if P (s*2) = 6∧P (s*2+1) = c then 1 else 0) n
 | 0=>rfl
 | n+1=>by
  show kM P c n+(if P (0+(n:Int).toNat*2) = 6∧P (0+(n:Int).toNat*2+1) = c then 1 else 0) = om _ n+(if P (n*2) = 6∧P (n*2+1) = c then 1 else 0)
  rw [oS P c n,show 0+(n:Int).toNat*2 = n*2 by omega]
def Clean (P:Nat→Int):Prop:=∀ s:Nat,s < 64→(P (s*2) = 0∧P (s*2+1) = 0)∨(1≤P (s*2)∧P (s*2)≤6∧(P (s*2+1) = 0∨P (s*2+1) = 1))
theorem pV (s:Nat):sqI (s:Int) = s*2:=by show 0+(s:Int).toNat*2 = _; omega
def betOK (a b:Int):Bool:=!(Wt a b || Wq a b) || (ja (ED (K4 a) (K4 b)) ((ED a b).map K4) && (ED a b).all fun t=>decide (0≤t∧t < 64))
theorem t7 {P:Nat→Int} (h:Vq P = true):Clean P∧(P 128 = 0∨P 128 = 1):=by
 unfold Vq at h
 simp only [Bool.and_eq_true] at h
 have h:=JW h.1.1.1
 refine ⟨fun s hs=>?_,h.2.2.2⟩
 have:=h.1 s hs
 unfold okM at this
 rw [pV] at this
 omega
def mvT (m:Mv):Mv:=(K4 m.1,K4 m.2.1,m.2.2)
theorem us {P:Nat→Int} (h:XG P = true):Vq P = true:=by
 unfold XG at h
 rw [Bool.and_eq_true] at h
 exact h.1
theorem Em {P:Nat→Int} (hz:∀ i,133≤i→P i = 0):WT P = if XG P = true then (UB P 64).filter (Wi P) else []:=by
 unfold WT yj
 rw [JA hz,allS_is]
theorem oI {P:Nat→Int} (hz:∀ i,133≤i→P i = 0) {m:Mv}:m∈WT P↔XG P = true∧m∈UB P 64∧Wi P m = true:=by
 rw [Em hz]
 by_cases hp:XG P = true
 ·rw [if_pos hp,List.mem_filter]; simp [hp]
 ·rw [if_neg hp]; simp [hp]
set_option maxRecDepth 100000
def yg (i:Nat):Int:=if i = 130 then -1 else if i = 132 then 1 else 0
def startF (i:Nat):Int :=
 if i < 16 then (if i % 2 = 0 then ([4,2,3,5,6,3,2,4]:List Int).getD (i / 2) 0 else 0)
 else if i < 32 then (if i % 2 = 0 then 1 else 0)
 else if i < 96 then 0
 else if i < 112 then 1
 else if i < 128 then (if i % 2 = 0 then ([4,2,3,5,6,3,2,4]:List Int).getD ((i - 112) / 2) 0 else 1)
 else if i = 128 then 0 else if i = 129 then 15 else if i = 130 then -1 else if i = 131 then 0 else if i = 132 then 1 else 0
theorem tg (i:Nat) (h:133≤i):yg i = 0:=by
 unfold yg
 rw [if_neg (by omega),if_neg (by omega)]
theorem ovA_is {P Q R:Nat→Int} {m:Nat} (h:∀ i,i < m→Q i = R i) (h2:∀ i,m≤i→P i = R i):ovA P 0 m Q = R:=by
 funext i
 by_cases hi:i < m
 ·rw [XR (by omega)]; exact h i hi
 ·rw [WA (by omega)]; exact h2 i (by omega)
theorem vx :WR AM 18 [] [] (fun v _ _=>v = .agg 133 (ia yg)):=by
 refine YI (a:=a18) rfl rfl (YH _) (ZP rfl) (m:=0) rfl (Zd (Yx (Ze (YA rfl (.one rfl (.one rfl .nil)) (Yy rfl rfl rfl rfl .here (Yb (Yh (⟨_,X5 rfl rfl ZL (YS),?_⟩))))))))
 refine congrArg (fun P=>V.agg 133 (ia P)) ?_
 refine ovA_is (by decide +kernel) fun i hi=>(tg i hi).symm
set_option maxRecDepth 100000
def bareP (w b q:Int):Nat→Int:=ov (ovA (ovA (ovA (ovA (fun _=>0) 0 133 yg) (0+q.toNat*2) 2 (ov (fun _=>0) 0 5)) (0+w.toNat*2) 2 (ov (fun _=>0) 0 6)) (0+b.toNat*2) 2 (ov (ov (fun _=>0) 0 6) 1 1)) 128 1
def JK (w b q:Int):Nat→Int:=ovA (fun _=>0) 0 133 (bareP w b q)
theorem ovA_z {P Q:Nat→Int} {o n:Nat} (h:∀ i,133≤i→P i = 0) (hb:o+n≤133):∀ i,133≤i→ovA P o n Q i = 0:=fun i hi=>by rw [WA (by omega)]; exact h i hi
theorem Db (w b q:Int):∀ i,133≤i→JK w b q i = 0:=ovA_z (fun _ _=>rfl) (by omega)
theorem end1:(ofN (JK 45 62 54) (WT (JK 45 62 54)).length) = (1,1):=by
 rw [Em (Db _ _ _)]
 decide +kernel
theorem end2:(ofN (JK 45 63 53) (WT (JK 45 63 53)).length) = (3,2):=by
 rw [Em (Db _ _ _)]
 decide +kernel
theorem q9 (w b q:Int) (hw:0≤w∧w < 64) (hb:0≤b∧b < 64) (hq:0≤q∧q < 64):WR AM 16 [.s (.int .i64 w),.s (.int .i64 b),.s (.int .i64 q)] [] (fun v _ _=>v = .agg 133 (ia (JK w b q))):=by
 refine YI (a:=a16) rfl rfl (YH _) (ZP rfl) (m:=0) rfl (Zd (Yx (Ze (Ys rfl (YF vx) rfl rfl rfl (Yx (Yy rfl rfl rfl rfl .here (Ze (Zi rfl (YA rfl (.one rfl .nil) (Zx rfl (Zv rfl rfl rfl (Yy rfl rfl rfl rfl .here (Ze (Zi rfl (YA rfl (.one rfl .nil) (Zx rfl (Zv rfl rfl rfl (Yy rfl rfl rfl rfl .here (Ze (Zi rfl (YA rfl (.one rfl (.one rfl .nil)) (Zx rfl (Zv rfl rfl rfl (Yy rfl rfl rfl rfl .here (Ze (Yc (o':=128) rfl rfl rfl (Yz rfl rfl rfl rfl .here (Ze (Yn rfl rfl ZL ?_)))))))))))))))))))))))))))))
 refine Yy rfl rfl rfl rfl (.there .here) (Yb (Yh (⟨_,X5 rfl rfl ZM (YS),?_⟩)))
 rfl
theorem qd :WR AM 15 [] [] (fun v _ _=>v = .s (.bool true)):=by
 have hend1:=YF (yO (JK 45 62 54) (Db _ _ _))
 rw [end1] at hend1
 have hend2:=YF (yO (JK 45 63 53) (Db _ _ _))
 rw [end2] at hend2
 refine YI (a:=a15) rfl rfl (YH _) (ZP rfl) (m:=0) rfl (Zd (Yp rfl (Ze (Ys rfl (YF (q9 45 62 54 (by omega) (by omega) (by omega))) rfl rfl rfl (Ys rfl (hend1) rfl rfl rfl (Zn rfl (YC (v:=.s (.int _ _)) rfl rfl (YC (v:=.s (.int _ _)) rfl rfl (Zi rfl (Zi rfl (Ze (Ys rfl (YF (q9 45 63 53 (by omega) (by omega) (by omega))) rfl rfl rfl (Ys rfl (hend2) rfl rfl rfl (Zn rfl (YC (v:=.s (.int _ _)) rfl rfl (YC (v:=.s (.int _ _)) rfl rfl (Zi rfl (Zi rfl (Ze (Zi rfl (Yq rfl rfl (Ui rfl) (Zj rfl (Ya rfl (Zi rfl (Ya rfl (Yq rfl rfl (Ui rfl) (Zo rfl (Zj rfl (Ya rfl ?_)))))))))))))))))))))))))))))
 refine Zi rfl (Ya rfl (Yq rfl rfl (Ui rfl) (Zo rfl (Zj rfl (Ya rfl (Zi rfl (Ya rfl (Yq rfl rfl (Ui rfl) (Zo rfl (Zj rfl (Zf rfl ?_)))))))))))
 rfl
theorem perm6 {α:Type} (a b c d e f:α):[a,b,c,d,e,f].Perm [e,d,c,b,f,a] :=
 (((List.reverse_perm [e,d,c,b]).append_right [f]).cons a).trans (List.perm_append_singleton a [e,d,c,b,f]).symm
def gX (g0 g11 g20 g21:Nat→S) (x5 x12 x13 x16 x17 x18:S) (so:Nat) (c:Cp):List V:=[.agg 133 g0,.sl 5 0 1 3 c,.ptr 1 0 133,.undef,.ptr 2 0 133,.s x5,.undef,.ptr 3 0 3,.ptr 4 0 1,.undef,.undef,.agg 133 g11,.s x12,.s x13,.undef,.sl 5 0 1 3 c,.s x16,.s x17,.s x18,.ptr 5 so 3,.agg 3 g20,.agg 133 g21,.fn 67 [.ptr 6 0 133],.undef,.undef,.undef,.undef,.undef,.undef,.undef,.undef,.undef,.undef,.undef,.undef]
noncomputable def gV (g0 g11 g20 g21:Nat→S) (x5 x12 x13 x16 x17 x18:S) (so:Nat) (c:Cp) (st:Nat) (P1:Nat→Int) (G2:Nat→S) (M:Nat→Int) (r:Nat→S) (md:Md) (q:Nat) (G5:Nat→S) (P:Nat→Int):List Blk:=[.lp 2324 Zac (gX g0 g11 g20 g21 x5 x12 x13 x16 x17 x18 so c) st,.sc .var 133 (ia P1),.sc .var 133 G2,.sc .var 3 (ia M),.sc .var 1 r,.sc md q G5,.sc .var 133 (ia P)]
theorem Zag (g0 g11 g20 g21:Nat→S) (x5 x12 x13 x16 x17 x18:S) (so:Nat) (c:Cp) (P1:Nat→Int) (G2:Nat→S) (M X Y:Nat→Int) (r:Nat→S) (md:Md) (q:Nat) (G5:Nat→S) (P:Nat→Int) (h:eqI 3 (ovA (fun _=>0) 0 3 X) M = false) :
  WR AM 2324 [.pan .undef,.yv 0,.agg 3 (ia X),.agg 133 (ia Y)] (gV g0 g11 g20 g21 x5 x12 x13 x16 x17 x18 so c 0 (P1) G2 M (r) md q G5 P) (fun v n L=>v = .s (.bool true)∧UQ L 0 (gV g0 g11 g20 g21 x5 x12 x13 x16 x17 x18 so c 0 (P1) G2 M (WU r 0 1 fun _=>.bool false) md q G5 P)):=by
 refine RC (N:=35) (B:=B25) (f:=YH (((gX g0 g11 g20 g21 x5 x12 x13 x16 x17 x18 so c).set 23 (.agg 3 (ia X))).set 24 (.agg 133 (ia Y)))) (caps:=gX g0 g11 g20 g21 x5 x12 x13 x16 x17 x18 so c) rfl rfl rfl (Ek rfl) rfl (Yd (Ye (Yx (Yy rfl rfl rfl rfl .here (Yb (Ye (Yx (Yy rfl rfl rfl rfl .here (Yb (⟨2324,Zac,gX g0 g11 g20 g21 x5 x12 x13 x16 x17 x18 so c,rfl,?_⟩))))))))))
 refine Yj (Zd (Yn rfl rfl ZM (Yn rfl rfl (.tail _ (.tail _ ZO)) (Yw (b:=false) rfl rfl h (RO rfl rfl rfl rfl rfl rfl (.there (.there (.there (.there (.there (.there .here)))))) (Ze (Ym (x:=.bool _) rfl rfl (.tail _ (.tail _ (.tail _ ZO))) rfl (Yb (ZA rfl (Yg ?_))))))))))
 exact ⟨2324,Zac,gX g0 g11 g20 g21 x5 x12 x13 x16 x17 x18 so c,rfl,rfl,⟨ZN,ZO,(.tail _ ZO),(.tail _ (.tail _ ZO)),(.tail _ (.tail _ (.tail _ ZO))),(.tail _ (.tail _ (.tail _ (.tail _ ZO)))),(.tail _ (.tail _ (.tail _ (.tail _ (.tail _ ZO))))),trivial⟩⟩
theorem Zaf (g0 g11 g20 g21:Nat→S) (x5 x12 x13 x16 x17 x18:S) (so:Nat) (c:Cp) (P1:Nat→Int) (G2:Nat→S) (M X Y:Nat→Int) (r:Nat→S) (md:Md) (q:Nat) (G5:Nat→S) (P:Nat→Int) (h:eqI 3 (ovA (fun _=>0) 0 3 X) M = true) :
  WR AM 2324 [.pan .undef,.yv 0,.agg 3 (ia X),.agg 133 (ia Y)] (gV g0 g11 g20 g21 x5 x12 x13 x16 x17 x18 so c 0 (P1) G2 M (r) md q G5 P) (fun v n L=>v = .s (.bool false)∧UQ L 0 (gV g0 g11 g20 g21 x5 x12 x13 x16 x17 x18 so c 5 (ovA P1 0 133 (ovA (fun _=>0) 0 133 Y)) G2 M (WU r 0 1 fun _=>.bool true) md q G5 P)):=by
 refine RC (N:=35) (B:=B25) (f:=YH (((gX g0 g11 g20 g21 x5 x12 x13 x16 x17 x18 so c).set 23 (.agg 3 (ia X))).set 24 (.agg 133 (ia Y)))) (caps:=gX g0 g11 g20 g21 x5 x12 x13 x16 x17 x18 so c) rfl rfl rfl (Ek rfl) rfl (Yd (Ye (Yx (Yy rfl rfl rfl rfl .here (Yb (Ye (Yx (Yy rfl rfl rfl rfl .here (Yb (⟨2324,Zac,gX g0 g11 g20 g21 x5 x12 x13 x16 x17 x18 so c,rfl,?_⟩))))))))))
 refine Yj (Zd (Yn rfl rfl ZM (Yn rfl rfl (.tail _ (.tail _ ZO)) (Yw (b:=true) rfl rfl h (RO rfl rfl rfl rfl rfl rfl (.there (.there (.there (.there (.there (.there .here)))))) (Ze (Ym (x:=.bool _) rfl rfl (.tail _ (.tail _ (.tail _ ZO))) rfl (Yb (Zz rfl (Zd (Yn rfl rfl ZL (Yy rfl rfl rfl rfl (.there (.there (.there .here))) (Yb (YZ (ZaE rfl ?_)))))))))))))))
 exact ⟨2324,Zac,gX g0 g11 g20 g21 x5 x12 x13 x16 x17 x18 so c,rfl,rfl,⟨ZN,ZO,(.tail _ ZO),(.tail _ (.tail _ ZO)),(.tail _ (.tail _ (.tail _ ZO))),(.tail _ (.tail _ (.tail _ (.tail _ ZO)))),(.tail _ (.tail _ (.tail _ (.tail _ (.tail _ ZO))))),trivial⟩⟩
theorem mv_eq {X M:Nat→Int} {m:Mv} (h0:X 0 = m.1) (h1:X 1 = m.2.1) (h2:X 2 = m.2.2):eqI 3 X M = decide (m = (M 0,M 1,M 2)):=by
 rw [Bool.eq_iff_iff,Qx,decide_eq_true_eq]
 constructor
 ·intro h
  exact Prod.ext (h0.symm.trans (h 0 (by omega))) (Prod.ext (h1.symm.trans (h 1 (by omega))) (h2.symm.trans (h 2 (by omega))))
 ·intro h
  have e0:=congrArg (fun m:Mv=>m.1) h
  have e1:=congrArg (fun m:Mv=>m.2.1) h
  have e2:=congrArg (fun m:Mv=>m.2.2) h
  exact three (h0.trans e0) (h1.trans e1) (h2.trans e2)
theorem in_at {l:List Mv} {m:Mv} (h:m∈l):∃ i:Nat,i < l.length∧l.getD i (0,0,0) = m:=by
 obtain ⟨i,hi,rfl⟩:=List.mem_iff_getElem.1 h
 exact ⟨i,hi,by rw [List.getD_eq_getElem?_getD,List.getElem?_eq_getElem hi]; rfl⟩
theorem iter_pl (g0 g11 g20 g21:Nat→S) (x5 x12 x13 x16 x17 x18:S) (so:Nat) (c:Cp) (P1:Nat→Int) (G2:Nat→S) (M:Nat→Int) (r:Nat→S) (md:Md) (q:Nat) (G5:Nat→S) (P:Nat→Int) (hin:(M 0,M 1,M 2)∈yj P):WR AM 67 [.yv 0,.ptr 6 0 133] (gV g0 g11 g20 g21 x5 x12 x13 x16 x17 x18 so c 0 (P1) G2 M (r) md q G5 P) (fun v _ L=>v = .tup []∧∃ r,UQ L 0 (gV g0 g11 g20 g21 x5 x12 x13 x16 x17 x18 so c 5 (ovA P1 0 133 (ovA (fun _=>0) 0 133 (ovA (fun _=>0) 0 133 (XI P (M 0) (M 1) (M 2))))) G2 M (WU r 0 1 fun _=>.bool true) md q G5 P)):=by
 refine YI (a:=a67) rfl rfl (YH _) (ZP rfl) (m:=7) rfl (Zd (Zx rfl (Yn rfl rfl (.tail _ (.tail _ (.tail _ ZO))) ?_)))
 obtain ⟨l,hleq⟩:∃ l,l = Td P:=⟨_,rfl⟩
 have hall:=ZaC P
 rw [← hleq] at hall
 have hlen:=ru P
 rw [← hleq] at hlen
 refine YD rfl (hall) rfl rfl (fun v1 own1 n1 hr1=>Vn rfl hr1.rx (by decide) (Xm l) (Yp rfl (Yb (Yj (Xe (List.Sublist.append (.refl _) (.refl _)) (Xg (fun m f _ L=>∃ (i:Nat) (r:Nat→S),(i≤l.length)∧(m = l.length - i)∧(∀ j:Nat,j < i→Wi P (l.getD j (0,0,0)) = true→l.getD j (0,0,0) ≠ (M 0,M 1,M 2))∧(f 0 = .yv 0)∧(f 1 = .ptr 6 0 133)∧(f 9 = v1)∧(f 10 = .s (.int .i64 l.length))∧(f 11 = .s (.int .i64 i))∧(L = (own1++[(0,.lp 2324 Zac (gX g0 g11 g20 g21 x5 x12 x13 x16 x17 x18 so c) 0),(1,.sc .var 133 (ia P1)),(2,.sc .var 133 G2),(3,.sc .var 3 (ia M)),(4,.sc .var 1 r),(5,.sc md q G5),(6,.sc .var 133 (ia P))]))) (fun m f nb L hI=>?_) (l.length) (⟨0,r,by omega,by omega,(fun j hj=>by omega),rfl,rfl,rfl,rfl,rfl,rfl⟩)))))))
 obtain ⟨i,r,hi,hm,hno,k0,k1,k9,k10,k11,rfl⟩:=hI
 refine pH 0 k0 (pH 1 k1 (pH 9 k9 (pH 10 k10 (pH 11 k11 (Zd (Zq rfl (Yb (Yd (Yi rfl (fun h1=>?_) (fun h1=>?_)))))))))) <;> simp only [NM] at h1
 ·refine Yg (Yd (Yj (Zd ?_)))
  obtain ⟨b1,q1,md1,c1,F1,rfl,rfl,hF1⟩:=hr1.rx.at (by decide) (Xm l) (by omega)
  refine Zw rfl rfl (Yo rfl rfl ZL (Yx (Yy rfl rfl rfl rfl .here (Yb (Yd (Zd ?_))))))
  obtain ⟨hx0,hx1,hx2⟩:=su hF1 (i:=i) (by omega)
  have hbd:(0≤(l.getD i (0,0,0)).1∧(l.getD i (0,0,0)).1 < 64)∧(0≤(l.getD i (0,0,0)).2.1∧(l.getD i (0,0,0)).2.1 < 64):=Zaw (P:=P) (by rw [← hleq]; exact g6 (by omega))
  have hcas:=YF (qm P (mvX F1 (0+(i:Int).toNat*3)) (by omega) (by omega))
  rw [hx0,hx1] at hcas
  have hmove:=YF (sr P (mvX F1 (0+(i:Int).toNat*3)))
  rw [hx0,hx1,hx2] at hmove
  have hid:ovA (fun _=>0) 0 133 (XI P (l.getD i (0,0,0)).1 (l.getD i (0,0,0)).2.1 (l.getD i (0,0,0)).2.2) = (XI P (l.getD i (0,0,0)).1 (l.getD i (0,0,0)).2.1 (l.getD i (0,0,0)).2.2):=JA (fun i hi=>x6 hi)
  have hchk:=EM (ovA (fun _=>0) 0 133 (XI P (l.getD i (0,0,0)).1 (l.getD i (0,0,0)).2.1 (l.getD i (0,0,0)).2.2)) (P 128)
  rw [show Xu (ovA (fun _=>0) 0 133 (XI P (l.getD i (0,0,0)).1 (l.getD i (0,0,0)).2.1 (l.getD i (0,0,0)).2.2)) (P 128) = Xu (XI P (l.getD i (0,0,0)).1 (l.getD i (0,0,0)).2.1 (l.getD i (0,0,0)).2.2) (P 128) by rw [hid]] at hchk
  refine Yn rfl rfl (.tail _ (.tail _ (.tail _ (.tail _ (.tail _ ZO))))) (Yn rfl rfl ZL (Ys rfl (hcas) rfl rfl rfl (Zj rfl (Yr (t:=18) rfl (fun h2=>?_) (fun h2=>?_)))))
  ·refine Ya rfl (Yn rfl rfl (.tail _ (.tail _ (.tail _ (.tail _ (.tail _ ZO))))) (Ya rfl (Zx rfl (Ya rfl (Yl (x:=(l.getD i (0,0,0)).1) rfl rfl ZL (hx0) (Ya rfl (Zx rfl (Ya rfl (Yl (x:=(l.getD i (0,0,0)).1) rfl rfl ZL (hx0) (Ya rfl (Zy rfl (Ya rfl (Yl (x:=(l.getD i (0,0,0)).2.1) rfl rfl ZL (hx1) (Ya rfl (Zr rfl rfl (Ya rfl (Zt rfl rfl (Ya rfl (Xd rfl (.one rfl (.one rfl .nil)) (Ya rfl (VF (caps:=[]) rfl (Zaz P [(l.getD i (0,0,0)).1,((l.getD i (0,0,0)).1+(l.getD i (0,0,0)).2.1) / 2] (YE rfl)) rfl ((.row rfl wH)) (KG ZL) rfl rfl rfl (Ya rfl (Yu (r:=.bool _) rfl rfl (Zo rfl (Yb (Yi rfl (fun h3=>?_) (fun h3=>?_))))))))))))))))))))))))))) <;> simp only [NM] at h3
   ·refine YZ (Xc (Ye (Zr rfl rfl (Zi rfl (Yb (⟨l.length - (i+1),_,by omega,(.cons _ (.cons _ (.refl _))),i+1,_,by omega,rfl,?_,rfl,rfl,rfl,rfl,rfl,rfl⟩))))))
    intro j hj hlj
    by_cases e:j = i
    · subst e
      (rw [ya (by assumption) (by assumption)] at hlj; cases hlj)
    · exact hno j (by omega) hlj
   ·refine Yg (Zd (Zx rfl (Yn rfl rfl (.tail _ (.tail _ (.tail _ (.tail _ (.tail _ (.tail _ ZO)))))) (Yn rfl rfl ZM (Ys rfl (hmove) rfl rfl rfl (Zn rfl (YC (v:=.agg _ _) rfl rfl (YC (v:=.s (.int _ _)) rfl rfl (Yx (Yy rfl rfl rfl rfl .here (Zi rfl (Yb (Yd (K5 (Ki (l1:=[_,_,_,_,_,_,_,_,_,_,_,_,_,_]) (l2:=[_,_,_]) (Zi rfl (Zq rfl (Zj rfl (Yr (t:=41) rfl (fun h4=>?_) (fun h4=>?_)))))))))))))))))))) <;> simp only [NM] at h4
    ·refine Ya rfl (Yn rfl rfl ZL (Ya rfl (Zx rfl (Ya rfl (Yc (o':=128) rfl rfl rfl (Ya rfl (Yl rfl rfl (.tail _ (.tail _ (.tail _ (.tail _ (.tail _ (.tail _ (.tail _ ZO))))))) rfl (Ya rfl (Ys rfl (hchk) rfl rfl rfl (Ya rfl (Yu (r:=.bool _) rfl rfl (Zo rfl (Zj rfl (Yr (t:=49) rfl (fun h5=>?_) (fun h5=>?_))))))))))))))) <;> simp only [NM] at h5
     ·refine Ya rfl (Yp (v:=.yv _) rfl (Ya rfl (Yn rfl rfl ZN (Ya rfl (Yn rfl rfl ZL (Yb (Qn (.cons _ (.cons _ (.cons _ (.refl _)))) (Eo rfl ?_))))))))
      have hleg:Wi P (l.getD i (0,0,0)) = true:=Zaj (by first | exact .inl (by assumption) | exact .inr (by assumption)) (by assumption) (by assumption)
      have hme:=mv_eq (X:=ovA (fun _=>0) 0 3 (mvX F1 (0+(i:Int).toNat*3))) (M:=M) hx0 hx1 hx2
      by_cases hxi:(l.getD i (0,0,0)) = (M 0,M 1,M 2)
      ·rw [decide_eq_true hxi] at hme
       refine pv (Lr:=[(0,_),(1,_),(2,_),(3,_),(4,_),(5,_),(6,_)]) (L0:=[_]) (vs:=[.yv 0,.agg 3 (ia (mvX F1 (0+(i:Int).toNat*3))),.agg 133 (ia (ovA (fun _=>0) 0 133 (XI P (l.getD i (0,0,0)).1 (l.getD i (0,0,0)).2.1 (l.getD i (0,0,0)).2.2)))]) (Bs:=gV g0 g11 g20 g21 x5 x12 x13 x16 x17 x18 so c 0 (P1) G2 M (r) md q G5 P) (List.perm_append_comm (l₁:=[_]) (l₂:=[_,_,_,_,_,_,_])) rfl rfl ZM rfl rfl rfl rfl (U0 (Zaf g0 g11 g20 g21 x5 x12 x13 x16 x17 x18 so c P1 G2 M (mvX F1 (0+(i:Int).toNat*3)) (ovA (fun _=>0) 0 133 (XI P (l.getD i (0,0,0)).1 (l.getD i (0,0,0)).2.1 (l.getD i (0,0,0)).2.2)) r md q G5 P hme) ?_)
       rintro v9 n9 L9 ⟨rfl,hfa⟩
       refine ⟨gV g0 g11 g20 g21 x5 x12 x13 x16 x17 x18 so c 5 (ovA P1 0 133 (ovA (fun _=>0) 0 133 (ovA (fun _=>0) 0 133 (XI P (l.getD i (0,0,0)).1 (l.getD i (0,0,0)).2.1 (l.getD i (0,0,0)).2.2)))) G2 M (WU r 0 1 fun _=>.bool true) md q G5 P,.s (.bool false),_,hfa,rfl,rfl,rfl,rfl,?_⟩
       refine WY (V7 (List.perm_append_comm (l₁:=[_,_,_,_,_,_,_]) (l₂:=[_])) (Ya rfl (Yu (r:=.bool _) rfl rfl (Zo rfl (Yb (Zz rfl (Yh (⟨_,YS,?_⟩))))))))
       refine ⟨rfl,r,?_⟩
       have e0:=congrArg (fun m:Mv=>m.1) hxi
       have e1:=congrArg (fun m:Mv=>m.2.1) hxi
       have e2:=congrArg (fun m:Mv=>m.2.2) hxi
       simp only at e0 e1 e2
       rw [← e0,← e1,← e2]
       exact ⟨ZM,ZN,ZO,(.tail _ ZO),(.tail _ (.tail _ ZO)),(.tail _ (.tail _ (.tail _ ZO))),(.tail _ (.tail _ (.tail _ (.tail _ ZO)))),trivial⟩
      ·rw [decide_eq_false hxi] at hme
       refine pv (Lr:=[(0,_),(1,_),(2,_),(3,_),(4,_),(5,_),(6,_)]) (L0:=[_]) (vs:=[.yv 0,.agg 3 (ia (mvX F1 (0+(i:Int).toNat*3))),.agg 133 (ia (ovA (fun _=>0) 0 133 (XI P (l.getD i (0,0,0)).1 (l.getD i (0,0,0)).2.1 (l.getD i (0,0,0)).2.2)))]) (Bs:=gV g0 g11 g20 g21 x5 x12 x13 x16 x17 x18 so c 0 (P1) G2 M (r) md q G5 P) (List.perm_append_comm (l₁:=[_]) (l₂:=[_,_,_,_,_,_,_])) rfl rfl ZM rfl rfl rfl rfl (U0 (Zag g0 g11 g20 g21 x5 x12 x13 x16 x17 x18 so c P1 G2 M (mvX F1 (0+(i:Int).toNat*3)) (ovA (fun _=>0) 0 133 (XI P (l.getD i (0,0,0)).1 (l.getD i (0,0,0)).2.1 (l.getD i (0,0,0)).2.2)) r md q G5 P hme) ?_)
       rintro v9 n9 L9 ⟨rfl,hfa⟩
       refine ⟨gV g0 g11 g20 g21 x5 x12 x13 x16 x17 x18 so c 0 (P1) G2 M (WU r 0 1 fun _=>.bool false) md q G5 P,.s (.bool true),_,hfa,rfl,rfl,rfl,rfl,?_⟩
       refine WY (V7 (List.perm_append_comm (l₁:=[_,_,_,_,_,_,_]) (l₂:=[_])) (Ya rfl (Yu (r:=.bool _) rfl rfl (Zo rfl (Yb (ZA rfl (Yg (Ye (Zr rfl rfl (Zi rfl (Yb (⟨l.length - (i+1),_,by omega,(.refl _),i+1,_,by omega,rfl,?_,rfl,rfl,rfl,rfl,rfl,rfl⟩))))))))))))
       intro j hj hlj
       by_cases e:j = i
       · subst e
         exact hxi
       · exact hno j (by omega) hlj
     ·refine ZC rfl (ZB rfl (Yb (WY (ZC rfl (Zo rfl (Yb (ZA rfl (Yg (Ye (Zr rfl rfl (Zi rfl (Yb (⟨l.length - (i+1),_,by omega,(.cons _ (.cons _ (.cons _ (.refl _)))),i+1,_,by omega,rfl,?_,rfl,rfl,rfl,rfl,rfl,rfl⟩)))))))))))))
      intro j hj hlj
      by_cases e:j = i
      · subst e
        (rw [zJ (by assumption)] at hlj; cases hlj)
      · exact hno j (by omega) hlj
    ·refine ZD rfl (ZC rfl (Zo rfl (Zj rfl (ZC rfl (ZB rfl (Yb (WY (ZC rfl (Zo rfl (Yb (ZA rfl (Yg (Ye (Zr rfl rfl (Zi rfl (Yb (⟨l.length - (i+1),_,by omega,(.cons _ (.cons _ (.cons _ (.refl _)))),i+1,_,by omega,rfl,?_,rfl,rfl,rfl,rfl,rfl,rfl⟩)))))))))))))))))
     intro j hj hlj
     by_cases e:j = i
     · subst e
       (rw [zn (by assumption)] at hlj; cases hlj)
     · exact hno j (by omega) hlj
  ·refine Z9 rfl rfl (ZE rfl (ZC rfl (ZB rfl (Zo rfl (Yb (ZA rfl (Yg (Zd (Zx rfl (Yn rfl rfl (.tail _ (.tail _ (.tail _ (.tail _ (.tail _ ZO))))) (Yn rfl rfl ZL (Ys rfl (hmove) rfl rfl rfl (Zn rfl (YC (v:=.agg _ _) rfl rfl (YC (v:=.s (.int _ _)) rfl rfl (Yx (Yy rfl rfl rfl rfl .here (Zi rfl (Yb (Yd (K5 (Ki (l1:=[_,_,_,_,_,_,_,_,_,_,_,_,_,_]) (l2:=[_,_,_]) (Zi rfl (Zq rfl (Zj rfl (Yr (t:=41) rfl (fun h6=>?_) (fun h6=>?_))))))))))))))))))))))))))) <;> simp only [NM] at h6
   ·refine Ya rfl (Yn rfl rfl ZL (Ya rfl (Zx rfl (Ya rfl (Yc (o':=128) rfl rfl rfl (Ya rfl (Yl rfl rfl (.tail _ (.tail _ (.tail _ (.tail _ (.tail _ (.tail _ ZO)))))) rfl (Ya rfl (Ys rfl (hchk) rfl rfl rfl (Ya rfl (Yu (r:=.bool _) rfl rfl (Zo rfl (Zj rfl (Yr (t:=49) rfl (fun h7=>?_) (fun h7=>?_))))))))))))))) <;> simp only [NM] at h7
    ·refine Ya rfl (Yp (v:=.yv _) rfl (Ya rfl (Yn rfl rfl ZM (Ya rfl (Yn rfl rfl ZL (Yb (Qn (.cons _ (.cons _ (.refl _))) (Eo rfl ?_))))))))
     have hleg:Wi P (l.getD i (0,0,0)) = true:=Zaj (by first | exact .inl (by assumption) | exact .inr (by assumption)) (by assumption) (by assumption)
     have hme:=mv_eq (X:=ovA (fun _=>0) 0 3 (mvX F1 (0+(i:Int).toNat*3))) (M:=M) hx0 hx1 hx2
     by_cases hxi:(l.getD i (0,0,0)) = (M 0,M 1,M 2)
     ·rw [decide_eq_true hxi] at hme
      refine pv (Lr:=[(0,_),(1,_),(2,_),(3,_),(4,_),(5,_),(6,_)]) (L0:=[_]) (vs:=[.yv 0,.agg 3 (ia (mvX F1 (0+(i:Int).toNat*3))),.agg 133 (ia (ovA (fun _=>0) 0 133 (XI P (l.getD i (0,0,0)).1 (l.getD i (0,0,0)).2.1 (l.getD i (0,0,0)).2.2)))]) (Bs:=gV g0 g11 g20 g21 x5 x12 x13 x16 x17 x18 so c 0 (P1) G2 M (r) md q G5 P) (List.perm_append_comm (l₁:=[_]) (l₂:=[_,_,_,_,_,_,_])) rfl rfl ZM rfl rfl rfl rfl (U0 (Zaf g0 g11 g20 g21 x5 x12 x13 x16 x17 x18 so c P1 G2 M (mvX F1 (0+(i:Int).toNat*3)) (ovA (fun _=>0) 0 133 (XI P (l.getD i (0,0,0)).1 (l.getD i (0,0,0)).2.1 (l.getD i (0,0,0)).2.2)) r md q G5 P hme) ?_)
      rintro v9 n9 L9 ⟨rfl,hfa⟩
      refine ⟨gV g0 g11 g20 g21 x5 x12 x13 x16 x17 x18 so c 5 (ovA P1 0 133 (ovA (fun _=>0) 0 133 (ovA (fun _=>0) 0 133 (XI P (l.getD i (0,0,0)).1 (l.getD i (0,0,0)).2.1 (l.getD i (0,0,0)).2.2)))) G2 M (WU r 0 1 fun _=>.bool true) md q G5 P,.s (.bool false),_,hfa,rfl,rfl,rfl,rfl,?_⟩
      refine WY (V7 (List.perm_append_comm (l₁:=[_,_,_,_,_,_,_]) (l₂:=[_])) (Ya rfl (Yu (r:=.bool _) rfl rfl (Zo rfl (Yb (Zz rfl (Yh (⟨_,YS,?_⟩))))))))
      refine ⟨rfl,r,?_⟩
      have e0:=congrArg (fun m:Mv=>m.1) hxi
      have e1:=congrArg (fun m:Mv=>m.2.1) hxi
      have e2:=congrArg (fun m:Mv=>m.2.2) hxi
      simp only at e0 e1 e2
      rw [← e0,← e1,← e2]
      exact ⟨ZM,ZN,ZO,(.tail _ ZO),(.tail _ (.tail _ ZO)),(.tail _ (.tail _ (.tail _ ZO))),(.tail _ (.tail _ (.tail _ (.tail _ ZO)))),trivial⟩
     ·rw [decide_eq_false hxi] at hme
      refine pv (Lr:=[(0,_),(1,_),(2,_),(3,_),(4,_),(5,_),(6,_)]) (L0:=[_]) (vs:=[.yv 0,.agg 3 (ia (mvX F1 (0+(i:Int).toNat*3))),.agg 133 (ia (ovA (fun _=>0) 0 133 (XI P (l.getD i (0,0,0)).1 (l.getD i (0,0,0)).2.1 (l.getD i (0,0,0)).2.2)))]) (Bs:=gV g0 g11 g20 g21 x5 x12 x13 x16 x17 x18 so c 0 (P1) G2 M (r) md q G5 P) (List.perm_append_comm (l₁:=[_]) (l₂:=[_,_,_,_,_,_,_])) rfl rfl ZM rfl rfl rfl rfl (U0 (Zag g0 g11 g20 g21 x5 x12 x13 x16 x17 x18 so c P1 G2 M (mvX F1 (0+(i:Int).toNat*3)) (ovA (fun _=>0) 0 133 (XI P (l.getD i (0,0,0)).1 (l.getD i (0,0,0)).2.1 (l.getD i (0,0,0)).2.2)) r md q G5 P hme) ?_)
      rintro v9 n9 L9 ⟨rfl,hfa⟩
      refine ⟨gV g0 g11 g20 g21 x5 x12 x13 x16 x17 x18 so c 0 (P1) G2 M (WU r 0 1 fun _=>.bool false) md q G5 P,.s (.bool true),_,hfa,rfl,rfl,rfl,rfl,?_⟩
      refine WY (V7 (List.perm_append_comm (l₁:=[_,_,_,_,_,_,_]) (l₂:=[_])) (Ya rfl (Yu (r:=.bool _) rfl rfl (Zo rfl (Yb (ZA rfl (Yg (Ye (Zr rfl rfl (Zi rfl (Yb (⟨l.length - (i+1),_,by omega,(.refl _),i+1,_,by omega,rfl,?_,rfl,rfl,rfl,rfl,rfl,rfl⟩))))))))))))
      intro j hj hlj
      by_cases e:j = i
      · subst e
        exact hxi
      · exact hno j (by omega) hlj
    ·refine ZC rfl (ZB rfl (Yb (WY (ZC rfl (Zo rfl (Yb (ZA rfl (Yg (Ye (Zr rfl rfl (Zi rfl (Yb (⟨l.length - (i+1),_,by omega,(.cons _ (.cons _ (.refl _))),i+1,_,by omega,rfl,?_,rfl,rfl,rfl,rfl,rfl,rfl⟩)))))))))))))
     intro j hj hlj
     by_cases e:j = i
     · subst e
       (rw [zJ (by assumption)] at hlj; cases hlj)
     · exact hno j (by omega) hlj
   ·refine ZD rfl (ZC rfl (Zo rfl (Zj rfl (ZC rfl (ZB rfl (Yb (WY (ZC rfl (Zo rfl (Yb (ZA rfl (Yg (Ye (Zr rfl rfl (Zi rfl (Yb (⟨l.length - (i+1),_,by omega,(.cons _ (.cons _ (.refl _))),i+1,_,by omega,rfl,?_,rfl,rfl,rfl,rfl,rfl,rfl⟩)))))))))))))))))
    intro j hj hlj
    by_cases e:j = i
    · subst e
      (rw [zn (by assumption)] at hlj; cases hlj)
    · exact hno j (by omega) hlj
 ·refine YZ (Xc (⟨_,YS,?_⟩))
  exfalso
  obtain rfl:i = l.length:=by omega
  obtain ⟨hm1,hm2⟩:=List.mem_filter.1 hin
  rw [← hleq] at hm1
  obtain ⟨j,hj,hje⟩:=in_at hm1
  exact hno j hj (by rw [hje]; exact hm2) hje
theorem played {P Q:Nat→Int} (hz:∀ i,133≤i→P i = 0) (hq:∀ i,133≤i→Q i = 0):ovA (fun _=>0) 0 133 (ovA P 0 133 (ovA (fun _=>0) 0 133 (ovA (fun _=>0) 0 133 Q))) = Q:=by
 have h1:ovA P 0 133 Q = Q:=by
  funext i
  by_cases h:i < 133
  ·rw [XR (by omega)]; rfl
  ·rw [WA (by omega),hz i (by omega),hq i (by omega)]
 rw [JA hq,JA hq,h1,JA hq]
theorem Zae (P:Nat→Int) (hz:∀ i,133≤i→P i = 0) (hp:XG P = true) (a t b:Int) (hin:(a,t,b)∈yj P):RdR AM 25 3 [.agg 133 (ia P)] [] [a,t,b] (.tup [.agg 133 (ia (XI P a t b)),.s (.int .i64 0)]):=by
 refine ER fun v Bs hc=>?_
 have hid:ovA (fun _=>0) 0 133 P = P:=JA hz
 have hpos:=YF (Qg P)
 rw [hp] at hpos
 refine YI (a:=a25) rfl rfl (YH _) (ZP rfl) rfl ?_ (by first | rfl | (cases hc <;> rfl))
 have hr0:=hc.rx
 rw [show Xj 0 Bs = Xj 0 Bs++[] from (List.append_nil _).symm]
 generalize hown:Xj 0 Bs = own0 at hr0 ⊢
 refine Zd (YB rfl (Yx (Yp rfl (Yb (Yd (Zd (Yn rfl rfl ZM (Ys rfl (hpos) rfl rfl rfl (Yu (r:=.bool _) rfl rfl (Yb (ZA rfl (Yg (Yd (Zd (Yp (v:=v) rfl (Vn rfl hr0 (by decide) (show [a,t,b].length = 1*3 from rfl) (Yp rfl (Yb (Yj (Uf (Zd (Yq (r:=.bool true) rfl rfl rfl (Yb (Yd (Zz rfl (Yg (Yd (Yj (Zd ?_)))))))))))))))))))))))))))))
 obtain ⟨b0,q0,md0,c0,F0,rfl,rfl,hF0⟩:=hr0.at (by decide) (show [a,t,b].length = 1*3 from rfl) (by omega)
 refine Zw rfl rfl (Yn rfl rfl ZN (Yx (Yy rfl rfl rfl rfl .here (Ze (um (ZaI rfl rfl rfl rfl .here (Yb (Yd (Zd (Yn rfl rfl ZO (TI (rs:=[]) (Bs:=[]) (caps:=[]) (av:=[.agg 133 (ia P)]) tH rfl (of_rn P hp) rfl rfl (YE rfl) (fun _ h=>h) rfl trivial rfl rfl .nil ?_)))))))))))
 rw [hid]
 refine Yb (Yj ?_)
 have hM:((ovA (fun _=>0) 0 3 F0) 0,(ovA (fun _=>0) 0 3 F0) 1,(ovA (fun _=>0) 0 3 F0) 2) = (a,t,b):=Prod.ext (hF0 0 (Nat.lt_of_lt_of_le (by decide) (Nat.le_refl 3))) (Prod.ext (hF0 1 (Nat.lt_of_lt_of_le (by decide) (Nat.le_refl 3))) (hF0 2 (Nat.lt_of_lt_of_le (by decide) (Nat.le_refl 3))))
 refine Zav (Lr:=[(Bs.length,_),(Bs.length+1,_),(Bs.length+1+1,_),(Bs.length+1+1+1,_),(b0,_),(Bs.length+1+1+1+1,_)]) (L0:=[]) (vs:=[.yv 0,.ptr 6 0 133]) (caps:=gX (ia P) (ia P) (ia F0) (ia P) (.int .i64 0) (.bool true) (.bool false) (.int .i64 1) (.int .i64 0) (.bool true) (0+(0:Int).toNat*3) c0) (Br:=[.sc .var 133 (ia (P)),.sc .var 133 (ia fun _=>0),.sc .var 3 (ia (ovA (fun _=>0) 0 3 F0)),.sc .var 1 ((WU (fun _=>.bool false) 0 1 fun _=>.bool false)),.sc md0 q0 (ia F0),.sc .var 133 (ia P)]) (perm6 _ _ _ _ _ _) rfl rfl rfl rfl rfl rfl (U0 (iter_pl (ia P) (ia P) (ia F0) (ia P) (.int .i64 0) (.bool true) (.bool false) (.int .i64 1) (.int .i64 0) (.bool true) (0+(0:Int).toNat*3) c0 P (ia fun _=>0) (ovA (fun _=>0) 0 3 F0) (WU (fun _=>.bool false) 0 1 fun _=>.bool false) md0 q0 (ia F0) P (by rw [hM]; exact hin)) ?_)
 rintro v9 n9 L9 ⟨rfl,r9,hfa⟩
 refine ⟨[.sc .var 133 (ia (ovA P 0 133 (ovA (fun _=>0) 0 133 (ovA (fun _=>0) 0 133 (XI P ((ovA (fun _=>0) 0 3 F0) 0) ((ovA (fun _=>0) 0 3 F0) 1) ((ovA (fun _=>0) 0 3 F0) 2)))))),.sc .var 133 (ia fun _=>0),.sc .var 3 (ia (ovA (fun _=>0) 0 3 F0)),.sc .var 1 (WU r9 0 1 fun _=>.bool true),.sc md0 q0 (ia F0),.sc .var 133 (ia P)],.tup [],[.sc .var 133 (ia (ovA P 0 133 (ovA (fun _=>0) 0 133 (ovA (fun _=>0) 0 133 (XI P ((ovA (fun _=>0) 0 3 F0) 0) ((ovA (fun _=>0) 0 3 F0) 1) ((ovA (fun _=>0) 0 3 F0) 2)))))),.sc .var 133 (ia fun _=>0),.sc .var 3 (ia (ovA (fun _=>0) 0 3 F0)),.sc .var 1 (WU r9 0 1 fun _=>.bool true),.sc md0 q0 (ia F0),.sc .var 133 (ia P)],5,hfa,rfl,rfl,rfl,rfl,?_⟩
 refine Xc (Zd (Ym (x:=.bool _) rfl rfl ZO rfl (Yu (r:=.bool _) rfl rfl (Yb (ZA rfl (Yg (Ye (Zr rfl rfl (Zi rfl (Yb (Uf (Zd (Yq (r:=.bool false) rfl rfl rfl (Yb (Yd (ZA rfl (YZ (Xc (Zd (Yn rfl rfl ZL (Yy rfl rfl rfl rfl (.there .here) (Yp rfl (Yb (Yh (⟨_,X5 rfl rfl ZM (ZK rfl),?_⟩)))))))))))))))))))))))))
 refine ⟨?_,(KG (.tail _ ZO))⟩
 obtain ⟨e0,e1⟩:=Prod.mk.inj hM
 obtain ⟨e1,e2⟩:=Prod.mk.inj e1
 rw [e0,e1,e2]
 exact congrArg (fun g=>V.tup [V.agg 133 (ia g),V.s (.int .i64 0)]) (played hz fun i hi=>x6 hi)
theorem Zas {f:Nat→Int} {a:Nat} {v:Int}:∀ n:Nat,om (fun s=>if s = a then v else f s) n = om f n+(if a < n then v - f a else 0)
 | 0=>by simp [om]
 | n+1=>by
  unfold om
  rw [Zas n]
  by_cases e:n = a
  ·subst e
   rw [if_neg (by omega),if_pos rfl,if_pos (by omega)]; omega
  ·rw [if_neg e]
   by_cases h:a < n
   ·rw [if_pos h,if_pos (by omega)]; omega
   ·rw [if_neg h,if_neg (by omega)]; omega
def kI (P:Nat→Int) (c:Int) (s:Nat):Int:=if P (s*2) = 6∧P (s*2+1) = c then 1 else 0
theorem g7 {B X:Nat→Int} {x c:Int} (hx:0≤x∧x < 64) (s:Nat):kI (ovA B (sqI x) 2 X) c s = if s = x.toNat then (if X 0 = 6∧X 1 = c then 1 else 0) else kI B c s:=by
 have hq:sqI x = 0+x.toNat*2:=rfl
 unfold kI
 by_cases e:s = x.toNat
 ·subst e
  rw [if_pos rfl,XR (by omega),XR (by omega),show x.toNat*2 - sqI x = 0 by omega,show x.toNat*2+1 - sqI x = 1 by omega]
 ·rw [if_neg e,WA (by omega),WA (by omega)]
theorem g9 {B X:Nat→Int} {x c:Int} (hx:0≤x∧x < 64):kM (ovA B (sqI x) 2 X) c 64 = kM B c 64+((if X 0 = 6∧X 1 = c then 1 else 0) - kI B c x.toNat):=by
 rw [oS,oS]
 have h:=Zas (f:=kI B c) (a:=x.toNat) (v:=if X 0 = 6∧X 1 = c then 1 else 0) 64
 rw [if_pos (show x.toNat < 64 by omega)] at h
 rw [show om (fun s=>if B (s*2) = 6∧B (s*2+1) = c then 1 else 0) 64 = om (kI B c) 64 from rfl,← h]
 exact oE 64 fun s _=>g7 hx s
theorem Zaq {P Q:Nat→Int} (h:∀ i,i < 128→Q i = P i) (c:Int):kM Q c 64 = kM P c 64:=by
 rw [oS,oS]
 exact oE 64 fun s hs=>by rw [h _ (by omega),h _ (by omega)]
def okX (X:Nat→Int):Prop:=(X 0 = 0∧X 1 = 0)∨((1≤X 0∧X 0≤6∧(X 1 = 0∨X 1 = 1))∧X 0 ≠ 1)
theorem g8 {B X:Nat→Int} {x:Int} (hx:0≤x∧x < 64) (hX:okX X) (h:∀ s:Nat,s < 64→okM B s):∀ s:Nat,s < 64→okM (ovA B (sqI x) 2 X) s:=fun s hs=>by
 have hq:sqI x = 0+x.toNat*2:=rfl
 have h1:=h s hs
 unfold okM at h1 ⊢
 rw [pV] at h1 ⊢
 by_cases e:s = x.toNat
 ·subst e
  rw [XR (by omega),XR (by omega),show x.toNat*2 - sqI x = 0 by omega,show x.toNat*2+1 - sqI x = 1 by omega]
  unfold okX at hX
  omega
 ·rw [WA (by omega),WA (by omega)]; exact h1
theorem ok_same {P Q:Nat→Int} (h:∀ i,i < 128→Q i = P i) (hP:∀ s:Nat,s < 64→okM P s):∀ s:Nat,s < 64→okM Q s:=fun s hs=>by
 have h1:=hP s hs
 unfold okM at h1 ⊢
 rw [pV] at h1 ⊢
 rw [h _ (by omega),h _ (by omega)]; exact h1
theorem gW {B X:Nat→Int} {x y:Int} (hx:0≤x∧x < 64) (hy:0≤y∧y < 64) (h:y ≠ x):ovA B (sqI x) 2 X (sqI y) = B (sqI y)∧ovA B (sqI x) 2 X (sqI y+1) = B (sqI y+1):=by
 have hq:sqI x = 0+x.toNat*2:=rfl
 have hr:sqI y = 0+y.toNat*2:=rfl
 exact ⟨WA (by omega),WA (by omega)⟩
theorem ZaF:∀ C:Fin 16,∀ x∈[0,1,2,3,4,8,12],∀ y∈[0,1,2,3,4,8,12],(0≤VD (C.val:Int) (orM (orM 0 x) y)∧VD (C.val:Int) (orM (orM 0 x) y)≤15)∧(VD (C.val:Int) (orM (orM 0 x) y) % 2 = 0∨(C.val:Int) % 2 ≠ 0∧x % 2 = 0∧y % 2 = 0) ∧
 (VD (C.val:Int) (orM (orM 0 x) y) / 2 % 2 = 0∨(C.val:Int) / 2 % 2 ≠ 0∧x / 2 % 2 = 0∧y / 2 % 2 = 0)∧(VD (C.val:Int) (orM (orM 0 x) y) / 4 % 2 = 0∨(C.val:Int) / 4 % 2 ≠ 0∧x / 4 % 2 = 0∧y / 4 % 2 = 0)∧(VD (C.val:Int) (orM (orM 0 x) y) / 8 = 0∨(C.val:Int) / 8 ≠ 0∧x / 8 = 0∧y / 8 = 0):=by decide +kernel
theorem lost0 {s:Int} (h:Xp s % 2 = 0):s ≠ 4∧s ≠ 7:=⟨fun e=>by subst e; exact absurd h (by decide),fun e=>by subst e; exact absurd h (by decide)⟩
theorem lost1 {s:Int} (h:Xp s / 2 % 2 = 0):s ≠ 4∧s ≠ 0:=⟨fun e=>by subst e; exact absurd h (by decide),fun e=>by subst e; exact absurd h (by decide)⟩
theorem lost2 {s:Int} (h:Xp s / 4 % 2 = 0):s ≠ 60∧s ≠ 63:=⟨fun e=>by subst e; exact absurd h (by decide),fun e=>by subst e; exact absurd h (by decide)⟩
theorem lost3 {s:Int} (h:Xp s / 8 = 0):s ≠ 60∧s ≠ 56:=⟨fun e=>by subst e; exact absurd h (by decide),fun e=>by subst e; exact absurd h (by decide)⟩
theorem ZaB {P:Nat→Int} {a t k c b g x:Int} (ha:0≤a∧a < 64) (ht:0≤t∧t < 64) (hx:0≤x∧x < 64) (h1:x ≠ a) (h2:x ≠ t) (hg:(g = 1∨g = -1)→a = 56*c+4∧(c = 0∨c = 1)∧x / 8 ≠ 7*c):VA P (-1) a t k c b g (sqI x) = P (sqI x)∧VA P (-1) a t k c b g (sqI x+1) = P (sqI x+1):=by
 have h3:Tt P (-1) a t k c b (sqI x) = P (sqI x)∧Tt P (-1) a t k c b (sqI x+1) = P (sqI x+1):=by
  unfold Tt oV T1
  rw [if_neg (by decide),(gW ht hx h2).1,(gW ht hx h2).2]
  exact gW ha hx h1
 unfold VA
 by_cases g1:g = 1
 ·obtain ⟨e1,e2,e3⟩:=hg (.inl g1)
  rw [if_pos g1,(gW (by omega) hx (by omega)).1,(gW (by omega) hx (by omega)).2,(gW (by omega) hx (by omega)).1,(gW (by omega) hx (by omega)).2]
  exact h3
 ·rw [if_neg g1]
  by_cases g2:g = -1
  ·obtain ⟨e1,e2,e3⟩:=hg (.inr g2)
   rw [if_pos g2,(gW (by omega) hx (by omega)).1,(gW (by omega) hx (by omega)).2,(gW (by omega) hx (by omega)).1,(gW (by omega) hx (by omega)).2]
   exact h3
  ·rw [if_neg g2]; exact h3
theorem ZaG {P:Nat→Int} {a t k c b g d x y:Int} (ha:0≤a∧a < 64) (ht:0≤t∧t < 64) (hx:0≤x∧x < 64) (hy:0≤y∧y < 64) (hxa:x ≠ a∧x ≠ t) (hya:y ≠ a∧y ≠ t) (hg:(g = 1∨g = -1)→a = 56*c+4∧(c = 0∨c = 1)∧x / 8 ≠ 7*c∧y / 8 ≠ 7*c) (h:Y3 P d x y = true) {q:Nat→Int} (hq:∀ i,i < 128→q i = VA P (-1) a t k c b g i):Y3 q d x y = true:=by
 have e1:sqI x = 0+x.toNat*2:=rfl
 have e2:sqI y = 0+y.toNat*2:=rfl
 have o1:=ZaB (P:=P) (k:=k) (b:=b) ha ht hx hxa.1 hxa.2 (fun h=>⟨(hg h).1,(hg h).2.1,(hg h).2.2.1⟩)
 have o2:=ZaB (P:=P) (k:=k) (b:=b) ha ht hy hya.1 hya.2 (fun h=>⟨(hg h).1,(hg h).2.1,(hg h).2.2.2⟩)
 unfold Y3 at h ⊢
 rw [hq _ (by omega),hq _ (by omega),hq _ (by omega),hq _ (by omega),o1.1,o1.2,o2.1,o2.2]
 exact h
theorem Zau {P:Nat→Int} (h:Vq P = true) {m:Mv} (hm:m∈UB P 64) (hk:P (sqI m.1) ≠ 1) (hw:Y5 P (P (sqI m.1)) m.1 m.2.1 = -1):Vq (XI P m.1 m.2.1 m.2.2) = true:=by
 obtain ⟨hs,ht,hg,hmt⟩:=D9 hm
 have he:=ZaH hm
 obtain ⟨h1,h2,h3,hne⟩:=RZ hg
 have hb:m.2.2 = 0:=by
  have:=ZaA hmt
  rw [if_neg (fun q=>hk q.1)] at this
  exact this
 have het:YP P m.2.1 = true:=by
  have hat:atT P (P (sqI m.1)) m.1 m.2.1 = m.2.1:=if_neg (fun q=>hk q.1)
  unfold Y5 at hw
  rw [hat] at hw
  split at hw
  ·assumption
  ·omega
 obtain ⟨a,t,b⟩:=m
 simp only at hs ht hg he h1 h2 h3 hne hb het hw hk
 subst hb
 have hmv:XI P a t 0 = V6 P (P (sqI a)) (P (sqI a+1)) a t 0 (WK P):=by unfold XI; rw [if_pos he]
 rw [hmv]
 obtain ⟨k,hkk⟩:∃ k,P (sqI a) = k:=⟨_,rfl⟩
 obtain ⟨c,hcc⟩:∃ c,P (sqI a+1) = c:=⟨_,rfl⟩
 obtain ⟨g,hgg⟩:∃ g,YW k a t c (WK P) = g:=⟨_,rfl⟩
 rw [hkk] at hw h1 hk
 rw [hcc] at h2 h3
 rw [hkk,hcc]
 have lo:∀ i,i < 128→V6 P k c a t 0 (WK P) i = VA P (-1) a t k c 0 g i:=fun i hi=>by
  unfold V6
  rw [if_pos hi,hw,hgg]
 have hcg:(g = 1∨g = -1)→k = 6∧a = 56*c+4∧(c = 0∨c = 1):=fun q=>by
  unfold YW at hgg
  split at hgg
  ·omega
  ·split at hgg <;> omega
 have hr1:g = 1→(P (sqI (a+3)) = 4∧P (sqI (a+1)) = 0∧t = a+2):=fun q=>by
  obtain ⟨e1,e2,e3⟩:=hcg (.inl q)
  have e4:t = a+2:=by
   unfold YW at hgg
   split at hgg
   ·omega
   ·split at hgg <;> omega
  unfold WN goK at hg
  rw [hkk,hcc,if_neg (by omega)] at hg
  simp only [Bool.and_eq_true,Bool.or_eq_true] at hg
  rcases hg.2 with ⟨ha,_⟩ | ⟨_,hg⟩
  ·have:=jf ha (by omega)
   unfold XF at this
   split at this <;> omega
  ·unfold goC at hg
   split at hg
   ·cases hg
   ·simp only [Bool.and_eq_true,Vj,YL,decide_eq_true_eq] at hg
    exact ⟨hg.1.1.2.1,(emptyM_iff.1 hg.1.2.2).1,e4⟩
 have hr2:g = -1→(P (sqI (a - 4)) = 4∧P (sqI (a - 1)) = 0∧t = a - 2):=fun q=>by
  obtain ⟨e1,e2,e3⟩:=hcg (.inr q)
  have e4:t = a - 2:=by
   unfold YW at hgg
   split at hgg
   ·omega
   ·split at hgg <;> omega
  unfold WN goK at hg
  rw [hkk,hcc,if_neg (by omega)] at hg
  simp only [Bool.and_eq_true,Bool.or_eq_true] at hg
  rcases hg.2 with ⟨ha,_⟩ | ⟨_,hg⟩
  ·have:=jf ha (by omega)
   unfold XF at this
   split at this <;> omega
  ·unfold goC at hg
   split at hg
   ·cases hg
   ·rw [if_neg (by omega)] at hg
    simp only [Bool.and_eq_true,Vj,YL,decide_eq_true_eq] at hg
    exact ⟨hg.1.1.1.2.1,(emptyM_iff.1 hg.1.1.2.2).1,e4⟩
 unfold Vq at h
 simp only [Bool.and_eq_true] at h
 obtain ⟨⟨⟨hp,hcs⟩,hov⟩,hhf⟩:=h
 obtain ⟨hok,hk0,hk1,hsd⟩:=JW hp
 have oN:okX nopc:=.inl ⟨rfl,rfl⟩
 have oK:okX (pc (if (0:Int) = 0 then k else 0) c):=.inr ⟨⟨h1.1,h1.2,h2⟩,hk⟩
 have oR:okX (pc 4 c):=.inr ⟨⟨(by decide:(1:Int)≤4),(by decide:(4:Int)≤6),h2⟩,(by decide:(4:Int) ≠ 1)⟩
 have ok3:∀ s:Nat,s < 64→okM (Tt P (-1) a t k c 0) s:=by
  unfold Tt oV T1
  rw [if_neg (by decide)]
  exact g8 ht oK (g8 hs oN hok)
 have ok4:∀ s:Nat,s < 64→okM (VA P (-1) a t k c 0 g) s:=by
  unfold VA
  by_cases g1:g = 1
  ·have:=hcg (.inl g1)
   rw [if_pos g1]; exact g8 (by omega) oR (g8 (by omega) oN ok3)
  ·rw [if_neg g1]
   by_cases g2:g = -1
   ·have:=hcg (.inr g2)
    rw [if_pos g2]; exact g8 (by omega) oR (g8 (by omega) oN ok3)
   ·rw [if_neg g2]; exact ok3
 have kn:∀ (d x:Int),(0≤x∧x < 64)→P (sqI x) ≠ 6→kI P d x.toNat = 0:=fun d x hx hn=>by
  have e:sqI x = x.toNat*2:=by show 0+x.toNat*2 = _; omega
  unfold kI
  rw [if_neg fun q=>hn (by rw [e]; exact q.1)]
 have et0:=(emptyM_iff.1 het).1
 have km3:∀ d:Int,kM (Tt P (-1) a t k c 0) d 64 = kM P d 64:=fun d=>by
  have ea:sqI a = a.toNat*2:=by show 0+a.toNat*2 = _; omega
  unfold Tt oV T1
  rw [if_neg (by decide),g9 ht,g9 hs,g7 hs,if_neg (show ¬ t.toNat = a.toNat by omega),kn d t ht (by omega)]
  have e0:(if nopc 0 = 6∧nopc 1 = d then (1:Int) else 0) = 0:=if_neg fun q=>absurd q.1 (by decide)
  have e1:kI P d a.toNat = if k = 6∧c = d then (1:Int) else 0:=by
   unfold kI
   rw [← ea,hkk,hcc]
  have e2:(if pc (if (0:Int) = 0 then k else 0) c 0 = 6∧pc (if (0:Int) = 0 then k else 0) c 1 = d then (1:Int) else 0) = if k = 6∧c = d then (1:Int) else 0:=rfl
  rw [e0,e1,e2]
  omega
 have ki3:∀ (d x:Int),(0≤x∧x < 64)→x ≠ a→x ≠ t→P (sqI x) ≠ 6→kI (Tt P (-1) a t k c 0) d x.toNat = 0:=fun d x hx n1 n2 hn=>by
  unfold Tt oV T1
  rw [if_neg (by decide),g7 ht,if_neg (show ¬ x.toNat = t.toNat by omega),g7 hs,if_neg (show ¬ x.toNat = a.toNat by omega)]
  exact kn d x hx hn
 have km4:∀ d:Int,kM (VA P (-1) a t k c 0 g) d 64 = kM P d 64:=fun d=>by
  have e0:(if nopc 0 = 6∧nopc 1 = d then (1:Int) else 0) = 0:=if_neg fun q=>absurd q.1 (by decide)
  have e4:(if pc 4 c 0 = 6∧pc 4 c 1 = d then (1:Int) else 0) = 0:=if_neg fun q=>absurd q.1 (show ¬ (4:Int) = 6 by decide)
  unfold VA
  by_cases g1:g = 1
  ·obtain ⟨c1,c2,c3⟩:=hcg (.inl g1)
   obtain ⟨r1,r2,r3⟩:=hr1 g1
   rw [if_pos g1,g9 (by omega),g9 (by omega),g7 (by omega),if_neg (show ¬ (a+1).toNat = (a+3).toNat by omega),ki3 d (a+1) (by omega) (by omega) (by omega) (by omega),ki3 d (a+3) (by omega) (by omega) (by omega) (by omega),e0,e4,km3]; omega
  ·rw [if_neg g1]
   by_cases g2:g = -1
   ·obtain ⟨c1,c2,c3⟩:=hcg (.inr g2)
    obtain ⟨r1,r2,r3⟩:=hr2 g2
    rw [if_pos g2,g9 (by omega),g9 (by omega),g7 (by omega),if_neg (show ¬ (a - 1).toNat = (a - 4).toNat by omega),ki3 d (a - 1) (by omega) (by omega) (by omega) (by omega),ki3 d (a - 4) (by omega) (by omega) (by omega) (by omega),e0,e4,km3]; omega
   ·rw [if_neg g2]; exact km3 d
 have q128:V6 P k c a t 0 (WK P) 128 = Y0 (P 128):=rfl
 have q129:V6 P k c a t 0 (WK P) 129 = VD (WK P) (orM (orM 0 (Xp a)) (Xp t)):=rfl
 have q130:V6 P k c a t 0 (WK P) 130 = Un k a t c:=rfl
 have q131:V6 P k c a t 0 (WK P) 131 = VU P k (Y5 P k a t):=rfl
 have q132:V6 P k c a t 0 (WK P) 132 = Qj P:=rfl
 have p1:Wz (V6 P k c a t 0 (WK P)) = true:=Uh ⟨ok_same lo ok4,by rw [Zaq lo,km4,hk0],by rw [Zaq lo,km4,hk1],by rw [q128,V5 hsd]; omega⟩
 have p2:YX (V6 P k c a t 0 (WK P)) = true:=by
  unfold YX at hcs ⊢
  rw [decide_eq_true_eq] at hcs ⊢
  obtain ⟨hC,w1,w2,w3,w4⟩:=hcs
  have hcm:WK P = P 129:=by unfold WK; rw [if_neg (by omega)]
  rw [q129,hcm]
  obtain ⟨n,hn⟩:∃ n:Nat,P 129 = n:=⟨(P 129).toNat,by omega⟩
  rw [hn] at w1 w2 w3 w4 ⊢
  obtain ⟨b0,b1,b2,b3,b4⟩:=ZaF ⟨n,by omega⟩ _ (Zax a) _ (Zax t)
  simp only at b0 b1 b2 b3 b4
  have kp:∀ (d x y:Int),(0≤x∧x < 64)→(0≤y∧y < 64)→(x ≠ a∧x ≠ t)→(y ≠ a∧y ≠ t)→x / 8 = 7*d→y / 8 = 7*d→x = 56*d+4→Y3 P d x y = true→Y3 (V6 P k c a t 0 (WK P)) d x y = true:=fun d x y hx hy n1 n2 r1 r2 r3 hh =>
   ZaG hs ht hx hy n1 n2 (fun q=>by obtain ⟨c1,c2,c3⟩:=hcg q; exact ⟨c2,c3,by omega,by omega⟩) hh lo
  refine ⟨b0,?_,?_,?_,?_⟩
  ·rcases b1 with b1 | ⟨x1,x2,x3⟩
   ·exact .inl b1
   ·have l1:=lost0 x2; have l2:=lost0 x3
    exact .inr (by have h9:=kp 0 4 7 (by omega) (by omega) ⟨Ne.symm l1.1,Ne.symm l2.1⟩ ⟨Ne.symm l1.2,Ne.symm l2.2⟩ (by omega) (by omega) (by omega) (w1.resolve_left x1); rw [hcm,hn] at h9; exact h9)
  ·rcases b2 with b2 | ⟨x1,x2,x3⟩
   ·exact .inl b2
   ·have l1:=lost1 x2; have l2:=lost1 x3
    exact .inr (by have h9:=kp 0 4 0 (by omega) (by omega) ⟨Ne.symm l1.1,Ne.symm l2.1⟩ ⟨Ne.symm l1.2,Ne.symm l2.2⟩ (by omega) (by omega) (by omega) (w2.resolve_left x1); rw [hcm,hn] at h9; exact h9)
  ·rcases b3 with b3 | ⟨x1,x2,x3⟩
   ·exact .inl b3
   ·have l1:=lost2 x2; have l2:=lost2 x3
    exact .inr (by have h9:=kp 1 60 63 (by omega) (by omega) ⟨Ne.symm l1.1,Ne.symm l2.1⟩ ⟨Ne.symm l1.2,Ne.symm l2.2⟩ (by omega) (by omega) (by omega) (w3.resolve_left x1); rw [hcm,hn] at h9; exact h9)
  ·rcases b4 with b4 | ⟨x1,x2,x3⟩
   ·exact .inl b4
   ·have l1:=lost3 x2; have l2:=lost3 x3
    exact .inr (by have h9:=kp 1 60 56 (by omega) (by omega) ⟨Ne.symm l1.1,Ne.symm l2.1⟩ ⟨Ne.symm l1.2,Ne.symm l2.2⟩ (by omega) (by omega) (by omega) (w4.resolve_left x1); rw [hcm,hn] at h9; exact h9)
 have p3:Xh (V6 P k c a t 0 (WK P)) = true:=by
  unfold Xh
  rw [decide_eq_true_eq,q130]
  left
  unfold Un WJ
  rw [if_neg]
  rw [decide_eq_true_eq]
  exact fun q=>hk q.1
 have hhf:=of_decide_eq_true hhf
 have p4:decide (0≤V6 P k c a t 0 (WK P) 131∧V6 P k c a t 0 (WK P) 131≤1024∧1≤V6 P k c a t 0 (WK P) 132∧V6 P k c a t 0 (WK P) 132≤16384) = true:=by
  rw [decide_eq_true_eq,q131,q132]
  unfold VU Qj
  rw [hw,if_neg (by omega),IntWalk.i64_in _ (by omega)]
  refine ⟨by omega,by omega,?_⟩
  split
  ·rw [IntWalk.i64_in _ (by omega)]; omega
  ·omega
 unfold Vq
 rw [p1,p2,p3,p4]; rfl
end Go.Proofs.YtlkighkfkdpncaaGreat
