/- Texts of this seat, joined. -/
import Derived.Test.YtlkighkfkdpncaaGreatDoorM1
set_option linter.unusedSimpArgs false
set_option linter.unusedVariables false
namespace Go.Proofs.YtlkighkfkdpncaaGreatDoor
open Go Go.Am
def YT (P:Nat->Int) (x:Int):Bool:=eqI 2 (dp P (sqI x)) (fun _=>0)
def pc (k c:Int):Nat->Int:=fun i=>if i=0 then k else c
def yb:Nat->Int:=fun _=>0
def atT (P:Nat->Int) (k a t:Int):Int:=if k=1/\t % 8≠a % 8/\t=P 130/\YT P t=true then a / 8*8+t % 8 else t
def Y7 (P:Nat->Int) (k a t:Int):Int:=if YT P (atT P k a t)=true then -1 else atT P k a t
def YS (c:Int):Int:=if c=0 then 1 else 4
def Y0 (k a t c C:Int):Int:=if k=6/\a=56*c+4/\t=a+2/\C / YS c % 2=1 then 1 else if k=6/\a=56*c+4/\t=a - 2/\C / (2*YS c) % 2=1 then -1 else 0
def Vc (k a t c:Int):Bool:=decide (k=1/\t % 8=a % 8/\a / 8=1+5*c/\t / 8=a / 8+2*(1 - 2*c))
def Vb (P:Nat->Int):Int:=if P 129 < 0\/15 < P 129 then 0 else P 129
def Xz (s:Int):Int:=if 4=s then 3 else if 7=s then 1 else if 0=s then 2 else if 60=s then 12 else if 63=s then 4 else if 56=s then 8 else 0
def orM (x y:Int):Int:=IntKind.i64.wrap (BitVec.ofInt 64 x ||| BitVec.ofInt 64 y).toNat
def KM (x y:Int):Int:=IntKind.i64.wrap (BitVec.ofInt 64 x &&& BitVec.ofInt 64 y).toNat
def V2 (x y:Int):Int:=IntKind.i64.wrap (BitVec.ofInt 64 x &&& ~~~(BitVec.ofInt 64 y)).toNat
def Qr (c s k:Int):Int:=if c / k % 2=1/\s / k % 2=0 then k else 0
def Vz (c s:Int):Int:=Qr c s 1+Qr c s 2+Qr c s 4+Qr c s 8
def XH (P:Nat->Int) (a t b:Int):Bool:=decide (1<=P (sqI a)/\P (sqI a)<=6/\P (sqI a+1)=P 128/\(P (sqI a+1)=0\/P (sqI a+1)=1)/\(if P (sqI a)=1/\t / 8=7*(1 - P (sqI a+1)) then 2<=b/\b<=5 else b=0))
def Wf (P:Nat->Int) (a t b:Int):Int:=if (0<=a/\a < 64)/\(0<=t/\t < 64)/\a≠t then (if XH P a t b=true then 0 else 8) else 6
def DW (P:Nat->Int) (w:Int):Nat->Int:=if 0<=w then ovA P (sqI w) 2 yb else P
def brd2 (P:Nat->Int) (w a:Int):Nat->Int:=ovA (DW P w) (sqI a) 2 yb
def Es (P:Nat->Int) (w a t k c b:Int):Nat->Int:=ovA (brd2 P w a) (sqI t) 2 (pc (if b=0 then k else b) c)
def V0 (P:Nat->Int) (w a t k c b g:Int):Nat->Int :=
 if g=1 then ovA (ovA (Es P w a t k c b) (sqI (a+3)) 2 yb) (sqI (a+1)) 2 (pc 4 c)
 else if g=-1 then ovA (ovA (Es P w a t k c b) (sqI (a - 4)) 2 yb) (sqI (a - 1)) 2 (pc 4 c) else Es P w a t k c b
def UN (k a t c:Int):Int:=if Vc k a t c=true then (a+t) / 2 else -1
def Uo (P:Nat->Int) (k w:Int):Int:=if k=1\/0<=w then 0 else IntKind.i64.wrap (min (P 131) 1023+1)
def QY (P:Nat->Int):Int:=if P 128=1 then IntKind.i64.wrap (min (P 132) 16383+1) else P 132
def Uv (P:Nat->Int) (k c a t b C:Int):Nat->Int:=fun i =>
 if i < 128 then V0 P (Y7 P k a t) a t k c b (Y0 k a t c C) i else if i=128 then Y5 (P 128) else if i=129 then V2 C (orM (orM 0 (Xz a)) (Xz t))
 else if i=130 then UN k a t c else if i=131 then Uo P k (Y7 P k a t) else if i=132 then QY P else 0
def Xq (P:Nat->Int) (a t b:Int):Nat->Int:=if Wf P a t b=0 then Uv P (P (sqI a)) (P (sqI a+1)) a t b (Vb P) else fun _=>0
theorem UK {P:Nat->Int} {a t b:Int} (h:¬ ((0<=a/\a < 64)/\(0<=t/\t < 64)/\a≠t)):Wf P a t b=6:=Za7 h
theorem Wy {P:Nat->Int} {a t b:Int} (h:(0<=a/\a < 64)/\(0<=t/\t < 64)/\a≠t) (hc:XH P a t b=false):Wf P a t b=8:=by
 rw [Wf,Za8 h,hc]; rfl
theorem Vr {P:Nat->Int} {a t b:Int} (h:(0<=a/\a < 64)/\(0<=t/\t < 64)/\a≠t) (hc:XH P a t b=true):Wf P a t b=0:=by
 rw [Wf,Za8 h,hc]; rfl
theorem xy {P:Nat->Int} {k a t:Int} (ha:0<=a/\a < 64) (ht:0<=t/\t < 64):0<=atT P k a t/\atT P k a t < 64:=by
 unfold atT; split <;> omega
theorem VH {P:Nat->Int} {k a t:Int} (ha:0<=a/\a < 64) (ht:0<=t/\t < 64):-1<=Y7 P k a t/\Y7 P k a t < 64:=by
 have:=xy (P:=P) (k:=k) ha ht
 unfold Y7; split <;> omega
theorem p6 {c:Int} (h:c=0\/c=1):Wx .shl (.int .i64 1) (.int .i64 (2*c))=some (.int .i64 (YS c)):=by
 rcases h with rfl | rfl <;> rfl
theorem pG {c:Int} (h:c=0\/c=1):Wx .shl (.int .i64 (YS c)) (.int .u64 1)=some (.int .i64 (2*YS c)):=by
 rcases h with rfl | rfl <;> rfl
theorem and_bit:∀ C:Fin 16,∀ s∈[1,2,4,8],(KM (C.val:Int) s≠0↔(C.val:Int) / s % 2=1):=by decide +kernel
theorem ko {C s:Int} (h:0<=C/\C<=15) (hs:s=1\/s=2\/s=4\/s=8):KM C s≠0↔C / s % 2=1:=by
 obtain ⟨n,rfl⟩:∃ n:Nat,C=n:=⟨C.toNat,by omega⟩
 exact and_bit ⟨n,by omega⟩ s (by simp; omega)
theorem uz (s:Int):Xz s∈[0,1,2,3,4,8,12]:=by
 unfold Xz
 repeat' split
 all_goals decide
theorem vv:∀ C:Fin 16,∀ x∈[0,1,2,3,4,8,12],∀ y∈[0,1,2,3,4,8,12],Vz (Vz (C.val:Int) x) y=V2 (C.val:Int) (orM (orM 0 x) y):=by decide +kernel
theorem tB {C:Int} (h:0<=C/\C<=15) (a t:Int):Vz (Vz C (Xz a)) (Xz t)=V2 C (orM (orM 0 (Xz a)) (Xz t)):=by
 obtain ⟨n,rfl⟩:∃ n:Nat,C=n:=⟨C.toNat,by omega⟩
 exact vv ⟨n,by omega⟩ _ (uz a) _ (uz t)
theorem KL (c s:Int) {k:Int} (hk:0<=k):0<=Qr c s k/\Qr c s k<=k:=by
 unfold Qr; split <;> omega
theorem zQ (c s:Int):0<=Vz c s/\Vz c s<=15:=by
 have:=KL c s (k:=1) (by omega)
 have:=KL c s (k:=2) (by omega)
 have:=KL c s (k:=4) (by omega)
 have:=KL c s (k:=8) (by omega)
 unfold Vz; omega
theorem jP (s:Int):0<=Xz s/\Xz s<=15:=by
 unfold Xz
 repeat' split
 all_goals omega
theorem TK (P:Nat->Int):0<=Vb P/\Vb P<=15:=by
 unfold Vb; split <;> omega
theorem y4 {P:Nat->Int} {x:Int}:YT P x=true↔P (sqI x)=0/\P (sqI x+1)=0:=by
 unfold YT
 rw [Uw]
 constructor
 ·intro h; exact ⟨h 0 (by omega),h 1 (by omega)⟩
 rintro ⟨h0,h1⟩ i hi
 have:i=0\/i=1:=by omega
 rcases this with rfl | rfl
 ·exact h0
 exact h1
theorem R7 {P Q:Nat->Int} {x:Int} (hx:0<=x/\x < 64) (h:∀ i,i < 128->P i=Q i):YT P x=YT Q x:=by
 have e:sqI x+1 < 128:=by show 0+x.toNat*2+1 < 128; omega
 rw [ZaP,y4,y4,h _ (by omega),h _ e]
theorem oC {P Q:Nat->Int} {k a t:Int} (ht:0<=t/\t < 64) (h:∀ i,i < 128->P i=Q i) (h130:P 130=Q 130):atT P k a t=atT Q k a t:=by
 unfold atT
 rw [R7 ht h,h130]
theorem zN {P Q:Nat->Int} {k a t:Int} (ha:0<=a/\a < 64) (ht:0<=t/\t < 64) (h:∀ i,i < 128->P i=Q i) (h130:P 130=Q 130):Y7 P k a t=Y7 Q k a t:=by
 unfold Y7
 rw [oC ht h h130,R7 (xy ha ht) h]
theorem wv {x:Int} (h:0<=x/\x < 64):RF AM 87 [.s (.int .i64 x)] (.s (.int .i64 (x % 8))):=by
 have:=g8 x
 rw [zq,Za8 h] at this
 exact this
theorem To {x:Int} (h:0<=x/\x < 64):RF AM 84 [.s (.int .i64 x)] (.s (.int .i64 (x / 8))):=by
 have:=K7 x
 rw [Wj,Za8 h] at this
 exact this
theorem zk (x:Int):WR AM 57 [.s (.int .i64 x)] [] (fun v _ _=>v=.s (.bool (isM x))):=by
 refine YJ (a:=a57) rfl rfl (YI _) (ZQ rfl) (m:=0) rfl (Ze (Yq rfl (Zf (Zj rfl (Zr rfl (Zk rfl (Ys (t:=5) rfl (fun h1=>?_) (fun h1=>?_)))))))) <;> simp only [NM] at h1
 ·refine Yb rfl (Zj rfl (Yb rfl (Zr rfl (Zq rfl (Zk rfl (Zg rfl (ZI ?_)))))))
  rw [ZaP]
  simp only [Za2,bne_iff_ne,ne_eq,ZaL,ZaF,Za5,Za3,gt_iff_lt,ge_iff_le,isM,YZ,Vc,XH,Bool.true_eq_false,Za6,Za4]
  omega
 refine ZD rfl (Zq rfl (Zk rfl (Zg rfl (ZI ?_))))
 rw [ZaP]
 simp only [Za2,bne_iff_ne,ne_eq,ZaL,ZaF,Za5,Za3,gt_iff_lt,ge_iff_le,isM,YZ,Vc,XH,Bool.true_eq_false,Za6,Za4]
 omega
theorem VQ (P:Nat->Int):WR AM 63 [.agg 133 (ia P)] [] (fun v _ _=>v=.s (.int .i64 (Vb P))):=by
 refine YJ (a:=a63) rfl rfl (YI _) (ZQ rfl) (m:=0) rfl (Ze (YC rfl (Yq rfl (Yc (Ye (Ze (Yd (o':=129) rfl rfl rfl (Ym rfl rfl ZM rfl (Zr rfl (Zk rfl (Ys (t:=6) rfl (fun h2=>?_) (fun h2=>?_)))))))))))) <;> simp only [NM] at h2
 ·refine ZD rfl (ZC rfl (Zq rfl (Yc (ZA rfl (Ze (Yq rfl (Yc (Yi (⟨_,ZL rfl,?_⟩)))))))))
  exact congrArg (fun b=>V.s (S.int .i64 b)) (Za8 (by omega)).symm
 refine Yb rfl (Yd (o':=129) rfl rfl rfl (Yb rfl (Ym rfl rfl ZM rfl (Yb rfl (Zr rfl (Zq rfl (Yc (Yj rfl (fun h3=>?_) (fun h3=>?_))))))))) <;> simp only [NM] at h3
 ·refine Ze (Yq rfl (Yc (Yi (⟨_,ZL rfl,?_⟩))))
  exact congrArg (fun b=>V.s (S.int .i64 b)) (Za8 (by omega)).symm
 refine Yh (Ze (Yd (o':=129) rfl rfl rfl (Ym rfl rfl ZM rfl (Zj rfl (Yc (Yi (⟨_,ZL rfl,?_⟩)))))))
 exact congrArg (fun b=>V.s (S.int .i64 b)) (Za7 (by omega)).symm
theorem wT (s:Int):WR AM 64 [.s (.int .i64 s)] [] (fun v _ _=>v=.s (.int .i64 (Xz s))):=by
 refine YJ (a:=a64) rfl rfl (YI _) (ZQ rfl) (m:=0) rfl (Ze (Yq rfl (Yc (Ye (Ze (Zj rfl (Yc (Yk (Ze (Zr rfl (Zk rfl (Yc (Yj rfl (fun h4=>?_) (fun h4=>?_)))))))))))))) <;> simp only [NM] at h4
 ·refine Ze (Yq rfl (Yc (Yi (⟨_,ZL rfl,?_⟩))))
  refine ZJ ?_
  unfold Xz
  repeat' split
  all_goals omega
 refine Ze (Zr rfl (Zk rfl (Yc (Yj rfl (fun h5=>?_) (fun h5=>?_))))) <;> simp only [NM] at h5
 ·refine Ze (Yq rfl (Yc (Yi (⟨_,ZL rfl,?_⟩))))
  refine ZJ ?_
  unfold Xz
  repeat' split
  all_goals omega
 refine Ze (Zr rfl (Zk rfl (Yc (Yj rfl (fun h6=>?_) (fun h6=>?_))))) <;> simp only [NM] at h6
 ·refine Ze (Yq rfl (Yc (Yi (⟨_,ZL rfl,?_⟩))))
  refine ZJ ?_
  unfold Xz
  repeat' split
  all_goals omega
 refine Ze (Zr rfl (Zk rfl (Yc (Yj rfl (fun h7=>?_) (fun h7=>?_))))) <;> simp only [NM] at h7
 ·refine Ze (Yq rfl (Yc (Yi (⟨_,ZL rfl,?_⟩))))
  refine ZJ ?_
  unfold Xz
  repeat' split
  all_goals omega
 refine Ze (Zr rfl (Zk rfl (Yc (Yj rfl (fun h8=>?_) (fun h8=>?_))))) <;> simp only [NM] at h8
 ·refine Ze (Yq rfl (Yc (Yi (⟨_,ZL rfl,?_⟩))))
  refine ZJ ?_
  unfold Xz
  repeat' split
  all_goals omega
 refine Ze (Zr rfl (Zk rfl (Yc (Yj rfl (fun h9=>?_) (fun h9=>?_))))) <;> simp only [NM] at h9
 ·refine Ze (Yq rfl (Yc (Yi (⟨_,ZL rfl,?_⟩))))
  refine ZJ ?_
  unfold Xz
  repeat' split
  all_goals omega
 refine Yh (Ze (Yq rfl (Yc (Yi (⟨_,ZL rfl,?_⟩)))))
 refine ZJ ?_
 unfold Xz
 repeat' split
 all_goals omega
def upM (c s k:Int):Int:=if k<=1 then 0 else if k<=2 then Qr c s 1 else if k<=4 then Qr c s 1+Qr c s 2 else if k<=8 then Qr c s 1+Qr c s 2+Qr c s 4 else Vz c s
theorem yd {c s k:Int} (h:k=1\/k=2\/k=4\/k=8):upM c s (2*k)=upM c s k+Qr c s k:=by
 rcases h with rfl | rfl | rfl | rfl <;> simp [upM,Vz]
theorem upM_bd (c s k:Int):0<=upM c s k/\upM c s k<=15:=by
 have:=KL c s (k:=1) (by omega)
 have:=KL c s (k:=2) (by omega)
 have:=KL c s (k:=4) (by omega)
 have:=zQ c s
 unfold upM
 repeat' split
 all_goals omega
theorem zO (c s:Int) (hc:0<=c/\c<=15) (hs:0<=s/\s<=15):WR AM 62 [.s (.int .i64 c),.s (.int .i64 s)] [] (fun v _ _=>v=.s (.int .i64 (Vz c s))):=by
 refine YJ (a:=a62) rfl rfl (YI _) (ZQ rfl) (m:=0) rfl (Ze (Yq rfl (Zf (Yq rfl (Yc (Ye (Ze (Yq rfl (Yc (Yk (Xm (L':=[]) .slnil (Xp (fun m f _ L=>∃ (k:Int),(k=1\/k=2\/k=4\/k=8\/k=16)/\(m=16 - k.toNat)/\(f 0=.s (.int .i64 c))/\(f 1=.s (.int .i64 s))/\(f 5=.s (.int .i64 (upM c s k)))/\(f 6=.s (.int .i64 k))/\(L=[])) (fun m f nb L hI=>?_) (15) ⟨1,by omega,rfl,rfl,rfl,rfl,rfl,rfl⟩))))))))))))
 obtain ⟨k,hk,hm,k0,k1,k5,k6,rfl⟩:=hI
 refine Za 0 k0 (Za 1 k1 (Za 5 k5 (Za 6 k6 ?_)))
 have hu:=upM_bd c s k
 have hq:0<=c / k:=Int.ediv_nonneg (by omega) (by omega)
 have hq2:0<=s / k:=Int.ediv_nonneg (by omega) (by omega)
 refine Ye (Ze (Zj rfl (Zr rfl (Yc (Yj rfl (fun h10=>?_) (fun h10=>?_)))))) <;> simp only [NM] at h10
 ·refine Yh (Ye (Yk (Ze (Zj rfl (Zj rfl (Zu rfl rfl (Zv rfl rfl (Zr rfl (Zk rfl (Ys (t:=16) rfl (fun h11=>?_) (fun h11=>?_))))))))))) <;> simp only [NM] at h11
  ·refine Yb rfl (Zj rfl (Yb rfl (Zj rfl (Yb rfl (Zu rfl rfl (Yb rfl (Zv rfl rfl (Yb rfl (Zr rfl (Zq rfl (Yc (Yj rfl (fun h12=>?_) (fun h12=>?_))))))))))))) <;> simp only [NM] at h12
   ·refine Yf (Zj rfl (Zj rfl (Zs rfl rfl (Zj rfl (Yc (Yf (Zj rfl (Wn rfl rfl (by omega) (Zj rfl (Yc (⟨16 - (2*k).toNat,_,by omega,.slnil,2*k,by omega,rfl,rfl,rfl,?_,rfl,rfl⟩)))))))))))
    rw [yd (by omega),Qr]
    (rw [Za8 (by omega)]; rfl)
   refine Yh (Yf (Zj rfl (Wn rfl rfl (by omega) (Zj rfl (Yc (⟨16 - (2*k).toNat,_,by omega,.slnil,2*k,by omega,rfl,rfl,rfl,?_,rfl,rfl⟩))))))
   rw [yd (by omega),Qr]
   (rw [Za7 (by omega),Int.add_zero]; rfl)
  refine ZE rfl (ZC rfl (Zq rfl (Yc (ZB rfl (Yh (Yf (Zj rfl (Wn rfl rfl (by omega) (Zj rfl (Yc (⟨16 - (2*k).toNat,_,by omega,.slnil,2*k,by omega,rfl,rfl,rfl,?_,rfl,rfl⟩)))))))))))
  rw [yd (by omega),Qr]
  (rw [Za7 (by omega),Int.add_zero]; rfl)
 refine YX (Xe (Ze (Zj rfl (Zj rfl (Yc (Yi (⟨_,ZL rfl,?_⟩)))))))
 obtain rfl:k=16:=by omega
 rfl
theorem j6 (P m:Nat->Int) (ha:0<=m 0/\m 0 < 64) (ht:0<=m 1/\m 1 < 64):WR AM 58 [.agg 133 (ia P),.agg 3 (ia m)] [] (fun v _ _=>v=.s (.bool (XH P (m 0) (m 1) (m 2)))):=by
 refine YJ (a:=a58) rfl rfl (YI _) (ZQ rfl) (m:=0) rfl (Ze (YC rfl (YC rfl (Yq rfl (Zf (Zy rfl (Ym rfl rfl ZM rfl (Zy rfl (Zw rfl rfl rfl (Yp rfl rfl ZN (Yy (Yz rfl rfl rfl rfl .here (Yc (Ye (Ze (Yo rfl rfl ZM (Yt rfl (show RF AM 95 _ (.s (.bool (YZ (P (sqI (m 0))) (P (sqI (m 0)+1))))) from YG (TI (ovA (fun _=>0) 0 2 (dp P (sqI (m 0)))))) rfl rfl rfl (Yv (r:=.bool _) rfl rfl (Zk rfl (Ys (t:=15) rfl (fun h13=>?_) (fun h13=>?_))))))))))))))))))))) <;> simp only [NM] at h13
 ·refine ZE rfl (ZC rfl (Zq rfl (Yc (ZA rfl (Ze (Yq rfl (Zg rfl (ZI ?_))))))))
  simp only [YZ,ZaL,Zax] at *
  unfold XH
  rw [ZaP]
  simp only [Za2,ZaL,ZaF,Za5,Za3,Za6,Za4]
  first | omega | (split <;> omega)
 refine Yb rfl (Zz rfl (Yb rfl (Ym (x:=P (sqI (m 0)+1)) rfl rfl ZM (rfl) (Yb rfl (Yd (o':=128) rfl rfl rfl (Yb rfl (Ym rfl rfl ZO rfl (Yb rfl (Zr rfl (Zq rfl (Yc (Yj rfl (fun h14=>?_) (fun h14=>?_))))))))))))) <;> simp only [NM] at h14
 ·refine Ze (Yq rfl (Zg rfl (ZI ?_)))
  simp only [YZ,ZaL,Zax] at *
  unfold XH
  rw [ZaP]
  simp only [Za2,ZaL,ZaF,Za5,Za3,Za6,Za4]
  first | omega | (split <;> omega)
 refine Yh (Ze (Zy rfl (Ym (x:=P (sqI (m 0))) rfl rfl ZM (rfl) (Zr rfl (Zk rfl (Ys (t:=25) rfl (fun h15=>?_) (fun h15=>?_))))))) <;> simp only [NM] at h15
 ·refine Yb rfl (Zz rfl (Yb rfl (Ym (x:=P (sqI (m 0)+1)) rfl rfl ZM (rfl) (Yb rfl (Zr rfl (Yb rfl (Zk rfl (Ys (t:=29) rfl (fun h16=>?_) (fun h16=>?_))))))))) <;> simp only [NM] at h16
  ·refine Yb rfl (Zz rfl (Yb rfl (Ym rfl rfl ZN rfl (Yb rfl (Zu rfl rfl (Yb rfl (Zr rfl (Yb rfl (Zq rfl (Yb rfl (Zk rfl (Ys (t:=35) rfl (fun h17=>?_) (fun h17=>?_))))))))))))) <;> simp only [NM] at h17
   ·refine ZE rfl (YH rfl (YH rfl (YH rfl (YH rfl (ZC rfl (Yb rfl (Zq rfl (Zq rfl (Zk rfl (Yc (Ye (Ze (Zk rfl (Yc (ZA rfl (Ze (Yd (o':=2) rfl rfl rfl (Ym rfl rfl ZN rfl (Zr rfl (Zk rfl (Ys (t:=51) rfl (fun h18=>?_) (fun h18=>?_)))))))))))))))))))))) <;> simp only [NM] at h18
    ·refine Yb rfl (Yd (o':=2) rfl rfl rfl (Yb rfl (Ym rfl rfl ZN rfl (Yb rfl (Zr rfl (Zq rfl (Zk rfl (Zg rfl (ZI ?_)))))))))
     simp only [YZ,ZaL,Zax] at *
     unfold XH
     rw [ZaP]
     simp only [Za2,ZaL,ZaF,Za5,Za3,Za6,Za4]
     first | omega | (split <;> omega)
    refine ZD rfl (ZC rfl (Zq rfl (Zk rfl (Zg rfl (ZI ?_)))))
    simp only [YZ,ZaL,Zax] at *
    unfold XH
    rw [ZaP]
    simp only [Za2,ZaL,ZaF,Za5,Za3,Za6,Za4]
    first | omega | (split <;> omega)
   refine Yb rfl (Zz rfl (Yb rfl (Ym (x:=P (sqI (m 0)+1)) rfl rfl ZM (rfl) (Yb rfl (Zr rfl (Yb rfl (Zk rfl (Ys (t:=39) rfl (fun h19=>?_) (fun h19=>?_))))))))) <;> simp only [NM] at h19
   ·refine Yb rfl (Zz rfl (Yb rfl (Ym rfl rfl ZN rfl (Yb rfl (Zu rfl rfl (Yb rfl (Zr rfl (Yb rfl (Zq rfl (Yb rfl (Zq rfl (Zq rfl (Zk rfl (Yc (Ye (Ze (Zk rfl (Yc (Yj rfl (fun h20=>?_) (fun h20=>?_)))))))))))))))))))) <;> simp only [NM] at h20
    ·refine Ze (Yd (o':=2) rfl rfl rfl (Ym rfl rfl ZN rfl (Zr rfl (Zk rfl (Ys (t:=51) rfl (fun h21=>?_) (fun h21=>?_)))))) <;> simp only [NM] at h21
     ·refine Yb rfl (Yd (o':=2) rfl rfl rfl (Yb rfl (Ym rfl rfl ZN rfl (Yb rfl (Zr rfl (Zq rfl (Zk rfl (Zg rfl (ZI ?_)))))))))
      simp only [YZ,ZaL,Zax] at *
      unfold XH
      rw [ZaP]
      simp only [Za2,ZaL,ZaF,Za5,Za3,Za6,Za4]
      first | omega | (split <;> omega)
     refine ZD rfl (ZC rfl (Zq rfl (Zk rfl (Zg rfl (ZI ?_)))))
     simp only [YZ,ZaL,Zax] at *
     unfold XH
     rw [ZaP]
     simp only [Za2,ZaL,ZaF,Za5,Za3,Za6,Za4]
     first | omega | (split <;> omega)
    refine Yh (Ze (Yd (o':=2) rfl rfl rfl (Ym rfl rfl ZN rfl (Zr rfl (Zk rfl (Zg rfl (ZI ?_)))))))
    simp only [YZ,ZaL,Zax] at *
    unfold XH
    rw [ZaP]
    simp only [Za2,ZaL,ZaF,Za5,Za3,Za6,Za4]
    first | omega | (split <;> omega)
   refine ZE rfl (Yb rfl (Zq rfl (Yb rfl (Zq rfl (Zq rfl (Zk rfl (Yc (Ye (Ze (Zk rfl (Yc (ZB rfl (Yh (Ze (Yd (o':=2) rfl rfl rfl (Ym rfl rfl ZN rfl (Zr rfl (Zk rfl (Zg rfl (ZI ?_))))))))))))))))))))
   simp only [YZ,ZaL,Zax] at *
   unfold XH
   rw [ZaP]
   simp only [Za2,ZaL,ZaF,Za5,Za3,Za6,Za4]
   first | omega | (split <;> omega)
  refine ZE rfl (Yb rfl (Zq rfl (Yb rfl (Zk rfl (Yb rfl (Zz rfl (Yb rfl (Ym (x:=P (sqI (m 0)+1)) rfl rfl ZM (rfl) (Yb rfl (Zr rfl (Yb rfl (Zk rfl (Ys (t:=39) rfl (fun h22=>?_) (fun h22=>?_)))))))))))))) <;> simp only [NM] at h22
  ·refine Yb rfl (Zz rfl (Yb rfl (Ym rfl rfl ZN rfl (Yb rfl (Zu rfl rfl (Yb rfl (Zr rfl (Yb rfl (Zq rfl (Yb rfl (Zq rfl (Zq rfl (Zk rfl (Yc (Ye (Ze (Zk rfl (Yc (Yj rfl (fun h23=>?_) (fun h23=>?_)))))))))))))))))))) <;> simp only [NM] at h23
   ·refine Ze (Yd (o':=2) rfl rfl rfl (Ym rfl rfl ZN rfl (Zr rfl (Zk rfl (Ys (t:=51) rfl (fun h24=>?_) (fun h24=>?_)))))) <;> simp only [NM] at h24
    ·refine Yb rfl (Yd (o':=2) rfl rfl rfl (Yb rfl (Ym rfl rfl ZN rfl (Yb rfl (Zr rfl (Zq rfl (Zk rfl (Zg rfl (ZI ?_)))))))))
     simp only [YZ,ZaL,Zax] at *
     unfold XH
     rw [ZaP]
     simp only [Za2,ZaL,ZaF,Za5,Za3,Za6,Za4]
     first | omega | (split <;> omega)
    refine ZD rfl (ZC rfl (Zq rfl (Zk rfl (Zg rfl (ZI ?_)))))
    simp only [YZ,ZaL,Zax] at *
    unfold XH
    rw [ZaP]
    simp only [Za2,ZaL,ZaF,Za5,Za3,Za6,Za4]
    first | omega | (split <;> omega)
   refine Yh (Ze (Yd (o':=2) rfl rfl rfl (Ym rfl rfl ZN rfl (Zr rfl (Zk rfl (Zg rfl (ZI ?_)))))))
   simp only [YZ,ZaL,Zax] at *
   unfold XH
   rw [ZaP]
   simp only [Za2,ZaL,ZaF,Za5,Za3,Za6,Za4]
   first | omega | (split <;> omega)
  refine ZE rfl (Yb rfl (Zq rfl (Yb rfl (Zq rfl (Zq rfl (Zk rfl (Yc (Ye (Ze (Zk rfl (Yc (ZB rfl (Yh (Ze (Yd (o':=2) rfl rfl rfl (Ym rfl rfl ZN rfl (Zr rfl (Zk rfl (Zg rfl (ZI ?_))))))))))))))))))))
  simp only [YZ,ZaL,Zax] at *
  unfold XH
  rw [ZaP]
  simp only [Za2,ZaL,ZaF,Za5,Za3,Za6,Za4]
  first | omega | (split <;> omega)
 refine ZE rfl (YH rfl (YH rfl (YH rfl (YH rfl (ZD rfl (YH rfl (YH rfl (YH rfl (YH rfl (YH rfl (YH rfl (YH rfl (YH rfl (YH rfl (ZC rfl (Zq rfl (Zk rfl (Yc (Ye (Ze (Zk rfl (Yc (ZB rfl (Yh (Ze (Yd (o':=2) rfl rfl rfl (Ym rfl rfl ZN rfl (Zr rfl (Zk rfl ?_)))))))))))))))))))))))))))))
 refine Zg rfl (ZI ?_)
 simp only [YZ,ZaL,Zax] at *
 unfold XH
 rw [ZaP]
 simp only [Za2,ZaL,ZaF,Za5,Za3,Za6,Za4]
 first | omega | (split <;> omega)
theorem pV (P m:Nat->Int) (ha:0<=m 0/\m 0 < 64) (ht:0<=m 1/\m 1 < 64):WR AM 59 [.agg 133 (ia P),.agg 3 (ia m)] [] (fun v _ _=>v=.s (.bool (decide (P (sqI (m 0))=1/\m 1 % 8≠m 0 % 8/\m 1=P 130/\YT P (m 1)=true)))):=by
 refine YJ (a:=a59) rfl rfl (YI _) (ZQ rfl) (m:=0) rfl (Ze (YC rfl (YC rfl (Yq rfl (Zf (Zy rfl (Ym rfl rfl ZM rfl (Zy rfl (Zw rfl rfl rfl (Yd rfl rfl rfl (Ym (x:=P (sqI (m 0))) rfl rfl ZN (rfl) (Zr rfl (Zk rfl (Ys (t:=12) rfl (fun h25=>?_) (fun h25=>?_))))))))))))))) <;> simp only [NM] at h25
 ·refine Yb rfl (Zy rfl (Yb rfl (Ym (x:=m 0) rfl rfl ZM (rfl) (Yb rfl (Zv rfl rfl (Yb rfl (Zz rfl (Yb rfl (Ym (x:=m 1) rfl rfl ZM (rfl) (Yb rfl (Zv rfl rfl (Yb rfl (Zr rfl (Zq rfl (Zk rfl (Ys (t:=21) rfl (fun h26=>?_) (fun h26=>?_))))))))))))))))) <;> simp only [NM] at h26
  ·refine Yb rfl (Zz rfl (Yb rfl (Ym (x:=m 1) rfl rfl ZM (rfl) (Yb rfl (Yd (o':=130) rfl rfl rfl (Yb rfl (Ym (x:=P 130) rfl rfl ZN (rfl) (Yb rfl (Zr rfl (Zq rfl (Zk rfl (Ys (t:=28) rfl (fun h27=>?_) (fun h27=>?_))))))))))))) <;> simp only [NM] at h27
   ·refine Yb rfl (Zz rfl (Yb rfl (Ym rfl rfl ZM rfl (Yb rfl (Zy rfl (Yb rfl (Zw rfl rfl rfl (Yb rfl (Yp rfl rfl ZN (Yb rfl (YB rfl .nil (Yb rfl (Yw rfl rfl (Zq rfl (Zk rfl (Zg rfl (ZI ?_)))))))))))))))))
    obtain ⟨e,he⟩:∃ e,e=YT P (m 1):=⟨_,rfl⟩
    (show YT P (m 1)=_; rw [<- he]; cases e)
    all_goals rw [ZaP]
    all_goals simp only [Za2,ZaL,ZaF,Za5,Za3,Za6,Za4,and_true,and_false,not_false_eq_true]
    all_goals omega
   refine ZE rfl (ZD rfl (ZC rfl (Zq rfl (Zk rfl (Zg rfl (ZI ?_))))))
   obtain ⟨e,he⟩:∃ e,e=YT P (m 1):=⟨_,rfl⟩
   rw [<- he]
   all_goals rw [ZaP]
   all_goals simp only [Za2,ZaL,ZaF,Za5,Za3,Za6,Za4,and_true,and_false,not_false_eq_true]
   all_goals omega
  refine ZE rfl (ZC rfl (Zq rfl (Zk rfl (ZE rfl (ZD rfl (ZC rfl (Zq rfl (Zk rfl (Zg rfl (ZI ?_))))))))))
  obtain ⟨e,he⟩:∃ e,e=YT P (m 1):=⟨_,rfl⟩
  rw [<- he]
  all_goals rw [ZaP]
  all_goals simp only [Za2,ZaL,ZaF,Za5,Za3,Za6,Za4,and_true,and_false,not_false_eq_true]
  all_goals omega
 refine ZE rfl (ZD rfl (ZC rfl (Zq rfl (Zk rfl (ZE rfl (ZC rfl (Zq rfl (Zk rfl (ZE rfl (ZD rfl (ZC rfl (Zq rfl (Zk rfl (Zg rfl (ZI ?_)))))))))))))))
 obtain ⟨e,he⟩:∃ e,e=YT P (m 1):=⟨_,rfl⟩
 rw [<- he]
 all_goals rw [ZaP]
 all_goals simp only [Za2,ZaL,ZaF,Za5,Za3,Za6,Za4,and_true,and_false,not_false_eq_true]
 all_goals omega
theorem rq (X m:Nat->Int) (hc:X 1=0\/X 1=1) (ha:0<=m 0/\m 0 < 64) (ht:0<=m 1/\m 1 < 64):WR AM 65 [.agg 2 (ia X),.agg 3 (ia m)] [] (fun v _ _=>v=.s (.bool (Vc (X 0) (m 0) (m 1) (X 1)))):=by
 refine YJ (a:=a65) rfl rfl (YI _) (ZQ rfl) (m:=0) rfl (Ze (YC rfl (YC rfl (Yq rfl (Yc (Ye (Ze (Zy rfl (Ym rfl rfl ZN rfl (Zr rfl (Zk rfl (Ys (t:=8) rfl (fun h28=>?_) (fun h28=>?_))))))))))))) <;> simp only [NM] at h28
 ·refine ZE rfl (ZD rfl (ZC rfl (Zq rfl (Yc (ZA rfl (Ze (Yq rfl (Zg rfl (ZI ?_)))))))))
  unfold Vc
  rw [ZaP]
  simp only [Za2,ZaL,ZaF,Za5,Za3,Za6,Za4]
  omega
 refine Yb rfl (Zy rfl (Yb rfl (Ym rfl rfl ZM rfl (Yb rfl (Zv rfl rfl (Yb rfl (Zz rfl (Yb rfl (Ym rfl rfl ZM rfl (Yb rfl (Zv rfl rfl (Yb rfl (Zr rfl (Zq rfl (Yc (Yj rfl (fun h29=>?_) (fun h29=>?_))))))))))))))))) <;> simp only [NM] at h29
 ·refine Ze (Yq rfl (Zg rfl (ZI ?_)))
  unfold Vc
  rw [ZaP]
  simp only [Za2,ZaL,ZaF,Za5,Za3,Za6,Za4]
  omega
 refine Yh (Ze (Zz rfl (Ym rfl rfl ZN rfl (Zr rfl (Zk rfl (Ys (t:=20) rfl (fun h30=>?_) (fun h30=>?_))))))) <;> simp only [NM] at h30
 ·refine Yb rfl (Zy rfl (Yb rfl (Ym rfl rfl ZM rfl (Yb rfl (Zu rfl rfl (Yb rfl (Zr rfl (Zq rfl (Zk rfl (Ys (t:=26) rfl (fun h31=>?_) (fun h31=>?_))))))))))) <;> simp only [NM] at h31
  ·refine Yb rfl (Zz rfl (Yb rfl (Ym rfl rfl ZM rfl (Yb rfl (Zu rfl rfl (Yb rfl (Zr rfl (Zq rfl (Zk rfl (Ys (t:=32) rfl (fun h32=>?_) (fun h32=>?_))))))))))) <;> simp only [NM] at h32
   ·refine ZE rfl (YH rfl (YH rfl (YH rfl (YH rfl (ZD rfl (YH rfl (YH rfl (YH rfl (YH rfl (ZC rfl (Zq rfl (Zk rfl (Zg rfl (ZI ?_))))))))))))))
    unfold Vc
    rw [ZaP]
    simp only [Za2,ZaL,ZaF,Za5,Za3,Za6,Za4]
    omega
   refine Yb rfl (Zz rfl (Yb rfl (Ym rfl rfl ZN rfl (Yb rfl (Zr rfl (Yb rfl (Zk rfl (Ys (t:=36) rfl (fun h33=>?_) (fun h33=>?_))))))))) <;> simp only [NM] at h33
   ·refine Yb rfl (Zy rfl (Yb rfl (Ym rfl rfl ZM rfl (Yb rfl (Zu rfl rfl (Yb rfl (Zr rfl (Yb rfl (Zq rfl (Yb rfl (Zk rfl (Ys (t:=42) rfl (fun h34=>?_) (fun h34=>?_))))))))))))) <;> simp only [NM] at h34
    ·refine Yb rfl (Zz rfl (Yb rfl (Ym rfl rfl ZM rfl (Yb rfl (Zu rfl rfl (Yb rfl (Zr rfl (Yb rfl (Zq rfl (Zq rfl (Zk rfl (Zg rfl (ZI ?_)))))))))))))
     unfold Vc
     rw [ZaP]
     simp only [Za2,ZaL,ZaF,Za5,Za3,Za6,Za4]
     omega
    refine ZE rfl (Yb rfl (Zq rfl (Zq rfl (Zk rfl (Zg rfl (ZI ?_))))))
    unfold Vc
    rw [ZaP]
    simp only [Za2,ZaL,ZaF,Za5,Za3,Za6,Za4]
    omega
   refine ZE rfl (Yb rfl (Zq rfl (Yb rfl (Zk rfl (ZE rfl (Yb rfl (Zq rfl (Zq rfl (Zk rfl (Zg rfl (ZI ?_)))))))))))
   unfold Vc
   rw [ZaP]
   simp only [Za2,ZaL,ZaF,Za5,Za3,Za6,Za4]
   omega
  refine ZE rfl (Zq rfl (Zk rfl (Yb rfl (Zz rfl (Yb rfl (Ym rfl rfl ZN rfl (Yb rfl (Zr rfl (Yb rfl (Zk rfl (Ys (t:=36) rfl (fun h35=>?_) (fun h35=>?_)))))))))))) <;> simp only [NM] at h35
  ·refine Yb rfl (Zy rfl (Yb rfl (Ym rfl rfl ZM rfl (Yb rfl (Zu rfl rfl (Yb rfl (Zr rfl (Yb rfl (Zq rfl (Yb rfl (Zk rfl (Ys (t:=42) rfl (fun h36=>?_) (fun h36=>?_))))))))))))) <;> simp only [NM] at h36
   ·refine Yb rfl (Zz rfl (Yb rfl (Ym rfl rfl ZM rfl (Yb rfl (Zu rfl rfl (Yb rfl (Zr rfl (Yb rfl (Zq rfl (Zq rfl (Zk rfl (Zg rfl (ZI ?_)))))))))))))
    unfold Vc
    rw [ZaP]
    simp only [Za2,ZaL,ZaF,Za5,Za3,Za6,Za4]
    omega
   refine ZE rfl (Yb rfl (Zq rfl (Zq rfl (Zk rfl (Zg rfl (ZI ?_))))))
   unfold Vc
   rw [ZaP]
   simp only [Za2,ZaL,ZaF,Za5,Za3,Za6,Za4]
   omega
  refine ZE rfl (Yb rfl (Zq rfl (Yb rfl (Zk rfl (ZE rfl (Yb rfl (Zq rfl (Zq rfl (Zk rfl (Zg rfl (ZI ?_)))))))))))
  unfold Vc
  rw [ZaP]
  simp only [Za2,ZaL,ZaF,Za5,Za3,Za6,Za4]
  omega
 refine ZE rfl (Zq rfl (Zk rfl (ZE rfl (Zq rfl (Zk rfl (Yb rfl (Zz rfl (Yb rfl (Ym rfl rfl ZN rfl (Yb rfl (Zr rfl (Yb rfl (Zk rfl (Ys (t:=36) rfl (fun h37=>?_) (fun h37=>?_))))))))))))))) <;> simp only [NM] at h37
 ·refine Yb rfl (Zy rfl (Yb rfl (Ym rfl rfl ZM rfl (Yb rfl (Zu rfl rfl (Yb rfl (Zr rfl (Yb rfl (Zq rfl (Yb rfl (Zk rfl (Ys (t:=42) rfl (fun h38=>?_) (fun h38=>?_))))))))))))) <;> simp only [NM] at h38
  ·refine Yb rfl (Zz rfl (Yb rfl (Ym rfl rfl ZM rfl (Yb rfl (Zu rfl rfl (Yb rfl (Zr rfl (Yb rfl (Zq rfl (Zq rfl (Zk rfl (Zg rfl (ZI ?_)))))))))))))
   unfold Vc
   rw [ZaP]
   simp only [Za2,ZaL,ZaF,Za5,Za3,Za6,Za4]
   omega
  refine ZE rfl (Yb rfl (Zq rfl (Zq rfl (Zk rfl (Zg rfl (ZI ?_))))))
  unfold Vc
  rw [ZaP]
  simp only [Za2,ZaL,ZaF,Za5,Za3,Za6,Za4]
  omega
 refine ZE rfl (Yb rfl (Zq rfl (Yb rfl (Zk rfl (ZE rfl (Yb rfl (Zq rfl (Zq rfl (Zk rfl (Zg rfl (ZI ?_)))))))))))
 unfold Vc
 rw [ZaP]
 simp only [Za2,ZaL,ZaF,Za5,Za3,Za6,Za4]
 omega
theorem zd {C:Int} (h:0<=C) (s:Int) (hs:s=1\/s=2\/s=4\/s=8):0<=C / s:=Int.ediv_nonneg h (by omega)
theorem qX (P m:Nat->Int) (hc:P (sqI (m 0)+1)=0\/P (sqI (m 0)+1)=1) (ha:0<=m 0/\m 0 < 64) (ht:0<=m 1/\m 1 < 64):WR AM 61 [.agg 133 (ia P),.agg 3 (ia m)] [] (fun v _ _=>v=.s (.int .i64 (Y0 (P (sqI (m 0))) (m 0) (m 1) (P (sqI (m 0)+1)) (Vb P)))):=by
 have hC:=TK P
 have d1:=zd hC.1 1 (by omega)
 have d2:=zd hC.1 2 (by omega)
 have d4:=zd hC.1 4 (by omega)
 have d8:=zd hC.1 8 (by omega)
 refine YJ (a:=a61) rfl rfl (YI _) (ZQ rfl) (m:=0) rfl (Ze (YC rfl (YC rfl (Yq rfl (Zf (Zy rfl (Ym rfl rfl ZM rfl (Zy rfl (Zw rfl rfl rfl (Yp rfl rfl ZN (Yy (Yz rfl rfl rfl rfl .here (Zf (Yq rfl (Yq rfl (Yq rfl (Yc (Ye (Ze (Zz rfl (Ym (x:=P (sqI (m 0)+1)) rfl rfl ZM (rfl) (Zr rfl (Yc (Yj rfl (fun h39=>?_) (fun h39=>?_))))))))))))))))))))))))) <;> simp only [NM] at h39
 ·refine Yf (Yq rfl (Yq rfl (Yq rfl (Yc (Ye (Ze (Zy rfl (Ym (x:=P (sqI (m 0))) rfl rfl ZM (rfl) (Zr rfl (Zk rfl (Ys (t:=20) rfl (fun h40=>?_) (fun h40=>?_)))))))))))) <;> simp only [NM] at h40
  ·refine ZE rfl (Zq rfl (Yc (ZA rfl (Ze (Yq rfl (Yc (Yi (⟨_,ZL rfl,?_⟩))))))))
   refine ZJ ?_
   rcases hc with hc | hc
   all_goals simp only [Y0,YS,hc,if_true,if_false,Int.reduceEq,Int.reduceMul,Int.reduceAdd]
   all_goals (repeat' split) <;> omega
  refine Yb rfl (Zy rfl (Yb rfl (Ym (x:=m 0) rfl rfl ZN (rfl) (Yb rfl (Zj rfl (Yb rfl (Zr rfl (Zq rfl (Yc (Yj rfl (fun h41=>?_) (fun h41=>?_))))))))))) <;> simp only [NM] at h41
  ·refine Ze (Yq rfl (Yc (Yi (⟨_,ZL rfl,?_⟩))))
   refine ZJ ?_
   rcases hc with hc | hc
   all_goals simp only [Y0,YS,hc,if_true,if_false,Int.reduceEq,Int.reduceMul,Int.reduceAdd]
   all_goals (repeat' split) <;> omega
  refine Yh (Ye (Ze (Zz rfl (Ym (x:=m 1) rfl rfl ZN (rfl) (Zj rfl (Zs rfl rfl (Zr rfl (Zk rfl (Ys (t:=31) rfl (fun h42=>?_) (fun h42=>?_)))))))))) <;> simp only [NM] at h42
  ·refine Yb rfl (Yo rfl rfl ZO (Yb rfl (Yt rfl (YG (VQ _)) rfl rfl rfl (Yb rfl (Zj rfl (Yb rfl (Zu rfl rfl (Yb rfl (Zv rfl rfl (Yb rfl (Zr rfl (Zq rfl (Yc (Yj rfl (fun h43=>?_) (fun h43=>?_))))))))))))))) <;> simp only [NM] at h43
   ·refine Ze (Yq rfl (Yc (Yi (⟨_,ZL rfl,?_⟩))))
    refine ZJ ?_
    rcases hc with hc | hc
    all_goals simp only [Y0,YS,hc,if_true,if_false,Int.reduceEq,Int.reduceMul,Int.reduceAdd]
    all_goals (repeat' split) <;> omega
   refine Yh (Ye (Ze (Zz rfl (Ym (x:=m 1) rfl rfl ZN (rfl) (Zj rfl (Zt rfl rfl (Zr rfl (Zk rfl (Ys (t:=44) rfl (fun h44=>?_) (fun h44=>?_)))))))))) <;> simp only [NM] at h44
   ·refine Yb rfl (Yo rfl rfl ZO (Yb rfl (Yt rfl (YG (VQ _)) rfl rfl rfl (Yb rfl (Zj rfl (Yb rfl (Zu rfl rfl (Yb rfl (Zv rfl rfl (Yb rfl (Zr rfl (Zq rfl (Yc (Yj rfl (fun h45=>?_) (fun h45=>?_))))))))))))))) <;> simp only [NM] at h45
    ·refine Ze (Yq rfl (Yc (Yi (⟨_,ZL rfl,?_⟩))))
     refine ZJ ?_
     rcases hc with hc | hc
     all_goals simp only [Y0,YS,hc,if_true,if_false,Int.reduceEq,Int.reduceMul,Int.reduceAdd]
     all_goals (repeat' split) <;> omega
    refine Yh (Ze (Yq rfl (Yc (Yi (⟨_,ZL rfl,?_⟩)))))
    refine ZJ ?_
    rcases hc with hc | hc
    all_goals simp only [Y0,YS,hc,if_true,if_false,Int.reduceEq,Int.reduceMul,Int.reduceAdd]
    all_goals (repeat' split) <;> omega
   refine ZE rfl (ZD rfl (Zq rfl (Yc (ZB rfl (Yh (Ze (Yq rfl (Yc (Yi (⟨_,ZL rfl,?_⟩))))))))))
   refine ZJ ?_
   rcases hc with hc | hc
   all_goals simp only [Y0,YS,hc,if_true,if_false,Int.reduceEq,Int.reduceMul,Int.reduceAdd]
   all_goals (repeat' split) <;> omega
  refine ZE rfl (ZD rfl (Zq rfl (Yc (ZB rfl (Yh (Ye (Ze (Zz rfl (Ym (x:=m 1) rfl rfl ZN (rfl) (Zj rfl (Zt rfl rfl (Zr rfl (Zk rfl (Ys (t:=44) rfl (fun h46=>?_) (fun h46=>?_))))))))))))))) <;> simp only [NM] at h46
  ·refine Yb rfl (Yo rfl rfl ZO (Yb rfl (Yt rfl (YG (VQ _)) rfl rfl rfl (Yb rfl (Zj rfl (Yb rfl (Zu rfl rfl (Yb rfl (Zv rfl rfl (Yb rfl (Zr rfl (Zq rfl (Yc (Yj rfl (fun h47=>?_) (fun h47=>?_))))))))))))))) <;> simp only [NM] at h47
   ·refine Ze (Yq rfl (Yc (Yi (⟨_,ZL rfl,?_⟩))))
    refine ZJ ?_
    rcases hc with hc | hc
    all_goals simp only [Y0,YS,hc,if_true,if_false,Int.reduceEq,Int.reduceMul,Int.reduceAdd]
    all_goals (repeat' split) <;> omega
   refine Yh (Ze (Yq rfl (Yc (Yi (⟨_,ZL rfl,?_⟩)))))
   refine ZJ ?_
   rcases hc with hc | hc
   all_goals simp only [Y0,YS,hc,if_true,if_false,Int.reduceEq,Int.reduceMul,Int.reduceAdd]
   all_goals (repeat' split) <;> omega
  refine ZE rfl (ZD rfl (Zq rfl (Yc (ZB rfl (Yh (Ze (Yq rfl (Yc (Yi (⟨_,ZL rfl,?_⟩))))))))))
  refine ZJ ?_
  rcases hc with hc | hc
  all_goals simp only [Y0,YS,hc,if_true,if_false,Int.reduceEq,Int.reduceMul,Int.reduceAdd]
  all_goals (repeat' split) <;> omega
 refine Yh (Ye (Ze (Zy rfl (Ym (x:=P (sqI (m 0))) rfl rfl ZM (rfl) (Zr rfl (Zk rfl (Ys (t:=20) rfl (fun h48=>?_) (fun h48=>?_)))))))) <;> simp only [NM] at h48
 ·refine ZE rfl (Zq rfl (Yc (ZA rfl (Ze (Yq rfl (Yc (Yi (⟨_,ZL rfl,?_⟩))))))))
  refine ZJ ?_
  rcases hc with hc | hc
  all_goals simp only [Y0,YS,hc,if_true,if_false,Int.reduceEq,Int.reduceMul,Int.reduceAdd]
  all_goals (repeat' split) <;> omega
 refine Yb rfl (Zy rfl (Yb rfl (Ym (x:=m 0) rfl rfl ZN (rfl) (Yb rfl (Zj rfl (Yb rfl (Zr rfl (Zq rfl (Yc (Yj rfl (fun h49=>?_) (fun h49=>?_))))))))))) <;> simp only [NM] at h49
 ·refine Ze (Yq rfl (Yc (Yi (⟨_,ZL rfl,?_⟩))))
  refine ZJ ?_
  rcases hc with hc | hc
  all_goals simp only [Y0,YS,hc,if_true,if_false,Int.reduceEq,Int.reduceMul,Int.reduceAdd]
  all_goals (repeat' split) <;> omega
 refine Yh (Ye (Ze (Zz rfl (Ym (x:=m 1) rfl rfl ZN (rfl) (Zj rfl (Zs rfl rfl (Zr rfl (Zk rfl (Ys (t:=31) rfl (fun h50=>?_) (fun h50=>?_)))))))))) <;> simp only [NM] at h50
 ·refine Yb rfl (Yo rfl rfl ZO (Yb rfl (Yt rfl (YG (VQ _)) rfl rfl rfl (Yb rfl (Zj rfl (Yb rfl (Zu rfl rfl (Yb rfl (Zv rfl rfl (Yb rfl (Zr rfl (Zq rfl (Yc (Yj rfl (fun h51=>?_) (fun h51=>?_))))))))))))))) <;> simp only [NM] at h51
  ·refine Ze (Yq rfl (Yc (Yi (⟨_,ZL rfl,?_⟩))))
   refine ZJ ?_
   rcases hc with hc | hc
   all_goals simp only [Y0,YS,hc,if_true,if_false,Int.reduceEq,Int.reduceMul,Int.reduceAdd]
   all_goals (repeat' split) <;> omega
  refine Yh (Ye (Ze (Zz rfl (Ym (x:=m 1) rfl rfl ZN (rfl) (Zj rfl (Zt rfl rfl (Zr rfl (Zk rfl (Ys (t:=44) rfl (fun h52=>?_) (fun h52=>?_)))))))))) <;> simp only [NM] at h52
  ·refine Yb rfl (Yo rfl rfl ZO (Yb rfl (Yt rfl (YG (VQ _)) rfl rfl rfl (Yb rfl (Zj rfl (Yb rfl (Zu rfl rfl (Yb rfl (Zv rfl rfl (Yb rfl (Zr rfl (Zq rfl (Yc (Yj rfl (fun h53=>?_) (fun h53=>?_))))))))))))))) <;> simp only [NM] at h53
   ·refine Ze (Yq rfl (Yc (Yi (⟨_,ZL rfl,?_⟩))))
    refine ZJ ?_
    rcases hc with hc | hc
    all_goals simp only [Y0,YS,hc,if_true,if_false,Int.reduceEq,Int.reduceMul,Int.reduceAdd]
    all_goals (repeat' split) <;> omega
   refine Yh (Ze (Yq rfl (Yc (Yi (⟨_,ZL rfl,?_⟩)))))
   refine ZJ ?_
   rcases hc with hc | hc
   all_goals simp only [Y0,YS,hc,if_true,if_false,Int.reduceEq,Int.reduceMul,Int.reduceAdd]
   all_goals (repeat' split) <;> omega
  refine ZE rfl (ZD rfl (Zq rfl (Yc (ZB rfl (Yh (Ze (Yq rfl (Yc (Yi (⟨_,ZL rfl,?_⟩))))))))))
  refine ZJ ?_
  rcases hc with hc | hc
  all_goals simp only [Y0,YS,hc,if_true,if_false,Int.reduceEq,Int.reduceMul,Int.reduceAdd]
  all_goals (repeat' split) <;> omega
 refine ZE rfl (ZD rfl (Zq rfl (Yc (ZB rfl (Yh (Ye (Ze (Zz rfl (Ym (x:=m 1) rfl rfl ZN (rfl) (Zj rfl (Zt rfl rfl (Zr rfl (Zk rfl (Ys (t:=44) rfl (fun h54=>?_) (fun h54=>?_))))))))))))))) <;> simp only [NM] at h54
 ·refine Yb rfl (Yo rfl rfl ZO (Yb rfl (Yt rfl (YG (VQ _)) rfl rfl rfl (Yb rfl (Zj rfl (Yb rfl (Zu rfl rfl (Yb rfl (Zv rfl rfl (Yb rfl (Zr rfl (Zq rfl (Yc (Yj rfl (fun h55=>?_) (fun h55=>?_))))))))))))))) <;> simp only [NM] at h55
  ·refine Ze (Yq rfl (Yc (Yi (⟨_,ZL rfl,?_⟩))))
   refine ZJ ?_
   rcases hc with hc | hc
   all_goals simp only [Y0,YS,hc,if_true,if_false,Int.reduceEq,Int.reduceMul,Int.reduceAdd]
   all_goals (repeat' split) <;> omega
  refine Yh (Ze (Yq rfl (Yc (Yi (⟨_,ZL rfl,?_⟩)))))
  refine ZJ ?_
  rcases hc with hc | hc
  all_goals simp only [Y0,YS,hc,if_true,if_false,Int.reduceEq,Int.reduceMul,Int.reduceAdd]
  all_goals (repeat' split) <;> omega
 refine ZE rfl (ZD rfl (Zq rfl (Yc (ZB rfl (Yh (Ze (Yq rfl (Yc (Yi (⟨_,ZL rfl,?_⟩))))))))))
 refine ZJ ?_
 rcases hc with hc | hc
 all_goals simp only [Y0,YS,hc,if_true,if_false,Int.reduceEq,Int.reduceMul,Int.reduceAdd]
 all_goals (repeat' split) <;> omega
theorem tC (P m:Nat->Int):WR AM 28 [.agg 133 (ia P),.agg 3 (ia m)] [] (fun v _ _=>v=.s (.int .i64 (if Wf P (m 0) (m 1) (m 2)=0 then Y7 P (P (sqI (m 0))) (m 0) (m 1) else -1))):=by
 refine YJ (a:=a28) rfl rfl (YI _) (ZQ rfl) (m:=0) rfl (Ze (YC rfl (YC rfl (Yq rfl (Yc (Ye (Ze (Zy rfl (Ym rfl rfl ZM rfl (Yt rfl (YG (zk _)) rfl rfl rfl (Yv (r:=.bool _) rfl rfl (Zk rfl (Ys (t:=10) rfl (fun h56=>?_) (fun h56=>?_)))))))))))))) <;> simp only [NM] at h56
 ·try simp only [isM,ZaL,Zax] at h56
  refine ZE rfl (Zq rfl (Zk rfl (ZE rfl (ZC rfl (Zq rfl (Zk rfl (ZE rfl (Zq rfl (Yc (ZA rfl (Ze (Yq rfl (Yc (Yi (⟨_,ZL rfl,?_⟩)))))))))))))))
  refine ZJ ?_
  (rw [UK (by omega)]; rfl)
 try simp only [isM,ZaL,Zax] at h56
 refine Yb rfl (Zz rfl (Yb rfl (Ym rfl rfl ZM rfl (Yb rfl (Yt rfl (YG (zk _)) rfl rfl rfl (Yb rfl (Yv (r:=.bool _) rfl rfl (Zq rfl (Zk rfl (Ys (t:=16) rfl (fun h57=>?_) (fun h57=>?_))))))))))) <;> simp only [NM] at h57
 ·try simp only [isM,ZaL,Zax] at h57
  refine ZE rfl (ZC rfl (Zq rfl (Zk rfl (ZE rfl (Zq rfl (Yc (ZA rfl (Ze (Yq rfl (Yc (Yi (⟨_,ZL rfl,?_⟩))))))))))))
  refine ZJ ?_
  (rw [UK (by omega)]; rfl)
 try simp only [isM,ZaL,Zax] at h57
 refine Yb rfl (Zy rfl (Yb rfl (Ym rfl rfl ZM rfl (Yb rfl (Zz rfl (Yb rfl (Ym rfl rfl ZM rfl (Yb rfl (Zr rfl (Zq rfl (Zk rfl (Ys (t:=23) rfl (fun h58=>?_) (fun h58=>?_))))))))))))) <;> simp only [NM] at h58
 ·refine ZE rfl (Zq rfl (Yc (ZA rfl (Ze (Yq rfl (Yc (Yi (⟨_,ZL rfl,?_⟩))))))))
  refine ZJ ?_
  (rw [UK (by omega)]; rfl)
 refine Yb rfl (Yo rfl rfl ZN (Yb rfl (Yo rfl rfl ZM (Yb rfl (Yt rfl (YG (j6 _ _ (by assumption) (by assumption))) rfl rfl rfl (Yb rfl (Yv (r:=.bool _) rfl rfl (Zq rfl (Yc (Yj rfl (fun h59=>?_) (fun h59=>?_))))))))))) <;> simp only [NM] at h59
 ·refine Ze (Yq rfl (Yc (Yi (⟨_,ZL rfl,?_⟩))))
  refine ZJ ?_
  (rw [Wy (by omega) (by assumption)]; rfl)
 refine Yh (Ze (Zz rfl (Ym rfl rfl ZM rfl (Zj rfl (Yc (WD (fun f n L=>(Wf P (m 0) (m 1) (m 2)=0)/\(0<=m 0/\m 0 < 64)/\(0<=m 1/\m 1 < 64)/\(f 2=.ptr 0 0 133)/\(f 3=.ptr 1 0 3)/\(f 4=.s (.int .i64 0))/\(f 5=.s (.int .i64 (atT P (P (sqI (m 0))) (m 0) (m 1))))/\(L=[(1,.sc .var 3 (ia m)),(0,.sc .var 133 (ia P))])/\(n=2)) ?_ (fun f nb L hI=>?_)))))))
 ·refine Ze (Yo rfl rfl ZN (Yo rfl rfl ZM (Yt rfl (YG (pV _ _ (by assumption) (by assumption))) rfl rfl rfl (Yc (Yj rfl (fun h60=>?_) (fun h60=>?_)))))) <;> simp only [NM] at h60
  ·refine Yf (Zy rfl (Ym rfl rfl ZM rfl (Zu rfl rfl (Wn rfl rfl (by omega) (Zz rfl (Ym rfl rfl ZM rfl (Zv rfl rfl (Zs rfl rfl (Zj rfl (Yc (⟨_,(.refl _),?_,by assumption,by assumption,rfl,rfl,rfl,?_,rfl,rfl⟩)))))))))))
   ·exact Vr (by omega) (by assumption)
   refine ZJ ?_
   unfold atT
   exact (Za8 (by assumption)).symm
  refine Yh (⟨_,(.refl _),?_,by assumption,by assumption,rfl,rfl,rfl,?_,rfl,rfl⟩)
  ·exact Vr (by omega) (by assumption)
  refine ZJ ?_
  unfold atT
  exact (Za7 (by assumption)).symm
 obtain ⟨ge,ha,ht,k2,k3,k4,k5,rfl,rfl⟩:=hI
 refine Za 2 k2 (Za 3 k3 (Za 4 k4 (Za 5 k5 ?_)))
 have hat:=xy (P:=P) (k:=P (sqI (m 0))) ha ht
 refine Ye (Ze (Zj rfl (Zy rfl (Zw rfl rfl rfl (Yp rfl rfl ZN (YB rfl .nil (Yw rfl rfl (Yc (Yj rfl (fun h61=>?_) (fun h61=>?_)))))))))) <;> simp only [NM] at h61
 ·refine Ze (Yq rfl (Yc (Yi (⟨_,ZL rfl,?_⟩))))
  refine ZJ ?_
  (rw [Za8 ge,Y7,show YT P (atT P (P (sqI (m 0))) (m 0) (m 1))=true from (by assumption)]; rfl)
 refine Yh (Ze (Zj rfl (Zj rfl (Yc (Yi (⟨_,ZL rfl,?_⟩))))))
 refine ZJ ?_
 (rw [Za8 ge,Y7,show YT P (atT P (P (sqI (m 0))) (m 0) (m 1))=false from (by assumption)]; rfl)
def straightL:List (Int × Int):=[(1,0),(-1,0),(0,1),(0,-1)]
def slantL:List (Int × Int):=[(1,1),(1,-1),(-1,1),(-1,-1)]
def jumpL:List (Int × Int):=[(1,2),(2,1),(2,-1),(1,-2),(-1,-2),(-2,-1),(-2,1),(-1,2)]
def Vm (f r:Int):Nat->Int->List Int
 | 0,_=>[]
 | k+1,s=>if YR s f r=-1 then [] else YR s f r::Vm f r k (YR s f r)
def V8 (P:Nat->Int):List Int->List Int
 | []=>[]
 | t::l=>if YT P t=true then t::V8 P l else [t]
def X6 (P:Nat->Int) (s:Int) (ways:List (Int × Int)):List Int:=ways.flatMap fun w=>V8 P (Vm w.1 w.2 8 s)
def X4 (s:Int) (ways:List (Int × Int)):List Int:=(ways.map fun w=>YR s w.1 w.2).filter fun t=>t != -1
def Um (P:Nat->Int) (s k c:Int):List Int :=
 if c=0\/c=1 then
  if k=1 then X4 s [(-1,1 - 2*c),(1,1 - 2*c)]
  else if k=2 then X4 s jumpL
  else if k=6 then X4 s (straightL++slantL)
  else if k=4 then X6 P s straightL
  else if k=3 then X6 P s slantL
  else if k=5 then X6 P s (straightL++slantL)
  else []
 else []
def Wc (P:Nat->Int) (s:Int):List Int:=Um P s (P (sqI s)) (P (sqI s+1))
def Wt (P:Nat->Int) (s:Int):List Int:=if 0<=s/\s < 64 then K0 (Wc P s) else []
def XT (n:Int):Int:=if n < 0 then -n else n
def KP (n:Int):Int:=if n < 0 then -1 else if 0 < n then 1 else 0
def Uu (a b:Int):Int:=8*KP (b / 8 - a / 8)+KP (b % 8 - a % 8)
def U8 (a b:Int):Nat:=max (XT (b / 8 - a / 8)).toNat (XT (b % 8 - a % 8)).toNat
def Qa (P:Nat->Int) (a b:Int):Bool:=(List.range (U8 a b - 1)).all fun (j:Nat)=>YT P (a+Uu a b*((j:Int)+1))
def WK (a b:Int):Bool:=decide (b % 8 - a % 8=0\/b / 8 - a / 8=0)
def WH (a b:Int):Bool:=decide (XT (b % 8 - a % 8)=XT (b / 8 - a / 8))
def Jx (P:Nat->Int) (a b k c:Int):Bool :=
 if YZ k c=false\/a=b then false
 else if k=1 then decide (XT (b % 8 - a % 8)=1/\b / 8 - a / 8=1 - 2*c)
 else if k=2 then decide (XT (b % 8 - a % 8)*XT (b / 8 - a / 8)=2)
 else if k=6 then decide (XT (b % 8 - a % 8)<=1/\XT (b / 8 - a / 8)<=1)
 else if k=4 then WK a b&&Qa P a b
 else if k=3 then WH a b&&Qa P a b
 else (WK a b || WH a b)&&Qa P a b
def Xk (P:Nat->Int) (a b:Int):Bool:=Jx P a b (P (sqI a)) (P (sqI a+1))
def K3 (a b:Int):Int × Int:=(KP (b % 8 - a % 8),KP (b / 8 - a / 8))
def Di (a b:Int):List Int:=(List.range (U8 a b - 1)).map fun (j:Nat)=>a+Uu a b*((j:Int)+1)
def KA (f:Nat->Bool):Bool:=Xs 64 f
theorem Vu {f:Nat->Bool} (h:KA f=true) (x:Fin 64):f x.val=true:=by
 have:∀ n,Xs n f=true->∀ i,i < n->f i=true:=by
  intro n
  induction n with
  | zero=>intro _ i hi; omega
  | succ n ih =>
   intro h i hi
   simp only [Xs,ZaM] at h
   by_cases e:i=n
   ·subst e; exact h.2
   exact ih h.1 i (by omega)
 exact this 64 h x.val x.isLt
def jO:List Int->List Int->Bool
 | [],[]=>true
 | x::l,y::r=>decide (x=y)&&jO l r
 | _,_=>false
theorem us:∀ {l r:List Int},jO l r=true->l=r
 | [],[],_=>rfl
 | x::l,y::r,h=>by
  simp only [jO,ZaM,ZaL] at h
  rw [h.1,us h.2]
 | [],_::_,h=>by cases h
 | _::_,[],h=>by cases h
def R9 (b:Int):List Int->Bool
 | []=>false
 | x::l=>decide (b=x) || R9 b l
theorem Kk {b:Int}:∀ {l:List Int},R9 b l=decide (b∈l)
 | []=>by simp [R9]
 | x::l=>by simp only [R9,Kk (l:=l),ZaX,Bool.decide_or]
def prefL (b:Int):List Int->List Int
 | []=>[]
 | x::l=>if x=b then [] else x::prefL b l
def chk (a:Int) (w:Int × Int):List Int->List Int->Bool
 | _,[]=>true
 | pre,b::l=>(decide (a≠b)&&(decide ((K3 a b).1=w.1)&&decide ((K3 a b).2=w.2))&&(WK a b || WH a b))&&jO pre (Di a b)&&!R9 b pre&&chk a w (pre++[b]) l
theorem pz {a b:Int} {w:Int × Int}:∀ {r pre:List Int},chk a w pre r=true->b∈r->(a≠b/\K3 a b=w/\(WK a b || WH a b)=true)/\(b ∉ pre/\pre++r.takeWhile (fun t=>t != b)=Di a b)
 | [],_,_,h=>by cases h
 | x::r,pre,h,hm=>by
  simp only [chk,ZaM,ZaL,ZaK,Kk,Zax] at h
  obtain ⟨⟨⟨⟨⟨h1,h2,h3⟩,h4⟩,h5⟩,h6⟩,h7⟩:=h
  by_cases e:x=b
  ·subst e
   refine ⟨⟨h1,Prod.ext h2 h3,h4⟩,h6,?_⟩
   have:(x::r).takeWhile (fun t=>t != x)=[]:=by simp
   rw [this,ZaQ]
   exact us h5
  rcases ZaX.1 hm with e' | hm
  ·exact absurd e'.symm e
  obtain ⟨k1,k2,k3⟩:=pz h7 hm
  refine ⟨k1,fun h=>k2 (ZaC _ h),?_⟩
  have:(x::r).takeWhile (fun t=>t != b)=x::r.takeWhile (fun t=>t != b):=by simp [e]
  rw [this,<- k3,ZaJ]; rfl
def rayOK (a b:Int):Bool:=decide (a=b) || (!(WK a b || WH a b) || R9 b (Vm (K3 a b).1 (K3 a b).2 8 a))
theorem ray_all:(KA fun a=>KA fun b=>rayOK a b)=true:=by decide +kernel
theorem chk_all:(KA fun a=>(straightL++slantL).all fun w=>chk a w [] (Vm w.1 w.2 8 a))=true:=by decide +kernel
theorem ray_to (a b:Fin 64) (hn:(a.val:Int)≠b.val) (h:(WK a.val b.val || WH a.val b.val)=true):(b.val:Int)∈Vm (K3 a.val b.val).1 (K3 a.val b.val).2 8 a.val:=by
 have h1:=Vu (Vu ray_all a) b
 unfold rayOK at h1
 rw [ZaT hn,Bool.false_or,h,Bool.not_true,Bool.false_or,Kk] at h1
 exact of_decide_eq_true h1
theorem oc {a:Fin 64} {b:Int} {w:Int × Int} (hw:w∈straightL++slantL) (h:b∈Vm w.1 w.2 8 a.val):((a.val:Int)≠b/\K3 a.val b=w/\(WK a.val b || WH a.val b)=true)/\(Vm w.1 w.2 8 a.val).takeWhile (fun t=>t != b)=Di a.val b:=by
 have h2:=pz (ZaO.1 (Vu chk_all a) w hw) h
 exact ⟨h2.1,by simpa using h2.2.2⟩
def tD (a b:Int):Bool:=decide (a=b) || (WK a b == (decide (K3 a b∈straightL)&&(WK a b || WH a b))&&(WH a b == (decide (K3 a b∈slantL)&&(WK a b || WH a b))))
def E7 (a b:Int):Bool :=
 (R9 b (X4 a jumpL) == (decide (a≠b)&&decide (XT (b % 8 - a % 8)*XT (b / 8 - a / 8)=2))) &&
 (R9 b (X4 a (straightL++slantL)) == (decide (a≠b)&&(decide (XT (b % 8 - a % 8)<=1)&&decide (XT (b / 8 - a / 8)<=1)))) &&
 [0,1].all fun c=>R9 b (X4 a [(-1,1 - 2*c),(1,1 - 2*c)]) == (decide (a≠b)&&(decide (XT (b % 8 - a % 8)=1)&&decide (b / 8 - a / 8=1 - 2*c)))
theorem uo:(KA fun a=>KA fun b=>tD a b)=true:=by decide +kernel
theorem gO:(KA fun a=>KA fun b=>E7 a b)=true:=by decide +kernel
theorem gn (a b:Fin 64) (hn:(a.val:Int)≠b.val):WK a.val b.val=decide (K3 a.val b.val∈straightL/\(WK a.val b.val || WH a.val b.val)=true):=by
 have h:=Vu (Vu uo a) b
 unfold tD at h
 rw [ZaT hn,Bool.false_or,ZaM,Za2,Za2] at h
 rw [Bool.decide_and]
 exact h.1.trans (by simp)
theorem gj (a b:Fin 64) (hn:(a.val:Int)≠b.val):WH a.val b.val=decide (K3 a.val b.val∈slantL/\(WK a.val b.val || WH a.val b.val)=true):=by
 have h:=Vu (Vu uo a) b
 unfold tD at h
 rw [ZaT hn,Bool.false_or,ZaM,Za2,Za2] at h
 rw [Bool.decide_and]
 exact h.2.trans (by simp)
theorem wf (a b:Fin 64):E7 a.val b.val=true:=Vu (Vu gO a) b
theorem wO (a b:Fin 64) (c:Int) (hc:c∈[0,1]):decide ((b.val:Int)∈X4 a.val [(-1,1 - 2*c),(1,1 - 2*c)])=decide ((a.val:Int)≠b.val/\XT ((b.val:Int) % 8 - (a.val:Int) % 8)=1/\(b.val:Int) / 8 - (a.val:Int) / 8=1 - 2*c):=by
 have h:=wf a b
 unfold E7 at h
 rw [ZaM] at h
 have h:=ZaO.1 h.2 c hc
 rw [Za2,Kk] at h
 rw [h,Bool.decide_and,Bool.decide_and]
theorem qc (a b:Fin 64):decide ((b.val:Int)∈X4 a.val jumpL)=decide ((a.val:Int)≠b.val/\XT ((b.val:Int) % 8 - (a.val:Int) % 8)*XT ((b.val:Int) / 8 - (a.val:Int) / 8)=2):=by
 have h:=wf a b
 unfold E7 at h
 rw [ZaM,ZaM,Za2,Kk] at h
 rw [h.1.1,Bool.decide_and]
theorem qg (a b:Fin 64):decide ((b.val:Int)∈X4 a.val (straightL++slantL))=decide ((a.val:Int)≠b.val/\XT ((b.val:Int) % 8 - (a.val:Int) % 8)<=1/\XT ((b.val:Int) / 8 - (a.val:Int) / 8)<=1):=by
 have h:=wf a b
 unfold E7 at h
 rw [ZaM,ZaM,Za2,Za2,Kk,Kk] at h
 rw [h.1.2,Bool.decide_and,Bool.decide_and]
def zX:List Int->Bool
 | []=>true
 | x::l=>!R9 x l&&zX l
theorem Tj:∀ {l:List Int},zX l=true->l.Nodup
 | [],_=>.nil
 | x::l,h=>by
  simp only [zX,ZaM,ZaK,Kk,Zax] at h
  exact List.nodup_cons.2 ⟨h.1,Tj h.2⟩
theorem nod_all:(KA fun a=>zX (X4 a jumpL)&&zX (X4 a (straightL++slantL))&&([0,1].all fun c=>zX (X4 a [(-1,1 - 2*c),(1,1 - 2*c)]))&&zX ((straightL++slantL).flatMap fun w=>Vm w.1 w.2 8 a))=true:=by decide +kernel
theorem xB (a:Fin 64):(X4 a.val jumpL).Nodup∧(X4 a.val (straightL++slantL)).Nodup∧(∀ c∈[0,1],(X4 a.val [(-1,1 - 2*c),(1,1 - 2*c)]).Nodup)∧((straightL++slantL).flatMap fun w=>Vm w.1 w.2 8 a.val).Nodup:=by
 have h:=Vu nod_all a
 simp only [ZaM] at h
 exact ⟨Tj h.1.1.1,Tj h.1.1.2,fun c hc=>Tj (ZaO.1 h.1.2 c hc),Tj h.2⟩
theorem upto_mem {P:Nat->Int} {b:Int}:∀ {l:List Int},b∈V8 P l↔b∈l/\(l.takeWhile (fun t=>t != b)).all (fun t=>YT P t)=true
 | []=>by simp [V8]
 | t::l=>by
  unfold V8
  by_cases e:t=b
  ·subst e
   have h:(t::l).takeWhile (fun s=>s != t)=[]:=by simp
   rw [h]
   by_cases h:YT P t=true
   ·rw [Za8 h]; simp
   rw [Za7 h]; simp
  have h1:(t::l).takeWhile (fun s=>s != b)=t::l.takeWhile (fun s=>s != b):=by simp [e]
  rw [h1]
  by_cases h:YT P t=true
  ·rw [Za8 h,ZaX,ZaX,upto_mem,List.all_cons,h,Bool.true_and]
   have:b≠t:=Ne.symm e
   simp [this]
  rw [Za7 h,List.all_cons]
  have:b≠t:=Ne.symm e
  simp [this,h]
theorem T0 (P:Nat->Int):∀ l:List Int,List.Sublist (V8 P l) l
 | []=>.slnil
 | t::l=>by
  unfold V8
  by_cases h:YT P t=true
  ·rw [Za8 h]; exact (T0 P l).cons_cons _
  rw [Za7 h]; exact (List.nil_sublist l).cons_cons _
theorem jC {α β:Type} {f g:α->List β} (h:∀ x,List.Sublist (f x) (g x)):∀ l:List α,List.Sublist (l.flatMap f) (l.flatMap g)
 | []=>by simp
 | x::l=>by rw [Zbo,Zbo]; exact (h x).append (jC h l)
theorem oV {α β:Type} {f:α->List β} {l1 l2:List α} (h:List.Sublist l1 l2):List.Sublist (l1.flatMap f) (l2.flatMap f):=by
 induction h with
 | slnil=>exact .refl _
 | cons x _ ih=>rw [Zbo]; exact ih.trans (List.sublist_append_right _ _)
 | cons_cons x _ ih=>rw [Zbo,Zbo]; exact (List.Sublist.refl _).append ih
theorem Kx {a:Int} (h:0<=a/\a < 64):∃ x:Fin 64,(x.val:Int)=a:=⟨⟨a.toNat,by omega⟩,by simp; omega⟩
theorem Tg {P:Nat->Int} {s:Int} (hs:0<=s/\s < 64) {ways:List (Int × Int)} (hw:List.Sublist ways (straightL++slantL)):(X6 P s ways).Nodup:=by
 obtain ⟨x,rfl⟩:=Kx hs
 exact ((jC (fun w=>T0 P _) ways).trans (oV hw)).nodup (xB x).2.2.2
theorem xp {P:Nat->Int} {s:Int} (hs:0<=s/\s < 64):(Wc P s).Nodup:=by
 have hn:∀ k c,(Um P s k c).Nodup:=by
  intro k c
  unfold Um
  obtain ⟨x,hx⟩:=Kx hs
  have h:=xB x
  rw [hx] at h
  by_cases hc:c=0\/c=1
  ·rw [Za8 hc]
   have h3:=h.2.2.1 c (by rcases hc with rfl | rfl <;> simp)
   repeat' split
   ·exact h3
   ·exact h.1
   ·exact h.2.1
   ·exact Tg hs (List.sublist_append_left _ _)
   ·exact Tg hs (List.sublist_append_right _ _)
   ·exact Tg hs (.refl _)
   exact .nil
  rw [Za7 hc]; exact .nil
 exact hn _ _
theorem RY {P:Nat→Int} {a b:Int} (ha:0≤a∧a < 64) (hb:0≤b∧b < 64) {ways:List (Int × Int)} (hw:∀ w∈ways,w∈straightL++slantL) :
  b∈X6 P a ways↔a≠b/\K3 a b∈ways/\(WK a b || WH a b)=true/\Qa P a b=true:=by
 obtain ⟨x,rfl⟩:=Kx ha
 obtain ⟨y,rfl⟩:=Kx hb
 have ho:Qa P x.val y.val=(Di x.val y.val).all fun t=>YT P t:=by
  unfold Qa Di
  rw [List.all_map]; rfl
 unfold X6
 rw [List.mem_flatMap]
 constructor
 ·rintro ⟨w,hm,hu⟩
  obtain ⟨h1,h2⟩:=upto_mem.1 hu
  obtain ⟨⟨f1,f2,f3⟩,f4⟩:=oc (hw w hm) h1
  rw [f4,<- ho] at h2
  exact ⟨f1,by rw [f2]; exact hm,f3,h2⟩
 rintro ⟨h1,h2,h3,h4⟩
 have f1:=ray_to x y h1 h3
 obtain ⟨_,f4⟩:=oc (hw _ h2) f1
 exact ⟨_,h2,upto_mem.2 ⟨f1,by rw [f4,<- ho]; exact h4⟩⟩
theorem TS {P:Nat->Int} {a b:Int} (ha:0<=a/\a < 64) (hb:0<=b/\b < 64):b∈Wc P a↔Xk P a b=true:=by
 have hk:∀ k c,b∈Um P a k c↔Jx P a b k c=true:=by
  intro k c
  unfold Um Jx
  by_cases hab:a=b
  ·have hor:YZ k c=false\/a=b:=.inr hab
   rw [Za8 hor]
   clear hor
   subst hab
   have e1:=wO; have e2:=qc; have e3:=qg
   obtain ⟨x,hx⟩:=Kx ha
   have g2:=e2 x x; have g3:=e3 x x
   rw [hx] at g2 g3
   simp only [ne_eq,not_true_eq_false,false_and,decide_false,Zax] at g2 g3
   simp only [ZaF,Za4]
   by_cases hc:c=0\/c=1
   ·rw [Za8 hc]
    have g1:=e1 x x c (by rcases hc with rfl | rfl <;> simp)
    rw [hx] at g1
    simp only [ne_eq,not_true_eq_false,false_and,decide_false,Zax] at g1
    have ga:∀ ways:List (Int × Int),(∀ w∈ways,w∈straightL++slantL)→a ∉ X6 P a ways:=fun ways hw h=>((RY ha ha hw).1 h).1 rfl
    repeat' split
    ·exact g1
    ·exact g2
    ·exact g3
    ·exact ga _ fun w h=>ZaC _ h
    ·exact ga _ fun w h=>Zaz _ h
    ·exact ga _ fun w h=>h
    simp
   rw [Za7 hc]; simp
  obtain ⟨x,hx⟩:=Kx ha
  obtain ⟨y,hy⟩:=Kx hb
  have hxy:(x.val:Int)≠y.val:=by rw [hx,hy]; exact hab
  by_cases hc:c=0\/c=1
  ·rw [Za8 hc]
   by_cases hm:YZ k c=true
   ·have hn:¬ (YZ k c=false\/a=b):=by
     rintro (h | h)
     ·rw [hm] at h; cases h
     exact hab h
    rw [Za7 hn]
    have hk:1<=k/\k<=6:=by
     unfold YZ at hm
     simp only [ZaL] at hm
     omega
    have g1:=wO x y c (by rcases hc with rfl | rfl <;> simp)
    have g2:=qc x y
    have g3:=qg x y
    have g4:=gn x y hxy
    have g5:=gj x y hxy
    rw [hx,hy] at g1 g2 g3 g4 g5
    simp only [ne_eq,hab,not_false_eq_true,true_and] at g1 g2 g3
    by_cases k1:k=1
    ·rw [Za8 k1,Za8 k1,<- g1,ZaL]
    rw [Za7 k1,Za7 k1]
    by_cases k2:k=2
    ·rw [Za8 k2,Za8 k2,<- g2,ZaL]
    rw [Za7 k2,Za7 k2]
    by_cases k6:k=6
    ·rw [Za8 k6,Za8 k6,<- g3,ZaL]
    rw [Za7 k6,Za7 k6]
    by_cases k4:k=4
    ·rw [Za8 k4,Za8 k4,RY ha hb fun w h=>ZaC _ h,ZaM]
     constructor
     ·rintro ⟨_,h1,h2,h3⟩
      exact ⟨g4.trans (ZaV ⟨h1,h2⟩),h3⟩
     rintro ⟨h1,h2⟩
     obtain ⟨h3,h4⟩:=of_decide_eq_true (g4.symm.trans h1)
     exact ⟨hab,h3,h4,h2⟩
    rw [Za7 k4,Za7 k4]
    by_cases k3:k=3
    ·rw [Za8 k3,Za8 k3,RY ha hb fun w h=>Zaz _ h,ZaM]
     constructor
     ·rintro ⟨_,h1,h2,h3⟩
      exact ⟨g5.trans (ZaV ⟨h1,h2⟩),h3⟩
     rintro ⟨h1,h2⟩
     obtain ⟨h3,h4⟩:=of_decide_eq_true (g5.symm.trans h1)
     exact ⟨hab,h3,h4,h2⟩
    rw [Za7 k3,Za7 k3,Za8 (show k=5 by omega),RY ha hb fun w h=>h,ZaM]
    simp only [ne_eq,hab,not_false_eq_true,true_and]
    constructor
    ·rintro ⟨_,h⟩; exact h
    rintro ⟨h1,h2⟩
    refine ⟨?_,h1,h2⟩
    rw [Bool.or_eq_true] at h1
    rcases h1 with h | h
    ·rw [g4] at h
     exact ZaC _ (of_decide_eq_true h).1
    rw [g5] at h
    exact Zaz _ (of_decide_eq_true h).1
   have hm':YZ k c=false:=by simpa using hm
   rw [Za8 (show YZ k c=false\/a=b from .inl hm')]
   unfold YZ at hm
   simp only [ZaL] at hm
   rw [Za7 (by omega),Za7 (by omega),Za7 (by omega),Za7 (by omega),Za7 (by omega),Za7 (by omega)]
   simp
  rw [Za7 hc]
  have hm':YZ k c=false:=by
   unfold YZ
   simp only [Zax]
   omega
  rw [Za8 (show YZ k c=false\/a=b from .inl hm')]
  simp
 exact hk _ _
theorem ring_bd {s t:Int} {ways:List (Int × Int)} (h:t∈X4 s ways):0<=t/\t < 64:=by
 unfold X4 at h
 rw [ZaS,List.mem_map] at h
 obtain ⟨⟨w,_,rfl⟩,h⟩:=h
 have:=Ug s w.1 w.2
 have:YR s w.1 w.2≠-1:=by simpa using h
 omega
theorem yR {f r:Int}:∀ {k:Nat} {s t:Int},t∈Vm f r k s->0<=t/\t < 64
 | 0,s,t,h=>by cases h
 | k+1,s,t,h=>by
  unfold Vm at h
  split at h
  ·cases h
  rename_i hn
  rcases ZaX.1 h with rfl | h
  ·have:=Ug s f r; omega
  exact yR h
theorem vW {P:Nat->Int} {s t:Int} (h:t∈Wc P s):0<=t/\t < 64:=by
 have ha:∀ ways,t∈X6 P s ways->0<=t/\t < 64:=by
  intro ways h
  unfold X6 at h
  rw [List.mem_flatMap] at h
  obtain ⟨w,_,h⟩:=h
  exact yR ((T0 P _).subset h)
 have hk:∀ k c,t∈Um P s k c->0<=t/\t < 64:=by
  intro k c h
  unfold Um at h
  repeat' split at h
  all_goals first | exact ring_bd h | exact ha _ h | cases h
 exact hk _ _ h
def Wg (n:Nat):List Int:=(List.range n).map fun (i:Nat)=>(i:Int)
def attL (P:Nat->Int) (s:Int):List Int:=if 0<=s/\s < 64 then (Wg 64).filter (Xk P s) else []
theorem gi (p:Int->Bool) (n:Nat):((Wg n).filter p).Pairwise (· < ·):=by
 refine List.Pairwise.filter _ ?_
 unfold Wg
 rw [List.pairwise_map]
 exact List.pairwise_lt_range.imp (fun h=>by omega)
theorem oS (P:Nat->Int) (s:Int):Wt P s=attL P s:=by
 unfold Wt attL
 by_cases h:0<=s/\s < 64
 ·rw [Za8 h,Za8 h]
  refine srtM_is (xp h) (gi _ _) fun x=>?_
  rw [ZaS]
  unfold Wg
  rw [List.mem_map]
  constructor
  ·intro hx
   have hb:=vW hx
   exact ⟨⟨x.toNat,ZaU.2 (by omega),by omega⟩,(TS h hb).1 hx⟩
  rintro ⟨⟨i,hi,rfl⟩,hx⟩
  exact (TS h ⟨by omega,by have:=ZaU.1 hi; omega⟩).2 hx
 rw [Za7 h,Za7 h]
end Go.Proofs.YtlkighkfkdpncaaGreatDoor
namespace Go.Am
open Go
section
variable {A:AP} {N:Nat} {f:FE} {n:Nat} {L:HA} {K:KN} {Zp:V->KN} {l:List I} {d:Nat}
def ow (a b:Int):Nat->S:=WN (WN (fun _=>.int .u8 0) (0*1) 1 (fun _=>.int .u8 a)) (1*1) 1 (fun _=>.int .u8 b)
theorem ox {a b:Int} {xa xb:O} (ha:xa.fv N f=.s (.int .u8 a)) (hb:xb.fv N f=.s (.int .u8 b)) (k:WO A N l (upd f d (.sl n 0 2 1 (.ex 2))) (n+1) ((n,.sc .var 2 (ow a b))::L) K Zp):WO A N (⟨some d,none,.h (.mksl 2 1 (.one (.s (.int .u8 0))) [(0,xa),(1,xb)])⟩::l) f n L K Zp :=
 XF (v:=.sl n 0 2 1 (.ex 2)) (fun σ hσ=>⟨σ++[.sc .var 2 (ow a b)],by
  simp only [YL,Z.row,WG,if_true,List.map_cons,List.map_nil,Vf,Y6,ha,hb,V.scells,hσ.1]
  rfl,hσ.new _⟩) k
theorem WO_b2s2 {x:O} {b q:Nat} {c:Cp} {md:Md} {g:Nat->S} {p r:Int} (hx:x.fv N f=.sl b 0 2 1 c) (hm:(b,Blk.sc md q g)∈L) (h0:g 0=.int .u8 p) (h1:g 1=.int .u8 r) (k:WO A N l (upd f d (.s (.str ⟨#[UInt8.ofNat p.toNat,UInt8.ofNat r.toNat]⟩))) n L K Zp):WO A N (⟨some d,none,.h (.b2s x)⟩::l) f n L K Zp :=
 XF (v:=.s (.str ⟨#[UInt8.ofNat p.toNat,UInt8.ofNat r.toNat]⟩)) (fun σ hσ=>⟨σ,by
  have hb:Xs 2 (fun i=>J5 (g (0+i)))=true:=by
   show ((true&&J5 (g (0+0)))&&J5 (g (0+1)))=true
   rw [ZaY,ZaY,h0,h1]; rfl
  simp only [YL,Y6,hx,(hσ.2.mem hm).2,if_true,hb,cond_true]
  have e:(List.range 2).map (fun i=>UInt8.ofNat (byteOf (g (0+i))))=[UInt8.ofNat p.toNat,UInt8.ofNat r.toNat]:=by
   show [UInt8.ofNat (byteOf (g (0+0))),UInt8.ofNat (byteOf (g (0+1)))]=_
   rw [ZaY,ZaY,h0,h1]; rfl
  rw [e],hσ⟩) k
end
end Go.Am
namespace Go.Proofs.YtlkighkfkdpncaaGreatDoor
open Go Go.Am
def darkM (x:Int):Bool:=decide ((0<=x/\x < 64)/\(x % 8+x / 8) % 2=0)
def Y2 (x:Int):ByteArray:=if 0<=x/\x < 64 then ⟨#[UInt8.ofNat (97+(x % 8).toNat),UInt8.ofNat (49+(x / 8).toNat)]⟩ else ⟨#[]⟩
theorem wl {x:Int} (h:0<=x/\x < 64):Y2 x=⟨#[UInt8.ofNat (97+(x % 8).toNat),UInt8.ofNat (49+(x / 8).toNat)]⟩:=Za8 h
theorem rM:∀ f:Fin 8,(⟨#[97,98,99,100,101,102,103,104]⟩:ByteArray).extract f.val (f.val+1)=⟨#[UInt8.ofNat (97+f.val)]⟩:=by decide +kernel
theorem Zab:∀ f:Fin 8,(⟨#[49,50,51,52,53,54,55,56]⟩:ByteArray).extract f.val (f.val+1)=⟨#[UInt8.ofNat (49+f.val)]⟩:=by decide +kernel
theorem Zan {x:Int} (h:0<=x/\x < 64):Wx .add (.str ((⟨#[97,98,99,100,101,102,103,104]⟩:ByteArray).extract (x % 8).toNat (x % 8+1).toNat)) (.str ((⟨#[49,50,51,52,53,54,55,56]⟩:ByteArray).extract (x / 8).toNat (x / 8+1).toNat))=some (.str (Y2 x)):=by
 have e1:=rM ⟨(x % 8).toNat,by omega⟩
 have e2:=Zab ⟨(x / 8).toNat,by omega⟩
 simp only at e1 e2
 rw [show (x % 8+1).toNat=(x % 8).toNat+1 by omega,show (x / 8+1).toNat=(x / 8).toNat+1 by omega,e1,e2,wl h]
 rfl
theorem Name_in (x:Int) (h:0<=x/\x < 64):WR AM 22 [.s (.int .i64 x)] [] (fun v _ _=>v=.s (.str (Y2 x))):=by
 refine YJ (a:=a22) rfl rfl (YI _) (ZQ rfl) (m:=0) rfl (Ze (Yq rfl (Zf (Zj rfl (Yt rfl (y7 _ h) rfl rfl rfl (DT rfl (JE (v:=.agg _ _) rfl rfl rfl rfl rfl (K1 (ys:=[_,_,_]) rfl rfl) .here (Yc (Ye (Ze (Yd (o':=2) rfl rfl rfl (Yn (x:=.bool _) rfl rfl ZM rfl (Yv (r:=.bool _) rfl rfl (Yc (ZB rfl (Yh (Ye (Yg (Zy rfl (Zy rfl (Yn (x:=.int _ _) rfl rfl ZM rfl (Zy rfl (Zy rfl (Yn (x:=.int _ _) rfl rfl ZM rfl (Zs rfl rfl (UT rfl rfl rfl (by show 0<=_/\_<=_/\_<=((8:Nat):Int); omega) (Zy rfl (Zz rfl (Yn (x:=.int _ _) rfl rfl ZM rfl ?_)))))))))))))))))))))))))))))
 refine Zy rfl (Zz rfl (Yn (x:=.int _ _) rfl rfl ZM rfl (Zs rfl rfl (UT rfl rfl rfl (by show 0<=_/\_<=_/\_<=((8:Nat):Int); omega) (Yr rfl rfl (Zan h) (Yq (v:=.s _) rfl (Yc (Yi (⟨_,YK (v:=.s _) rfl (YP),?_⟩)))))))))
 rfl
theorem oJ (x:Int) (h:¬ (0<=x/\x < 64)):WR AM 22 [.s (.int .i64 x)] [] (fun v _ _=>v=.s (.str (Y2 x))):=by
 refine YJ (a:=a22) rfl rfl (YI _) (ZQ rfl) (m:=0) rfl (Ze (Yq rfl (Zf (Zj rfl (Yt rfl (DE _ h) rfl rfl rfl (DT rfl (JE (v:=.agg _ _) rfl rfl rfl rfl rfl (K1 (ys:=[_,_,_]) rfl rfl) .here (Yc (Ye (Ze (Yd (o':=2) rfl rfl rfl (Yn (x:=.bool _) rfl rfl ZM rfl (Yv (r:=.bool _) rfl rfl (Yc (ZA rfl (Ze (Yq rfl (Yc (Yi (⟨_,YK (v:=.s _) rfl (YP),?_⟩))))))))))))))))))))
 rw [Y2,Za7 h]; rfl
theorem Ul (x:Int):RF AM 22 [.s (.int .i64 x)] (.s (.str (Y2 x))):=by
 by_cases h:0<=x/\x < 64
 ·exact YG (Name_in x h)
 exact YG (oJ x h)
theorem dIs_run (x:Int):WR AM 60 [.s (.int .i64 x)] [] (fun v _ _=>v=.s (.bool (isM x))):=by
 refine YJ (a:=a60) rfl rfl (YI _) (ZQ rfl) (m:=0) rfl (Ze (Yq rfl (Zf (Zj rfl (Zr rfl (Zk rfl (Ys (t:=5) rfl (fun h1=>?_) (fun h1=>?_)))))))) <;> simp only [NM] at h1
 ·refine Yb rfl (Zj rfl (Yb rfl (Zr rfl (Zq rfl (Zk rfl (Zg rfl (ZI ?_)))))))
  rw [ZaP]
  simp only [Za2,bne_iff_ne,ne_eq,ZaL,ZaF,Za5,Za3,isM,darkM,Za6,Za4]
  omega
 refine ZD rfl (Zq rfl (Zk rfl (Zg rfl (ZI ?_))))
 rw [ZaP]
 simp only [Za2,bne_iff_ne,ne_eq,ZaL,ZaF,Za5,Za3,isM,darkM,Za6,Za4]
 omega
theorem Wb (x:Int):WR AM 29 [.s (.int .i64 x)] [] (fun v _ _=>v=.s (.str (Y2 x))):=by
 refine YJ (a:=a29) rfl rfl (YI _) (ZQ rfl) (m:=0) rfl (Ze (Yq rfl (Yc (Ye (Ze (Zj rfl (Yt rfl (YG (dIs_run _)) rfl rfl rfl (Yv (r:=.bool _) rfl rfl (Yc (Yj rfl (fun h2=>?_) (fun h2=>?_))))))))))) <;> simp only [NM] at h2
 ·try simp only [isM,ZaL,Zax] at h2
  refine Ze (Yq rfl (Yc (Yi (⟨_,YK (v:=.s _) rfl (YP),?_⟩))))
  (rw [Y2,Za7 (by omega)]; rfl)
 try simp only [isM,ZaL,Zax] at h2
 refine Yh (Ze (Zj rfl (Zv rfl rfl (Zs rfl rfl (uV rfl (IntWalk.u8_in _ (by omega)) (Zj rfl (Zu rfl rfl (Zs rfl rfl (uV rfl (IntWalk.u8_in _ (by omega)) (ox rfl rfl (WO_b2s2 rfl ZM rfl rfl (Yq (v:=.s _) rfl (Yc (Yi (⟨_,YK (v:=.s _) rfl (YP),?_⟩)))))))))))))))
 (rw [wl (by omega),show (97+x % 8).toNat=97+(x % 8).toNat by omega,show (49+x / 8).toNat=49+(x / 8).toNat by omega]; rfl)
def rayF (s f r:Int):Nat->Int
 | 0=>YR s f r
 | k+1=>YR (rayF s f r k) f r
def muM (s f r:Int):Nat:=if s < 0 then 0 else if 0 < f then (8 - s % 8).toNat else if f < 0 then (s % 8+1).toNat else if 0 < r then (8 - s / 8).toNat else (s / 8+1).toNat
theorem Zal {s f r:Int} (h:YR s f r≠-1):(0<=s/\s < 64)/\(0<=s % 8+f/\s % 8+f < 8)/\(0<=s / 8+r/\s / 8+r < 8)/\YR s f r=(s / 8+r)*8+(s % 8+f):=by
 unfold YR atM at h ⊢
 by_cases c:(0<=s/\s < 64)/\(-8 < f/\f < 8)/\(-8 < r/\r < 8)
 ·rw [Za8 c] at h ⊢
  by_cases e:0<=s % 8+f/\s % 8+f < 8/\0<=s / 8+r/\s / 8+r < 8
  ·rw [Za8 e]; exact ⟨c.1,⟨e.1,e.2.1⟩,⟨e.2.2.1,e.2.2.2⟩,rfl⟩
  rw [Za7 e] at h; exact absurd rfl h
 rw [Za7 c] at h; exact absurd rfl h
theorem yu {s f r:Int} (hz:¬ (f=0/\r=0)) (hs:s≠-1) (hb:-1<=s/\s < 64):muM (YR s f r) f r < muM s f r:=by
 have h0:=Ug s f r
 by_cases h:YR s f r=-1
 ·rw [h,show muM (-1) f r=0 from Za8 (by decide)]
  have n2:¬ s < 0:=by omega
  unfold muM
  rw [Za7 n2]
  by_cases a:0 < f
  ·rw [Za8 a]; omega
  rw [Za7 a]
  by_cases b:f < 0
  ·rw [Za8 b]; omega
  rw [Za7 b]
  by_cases c:0 < r
  ·rw [Za8 c]; omega
  rw [Za7 c]; omega
 have ⟨h1,h2,h3,h4⟩:=Zal h
 have e1:YR s f r % 8=s % 8+f:=by omega
 have e2:YR s f r / 8=s / 8+r:=by omega
 have n1:¬ YR s f r < 0:=by omega
 have n2:¬ s < 0:=by omega
 unfold muM
 rw [Za7 n1,Za7 n2,e1,e2]
 by_cases a:0 < f
 ·rw [Za8 a,Za8 a]; omega
 rw [Za7 a,Za7 a]
 by_cases b:f < 0
 ·rw [Za8 b,Za8 b]; omega
 rw [Za7 b,Za7 b]
 by_cases c:0 < r
 ·rw [Za8 c,Za8 c]; omega
 rw [Za7 c,Za7 c]; omega
theorem rt {s f r:Int} (h:s < 64):muM s f r<=8:=by
 unfold muM
 split
 ·omega
 split
 ·omega
 split
 ·omega
 split <;> omega
structure RayOf (s f r:Int) (n:Nat):Prop where
 on:∀ j:Nat,j < n->rayF s f r j≠-1
 off:rayF s f r n=-1
def jd (s:Int) (K:Nat->Int):Nat->Nat × (Nat->Int)
 | 0=>(0,fun _=>0)
 | i+1=>if YR s (dp K (0+(i:Int).toNat*2) 0) (dp K (0+(i:Int).toNat*2) 1)=-1 then jd s K i else ((jd s K i).1+1,fun j=>if j < (jd s K i).1 then (jd s K i).2 j else YR s (dp K (0+(i:Int).toNat*2) 0) (dp K (0+(i:Int).toNat*2) 1))
theorem sQ {c:Int} (h:0<=c/\c<=15):Wx .shr (.int .i64 c) (.int .i64 0)=some (.int .i64 (c / 1)):=by
 have:c=0\/c=1\/c=2\/c=3\/c=4\/c=5\/c=6\/c=7\/c=8\/c=9\/c=10\/c=11\/c=12\/c=13\/c=14\/c=15:=by omega
 rcases this with rfl | rfl | rfl | rfl | rfl | rfl | rfl | rfl | rfl | rfl | rfl | rfl | rfl | rfl | rfl | rfl <;> rfl
theorem pe {c:Int} (h:0<=c/\c<=15):Wx .shr (.int .i64 c) (.int .i64 1)=some (.int .i64 (c / 2)):=by
 have:c=0\/c=1\/c=2\/c=3\/c=4\/c=5\/c=6\/c=7\/c=8\/c=9\/c=10\/c=11\/c=12\/c=13\/c=14\/c=15:=by omega
 rcases this with rfl | rfl | rfl | rfl | rfl | rfl | rfl | rfl | rfl | rfl | rfl | rfl | rfl | rfl | rfl | rfl <;> rfl
theorem pY {c:Int} (h:0<=c/\c<=15):Wx .shr (.int .i64 c) (.int .i64 2)=some (.int .i64 (c / 4)):=by
 have:c=0\/c=1\/c=2\/c=3\/c=4\/c=5\/c=6\/c=7\/c=8\/c=9\/c=10\/c=11\/c=12\/c=13\/c=14\/c=15:=by omega
 rcases this with rfl | rfl | rfl | rfl | rfl | rfl | rfl | rfl | rfl | rfl | rfl | rfl | rfl | rfl | rfl | rfl <;> rfl
theorem pT {c:Int} (h:0<=c/\c<=15):Wx .shr (.int .i64 c) (.int .i64 3)=some (.int .i64 (c / 8)):=by
 have:c=0\/c=1\/c=2\/c=3\/c=4\/c=5\/c=6\/c=7\/c=8\/c=9\/c=10\/c=11\/c=12\/c=13\/c=14\/c=15:=by omega
 rcases this with rfl | rfl | rfl | rfl | rfl | rfl | rfl | rfl | rfl | rfl | rfl | rfl | rfl | rfl | rfl | rfl <;> rfl
theorem RQ {c:Int} (h:0<=c/\c<=15):Wx .and (.int .i64 c) (.int .i64 1)=some (.int .i64 (c % 2)):=by
 have:c=0\/c=1\/c=2\/c=3\/c=4\/c=5\/c=6\/c=7\/c=8\/c=9\/c=10\/c=11\/c=12\/c=13\/c=14\/c=15:=by omega
 rcases this with rfl | rfl | rfl | rfl | rfl | rfl | rfl | rfl | rfl | rfl | rfl | rfl | rfl | rfl | rfl | rfl <;> rfl
def Y4 (P:Nat->Int) (x k c:Int):Bool:=decide (P (sqI x)=k/\P (sqI x+1)=c)
theorem Wd {X Y:Nat->Int}:eqI 2 X Y=decide (X 0=Y 0/\X 1=Y 1):=by
 rw [ZaP,Uw,ZaL]
 constructor
 ·intro h; exact ⟨h 0 (by omega),h 1 (by omega)⟩
 rintro ⟨h0,h1⟩ i hi
 have:i=0\/i=1:=by omega
 rcases this with rfl | rfl
 ·exact h0
 exact h1
def okM (P:Nat->Int) (s:Nat):Prop:=(P (sqI s)=0/\P (sqI s+1)=0)\/((1<=P (sqI s)/\P (sqI s)<=6/\(P (sqI s+1)=0\/P (sqI s+1)=1))/\¬ (P (sqI s)=1/\(s < 8\/56<=s)))
def kM (P:Nat->Int) (c:Int):Nat->Int
 | 0=>0
 | n+1=>kM P c n+(if P (sqI n)=6/\P (sqI n+1)=c then 1 else 0)
theorem q4 (P:Nat->Int) (c:Int):∀ n:Nat,0<=kM P c n/\kM P c n<=n
 | 0=>⟨Int.le_refl _,Int.le_refl _⟩
 | n+1=>by
  have:=q4 P c n
  unfold kM
  split <;> omega
instance (P:Nat->Int) (s:Nat):Decidable (okM P s):=by unfold okM; infer_instance
def WW (P:Nat->Int):Bool:=decide ((∀ s:Nat,s < 64->okM P s)/\kM P 0 64=1/\kM P 1 64=1/\(P 128=0\/P 128=1))
theorem Wa {P:Nat->Int} (h:¬ ((∀ s:Nat,s < 64->okM P s)/\kM P 0 64=1/\kM P 1 64=1/\(P 128=0\/P 128=1))):WW P=false:=by
 unfold WW; exact ZaT h
theorem UI {P:Nat->Int} (h:(∀ s:Nat,s < 64->okM P s)/\kM P 0 64=1/\kM P 1 64=1/\(P 128=0\/P 128=1)):WW P=true:=by
 unfold WW; exact ZaV h
theorem R0 {P:Nat->Int} (h:WW P=true):(∀ s:Nat,s < 64->okM P s)/\kM P 0 64=1/\kM P 1 64=1/\(P 128=0\/P 128=1):=by
 unfold WW at h; exact of_decide_eq_true h
theorem W9 {P:Nat->Int} {i:Nat} (h:∀ s:Nat,s < i->okM P s) (hi:okM P i):∀ s:Nat,s < i+1->okM P s:=fun s hs=>by
 by_cases e:s=i
 ·subst e; exact hi
 exact h s (by omega)
theorem Qj {P C:Nat->Int} {i:Nat} (h0:C 0=kM P 0 i) (h1:C 1=kM P 1 i) (hk:¬ P (sqI i)=6):C 0=kM P 0 (i+1)/\C 1=kM P 1 (i+1):=by
 unfold kM
 rw [Za7 (fun q=>hk q.1),Za7 (fun q=>hk q.1)]
 omega
theorem Qi {P C:Nat->Int} {i:Nat} (h0:C 0=kM P 0 i) (h1:C 1=kM P 1 i) (hk:P (sqI i)=6) (hc:P (sqI i+1)=0\/P (sqI i+1)=1):ov C (0+(P (sqI i+1)).toNat*1) (C (0+(P (sqI i+1)).toNat*1)+1) 0=kM P 0 (i+1)/\ov C (0+(P (sqI i+1)).toNat*1) (C (0+(P (sqI i+1)).toNat*1)+1) 1=kM P 1 (i+1):=by
 unfold kM
 rcases hc with hc | hc
 ·rw [Za8 ⟨hk,hc⟩,Za7 (by omega),hc]
  exact ⟨by show C 0+1=_; omega,by show C 1=_; omega⟩
 rw [Za7 (by omega),Za8 ⟨hk,hc⟩,hc]
 exact ⟨by show C 0=_; omega,by show C 1+1=_; omega⟩
theorem KH {P C:Nat->Int} {i:Nat} (h0:C 0=kM P 0 i) (h1:C 1=kM P 1 i) (hi:i<=64) (hc:P (sqI i+1)=0\/P (sqI i+1)=1):-9223372036854775808<=C (0+(P (sqI i+1)).toNat*1)+1/\C (0+(P (sqI i+1)).toNat*1)+1<=9223372036854775807:=by
 have:=q4 P 0 i
 have:=q4 P 1 i
 rcases hc with hc | hc
 ·rw [hc]; show _<=C 0+1/\C 0+1<=_; omega
 rw [hc]; show _<=C 1+1/\C 1+1<=_; omega
theorem dp_ix {P:Nat->Int} {i:Nat}:(fun j=>ia P ((i:Int).toNat*2+j))=ia (dp P (sqI i)):=by
 funext j
 show _=ia P (0+(i:Int).toNat*2+j)
 rw [ZaY]
theorem ovA2 {F X:Nat->Int}:ovA F 0 2 X 0=X 0/\ovA F 0 2 X 1=X 1:=⟨rfl,rfl⟩
def Xc (P:Nat->Int) (s a b:Int):Bool:=decide (P (sqI a)=6/\P (sqI a+1)=s/\P (sqI b)=4/\P (sqI b+1)=s)
def Y1 (P:Nat->Int):Bool:=decide ((0<=P 129/\P 129<=15)/\(P 129 % 2=0\/Xc P 0 4 7=true)/\(P 129 / 2 % 2=0\/Xc P 0 4 0=true)/\(P 129 / 4 % 2=0\/Xc P 1 60 63=true)/\(P 129 / 8=0\/Xc P 1 60 56=true))
def Xu (P:Nat->Int):Bool:=decide (P 130=-1\/((0<=P 130/\P 130 < 64)/\P 131=0/\((P 128=1/\P 130 / 8=2/\Y4 P (P 130) 0 0=true/\Y4 P (P 130 - 8) 0 0=true/\Y4 P (P 130+8) 1 0=true)\/(P 128=0/\P 130 / 8=5/\Y4 P (P 130) 0 0=true/\Y4 P (P 130+8) 0 0=true/\Y4 P (P 130 - 8) 1 1=true))))
def VO (P:Nat->Int):Bool:=WW P&&Y1 P&&Xu P&&decide (0<=P 131/\P 131<=1024/\1<=P 132/\P 132<=16384)
theorem Ke {x r:Int} (h:Wj x=r) (hr:0<=r):(0<=x/\x < 64)/\x / 8=r:=by
 unfold Wj at h
 split at h
 ·exact ⟨by assumption,h⟩
 omega
theorem uW {x d:Int} (hx:0<=x/\x < 64) (h:0<=x / 8+d/\x / 8+d < 8):YR x 0 d=x+8*d:=by
 unfold YR atM
 rw [Za8 ⟨hx,by omega,by omega⟩,Za8 (by omega)]
 omega
theorem Va (P:Nat->Int) (k s x:Int) (hx:0<=x/\x < 64):WR AM 150 [.agg 133 (ia P),.s (.int .i64 k),.s (.int .i64 s),.s (.int .i64 x)] [] (fun v _ _=>v=.s (.bool (Y4 P x k s))):=by
 refine YJ (a:=a150) rfl rfl (YI _) (ZQ rfl) (m:=0) rfl (Ze (YC rfl (Yq rfl (Zf (Zj rfl (Zy rfl (Zy rfl (Zw rfl rfl rfl (Yp rfl rfl ZM (Zj rfl (Zj rfl (YB rfl (.one rfl (.one rfl .nil)) (Yw rfl rfl (Zk rfl (Zg rfl (ZI ?_))))))))))))))))
 exact Wd
theorem Ro (X:Nat->Int):WR AM 144 [.agg 2 (ia X)] [] (fun v _ _=>v=.s (.bool (decide (X 0=0/\X 1=0)))):=by
 refine YJ (a:=a144) rfl rfl (YI _) (ZQ rfl) (m:=0) rfl (Ze (YC rfl (Yq rfl (Zf (Yo rfl rfl ZM (YB rfl .nil (Yw rfl rfl (Zk rfl (Zg rfl (ZI ?_))))))))))
 exact Wd
theorem T1 {md:Md} (P:Nat->Int) (x:Int) (hx:0<=x/\x < 64):WR AM 151 [.s (.int .i64 x),.ptr 0 0 133] [.sc md 133 (ia P)] (fun v _ L=>v=.s (.bool (Y4 P x 0 0))/\(0,Blk.sc md 133 (ia P))∈L):=by
 refine YJ (a:=a151) rfl rfl (YI _) (ZQ rfl) (m:=1) rfl (Ze (Yq rfl (Zf (Zj rfl (Zy rfl (Zy rfl (Zw rfl rfl rfl (Yp rfl rfl ZM (YB rfl .nil (Yw rfl rfl (Zk rfl (Zg rfl (⟨ZI ?_,ZM⟩)))))))))))))
 exact Wd
theorem WB (P:Nat->Int) (s a b:Int) (ha:0<=a/\a < 64) (hb:0<=b/\b < 64):WR AM 145 [.agg 133 (ia P),.s (.int .i64 s),.s (.int .i64 a),.s (.int .i64 b)] [] (fun v _ _=>v=.s (.bool (Xc P s a b))):=by
 refine YJ (a:=a145) rfl rfl (YI _) (ZQ rfl) (m:=0) rfl (Ze (YC rfl (Yq rfl (Zf (Zj rfl (Zy rfl (Zw rfl rfl rfl (Yp rfl rfl ZM (Zj rfl (YB rfl (.one rfl (.one rfl .nil)) (Yw rfl rfl (Zk rfl (Ys (t:=16) rfl (fun h1=>?_) (fun h1=>?_)))))))))))))) <;> simp only [NM] at h1
 ·try simp only [Wd,ZaL,Zax,YZ,isM] at h1
  refine Yb rfl (Zj rfl (Yb rfl (Zy rfl (Yb rfl (Zw rfl rfl rfl (Yb rfl (Yp rfl rfl ZM (Yb rfl (Zj rfl (Yb rfl (YB rfl (.one rfl (.one rfl .nil)) (Yb rfl (Yw rfl rfl (Zq rfl (Zk rfl (Zg rfl (ZI ?_)))))))))))))))))
  (show eqI 2 _ _=_; rw [Wd])
  rw [ZaP]
  simp only [Xc,ZaL,ZaF,Za3]
  have q0:ov (ov (fun _=>0) 0 6) 1 s 0=6:=rfl
  have q1:ov (ov (fun _=>0) 0 6) 1 s 1=s:=rfl
  have q2:ov (ov (fun _=>0) 0 4) 1 s 0=4:=rfl
  have q3:ov (ov (fun _=>0) 0 4) 1 s 1=s:=rfl
  simp only [q0,q1,q2,q3,dp,Nat.add_zero,sqI] at *
  omega
 try simp only [Wd,ZaL,Zax,YZ,isM] at h1
 refine ZE rfl (ZD rfl (ZC rfl (Zq rfl (Zk rfl (Zg rfl (ZI ?_))))))
 skip
 rw [ZaP]
 simp only [Xc,ZaL,ZaF,Za3]
 have q0:ov (ov (fun _=>0) 0 6) 1 s 0=6:=rfl
 have q1:ov (ov (fun _=>0) 0 6) 1 s 1=s:=rfl
 have q2:ov (ov (fun _=>0) 0 4) 1 s 0=4:=rfl
 have q3:ov (ov (fun _=>0) 0 4) 1 s 1=s:=rfl
 simp only [q0,q1,q2,q3,dp,Nat.add_zero,sqI] at *
 omega
theorem vT (P:Nat->Int):WR AM 119 [.agg 133 (ia P)] [] (fun v _ _=>v=.s (.bool (Y1 P))):=by
 refine YJ (a:=a119) rfl rfl (YI _) (ZQ rfl) (m:=0) rfl (Ze (YC rfl (Yq rfl (Zf (Yd (o':=129) rfl rfl rfl (Ym rfl rfl ZM rfl (Zj rfl (Yc (Ye (Ze (Zj rfl (Zr rfl (Zk rfl (Ys (t:=8) rfl (fun h2=>?_) (fun h2=>?_))))))))))))))) <;> simp only [NM] at h2
 ·refine ZD rfl (Zq rfl (Yc (ZA rfl (Ze (Yq rfl (Zg rfl (ZI ?_)))))))
  rw [ZaP]
  simp only [Y1,Xc,ZaL,ZaF,Za3,Za5]
  omega
 refine Yb rfl (Zj rfl (Yb rfl (Zr rfl (Zq rfl (Yc (Yj rfl (fun h3=>?_) (fun h3=>?_))))))) <;> simp only [NM] at h3
 ·refine Ze (Yq rfl (Zg rfl (ZI ?_)))
  rw [ZaP]
  simp only [Y1,Xc,ZaL,ZaF,Za3,Za5]
  omega
 refine Yh (Ze (Zj rfl (Zv rfl rfl (Zr rfl (Zk rfl (Ys (t:=15) rfl (fun h4=>?_) (fun h4=>?_))))))) <;> simp only [NM] at h4
 ·refine ZD rfl (Zq rfl (Zk rfl (Yb rfl (Zj rfl (Yb rfl (Zu rfl rfl (Yb rfl (Zv rfl rfl (Yb rfl (Zr rfl (Yb rfl (Zk rfl (Ys (t:=24) rfl (fun h5=>?_) (fun h5=>?_)))))))))))))) <;> simp only [NM] at h5
  ·refine ZD rfl (Yb rfl (Zq rfl (Zq rfl (Zk rfl (Yb rfl (Zj rfl (Yb rfl (Zu rfl rfl (Yb rfl (Zv rfl rfl (Yb rfl (Zr rfl (Yb rfl (Zk rfl (Ys (t:=34) rfl (fun h6=>?_) (fun h6=>?_)))))))))))))))) <;> simp only [NM] at h6
   ·refine ZD rfl (Yb rfl (Zq rfl (Zq rfl (Zk rfl (Yb rfl (Zj rfl (Yb rfl (Zu rfl rfl (Yb rfl (Zr rfl (Yb rfl (Zk rfl (Ys (t:=43) rfl (fun h7=>?_) (fun h7=>?_)))))))))))))) <;> simp only [NM] at h7
    ·refine ZD rfl (Yb rfl (Zq rfl (Zq rfl (Zk rfl (Zg rfl (ZI ?_))))))
     rw [ZaP]
     simp only [Y1,Xc,ZaL,ZaF,Za3,Za5]
     omega
    refine Yb rfl (Yo rfl rfl ZM (Yb rfl (Yt rfl (YG (WB _ _ _ _ (by omega) (by omega))) rfl rfl rfl (Yb rfl (Zq rfl (Zq rfl (Zk rfl (Zg rfl (ZI ?_)))))))))
    rw [ZaP]
    simp only [Y1,Xc,ZaL,ZaF,Za3,Za5]
    omega
   refine Yb rfl (Yo rfl rfl ZM (Yb rfl (Yt rfl (YG (WB _ _ _ _ (by omega) (by omega))) rfl rfl rfl (Yb rfl (Zq rfl (Zq rfl (Zk rfl (Ys (t:=39) rfl (fun h8=>?_) (fun h8=>?_)))))))))
   ·try simp only [Xc,ZaL,Zax] at h8
    refine Yb rfl (Zj rfl (Yb rfl (Zu rfl rfl (Yb rfl (Zr rfl (Yb rfl (Zk rfl (Ys (t:=43) rfl (fun h9=>?_) (fun h9=>?_))))))))) <;> simp only [NM] at h9
    ·refine ZD rfl (Yb rfl (Zq rfl (Zq rfl (Zk rfl (Zg rfl (ZI ?_))))))
     rw [ZaP]
     simp only [Y1,Xc,ZaL,ZaF,Za3,Za5]
     omega
    refine Yb rfl (Yo rfl rfl ZM (Yb rfl (Yt rfl (YG (WB _ _ _ _ (by omega) (by omega))) rfl rfl rfl (Yb rfl (Zq rfl (Zq rfl (Zk rfl (Zg rfl (ZI ?_)))))))))
    rw [ZaP]
    simp only [Y1,Xc,ZaL,ZaF,Za3,Za5]
    omega
   try simp only [Xc,ZaL,Zax] at h8
   refine ZE rfl (YH rfl (YH rfl (ZC rfl (Zq rfl (Zk rfl (Zg rfl (ZI ?_)))))))
   rw [ZaP]
   simp only [Y1,Xc,ZaL,ZaF,Za3,Za5]
   omega
  refine Yb rfl (Yo rfl rfl ZM (Yb rfl (Yt rfl (YG (WB _ _ _ _ (by omega) (by omega))) rfl rfl rfl (Yb rfl (Zq rfl (Zq rfl (Zk rfl (Ys (t:=29) rfl (fun h10=>?_) (fun h10=>?_)))))))))
  ·try simp only [Xc,ZaL,Zax] at h10
   refine Yb rfl (Zj rfl (Yb rfl (Zu rfl rfl (Yb rfl (Zv rfl rfl (Yb rfl (Zr rfl (Yb rfl (Zk rfl (Ys (t:=34) rfl (fun h11=>?_) (fun h11=>?_))))))))))) <;> simp only [NM] at h11
   ·refine ZD rfl (Yb rfl (Zq rfl (Zq rfl (Zk rfl (Yb rfl (Zj rfl (Yb rfl (Zu rfl rfl (Yb rfl (Zr rfl (Yb rfl (Zk rfl (Ys (t:=43) rfl (fun h12=>?_) (fun h12=>?_)))))))))))))) <;> simp only [NM] at h12
    ·refine ZD rfl (Yb rfl (Zq rfl (Zq rfl (Zk rfl (Zg rfl (ZI ?_))))))
     rw [ZaP]
     simp only [Y1,Xc,ZaL,ZaF,Za3,Za5]
     omega
    refine Yb rfl (Yo rfl rfl ZM (Yb rfl (Yt rfl (YG (WB _ _ _ _ (by omega) (by omega))) rfl rfl rfl (Yb rfl (Zq rfl (Zq rfl (Zk rfl (Zg rfl (ZI ?_)))))))))
    rw [ZaP]
    simp only [Y1,Xc,ZaL,ZaF,Za3,Za5]
    omega
   refine Yb rfl (Yo rfl rfl ZM (Yb rfl (Yt rfl (YG (WB _ _ _ _ (by omega) (by omega))) rfl rfl rfl (Yb rfl (Zq rfl (Zq rfl (Zk rfl (Ys (t:=39) rfl (fun h13=>?_) (fun h13=>?_)))))))))
   ·try simp only [Xc,ZaL,Zax] at h13
    refine Yb rfl (Zj rfl (Yb rfl (Zu rfl rfl (Yb rfl (Zr rfl (Yb rfl (Zk rfl (Ys (t:=43) rfl (fun h14=>?_) (fun h14=>?_))))))))) <;> simp only [NM] at h14
    ·refine ZD rfl (Yb rfl (Zq rfl (Zq rfl (Zk rfl (Zg rfl (ZI ?_))))))
     rw [ZaP]
     simp only [Y1,Xc,ZaL,ZaF,Za3,Za5]
     omega
    refine Yb rfl (Yo rfl rfl ZM (Yb rfl (Yt rfl (YG (WB _ _ _ _ (by omega) (by omega))) rfl rfl rfl (Yb rfl (Zq rfl (Zq rfl (Zk rfl (Zg rfl (ZI ?_)))))))))
    rw [ZaP]
    simp only [Y1,Xc,ZaL,ZaF,Za3,Za5]
    omega
   try simp only [Xc,ZaL,Zax] at h13
   refine ZE rfl (YH rfl (YH rfl (ZC rfl (Zq rfl (Zk rfl (Zg rfl (ZI ?_)))))))
   rw [ZaP]
   simp only [Y1,Xc,ZaL,ZaF,Za3,Za5]
   omega
  try simp only [Xc,ZaL,Zax] at h10
  refine ZE rfl (ZC rfl (YH rfl (YH rfl (ZC rfl (Zq rfl (Zk rfl (ZE rfl (YH rfl (YH rfl (ZC rfl (Zq rfl (Zk rfl (Zg rfl (ZI ?_))))))))))))))
  rw [ZaP]
  simp only [Y1,Xc,ZaL,ZaF,Za3,Za5]
  omega
 refine Yb rfl (Yo rfl rfl ZM (Yb rfl (Yt rfl (YG (WB _ _ _ _ (by omega) (by omega))) rfl rfl rfl (Zq rfl (Zk rfl (Ys (t:=19) rfl (fun h15=>?_) (fun h15=>?_)))))))
 ·try simp only [Xc,ZaL,Zax] at h15
  refine Yb rfl (Zj rfl (Yb rfl (Zu rfl rfl (Yb rfl (Zv rfl rfl (Yb rfl (Zr rfl (Yb rfl (Zk rfl (Ys (t:=24) rfl (fun h16=>?_) (fun h16=>?_))))))))))) <;> simp only [NM] at h16
  ·refine ZD rfl (Yb rfl (Zq rfl (Zq rfl (Zk rfl (Yb rfl (Zj rfl (Yb rfl (Zu rfl rfl (Yb rfl (Zv rfl rfl (Yb rfl (Zr rfl (Yb rfl (Zk rfl (Ys (t:=34) rfl (fun h17=>?_) (fun h17=>?_)))))))))))))))) <;> simp only [NM] at h17
   ·refine ZD rfl (Yb rfl (Zq rfl (Zq rfl (Zk rfl (Yb rfl (Zj rfl (Yb rfl (Zu rfl rfl (Yb rfl (Zr rfl (Yb rfl (Zk rfl (Ys (t:=43) rfl (fun h18=>?_) (fun h18=>?_)))))))))))))) <;> simp only [NM] at h18
    ·refine ZD rfl (Yb rfl (Zq rfl (Zq rfl (Zk rfl (Zg rfl (ZI ?_))))))
     rw [ZaP]
     simp only [Y1,Xc,ZaL,ZaF,Za3,Za5]
     omega
    refine Yb rfl (Yo rfl rfl ZM (Yb rfl (Yt rfl (YG (WB _ _ _ _ (by omega) (by omega))) rfl rfl rfl (Yb rfl (Zq rfl (Zq rfl (Zk rfl (Zg rfl (ZI ?_)))))))))
    rw [ZaP]
    simp only [Y1,Xc,ZaL,ZaF,Za3,Za5]
    omega
   refine Yb rfl (Yo rfl rfl ZM (Yb rfl (Yt rfl (YG (WB _ _ _ _ (by omega) (by omega))) rfl rfl rfl (Yb rfl (Zq rfl (Zq rfl (Zk rfl (Ys (t:=39) rfl (fun h19=>?_) (fun h19=>?_)))))))))
   ·try simp only [Xc,ZaL,Zax] at h19
    refine Yb rfl (Zj rfl (Yb rfl (Zu rfl rfl (Yb rfl (Zr rfl (Yb rfl (Zk rfl (Ys (t:=43) rfl (fun h20=>?_) (fun h20=>?_))))))))) <;> simp only [NM] at h20
    ·refine ZD rfl (Yb rfl (Zq rfl (Zq rfl (Zk rfl (Zg rfl (ZI ?_))))))
     rw [ZaP]
     simp only [Y1,Xc,ZaL,ZaF,Za3,Za5]
     omega
    refine Yb rfl (Yo rfl rfl ZM (Yb rfl (Yt rfl (YG (WB _ _ _ _ (by omega) (by omega))) rfl rfl rfl (Yb rfl (Zq rfl (Zq rfl (Zk rfl (Zg rfl (ZI ?_)))))))))
    rw [ZaP]
    simp only [Y1,Xc,ZaL,ZaF,Za3,Za5]
    omega
   try simp only [Xc,ZaL,Zax] at h19
   refine ZE rfl (YH rfl (YH rfl (ZC rfl (Zq rfl (Zk rfl (Zg rfl (ZI ?_)))))))
   rw [ZaP]
   simp only [Y1,Xc,ZaL,ZaF,Za3,Za5]
   omega
  refine Yb rfl (Yo rfl rfl ZM (Yb rfl (Yt rfl (YG (WB _ _ _ _ (by omega) (by omega))) rfl rfl rfl (Yb rfl (Zq rfl (Zq rfl (Zk rfl (Ys (t:=29) rfl (fun h21=>?_) (fun h21=>?_)))))))))
  ·try simp only [Xc,ZaL,Zax] at h21
   refine Yb rfl (Zj rfl (Yb rfl (Zu rfl rfl (Yb rfl (Zv rfl rfl (Yb rfl (Zr rfl (Yb rfl (Zk rfl (Ys (t:=34) rfl (fun h22=>?_) (fun h22=>?_))))))))))) <;> simp only [NM] at h22
   ·refine ZD rfl (Yb rfl (Zq rfl (Zq rfl (Zk rfl (Yb rfl (Zj rfl (Yb rfl (Zu rfl rfl (Yb rfl (Zr rfl (Yb rfl (Zk rfl (Ys (t:=43) rfl (fun h23=>?_) (fun h23=>?_)))))))))))))) <;> simp only [NM] at h23
    ·refine ZD rfl (Yb rfl (Zq rfl (Zq rfl (Zk rfl (Zg rfl (ZI ?_))))))
     rw [ZaP]
     simp only [Y1,Xc,ZaL,ZaF,Za3,Za5]
     omega
    refine Yb rfl (Yo rfl rfl ZM (Yb rfl (Yt rfl (YG (WB _ _ _ _ (by omega) (by omega))) rfl rfl rfl (Yb rfl (Zq rfl (Zq rfl (Zk rfl (Zg rfl (ZI ?_)))))))))
    rw [ZaP]
    simp only [Y1,Xc,ZaL,ZaF,Za3,Za5]
    omega
   refine Yb rfl (Yo rfl rfl ZM (Yb rfl (Yt rfl (YG (WB _ _ _ _ (by omega) (by omega))) rfl rfl rfl (Yb rfl (Zq rfl (Zq rfl (Zk rfl (Ys (t:=39) rfl (fun h24=>?_) (fun h24=>?_)))))))))
   ·try simp only [Xc,ZaL,Zax] at h24
    refine Yb rfl (Zj rfl (Yb rfl (Zu rfl rfl (Yb rfl (Zr rfl (Yb rfl (Zk rfl (Ys (t:=43) rfl (fun h25=>?_) (fun h25=>?_))))))))) <;> simp only [NM] at h25
    ·refine ZD rfl (Yb rfl (Zq rfl (Zq rfl (Zk rfl (Zg rfl (ZI ?_))))))
     rw [ZaP]
     simp only [Y1,Xc,ZaL,ZaF,Za3,Za5]
     omega
    refine Yb rfl (Yo rfl rfl ZM (Yb rfl (Yt rfl (YG (WB _ _ _ _ (by omega) (by omega))) rfl rfl rfl (Yb rfl (Zq rfl (Zq rfl (Zk rfl (Zg rfl (ZI ?_)))))))))
    rw [ZaP]
    simp only [Y1,Xc,ZaL,ZaF,Za3,Za5]
    omega
   try simp only [Xc,ZaL,Zax] at h24
   refine ZE rfl (YH rfl (YH rfl (ZC rfl (Zq rfl (Zk rfl (Zg rfl (ZI ?_)))))))
   rw [ZaP]
   simp only [Y1,Xc,ZaL,ZaF,Za3,Za5]
   omega
  try simp only [Xc,ZaL,Zax] at h21
  refine ZE rfl (ZC rfl (YH rfl (YH rfl (ZC rfl (Zq rfl (Zk rfl (ZE rfl (YH rfl (YH rfl (ZC rfl (Zq rfl (Zk rfl (Zg rfl (ZI ?_))))))))))))))
  rw [ZaP]
  simp only [Y1,Xc,ZaL,ZaF,Za3,Za5]
  omega
 try simp only [Xc,ZaL,Zax] at h15
 refine ZE rfl (ZC rfl (YH rfl (YH rfl (ZC rfl (Zq rfl (Zk rfl (ZE rfl (ZC rfl (YH rfl (YH rfl (ZC rfl (Zq rfl (Zk rfl (ZE rfl (YH rfl (YH rfl (ZC rfl (Zq rfl (Zk rfl (Zg rfl (ZI ?_)))))))))))))))))))))
 rw [ZaP]
 simp only [Y1,Xc,ZaL,ZaF,Za3,Za5]
 omega
theorem tW (P:Nat->Int):WR AM 123 [.agg 133 (ia P)] [] (fun v _ _=>v=.s (.bool (Y1 P))):=by
 refine YJ (a:=a123) rfl rfl (YI _) (ZQ rfl) (m:=0) rfl (Ze (YC rfl (Yq rfl (Yc (Ye (Ze (Zy rfl (Yd (o':=129) rfl rfl rfl (Ym rfl rfl ZM rfl (Zr rfl (Zk rfl (Ys (t:=10) rfl (fun h26=>?_) (fun h26=>?_))))))))))))) <;> simp only [NM] at h26
 ·refine ZE rfl (Zq rfl (Yc (ZA rfl (Ze (Yq rfl (Zg rfl (ZI ?_)))))))
  rw [ZaP]
  simp only [Y1,Xc,Y4,ZaL,Zax,ZaF,Za3,Za5] at *
  omega
 refine Yb rfl (Zy rfl (Yb rfl (Yd (o':=129) rfl rfl rfl (Yb rfl (Ym rfl rfl ZM rfl (Yb rfl (Zr rfl (Zq rfl (Yc (Yj rfl (fun h27=>?_) (fun h27=>?_))))))))))) <;> simp only [NM] at h27
 ·refine Ze (Yq rfl (Zg rfl (ZI ?_)))
  rw [ZaP]
  simp only [Y1,Xc,Y4,ZaL,Zax,ZaF,Za3,Za5] at *
  omega
 refine Yh (Ye (Ze (YB rfl (.one rfl (.one rfl (.one rfl (.one rfl .nil)))) (Yq rfl (Yc (Yk (JI (fun f n L=>(0<=P 129/\P 129<=15)/\(P 129 / 1 % 2=0\/(P (sqI 4)=6/\P (sqI 4+1)=0/\P (sqI 7)=4/\P (sqI 7+1)=0))/\(f 1=.ptr 0 0 133)/\(f 16=.agg 4 (ia (ov (ov (ov (ov (fun _=>0) 0 7) 1 0) 2 63) 3 56)))/\(f 17=.s (.int .i64 1))/\(L=[(0,.sc .var 133 (ia P))])/\(n=1)) ?_ (fun f nb L hI=>?_))))))))
 ·refine Ze (Zr rfl (Yc (Ye (Yj rfl (fun h28=>?_) (fun h28=>?_))))) <;> simp only [NM] at h28
  ·refine Yh (Ye (Yk (Ze (Zj rfl (yQ (a:=.int .i64 7) rfl rfl rfl (by omega) rfl (Zj rfl (Zj rfl (Yc (Ye (Ze (Zy rfl (Yd (o':=129) rfl rfl rfl (Ym rfl rfl ZM rfl (Zj rfl (Yr rfl rfl (sQ ⟨by omega,by omega⟩) (Yr rfl rfl (RQ ⟨by omega,by omega⟩) (Zr rfl (Yc (Yj rfl (fun h29=>?_) (fun h29=>?_)))))))))))))))))))) <;> simp only [NM] at h29
   ·refine YX (Xe (Yf (Yr (r:=.int .i64 1) rfl rfl rfl (Zj rfl (Yc (⟨_,(.refl _),⟨by omega,by omega⟩,?_,rfl,rfl,rfl,rfl,rfl⟩))))))
    omega
   refine Yh (Ze (Zj rfl (Yr (r:=.int .i64 0) rfl rfl rfl (Zj rfl (Zf (Yo rfl rfl ZM (Zj rfl (Zj rfl (Yt rfl (YG (Va _ _ _ _ (by omega))) rfl rfl rfl (Yv (r:=.bool _) rfl rfl (Zk rfl (Ys (t:=35) rfl (fun h30=>?_) (fun h30=>?_))))))))))))) <;> simp only [NM] at h30
   ·refine ZF rfl (Zq rfl (Yc (ZA rfl (Ze (Yq rfl (Zg rfl (ZI ?_)))))))
    rw [ZaP]
    simp only [Y1,Xc,Y4,ZaL,Zax,ZaF,Za3,Za5] at *
    omega
   refine Yb rfl (Yo rfl rfl ZM (Yb rfl (Zj rfl (Yb rfl (Zj rfl (Yb rfl (Yr (r:=.int .i64 0) rfl rfl rfl (Yb rfl (Yr (r:=.int .i64 0) rfl rfl rfl (Yb rfl (Yr (r:=.int .i64 4) rfl rfl rfl (Yb rfl (Yt rfl (YG (Va _ _ _ _ (by omega))) rfl rfl rfl (Yb rfl (Yv (r:=.bool _) rfl rfl (Zq rfl (Yc (Yj rfl (fun h31=>?_) (fun h31=>?_))))))))))))))))))) <;> simp only [NM] at h31
   ·refine Ze (Yq rfl (Zg rfl (ZI ?_)))
    rw [ZaP]
    simp only [Y1,Xc,Y4,ZaL,Zax,ZaF,Za3,Za5] at *
    omega
   refine Yh (Yf (Yr (r:=.int .i64 1) rfl rfl rfl (Zj rfl (Yc (⟨_,(.refl _),⟨by omega,by omega⟩,?_,rfl,rfl,rfl,rfl,rfl⟩)))))
   try simp only [Y4,ZaL,Zax] at *
   omega
  exfalso; omega
 obtain ⟨hC,hf0,k1,k16,k17,rfl,rfl⟩:=hI
 refine Za 1 k1 (Za 16 k16 (Za 17 k17 (JI (fun f n L=>(P 129 / 2 % 2=0\/(P (sqI 4)=6/\P (sqI 4+1)=0/\P (sqI 0)=4/\P (sqI 0+1)=0))/\(f 1=.ptr 0 0 133)/\(f 16=.agg 4 (ia (ov (ov (ov (ov (fun _=>0) 0 7) 1 0) 2 63) 3 56)))/\(f 17=.s (.int .i64 2))/\(L=[(0,.sc .var 133 (ia P))])/\(n=1)) ?_ (fun f nb L hI=>?_))))
 ·refine Ze (Zr rfl (Yc (Ye (Yj rfl (fun h32=>?_) (fun h32=>?_))))) <;> simp only [NM] at h32
  ·refine Yh (Ye (Yk (Ze (Zj rfl (yQ (a:=.int .i64 0) rfl rfl rfl (by omega) rfl (Zj rfl (Zj rfl (Yc (Ye (Ze (Zy rfl (Yd (o':=129) rfl rfl rfl (Ym rfl rfl ZM rfl (Zj rfl (Yr rfl rfl (pe ⟨by omega,by omega⟩) (Yr rfl rfl (RQ ⟨by omega,by omega⟩) (Zr rfl (Yc (Yj rfl (fun h33=>?_) (fun h33=>?_)))))))))))))))))))) <;> simp only [NM] at h33
   ·refine YX (Xe (Yf (Yr (r:=.int .i64 2) rfl rfl rfl (Zj rfl (Yc (⟨_,(.refl _),?_,rfl,rfl,rfl,rfl,rfl⟩))))))
    omega
   refine Yh (Ze (Zj rfl (Yr (r:=.int .i64 0) rfl rfl rfl (Zj rfl (Zf (Yo rfl rfl ZM (Zj rfl (Zj rfl (Yt rfl (YG (Va _ _ _ _ (by omega))) rfl rfl rfl (Yv (r:=.bool _) rfl rfl (Zk rfl (Ys (t:=35) rfl (fun h34=>?_) (fun h34=>?_))))))))))))) <;> simp only [NM] at h34
   ·refine ZF rfl (Zq rfl (Yc (ZA rfl (Ze (Yq rfl (Zg rfl (ZI ?_)))))))
    rw [ZaP]
    simp only [Y1,Xc,Y4,ZaL,Zax,ZaF,Za3,Za5] at *
    omega
   refine Yb rfl (Yo rfl rfl ZM (Yb rfl (Zj rfl (Yb rfl (Zj rfl (Yb rfl (Yr (r:=.int .i64 0) rfl rfl rfl (Yb rfl (Yr (r:=.int .i64 0) rfl rfl rfl (Yb rfl (Yr (r:=.int .i64 4) rfl rfl rfl (Yb rfl (Yt rfl (YG (Va _ _ _ _ (by omega))) rfl rfl rfl (Yb rfl (Yv (r:=.bool _) rfl rfl (Zq rfl (Yc (Yj rfl (fun h35=>?_) (fun h35=>?_))))))))))))))))))) <;> simp only [NM] at h35
   ·refine Ze (Yq rfl (Zg rfl (ZI ?_)))
    rw [ZaP]
    simp only [Y1,Xc,Y4,ZaL,Zax,ZaF,Za3,Za5] at *
    omega
   refine Yh (Yf (Yr (r:=.int .i64 2) rfl rfl rfl (Zj rfl (Yc (⟨_,(.refl _),?_,rfl,rfl,rfl,rfl,rfl⟩)))))
   try simp only [Y4,ZaL,Zax] at *
   omega
  exfalso; omega
 obtain ⟨hf1,k1,k16,k17,rfl,rfl⟩:=hI
 refine Za 1 k1 (Za 16 k16 (Za 17 k17 (JI (fun f n L=>(P 129 / 4 % 2=0\/(P (sqI 60)=6/\P (sqI 60+1)=1/\P (sqI 63)=4/\P (sqI 63+1)=1))/\(f 1=.ptr 0 0 133)/\(f 16=.agg 4 (ia (ov (ov (ov (ov (fun _=>0) 0 7) 1 0) 2 63) 3 56)))/\(f 17=.s (.int .i64 3))/\(L=[(0,.sc .var 133 (ia P))])/\(n=1)) ?_ (fun f nb L hI=>?_))))
 ·refine Ze (Zr rfl (Yc (Ye (Yj rfl (fun h36=>?_) (fun h36=>?_))))) <;> simp only [NM] at h36
  ·refine Yh (Ye (Yk (Ze (Zj rfl (yQ (a:=.int .i64 63) rfl rfl rfl (by omega) rfl (Zj rfl (Zj rfl (Yc (Ye (Ze (Zy rfl (Yd (o':=129) rfl rfl rfl (Ym rfl rfl ZM rfl (Zj rfl (Yr rfl rfl (pY ⟨by omega,by omega⟩) (Yr rfl rfl (RQ ⟨by omega,by omega⟩) (Zr rfl (Yc (Yj rfl (fun h37=>?_) (fun h37=>?_)))))))))))))))))))) <;> simp only [NM] at h37
   ·refine YX (Xe (Yf (Yr (r:=.int .i64 3) rfl rfl rfl (Zj rfl (Yc (⟨_,(.refl _),?_,rfl,rfl,rfl,rfl,rfl⟩))))))
    omega
   refine Yh (Ze (Zj rfl (Yr (r:=.int .i64 1) rfl rfl rfl (Zj rfl (Zf (Yo rfl rfl ZM (Zj rfl (Zj rfl (Yt rfl (YG (Va _ _ _ _ (by omega))) rfl rfl rfl (Yv (r:=.bool _) rfl rfl (Zk rfl (Ys (t:=35) rfl (fun h38=>?_) (fun h38=>?_))))))))))))) <;> simp only [NM] at h38
   ·refine ZF rfl (Zq rfl (Yc (ZA rfl (Ze (Yq rfl (Zg rfl (ZI ?_)))))))
    rw [ZaP]
    simp only [Y1,Xc,Y4,ZaL,Zax,ZaF,Za3,Za5] at *
    omega
   refine Yb rfl (Yo rfl rfl ZM (Yb rfl (Zj rfl (Yb rfl (Zj rfl (Yb rfl (Yr (r:=.int .i64 7) rfl rfl rfl (Yb rfl (Yr (r:=.int .i64 56) rfl rfl rfl (Yb rfl (Yr (r:=.int .i64 60) rfl rfl rfl (Yb rfl (Yt rfl (YG (Va _ _ _ _ (by omega))) rfl rfl rfl (Yb rfl (Yv (r:=.bool _) rfl rfl (Zq rfl (Yc (Yj rfl (fun h39=>?_) (fun h39=>?_))))))))))))))))))) <;> simp only [NM] at h39
   ·refine Ze (Yq rfl (Zg rfl (ZI ?_)))
    rw [ZaP]
    simp only [Y1,Xc,Y4,ZaL,Zax,ZaF,Za3,Za5] at *
    omega
   refine Yh (Yf (Yr (r:=.int .i64 3) rfl rfl rfl (Zj rfl (Yc (⟨_,(.refl _),?_,rfl,rfl,rfl,rfl,rfl⟩)))))
   try simp only [Y4,ZaL,Zax] at *
   omega
  exfalso; omega
 obtain ⟨hf2,k1,k16,k17,rfl,rfl⟩:=hI
 refine Za 1 k1 (Za 16 k16 (Za 17 k17 (JI (fun f n L=>(P 129 / 8 % 2=0\/(P (sqI 60)=6/\P (sqI 60+1)=1/\P (sqI 56)=4/\P (sqI 56+1)=1))/\(f 1=.ptr 0 0 133)/\(f 16=.agg 4 (ia (ov (ov (ov (ov (fun _=>0) 0 7) 1 0) 2 63) 3 56)))/\(f 17=.s (.int .i64 4))/\(L=[(0,.sc .var 133 (ia P))])/\(n=1)) ?_ (fun f nb L hI=>?_))))
 ·refine Ze (Zr rfl (Yc (Ye (Yj rfl (fun h40=>?_) (fun h40=>?_))))) <;> simp only [NM] at h40
  ·refine Yh (Ye (Yk (Ze (Zj rfl (yQ (a:=.int .i64 56) rfl rfl rfl (by omega) rfl (Zj rfl (Zj rfl (Yc (Ye (Ze (Zy rfl (Yd (o':=129) rfl rfl rfl (Ym rfl rfl ZM rfl (Zj rfl (Yr rfl rfl (pT ⟨by omega,by omega⟩) (Yr rfl rfl (RQ ⟨by omega,by omega⟩) (Zr rfl (Yc (Yj rfl (fun h41=>?_) (fun h41=>?_)))))))))))))))))))) <;> simp only [NM] at h41
   ·refine YX (Xe (Yf (Yr (r:=.int .i64 4) rfl rfl rfl (Zj rfl (Yc (⟨_,(.refl _),?_,rfl,rfl,rfl,rfl,rfl⟩))))))
    omega
   refine Yh (Ze (Zj rfl (Yr (r:=.int .i64 1) rfl rfl rfl (Zj rfl (Zf (Yo rfl rfl ZM (Zj rfl (Zj rfl (Yt rfl (YG (Va _ _ _ _ (by omega))) rfl rfl rfl (Yv (r:=.bool _) rfl rfl (Zk rfl (Ys (t:=35) rfl (fun h42=>?_) (fun h42=>?_))))))))))))) <;> simp only [NM] at h42
   ·refine ZF rfl (Zq rfl (Yc (ZA rfl (Ze (Yq rfl (Zg rfl (ZI ?_)))))))
    rw [ZaP]
    simp only [Y1,Xc,Y4,ZaL,Zax,ZaF,Za3,Za5] at *
    omega
   refine Yb rfl (Yo rfl rfl ZM (Yb rfl (Zj rfl (Yb rfl (Zj rfl (Yb rfl (Yr (r:=.int .i64 7) rfl rfl rfl (Yb rfl (Yr (r:=.int .i64 56) rfl rfl rfl (Yb rfl (Yr (r:=.int .i64 60) rfl rfl rfl (Yb rfl (Yt rfl (YG (Va _ _ _ _ (by omega))) rfl rfl rfl (Yb rfl (Yv (r:=.bool _) rfl rfl (Zq rfl (Yc (Yj rfl (fun h43=>?_) (fun h43=>?_))))))))))))))))))) <;> simp only [NM] at h43
   ·refine Ze (Yq rfl (Zg rfl (ZI ?_)))
    rw [ZaP]
    simp only [Y1,Xc,Y4,ZaL,Zax,ZaF,Za3,Za5] at *
    omega
   refine Yh (Yf (Yr (r:=.int .i64 4) rfl rfl rfl (Zj rfl (Yc (⟨_,(.refl _),?_,rfl,rfl,rfl,rfl,rfl⟩)))))
   try simp only [Y4,ZaL,Zax] at *
   omega
  exfalso; omega
 obtain ⟨hf3,k1,k16,k17,rfl,rfl⟩:=hI
 refine Za 1 k1 (Za 16 k16 (Za 17 k17 (YW (Ze (Zr rfl (Yc (Ye (Yj rfl (fun h44=>?_) (fun h44=>?_))))))))) <;> simp only [NM] at h44
 ·exfalso; omega
 refine YX (Xe (Ze (Yq rfl (Zg rfl (ZI ?_)))))
 rw [ZaP]
 simp only [Y1,Xc,Y4,ZaL,Zax,ZaF,Za3,Za5] at *
 omega
end Go.Proofs.YtlkighkfkdpncaaGreatDoor
