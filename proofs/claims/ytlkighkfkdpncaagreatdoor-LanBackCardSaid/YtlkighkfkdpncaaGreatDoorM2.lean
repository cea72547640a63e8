/- Texts of this seat, joined. -/
import Derived.Test.YtlkighkfkdpncaaGreatDoorM1
set_option linter.unusedSimpArgs false
set_option linter.unusedVariables false
namespace Go.Proofs.YtlkighkfkdpncaaGreatDoor
open Go Go.Am
theorem pE {c:Int} (h:0<=c/\c<=15):Wc .shr (.int .i64 c) (.int .i64 0)=some (.int .i64 (c / 1)):=by
 have:c=0\/c=1\/c=2\/c=3\/c=4\/c=5\/c=6\/c=7\/c=8\/c=9\/c=10\/c=11\/c=12\/c=13\/c=14\/c=15:=by omega
 rcases this with rfl | rfl | rfl | rfl | rfl | rfl | rfl | rfl | rfl | rfl | rfl | rfl | rfl | rfl | rfl | rfl <;> rfl
theorem oU {c:Int} (h:0<=c/\c<=15):Wc .shr (.int .i64 c) (.int .i64 1)=some (.int .i64 (c / 2)):=by
 have:c=0\/c=1\/c=2\/c=3\/c=4\/c=5\/c=6\/c=7\/c=8\/c=9\/c=10\/c=11\/c=12\/c=13\/c=14\/c=15:=by omega
 rcases this with rfl | rfl | rfl | rfl | rfl | rfl | rfl | rfl | rfl | rfl | rfl | rfl | rfl | rfl | rfl | rfl <;> rfl
theorem pG {c:Int} (h:0<=c/\c<=15):Wc .shr (.int .i64 c) (.int .i64 2)=some (.int .i64 (c / 4)):=by
 have:c=0\/c=1\/c=2\/c=3\/c=4\/c=5\/c=6\/c=7\/c=8\/c=9\/c=10\/c=11\/c=12\/c=13\/c=14\/c=15:=by omega
 rcases this with rfl | rfl | rfl | rfl | rfl | rfl | rfl | rfl | rfl | rfl | rfl | rfl | rfl | rfl | rfl | rfl <;> rfl
theorem pk {c:Int} (h:0<=c/\c<=15):Wc .shr (.int .i64 c) (.int .i64 3)=some (.int .i64 (c / 8)):=by
 have:c=0\/c=1\/c=2\/c=3\/c=4\/c=5\/c=6\/c=7\/c=8\/c=9\/c=10\/c=11\/c=12\/c=13\/c=14\/c=15:=by omega
 rcases this with rfl | rfl | rfl | rfl | rfl | rfl | rfl | rfl | rfl | rfl | rfl | rfl | rfl | rfl | rfl | rfl <;> rfl
theorem R8 {c:Int} (h:0<=c/\c<=15):Wc .and (.int .i64 c) (.int .i64 1)=some (.int .i64 (c % 2)):=by
 have:c=0\/c=1\/c=2\/c=3\/c=4\/c=5\/c=6\/c=7\/c=8\/c=9\/c=10\/c=11\/c=12\/c=13\/c=14\/c=15:=by omega
 rcases this with rfl | rfl | rfl | rfl | rfl | rfl | rfl | rfl | rfl | rfl | rfl | rfl | rfl | rfl | rfl | rfl <;> rfl
def Xd (P:Nat->Int) (x k c:Int):Bool:=decide (P (sqI x)=k/\P (sqI x+1)=c)
theorem QK {X Y:Nat->Int}:eqI 2 X Y=decide (X 0=Y 0/\X 1=Y 1):=by
 rw [Zce,Qo,Zb7]
 constructor
 ·intro h; exact ⟨h 0 (by omega),h 1 (by omega)⟩
 rintro ⟨h0,h1⟩ i hi
 have:i=0\/i=1:=by omega
 rcases this with rfl | rfl
 ·exact h0
 exact h1
def okM (P:Nat->Int) (s:Nat):Prop:=(P (sqI s)=0/\P (sqI s+1)=0)\/((1<=P (sqI s)/\P (sqI s)<=6/\(P (sqI s+1)=0\/P (sqI s+1)=1))/\¬ (P (sqI s)=1/\(s < 8\/56<=s)))
def kM (P:Nat->Int) (c:Int):Nat->Int
 | 0=>0
 | n+1=>kM P c n+(if P (sqI n)=6/\P (sqI n+1)=c then 1 else 0)
theorem jA (P:Nat->Int) (c:Int):∀ n:Nat,0<=kM P c n/\kM P c n<=n
 | 0=>⟨Int.le_refl _,Int.le_refl _⟩
 | n+1=>by
  have:=jA P c n
  unfold kM
  split <;> omega
instance (P:Nat->Int) (s:Nat):Decidable (okM P s):=by unfold okM; infer_instance
def Vg (P:Nat->Int):Bool:=decide ((∀ s:Nat,s < 64->okM P s)/\kM P 0 64=1/\kM P 1 64=1/\(P 128=0\/P 128=1))
theorem U3 {P:Nat->Int} (h:¬ ((∀ s:Nat,s < 64->okM P s)/\kM P 0 64=1/\kM P 1 64=1/\(P 128=0\/P 128=1))):Vg P=false:=by
 unfold Vg; exact Zci h
theorem EU {P:Nat->Int} (h:(∀ s:Nat,s < 64->okM P s)/\kM P 0 64=1/\kM P 1 64=1/\(P 128=0\/P 128=1)):Vg P=true:=by
 unfold Vg; exact Zcl h
theorem qh {P:Nat->Int} (h:Vg P=true):(∀ s:Nat,s < 64->okM P s)/\kM P 0 64=1/\kM P 1 64=1/\(P 128=0\/P 128=1):=by
 unfold Vg at h; exact of_decide_eq_true h
theorem KM {P:Nat->Int} {i:Nat} (h:∀ s:Nat,s < i->okM P s) (hi:okM P i):∀ s:Nat,s < i+1->okM P s:=fun s hs=>by
 by_cases e:s=i
 ·subst e; exact hi
 exact h s (by omega)
theorem En {P C:Nat->Int} {i:Nat} (h0:C 0=kM P 0 i) (h1:C 1=kM P 1 i) (hk:¬ P (sqI i)=6):C 0=kM P 0 (i+1)/\C 1=kM P 1 (i+1):=by
 unfold kM
 rw [Zcz (fun q=>hk q.1),Zcz (fun q=>hk q.1)]
 omega
theorem D8 {P C:Nat->Int} {i:Nat} (h0:C 0=kM P 0 i) (h1:C 1=kM P 1 i) (hk:P (sqI i)=6) (hc:P (sqI i+1)=0\/P (sqI i+1)=1):ov C (0+(P (sqI i+1)).toNat*1) (C (0+(P (sqI i+1)).toNat*1)+1) 0=kM P 0 (i+1)/\ov C (0+(P (sqI i+1)).toNat*1) (C (0+(P (sqI i+1)).toNat*1)+1) 1=kM P 1 (i+1):=by
 unfold kM
 rcases hc with hc | hc
 ·rw [ZcA ⟨hk,hc⟩,Zcz (by omega),hc]
  exact ⟨by show C 0+1=_; omega,by show C 1=_; omega⟩
 rw [Zcz (by omega),ZcA ⟨hk,hc⟩,hc]
 exact ⟨by show C 0=_; omega,by show C 1+1=_; omega⟩
theorem wR {P C:Nat->Int} {i:Nat} (h0:C 0=kM P 0 i) (h1:C 1=kM P 1 i) (hi:i<=64) (hc:P (sqI i+1)=0\/P (sqI i+1)=1):-9223372036854775808<=C (0+(P (sqI i+1)).toNat*1)+1/\C (0+(P (sqI i+1)).toNat*1)+1<=9223372036854775807:=by
 have:=jA P 0 i
 have:=jA P 1 i
 rcases hc with hc | hc
 ·rw [hc]; show _<=C 0+1/\C 0+1<=_; omega
 rw [hc]; show _<=C 1+1/\C 1+1<=_; omega
theorem dp_ix {P:Nat->Int} {i:Nat}:(fun j=>ia P ((i:Int).toNat*2+j))=ia (dp P (sqI i)):=by
 funext j
 show _=ia P (0+(i:Int).toNat*2+j)
 rw [Zcp]
theorem ovA2 {F X:Nat->Int}:ovA F 0 2 X 0=X 0/\ovA F 0 2 X 1=X 1:=⟨rfl,rfl⟩
def VI (P:Nat->Int) (s a b:Int):Bool:=decide (P (sqI a)=6/\P (sqI a+1)=s/\P (sqI b)=4/\P (sqI b+1)=s)
def X2 (P:Nat->Int):Bool:=decide ((0<=P 129/\P 129<=15)/\(P 129 % 2=0\/VI P 0 4 7=true)/\(P 129 / 2 % 2=0\/VI P 0 4 0=true)/\(P 129 / 4 % 2=0\/VI P 1 60 63=true)/\(P 129 / 8=0\/VI P 1 60 56=true))
def WA (P:Nat->Int):Bool:=decide (P 130=-1\/((0<=P 130/\P 130 < 64)/\P 131=0/\((P 128=1/\P 130 / 8=2/\Xd P (P 130) 0 0=true/\Xd P (P 130 - 8) 0 0=true/\Xd P (P 130+8) 1 0=true)\/(P 128=0/\P 130 / 8=5/\Xd P (P 130) 0 0=true/\Xd P (P 130+8) 0 0=true/\Xd P (P 130 - 8) 1 1=true))))
def QJ (P:Nat->Int):Bool:=Vg P&&X2 P&&WA P&&decide (0<=P 131/\P 131<=1024/\1<=P 132/\P 132<=16384)
theorem Q6 {x r:Int} (h:Wh x=r) (hr:0<=r):(0<=x/\x < 64)/\x / 8=r:=by
 unfold Wh at h
 split at h
 ·exact ⟨by assumption,h⟩
 omega
theorem tC {x d:Int} (hx:0<=x/\x < 64) (h:0<=x / 8+d/\x / 8+d < 8):YT x 0 d=x+8*d:=by
 unfold YT atM
 rw [ZcA ⟨hx,by omega,by omega⟩,ZcA (by omega)]
 omega
theorem W8 (P:Nat->Int) (k s x:Int) (hx:0<=x/\x < 64):WR AM 150 [.agg 133 (ia P),.s (.int .i64 k),.s (.int .i64 s),.s (.int .i64 x)] [] (fun v _ _=>v=.s (.bool (Xd P x k s))):=by
 refine YL (a:=a150) rfl rfl (YI _) (ZQ rfl) (m:=0) rfl (Ze (YC rfl (Yq rfl (Zf (Zj rfl (Zy rfl (Zy rfl (Zw rfl rfl rfl (Yp rfl rfl ZM (Zj rfl (Zj rfl (YB rfl (.one rfl (.one rfl .nil)) (Yw rfl rfl (Zk rfl (Zg rfl (ZI ?_))))))))))))))))
 exact QK
theorem ER {md:Md} (P:Nat->Int) (x:Int) (hx:0<=x/\x < 64):WR AM 151 [.s (.int .i64 x),.ptr 0 0 133] [.sc md 133 (ia P)] (fun v _ L=>v=.s (.bool (Xd P x 0 0))/\(0,Blk.sc md 133 (ia P))∈L):=by
 refine YL (a:=a151) rfl rfl (YI _) (ZQ rfl) (m:=1) rfl (Ze (Yq rfl (Zf (Zj rfl (Zy rfl (Zy rfl (Zw rfl rfl rfl (Yp rfl rfl ZM (YB rfl .nil (Yw rfl rfl (Zk rfl (Zg rfl (⟨ZI ?_,ZM⟩)))))))))))))
 exact QK
theorem re (P:Nat->Int):WR AM 123 [.agg 133 (ia P)] [] (fun v _ _=>v=.s (.bool (X2 P))):=by
 refine YL (a:=a123) rfl rfl (YI _) (ZQ rfl) (m:=0) rfl (Ze (YC rfl (Yq rfl (Yc (Ye (Ze (Zy rfl (Yd (o':=129) rfl rfl rfl (Ym rfl rfl ZM rfl (Zr rfl (Zk rfl (Ys (t:=10) rfl (fun h26=>?_) (fun h26=>?_))))))))))))) <;> simp only [NM] at h26
 ·refine ZE rfl (Zq rfl (Yc (ZA rfl (Ze (Yq rfl (Zg rfl (ZI ?_)))))))
  rw [Zce]
  simp only [X2,VI,Xd,Zb7,ZbJ,Zb1,Zcv,Zcx] at *
  omega
 refine Yb rfl (Zy rfl (Yb rfl (Yd (o':=129) rfl rfl rfl (Yb rfl (Ym rfl rfl ZM rfl (Yb rfl (Zr rfl (Zq rfl (Yc (Yj rfl (fun h27=>?_) (fun h27=>?_))))))))))) <;> simp only [NM] at h27
 ·refine Ze (Yq rfl (Zg rfl (ZI ?_)))
  rw [Zce]
  simp only [X2,VI,Xd,Zb7,ZbJ,Zb1,Zcv,Zcx] at *
  omega
 refine Yh (Ye (Ze (YB rfl (.one rfl (.one rfl (.one rfl (.one rfl .nil)))) (Yq rfl (Yc (Yk (Jr (fun f n L=>(0<=P 129/\P 129<=15)/\(P 129 / 1 % 2=0\/(P (sqI 4)=6/\P (sqI 4+1)=0/\P (sqI 7)=4/\P (sqI 7+1)=0))/\(f 1=.ptr 0 0 133)/\(f 16=.agg 4 (ia (ov (ov (ov (ov (fun _=>0) 0 7) 1 0) 2 63) 3 56)))/\(f 17=.s (.int .i64 1))/\(L=[(0,.sc .var 133 (ia P))])/\(n=1)) ?_ (fun f nb L hI=>?_))))))))
 ·refine Ze (Zr rfl (Yc (Ye (Yj rfl (fun h28=>?_) (fun h28=>?_))))) <;> simp only [NM] at h28
  ·refine Yh (Ye (Yk (Ze (Zj rfl (Tw (a:=.int .i64 7) rfl rfl rfl (by omega) rfl (Zj rfl (Zj rfl (Yc (Ye (Ze (Zy rfl (Yd (o':=129) rfl rfl rfl (Ym rfl rfl ZM rfl (Zj rfl (Yr rfl rfl (pE ⟨by omega,by omega⟩) (Yr rfl rfl (R8 ⟨by omega,by omega⟩) (Zr rfl (Yc (Yj rfl (fun h29=>?_) (fun h29=>?_)))))))))))))))))))) <;> simp only [NM] at h29
   ·refine Y0 (Xb (Yf (Yr (r:=.int .i64 1) rfl rfl rfl (Zj rfl (Yc (⟨_,(.refl _),⟨by omega,by omega⟩,?_,rfl,rfl,rfl,rfl,rfl⟩))))))
    omega
   refine Yh (Ze (Zj rfl (Yr (r:=.int .i64 0) rfl rfl rfl (Zj rfl (Zf (Yo rfl rfl ZM (Zj rfl (Zj rfl (Yt rfl (YP (W8 _ _ _ _ (by omega))) rfl rfl rfl (Yv (r:=.bool _) rfl rfl (Zk rfl (Ys (t:=35) rfl (fun h30=>?_) (fun h30=>?_))))))))))))) <;> simp only [NM] at h30
   ·refine ZF rfl (Zq rfl (Yc (ZA rfl (Ze (Yq rfl (Zg rfl (ZI ?_)))))))
    rw [Zce]
    simp only [X2,VI,Xd,Zb7,ZbJ,Zb1,Zcv,Zcx] at *
    omega
   refine Yb rfl (Yo rfl rfl ZM (Yb rfl (Zj rfl (Yb rfl (Zj rfl (Yb rfl (Yr (r:=.int .i64 0) rfl rfl rfl (Yb rfl (Yr (r:=.int .i64 0) rfl rfl rfl (Yb rfl (Yr (r:=.int .i64 4) rfl rfl rfl (Yb rfl (Yt rfl (YP (W8 _ _ _ _ (by omega))) rfl rfl rfl (Yb rfl (Yv (r:=.bool _) rfl rfl (Zq rfl (Yc (Yj rfl (fun h31=>?_) (fun h31=>?_))))))))))))))))))) <;> simp only [NM] at h31
   ·refine Ze (Yq rfl (Zg rfl (ZI ?_)))
    rw [Zce]
    simp only [X2,VI,Xd,Zb7,ZbJ,Zb1,Zcv,Zcx] at *
    omega
   refine Yh (Yf (Yr (r:=.int .i64 1) rfl rfl rfl (Zj rfl (Yc (⟨_,(.refl _),⟨by omega,by omega⟩,?_,rfl,rfl,rfl,rfl,rfl⟩)))))
   try simp only [Xd,Zb7,ZbJ] at *
   omega
  exfalso; omega
 obtain ⟨hC,hf0,k1,k16,k17,rfl,rfl⟩:=hI
 refine Za 1 k1 (Za 16 k16 (Za 17 k17 (Jr (fun f n L=>(P 129 / 2 % 2=0\/(P (sqI 4)=6/\P (sqI 4+1)=0/\P (sqI 0)=4/\P (sqI 0+1)=0))/\(f 1=.ptr 0 0 133)/\(f 16=.agg 4 (ia (ov (ov (ov (ov (fun _=>0) 0 7) 1 0) 2 63) 3 56)))/\(f 17=.s (.int .i64 2))/\(L=[(0,.sc .var 133 (ia P))])/\(n=1)) ?_ (fun f nb L hI=>?_))))
 ·refine Ze (Zr rfl (Yc (Ye (Yj rfl (fun h32=>?_) (fun h32=>?_))))) <;> simp only [NM] at h32
  ·refine Yh (Ye (Yk (Ze (Zj rfl (Tw (a:=.int .i64 0) rfl rfl rfl (by omega) rfl (Zj rfl (Zj rfl (Yc (Ye (Ze (Zy rfl (Yd (o':=129) rfl rfl rfl (Ym rfl rfl ZM rfl (Zj rfl (Yr rfl rfl (oU ⟨by omega,by omega⟩) (Yr rfl rfl (R8 ⟨by omega,by omega⟩) (Zr rfl (Yc (Yj rfl (fun h33=>?_) (fun h33=>?_)))))))))))))))))))) <;> simp only [NM] at h33
   ·refine Y0 (Xb (Yf (Yr (r:=.int .i64 2) rfl rfl rfl (Zj rfl (Yc (⟨_,(.refl _),?_,rfl,rfl,rfl,rfl,rfl⟩))))))
    omega
   refine Yh (Ze (Zj rfl (Yr (r:=.int .i64 0) rfl rfl rfl (Zj rfl (Zf (Yo rfl rfl ZM (Zj rfl (Zj rfl (Yt rfl (YP (W8 _ _ _ _ (by omega))) rfl rfl rfl (Yv (r:=.bool _) rfl rfl (Zk rfl (Ys (t:=35) rfl (fun h34=>?_) (fun h34=>?_))))))))))))) <;> simp only [NM] at h34
   ·refine ZF rfl (Zq rfl (Yc (ZA rfl (Ze (Yq rfl (Zg rfl (ZI ?_)))))))
    rw [Zce]
    simp only [X2,VI,Xd,Zb7,ZbJ,Zb1,Zcv,Zcx] at *
    omega
   refine Yb rfl (Yo rfl rfl ZM (Yb rfl (Zj rfl (Yb rfl (Zj rfl (Yb rfl (Yr (r:=.int .i64 0) rfl rfl rfl (Yb rfl (Yr (r:=.int .i64 0) rfl rfl rfl (Yb rfl (Yr (r:=.int .i64 4) rfl rfl rfl (Yb rfl (Yt rfl (YP (W8 _ _ _ _ (by omega))) rfl rfl rfl (Yb rfl (Yv (r:=.bool _) rfl rfl (Zq rfl (Yc (Yj rfl (fun h35=>?_) (fun h35=>?_))))))))))))))))))) <;> simp only [NM] at h35
   ·refine Ze (Yq rfl (Zg rfl (ZI ?_)))
    rw [Zce]
    simp only [X2,VI,Xd,Zb7,ZbJ,Zb1,Zcv,Zcx] at *
    omega
   refine Yh (Yf (Yr (r:=.int .i64 2) rfl rfl rfl (Zj rfl (Yc (⟨_,(.refl _),?_,rfl,rfl,rfl,rfl,rfl⟩)))))
   try simp only [Xd,Zb7,ZbJ] at *
   omega
  exfalso; omega
 obtain ⟨hf1,k1,k16,k17,rfl,rfl⟩:=hI
 refine Za 1 k1 (Za 16 k16 (Za 17 k17 (Jr (fun f n L=>(P 129 / 4 % 2=0\/(P (sqI 60)=6/\P (sqI 60+1)=1/\P (sqI 63)=4/\P (sqI 63+1)=1))/\(f 1=.ptr 0 0 133)/\(f 16=.agg 4 (ia (ov (ov (ov (ov (fun _=>0) 0 7) 1 0) 2 63) 3 56)))/\(f 17=.s (.int .i64 3))/\(L=[(0,.sc .var 133 (ia P))])/\(n=1)) ?_ (fun f nb L hI=>?_))))
 ·refine Ze (Zr rfl (Yc (Ye (Yj rfl (fun h36=>?_) (fun h36=>?_))))) <;> simp only [NM] at h36
  ·refine Yh (Ye (Yk (Ze (Zj rfl (Tw (a:=.int .i64 63) rfl rfl rfl (by omega) rfl (Zj rfl (Zj rfl (Yc (Ye (Ze (Zy rfl (Yd (o':=129) rfl rfl rfl (Ym rfl rfl ZM rfl (Zj rfl (Yr rfl rfl (pG ⟨by omega,by omega⟩) (Yr rfl rfl (R8 ⟨by omega,by omega⟩) (Zr rfl (Yc (Yj rfl (fun h37=>?_) (fun h37=>?_)))))))))))))))))))) <;> simp only [NM] at h37
   ·refine Y0 (Xb (Yf (Yr (r:=.int .i64 3) rfl rfl rfl (Zj rfl (Yc (⟨_,(.refl _),?_,rfl,rfl,rfl,rfl,rfl⟩))))))
    omega
   refine Yh (Ze (Zj rfl (Yr (r:=.int .i64 1) rfl rfl rfl (Zj rfl (Zf (Yo rfl rfl ZM (Zj rfl (Zj rfl (Yt rfl (YP (W8 _ _ _ _ (by omega))) rfl rfl rfl (Yv (r:=.bool _) rfl rfl (Zk rfl (Ys (t:=35) rfl (fun h38=>?_) (fun h38=>?_))))))))))))) <;> simp only [NM] at h38
   ·refine ZF rfl (Zq rfl (Yc (ZA rfl (Ze (Yq rfl (Zg rfl (ZI ?_)))))))
    rw [Zce]
    simp only [X2,VI,Xd,Zb7,ZbJ,Zb1,Zcv,Zcx] at *
    omega
   refine Yb rfl (Yo rfl rfl ZM (Yb rfl (Zj rfl (Yb rfl (Zj rfl (Yb rfl (Yr (r:=.int .i64 7) rfl rfl rfl (Yb rfl (Yr (r:=.int .i64 56) rfl rfl rfl (Yb rfl (Yr (r:=.int .i64 60) rfl rfl rfl (Yb rfl (Yt rfl (YP (W8 _ _ _ _ (by omega))) rfl rfl rfl (Yb rfl (Yv (r:=.bool _) rfl rfl (Zq rfl (Yc (Yj rfl (fun h39=>?_) (fun h39=>?_))))))))))))))))))) <;> simp only [NM] at h39
   ·refine Ze (Yq rfl (Zg rfl (ZI ?_)))
    rw [Zce]
    simp only [X2,VI,Xd,Zb7,ZbJ,Zb1,Zcv,Zcx] at *
    omega
   refine Yh (Yf (Yr (r:=.int .i64 3) rfl rfl rfl (Zj rfl (Yc (⟨_,(.refl _),?_,rfl,rfl,rfl,rfl,rfl⟩)))))
   try simp only [Xd,Zb7,ZbJ] at *
   omega
  exfalso; omega
 obtain ⟨hf2,k1,k16,k17,rfl,rfl⟩:=hI
 refine Za 1 k1 (Za 16 k16 (Za 17 k17 (Jr (fun f n L=>(P 129 / 8 % 2=0\/(P (sqI 60)=6/\P (sqI 60+1)=1/\P (sqI 56)=4/\P (sqI 56+1)=1))/\(f 1=.ptr 0 0 133)/\(f 16=.agg 4 (ia (ov (ov (ov (ov (fun _=>0) 0 7) 1 0) 2 63) 3 56)))/\(f 17=.s (.int .i64 4))/\(L=[(0,.sc .var 133 (ia P))])/\(n=1)) ?_ (fun f nb L hI=>?_))))
 ·refine Ze (Zr rfl (Yc (Ye (Yj rfl (fun h40=>?_) (fun h40=>?_))))) <;> simp only [NM] at h40
  ·refine Yh (Ye (Yk (Ze (Zj rfl (Tw (a:=.int .i64 56) rfl rfl rfl (by omega) rfl (Zj rfl (Zj rfl (Yc (Ye (Ze (Zy rfl (Yd (o':=129) rfl rfl rfl (Ym rfl rfl ZM rfl (Zj rfl (Yr rfl rfl (pk ⟨by omega,by omega⟩) (Yr rfl rfl (R8 ⟨by omega,by omega⟩) (Zr rfl (Yc (Yj rfl (fun h41=>?_) (fun h41=>?_)))))))))))))))))))) <;> simp only [NM] at h41
   ·refine Y0 (Xb (Yf (Yr (r:=.int .i64 4) rfl rfl rfl (Zj rfl (Yc (⟨_,(.refl _),?_,rfl,rfl,rfl,rfl,rfl⟩))))))
    omega
   refine Yh (Ze (Zj rfl (Yr (r:=.int .i64 1) rfl rfl rfl (Zj rfl (Zf (Yo rfl rfl ZM (Zj rfl (Zj rfl (Yt rfl (YP (W8 _ _ _ _ (by omega))) rfl rfl rfl (Yv (r:=.bool _) rfl rfl (Zk rfl (Ys (t:=35) rfl (fun h42=>?_) (fun h42=>?_))))))))))))) <;> simp only [NM] at h42
   ·refine ZF rfl (Zq rfl (Yc (ZA rfl (Ze (Yq rfl (Zg rfl (ZI ?_)))))))
    rw [Zce]
    simp only [X2,VI,Xd,Zb7,ZbJ,Zb1,Zcv,Zcx] at *
    omega
   refine Yb rfl (Yo rfl rfl ZM (Yb rfl (Zj rfl (Yb rfl (Zj rfl (Yb rfl (Yr (r:=.int .i64 7) rfl rfl rfl (Yb rfl (Yr (r:=.int .i64 56) rfl rfl rfl (Yb rfl (Yr (r:=.int .i64 60) rfl rfl rfl (Yb rfl (Yt rfl (YP (W8 _ _ _ _ (by omega))) rfl rfl rfl (Yb rfl (Yv (r:=.bool _) rfl rfl (Zq rfl (Yc (Yj rfl (fun h43=>?_) (fun h43=>?_))))))))))))))))))) <;> simp only [NM] at h43
   ·refine Ze (Yq rfl (Zg rfl (ZI ?_)))
    rw [Zce]
    simp only [X2,VI,Xd,Zb7,ZbJ,Zb1,Zcv,Zcx] at *
    omega
   refine Yh (Yf (Yr (r:=.int .i64 4) rfl rfl rfl (Zj rfl (Yc (⟨_,(.refl _),?_,rfl,rfl,rfl,rfl,rfl⟩)))))
   try simp only [Xd,Zb7,ZbJ] at *
   omega
  exfalso; omega
 obtain ⟨hf3,k1,k16,k17,rfl,rfl⟩:=hI
 refine Za 1 k1 (Za 16 k16 (Za 17 k17 (YO (Ze (Zr rfl (Yc (Ye (Yj rfl (fun h44=>?_) (fun h44=>?_))))))))) <;> simp only [NM] at h44
 ·exfalso; omega
 refine Y0 (Xb (Ze (Yq rfl (Zg rfl (ZI ?_)))))
 rw [Zce]
 simp only [X2,VI,Xd,Zb7,ZbJ,Zb1,Zcv,Zcx] at *
 omega
theorem ovK {F:Nat->Int} {x y:Int}:ov (ov F 0 x) 1 y 0=x/\ov (ov F 0 x) 1 y 1=y:=⟨rfl,rfl⟩
theorem vG (s:Nat) (h:s < 64):RF AM 84 [.s (.int .i64 (s:Int))] (.s (.int .i64 ((s:Int) / 8))):=by
 have:=KG (s:Int)
 rw [Wh,ZcA (by omega)] at this
 exact this
theorem pU (P:Nat->Int):WR AM 122 [.agg 133 (ia P)] [] (fun v _ _=>v=.s (.bool (Vg P))):=by
 refine YL (a:=a122) rfl rfl (YI _) (ZQ rfl) (m:=0) rfl (Ze (YC rfl (Yq rfl (Zf (Yy (Yc (Ye (Ze (Zy rfl (Zy rfl (Yo rfl rfl ZN (Yq rfl (Yc (Yk (Xo (L':=[_,_]) (.refl _) (Xu (fun m f _ L=>∃ (i:Nat) (C:Nat->Int),(i<=64)/\(m=64 - i)/\(∀ s:Nat,s < i->okM P s)/\(C 0=kM P 0 i)/\(C 1=kM P 1 i)/\(f 1=.ptr 0 0 133)/\(f 3=.ptr 1 0 2)/\(f 9=.agg 128 (ia P))/\(f 10=.s (.int .i64 i))/\(L=[(1,.sc .var 2 (ia C)),(0,.sc .var 133 (ia P))])) (fun m f nb L hI=>?_) (64) ⟨0,fun _=>0,by omega,rfl,fun s h=>by omega,rfl,rfl,rfl,rfl,rfl,rfl,rfl⟩))))))))))))))))
 obtain ⟨i,C,hi,hm,hok,hc0,hc1,k1,k3,k9,k10,rfl⟩:=hI
 refine Za 1 k1 (Za 3 k3 (Za 9 k9 (Za 10 k10 (Ze (Zr rfl (Yc (Ye (Yj rfl (fun h1=>?_) (fun h1=>?_))))))))) <;> simp only [NM] at h1
 ·refine Yh (Ye (Yk (Ze (Zj rfl ?_))))
  refine y7 rfl rfl rfl (by first | omega | (simp only [Xm,Zb7] at *; omega)) ?_
  rw [dp_ix]
  refine Yy (Zj rfl (Yz rfl rfl rfl rfl .here (Yc (Ye (Ze (Yo rfl rfl ZM (YB rfl .nil (Yw rfl rfl (Yc (Yj rfl (fun h2=>?_) (fun h2=>?_))))))))))) <;> simp only [NM] at h2
  ·try simp only [QK,ovA2.1,ovA2.2,ovK.1,ovK.2,Zb7,ZbJ,Xm,dp,Nat.add_zero] at h2
   refine Y0 (Xb (Yf (Zs rfl rfl (Zj rfl (Yc ?_)))))
   (have hk:=En hc0 hc1 (by omega); refine ⟨64 - (i+1),_,by omega,(.cons _ (.refl _)),i+1,_,by omega,rfl,KM hok (by unfold okM; omega),hk.1,hk.2,rfl,rfl,rfl,rfl,rfl⟩)
  try simp only [QK,ovA2.1,ovA2.2,ovK.1,ovK.2,Zb7,ZbJ,Xm,dp,Nat.add_zero] at h2
  refine Yh (Ze (Zj rfl (Yt rfl (vG i (by omega)) rfl rfl rfl (Zr rfl (Zk rfl (Ys (t:=20) rfl (fun h3=>?_) (fun h3=>?_))))))) <;> simp only [NM] at h3
  ·refine ZD rfl (ZC rfl (Zq rfl (Zk rfl (Yc (Ye (Ze (Yo rfl rfl ZM (Yt rfl (show RF AM 149 _ (.s (.bool (Xm (P (sqI i)) (P (sqI i+1))))) from YP (tB (ovA (fun _=>0) 0 2 (dp P (sqI i))))) rfl rfl rfl (Yv (r:=.bool _) rfl rfl (Zk rfl (Ys (t:=28) rfl (fun h4=>?_) (fun h4=>?_)))))))))))) <;> simp only [NM] at h4
   ·try simp only [QK,ovA2.1,ovA2.2,ovK.1,ovK.2,Zb7,ZbJ,Xm,dp,Nat.add_zero] at h4
    refine ZD rfl (YJ rfl (YJ rfl (YJ rfl (ZC rfl (Zq rfl (Yc (ZA rfl (Ze (Yq rfl (Zg rfl ?_))))))))))
    exact congrArg (fun b=>V.s (S.bool b)) (U3 (fun q=>absurd (q.1 i (by omega)) (by unfold okM; omega))).symm
   try simp only [QK,ovA2.1,ovA2.2,ovK.1,ovK.2,Zb7,ZbJ,Xm,dp,Nat.add_zero] at h4
   refine Yb rfl (Zk rfl (Yb rfl (Zk rfl (Yb rfl (Zy rfl (Yb rfl (Ym (x:=P (sqI i)) rfl rfl ZM (rfl) (Yb rfl (Zr rfl (Yb rfl (Zq rfl (Zq rfl (Yc (Yj rfl (fun h5=>?_) (fun h5=>?_))))))))))))))) <;> simp only [NM] at h5
   ·refine Ze (Yq rfl (Zg rfl ?_))
    exact congrArg (fun b=>V.s (S.bool b)) (U3 (fun q=>absurd (q.1 i (by omega)) (by unfold okM; omega))).symm
   refine Yh (Ze (Zy rfl (Ym (x:=P (sqI i)) rfl rfl ZM (rfl) (Zr rfl (Yc (Yj rfl (fun h6=>?_) (fun h6=>?_))))))) <;> simp only [NM] at h6
   ·refine Yf (Zz rfl (Ym (x:=P (sqI i+1)) rfl rfl ZM (rfl) ?_))
    refine Vr rfl rfl rfl (by first | omega | (simp only [Xm,Zb7] at *; omega)) ?_
    refine Ym rfl rfl ZN rfl (Ur rfl rfl (wR hc0 hc1 hi (by omega)) ?_)
    refine Vr rfl rfl rfl (by first | omega | (simp only [Xm,Zb7] at *; omega)) ?_
    refine YA rfl rfl rfl rfl (.there .here) (Yc (Yf (Zs rfl rfl (Zj rfl (Yc ?_)))))
    (have hk:=D8 hc0 hc1 (by omega) (by omega); refine ⟨64 - (i+1),_,by omega,(.cons _ (.refl _)),i+1,_,by omega,rfl,KM hok (by unfold okM; omega),hk.1,hk.2,rfl,rfl,rfl,rfl,rfl⟩)
   refine Yh (Yf (Zs rfl rfl (Zj rfl (Yc ?_))))
   (have hk:=En hc0 hc1 (by omega); refine ⟨64 - (i+1),_,by omega,(.cons _ (.refl _)),i+1,_,by omega,rfl,KM hok (by unfold okM; omega),hk.1,hk.2,rfl,rfl,rfl,rfl,rfl⟩)
  refine Yb rfl (Zj rfl (Yb rfl (Yt rfl (vG i (by omega)) rfl rfl rfl (Yb rfl (Zr rfl (Zq rfl (Zk rfl (Yc (Ye (Ze (Yo rfl rfl ZM (Yt rfl (show RF AM 149 _ (.s (.bool (Xm (P (sqI i)) (P (sqI i+1))))) from YP (tB (ovA (fun _=>0) 0 2 (dp P (sqI i))))) rfl rfl rfl (Yv (r:=.bool _) rfl rfl (Zk rfl (Ys (t:=28) rfl (fun h7=>?_) (fun h7=>?_)))))))))))))))) <;> simp only [NM] at h7
  ·try simp only [QK,ovA2.1,ovA2.2,ovK.1,ovK.2,Zb7,ZbJ,Xm,dp,Nat.add_zero] at h7
   refine ZD rfl (YJ rfl (YJ rfl (YJ rfl (ZC rfl (Zq rfl (Yc (ZA rfl (Ze (Yq rfl (Zg rfl ?_))))))))))
   exact congrArg (fun b=>V.s (S.bool b)) (U3 (fun q=>absurd (q.1 i (by omega)) (by unfold okM; omega))).symm
  try simp only [QK,ovA2.1,ovA2.2,ovK.1,ovK.2,Zb7,ZbJ,Xm,dp,Nat.add_zero] at h7
  refine Yb rfl (Zk rfl (Yb rfl (Zk rfl (Ys (t:=30) rfl (fun h8=>?_) (fun h8=>?_))))) <;> simp only [NM] at h8
  ·refine Yb rfl (Zy rfl (Yb rfl (Ym (x:=P (sqI i)) rfl rfl ZM (rfl) (Yb rfl (Zr rfl (Yb rfl (Zq rfl (Zq rfl (Yc (Yj rfl (fun h9=>?_) (fun h9=>?_))))))))))) <;> simp only [NM] at h9
   ·refine Ze (Yq rfl (Zg rfl ?_))
    exact congrArg (fun b=>V.s (S.bool b)) (U3 (fun q=>absurd (q.1 i (by omega)) (by unfold okM; omega))).symm
   refine Yh (Ze (Zy rfl (Ym (x:=P (sqI i)) rfl rfl ZM (rfl) (Zr rfl (Yc (Yj rfl (fun h10=>?_) (fun h10=>?_))))))) <;> simp only [NM] at h10
   ·refine Yf (Zz rfl (Ym (x:=P (sqI i+1)) rfl rfl ZM (rfl) ?_))
    refine Vr rfl rfl rfl (by first | omega | (simp only [Xm,Zb7] at *; omega)) ?_
    refine Ym rfl rfl ZN rfl (Ur rfl rfl (wR hc0 hc1 hi (by omega)) ?_)
    refine Vr rfl rfl rfl (by first | omega | (simp only [Xm,Zb7] at *; omega)) ?_
    refine YA rfl rfl rfl rfl (.there .here) (Yc (Yf (Zs rfl rfl (Zj rfl (Yc ?_)))))
    (have hk:=D8 hc0 hc1 (by omega) (by omega); refine ⟨64 - (i+1),_,by omega,(.cons _ (.refl _)),i+1,_,by omega,rfl,KM hok (by unfold okM; omega),hk.1,hk.2,rfl,rfl,rfl,rfl,rfl⟩)
   refine Yh (Yf (Zs rfl rfl (Zj rfl (Yc ?_))))
   (have hk:=En hc0 hc1 (by omega); refine ⟨64 - (i+1),_,by omega,(.cons _ (.refl _)),i+1,_,by omega,rfl,KM hok (by unfold okM; omega),hk.1,hk.2,rfl,rfl,rfl,rfl,rfl⟩)
  refine ZD rfl (ZC rfl (Yb rfl (Zq rfl (Zq rfl (Yc (ZB rfl (Yh (Ze (Zy rfl (Ym (x:=P (sqI i)) rfl rfl ZM (rfl) (Zr rfl (Yc (Yj rfl (fun h11=>?_) (fun h11=>?_)))))))))))))) <;> simp only [NM] at h11
  ·refine Yf (Zz rfl (Ym (x:=P (sqI i+1)) rfl rfl ZM (rfl) ?_))
   refine Vr rfl rfl rfl (by first | omega | (simp only [Xm,Zb7] at *; omega)) ?_
   refine Ym rfl rfl ZN rfl (Ur rfl rfl (wR hc0 hc1 hi (by omega)) ?_)
   refine Vr rfl rfl rfl (by first | omega | (simp only [Xm,Zb7] at *; omega)) ?_
   refine YA rfl rfl rfl rfl (.there .here) (Yc (Yf (Zs rfl rfl (Zj rfl (Yc ?_)))))
   (have hk:=D8 hc0 hc1 (by omega) (by omega); refine ⟨64 - (i+1),_,by omega,(.cons _ (.refl _)),i+1,_,by omega,rfl,KM hok (by unfold okM; omega),hk.1,hk.2,rfl,rfl,rfl,rfl,rfl⟩)
  refine Yh (Yf (Zs rfl rfl (Zj rfl (Yc ?_))))
  (have hk:=En hc0 hc1 (by omega); refine ⟨64 - (i+1),_,by omega,(.cons _ (.refl _)),i+1,_,by omega,rfl,KM hok (by unfold okM; omega),hk.1,hk.2,rfl,rfl,rfl,rfl,rfl⟩)
 refine Y0 (Xb (Ze (Yo rfl rfl ZM (YB rfl (.one rfl (.one rfl .nil)) (Yw rfl rfl (Zk rfl (Ys (t:=49) rfl (fun h12=>?_) (fun h12=>?_)))))))) <;> simp only [NM] at h12
 ·try simp only [QK,ovA2.1,ovA2.2,ovK.1,ovK.2,Zb7,ZbJ,Xm,dp,Nat.add_zero] at h12
  refine Yb rfl (Zy rfl (Yb rfl (Yd (o':=128) rfl rfl rfl (Yb rfl (Ym rfl rfl ZN rfl (Yb rfl (Zr rfl (Yb rfl (Zk rfl (Ys (t:=54) rfl (fun h13=>?_) (fun h13=>?_))))))))))) <;> simp only [NM] at h13
  ·refine ZE rfl (Yb rfl (Zq rfl (Zq rfl (Zk rfl (Zg rfl ?_)))))
   obtain rfl:i=64:=by omega
   refine ZI ?_
   by_cases hq:(∀ s:Nat,s < 64->okM P s)/\kM P 0 64=1/\kM P 1 64=1/\(P 128=0\/P 128=1)
   · refine Eq.trans (b:=true) ?_ (EU hq).symm; have hq2:=hq.2; first | rfl | (exfalso; omega) | exact Zcu.2 (by omega)
   refine Eq.trans (b:=false) ?_ (U3 hq).symm; have hn:¬ (kM P 0 64=1/\kM P 1 64=1/\(P 128=0\/P 128=1)):=fun e=>hq ⟨hok,e⟩; first | rfl | (exfalso; omega) | exact beq_eq_false_iff_ne.2 (by omega)
  refine Yb rfl (Zy rfl (Yb rfl (Yd (o':=128) rfl rfl rfl (Yb rfl (Ym rfl rfl ZN rfl (Yb rfl (Zr rfl (Yb rfl (Zq rfl (Zq rfl (Zk rfl (Zg rfl ?_))))))))))))
  obtain rfl:i=64:=by omega
  refine ZI ?_
  by_cases hq:(∀ s:Nat,s < 64->okM P s)/\kM P 0 64=1/\kM P 1 64=1/\(P 128=0\/P 128=1)
  · refine Eq.trans (b:=true) ?_ (EU hq).symm; have hq2:=hq.2; first | rfl | (exfalso; omega) | exact Zcu.2 (by omega)
  refine Eq.trans (b:=false) ?_ (U3 hq).symm; have hn:¬ (kM P 0 64=1/\kM P 1 64=1/\(P 128=0\/P 128=1)):=fun e=>hq ⟨hok,e⟩; first | rfl | (exfalso; omega) | exact beq_eq_false_iff_ne.2 (by omega)
 try simp only [QK,ovA2.1,ovA2.2,ovK.1,ovK.2,Zb7,ZbJ,Xm,dp,Nat.add_zero] at h12
 refine ZE rfl (ZC rfl (YJ rfl (YJ rfl (YJ rfl (YJ rfl (ZC rfl (Zq rfl (Zk rfl (Zg rfl ?_)))))))))
 obtain rfl:i=64:=by omega
 refine ZI ?_
 by_cases hq:(∀ s:Nat,s < 64->okM P s)/\kM P 0 64=1/\kM P 1 64=1/\(P 128=0\/P 128=1)
 · refine Eq.trans (b:=true) ?_ (EU hq).symm; have hq2:=hq.2; first | rfl | (exfalso; omega) | exact Zcu.2 (by omega)
 refine Eq.trans (b:=false) ?_ (U3 hq).symm; have hn:¬ (kM P 0 64=1/\kM P 1 64=1/\(P 128=0\/P 128=1)):=fun e=>hq ⟨hok,e⟩; first | rfl | (exfalso; omega) | exact beq_eq_false_iff_ne.2 (by omega)
theorem uC {x:Int} (hx:0<=x/\x < 64) (h:x / 8 < 7):RF AM 152 [.s (.int .i64 x),.s (.int .i64 0),.s (.int .i64 1)] (.s (.int .i64 (x+8))):=by
 have:=UC x 0 1
 rw [tC hx (by omega)] at this
 exact this
theorem tq {x:Int} (hx:0<=x/\x < 64) (h:1<=x / 8):RF AM 152 [.s (.int .i64 x),.s (.int .i64 0),.s (.int .i64 (-1))] (.s (.int .i64 (x - 8))):=by
 have:=UC x 0 (-1)
 rw [tC hx (by omega)] at this
 exact this
theorem Qg {x:Int} (h:x=0\/x=1):XT x=1 - x:=by
 unfold XT; split <;> omega
theorem VF (x:Int):(0<=x/\x < 64/\Wh x=x / 8)\/(¬ (0<=x/\x < 64)/\Wh x=-1):=by
 unfold Wh; split
 ·exact .inl ⟨by omega,by omega,rfl⟩
 exact .inr ⟨by assumption,rfl⟩
theorem over_ok (P:Nat->Int) (hs:P 128=0\/P 128=1):WR AM 124 [.agg 133 (ia P)] [] (fun v _ _=>v=.s (.bool (WA P))):=by
 refine YL (a:=a124) rfl rfl (YI _) (ZQ rfl) (m:=0) rfl (Ze (YC rfl (Yq rfl (Yc (Ye (Ze (Zy rfl (Yd (o':=130) rfl rfl rfl (Ym rfl rfl ZM rfl (Zr rfl (Yc (Yj rfl (fun h30=>?_) (fun h30=>?_))))))))))))) <;> simp only [NM] at h30
 ·refine Ze (Yq rfl (Zg rfl (ZI ?_)))
  have ho:=Qg hs
  have hra:=VF (P 130)
  rw [Zce]
  simp only [WA,Xd,Zb7,Zb1,Zcv,Zcx,ho] at *
  omega
 refine Yh (Ze (Yq rfl (Yq rfl (Yc (Ye (Ze (Zy rfl (Yd (o':=128) rfl rfl rfl (Ym rfl rfl ZM rfl (Zr rfl (Yc (Yj rfl (fun h31=>?_) (fun h31=>?_))))))))))))) <;> simp only [NM] at h31
 ·refine Yf (Yq rfl (Yq rfl (Yc (Ye (Ze (Zy rfl (Yd (o':=130) rfl rfl rfl (Ym rfl rfl ZM rfl (Yt rfl (KG _) rfl rfl rfl (Zj rfl (Zr rfl (Zk rfl (Ys (t:=20) rfl (fun h32=>?_) (fun h32=>?_)))))))))))))) <;> simp only [NM] at h32
  ·refine ZE rfl (Zq rfl (Yc (ZA rfl (Ze (Yq rfl (Zg rfl (ZI ?_)))))))
   have ho:=Qg hs
   have hra:=VF (P 130)
   rw [Zce]
   simp only [WA,Xd,Zb7,Zb1,Zcv,Zcx,ho] at *
   omega
  refine Yb rfl (Zy rfl (Yb rfl (Yd (o':=131) rfl rfl rfl (Yb rfl (Ym rfl rfl ZM rfl (Yb rfl (Zr rfl (Zq rfl (Yc (Yj rfl (fun h33=>?_) (fun h33=>?_))))))))))) <;> simp only [NM] at h33
  ·refine Ze (Yq rfl (Zg rfl (ZI ?_)))
   have ho:=Qg hs
   have hra:=VF (P 130)
   rw [Zce]
   simp only [WA,Xd,Zb7,Zb1,Zcv,Zcx,ho] at *
   omega
  refine Yh (Ze (KF rfl (Yq (v:=.fn _ _) rfl (Yc (Ye (Yg (Yq (v:=.fn _ _) rfl (Zy rfl (Yd (o':=130) rfl rfl rfl (Ym rfl rfl ZM rfl ?_))))))))))
  have hin31:=Q6 (x:=P 130) (by assumption) (by omega)
  refine Wr (rs:=[0]) (Bs:=[_]) rfl (V4 (ER (md:=.var) P _ (by omega))) rfl rfl (YF rfl) (fun _ h=>h) rfl ⟨ZM,⟨_,_,_,rfl⟩,trivial⟩ rfl rfl rfl (.cons .here .nil) (Zk rfl (Ys (t:=32) rfl (fun h34=>?_) (fun h34=>?_)))
  ·try simp only [Xd,Zb7,ZbJ] at h34
   refine Yb rfl (Yq (v:=.fn _ _) rfl (Yb rfl (Zy rfl (Yb rfl (Yd (o':=130) rfl rfl rfl (Yb rfl (Ym rfl rfl ZM rfl (Yb rfl (Zj rfl (Yb rfl ?_))))))))))
   have hin38:=Q6 (x:=P 130) (by assumption) (by omega)
   refine Yt rfl (tq hin38.1 (by omega)) rfl rfl rfl (Yb rfl ?_)
   have hin39:=Q6 (x:=P 130) (by assumption) (by omega)
   refine Wr (rs:=[0]) (Bs:=[_]) rfl (V4 (ER (md:=.var) P _ (by omega))) rfl rfl (YF rfl) (fun _ h=>h) rfl ⟨ZM,⟨_,_,_,rfl⟩,trivial⟩ rfl rfl rfl (.cons .here .nil) (Zq rfl (Zk rfl (Ys (t:=41) rfl (fun h35=>?_) (fun h35=>?_))))
   ·try simp only [Xd,Zb7,ZbJ] at h35
    refine Yb rfl (Yo rfl rfl ZM (Yb rfl (Zy rfl (Yb rfl (Yd (o':=128) rfl rfl rfl (Yb rfl (Ym rfl rfl ZM rfl (Yb rfl (Yu rfl (YP (VW _)) rfl rfl rfl (Yb rfl (Zy rfl (Yb rfl (Yd (o':=130) rfl rfl rfl (Yb rfl (Ym rfl rfl ZM rfl (Yb rfl (Zj rfl (Yb rfl (oi rfl (by omega) (Yb rfl ?_))))))))))))))))))))
    have hin52:=Q6 (x:=P 130) (by assumption) (by omega)
    refine Yu rfl (uC hin52.1 (by omega)) rfl rfl rfl (Yb rfl (Yt rfl (YP (W8 _ _ _ _ (by omega))) rfl rfl rfl (Zq rfl (Zk rfl (Zg rfl (ZI ?_))))))
    have ho:=Qg hs
    have hra:=VF (P 130)
    rw [Zce]
    simp only [WA,Xd,Zb7,Zb1,Zcv,Zcx,ho] at *
    omega
   try simp only [Xd,Zb7,ZbJ] at h35
   refine ZF rfl (ZE rfl (Zq rfl (Zk rfl (Zg rfl (ZI ?_)))))
   have ho:=Qg hs
   have hra:=VF (P 130)
   rw [Zce]
   simp only [WA,Xd,Zb7,Zb1,Zcv,Zcx,ho] at *
   omega
  try simp only [Xd,Zb7,ZbJ] at h34
  refine ZE rfl (ZD rfl (ZC rfl (Zq rfl (Zk rfl (ZF rfl (ZE rfl (Zq rfl (Zk rfl (Zg rfl (ZI ?_))))))))))
  have ho:=Qg hs
  have hra:=VF (P 130)
  rw [Zce]
  simp only [WA,Xd,Zb7,Zb1,Zcv,Zcx,ho] at *
  omega
 refine Yh (Ye (Ze (Zy rfl (Yd (o':=130) rfl rfl rfl (Ym rfl rfl ZM rfl (Yt rfl (KG _) rfl rfl rfl (Zj rfl (Zr rfl (Zk rfl (Ys (t:=20) rfl (fun h36=>?_) (fun h36=>?_))))))))))) <;> simp only [NM] at h36
 ·refine ZE rfl (Zq rfl (Yc (ZA rfl (Ze (Yq rfl (Zg rfl (ZI ?_)))))))
  have ho:=Qg hs
  have hra:=VF (P 130)
  rw [Zce]
  simp only [WA,Xd,Zb7,Zb1,Zcv,Zcx,ho] at *
  omega
 refine Yb rfl (Zy rfl (Yb rfl (Yd (o':=131) rfl rfl rfl (Yb rfl (Ym rfl rfl ZM rfl (Yb rfl (Zr rfl (Zq rfl (Yc (Yj rfl (fun h37=>?_) (fun h37=>?_))))))))))) <;> simp only [NM] at h37
 ·refine Ze (Yq rfl (Zg rfl (ZI ?_)))
  have ho:=Qg hs
  have hra:=VF (P 130)
  rw [Zce]
  simp only [WA,Xd,Zb7,Zb1,Zcv,Zcx,ho] at *
  omega
 refine Yh (Ze (KF rfl (Yq (v:=.fn _ _) rfl (Yc (Ye (Yg (Yq (v:=.fn _ _) rfl (Zy rfl (Yd (o':=130) rfl rfl rfl (Ym rfl rfl ZM rfl ?_))))))))))
 have hin31:=Q6 (x:=P 130) (by assumption) (by omega)
 refine Wr (rs:=[0]) (Bs:=[_]) rfl (V4 (ER (md:=.var) P _ (by omega))) rfl rfl (YF rfl) (fun _ h=>h) rfl ⟨ZM,⟨_,_,_,rfl⟩,trivial⟩ rfl rfl rfl (.cons .here .nil) (Zk rfl (Ys (t:=32) rfl (fun h38=>?_) (fun h38=>?_)))
 ·try simp only [Xd,Zb7,ZbJ] at h38
  refine Yb rfl (Yq (v:=.fn _ _) rfl (Yb rfl (Zy rfl (Yb rfl (Yd (o':=130) rfl rfl rfl (Yb rfl (Ym rfl rfl ZM rfl (Yb rfl (Zj rfl (Yb rfl ?_))))))))))
  have hin38:=Q6 (x:=P 130) (by assumption) (by omega)
  refine Yt rfl (uC hin38.1 (by omega)) rfl rfl rfl (Yb rfl ?_)
  have hin39:=Q6 (x:=P 130) (by assumption) (by omega)
  refine Wr (rs:=[0]) (Bs:=[_]) rfl (V4 (ER (md:=.var) P _ (by omega))) rfl rfl (YF rfl) (fun _ h=>h) rfl ⟨ZM,⟨_,_,_,rfl⟩,trivial⟩ rfl rfl rfl (.cons .here .nil) (Zq rfl (Zk rfl (Ys (t:=41) rfl (fun h39=>?_) (fun h39=>?_))))
  ·try simp only [Xd,Zb7,ZbJ] at h39
   refine Yb rfl (Yo rfl rfl ZM (Yb rfl (Zy rfl (Yb rfl (Yd (o':=128) rfl rfl rfl (Yb rfl (Ym rfl rfl ZM rfl (Yb rfl (Yu rfl (YP (VW _)) rfl rfl rfl (Yb rfl (Zy rfl (Yb rfl (Yd (o':=130) rfl rfl rfl (Yb rfl (Ym rfl rfl ZM rfl (Yb rfl (Zj rfl (Yb rfl (oi rfl (by omega) (Yb rfl ?_))))))))))))))))))))
   have hin52:=Q6 (x:=P 130) (by assumption) (by omega)
   refine Yu rfl (tq hin52.1 (by omega)) rfl rfl rfl (Yb rfl (Yt rfl (YP (W8 _ _ _ _ (by omega))) rfl rfl rfl (Zq rfl (Zk rfl (Zg rfl (ZI ?_))))))
   have ho:=Qg hs
   have hra:=VF (P 130)
   rw [Zce]
   simp only [WA,Xd,Zb7,Zb1,Zcv,Zcx,ho] at *
   omega
  try simp only [Xd,Zb7,ZbJ] at h39
  refine ZF rfl (ZE rfl (Zq rfl (Zk rfl (Zg rfl (ZI ?_)))))
  have ho:=Qg hs
  have hra:=VF (P 130)
  rw [Zce]
  simp only [WA,Xd,Zb7,Zb1,Zcv,Zcx,ho] at *
  omega
 try simp only [Xd,Zb7,ZbJ] at h38
 refine ZE rfl (ZD rfl (ZC rfl (Zq rfl (Zk rfl (ZF rfl (ZE rfl (Zq rfl (Zk rfl (Zg rfl (ZI ?_))))))))))
 have ho:=Qg hs
 have hra:=VF (P 130)
 rw [Zce]
 simp only [WA,Xd,Zb7,Zb1,Zcv,Zcx,ho] at *
 omega
theorem wj {P Q:Nat->Int} (h:∀ i,i < 128->P i=Q i) (c:Int):∀ n:Nat,n<=64->kM P c n=kM Q c n
 | 0,_=>rfl
 | n+1,hn=>by
  have hq:sqI n=0+(n:Int).toNat*2:=rfl
  unfold kM
  rw [wj h c n (by omega),h (sqI n) (by omega),h (sqI n+1) (by omega)]
theorem j3 {P Q:Nat->Int} (h:∀ i,i < 128->P i=Q i) {s:Nat} (hs:s < 64):okM P s=okM Q s:=by
 have hq:sqI s=0+(s:Int).toNat*2:=rfl
 unfold okM
 rw [h (sqI s) (by omega),h (sqI s+1) (by omega)]
theorem jY {P Q:Nat->Int} (h:∀ i,i < 133->P i=Q i):Vg P=Vg Q:=by
 have hl:∀ i,i < 128->P i=Q i:=fun i hi=>h i (by omega)
 have ho:(∀ s:Nat,s < 64->okM P s)↔(∀ s:Nat,s < 64->okM Q s):=⟨fun a s hs=>(j3 hl hs) ▸ a s hs,fun a s hs=>(j3 hl hs).symm ▸ a s hs⟩
 unfold Vg
 rw [Zce,Zb7,Zb7,ho,wj hl 0 64 (by omega),wj hl 1 64 (by omega),h 128 (by omega)]
theorem QL {P Q:Nat->Int} (h:∀ i,i < 133->P i=Q i) {x k c:Int} (hx:0<=x/\x < 64):Xd P x k c=Xd Q x k c:=by
 have hq:sqI x=0+x.toNat*2:=rfl
 unfold Xd
 rw [h (sqI x) (by omega),h (sqI x+1) (by omega)]
theorem Ju {P Q:Nat->Int} (h:∀ i,i < 133->P i=Q i) {s a b:Int} (ha:0<=a/\a < 64) (hb:0<=b/\b < 64):VI P s a b=VI Q s a b:=by
 have hq:sqI a=0+a.toNat*2:=rfl
 have hq2:sqI b=0+b.toNat*2:=rfl
 unfold VI
 rw [h (sqI a) (by omega),h (sqI a+1) (by omega),h (sqI b) (by omega),h (sqI b+1) (by omega)]
theorem jg {P Q:Nat->Int} (h:∀ i,i < 133->P i=Q i):X2 P=X2 Q:=by
 unfold X2
 rw [h 129 (by omega),Ju h (by omega) (by omega),Ju h (by omega) (by omega),Ju h (by omega) (by omega),Ju h (by omega) (by omega)]
theorem uw {P Q:Nat->Int} (h:∀ i,i < 133->P i=Q i):WA P=WA Q:=by
 unfold WA
 rw [h 130 (by omega),h 131 (by omega),h 128 (by omega)]
 by_cases hx:(0<=Q 130/\Q 130 < 64)/\(Q 130 / 8=2\/Q 130 / 8=5)
 ·rw [QL h (x:=Q 130) (by omega),QL h (x:=Q 130 - 8) (by omega),QL h (x:=Q 130+8) (by omega),QL h (x:=Q 130+8) (by omega),QL h (x:=Q 130 - 8) (by omega)]
 rw [Zce,Zb7,Zb7]
 constructor
 ·rintro (e | ⟨e,_,⟨_,f,_⟩ | ⟨_,f,_⟩⟩)
  ·exact .inl e
  ·exact absurd ⟨e,.inl f⟩ hx
  exact absurd ⟨e,.inr f⟩ hx
 rintro (e | ⟨e,_,⟨_,f,_⟩ | ⟨_,f,_⟩⟩)
 ·exact .inl e
 ·exact absurd ⟨e,.inl f⟩ hx
 exact absurd ⟨e,.inr f⟩ hx
theorem Ez (P:Nat->Int):∀ i,i < 133->ovA (fun _=>0) 0 133 (ovA (fun _=>0) 0 133 P) i=P i:=fun i hi=>by
 rw [X3 (by omega),Nat.sub_zero,X3 (by omega),Nat.sub_zero]
theorem QY {P:Nat->Int} {a b c r:Bool} (ha:a=Vg P) (hb:a=true->b=X2 P) (hc:a=true->b=true->c=WA P) (hr:r=(a&&b&&c&&decide (0<=P 131/\P 131<=1024/\1<=P 132/\P 132<=16384))):r=QJ P:=by
 subst hr ha
 unfold QJ
 cases hp:Vg P with
 | false=>simp
 | true =>
  have hb:=hb hp
  subst hb
  cases hq:X2 P with
  | false=>simp
  | true =>
   have hc:=hc hp hq
   subst hc
   simp
theorem oq (P:Nat->Int):WR AM 98 [.agg 133 (ia P)] [] (fun v _ _=>v=.s (.bool (QJ P))):=by
 refine YL (a:=a98) rfl rfl (YI _) (ZQ rfl) (m:=0) rfl (Ze (YC rfl (Yq rfl (Zf (Yo rfl rfl ZM (YB rfl (.agg rfl .nil) (Yy (Yz rfl rfl rfl rfl .here (Zf (Yo rfl rfl ZM ?_))))))))))
 obtain ⟨bp,hbp⟩:∃ b,b=Vg P:=⟨_,rfl⟩
 have hP:=YP (pU (ovA (fun _=>0) 0 133 (ovA (fun _=>0) 0 133 P)))
 rw [jY (Ez P),<- hbp] at hP
 refine Yt rfl (hP) rfl rfl rfl (Zk rfl (Ys (t:=8) rfl (fun h51=>?_) (fun h51=>?_)))
 ·refine Yb rfl (Yo rfl rfl ZM (Yb rfl ?_))
  obtain ⟨bc,hbc⟩:∃ b,b=X2 P:=⟨_,rfl⟩
  have hC:=YP (re (ovA (fun _=>0) 0 133 (ovA (fun _=>0) 0 133 P)))
  rw [jg (Ez P),<- hbc] at hC
  refine Yt rfl (hC) rfl rfl rfl (Zq rfl (Zk rfl (Ys (t:=12) rfl (fun h52=>?_) (fun h52=>?_))))
  ·refine Yb rfl (Yo rfl rfl ZM (Yb rfl ?_))
   have hbt:bp=true:=by assumption
   have hs:=(qh (P:=P) (by rw [<- hbp]; exact hbt)).2.2.2
   obtain ⟨bo,hbo⟩:∃ b,b=WA P:=⟨_,rfl⟩
   have hO:=YP (over_ok (ovA (fun _=>0) 0 133 (ovA (fun _=>0) 0 133 P)) hs)
   rw [uw (Ez P),<- hbo] at hO
   refine Yt rfl (hO) rfl rfl rfl (Zq rfl (Zk rfl (Ys (t:=16) rfl (fun h53=>?_) (fun h53=>?_))))
   ·refine Yb rfl (Yd (o':=131) rfl rfl rfl (Yb rfl (Ym (x:=P 131) rfl rfl ZN (rfl) (Yb rfl (Zr rfl (Zq rfl (Zk rfl (Ys (t:=21) rfl (fun h54=>?_) (fun h54=>?_))))))))) <;> simp only [NM] at h54
    ·refine Yb rfl (Yd (o':=131) rfl rfl rfl (Yb rfl (Ym (x:=P 131) rfl rfl ZN (rfl) (Yb rfl (Zr rfl (Zq rfl (Zk rfl (Ys (t:=26) rfl (fun h55=>?_) (fun h55=>?_))))))))) <;> simp only [NM] at h55
     ·refine Yb rfl (Yd (o':=132) rfl rfl rfl (Yb rfl (Ym (x:=P 132) rfl rfl ZN (rfl) (Yb rfl (Zr rfl (Zq rfl (Zk rfl (Ys (t:=31) rfl (fun h56=>?_) (fun h56=>?_))))))))) <;> simp only [NM] at h56
      ·refine Yb rfl (Yd (o':=132) rfl rfl rfl (Yb rfl (Ym (x:=P 132) rfl rfl ZN (rfl) (Yb rfl (Zr rfl (Zq rfl (Zk rfl (Zg rfl (congrArg (fun b=>V.s (S.bool b)) (QY (b:=bc) (c:=bo) hbp (fun _=>hbc) (fun _ _=>hbo) ?_))))))))))
       clear hbp hbc hbo hP hC hO
       (simp [*]; done)
      refine ZD rfl (ZC rfl (Zq rfl (Zk rfl (Zg rfl (congrArg (fun b=>V.s (S.bool b)) (QY (b:=bc) (c:=bo) hbp (fun _=>hbc) (fun _ _=>hbo) ?_))))))
      clear hbp hbc hbo hP hC hO
      (subst_vars; simp only [Bool.true_and]; rw [Zce]; simp only [Zb7,Zb1,Zcv,Zcx]; omega)
     refine ZD rfl (ZC rfl (Zq rfl (Zk rfl (ZD rfl (ZC rfl (Zq rfl (Zk rfl (Zg rfl (congrArg (fun b=>V.s (S.bool b)) (QY (b:=bc) (c:=bo) hbp (fun _=>hbc) (fun _ _=>hbo) ?_))))))))))
     clear hbp hbc hbo hP hC hO
     (subst_vars; simp only [Bool.true_and]; rw [Zce]; simp only [Zb7,Zb1,Zcv,Zcx]; omega)
    refine ZD rfl (ZC rfl (Zq rfl (Zk rfl (ZD rfl (ZC rfl (Zq rfl (Zk rfl (ZD rfl (ZC rfl (Zq rfl (Zk rfl (Zg rfl (congrArg (fun b=>V.s (S.bool b)) (QY (b:=bc) (c:=bo) hbp (fun _=>hbc) (fun _ _=>hbo) ?_))))))))))))))
    clear hbp hbc hbo hP hC hO
    (subst_vars; simp only [Bool.true_and]; rw [Zce]; simp only [Zb7,Zb1,Zcv,Zcx]; omega)
   refine Ya rfl rfl (ZD rfl (Zq rfl (Zk rfl (ZD rfl (ZC rfl (Zq rfl (Zk rfl (ZD rfl (ZC rfl (Zq rfl (Zk rfl (ZD rfl (ZC rfl (Zq rfl (Zk rfl (Zg rfl (congrArg (fun b=>V.s (S.bool b)) (QY (b:=bc) (c:=bo) hbp (fun _=>hbc) (fun _ _=>hbo) ?_))))))))))))))))))
   clear hbp hbc hbo hP hC hO
   (simp [*]; done)
  refine Ya rfl rfl (ZC rfl (Zq rfl (Zk rfl (ZD rfl (ZC rfl (Zq rfl (Zk rfl (ZD rfl (ZC rfl (Zq rfl (Zk rfl (ZD rfl (ZC rfl (Zq rfl (Zk rfl (ZD rfl (ZC rfl (Zq rfl (Zk rfl (Zg rfl ?_))))))))))))))))))))
  exact congrArg (fun b=>V.s (S.bool b)) (QY (b:=bc) (c:=WA P) hbp (fun _=>hbc) (fun _ _=>rfl) (by clear hbp hbc hP hC; simp [*]))
 refine Ya rfl rfl (ZC rfl (Zq rfl (Zk rfl (ZD rfl (Zq rfl (Zk rfl (ZD rfl (ZC rfl (Zq rfl (Zk rfl (ZD rfl (ZC rfl (Zq rfl (Zk rfl (ZD rfl (ZC rfl (Zq rfl (Zk rfl (ZD rfl (ZC rfl (Zq rfl (Zk rfl (Zg rfl ?_)))))))))))))))))))))))
 exact congrArg (fun b=>V.s (S.bool b)) (QY (b:=X2 P) (c:=WA P) hbp (fun _=>rfl) (fun _ _=>rfl) (by clear hbp hP; simp [*]))
end Go.Proofs.YtlkighkfkdpncaaGreatDoor
namespace Go.Am
open Go
section
variable {A:AP} {N:Nat} {f:FE} {n:Nat} {L:HA} {K:KN} {Zp:V->KN} {l:List I} {d:Nat}
theorem Kz {len z:Nat} {x:O} {b o z':Nat} (hx:x.fv N f=.ptr b o z') (hz:Nat.ble (len*z) z'=true) (h0:0 < len) (k:WO A N l (upd f d (.sl b o len z (.ex len))) n L K Zp):WO A N (⟨some d,none,.p (.slA len z x none none)⟩::l) f n L K Zp :=
 Va (v:=.sl b o len z (.ex len)) (by
  simp only [YY,Y2,hx,tE,fvb,ZcA (YF hz)]
  rw [ZcA (by omega),ZcA (by omega)]
  simp) k
end
end Go.Am
namespace Go.Proofs.YtlkighkfkdpncaaGreatDoor
open Go Go.Am
def IsFst (S1:Nat->Bool) (n:Nat) (x:Int):Prop:=(x=-1/\∀ j:Nat,j < n->S1 j=false)\/(∃ i:Nat,i < n/\x=i/\S1 i=true/\∀ j:Nat,j < i->S1 j=false)
def lstM (S1:Nat->Bool):Nat->Nat × (Nat->Int)
 | 0=>(0,fun _=>0)
 | i+1=>if S1 i=true then ((lstM S1 i).1+1,fun j=>if j < (lstM S1 i).1 then (lstM S1 i).2 j else i) else lstM S1 i
def stB (P X:Nat->Int) (s:Nat):Bool:=Xd P s (X 0) (X 1)
abbrev kgX (s:Int):Nat->Int:=ov (ov (fun _=>0) 0 6) 1 s
def QZ (x:Int):List Int->Int
 | []=>-1
 | y::l=>if x=y then 0 else if QZ x l=-1 then -1 else QZ x l+1
theorem tp (x:Int):∀ l:List Int,-1<=QZ x l/\QZ x l < l.length
 | []=>⟨Int.le_refl _,by simp [QZ]⟩
 | y::l=>by
  have:=tp x l
  unfold QZ
  rw [Zcd]
  split
  ·omega
  split <;> omega
theorem uP {x:Int}:∀ {l:List Int},(∀ i:Nat,i < l.length->l.getD i 0≠x)->QZ x l=-1
 | [],_=>rfl
 | y::l,h=>by
  unfold QZ
  have h0:=h 0 (by simp)
  have ih:=uP (x:=x) (l:=l) fun i hi=>by have:=h (i+1) (by simpa using hi); simpa using this
  rw [Zcz (fun e=>h0 (by simp [e])),ZcA ih]
theorem te {x:Int}:∀ {l:List Int} {i:Nat},i < l.length->l.getD i 0=x->(∀ j:Nat,j < i->l.getD j 0≠x)->QZ x l=i
 | [],i,h,_,_=>by simp at h
 | y::l,0,_,h,_=>by
  unfold QZ
  rw [ZcA (by simpa using h.symm)]; rfl
 | y::l,i+1,hi,h,hn=>by
  unfold QZ
  have h0:=hn 0 (by omega)
  have ih:=te (x:=x) (l:=l) (i:=i) (by simpa using hi) (by simpa using h) fun j hj=>by have:=hn (j+1) (by omega); simpa using this
  rw [Zcz (fun e=>h0 (by simp [e])),Zcz (by omega),ih]; omega
theorem kn {x:Int}:∀ {l:List Int},0<=QZ x l↔x∈l
 | []=>by simp [QZ]
 | y::l=>by
  have ih:=kn (x:=x) (l:=l)
  have:=tp x l
  unfold QZ
  rw [Zco]
  by_cases e:x=y
  ·rw [ZcA e]; simp [e]
  rw [Zcz e]
  simp only [e,false_or]
  rw [<- ih]
  split <;> omega
theorem ld1 {F:Nat->Int} {l:List Int} (hF:∀ i,i < l.length->F i=l.getD i 0) {i:Nat} (hi:i < l.length):F (0+(i:Int).toNat*1)=l.getD i 0:=by
 rw [show 0+(i:Int).toNat*1=i by omega]; exact hF i hi
theorem Te {l:List Int}:l.length=l.length*1:=(Nat.mul_one _).symm
theorem pL (x:Int) (l:List Int) (hlen:l.length<=1000000):RdR AM 136 1 [] [.s (.int .i64 x)] l (.s (.int .i64 (QZ x l))):=by
 refine WV fun v Bs hc=>?_
 refine YL (a:=a136) rfl rfl (YI _) (ZQ rfl) rfl ?_ (by first | rfl | (cases hc <;> rfl))
 have hr0:=hc.rx
 rw [show YZ 0 Bs=YZ 0 Bs++[] from (Zcf _).symm]
 generalize hown:YZ 0 Bs=own0 at hr0 ⊢
 refine Ze (Yq rfl (Yc (Ye (Ze (Yq (v:=v) rfl (Xk rfl hr0 (by decide) Te (Yq rfl (Yc (Yk (Xo (ZbY (.refl _) .slnil) (Xu (fun m f _ L=>∃ (i:Nat),(i<=l.length)/\(m=l.length - i)/\(∀ j:Nat,j < i->l.getD j 0≠x)/\(f 0=v)/\(f 1=.s (.int .i64 x))/\(f 7=.s (.int .i64 l.length))/\(f 8=.s (.int .i64 i))/\(L=(own0++[]))) (fun m f nb L hI=>?_) (l.length) (⟨0,by omega,by omega,fun j hj=>by omega,rfl,rfl,rfl,rfl,rfl⟩))))))))))))
 obtain ⟨i,hi,hm,hn,k0,k1,k7,k8,rfl⟩:=hI
 refine Za 0 k0 (Za 1 k1 (Za 7 k7 (Za 8 k8 (Ze (Zr rfl (Yc (Ye (Yj rfl (fun h1=>?_) (fun h1=>?_))))))))) <;> simp only [NM] at h1
 ·refine Yh (Ye (Yk (Ze (Zj rfl (Zj rfl (Zf (Zj rfl (Yq (v:=v) rfl (Zj rfl ?_)))))))))
  obtain ⟨b0,q0,md0,c0,F0,rfl,rfl,hF0⟩:=hr0.at (by decide) Te (by omega)
  refine Zx rfl rfl (Ym (x:=l.getD i 0) rfl rfl ZM (ld1 hF0 (by omega)) (Zr rfl (Yc (Yj rfl (fun h2=>?_) (fun h2=>?_))))) <;> simp only [NM] at h2
  ·refine Ze (Zj rfl (Zj rfl (Yc (Yi (⟨_,ZL rfl,?_⟩)))))
   refine ⟨ZJ ?_,(fun _ h=>h)⟩
   exact (te (by omega) (by omega) hn).symm
  refine Yh (Yf (Zs rfl rfl (Zj rfl (Yc (⟨l.length - (i+1),_,by omega,(.refl _),i+1,by omega,rfl,?_,rfl,rfl,rfl,rfl,rfl⟩)))))
  intro j hj
  by_cases e:j=i
  ·subst e; exact fun e=>by omega
  exact hn j (by omega)
 refine Y0 (Xb (Ze (Yq rfl (Yc (Yi (⟨_,ZL rfl,?_⟩))))))
 refine ⟨ZJ ?_,(fun _ h=>h)⟩
 exact (uP fun j hj=>hn j (by omega)).symm
theorem kJ (x:Int) (l:List Int) (hlen:l.length<=1000000):RdR AM 114 1 [] [.s (.int .i64 x)] l (.s (.bool (decide (x∈l)))):=by
 refine WV fun v Bs hc=>?_
 refine YL (a:=a114) rfl rfl (YI _) (ZQ rfl) rfl ?_ (by first | rfl | (cases hc <;> rfl))
 have hr0:=hc.rx
 rw [show YZ 0 Bs=YZ 0 Bs++[] from (Zcf _).symm]
 generalize hown:YZ 0 Bs=own0 at hr0 ⊢
 refine Ze (Yq rfl (Zf (Yq (v:=v) rfl (Zj rfl (XX (caps:=[]) rfl (pL x l hlen) rfl (hr0) (fun _ h=>(ZbV _ h)) rfl rfl rfl (Zr rfl (Zk rfl (Zg rfl (⟨ZI ?_,(fun _ h=>h)⟩)))))))))
 exact decide_eq_decide.2 kn
theorem muM_pos {s f r:Int} (h:0<=s/\s < 64):1<=muM s f r:=by
 unfold muM
 rw [Zcz (by omega)]
 split
 ·omega
 split
 ·omega
 split <;> omega
theorem jQ {p r t:Int} {k:Nat} (hz:¬ (p=0/\r=0)) (ht:t≠-1) (hb:-1<=t/\t < 64) (hk:muM t p r<=k+1):∃ k',Vb p r k t=(if YT t p r=-1 then [] else YT t p r::Vb p r k' (YT t p r))/\muM (YT t p r) p r<=k'+1:=by
 have hs:=yT hz ht hb
 match k with
 | 0 =>
  have hb':=V9 t p r
  have:YT t p r=-1:=by
   by_cases e:YT t p r=-1
   ·exact e
   have:=muM_pos (f:=p) (r:=r) (s:=YT t p r) (by omega); omega
  exact ⟨0,by rw [ZcA this]; rfl,by omega⟩
 | k+1=>exact ⟨k,rfl,by omega⟩
theorem Rb (f r:Int):∀ (k:Nat) (s:Int),(Vb f r k s).length<=k
 | 0,_=>Zcs _
 | k+1,s=>by
  unfold Vb
  split
  ·simp
  have:=Rb f r k (YT s f r); rw [Zcd]; omega
theorem gw {a b:List Int} {n:Nat} (h:(a++b).length<=n):a.length<=n:=by rw [Zb2] at h; omega
theorem ray_rt (s p r:Int) (hz:¬ (p=0/\r=0)):RtR AM 168 1 [.s (.int .i64 s),.s (.int .i64 p),.s (.int .i64 r)] [] (Vb p r 8 s) []:=by
 refine Qq (YL (a:=a168) rfl rfl (YI _) (ZQ rfl) (m:=0) rfl (Ze (Yq rfl (Yc (Ye (Ze (Zj rfl (Zr rfl (Zk rfl (Ys (t:=9) rfl (fun h1=>?_) (fun h1=>?_))))))))))) <;> simp only [NM] at h1
 ·refine Yb rfl (Zj rfl (Yb rfl (Zr rfl (Zq rfl (Yc (Yj rfl (fun h2=>?_) (fun h2=>?_))))))) <;> simp only [NM] at h2
  ·refine Ze (Yq rfl (Yc (Yi (⟨_,YH (v:=.snil) rfl (YW),?_⟩))))
   exfalso; omega
  refine Yh (Ye (Ze (Zj rfl (Zj rfl (Zj rfl (Yt rfl (UC _ _ _) rfl rfl rfl (Zj rfl (Yc (Yk (Xo .slnil (Xu (fun m f _ L=>∃ (t:Int) (acc:List Int) (k:Nat) (vO:V) (ownO:HA),(Vb p r 8 s=acc++(if t=-1 then [] else t::Vb p r k t))/\(muM t p r<=k+1)/\(m=muM t p r)/\(-1<=t/\t < 64)/\(Rw 1 (acc) vO ownO)/\(f 0=.s (.int .i64 t))/\(f 1=.s (.int .i64 p))/\(f 2=.s (.int .i64 r))/\(f 6=vO)/\(L=(ownO++[]))) (fun m f nb L hI=>?_) (muM (YT s p r) p r) (⟨YT s p r,[],7,.snil,[],rfl,oo (V9 s p r).2,rfl,V9 s p r,.nil rfl,rfl,rfl,rfl,rfl,rfl⟩))))))))))))
  obtain ⟨t,acc,k,vO,ownO,hacc,hk,hm,hb,hrO,k0,k1,k2,k6,rfl⟩:=hI
  refine Za 0 k0 (Za 1 k1 (Za 2 k2 (Za 6 k6 (Ye (Ze (Zj rfl (Zr rfl (Yc (Yj rfl (fun h3=>?_) (fun h3=>?_)))))))))) <;> simp only [NM] at h3
  ·refine Yh (Ye (Yk (Yf (Yq (v:=vO) rfl (Zj rfl (XA rfl (.one rfl .nil) (XZ (c:=[t]) rfl hrO rfl ZM (.there .here) (by decide) (by decide) rfl (Jn) (by have:=gw (b:=if t=-1 then [] else t::Vb p r k t) (by rw [<- hacc]; exact Rb p r 8 s); omega) (fun v1 own1 n1 hr1=>Yq (v:=v1) rfl (Yc (Yf (Zj rfl (Zj rfl (Zj rfl (Yt rfl (UC _ _ _) rfl rfl rfl (Zj rfl (Yc ?_))))))))))))))))
   have ht:t≠-1:=by omega
   obtain ⟨k2,hk1,hk2⟩:=jQ hz ht hb hk
   refine ⟨muM (YT t p r) p r,_,by rw [hm]; exact yT hz ht hb,(ZbY (.refl _) (.cons _ .slnil)),YT t p r,acc++[t],k2,_,_,?_,hk2,rfl,V9 t p r,hr1,rfl,rfl,rfl,rfl,rfl⟩
   rw [hacc,Zcz ht,hk1,Zb5]; rfl
  refine Y0 (Xb (Ze (Yq (v:=vO) rfl (Yq (v:=vO) rfl (Yc (Yi (⟨_,YH (v:=vO) rfl (YW),?_⟩)))))))
  have ht:t=-1:=by omega
  rw [ZcA ht,Zcf] at hacc
  exact ⟨_,hacc ▸ hrO,(fun _ h=>(ZbV _ h))⟩
 refine ZD rfl (Zq rfl (Yc (ZB rfl (Yh (Ye (Ze (Zj rfl (Zj rfl (Zj rfl (Yt rfl (UC _ _ _) rfl rfl rfl (Zj rfl (Yc (Yk (Xo .slnil (Xu (fun m f _ L=>∃ (t:Int) (acc:List Int) (k:Nat) (vO:V) (ownO:HA),(Vb p r 8 s=acc++(if t=-1 then [] else t::Vb p r k t))/\(muM t p r<=k+1)/\(m=muM t p r)/\(-1<=t/\t < 64)/\(Rw 1 (acc) vO ownO)/\(f 0=.s (.int .i64 t))/\(f 1=.s (.int .i64 p))/\(f 2=.s (.int .i64 r))/\(f 6=vO)/\(L=(ownO++[]))) (fun m f nb L hI=>?_) (muM (YT s p r) p r) (⟨YT s p r,[],7,.snil,[],rfl,oo (V9 s p r).2,rfl,V9 s p r,.nil rfl,rfl,rfl,rfl,rfl,rfl⟩))))))))))))))))
 obtain ⟨t,acc,k,vO,ownO,hacc,hk,hm,hb,hrO,k0,k1,k2,k6,rfl⟩:=hI
 refine Za 0 k0 (Za 1 k1 (Za 2 k2 (Za 6 k6 (Ye (Ze (Zj rfl (Zr rfl (Yc (Yj rfl (fun h4=>?_) (fun h4=>?_)))))))))) <;> simp only [NM] at h4
 ·refine Yh (Ye (Yk (Yf (Yq (v:=vO) rfl (Zj rfl (XA rfl (.one rfl .nil) (XZ (c:=[t]) rfl hrO rfl ZM (.there .here) (by decide) (by decide) rfl (Jn) (by have:=gw (b:=if t=-1 then [] else t::Vb p r k t) (by rw [<- hacc]; exact Rb p r 8 s); omega) (fun v2 own2 n2 hr2=>Yq (v:=v2) rfl (Yc (Yf (Zj rfl (Zj rfl (Zj rfl (Yt rfl (UC _ _ _) rfl rfl rfl (Zj rfl (Yc ?_))))))))))))))))
  have ht:t≠-1:=by omega
  obtain ⟨k2,hk1,hk2⟩:=jQ hz ht hb hk
  refine ⟨muM (YT t p r) p r,_,by rw [hm]; exact yT hz ht hb,(ZbY (.refl _) (.cons _ .slnil)),YT t p r,acc++[t],k2,_,_,?_,hk2,rfl,V9 t p r,hr2,rfl,rfl,rfl,rfl,rfl⟩
  rw [hacc,Zcz ht,hk1,Zb5]; rfl
 refine Y0 (Xb (Ze (Yq (v:=vO) rfl (Yq (v:=vO) rfl (Yc (Yi (⟨_,YH (v:=vO) rfl (YW),?_⟩)))))))
 have ht:t=-1:=by omega
 rw [ZcA ht,Zcf] at hacc
 exact ⟨_,hacc ▸ hrO,(fun _ h=>(ZbV _ h))⟩
theorem qG (i:Nat):Wq (i+1)=Wq i++[(i:Int)]:=by
 unfold Wq
 rw [List.range_succ,List.map_append]; rfl
theorem vK (p:Int->Bool) (i:Nat):((Wq i).filter p).length<=i:=by
 refine Zcq (ZbU _ _) ?_
 unfold Wq
 rw [List.length_map,List.length_range]; exact Zcs _
theorem ZaS {p:Int->Bool} {i:Nat} (h:p i=true):(Wq (i+1)).filter p=(Wq i).filter p++[(i:Int)]:=by
 rw [qG,List.filter_append]; simp [h]
theorem filt_no {p:Int->Bool} {i:Nat} (h:p i=false):(Wq (i+1)).filter p=(Wq i).filter p:=by
 rw [qG,List.filter_append]; simp [h]
def isX (P X:Nat->Int) (s:Int):Bool:=decide (P (sqI s)=X 0/\P (sqI s+1)=X 1)
def jz (P X:Nat->Int):List Int:=(Wq 64).filter (isX P X)
theorem pT {P X Q:Nat->Int} {s:Nat} (hQ:∀ j,j < 2->Q j=P (sqI s+j)):eqI 2 X Q=isX P X s:=by
 unfold isX
 rw [Zce,Qo,Zb7]
 constructor
 ·intro h
  have h0:=h 0 (by omega); have h1:=h 1 (by omega)
  rw [hQ 0 (by omega)] at h0; rw [hQ 1 (by omega)] at h1
  exact ⟨h0.symm,h1.symm⟩
 rintro ⟨h0,h1⟩ i hi
 rw [hQ i hi]
 match i,hi with
 | 0,_=>exact h0.symm
 | 1,_=>exact h1.symm
theorem uS (P X:Nat->Int):RtR AM 55 1 [.agg 133 (ia P),.agg 2 (ia X)] [] (jz P X) []:=by
 refine Qq (YL (a:=a55) rfl rfl (YI _) (ZQ rfl) (m:=0) rfl (Ze (YC rfl (YC rfl (Yq rfl (Yc (Ye (Ze (Zy rfl (Yo rfl rfl ZN (Yq rfl (Yc (Yk (Xo (.cons_cons _ (.cons _ .slnil)) (Xu (fun m f _ L=>∃ (i:Nat) (vO:V) (ownO:HA),(i<=64)/\(m=64 - i)/\(Rw 1 ((Wq i).filter (isX P X)) vO ownO)/\(f 3=.ptr 1 0 2)/\(f 4=vO)/\(f 8=.agg 128 (ia P))/\(f 9=.s (.int .i64 i))/\(L=(ownO++[(1,.sc .var 2 (ia X))]))) (fun m f nb L hI=>?_) (64) (⟨0,.snil,[],by omega,rfl,.nil rfl,rfl,rfl,rfl,rfl,rfl⟩))))))))))))))))
 obtain ⟨i,vO,ownO,hi,hm,hrO,k3,k4,k8,k9,rfl⟩:=hI
 refine Za 3 k3 (Za 4 k4 (Za 8 k8 (Za 9 k9 (Ze (Zr rfl (Yc (Ye (Yj rfl (fun h5=>?_) (fun h5=>?_))))))))) <;> simp only [NM] at h5
 ·refine Yh (Ye (Yk (Ze (Zj rfl (y7 rfl rfl rfl (by omega) (Yy (Zj rfl (Yz rfl rfl rfl rfl .here (Zf (Yo rfl rfl (.tail _ (ZbM _ ZM)) (Yo rfl rfl ZM (Yw rfl rfl (Yc (Yj rfl (fun h6=>?_) (fun h6=>?_))))))))))))))) <;> simp only [NM] at h6
  ·refine Yf (Yq (v:=vO) rfl (Zj rfl (XA rfl (.one rfl .nil) (XZ (c:=[(i:Int)]) rfl hrO rfl ZM (.there (.there .here)) (by decide) (by decide) rfl (Jn) (by have:=vK (isX P X) i; omega) (fun v1 own1 n1 hr1=>Yq (v:=v1) rfl (Yc (Yf (Zs rfl rfl (Zj rfl (Yc ?_))))))))))
   have e0:∀ j,j < 2->ovA (fun _=>0) 0 2 (dp P ((i:Int).toNat*2)) j=P (sqI i+j):=fun j hj=>by rw [X3 (by omega)]; have hq:sqI (i:Int)=0+(i:Int).toNat*2:=rfl; exact congrArg P (by omega)
   refine ⟨64 - (i+1),_,by omega,(ZbY (.refl _) (.cons _ (.cons _ (.refl _)))),i+1,_,_,by omega,rfl,?_,rfl,rfl,rfl,rfl,rfl⟩
   exact (ZaS (p:=isX P X) (i:=i) (by rw [<- pT e0]; assumption)).symm ▸ hr1
  refine Yh (Yf (Zs rfl rfl (Zj rfl (Yc ?_))))
  have e0:∀ j,j < 2->ovA (fun _=>0) 0 2 (dp P ((i:Int).toNat*2)) j=P (sqI i+j):=fun j hj=>by rw [X3 (by omega)]; have hq:sqI (i:Int)=0+(i:Int).toNat*2:=rfl; exact congrArg P (by omega)
  refine ⟨64 - (i+1),_,by omega,(.cons _ (ZbY (.refl _) (.refl _))),i+1,_,_,by omega,rfl,?_,rfl,rfl,rfl,rfl,rfl⟩
  exact (filt_no (p:=isX P X) (i:=i) (by rw [<- pT e0]; assumption)).symm ▸ hrO
 refine Y0 (Xb (Ze (Yq (v:=vO) rfl (Yq (v:=vO) rfl (Yc (Yi (⟨_,YH (v:=vO) rfl (YW),?_⟩)))))))
 obtain rfl:i=64:=by omega
 exact ⟨_,hrO,(fun _ h=>(ZbV _ h))⟩
def Wf (l:List (Int × Int)):List Int:=l.flatMap fun w=>[w.1,w.2]
theorem Qf:∀ l:List (Int × Int),(Wf l).length=l.length*2
 | []=>rfl
 | w::l=>by
  have:=Qf l
  unfold Wf at *
  rw [Zb8,Zb2,this]
  simp only [Zcd,List.length_nil]
  omega
theorem yG:∀ {l:List (Int × Int)} {i:Nat},i < l.length->(Wf l).getD (i*2) 0=(l.getD i (0,0)).1/\(Wf l).getD (i*2+1) 0=(l.getD i (0,0)).2
 | [],i,h=>absurd (show i < 0 from h) (by omega)
 | w::l,0,_=>⟨rfl,rfl⟩
 | w::l,i+1,h=>by
  have:=yG (l:=l) (i:=i) (by simpa using h)
  have e:Wf (w::l)=w.1::w.2::Wf l:=rfl
  rw [e,show (i+1)*2=i*2+1+1 by omega,show i*2+1+1+1=i*2+1+1+1 from rfl]
  simpa using this
theorem way0 {F:Nat->Int} {l:List (Int × Int)} (hF:∀ i,i < (Wf l).length->F i=(Wf l).getD i 0) {i:Nat} (hi:i < l.length):F (0+(i:Int).toNat*2+0)=(l.getD i (0,0)).1:=by
 rw [show 0+(i:Int).toNat*2+0=i*2 by omega,hF _ (by rw [Qf]; omega),(yG hi).1]
theorem way1 {F:Nat->Int} {l:List (Int × Int)} (hF:∀ i,i < (Wf l).length->F i=(Wf l).getD i 0) {i:Nat} (hi:i < l.length):F (0+(i:Int).toNat*2+1)=(l.getD i (0,0)).2:=by
 rw [show 0+(i:Int).toNat*2+1=i*2+1 by omega,hF _ (by rw [Qf]; omega),(yG hi).2]
theorem VX {α:Type} {l:List α} {i:Nat} (d:α) (hi:i < l.length):l.take (i+1)=l.take i++[l.getD i d]:=by
 rw [List.take_succ_eq_append_getElem hi,ZbD,ZbH hi]; rfl
theorem rM {s:Int} {l:List (Int × Int)} {i:Nat} (hi:i < l.length) (h:YT s (l.getD i (0,0)).1 (l.getD i (0,0)).2≠-1):X7 s (l.take (i+1))=X7 s (l.take i)++[YT s (l.getD i (0,0)).1 (l.getD i (0,0)).2]:=by
 unfold X7
 rw [VX (0,0) hi,List.map_append,List.filter_append]
 generalize l.getD i (0,0)=w at h ⊢
 simp [h]
theorem Za7 {s:Int} {l:List (Int × Int)} {i:Nat} (hi:i < l.length) (h:YT s (l.getD i (0,0)).1 (l.getD i (0,0)).2=-1):X7 s (l.take (i+1))=X7 s (l.take i):=by
 unfold X7
 rw [VX (0,0) hi,List.map_append,List.filter_append]
 generalize l.getD i (0,0)=w at h ⊢
 simp [h]
theorem RW (s:Int) (l:List (Int × Int)):(X7 s l).length<=l.length:=by
 unfold X7
 exact Zcq (ZbU _ _) (by simp)
theorem ZaL (s:Int) (l:List (Int × Int)) (i:Nat):(X7 s (l.take i)).length<=l.length:=Zcq (RW _ _) (by rw [Zcb]; exact Nat.min_le_right _ _)
theorem wO (s:Int) (l:List (Int × Int)) (hlen:l.length<=1000000):wS AM 139 2 1 [.s (.int .i64 s)] [] (Wf l) (X7 s l):=by
 refine yk fun v Bs hc=>?_
 refine YL (a:=a139) rfl rfl (YI _) (ZQ rfl) rfl ?_ (by first | rfl | (cases hc <;> rfl))
 have hr0:=hc.rx
 rw [show YZ 0 Bs=YZ 0 Bs++[] from (Zcf _).symm]
 generalize hown:YZ 0 Bs=own0 at hr0 ⊢
 refine Ze (Yq rfl (Yc (Ye (Ze (Yq (v:=v) rfl (Xk rfl hr0 (by decide) (Qf l) (Yq rfl (Yc (Yk (Xo (ZbY (.refl _) .slnil) (Xu (fun m f _ L=>∃ (i:Nat) (vO:V) (ownO:HA),(i<=l.length)/\(m=l.length - i)/\(Rw 1 (X7 s (l.take i)) vO ownO)/\(f 0=.s (.int .i64 s))/\(f 4=vO)/\(f 8=v)/\(f 9=.s (.int .i64 l.length))/\(f 10=.s (.int .i64 i))/\(L=(ownO++(own0++[])))) (fun m f nb L hI=>?_) (l.length) (⟨0,.snil,[],by omega,rfl,.nil rfl,rfl,rfl,rfl,rfl,rfl,rfl⟩))))))))))))
 obtain ⟨i,vO,ownO,hi,hm,hrO,k0,k4,k8,k9,k10,rfl⟩:=hI
 refine Za 0 k0 (Za 4 k4 (Za 8 k8 (Za 9 k9 (Za 10 k10 (Ze (Zr rfl (Yc (Ye (Yj rfl (fun h7=>?_) (fun h7=>?_)))))))))) <;> simp only [NM] at h7
 ·refine Yh (Ye (Yk (Ze ?_)))
  obtain ⟨b0,q0,md0,c0,F0,rfl,rfl,hF0⟩:=hr0.at (by decide) (Qf l) (by omega)
  refine Zx rfl rfl (Yp rfl rfl (ZbM _ ZM) (Yy (Yz rfl rfl rfl rfl .here (Zf (Zj rfl (Zw rfl rfl rfl (Ym (x:=(l.getD i (0,0)).1) rfl rfl ZM (way0 hF0 (by omega)) (Zw rfl rfl rfl (Ym (x:=(l.getD i (0,0)).2) rfl rfl ZM (way1 hF0 (by omega)) (Yt rfl (UC _ _ _) rfl rfl rfl (Zj rfl (Zf (Zj rfl (Zr rfl (Yc (Yj rfl (fun h8=>?_) (fun h8=>?_))))))))))))))))) <;> simp only [NM] at h8
  ·refine Yf (Yq (v:=vO) rfl (Zj rfl (XA rfl (.one rfl .nil) (XZ (c:=[YT s (l.getD i (0,0)).1 (l.getD i (0,0)).2]) rfl hrO rfl ZM (.there (.there .here)) (by decide) (by decide) rfl (Jn) (by have:=ZaL s l i; omega) (fun v1 own1 n1 hr1=>Yq (v:=v1) rfl (Yc (Yf (Zs rfl rfl (Zj rfl (Yc (⟨l.length - (i+1),_,by omega,(ZbY (.refl _) (.cons _ (.cons _ (.refl _)))),i+1,_,_,by omega,rfl,?_,rfl,rfl,rfl,rfl,rfl,rfl⟩)))))))))))
   exact (rM (l:=l) (i:=i) (by omega) (by omega)).symm ▸ hr1
  refine Yh (Yf (Zs rfl rfl (Zj rfl (Yc (⟨l.length - (i+1),_,by omega,(.cons _ (ZbY (.refl _) (.refl _))),i+1,_,_,by omega,rfl,?_,rfl,rfl,rfl,rfl,rfl,rfl⟩)))))
  exact (Za7 (l:=l) (i:=i) (by omega) (by omega)).symm ▸ hrO
 refine Y0 (Xb (Ze (Yq (v:=vO) rfl (Yq (v:=vO) rfl (Yc (Yi (⟨_,YH (v:=vO) rfl (YW),?_⟩)))))))
 obtain rfl:i=l.length:=by omega
 rw [List.take_length] at hrO
 exact ⟨_,_,hrO,.here,(fun _ h=>h)⟩
theorem kr :WR AM 137 [] [] (fun v' _ _=>∃ P:Nat->Int,v'=.agg 8 (ia P)/\∀ i,i < 8->P i=(Wf straightL).getD i 0):=by
 refine YL (a:=a137) rfl rfl (YI _) (ZQ rfl) (m:=0) rfl (Ze (Yy (Zf (YB rfl (.one rfl (.one rfl .nil)) (YB rfl (.one rfl (.one rfl .nil)) (YB rfl (.one rfl (.one rfl .nil)) (YB rfl (.one rfl (.one rfl .nil)) (YB rfl (.agg rfl (.agg rfl (.agg rfl (.agg rfl .nil)))) (Yz rfl rfl rfl rfl .here (Yc (Yi (⟨_,XM rfl rfl ZM (YW),?_⟩))))))))))))
 refine ⟨_,rfl,?_⟩
 decide
theorem rN :WR AM 138 [] [] (fun v' _ _=>∃ P:Nat->Int,v'=.agg 8 (ia P)/\∀ i,i < 8->P i=(Wf slantL).getD i 0):=by
 refine YL (a:=a138) rfl rfl (YI _) (ZQ rfl) (m:=0) rfl (Ze (Yy (Zf (YB rfl (.one rfl (.one rfl .nil)) (YB rfl (.one rfl (.one rfl .nil)) (YB rfl (.one rfl (.one rfl .nil)) (YB rfl (.one rfl (.one rfl .nil)) (YB rfl (.agg rfl (.agg rfl (.agg rfl (.agg rfl .nil)))) (Yz rfl rfl rfl rfl .here (Yc (Yi (⟨_,XM rfl rfl ZM (YW),?_⟩))))))))))))
 refine ⟨_,rfl,?_⟩
 decide
theorem gu :WR AM 140 [] [] (fun v' _ _=>∃ P:Nat->Int,v'=.agg 16 (ia P)/\∀ i,i < 16->P i=(Wf jumpL).getD i 0):=by
 refine YL (a:=a140) rfl rfl (YI _) (ZQ rfl) (m:=0) rfl (Ze (Yy (Zf (YB rfl (.one rfl (.one rfl .nil)) (YB rfl (.one rfl (.one rfl .nil)) (YB rfl (.one rfl (.one rfl .nil)) (YB rfl (.one rfl (.one rfl .nil)) (YB rfl (.one rfl (.one rfl .nil)) (YB rfl (.one rfl (.one rfl .nil)) (YB rfl (.one rfl (.one rfl .nil)) (YB rfl (.one rfl (.one rfl .nil)) (YB rfl (.agg rfl (.agg rfl (.agg rfl (.agg rfl (.agg rfl (.agg rfl (.agg rfl (.agg rfl .nil)))))))) (Yz rfl rfl rfl rfl .here (Yc (Yi (⟨_,XM rfl rfl ZM (YW),?_⟩))))))))))))))))
 refine ⟨_,rfl,?_⟩
 decide
theorem qK {P:Nat->Int}:∀ {r:List Int} {j:Nat},(∀ u,u < j->Xf P (r.getD u 0)=true)->j < r.length->Xf P (r.getD j 0)=false->VU P r=r.take (j+1)
 | [],j,_,h,_=>absurd (show j < 0 from h) (by omega)
 | t::r,0,_,_,h=>by
  have h:Xf P t=false:=h
  unfold VU
  rw [Zcz (by rw [h]; decide)]; simp
 | t::r,j+1,hu,hj,h=>by
  have h0:Xf P t=true:=hu 0 (by omega)
  have ih:=qK (P:=P) (r:=r) (j:=j) (fun u h=>by have:=hu (u+1) (by omega); simpa using this) (by simpa using hj) (by simpa using h)
  unfold VU
  rw [ZcA h0,ih]; rfl
theorem jW {P:Nat->Int}:∀ {r:List Int} {j:Nat},(∀ u,u < j->Xf P (r.getD u 0)=true)->j=r.length->VU P r=r.take j
 | [],j,_,h=>by simp [VU]
 | t::r,0,_,h=>by simp at h
 | t::r,j+1,hu,h=>by
  have h0:Xf P t=true:=hu 0 (by omega)
  have ih:=jW (P:=P) (r:=r) (j:=j) (fun u h=>by have:=hu (u+1) (by omega); simpa using this) (by simpa using h)
  unfold VU
  rw [ZcA h0,ih]; rfl
theorem xu {P:Nat->Int} {s:Int} {l:List (Int × Int)} {i:Nat} (hi:i < l.length):X8 P s (l.take (i+1))=X8 P s (l.take i)++VU P (Vb (l.getD i (0,0)).1 (l.getD i (0,0)).2 8 s):=by
 unfold X8
 rw [VX (0,0) hi,List.flatMap_append]
 simp
theorem DH (P:Nat->Int) (s:Int):∀ l:List (Int × Int),(X8 P s l).length<=l.length*8
 | []=>Zct _
 | w::l=>by
  have h1:=DH P s l
  have h2:=(T6 P (Vb w.1 w.2 8 s)).length_le
  have h3:=Rb w.1 w.2 8 s
  unfold X8 at *
  rw [Zb8,Zb2,Zcd]
  omega
theorem ZaF (P:Nat->Int) (s:Int) (l:List (Int × Int)) (i:Nat):(X8 P s (l.take i)).length<=l.length*8:=Zcq (DH P s _) (ZbW 8 (by rw [Zcb]; exact Nat.min_le_right _ _))
theorem ray_in {p q s:Int} {r:List Int} {j:Nat} (h:r=Vb p q 8 s) (hj:j < r.length):0<=r.getD j 0/\r.getD j 0 < 64:=by
 refine xN (f:=p) (r:=q) (k:=8) (s:=s) ?_
 rw [<- h,ZbD,ZbH hj]
 exact List.getElem_mem hj
theorem hu_next {P:Nat->Int} {r:List Int} {j:Nat} (hu:∀ u,u < j->Xf P (r.getD u 0)=true) (h:Xf P (r.getD j 0)=true):∀ u,u < j+1->Xf P (r.getD u 0)=true:=fun u hu'=>by
 by_cases e:u=j
 ·subst e; exact h
 exact hu u (by omega)
theorem vq {r:List Int} {j:Nat} (a:List Int) (hj:j < r.length):a++r.take j++[r.getD j 0]=a++r.take (j+1):=by
 rw [VX 0 hj,Zb5]
theorem yD (P:Nat->Int) (s:Int) (l:List (Int × Int)) (hlen:l.length<=1000) (hw:∀ i,i < l.length->¬ ((l.getD i (0,0)).1=0/\(l.getD i (0,0)).2=0)):wS AM 142 2 1 [.agg 133 (ia P),.s (.int .i64 s)] [] (Wf l) (X8 P s l):=by
 refine yk fun v Bs hc=>?_
 refine YL (a:=a142) rfl rfl (YI _) (ZQ rfl) rfl ?_ (by first | rfl | (cases hc <;> rfl))
 have hr0:=hc.rx
 rw [show YZ 0 Bs=YZ 0 Bs++[] from (Zcf _).symm]
 generalize hown:YZ 0 Bs=own0 at hr0 ⊢
 refine Ze (YC rfl (Yq rfl (Yc (Ye (Ze (Yq (v:=v) rfl (Xk rfl hr0 (by decide) (Qf l) (Yq rfl (Yc (Yk (Xo (.cons_cons _ (ZbY (.refl _) .slnil)) (Xu (fun m f _ L=>∃ (i:Nat) (vO:V) (ownO:HA),(i<=l.length)/\(m=l.length - i)/\(Rw 1 (X8 P s (l.take i)) vO ownO)/\(f 1=.s (.int .i64 s))/\(f 3=.ptr Bs.length 0 133)/\(f 6=vO)/\(f 11=v)/\(f 12=.s (.int .i64 l.length))/\(f 13=.s (.int .i64 i))/\(L=(ownO++(Bs.length,.sc .var 133 (ia P))::(own0++[])))) (fun m f nb L hI=>?_) (l.length) (⟨0,.snil,[],by omega,rfl,.nil rfl,rfl,rfl,rfl,rfl,rfl,rfl,rfl⟩)))))))))))))
 obtain ⟨i,vO,ownO,hi,hm,hrO,k1,k3,k6,k11,k12,k13,rfl⟩:=hI
 refine Za 1 k1 (Za 3 k3 (Za 6 k6 (Za 11 k11 (Za 12 k12 (Za 13 k13 (Ze (Zr rfl (Yc (Ye (Yj rfl (fun h1=>?_) (fun h1=>?_))))))))))) <;> simp only [NM] at h1
 ·refine Yh (Ye (Yk (Ze ?_)))
  obtain ⟨b0,q0,md0,c0,F0,rfl,rfl,hF0⟩:=hr0.at (by decide) (Qf l) (by omega)
  refine Zx rfl rfl (Yp rfl rfl (ZbM _ ZN) (Yy (Yz rfl rfl rfl rfl .here (Zf (Zj rfl (Zw rfl rfl rfl (Ym (x:=(l.getD i (0,0)).1) rfl rfl ZM (way0 hF0 (by omega)) (Zw rfl rfl rfl (Ym (x:=(l.getD i (0,0)).2) rfl rfl ZM (way1 hF0 (by omega)) ?_)))))))))
  obtain ⟨r,hreq⟩:∃ r,r=Vb (l.getD i (0,0)).1 (l.getD i (0,0)).2 8 s:=⟨_,rfl⟩
  have hray:=ray_rt s _ _ (hw i (by omega))
  rw [<- hreq] at hray
  have hrl:r.length<=8:=by rw [hreq]; exact Rb _ _ _ _
  refine YE rfl (hray) rfl rfl (fun v1 own1 n1 hr1=>Xk rfl hr1.rx (by decide) Te (Yq rfl (Yc (Yk (wQ (Dr.appR _ (.there .here)).all (Xo (ZbY (.refl _) (ZbY (.refl _) (.cons _ (.refl _)))) (Xu (fun m f _ L=>∃ (j:Nat) (vP:V) (ownP:HA),(j<=r.length)/\(m=r.length - j)/\(∀ u,u < j->Xf P (r.getD u 0)=true)/\(Rw 1 (X8 P s (l.take i)++r.take j) vP ownP)/\(f 1=.s (.int .i64 s))/\(f 3=.ptr Bs.length 0 133)/\(f 6=vP)/\(f 11=.sl b0 0 l.length 2 c0)/\(f 12=.s (.int .i64 l.length))/\(f 13=.s (.int .i64 i))/\(f 22=v1)/\(f 23=.s (.int .i64 r.length))/\(f 24=.s (.int .i64 j))/\(L=(ownP++(own1++[(Bs.length,.sc .var 133 (ia P)),(b0,.sc md0 q0 (ia F0))])))) (fun m f nb L hI=>?_) (r.length) (⟨0,vO,ownO,by omega,by omega,fun u h=>by omega,by rw [List.take_zero,Zcf]; exact hrO,rfl,rfl,rfl,rfl,rfl,rfl,rfl,rfl,rfl,rfl⟩))))))))
  obtain ⟨j,vP,ownP,hj,hm2,hu,hrP,k1,k3,k6,k11,k12,k13,k22,k23,k24,rfl⟩:=hI
  refine Za 1 k1 (Za 3 k3 (Za 6 k6 (Za 11 k11 (Za 12 k12 (Za 13 k13 (Za 22 k22 (Za 23 k23 (Za 24 k24 (Ze (Zr rfl (Yc (Ye (Yj rfl (fun h2=>?_) (fun h2=>?_)))))))))))))) <;> simp only [NM] at h2
  ·refine Yh (Ye (Yk (Ze ?_)))
   have hjb:=ray_in hreq (j:=j) (by omega)
   obtain ⟨b1,q1,md1,c1,F1,rfl,rfl,hF1⟩:=hr1.rx.at (by decide) Te (by omega)
   refine Zx rfl rfl (Ym (x:=r.getD j 0) rfl rfl (ZbM _ ZM) (ld1 hF1 (by omega)) (Zj rfl (Zf (Yq (v:=vP) rfl (Zj rfl (XA rfl (.one rfl .nil) (XZ (c:=[r.getD j 0]) rfl hrP rfl ZM (.there .here) (by decide) (by decide) rfl (Jn) (by have:=ZaF P s l i; rw [Zb2,Zcb]; omega) (fun v2 own2 n2 hr2=>Yq (v:=v2) rfl (Zf (Zj rfl (Zy rfl (Zy rfl (Zw rfl rfl rfl (Yp rfl rfl (ZbM _ ZO) (YB rfl .nil (Yw rfl rfl (Yc (Yj rfl (fun h3=>?_) (fun h3=>?_))))))))))))))))))) <;> simp only [NM] at h3
   ·refine Y0 (rP rfl (Xb (Yf (Zs rfl rfl (Zj rfl (Yc (⟨l.length - (i+1),_,by omega,(ZbY (.refl _) (.cons _ (.cons _ (.refl _)))),i+1,_,_,by omega,rfl,?_,rfl,rfl,rfl,rfl,rfl,rfl,rfl⟩)))))))
    rw [xu (l:=l) (i:=i) (by omega),<- hreq]
    (rw [qK hu (by omega) (by assumption),<- vq _ (by omega)]; exact hr2)
   refine Yh (Yf (Zs rfl rfl (Zj rfl (Yc (⟨r.length - (j+1),_,by omega,(ZbY (.refl _) (.cons _ (.refl _))),j+1,_,_,by omega,rfl,hu_next hu (by assumption),?_,rfl,rfl,rfl,rfl,rfl,rfl,rfl,rfl,rfl,rfl⟩)))))
   rw [<- vq _ (by omega)]; exact hr2
  refine Y0 (Xb (Yf (Zs rfl rfl (Zj rfl (Yc (⟨l.length - (i+1),_,by omega,(ZbY (.refl _) (ZbB (.refl _))),i+1,_,_,by omega,rfl,?_,rfl,rfl,rfl,rfl,rfl,rfl,rfl⟩))))))
  rw [xu (l:=l) (i:=i) (by omega),<- hreq]
  (rw [jW hu (by omega)]; exact hrP)
 refine Y0 (Xb (Ze (Yq (v:=vO) rfl (Yq (v:=vO) rfl (Yc (Yi (⟨_,YH (v:=vO) rfl (YW),?_⟩)))))))
 obtain rfl:i=l.length:=by omega
 rw [List.take_length] at hrO
 exact ⟨_,_,hrO,.here,(fun _ h=>(.tail _ h))⟩
end Go.Proofs.YtlkighkfkdpncaaGreatDoor
namespace Go.Am
open Go
def js (A:AP) (fid:FuncId) (z m:Nat) (md m1 m2:Md) (c c1 c2:Cp) (P Q:Nat->Int) (l:List Int):Prop :=
 ∃ b k q F σ1,Run A fid [.sl 0 0 2 1 c] [.vs md [.sl 1 0 m z c1,.sl 2 0 m z c2],.sc m1 (m*z) (ia P),.sc m2 (m*z) (ia Q)]=some (.sl b 0 k z .whole,σ1)/\3<=b/\l.length=k*z/\(∀ i,i < l.length->F i=l.getD i 0)/\σ1[b]? = some (.sc .grow q (ia F)) /\
  σ1[0]? = some (.vs md [.sl 1 0 m z c1,.sl 2 0 m z c2])/\σ1[1]? = some (.sc m1 (m*z) (ia P))/\σ1[2]? = some (.sc m2 (m*z) (ia Q))
theorem take3 {σ:Heap} {B C D:Blk} (h:σ[0]? = some B) (h2:σ[1]? = some C) (h3:σ[2]? = some D):σ.take 3=[B,C,D]:=by
 cases σ with
 | nil=>cases h
 | cons x l =>
  simp only [List.getElem?_cons_zero,Zb4] at h; subst h
  simp only [List.getElem?_cons_succ] at h2 h3
  rw [List.take_succ_cons,jx h2 h3]
section
variable {A:AP} {N:Nat} {f:FE} {n:Nat} {L:HA} {K:KN} {Zp:V->KN} {rest:List I} {d:Nat}
theorem ve {fid:FuncId} {q0:Bool} {z m b0 b1 b2:Nat} {md m1 m2:Md} {c c1 c2:Cp} {P Q:Nat->Int} {l:List Int} (hs:js A fid z m (XG q0 md) (XG q0 m1) (XG q0 m2) c c1 c2 P Q l)
  (h0:(b0,Blk.vs md [.sl b1 0 m z c1,.sl b2 0 m z c2])∈L) (h1:(b1,Blk.sc m1 (m*z) (ia P))∈L) (h2:(b2,Blk.sc m2 (m*z) (ia Q))∈L) (hne:b1≠b2) {σ:Heap} (h:Hp σ n L) :
  ∃ v B σ',Y5 (Run A) q0 (.fn fid []) [.sl b0 0 2 1 c] σ=some (v,σ')/\Rw z l v [(n,B)]/\Hp σ' (n+1) ((n,B)::L):=by
 obtain ⟨b,k,q,F,σ1,hrun,hb,hl,hF,e3,e0,e1,e2⟩:=hs
 have k0:=(h.2.mem h0).2
 have k1:=(h.2.mem h1).2
 have k2:=(h.2.mem h2).2
 have n01:b1≠b0:=fun e=>by subst e; rw [k0] at k1; cases k1
 have n02:b2≠b0:=fun e=>by subst e; rw [k0] at k2; cases k2
 have hre:YN σ 64 [b0] []=[b0,b1,b2]:=by
  have c1':([b0]:List Nat).contains b1=false:=by simp [n01]
  have c2':([b0,b1]:List Nat).contains b2=false:=by simp [n02,Ne.symm hne]
  show (bif ([]:List Nat).contains b0 then YN σ 63 [] [] else YN σ 63 ((σ.getD b0 .dead).refs++[]) ([]++[b0]))=_
  rw [X4 k0]
  show (bif ([b0]:List Nat).contains b1 then YN σ 62 [b2] [b0] else YN σ 62 ((σ.getD b1 .dead).refs++[b2]) ([b0]++[b1]))=_
  rw [c1',X4 k1]
  show (bif ([b0,b1]:List Nat).contains b2 then YN σ 61 [] [b0,b1] else YN σ 61 ((σ.getD b2 .dead).refs++[]) ([b0,b1]++[b2]))=_
  rw [c2',X4 k2]; rfl
 have p0:pos b0 [b0,b1,b2]=some 0:=by simp [pos]
 have p1:pos b1 [b0,b1,b2]=some 1:=by
  have:(b0 == b1)=false:=by simpa using Ne.symm n01
  simp [pos,this]
 have p2:pos b2 [b0,b1,b2]=some 2:=by
  have a1:(b0 == b2)=false:=by simpa using Ne.symm n02
  have a2:(b1 == b2)=false:=by simpa using hne
  simp [pos,a1,a2]
 have hen:Xq q0 [.sl b0 0 2 1 c] σ=some ([b0,b1,b2],[.sl 0 0 2 1 c],[.vs (XG q0 md) [.sl 1 0 m z c1,.sl 2 0 m z c2],.sc (XG q0 m1) (m*z) (ia P),.sc (XG q0 m2) (m*z) (ia Q)]):=by
  have hrefs:V.refsL [.sl b0 0 2 1 c]=[b0]:=by simp [V.refsL,V.refs]
  unfold Xq
  rw [hrefs,hre]
  simp only [V.renL,V.ren,p0,p1,p2,Option.map_some,Y6,k0,k1,k2,Option.bind_some,Blk.ren]
 have hns:Xi q0 3 (.sl b 0 k z .whole) σ1=[b]:=by
  unfold Xi
  have hd:σ1.getD b .dead=.sc .grow q (ia F):=X4 e3
  have hbr:YN σ1 64 ((V.sl b 0 k z .whole).refs++bif q0 then [] else (σ1.take 3).flatMap Blk.refs) []=bif q0 then [b] else [b,1,2]:=by
   cases q0 with
   | true =>
    show (bif ([]:List Nat).contains b then YN σ1 63 [] [] else YN σ1 63 ((σ1.getD b .dead).refs++[]) ([]++[b]))=_
    rw [hd]; rfl
   | false =>
    rw [cond_false,take3 e0 e1 e2]
    have x1:([b]:List Nat).contains 1=false:=by simp; omega
    have x2:([b,1]:List Nat).contains 2=false:=by simp; omega
    show (bif ([]:List Nat).contains b then YN σ1 63 [1,2] [] else YN σ1 63 ((σ1.getD b .dead).refs++[1,2]) ([]++[b]))=_
    rw [hd]
    show (bif ([b]:List Nat).contains 1 then YN σ1 62 [2] [b] else YN σ1 62 ((σ1.getD 1 .dead).refs++[2]) ([b]++[1]))=_
    rw [x1,X4 e1]
    show (bif ([b,1]:List Nat).contains 2 then YN σ1 61 [] [b,1] else YN σ1 61 ((σ1.getD 2 .dead).refs++[]) ([b,1]++[2]))=_
    rw [x2,X4 e2]; rfl
  rw [hbr]
  have hbb:Nat.ble 3 b=true:=ZbN hb
  cases q0 with
  | true=>simp [hbb]
  | false=>simp [hbb]
 have hlt:=QV e2
 have hble:Nat.ble 3 σ1.length=true:=ZbN (by omega)
 have hnd:nodup [b0,b1,b2]=true:=by simp [nodup,n01,n02,hne,Ne.symm n01,Ne.symm n02]
 have bb:Xa [b0,b1,b2] [b] σ.length 3 b=some n:=by
  have:Nat.blt b 3=false:=by
   cases hx:Nat.blt b 3 with
   | false=>rfl
   | true=>have:=YF hx; omega
  unfold Xa
  rw [this,h.1]
  simp [pos]
 have f0:Xa [b0,b1,b2] [b] σ.length 3 0=some b0:=rfl
 have f1:Xa [b0,b1,b2] [b] σ.length 3 1=some b1:=rfl
 have f2:Xa [b0,b1,b2] [b] σ.length 3 2=some b2:=rfl
 have hn1:nodup [b]=true:=rfl
 have hpk:Y6 false (Xa [b0,b1,b2] [b] σ.length 3) σ1 [b]=some [.sc .grow q (ia F)]:=by
  simp only [Y6,e3,Option.bind_some,Blk.ren,XG,cond_false]
 have hrn:(V.sl b 0 k z .whole).ren (Xa [b0,b1,b2] [b] σ.length 3)=some (.sl n 0 k z .whole):=by
  simp only [V.ren,bb,Option.map_some]
 have hlv:Xn q0 σ [b0,b1,b2] (.sl b 0 k z .whole) σ1=some (.sl n 0 k z .whole,σ++[.sc .grow q (ia F)]):=by
  unfold Xn
  simp only [Zcd,List.length_nil,Zcp,Nat.reduceAdd,hns,hnd,hble,hn1,Bool.and_self,cond_true,hrn,hpk]
  cases q0 with
  | true=>rfl
  | false =>
   have hset:((σ.set b0 (.vs md [.sl b1 0 m z c1,.sl b2 0 m z c2])).set b1 (.sc m1 (m*z) (ia P))).set b2 (.sc m2 (m*z) (ia Q))=σ:=by
    have s0:σ.set b0 (.vs md [.sl b1 0 m z c1,.sl b2 0 m z c2])=σ:=set_same k0
    have s1:σ.set b1 (.sc m1 (m*z) (ia P))=σ:=set_same k1
    have s2:σ.set b2 (.sc m2 (m*z) (ia Q))=σ:=set_same k2
    rw [s0,s1,s2]
   have hrg:List.range 3=[0,1,2]:=rfl
   simp only [XG,cond_false] at e0 e1 e2
   simp only [hrg,Y6,e0,e1,e2,Option.bind_some,Blk.ren,V.renL,V.ren,f0,f1,f2,Option.map_some,XG,cond_false,XD,hset]
 refine ⟨.sl n 0 k z .whole,.sc .grow q (ia F),σ++[.sc .grow q (ia F)],?_,.row hl hF,h.new _⟩
 simp only [Y5,target,Zcf,Option.bind_some,hen,hrun,hlv]
 where
 set_same {σ:Heap} {b:Nat} {B:Blk} (h:σ[b]? = some B):σ.set b B=σ:=by
  refine List.ext_getElem? fun i=>?_
  by_cases e:b=i
  ·subst e; rw [ZbL (QV h),h]
  rw [ZbX e]
theorem WO_cat {x y:O} {fid:FuncId} {z m b0 b1 b2:Nat} {md m1 m2:Md} {c c1 c2:Cp} {P Q:Nat->Int} {l:List Int} (hf:x.fv N f=.fn fid []) (hy:y.fv N f=.sl b0 0 2 1 c) (hs:js A fid z m md m1 m2 c c1 c2 P Q l)
  (h0:(b0,Blk.vs md [.sl b1 0 m z c1,.sl b2 0 m z c2])∈L) (h1:(b1,Blk.sc m1 (m*z) (ia P))∈L) (h2:(b2,Blk.sc m2 (m*z) (ia Q))∈L) (hne:b1≠b2) (k:∀ v own n',Rw z l v own->WO A N rest (upd f d v) n' (own++L) K Zp):WO A N (⟨some d,none,.h (.call x [y])⟩::rest) f n L K Zp:=fun σ h=>by
 obtain ⟨v,B,σ',e1,e2,e3⟩:=ve (q0:=false) hs h0 h1 h2 hne h
 obtain ⟨ex,f',σ2,n2,L2,e4,e5,e6⟩:=k v [(n,B)] (n+1) e2 σ' e3
 refine ⟨ex,f',σ2,n2,L2,?_,e5,e6⟩
 rw [<- e4]
 simp only [WF,XO,Xr,YK,Y2,hf,List.map_cons,List.map_nil,hy,e1,Option.map_some,R0]
 rfl
theorem WO_catq {x y:O} {fid:FuncId} {z m b0 b1 b2:Nat} {md m1 m2:Md} {c c1 c2:Cp} {P Q:Nat->Int} {l:List Int} (hf:x.fv N f=.fn fid []) (hy:y.fv N f=.sl b0 0 2 1 c) (hs:js A fid z m .ro .ro .ro c c1 c2 P Q l)
  (h0:(b0,Blk.vs md [.sl b1 0 m z c1,.sl b2 0 m z c2])∈L) (h1:(b1,Blk.sc m1 (m*z) (ia P))∈L) (h2:(b2,Blk.sc m2 (m*z) (ia Q))∈L) (hne:b1≠b2) (k:∀ v own n',Rw z l v own->WO A N rest (upd f d v) n' (own++L) K Zp):WO A N (⟨some d,none,.h (.callq x [y])⟩::rest) f n L K Zp:=fun σ h=>by
 obtain ⟨v,B,σ',e1,e2,e3⟩:=ve (q0:=true) hs h0 h1 h2 hne h
 obtain ⟨ex,f',σ2,n2,L2,e4,e5,e6⟩:=k v [(n,B)] (n+1) e2 σ' e3
 refine ⟨ex,f',σ2,n2,L2,?_,e5,e6⟩
 rw [<- e4]
 simp only [WF,XO,Xr,YK,Y2,hf,List.map_cons,List.map_nil,hy,e1,Option.map_some,R0]
 rfl
end
end Go.Am
namespace Go.Proofs.YtlkighkfkdpncaaGreatDoor
open Go Go.Am
theorem grow_rt (n:Int) (h:0 < n/\n<=1000000):RtR AM 167 2 [.snil,.s (.int .i64 n)] [] [] []:=by
 refine .inr ⟨0,0,fun _=>0,rfl,fun i h=>absurd (show i < 0 from h) (by omega),0,[.sc .grow 0 (ia fun _=>0)],?_,Zct _,rfl,trivial⟩
 rw [WI (pf:=Ty) rfl _ _ rfl]
 simp only [Ty,ZcA h]
 rfl
theorem Zaj {md m1 m2:Md} {c c1 c2:Cp} (P Q:Nat->Int) (la lb:List Int) (ha:la.length=8) (hb:lb.length=8) (hP:∀ i,i < la.length->P i=la.getD i 0) (hQ:∀ i,i < lb.length->Q i=lb.getD i 0):WR AM 141 [.sl 0 0 2 1 c] [.vs md [.sl 1 0 4 2 c1,.sl 2 0 4 2 c2],.sc m1 (4*2) (ia P),.sc m2 (4*2) (ia Q)] (fun v _ L'=>∃ own L0,Rw 2 (la++lb) v own/\Dr own L' L0/\(0,Blk.vs md [.sl 1 0 4 2 c1,.sl 2 0 4 2 c2])∈L0/\(1,Blk.sc m1 (4*2) (ia P))∈L0/\(2,Blk.sc m2 (4*2) (ia Q))∈L0):=by
 refine YL (a:=a141) rfl rfl (YI _) (ZQ rfl) (m:=3) rfl (Ze (Yq rfl (Zf (Yq rfl (Yc (Ye (Ze (Zn rfl (WX rfl (Yq rfl (Yc (Yk (YO (Ze (Yr (r:=.bool true) rfl rfl rfl (Yc (Ye (ZA rfl (Yh (Ye (Yk (Ze (Dq rfl rfl (by decide) (VV (v:=.sl 1 0 4 2 c1) rfl rfl ZM rfl (Zn rfl (Zf (Zj rfl (Zn rfl (WX rfl ?_)))))))))))))))))))))))))))))
 refine Ur rfl rfl (by decide) (Zj rfl (Zf (Zj rfl (Yr (r:=.bool false) rfl rfl rfl (Yc (ZB rfl (Yh (Yf (Ur rfl rfl (by decide) (Zj rfl (Yc (YO (Ze (Yr (r:=.bool true) rfl rfl rfl (Yc (Ye (ZA rfl (Yh (Ye (Yk (Ze (Dq rfl rfl (by decide) (VV (v:=.sl 2 0 4 2 c2) rfl rfl ZM rfl (Zn rfl (Zf (Zj rfl (Zn rfl (WX rfl (Ur rfl rfl (by decide) ?_)))))))))))))))))))))))))))))
 refine Zj rfl (Zf (Zj rfl (Yr (r:=.bool false) rfl rfl rfl (Yc (ZB rfl (Yh (Yf (Ur rfl rfl (by decide) (Zj rfl (Yc (YO (Ze (Yr (r:=.bool false) rfl rfl rfl (Yc (Ye (ZB rfl (Y0 (Xb (Ze (Zj rfl (YE rfl (grow_rt _ (by decide)) rfl rfl (fun v1 own1 n1 hr1=>Yq (v:=v1) rfl (Yc (Ye (Ze (Zn rfl (WX rfl (Yq rfl (Yc ?_)))))))))))))))))))))))))))))
 refine Yk (YO (Ze (Yr (r:=.bool true) rfl rfl rfl (Yc (Ye (ZA rfl (Yh (Ye (Yk (Ze (Dq rfl rfl (by decide) (VV (v:=.sl 1 0 4 2 c1) rfl rfl (ZbM _ ZM) rfl (Zn rfl (Yc (Yf (Yq (v:=v1) rfl (Zn rfl (yN rfl hr1 rfl (Rx.row (l:=la) (by rw [ha]) hP) (UY (ZbM _ ZN)) .here (by decide) (by simp only [Zb2,List.length_nil,ha,hb]; omega) (fun v2 own2 n2 hr2=>Yq (v:=v2) rfl (Yc (Yf (Ur rfl rfl (by decide) (Zj rfl (Yc (YO (Ze (Yr (r:=.bool true) rfl rfl rfl (Yc (Ye ?_)))))))))))))))))))))))))))))
 refine ZA rfl (Yh (Ye (Yk (Ze (Dq rfl rfl (by decide) (VV (v:=.sl 2 0 4 2 c2) rfl rfl (ZbM _ ZM) rfl (Zn rfl (Yc (Yf (Yq (v:=v2) rfl (Zn rfl (yN rfl hr2 rfl (Rx.row (l:=lb) (by rw [hb]) hQ) (UY (ZbM _ ZO)) .here (by decide) (by simp only [Zb2,List.length_nil,ha,hb]; omega) (fun v3 own3 n3 hr3=>Yq (v:=v3) rfl (Yc (Yf (Ur rfl rfl (by decide) (Zj rfl (Yc (YO (Ze (Yr (r:=.bool false) rfl rfl rfl (Yc (Ye (ZB rfl (Y0 (Xb (Ze (Yq (v:=v3) rfl (Yq (v:=v3) rfl ?_)))))))))))))))))))))))))))))
 refine Yc (Yi (⟨_,YH (v:=v3) rfl (YW),?_⟩))
 refine ⟨_,_,hr3,.here,?_,?_,?_⟩
 ·exact ZM
 ·exact ZN
 exact ZO
theorem pB {md m1 m2:Md} {c c1 c2:Cp} (P Q:Nat->Int) (la lb:List Int) (ha:la.length=8) (hb:lb.length=8) (hP:∀ i,i < la.length->P i=la.getD i 0) (hQ:∀ i,i < lb.length->Q i=lb.getD i 0):js AM 141 2 4 md m1 m2 c c1 c2 P Q (la++lb):=by
 obtain ⟨v,σ',n',L',h1,h2,own,L0,hr,hd,e0,e1,e2⟩:=Zaj (md:=md) (m1:=m1) (m2:=m2) (c:=c) (c1:=c1) (c2:=c2) P Q la lb ha hb hP hQ
 have hge:=hd.ge (Bs:=[.vs md [.sl 1 0 4 2 c1,.sl 2 0 4 2 c2],.sc m1 (4*2) (ia P),.sc m2 (4*2) (ia Q)]) h2 (fun p hp=>by
  rcases Zco.1 hp with rfl | hp
  ·exact e0
  rcases Zco.1 hp with rfl | hp
  ·exact e1
  rcases Zco.1 hp with rfl | hp
  ·exact e2
  cases hp)
 have hm:=fun p hp=>h2.2.mem (hd.mem p hp)
 have m0:=fun {b B} h=>(h2.2.mem (b:=b) (B:=B) (hd.sub.subset h)).2
 cases hr with
 | nil h=>have:=congrArg List.length h; rw [Zb2,ha,hb] at this; cases this
 | row hl hF=>exact ⟨_,_,_,_,σ',h1,hge _ ZM,hl,hF,(hm _ ZM).2,m0 e0,m0 e1,m0 e2⟩
theorem uf:∃ P:Nat->Int,RF AM 137 [] (.agg 8 (ia P))/\∀ i,i < 8->P i=(Wf straightL).getD i 0:=by
 obtain ⟨v,σ',n',L',h1,h2,P,rfl,hP⟩:=kr
 exact ⟨P,⟨σ',h1⟩,hP⟩
theorem gV:∃ P:Nat->Int,RF AM 138 [] (.agg 8 (ia P))/\∀ i,i < 8->P i=(Wf slantL).getD i 0:=by
 obtain ⟨v,σ',n',L',h1,h2,P,rfl,hP⟩:=rN
 exact ⟨P,⟨σ',h1⟩,hP⟩
theorem gW:∃ P:Nat->Int,RF AM 140 [] (.agg 16 (ia P))/\∀ i,i < 16->P i=(Wf jumpL).getD i 0:=by
 obtain ⟨v,σ',n',L',h1,h2,P,rfl,hP⟩:=gu
 exact ⟨P,⟨σ',h1⟩,hP⟩
theorem Rk {m:Nat} {S:Nat->Int} {l:List Int} (hl:l.length=m) (h:∀ i,i < m->S i=l.getD i 0):∀ i,i < l.length->ovA (fun _=>0) 0 m S i=l.getD i 0:=fun i hi=>by
 rw [X3 (by omega),Nat.sub_zero]; exact h i (by omega)
theorem Zan (on:Int):∀ i,i < (Wf [(-1,on),(1,on)]).length->ovA (ovA (fun _=>0) (0*2) 2 (ov (ov (fun _=>0) 0 (-1)) 1 on)) (1*2) 2 (ov (ov (fun _=>0) 0 1) 1 on) i=(Wf [(-1,on),(1,on)]).getD i 0
 | 0,_=>rfl
 | 1,_=>rfl
 | 2,_=>rfl
 | 3,_=>rfl
 | i+4,h=>absurd (show i+4 < 4 from h) (by omega)
section
variable {P:Nat->Int} {s:Int} (hc:P (sqI s+1)=0\/P (sqI s+1)=1)
include hc
theorem oV (hk:P (sqI s)=1):Wd P s=X7 s [(-1,1 - 2*P (sqI s+1)),(1,1 - 2*P (sqI s+1))]:=by
 unfold Wd Ui
 rw [ZcA hc,hk]; rfl
theorem px (hk:P (sqI s)=2):Wd P s=X7 s jumpL:=by
 unfold Wd Ui
 rw [ZcA hc,hk]; rfl
theorem pS (hk:P (sqI s)=6):Wd P s=X7 s (straightL++slantL):=by
 unfold Wd Ui
 rw [ZcA hc,hk]; rfl
theorem o0 (hk:P (sqI s)=4):Wd P s=X8 P s straightL:=by
 unfold Wd Ui
 rw [ZcA hc,hk]; rfl
theorem oR (hk:P (sqI s)=3):Wd P s=X8 P s slantL:=by
 unfold Wd Ui
 rw [ZcA hc,hk]; rfl
theorem rU (hk:P (sqI s)=5):Wd P s=X8 P s (straightL++slantL):=by
 unfold Wd Ui
 rw [ZcA hc,hk]; rfl
theorem gK (h1:¬ P (sqI s)=1) (h2:¬ P (sqI s)=2) (h3:¬ P (sqI s)=3) (h4:¬ P (sqI s)=4) (h5:¬ P (sqI s)=5) (h6:¬ P (sqI s)=6):Wd P s=[]:=by
 unfold Wd Ui
 rw [ZcA hc,Zcz h1,Zcz h2,Zcz h6,Zcz h4,Zcz h3,Zcz h5]
end
theorem Zam {P:Nat->Int} {s:Int} (hc:¬ (P (sqI s+1)=0\/P (sqI s+1)=1)):Wd P s=[]:=Zcz hc
end Go.Proofs.YtlkighkfkdpncaaGreatDoor
namespace Go.Am
open Go
theorem qv {A:AP} {N:Nat} {f:FE} {n:Nat} {L:HA} {K:KN} {Zp:V->KN} {l:List I} {d:Nat} {x y:O} {b o m z b' o' m' z':Nat} {c c':Cp} (hx:x.fv N f=.sl b o m z c) (hy:y.fv N f=.sl b' o' m' z' c') (k:WO A N l (upd f d (.sl n 0 2 1 (.ex 2))) (n+1) ((n,.vs .var [.sl b o m z c,.sl b' o' m' z' c'])::L) K Zp):WO A N (⟨some d,none,.h (.mksl 2 1 (.one .snil) [(0,x),(1,y)])⟩::l) f n L K Zp :=
 Xl (v:=.sl n 0 2 1 (.ex 2)) (fun σ hσ=>⟨σ++[.vs .var [.sl b o m z c,.sl b' o' m' z' c']],by
  simp only [YK,Z.row,Ws,List.map_cons,List.map_nil,Ql,Y2,hx,hy,hσ.1]
  rfl,hσ.new _⟩) k
end Go.Am
namespace Go.Proofs.YtlkighkfkdpncaaGreatDoor
open Go Go.Am
theorem wl (P:Nat->Int) (s:Int) (hs:0<=s/\s < 64):RtR AM 115 1 [.agg 133 (ia P),.s (.int .i64 s)] [] (Wd P s) []:=by
 refine Qq (YL (a:=a115) rfl rfl (YI _) (ZQ rfl) (m:=0) rfl (Ze (YC rfl (Yq rfl (Zf (Zj rfl (Zy rfl (Zy rfl (Zw rfl rfl rfl (Yp rfl rfl ZM (Yy (Yz rfl rfl rfl rfl .here (Zf (Yq rfl (Yc (Wz (fun f n L=>(P (sqI s+1)=0\/P (sqI s+1)=1)/\(f 1=.s (.int .i64 s))/\(f 2=.ptr 0 0 133)/\(f 5=.ptr 1 0 2)/\(f 6=.s (.int .i64 (1 - 2*P (sqI s+1))))/\(L=[(1,.sc .var 2 (ia (ovA (fun _=>0) 0 2 (dp P (0+s.toNat*2))))),(0,.sc .var 133 (ia P))])) ?_ (fun f nb L hI=>?_)))))))))))))))))
 ·refine Ze (Zz rfl (Ym (x:=P (sqI s+1)) rfl rfl ZM (rfl) (Yc (Yk (Ze (Zr rfl (Zk rfl (Yc (Yj rfl (fun h1=>?_) (fun h1=>?_)))))))))) <;> simp only [NM] at h1
  ·refine Yf (Yq rfl (Yc ?_))
   exact ⟨_,(.refl _),by omega,rfl,rfl,rfl,congrArg (fun x=>V.s (S.int .i64 x)) (by omega),rfl⟩
  refine Ze (Zr rfl (Zk rfl (Yc (Yj rfl (fun h2=>?_) (fun h2=>?_))))) <;> simp only [NM] at h2
  ·refine Yh ?_
   exact ⟨_,(.refl _),by omega,rfl,rfl,rfl,congrArg (fun x=>V.s (S.int .i64 x)) (by omega),rfl⟩
  refine Ze (Yq rfl (Yc (Yi (⟨_,YH (v:=.snil) rfl (YW),?_⟩))))
  exact ⟨[],.nil (Zam (by omega)),fun _ h=>by cases h⟩
 obtain ⟨hc,k1,k2,k5,k6,rfl⟩:=hI
 refine Za 1 k1 (Za 2 k2 (Za 5 k5 (Za 6 k6 (Ze ?_))))
 obtain ⟨S1,hR1,hS1⟩:=uf
 obtain ⟨S2,hR2,hS2⟩:=gV
 refine Yt rfl (hR1) rfl rfl rfl (Yt rfl (hR2) rfl rfl rfl (Yy (Yy (Yz rfl rfl rfl rfl (.there .here) (Yz rfl rfl rfl rfl .here (Yc (Ye (Ze (Zy rfl (Ym (x:=P (sqI s)) rfl rfl ZO (rfl) (Yc (Yk (Ze (Zr rfl (Zk rfl (Yc (Yj rfl (fun h3=>?_) (fun h3=>?_)))))))))))))))))) <;> simp only [NM] at h3
 ·refine Ze (Zj rfl (Zj rfl (YB rfl (.one rfl (.one rfl .nil)) (Zj rfl (YB rfl (.one rfl (.one rfl .nil)) (Wp rfl (.agg rfl (.agg rfl .nil)) (UP (caps:=[]) rfl (wO s [(-1,1 - 2*P (sqI s+1)),(1,1 - 2*P (sqI s+1))] (YF rfl)) rfl (Rx.row (l:=Wf [(-1,1 - 2*P (sqI s+1)),(1,1 - 2*P (sqI s+1))]) rfl (Zan _)) (UY ZM) rfl rfl (fun v1 own1 n1 hr1=>Yq (v:=v1) rfl (Yc (Yi (⟨_,YH (v:=v1) rfl (YW),?_⟩)))))))))))
  exact ⟨_,(oV hc (by assumption)).symm ▸ hr1,(fun _ h=>(ZbV _ h))⟩
 refine Ze (Zr rfl (Zk rfl (Yc (Yj rfl (fun h4=>?_) (fun h4=>?_))))) <;> simp only [NM] at h4
 ·refine Ze ?_
  obtain ⟨S3,hR3,hS3⟩:=gW
  refine Yt rfl (hR3) rfl rfl rfl (Yy (Yz rfl rfl rfl rfl .here (Zf (Zj rfl (Kz rfl rfl (by decide) (UP (caps:=[]) rfl (wO s jumpL (YF rfl)) rfl (Rx.row (l:=Wf jumpL) rfl (Rk rfl hS3)) (UY ZM) rfl rfl (fun v2 own2 n2 hr2=>Yq (v:=v2) rfl (Yc (Yi (⟨_,YH (v:=v2) rfl (YW),?_⟩))))))))))
  exact ⟨_,(px hc (by assumption)).symm ▸ hr2,(fun _ h=>(ZbV _ h))⟩
 refine Ze (Zr rfl (Zk rfl (Yc (Yj rfl (fun h5=>?_) (fun h5=>?_))))) <;> simp only [NM] at h5
 ·refine Ye (Yg (Zj rfl (Kz rfl rfl (by decide) (Kz rfl rfl (by decide) (qv rfl rfl (WO_cat (z:=2) (m:=4) rfl rfl (pB _ _ (Wf straightL) (Wf slantL) rfl rfl (Rk rfl hS1) (Rk rfl hS2)) ZM ZO ZN (by omega) (fun v3 own3 n3 hr3=>UP (caps:=[]) rfl (wO s (straightL++slantL) (YF rfl)) rfl (hr3.rx) (fun _ h=>(ZbV _ h)) rfl rfl (fun v4 own4 n4 hr4=>Yq (v:=v4) rfl (Yc (Yi (⟨_,YH (v:=v4) rfl (YW),?_⟩)))))))))))
  exact ⟨_,(pS hc (by assumption)).symm ▸ hr4,(fun _ h=>(ZbV _ h))⟩
 refine Ze (Zr rfl (Zk rfl (Yc (Yj rfl (fun h6=>?_) (fun h6=>?_))))) <;> simp only [NM] at h6
 ·refine Ye (Yg (Yo rfl rfl ZP (Zj rfl (Kz rfl rfl (by decide) (UP (caps:=[]) rfl (yD P s straightL (by decide) (by decide)) rfl (Rx.row (l:=Wf straightL) rfl (Rk rfl hS1)) (UY ZN) rfl rfl (fun v5 own5 n5 hr5=>Yq (v:=v5) rfl (Yc (Yi (⟨_,YH (v:=v5) rfl (YW),?_⟩)))))))))
  exact ⟨_,(o0 hc (by assumption)).symm ▸ hr5,(fun _ h=>(ZbV _ h))⟩
 refine Ze (Zr rfl (Zk rfl (Yc (Yj rfl (fun h7=>?_) (fun h7=>?_))))) <;> simp only [NM] at h7
 ·refine Ye (Yg (Yo rfl rfl ZP (Zj rfl (Kz rfl rfl (by decide) (UP (caps:=[]) rfl (yD P s slantL (by decide) (by decide)) rfl (Rx.row (l:=Wf slantL) rfl (Rk rfl hS2)) (UY ZM) rfl rfl (fun v6 own6 n6 hr6=>Yq (v:=v6) rfl (Yc (Yi (⟨_,YH (v:=v6) rfl (YW),?_⟩)))))))))
  exact ⟨_,(oR hc (by assumption)).symm ▸ hr6,(fun _ h=>(ZbV _ h))⟩
 refine Ze (Zr rfl (Zk rfl (Yc (Yj rfl (fun h8=>?_) (fun h8=>?_))))) <;> simp only [NM] at h8
 ·refine Ye (Yg (Yo rfl rfl ZP (Zj rfl (Kz rfl rfl (by decide) (Kz rfl rfl (by decide) (qv rfl rfl (WO_catq (z:=2) (m:=4) rfl rfl (pB _ _ (Wf straightL) (Wf slantL) rfl rfl (Rk rfl hS1) (Rk rfl hS2)) ZM ZO ZN (by omega) (fun v7 own7 n7 hr7=>UP (caps:=[]) rfl (yD P s (straightL++slantL) (by decide) (by decide)) rfl (hr7.rx) (fun _ h=>(ZbV _ h)) rfl rfl (fun v8 own8 n8 hr8=>Yq (v:=v8) rfl (Yc (Yi (⟨_,YH (v:=v8) rfl (YW),?_⟩))))))))))))
  exact ⟨_,(rU hc (by assumption)).symm ▸ hr8,(fun _ h=>(ZbV _ h))⟩
 refine Yh (Ze (Yq rfl (Yc (Yi (⟨_,YH (v:=.snil) rfl (YW),?_⟩)))))
 exact ⟨[],.nil (gK hc (by assumption) (by assumption) (by assumption) (by assumption) (by assumption) (by assumption)),fun _ h=>by cases h⟩
theorem qM {F:Nat->Int} {l:List Int} {m:Nat} (hl:l.length=m) (hF:∀ i,i < l.length->F i=l.getD i 0):X1 (ia F) m=l:=by
 unfold X1
 refine List.ext_getElem (by simp [hl]) fun i h1 h2=>?_
 rw [List.getElem_map,List.getElem_range]
 show F i=_
 rw [hF i h2,ZbD,ZbH h2]; rfl
theorem allI {F:Nat->Int} (m:Nat):Xp m (fun i=>VJ (ia F i))=true:=allB_true (fun _=>rfl) m
theorem uR (l:List Int) (F:Nat->Int):EL l (ia F)=ia (fun i=>bif Nat.blt i l.length then l.getD i 0 else F i):=by
 funext i
 unfold EL
 show _=S.int .i64 (bif Nat.blt i l.length then l.getD i 0 else F i)
 cases Nat.blt i l.length <;> rfl
theorem gB {l:List Int} {F:Nat->Int}:∀ i,i < l.length->(bif Nat.blt i l.length then l.getD i 0 else F i)=l.getD i 0:=fun i hi=>by
 rw [show Nat.blt i l.length=true from ZbN hi]; rfl
theorem sort_st (l:List Int) (hlen:l.length<=1000000):StR AM 175 1 [] [] l (KI l):=by
 refine ⟨(Q5 l).length_eq,fun _=>⟨[],?_,trivial⟩,fun m q F hl hF=>⟨_,gB (F:=F),[_],?_,rfl,⟨_,_,_,rfl⟩,trivial⟩⟩
 ·rw [WI (pf:=TO) rfl _ _ rfl]; rfl
 rw [WI (pf:=TO) rfl _ _ rfl]
 have hl':l.length=m:=by rw [hl,Nat.mul_one]
 have hlt:Nat.blt m 4611686018427387904=true:=ZbN (by omega)
 show (bif Xp m (fun i=>VJ (ia F i))&&Nat.blt m 4611686018427387904 then some (V.tup [],[Blk.sc .grow q (EL (KI (X1 (ia F) m)) (ia F))]) else none)=_
 rw [allI,hlt,qM hl' hF,uR]; rfl
theorem Za5 (P:Nat->Int) (s:Int) (l:List (Int × Int)) (h:l.length<=8):(X8 P s l).length<=64:=Zcq (DH P s l) (by omega)
theorem DR (P:Nat->Int) (s:Int):(Wd P s).length<=64:=by
 have h1:=fun l=>RW s l
 unfold Wd Ui
 repeat' split
 all_goals first
  | exact Za5 P s _ (by decide)
  | exact Zcq (RW s _) (by decide)
  | exact Zcq (RW s _) (YF rfl)
  | exact Zct _
theorem Jz {P Q:Nat->Int} (h:∀ i,i < 133->Q i=P i) {t:Int} (ht:0<=t/\t < 64):Xf Q t=Xf P t:=Ti ht fun i hi=>h i (by omega)
theorem qj {P Q:Nat→Int} (h:∀ i,i < 133→Q i=P i):∀ {l:List Int},(∀ t∈l,0≤t∧t < 64)→VU Q l=VU P l
 | [],_=>rfl
 | t::l,hl=>by
  unfold VU
  rw [Jz h (hl t ZM),qj h fun u hu=>hl u (.tail _ hu)]
theorem tX {P Q:Nat->Int} (h:∀ i,i < 133->Q i=P i) (s:Int) (l:List (Int × Int)):X8 Q s l=X8 P s l:=by
 unfold X8
 exact congrArg (fun f=>l.flatMap f) (funext fun w=>qj h fun t ht=>xN ht)
theorem zc {P Q:Nat->Int} (h:∀ i,i < 133->Q i=P i) {s:Int} (hs:0<=s/\s < 64):Wd Q s=Wd P s:=by
 have hq:sqI s=0+s.toNat*2:=rfl
 unfold Wd Ui
 rw [h (sqI s) (by omega),h (sqI s+1) (by omega)]
 simp only [tX h]
theorem tO (P:Nat->Int) (s:Int):RtR AM 157 1 [.agg 133 (ia P),.s (.int .i64 s)] [] (Wk P s) []:=by
 refine Qq (YL (a:=a157) rfl rfl (YI _) (ZQ rfl) (m:=0) rfl (Ze (YC rfl (Yq rfl (Yc (Ye (Ze (Zj rfl (Yt rfl (U4 _) rfl rfl rfl (Yv (r:=.bool _) rfl rfl (Yc (Yj rfl (fun h1=>?_) (fun h1=>?_))))))))))))) <;> simp only [NM] at h1
 ·try simp only [isM,Zb7,ZbJ] at h1
  refine Ze (Yq rfl (Yc (Yi (⟨_,YH (v:=.snil) rfl (YW),?_⟩))))
  have e:Wk P s=[]:=Zcz (by assumption)
  exact ⟨[],.nil e,fun _ h=>by cases h⟩
 try simp only [isM,Zb7,ZbJ] at h1
 refine Yh (Ze (Yo rfl rfl ZM (YB (Q:=ovA (fun _=>0) 0 133 P) rfl (.agg rfl .nil) (Zj rfl ?_))))
 have hcut:∀ i,i < 133->ovA (fun _=>0) 0 133 P i=P i:=fun i hi=>by rw [X3 (by omega),Nat.sub_zero]
 have hfrom:=zc hcut (by omega) ▸ wl (ovA (fun _=>0) 0 133 P) s (by omega)
 refine YE rfl (hfrom) rfl rfl (fun v1 own1 n1 hr1=>Yq (v:=v1) rfl (Zf (Yq (v:=v1) rfl (qq (caps:=[]) rfl (sort_st (Wd P s) (Zcq (DR P s) (by decide))) rfl hr1 .here rfl rfl (fun own2 hr2=>Zf (Yq (v:=v1) rfl (Yq (v:=v1) rfl (Yc (Yi (⟨_,YH (v:=v1) rfl (YW),?_⟩))))))))))
 have e:Wk P s=KI (Wd P s):=ZcA (by assumption)
 exact ⟨_,e ▸ hr2,(fun _ h=>(ZbV _ h))⟩
def Jp (P:Nat->Int) (c s a:Int):Bool:=decide (P (sqI a+1)=c)&&decide (s∈Wd P a)
def QM (P:Nat->Int) (c s:Int):Bool:=(Wq 64).any (Jp P c s)
theorem any_no {p:Int->Bool} {i:Nat} (h:∀ a:Nat,a < i->p a=false):(Wq i).any p=false:=by
 unfold Wq
 rw [List.any_map,List.any_eq_false]
 intro a ha
 have:=h a (Zck.1 ha)
 simpa using this
theorem any_yes {p:Int->Bool} {i k:Nat} (hi:i < k) (h:p i=true):(Wq k).any p=true:=by
 unfold Wq
 rw [List.any_map,List.any_eq_true]
 exact ⟨i,Zck.2 hi,h⟩
def optV:Option S->V
 | none=>.undef
 | some x=>.s x
def J0 (g0 g10 g11 g18:Nat->S) (x1 x9 x13 x14 x15 x17 x19 x20:S) (ml o:Nat) (c:Cp) (u:Option S):List V:=[.agg 133 g0,.s x1,.sl 4 0 ml 1 c,.ptr 1 0 133,.undef,.undef,.ptr 2 0 1,.ptr 3 0 133,.undef,.s x9,.agg 133 g10,.agg 133 g11,.sl 4 0 ml 1 c,.s x13,.s x14,.s x15,.ptr 4 o 1,.s x17,.agg 133 g18,.s x19,.s x20,.fn 113 [.ptr 5 0 133,.ptr 6 0 1,.ptr 7 0 1],.undef,optV u]
section
variable (g0 g10 g11 g18:Nat->S) (x1 x9 x13 x14 x15 x17 x19 x20:S) (ml o:Nat) (c:Cp) (u:Option S)
noncomputable def U6 (st:Nat) (r:Nat->S) (B1 B3 B4:Blk) (P:Nat->Int) (b s:Int):List Blk:=[.lp 22 wz (J0 g0 g10 g11 g18 x1 x9 x13 x14 x15 x17 x19 x20 ml o c u) st,B1,.sc .var 1 r,B3,B4,.sc .var 133 (ia P),.sc .var 1 (fun _=>.int .i64 b),.sc .var 1 (fun _=>.int .i64 s)]
theorem ZaY {r:Nat->S} {B1 B3 B4:Blk} {P:Nat->Int} {b s a:Int}:WR AM 22 [.pan .undef,.yv 0,.s (.int .i64 a)] (U6 g0 g10 g11 g18 x1 x9 x13 x14 x15 x17 x19 x20 ml o c u 0 r B1 B3 B4 P b s) (fun v n L=>v=.s (.bool false)/\UF L 0 (U6 g0 g10 g11 g18 x1 x9 x13 x14 x15 x17 x19 x20 ml o c u 2 (WE r 0 1 fun _=>.bool true) B1 B3 B4 P b s)):=by
 refine TF (N:=24) (B:=B54) (f:=YI ((J0 g0 g10 g11 g18 x1 x9 x13 x14 x15 x17 x19 x20 ml o c u).set 22 (.s (.int .i64 a)))) (caps:=J0 g0 g10 g11 g18 x1 x9 x13 x14 x15 x17 x19 x20 ml o c u) rfl rfl rfl (Dn rfl) rfl (Yh ⟨22,wz,J0 g0 g10 g11 g18 x1 x9 x13 x14 x15 x17 x19 x20 ml o c u,rfl,?_⟩)
 refine Yk (Ye (Yf (Qu rfl rfl rfl rfl rfl rfl (.there (.there .here)) (Yc (Yi ⟨22,wz,J0 g0 g10 g11 g18 x1 x9 x13 x14 x15 x17 x19 x20 ml o c u,rfl,rfl,?_⟩)))))
 exact ⟨.head _,.tail _ ZM,.tail _ ZN,.tail _ ZO,.tail _ ZP,.tail _ (.tail _ ZP),.tail _ (.tail _ (.tail _ ZP)),.tail _ (.tail _ (.tail _ (.tail _ ZP))),trivial⟩
theorem vF {st:Nat} {r G1 G3 G4:Nat->S} {md:Md} {q:Nat} {P:Nat->Int} {b s:Int}:Xt [0,1,2,3,4,5,6,7] (U6 g0 g10 g11 g18 x1 x9 x13 x14 x15 x17 x19 x20 ml o c u st r (.sc .var 133 G1) (.sc .var 133 G3) (.sc md q G4) P b s)=some (U6 g0 g10 g11 g18 x1 x9 x13 x14 x15 x17 x19 x20 ml o c u st r (.sc .var 133 G1) (.sc .var 133 G3) (.sc md q G4) P b s):=by cases u <;> rfl
theorem s8 {st:Nat} {r G1 G3 G4:Nat->S} {md:Md} {q:Nat} {P:Nat->Int} {b s:Int}:YN (U6 g0 g10 g11 g18 x1 x9 x13 x14 x15 x17 x19 x20 ml o c u st r (.sc .var 133 G1) (.sc .var 133 G3) (.sc md q G4) P b s) 64 [0] []=List.range 8:=by cases u <;> rfl
theorem um {st:Nat} {r G1 G3 G4:Nat->S} {md:Md} {q:Nat} {P:Nat->Int} {b s:Int}:YN (U6 g0 g10 g11 g18 x1 x9 x13 x14 x15 x17 x19 x20 ml o c u st r (.sc .var 133 G1) (.sc .var 133 G3) (.sc md q G4) P b s) 64 [0,5,6,7] []=List.range 8:=by cases u <;> rfl
end
theorem jl (P:Nat->Int) (s b:Int):WR AM 92 [.agg 133 (ia P),.s (.int .i64 s),.s (.int .i64 b)] [] (fun v n L=>v=.fn 113 [.ptr 0 0 133,.ptr 2 0 1,.ptr 1 0 1]/\n=3/\L=[(2,.sc .var 1 fun _=>.int .i64 b),(1,.sc .var 1 fun _=>.int .i64 s),(0,.sc .var 133 (ia P))]):=by
 refine YL (a:=a92) rfl rfl (YI _) (ZQ rfl) (m:=0) rfl (Ye (Yf (YC rfl (uV rfl (uV rfl (Yq rfl (Yc (Ye (Yf (KF rfl (Yq rfl (Yc ?_))))))))))))
 exact Yi ⟨_,YH rfl YW,rfl,rfl,rfl⟩
theorem ZaT {A:AP} {fid:FuncId} {z:Nat} {av:List V} {l:List Int} (hs:RtR A fid z av [] l []) (h1:V.looseL av=true) {n:Nat} {L:HA}:∀ σ,Hp σ n L->∃ r,Y5 (Run A) false (.fn fid []) av σ=some r:=fun σ hσ=>by
 have hk:=YE (A:=A) (N:=0) (f:=fun _=>.undef) (n:=n) (L:=L) (K:=fun _ _ _=>True) (Zp:=fun _ _ _ _=>False) (rest:=[]) (d:=0) (x:=.k (.fn fid [])) (xs:=av.map .k) rfl hs (by rw [List.map_map]; exact List.map_id'' (fun _=>rfl) _) h1 (fun _ _ _ _=>Yc trivial)
 obtain ⟨x,f',σ',n',L',e1,e2,e3⟩:=hk σ hσ
 have hev:(av.map O.k).map (fun x=>x.ev (E 0 fun _=>.undef))=av:=by rw [List.map_map]; exact List.map_id'' (fun _=>rfl) _
 cases hc:Y5 (Run A) false (.fn fid []) av σ with
 | some r=>exact ⟨r,rfl⟩
 | none =>
  exfalso
  simp only [WF,XO,Xr,YK,hev] at e1
  rw [show (O.k (.fn fid [])).ev (E 0 fun _=>.undef)=.fn fid [] from rfl,hc] at e1
  simp only [Option.map_none,ZbK,Zcn] at e1
  obtain ⟨y,_,h,_⟩:=e1
  subst h
  exact e3
theorem iter_is (g0 g10 g11 g18:Nat->S) (x1 x9 x13 x14 x15 x17 x19 x20:S) (ml o:Nat) (c:Cp) (u:Option S) {r G1 G3 G4:Nat->S} {md:Md} {q:Nat} (P:Nat->Int) (b s:Int):WR AM 113 [.yv 0,.ptr 5 0 133,.ptr 6 0 1,.ptr 7 0 1] (U6 g0 g10 g11 g18 x1 x9 x13 x14 x15 x17 x19 x20 ml o c u 0 r (.sc .var 133 G1) (.sc .var 133 G3) (.sc md q G4) P b s) (fun v _ L=>v=.tup []/\UF L 0 (if QM P b s=true then U6 g0 g10 g11 g18 x1 x9 x13 x14 x15 x17 x19 x20 ml o c u 2 (WE r 0 1 fun _=>.bool true) (.sc .var 133 G1) (.sc .var 133 G3) (.sc md q G4) P b s else U6 g0 g10 g11 g18 x1 x9 x13 x14 x15 x17 x19 x20 ml o c u 0 r (.sc .var 133 G1) (.sc .var 133 G3) (.sc md q G4) P b s)):=by
 refine YL (a:=a113) rfl rfl (YI _) (ZQ rfl) (m:=8) rfl (Ze (Zy rfl (Zy rfl (Yo rfl rfl (.tail _ (.tail _ ZP)) (Yq rfl (Yc (Yk (Xo (.refl _) (Xu (fun m f _ L=>∃ (i:Nat),(i<=64)/\(m=64 - i)/\(∀ a:Nat,a < i->Jp P b s a=false)/\(f 0=.yv 0)/\(f 1=.ptr 5 0 133)/\(f 2=.ptr 6 0 1)/\(f 3=.ptr 7 0 1)/\(f 9=.agg 128 (ia P))/\(f 10=.s (.int .i64 i))/\(L=[(0,.lp 22 wz (J0 g0 g10 g11 g18 x1 x9 x13 x14 x15 x17 x19 x20 ml o c u) 0),(1,.sc .var 133 G1),(2,.sc .var 1 r),(3,.sc .var 133 G3),(4,.sc md q G4),(5,.sc .var 133 (ia P)),(6,.sc .var 1 (fun _=>.int .i64 b)),(7,.sc .var 1 (fun _=>.int .i64 s))])) (fun m f nb L hI=>?_) (64) (⟨0,by omega,rfl,fun a h=>by omega,rfl,rfl,rfl,rfl,rfl,rfl,rfl⟩))))))))))
 obtain ⟨i,hi,hm,hn,k0,k1,k2,k3,k9,k10,rfl⟩:=hI
 refine Za 0 k0 (Za 1 k1 (Za 2 k2 (Za 3 k3 (Za 9 k9 (Za 10 k10 (Ze (Zr rfl (Yc (Ye (Yj rfl (fun h1=>?_) (fun h1=>?_))))))))))) <;> simp only [NM] at h1
 ·refine Yh (Ye (Yk (Ze (Zj rfl (y7 rfl rfl rfl (by omega) (Yy (Zj rfl (Yz rfl rfl rfl rfl .here (Yc (Ye (WP_parcO2' [0,1,2,3,4,5,6] [7,8,9,10,11,12,13,14,15,16] [8,7,9,10,11,12,13,14,15,16] rfl (by decide +kernel) ?_)))))))))))
  simp only [Xy,List.getElem?_cons_zero,List.getElem?_cons_succ]
  refine Zz rfl (Ym (x:=P (sqI i+1)) rfl rfl ZM (show P ((i:Int).toNat*2+1)=_ from congrArg P (by have hq:sqI (i:Int)=0+(i:Int).toNat*2:=rfl; omega)) (Yn (x:=.int _ _) rfl rfl (.tail _ (.tail _ (.tail _ (.tail _ ZP)))) rfl (Zr rfl (Zk rfl (Ys (t:=18) rfl (fun h2=>?_) (fun h2=>?_)))))) <;> simp only [NM] at h2
  ·refine Yb rfl (Yo rfl rfl (.tail _ (.tail _ (.tail _ ZP))) (Yb rfl (Zj rfl (Yc (⟨je (t:=18) (b:=7) rfl rfl rfl rfl (.tail _ (.tail _ (.tail _ (.tail _ (.tail _ ZP))))) ⟨.s (.int .i64 s),fun σ h=>by simp only [rdV,h,cond_false]⟩ rfl rfl (ZaT (wl P i (by omega)) rfl),?_⟩)))))
   refine KE (l1:=[_,_,_,_,_,_,_]) (l2:=[_,_,_]) (Yb rfl (YE rfl (wl P i (by omega)) rfl rfl (fun v1 own1 n1 hr1=>Yb rfl (Yn (x:=.int _ _) rfl rfl (ZbM _ (.tail _ (.tail _ (.tail _ (.tail _ (.tail _ ZP)))))) rfl (Yb rfl (XX (caps:=[]) rfl (kJ s (Wd P i) (Zcq (DR P i) (by decide))) rfl (hr1.rx) (fun _ h=>(ZbV _ h)) rfl rfl rfl (Zq rfl (Zk rfl (Ys (t:=25) rfl (fun h3=>?_) (fun h3=>?_)))))))))) <;> simp only [NM] at h3
   ·refine Yb rfl (Yq (v:=.yv _) rfl (Yb rfl (Zj rfl (Yc (Q2 (ZbB (.cons _ (.refl _))) (DB rfl ?_))))))
    refine Zbw (Lr:=[(0,_),(1,_),(2,_),(3,_),(4,_),(5,_),(6,_),(7,_)]) (L0:=[]) (vs:=[.yv 0,.s (.int .i64 i)]) (Bs:=U6 g0 g10 g11 g18 x1 x9 x13 x14 x15 x17 x19 x20 ml o c u 0 r (.sc .var 133 G1) (.sc .var 133 G3) (.sc md q G4) P b s) (by first | (rw [Zcf]; done) | (rw [Zcf]; exact .refl _)) rfl rfl ZM rfl (vF g0 g10 g11 g18 x1 x9 x13 x14 x15 x17 x19 x20 ml o c u) rfl (s8 g0 g10 g11 g18 x1 x9 x13 x14 x15 x17 x19 x20 ml o c u) ?_
    refine Qm (ZaY g0 g10 g11 g18 x1 x9 x13 x14 x15 x17 x19 x20 ml o c u) ?_
    rintro v n1 L1 ⟨rfl,hfa⟩
    refine ⟨U6 g0 g10 g11 g18 x1 x9 x13 x14 x15 x17 x19 x20 ml o c u 2 (WE r 0 1 fun _=>.bool true) (.sc .var 133 G1) (.sc .var 133 G3) (.sc md q G4) P b s,.s (.bool false),_,hfa,rfl,rfl,rfl,vF g0 g10 g11 g18 x1 x9 x13 x14 x15 x17 x19 x20 ml o c u,?_⟩
    refine Vd (Yb rfl (Yv (r:=.bool _) rfl rfl (Zq rfl (Yc (ZA rfl (Yi (⟨_,YW,?_⟩)))))))
    refine ⟨rfl,?_⟩
    rw [ZcA (show QM P b s=true from any_yes (p:=Jp P b s) (i:=i) (by omega) (by unfold Jp; rw [Zca,Zb7,Zb7]; exact ⟨by assumption,by assumption⟩))]
    exact ⟨ZM,ZN,ZO,ZP,(.tail _ ZP),(.tail _ (.tail _ ZP)),(.tail _ (.tail _ (.tail _ ZP))),(.tail _ (.tail _ (.tail _ (.tail _ ZP)))),trivial⟩
   refine ZD rfl (Yc (Vd (ZD rfl (Zq rfl (Yc (ZB rfl (Yh (Yf (Zs rfl rfl (Zj rfl (Yc (⟨64 - (i+1),_,by omega,(ZbB (.cons _ (.refl _))),i+1,by omega,rfl,?_,rfl,rfl,rfl,rfl,rfl,rfl,rfl⟩))))))))))))
   intro a ha
   by_cases e:a=i
   · subst e; unfold Jp; rw [ZbO,ZbJ,ZbJ]; first | exact .inl (by assumption) | exact .inr (by assumption)
   exact hn a (by omega)
  refine ZD rfl (Yc (⟨p5 (t:=18) rfl rfl rfl rfl rfl rfl,Vd ?_⟩))
  refine ZD rfl (ZC rfl (Zq rfl (Zk rfl (ZE rfl (Zq rfl (Yc (ZB rfl (Yh (Yf (Zs rfl rfl (Zj rfl (Yc (⟨64 - (i+1),_,by omega,(.cons _ (.refl _)),i+1,by omega,rfl,?_,rfl,rfl,rfl,rfl,rfl,rfl,rfl⟩)))))))))))))
  intro a ha
  by_cases e:a=i
  · subst e; unfold Jp; rw [ZbO,ZbJ,ZbJ]; first | exact .inl (by assumption) | exact .inr (by assumption)
  exact hn a (by omega)
 refine Y0 (Xb (⟨_,YW,?_⟩))
 obtain rfl:i=64:=by omega
 refine ⟨rfl,?_⟩
 have hno:=any_no (p:=Jp P b s) hn
 rw [Zcz (show ¬ QM P b s=true by unfold QM; rw [hno]; decide)]
 exact ⟨ZM,ZN,ZO,ZP,(.tail _ ZP),(.tail _ (.tail _ ZP)),(.tail _ (.tail _ (.tail _ ZP))),(.tail _ (.tail _ (.tail _ (.tail _ ZP)))),trivial⟩
theorem perm7 {α:Type} (a b c d e f g:α):[g,f,e,a,b,c,d].Perm [a,b,c,d,e,f,g]:=by
 have h:([g,f,e]++[a,b,c,d]).Perm ([a,b,c,d]++[g,f,e]):=List.perm_append_comm
 exact h.trans (List.Perm.append_left [a,b,c,d] (List.reverse_perm [e,f,g]))
theorem perm3 {α:Type} (a b c:α) (l:List α):(c::b::a::l).Perm (a::b::c::l):=(List.reverse_perm [a,b,c]).append_right l
theorem cut2 (P:Nat->Int):∀ i,i < 133->ovA (fun _=>0) 0 133 (ovA (fun _=>0) 0 133 P) i=P i:=Ez P
theorem q5 {P Q:Nat->Int} (h:∀ i,i < 133->Q i=P i) (c s:Int):QM Q c s=QM P c s:=by
 have hh:∀ a:Nat,a < 64->Jp Q c s a=Jp P c s a:=fun a ha=>by
  have hq:sqI (a:Int)=0+(a:Int).toNat*2:=rfl
  unfold Jp
  rw [h (sqI (a:Int)+1) (by omega),zc h (by omega)]
 unfold QM Wq
 rw [List.any_map,List.any_map,Zce,List.any_eq_true,List.any_eq_true]
 constructor
 ·rintro ⟨a,ha,hx⟩; exact ⟨a,ha,by show Jp P c s a=true; rw [<- hh a (Zck.1 ha)]; exact hx⟩
 rintro ⟨a,ha,hx⟩; exact ⟨a,ha,by show Jp Q c s a=true; rw [hh a (Zck.1 ha)]; exact hx⟩
theorem any_at {p:Int->Bool} {l:List Int} {i:Nat} (hi:i < l.length) (h:p (l.getD i 0)=true):l.any p=true:=by
 rw [List.any_eq_true]
 rw [ZbD,ZbH hi] at h
 exact ⟨l[i],List.getElem_mem hi,h⟩
theorem Zao {p:Int->Bool} {l:List Int} (h:∀ j:Nat,j < l.length->p (l.getD j 0)=false):l.any p=false:=by
 rw [List.any_eq_false]
 intro x hx
 obtain ⟨j,hj,rfl⟩:=List.mem_iff_getElem.1 hx
 have:=h j hj
 rw [ZbD,ZbH hj] at this
 simpa using this
theorem rC (P:Nat->Int) (c:Int) (l:List Int) (hlen:l.length<=1000000):RdR AM 54 1 [.agg 133 (ia P),.s (.int .i64 c)] [] l (.s (.bool (l.any (QM P c)))):=by
 refine WV fun v Bs hc=>?_
 refine YL (a:=a54) rfl rfl (YI _) (ZQ rfl) rfl ?_ (by first | rfl | (cases hc <;> rfl))
 have hr0:=hc.rx
 rw [show YZ 0 Bs=YZ 0 Bs++[] from (Zcf _).symm]
 generalize hown:YZ 0 Bs=own0 at hr0 ⊢
 refine Ze (YC rfl (gA (Zf (Yo rfl rfl ZN (YB (Q:=ovA (fun _=>0) 0 133 P) rfl (.agg rfl .nil) (Yy (Yz rfl rfl rfl rfl .here (Yc (Ye (Ze (Yq (v:=v) rfl (Xk rfl hr0 (by decide) Te (Yq rfl (Yc (Yk (wQ (perm3 _ _ _ _) (Xo (.cons_cons _ (.cons_cons _ (.cons_cons _ (ZbY (.refl _) .slnil)))) (Xu (fun m f _ L=>∃ (i:Nat) (u:Option S),(i<=l.length)/\(m=l.length - i)/\(∀ j:Nat,j < i->QM P c (l.getD j 0)=false)/\(f 0=.agg 133 (ia P))/\(f 1=.s (.int .i64 c))/\(f 2=v)/\(f 3=.ptr Bs.length 0 133)/\(f 4=.undef)/\(f 5=.undef)/\(f 6=.ptr (Bs.length+1) 0 1)/\(f 7=.ptr (Bs.length+1+1) 0 133)/\(f 8=.undef)/\(f 10=.agg 133 (ia P))/\(f 11=.agg 133 (ia (ovA (fun _=>0) 0 133 P)))/\(f 12=v)/\(f 13=.s (.int .i64 l.length))/\(f 14=.s (.int .i64 i))/\(f 22=.undef)/\(f 23=optV u)/\(L=(Bs.length,.sc .var 133 (ia P))::(Bs.length+1,.sc .var 1 (fun _=>.bool false))::(Bs.length+1+1,.sc .var 133 (ia (ovA (fun _=>0) 0 133 (ovA (fun _=>0) 0 133 P))))::(own0++[]))) (fun m f nb L hI=>?_) (l.length) (⟨0,none,by omega,by omega,fun j hj=>by omega,rfl,rfl,rfl,rfl,rfl,rfl,rfl,rfl,rfl,rfl,rfl,rfl,rfl,rfl,rfl,rfl,rfl⟩)))))))))))))))))))
 obtain ⟨i,u,hi,hm,hn,k0,k1,k2,k3,k4,k5,k6,k7,k8,k10,k11,k12,k13,k14,k22,k23,rfl⟩:=hI
 refine Za 0 k0 (Za 1 k1 (Za 2 k2 (Za 3 k3 (Za 4 k4 (Za 5 k5 (Za 6 k6 (Za 7 k7 (Za 8 k8 (Za 10 k10 (Za 11 k11 (Za 12 k12 (Za 13 k13 (Za 14 k14 (Za 22 k22 (Za 23 k23 (Ze (Zr rfl (Yc (Ye (Yj rfl (fun h1=>?_) (fun h1=>?_))))))))))))))))))))) <;> simp only [NM] at h1
 ·refine Yh (Ye (Yk (Ze ?_)))
  obtain ⟨b0,q0,md0,c0,F0,rfl,rfl,hF0⟩:=hr0.at (by decide) Te (by omega)
  refine Zx rfl rfl (Ym (x:=(l.getD i 0)) rfl rfl ZP (ld1 hF0 (by omega)) (Zj rfl (Zf (Yo rfl rfl ZO (Zj rfl (Zj rfl (vm (fv:=.fn 92 []) (rs:=[]) (vs:=[.agg 133 (ia (ovA (fun _=>0) 0 133 (ovA (fun _=>0) 0 133 P))),.s (.int .i64 (l.getD i 0)),.s (.int .i64 c)]) (Bs:=[]) rfl rfl rfl rfl (Qm (jl (ovA (fun _=>0) 0 133 (ovA (fun _=>0) 0 133 P)) (l.getD i 0) c) ?_))))))))
  rintro v9 n9 L9 ⟨rfl,rfl,rfl⟩
  refine ⟨.fn 113 [.ptr nb 0 133,.ptr (nb+1) 0 1,.ptr (nb+2) 0 1],[],[.sc .var 133 (ia (ovA (fun _=>0) 0 133 (ovA (fun _=>0) 0 133 P))),.sc .var 1 (fun _=>.int .i64 c),.sc .var 1 (fun _=>.int .i64 (l.getD i 0))],rfl,?_⟩
  refine Yc (Yk ?_)
  refine WP_rfnD (Lr:=[(Bs.length,_),(Bs.length+1,_),(Bs.length+1+1,_),(b0,_),(nb,_),(nb+1,_),(nb+2,_)]) (L0:=[]) (vs:=[.yv 0,.ptr 5 0 133,.ptr 6 0 1,.ptr 7 0 1]) (caps:=J0 (ia P) (ia P) (ia (ovA (fun _=>0) 0 133 P)) (ia (ovA (fun _=>0) 0 133 (ovA (fun _=>0) 0 133 P))) (.int .i64 c) (.int .i64 (l.getD i 0)) (.int .i64 l.length) (.int .i64 i) (.bool (decide ((i:Int) < (l.length:Int)))) (.int .i64 (l.getD i 0)) (.int .i64 (l.getD i 0)) (.int .i64 c) l.length (0+(i:Int).toNat*1) c0 u) (Br:=[.sc .var 133 (ia P),.sc .var 1 (fun _=>.bool false),.sc .var 133 (ia (ovA (fun _=>0) 0 133 (ovA (fun _=>0) 0 133 P))),.sc md0 q0 (ia F0),.sc .var 133 (ia (ovA (fun _=>0) 0 133 (ovA (fun _=>0) 0 133 P))),.sc .var 1 (fun _=>.int .i64 c),.sc .var 1 (fun _=>.int .i64 (l.getD i 0))]) (perm7 _ _ _ _ _ _ _) rfl rfl (by cases u <;> rfl) rfl rfl (um (ia P) (ia P) (ia (ovA (fun _=>0) 0 133 P)) (ia (ovA (fun _=>0) 0 133 (ovA (fun _=>0) 0 133 P))) (.int .i64 c) (.int .i64 (l.getD i 0)) (.int .i64 l.length) (.int .i64 i) (.bool (decide ((i:Int) < (l.length:Int)))) (.int .i64 (l.getD i 0)) (.int .i64 (l.getD i 0)) (.int .i64 c) l.length (0+(i:Int).toNat*1) c0 u) ?_
  refine Qm (iter_is (ia P) (ia P) (ia (ovA (fun _=>0) 0 133 P)) (ia (ovA (fun _=>0) 0 133 (ovA (fun _=>0) 0 133 P))) (.int .i64 c) (.int .i64 (l.getD i 0)) (.int .i64 l.length) (.int .i64 i) (.bool (decide ((i:Int) < (l.length:Int)))) (.int .i64 (l.getD i 0)) (.int .i64 (l.getD i 0)) (.int .i64 c) l.length (0+(i:Int).toNat*1) c0 u (ovA (fun _=>0) 0 133 (ovA (fun _=>0) 0 133 P)) c (l.getD i 0)) ?_
  rintro v9 n9 L9 ⟨rfl,hfa⟩
  by_cases hh:QM (ovA (fun _=>0) 0 133 (ovA (fun _=>0) 0 133 P)) c (l.getD i 0)=true
  ·rw [ZcA hh] at hfa
   refine ⟨[.sc .var 133 (ia P),.sc .var 1 (WE (fun _=>.bool false) 0 1 fun _=>.bool true),.sc .var 133 (ia (ovA (fun _=>0) 0 133 (ovA (fun _=>0) 0 133 P))),.sc md0 q0 (ia F0),.sc .var 133 (ia (ovA (fun _=>0) 0 133 (ovA (fun _=>0) 0 133 P))),.sc .var 1 (fun _=>.int .i64 c),.sc .var 1 (fun _=>.int .i64 (l.getD i 0))],.tup [],[.sc .var 133 (ia P),.sc .var 1 (WE (fun _=>.bool false) 0 1 fun _=>.bool true),.sc .var 133 (ia (ovA (fun _=>0) 0 133 (ovA (fun _=>0) 0 133 P))),.sc md0 q0 (ia F0),.sc .var 133 (ia (ovA (fun _=>0) 0 133 (ovA (fun _=>0) 0 133 P))),.sc .var 1 (fun _=>.int .i64 c),.sc .var 1 (fun _=>.int .i64 (l.getD i 0))],2,hfa,rfl,rfl,rfl,rfl,?_⟩
   refine ⟨_,kp rfl rfl ZN rfl (YW),?_⟩
   refine ⟨?_,(UY ZP)⟩
   rw [any_at (i:=i) (by omega) (by rw [<- q5 (cut2 P)]; exact hh)]; rfl
  rw [Zcz hh] at hfa
  refine ⟨[.sc .var 133 (ia P),.sc .var 1 (fun _=>.bool false),.sc .var 133 (ia (ovA (fun _=>0) 0 133 (ovA (fun _=>0) 0 133 P))),.sc md0 q0 (ia F0),.sc .var 133 (ia (ovA (fun _=>0) 0 133 (ovA (fun _=>0) 0 133 P))),.sc .var 1 (fun _=>.int .i64 c),.sc .var 1 (fun _=>.int .i64 (l.getD i 0))],.tup [],[.sc .var 133 (ia P),.sc .var 1 (fun _=>.bool false),.sc .var 133 (ia (ovA (fun _=>0) 0 133 (ovA (fun _=>0) 0 133 P))),.sc md0 q0 (ia F0),.sc .var 133 (ia (ovA (fun _=>0) 0 133 (ovA (fun _=>0) 0 133 P))),.sc .var 1 (fun _=>.int .i64 c),.sc .var 1 (fun _=>.int .i64 (l.getD i 0))],0,hfa,rfl,rfl,rfl,rfl,?_⟩
  refine Yf (Zs rfl rfl (Zj rfl (Yc (⟨l.length - (i+1),_,by omega,(.cons_cons _ (.cons_cons _ (.cons_cons _ (.cons_cons _ (.cons _ (.cons _ (.cons _ .slnil))))))),i+1,some _,by omega,rfl,?_,rfl,rfl,rfl,rfl,rfl,rfl,rfl,rfl,rfl,rfl,rfl,rfl,rfl,rfl,rfl,rfl,rfl⟩))))
  intro j hj
  by_cases e:j=i
  ·subst e; rw [<- q5 (cut2 P)]; simpa using hh
  exact hn j (by omega)
 refine Y0 (Xb (Ze (WO_st1 rfl rfl rfl rfl (.there .here) (Yc (Yi (⟨_,kp rfl rfl ZN rfl (YW),?_⟩))))))
 obtain rfl:i=l.length:=by omega
 refine ⟨?_,(fun _ h=>(.tail _ (.tail _ (.tail _ h))))⟩
 rw [Zao hn]; rfl
def ju (c:Int):Nat->Int:=ov (ov (fun _=>0) 0 6) 1 c
def WU (P:Nat->Int) (c:Int):Bool:=if c=0\/c=1 then (jz P (ju c)).any (QM P (XT c)) else false
theorem w8 (P X:Nat->Int):(jz P X).length<=64:=vK _ 64
theorem tT (P:Nat->Int) (c:Int):WR AM 25 [.agg 133 (ia P),.s (.int .i64 c)] [] (fun v _ _=>v=.s (.bool (WU P c))):=by
 refine YL (a:=a25) rfl rfl (YI _) (ZQ rfl) (m:=0) rfl (Ze (YC rfl (Yq rfl (Yc (Ye (Ze (Zj rfl (Zr rfl (Zk rfl (Ys (t:=7) rfl (fun h2=>?_) (fun h2=>?_))))))))))) <;> simp only [NM] at h2
 ·refine Yb rfl (Zj rfl (Yb rfl (Zr rfl (Zq rfl (Yc (Yj rfl (fun h3=>?_) (fun h3=>?_))))))) <;> simp only [NM] at h3
  ·refine Ze (Yq rfl (Zg rfl ?_))
   unfold WU
   (rw [Zcz (by omega)]; rfl)
  refine Yh (Ye (Yg (Yo rfl rfl ZM (Zj rfl (Yu rfl (YP (VW _)) rfl rfl rfl (Yo rfl rfl ZM (Zj rfl (YB rfl (.one rfl (.one rfl .nil)) (QC rfl (uS P (ju c)) rfl rfl (fun v1 own1 n1 hr1=>XX (caps:=[]) rfl (rC P (XT c) _ (Zcq (w8 _ _) (by decide))) rfl (hr1.rx) (fun _ h=>(ZbV _ h)) rfl rfl rfl (Zk rfl (Zg rfl ?_))))))))))))
  unfold WU
  (rw [ZcA (by omega)]; rfl)
 refine ZD rfl (Zq rfl (Yc (ZB rfl (Yh (Ye (Yg (Yo rfl rfl ZM (Zj rfl (Yu rfl (YP (VW _)) rfl rfl rfl (Yo rfl rfl ZM (Zj rfl (YB rfl (.one rfl (.one rfl .nil)) (QC rfl (uS P (ju c)) rfl rfl (fun v2 own2 n2 hr2=>XX (caps:=[]) rfl (rC P (XT c) _ (Zcq (w8 _ _) (by decide))) rfl (hr2.rx) (fun _ h=>(ZbV _ h)) rfl rfl rfl (Zk rfl (Zg rfl ?_))))))))))))))))
 unfold WU
 (rw [ZcA (by omega)]; rfl)
theorem RR (P:Nat->Int) (c:Int):RF AM 25 [.agg 133 (ia P),.s (.int .i64 c)] (.s (.bool (WU P c))):=YP (tT P c)
def Y1 (P:Nat->Int) (t:Int):Bool:=isM t&&Xf P t
def R9 (P:Nat->Int) (t:Int):Int:=P (sqI t+1)
def U2 (P:Nat->Int) (s c:Int):List Int :=
 (if Y1 P (YT s 0 (1 - 2*c))=true then [YT s 0 (1 - 2*c)] else []) ++
 (if Wh s=1+5*c/\Y1 P (YT s 0 (1 - 2*c))=true/\Y1 P (YT s 0 (2*(1 - 2*c)))=true then [YT s 0 (2*(1 - 2*c))] else []) ++
 (Wk P s).filter fun t=>(!Xf P t&&decide (R9 P t=XT c)) || (Y1 P t&&decide (t=P 130))
def V3 (P:Nat->Int) (c t:Int):Bool:=decide (P (sqI t)=4/\P (sqI t+1)=c)
def XR (P:Nat->Int) (s k c:Int):List Int :=
 if k≠6\/s≠56*c+4\/P 129 < 0\/15 < P 129 then []
 else (if P 129 / Y4 c % 2=1/\V3 P c (s+3)=true/\Y1 P (s+1)=true/\Y1 P (s+2)=true then [s+2] else []) ++
  (if P 129 / (2*Y4 c) % 2=1/\V3 P c (s - 4)=true/\Y1 P (s - 1)=true/\Y1 P (s - 2)=true/\Y1 P (s - 3)=true then [s - 2] else [])
def U5 (P:Nat->Int) (c t:Int):Bool:=!Xf P t&&decide (R9 P t=c)
def XL (P:Nat->Int) (s k c:Int):List Int :=
 if k=1 then U2 P s c else ((Wk P s).filter fun t=>!U5 P c t)++XR P s k c
def endM (k c t:Int):Bool:=decide (k=1/\t / 8=7*(1 - c))
def toM (s k c t:Int):List Mv:=if endM k c t=true then [(s,t,2),(s,t,3),(s,t,4),(s,t,5)] else [(s,t,0)]
def Ww (P:Nat->Int) (s:Int):Bool:=Xm (P (sqI s)) (P (sqI s+1))&&decide (P (sqI s+1)=P 128)
def VT (P:Nat->Int) (s:Int):List Mv:=(XL P s (P (sqI s)) (P (sqI s+1))).flatMap (toM s (P (sqI s)) (P (sqI s+1)))
def UX (P:Nat->Int) (n:Nat):List Mv:=(Wq n).flatMap fun s=>if Ww P s=true then VT P s else []
def Ey (P:Nat->Int):List Mv:=KH (UX P 64)
def fromSv (P:Nat->Int) (s:Int):List Mv:=if (0<=s/\s < 64)/\Ww P s=true then KH (VT P s) else []
def goP (P:Nat->Int) (s t c:Int):Bool :=
 if t=s+8*(1 - 2*c) then Y1 P t
 else if t=s+16*(1 - 2*c)/\s / 8=1+5*c then Y1 P (s+8*(1 - 2*c))&&Y1 P t
 else Kv P s t&&((!Xf P t&&decide (R9 P t=XT c)) || (Y1 P t&&decide (t=P 130)))
def goC (P:Nat->Int) (s t c:Int):Bool :=
 if s≠56*c+4\/P 129 < 0\/15 < P 129 then false
 else if t=s+2 then decide (P 129 / Y4 c % 2=1)&&V3 P c (s+3)&&Y1 P (s+1)&&Y1 P (s+2)
 else decide (t=s - 2)&&decide (P 129 / (2*Y4 c) % 2=1)&&V3 P c (s - 4)&&Y1 P (s - 1)&&Y1 P (s - 2)&&Y1 P (s - 3)
def goK (P:Nat->Int) (s t k c:Int):Bool :=
 if k=1 then goP P s t c else (Kv P s t&&!U5 P c t) || (decide (k=6)&&goC P s t c)
def R6 (P:Nat->Int) (s t:Int):Bool:=Ww P s&&decide (s≠t)&&goK P s t (P (sqI s)) (P (sqI s+1))
def QS (P:Nat->Int) (s:Int) (n:Nat):List Mv:=(Wq n).flatMap fun t=>if R6 P s t=true then toM s (P (sqI s)) (P (sqI s+1)) t else []
def Rn (P:Nat->Int) (n:Nat):List Mv:=(Wq n).flatMap fun s=>QS P s 64
theorem kR {P:Nat->Int} {s t:Int} (h:Kv P s t=true):s≠t:=by
 intro e
 unfold Kv wt at h
 rw [ZcA (.inr e)] at h
 cases h
theorem yr {P:Nat->Int} {s t:Int} (h:Kv P s t=true) (hk:P (sqI s)=1):Vl (t % 8 - s % 8)=1:=by
 unfold Kv wt at h
 rw [hk] at h
 split at h
 ·cases h
 rw [ZcA rfl,Zb7] at h; exact h.1
theorem g6 {P:Nat->Int} {s t:Int} (h:Kv P s t=true) (hk:P (sqI s)=6):Vl (t % 8 - s % 8)<=1:=by
 unfold Kv wt at h
 rw [hk] at h
 split at h
 ·cases h
 rw [Zcz (by decide),Zcz (by decide),ZcA rfl,Zb7] at h; exact h.1
theorem EJ {P:Nat->Int} {s t:Int} (hs:0<=s/\s < 64):t∈Wk P s↔(0<=t/\t < 64)/\Kv P s t=true:=by
 rw [Zar]
 unfold attL
 rw [ZcA hs,Zch]
 unfold Wq
 rw [List.mem_map]
 constructor
 ·rintro ⟨⟨i,hi,rfl⟩,h⟩
  exact ⟨⟨by omega,by have:=Zck.1 hi; omega⟩,h⟩
 rintro ⟨h1,h2⟩
 exact ⟨⟨t.toNat,Zck.2 (by omega),by omega⟩,h2⟩
theorem fromS_nodup {P:Nat->Int} {s:Int}:(Wk P s).Nodup:=by
 unfold Wk
 split
 ·rename_i h
  exact (Q5 _).nodup_iff.2 (y5 h)
 exact .nil
theorem uI {P:Nat->Int} {t:Int} (h:Y1 P t=true):0<=t/\t < 64:=by
 unfold Y1 isM at h
 rw [Zca,Zb7] at h
 exact h.1
theorem KU {s d:Int} (hs:0<=s/\s < 64) (hd:-8 < d/\d < 8):YT s 0 d=if 0<=s+8*d/\s+8*d < 64 then s+8*d else -1:=by
 unfold YT atM
 rw [ZcA ⟨hs,by omega,hd⟩]
 split <;> split <;> omega
theorem Ja {p:Prop} [Decidable p] {x t:Int}:t∈(if p then [x] else [])↔p/\t=x:=by
 split
 ·rename_i h; simp [h]
 rename_i h; simp [h]
theorem rY {P:Nat->Int} {s t c:Int} (hs:0<=s/\s < 64) (hc:c=0\/c=1) (hk:P (sqI s)=1):t∈U2 P s c↔(0<=t/\t < 64)/\goP P s t c=true:=by
 unfold U2 goP
 rw [Zcg,Zcg,Ja,Ja,Zch,EJ hs,KU hs (by omega),KU hs (by omega)]
 have hr:Wh s=s / 8:=ZcA hs
 rw [hr]
 have f0:Y1 P (-1)=false:=rfl
 by_cases h1:t=s+8*(1 - 2*c)
 ·rw [ZcA h1]
  subst h1
  have na:¬ Kv P s (s+8*(1 - 2*c))=true:=fun h=>by
   have:=yr h hk
   unfold Vl at this
   split at this <;> omega
  constructor
  ·rintro ((⟨h2,h3⟩ | ⟨⟨h2,h3,h4⟩,h5⟩) | ⟨⟨_,h⟩,_⟩)
   ·split at h2
    ·rename_i hb; exact ⟨hb,h2⟩
    rw [f0] at h2; cases h2
   ·split at h4
    ·split at h5 <;> omega
    rw [f0] at h4; cases h4
   exact absurd h na
  rintro ⟨h2,h3⟩
  rw [ZcA (by omega)]
  exact .inl (.inl ⟨by rw [show s+8*(1 - 2*c)=s+8*(1 - 2*c) from rfl]; exact h3,rfl⟩)
 rw [Zcz h1]
 have n1:¬ (Y1 P (if 0<=s+8*(1 - 2*c)/\s+8*(1 - 2*c) < 64 then s+8*(1 - 2*c) else -1)=true/\t=if 0<=s+8*(1 - 2*c)/\s+8*(1 - 2*c) < 64 then s+8*(1 - 2*c) else -1):=by
  rintro ⟨h2,h3⟩
  split at h2
  ·rename_i hb; rw [ZcA hb] at h3; exact h1 h3
  rw [f0] at h2; cases h2
 by_cases h2:t=s+16*(1 - 2*c)/\s / 8=1+5*c
 ·rw [ZcA h2]
  obtain ⟨h2,h3⟩:=h2
  have na:¬ Kv P s t=true:=fun h=>by
   have:=yr h hk
   unfold Vl at this
   split at this <;> omega
  rw [ZcA (by omega),ZcA (by omega)]
  constructor
  ·rintro ((h | ⟨⟨_,h4,h5⟩,h6⟩) | ⟨⟨_,h⟩,_⟩)
   ·rw [ZcA (by omega)] at n1; exact absurd h n1
   ·refine ⟨by omega,?_⟩
    rw [h4,Bool.true_and,h6]
    exact h5
   exact absurd h na
  rintro ⟨h4,h5⟩
  rw [Zca] at h5
  refine .inl (.inr ⟨⟨h3,h5.1,?_⟩,by omega⟩)
  rw [show s+8*(2*(1 - 2*c))=t by omega]
  exact h5.2
 rw [Zcz h2]
 have n2:¬ ((s / 8=1+5*c/\Y1 P (if 0<=s+8*(1 - 2*c)/\s+8*(1 - 2*c) < 64 then s+8*(1 - 2*c) else -1)=true/\Y1 P (if 0<=s+8*(2*(1 - 2*c))/\s+8*(2*(1 - 2*c)) < 64 then s+8*(2*(1 - 2*c)) else -1)=true)/\t=if 0<=s+8*(2*(1 - 2*c))/\s+8*(2*(1 - 2*c)) < 64 then s+8*(2*(1 - 2*c)) else -1):=by
  rintro ⟨⟨h3,h4,h5⟩,h6⟩
  split at h5
  ·rename_i hb
   rw [ZcA hb] at h6
   exact h2 ⟨by omega,h3⟩
  rw [f0] at h5; cases h5
 simp only [n1,n2,false_or,Zca,and_assoc]
theorem ut {P:Nat->Int} {s c:Int} (hs:0<=s/\s < 64) (hc:c=0\/c=1) (hk:P (sqI s)=1):(U2 P s c).Nodup:=by
 have f0:Y1 P (-1)=false:=rfl
 unfold U2
 rw [List.nodup_append,List.nodup_append]
 refine ⟨⟨by split <;> simp,by split <;> simp,fun a ha b hb e=>?_⟩,fromS_nodup.filter _,fun a ha b hb e=>?_⟩
 ·rw [Ja] at ha hb
  subst e
  have h1:=uI ha.1
  have h2:=uI hb.1.2.2
  have e1:=ha.2
  have e2:=hb.2
  rw [KU hs (by omega)] at h1 e1
  rw [KU hs (by omega)] at h2 e2
  split at h1 <;> split at h2 <;> omega
 subst e
 have hb:=(EJ hs).1 (Zch.1 hb).1
 have ht:=yr hb.2 hk
 rw [Zcg,Ja,Ja,KU hs (by omega),KU hs (by omega)] at ha
 unfold Vl at ht
 have hb:=hb.1
 rcases ha with ⟨_,e⟩ | ⟨_,e⟩
 ·split at e <;> split at ht <;> omega
 split at e <;> split at ht <;> omega
theorem E2 {P:Nat->Int} {s t k c:Int} (hk:k=6):t∈XR P s k c↔goC P s t c=true:=by
 unfold XR goC
 by_cases h:s≠56*c+4\/P 129 < 0\/15 < P 129
 ·rw [ZcA h,ZcA (.inr h)]; simp
 have hn:¬ (k≠6\/s≠56*c+4\/P 129 < 0\/15 < P 129):=by
  rintro (h' | h')
  ·exact h' hk
  exact h h'
 rw [Zcz h,Zcz hn,Zcg,Ja,Ja]
 by_cases h2:t=s+2
 ·rw [ZcA h2]
  have:¬ t=s - 2:=by omega
  simp [h2,this,and_assoc]
  omega
 rw [Zcz h2]
 simp [h2,and_assoc]
 constructor
 ·rintro ⟨a,b,c,d,e,f⟩; exact ⟨f,a,b,c,d,e⟩
 rintro ⟨f,a,b,c,d,e⟩; exact ⟨a,b,c,d,e,f⟩
theorem Tx {P:Nat->Int} {s k c:Int} (hk:k≠6):XR P s k c=[]:=ZcA (.inl hk)
theorem goC_bd {P:Nat->Int} {s t c:Int} (hc:c=0\/c=1) (h:goC P s t c=true):(0<=t/\t < 64)/\s≠t:=by
 unfold goC at h
 split at h
 ·cases h
 split at h <;> simp at h <;> omega
theorem z7 {P:Nat->Int} {s t:Int} (hs:0<=s/\s < 64) (hm:Ww P s=true):t∈XL P s (P (sqI s)) (P (sqI s+1))↔(0<=t/\t < 64)/\R6 P s t=true:=by
 unfold R6
 rw [hm,Bool.true_and,Zca,Zb7]
 have hc:P (sqI s+1)=0\/P (sqI s+1)=1:=by
  unfold Ww Xm at hm
  simp only [Zca,Zb7] at hm
  omega
 unfold XL goK
 by_cases hk:P (sqI s)=1
 ·rw [ZcA hk,ZcA hk,rY hs hc hk]
  constructor
  ·rintro ⟨h1,h2⟩
   refine ⟨h1,fun e=>?_,h2⟩
   subst e
   unfold goP at h2
   rw [Zcz (by omega),Zcz (by omega),Zca] at h2
   exact kR h2.1 rfl
  rintro ⟨h1,_,h2⟩
  exact ⟨h1,h2⟩
 rw [Zcz hk,Zcz hk,Zcg,Zch,EJ hs]
 by_cases h6:P (sqI s)=6
 ·rw [E2 h6,Bool.or_eq_true,Zca,Zca,Zb7]
  constructor
  ·rintro (⟨⟨h1,h2⟩,h3⟩ | h)
   ·exact ⟨h1,kR h2,.inl ⟨h2,h3⟩⟩
   have:=goC_bd hc h
   exact ⟨this.1,this.2,.inr ⟨h6,h⟩⟩
  rintro ⟨h1,_,⟨h2,h3⟩ | ⟨_,h⟩⟩
  ·exact .inl ⟨⟨h1,h2⟩,h3⟩
  exact .inr h
 rw [Tx h6,Bool.or_eq_true,Zca,Zca,Zb7]
 constructor
 ·rintro (⟨⟨h1,h2⟩,h3⟩ | h)
  ·exact ⟨h1,kR h2,.inl ⟨h2,h3⟩⟩
  cases h
 rintro ⟨h1,_,⟨h2,h3⟩ | ⟨h,_⟩⟩
 ·exact .inl ⟨⟨h1,h2⟩,h3⟩
 exact absurd h h6
theorem jc {P:Nat->Int} {s:Int} (hs:0<=s/\s < 64) (hm:Ww P s=true):(XL P s (P (sqI s)) (P (sqI s+1))).Nodup:=by
 have hc:P (sqI s+1)=0\/P (sqI s+1)=1:=by
  unfold Ww Xm at hm
  simp only [Zca,Zb7] at hm
  omega
 unfold XL
 by_cases hk:P (sqI s)=1
 ·rw [ZcA hk]; exact ut hs hc hk
 rw [Zcz hk,List.nodup_append]
 refine ⟨fromS_nodup.filter _,?_,fun a ha b hb e=>?_⟩
 ·unfold XR
  split
  ·exact .nil
  rw [List.nodup_append]
  refine ⟨by split <;> simp,by split <;> simp,fun a ha b hb e=>?_⟩
  rw [Ja] at ha hb
  omega
 subst e
 by_cases h6:P (sqI s)=6
 ·rw [E2 h6] at hb
  have ha:=(EJ hs).1 (Zch.1 ha).1
  have hka:=g6 ha.2 h6
  have ha:=ha.1
  unfold goC at hb
  unfold Vl at hka
  split at hb
  ·cases hb
  split at hb
  ·split at hka <;> omega
  simp at hb
  split at hka <;> omega
 rw [Tx h6] at hb; cases hb
theorem JN {s k c t:Int} {m:Mv} (h:m∈toM s k c t):m.1=s/\m.2.1=t:=by
 unfold toM at h
 split at h <;> simp at h
 ·rcases h with rfl | rfl | rfl | rfl <;> exact ⟨rfl,rfl⟩
 subst h; exact ⟨rfl,rfl⟩
theorem rV (s k c t:Int):(toM s k c t).Pairwise lt3:=by
 unfold toM
 split <;> simp [lt3]
theorem Zbv (P:Nat->Int) (s:Int) (n:Nat):(QS P s n).Pairwise lt3:=by
 unfold QS
 rw [List.pairwise_flatMap]
 refine ⟨fun t _=>?_,?_⟩
 ·split
  ·exact rV _ _ _ _
  exact .nil
 unfold Wq
 rw [List.pairwise_map]
 refine List.pairwise_lt_range.imp fun h x hx y hy=>?_
 split at hx
 ·split at hy
  ·have h1:=JN hx; have h2:=JN hy
   unfold lt3; omega
  cases hy
 cases hx
theorem Jb {P:Nat->Int} {s:Int} {n:Nat} {m:Mv} (h:m∈QS P s n):m.1=s:=by
 unfold QS at h
 rw [List.mem_flatMap] at h
 obtain ⟨t,_,h⟩:=h
 split at h
 ·exact (JN h).1
 cases h
theorem tf (P:Nat->Int) (n:Nat):(Rn P n).Pairwise lt3:=by
 unfold Rn
 rw [List.pairwise_flatMap]
 refine ⟨fun s _=>Zbv P s 64,?_⟩
 unfold Wq
 rw [List.pairwise_map]
 refine List.pairwise_lt_range.imp fun h x hx y hy=>?_
 have h1:=Jb hx; have h2:=Jb hy
 unfold lt3; omega
theorem mem64 {t:Int}:t∈Wq 64↔0<=t/\t < 64:=by
 unfold Wq
 rw [List.mem_map]
 constructor
 ·rintro ⟨i,hi,rfl⟩; have:=Zck.1 hi; omega
 intro h; exact ⟨t.toNat,Zck.2 (by omega),by omega⟩
theorem JG {P:Nat->Int} {s:Int} (hs:0<=s/\s < 64) (hm:Ww P s=true) (m:Mv):m∈VT P s↔m∈QS P s 64:=by
 unfold VT QS
 rw [List.mem_flatMap,List.mem_flatMap]
 constructor
 ·rintro ⟨t,h1,h2⟩
  obtain ⟨h3,h4⟩:=(z7 hs hm).1 h1
  exact ⟨t,mem64.2 h3,by rw [ZcA h4]; exact h2⟩
 rintro ⟨t,h1,h2⟩
 split at h2
 ·rename_i h4
  exact ⟨t,(z7 hs hm).2 ⟨mem64.1 h1,h4⟩,h2⟩
 cases h2
theorem vi {P:Nat->Int} {s:Int} (hs:0<=s/\s < 64) (hm:Ww P s=true):(VT P s).Nodup:=by
 unfold VT
 unfold List.Nodup
 rw [List.pairwise_flatMap]
 refine ⟨fun t _=>(rV _ _ _ _).imp fun h e=>by subst e; exact we _ _ h h,(jc hs hm).imp fun h x hx y hy e=>?_⟩
 subst e
 exact h ((JN hx).2.symm.trans (JN hy).2)
theorem sO {P:Nat->Int} {s:Int} (hm:¬ Ww P s=true) (n:Nat):QS P s n=[]:=by
 unfold QS
 rw [List.flatMap_eq_nil_iff]
 intro t _
 rw [Zcz]
 unfold R6
 simp [hm]
theorem allS_is (P:Nat->Int):Ey P=Rn P 64:=by
 unfold Ey
 refine srt3_is ?_ (tf P 64) fun m=>?_
 ·unfold UX List.Nodup
  rw [List.pairwise_flatMap]
  refine ⟨fun s hs=>?_,?_⟩
  ·split
   ·rename_i hm; exact vi (mem64.1 hs) hm
   exact .nil
  unfold Wq
  rw [List.pairwise_map]
  refine List.pairwise_lt_range.imp_of_mem fun {a b} ha hb h x hx y hy e=>?_
  subst e
  split at hx
  ·split at hy
   ·rename_i m1 m2
    have ha:=Zck.1 ha
    have hb:=Zck.1 hb
    have h1:=Jb ((JG (by omega) m1 _).1 hx)
    have h2:=Jb ((JG (by omega) m2 _).1 hy)
    omega
   cases hy
  cases hx
 unfold UX Rn
 rw [List.mem_flatMap,List.mem_flatMap]
 constructor
 ·rintro ⟨s,hs,h⟩
  split at h
  ·rename_i hm; exact ⟨s,hs,(JG (mem64.1 hs) hm m).1 h⟩
  cases h
 rintro ⟨s,hs,h⟩
 by_cases hm:Ww P s=true
 ·exact ⟨s,hs,by rw [ZcA hm]; exact (JG (mem64.1 hs) hm m).2 h⟩
 rw [sO hm] at h; cases h
def Qd (p:Nat->Bool):Nat->Int
 | 0=>-1
 | n+1=>if Qd p n=-1 then (if p n=true then n else -1) else Qd p n
theorem DQ {p:Nat->Bool}:∀ {n:Nat},(∀ j,j < n->p j=false)->Qd p n=-1
 | 0,_=>rfl
 | n+1,h=>by
  unfold Qd
  rw [ZcA (DQ fun j hj=>h j (by omega)),h n (by omega)]; rfl
theorem ti {p:Nat->Bool} {i:Nat}:∀ {n:Nat},i < n->p i=true->(∀ j,j < i->p j=false)->Qd p n=i
 | 0,h,_,_=>by omega
 | n+1,h,hp,hn=>by
  unfold Qd
  by_cases e:i=n
  ·subst e
   rw [ZcA (DQ hn),ZcA hp]
  rw [ti (by omega) hp hn,Zcz (by omega)]
theorem tF {p:Nat->Bool}:∀ {n:Nat},0<=Qd p n↔∃ i,i < n/\p i=true
 | 0=>by simp [Qd]
 | n+1=>by
  have ih:=tF (p:=p) (n:=n)
  unfold Qd
  by_cases h:Qd p n=-1
  ·rw [ZcA h]
   have hn:¬ ∃ i,i < n/\p i=true:=fun hx=>by have:=ih.2 hx; omega
   by_cases hp:p n=true
   ·rw [ZcA hp]; exact ⟨fun _=>⟨n,by omega,hp⟩,fun _=>by omega⟩
   rw [Zcz hp]
   constructor
   ·intro h; omega
   rintro ⟨i,hi,hx⟩
   by_cases e:i=n
   ·subst e; exact absurd hx hp
   exact absurd ⟨i,by omega,hx⟩ hn
  rw [Zcz h,ih]
  constructor
  ·rintro ⟨i,hi,h⟩; exact ⟨i,by omega,h⟩
  rintro ⟨i,hi,hp⟩
  by_cases e:i=n
  ·have hlo:-1<=Qd p n:=fstI_lo n
   exact ih.1 (by omega)
  exact ⟨i,by omega,hp⟩
 where
 fstI_lo:∀ n,-1<=Qd p n
  | 0=>Int.le_refl _
  | n+1=>by
   have:=fstI_lo n
   unfold Qd
   split
   ·split <;> omega
   exact this
theorem sh {md:Md} (M:Nat->Int) (t:Int):WR AM 190 [.s (.int .i64 t),.ptr 0 0 136] [.sc md 136 (ia M)] (fun v _ L=>v=.s (.bool (!Y1 M t))/\(0,Blk.sc md 136 (ia M))∈L):=by
 refine YL (a:=a190) rfl rfl (YI _) (ZQ rfl) (m:=1) rfl (Ze (Yq rfl (Zf (Zj rfl (Yt rfl (U4 _) rfl rfl rfl (Yv (r:=.bool _) rfl rfl (Zk rfl (Ys (t:=7) rfl (fun h1=>?_) (fun h1=>?_))))))))) <;> simp only [NM] at h1
 ·try simp only [isM,Zb7,ZbJ] at h1
  refine ZE rfl (ZD rfl (ZC rfl (Zq rfl (Zk rfl (Zg rfl (⟨ZI ?_,ZM⟩))))))
  unfold Y1 isM
  (rw [Zci (by assumption)]; rfl)
 try simp only [isM,Zb7,ZbJ] at h1
 refine Yb rfl (Zj rfl (Yb rfl (Zy rfl (Yb rfl (Zy rfl (Yb rfl (Zw rfl rfl rfl (Yb rfl (Yp rfl rfl ZM (Yb rfl (YB rfl .nil (Yb rfl (Yw rfl rfl (Zq rfl (Zk rfl (Zg rfl (⟨ZI ?_,ZM⟩)))))))))))))))))
 unfold Y1 isM
 (rw [Zcl (by assumption),Bool.true_and]; rfl)
theorem ud {md md2:Md} {q:Nat} {c:Cp} (K M:Nat->Int) (nn:Nat) (hnn:nn<=1000000):WR AM 174 [.sl 0 0 nn 1 c,.fn 190 [.ptr 1 0 136]] [.sc md q (ia K),.sc md2 136 (ia M)] (fun v _ L=>v=.s (.int .i64 (Qd (fun j=>!Y1 M (K j)) nn))/\(0,Blk.sc md q (ia K))∈L/\(1,Blk.sc md2 136 (ia M))∈L):=by
 refine YL (a:=a174) rfl rfl (YI _) (ZQ rfl) (m:=2) rfl (Ze (Yq rfl (Yc (Ye (Ze (Zn rfl (WX rfl (Yq rfl (Yc (Yk (Xo (.refl _) (Xu (fun m f _ L=>∃ (i:Nat),(i<=nn)/\(m=nn - i)/\(∀ j,j < i->(!Y1 M (K j))=false)/\(f 0=.sl 0 0 nn 1 c)/\(f 1=.fn 190 [.ptr 1 0 136])/\(f 7=.s (.int .i64 nn))/\(f 8=.s (.int .i64 i))/\(L=[(0,.sc md q (ia K)),(1,.sc md2 136 (ia M))])) (fun m f nb L hI=>?_) (nn) (⟨0,by omega,by omega,fun j hj=>by omega,rfl,rfl,rfl,rfl,rfl⟩)))))))))))))
 obtain ⟨i,hi,hm,hn,k0,k1,k7,k8,rfl⟩:=hI
 refine Za 0 k0 (Za 1 k1 (Za 7 k7 (Za 8 k8 (Ze (Zr rfl (Yc (Ye (Yj rfl (fun h2=>?_) (fun h2=>?_))))))))) <;> simp only [NM] at h2
 ·refine Yh (Ye (Yk (Ze (Zj rfl (Zj rfl (Zf (Yq (v:=.fn _ _) rfl (Zn rfl (Zj rfl (Zx rfl rfl (Ym (x:=K i) rfl rfl ZM (by rw [show 0+(i:Int).toNat*1=i by omega]) (Wr (rs:=[1]) (Bs:=[.sc md2 136 (ia M)]) rfl (V4 (sh M (K i))) rfl rfl (YF rfl) (fun _ h=>h) rfl ⟨ZN,⟨_,_,_,rfl⟩,trivial⟩ rfl rfl rfl (.cons (.there .here) .nil) (Yc (Yj rfl (fun h3=>?_) (fun h3=>?_))))))))))))))) <;> simp only [NM] at h3
  ·refine Ze (Zj rfl (Zj rfl (Yc (Yi (⟨_,ZL rfl,?_⟩)))))
   refine ⟨ZJ ?_,ZM,ZN⟩
   exact (ti (i:=i) (by omega) (by simp [*]) hn).symm
  refine Yh (Yf (Zs rfl rfl (Zj rfl (Yc (⟨nn - (i+1),_,by omega,(.refl _),i+1,by omega,rfl,?_,rfl,rfl,rfl,rfl,rfl⟩)))))
  intro j hj
  by_cases e:j=i
  ·subst e; simp [*]
  exact hn j (by omega)
 refine Y0 (Xb (Ze (Yq rfl (Yc (Yi (⟨_,ZL rfl,?_⟩))))))
 refine ⟨ZJ ?_,ZM,ZN⟩
 exact (DQ fun j hj=>hn j (by omega)).symm
theorem wC {md md2:Md} {q:Nat} {c:Cp} (K M:Nat->Int) (nn:Nat) (hnn:nn<=1000000):WR AM 189 [.sl 0 0 nn 1 c,.fn 190 [.ptr 1 0 136]] [.sc md q (ia K),.sc md2 136 (ia M)] (fun v _ L=>v=.s (.bool (decide (0<=Qd (fun j=>!Y1 M (K j)) nn)))/\(0,Blk.sc md q (ia K))∈L/\(1,Blk.sc md2 136 (ia M))∈L):=by
 refine YL (a:=a189) rfl rfl (YI _) (ZQ rfl) (m:=2) rfl (Ze (Yq rfl (Zf (Zn rfl (Yq (v:=.fn _ _) rfl (Vy (rs:=[0,1]) (Bs:=[.sc md q (ia K),.sc md2 136 (ia M)]) rfl (kZ (ud K M nn hnn)) rfl rfl (YF rfl) (fun _ h=>h) rfl ⟨ZM,⟨_,_,_,rfl⟩,ZN,⟨_,_,_,rfl⟩,trivial⟩ rfl rfl rfl (.cons .here (.cons (.there .here) .nil)) (Zr rfl (Zk rfl (Zg rfl ?_)))))))))
 exact ⟨rfl,ZM,ZN⟩
theorem o9 {md:Md} {q:Nat} {c:Cp} (K M:Nat->Int) (nn:Nat) (hnn:nn<=1000000):WR AM 173 [.agg 136 (ia M),.sl 0 0 nn 1 c] [.sc md q (ia K)] (fun v _ L=>v=.s (.bool (!decide (0<=Qd (fun j=>!Y1 M (K j)) nn)))/\(0,Blk.sc md q (ia K))∈L):=by
 refine YL (a:=a173) rfl rfl (YI _) (ZQ rfl) (m:=1) rfl (Ze (YC rfl (Yq rfl (Zf (Zn rfl (KF rfl (Vy (rs:=[0,1]) (Bs:=[.sc md q (ia K),.sc .var 136 (ia M)]) rfl (kZ (wC K M nn hnn)) rfl rfl (YF rfl) (fun _ h=>h) rfl ⟨ZN,⟨_,_,_,rfl⟩,ZM,⟨_,_,_,rfl⟩,trivial⟩ rfl rfl rfl (.cons (.there .here) (.cons .here .nil)) (Yv (r:=.bool _) rfl rfl (Zk rfl (Zg rfl ?_))))))))))
 exact ⟨rfl,ZN⟩
theorem free_l {M K:Nat->Int} {l:List Int} (hK:∀ i,i < l.length->K i=l.getD i 0):(!decide (0<=Qd (fun j=>!Y1 M (K j)) l.length))=l.all (Y1 M):=by
 rw [Zce,Zb6,ZbJ,tF,Zcc]
 constructor
 ·intro h x hx
  obtain ⟨j,hj,rfl⟩:=List.mem_iff_getElem.1 hx
  cases hf:Y1 M l[j] with
  | true=>rfl
  | false=>exact absurd ⟨j,hj,by rw [hK j hj,ZbD,ZbH hj]; simp [hf]⟩ h
 rintro h ⟨j,hj,hx⟩
 rw [hK j hj,ZbD,ZbH hj] at hx
 have:=h _ (List.getElem_mem hj)
 simp [this] at hx
theorem free_rb {md:Md} {q:Nat} {c:Cp} (K M:Nat->Int) (l:List Int) (hK:∀ i,i < l.length->K i=l.getD i 0) (hl:l.length<=1000000):RB AM 173 [.agg 136 (ia M),.sl 0 0 l.length 1 c] [.sc md q (ia K)] (.s (.bool (l.all (Y1 M)))) [.sc md q (ia K)]:=by
 have:=V4 (o9 (md:=md) (q:=q) (c:=c) K M l.length hl)
 rw [free_l hK] at this
 exact this
end Go.Proofs.YtlkighkfkdpncaaGreatDoor
