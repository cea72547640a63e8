/- Texts of this seat,joined. -/
import Derived.Test.YtlkighkfkdpncaaGreatDoorM2
set_option linter.defProp false
set_option linter.unusedSimpArgs false
set_option linter.unusedVariables false
namespace Go.Proofs.YtlkighkfkdpncaaGreatDoor
open Go Go.Am
def pE{c:Int}(h:0<=c/\c<=15):Wc .shr (.int .i64 c) (.int .i64 0)=some (.int .i64 (c/1)):=by
 have:c=0\/c=1\/c=2\/c=3\/c=4\/c=5\/c=6\/c=7\/c=8\/c=9\/c=10\/c=11\/c=12\/c=13\/c=14\/c=15:=by omega
 rcases this with rfl|rfl|rfl|rfl|rfl|rfl|rfl|rfl|rfl|rfl|rfl|rfl|rfl|rfl|rfl|rfl <;> rfl
def oU{c:Int}(h:0<=c/\c<=15):Wc .shr (.int .i64 c) (.int .i64 1)=some (.int .i64 (c/2)):=by
 have:c=0\/c=1\/c=2\/c=3\/c=4\/c=5\/c=6\/c=7\/c=8\/c=9\/c=10\/c=11\/c=12\/c=13\/c=14\/c=15:=by omega
 rcases this with rfl|rfl|rfl|rfl|rfl|rfl|rfl|rfl|rfl|rfl|rfl|rfl|rfl|rfl|rfl|rfl <;> rfl
def pG{c:Int}(h:0<=c/\c<=15):Wc .shr (.int .i64 c) (.int .i64 2)=some (.int .i64 (c/4)):=by
 have:c=0\/c=1\/c=2\/c=3\/c=4\/c=5\/c=6\/c=7\/c=8\/c=9\/c=10\/c=11\/c=12\/c=13\/c=14\/c=15:=by omega
 rcases this with rfl|rfl|rfl|rfl|rfl|rfl|rfl|rfl|rfl|rfl|rfl|rfl|rfl|rfl|rfl|rfl <;> rfl
def pk{c:Int}(h:0<=c/\c<=15):Wc .shr (.int .i64 c) (.int .i64 3)=some (.int .i64 (c/8)):=by
 have:c=0\/c=1\/c=2\/c=3\/c=4\/c=5\/c=6\/c=7\/c=8\/c=9\/c=10\/c=11\/c=12\/c=13\/c=14\/c=15:=by omega
 rcases this with rfl|rfl|rfl|rfl|rfl|rfl|rfl|rfl|rfl|rfl|rfl|rfl|rfl|rfl|rfl|rfl <;> rfl
def R8{c:Int}(h:0<=c/\c<=15):Wc .and (.int .i64 c) (.int .i64 1)=some (.int .i64 (c%2)):=by
 have:c=0\/c=1\/c=2\/c=3\/c=4\/c=5\/c=6\/c=7\/c=8\/c=9\/c=10\/c=11\/c=12\/c=13\/c=14\/c=15:=by omega
 rcases this with rfl|rfl|rfl|rfl|rfl|rfl|rfl|rfl|rfl|rfl|rfl|rfl|rfl|rfl|rfl|rfl <;> rfl
def Xd(P:Nat->Int)(x k c:Int):Bool:=decide (P (sqI x)=k/\P (sqI x+1)=c)
def QK{X Y:Nat->Int}:eqI 2 X Y=decide (X 0=Y 0/\X 1=Y 1):=by
 rw[Zce,Qo,Zb7];constructor
 ·intro h;exact⟨h 0 (by omega),h 1 (by omega)⟩
 rintro⟨h0,h1⟩ i hi;have:i=0\/i=1:=by omega
 rcases this with rfl|rfl
 ·exact h0
 exact h1
def okM(P:Nat->Int)(s:Nat):Prop:=(P (sqI s)=0/\P (sqI s+1)=0)\/((1<=P (sqI s)/\P (sqI s)<=6/\(P (sqI s+1)=0\/P (sqI s+1)=1))/\¬ (P (sqI s)=1/\(s<8\/56<=s)))
def kM(P:Nat->Int)(c:Int):Nat->Int
 |0=>0
 |n+1=>kM P c n+(if P (sqI n)=6/\P (sqI n+1)=c then 1 else 0)
def jA(P:Nat->Int)(c:Int):∀ n:Nat,0<=kM P c n/\kM P c n<=n
 |0=>⟨Int.le_refl _,Int.le_refl _⟩
 |n+1=>by
  have:=jA P c n;unfold kM;split <;> omega
instance (P:Nat->Int) (s:Nat):Decidable (okM P s):=by unfold okM;infer_instance
def Vg(P:Nat->Int):Bool:=decide ((∀ s:Nat,s<64->okM P s)/\kM P 0 64=1/\kM P 1 64=1/\(P 128=0\/P 128=1))
def U3{P:Nat->Int}(h:¬ ((∀ s:Nat,s<64->okM P s)/\kM P 0 64=1/\kM P 1 64=1/\(P 128=0\/P 128=1))):Vg P=false:=by
 unfold Vg;exact Zci h
def EU{P:Nat->Int}(h:(∀ s:Nat,s<64->okM P s)/\kM P 0 64=1/\kM P 1 64=1/\(P 128=0\/P 128=1)):Vg P=true:=by
 unfold Vg;exact Zcl h
def qh{P:Nat->Int}(h:Vg P=true):(∀ s:Nat,s<64->okM P s)/\kM P 0 64=1/\kM P 1 64=1/\(P 128=0\/P 128=1):=by
 unfold Vg at h;exact of_decide_eq_true h
def KM{P:Nat->Int}{i:Nat}(h:∀ s:Nat,s<i->okM P s)(hi:okM P i):∀ s:Nat,s<i+1->okM P s:=fun s hs=>by
 by_cases e:s=i
 ·subst e;exact hi
 exact h s (by omega)
def En{P C:Nat->Int}{i:Nat}(h0:C 0=kM P 0 i)(h1:C 1=kM P 1 i)(hk:¬ P (sqI i)=6):C 0=kM P 0 (i+1)/\C 1=kM P 1 (i+1):=by
 unfold kM;rw[Zcz (fun q=>hk q.1),Zcz (fun q=>hk q.1)];omega
def D8{P C:Nat->Int}{i:Nat}(h0:C 0=kM P 0 i)(h1:C 1=kM P 1 i)(hk:P (sqI i)=6)(hc:P (sqI i+1)=0\/P (sqI i+1)=1):ov C (0+(P (sqI i+1)).toNat*1) (C (0+(P (sqI i+1)).toNat*1)+1) 0=kM P 0 (i+1)/\ov C (0+(P (sqI i+1)).toNat*1) (C (0+(P (sqI i+1)).toNat*1)+1) 1=kM P 1 (i+1):=by
 unfold kM;rcases hc with hc|hc
 ·rw[ZcA ⟨hk,hc⟩,Zcz (by omega),hc];exact⟨by show C 0+1=_;omega,by show C 1=_;omega⟩
 rw[Zcz (by omega),ZcA ⟨hk,hc⟩,hc];exact⟨by show C 0=_;omega,by show C 1+1=_;omega⟩
def wR{P C:Nat->Int}{i:Nat}(h0:C 0=kM P 0 i)(h1:C 1=kM P 1 i)(hi:i<=64)(hc:P (sqI i+1)=0\/P (sqI i+1)=1):-9223372036854775808<=C (0+(P (sqI i+1)).toNat*1)+1/\C (0+(P (sqI i+1)).toNat*1)+1<=9223372036854775807:=by
 have:=jA P 0 i;have:=jA P 1 i;rcases hc with hc|hc
 ·rw[hc];show _<=C 0+1/\C 0+1<=_;omega
 rw[hc];show _<=C 1+1/\C 1+1<=_;omega
def dp_ix{P:Nat->Int}{i:Nat}:(fun j=>ia P ((i:Int).toNat*2+j))=ia (dp P (sqI i)):=by
 funext j;show _=ia P (0+(i:Int).toNat*2+j);rw[Zcp]
def ovA2{F X:Nat->Int}:ovA F 0 2 X 0=X 0/\ovA F 0 2 X 1=X 1:=⟨rfl,rfl⟩
def VI(P:Nat->Int)(s a b:Int):Bool:=decide (P (sqI a)=6/\P (sqI a+1)=s/\P (sqI b)=4/\P (sqI b+1)=s)
def X2(P:Nat->Int):Bool:=decide ((0<=P 129/\P 129<=15)/\(P 129%2=0\/VI P 0 4 7=true)/\(P 129/2%2=0\/VI P 0 4 0=true)/\(P 129/4%2=0\/VI P 1 60 63=true)/\(P 129/8=0\/VI P 1 60 56=true))
def WA(P:Nat->Int):Bool:=decide (P 130=-1\/((0<=P 130/\P 130<64)/\P 131=0/\((P 128=1/\P 130/8=2/\Xd P (P 130) 0 0=true/\Xd P (P 130-8) 0 0=true/\Xd P (P 130+8) 1 0=true)\/(P 128=0/\P 130/8=5/\Xd P (P 130) 0 0=true/\Xd P (P 130+8) 0 0=true/\Xd P (P 130-8) 1 1=true))))
def QJ(P:Nat->Int):Bool:=Vg P&&X2 P&&WA P&&decide (0<=P 131/\P 131<=1024/\1<=P 132/\P 132<=16384)
def Q6{x r:Int}(h:Wh x=r)(hr:0<=r):(0<=x/\x<64)/\x/8=r:=by
 unfold Wh at h;split at h
 ·exact⟨by assumption,h⟩
 omega
def tC{x d:Int}(hx:0<=x/\x<64)(h:0<=x/8+d/\x/8+d<8):YT x 0 d=x+8*d:=by
 unfold YT atM;rw[ZcA ⟨hx,by omega,by omega⟩,ZcA (by omega)];omega
def W8(P:Nat->Int)(k s x:Int)(hx:0<=x/\x<64):WR AM 150 [.agg 133 (ia P),.s (.int .i64 k),.s (.int .i64 s),.s (.int .i64 x)] [] (fun v _ _=>v=.s (.bool (Xd P x k s))):=by
 refine YL (a:=a150) G G (YI _) (ZQ G) (m:=0) G (Ze (YC G (Yq G (Zf (Zj G (Zy G (Zy G (Zw G G G (Yp G G ZM (Zj G (Zj G (YB G (.one G (.one G .nil)) (Yw G G (Zk G (Zg G (ZI ?_))))))))))))))));exact QK
def Zdw(X:Nat->Int):WR AM 144 [.agg 2 (ia X)] [] (fun v _ _=>v=.s (.bool (decide (X 0=0/\X 1=0)))):=by
 refine YL (a:=a144) G G (YI _) (ZQ G) (m:=0) G (Ze (YC G (Yq G (Zf (Yo G G ZM (YB G .nil (Yw G G (Zk G (Zg G (ZI ?_))))))))));exact QK
def ER{md:Md}(P:Nat->Int)(x:Int)(hx:0<=x/\x<64):WR AM 151 [.s (.int .i64 x),.ptr 0 0 133] [.sc md 133 (ia P)] (fun v _ L=>v=.s (.bool (Xd P x 0 0))/\(0,Blk.sc md 133 (ia P))∈L):=by
 refine YL (a:=a151) G G (YI _) (ZQ G) (m:=1) G (Ze (Yq G (Zf (Zj G (Zy G (Zy G (Zw G G G (Yp G G ZM (YB G .nil (Yw G G (Zk G (Zg G (⟨ZI ?_,ZM⟩)))))))))))));exact QK
def uj(P:Nat->Int)(s a b:Int)(ha:0<=a/\a<64)(hb:0<=b/\b<64):WR AM 145 [.agg 133 (ia P),.s (.int .i64 s),.s (.int .i64 a),.s (.int .i64 b)] [] (fun v _ _=>v=.s (.bool (VI P s a b))):=by
 refine YL (a:=a145) G G (YI _) (ZQ G) (m:=0) G (Ze (YC G (Yq G (Zf (Zj G (Zy G (Zw G G G (Yp G G ZM (Zj G (YB G (.one G (.one G .nil)) (Yw G G (Zk G (Ys (t:=16) G (fun h1=>?_) (fun h1=>?_)))))))))))))) <;> simp only[NM]at h1
 ·try simp only[QK,Zb7,ZbJ,Xm,isM]at h1
  refine Yb G (Zj G (Yb G (Zy G (Yb G (Zw G G G (Yb G (Yp G G ZM (Yb G (Zj G (Yb G (YB G (.one G (.one G .nil)) (Yb G (Yw G G (Zq G (Zk G (Zg G (ZI ?_)))))))))))))))));(show eqI 2 _ _=_;rw[QK]);rw[Zce];simp only[VI,Zb7,Zb1,Zcv];have q0:ov (ov (fun _=>0) 0 6) 1 s 0=6:=rfl;have q1:ov (ov (fun _=>0) 0 6) 1 s 1=s:=rfl;have q2:ov (ov (fun _=>0) 0 4) 1 s 0=4:=rfl;have q3:ov (ov (fun _=>0) 0 4) 1 s 1=s:=rfl;simp only[q0,q1,q2,q3,dp,Nat.add_zero,sqI]at *;omega
 try simp only[QK,Zb7,ZbJ,Xm,isM]at h1
 refine ZE G (ZD G (ZC G (Zq G (Zk G (Zg G (ZI ?_))))));skip;rw[Zce];simp only[VI,Zb7,Zb1,Zcv];have q0:ov (ov (fun _=>0) 0 6) 1 s 0=6:=rfl;have q1:ov (ov (fun _=>0) 0 6) 1 s 1=s:=rfl;have q2:ov (ov (fun _=>0) 0 4) 1 s 0=4:=rfl;have q3:ov (ov (fun _=>0) 0 4) 1 s 1=s:=rfl;simp only[q0,q1,q2,q3,dp,Nat.add_zero,sqI]at *;omega
def Zep(P:Nat->Int):WR AM 119 [.agg 133 (ia P)] [] (fun v _ _=>v=.s (.bool (X2 P))):=by
 refine YL (a:=a119) G G (YI _) (ZQ G) (m:=0) G (Ze (YC G (Yq G (Zf (Yd (o':=129) G G G (Ym G G ZM G (Zj G (Yc (Ye (Ze (Zj G (Zr G (Zk G (Ys (t:=8) G (fun h2=>?_) (fun h2=>?_))))))))))))))) <;> simp only[NM]at h2
 ·refine ZD G (Zq G (Yc (ZA G (Ze (Yq G (Zg G (ZI ?_)))))));rw[Zce];simp only[X2,VI,Zb7,Zb1,Zcv,Zcx];omega
 refine Yb G (Zj G (Yb G (Zr G (Zq G (Yc (Yj G (fun h3=>?_) (fun h3=>?_))))))) <;> simp only[NM]at h3
 ·refine Ze (Yq G (Zg G (ZI ?_)));rw[Zce];simp only[X2,VI,Zb7,Zb1,Zcv,Zcx];omega
 refine Yh (Ze (Zj G (Zv G G (Zr G (Zk G (Ys (t:=15) G (fun h4=>?_) (fun h4=>?_))))))) <;> simp only[NM]at h4
 ·refine ZD G (Zq G (Zk G (Yb G (Zj G (Yb G (Zu G G (Yb G (Zv G G (Yb G (Zr G (Yb G (Zk G (Ys (t:=24) G (fun h5=>?_) (fun h5=>?_)))))))))))))) <;> simp only[NM]at h5
  ·refine ZD G (Yb G (Zq G (Zq G (Zk G (Yb G (Zj G (Yb G (Zu G G (Yb G (Zv G G (Yb G (Zr G (Yb G (Zk G (Ys (t:=34) G (fun h6=>?_) (fun h6=>?_)))))))))))))))) <;> simp only[NM]at h6
   ·refine ZD G (Yb G (Zq G (Zq G (Zk G (Yb G (Zj G (Yb G (Zu G G (Yb G (Zr G (Yb G (Zk G (Ys (t:=43) G (fun h7=>?_) (fun h7=>?_)))))))))))))) <;> simp only[NM]at h7
    ·refine ZD G (Yb G (Zq G (Zq G (Zk G (Zg G (ZI ?_))))));rw[Zce];simp only[X2,VI,Zb7,Zb1,Zcv,Zcx];omega
    refine Yb G (Yo G G ZM (Yb G (Yt G (YP (uj _ _ _ _ (by omega) (by omega))) G G G (Yb G (Zq G (Zq G (Zk G (Zg G (ZI ?_)))))))));rw[Zce];simp only[X2,VI,Zb7,Zb1,Zcv,Zcx];omega
   refine Yb G (Yo G G ZM (Yb G (Yt G (YP (uj _ _ _ _ (by omega) (by omega))) G G G (Yb G (Zq G (Zq G (Zk G (Ys (t:=39) G (fun h8=>?_) (fun h8=>?_)))))))))
   ·try simp only[VI,Zb7,ZbJ]at h8
    refine Yb G (Zj G (Yb G (Zu G G (Yb G (Zr G (Yb G (Zk G (Ys (t:=43) G (fun h9=>?_) (fun h9=>?_))))))))) <;> simp only[NM]at h9
    ·refine ZD G (Yb G (Zq G (Zq G (Zk G (Zg G (ZI ?_))))));rw[Zce];simp only[X2,VI,Zb7,Zb1,Zcv,Zcx];omega
    refine Yb G (Yo G G ZM (Yb G (Yt G (YP (uj _ _ _ _ (by omega) (by omega))) G G G (Yb G (Zq G (Zq G (Zk G (Zg G (ZI ?_)))))))));rw[Zce];simp only[X2,VI,Zb7,Zb1,Zcv,Zcx];omega
   try simp only[VI,Zb7,ZbJ]at h8
   refine ZE G (YJ G (YJ G (ZC G (Zq G (Zk G (Zg G (ZI ?_)))))));rw[Zce];simp only[X2,VI,Zb7,Zb1,Zcv,Zcx];omega
  refine Yb G (Yo G G ZM (Yb G (Yt G (YP (uj _ _ _ _ (by omega) (by omega))) G G G (Yb G (Zq G (Zq G (Zk G (Ys (t:=29) G (fun h10=>?_) (fun h10=>?_)))))))))
  ·try simp only[VI,Zb7,ZbJ]at h10
   refine Yb G (Zj G (Yb G (Zu G G (Yb G (Zv G G (Yb G (Zr G (Yb G (Zk G (Ys (t:=34) G (fun h11=>?_) (fun h11=>?_))))))))))) <;> simp only[NM]at h11
   ·refine ZD G (Yb G (Zq G (Zq G (Zk G (Yb G (Zj G (Yb G (Zu G G (Yb G (Zr G (Yb G (Zk G (Ys (t:=43) G (fun h12=>?_) (fun h12=>?_)))))))))))))) <;> simp only[NM]at h12
    ·refine ZD G (Yb G (Zq G (Zq G (Zk G (Zg G (ZI ?_))))));rw[Zce];simp only[X2,VI,Zb7,Zb1,Zcv,Zcx];omega
    refine Yb G (Yo G G ZM (Yb G (Yt G (YP (uj _ _ _ _ (by omega) (by omega))) G G G (Yb G (Zq G (Zq G (Zk G (Zg G (ZI ?_)))))))));rw[Zce];simp only[X2,VI,Zb7,Zb1,Zcv,Zcx];omega
   refine Yb G (Yo G G ZM (Yb G (Yt G (YP (uj _ _ _ _ (by omega) (by omega))) G G G (Yb G (Zq G (Zq G (Zk G (Ys (t:=39) G (fun h13=>?_) (fun h13=>?_)))))))))
   ·try simp only[VI,Zb7,ZbJ]at h13
    refine Yb G (Zj G (Yb G (Zu G G (Yb G (Zr G (Yb G (Zk G (Ys (t:=43) G (fun h14=>?_) (fun h14=>?_))))))))) <;> simp only[NM]at h14
    ·refine ZD G (Yb G (Zq G (Zq G (Zk G (Zg G (ZI ?_))))));rw[Zce];simp only[X2,VI,Zb7,Zb1,Zcv,Zcx];omega
    refine Yb G (Yo G G ZM (Yb G (Yt G (YP (uj _ _ _ _ (by omega) (by omega))) G G G (Yb G (Zq G (Zq G (Zk G (Zg G (ZI ?_)))))))));rw[Zce];simp only[X2,VI,Zb7,Zb1,Zcv,Zcx];omega
   try simp only[VI,Zb7,ZbJ]at h13
   refine ZE G (YJ G (YJ G (ZC G (Zq G (Zk G (Zg G (ZI ?_)))))));rw[Zce];simp only[X2,VI,Zb7,Zb1,Zcv,Zcx];omega
  try simp only[VI,Zb7,ZbJ]at h10
  refine ZE G (ZC G (YJ G (YJ G (ZC G (Zq G (Zk G (ZE G (YJ G (YJ G (ZC G (Zq G (Zk G (Zg G (ZI ?_))))))))))))));rw[Zce];simp only[X2,VI,Zb7,Zb1,Zcv,Zcx];omega
 refine Yb G (Yo G G ZM (Yb G (Yt G (YP (uj _ _ _ _ (by omega) (by omega))) G G G (Zq G (Zk G (Ys (t:=19) G (fun h15=>?_) (fun h15=>?_)))))))
 ·try simp only[VI,Zb7,ZbJ]at h15
  refine Yb G (Zj G (Yb G (Zu G G (Yb G (Zv G G (Yb G (Zr G (Yb G (Zk G (Ys (t:=24) G (fun h16=>?_) (fun h16=>?_))))))))))) <;> simp only[NM]at h16
  ·refine ZD G (Yb G (Zq G (Zq G (Zk G (Yb G (Zj G (Yb G (Zu G G (Yb G (Zv G G (Yb G (Zr G (Yb G (Zk G (Ys (t:=34) G (fun h17=>?_) (fun h17=>?_)))))))))))))))) <;> simp only[NM]at h17
   ·refine ZD G (Yb G (Zq G (Zq G (Zk G (Yb G (Zj G (Yb G (Zu G G (Yb G (Zr G (Yb G (Zk G (Ys (t:=43) G (fun h18=>?_) (fun h18=>?_)))))))))))))) <;> simp only[NM]at h18
    ·refine ZD G (Yb G (Zq G (Zq G (Zk G (Zg G (ZI ?_))))));rw[Zce];simp only[X2,VI,Zb7,Zb1,Zcv,Zcx];omega
    refine Yb G (Yo G G ZM (Yb G (Yt G (YP (uj _ _ _ _ (by omega) (by omega))) G G G (Yb G (Zq G (Zq G (Zk G (Zg G (ZI ?_)))))))));rw[Zce];simp only[X2,VI,Zb7,Zb1,Zcv,Zcx];omega
   refine Yb G (Yo G G ZM (Yb G (Yt G (YP (uj _ _ _ _ (by omega) (by omega))) G G G (Yb G (Zq G (Zq G (Zk G (Ys (t:=39) G (fun h19=>?_) (fun h19=>?_)))))))))
   ·try simp only[VI,Zb7,ZbJ]at h19
    refine Yb G (Zj G (Yb G (Zu G G (Yb G (Zr G (Yb G (Zk G (Ys (t:=43) G (fun h20=>?_) (fun h20=>?_))))))))) <;> simp only[NM]at h20
    ·refine ZD G (Yb G (Zq G (Zq G (Zk G (Zg G (ZI ?_))))));rw[Zce];simp only[X2,VI,Zb7,Zb1,Zcv,Zcx];omega
    refine Yb G (Yo G G ZM (Yb G (Yt G (YP (uj _ _ _ _ (by omega) (by omega))) G G G (Yb G (Zq G (Zq G (Zk G (Zg G (ZI ?_)))))))));rw[Zce];simp only[X2,VI,Zb7,Zb1,Zcv,Zcx];omega
   try simp only[VI,Zb7,ZbJ]at h19
   refine ZE G (YJ G (YJ G (ZC G (Zq G (Zk G (Zg G (ZI ?_)))))));rw[Zce];simp only[X2,VI,Zb7,Zb1,Zcv,Zcx];omega
  refine Yb G (Yo G G ZM (Yb G (Yt G (YP (uj _ _ _ _ (by omega) (by omega))) G G G (Yb G (Zq G (Zq G (Zk G (Ys (t:=29) G (fun h21=>?_) (fun h21=>?_)))))))))
  ·try simp only[VI,Zb7,ZbJ]at h21
   refine Yb G (Zj G (Yb G (Zu G G (Yb G (Zv G G (Yb G (Zr G (Yb G (Zk G (Ys (t:=34) G (fun h22=>?_) (fun h22=>?_))))))))))) <;> simp only[NM]at h22
   ·refine ZD G (Yb G (Zq G (Zq G (Zk G (Yb G (Zj G (Yb G (Zu G G (Yb G (Zr G (Yb G (Zk G (Ys (t:=43) G (fun h23=>?_) (fun h23=>?_)))))))))))))) <;> simp only[NM]at h23
    ·refine ZD G (Yb G (Zq G (Zq G (Zk G (Zg G (ZI ?_))))));rw[Zce];simp only[X2,VI,Zb7,Zb1,Zcv,Zcx];omega
    refine Yb G (Yo G G ZM (Yb G (Yt G (YP (uj _ _ _ _ (by omega) (by omega))) G G G (Yb G (Zq G (Zq G (Zk G (Zg G (ZI ?_)))))))));rw[Zce];simp only[X2,VI,Zb7,Zb1,Zcv,Zcx];omega
   refine Yb G (Yo G G ZM (Yb G (Yt G (YP (uj _ _ _ _ (by omega) (by omega))) G G G (Yb G (Zq G (Zq G (Zk G (Ys (t:=39) G (fun h24=>?_) (fun h24=>?_)))))))))
   ·try simp only[VI,Zb7,ZbJ]at h24
    refine Yb G (Zj G (Yb G (Zu G G (Yb G (Zr G (Yb G (Zk G (Ys (t:=43) G (fun h25=>?_) (fun h25=>?_))))))))) <;> simp only[NM]at h25
    ·refine ZD G (Yb G (Zq G (Zq G (Zk G (Zg G (ZI ?_))))));rw[Zce];simp only[X2,VI,Zb7,Zb1,Zcv,Zcx];omega
    refine Yb G (Yo G G ZM (Yb G (Yt G (YP (uj _ _ _ _ (by omega) (by omega))) G G G (Yb G (Zq G (Zq G (Zk G (Zg G (ZI ?_)))))))));rw[Zce];simp only[X2,VI,Zb7,Zb1,Zcv,Zcx];omega
   try simp only[VI,Zb7,ZbJ]at h24
   refine ZE G (YJ G (YJ G (ZC G (Zq G (Zk G (Zg G (ZI ?_)))))));rw[Zce];simp only[X2,VI,Zb7,Zb1,Zcv,Zcx];omega
  try simp only[VI,Zb7,ZbJ]at h21
  refine ZE G (ZC G (YJ G (YJ G (ZC G (Zq G (Zk G (ZE G (YJ G (YJ G (ZC G (Zq G (Zk G (Zg G (ZI ?_))))))))))))));rw[Zce];simp only[X2,VI,Zb7,Zb1,Zcv,Zcx];omega
 try simp only[VI,Zb7,ZbJ]at h15
 refine ZE G (ZC G (YJ G (YJ G (ZC G (Zq G (Zk G (ZE G (ZC G (YJ G (YJ G (ZC G (Zq G (Zk G (ZE G (YJ G (YJ G (ZC G (Zq G (Zk G (Zg G (ZI ?_)))))))))))))))))))));rw[Zce];simp only[X2,VI,Zb7,Zb1,Zcv,Zcx];omega
def re(P:Nat->Int):WR AM 123 [.agg 133 (ia P)] [] (fun v _ _=>v=.s (.bool (X2 P))):=by
 refine YL (a:=a123) G G (YI _) (ZQ G) (m:=0) G (Ze (YC G (Yq G (Yc (Ye (Ze (Zy G (Yd (o':=129) G G G (Ym G G ZM G (Zr G (Zk G (Ys (t:=10) G (fun h26=>?_) (fun h26=>?_))))))))))))) <;> simp only[NM]at h26
 ·refine ZE G (Zq G (Yc (ZA G (Ze (Yq G (Zg G (ZI ?_)))))));rw[Zce];simp only[X2,VI,Xd,Zb7,ZbJ,Zb1,Zcv,Zcx]at *;omega
 refine Yb G (Zy G (Yb G (Yd (o':=129) G G G (Yb G (Ym G G ZM G (Yb G (Zr G (Zq G (Yc (Yj G (fun h27=>?_) (fun h27=>?_))))))))))) <;> simp only[NM]at h27
 ·refine Ze (Yq G (Zg G (ZI ?_)));rw[Zce];simp only[X2,VI,Xd,Zb7,ZbJ,Zb1,Zcv,Zcx]at *;omega
 refine Yh (Ye (Ze (YB G (.one G (.one G (.one G (.one G .nil)))) (Yq G (Yc (Yk (Jr (fun f n L=>(0<=P 129/\P 129<=15)/\(P 129/1%2=0\/(P (sqI 4)=6/\P (sqI 4+1)=0/\P (sqI 7)=4/\P (sqI 7+1)=0))/\(f 1=.ptr 0 0 133)/\(f 16=.agg 4 (ia (ov (ov (ov (ov (fun _=>0) 0 7) 1 0) 2 63) 3 56)))/\(f 17=.s (.int .i64 1))/\(L=[(0,.sc .var 133 (ia P))])/\(n=1)) ?_ (fun f nb L hI=>?_))))))))
 ·refine Ze (Zr G (Yc (Ye (Yj G (fun h28=>?_) (fun h28=>?_))))) <;> simp only[NM]at h28
  ·refine Yh (Ye (Yk (Ze (Zj G (Tw (a:=.int .i64 7) G G G (by omega) G (Zj G (Zj G (Yc (Ye (Ze (Zy G (Yd (o':=129) G G G (Ym G G ZM G (Zj G (Yr G G (pE ⟨by omega,by omega⟩) (Yr G G (R8 ⟨by omega,by omega⟩) (Zr G (Yc (Yj G (fun h29=>?_) (fun h29=>?_)))))))))))))))))))) <;> simp only[NM]at h29
   ·refine Y0 (Xb (Yf (Yr (r:=.int .i64 1) G G G (Zj G (Yc (⟨_,(.refl _),⟨by omega,by omega⟩,?_,G,G,G,G,G⟩))))));omega
   refine Yh (Ze (Zj G (Yr (r:=.int .i64 0) G G G (Zj G (Zf (Yo G G ZM (Zj G (Zj G (Yt G (YP (W8 _ _ _ _ (by omega))) G G G (Yv (r:=.bool _) G G (Zk G (Ys (t:=35) G (fun h30=>?_) (fun h30=>?_))))))))))))) <;> simp only[NM]at h30
   ·refine ZF G (Zq G (Yc (ZA G (Ze (Yq G (Zg G (ZI ?_)))))));rw[Zce];simp only[X2,VI,Xd,Zb7,ZbJ,Zb1,Zcv,Zcx]at *;omega
   refine Yb G (Yo G G ZM (Yb G (Zj G (Yb G (Zj G (Yb G (Yr (r:=.int .i64 0) G G G (Yb G (Yr (r:=.int .i64 0) G G G (Yb G (Yr (r:=.int .i64 4) G G G (Yb G (Yt G (YP (W8 _ _ _ _ (by omega))) G G G (Yb G (Yv (r:=.bool _) G G (Zq G (Yc (Yj G (fun h31=>?_) (fun h31=>?_))))))))))))))))))) <;> simp only[NM]at h31
   ·refine Ze (Yq G (Zg G (ZI ?_)));rw[Zce];simp only[X2,VI,Xd,Zb7,ZbJ,Zb1,Zcv,Zcx]at *;omega
   refine Yh (Yf (Yr (r:=.int .i64 1) G G G (Zj G (Yc (⟨_,(.refl _),⟨by omega,by omega⟩,?_,G,G,G,G,G⟩)))));try simp only[Xd,Zb7,ZbJ]at *
   omega
  exfalso;omega
 obtain⟨hC,hf0,k1,k16,k17,rfl,rfl⟩:=hI;refine Za 1 k1 (Za 16 k16 (Za 17 k17 (Jr (fun f n L=>(P 129/2%2=0\/(P (sqI 4)=6/\P (sqI 4+1)=0/\P (sqI 0)=4/\P (sqI 0+1)=0))/\(f 1=.ptr 0 0 133)/\(f 16=.agg 4 (ia (ov (ov (ov (ov (fun _=>0) 0 7) 1 0) 2 63) 3 56)))/\(f 17=.s (.int .i64 2))/\(L=[(0,.sc .var 133 (ia P))])/\(n=1)) ?_ (fun f nb L hI=>?_))))
 ·refine Ze (Zr G (Yc (Ye (Yj G (fun h32=>?_) (fun h32=>?_))))) <;> simp only[NM]at h32
  ·refine Yh (Ye (Yk (Ze (Zj G (Tw (a:=.int .i64 0) G G G (by omega) G (Zj G (Zj G (Yc (Ye (Ze (Zy G (Yd (o':=129) G G G (Ym G G ZM G (Zj G (Yr G G (oU ⟨by omega,by omega⟩) (Yr G G (R8 ⟨by omega,by omega⟩) (Zr G (Yc (Yj G (fun h33=>?_) (fun h33=>?_)))))))))))))))))))) <;> simp only[NM]at h33
   ·refine Y0 (Xb (Yf (Yr (r:=.int .i64 2) G G G (Zj G (Yc (⟨_,(.refl _),?_,G,G,G,G,G⟩))))));omega
   refine Yh (Ze (Zj G (Yr (r:=.int .i64 0) G G G (Zj G (Zf (Yo G G ZM (Zj G (Zj G (Yt G (YP (W8 _ _ _ _ (by omega))) G G G (Yv (r:=.bool _) G G (Zk G (Ys (t:=35) G (fun h34=>?_) (fun h34=>?_))))))))))))) <;> simp only[NM]at h34
   ·refine ZF G (Zq G (Yc (ZA G (Ze (Yq G (Zg G (ZI ?_)))))));rw[Zce];simp only[X2,VI,Xd,Zb7,ZbJ,Zb1,Zcv,Zcx]at *;omega
   refine Yb G (Yo G G ZM (Yb G (Zj G (Yb G (Zj G (Yb G (Yr (r:=.int .i64 0) G G G (Yb G (Yr (r:=.int .i64 0) G G G (Yb G (Yr (r:=.int .i64 4) G G G (Yb G (Yt G (YP (W8 _ _ _ _ (by omega))) G G G (Yb G (Yv (r:=.bool _) G G (Zq G (Yc (Yj G (fun h35=>?_) (fun h35=>?_))))))))))))))))))) <;> simp only[NM]at h35
   ·refine Ze (Yq G (Zg G (ZI ?_)));rw[Zce];simp only[X2,VI,Xd,Zb7,ZbJ,Zb1,Zcv,Zcx]at *;omega
   refine Yh (Yf (Yr (r:=.int .i64 2) G G G (Zj G (Yc (⟨_,(.refl _),?_,G,G,G,G,G⟩)))));try simp only[Xd,Zb7,ZbJ]at *
   omega
  exfalso;omega
 obtain⟨hf1,k1,k16,k17,rfl,rfl⟩:=hI;refine Za 1 k1 (Za 16 k16 (Za 17 k17 (Jr (fun f n L=>(P 129/4%2=0\/(P (sqI 60)=6/\P (sqI 60+1)=1/\P (sqI 63)=4/\P (sqI 63+1)=1))/\(f 1=.ptr 0 0 133)/\(f 16=.agg 4 (ia (ov (ov (ov (ov (fun _=>0) 0 7) 1 0) 2 63) 3 56)))/\(f 17=.s (.int .i64 3))/\(L=[(0,.sc .var 133 (ia P))])/\(n=1)) ?_ (fun f nb L hI=>?_))))
 ·refine Ze (Zr G (Yc (Ye (Yj G (fun h36=>?_) (fun h36=>?_))))) <;> simp only[NM]at h36
  ·refine Yh (Ye (Yk (Ze (Zj G (Tw (a:=.int .i64 63) G G G (by omega) G (Zj G (Zj G (Yc (Ye (Ze (Zy G (Yd (o':=129) G G G (Ym G G ZM G (Zj G (Yr G G (pG ⟨by omega,by omega⟩) (Yr G G (R8 ⟨by omega,by omega⟩) (Zr G (Yc (Yj G (fun h37=>?_) (fun h37=>?_)))))))))))))))))))) <;> simp only[NM]at h37
   ·refine Y0 (Xb (Yf (Yr (r:=.int .i64 3) G G G (Zj G (Yc (⟨_,(.refl _),?_,G,G,G,G,G⟩))))));omega
   refine Yh (Ze (Zj G (Yr (r:=.int .i64 1) G G G (Zj G (Zf (Yo G G ZM (Zj G (Zj G (Yt G (YP (W8 _ _ _ _ (by omega))) G G G (Yv (r:=.bool _) G G (Zk G (Ys (t:=35) G (fun h38=>?_) (fun h38=>?_))))))))))))) <;> simp only[NM]at h38
   ·refine ZF G (Zq G (Yc (ZA G (Ze (Yq G (Zg G (ZI ?_)))))));rw[Zce];simp only[X2,VI,Xd,Zb7,ZbJ,Zb1,Zcv,Zcx]at *;omega
   refine Yb G (Yo G G ZM (Yb G (Zj G (Yb G (Zj G (Yb G (Yr (r:=.int .i64 7) G G G (Yb G (Yr (r:=.int .i64 56) G G G (Yb G (Yr (r:=.int .i64 60) G G G (Yb G (Yt G (YP (W8 _ _ _ _ (by omega))) G G G (Yb G (Yv (r:=.bool _) G G (Zq G (Yc (Yj G (fun h39=>?_) (fun h39=>?_))))))))))))))))))) <;> simp only[NM]at h39
   ·refine Ze (Yq G (Zg G (ZI ?_)));rw[Zce];simp only[X2,VI,Xd,Zb7,ZbJ,Zb1,Zcv,Zcx]at *;omega
   refine Yh (Yf (Yr (r:=.int .i64 3) G G G (Zj G (Yc (⟨_,(.refl _),?_,G,G,G,G,G⟩)))));try simp only[Xd,Zb7,ZbJ]at *
   omega
  exfalso;omega
 obtain⟨hf2,k1,k16,k17,rfl,rfl⟩:=hI;refine Za 1 k1 (Za 16 k16 (Za 17 k17 (Jr (fun f n L=>(P 129/8%2=0\/(P (sqI 60)=6/\P (sqI 60+1)=1/\P (sqI 56)=4/\P (sqI 56+1)=1))/\(f 1=.ptr 0 0 133)/\(f 16=.agg 4 (ia (ov (ov (ov (ov (fun _=>0) 0 7) 1 0) 2 63) 3 56)))/\(f 17=.s (.int .i64 4))/\(L=[(0,.sc .var 133 (ia P))])/\(n=1)) ?_ (fun f nb L hI=>?_))))
 ·refine Ze (Zr G (Yc (Ye (Yj G (fun h40=>?_) (fun h40=>?_))))) <;> simp only[NM]at h40
  ·refine Yh (Ye (Yk (Ze (Zj G (Tw (a:=.int .i64 56) G G G (by omega) G (Zj G (Zj G (Yc (Ye (Ze (Zy G (Yd (o':=129) G G G (Ym G G ZM G (Zj G (Yr G G (pk ⟨by omega,by omega⟩) (Yr G G (R8 ⟨by omega,by omega⟩) (Zr G (Yc (Yj G (fun h41=>?_) (fun h41=>?_)))))))))))))))))))) <;> simp only[NM]at h41
   ·refine Y0 (Xb (Yf (Yr (r:=.int .i64 4) G G G (Zj G (Yc (⟨_,(.refl _),?_,G,G,G,G,G⟩))))));omega
   refine Yh (Ze (Zj G (Yr (r:=.int .i64 1) G G G (Zj G (Zf (Yo G G ZM (Zj G (Zj G (Yt G (YP (W8 _ _ _ _ (by omega))) G G G (Yv (r:=.bool _) G G (Zk G (Ys (t:=35) G (fun h42=>?_) (fun h42=>?_))))))))))))) <;> simp only[NM]at h42
   ·refine ZF G (Zq G (Yc (ZA G (Ze (Yq G (Zg G (ZI ?_)))))));rw[Zce];simp only[X2,VI,Xd,Zb7,ZbJ,Zb1,Zcv,Zcx]at *;omega
   refine Yb G (Yo G G ZM (Yb G (Zj G (Yb G (Zj G (Yb G (Yr (r:=.int .i64 7) G G G (Yb G (Yr (r:=.int .i64 56) G G G (Yb G (Yr (r:=.int .i64 60) G G G (Yb G (Yt G (YP (W8 _ _ _ _ (by omega))) G G G (Yb G (Yv (r:=.bool _) G G (Zq G (Yc (Yj G (fun h43=>?_) (fun h43=>?_))))))))))))))))))) <;> simp only[NM]at h43
   ·refine Ze (Yq G (Zg G (ZI ?_)));rw[Zce];simp only[X2,VI,Xd,Zb7,ZbJ,Zb1,Zcv,Zcx]at *;omega
   refine Yh (Yf (Yr (r:=.int .i64 4) G G G (Zj G (Yc (⟨_,(.refl _),?_,G,G,G,G,G⟩)))));try simp only[Xd,Zb7,ZbJ]at *
   omega
  exfalso;omega
 obtain⟨hf3,k1,k16,k17,rfl,rfl⟩:=hI;refine Za 1 k1 (Za 16 k16 (Za 17 k17 (YO (Ze (Zr G (Yc (Ye (Yj G (fun h44=>?_) (fun h44=>?_))))))))) <;> simp only[NM]at h44
 ·exfalso;omega
 refine Y0 (Xb (Ze (Yq G (Zg G (ZI ?_)))));rw[Zce];simp only[X2,VI,Xd,Zb7,ZbJ,Zb1,Zcv,Zcx]at *;omega
def ovK{F:Nat->Int}{x y:Int}:ov (ov F 0 x) 1 y 0=x/\ov (ov F 0 x) 1 y 1=y:=⟨rfl,rfl⟩
def vG(s:Nat)(h:s<64):RF AM 84 [.s (.int .i64 (s:Int))] (.s (.int .i64 ((s:Int)/8))):=by
 have:=KG (s:Int);rw[Wh,ZcA (by omega)]at this;exact this
def pU(P:Nat->Int):WR AM 122 [.agg 133 (ia P)] [] (fun v _ _=>v=.s (.bool (Vg P))):=by
 refine YL (a:=a122) G G (YI _) (ZQ G) (m:=0) G (Ze (YC G (Yq G (Zf (Yy (Yc (Ye (Ze (Zy G (Zy G (Yo G G ZN (Yq G (Yc (Yk (Xo (L':=[_,_]) (.refl _) (Xu (fun m f _ L=>∃ (i:Nat) (C:Nat->Int),(i<=64)/\(m=64-i)/\(∀ s:Nat,s<i->okM P s)/\(C 0=kM P 0 i)/\(C 1=kM P 1 i)/\(f 1=.ptr 0 0 133)/\(f 3=.ptr 1 0 2)/\(f 9=.agg 128 (ia P))/\(f 10=.s (.int .i64 i))/\(L=[(1,.sc .var 2 (ia C)),(0,.sc .var 133 (ia P))])) (fun m f nb L hI=>?_) (64) ⟨0,fun _=>0,by omega,rfl,fun s h=>by omega,rfl,rfl,rfl,rfl,rfl,rfl,rfl⟩))))))))))))))));obtain⟨i,C,hi,hm,hok,hc0,hc1,k1,k3,k9,k10,rfl⟩:=hI;refine Za 1 k1 (Za 3 k3 (Za 9 k9 (Za 10 k10 (Ze (Zr G (Yc (Ye (Yj G (fun h1=>?_) (fun h1=>?_))))))))) <;> simp only[NM]at h1
 ·refine Yh (Ye (Yk (Ze (Zj G ?_))));refine y7 G G G (by first|omega|(simp only[Xm,Zb7]at *;omega)) ?_;rw[dp_ix];refine Yy (Zj G (Yz G G G G .here (Yc (Ye (Ze (Yo G G ZM (YB G .nil (Yw G G (Yc (Yj G (fun h2=>?_) (fun h2=>?_))))))))))) <;> simp only[NM]at h2
  ·try simp only[QK,ovA2.1,ovA2.2,ovK.1,ovK.2,Zb7,ZbJ,Xm,dp,Nat.add_zero]at h2
   refine Y0 (Xb (Yf (Zs G G (Zj G (Yc ?_)))));(have hk:=En hc0 hc1 (by omega);refine⟨64-(i+1),_,by omega,(.cons _ (.refl _)),i+1,_,by omega,rfl,KM hok (by unfold okM;omega),hk.1,hk.2,rfl,rfl,rfl,rfl,rfl⟩)
  try simp only[QK,ovA2.1,ovA2.2,ovK.1,ovK.2,Zb7,ZbJ,Xm,dp,Nat.add_zero]at h2
  refine Yh (Ze (Zj G (Yt G (vG i (by omega)) G G G (Zr G (Zk G (Ys (t:=20) G (fun h3=>?_) (fun h3=>?_))))))) <;> simp only[NM]at h3
  ·refine ZD G (ZC G (Zq G (Zk G (Yc (Ye (Ze (Yo G G ZM (Yt G (show RF AM 149 _ (.s (.bool (Xm (P (sqI i)) (P (sqI i+1))))) from YP (tB (ovA (fun _=>0) 0 2 (dp P (sqI i))))) G G G (Yv (r:=.bool _) G G (Zk G (Ys (t:=28) G (fun h4=>?_) (fun h4=>?_)))))))))))) <;> simp only[NM]at h4
   ·try simp only[QK,ovA2.1,ovA2.2,ovK.1,ovK.2,Zb7,ZbJ,Xm,dp,Nat.add_zero]at h4
    refine ZD G (YJ G (YJ G (YJ G (ZC G (Zq G (Yc (ZA G (Ze (Yq G (Zg G ?_))))))))));exact congrArg (fun b=>V.s (S.bool b)) (U3 (fun q=>absurd (q.1 i (by omega)) (by unfold okM;omega))).symm
   try simp only[QK,ovA2.1,ovA2.2,ovK.1,ovK.2,Zb7,ZbJ,Xm,dp,Nat.add_zero]at h4
   refine Yb G (Zk G (Yb G (Zk G (Yb G (Zy G (Yb G (Ym (x:=P (sqI i)) G G ZM (G) (Yb G (Zr G (Yb G (Zq G (Zq G (Yc (Yj G (fun h5=>?_) (fun h5=>?_))))))))))))))) <;> simp only[NM]at h5
   ·refine Ze (Yq G (Zg G ?_));exact congrArg (fun b=>V.s (S.bool b)) (U3 (fun q=>absurd (q.1 i (by omega)) (by unfold okM;omega))).symm
   refine Yh (Ze (Zy G (Ym (x:=P (sqI i)) G G ZM (G) (Zr G (Yc (Yj G (fun h6=>?_) (fun h6=>?_))))))) <;> simp only[NM]at h6
   ·refine Yf (Zz G (Ym (x:=P (sqI i+1)) G G ZM (G) ?_));refine Vr G G G (by first|omega|(simp only[Xm,Zb7]at *;omega)) ?_;refine Ym G G ZN G (Ur G G (wR hc0 hc1 hi (by omega)) ?_);refine Vr G G G (by first|omega|(simp only[Xm,Zb7]at *;omega)) ?_;refine YA G G G G (.there .here) (Yc (Yf (Zs G G (Zj G (Yc ?_)))));(have hk:=D8 hc0 hc1 (by omega) (by omega);refine⟨64-(i+1),_,by omega,(.cons _ (.refl _)),i+1,_,by omega,rfl,KM hok (by unfold okM;omega),hk.1,hk.2,rfl,rfl,rfl,rfl,rfl⟩)
   refine Yh (Yf (Zs G G (Zj G (Yc ?_))));(have hk:=En hc0 hc1 (by omega);refine⟨64-(i+1),_,by omega,(.cons _ (.refl _)),i+1,_,by omega,rfl,KM hok (by unfold okM;omega),hk.1,hk.2,rfl,rfl,rfl,rfl,rfl⟩)
  refine Yb G (Zj G (Yb G (Yt G (vG i (by omega)) G G G (Yb G (Zr G (Zq G (Zk G (Yc (Ye (Ze (Yo G G ZM (Yt G (show RF AM 149 _ (.s (.bool (Xm (P (sqI i)) (P (sqI i+1))))) from YP (tB (ovA (fun _=>0) 0 2 (dp P (sqI i))))) G G G (Yv (r:=.bool _) G G (Zk G (Ys (t:=28) G (fun h7=>?_) (fun h7=>?_)))))))))))))))) <;> simp only[NM]at h7
  ·try simp only[QK,ovA2.1,ovA2.2,ovK.1,ovK.2,Zb7,ZbJ,Xm,dp,Nat.add_zero]at h7
   refine ZD G (YJ G (YJ G (YJ G (ZC G (Zq G (Yc (ZA G (Ze (Yq G (Zg G ?_))))))))));exact congrArg (fun b=>V.s (S.bool b)) (U3 (fun q=>absurd (q.1 i (by omega)) (by unfold okM;omega))).symm
  try simp only[QK,ovA2.1,ovA2.2,ovK.1,ovK.2,Zb7,ZbJ,Xm,dp,Nat.add_zero]at h7
  refine Yb G (Zk G (Yb G (Zk G (Ys (t:=30) G (fun h8=>?_) (fun h8=>?_))))) <;> simp only[NM]at h8
  ·refine Yb G (Zy G (Yb G (Ym (x:=P (sqI i)) G G ZM (G) (Yb G (Zr G (Yb G (Zq G (Zq G (Yc (Yj G (fun h9=>?_) (fun h9=>?_))))))))))) <;> simp only[NM]at h9
   ·refine Ze (Yq G (Zg G ?_));exact congrArg (fun b=>V.s (S.bool b)) (U3 (fun q=>absurd (q.1 i (by omega)) (by unfold okM;omega))).symm
   refine Yh (Ze (Zy G (Ym (x:=P (sqI i)) G G ZM (G) (Zr G (Yc (Yj G (fun h10=>?_) (fun h10=>?_))))))) <;> simp only[NM]at h10
   ·refine Yf (Zz G (Ym (x:=P (sqI i+1)) G G ZM (G) ?_));refine Vr G G G (by first|omega|(simp only[Xm,Zb7]at *;omega)) ?_;refine Ym G G ZN G (Ur G G (wR hc0 hc1 hi (by omega)) ?_);refine Vr G G G (by first|omega|(simp only[Xm,Zb7]at *;omega)) ?_;refine YA G G G G (.there .here) (Yc (Yf (Zs G G (Zj G (Yc ?_)))));(have hk:=D8 hc0 hc1 (by omega) (by omega);refine⟨64-(i+1),_,by omega,(.cons _ (.refl _)),i+1,_,by omega,rfl,KM hok (by unfold okM;omega),hk.1,hk.2,rfl,rfl,rfl,rfl,rfl⟩)
   refine Yh (Yf (Zs G G (Zj G (Yc ?_))));(have hk:=En hc0 hc1 (by omega);refine⟨64-(i+1),_,by omega,(.cons _ (.refl _)),i+1,_,by omega,rfl,KM hok (by unfold okM;omega),hk.1,hk.2,rfl,rfl,rfl,rfl,rfl⟩)
  refine ZD G (ZC G (Yb G (Zq G (Zq G (Yc (ZB G (Yh (Ze (Zy G (Ym (x:=P (sqI i)) G G ZM (G) (Zr G (Yc (Yj G (fun h11=>?_) (fun h11=>?_)))))))))))))) <;> simp only[NM]at h11
  ·refine Yf (Zz G (Ym (x:=P (sqI i+1)) G G ZM (G) ?_));refine Vr G G G (by first|omega|(simp only[Xm,Zb7]at *;omega)) ?_;refine Ym G G ZN G (Ur G G (wR hc0 hc1 hi (by omega)) ?_);refine Vr G G G (by first|omega|(simp only[Xm,Zb7]at *;omega)) ?_;refine YA G G G G (.there .here) (Yc (Yf (Zs G G (Zj G (Yc ?_)))));(have hk:=D8 hc0 hc1 (by omega) (by omega);refine⟨64-(i+1),_,by omega,(.cons _ (.refl _)),i+1,_,by omega,rfl,KM hok (by unfold okM;omega),hk.1,hk.2,rfl,rfl,rfl,rfl,rfl⟩)
  refine Yh (Yf (Zs G G (Zj G (Yc ?_))));(have hk:=En hc0 hc1 (by omega);refine⟨64-(i+1),_,by omega,(.cons _ (.refl _)),i+1,_,by omega,rfl,KM hok (by unfold okM;omega),hk.1,hk.2,rfl,rfl,rfl,rfl,rfl⟩)
 refine Y0 (Xb (Ze (Yo G G ZM (YB G (.one G (.one G .nil)) (Yw G G (Zk G (Ys (t:=49) G (fun h12=>?_) (fun h12=>?_)))))))) <;> simp only[NM]at h12
 ·try simp only[QK,ovA2.1,ovA2.2,ovK.1,ovK.2,Zb7,ZbJ,Xm,dp,Nat.add_zero]at h12
  refine Yb G (Zy G (Yb G (Yd (o':=128) G G G (Yb G (Ym G G ZN G (Yb G (Zr G (Yb G (Zk G (Ys (t:=54) G (fun h13=>?_) (fun h13=>?_))))))))))) <;> simp only[NM]at h13
  ·refine ZE G (Yb G (Zq G (Zq G (Zk G (Zg G ?_)))));obtain rfl:i=64:=by omega
   refine ZI ?_;by_cases hq:(∀ s:Nat,s<64->okM P s)/\kM P 0 64=1/\kM P 1 64=1/\(P 128=0\/P 128=1)
   · refine Eq.trans (b:=true) ?_ (EU hq).symm;have hq2:=hq.2;first|rfl|(exfalso;omega)|exact Zcu.2 (by omega)
   refine Eq.trans (b:=false) ?_ (U3 hq).symm;have hn:¬ (kM P 0 64=1/\kM P 1 64=1/\(P 128=0\/P 128=1)):=fun e=>hq ⟨hok,e⟩;first|rfl|(exfalso;omega)|exact beq_eq_false_iff_ne.2 (by omega)
  refine Yb G (Zy G (Yb G (Yd (o':=128) G G G (Yb G (Ym G G ZN G (Yb G (Zr G (Yb G (Zq G (Zq G (Zk G (Zg G ?_))))))))))));obtain rfl:i=64:=by omega
  refine ZI ?_;by_cases hq:(∀ s:Nat,s<64->okM P s)/\kM P 0 64=1/\kM P 1 64=1/\(P 128=0\/P 128=1)
  · refine Eq.trans (b:=true) ?_ (EU hq).symm;have hq2:=hq.2;first|rfl|(exfalso;omega)|exact Zcu.2 (by omega)
  refine Eq.trans (b:=false) ?_ (U3 hq).symm;have hn:¬ (kM P 0 64=1/\kM P 1 64=1/\(P 128=0\/P 128=1)):=fun e=>hq ⟨hok,e⟩;first|rfl|(exfalso;omega)|exact beq_eq_false_iff_ne.2 (by omega)
 try simp only[QK,ovA2.1,ovA2.2,ovK.1,ovK.2,Zb7,ZbJ,Xm,dp,Nat.add_zero]at h12
 refine ZE G (ZC G (YJ G (YJ G (YJ G (YJ G (ZC G (Zq G (Zk G (Zg G ?_)))))))));obtain rfl:i=64:=by omega
 refine ZI ?_;by_cases hq:(∀ s:Nat,s<64->okM P s)/\kM P 0 64=1/\kM P 1 64=1/\(P 128=0\/P 128=1)
 · refine Eq.trans (b:=true) ?_ (EU hq).symm;have hq2:=hq.2;first|rfl|(exfalso;omega)|exact Zcu.2 (by omega)
 refine Eq.trans (b:=false) ?_ (U3 hq).symm;have hn:¬ (kM P 0 64=1/\kM P 1 64=1/\(P 128=0\/P 128=1)):=fun e=>hq ⟨hok,e⟩;first|rfl|(exfalso;omega)|exact beq_eq_false_iff_ne.2 (by omega)
def ZeJ(P:Nat->Int):WR AM 118 [.agg 133 (ia P)] [] (fun v _ _=>v=.s (.bool (Vg P))):=by
 refine YL (a:=a118) G G (YI _) (ZQ G) (m:=0) G (Ze (YC G (Yq G (Zf (YB G .nil (Yy (Yz G G G G .here (Yc (Ye (Ze (Yq G (Yc (Yk (Xo (L':=[_,_]) (.refl _) (Xu (fun m f _ L=>∃ (i:Nat) (C:Nat->Int),(i<=64)/\(m=64-i)/\(∀ s:Nat,s<i->okM P s)/\(C 0=kM P 0 i)/\(C 1=kM P 1 i)/\(f 1=.ptr 0 0 133)/\(f 3=.ptr 1 0 2)/\(f 4=.s (.int .i64 i))/\(L=[(1,.sc .var 2 (ia C)),(0,.sc .var 133 (ia P))])) (fun m f nb L hI=>?_) (64) ⟨0,ovA (fun _=>0) 0 2 (fun _=>0),by omega,rfl,fun s h=>by omega,rfl,rfl,rfl,rfl,rfl,rfl⟩)))))))))))))));obtain⟨i,C,hi,hm,hok,hc0,hc1,k1,k3,k4,rfl⟩:=hI;refine Za 1 k1 (Za 3 k3 (Za 4 k4 (Ye (Ze (Zj G (Zr G (Yc (Yj G (fun h14=>?_) (fun h14=>?_))))))))) <;> simp only[NM]at h14
 ·refine Yh (Ye (Yk (Ze (Zj G (Zy G ?_)))));refine Vr G G G (by first|omega|(simp only[Xm,Zb7]at *;omega)) ?_;refine Yp G G ZN (Yy (Yz G G G G .here (Yc (Ye (Ze (Yo G G ZM (Yt G (show RF AM 144 _ (.s (.bool (decide (P (sqI i)=0/\P (sqI i+1)=0)))) from YP (Zdw (ovA (fun _=>0) 0 2 (dp P (sqI i))))) G G G (Yv (r:=.bool _) G G (Zk G (Ys (t:=18) G (fun h15=>?_) (fun h15=>?_))))))))))) <;> simp only[NM]at h15
  ·refine Yb G (Yo G G ZM (Yb G (Yt G (show RF AM 95 _ (.s (.bool (Xm (P (sqI i)) (P (sqI i+1))))) from YP (ZaP (ovA (fun _=>0) 0 2 (dp P (sqI i))))) G G G (Yb G (Yv (r:=.bool _) G G (Zq G (Zk G (Ys (t:=23) G (fun h16=>?_) (fun h16=>?_))))))))) <;> simp only[NM]at h16
   ·try simp only[QK,ovA2.1,ovA2.2,ovK.1,ovK.2,Zb7,ZbJ,Xm,dp,Nat.add_zero]at h16
    refine ZE G (YJ G (YJ G (YJ G (YJ G (YJ G (YJ G (ZC G (Zq G (Yc (ZA G (Ze (Yq G (Zg G ?_)))))))))))));exact congrArg (fun b=>V.s (S.bool b)) (U3 (fun q=>absurd (q.1 i (by omega)) (by unfold okM;omega))).symm
   try simp only[QK,ovA2.1,ovA2.2,ovK.1,ovK.2,Zb7,ZbJ,Xm,dp,Nat.add_zero]at h16
   refine Yb G (Zy G (Yb G (Ym (x:=P (sqI i)) G G ZM (G) (Yb G (Zr G (Yb G (Zk G (Ys (t:=27) G (fun h17=>?_) (fun h17=>?_))))))))) <;> simp only[NM]at h17
   ·refine Yb G (Zj G (Yb G (Zr G (Yb G (Zk G (Ys (t:=30) G (fun h18=>?_) (fun h18=>?_))))))) <;> simp only[NM]at h18
    ·refine ZD G (Yb G (Zq G (Yb G (Zq G (Zq G (Yc (ZA G (Ze (Yq G (Zg G ?_))))))))));exact congrArg (fun b=>V.s (S.bool b)) (U3 (fun q=>absurd (q.1 i (by omega)) (by unfold okM;omega))).symm
    refine Yb G (Zj G (Yb G (Zr G (Yb G (Zq G (Yb G (Zq G (Zq G (Yc (Yj G (fun h19=>?_) (fun h19=>?_))))))))))) <;> simp only[NM]at h19
    ·refine Ze (Yq G (Zg G ?_));exact congrArg (fun b=>V.s (S.bool b)) (U3 (fun q=>absurd (q.1 i (by omega)) (by unfold okM;omega))).symm
    refine Yh (Ze (Zy G (Ym (x:=P (sqI i)) G G ZM (G) (Zr G (Yc (Yj G (fun h20=>?_) (fun h20=>?_))))))) <;> simp only[NM]at h20
    ·refine Yf (Zz G (Ym (x:=P (sqI i+1)) G G ZM (G) ?_));refine Vr G G G (by first|omega|(simp only[Xm,Zb7]at *;omega)) ?_;refine Ym G G ZN G (Ur G G (wR hc0 hc1 hi (by omega)) ?_);refine Vr G G G (by first|omega|(simp only[Xm,Zb7]at *;omega)) ?_;refine YA G G G G (.there .here) (Yc (Yf (Zj G (Zs G G (Zj G (Yc ?_))))));(have hk:=D8 hc0 hc1 (by omega) (by omega);refine⟨64-(i+1),_,by omega,(.cons _ (.refl _)),i+1,_,by omega,rfl,KM hok (by unfold okM;omega),hk.1,hk.2,rfl,rfl,rfl,rfl⟩)
    refine Yh (Yf (Zj G (Zs G G (Zj G (Yc ?_)))));(have hk:=En hc0 hc1 (by omega);refine⟨64-(i+1),_,by omega,(.cons _ (.refl _)),i+1,_,by omega,rfl,KM hok (by unfold okM;omega),hk.1,hk.2,rfl,rfl,rfl,rfl⟩)
   refine ZD G (ZC G (YJ G (YJ G (ZC G (Yb G (Zq G (Zq G (Yc (ZB G (Yh (Ze (Zy G (Ym (x:=P (sqI i)) G G ZM (G) (Zr G (Yc (Yj G (fun h21=>?_) (fun h21=>?_))))))))))))))))) <;> simp only[NM]at h21
   ·refine Yf (Zz G (Ym (x:=P (sqI i+1)) G G ZM (G) ?_));refine Vr G G G (by first|omega|(simp only[Xm,Zb7]at *;omega)) ?_;refine Ym G G ZN G (Ur G G (wR hc0 hc1 hi (by omega)) ?_);refine Vr G G G (by first|omega|(simp only[Xm,Zb7]at *;omega)) ?_;refine YA G G G G (.there .here) (Yc (Yf (Zj G (Zs G G (Zj G (Yc ?_))))));(have hk:=D8 hc0 hc1 (by omega) (by omega);refine⟨64-(i+1),_,by omega,(.cons _ (.refl _)),i+1,_,by omega,rfl,KM hok (by unfold okM;omega),hk.1,hk.2,rfl,rfl,rfl,rfl⟩)
   refine Yh (Yf (Zj G (Zs G G (Zj G (Yc ?_)))));(have hk:=En hc0 hc1 (by omega);refine⟨64-(i+1),_,by omega,(.cons _ (.refl _)),i+1,_,by omega,rfl,KM hok (by unfold okM;omega),hk.1,hk.2,rfl,rfl,rfl,rfl⟩)
  refine ZD G (ZC G (Zq G (Zk G (Yb G (Zy G (Yb G (Ym (x:=P (sqI i)) G G ZM (G) (Yb G (Zr G (Yb G (Zk G (Ys (t:=27) G (fun h22=>?_) (fun h22=>?_))))))))))))) <;> simp only[NM]at h22
  ·refine Yb G (Zj G (Yb G (Zr G (Yb G (Zk G (Ys (t:=30) G (fun h23=>?_) (fun h23=>?_))))))) <;> simp only[NM]at h23
   ·refine ZD G (Yb G (Zq G (Yb G (Zq G (Zq G (Yc (ZA G (Ze (Yq G (Zg G ?_))))))))));exact congrArg (fun b=>V.s (S.bool b)) (U3 (fun q=>absurd (q.1 i (by omega)) (by unfold okM;omega))).symm
   refine Yb G (Zj G (Yb G (Zr G (Yb G (Zq G (Yb G (Zq G (Zq G (Yc (Yj G (fun h24=>?_) (fun h24=>?_))))))))))) <;> simp only[NM]at h24
   ·refine Ze (Yq G (Zg G ?_));exact congrArg (fun b=>V.s (S.bool b)) (U3 (fun q=>absurd (q.1 i (by omega)) (by unfold okM;omega))).symm
   refine Yh (Ze (Zy G (Ym (x:=P (sqI i)) G G ZM (G) (Zr G (Yc (Yj G (fun h25=>?_) (fun h25=>?_))))))) <;> simp only[NM]at h25
   ·refine Yf (Zz G (Ym (x:=P (sqI i+1)) G G ZM (G) ?_));refine Vr G G G (by first|omega|(simp only[Xm,Zb7]at *;omega)) ?_;refine Ym G G ZN G (Ur G G (wR hc0 hc1 hi (by omega)) ?_);refine Vr G G G (by first|omega|(simp only[Xm,Zb7]at *;omega)) ?_;refine YA G G G G (.there .here) (Yc (Yf (Zj G (Zs G G (Zj G (Yc ?_))))));(have hk:=D8 hc0 hc1 (by omega) (by omega);refine⟨64-(i+1),_,by omega,(.cons _ (.refl _)),i+1,_,by omega,rfl,KM hok (by unfold okM;omega),hk.1,hk.2,rfl,rfl,rfl,rfl⟩)
   refine Yh (Yf (Zj G (Zs G G (Zj G (Yc ?_)))));(have hk:=En hc0 hc1 (by omega);refine⟨64-(i+1),_,by omega,(.cons _ (.refl _)),i+1,_,by omega,rfl,KM hok (by unfold okM;omega),hk.1,hk.2,rfl,rfl,rfl,rfl⟩)
  refine ZD G (ZC G (YJ G (YJ G (ZC G (Yb G (Zq G (Zq G (Yc (ZB G (Yh (Ze (Zy G (Ym (x:=P (sqI i)) G G ZM (G) (Zr G (Yc (Yj G (fun h26=>?_) (fun h26=>?_))))))))))))))))) <;> simp only[NM]at h26
  ·refine Yf (Zz G (Ym (x:=P (sqI i+1)) G G ZM (G) ?_));refine Vr G G G (by first|omega|(simp only[Xm,Zb7]at *;omega)) ?_;refine Ym G G ZN G (Ur G G (wR hc0 hc1 hi (by omega)) ?_);refine Vr G G G (by first|omega|(simp only[Xm,Zb7]at *;omega)) ?_;refine YA G G G G (.there .here) (Yc (Yf (Zj G (Zs G G (Zj G (Yc ?_))))));(have hk:=D8 hc0 hc1 (by omega) (by omega);refine⟨64-(i+1),_,by omega,(.cons _ (.refl _)),i+1,_,by omega,rfl,KM hok (by unfold okM;omega),hk.1,hk.2,rfl,rfl,rfl,rfl⟩)
  refine Yh (Yf (Zj G (Zs G G (Zj G (Yc ?_)))));(have hk:=En hc0 hc1 (by omega);refine⟨64-(i+1),_,by omega,(.cons _ (.refl _)),i+1,_,by omega,rfl,KM hok (by unfold okM;omega),hk.1,hk.2,rfl,rfl,rfl,rfl⟩)
 refine Y0 (Xb (Ze ?_));refine Vr G G G (by first|omega|(simp only[Xm,Zb7]at *;omega)) ?_;refine Ym (x:=C 0) G G ZM (G) (Zr G (Zk G (Ys (t:=48) G (fun h27=>?_) (fun h27=>?_)))) <;> simp only[NM]at h27
 ·refine Yb G ?_;refine Vr G G G (by first|omega|(simp only[Xm,Zb7]at *;omega)) ?_;refine Yb G (Ym (x:=C 1) G G ZM (G) (Yb G (Zr G (Zq G (Zk G (Ys (t:=53) G (fun h28=>?_) (fun h28=>?_))))))) <;> simp only[NM]at h28
  ·refine Yb G (Yd (o':=128) G G G (Yb G (Ym (x:=P 128) G G ZN (G) (Yb G (Zr G (Yb G (Zk G (Ys (t:=57) G (fun h29=>?_) (fun h29=>?_))))))))) <;> simp only[NM]at h29
   ·refine ZD G (ZC G (Yb G (Zq G (Zq G (Zk G (Zg G ?_))))));obtain rfl:i=64:=by omega
    refine ZI ?_;by_cases hq:(∀ s:Nat,s<64->okM P s)/\kM P 0 64=1/\kM P 1 64=1/\(P 128=0\/P 128=1)
    · refine Eq.trans (b:=true) ?_ (EU hq).symm;have hq2:=hq.2;first|rfl|(exfalso;omega)|exact Zcu.2 (by omega)
    refine Eq.trans (b:=false) ?_ (U3 hq).symm;have hn:¬ (kM P 0 64=1/\kM P 1 64=1/\(P 128=0\/P 128=1)):=fun e=>hq ⟨hok,e⟩;first|rfl|(exfalso;omega)|exact beq_eq_false_iff_ne.2 (by omega)
   refine Yb G (Yd (o':=128) G G G (Yb G (Ym (x:=P 128) G G ZN (G) (Yb G (Zr G (Yb G (Zq G (Zq G (Zk G (Zg G ?_))))))))));obtain rfl:i=64:=by omega
   refine ZI ?_;by_cases hq:(∀ s:Nat,s<64->okM P s)/\kM P 0 64=1/\kM P 1 64=1/\(P 128=0\/P 128=1)
   · refine Eq.trans (b:=true) ?_ (EU hq).symm;have hq2:=hq.2;first|rfl|(exfalso;omega)|exact Zcu.2 (by omega)
   refine Eq.trans (b:=false) ?_ (U3 hq).symm;have hn:¬ (kM P 0 64=1/\kM P 1 64=1/\(P 128=0\/P 128=1)):=fun e=>hq ⟨hok,e⟩;first|rfl|(exfalso;omega)|exact beq_eq_false_iff_ne.2 (by omega)
  refine ZE G (YJ G (YJ G (YJ G (ZC G (Zq G (Zk G (Zg G ?_)))))));obtain rfl:i=64:=by omega
  refine ZI ?_;by_cases hq:(∀ s:Nat,s<64->okM P s)/\kM P 0 64=1/\kM P 1 64=1/\(P 128=0\/P 128=1)
  · refine Eq.trans (b:=true) ?_ (EU hq).symm;have hq2:=hq.2;first|rfl|(exfalso;omega)|exact Zcu.2 (by omega)
  refine Eq.trans (b:=false) ?_ (U3 hq).symm;have hn:¬ (kM P 0 64=1/\kM P 1 64=1/\(P 128=0\/P 128=1)):=fun e=>hq ⟨hok,e⟩;first|rfl|(exfalso;omega)|exact beq_eq_false_iff_ne.2 (by omega)
 refine ZD G (ZC G (Zq G (Zk G (ZE G (YJ G (YJ G (YJ G (ZC G (Zq G (Zk G (Zg G ?_)))))))))));obtain rfl:i=64:=by omega
 refine ZI ?_;by_cases hq:(∀ s:Nat,s<64->okM P s)/\kM P 0 64=1/\kM P 1 64=1/\(P 128=0\/P 128=1)
 · refine Eq.trans (b:=true) ?_ (EU hq).symm;have hq2:=hq.2;first|rfl|(exfalso;omega)|exact Zcu.2 (by omega)
 refine Eq.trans (b:=false) ?_ (U3 hq).symm;have hn:¬ (kM P 0 64=1/\kM P 1 64=1/\(P 128=0\/P 128=1)):=fun e=>hq ⟨hok,e⟩;first|rfl|(exfalso;omega)|exact beq_eq_false_iff_ne.2 (by omega)
def uC{x:Int}(hx:0<=x/\x<64)(h:x/8<7):RF AM 152 [.s (.int .i64 x),.s (.int .i64 0),.s (.int .i64 1)] (.s (.int .i64 (x+8))):=by
 have:=UC x 0 1;rw[tC hx (by omega)]at this;exact this
def tq{x:Int}(hx:0<=x/\x<64)(h:1<=x/8):RF AM 152 [.s (.int .i64 x),.s (.int .i64 0),.s (.int .i64 (-1))] (.s (.int .i64 (x-8))):=by
 have:=UC x 0 (-1);rw[tC hx (by omega)]at this;exact this
def Qg{x:Int}(h:x=0\/x=1):XT x=1-x:=by
 unfold XT;split <;> omega
def VF(x:Int):(0<=x/\x<64/\Wh x=x/8)\/(¬ (0<=x/\x<64)/\Wh x=-1):=by
 unfold Wh;split
 ·exact .inl ⟨by omega,by omega,rfl⟩
 exact .inr ⟨by assumption,rfl⟩
def over_ok(P:Nat->Int)(hs:P 128=0\/P 128=1):WR AM 124 [.agg 133 (ia P)] [] (fun v _ _=>v=.s (.bool (WA P))):=by
 refine YL (a:=a124) G G (YI _) (ZQ G) (m:=0) G (Ze (YC G (Yq G (Yc (Ye (Ze (Zy G (Yd (o':=130) G G G (Ym G G ZM G (Zr G (Yc (Yj G (fun h30=>?_) (fun h30=>?_))))))))))))) <;> simp only[NM]at h30
 ·refine Ze (Yq G (Zg G (ZI ?_)));have ho:=Qg hs;have hra:=VF (P 130);rw[Zce];simp only[WA,Xd,Zb7,Zb1,Zcv,Zcx,ho]at *;omega
 refine Yh (Ze (Yq G (Yq G (Yc (Ye (Ze (Zy G (Yd (o':=128) G G G (Ym G G ZM G (Zr G (Yc (Yj G (fun h31=>?_) (fun h31=>?_))))))))))))) <;> simp only[NM]at h31
 ·refine Yf (Yq G (Yq G (Yc (Ye (Ze (Zy G (Yd (o':=130) G G G (Ym G G ZM G (Yt G (KG _) G G G (Zj G (Zr G (Zk G (Ys (t:=20) G (fun h32=>?_) (fun h32=>?_)))))))))))))) <;> simp only[NM]at h32
  ·refine ZE G (Zq G (Yc (ZA G (Ze (Yq G (Zg G (ZI ?_)))))));have ho:=Qg hs;have hra:=VF (P 130);rw[Zce];simp only[WA,Xd,Zb7,Zb1,Zcv,Zcx,ho]at *;omega
  refine Yb G (Zy G (Yb G (Yd (o':=131) G G G (Yb G (Ym G G ZM G (Yb G (Zr G (Zq G (Yc (Yj G (fun h33=>?_) (fun h33=>?_))))))))))) <;> simp only[NM]at h33
  ·refine Ze (Yq G (Zg G (ZI ?_)));have ho:=Qg hs;have hra:=VF (P 130);rw[Zce];simp only[WA,Xd,Zb7,Zb1,Zcv,Zcx,ho]at *;omega
  refine Yh (Ze (KF G (Yq (v:=.fn _ _) G (Yc (Ye (Yg (Yq (v:=.fn _ _) G (Zy G (Yd (o':=130) G G G (Ym G G ZM G ?_))))))))));have hin31:=Q6 (x:=P 130) (by assumption) (by omega);refine Wr (rs:=[0]) (Bs:=[_]) G (V4 (ER (md:=.var) P _ (by omega))) G G (YF G) (fun _ h=>h) G ⟨ZM,⟨_,_,_,G⟩,trivial⟩ G G G (.cons .here .nil) (Zk G (Ys (t:=32) G (fun h34=>?_) (fun h34=>?_)))
  ·try simp only[Xd,Zb7,ZbJ]at h34
   refine Yb G (Yq (v:=.fn _ _) G (Yb G (Zy G (Yb G (Yd (o':=130) G G G (Yb G (Ym G G ZM G (Yb G (Zj G (Yb G ?_))))))))));have hin38:=Q6 (x:=P 130) (by assumption) (by omega);refine Yt G (tq hin38.1 (by omega)) G G G (Yb G ?_);have hin39:=Q6 (x:=P 130) (by assumption) (by omega);refine Wr (rs:=[0]) (Bs:=[_]) G (V4 (ER (md:=.var) P _ (by omega))) G G (YF G) (fun _ h=>h) G ⟨ZM,⟨_,_,_,G⟩,trivial⟩ G G G (.cons .here .nil) (Zq G (Zk G (Ys (t:=41) G (fun h35=>?_) (fun h35=>?_))))
   ·try simp only[Xd,Zb7,ZbJ]at h35
    refine Yb G (Yo G G ZM (Yb G (Zy G (Yb G (Yd (o':=128) G G G (Yb G (Ym G G ZM G (Yb G (Yu G (YP (VW _)) G G G (Yb G (Zy G (Yb G (Yd (o':=130) G G G (Yb G (Ym G G ZM G (Yb G (Zj G (Yb G (oi G (by omega) (Yb G ?_))))))))))))))))))));have hin52:=Q6 (x:=P 130) (by assumption) (by omega);refine Yu G (uC hin52.1 (by omega)) G G G (Yb G (Yt G (YP (W8 _ _ _ _ (by omega))) G G G (Zq G (Zk G (Zg G (ZI ?_))))));have ho:=Qg hs;have hra:=VF (P 130);rw[Zce];simp only[WA,Xd,Zb7,Zb1,Zcv,Zcx,ho]at *;omega
   try simp only[Xd,Zb7,ZbJ]at h35
   refine ZF G (ZE G (Zq G (Zk G (Zg G (ZI ?_)))));have ho:=Qg hs;have hra:=VF (P 130);rw[Zce];simp only[WA,Xd,Zb7,Zb1,Zcv,Zcx,ho]at *;omega
  try simp only[Xd,Zb7,ZbJ]at h34
  refine ZE G (ZD G (ZC G (Zq G (Zk G (ZF G (ZE G (Zq G (Zk G (Zg G (ZI ?_))))))))));have ho:=Qg hs;have hra:=VF (P 130);rw[Zce];simp only[WA,Xd,Zb7,Zb1,Zcv,Zcx,ho]at *;omega
 refine Yh (Ye (Ze (Zy G (Yd (o':=130) G G G (Ym G G ZM G (Yt G (KG _) G G G (Zj G (Zr G (Zk G (Ys (t:=20) G (fun h36=>?_) (fun h36=>?_))))))))))) <;> simp only[NM]at h36
 ·refine ZE G (Zq G (Yc (ZA G (Ze (Yq G (Zg G (ZI ?_)))))));have ho:=Qg hs;have hra:=VF (P 130);rw[Zce];simp only[WA,Xd,Zb7,Zb1,Zcv,Zcx,ho]at *;omega
 refine Yb G (Zy G (Yb G (Yd (o':=131) G G G (Yb G (Ym G G ZM G (Yb G (Zr G (Zq G (Yc (Yj G (fun h37=>?_) (fun h37=>?_))))))))))) <;> simp only[NM]at h37
 ·refine Ze (Yq G (Zg G (ZI ?_)));have ho:=Qg hs;have hra:=VF (P 130);rw[Zce];simp only[WA,Xd,Zb7,Zb1,Zcv,Zcx,ho]at *;omega
 refine Yh (Ze (KF G (Yq (v:=.fn _ _) G (Yc (Ye (Yg (Yq (v:=.fn _ _) G (Zy G (Yd (o':=130) G G G (Ym G G ZM G ?_))))))))));have hin31:=Q6 (x:=P 130) (by assumption) (by omega);refine Wr (rs:=[0]) (Bs:=[_]) G (V4 (ER (md:=.var) P _ (by omega))) G G (YF G) (fun _ h=>h) G ⟨ZM,⟨_,_,_,G⟩,trivial⟩ G G G (.cons .here .nil) (Zk G (Ys (t:=32) G (fun h38=>?_) (fun h38=>?_)))
 ·try simp only[Xd,Zb7,ZbJ]at h38
  refine Yb G (Yq (v:=.fn _ _) G (Yb G (Zy G (Yb G (Yd (o':=130) G G G (Yb G (Ym G G ZM G (Yb G (Zj G (Yb G ?_))))))))));have hin38:=Q6 (x:=P 130) (by assumption) (by omega);refine Yt G (uC hin38.1 (by omega)) G G G (Yb G ?_);have hin39:=Q6 (x:=P 130) (by assumption) (by omega);refine Wr (rs:=[0]) (Bs:=[_]) G (V4 (ER (md:=.var) P _ (by omega))) G G (YF G) (fun _ h=>h) G ⟨ZM,⟨_,_,_,G⟩,trivial⟩ G G G (.cons .here .nil) (Zq G (Zk G (Ys (t:=41) G (fun h39=>?_) (fun h39=>?_))))
  ·try simp only[Xd,Zb7,ZbJ]at h39
   refine Yb G (Yo G G ZM (Yb G (Zy G (Yb G (Yd (o':=128) G G G (Yb G (Ym G G ZM G (Yb G (Yu G (YP (VW _)) G G G (Yb G (Zy G (Yb G (Yd (o':=130) G G G (Yb G (Ym G G ZM G (Yb G (Zj G (Yb G (oi G (by omega) (Yb G ?_))))))))))))))))))));have hin52:=Q6 (x:=P 130) (by assumption) (by omega);refine Yu G (tq hin52.1 (by omega)) G G G (Yb G (Yt G (YP (W8 _ _ _ _ (by omega))) G G G (Zq G (Zk G (Zg G (ZI ?_))))));have ho:=Qg hs;have hra:=VF (P 130);rw[Zce];simp only[WA,Xd,Zb7,Zb1,Zcv,Zcx,ho]at *;omega
  try simp only[Xd,Zb7,ZbJ]at h39
  refine ZF G (ZE G (Zq G (Zk G (Zg G (ZI ?_)))));have ho:=Qg hs;have hra:=VF (P 130);rw[Zce];simp only[WA,Xd,Zb7,Zb1,Zcv,Zcx,ho]at *;omega
 try simp only[Xd,Zb7,ZbJ]at h38
 refine ZE G (ZD G (ZC G (Zq G (Zk G (ZF G (ZE G (Zq G (Zk G (Zg G (ZI ?_))))))))));have ho:=Qg hs;have hra:=VF (P 130);rw[Zce];simp only[WA,Xd,Zb7,Zb1,Zcv,Zcx,ho]at *;omega
def Ze5(P:Nat->Int)(hs:P 128=0\/P 128=1):WR AM 120 [.agg 133 (ia P)] [] (fun v _ _=>v=.s (.bool (WA P))):=by
 refine YL (a:=a120) G G (YI _) (ZQ G) (m:=0) G (Ze (YC G (Yq G (Yc (Ye (Ze (Yd (o':=130) G G G (Ym (x:=P 130) G G ZM (G) (Zr G (Yc (Yj G (fun h40=>?_) (fun h40=>?_)))))))))))) <;> simp only[NM]at h40
 ·refine Ze (Yq G (Zg G (ZI ?_)));rw[Zce];try simp only[QK,ovA2.1,ovA2.2,ovK.1,ovK.2,cond_false,cond_true]at *
  simp only[WA,Xd,Zb7,Zb1,Zcv,Zcx,dp,Nat.add_zero,sqI]at *;omega
 refine Yh (Ye (Ze (Yd (o':=130) G G G (Ym (x:=P 130) G G ZM (G) (Zr G (Zk G (Ys (t:=12) G (fun h41=>?_) (fun h41=>?_)))))))) <;> simp only[NM]at h41
 ·refine ZD G (ZC G (Zq G (Zk G (ZD G (ZC G (Zq G (Yc (ZA G (Ze (Yq G (Zg G (ZI ?_))))))))))));rw[Zce];try simp only[QK,ovA2.1,ovA2.2,ovK.1,ovK.2,cond_false,cond_true]at *
  simp only[WA,Xd,Zb7,Zb1,Zcv,Zcx,dp,Nat.add_zero,sqI]at *;omega
 refine Yb G (Yd (o':=130) G G G (Yb G (Ym (x:=P 130) G G ZM (G) (Yb G (Zr G (Zq G (Zk G (Ys (t:=17) G (fun h42=>?_) (fun h42=>?_))))))))) <;> simp only[NM]at h42
 ·refine ZD G (ZC G (Zq G (Yc (ZA G (Ze (Yq G (Zg G (ZI ?_))))))));rw[Zce];try simp only[QK,ovA2.1,ovA2.2,ovK.1,ovK.2,cond_false,cond_true]at *
  simp only[WA,Xd,Zb7,Zb1,Zcv,Zcx,dp,Nat.add_zero,sqI]at *;omega
 refine Yb G (Yd (o':=131) G G G (Yb G (Ym (x:=P 131) G G ZM (G) (Yb G (Zr G (Zq G (Yc (Yj G (fun h43=>?_) (fun h43=>?_))))))))) <;> simp only[NM]at h43
 ·refine Ze (Yq G (Zg G (ZI ?_)));rw[Zce];simp only[WA,Xd,Zb7,Zb1,Zcv,Zcx,dp,Nat.add_zero,sqI]at *;omega
 refine Yh (Ze (YB G (.one G (.one G .nil)) (Yy (Yq G (Yq G (Yz G G G G .here (Yc (Ye (Ze (Yd (o':=128) G G G (Ym (x:=P 128) G G ZN (G) (Zr G (Yc (Yj G (fun h44=>?_) (fun h44=>?_))))))))))))))) <;> simp only[NM]at h44
 ·refine Yf (YB G (.one G (.one G .nil)) (Yq G (Yq G (Yz G G G G .here (Yc (Ye (Yg (Yd (o':=130) G G G (Ym (x:=P 130) G G ZN (G) (Zu G G (Zj G (Zr G (Zk G (Ys (t:=32) G (fun h45=>?_) (fun h45=>?_))))))))))))))) <;> simp only[NM]at h45
  ·refine Yb G (Yd (o':=130) G G G (Yb G (Ym (x:=P 130) G G ZN (G) (Yb G (Zy G (Yb G (Zw G G G (Yb G (Yp G G ZN (Yb G (Yt G (YP (Zdw _)) G G G (Zq G (Zk G (Ys (t:=40) G (fun h46=>?_) (fun h46=>?_))))))))))))))) <;> simp only[NM]at h46
   ·refine Yb G (Yd (o':=130) G G G (Yb G (Ym (x:=P 130) G G ZN (G) (Yb G (Zj G (Yb G (Zs G G ?_)))))));rw[show P 130+-8=P 130-8 from rfl];refine Yb G (Zy G (Yb G (Zw G G G (Yb G (Yp G G ZN (Yb G (Yt G (YP (Zdw _)) G G G (Zq G (Zk G (Ys (t:=50) G (fun h47=>?_) (fun h47=>?_))))))))))) <;> simp only[NM]at h47
    ·refine Yb G (Yd (o':=130) G G G (Yb G (Ym (x:=P 130) G G ZN (G) (Yb G (Zj G (Yb G (Zt G G ?_)))))));rw[show P 130 - -8=P 130+8 by omega];refine Yb G (Zy G (Yb G (Zw G G G (Yb G (Yp G G ZN (Yb G (Yo G G ZM (Yb G (Yw G G (Zq G (Zk G (Zg G (ZI ?_)))))))))))));rw[Zce];try simp only[QK,ovA2.1,ovA2.2,ovK.1,ovK.2,cond_false,cond_true]at *
     simp only[WA,Xd,Zb7,Zb1,Zcv,Zcx,dp,Nat.add_zero,sqI]at *;omega
    refine ZF G (ZC G (Zq G (Zk G (Zg G (ZI ?_)))));rw[Zce];simp only[WA,Xd,Zb7,Zb1,Zcv,Zcx,dp,Nat.add_zero,sqI]at *;omega
   refine ZF G (Zq G (Zk G (ZF G (ZC G (Zq G (Zk G (Zg G (ZI ?_))))))));rw[Zce];simp only[WA,Xd,Zb7,Zb1,Zcv,Zcx,dp,Nat.add_zero,sqI]at *;omega
  refine ZE G (ZD G (Zq G (Zk G (ZF G (Zq G (Zk G (ZF G (ZC G (Zq G (Zk G (Zg G (ZI ?_))))))))))));rw[Zce];simp only[WA,Xd,Zb7,Zb1,Zcv,Zcx,dp,Nat.add_zero,sqI]at *;omega
 refine Yh (Ye (Yg (Yd (o':=130) G G G (Ym (x:=P 130) G G ZN (G) (Zu G G (Zj G (Zr G (Zk G (Ys (t:=32) G (fun h48=>?_) (fun h48=>?_)))))))))) <;> simp only[NM]at h48
 ·refine Yb G (Yd (o':=130) G G G (Yb G (Ym (x:=P 130) G G ZN (G) (Yb G (Zy G (Yb G (Zw G G G (Yb G (Yp G G ZN (Yb G (Yt G (YP (Zdw _)) G G G (Zq G (Zk G (Ys (t:=40) G (fun h49=>?_) (fun h49=>?_))))))))))))))) <;> simp only[NM]at h49
  ·refine Yb G (Yd (o':=130) G G G (Yb G (Ym (x:=P 130) G G ZN (G) (Yb G (Zj G (Yb G (Zs G G (Yb G (Zy G (Yb G (Zw G G G (Yb G (Yp G G ZN (Yb G (Yt G (YP (Zdw _)) G G G (Zq G (Zk G (Ys (t:=50) G (fun h50=>?_) (fun h50=>?_))))))))))))))))))) <;> simp only[NM]at h50
   ·refine Yb G (Yd (o':=130) G G G (Yb G (Ym (x:=P 130) G G ZN (G) (Yb G (Zj G (Yb G (Zt G G (Yb G (Zy G (Yb G (Zw G G G (Yb G (Yp G G ZN (Yb G (Yo G G ZM (Yb G (Yw G G (Zq G (Zk G (Zg G (ZI ?_)))))))))))))))))))));rw[Zce];try simp only[QK,ovA2.1,ovA2.2,ovK.1,ovK.2,cond_false,cond_true]at *
    simp only[WA,Xd,Zb7,Zb1,Zcv,Zcx,dp,Nat.add_zero,sqI]at *;omega
   refine ZF G (ZC G (Zq G (Zk G (Zg G (ZI ?_)))));rw[Zce];simp only[WA,Xd,Zb7,Zb1,Zcv,Zcx,dp,Nat.add_zero,sqI]at *;omega
  refine ZF G (Zq G (Zk G (ZF G (ZC G (Zq G (Zk G (Zg G (ZI ?_))))))));rw[Zce];simp only[WA,Xd,Zb7,Zb1,Zcv,Zcx,dp,Nat.add_zero,sqI]at *;omega
 refine ZE G (ZD G (Zq G (Zk G (ZF G (Zq G (Zk G (ZF G (ZC G (Zq G (Zk G (Zg G (ZI ?_))))))))))));rw[Zce];simp only[WA,Xd,Zb7,Zb1,Zcv,Zcx,dp,Nat.add_zero,sqI]at *;omega
def wj{P Q:Nat->Int}(h:∀ i,i<128->P i=Q i)(c:Int):∀ n:Nat,n<=64->kM P c n=kM Q c n
 |0,_=>rfl
 |n+1,hn=>by
  have hq:sqI n=0+(n:Int).toNat*2:=rfl;unfold kM;rw[wj h c n (by omega),h (sqI n) (by omega),h (sqI n+1) (by omega)]
def j3{P Q:Nat->Int}(h:∀ i,i<128->P i=Q i){s:Nat}(hs:s<64):okM P s=okM Q s:=by
 have hq:sqI s=0+(s:Int).toNat*2:=rfl;unfold okM;rw[h (sqI s) (by omega),h (sqI s+1) (by omega)]
def jY{P Q:Nat->Int}(h:∀ i,i<133->P i=Q i):Vg P=Vg Q:=by
 have hl:∀ i,i<128->P i=Q i:=fun i hi=>h i (by omega)
 have ho:(∀ s:Nat,s<64->okM P s)↔(∀ s:Nat,s<64->okM Q s):=⟨fun a s hs=>(j3 hl hs) ▸ a s hs,fun a s hs=>(j3 hl hs).symm ▸ a s hs⟩
 unfold Vg;rw[Zce,Zb7,Zb7,ho,wj hl 0 64 (by omega),wj hl 1 64 (by omega),h 128 (by omega)]
def QL{P Q:Nat->Int}(h:∀ i,i<133->P i=Q i){x k c:Int}(hx:0<=x/\x<64):Xd P x k c=Xd Q x k c:=by
 have hq:sqI x=0+x.toNat*2:=rfl;unfold Xd;rw[h (sqI x) (by omega),h (sqI x+1) (by omega)]
def Ju{P Q:Nat->Int}(h:∀ i,i<133->P i=Q i){s a b:Int}(ha:0<=a/\a<64)(hb:0<=b/\b<64):VI P s a b=VI Q s a b:=by
 have hq:sqI a=0+a.toNat*2:=rfl;have hq2:sqI b=0+b.toNat*2:=rfl;unfold VI;rw[h (sqI a) (by omega),h (sqI a+1) (by omega),h (sqI b) (by omega),h (sqI b+1) (by omega)]
def jg{P Q:Nat->Int}(h:∀ i,i<133->P i=Q i):X2 P=X2 Q:=by
 unfold X2;rw[h 129 (by omega),Ju h (by omega) (by omega),Ju h (by omega) (by omega),Ju h (by omega) (by omega),Ju h (by omega) (by omega)]
def uw{P Q:Nat->Int}(h:∀ i,i<133->P i=Q i):WA P=WA Q:=by
 unfold WA;rw[h 130 (by omega),h 131 (by omega),h 128 (by omega)];by_cases hx:(0<=Q 130/\Q 130<64)/\(Q 130/8=2\/Q 130/8=5)
 ·rw[QL h (x:=Q 130) (by omega),QL h (x:=Q 130-8) (by omega),QL h (x:=Q 130+8) (by omega),QL h (x:=Q 130+8) (by omega),QL h (x:=Q 130-8) (by omega)]
 rw[Zce,Zb7,Zb7];constructor
 ·rintro(e|⟨e,_,⟨_,f,_⟩|⟨_,f,_⟩⟩)
  ·exact .inl e
  ·exact absurd ⟨e,.inl f⟩ hx
  exact absurd ⟨e,.inr f⟩ hx
 rintro(e|⟨e,_,⟨_,f,_⟩|⟨_,f,_⟩⟩)
 ·exact .inl e
 ·exact absurd ⟨e,.inl f⟩ hx
 exact absurd ⟨e,.inr f⟩ hx
def Ez(P:Nat->Int):∀ i,i<133->ovA (fun _=>0) 0 133 (ovA (fun _=>0) 0 133 P) i=P i:=fun i hi=>by
 rw[X3 (by omega),Nat.sub_zero,X3 (by omega),Nat.sub_zero]
def QY{P:Nat->Int}{a b c r:Bool}(ha:a=Vg P)(hb:a=true->b=X2 P)(hc:a=true->b=true->c=WA P)(hr:r=(a&&b&&c&&decide (0<=P 131/\P 131<=1024/\1<=P 132/\P 132<=16384))):r=QJ P:=by
 subst hr ha;unfold QJ
 cases hp:Vg P with
 |false=>simp
 |true=>
  have hb:=hb hp;subst hb
  cases hq:X2 P with
  |false=>simp
  |true=>
   have hc:=hc hp hq;subst hc;simp
def oq(P:Nat->Int):WR AM 98 [.agg 133 (ia P)] [] (fun v _ _=>v=.s (.bool (QJ P))):=by
 refine YL (a:=a98) G G (YI _) (ZQ G) (m:=0) G (Ze (YC G (Yq G (Zf (Yo G G ZM (YB G (.agg G .nil) (Yy (Yz G G G G .here (Zf (Yo G G ZM ?_))))))))));obtain⟨bp,hbp⟩:∃ b,b=Vg P:=⟨_,rfl⟩
 have hP:=YP (pU (ovA (fun _=>0) 0 133 (ovA (fun _=>0) 0 133 P)));rw[jY (Ez P),<-hbp]at hP;refine Yt G (hP) G G G (Zk G (Ys (t:=8) G (fun h51=>?_) (fun h51=>?_)))
 ·refine Yb G (Yo G G ZM (Yb G ?_));obtain⟨bc,hbc⟩:∃ b,b=X2 P:=⟨_,rfl⟩
  have hC:=YP (re (ovA (fun _=>0) 0 133 (ovA (fun _=>0) 0 133 P)));rw[jg (Ez P),<-hbc]at hC;refine Yt G (hC) G G G (Zq G (Zk G (Ys (t:=12) G (fun h52=>?_) (fun h52=>?_))))
  ·refine Yb G (Yo G G ZM (Yb G ?_));have hbt:bp=true:=by assumption
   have hs:=(qh (P:=P) (by rw[<-hbp];exact hbt)).2.2.2;obtain⟨bo,hbo⟩:∃ b,b=WA P:=⟨_,rfl⟩
   have hO:=YP (over_ok (ovA (fun _=>0) 0 133 (ovA (fun _=>0) 0 133 P)) hs);rw[uw (Ez P),<-hbo]at hO;refine Yt G (hO) G G G (Zq G (Zk G (Ys (t:=16) G (fun h53=>?_) (fun h53=>?_))))
   ·refine Yb G (Yd (o':=131) G G G (Yb G (Ym (x:=P 131) G G ZN (G) (Yb G (Zr G (Zq G (Zk G (Ys (t:=21) G (fun h54=>?_) (fun h54=>?_))))))))) <;> simp only[NM]at h54
    ·refine Yb G (Yd (o':=131) G G G (Yb G (Ym (x:=P 131) G G ZN (G) (Yb G (Zr G (Zq G (Zk G (Ys (t:=26) G (fun h55=>?_) (fun h55=>?_))))))))) <;> simp only[NM]at h55
     ·refine Yb G (Yd (o':=132) G G G (Yb G (Ym (x:=P 132) G G ZN (G) (Yb G (Zr G (Zq G (Zk G (Ys (t:=31) G (fun h56=>?_) (fun h56=>?_))))))))) <;> simp only[NM]at h56
      ·refine Yb G (Yd (o':=132) G G G (Yb G (Ym (x:=P 132) G G ZN (G) (Yb G (Zr G (Zq G (Zk G (Zg G (congrArg (fun b=>V.s (S.bool b)) (QY (b:=bc) (c:=bo) hbp (fun _=>hbc) (fun _ _=>hbo) ?_))))))))));clear hbp hbc hbo hP hC hO;(simp[*];done)
      refine ZD G (ZC G (Zq G (Zk G (Zg G (congrArg (fun b=>V.s (S.bool b)) (QY (b:=bc) (c:=bo) hbp (fun _=>hbc) (fun _ _=>hbo) ?_))))));clear hbp hbc hbo hP hC hO;(subst_vars;simp only[Bool.true_and];rw[Zce];simp only[Zb7,Zb1,Zcv,Zcx];omega)
     refine ZD G (ZC G (Zq G (Zk G (ZD G (ZC G (Zq G (Zk G (Zg G (congrArg (fun b=>V.s (S.bool b)) (QY (b:=bc) (c:=bo) hbp (fun _=>hbc) (fun _ _=>hbo) ?_))))))))));clear hbp hbc hbo hP hC hO;(subst_vars;simp only[Bool.true_and];rw[Zce];simp only[Zb7,Zb1,Zcv,Zcx];omega)
    refine ZD G (ZC G (Zq G (Zk G (ZD G (ZC G (Zq G (Zk G (ZD G (ZC G (Zq G (Zk G (Zg G (congrArg (fun b=>V.s (S.bool b)) (QY (b:=bc) (c:=bo) hbp (fun _=>hbc) (fun _ _=>hbo) ?_))))))))))))));clear hbp hbc hbo hP hC hO;(subst_vars;simp only[Bool.true_and];rw[Zce];simp only[Zb7,Zb1,Zcv,Zcx];omega)
   refine Ya G G (ZD G (Zq G (Zk G (ZD G (ZC G (Zq G (Zk G (ZD G (ZC G (Zq G (Zk G (ZD G (ZC G (Zq G (Zk G (Zg G (congrArg (fun b=>V.s (S.bool b)) (QY (b:=bc) (c:=bo) hbp (fun _=>hbc) (fun _ _=>hbo) ?_))))))))))))))))));clear hbp hbc hbo hP hC hO;(simp[*];done)
  refine Ya G G (ZC G (Zq G (Zk G (ZD G (ZC G (Zq G (Zk G (ZD G (ZC G (Zq G (Zk G (ZD G (ZC G (Zq G (Zk G (ZD G (ZC G (Zq G (Zk G (Zg G ?_))))))))))))))))))));exact congrArg (fun b=>V.s (S.bool b)) (QY (b:=bc) (c:=WA P) hbp (fun _=>hbc) (fun _ _=>rfl) (by clear hbp hbc hP hC;simp[*]))
 refine Ya G G (ZC G (Zq G (Zk G (ZD G (Zq G (Zk G (ZD G (ZC G (Zq G (Zk G (ZD G (ZC G (Zq G (Zk G (ZD G (ZC G (Zq G (Zk G (ZD G (ZC G (Zq G (Zk G (Zg G ?_)))))))))))))))))))))));exact congrArg (fun b=>V.s (S.bool b)) (QY (b:=X2 P) (c:=WA P) hbp (fun _=>rfl) (fun _ _=>rfl) (by clear hbp hP;simp[*]))
def ZeB(P:Nat->Int):WR AM 96 [.agg 133 (ia P)] [] (fun v _ _=>v=.s (.bool (QJ P))):=by
 refine YL (a:=a96) G G (YI _) (ZQ G) (m:=0) G (Ze (YC G (Yq G (Zf (Yo G G ZM ?_)))));obtain⟨bp,hbp⟩:∃ b,b=Vg P:=⟨_,rfl⟩
 have hP:=YP (ZeJ P);rw[<-hbp]at hP;refine Yt G (hP) G G G (Zk G (Ys (t:=5) G (fun h57=>?_) (fun h57=>?_)))
 ·refine Yb G (Yo G G ZM (Yb G ?_));obtain⟨bc,hbc⟩:∃ b,b=X2 P:=⟨_,rfl⟩
  have hC:=YP (Zep P);rw[<-hbc]at hC;refine Yt G (hC) G G G (Zq G (Zk G (Ys (t:=9) G (fun h58=>?_) (fun h58=>?_))))
  ·refine Yb G (Yo G G ZM (Yb G ?_));have hbt:bp=true:=by assumption
   have hs:=(qh (P:=P) (by rw[<-hbp];exact hbt)).2.2.2;obtain⟨bo,hbo⟩:∃ b,b=WA P:=⟨_,rfl⟩
   have hO:=YP (Ze5 P hs);rw[<-hbo]at hO;refine Yt G (hO) G G G (Zq G (Zk G (Ys (t:=13) G (fun h59=>?_) (fun h59=>?_))))
   ·refine Yb G (Yd (o':=131) G G G (Yb G (Ym G G ZM G (Yb G (Zr G (Zq G (Zk G (Ys (t:=18) G (fun h60=>?_) (fun h60=>?_))))))))) <;> simp only[NM]at h60
    ·refine Yb G (Yd (o':=131) G G G (Yb G (Ym G G ZM G (Yb G (Zr G (Zq G (Zk G (Ys (t:=23) G (fun h61=>?_) (fun h61=>?_))))))))) <;> simp only[NM]at h61
     ·refine Yb G (Yd (o':=132) G G G (Yb G (Ym G G ZM G (Yb G (Zr G (Zq G (Zk G (Ys (t:=28) G (fun h62=>?_) (fun h62=>?_))))))))) <;> simp only[NM]at h62
      ·refine Yb G (Yd (o':=132) G G G (Yb G (Ym G G ZM G (Yb G (Zr G (Zq G (Zk G (Zg G (congrArg (fun b=>V.s (S.bool b)) (QY (b:=bc) (c:=bo) hbp (fun _=>hbc) (fun _ _=>hbo) ?_))))))))));clear hbp hbc hbo hP hC hO;(simp[*];done)
      refine ZD G (ZC G (Zq G (Zk G (Zg G (congrArg (fun b=>V.s (S.bool b)) (QY (b:=bc) (c:=bo) hbp (fun _=>hbc) (fun _ _=>hbo) ?_))))));clear hbp hbc hbo hP hC hO;(subst_vars;simp only[Bool.true_and];rw[Zce];simp only[Zb7,Zb1,Zcv,Zcx];omega)
     refine ZD G (ZC G (Zq G (Zk G (ZD G (ZC G (Zq G (Zk G (Zg G (congrArg (fun b=>V.s (S.bool b)) (QY (b:=bc) (c:=bo) hbp (fun _=>hbc) (fun _ _=>hbo) ?_))))))))));clear hbp hbc hbo hP hC hO;(subst_vars;simp only[Bool.true_and];rw[Zce];simp only[Zb7,Zb1,Zcv,Zcx];omega)
    refine ZD G (ZC G (Zq G (Zk G (ZD G (ZC G (Zq G (Zk G (ZD G (ZC G (Zq G (Zk G (Zg G (congrArg (fun b=>V.s (S.bool b)) (QY (b:=bc) (c:=bo) hbp (fun _=>hbc) (fun _ _=>hbo) ?_))))))))))))));clear hbp hbc hbo hP hC hO;(subst_vars;simp only[Bool.true_and];rw[Zce];simp only[Zb7,Zb1,Zcv,Zcx];omega)
   refine Ya G G (ZD G (Zq G (Zk G (ZD G (ZC G (Zq G (Zk G (ZD G (ZC G (Zq G (Zk G (ZD G (ZC G (Zq G (Zk G (Zg G (congrArg (fun b=>V.s (S.bool b)) (QY (b:=bc) (c:=bo) hbp (fun _=>hbc) (fun _ _=>hbo) ?_))))))))))))))))));clear hbp hbc hbo hP hC hO;(simp[*];done)
  refine Ya G G (ZC G (Zq G (Zk G (ZD G (ZC G (Zq G (Zk G (ZD G (ZC G (Zq G (Zk G (ZD G (ZC G (Zq G (Zk G (ZD G (ZC G (Zq G (Zk G (Zg G ?_))))))))))))))))))));exact congrArg (fun b=>V.s (S.bool b)) (QY (b:=bc) (c:=WA P) hbp (fun _=>hbc) (fun _ _=>rfl) (by clear hbp hbc hP hC;simp[*]))
 refine Ya G G (ZC G (Zq G (Zk G (ZD G (Zq G (Zk G (ZD G (ZC G (Zq G (Zk G (ZD G (ZC G (Zq G (Zk G (ZD G (ZC G (Zq G (Zk G (ZD G (ZC G (Zq G (Zk G (Zg G ?_)))))))))))))))))))))));exact congrArg (fun b=>V.s (S.bool b)) (QY (b:=X2 P) (c:=WA P) hbp (fun _=>rfl) (fun _ _=>rfl) (by clear hbp hP;simp[*]))
end Go.Proofs.YtlkighkfkdpncaaGreatDoor
namespace Go.Am
open Go
section
variable{A:AP}{N:Nat}{f:FE}{n:Nat}{L:HA}{K:KN}{Zp:V->KN}{l:List I}{d:Nat}
def Kz{len z:Nat}{x:O}{b o z':Nat}(hx:x.fv N f=.ptr b o z')(hz:Nat.ble (len*z) z'=true)(h0:0<len)(k:WO A N l (upd f d (.sl b o len z (.ex len))) n L K Zp):WO A N (⟨some d,none,.p (.slA len z x none none)⟩::l) f n L K Zp :=
 Va (v:=.sl b o len z (.ex len)) (by
  simp only[YY,Y2,hx,tE,fvb,ZcA (YF hz)];rw[ZcA (by omega),ZcA (by omega)];simp) k
end
end Go.Am
namespace Go.Proofs.YtlkighkfkdpncaaGreatDoor
open Go Go.Am
def QZ(x:Int):List Int->Int
 |[]=>-1
 |y::l=>if x=y then 0 else if QZ x l=-1 then -1 else QZ x l+1
def tp(x:Int):∀ l:List Int,-1<=QZ x l/\QZ x l<l.length
 |[]=>⟨Int.le_refl _,by simp[QZ]⟩
 |y::l=>by
  have:=tp x l;unfold QZ;rw[Zcd];split
  ·omega
  split <;> omega
def uP{x:Int}:∀ {l:List Int},(∀ i:Nat,i<l.length->l.getD i 0≠x)->QZ x l=-1
 |[],_=>rfl
 |y::l,h=>by
  unfold QZ;have h0:=h 0 (by simp);have ih:=uP (x:=x) (l:=l) fun i hi=>by have:=h (i+1) (by simpa using hi);simpa using this
  rw[Zcz (fun e=>h0 (by simp[e])),ZcA ih]
def te{x:Int}:∀ {l:List Int} {i:Nat},i<l.length->l.getD i 0=x->(∀ j:Nat,j<i->l.getD j 0≠x)->QZ x l=i
 |[],i,h,_,_=>by simp at h
 |y::l,0,_,h,_=>by
  unfold QZ;rw[ZcA (by simpa using h.symm)];rfl
 |y::l,i+1,hi,h,hn=>by
  unfold QZ;have h0:=hn 0 (by omega);have ih:=te (x:=x) (l:=l) (i:=i) (by simpa using hi) (by simpa using h) fun j hj=>by have:=hn (j+1) (by omega);simpa using this
  rw[Zcz (fun e=>h0 (by simp[e])),Zcz (by omega),ih];omega
def kn{x:Int}:∀ {l:List Int},0<=QZ x l↔x∈l
 |[]=>by simp[QZ]
 |y::l=>by
  have ih:=kn (x:=x) (l:=l);have:=tp x l;unfold QZ;rw[Zco];by_cases e:x=y
  ·rw[ZcA e];simp[e]
  rw[Zcz e];simp only[e,false_or];rw[<-ih];split <;> omega
def ld1{F:Nat->Int}{l:List Int}(hF:∀ i,i<l.length->F i=l.getD i 0){i:Nat}(hi:i<l.length):F (0+(i:Int).toNat*1)=l.getD i 0:=by
 rw[show 0+(i:Int).toNat*1=i by omega];exact hF i hi
def Te{l:List Int}:l.length=l.length*1:=(Nat.mul_one _).symm
def pL(x:Int)(l:List Int)(hlen:l.length<=1000000):RdR AM 136 1 [] [.s (.int .i64 x)] l (.s (.int .i64 (QZ x l))):=by
 refine WV fun v Bs hc=>?_
 refine YL (a:=a136) G G (YI _) (ZQ G) G ?_ (by first|rfl|(cases hc <;> rfl));have hr0:=hc.rx;rw[show YZ 0 Bs=YZ 0 Bs++[] from(Zcf _).symm];generalize hown:YZ 0 Bs=own0 at hr0 ⊢;refine Ze (Yq G (Yc (Ye (Ze (Yq (v:=v) G (Xk G hr0 (by decide) Te (Yq G (Yc (Yk (Xo (ZbY (.refl _) .slnil) (Xu (fun m f _ L=>∃ (i:Nat),(i<=l.length)/\(m=l.length-i)/\(∀ j:Nat,j<i->l.getD j 0≠x)/\(f 0=v)/\(f 1=.s (.int .i64 x))/\(f 7=.s (.int .i64 l.length))/\(f 8=.s (.int .i64 i))/\(L=(own0++[]))) (fun m f nb L hI=>?_) (l.length) (⟨0,by omega,by omega,fun j hj=>by omega,rfl,rfl,rfl,rfl,rfl⟩))))))))))));obtain⟨i,hi,hm,hn,k0,k1,k7,k8,rfl⟩:=hI;refine Za 0 k0 (Za 1 k1 (Za 7 k7 (Za 8 k8 (Ze (Zr G (Yc (Ye (Yj G (fun h1=>?_) (fun h1=>?_))))))))) <;> simp only[NM]at h1
 ·refine Yh (Ye (Yk (Ze (Zj G (Zj G (Zf (Zj G (Yq (v:=v) G (Zj G ?_)))))))));obtain⟨b0,q0,md0,c0,F0,rfl,rfl,hF0⟩:=hr0.at (by decide) Te (by omega);refine Zx G G (Ym (x:=l.getD i 0) G G ZM (ld1 hF0 (by omega)) (Zr G (Yc (Yj G (fun h2=>?_) (fun h2=>?_))))) <;> simp only[NM]at h2
  ·refine Ze (Zj G (Zj G (Yc (Yi (⟨_,ZL G,?_⟩)))));refine⟨ZJ ?_,(fun _ h=>h)⟩;exact(te (by omega) (by omega) hn).symm
  refine Yh (Yf (Zs G G (Zj G (Yc (⟨l.length-(i+1),_,by omega,(.refl _),i+1,by omega,rfl,?_,rfl,rfl,rfl,rfl,rfl⟩)))));intro j hj;by_cases e:j=i
  ·subst e;exact fun e=>by omega
  exact hn j (by omega)
 refine Y0 (Xb (Ze (Yq G (Yc (Yi (⟨_,ZL G,?_⟩))))));refine⟨ZJ ?_,(fun _ h=>h)⟩;exact(uP fun j hj=>hn j (by omega)).symm
def kJ(x:Int)(l:List Int)(hlen:l.length<=1000000):RdR AM 114 1 [] [.s (.int .i64 x)] l (.s (.bool (decide (x∈l)))):=by
 refine WV fun v Bs hc=>?_
 refine YL (a:=a114) G G (YI _) (ZQ G) G ?_ (by first|rfl|(cases hc <;> rfl));have hr0:=hc.rx;rw[show YZ 0 Bs=YZ 0 Bs++[] from(Zcf _).symm];generalize hown:YZ 0 Bs=own0 at hr0 ⊢;refine Ze (Yq G (Zf (Yq (v:=v) G (Zj G (XX (caps:=[]) G (pL x l hlen) G (hr0) (fun _ h=>(ZbV _ h)) G G G (Zr G (Zk G (Zg G (⟨ZI ?_,(fun _ h=>h)⟩)))))))));exact decide_eq_decide.2 kn
def muM_pos{s f r:Int}(h:0<=s/\s<64):1<=muM s f r:=by
 unfold muM;rw[Zcz (by omega)];split
 ·omega
 split
 ·omega
 split <;> omega
def jQ{p r t:Int}{k:Nat}(hz:¬ (p=0/\r=0))(ht:t≠-1)(hb:-1<=t/\t<64)(hk:muM t p r<=k+1):∃ k',Vb p r k t=(if YT t p r=-1 then [] else YT t p r::Vb p r k' (YT t p r))/\muM (YT t p r) p r<=k'+1:=by
 have hs:=yT hz ht hb;match k with
 |0=>
  have hb':=V9 t p r;have:YT t p r=-1:=by
   by_cases e:YT t p r=-1
   ·exact e
   have:=muM_pos (f:=p) (r:=r) (s:=YT t p r) (by omega);omega
  exact⟨0,by rw[ZcA this];rfl,by omega⟩
 |k+1=>exact⟨k,rfl,by omega⟩
def Rb(f r:Int):∀ (k:Nat) (s:Int),(Vb f r k s).length<=k
 |0,_=>Zcs _
 |k+1,s=>by
  unfold Vb;split
  ·simp
  have:=Rb f r k (YT s f r);rw[Zcd];omega
def gw{a b:List Int}{n:Nat}(h:(a++b).length<=n):a.length<=n:=by rw[Zb2]at h;omega
def ray_rt(s p r:Int)(hz:¬ (p=0/\r=0)):RtR AM 168 1 [.s (.int .i64 s),.s (.int .i64 p),.s (.int .i64 r)] [] (Vb p r 8 s) []:=by
 refine Qq (YL (a:=a168) G G (YI _) (ZQ G) (m:=0) G (Ze (Yq G (Yc (Ye (Ze (Zj G (Zr G (Zk G (Ys (t:=9) G (fun h1=>?_) (fun h1=>?_))))))))))) <;> simp only[NM]at h1
 ·refine Yb G (Zj G (Yb G (Zr G (Zq G (Yc (Yj G (fun h2=>?_) (fun h2=>?_))))))) <;> simp only[NM]at h2
  ·refine Ze (Yq G (Yc (Yi (⟨_,YH (v:=.snil) G (YW),?_⟩))));exfalso;omega
  refine Yh (Ye (Ze (Zj G (Zj G (Zj G (Yt G (UC _ _ _) G G G (Zj G (Yc (Yk (Xo .slnil (Xu (fun m f _ L=>∃ (t:Int) (acc:List Int) (k:Nat) (vO:V) (ownO:HA),(Vb p r 8 s=acc++(if t=-1 then [] else t::Vb p r k t))/\(muM t p r<=k+1)/\(m=muM t p r)/\(-1<=t/\t<64)/\(Rw 1 (acc) vO ownO)/\(f 0=.s (.int .i64 t))/\(f 1=.s (.int .i64 p))/\(f 2=.s (.int .i64 r))/\(f 6=vO)/\(L=(ownO++[]))) (fun m f nb L hI=>?_) (muM (YT s p r) p r) (⟨YT s p r,[],7,.snil,[],G,oo (V9 s p r).2,G,V9 s p r,.nil G,G,G,G,G,G⟩))))))))))));obtain⟨t,acc,k,vO,ownO,hacc,hk,hm,hb,hrO,k0,k1,k2,k6,rfl⟩:=hI;refine Za 0 k0 (Za 1 k1 (Za 2 k2 (Za 6 k6 (Ye (Ze (Zj G (Zr G (Yc (Yj G (fun h3=>?_) (fun h3=>?_)))))))))) <;> simp only[NM]at h3
  ·refine Yh (Ye (Yk (Yf (Yq (v:=vO) G (Zj G (XA G (.one G .nil) (XZ (c:=[t]) G hrO G ZM (.there .here) (by decide) (by decide) G (Jn) (by have:=gw (b:=if t=-1 then [] else t::Vb p r k t) (by rw[<-hacc];exact Rb p r 8 s);omega) (fun v1 own1 n1 hr1=>Yq (v:=v1) G (Yc (Yf (Zj G (Zj G (Zj G (Yt G (UC _ _ _) G G G (Zj G (Yc ?_))))))))))))))));have ht:t≠-1:=by omega
   obtain⟨k2,hk1,hk2⟩:=jQ hz ht hb hk;refine⟨muM (YT t p r) p r,_,by rw[hm];exact yT hz ht hb,(ZbY (.refl _) (.cons _ .slnil)),YT t p r,acc++[t],k2,_,_,?_,hk2,rfl,V9 t p r,hr1,rfl,rfl,rfl,rfl,rfl⟩;rw[hacc,Zcz ht,hk1,Zb5];rfl
  refine Y0 (Xb (Ze (Yq (v:=vO) G (Yq (v:=vO) G (Yc (Yi (⟨_,YH (v:=vO) G (YW),?_⟩)))))));have ht:t=-1:=by omega
  rw[ZcA ht,Zcf]at hacc;exact⟨_,hacc ▸ hrO,(fun _ h=>(ZbV _ h))⟩
 refine ZD G (Zq G (Yc (ZB G (Yh (Ye (Ze (Zj G (Zj G (Zj G (Yt G (UC _ _ _) G G G (Zj G (Yc (Yk (Xo .slnil (Xu (fun m f _ L=>∃ (t:Int) (acc:List Int) (k:Nat) (vO:V) (ownO:HA),(Vb p r 8 s=acc++(if t=-1 then [] else t::Vb p r k t))/\(muM t p r<=k+1)/\(m=muM t p r)/\(-1<=t/\t<64)/\(Rw 1 (acc) vO ownO)/\(f 0=.s (.int .i64 t))/\(f 1=.s (.int .i64 p))/\(f 2=.s (.int .i64 r))/\(f 6=vO)/\(L=(ownO++[]))) (fun m f nb L hI=>?_) (muM (YT s p r) p r) (⟨YT s p r,[],7,.snil,[],G,oo (V9 s p r).2,G,V9 s p r,.nil G,G,G,G,G,G⟩))))))))))))))));obtain⟨t,acc,k,vO,ownO,hacc,hk,hm,hb,hrO,k0,k1,k2,k6,rfl⟩:=hI;refine Za 0 k0 (Za 1 k1 (Za 2 k2 (Za 6 k6 (Ye (Ze (Zj G (Zr G (Yc (Yj G (fun h4=>?_) (fun h4=>?_)))))))))) <;> simp only[NM]at h4
 ·refine Yh (Ye (Yk (Yf (Yq (v:=vO) G (Zj G (XA G (.one G .nil) (XZ (c:=[t]) G hrO G ZM (.there .here) (by decide) (by decide) G (Jn) (by have:=gw (b:=if t=-1 then [] else t::Vb p r k t) (by rw[<-hacc];exact Rb p r 8 s);omega) (fun v2 own2 n2 hr2=>Yq (v:=v2) G (Yc (Yf (Zj G (Zj G (Zj G (Yt G (UC _ _ _) G G G (Zj G (Yc ?_))))))))))))))));have ht:t≠-1:=by omega
  obtain⟨k2,hk1,hk2⟩:=jQ hz ht hb hk;refine⟨muM (YT t p r) p r,_,by rw[hm];exact yT hz ht hb,(ZbY (.refl _) (.cons _ .slnil)),YT t p r,acc++[t],k2,_,_,?_,hk2,rfl,V9 t p r,hr2,rfl,rfl,rfl,rfl,rfl⟩;rw[hacc,Zcz ht,hk1,Zb5];rfl
 refine Y0 (Xb (Ze (Yq (v:=vO) G (Yq (v:=vO) G (Yc (Yi (⟨_,YH (v:=vO) G (YW),?_⟩)))))));have ht:t=-1:=by omega
 rw[ZcA ht,Zcf]at hacc;exact⟨_,hacc ▸ hrO,(fun _ h=>(ZbV _ h))⟩
def qG(i:Nat):Wq (i+1)=Wq i++[(i:Int)]:=by
 unfold Wq;rw[List.range_succ,List.map_append];rfl
def vK(p:Int->Bool)(i:Nat):((Wq i).filter p).length<=i:=by
 refine Zcq (ZbU _ _) ?_;unfold Wq;rw[List.length_map,List.length_range];exact Zcs _
def ZaS{p:Int->Bool}{i:Nat}(h:p i=true):(Wq (i+1)).filter p=(Wq i).filter p++[(i:Int)]:=by
 rw[qG,List.filter_append];simp[h]
def ZdW{p:Int->Bool}{i:Nat}(h:p i=false):(Wq (i+1)).filter p=(Wq i).filter p:=by
 rw[qG,List.filter_append];simp[h]
def isX(P X:Nat->Int)(s:Int):Bool:=decide (P (sqI s)=X 0/\P (sqI s+1)=X 1)
def jz(P X:Nat->Int):List Int:=(Wq 64).filter (isX P X)
def pT{P X Q:Nat->Int}{s:Nat}(hQ:∀ j,j<2->Q j=P (sqI s+j)):eqI 2 X Q=isX P X s:=by
 unfold isX;rw[Zce,Qo,Zb7];constructor
 ·intro h;have h0:=h 0 (by omega);have h1:=h 1 (by omega);rw[hQ 0 (by omega)]at h0;rw[hQ 1 (by omega)]at h1;exact⟨h0.symm,h1.symm⟩
 rintro⟨h0,h1⟩ i hi;rw[hQ i hi];match i,hi with
 |0,_=>exact h0.symm
 |1,_=>exact h1.symm
def uS(P X:Nat->Int):RtR AM 55 1 [.agg 133 (ia P),.agg 2 (ia X)] [] (jz P X) []:=by
 refine Qq (YL (a:=a55) G G (YI _) (ZQ G) (m:=0) G (Ze (YC G (YC G (Yq G (Yc (Ye (Ze (Zy G (Yo G G ZN (Yq G (Yc (Yk (Xo (.cons_cons _ (.cons _ .slnil)) (Xu (fun m f _ L=>∃ (i:Nat) (vO:V) (ownO:HA),(i<=64)/\(m=64-i)/\(Rw 1 ((Wq i).filter (isX P X)) vO ownO)/\(f 3=.ptr 1 0 2)/\(f 4=vO)/\(f 8=.agg 128 (ia P))/\(f 9=.s (.int .i64 i))/\(L=(ownO++[(1,.sc .var 2 (ia X))]))) (fun m f nb L hI=>?_) (64) (⟨0,.snil,[],by omega,rfl,.nil rfl,rfl,rfl,rfl,rfl,rfl⟩))))))))))))))));obtain⟨i,vO,ownO,hi,hm,hrO,k3,k4,k8,k9,rfl⟩:=hI;refine Za 3 k3 (Za 4 k4 (Za 8 k8 (Za 9 k9 (Ze (Zr G (Yc (Ye (Yj G (fun h5=>?_) (fun h5=>?_))))))))) <;> simp only[NM]at h5
 ·refine Yh (Ye (Yk (Ze (Zj G (y7 G G G (by omega) (Yy (Zj G (Yz G G G G .here (Zf (Yo G G (.tail _ (ZbM _ ZM)) (Yo G G ZM (Yw G G (Yc (Yj G (fun h6=>?_) (fun h6=>?_))))))))))))))) <;> simp only[NM]at h6
  ·refine Yf (Yq (v:=vO) G (Zj G (XA G (.one G .nil) (XZ (c:=[(i:Int)]) G hrO G ZM (.there (.there .here)) (by decide) (by decide) G (Jn) (by have:=vK (isX P X) i;omega) (fun v1 own1 n1 hr1=>Yq (v:=v1) G (Yc (Yf (Zs G G (Zj G (Yc ?_))))))))));have e0:∀ j,j<2->ovA (fun _=>0) 0 2 (dp P ((i:Int).toNat*2)) j=P (sqI i+j):=fun j hj=>by rw[X3 (by omega)];have hq:sqI (i:Int)=0+(i:Int).toNat*2:=rfl;exact congrArg P (by omega)
   refine⟨64-(i+1),_,by omega,(ZbY (.refl _) (.cons _ (.cons _ (.refl _)))),i+1,_,_,by omega,rfl,?_,rfl,rfl,rfl,rfl,rfl⟩;exact(ZaS (p:=isX P X) (i:=i) (by rw[<-pT e0];assumption)).symm ▸ hr1
  refine Yh (Yf (Zs G G (Zj G (Yc ?_))));have e0:∀ j,j<2->ovA (fun _=>0) 0 2 (dp P ((i:Int).toNat*2)) j=P (sqI i+j):=fun j hj=>by rw[X3 (by omega)];have hq:sqI (i:Int)=0+(i:Int).toNat*2:=rfl;exact congrArg P (by omega)
  refine⟨64-(i+1),_,by omega,(.cons _ (ZbY (.refl _) (.refl _))),i+1,_,_,by omega,rfl,?_,rfl,rfl,rfl,rfl,rfl⟩;exact(ZdW (p:=isX P X) (i:=i) (by rw[<-pT e0];assumption)).symm ▸ hrO
 refine Y0 (Xb (Ze (Yq (v:=vO) G (Yq (v:=vO) G (Yc (Yi (⟨_,YH (v:=vO) G (YW),?_⟩)))))));obtain rfl:i=64:=by omega
 exact⟨_,hrO,(fun _ h=>(ZbV _ h))⟩
def Wf(l:List (Int×Int)):List Int:=l.flatMap fun w=>[w.1,w.2]
def Qf:∀ l:List (Int×Int),(Wf l).length=l.length*2
 |[]=>rfl
 |w::l=>by
  have:=Qf l;unfold Wf at *;rw[Zb8,Zb2,this];simp only[Zcd,List.length_nil];omega
def yG:∀ {l:List (Int×Int)} {i:Nat},i<l.length->(Wf l).getD (i*2) 0=(l.getD i (0,0)).1/\(Wf l).getD (i*2+1) 0=(l.getD i (0,0)).2
 |[],i,h=>absurd (show i<0 from h) (by omega)
 |w::l,0,_=>⟨rfl,rfl⟩
 |w::l,i+1,h=>by
  have:=yG (l:=l) (i:=i) (by simpa using h);have e:Wf (w::l)=w.1::w.2::Wf l:=rfl;rw[e,show(i+1)*2=i*2+1+1 by omega,show i*2+1+1+1=i*2+1+1+1 from rfl];simpa using this
def way0{F:Nat->Int}{l:List (Int×Int)}(hF:∀ i,i<(Wf l).length->F i=(Wf l).getD i 0){i:Nat}(hi:i<l.length):F (0+(i:Int).toNat*2+0)=(l.getD i (0,0)).1:=by
 rw[show 0+(i:Int).toNat*2+0=i*2 by omega,hF _ (by rw[Qf];omega),(yG hi).1]
def way1{F:Nat->Int}{l:List (Int×Int)}(hF:∀ i,i<(Wf l).length->F i=(Wf l).getD i 0){i:Nat}(hi:i<l.length):F (0+(i:Int).toNat*2+1)=(l.getD i (0,0)).2:=by
 rw[show 0+(i:Int).toNat*2+1=i*2+1 by omega,hF _ (by rw[Qf];omega),(yG hi).2]
def VX{α:Type}{l:List α}{i:Nat}(d:α)(hi:i<l.length):l.take (i+1)=l.take i++[l.getD i d]:=by
 rw[List.take_succ_eq_append_getElem hi,ZbD,ZbH hi];rfl
def rM{s:Int}{l:List (Int×Int)}{i:Nat}(hi:i<l.length)(h:YT s (l.getD i (0,0)).1 (l.getD i (0,0)).2≠-1):X7 s (l.take (i+1))=X7 s (l.take i)++[YT s (l.getD i (0,0)).1 (l.getD i (0,0)).2]:=by
 unfold X7;rw[VX (0,0) hi,List.map_append,List.filter_append];generalize l.getD i (0,0)=w at h ⊢;simp[h]
def Za7{s:Int}{l:List (Int×Int)}{i:Nat}(hi:i<l.length)(h:YT s (l.getD i (0,0)).1 (l.getD i (0,0)).2=-1):X7 s (l.take (i+1))=X7 s (l.take i):=by
 unfold X7;rw[VX (0,0) hi,List.map_append,List.filter_append];generalize l.getD i (0,0)=w at h ⊢;simp[h]
def RW(s:Int)(l:List (Int×Int)):(X7 s l).length<=l.length:=by
 unfold X7;exact Zcq (ZbU _ _) (by simp)
def ZaL(s:Int)(l:List (Int×Int))(i:Nat):(X7 s (l.take i)).length<=l.length:=Zcq (RW _ _) (by rw[Zcb];exact Nat.min_le_right _ _)
def wO(s:Int)(l:List (Int×Int))(hlen:l.length<=1000000):wS AM 139 2 1 [.s (.int .i64 s)] [] (Wf l) (X7 s l):=by
 refine yk fun v Bs hc=>?_
 refine YL (a:=a139) G G (YI _) (ZQ G) G ?_ (by first|rfl|(cases hc <;> rfl));have hr0:=hc.rx;rw[show YZ 0 Bs=YZ 0 Bs++[] from(Zcf _).symm];generalize hown:YZ 0 Bs=own0 at hr0 ⊢;refine Ze (Yq G (Yc (Ye (Ze (Yq (v:=v) G (Xk G hr0 (by decide) (Qf l) (Yq G (Yc (Yk (Xo (ZbY (.refl _) .slnil) (Xu (fun m f _ L=>∃ (i:Nat) (vO:V) (ownO:HA),(i<=l.length)/\(m=l.length-i)/\(Rw 1 (X7 s (l.take i)) vO ownO)/\(f 0=.s (.int .i64 s))/\(f 4=vO)/\(f 8=v)/\(f 9=.s (.int .i64 l.length))/\(f 10=.s (.int .i64 i))/\(L=(ownO++(own0++[])))) (fun m f nb L hI=>?_) (l.length) (⟨0,.snil,[],by omega,rfl,.nil rfl,rfl,rfl,rfl,rfl,rfl,rfl⟩))))))))))));obtain⟨i,vO,ownO,hi,hm,hrO,k0,k4,k8,k9,k10,rfl⟩:=hI;refine Za 0 k0 (Za 4 k4 (Za 8 k8 (Za 9 k9 (Za 10 k10 (Ze (Zr G (Yc (Ye (Yj G (fun h7=>?_) (fun h7=>?_)))))))))) <;> simp only[NM]at h7
 ·refine Yh (Ye (Yk (Ze ?_)));obtain⟨b0,q0,md0,c0,F0,rfl,rfl,hF0⟩:=hr0.at (by decide) (Qf l) (by omega);refine Zx G G (Yp G G (ZbM _ ZM) (Yy (Yz G G G G .here (Zf (Zj G (Zw G G G (Ym (x:=(l.getD i (0,0)).1) G G ZM (way0 hF0 (by omega)) (Zw G G G (Ym (x:=(l.getD i (0,0)).2) G G ZM (way1 hF0 (by omega)) (Yt G (UC _ _ _) G G G (Zj G (Zf (Zj G (Zr G (Yc (Yj G (fun h8=>?_) (fun h8=>?_))))))))))))))))) <;> simp only[NM]at h8
  ·refine Yf (Yq (v:=vO) G (Zj G (XA G (.one G .nil) (XZ (c:=[YT s (l.getD i (0,0)).1 (l.getD i (0,0)).2]) G hrO G ZM (.there (.there .here)) (by decide) (by decide) G (Jn) (by have:=ZaL s l i;omega) (fun v1 own1 n1 hr1=>Yq (v:=v1) G (Yc (Yf (Zs G G (Zj G (Yc (⟨l.length-(i+1),_,by omega,(ZbY (.refl _) (.cons _ (.cons _ (.refl _)))),i+1,_,_,by omega,rfl,?_,rfl,rfl,rfl,rfl,rfl,rfl⟩)))))))))));exact(rM (l:=l) (i:=i) (by omega) (by omega)).symm ▸ hr1
  refine Yh (Yf (Zs G G (Zj G (Yc (⟨l.length-(i+1),_,by omega,(.cons _ (ZbY (.refl _) (.refl _))),i+1,_,_,by omega,rfl,?_,rfl,rfl,rfl,rfl,rfl,rfl⟩)))));exact(Za7 (l:=l) (i:=i) (by omega) (by omega)).symm ▸ hrO
 refine Y0 (Xb (Ze (Yq (v:=vO) G (Yq (v:=vO) G (Yc (Yi (⟨_,YH (v:=vO) G (YW),?_⟩)))))));obtain rfl:i=l.length:=by omega
 rw[List.take_length]at hrO;exact⟨_,_,hrO,.here,(fun _ h=>h)⟩
def kr :WR AM 137 [] [] (fun v' _ _=>∃ P:Nat->Int,v'=.agg 8 (ia P)/\∀ i,i<8->P i=(Wf straightL).getD i 0):=by
 refine YL (a:=a137) G G (YI _) (ZQ G) (m:=0) G (Ze (Yy (Zf (YB G (.one G (.one G .nil)) (YB G (.one G (.one G .nil)) (YB G (.one G (.one G .nil)) (YB G (.one G (.one G .nil)) (YB G (.agg G (.agg G (.agg G (.agg G .nil)))) (Yz G G G G .here (Yc (Yi (⟨_,XM G G ZM (YW),?_⟩))))))))))));refine⟨_,G,?_⟩;decide
def rN :WR AM 138 [] [] (fun v' _ _=>∃ P:Nat->Int,v'=.agg 8 (ia P)/\∀ i,i<8->P i=(Wf slantL).getD i 0):=by
 refine YL (a:=a138) G G (YI _) (ZQ G) (m:=0) G (Ze (Yy (Zf (YB G (.one G (.one G .nil)) (YB G (.one G (.one G .nil)) (YB G (.one G (.one G .nil)) (YB G (.one G (.one G .nil)) (YB G (.agg G (.agg G (.agg G (.agg G .nil)))) (Yz G G G G .here (Yc (Yi (⟨_,XM G G ZM (YW),?_⟩))))))))))));refine⟨_,G,?_⟩;decide
def gu :WR AM 140 [] [] (fun v' _ _=>∃ P:Nat->Int,v'=.agg 16 (ia P)/\∀ i,i<16->P i=(Wf jumpL).getD i 0):=by
 refine YL (a:=a140) G G (YI _) (ZQ G) (m:=0) G (Ze (Yy (Zf (YB G (.one G (.one G .nil)) (YB G (.one G (.one G .nil)) (YB G (.one G (.one G .nil)) (YB G (.one G (.one G .nil)) (YB G (.one G (.one G .nil)) (YB G (.one G (.one G .nil)) (YB G (.one G (.one G .nil)) (YB G (.one G (.one G .nil)) (YB G (.agg G (.agg G (.agg G (.agg G (.agg G (.agg G (.agg G (.agg G .nil)))))))) (Yz G G G G .here (Yc (Yi (⟨_,XM G G ZM (YW),?_⟩))))))))))))))));refine⟨_,G,?_⟩;decide
def qK{P:Nat->Int}:∀ {r:List Int} {j:Nat},(∀ u,u<j->Xf P (r.getD u 0)=true)->j<r.length->Xf P (r.getD j 0)=false->VU P r=r.take (j+1)
 |[],j,_,h,_=>absurd (show j<0 from h) (by omega)
 |t::r,0,_,_,h=>by
  have h:Xf P t=false:=h;unfold VU;rw[Zcz (by rw[h];decide)];simp
 |t::r,j+1,hu,hj,h=>by
  have h0:Xf P t=true:=hu 0 (by omega);have ih:=qK (P:=P) (r:=r) (j:=j) (fun u h=>by have:=hu (u+1) (by omega);simpa using this) (by simpa using hj) (by simpa using h);unfold VU;rw[ZcA h0,ih];rfl
def jW{P:Nat->Int}:∀ {r:List Int} {j:Nat},(∀ u,u<j->Xf P (r.getD u 0)=true)->j=r.length->VU P r=r.take j
 |[],j,_,h=>by simp[VU]
 |t::r,0,_,h=>by simp at h
 |t::r,j+1,hu,h=>by
  have h0:Xf P t=true:=hu 0 (by omega);have ih:=jW (P:=P) (r:=r) (j:=j) (fun u h=>by have:=hu (u+1) (by omega);simpa using this) (by simpa using h);unfold VU;rw[ZcA h0,ih];rfl
def xu{P:Nat->Int}{s:Int}{l:List (Int×Int)}{i:Nat}(hi:i<l.length):X8 P s (l.take (i+1))=X8 P s (l.take i)++VU P (Vb (l.getD i (0,0)).1 (l.getD i (0,0)).2 8 s):=by
 unfold X8;rw[VX (0,0) hi,List.flatMap_append];simp
def DH(P:Nat->Int)(s:Int):∀ l:List (Int×Int),(X8 P s l).length<=l.length*8
 |[]=>Zct _
 |w::l=>by
  have h1:=DH P s l;have h2:=(T6 P (Vb w.1 w.2 8 s)).length_le;have h3:=Rb w.1 w.2 8 s;unfold X8 at *;rw[Zb8,Zb2,Zcd];omega
def ZaF(P:Nat->Int)(s:Int)(l:List (Int×Int))(i:Nat):(X8 P s (l.take i)).length<=l.length*8:=Zcq (DH P s _) (ZbW 8 (by rw[Zcb];exact Nat.min_le_right _ _))
def ray_in{p q s:Int}{r:List Int}{j:Nat}(h:r=Vb p q 8 s)(hj:j<r.length):0<=r.getD j 0/\r.getD j 0<64:=by
 refine xN (f:=p) (r:=q) (k:=8) (s:=s) ?_;rw[<-h,ZbD,ZbH hj];exact List.getElem_mem hj
def hu_next{P:Nat->Int}{r:List Int}{j:Nat}(hu:∀ u,u<j->Xf P (r.getD u 0)=true)(h:Xf P (r.getD j 0)=true):∀ u,u<j+1->Xf P (r.getD u 0)=true:=fun u hu'=>by
 by_cases e:u=j
 ·subst e;exact h
 exact hu u (by omega)
def vq{r:List Int}{j:Nat}(a:List Int)(hj:j<r.length):a++r.take j++[r.getD j 0]=a++r.take (j+1):=by
 rw[VX 0 hj,Zb5]
def yD(P:Nat->Int)(s:Int)(l:List (Int×Int))(hlen:l.length<=1000)(hw:∀ i,i<l.length->¬ ((l.getD i (0,0)).1=0/\(l.getD i (0,0)).2=0)):wS AM 142 2 1 [.agg 133 (ia P),.s (.int .i64 s)] [] (Wf l) (X8 P s l):=by
 refine yk fun v Bs hc=>?_
 refine YL (a:=a142) G G (YI _) (ZQ G) G ?_ (by first|rfl|(cases hc <;> rfl));have hr0:=hc.rx;rw[show YZ 0 Bs=YZ 0 Bs++[] from(Zcf _).symm];generalize hown:YZ 0 Bs=own0 at hr0 ⊢;refine Ze (YC G (Yq G (Yc (Ye (Ze (Yq (v:=v) G (Xk G hr0 (by decide) (Qf l) (Yq G (Yc (Yk (Xo (.cons_cons _ (ZbY (.refl _) .slnil)) (Xu (fun m f _ L=>∃ (i:Nat) (vO:V) (ownO:HA),(i<=l.length)/\(m=l.length-i)/\(Rw 1 (X8 P s (l.take i)) vO ownO)/\(f 1=.s (.int .i64 s))/\(f 3=.ptr Bs.length 0 133)/\(f 6=vO)/\(f 11=v)/\(f 12=.s (.int .i64 l.length))/\(f 13=.s (.int .i64 i))/\(L=(ownO++(Bs.length,.sc .var 133 (ia P))::(own0++[])))) (fun m f nb L hI=>?_) (l.length) (⟨0,.snil,[],by omega,rfl,.nil rfl,rfl,rfl,rfl,rfl,rfl,rfl,rfl⟩)))))))))))));obtain⟨i,vO,ownO,hi,hm,hrO,k1,k3,k6,k11,k12,k13,rfl⟩:=hI;refine Za 1 k1 (Za 3 k3 (Za 6 k6 (Za 11 k11 (Za 12 k12 (Za 13 k13 (Ze (Zr G (Yc (Ye (Yj G (fun h1=>?_) (fun h1=>?_))))))))))) <;> simp only[NM]at h1
 ·refine Yh (Ye (Yk (Ze ?_)));obtain⟨b0,q0,md0,c0,F0,rfl,rfl,hF0⟩:=hr0.at (by decide) (Qf l) (by omega);refine Zx G G (Yp G G (ZbM _ ZN) (Yy (Yz G G G G .here (Zf (Zj G (Zw G G G (Ym (x:=(l.getD i (0,0)).1) G G ZM (way0 hF0 (by omega)) (Zw G G G (Ym (x:=(l.getD i (0,0)).2) G G ZM (way1 hF0 (by omega)) ?_)))))))));obtain⟨r,hreq⟩:∃ r,r=Vb (l.getD i (0,0)).1 (l.getD i (0,0)).2 8 s:=⟨_,rfl⟩
  have hray:=ray_rt s _ _ (hw i (by omega));rw[<-hreq]at hray;have hrl:r.length<=8:=by rw[hreq];exact Rb _ _ _ _
  refine YE G (hray) G G (fun v1 own1 n1 hr1=>Xk G hr1.rx (by decide) Te (Yq G (Yc (Yk (wQ (Dr.appR _ (.there .here)).all (Xo (ZbY (.refl _) (ZbY (.refl _) (.cons _ (.refl _)))) (Xu (fun m f _ L=>∃ (j:Nat) (vP:V) (ownP:HA),(j<=r.length)/\(m=r.length-j)/\(∀ u,u<j->Xf P (r.getD u 0)=true)/\(Rw 1 (X8 P s (l.take i)++r.take j) vP ownP)/\(f 1=.s (.int .i64 s))/\(f 3=.ptr Bs.length 0 133)/\(f 6=vP)/\(f 11=.sl b0 0 l.length 2 c0)/\(f 12=.s (.int .i64 l.length))/\(f 13=.s (.int .i64 i))/\(f 22=v1)/\(f 23=.s (.int .i64 r.length))/\(f 24=.s (.int .i64 j))/\(L=(ownP++(own1++[(Bs.length,.sc .var 133 (ia P)),(b0,.sc md0 q0 (ia F0))])))) (fun m f nb L hI=>?_) (r.length) (⟨0,vO,ownO,by omega,by omega,fun u h=>by omega,by rw[List.take_zero,Zcf];exact hrO,rfl,rfl,rfl,rfl,rfl,rfl,rfl,rfl,rfl,rfl⟩))))))));obtain⟨j,vP,ownP,hj,hm2,hu,hrP,k1,k3,k6,k11,k12,k13,k22,k23,k24,rfl⟩:=hI;refine Za 1 k1 (Za 3 k3 (Za 6 k6 (Za 11 k11 (Za 12 k12 (Za 13 k13 (Za 22 k22 (Za 23 k23 (Za 24 k24 (Ze (Zr G (Yc (Ye (Yj G (fun h2=>?_) (fun h2=>?_)))))))))))))) <;> simp only[NM]at h2
  ·refine Yh (Ye (Yk (Ze ?_)));have hjb:=ray_in hreq (j:=j) (by omega);obtain⟨b1,q1,md1,c1,F1,rfl,rfl,hF1⟩:=hr1.rx.at (by decide) Te (by omega);refine Zx G G (Ym (x:=r.getD j 0) G G (ZbM _ ZM) (ld1 hF1 (by omega)) (Zj G (Zf (Yq (v:=vP) G (Zj G (XA G (.one G .nil) (XZ (c:=[r.getD j 0]) G hrP G ZM (.there .here) (by decide) (by decide) G (Jn) (by have:=ZaF P s l i;rw[Zb2,Zcb];omega) (fun v2 own2 n2 hr2=>Yq (v:=v2) G (Zf (Zj G (Zy G (Zy G (Zw G G G (Yp G G (ZbM _ ZO) (YB G .nil (Yw G G (Yc (Yj G (fun h3=>?_) (fun h3=>?_))))))))))))))))))) <;> simp only[NM]at h3
   ·refine Y0 (rP G (Xb (Yf (Zs G G (Zj G (Yc (⟨l.length-(i+1),_,by omega,(ZbY (.refl _) (.cons _ (.cons _ (.refl _)))),i+1,_,_,by omega,rfl,?_,rfl,rfl,rfl,rfl,rfl,rfl,rfl⟩)))))));rw[xu (l:=l) (i:=i) (by omega),<-hreq];(rw[qK hu (by omega) (by assumption),<-vq _ (by omega)];exact hr2)
   refine Yh (Yf (Zs G G (Zj G (Yc (⟨r.length-(j+1),_,by omega,(ZbY (.refl _) (.cons _ (.refl _))),j+1,_,_,by omega,rfl,hu_next hu (by assumption),?_,rfl,rfl,rfl,rfl,rfl,rfl,rfl,rfl,rfl,rfl⟩)))));rw[<-vq _ (by omega)];exact hr2
  refine Y0 (Xb (Yf (Zs G G (Zj G (Yc (⟨l.length-(i+1),_,by omega,(ZbY (.refl _) (ZbB (.refl _))),i+1,_,_,by omega,rfl,?_,rfl,rfl,rfl,rfl,rfl,rfl,rfl⟩))))));rw[xu (l:=l) (i:=i) (by omega),<-hreq];(rw[jW hu (by omega)];exact hrP)
 refine Y0 (Xb (Ze (Yq (v:=vO) G (Yq (v:=vO) G (Yc (Yi (⟨_,YH (v:=vO) G (YW),?_⟩)))))));obtain rfl:i=l.length:=by omega
 rw[List.take_length]at hrO;exact⟨_,_,hrO,.here,(fun _ h=>(.tail _ h))⟩
end Go.Proofs.YtlkighkfkdpncaaGreatDoor
namespace Go.Am
open Go
def js(A:AP)(fid:FuncId)(z m:Nat)(md m1 m2:Md)(c c1 c2:Cp)(P Q:Nat->Int)(l:List Int):Prop :=
 ∃ b k q F σ1,Run A fid [.sl 0 0 2 1 c] [.vs md [.sl 1 0 m z c1,.sl 2 0 m z c2],.sc m1 (m*z) (ia P),.sc m2 (m*z) (ia Q)]=some (.sl b 0 k z .whole,σ1)/\3<=b/\l.length=k*z/\(∀ i,i<l.length->F i=l.getD i 0)/\σ1[b]? = some (.sc .grow q (ia F)) /\
  σ1[0]? = some (.vs md [.sl 1 0 m z c1,.sl 2 0 m z c2])/\σ1[1]? = some (.sc m1 (m*z) (ia P))/\σ1[2]? = some (.sc m2 (m*z) (ia Q))
def take3{σ:Heap}{B C D:Blk}(h:σ[0]? = some B)(h2:σ[1]? = some C)(h3:σ[2]? = some D):σ.take 3=[B,C,D]:=by
 cases σ with
 |nil=>cases h
 |cons x l=>
  simp only[List.getElem?_cons_zero,Zb4]at h;subst h;simp only[List.getElem?_cons_succ]at h2 h3;rw[List.take_succ_cons,jx h2 h3]
section
variable{A:AP}{N:Nat}{f:FE}{n:Nat}{L:HA}{K:KN}{Zp:V->KN}{rest:List I}{d:Nat}
def ve{fid:FuncId}{q0:Bool}{z m b0 b1 b2:Nat}{md m1 m2:Md}{c c1 c2:Cp}{P Q:Nat->Int}{l:List Int}(hs:js A fid z m (XG q0 md) (XG q0 m1) (XG q0 m2) c c1 c2 P Q l)
  (h0:(b0,Blk.vs md [.sl b1 0 m z c1,.sl b2 0 m z c2])∈L) (h1:(b1,Blk.sc m1 (m*z) (ia P))∈L) (h2:(b2,Blk.sc m2 (m*z) (ia Q))∈L) (hne:b1≠b2) {σ:Heap} (h:Hp σ n L) :
  ∃ v B σ',Y5 (Run A) q0 (.fn fid []) [.sl b0 0 2 1 c] σ=some (v,σ')/\Rw z l v [(n,B)]/\Hp σ' (n+1) ((n,B)::L):=by
 obtain⟨b,k,q,F,σ1,hrun,hb,hl,hF,e3,e0,e1,e2⟩:=hs
 have k0:=(h.2.mem h0).2
 have k1:=(h.2.mem h1).2
 have k2:=(h.2.mem h2).2
 have n01:b1≠b0:=fun e=>by subst e;rw[k0]at k1;cases k1
 have n02:b2≠b0:=fun e=>by subst e;rw[k0]at k2;cases k2
 have hre:YN σ 64 [b0] []=[b0,b1,b2]:=by
  have c1':([b0]:List Nat).contains b1=false:=by simp[n01]
  have c2':([b0,b1]:List Nat).contains b2=false:=by simp[n02,Ne.symm hne]
  show(bif ([]:List Nat).contains b0 then YN σ 63 [] [] else YN σ 63 ((σ.getD b0 .dead).refs++[]) ([]++[b0]))=_;rw[X4 k0];show(bif ([b0]:List Nat).contains b1 then YN σ 62 [b2] [b0] else YN σ 62 ((σ.getD b1 .dead).refs++[b2]) ([b0]++[b1]))=_;rw[c1',X4 k1];show(bif ([b0,b1]:List Nat).contains b2 then YN σ 61 [] [b0,b1] else YN σ 61 ((σ.getD b2 .dead).refs++[]) ([b0,b1]++[b2]))=_;rw[c2',X4 k2];rfl
 have p0:pos b0 [b0,b1,b2]=some 0:=by simp[pos]
 have p1:pos b1 [b0,b1,b2]=some 1:=by
  have:(b0==b1)=false:=by simpa using Ne.symm n01
  simp[pos,this]
 have p2:pos b2 [b0,b1,b2]=some 2:=by
  have a1:(b0==b2)=false:=by simpa using Ne.symm n02
  have a2:(b1==b2)=false:=by simpa using hne
  simp[pos,a1,a2]
 have hen:Xq q0 [.sl b0 0 2 1 c] σ=some ([b0,b1,b2],[.sl 0 0 2 1 c],[.vs (XG q0 md) [.sl 1 0 m z c1,.sl 2 0 m z c2],.sc (XG q0 m1) (m*z) (ia P),.sc (XG q0 m2) (m*z) (ia Q)]):=by
  have hrefs:V.refsL [.sl b0 0 2 1 c]=[b0]:=by simp[V.refsL,V.refs]
  unfold Xq;rw[hrefs,hre];simp only[V.renL,V.ren,p0,p1,p2,Option.map_some,Y6,k0,k1,k2,Option.bind_some,Blk.ren]
 have hns:Xi q0 3 (.sl b 0 k z .whole) σ1=[b]:=by
  unfold Xi;have hd:σ1.getD b .dead=.sc .grow q (ia F):=X4 e3;have hbr:YN σ1 64 ((V.sl b 0 k z .whole).refs++bif q0 then [] else (σ1.take 3).flatMap Blk.refs) []=bif q0 then [b] else [b,1,2]:=by
   cases q0 with
   |true=>
    show(bif ([]:List Nat).contains b then YN σ1 63 [] [] else YN σ1 63 ((σ1.getD b .dead).refs++[]) ([]++[b]))=_;rw[hd];rfl
   |false=>
    rw[cond_false,take3 e0 e1 e2];have x1:([b]:List Nat).contains 1=false:=by simp;omega
    have x2:([b,1]:List Nat).contains 2=false:=by simp;omega
    show(bif ([]:List Nat).contains b then YN σ1 63 [1,2] [] else YN σ1 63 ((σ1.getD b .dead).refs++[1,2]) ([]++[b]))=_;rw[hd];show(bif ([b]:List Nat).contains 1 then YN σ1 62 [2] [b] else YN σ1 62 ((σ1.getD 1 .dead).refs++[2]) ([b]++[1]))=_;rw[x1,X4 e1];show(bif ([b,1]:List Nat).contains 2 then YN σ1 61 [] [b,1] else YN σ1 61 ((σ1.getD 2 .dead).refs++[]) ([b,1]++[2]))=_;rw[x2,X4 e2];rfl
  rw[hbr];have hbb:Nat.ble 3 b=true:=ZbN hb
  cases q0 with
  |true=>simp[hbb]
  |false=>simp[hbb]
 have hlt:=QV e2
 have hble:Nat.ble 3 σ1.length=true:=ZbN (by omega)
 have hnd:nodup [b0,b1,b2]=true:=by simp[nodup,n01,n02,hne,Ne.symm n01,Ne.symm n02]
 have bb:Xa [b0,b1,b2] [b] σ.length 3 b=some n:=by
  have:Nat.blt b 3=false:=by
   cases hx:Nat.blt b 3 with
   |false=>rfl
   |true=>have:=YF hx;omega
  unfold Xa;rw[this,h.1];simp[pos]
 have f0:Xa [b0,b1,b2] [b] σ.length 3 0=some b0:=rfl
 have f1:Xa [b0,b1,b2] [b] σ.length 3 1=some b1:=rfl
 have f2:Xa [b0,b1,b2] [b] σ.length 3 2=some b2:=rfl
 have hn1:nodup [b]=true:=rfl
 have hpk:Y6 false (Xa [b0,b1,b2] [b] σ.length 3) σ1 [b]=some [.sc .grow q (ia F)]:=by
  simp only[Y6,e3,Option.bind_some,Blk.ren,XG,cond_false]
 have hrn:(V.sl b 0 k z .whole).ren (Xa [b0,b1,b2] [b] σ.length 3)=some (.sl n 0 k z .whole):=by
  simp only[V.ren,bb,Option.map_some]
 have hlv:Xn q0 σ [b0,b1,b2] (.sl b 0 k z .whole) σ1=some (.sl n 0 k z .whole,σ++[.sc .grow q (ia F)]):=by
  unfold Xn;simp only[Zcd,List.length_nil,Zcp,Nat.reduceAdd,hns,hnd,hble,hn1,Bool.and_self,cond_true,hrn,hpk]
  cases q0 with
  |true=>rfl
  |false=>
   have hset:((σ.set b0 (.vs md [.sl b1 0 m z c1,.sl b2 0 m z c2])).set b1 (.sc m1 (m*z) (ia P))).set b2 (.sc m2 (m*z) (ia Q))=σ:=by
    have s0:σ.set b0 (.vs md [.sl b1 0 m z c1,.sl b2 0 m z c2])=σ:=set_same k0;have s1:σ.set b1 (.sc m1 (m*z) (ia P))=σ:=set_same k1;have s2:σ.set b2 (.sc m2 (m*z) (ia Q))=σ:=set_same k2;rw[s0,s1,s2]
   have hrg:List.range 3=[0,1,2]:=rfl;simp only[XG,cond_false]at e0 e1 e2;simp only[hrg,Y6,e0,e1,e2,Option.bind_some,Blk.ren,V.renL,V.ren,f0,f1,f2,Option.map_some,XG,cond_false,XD,hset]
 refine⟨.sl n 0 k z .whole,.sc .grow q (ia F),σ++[.sc .grow q (ia F)],?_,.row hl hF,h.new _⟩
 simp only[Y5,target,Zcf,Option.bind_some,hen,hrun,hlv]
 where
 set_same {σ:Heap} {b:Nat} {B:Blk} (h:σ[b]? = some B):σ.set b B=σ:=by
  refine List.ext_getElem? fun i=>?_
  by_cases e:b=i
  ·subst e;rw[ZbL (QV h),h]
  rw[ZbX e]
def WO_cat{x y:O}{fid:FuncId}{z m b0 b1 b2:Nat}{md m1 m2:Md}{c c1 c2:Cp}{P Q:Nat->Int}{l:List Int}(hf:x.fv N f=.fn fid [])(hy:y.fv N f=.sl b0 0 2 1 c)(hs:js A fid z m md m1 m2 c c1 c2 P Q l)
  (h0:(b0,Blk.vs md [.sl b1 0 m z c1,.sl b2 0 m z c2])∈L) (h1:(b1,Blk.sc m1 (m*z) (ia P))∈L) (h2:(b2,Blk.sc m2 (m*z) (ia Q))∈L) (hne:b1≠b2) (k:∀ v own n',Rw z l v own->WO A N rest (upd f d v) n' (own++L) K Zp):WO A N (⟨some d,none,.h (.call x [y])⟩::rest) f n L K Zp:=fun σ h=>by
 obtain⟨v,B,σ',e1,e2,e3⟩:=ve (q0:=false) hs h0 h1 h2 hne h
 obtain⟨ex,f',σ2,n2,L2,e4,e5,e6⟩:=k v [(n,B)] (n+1) e2 σ' e3
 refine⟨ex,f',σ2,n2,L2,?_,e5,e6⟩
 rw[<-e4]
 simp only[WF,XO,Xr,YK,Y2,hf,List.map_cons,List.map_nil,hy,e1,Option.map_some,R0]
 rfl
def WO_catq{x y:O}{fid:FuncId}{z m b0 b1 b2:Nat}{md m1 m2:Md}{c c1 c2:Cp}{P Q:Nat->Int}{l:List Int}(hf:x.fv N f=.fn fid [])(hy:y.fv N f=.sl b0 0 2 1 c)(hs:js A fid z m .ro .ro .ro c c1 c2 P Q l)
  (h0:(b0,Blk.vs md [.sl b1 0 m z c1,.sl b2 0 m z c2])∈L) (h1:(b1,Blk.sc m1 (m*z) (ia P))∈L) (h2:(b2,Blk.sc m2 (m*z) (ia Q))∈L) (hne:b1≠b2) (k:∀ v own n',Rw z l v own->WO A N rest (upd f d v) n' (own++L) K Zp):WO A N (⟨some d,none,.h (.callq x [y])⟩::rest) f n L K Zp:=fun σ h=>by
 obtain⟨v,B,σ',e1,e2,e3⟩:=ve (q0:=true) hs h0 h1 h2 hne h
 obtain⟨ex,f',σ2,n2,L2,e4,e5,e6⟩:=k v [(n,B)] (n+1) e2 σ' e3
 refine⟨ex,f',σ2,n2,L2,?_,e5,e6⟩
 rw[<-e4]
 simp only[WF,XO,Xr,YK,Y2,hf,List.map_cons,List.map_nil,hy,e1,Option.map_some,R0]
 rfl
end
end Go.Am
