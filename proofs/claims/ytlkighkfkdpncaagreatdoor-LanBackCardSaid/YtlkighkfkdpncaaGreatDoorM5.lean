/- Texts of this seat, joined. -/
import Derived.Test.YtlkighkfkdpncaaGreatDoorM4
set_option linter.unusedSimpArgs false
set_option linter.unusedVariables false
namespace Go.Proofs.YtlkighkfkdpncaaGreatDoor
open Go Go.Am
set_option maxRecDepth 100000
def kc (i:Nat):Int:=if i=130 then -1 else if i=132 then 1 else 0
def xF (i:Nat):Int :=
 if i < 16 then (if i % 2=0 then ([4,2,3,5,6,3,2,4]:List Int).getD (i / 2) 0 else 0)
 else if i < 32 then (if i % 2=0 then 1 else 0)
 else if i < 96 then 0
 else if i < 112 then 1
 else if i < 128 then (if i % 2=0 then ([4,2,3,5,6,3,2,4]:List Int).getD ((i - 112) / 2) 0 else 1)
 else if i=128 then 0 else if i=129 then 15 else if i=130 then -1 else if i=131 then 0 else if i=132 then 1 else 0
theorem pQ (i:Nat) (h:133<=i):kc i=0:=by
 unfold kc
 rw [Zcz (by omega),Zcz (by omega)]
theorem qP (i:Nat) (h:133<=i):xF i=0:=by
 unfold xF
 rw [Zcz (by omega),Zcz (by omega),Zcz (by omega),Zcz (by omega),Zcz (by omega),Zcz (by omega),Zcz (by omega),Zcz (by omega),Zcz (by omega),Zcz (by omega)]
theorem oB {P Q R:Nat->Int} {m:Nat} (h:∀ i,i < m->Q i=R i) (h2:∀ i,m<=i->P i=R i):ovA P 0 m Q=R:=by
 funext i
 by_cases hi:i < m
 ·rw [X3 (by omega)]; exact h i hi
 rw [Wb (by omega)]; exact h2 i (by omega)
theorem tW :WR AM 45 [] [] (fun v _ _=>v=.agg 133 (ia kc)):=by
 refine YL (a:=a45) rfl rfl (YI _) (ZQ rfl) (m:=0) rfl (Ze (Yy (Zf (YB rfl (.one rfl (.one rfl .nil)) (Yz rfl rfl rfl rfl .here (Yc (Yi (⟨_,XM rfl rfl ZM (YW),?_⟩))))))))
 refine congrArg (fun P=>V.agg 133 (ia P)) ?_
 refine oB (by decide +kernel) fun i hi=>(pQ i hi).symm
theorem ru :WR AM 35 [] [] (fun v _ _=>v=.agg 133 (ia xF)):=by
 refine YL (a:=a35) rfl rfl (YI _) (ZQ rfl) (m:=0) rfl (Ze (Yy (Zf (Yt rfl (YP tW) rfl rfl rfl (Yy (Yz rfl rfl rfl rfl .here (Zf (XA rfl (.one rfl (.one rfl (.one rfl (.one rfl (.one rfl (.one rfl (.one rfl (.one rfl .nil)))))))) (Zn rfl (Yc (Ye (Ze (Yq rfl (Yc (Yk (YO (Ye (Ze (Zj rfl (Zr rfl (Yc (Yj rfl (fun h1=>?_) (fun h1=>?_))))))))))))))))))))))) <;> simp only [NM] at h1
 ·refine Yh (Ye (Yk (Ze (Zj rfl (Zn rfl (Zj rfl (Zx rfl rfl (Ym (x:=_) rfl rfl ZM (rfl) (YB rfl (.one rfl (.one rfl .nil)) (Zy rfl (Zw rfl rfl rfl (Yz rfl rfl rfl rfl (.there .here) (Zf (Zj rfl (Zs rfl rfl (YB rfl (.one rfl (.one rfl .nil)) (Zy rfl (Zw rfl rfl rfl (Yz rfl rfl rfl rfl (.there .here) (Zf (Zj rfl (Zs rfl rfl (YB rfl (.one rfl (.one rfl .nil)) (Zy rfl (Zw rfl rfl rfl (Yz rfl rfl rfl rfl (.there .here) (Yc (Yf (Zj rfl ?_)))))))))))))))))))))))))))))
  refine Zs rfl rfl (Zn rfl (Zj rfl (Zx rfl rfl (Ym (x:=_) rfl rfl ZM (rfl) (YB rfl (.one rfl (.one rfl .nil)) (Zy rfl (Zw rfl rfl rfl (Yz rfl rfl rfl rfl (.there .here) (Yc (Yf (Zj rfl (Zs rfl rfl (Zj rfl (Yc (YO (Ye (Ze (Zj rfl (Zr rfl (Yc (Yj rfl (fun h2=>?_) (fun h2=>?_)))))))))))))))))))))) <;> simp only [NM] at h2
  ·refine Yh (Ye (Yk (Ze (Zj rfl (Zn rfl (Zj rfl (Zx rfl rfl (Ym (x:=_) rfl rfl ZM (rfl) (YB rfl (.one rfl (.one rfl .nil)) (Zy rfl (Zw rfl rfl rfl (Yz rfl rfl rfl rfl (.there .here) (Zf (Zj rfl (Zs rfl rfl (YB rfl (.one rfl (.one rfl .nil)) (Zy rfl (Zw rfl rfl rfl (Yz rfl rfl rfl rfl (.there .here) (Zf (Zj rfl (Zs rfl rfl (YB rfl (.one rfl (.one rfl .nil)) (Zy rfl (Zw rfl rfl rfl (Yz rfl rfl rfl rfl (.there .here) (Yc (Yf (Zj rfl ?_)))))))))))))))))))))))))))))
   refine Zs rfl rfl (Zn rfl (Zj rfl (Zx rfl rfl (Ym (x:=_) rfl rfl ZM (rfl) (YB rfl (.one rfl (.one rfl .nil)) (Zy rfl (Zw rfl rfl rfl (Yz rfl rfl rfl rfl (.there .here) (Yc (Yf (Zj rfl (Zs rfl rfl (Zj rfl (Yc (YO (Ye (Ze (Zj rfl (Zr rfl (Yc (Yj rfl (fun h3=>?_) (fun h3=>?_)))))))))))))))))))))) <;> simp only [NM] at h3
   ·refine Yh (Ye (Yk (Ze (Zj rfl (Zn rfl (Zj rfl (Zx rfl rfl (Ym (x:=_) rfl rfl ZM (rfl) (YB rfl (.one rfl (.one rfl .nil)) (Zy rfl (Zw rfl rfl rfl (Yz rfl rfl rfl rfl (.there .here) (Zf (Zj rfl (Zs rfl rfl (YB rfl (.one rfl (.one rfl .nil)) (Zy rfl (Zw rfl rfl rfl (Yz rfl rfl rfl rfl (.there .here) (Zf (Zj rfl (Zs rfl rfl (YB rfl (.one rfl (.one rfl .nil)) (Zy rfl (Zw rfl rfl rfl (Yz rfl rfl rfl rfl (.there .here) (Yc (Yf (Zj rfl ?_)))))))))))))))))))))))))))))
    refine Zs rfl rfl (Zn rfl (Zj rfl (Zx rfl rfl (Ym (x:=_) rfl rfl ZM (rfl) (YB rfl (.one rfl (.one rfl .nil)) (Zy rfl (Zw rfl rfl rfl (Yz rfl rfl rfl rfl (.there .here) (Yc (Yf (Zj rfl (Zs rfl rfl (Zj rfl (Yc (YO (Ye (Ze (Zj rfl (Zr rfl (Yc (Yj rfl (fun h4=>?_) (fun h4=>?_)))))))))))))))))))))) <;> simp only [NM] at h4
    ·refine Yh (Ye (Yk (Ze (Zj rfl (Zn rfl (Zj rfl (Zx rfl rfl (Ym (x:=_) rfl rfl ZM (rfl) (YB rfl (.one rfl (.one rfl .nil)) (Zy rfl (Zw rfl rfl rfl (Yz rfl rfl rfl rfl (.there .here) (Zf (Zj rfl (Zs rfl rfl (YB rfl (.one rfl (.one rfl .nil)) (Zy rfl (Zw rfl rfl rfl (Yz rfl rfl rfl rfl (.there .here) (Zf (Zj rfl (Zs rfl rfl (YB rfl (.one rfl (.one rfl .nil)) (Zy rfl (Zw rfl rfl rfl (Yz rfl rfl rfl rfl (.there .here) (Yc (Yf (Zj rfl ?_)))))))))))))))))))))))))))))
     refine Zs rfl rfl (Zn rfl (Zj rfl (Zx rfl rfl (Ym (x:=_) rfl rfl ZM (rfl) (YB rfl (.one rfl (.one rfl .nil)) (Zy rfl (Zw rfl rfl rfl (Yz rfl rfl rfl rfl (.there .here) (Yc (Yf (Zj rfl (Zs rfl rfl (Zj rfl (Yc (YO (Ye (Ze (Zj rfl (Zr rfl (Yc (Yj rfl (fun h5=>?_) (fun h5=>?_)))))))))))))))))))))) <;> simp only [NM] at h5
     ·refine Yh (Ye (Yk (Ze (Zj rfl (Zn rfl (Zj rfl (Zx rfl rfl (Ym (x:=_) rfl rfl ZM (rfl) (YB rfl (.one rfl (.one rfl .nil)) (Zy rfl (Zw rfl rfl rfl (Yz rfl rfl rfl rfl (.there .here) (Zf (Zj rfl (Zs rfl rfl (YB rfl (.one rfl (.one rfl .nil)) (Zy rfl (Zw rfl rfl rfl (Yz rfl rfl rfl rfl (.there .here) (Zf (Zj rfl (Zs rfl rfl (YB rfl (.one rfl (.one rfl .nil)) (Zy rfl (Zw rfl rfl rfl (Yz rfl rfl rfl rfl (.there .here) (Yc (Yf (Zj rfl ?_)))))))))))))))))))))))))))))
      refine Zs rfl rfl (Zn rfl (Zj rfl (Zx rfl rfl (Ym (x:=_) rfl rfl ZM (rfl) (YB rfl (.one rfl (.one rfl .nil)) (Zy rfl (Zw rfl rfl rfl (Yz rfl rfl rfl rfl (.there .here) (Yc (Yf (Zj rfl (Zs rfl rfl (Zj rfl (Yc (YO (Ye (Ze (Zj rfl (Zr rfl (Yc (Yj rfl (fun h6=>?_) (fun h6=>?_)))))))))))))))))))))) <;> simp only [NM] at h6
      ·refine Yh (Ye (Yk (Ze (Zj rfl (Zn rfl (Zj rfl (Zx rfl rfl (Ym (x:=_) rfl rfl ZM (rfl) (YB rfl (.one rfl (.one rfl .nil)) (Zy rfl (Zw rfl rfl rfl (Yz rfl rfl rfl rfl (.there .here) (Zf (Zj rfl (Zs rfl rfl (YB rfl (.one rfl (.one rfl .nil)) (Zy rfl (Zw rfl rfl rfl (Yz rfl rfl rfl rfl (.there .here) (Zf (Zj rfl (Zs rfl rfl (YB rfl (.one rfl (.one rfl .nil)) (Zy rfl (Zw rfl rfl rfl (Yz rfl rfl rfl rfl (.there .here) (Yc (Yf (Zj rfl ?_)))))))))))))))))))))))))))))
       refine Zs rfl rfl (Zn rfl (Zj rfl (Zx rfl rfl (Ym (x:=_) rfl rfl ZM (rfl) (YB rfl (.one rfl (.one rfl .nil)) (Zy rfl (Zw rfl rfl rfl (Yz rfl rfl rfl rfl (.there .here) (Yc (Yf (Zj rfl (Zs rfl rfl (Zj rfl (Yc (YO (Ye (Ze (Zj rfl (Zr rfl (Yc (Yj rfl (fun h7=>?_) (fun h7=>?_)))))))))))))))))))))) <;> simp only [NM] at h7
       ·refine Yh (Ye (Yk (Ze (Zj rfl (Zn rfl (Zj rfl (Zx rfl rfl (Ym (x:=_) rfl rfl ZM (rfl) (YB rfl (.one rfl (.one rfl .nil)) (Zy rfl (Zw rfl rfl rfl (Yz rfl rfl rfl rfl (.there .here) (Zf (Zj rfl (Zs rfl rfl (YB rfl (.one rfl (.one rfl .nil)) (Zy rfl (Zw rfl rfl rfl (Yz rfl rfl rfl rfl (.there .here) (Zf (Zj rfl (Zs rfl rfl (YB rfl (.one rfl (.one rfl .nil)) (Zy rfl (Zw rfl rfl rfl (Yz rfl rfl rfl rfl (.there .here) (Yc (Yf (Zj rfl ?_)))))))))))))))))))))))))))))
        refine Zs rfl rfl (Zn rfl (Zj rfl (Zx rfl rfl (Ym (x:=_) rfl rfl ZM (rfl) (YB rfl (.one rfl (.one rfl .nil)) (Zy rfl (Zw rfl rfl rfl (Yz rfl rfl rfl rfl (.there .here) (Yc (Yf (Zj rfl (Zs rfl rfl (Zj rfl (Yc (YO (Ye (Ze (Zj rfl (Zr rfl (Yc (Yj rfl (fun h8=>?_) (fun h8=>?_)))))))))))))))))))))) <;> simp only [NM] at h8
        ·refine Yh (Ye (Yk (Ze (Zj rfl (Zn rfl (Zj rfl (Zx rfl rfl (Ym (x:=_) rfl rfl ZM (rfl) (YB rfl (.one rfl (.one rfl .nil)) (Zy rfl (Zw rfl rfl rfl (Yz rfl rfl rfl rfl (.there .here) (Zf (Zj rfl (Zs rfl rfl (YB rfl (.one rfl (.one rfl .nil)) (Zy rfl (Zw rfl rfl rfl (Yz rfl rfl rfl rfl (.there .here) (Zf (Zj rfl (Zs rfl rfl (YB rfl (.one rfl (.one rfl .nil)) (Zy rfl (Zw rfl rfl rfl (Yz rfl rfl rfl rfl (.there .here) (Yc (Yf (Zj rfl ?_)))))))))))))))))))))))))))))
         refine Zs rfl rfl (Zn rfl (Zj rfl (Zx rfl rfl (Ym (x:=_) rfl rfl ZM (rfl) (YB rfl (.one rfl (.one rfl .nil)) (Zy rfl (Zw rfl rfl rfl (Yz rfl rfl rfl rfl (.there .here) (Yc (Yf (Zj rfl (Zs rfl rfl (Zj rfl (Yc (YO (Ye (Ze (Zj rfl (Zr rfl (Yc (Yj rfl (fun h9=>?_) (fun h9=>?_)))))))))))))))))))))) <;> simp only [NM] at h9
         ·exfalso; first | omega | (simp at h9)
         refine Y0 (Xb (Ze (Yd (o':=129) rfl rfl rfl (YA rfl rfl rfl rfl (.there .here) (Zf (Yo rfl rfl ZN (Yz rfl rfl rfl rfl (.there (.there .here)) (Yc (Yi (⟨_,XM rfl rfl ZO (YW),?_⟩))))))))))
         refine congrArg (fun P=>V.agg 133 (ia P)) ?_
         refine oB (by decide +kernel) fun i hi=>(qP i hi).symm
        exfalso; first | omega | (simp at h8)
       exfalso; first | omega | (simp at h7)
      exfalso; first | omega | (simp at h6)
     exfalso; first | omega | (simp at h5)
    exfalso; first | omega | (simp at h4)
   exfalso; first | omega | (simp at h3)
  exfalso; first | omega | (simp at h2)
 exfalso; first | omega | (simp at h1)
def ex0:Nat->Int:=xF
def ex1:Nat->Int:=XV ex0 13 21 0
def ex2:Nat->Int:=XV ex1 52 36 0
def ex3:Nat->Int:=XV ex2 14 30 0
theorem ex0_z:∀ i,133<=i->ex0 i=0:=fun i hi=>qP i hi
theorem tS:∀ i,133<=i->ex1 i=0:=fun i hi=>Q8 hi
theorem tZ:∀ i,133<=i->ex2 i=0:=fun i hi=>Q8 hi
theorem zN:∀ i,133<=i->ex3 i=0:=fun i hi=>Q8 hi
theorem ex0_ok:Wj ex0 13 21 0=0:=by decide +kernel
theorem ex1_ok:Wj ex1 52 36 0=0:=by decide +kernel
theorem ex2_ok:Wj ex2 14 30 0=0:=by decide +kernel
theorem wh {P Q:Nat->Int} (hz:∀ i,133<=i->P i=0) (hq:∀ i,133<=i->Q i=0):ovA P 0 133 Q=Q:=by
 funext i
 by_cases h:i < 133
 ·rw [X3 (by omega)]; rfl
 rw [Wb (by omega),hz i (by omega),hq i (by omega)]
def exL:List Int:=[13,21,0,52,36,0,14,30,0]
theorem ex_rd :RdR AM 34 3 [.agg 133 (ia ex0)] [] exL (.tup [.agg 133 (ia ex3),.s (.int .i64 0)]):=by
 refine WV fun v Bs hc=>?_
 refine YL (a:=a34) rfl rfl (YI _) (ZQ rfl) rfl ?_ (by first | rfl | (cases hc <;> rfl))
 have hr0:=hc.rx
 rw [show YZ 0 Bs=YZ 0 Bs++[] from (Zcf _).symm]
 generalize hown:YZ 0 Bs=own0 at hr0 ⊢
 refine Ze (YC rfl (Yy (Yq rfl (Yc (Ye (Ze (Yq rfl (Yc (Yk (YO (Ye (Ze (Zj rfl (Yq (v:=v) rfl (Xk rfl hr0 (by decide) (show exL.length=3*3 from rfl) (Yr (r:=.bool true) rfl rfl rfl (Yc (ZA rfl (Yh (Ye (Yk (Ye (Yg (Yo rfl rfl ZN (Yq (v:=v) rfl (Zj rfl ?_))))))))))))))))))))))))))
 obtain ⟨b0,q0,md0,c0,F0,rfl,rfl,hF0⟩:=hr0.at (by decide) (show exL.length=3*3 from rfl) (by omega)
 refine Zx rfl rfl (Yo rfl rfl ZO ?_)
 have hmv0:=YP (Ew ex0 F0)
 rw [show F0 0=13 from hF0 0 (YF rfl),show F0 1=21 from hF0 1 (YF rfl),show F0 2=0 from hF0 2 (YF rfl),ex0_ok,show XV ex0 13 21 0=ex1 from rfl] at hmv0
 refine Yu rfl (hmv0) rfl rfl rfl (Zo rfl (YD (v:=.agg _ _) rfl rfl (YD (v:=.s (.int _ _)) rfl rfl (Yy (Yz rfl rfl rfl rfl .here ?_)))))
 rw [show ovA (fun _=>0) 0 133 ex1=ex1 from QG tS]
 refine Zj rfl (Yc (Ye (Ze (Zj rfl (Yr rfl rfl (wM rfl) (Yc (ZB rfl (Yh (Yf (Yo rfl rfl ZM (Yz rfl rfl rfl rfl (.there (.there .here)) ?_)))))))))))
 rw [show ovA ex0 0 133 ex1=ex1 from wh ex0_z tS]
 refine Yc (Yf (Zj rfl (Zs rfl rfl (Zj rfl (Yc (YO (Ye (Ze (Zj rfl (Zn rfl (WX rfl (Yr (r:=.bool true) rfl rfl rfl (Yc (ZA rfl (Yh (Ye (Yk (Ye (Yg (Yo rfl rfl ZO (Zn rfl (Zj rfl (Zx rfl rfl (Yp rfl rfl ZP ?_))))))))))))))))))))))))
 have hmv1:=YP (Ew ex1 (dp F0 (0+(0+1:Int).toNat*3)))
 rw [show (dp F0 (0+(0+1:Int).toNat*3)) 0=52 from hF0 3 (YF rfl),show (dp F0 (0+(0+1:Int).toNat*3)) 1=36 from hF0 4 (YF rfl),show (dp F0 (0+(0+1:Int).toNat*3)) 2=0 from hF0 5 (YF rfl),ex1_ok,show XV ex1 52 36 0=ex2 from rfl] at hmv1
 refine Yu rfl (hmv1) rfl rfl rfl (Zo rfl (YD (v:=.agg _ _) rfl rfl (YD (v:=.s (.int _ _)) rfl rfl (Yy (Yz rfl rfl rfl rfl .here ?_)))))
 rw [show ovA (fun _=>0) 0 133 ex2=ex2 from QG tZ]
 refine Zj rfl (Yc (Ye (Ze (Zj rfl (Yr rfl rfl (wM rfl) (Yc (ZB rfl (Yh (Yf (Yo rfl rfl ZM (Yz rfl rfl rfl rfl (.there (.there (.there .here))) ?_)))))))))))
 rw [show ovA ex1 0 133 ex2=ex2 from wh tS tZ]
 refine Yc (Yf (Zj rfl (Zs rfl rfl (Zj rfl (Yc (YO (Ye (Ze (Zj rfl (Zn rfl (WX rfl (Yr (r:=.bool true) rfl rfl rfl (Yc (ZA rfl (Yh (Ye (Yk (Ye (Yg (Yo rfl rfl ZP (Zn rfl (Zj rfl (Zx rfl rfl (Yp rfl rfl (.tail _ ZP) ?_))))))))))))))))))))))))
 have hmv2:=YP (Ew ex2 (dp F0 (0+(0+1+1:Int).toNat*3)))
 rw [show (dp F0 (0+(0+1+1:Int).toNat*3)) 0=14 from hF0 6 (YF rfl),show (dp F0 (0+(0+1+1:Int).toNat*3)) 1=30 from hF0 7 (YF rfl),show (dp F0 (0+(0+1+1:Int).toNat*3)) 2=0 from hF0 8 (YF rfl),ex2_ok,show XV ex2 14 30 0=ex3 from rfl] at hmv2
 refine Yu rfl (hmv2) rfl rfl rfl (Zo rfl (YD (v:=.agg _ _) rfl rfl (YD (v:=.s (.int _ _)) rfl rfl (Yy (Yz rfl rfl rfl rfl .here ?_)))))
 rw [show ovA (fun _=>0) 0 133 ex3=ex3 from QG zN]
 refine Zj rfl (Yc (Ye (Ze (Zj rfl (Yr rfl rfl (wM rfl) (Yc (ZB rfl (Yh (Yf (Yo rfl rfl ZM (Yz rfl rfl rfl rfl (.there (.there (.there (.there .here)))) ?_)))))))))))
 rw [show ovA ex2 0 133 ex3=ex3 from wh tZ zN]
 refine Yc (Yf (Zj rfl (Zs rfl rfl (Zj rfl (Yc (YO (Ye (Ze (Zj rfl (Zn rfl (WX rfl (Yr (r:=.bool false) rfl rfl rfl (Yc (ZB rfl (Y0 (Xb (Ze (Yo rfl rfl (.tail _ ZP) (Yz rfl rfl rfl rfl (.there (.there (.there .here))) ?_)))))))))))))))))))
 rw [show ovA (fun _=>0) 0 133 ex3=ex3 from QG zN]
 refine Yq rfl (Yc (Yi (⟨_,XM rfl rfl ZP (ZL rfl),?_⟩)))
 exact ⟨rfl,(UY (.tail _ (.tail _ ZP)))⟩
theorem geq_yes {a b:Int} (h:b<=a):Wc .geq (.int .i64 a) (.int .i64 b)=some (.bool true):=by
 show (if IntKind.i64=IntKind.i64 then some (S.bool (decide (b<=a))) else none)=_
 rw [ZcA rfl,Zcl h]
theorem leq_yes {a b:Int} (h:a<=b):Wc .leq (.int .i64 a) (.int .i64 b)=some (.bool true):=by
 show (if IntKind.i64=IntKind.i64 then some (S.bool (decide (a<=b))) else none)=_
 rw [ZcA rfl,Zcl h]
theorem yt (a:ByteArray):Wc .eql (.str a) (.str a)=some (.bool true):=by
 show some (S.bool (a.toList == a.toList))=_
 rw [beq_self_eq_true]
def Qz (k:Int):ByteArray:=if k=2 then ⟨#[110]⟩ else if k=3 then ⟨#[98]⟩ else if k=4 then ⟨#[114]⟩ else if k=5 then ⟨#[113]⟩ else if k=6 then ⟨#[107]⟩ else ⟨#[]⟩
theorem wk (k:Int):RF AM 40 [.s (.str (XB k))] (.s (.str (Qz k))):=by
 refine ⟨[],?_⟩
 refine (WI (A:=AM) (pf:=zn) rfl _ _ rfl).trans ?_
 unfold XB Qz
 by_cases h2:k=2
 ·subst h2; rfl
 by_cases h3:k=3
 ·subst h3; rfl
 by_cases h4:k=4
 ·subst h4; rfl
 by_cases h5:k=5
 ·subst h5; rfl
 by_cases h6:k=6
 ·subst h6; rfl
 rw [Zcz h2,Zcz h3,Zcz h4,Zcz h5,Zcz h6,Zcz h2,Zcz h3,Zcz h4,Zcz h5,Zcz h6]; rfl
theorem Rj (k:Int):(Qz k).size<=1:=by
 unfold Qz
 split
 ·decide
 split
 ·decide
 split
 ·decide
 split
 ·decide
 split <;> decide
def ZcB (a t b:Int):ByteArray:=YS a++YS t++Qz b
def Txt (a t b:Int):Prop:=(0<=a/\a < 64)/\(0<=t/\t < 64)/\a≠t/\b≠1/\0<=b/\b<=5
theorem pY {x:Int} (h:0<=x/\x < 64):RF AM 74 [.s (.int .i64 x)] (.s (.bool true)):=by
 have:=U4 x
 rw [show isM x=true from Zcl h] at this; exact this
theorem Zbi (M:Nat->Int) (h:Txt (M 0) (M 1) (M 2)):WR AM 39 [.agg 3 (ia M)] [] (fun v _ _=>v=.s (.bool true)):=by
 obtain ⟨h1,h2,h3,h4,h5,h6⟩:=h
 refine YL (a:=a39) rfl rfl (YI _) (ZQ rfl) (m:=0) rfl (Ze (YC rfl (Yq rfl (Zf (Zy rfl (Ym (x:=M 0) rfl rfl ZM (rfl) (Yt rfl (pY h1) rfl rfl rfl (Zk rfl (Yb rfl (Zz rfl (Yb rfl (Ym (x:=M 1) rfl rfl ZM (rfl) (Yb rfl (Yt rfl (pY h2) rfl rfl rfl (Zq rfl (Zk rfl (Yb rfl (Zy rfl (Yb rfl (Ym (x:=M 0) rfl rfl ZM (rfl) (Yb rfl (Zz rfl (Yb rfl (Ym (x:=M 1) rfl rfl ZM (rfl) (Yb rfl (Yr rfl rfl (tg h3) (Zq rfl (Zk rfl (Yb rfl ?_)))))))))))))))))))))))))))))
 refine Yd (o':=2) rfl rfl rfl (Yb rfl (Ym (x:=M 2) rfl rfl ZM (rfl) (Yb rfl (Yr rfl rfl (tg h4) (Zq rfl (Zk rfl (Yb rfl (Yd (o':=2) rfl rfl rfl (Yb rfl (Ym (x:=M 2) rfl rfl ZM (rfl) (Yb rfl (Yr rfl rfl (geq_yes h5) (Zq rfl (Zk rfl (Yb rfl (Yd (o':=2) rfl rfl rfl (Yb rfl (Ym (x:=M 2) rfl rfl ZM (rfl) (Yb rfl (Yr rfl rfl (leq_yes h6) (Zq rfl (Zk rfl (Zg rfl ?_)))))))))))))))))))))))
 rfl
theorem Zby (M:Nat->Int) (h:Txt (M 0) (M 1) (M 2)):WR AM 38 [.agg 3 (ia M)] [] (fun v _ _=>v=.s (.bool false)):=by
 refine YL (a:=a38) rfl rfl (YI _) (ZQ rfl) (m:=0) rfl (Ze (YC rfl (Yq rfl (Zf (Yo rfl rfl ZM (Yt rfl (YP (Zbi M h)) rfl rfl rfl (Yv (r:=.bool _) rfl rfl (Zk rfl (Zg rfl ?_)))))))))
 rfl
theorem rp (a t b:Int) (h:Txt a t b):RdR AM 73 3 [] [.fn 38 []] [a,t,b] (.s (.int .i64 (-1))):=by
 refine WV fun v Bs hc=>?_
 refine YL (a:=a73) rfl rfl (YI _) (ZQ rfl) rfl ?_ (by first | rfl | (cases hc <;> rfl))
 have hr0:=hc.rx
 rw [show YZ 0 Bs=YZ 0 Bs++[] from (Zcf _).symm]
 generalize hown:YZ 0 Bs=own0 at hr0 ⊢
 refine Ze (Yq rfl (Yc (Ye (Ze (Yq (v:=v) rfl (Xk rfl hr0 (by decide) (show [a,t,b].length=1*3 from rfl) (Yq rfl (Yc (Yk (YO (Ze (Yr (r:=.bool true) rfl rfl rfl (Yc (Ye (ZA rfl (Yh (Ye (Yk (Ze (Zj rfl (Zj rfl (Zf (Yq (v:=.fn _ _) rfl (Yq (v:=v) rfl (Zj rfl ?_)))))))))))))))))))))))))
 obtain ⟨b0,q0,md0,c0,F0,rfl,rfl,hF0⟩:=hr0.at (by decide) (show [a,t,b].length=1*3 from rfl) (by omega)
 refine Zx rfl rfl ?_
 have f0:F0 0=a:=hF0 0 (YF rfl)
 have f1:F0 1=t:=hF0 1 (YF rfl)
 have f2:F0 2=b:=hF0 2 (YF rfl)
 have h0:Txt (F0 0) (F0 1) (F0 2):=by rw [f0,f1,f2]; exact h
 refine Yo rfl rfl ZM (Yt rfl (YP (Zby F0 h0)) rfl rfl rfl (Yc (ZB rfl (Yh (Yf (Zs rfl rfl (Zj rfl (Yc (YO (Ze (Yr (r:=.bool false) rfl rfl rfl (Yc (Ye (ZB rfl (Y0 (Xb (Ze (Yq rfl (Yc (Yi (⟨_,ZL rfl,?_⟩)))))))))))))))))))))
 exact ⟨rfl,(UY ZM)⟩
theorem jf (a t b:Int) (h:Txt a t b):RdR AM 37 3 [] [.fn 38 []] [a,t,b] (.s (.bool false)):=by
 refine WV fun v Bs hc=>?_
 refine YL (a:=a37) rfl rfl (YI _) (ZQ rfl) rfl ?_ (by first | rfl | (cases hc <;> rfl))
 have hr0:=hc.rx
 rw [show YZ 0 Bs=YZ 0 Bs++[] from (Zcf _).symm]
 generalize hown:YZ 0 Bs=own0 at hr0 ⊢
 refine Ze (Yq rfl (Zf (Yq (v:=v) rfl (Yq (v:=.fn _ _) rfl (XX (caps:=[]) rfl (rp a t b h) rfl (hr0) (fun _ h=>(ZbV _ h)) rfl rfl rfl (Yr (r:=.bool false) rfl rfl rfl (Zk rfl (Zg rfl ?_))))))))
 exact ⟨rfl,(fun _ h=>h)⟩
theorem ZaC (a t b:Int) (h:Txt a t b):RdR AM 12 3 [] [] [a,t,b] (.tup [.s (.str (ZcB a t b)),.s (.int .i64 0)]):=by
 refine WV fun v Bs hc=>?_
 obtain ⟨h1,h2,h3,h4,h5,h6⟩:=id h
 refine YL (a:=a12) rfl rfl (YI _) (ZQ rfl) rfl ?_ (by first | rfl | (cases hc <;> rfl))
 have hr0:=hc.rx
 rw [show YZ 0 Bs=YZ 0 Bs++[] from (Zcf _).symm]
 generalize hown:YZ 0 Bs=own0 at hr0 ⊢
 refine Ze (Yq rfl (Yq rfl (Yc (Ye (Ze (Yq (v:=v) rfl (XX (caps:=[]) rfl (jf a t b h) rfl (hr0) (fun _ h=>(ZbV _ h)) rfl rfl rfl (Yc (ZB rfl (Yh (Ye (Ze (Yq (v:=v) rfl (Xk rfl hr0 (by decide) (show [a,t,b].length=1*3 from rfl) (Yr (r:=.bool false) rfl rfl rfl (Yc (ZB rfl (Yh (Ze (Rr (v:=.aggv [.pnil,.snil]) rfl (w4 rfl rfl (qL w5 rfl rfl EN (Zl rfl (Yq (v:=.map _) rfl (Yc (Ye (Ze (Yq (v:=v) rfl (Xk rfl hr0 (by decide) (show [a,t,b].length=1*3 from rfl) ?_)))))))))))))))))))))))))))))
 refine Yq rfl (Yc (Yk (YO (Ze (Yr (r:=.bool true) rfl rfl rfl (Yc (Ye (ZA rfl (Yh (Ye (Yk (Ze (Zj rfl ?_)))))))))))))
 obtain ⟨b0,q0,md0,c0,F0,rfl,rfl,hF0⟩:=hr0.at (by decide) (show [a,t,b].length=1*3 from rfl) (by omega)
 refine Zx rfl rfl ?_
 have f0:F0 0=a:=hF0 0 (YF rfl)
 have f1:F0 1=t:=hF0 1 (YF rfl)
 have f2:F0 2=b:=hF0 2 (YF rfl)
 refine Yo rfl rfl ZO (Yy (Zj rfl (Yz rfl rfl rfl rfl .here (Yc (Ye (Ze (Zj rfl (Yr (r:=.bool false) rfl rfl rfl (Yc (ZB rfl (Yh (Yg (Zl rfl (Zy rfl (Ym (x:=a) rfl rfl ZM (f0) (Yu rfl (WH _) rfl rfl rfl (Zz rfl (Ym (x:=t) rfl rfl ZM (f1) (Yu rfl (WH _) rfl rfl rfl (Yq (v:=.map _) rfl (Yd (o':=2) rfl rfl rfl (Ym (x:=b) rfl rfl ZM (f2) (WK rfl rfl ZN rfl (W6 _) (Yt rfl (wk _) rfl rfl rfl (yx rfl rfl rfl (XH (Lr:=[(_,_)]) (L0:=[_,_,_]) (kS (gS3 (YS a) (YS t) (Qz b)) (.ex 3) (YS a) (YS t) (Qz b) rfl rfl rfl (by rw [YU h1]; omega) (by rw [YU h1,YU h2]; have:=Rj b; omega)) rfl rfl (Zcj (.refl _) ((Zcm _ ((Zcm _ ((Zcm _ (.refl _)).trans (.swap _ _ _))).trans (.swap _ _ _))).trans (.swap _ _ _))) rfl rfl rfl rfl rfl rfl rfl (Yc (Yf (Zs rfl rfl ?_)))))))))))))))))))))))))))))
 refine Zj rfl (Yc (YO (Ze (Yr (r:=.bool false) rfl rfl rfl (Yc (Ye (ZB rfl (Y0 (Xb (Ze (Zl rfl (YG rfl (Zy rfl (TL (E9 (YS a++YS t++Qz b) (by simp only [ZbP,YU h1]; omega) (by simp only [ZbP,YU h1,YU h2]; have:=Rj b; omega)) rfl rfl rfl rfl ZN .here (Yq (v:=.s _) rfl (Yq rfl (Yc (Yi (⟨_,YH (v:=.s _) rfl (ZL rfl),?_⟩)))))))))))))))))))
 exact ⟨rfl,(UY (.tail _ (.tail _ ZP)))⟩
set_option maxRecDepth 100000
def tab (l:List Int) (i:Nat):Int:=l.getD i 0
theorem sF {l:List Int} (h:l.length=133):∀ i,133<=i->tab l i=0:=fun i hi=>by
 unfold tab
 rw [ZbD,ZbQ (by omega)]; rfl
theorem ow {P:Nat->Int} {l:List Int} (h:l.length=133) (hz:∀ i,133<=i->P i=0) (h2:∀ i:Fin 133,P i.val=tab l i.val):P=tab l:=by
 funext i
 by_cases hi:i < 133
 ·exact h2 ⟨i,hi⟩
 rw [hz i (by omega),sF h i (by omega)]
def t3:List Int:=[4,0,2,0,3,0,5,0,6,0,3,0,2,0,4,0,1,0,1,0,1,0,1,0,1,0,0,0,0,0,1,0,0,0,0,0,0,0,0,0,0,0,1,0,0,0,0,0,0,0,0,0,0,0,0,0,0,0,0,0,1,0,0,0,0,0,0,0,0,0,0,0,1,1,0,0,0,0,0,0,0,0,0,0,0,0,0,0,0,0,0,0,0,0,0,0,1,1,1,1,1,1,1,1,0,0,1,1,1,1,1,1,4,1,2,1,3,1,5,1,6,1,3,1,2,1,4,1,1,15,22,0,2]
def t4:List Int:=[4,0,2,0,3,0,5,0,6,0,3,0,2,0,4,0,1,0,1,0,1,0,1,0,1,0,0,0,0,0,1,0,0,0,0,0,0,0,0,0,0,0,1,0,0,0,0,0,0,0,0,0,0,0,0,0,0,0,0,0,1,0,5,1,0,0,0,0,0,0,0,0,1,1,0,0,0,0,0,0,0,0,0,0,0,0,0,0,0,0,0,0,0,0,0,0,1,1,1,1,1,1,1,1,0,0,1,1,1,1,1,1,4,1,2,1,3,1,0,0,6,1,3,1,2,1,4,1,0,15,-1,1,3]
theorem pI:ex3=tab t3:=ow rfl zN (by decide +kernel)
theorem ex4_is:XV (tab t3) 59 31 0=tab t4:=ow rfl (fun i hi=>Q8 hi) (by decide +kernel)
theorem ex3_mem:((59,31,0):Mv)∈XN ex3:=by
 rw [pI]
 exact (DA (sF rfl)).2 ⟨by decide +kernel,by decide +kernel,by decide +kernel⟩
theorem ex4_end:(ofN (tab t4) (XN (tab t4)).length).2=1:=by
 rw [zb (sF rfl)]
 decide +kernel
theorem Zas:WG (tab t3) 59 31 0=⟨#[81,100,56,45,104,52]⟩:=by decide +kernel
theorem ex_long:UW ex3 59 31 0=⟨#[81,100,56,45,104,52,35]⟩:=by
 unfold UW zt
 rw [pI,ex4_is,ZcA ex4_end,Zas]; rfl
theorem ex_show:ZcB 52 60 5=⟨#[101,55,101,56,113]⟩:=by decide +kernel
theorem DG :WR AM 10 [] [] (fun v _ _=>v=.s (.bool true)):=by
 have hsh:=ZaC 52 60 5 ⟨by omega,by omega,by omega,by omega,by omega,by omega⟩
 rw [ex_show] at hsh
 have hid:ovA (fun _=>0) 0 133 ex3=ex3:=QG zN
 have hlong:=YP (Zaz (ovA (fun _=>0) 0 133 ex3) (ov (ov (fun _=>0) 0 59) 1 31) (by rw [hid]; exact zN) (by rw [hid]; exact ex3_mem))
 rw [show UW (ovA (fun _=>0) 0 133 ex3) ((ov (ov (fun _=>0) 0 59) 1 31) 0) ((ov (ov (fun _=>0) 0 59) 1 31) 1) ((ov (ov (fun _=>0) 0 59) 1 31) 2)=⟨#[81,100,56,45,104,52,35]⟩ by rw [hid]; exact ex_long] at hlong
 refine YL (a:=a10) rfl rfl (YI _) (ZQ rfl) (m:=0) rfl (Ze (Yq rfl (Zf (YB rfl (.one rfl (.one rfl (.one rfl .nil))) (Wp rfl (.agg rfl .nil) (XX (caps:=[]) rfl (hsh) rfl ((.row rfl (by decide))) (UY ZM) rfl rfl rfl (Zo rfl (YD (v:=.s _) rfl rfl (YD (v:=.s (.int _ _)) rfl rfl (Yq (v:=.s _) rfl (Zj rfl (Zf (Yt rfl (YP ru) rfl rfl rfl (YB rfl (.one rfl (.one rfl .nil)) (YB rfl (.one rfl (.one rfl .nil)) (YB rfl (.one rfl (.one rfl .nil)) (Wp rfl (.agg rfl (.agg rfl (.agg rfl .nil))) (XX (caps:=[]) rfl (ex_rd) rfl ((.row rfl (by decide))) (UY ZM) rfl rfl rfl (Zo rfl (YD (v:=.agg _ _) rfl rfl (YD (v:=.s (.int _ _)) rfl rfl (Yy (Yz rfl rfl rfl rfl .here (Zj rfl (Zf (Yo rfl rfl ZM (YB rfl (.one rfl (.one rfl .nil)) (Yt rfl (hlong) rfl rfl rfl (Zo rfl ?_)))))))))))))))))))))))))))))
 refine YD (v:=.s _) rfl rfl (YD (v:=.s (.int _ _)) rfl rfl (Yq (v:=.s _) rfl (Zj rfl (Zf (Zj rfl (Yr rfl rfl (RC rfl) (Zk rfl (Yb rfl (Yq (v:=.s _) rfl (Yb rfl (Yr rfl rfl (yt _) (Zq rfl (Zk rfl (Yb rfl (Zj rfl (Yb rfl (Yr rfl rfl (RC rfl) (Zq rfl (Zk rfl (Yb rfl (Yq (v:=.s _) rfl (Yb rfl (Yr rfl rfl (yt _) (Zq rfl (Zk rfl (Zg rfl ?_))))))))))))))))))))))))))
 rfl
def bl (s:ByteArray):List UInt8:=s.data.toList
theorem Rg (s t:ByteArray):bl (s++t)=bl s++bl t:=by unfold bl; rw [ByteArray.data_append,Array.toList_append]
theorem tj {x:Int} (h:0<=x/\x < 64):bl (YS x)=[UInt8.ofNat (97+(x % 8).toNat),UInt8.ofNat (49+(x / 8).toNat)]:=by rw [ZdH h]; rfl
theorem u97:∀ i j:Fin 8,UInt8.ofNat (97+i.val)=UInt8.ofNat (97+j.val)->i=j:=by decide +kernel
theorem u49:∀ i j:Fin 8,UInt8.ofNat (49+i.val)=UInt8.ofNat (49+j.val)->i=j:=by decide +kernel
theorem xr {x y:Int} (hx:0<=x/\x < 64) (hy:0<=y/\y < 64) (h1:UInt8.ofNat (97+(x % 8).toNat)=UInt8.ofNat (97+(y % 8).toNat)) (h2:UInt8.ofNat (49+(x / 8).toNat)=UInt8.ofNat (49+(y / 8).toNat)):x=y:=by
 have e1:=congrArg Fin.val (u97 ⟨(x % 8).toNat,by omega⟩ ⟨(y % 8).toNat,by omega⟩ h1)
 have e2:=congrArg Fin.val (u49 ⟨(x / 8).toNat,by omega⟩ ⟨(y / 8).toNat,by omega⟩ h2)
 simp only at e1 e2
 omega
def EI (k:Int):UInt8:=if k=2 then 78 else if k=3 then 66 else if k=4 then 82 else if k=5 then 81 else 75
theorem pj {k:Int} (h:2<=k/\k<=6):bl (XB k)=[EI k]:=by
 have:k=2\/k=3\/k=4\/k=5\/k=6:=by omega
 rcases this with rfl | rfl | rfl | rfl | rfl <;> rfl
theorem ZaE {k l:Int} (h:2<=k/\k<=6) (h2:2<=l/\l<=6) (he:EI k=EI l):k=l:=by
 have e1:k=2\/k=3\/k=4\/k=5\/k=6:=by omega
 have e2:l=2\/l=3\/l=4\/l=5\/l=6:=by omega
 rcases e1 with rfl | rfl | rfl | rfl | rfl <;> rcases e2 with rfl | rfl | rfl | rfl | rfl <;> first | rfl | exact absurd he (by decide)
theorem letB_lt {k:Int}:(EI k).toNat < 83/\EI k≠79:=by
 unfold EI
 split
 ·decide
 split
 ·decide
 split
 ·decide
 split <;> decide
theorem file_ge (x:Int):97<=(UInt8.ofNat (97+(x % 8).toNat)).toNat:=by
 rw [UInt8.toNat_ofNat']
 omega
def prL (b:Int):List UInt8:=if b=0 then [] else [61,EI b]
inductive Tl:List UInt8->Prop
 | no:Tl []
 | mate:Tl [35]
 | check:Tl [43]
theorem tm (P:Nat->Int) (a t b:Int):∃ tl,Tl tl/\bl (UW P a t b)=bl (WG P a t b)++tl:=by
 unfold UW zt
 split
 ·exact ⟨[35],.mate,Rg _ _⟩
 split
 ·exact ⟨[43],.check,Rg _ _⟩
 exact ⟨[],.no,(Zcf _).symm⟩
theorem sign_bl (c:Int):∃ g,bl (Jw c)=[g]/\(g=45\/g=120):=by
 unfold Jw
 split
 ·exact ⟨45,rfl,.inl rfl⟩
 exact ⟨120,rfl,.inr rfl⟩
theorem xZ {P:Nat->Int} {a t b:Int} (ha:0<=a/\a < 64) (ht:0<=t/\t < 64) (hk:1<=P (sqI a)/\P (sqI a)<=6) (hb:b=0\/(P (sqI a)=1/\2<=b/\b<=5)) :
  (P (sqI a)=6/\t=a+2/\b=0/\bl (WG P a t b)=[79,45,79])\/(P (sqI a)=6/\t=a - 2/\b=0/\bl (WG P a t b)=[79,45,79,45,79]) \/
  (∃ g,(g=45\/g=120)/\P (sqI a)=1/\bl (WG P a t b)=UInt8.ofNat (97+(a % 8).toNat)::UInt8.ofNat (49+(a / 8).toNat)::g::UInt8.ofNat (97+(t % 8).toNat)::UInt8.ofNat (49+(t / 8).toNat)::prL b) \/
  (∃ g,(g=45\/g=120)/\2<=P (sqI a)/\b=0/\bl (WG P a t b)=EI (P (sqI a))::UInt8.ofNat (97+(a % 8).toNat)::UInt8.ofNat (49+(a / 8).toNat)::g::UInt8.ofNat (97+(t % 8).toNat)::UInt8.ofNat (49+(t / 8).toNat)::[]):=by
 by_cases c1:P (sqI a)=6/\t - a=2
 ·left
  refine ⟨c1.1,by omega,by omega,?_⟩
  unfold WG; rw [ZcA c1]; rfl
 by_cases c2:P (sqI a)=6/\t - a=-2
 ·right; left
  refine ⟨c2.1,by omega,by omega,?_⟩
  unfold WG; rw [Zcz c1,ZcA c2]; rfl
 right; right
 obtain ⟨g,hg,hgg⟩:=sign_bl (Y7 P (P (sqI a)) a t)
 have hcore:bl (QP P a t)=bl (XB (P (sqI a)))++(UInt8.ofNat (97+(a % 8).toNat)::UInt8.ofNat (49+(a / 8).toNat)::g::UInt8.ofNat (97+(t % 8).toNat)::UInt8.ofNat (49+(t / 8).toNat)::[]):=by
  unfold QP
  rw [Rg,Rg,Rg,tj ha,tj ht,hg]
  simp
 by_cases h1:P (sqI a)=1
 ·left
  refine ⟨g,hgg,h1,?_⟩
  rw [h1,show bl (XB 1)=[] from rfl,List.nil_append] at hcore
  unfold WG prL
  rw [Zcz c1,Zcz c2]
  by_cases hb0:b=0
  ·rw [ZcA hb0,ZcA hb0,hcore]
  rw [Zcz hb0,Zcz hb0,Rg,Rg,hcore,pj (by omega)]
  rfl
 right
 have hb0:b=0:=by omega
 refine ⟨g,hgg,by omega,hb0,?_⟩
 rw [pj (by omega)] at hcore
 unfold WG
 rw [Zcz c1,Zcz c2,ZcA hb0,hcore]; rfl
theorem j6 {P:Nat->Int} (hz:∀ i,133<=i->P i=0) {m:Mv} (hm:m∈XN P):QJ P=true/\(0<=m.1/\m.1 < 64)/\(0<=m.2.1/\m.2.1 < 64)/\(1<=P (sqI m.1)/\P (sqI m.1)<=6)/\P (sqI m.1+1)=P 128/\(m.2.2=0\/(P (sqI m.1)=1/\2<=m.2.2/\m.2.2<=5))/\m.1≠m.2.1:=by
 obtain ⟨h1,h2,_⟩:=(DA hz).1 hm
 obtain ⟨hs,ht,hg,hmt⟩:=yH h2
 obtain ⟨hk,_,hd,hne⟩:=yj hg
 have:=tn hmt
 refine ⟨pC h1,hs,ht,hk,hd,?_,hne⟩
 split at this
 ·rename_i h
  exact .inr ⟨h.1,this⟩
 exact .inl this
theorem zj {tl:List UInt8} (h:Tl tl):∀ x l,tl=x::l->(x=35\/x=43)/\l=[]:=by
 cases h with
 | no=>intro x l e; cases e
 | mate=>intro x l e; injection e with e1 e2; exact ⟨.inl e1.symm,e2.symm⟩
 | check=>intro x l e; injection e with e1 e2; exact ⟨.inr e1.symm,e2.symm⟩
theorem pr_inj {b c:Int} (hb:b=0\/(2<=b/\b<=5)) (hc:c=0\/(2<=c/\c<=5)) {tl ul:List UInt8} (h1:Tl tl) (h2:Tl ul) (h:prL b++tl=prL c++ul):b=c:=by
 unfold prL at h
 by_cases b0:b=0
 ·by_cases c0:c=0
  ·omega
  exfalso
  rw [ZcA b0,Zcz c0] at h
  have:=(zj h1 _ _ h).1
  rcases this with e | e <;> exact absurd e (by decide)
 by_cases c0:c=0
 ·exfalso
  rw [Zcz b0,ZcA c0] at h
  have:=(zj h2 _ _ h.symm).1
  rcases this with e | e <;> exact absurd e (by decide)
 rw [Zcz b0,Zcz c0] at h
 injection h with _ h
 injection h with h _
 exact ZaE (by omega) (by omega) h
theorem JS (x:Int):UInt8.ofNat (97+(x % 8).toNat)≠79/\∀ k,UInt8.ofNat (97+(x % 8).toNat)≠EI k:=by
 have:=file_ge x
 refine ⟨fun e=>?_,fun k e=>?_⟩
 ·rw [e] at this; exact absurd this (by decide)
 have h2:=(letB_lt (k:=k)).1
 rw [<- e] at h2; omega
theorem gS {P:Nat->Int} (hz:∀ i,133<=i->P i=0) {a t b c u d:Int} (hm:(a,t,b)∈XN P) (hm':(c,u,d)∈XN P) (h:UW P a t b=UW P c u d):(a,t,b)=(c,u,d):=by
 obtain ⟨hR,ha,ht,hk,hd,hb,_⟩:=j6 hz hm
 obtain ⟨_,hc,hu,hl,he,hdd,_⟩:=j6 hz hm'
 simp only at ha ht hk hd hb hc hu hl he hdd
 obtain ⟨tl,htl,e1⟩:=tm P a t b
 obtain ⟨ul,hul,e2⟩:=tm P c u d
 rw [h,e2] at e1
 have king:P (sqI a)=6->P (sqI c)=6->a=c:=fun h1 h2=>Zbd (sm hR) ⟨ha,h1,hd⟩ ⟨hc,h2,he⟩
 rcases xZ ha ht hk hb with ⟨k1,k2,k3,f⟩ | ⟨k1,k2,k3,f⟩ | ⟨g,hg,k1,f⟩ | ⟨g,hg,k1,k3,f⟩ <;>
  rcases xZ hc hu hl hdd with ⟨l1,l2,l3,f'⟩ | ⟨l1,l2,l3,f'⟩ | ⟨g',hg',l1,f'⟩ | ⟨g',hg',l1,l3,f'⟩ <;>
  rw [f,f'] at e1
 ·have:=king k1 l1; subst this; rw [k2,l2,k3,l3]
 ·exfalso
  injection e1 with _ e1; injection e1 with _ e1; injection e1 with _ e1
  have:=(zj htl _ _ e1.symm).1
  rcases this with e | e <;> exact absurd e (by decide)
 ·exfalso; injection e1 with e1 _; exact (JS c).1 e1
 ·exfalso; injection e1 with e1 _; exact letB_lt.2 e1
 ·exfalso
  injection e1 with _ e1; injection e1 with _ e1; injection e1 with _ e1
  have:=(zj hul _ _ e1).1
  rcases this with e | e <;> exact absurd e (by decide)
 ·have:=king k1 l1; subst this; rw [k2,l2,k3,l3]
 ·exfalso; injection e1 with e1 _; exact (JS c).1 e1
 ·exfalso; injection e1 with e1 _; exact letB_lt.2 e1
 ·exfalso; injection e1 with e1 _; exact (JS a).1 e1.symm
 ·exfalso; injection e1 with e1 _; exact (JS a).1 e1.symm
 ·injection e1 with x1 e1; injection e1 with x2 e1; injection e1 with _ e1; injection e1 with x3 e1; injection e1 with x4 e1
  rw [xr ha hc x1.symm x2.symm,xr ht hu x3.symm x4.symm,pr_inj (by omega) (by omega) htl hul e1.symm]
 ·exfalso; injection e1 with e1 _; exact (JS a).2 _ e1.symm
 ·exfalso; injection e1 with e1 _; exact letB_lt.2 e1.symm
 ·exfalso; injection e1 with e1 _; exact letB_lt.2 e1.symm
 ·exfalso; injection e1 with e1 _; exact (JS c).2 _ e1
 injection e1 with _ e1; injection e1 with x1 e1; injection e1 with x2 e1; injection e1 with _ e1; injection e1 with x3 e1; injection e1 with x4 e1
 rw [xr ha hc x1.symm x2.symm,xr ht hu x3.symm x4.symm,k3,l3]
theorem ZcP {s t:ByteArray} (h:bl s=bl t):s=t:=by
 cases s; cases t
 unfold bl at h
 exact congrArg ByteArray.mk (Array.toList_inj.1 h)
theorem ZdJ (s:ByteArray):s.size=(bl s).length:=by unfold bl; rw [Zb0]; rfl
theorem ZcW (s:ByteArray) (i j:Nat):bl (s.extract i j)=((bl s).take j).drop i:=by
 unfold bl
 rw [ByteArray.data_extract,Array.toList_extract]
 rw [List.extract_eq_take_drop,List.drop_take]
theorem lss_no {a b:Int} (h:b<=a):Wc .lss (.int .i64 a) (.int .i64 b)=some (.bool false):=by
 show (if IntKind.i64=IntKind.i64 then some (S.bool (decide (a < b))) else none)=_
 rw [ZcA rfl,Zci (by omega)]
theorem toList_inj {a b:ByteArray} (h:a.toList=b.toList):a=b:=by
 rw [ByteArray.toList_eq,ByteArray.toList_eq] at h
 exact ZcP h
theorem pt {P:Nat->Int} (hz:∀ i,133<=i->P i=0):(XN P).Pairwise lt3:=by
 rw [zb hz]
 split
 ·exact (tf P 64).filter _
 exact .nil
def outL (P:Nat->Int) (l:List Mv):List ByteArray:=l.map fun m=>UW P m.1 m.2.1 m.2.2
theorem unlike {P:Nat->Int} (hz:∀ i,133<=i->P i=0) {l:List Mv} (hl:l=XN P) {k i:Nat} (hk:k < i) (hi:i < l.length):UW P (l.getD k (0,0,0)).1 (l.getD k (0,0,0)).2.1 (l.getD k (0,0,0)).2.2≠UW P (l.getD i (0,0,0)).1 (l.getD i (0,0,0)).2.1 (l.getD i (0,0,0)).2.2:=by
 intro h
 have e:=gS hz (by rw [<- hl]; exact zi (by omega)) (by rw [<- hl]; exact zi hi) h
 have hp:=List.pairwise_iff_getElem.1 (hl ▸ pt hz) k i (by omega) hi hk
 have e2:l[k]'(by omega)=l[i]:=by
  have g1:l.getD k (0,0,0)=l[k]'(by omega):=by rw [ZbD,ZbH (by omega)]; rfl
  have g2:l.getD i (0,0,0)=l[i]:=by rw [ZbD,ZbH hi]; rfl
  rw [<- g1,<- g2]; exact e
 rw [e2] at hp
 unfold lt3 at hp
 omega
def Uk (a t b:Int):Bool:=isM a&&(isM t&&(decide (a≠t)&&(decide (b≠1)&&(decide (0<=b)&&decide (b<=5)))))
theorem txtB_iff {a t b:Int}:Uk a t b=true↔Txt a t b:=by
 unfold Uk Txt isM
 simp only [Zca,Zb7]
theorem Zbo (M:Nat->Int):WR AM 39 [.agg 3 (ia M)] [] (fun v _ _=>v=.s (.bool (Uk (M 0) (M 1) (M 2)))):=by
 refine YL (a:=a39) rfl rfl (YI _) (ZQ rfl) (m:=0) rfl (Ze (YC rfl (Yq rfl (Zf (Zy rfl (Ym (x:=M 0) rfl rfl ZM (rfl) (Yt rfl (U4 _) rfl rfl rfl (Zk rfl (Ys (t:=6) rfl (fun h1=>?_) (fun h1=>?_))))))))))
 ·refine Yb rfl (Zz rfl (Yb rfl (Ym (x:=M 1) rfl rfl ZM (rfl) (Yb rfl (Yt rfl (U4 _) rfl rfl rfl (Zq rfl (Zk rfl (Ys (t:=11) rfl (fun h2=>?_) (fun h2=>?_)))))))))
  ·refine Yb rfl (Zy rfl (Yb rfl (Ym (x:=M 0) rfl rfl ZM (rfl) (Yb rfl (Zz rfl (Yb rfl (Ym (x:=M 1) rfl rfl ZM (rfl) (Yb rfl (Zr rfl (Zq rfl (Zk rfl (Ys (t:=18) rfl (fun h3=>?_) (fun h3=>?_))))))))))))) <;> simp only [NM] at h3
   ·refine Yb rfl (Yd (o':=2) rfl rfl rfl (Yb rfl (Ym (x:=M 2) rfl rfl ZM (rfl) (Yb rfl (Zr rfl (Zq rfl (Zk rfl (Ys (t:=23) rfl (fun h4=>?_) (fun h4=>?_))))))))) <;> simp only [NM] at h4
    ·refine Yb rfl (Yd (o':=2) rfl rfl rfl (Yb rfl (Ym (x:=M 2) rfl rfl ZM (rfl) (Yb rfl (Zr rfl (Zq rfl (Zk rfl (Ys (t:=28) rfl (fun h5=>?_) (fun h5=>?_))))))))) <;> simp only [NM] at h5
     ·refine Yb rfl (Yd (o':=2) rfl rfl rfl (Yb rfl (Ym (x:=M 2) rfl rfl ZM (rfl) (Yb rfl (Zr rfl (Zq rfl (Zk rfl (Zg rfl (ZI ?_)))))))))
      unfold Uk
      (simp_all; done)
     refine ZD rfl (ZC rfl (Zq rfl (Zk rfl (Zg rfl (ZI ?_)))))
     unfold Uk
     (simp_all; omega)
    refine ZD rfl (ZC rfl (Zq rfl (Zk rfl (ZD rfl (ZC rfl (Zq rfl (Zk rfl (Zg rfl (ZI ?_)))))))))
    unfold Uk
    (simp_all; done)
   refine ZD rfl (ZC rfl (Zq rfl (Zk rfl (ZD rfl (ZC rfl (Zq rfl (Zk rfl (ZD rfl (ZC rfl (Zq rfl (Zk rfl (Zg rfl (ZI ?_)))))))))))))
   unfold Uk
   (simp_all; done)
  refine Ya rfl rfl (ZE rfl (Zq rfl (Zk rfl (ZD rfl (ZC rfl (Zq rfl (Zk rfl (ZD rfl (ZC rfl (Zq rfl (Zk rfl (ZD rfl (ZC rfl (Zq rfl (Zk rfl (Zg rfl (ZI ?_)))))))))))))))))
  unfold Uk
  (simp_all; done)
 refine Ya rfl rfl (ZD rfl (Zq rfl (Zk rfl (ZE rfl (ZC rfl (Zq rfl (Zk rfl (ZD rfl (ZC rfl (Zq rfl (Zk rfl (ZD rfl (ZC rfl (Zq rfl (Zk rfl (ZD rfl (ZC rfl (Zq rfl (Zk rfl (Zg rfl (ZI ?_)))))))))))))))))))))
 unfold Uk
 (simp_all; done)
def Q0 (p:Mv->Bool):List Mv->Int
 | []=>-1
 | y::l=>if p y=true then 0 else if Q0 p l=-1 then -1 else Q0 p l+1
theorem tx (p:Mv->Bool):∀ l:List Mv,-1<=Q0 p l/\Q0 p l < l.length
 | []=>⟨Int.le_refl _,by simp [Q0]⟩
 | y::l=>by
  have:=tx p l
  unfold Q0
  rw [Zcd]
  split
  ·omega
  split <;> omega
theorem u3 {p:Mv->Bool}:∀ {l:List Mv},(∀ i:Nat,i < l.length->p (l.getD i (0,0,0))=false)->Q0 p l=-1
 | [],_=>rfl
 | y::l,h=>by
  unfold Q0
  have h0:p y=false:=by have:=h 0 (by simp); simpa using this
  have ih:=u3 (p:=p) (l:=l) fun i hi=>by have:=h (i+1) (by simpa using hi); simpa using this
  rw [h0,Zcz Bool.false_ne_true,ZcA ih]
theorem uU {p:Mv->Bool}:∀ {l:List Mv} {i:Nat},i < l.length->p (l.getD i (0,0,0))=true->(∀ j:Nat,j < i->p (l.getD j (0,0,0))=false)->Q0 p l=i
 | [],i,h,_,_=>by simp at h
 | y::l,0,_,h,_=>by
  unfold Q0
  rw [ZcA (by simpa using h)]; rfl
 | y::l,i+1,hi,h,hn=>by
  unfold Q0
  have h0:p y=false:=by have:=hn 0 (by omega); simpa using this
  have ih:=uU (p:=p) (l:=l) (i:=i) (by simpa using hi) (by simpa using h) fun j hj=>by have:=hn (j+1) (by omega); simpa using this
  rw [h0,Zcz Bool.false_ne_true,Zcz (by omega),ih]; omega
theorem vD {p:Mv->Bool}:∀ {l:List Mv},0<=Q0 p l↔l.any p=true
 | []=>by simp [Q0]
 | y::l=>by
  have ih:=vD (p:=p) (l:=l)
  have:=tx p l
  unfold Q0
  rw [List.any_cons]
  cases hy:p y with
  | true=>simp
  | false =>
   rw [Zcz Bool.false_ne_true,Bool.false_or,<- ih]
   split <;> omega
def Ul (m:Mv):Bool:=!Uk m.1 m.2.1 m.2.2
theorem bad_yes {m:Mv} (h:Uk m.1 m.2.1 m.2.2=false):Ul m=true:=by unfold Ul; rw [h]; rfl
theorem bad_no {m:Mv} (h:Uk m.1 m.2.1 m.2.2=true):Ul m=false:=by unfold Ul; rw [h]; rfl
theorem sn (M:Nat->Int):WR AM 38 [.agg 3 (ia M)] [] (fun v _ _=>v=.s (.bool (!Uk (M 0) (M 1) (M 2)))):=by
 refine YL (a:=a38) rfl rfl (YI _) (ZQ rfl) (m:=0) rfl (Ze (YC rfl (Yq rfl (Zf (Yo rfl rfl ZM (Yt rfl (YP (Zbo M)) rfl rfl rfl (Yv (r:=.bool _) rfl rfl (Zk rfl (Zg rfl ?_)))))))))
 rfl
theorem rS (l:List Mv) (hlen:l.length<=1000000):RdR AM 73 3 [] [.fn 38 []] (YV l) (.s (.int .i64 (Q0 Ul l))):=by
 refine WV fun v Bs hc=>?_
 refine YL (a:=a73) rfl rfl (YI _) (ZQ rfl) rfl ?_ (by first | rfl | (cases hc <;> rfl))
 have hr0:=hc.rx
 rw [show YZ 0 Bs=YZ 0 Bs++[] from (Zcf _).symm]
 generalize hown:YZ 0 Bs=own0 at hr0 ⊢
 refine Ze (Yq rfl (Yc (Ye (Ze (Yq (v:=v) rfl (Xk rfl hr0 (by decide) (YQ l) (Yq rfl (Yc (Yk (Xo (ZbY (.refl _) .slnil) (Xu (fun m f _ L=>∃ (i:Nat),(i<=l.length)/\(m=l.length - i)/\(∀ j:Nat,j < i->Ul (l.getD j (0,0,0))=false)/\(f 0=v)/\(f 1=.fn 38 [])/\(f 7=.s (.int .i64 l.length))/\(f 8=.s (.int .i64 i))/\(L=(own0++[]))) (fun m f nb L hI=>?_) (l.length) (⟨0,by omega,by omega,fun j hj=>by omega,rfl,rfl,rfl,rfl,rfl⟩))))))))))))
 obtain ⟨i,hi,hm,hn,k0,k1,k7,k8,rfl⟩:=hI
 refine Za 0 k0 (Za 1 k1 (Za 7 k7 (Za 8 k8 (Ze (Zr rfl (Yc (Ye (Yj rfl (fun h6=>?_) (fun h6=>?_))))))))) <;> simp only [NM] at h6
 ·refine Yh (Ye (Yk (Ze (Zj rfl (Zj rfl (Zf (Yq (v:=.fn _ _) rfl (Yq (v:=v) rfl (Zj rfl ?_)))))))))
  obtain ⟨b0,q0,md0,c0,F0,rfl,rfl,hF0⟩:=hr0.at (by decide) (YQ l) (by omega)
  refine Zx rfl rfl ?_
  obtain ⟨hx0,hx1,hx2⟩:=UE hF0 (i:=i) (by omega)
  have hq:=YP (sn (dp F0 (0+(i:Int).toNat*3)))
  rw [show (dp F0 (0+(i:Int).toNat*3)) 0=(l.getD i (0,0,0)).1 from hx0,show (dp F0 (0+(i:Int).toNat*3)) 1=(l.getD i (0,0,0)).2.1 from hx1,show (dp F0 (0+(i:Int).toNat*3)) 2=(l.getD i (0,0,0)).2.2 from hx2] at hq
  refine Yp rfl rfl ZM (Yt rfl (hq) rfl rfl rfl (Yc (Yj rfl (fun h16=>?_) (fun h16=>?_)))) <;> simp only [NM] at h16
  ·refine Ze (Zj rfl (Zj rfl (Yc (Yi (⟨_,ZL rfl,?_⟩)))))
   refine ⟨ZJ ?_,(fun _ h=>h)⟩
   exact (uU (by omega) (bad_yes h16) hn).symm
  refine Yh (Yf (Zs rfl rfl (Zj rfl (Yc (⟨l.length - (i+1),_,by omega,(.refl _),i+1,by omega,rfl,?_,rfl,rfl,rfl,rfl,rfl⟩)))))
  intro j hj
  by_cases e:j=i
  ·subst e; exact bad_no h16
  exact hn j (by omega)
 refine Y0 (Xb (Ze (Yq rfl (Yc (Yi (⟨_,ZL rfl,?_⟩))))))
 refine ⟨ZJ ?_,(fun _ h=>h)⟩
 exact (u3 fun j hj=>hn j (by omega)).symm
theorem Rh (l:List Mv) (hlen:l.length<=1000000):RdR AM 37 3 [] [.fn 38 []] (YV l) (.s (.bool (l.any Ul))):=by
 refine WV fun v Bs hc=>?_
 refine YL (a:=a37) rfl rfl (YI _) (ZQ rfl) rfl ?_ (by first | rfl | (cases hc <;> rfl))
 have hr0:=hc.rx
 rw [show YZ 0 Bs=YZ 0 Bs++[] from (Zcf _).symm]
 generalize hown:YZ 0 Bs=own0 at hr0 ⊢
 refine Ze (Yq rfl (Zf (Yq (v:=v) rfl (Yq (v:=.fn _ _) rfl (XX (caps:=[]) rfl (rS l hlen) rfl (hr0) (fun _ h=>(ZbV _ h)) rfl rfl rfl (Zr rfl (Zk rfl (Zg rfl (⟨ZI ?_,(fun _ h=>h)⟩)))))))))
 rw [Zce,<- vD]
 simp
theorem gtr_yes {a b:Int} (h:b < a):Wc .gtr (.int .i64 a) (.int .i64 b)=some (.bool true):=by
 show (if IntKind.i64=IntKind.i64 then some (S.bool (decide (b < a))) else none)=_
 rw [ZcA rfl,Zcl h]
theorem vQ {a b:Int} (h:a<=b):Wc .gtr (.int .i64 a) (.int .i64 b)=some (.bool false):=by
 show (if IntKind.i64=IntKind.i64 then some (S.bool (decide (b < a))) else none)=_
 rw [ZcA rfl,Zci (by omega)]
def Wv (l:List Mv):Nat->ByteArray
 | 0=>⟨#[]⟩
 | i+1=>(if i=0 then YS (l.getD i (0,0,0)).1 else Wv l i++⟨#[32]⟩++YS (l.getD i (0,0,0)).1)++YS (l.getD i (0,0,0)).2.1++Qz (l.getD i (0,0,0)).2.2
theorem R3 (l:List Mv):Wv l 1=YS (l.getD 0 (0,0,0)).1++YS (l.getD 0 (0,0,0)).2.1++Qz (l.getD 0 (0,0,0)).2.2:=rfl
theorem Jx (l:List Mv) {i:Nat} (h:1<=i):Wv l (i+1)=Wv l i++⟨#[32]⟩++YS (l.getD i (0,0,0)).1++YS (l.getD i (0,0,0)).2.1++Qz (l.getD i (0,0,0)).2.2:=by
 show (if i=0 then _ else _)++_++_=_
 rw [Zcz (by omega)]
theorem TQ {l:List Mv} (h:l.any Ul=false) {i:Nat} (hi:i < l.length):Txt (l.getD i (0,0,0)).1 (l.getD i (0,0,0)).2.1 (l.getD i (0,0,0)).2.2:=by
 rw [List.any_eq_false] at h
 have:=h _ (zi hi)
 unfold Ul at this
 exact txtB_iff.1 (by simpa using this)
theorem El {l:List Mv} (h:l.any Ul=false):∀ {i:Nat},i<=l.length->(Wv l i).size<=6*i/\(1<=i->4<=(Wv l i).size)
 | 0,_=>⟨Zcs _,fun h=>by omega⟩
 | i+1,hi=>by
  obtain ⟨h1,h2,_⟩:=TQ h (i:=i) (by omega)
  have hl:=Rj (l.getD i (0,0,0)).2.2
  have ih:=(El h (i:=i) (by omega)).1
  have hs:(⟨#[32]⟩:ByteArray).size=1:=rfl
  by_cases h0:i=0
  ·subst h0
   rw [R3]
   simp only [ZbP,YU h1,YU h2]
   omega
  rw [Jx l (by omega)]
  simp only [ZbP,YU h1,YU h2]
  omega
theorem Za2 (l:List Mv) (hlen:l.length<=1000000) (hb:l.any Ul=true):RdR AM 12 3 [] [] (YV l) (.tup [.s (.str ⟨#[]⟩),.s (.int .i64 2)]):=by
 refine WV fun v Bs hc=>?_
 have hcf:=Rh l hlen
 rw [hb] at hcf
 refine YL (a:=a12) rfl rfl (YI _) (ZQ rfl) rfl ?_ (by first | rfl | (cases hc <;> rfl))
 have hr0:=hc.rx
 rw [show YZ 0 Bs=YZ 0 Bs++[] from (Zcf _).symm]
 generalize hown:YZ 0 Bs=own0 at hr0 ⊢
 refine Ze (Yq rfl (Yq rfl (Yc (Ye (Ze (Yq (v:=v) rfl (XX (caps:=[]) rfl (hcf) rfl (hr0) (fun _ h=>(ZbV _ h)) rfl rfl rfl (Yc (ZA rfl (Ze (Yq rfl (Yq rfl (Yc (Yi (⟨_,YH (v:=.s _) rfl (ZL rfl),?_⟩)))))))))))))))
 exact ⟨rfl,(fun _ h=>h)⟩
theorem ZcX (l:List Mv) (hb:l.any Ul=false) (hlen:l.length<=8192):RdR AM 12 3 [] [] (YV l) (.tup [.s (.str (Wv l l.length)),.s (.int .i64 0)]):=by
 refine WV fun v Bs hc=>?_
 have hcf:=Rh l (by omega)
 rw [hb] at hcf
 refine YL (a:=a12) rfl rfl (YI _) (ZQ rfl) rfl ?_ (by first | rfl | (cases hc <;> rfl))
 have hr0:=hc.rx
 rw [show YZ 0 Bs=YZ 0 Bs++[] from (Zcf _).symm]
 generalize hown:YZ 0 Bs=own0 at hr0 ⊢
 refine Ze (Yq rfl (Yq rfl (Yc (Ye (Ze (Yq (v:=v) rfl (XX (caps:=[]) rfl (hcf) rfl (hr0) (fun _ h=>(ZbV _ h)) rfl rfl rfl (Yc (ZB rfl (Yh (Ye (Ze (Yq (v:=v) rfl (Xk rfl hr0 (by decide) (YQ l) (Yr rfl rfl (vQ (by omega)) (Yc (ZB rfl (Yh (Ze (Rr (v:=.aggv [.pnil,.snil]) rfl (w4 rfl rfl (qL w5 rfl rfl EN (Zl rfl (Yq (v:=.map _) rfl (Yc (Ye (Ze (Yq (v:=v) rfl (Xk rfl hr0 (by decide) (YQ l) ?_)))))))))))))))))))))))))))))
 refine Yq rfl (Yc (Yk (YO (Ze (Zr rfl (Yc (Ye (Yj rfl (fun h19=>?_) (fun h19=>?_))))))))) <;> simp only [NM] at h19
 ·refine Yh (Ye (Yk (Ze (Zj rfl ?_))))
  obtain ⟨b0,q0,md0,c0,F0,rfl,rfl,hF0⟩:=hr0.at (by decide) (YQ l) (by omega)
  refine Zx rfl rfl ?_
  obtain ⟨h1,h2,_⟩:=TQ hb (i:=0) (by omega)
  obtain ⟨hx0,hx1,hx2⟩:=UE hF0 (i:=0) (by omega)
  refine Yo rfl rfl ZO (Yy (Zj rfl (Yz rfl rfl rfl rfl .here (Yc (Ye (Ze (Zj rfl (Yr rfl rfl (vQ (by omega)) (Yc (ZB rfl (Yh (Yg (Zl rfl (Zy rfl (Ym (x:=(l.getD 0 (0,0,0)).1) rfl rfl ZM (hx0) (Yu rfl (WH _) rfl rfl rfl (Zz rfl (Ym (x:=(l.getD 0 (0,0,0)).2.1) rfl rfl ZM (hx1) (Yu rfl (WH _) rfl rfl rfl (Yq (v:=.map _) rfl (Yd (o':=2) rfl rfl rfl (Ym (x:=(l.getD 0 (0,0,0)).2.2) rfl rfl ZM (hx2) (WK rfl rfl ZN rfl (W6 _) (Yt rfl (wk _) rfl rfl rfl (yx rfl rfl rfl (XH (Lr:=[(_,_)]) (L0:=[_,_,_]) (kS (gS3 (YS (l.getD 0 (0,0,0)).1) (YS (l.getD 0 (0,0,0)).2.1) (Qz (l.getD 0 (0,0,0)).2.2)) (.ex 3) (YS (l.getD 0 (0,0,0)).1) (YS (l.getD 0 (0,0,0)).2.1) (Qz (l.getD 0 (0,0,0)).2.2) rfl rfl rfl (by rw [YU h1]; omega) (by rw [YU h1,YU h2]; have:=Rj (l.getD 0 (0,0,0)).2.2; omega)) rfl rfl (Zcj (.refl _) ((Zcm _ ((Zcm _ ((Zcm _ (.refl _)).trans (.swap _ _ _))).trans (.swap _ _ _))).trans (.swap _ _ _))) rfl rfl rfl rfl rfl rfl rfl (Yc (Yf (Zs rfl rfl ?_)))))))))))))))))))))))))))))
  refine Zj rfl (Yc (Xo (.cons_cons _ (.cons_cons _ (.cons _ (.cons _ (.refl _))))) (Xu (fun m f _ L=>∃ (i kb:Nat),(1<=i)/\(i<=l.length)/\(m=l.length - i)/\(f 4=.ptr (Bs.length) 0 2)/\(f 5=.map (Bs.length+1))/\(f 16=.sl b0 0 l.length 3 c0)/\(f 17=.s (.int .i64 l.length))/\(f 18=.s (.int .i64 i))/\(L=[(kb,.sc (.gty 5) (Wv l i).size (Xv (Wv l i))),(Bs.length,UU 54 (Bs.length) kb (Wv l i).size),(Bs.length+1,.mp .var Rz),(b0,.sc md0 q0 (ia F0))])) (fun m f nb L hI=>?_) (l.length - 1) (⟨1,_,by omega,by omega,rfl,rfl,rfl,rfl,rfl,rfl,by rw [R3]⟩))))
  obtain ⟨i,kb,h1i,hi,hm,k4,k5,k16,k17,k18,rfl⟩:=hI
  refine Za 4 k4 (Za 5 k5 (Za 16 k16 (Za 17 k17 (Za 18 k18 ?_))))
  have hsz:=El hb hi
  refine Ze (Zr rfl (Yc (Ye (Yj rfl (fun h19=>?_) (fun h19=>?_))))) <;> simp only [NM] at h19
  ·refine Yh (Ye (Yk (Ze (Zj rfl (Zx rfl rfl ?_)))))
   obtain ⟨h1,h2,_⟩:=TQ hb (i:=i) (by omega)
   obtain ⟨hx0,hx1,hx2⟩:=UE hF0 (i:=i) (by omega)
   refine Yp rfl rfl ZP (Yy (Zj rfl (Yz rfl rfl rfl rfl .here (Yc (Ye (Ze (Zj rfl (Yr rfl rfl (gtr_yes (by omega)) (Yc (ZA rfl (Yf (Zl rfl (Rq rfl (XH (Lr:=[(_,_),(_,_)]) (L0:=[_,_,_]) (yo (gS1 ⟨#[32]⟩) (.ex 1) ⟨#[32]⟩ (Wv l i) rfl (by have h7:(⟨#[32]⟩:ByteArray).size=1:=rfl; omega)) rfl rfl (Zcj (Zcj (.refl _) ((Zcm _ ((Zcm _ (.refl _)).trans (.swap _ _ _))).trans (.swap _ _ _))) ((Zcm _ ((Zcm _ ((Zcm _ (.refl _)).trans (.swap _ _ _))).trans (.swap _ _ _))).trans (.swap _ _ _))) rfl rfl rfl rfl rfl rfl rfl (Yc (Yg (Zl rfl (Zy rfl (Ym (x:=(l.getD i (0,0,0)).1) rfl rfl (.tail _ ZP) (hx0) (Yu rfl (WH _) rfl rfl rfl (Zz rfl (Ym (x:=(l.getD i (0,0,0)).2.1) rfl rfl (.tail _ ZP) (hx1) (Yu rfl (WH _) rfl rfl rfl (Yq (v:=.map _) rfl (Yd (o':=2) rfl rfl rfl (Ym (x:=(l.getD i (0,0,0)).2.2) rfl rfl (.tail _ ZP) (hx2) (WK rfl rfl (.tail _ (.tail _ ZP)) rfl (W6 _) (Yt rfl (wk _) rfl rfl rfl (yx rfl rfl rfl ?_)))))))))))))))))))))))))))))
   refine XH (Lr:=[(_,_),(_,_)]) (L0:=[_,_,_,_,_]) (Zac (gS3 (YS (l.getD i (0,0,0)).1) (YS (l.getD i (0,0,0)).2.1) (Qz (l.getD i (0,0,0)).2.2)) (.ex 3) (YS (l.getD i (0,0,0)).1) (YS (l.getD i (0,0,0)).2.1) (Qz (l.getD i (0,0,0)).2.2) (Wv l i++⟨#[32]⟩) rfl rfl rfl (by rw [ZbP,YU h1,YU h2]; have h7:(⟨#[32]⟩:ByteArray).size=1:=rfl; have:=Rj (l.getD i (0,0,0)).2.2; omega)) rfl rfl (Zcj (Zcj (.refl _) ((Zcm _ (.refl _)).trans (.swap _ _ _))) ((Zcm _ ((Zcm _ (.refl _)).trans (.swap _ _ _))).trans (.swap _ _ _))) rfl rfl rfl rfl rfl rfl rfl (Yc (Yf (Zs rfl rfl (Zj rfl (Yc ?_)))))
   refine ⟨l.length - (i+1),_,by omega,(.cons_cons _ (.cons_cons _ (.cons _ (.cons _ (.cons _ (.cons _ (.cons _ (.refl _)))))))),i+1,_,by omega,by omega,rfl,rfl,rfl,rfl,rfl,rfl,by rw [Jx l h1i]⟩
  refine Y0 (Xb (Ze (Zl rfl (YG rfl (Zy rfl (TL (E9 (Wv l i) (by have:=hsz.2 h1i; omega) (by omega)) rfl rfl rfl rfl ZN .here (Yq (v:=.s _) rfl (Yq rfl (Yc (Yi (⟨_,YH (v:=.s _) rfl (ZL rfl),?_⟩)))))))))))
  obtain rfl:i=l.length:=by omega
  exact ⟨rfl,(UY ZP)⟩
 refine Y0 (Xb (Ze (Zl rfl (YG rfl (Zy rfl (Zbq (args:=[.ptr Bs.length 0 2]) (av:=[.ptr Bs.length 0 2]) (rs:=[_]) (Bs:=[_]) (Bs':=[_]) rfl rfl rfl str_B0 rfl (YF rfl) (fun _ h=>h) (by simp [rnL,V.renL,V.ren,pos]) ⟨ZN,rfl,trivial⟩ rfl rfl (.cons (UO ZN) .nil) (Yq (v:=.s _) rfl (Yq rfl (Yc (Yi (⟨_,YH (v:=.s _) rfl (ZL rfl),?_⟩)))))))))))
 have h0:l.length=0:=by omega
 refine ⟨?_,(fun _ h=>(.tail _ (.tail _ h)))⟩
 rw [h0]; rfl
theorem wq (s:ByteArray) (c:Int):RF AM 82 [.s (.str s),.s (.int .u8 c)] (.s (.int .i64 (Lib.indexByte s.data.toList c.toNat.toUInt8))) :=
 ⟨[],by first | (rw [WI (A:=AM) (f:=85) (pf:=TE) rfl]; rfl) | exact (WI (A:=AM) (pf:=TE) rfl _ _ rfl).trans rfl⟩
def YM (s:ByteArray) (i:Nat):Int:=((s.data.getD i 0).toNat:Nat)
theorem XU (s:ByteArray) (i:Nat):0<=YM s i/\YM s i < 256:=by
 have:=(s.data.getD i 0).toNat_lt
 unfold YM
 omega
theorem sr:∀ n:Fin 256,Lib.indexByte (⟨#[97,98,99,100,101,102,103,104]⟩:ByteArray).data.toList n.val.toUInt8=if 97<=n.val/\n.val<=104 then (n.val:Int) - 97 else -1:=by decide +kernel
theorem o6:∀ n:Fin 256,Lib.indexByte (⟨#[49,50,51,52,53,54,55,56]⟩:ByteArray).data.toList n.val.toUInt8=if 49<=n.val/\n.val<=56 then (n.val:Int) - 49 else -1:=by decide +kernel
def Xg (c:Int):Int:=if 97<=c/\c<=104 then c - 97 else -1
def Xj (c:Int):Int:=if 49<=c/\c<=56 then c - 49 else -1
theorem vp {c:Int} (h:0<=c/\c < 256):RF AM 82 [.s (.str ⟨#[97,98,99,100,101,102,103,104]⟩),.s (.int .u8 c)] (.s (.int .i64 (Xg c))):=by
 have h1:=wq ⟨#[97,98,99,100,101,102,103,104]⟩ c
 have h2:=sr ⟨c.toNat,by omega⟩
 simp only at h2
 rw [h2] at h1
 have e:(if 97<=c.toNat/\c.toNat<=104 then (c.toNat:Int) - 97 else -1)=Xg c:=by
  unfold Xg
  by_cases k:97<=c/\c<=104
  ·rw [ZcA k,ZcA (by omega)]; omega
  rw [Zcz k,Zcz (by omega)]
 rw [e] at h1
 exact h1
theorem qm {c:Int} (h:0<=c/\c < 256):RF AM 82 [.s (.str ⟨#[49,50,51,52,53,54,55,56]⟩),.s (.int .u8 c)] (.s (.int .i64 (Xj c))):=by
 have h1:=wq ⟨#[49,50,51,52,53,54,55,56]⟩ c
 have h2:=o6 ⟨c.toNat,by omega⟩
 simp only at h2
 rw [h2] at h1
 have e:(if 49<=c.toNat/\c.toNat<=56 then (c.toNat:Int) - 49 else -1)=Xj c:=by
  unfold Xj
  by_cases k:49<=c/\c<=56
  ·rw [ZcA k,ZcA (by omega)]; omega
  rw [Zcz k,Zcz (by omega)]
 rw [e] at h1
 exact h1
def UJ (s:ByteArray):Prop:=s.size=2/\(97<=YM s 0/\YM s 0<=104)/\(49<=YM s 1/\YM s 1<=56)
instance (s:ByteArray):Decidable (UJ s):=by unfold UJ; infer_instance
def QE (s:ByteArray):Int:=if UJ s then (YM s 1 - 49)*8+(YM s 0 - 97) else 0
theorem Zc2 {a:UInt8} {n:Nat} (h:a.toNat=n):UInt8.ofNat n=a:=by
 subst h
 exact UInt8.ofNat_toNat
theorem jt (a b:Int) (i:Nat) (ha:0<=a/\a < 256) (hb:0<=b/\b < 256):-9223372036854775808<=ovA (fun _=>0) 0 2 (ov (ov (fun _=>0) 0 (Xg a)) 1 (Xj b)) i/\ovA (fun _=>0) 0 2 (ov (ov (fun _=>0) 0 (Xg a)) 1 (Xj b)) i<=9223372036854775807:=by
 rw [Dj]
 have h1:-1<=Xg a/\Xg a < 256:=by unfold Xg; split <;> omega
 have h2:-1<=Xj b/\Xj b < 256:=by unfold Xj; split <;> omega
 dsimp only
 split
 ·omega
 split <;> omega
theorem jF {s:ByteArray} (h:¬ UJ s):(V.tup [.s (.int .i64 0),.s (.bool false)])=.tup [.s (.int .i64 (QE s)),.s (.bool (decide (UJ s)))]:=by
 rw [Zci h,QE,Zcz h]
theorem gt {s:ByteArray} {x:Int} (h:UJ s) (hx:x=QE s):(V.tup [.s (.int .i64 x),.s (.bool true)])=.tup [.s (.int .i64 (QE s)),.s (.bool (decide (UJ s)))]:=by
 rw [Zcl h,hx]
theorem Za9 {s:ByteArray} (hs:(s.size:Int)=2) (h:0<=Xg (YM s 0)/\Xg (YM s 0) < 8/\0<=Xj (YM s 1)/\Xj (YM s 1) < 8):(V.tup [.s (.int .i64 (atM (Xg (YM s 0)) (Xj (YM s 1)))),.s (.bool true)])=.tup [.s (.int .i64 (QE s)),.s (.bool (decide (UJ s)))]:=by
 unfold Xg Xj at h
 by_cases a:97<=YM s 0/\YM s 0<=104
 ·by_cases b:49<=YM s 1/\YM s 1<=56
  ·have hn:UJ s:=⟨by omega,a,b⟩
   refine gt hn ?_
   unfold Xg Xj atM QE
   rw [ZcA a,ZcA b,ZcA hn,ZcA (by omega)]
  rw [Zcz b] at h; omega
 rw [Zcz a] at h; omega
theorem sS (s:ByteArray):WR AM 109 [.s (.str s)] [] (fun v _ _=>v=.tup [.s (.int .i64 (QE s)),.s (.bool (decide (UJ s)))]):=by
 refine YL (a:=a109) rfl rfl (YI _) (ZQ rfl) (m:=0) rfl (Ze (Yq rfl (Yq rfl (Yc (Ye (Ze (Yq (v:=.s _) rfl (Xe rfl (Zr rfl (Yc (Yj rfl (fun h1=>?_) (fun h1=>?_)))))))))))) <;> simp only [NM] at h1
 ·refine Ze (Yq rfl (Yq rfl (Yc (Yi (⟨_,YH (v:=.s (.int _ _)) rfl (ZK rfl),?_⟩)))))
  exact jF (fun q=>by have:=q.1; omega)
 refine Yh (Ye (Yg (Yq (v:=.s _) rfl (XP rfl rfl (by omega) (Yu rfl (vp (XU s 0)) rfl rfl rfl (Yq (v:=.s _) rfl (XP rfl rfl (by omega) (Yu rfl (qm (XU s 1)) rfl rfl rfl (YB rfl (.one rfl (.one rfl .nil)) (Yy (Yz rfl rfl rfl rfl .here (Yc (Ye (Ze (Yo rfl rfl ZM (Yt rfl (show RF AM 134 _ (.s (.bool (decide (0<=Xg (YM s 0)/\Xg (YM s 0) < 8/\0<=Xj (YM s 1)/\Xj (YM s 1) < 8)))) from YP (y4 (ovA (fun _=>0) 0 2 (ov (ov (fun _=>0) 0 (Xg (YM s 0))) 1 (Xj (YM s 1)))) (jt _ _ 0 (XU s 0) (XU s 1)) (jt _ _ 1 (XU s 0) (XU s 1)))) rfl rfl rfl (Yv (r:=.bool _) rfl rfl (Yc (Yj rfl (fun h2=>?_) (fun h2=>?_)))))))))))))))))))) <;> simp only [NM] at h2
 ·refine Ze (Yq rfl (Yq rfl (Yc (Yi (⟨_,YH (v:=.s (.int _ _)) rfl (ZK rfl),?_⟩)))))
  exact jF (fun q=>by obtain ⟨q1,q2,q3⟩:=q; have e1:Xg (YM s 0)=YM s 0 - 97:=ZcA q2; have e2:Xj (YM s 1)=YM s 1 - 49:=ZcA q3; omega)
 refine Yh (Ze (Yo rfl rfl ZM (Yt rfl (show RF AM 112 _ (.s (.int .i64 (atM (Xg (YM s 0)) (Xj (YM s 1))))) from YP (Jv (ovA (fun _=>0) 0 2 (ov (ov (fun _=>0) 0 (Xg (YM s 0))) 1 (Xj (YM s 1)))) (jt _ _ 0 (XU s 0) (XU s 1)) (jt _ _ 1 (XU s 0) (XU s 1)))) rfl rfl rfl (Zj rfl (Yq rfl (Yc (Yi (⟨_,YH (v:=.s (.int _ _)) rfl (ZK rfl),?_⟩))))))))
 exact Za9 (by omega) (by assumption)
theorem E4 (s:ByteArray):RF AM 109 [.s (.str s)] (.tup [.s (.int .i64 (QE s)),.s (.bool (decide (UJ s)))]):=YP (sS s)
def WS (c:Int):Int:=if c=110 then 2 else if c=98 then 3 else if c=114 then 4 else if c=113 then 5 else 0
def sqN (s:ByteArray) (p:Nat):Int:=Xj (YM s (p+1))*8+Xg (YM s p)
def sqR (s:ByteArray) (no:Int) (p:Nat):Int × Bool × Nat :=
 if p < s.size/\0<=Xg (YM s p) then
  if p+1 < s.size/\0<=Xj (YM s (p+1))/\sqN s p≠no then (sqN s p,true,p+2) else (0,false,p+1)
 else (0,false,p)
theorem JU {s:ByteArray} {no:Int} {p:Nat} (h:¬ (p < s.size/\0<=Xg (YM s p))):sqR s no p=(0,false,p):=Zcz h
theorem Ka {s:ByteArray} {no:Int} {p:Nat} (h:p < s.size/\0<=Xg (YM s p)) (h2:¬ (p+1 < s.size/\0<=Xj (YM s (p+1))/\sqN s p≠no)):sqR s no p=(0,false,p+1):=by
 unfold sqR; rw [ZcA h,Zcz h2]
theorem Kg {s:ByteArray} {no:Int} {p:Nat} (h:p < s.size/\0<=Xg (YM s p)) (h2:p+1 < s.size/\0<=Xj (YM s (p+1))/\sqN s p≠no):sqR s no p=(sqN s p,true,p+2):=by
 unfold sqR; rw [ZcA h,ZcA h2]
def mvR (s:ByteArray) (p:Nat):Mv × Bool × Nat :=
 let a:=sqR s (-1) p
 if a.2.1=true then
  let t:=sqR s a.1 a.2.2
  if t.2.1=true then
   if t.2.2 < s.size/\WS (YM s t.2.2)≠0 then ((a.1,t.1,WS (YM s t.2.2)),true,t.2.2+1) else ((a.1,t.1,0),true,t.2.2)
  else ((a.1,0,0),false,t.2.2)
 else ((0,0,0),false,a.2.2)
theorem KL {s:ByteArray} {p q:Nat} {x:Int} (h:sqR s (-1) p=(x,false,q)):mvR s p=((0,0,0),false,q):=by
 unfold mvR
 simp only [h,Zb1,if_false]
theorem Kj {s:ByteArray} {p q q':Nat} {x y:Int} (h:sqR s (-1) p=(x,true,q)) (h2:sqR s x q=(y,false,q')):mvR s p=((x,0,0),false,q'):=by
 unfold mvR
 simp only [h,h2,Zb1,if_false,if_true]
theorem Kk {s:ByteArray} {p q q':Nat} {x y:Int} (h:sqR s (-1) p=(x,true,q)) (h2:sqR s x q=(y,true,q')) (h3:¬ (q' < s.size/\WS (YM s q')≠0)):mvR s p=((x,y,0),true,q'):=by
 unfold mvR
 simp only [h,h2,if_true]
 rw [Zcz h3]
theorem Rm {s:ByteArray} {p q q':Nat} {x y:Int} (h:sqR s (-1) p=(x,true,q)) (h2:sqR s x q=(y,true,q')) (h3:q' < s.size/\WS (YM s q')≠0):mvR s p=((x,y,WS (YM s q')),true,q'+1):=by
 unfold mvR
 simp only [h,h2,if_true]
 rw [ZcA h3]
def yS (l:List Mv):List Mv × Int × Int:=if 8192 < l.length then ([],0,3) else (l,0,0)
def US (s:ByteArray):Nat->Nat->List Mv->List Mv × Int × Int
 | 0,_,_=>([],0,0)
 | k+1,p,l =>
  if (mvR s p).2.1=true then
   if (mvR s p).2.2=s.size then yS (l++[(mvR s p).1])
   else if YM s (mvR s p).2.2=32 then US s k ((mvR s p).2.2+1) (l++[(mvR s p).1])
   else ([],((mvR s p).2.2:Int),13)
  else ([],((mvR s p).2.2:Int),13)
def Wi (s:ByteArray):List Mv × Int × Int:=if 65536 < s.size then ([],0,3) else if s.size=0 then ([],0,0) else US s (s.size+1) 0 []
theorem JT {c:Int} (h:0<=Xg c):97<=c/\c<=104/\Xg c=c - 97:=by
 unfold Xg at h ⊢
 split at h
 ·rename_i q; rw [ZcA q]; exact ⟨q.1,q.2,rfl⟩
 omega
theorem JK {c:Int} (h:0<=Xj c):49<=c/\c<=56/\Xj c=c - 49:=by
 unfold Xj at h ⊢
 split at h
 ·rename_i q; rw [ZcA q]; exact ⟨q.1,q.2,rfl⟩
 omega
theorem Ub {s:ByteArray} {k p q:Nat} {m:Mv} {l:List Mv} (h:mvR s p=(m,false,q)):US s (k+1) p l=([],(q:Int),13):=by
 unfold US
 rw [h]
 simp only [Zb1,if_false]
theorem U7 {s:ByteArray} {k p q:Nat} {m:Mv} {l:List Mv} (h:mvR s p=(m,true,q)) (hq:q=s.size):US s (k+1) p l=yS (l++[m]):=by
 unfold US
 rw [h]
 simp only [if_true]
 rw [ZcA hq]
theorem Ra {s:ByteArray} {k p q:Nat} {m:Mv} {l:List Mv} (h:mvR s p=(m,true,q)) (hq:q≠s.size) (hb:YM s q≠32):US s (k+1) p l=([],(q:Int),13):=by
 unfold US
 rw [h]
 simp only [if_true]
 rw [Zcz hq,Zcz hb]
theorem parG_go {s:ByteArray} {k p q:Nat} {m:Mv} {l:List Mv} (h:mvR s p=(m,true,q)) (hq:q≠s.size) (hb:YM s q=32):US s (k+1) p l=US s k (q+1) (l++[m]):=by
 conv=>lhs; unfold US
 rw [h]
 simp only [if_true]
 rw [Zcz hq,ZcA hb]
theorem xv {s:ByteArray} {no:Int} {p:Nat} (h:p<=s.size):p<=(sqR s no p).2.2/\(sqR s no p).2.2<=s.size:=by
 unfold sqR
 split
 ·split
  ·simp only; omega
  simp only; omega
 simp only; omega
theorem ZcG {s:ByteArray} {p:Nat} (h:p<=s.size):p<=(mvR s p).2.2/\(mvR s p).2.2<=s.size:=by
 have h1:=xv (no:=-1) h
 rcases ha:sqR s (-1) p with ⟨x,b,q1⟩
 rw [ha] at h1
 cases b with
 | false=>rw [KL ha]; exact h1
 | true =>
  have h2:=xv (no:=x) h1.2
  simp only at h1 h2
  rcases ht:sqR s x q1 with ⟨y,b,q2⟩
  rw [ht] at h2
  simp only at h2
  cases b with
  | false=>rw [Kj ha ht]; simp only; omega
  | true =>
   by_cases hk:q2 < s.size/\WS (YM s q2)≠0
   ·rw [Rm ha ht hk]; simp only; omega
   rw [Kk ha ht hk]; simp only; omega
def RJ (c:Int):Int:=if c=110 then 0 else if c=98 then 1 else if c=114 then 2 else if c=113 then 3 else -1
theorem yM {c:Int} (h:0<=RJ c):WS c=2+RJ c/\WS c≠0/\RJ c<=3:=by
 unfold RJ at h ⊢
 unfold WS
 split
 ·exact ⟨rfl,by omega,by omega⟩
 split
 ·exact ⟨rfl,by omega,by omega⟩
 split
 ·exact ⟨rfl,by omega,by omega⟩
 split
 ·exact ⟨rfl,by omega,by omega⟩
 rename_i a b d e
 rw [Zcz a,Zcz b,Zcz d,Zcz e] at h; omega
theorem kidx_no {c:Int} (h:RJ c < 0):WS c=0:=by
 unfold RJ at h
 unfold WS
 split at h
 ·omega
 split at h
 ·omega
 split at h
 ·omega
 split at h
 ·omega
 rename_i a b d e
 rw [Zcz a,Zcz b,Zcz d,Zcz e]
theorem g9:∀ n:Fin 256,Lib.indexByte (⟨#[110,98,114,113]⟩:ByteArray).data.toList n.val.toUInt8=RJ (n.val:Int):=by decide +kernel
theorem Zbn {c:Int} (h:0<=c/\c < 256):RF AM 82 [.s (.str ⟨#[110,98,114,113]⟩),.s (.int .u8 c)] (.s (.int .i64 (RJ c))):=by
 have h1:=wq ⟨#[110,98,114,113]⟩ c
 have h2:=g9 ⟨c.toNat,by omega⟩
 simp only at h2
 rw [h2,show ((c.toNat:Nat):Int)=c by omega] at h1
 exact h1
theorem qI {s:ByteArray} {p i:Nat} (h:p+2<=s.size) (hi:i < 2):YM (s.extract p (p+2)) i=YM s (p+i):=by
 have hs:s.data.size=s.size:=rfl
 unfold YM
 rw [ByteArray.data_extract,ZbC,ZbC,Array.getElem?_extract,ZcA (by omega)]
theorem qJ {s:ByteArray} {p:Nat} (h:p+1 < s.size) (hf:0<=Xg (YM s p)) (hr:0<=Xj (YM s (p+1))) {a b:Int} (ha:a=p) (hb:b=p+2):QE (s.extract a.toNat b.toNat)=sqN s p:=by
 rw [show a.toNat=p by omega,show b.toNat=p+2 by omega]
 obtain ⟨f1,f2,f3⟩:=JT hf
 obtain ⟨r1,r2,r3⟩:=JK hr
 have e0:YM (s.extract p (p+2)) 0=YM s p:=qI (i:=0) (by omega) (by omega)
 have e1:=qI (s:=s) (p:=p) (i:=1) (by omega) (by omega)
 have hn:UJ (s.extract p (p+2)):=⟨by rw [ByteArray.size_extract]; omega,by omega,by omega⟩
 unfold QE sqN
 rw [ZcA hn,e0,e1,f3,r3]
theorem xx (s:ByteArray) (no:Int) (p:Nat) (hp:p<=s.size) (hs:s.size<=4611686018427387904):RB AM 81 [.ptr 0 0 2,.s (.int .i64 no)] [.sc .var 2 (lc [.str s,.int .i64 p])] (.tup [.s (.int .i64 (sqR s no p).1),.s (.bool (sqR s no p).2.1)]) [.sc .var 2 (lc [.str s,.int .i64 (sqR s no p).2.2])]:=by
 refine V4 (YL (a:=a81) rfl rfl (YI _) (ZQ rfl) (m:=1) rfl (Ze (Yq rfl (Yq rfl (Yc (Ye (Ze (Kh rfl rfl (.part (v:=.s _) (ys:=[_,_]) rfl rfl rfl rfl (.part (v:=.s _) (ys:=[_,_]) rfl rfl rfl rfl .nil)) (Yq rfl (Yc (Yk (YO (Ze (Yr (r:=.bool true) rfl rfl rfl (Yc (Ye (ZA rfl (Yh (Ye (Yk (Ze (Zj rfl (Tw (a:=.str _) rfl rfl rfl (by omega) rfl (Zj rfl (Yq (v:=.s _) rfl (Yc (Ye (Ye (Yg ?_)))))))))))))))))))))))))))))
 refine Zl rfl (YG rfl (Zz rfl (Yn (x:=.int _ _) rfl rfl ZM rfl (Zl rfl (YG rfl (Zy rfl (Yn (x:=.str _) rfl rfl ZM rfl (Xe rfl (Zr rfl (Zk rfl (Ys (t:=27) rfl (fun h27=>?_) (fun h27=>?_)))))))))))) <;> simp only [NM] at h27
 ·refine ZF rfl (ZE rfl (Zq rfl (Yc (ZA rfl (Ze (Yq rfl (Yq rfl (Yc (Yi (⟨_,YH (v:=.s (.int _ _)) rfl (ZK rfl),?_⟩))))))))))
  rw [JU (fun hh=>by omega)]
  exact ⟨rfl,ZM⟩
 refine Yb rfl (Yq (v:=.s _) rfl (Yb rfl (Zl rfl (Yb rfl (YG rfl (Yb rfl (Zy rfl (Yb rfl (Yn (x:=.str _) rfl rfl ZM rfl (Yb rfl (Zl rfl (Yb rfl (YG rfl (Yb rfl (Zz rfl (Yb rfl (Yn (x:=.int _ _) rfl rfl ZM rfl (Yb rfl (XP rfl rfl (by omega) (Yb rfl (Yt rfl (vp (XU s p)) rfl rfl rfl (Yb rfl (Zr rfl (Zq rfl (Yc (Yj rfl (fun h40=>?_) (fun h40=>?_))))))))))))))))))))))))))) <;> simp only [NM] at h40
 ·refine Ze (Yq rfl (Yq rfl (Yc (Yi (⟨_,YH (v:=.s (.int _ _)) rfl (ZK rfl),?_⟩)))))
  rw [JU (fun hh=>by omega)]
  exact ⟨rfl,ZM⟩
 refine Yh (Ye (Ye (Yg (Zl rfl (YG rfl (Zy rfl (Yn (x:=.str _) rfl rfl ZM rfl (Zl rfl (YG rfl (Zz rfl (Yn (x:=.int _ _) rfl rfl ZM rfl (Zj rfl (Zt rfl rfl (Zl rfl (YG rfl (Zz rfl (Yn (x:=.int _ _) rfl rfl ZM rfl (Zs rfl rfl (Da rfl rfl rfl (by omega) (Yt rfl (E4 _) rfl rfl rfl (Zo rfl (YD (v:=.s (.int _ _)) rfl rfl (YD (v:=.s (.bool _)) rfl rfl (Zj rfl (Zk rfl (Zf (Zj rfl (Yr (r:=.bool false) rfl rfl rfl (Zk rfl ?_)))))))))))))))))))))))))))))
 refine ZD rfl (ZC rfl (Zq rfl (Yc (ZB rfl (Yh (Yf (Zl rfl (YG rfl (Zz rfl (Yn (x:=.int _ _) rfl rfl ZM rfl (Zs rfl rfl (YG rfl (Zz rfl (Qu (v:=.s (.int _ _)) rfl rfl rfl rfl rfl (V8 (ys:=[_,_]) rfl rfl) .here (Yc (Yf (Zs rfl rfl (Zj rfl (Yc (YO (Ze (Yr (r:=.bool true) rfl rfl rfl (Yc (Ye (ZA rfl (Yh (Ye (Yk (Ze ?_)))))))))))))))))))))))))))))
 refine Zj rfl (Tw (a:=.str _) rfl rfl rfl (by omega) rfl (Zj rfl (Yq (v:=.s _) rfl (Yc (Ye (Ye (Yg (Zl rfl (YG rfl (Zz rfl (Yn (x:=.int _ _) rfl rfl ZM rfl (Zl rfl (YG rfl (Zy rfl (Yn (x:=.str _) rfl rfl ZM rfl (Xe rfl (Zr rfl (Zk rfl (Ys (t:=27) rfl (fun h27=>?_) (fun h27=>?_)))))))))))))))))))) <;> simp only [NM] at h27
 ·refine ZF rfl (ZE rfl (Zq rfl (Yc (ZA rfl (Ze (Yq rfl (Yq rfl (Yc (Yi (⟨_,YH (v:=.s (.int _ _)) rfl (ZK rfl),?_⟩))))))))))
  rw [Ka (p:=p) ⟨by omega,by omega⟩ (fun hh=>by omega)]
  exact ⟨rfl,ZM⟩
 refine Yb rfl (Yq (v:=.s _) rfl (Yb rfl (Zl rfl (Yb rfl (YG rfl (Yb rfl (Zy rfl (Yb rfl (Yn (x:=.str _) rfl rfl ZM rfl (Yb rfl (Zl rfl (Yb rfl (YG rfl (Yb rfl (Zz rfl (Yb rfl (Yn (x:=.int _ _) rfl rfl ZM rfl (Yb rfl (XP rfl rfl (by omega) (Yb rfl (Yt rfl (qm (XU s (p+1))) rfl rfl rfl (Yb rfl (Zr rfl (Zq rfl (Yc (Yj rfl (fun h40=>?_) (fun h40=>?_))))))))))))))))))))))))))) <;> simp only [NM] at h40
 ·refine Ze (Yq rfl (Yq rfl (Yc (Yi (⟨_,YH (v:=.s (.int _ _)) rfl (ZK rfl),?_⟩)))))
  rw [Ka (p:=p) ⟨by omega,by omega⟩ (fun hh=>by omega)]
  exact ⟨rfl,ZM⟩
 refine Yh (Ye (Ye (Yg (Zl rfl (YG rfl (Zy rfl (Yn (x:=.str _) rfl rfl ZM rfl (Zl rfl (YG rfl (Zz rfl (Yn (x:=.int _ _) rfl rfl ZM rfl (Zj rfl (Zt rfl rfl (Zl rfl (YG rfl (Zz rfl (Yn (x:=.int _ _) rfl rfl ZM rfl (Zs rfl rfl (Da rfl rfl rfl (by omega) (Yt rfl (E4 _) rfl rfl rfl (Zo rfl (YD (v:=.s (.int _ _)) rfl rfl (YD (v:=.s (.bool _)) rfl rfl (Zj rfl (Zk rfl (Zf (Zj rfl (Yr (r:=.bool true) rfl rfl rfl (Zk rfl ?_)))))))))))))))))))))))))))))
 refine Yb rfl ?_
 have hnm:=qJ (s:=s) (p:=p) (by omega) (by omega) (by omega) (a:=(p:Int)+1 - (0+1)) (b:=(p:Int)+1+1) (by omega) (by omega)
 refine Zj rfl (Yb rfl (Zj rfl (Yb rfl (Zr rfl (Zq rfl (Yc (Yj rfl (fun h67=>?_) (fun h67=>?_)))))))) <;> simp only [NM] at h67
 ·refine Ze (Yq rfl (Yq rfl (Yc (Yi (⟨_,YH (v:=.s (.int _ _)) rfl (ZK rfl),?_⟩)))))
  rw [Ka (p:=p) ⟨by omega,by omega⟩ (fun hh=>by omega)]
  exact ⟨rfl,ZM⟩
 refine Yh (Yf (Zl rfl (YG rfl (Zz rfl (Yn (x:=.int _ _) rfl rfl ZM rfl (Zs rfl rfl (YG rfl (Zz rfl (Qu (v:=.s (.int _ _)) rfl rfl rfl rfl rfl (V8 (ys:=[_,_]) rfl rfl) .here (Yc (Yf (Zs rfl rfl (Zj rfl (Yc (YO (Ze (Yr (r:=.bool false) rfl rfl rfl (Yc (Ye (ZB rfl (Y0 (Xb (Ye (Yg (Zl rfl (YG rfl (Zy rfl (Yn (x:=.str _) rfl rfl ZM rfl (Zl rfl ?_)))))))))))))))))))))))))))))
 refine YG rfl (Zz rfl (Yn (x:=.int _ _) rfl rfl ZM rfl (Zt rfl rfl (Zl rfl (YG rfl (Zz rfl (Yn (x:=.int _ _) rfl rfl ZM rfl (Da rfl rfl rfl (by omega) (Yt rfl (E4 _) rfl rfl rfl (Zo rfl (YD (v:=.s (.int _ _)) rfl rfl (YD (v:=.s (.bool _)) rfl rfl (Zj rfl (Zk rfl (Zf ?_)))))))))))))))
 have hnm:=qJ (s:=s) (p:=p) (by omega) (by omega) (by omega) (a:=(p:Int)+1+1 - 2) (b:=(p:Int)+1+1) (by omega) (by omega)
 refine Zj rfl (Zj rfl (Yq rfl (Yc (Yi (⟨_,YH (v:=.s (.int _ _)) rfl (ZK rfl),?_⟩)))))
 rw [Kg (p:=p) ⟨by omega,by omega⟩ ⟨by omega,by omega,by omega⟩,<- hnm]
 exact ⟨rfl,ZM⟩
theorem kN {s:ByteArray} {no x:Int} {p q:Nat} (h:sqR s no p=(x,false,q)):x=0:=by
 unfold sqR at h
 split at h
 ·split at h
  ·simp at h
  simp only [Zcn,true_and] at h; exact h.1.symm
 simp only [Zcn,true_and] at h; exact h.1.symm
theorem uZ {s:ByteArray} {no x:Int} {p q:Nat} {b:Bool} (h:sqR s no p=(x,b,q)):0<=x/\x < 64:=by
 unfold sqR at h
 split at h
 ·rename_i h1
  split at h
  ·rename_i h2
   simp only [Zcn] at h
   obtain ⟨rfl,_⟩:=h
   obtain ⟨d1,d2,d3⟩:=JT h1.2
   obtain ⟨e1,e2,e3⟩:=JK h2.2.1
   unfold sqN; omega
  simp only [Zcn] at h; omega
 simp only [Zcn] at h; omega
def mvF (m:Mv):Nat->Int:=fun i=>if i=0 then m.1 else if i=1 then m.2.1 else if i=2 then m.2.2 else 0
theorem D7 {X:Nat->Int} {m:Mv} (h0:X 0=m.1) (h1:X 1=m.2.1) (h2:X 2=m.2.2) (h3:∀ i,3<=i->X i=0):X=mvF m:=by
 funext i
 unfold mvF
 by_cases e0:i=0
 ·rw [ZcA e0,e0,h0]
 rw [Zcz e0]
 by_cases e1:i=1
 ·rw [ZcA e1,e1,h1]
 rw [Zcz e1]
 by_cases e2:i=2
 ·rw [ZcA e2,e2,h2]
 rw [Zcz e2]; exact h3 i (by omega)
theorem Zbf (s:ByteArray) (p:Nat) (hp:p<=s.size) (hs:s.size<=4611686018427387904):RB AM 44 [.ptr 0 0 2] [.sc .var 2 (lc [.str s,.int .i64 p])] (.tup [.agg 3 (ia (mvF (mvR s p).1)),.s (.bool (mvR s p).2.1)]) [.sc .var 2 (lc [.str s,.int .i64 (mvR s p).2.2])]:=by
 refine V4 (YL (a:=a44) rfl rfl (YI _) (ZQ rfl) (m:=1) rfl (Ze (Yy (Yq rfl (Yc (Ye (Ze ?_)))))))
 rcases hA:sqR s (-1) p with ⟨x,b,q⟩
 have h1:=xx s (-1) p hp hs
 rw [hA] at h1
 simp only at h1
 have hq:=xv (no:=(-1)) (s:=s) (p:=p) hp
 rw [hA] at hq
 simp only at hq
 have hx:=uZ hA
 refine Zl rfl (V7 rfl (h1) rfl rfl rfl (.there .here) (Zo rfl (YD (v:=.s (.int _ _)) rfl rfl (YD (v:=.s (.bool _)) rfl rfl (Zy rfl (YA rfl rfl rfl rfl .here (Zk rfl (Zf (Zk rfl (Yv (r:=.bool _) rfl rfl (Yc (Yj rfl (fun h12=>?_) (fun h12=>?_))))))))))))) <;> simp only [NM] at h12
 ·refine Ze (Yo rfl rfl ZM (Yz rfl rfl rfl rfl .here (Yq rfl (Yc (Yi (⟨_,XM rfl rfl ZM (ZK rfl),?_⟩))))))
  subst h12
  obtain rfl:=kN hA
  rw [KL hA]
  exact ⟨congrArg (fun X=>V.tup [.agg 3 (ia X),.s (.bool false)]) (D7 rfl rfl rfl (fun i hi=>by simp only [Wb (show i < 0\/0+3<=i by omega),XF (show i≠0 by omega),XF (show i≠1 by omega),XF (show i≠2 by omega)])),ZN⟩
 refine Yh (Ye (Ze ?_))
 subst h12
 rcases hB:sqR s x q with ⟨y,b2,q2⟩
 have h2:=xx s x q hq.2 hs
 rw [hB] at h2
 simp only at h2
 have hq2:=xv (no:=x) (s:=s) (p:=q) hq.2
 rw [hB] at hq2
 simp only at hq2
 have hy:=uZ hB
 refine Zl rfl (Zy rfl (Ym (x:=x) rfl rfl ZM (rfl) (V7 rfl (h2) rfl rfl rfl (.there .here) (Zo rfl (YD (v:=.s (.int _ _)) rfl rfl (YD (v:=.s (.bool _)) rfl rfl (Zz rfl (YA rfl rfl rfl rfl .here (Zk rfl (Zf (Zk rfl (Yv (r:=.bool _) rfl rfl (Yc (Yj rfl (fun h23=>?_) (fun h23=>?_))))))))))))))) <;> simp only [NM] at h23
 ·refine Ze (Yo rfl rfl ZM (Yz rfl rfl rfl rfl .here (Yq rfl (Yc (Yi (⟨_,XM rfl rfl ZM (ZK rfl),?_⟩))))))
  subst h23
  obtain rfl:=kN hB
  rw [Kj hA hB]
  exact ⟨congrArg (fun X=>V.tup [.agg 3 (ia X),.s (.bool false)]) (D7 rfl rfl rfl (fun i hi=>by simp only [Wb (show i < 0\/0+3<=i by omega),XF (show i≠0 by omega),XF (show i≠1 by omega),XF (show i≠2 by omega)])),ZN⟩
 refine Yh (Ye (Ye (Yg ?_)))
 subst h23
 refine Zl rfl (YG rfl (Zz rfl (Yn (x:=.int _ _) rfl rfl ZN rfl (Zl rfl (YG rfl (Zy rfl (Yn (x:=.str _) rfl rfl ZN rfl (Xe rfl (Zr rfl (Yc (Yj rfl (fun h34=>?_) (fun h34=>?_)))))))))))) <;> simp only [NM] at h34
 ·refine Ye (Yg (Zl rfl (YG rfl (Zy rfl (Yn (x:=.str _) rfl rfl ZN rfl (Zl rfl (YG rfl (Zz rfl (Yn (x:=.int _ _) rfl rfl ZN rfl (XP rfl rfl (by omega) (Yt rfl (Zbn (XU s q2)) rfl rfl rfl (Zj rfl (Zf (Zj rfl (Zr rfl (Yc (Yj rfl (fun h46=>?_) (fun h46=>?_)))))))))))))))))) <;> simp only [NM] at h46
  ·refine Ze (Zj rfl ?_)
   obtain ⟨hk1,hk2,hk3⟩:=yM (c:=YM s q2) (by omega)
   refine Zs rfl rfl (Yd (o':=2) rfl rfl rfl (YA rfl rfl rfl rfl .here (Yc (Yf (Zl rfl (YG rfl (Zz rfl (Yn (x:=.int _ _) rfl rfl ZN rfl (Zs rfl rfl (YG rfl (Zz rfl (Qu (v:=.s (.int _ _)) rfl rfl rfl rfl rfl (V8 (ys:=[_,_]) rfl rfl) (.there .here) (Zf (Yo rfl rfl ZM (Yz rfl rfl rfl rfl .here (Yq rfl (Yc (Yi (⟨_,XM rfl rfl ZM (ZK rfl),?_⟩)))))))))))))))))))
   rw [Rm hA hB ⟨by omega,hk2⟩,hk1]
   exact ⟨congrArg (fun X=>V.tup [.agg 3 (ia X),.s (.bool true)]) (D7 rfl rfl rfl (fun i hi=>by simp only [Wb (show i < 0\/0+3<=i by omega),XF (show i≠0 by omega),XF (show i≠1 by omega),XF (show i≠2 by omega)])),ZN⟩
  refine Yh (Ze (Yo rfl rfl ZM (Yz rfl rfl rfl rfl .here (Yq rfl (Yc (Yi (⟨_,XM rfl rfl ZM (ZK rfl),?_⟩)))))))
  rw [Kk hA hB fun hh=>hh.2 (kidx_no (by omega))]
  exact ⟨congrArg (fun X=>V.tup [.agg 3 (ia X),.s (.bool true)]) (D7 rfl rfl rfl (fun i hi=>by simp only [Wb (show i < 0\/0+3<=i by omega),XF (show i≠0 by omega),XF (show i≠1 by omega),XF (show i≠2 by omega)])),ZN⟩
 refine Yh (Ze (Yo rfl rfl ZM (Yz rfl rfl rfl rfl .here (Yq rfl (Yc (Yi (⟨_,XM rfl rfl ZM (ZK rfl),?_⟩)))))))
 rw [Kk hA hB fun hh=>by omega]
 exact ⟨congrArg (fun X=>V.tup [.agg 3 (ia X),.s (.bool true)]) (D7 rfl rfl rfl (fun i hi=>by simp only [Wb (show i < 0\/0+3<=i by omega),XF (show i≠0 by omega),XF (show i≠1 by omega),XF (show i≠2 by omega)])),ZN⟩
theorem jK {a b:Int} (h:b < a):Wc .gtr (.int .i64 a) (.int .i64 b)=some (.bool true):=by
 show (if IntKind.i64=IntKind.i64 then some (S.bool (decide (b < a))) else none)=_
 rw [ZcA rfl,Zcl h]
theorem wo {a b:Int} (h:a<=b):Wc .gtr (.int .i64 a) (.int .i64 b)=some (.bool false):=by
 show (if IntKind.i64=IntKind.i64 then some (S.bool (decide (b < a))) else none)=_
 rw [ZcA rfl,Zci (by omega)]
theorem oE:Wc .neq (.str ⟨#[]⟩) (.str ⟨#[]⟩)=some (.bool false):=by
 show some (S.bool (!((⟨#[]⟩:ByteArray).toList == (⟨#[]⟩:ByteArray).toList)))=_
 rw [beq_self_eq_true]; rfl
theorem Zbc {s:ByteArray} (h:s.size≠0):Wc .neq (.str s) (.str ⟨#[]⟩)=some (.bool true):=by
 show some (S.bool (!(s.toList == (⟨#[]⟩:ByteArray).toList)))=_
 have:(s.toList == (⟨#[]⟩:ByteArray).toList)=false:=beq_eq_false_iff_ne.2 fun e=>h (by
  rw [ByteArray.toList_eq,ByteArray.toList_eq] at e
  have:=congrArg List.length e
  rw [Zb0] at this
  exact this)
 rw [this]; rfl
theorem ze {l:List Mv} (h:8192 < l.length):yS l=([],0,3):=ZcA h
theorem wU {l:List Mv} (h:l.length<=8192):yS l=(l,0,0):=Zcz (by omega)
theorem UA (l:List Mv) (m:Mv):YV l++[m.1,m.2.1,m.2.2]=YV (l++[m]):=(RU l [m]).symm
theorem qe {s:ByteArray} (h:65536 < s.size):Wi s=([],0,3):=ZcA h
theorem w7 {s:ByteArray} (h:s.size=0):Wi s=([],0,0):=by unfold Wi; rw [Zcz (by omega),ZcA h]
theorem qw {s:ByteArray} (h:s.size≠0) (h2:s.size<=65536):Wi s=US s (s.size+1) 0 []:=by unfold Wi; rw [Zcz (by omega),Zcz h]
theorem ZaR {s:ByteArray} {p q:Nat} {m:Mv} (h:mvR s p=(m,true,q)):p+4<=q:=by
 have two:∀ {no x:Int} {p q:Nat},sqR s no p=(x,true,q)->q=p+2:=fun {no x p q} h=>by
  unfold sqR at h
  split at h
  ·split at h
   ·simp only [Zcn,true_and] at h; exact h.2.symm
   simp at h
  simp at h
 rcases ha:sqR s (-1) p with ⟨x,b,q1⟩
 cases b with
 | false=>rw [KL ha] at h; simp at h
 | true =>
  rcases ht:sqR s x q1 with ⟨y,b,q2⟩
  have e1:=two ha
  cases b with
  | false=>rw [Kj ha ht] at h; simp at h
  | true =>
   have e2:=two ht
   by_cases hk:q2 < s.size/\WS (YM s q2)≠0
   ·rw [Rm ha ht hk] at h; simp only [Zcn,true_and] at h; omega
   rw [Kk ha ht hk] at h; simp only [Zcn,true_and] at h; omega
theorem s7 (s:ByteArray) (h:65536 < s.size):RtT AM 17 3 [.s (.str s)] (YV (Wi s).1) (.int .i64 (Wi s).2.1) (.int .i64 (Wi s).2.2):=by
 rw [qe h]
 refine D3 (YL (a:=a17) rfl rfl (YI _) (ZQ rfl) (m:=0) rfl (Ze (Yq rfl (Yq rfl (Yq rfl (Yc (Ye (Ze (Yq (v:=.s _) rfl (Xe rfl (Yr rfl rfl (jK (by omega)) (Yc (ZA rfl (Ze (Yq rfl (Yq rfl (Yq rfl (Yc (Yi (⟨_,YH (v:=.snil) rfl (YH (v:=.s (.int _ _)) rfl (ZL rfl)),?_⟩))))))))))))))))))))
 exact ⟨.snil,[],rfl,.nil rfl,fun _ h=>by cases h⟩
theorem ss (s:ByteArray) (h:s=⟨#[]⟩):RtT AM 17 3 [.s (.str s)] (YV (Wi s).1) (.int .i64 (Wi s).2.1) (.int .i64 (Wi s).2.2):=by
 subst h
 rw [w7 rfl]
 refine D3 ?_
 have h:(⟨#[]⟩:ByteArray).size=0:=rfl
 refine YL (a:=a17) rfl rfl (YI _) (ZQ rfl) (m:=0) rfl (Ze (Yq rfl (Yq rfl (Yq rfl (Yc (Ye (Ze (Yq (v:=.s _) rfl (Xe rfl (Yr rfl rfl (wo (by rw [h]; decide)) (Yc (ZB rfl (Yh (Ze (Yq (v:=.s _) rfl (Kh rfl rfl (.part (v:=.s _) (ys:=[_,_]) rfl rfl rfl rfl (.part (v:=.s (.int _ _)) (ys:=[_,_]) rfl rfl rfl rfl .nil)) (YC rfl (Zl rfl (Yc (Ye (Yk (YO (Ye (Ze (Yq (v:=.s _) rfl (Yr rfl rfl oE (Yc (ZB rfl (Y0 ?_)))))))))))))))))))))))))))))
 refine Xb (Ye (Ze (Yq (v:=.snil) rfl (tI rfl (Yr (r:=.bool false) rfl rfl rfl (Yc (ZB rfl (Yh (Ze (Yq (v:=.snil) rfl (Yq (v:=.snil) rfl (Yq rfl (Yq rfl (Yc (Yi (⟨_,YH (v:=.snil) rfl (YH (v:=.s (.int _ _)) rfl (ZL rfl)),?_⟩))))))))))))))))
 exact ⟨.snil,[],rfl,.nil rfl,fun _ h=>by cases h⟩
theorem tV (s:ByteArray) (h0:s.size≠0) (h1:s.size<=65536):RtT AM 17 3 [.s (.str s)] (YV (Wi s).1) (.int .i64 (Wi s).2.1) (.int .i64 (Wi s).2.2):=by
 refine D3 (YL (a:=a17) rfl rfl (YI _) (ZQ rfl) (m:=0) rfl (Ze (Yq rfl (Yq rfl (Yq rfl (Yc (Ye (Ze (Yq (v:=.s _) rfl (Xe rfl (Yr rfl rfl (wo (by omega)) (Yc (ZB rfl (Yh (Ze (Yq (v:=.s _) rfl (Kh rfl rfl (.part (v:=.s _) (ys:=[_,_]) rfl rfl rfl rfl (.part (v:=.s (.int _ _)) (ys:=[_,_]) rfl rfl rfl rfl .nil)) (YC rfl (Zl rfl (Yc (Ye (Yk (Xo (.refl _) (Xu (fun m f _ L=>∃ (k p:Nat) (l:List Mv) (vL:V) (ownL:HA),(m=k)/\(s.size < p+k)/\(p<=s.size)/\(US s k p l=Wi s)/\(5*l.length<=p)/\(Rw 3 (YV l) vL ownL)/\(f 0=.s (.str s))/\(f 2=vL)/\(f 5=.ptr 0 0 2)/\(L=(ownL++[(0,.sc .var 2 (lc [.str s,.int .i64 p]))]))) (fun m f nb L hI=>?_) (s.size+1) (⟨s.size+1,0,[],.snil,[],rfl,by omega,by omega,(qw h0 h1).symm,Zct _,Rw.nil rfl,rfl,rfl,rfl,rfl⟩)))))))))))))))))))))))))
 obtain ⟨k,p,l,vL,ownL,hk0,hk,hp,heq,hl,hrL,k0,k2,k5,rfl⟩:=hI
 refine Za 0 k0 (Za 2 k2 (Za 5 k5 (Ye (Ze (Yq (v:=.s _) rfl (Yr rfl rfl (Zbc h0) (Yc (ZA rfl (Yh (Yk (Ze ?_)))))))))))
 obtain ⟨k,rfl⟩:∃ j,k=j+1:=⟨k - 1,by omega⟩
 rcases hm:mvR s p with ⟨m,b,q⟩
 have hmv:=Zbf s p hp (by omega)
 rw [hm] at hmv
 simp only at hmv
 have hq:=ZcG hp
 rw [hm] at hq
 simp only at hq
 refine Zl rfl (V7 rfl (hmv) rfl rfl rfl (At.appR _ .here) (Zo rfl (YD (v:=.agg _ _) rfl rfl (YD (v:=.s (.bool _)) rfl rfl (Yy (Yz rfl rfl rfl rfl .here (Zk rfl (Yc (Ye (Ze (Zk rfl (Yv (r:=.bool _) rfl rfl (Yc (Yj rfl (fun h22=>?_) (fun h22=>?_))))))))))))))) <;> simp only [NM] at h22
 ·refine Ye (Yg (Zl rfl (YG rfl (Zz rfl (Yn (x:=.int _ _) rfl rfl (.tail _ (ZbM _ ZM)) rfl (Yq rfl (Zj rfl (Yq rfl (Yc (Yi (⟨_,YH (v:=.snil) rfl (YH (v:=.s (.int _ _)) rfl (ZL rfl)),?_⟩)))))))))))
  subst h22
  have e:=Ub (k:=k) (l:=l) hm
  rw [heq] at e
  rw [e]
  exact ⟨.snil,[],rfl,.nil rfl,fun _ h=>by cases h⟩
 refine Yh (Ze ?_)
 subst h22
 have hq4:=ZaR hm
 refine Yq (v:=vL) rfl (Yo rfl rfl ZM (Wp rfl (.agg rfl .nil) (XZ (c:=[m.1,m.2.1,m.2.2]) rfl hrL rfl ZM (.there (.there .here)) (by decide) (by decide) rfl ((fun i hi=>by match i,hi with | 0,_=>rfl | 1,_=>rfl | 2,_=>rfl)) (by rw [YQ]; omega) (fun v1 own1 n1 hr1=>?_))))
 rw [UA] at hr1
 refine Yq (v:=v1) rfl (Yc (Ye (Ze (Zl rfl (YG rfl (Zz rfl (Yn (x:=.int _ _) rfl rfl (ZbM _ ZO) rfl (Yq (v:=.s _) rfl (Xe rfl (Zr rfl (Yc (Yj rfl (fun h37=>?_) (fun h37=>?_))))))))))))) <;> simp only [NM] at h37
 ·refine Y0 (rP rfl (Xb (Ye (Ze (Yq (v:=v1) rfl (Xk rfl hr1.rx (by decide) (YQ _) (Zr rfl (Yc (Yj rfl (fun h58=>?_) (fun h58=>?_)))))))))) <;> simp only [NM] at h58
  ·refine Ze (Yq rfl (Yq rfl (Yq rfl (Yc (Yi (⟨_,YH (v:=.snil) rfl (YH (v:=.s (.int _ _)) rfl (ZL rfl)),?_⟩))))))
   have e:=U7 (k:=k) (l:=l) hm (by omega)
   rw [heq] at e
   rw [e]
   rw [ze (by omega)]
   exact ⟨.snil,[],rfl,.nil rfl,fun _ h=>by cases h⟩
  refine Yh (Ze (Yq (v:=v1) rfl (Yq (v:=v1) rfl (Yq rfl (Yq rfl (Yc (Yi (⟨_,YH (v:=v1) rfl (YH (v:=.s (.int _ _)) rfl (ZL rfl)),?_⟩))))))))
  have e:=U7 (k:=k) (l:=l) hm (by omega)
  rw [heq] at e
  rw [e]
  rw [wU (by omega)]
  exact ⟨_,_,rfl,hr1,(fun _ h=>(ZbV _ h))⟩
 refine Yh (Ye (Ze (Yq (v:=.s _) rfl (Zl rfl (YG rfl (Zz rfl (Yn (x:=.int _ _) rfl rfl (ZbM _ ZO) rfl (XP rfl rfl (by omega) (Zr rfl (Yc (Yj rfl (fun h44=>?_) (fun h44=>?_)))))))))))) <;> simp only [NM] at h44
 ·refine Ye (Yg (Zl rfl (YG rfl (Zz rfl (Yn (x:=.int _ _) rfl rfl (ZbM _ ZO) rfl (Yq rfl (Zj rfl (Yq rfl (Yc (Yi (⟨_,YH (v:=.snil) rfl (YH (v:=.s (.int _ _)) rfl (ZL rfl)),?_⟩)))))))))))
  have e:=Ra (k:=k) (l:=l) hm (by omega) (fun hb=>h44 hb)
  rw [heq] at e
  rw [e]
  exact ⟨.snil,[],rfl,.nil rfl,fun _ h=>by cases h⟩
 refine Yh (Yf (Zl rfl (YG rfl (Zz rfl (Yn (x:=.int _ _) rfl rfl (ZbM _ ZO) rfl (Zs rfl rfl (YG rfl (Zz rfl (Qu (v:=.s (.int _ _)) rfl rfl rfl rfl rfl (V8 (ys:=[_,_]) rfl rfl) (At.appR _ (.there (.there .here))) (Yc ?_))))))))))
 rw [parG_go hm (by omega) h44] at heq
 refine ⟨k,_,by omega,(ZbY (.refl _) (.cons _ (.cons _ (.refl _)))),k,q+1,l++[m],_,_,rfl,by omega,by omega,heq,by rw [Zb2]; simp only [Zcd,List.length_nil]; omega,hr1,rfl,rfl,rfl,rfl⟩
theorem ox (s:ByteArray):RtT AM 17 3 [.s (.str s)] (YV (Wi s).1) (.int .i64 (Wi s).2.1) (.int .i64 (Wi s).2.2):=by
 by_cases h:65536 < s.size
 ·exact s7 s h
 by_cases h0:s.size=0
 ·exact ss s (ByteArray.ext (Array.eq_empty_of_size_eq_zero h0))
 exact tV s h0 (by omega)
def inB (c:Int):List UInt8->Int
 | []=>-1
 | y::l=>if (y.toNat:Int)=c then 0 else if inB c l=-1 then -1 else inB c l+1
def StP (s:ByteArray) (k p:Nat) (l:List Mv):Prop:=((US s k p l=Wi s/\5*l.length<=p)/\(p < s.size\/(0 < l.length/\1<=p/\YM s (p - 1)=32)))\/(p=s.size/\yS l=Wi s/\(l.length=0\/(1<=p/\YM s (p - 1)≠32)))
set_option maxRecDepth 100000
theorem eq33 {P Q:Nat->Int} {a b:Mv} (h0:P 0=a.1) (h1:P 1=a.2.1) (h2:P 2=a.2.2) (g0:Q 0=b.1) (g1:Q 1=b.2.1) (g2:Q 2=b.2.2):eqI 3 P Q=decide (a=b):=by
 rw [eq3 (P:=P) g0 g1 g2,h0,h1,h2]
theorem vM {a b:List Mv} {i:Nat} (hn:∀ j:Nat,j < i->a.getD j (0,0,0)=b.getD j (0,0,0)) (ha:i<=a.length) (hb:i<=b.length) (he:a.length<=i\/b.length<=i):((a.length:Int) == (b.length:Int))=decide (a=b):=by
 rw [Zce,Zcu,Zb7]
 constructor
 ·intro h
  refine List.ext_getElem (by omega) fun j h1 h2=>?_
  have:=hn j (by omega)
  rw [ZbD,ZbD,ZbH h1,ZbH h2] at this
  exact this
 rintro rfl; rfl
theorem same_rd (a b:List Mv) (ha:a.length<=1000000000000000) (hb:b.length<=1000000000000000):Rd2 AM 15 3 (YV a) (YV b) (.s (.bool (decide (a=b)))):=by
 refine Rd2_of fun v u Bs hc=>?_
 refine YL (a:=a15) rfl rfl (YI _) (ZQ rfl) rfl ?_ (by first | rfl | (cases hc <;> rfl))
 obtain ⟨own0,own1,hown,hr0,hr1⟩:=hc.rx
 rw [hown]
 refine Ze (Yq rfl (Yc (Ye (Ze (Yq rfl (Yc (Yk (Xo (ZbY (.refl _) (ZbY (.refl _) .slnil)) (Xu (fun m f _ L=>∃ (i:Nat),(i<=a.length)/\(i<=b.length)/\(m=a.length - i)/\(∀ j:Nat,j < i->a.getD j (0,0,0)=b.getD j (0,0,0))/\(f 0=v)/\(f 1=u)/\(f 5=.s (.int .i64 i))/\(L=(own0++(own1++[])))) (fun m f nb L hI=>?_) (a.length) (⟨0,by omega,by omega,by omega,fun j hj=>by omega,rfl,rfl,rfl,by rw [Zcf]⟩))))))))))
 obtain ⟨i,hi,hi2,hm,hn,k0,k1,k5,rfl⟩:=hI
 refine Za 0 k0 (Za 1 k1 (Za 5 k5 (Ye (Ze (Zj rfl (Yq (v:=v) rfl (Xk rfl hr0 (by decide) (YQ a) (Zr rfl (Zk rfl (Ys (t:=10) rfl (fun h10=>?_) (fun h10=>?_))))))))))) <;> simp only [NM] at h10
 ·refine Yb rfl (Zj rfl (Yb rfl (Yq (v:=u) rfl (Yb rfl (Xk rfl hr1 (by decide) (YQ b) (Yb rfl (Zr rfl (Zq rfl (Yc (Yj rfl (fun h15=>?_) (fun h15=>?_))))))))))) <;> simp only [NM] at h15
  ·refine Yh (Ye (Yk (Ye (Yg (Yq (v:=v) rfl (Zj rfl ?_))))))
   obtain ⟨b0,q0,md0,c0,F0,rfl,rfl,hF0⟩:=hr0.at (by decide) (YQ a) (by omega)
   refine Zx rfl rfl (Yp rfl rfl ZM (Yq (v:=u) rfl (Zj rfl ?_)))
   obtain ⟨b1,q1,md1,c1,F1,rfl,rfl,hF1⟩:=hr1.at (by decide) (YQ b) (by omega)
   refine Zx rfl rfl (Yp rfl rfl ZN ?_)
   obtain ⟨hx0,hx1,hx2⟩:=UE hF0 (i:=i) (by omega)
   obtain ⟨hy0,hy1,hy2⟩:=UE hF1 (i:=i) (by omega)
   have heq:=congrArg (fun q=>!q) (eq33 (P:=dp F0 (0+(i:Int).toNat*3)) (Q:=dp F1 (0+(i:Int).toNat*3)) hx0 hx1 hx2 hy0 hy1 hy2)
   refine Yx (b:=!decide ((a.getD i (0,0,0))=(b.getD i (0,0,0)))) rfl rfl heq (Yc (Yj rfl (fun h26=>?_) (fun h26=>?_))) <;> simp only [NM] at h26
   ·refine Ze (Yq rfl (Zg rfl ?_))
    exact ⟨congrArg (fun q=>V.s (S.bool q)) (Zci fun e=>(show ¬ (a.getD i (0,0,0))=(b.getD i (0,0,0)) by simpa using h26) (by rw [e])).symm,fun p hp=>hp⟩
   refine Yh (Yf (Zj rfl (Zs rfl rfl (Zj rfl (Yc (⟨a.length - (i+1),_,by omega,(.refl _),i+1,by omega,by omega,rfl,?_,rfl,rfl,rfl,rfl⟩))))))
   intro j hj
   by_cases e:j=i
   ·subst e; simpa using h26
   exact hn j (by omega)
  refine Y0 (Xb (Ze (Yq (v:=v) rfl (Xk rfl hr0 (by decide) (YQ a) (Yq (v:=u) rfl (Xk rfl hr1 (by decide) (YQ b) (Zr rfl (Zk rfl (Zg rfl ?_)))))))))
  exact ⟨congrArg (fun q=>V.s (S.bool q)) (vM hn hi hi2 (by omega)),fun p hp=>hp⟩
 refine ZE rfl (Zq rfl (Yc (ZB rfl (Y0 (Xb (Ze (Yq (v:=v) rfl (Xk rfl hr0 (by decide) (YQ a) (Yq (v:=u) rfl (Xk rfl hr1 (by decide) (YQ b) (Zr rfl (Zk rfl (Zg rfl ?_)))))))))))))
 exact ⟨congrArg (fun q=>V.s (S.bool q)) (vM hn hi hi2 (by omega)),fun p hp=>hp⟩
theorem qO (a:List Mv) (ha:a.length<=1000000000000000):Rd2 AM 15 3 (YV a) (YV a) (.s (.bool true)):=by
 have:=same_rd a a ha ha
 rw [Zcl rfl] at this
 exact this
theorem ZcR (s:ByteArray) (p i:Nat):YM s (p+i)=(((bl s).drop p).getD i 0).toNat:=by
 unfold YM bl
 rw [ZbD,List.getElem?_drop,ZbS,ZbC]
theorem ZcC {s:ByteArray} {p:Nat} {u:UInt8} {r:List UInt8} (h:(bl s).drop p=u::r):p < s.size/\YM s p=u.toNat/\(bl s).drop (p+1)=r:=by
 refine ⟨?_,?_,?_⟩
 ·rw [ZdJ]
  rcases Zcr p (bl s).length with hp | hp
  ·exact hp
  rw [List.drop_eq_nil_of_le hp] at h; cases h
 ·have:=ZcR s p 0
  rw [h] at this; exact this
 rw [<- List.drop_drop,h]; rfl
theorem ZcI {s:ByteArray} {p:Nat} (h:p < s.size):∃ u,(bl s).drop p=u::(bl s).drop (p+1)/\YM s p=u.toNat:=by
 rw [ZdJ] at h
 have e:=List.drop_eq_getElem_cons h
 exact ⟨_,e,(ZcC e).2.1⟩
theorem Zde {s:ByteArray} {p:Nat} (h:(bl s).drop p=[]):s.size<=p:=by
 rw [ZdJ]; exact List.drop_eq_nil_iff.1 h
theorem Zda {b:Int} (h0:0<=b) (h1:b≠1) (h5:b<=5) (hb:b≠0):∃ u,bl (Qz b)=[u]/\WS u.toNat=b:=by
 have:b=2\/b=3\/b=4\/b=5:=by omega
 rcases this with rfl | rfl | rfl | rfl
 ·exact ⟨110,rfl,rfl⟩
 ·exact ⟨98,rfl,rfl⟩
 ·exact ⟨114,rfl,rfl⟩
 exact ⟨113,rfl,rfl⟩
theorem Zdd {u:UInt8} (h:WS u.toNat≠0):bl (Qz (WS u.toNat))=[u]/\WS u.toNat≠1/\0<=WS u.toNat/\WS u.toNat<=5:=by
 have key:∀ u:Fin 256,WS u.val≠0->bl (Qz (WS u.val))=[UInt8.ofNat u.val]/\WS u.val≠1/\0<=WS u.val/\WS u.val<=5:=by decide +kernel
 have:=key ⟨u.toNat,u.toNat_lt⟩ h
 rw [UInt8.ofNat_toNat] at this
 exact this
theorem Zc5 {s:ByteArray} {no x:Int} {p:Nat} {r:List UInt8} (hx:0<=x/\x < 64) (hn:x≠no) (h:(bl s).drop p=bl (YS x)++r):sqR s no p=(x,true,p+2)/\(bl s).drop (p+2)=r:=by
 rw [tj hx] at h
 obtain ⟨a1,a2,a3⟩:=ZcC h
 obtain ⟨b1,b2,b3⟩:=ZcC a3
 have c1:(UInt8.ofNat (97+(x % 8).toNat)).toNat=97+(x % 8).toNat:=by rw [UInt8.toNat_ofNat']; omega
 have c2:(UInt8.ofNat (49+(x / 8).toNat)).toNat=49+(x / 8).toNat:=by rw [UInt8.toNat_ofNat']; omega
 rw [c1] at a2
 rw [c2] at b2
 have f1:Xg (YM s p)=x % 8:=by unfold Xg; rw [ZcA (by omega)]; omega
 have f2:Xj (YM s (p+1))=x / 8:=by unfold Xj; rw [ZcA (by omega)]; omega
 have e:sqN s p=x:=by unfold sqN; omega
 exact ⟨by rw [Kg ⟨a1,by omega⟩ ⟨b1,by omega,by omega⟩,e],b3⟩
theorem Zc6 {s:ByteArray} {no x:Int} {p q:Nat} (h:sqR s no p=(x,true,q)):(0<=x/\x < 64)/\x≠no/\q=p+2/\q<=s.size/\(bl s).drop p=bl (YS x)++(bl s).drop q:=by
 unfold sqR at h
 split at h
 ·rename_i h1
  split at h
  ·rename_i h2
   simp only [Zcn,true_and] at h
   obtain ⟨rfl,rfl⟩:=h
   obtain ⟨d1,d2,d3⟩:=JT h1.2
   obtain ⟨e1,e2,e3⟩:=JK h2.2.1
   have hx:0<=sqN s p/\sqN s p < 64:=by unfold sqN; omega
   refine ⟨hx,h2.2.2,rfl,by omega,?_⟩
   obtain ⟨u,hu,hu2⟩:=ZcI h1.1
   obtain ⟨w,hw,hw2⟩:=ZcI h2.1
   rw [tj hx,hu,hw]
   have g1:UInt8.ofNat (97+(sqN s p % 8).toNat)=u:=Zc2 (by unfold sqN; omega)
   have g2:UInt8.ofNat (49+(sqN s p / 8).toNat)=w:=Zc2 (by unfold sqN; omega)
   rw [g1,g2]; rfl
  simp at h
 simp at h
theorem ZcM (m:Mv):bl (ZcB m.1 m.2.1 m.2.2)=bl (YS m.1)++(bl (YS m.2.1)++bl (Qz m.2.2)):=by
 unfold ZcB; rw [Rg,Rg,Zb5]
theorem low0:bl (Qz 0)=[]:=rfl
theorem Zc3 {s:ByteArray} {p:Nat} {m:Mv} {r:List UInt8} (hm:Txt m.1 m.2.1 m.2.2) (h:(bl s).drop p=bl (ZcB m.1 m.2.1 m.2.2)++r) (hr:∀ u w,r=u::w->WS u.toNat=0) :
  ∃ q,mvR s p=(m,true,q)/\(bl s).drop q=r:=by
 obtain ⟨ha,ht,hne,hb1,hb0,hb5⟩:=hm
 rw [ZcM,Zb5,Zb5] at h
 obtain ⟨e1,h⟩:=Zc5 (no:=-1) ha (by omega) h
 obtain ⟨e2,h⟩:=Zc5 (no:=m.1) ht hne.symm h
 by_cases hb:m.2.2=0
 ·rw [hb,low0,List.nil_append] at h
  refine ⟨_,?_,h⟩
  rw [Kk e1 e2 fun hh=>?_,<- hb]
  obtain ⟨u,hu,hu2⟩:=ZcI hh.1
  rw [h] at hu
  have:=hr u _ hu
  rw [<- hu2] at this
  exact hh.2 this
 obtain ⟨u,hu,hk⟩:=Zda hb0 hb1 hb5 hb
 rw [hu] at h
 obtain ⟨g1,g2,g3⟩:=ZcC h
 refine ⟨_,?_,g3⟩
 rw [<- g2] at hk
 rw [Rm e1 e2 ⟨g1,by rw [hk]; exact hb⟩,hk]
theorem ZcE {s:ByteArray} {p q:Nat} {m:Mv} (h:mvR s p=(m,true,q)):Txt m.1 m.2.1 m.2.2/\p+4<=q/\q<=s.size/\(bl s).drop p=bl (ZcB m.1 m.2.1 m.2.2)++(bl s).drop q:=by
 rcases ha:sqR s (-1) p with ⟨x,b,q1⟩
 cases b with
 | false=>rw [KL ha] at h; simp at h
 | true =>
  rcases ht:sqR s x q1 with ⟨y,b,q2⟩
  cases b with
  | false=>rw [Kj ha ht] at h; simp at h
  | true =>
   obtain ⟨hx,_,rfl,_,d1⟩:=Zc6 ha
   obtain ⟨hy,hne,rfl,hq,d2⟩:=Zc6 ht
   by_cases hk:p+2+2 < s.size/\WS (YM s (p+2+2))≠0
   ·rw [Rm ha ht hk] at h
    simp only [Zcn,true_and] at h
    obtain ⟨rfl,rfl⟩:=h
    obtain ⟨u,hu,hu2⟩:=ZcI hk.1
    obtain ⟨k1,k2,k3,k4⟩:=Zdd (u:=u) (by rw [<- hu2]; exact hk.2)
    rw [<- hu2] at k1 k2 k3 k4
    refine ⟨⟨hx,hy,hne.symm,k2,k3,k4⟩,by omega,by omega,?_⟩
    rw [ZcM]
    simp only
    rw [d1,d2,hu,k1]; simp
   rw [Kk ha ht hk] at h
   simp only [Zcn,true_and] at h
   obtain ⟨rfl,rfl⟩:=h
   refine ⟨⟨hx,hy,hne.symm,by simp,by simp,by simp⟩,by omega,hq,?_⟩
   rw [ZcM]
   simp only
   rw [d1,d2,low0]; simp
def ZcD:List Mv->List UInt8
 | []=>[]
 | [m]=>bl (ZcB m.1 m.2.1 m.2.2)
 | m::x::l=>bl (ZcB m.1 m.2.1 m.2.2)++32::ZcD (x::l)
theorem ZcJ {m:Mv} {l:List Mv} (h:l≠[]):ZcD (m::l)=bl (ZcB m.1 m.2.1 m.2.2)++32::ZcD l:=by
 cases l with
 | nil=>exact absurd rfl h
 | cons x l=>rfl
theorem ZcQ (m:Mv):∀ {l:List Mv},l≠[]->ZcD (l++[m])=ZcD l++32::bl (ZcB m.1 m.2.1 m.2.2)
 | [],h=>absurd rfl h
 | [x],_=>rfl
 | x::y::l,_=>by
  rw [show x::y::l++[m]=x::(y::l++[m]) from rfl,ZcJ (m:=x) (l:=y::l++[m]) (by simp),ZcQ m (l:=y::l) (by simp),ZcJ (m:=x) (l:=y::l) (by simp),Zb5,List.cons_append]
theorem Zc7 {l:List Mv} {i:Nat} (h:i < l.length):l.take (i+1)=l.take i++[l.getD i (0,0,0)]:=by
 rw [List.take_succ_eq_append_getElem h,ZbD,ZbH h]; rfl
theorem ZcO (l:List Mv):∀ {i:Nat},i<=l.length->bl (Wv l i)=ZcD (l.take i)
 | 0,_=>rfl
 | i+1,hi=>by
  rw [Zc7 (by omega)]
  by_cases h0:i=0
  ·subst h0
   rw [R3,List.take_zero,List.nil_append]
   show bl (ZcB _ _ _)=_
   rfl
  rw [Jx l (by omega),ZcQ _ (by intro e; have:=congrArg List.length e; rw [Zcb,List.length_nil] at this; omega),<- ZcO l (by omega)]
  simp only [Rg,ZcM,Zb5]
  rfl
theorem ZcS {s:ByteArray}:∀ {r:List Mv} {k p:Nat} {l:List Mv},r≠[]→(∀ m∈r,Txt m.1 m.2.1 m.2.2)→(bl s).drop p=ZcD r→p≤s.size→s.size < p+k→US s k p l=yS (l++r)
 | [],_,_,_,h,_,_,_,_=>absurd rfl h
 | m::r,0,p,l,_,_,_,h1,h2=>by omega
 | [m],k+1,p,l,_,hm,h,h1,h2=>by
  obtain ⟨q,e,hq⟩:=Zc3 (r:=[]) (hm m ZM) (by rw [h,Zcf]; rfl) (fun u w e=>by cases e)
  have h3:=ZcG h1
  rw [e] at h3
  simp only at h3
  have h4:=Zde hq
  unfold US
  rw [e]
  simp only [if_true]
  rw [ZcA (by omega)]
 | m::x::r,k+1,p,l,_,hm,h,h1,h2=>by
  obtain ⟨q,e,hq⟩:=Zc3 (r:=32::ZcD (x::r)) (hm m ZM) (by rw [h]; rfl) (fun u w e=>by injection e with e1 _; subst e1; rfl)
  obtain ⟨g1,g2,g3⟩:=ZcC hq
  obtain ⟨_,h5,_⟩:=ZcE e
  unfold US
  rw [e]
  simp only [if_true]
  rw [Zcz (by omega),ZcA (by rw [g2]; rfl),ZcS (by simp) (fun m h=>hm m (.tail _ h)) g3 (by omega) (by omega),Zb5]
  rfl
theorem txt_all {l:List Mv} (h:l.any Ul=false):∀ m∈l,Txt m.1 m.2.1 m.2.2:=fun m hm=>by
 rw [List.any_eq_false] at h
 have:=h _ hm
 unfold Ul at this
 exact txtB_iff.1 (by simpa using this)
theorem all_txt {l:List Mv} (h:∀ m∈l,Txt m.1 m.2.1 m.2.2):l.any Ul=false:=by
 rw [List.any_eq_false]
 intro m hm
 unfold Ul
 rw [txtB_iff.2 (h m hm)]; simp
theorem Zc9 {l:List Mv} (h:l.any Ul=false) (hl:(Wv l l.length).size<=65536):Wi (Wv l l.length)=yS l:=by
 have hs:=El h (Zcs _)
 unfold Wi
 rw [Zcz (by omega)]
 by_cases h0:l=[]
 ·subst h0; rfl
 have h1:1<=l.length:=by cases l with | nil=>exact absurd rfl h0 | cons=>simp
 have h2:=hs.2 h1
 rw [Zcz (by omega),ZcS (r:=l) h0 (txt_all h) (by rw [List.drop_zero,ZcO l (Zcs _),List.take_length]) (by omega) (by omega),List.nil_append]
theorem Zc4 {s:ByteArray}:∀ {k p:Nat} {l:List Mv} {r:List Mv} {a:Int},p≤s.size→s.size < p+k→US s k p l=(r,a,0)→a=0∧r.length≤8192∧∃ t,t≠[]∧r=l++t∧(bl s).drop p=ZcD t∧∀ m∈t,Txt m.1 m.2.1 m.2.2
 | 0,p,_,_,_,h1,h2,_=>by omega
 | k+1,p,l,r,a,h1,h2,h=>by
  unfold US at h
  rcases e:mvR s p with ⟨m,b,q⟩
  rw [e] at h
  cases b with
  | false=>simp at h
  | true =>
   obtain ⟨t1,t2,t3,t4⟩:=ZcE e
   simp only [if_true] at h
   split at h
   ·rename_i hq
    unfold yS at h
    split at h
    ·simp at h
    simp only [Zcn,and_true] at h
    obtain ⟨rfl,rfl⟩:=h
    refine ⟨rfl,by omega,[m],by simp,rfl,?_,fun x hx=>by rw [List.mem_singleton.1 hx]; exact t1⟩
    rw [t4,hq,ZdJ,List.drop_length,Zcf]; rfl
   rename_i hq
   split at h
   ·rename_i h32
    obtain ⟨a1,a2,t,a3,a4,a5,a6⟩:=Zc4 (by omega) (by omega) h
    refine ⟨a1,a2,m::t,by simp,by rw [a4,Zb5]; rfl,?_,fun x hx=>?_⟩
    ·obtain ⟨u,hu,hu2⟩:=ZcI (s:=s) (p:=q) (by omega)
     have:u=32:=by
      rw [hu2] at h32
      exact UInt8.toNat_inj.1 (by show u.toNat=32; omega)
     rw [t4,ZcJ a3,hu,a5,this]
    rcases Zco.1 hx with rfl | hx
    ·exact t1
    exact a6 x hx
   simp at h
theorem parM_is {s:ByteArray} {r:List Mv} {a:Int} (h:Wi s=(r,a,0)):a=0/\r.any Ul=false/\r.length<=8192/\Wv r r.length=s:=by
 unfold Wi at h
 split at h
 ·simp at h
 split at h
 ·rename_i h0
  simp only [Zcn,and_true] at h
  obtain ⟨rfl,rfl⟩:=h
  exact ⟨rfl,rfl,Zct _,ZcP (List.eq_nil_of_length_eq_zero (by rw [<- ZdJ]; exact h0)).symm⟩
 obtain ⟨a1,a2,t,a3,a4,a5,a6⟩:=Zc4 (Zct _) (by omega) h
 rw [List.nil_append] at a4
 subst a4
 refine ⟨a1,all_txt a6,a2,ZcP ?_⟩
 rw [ZcO r (Zcs _),List.take_length,<- a5,List.drop_zero]
theorem ZcY {s s':ByteArray} {no:Int} {p n:Nat} (hag:∀ i,i < n->YM s i=YM s' i) (hn:n<=s.size) (hn':n<=s'.size) (h:(sqR s no p).2.2 < n\/((sqR s no p).2.2=n/\s'.size=n)):sqR s' no p=sqR s no p:=by
 by_cases h1:p < s.size/\0<=Xg (YM s p)
 ·by_cases h2:p+1 < s.size/\0<=Xj (YM s (p+1))/\sqN s p≠no
  ·rw [Kg h1 h2] at h ⊢
   simp only at h
   have e:sqN s' p=sqN s p:=by unfold sqN; rw [hag p (by omega),hag (p+1) (by omega)]
   rw [Kg ⟨by omega,by rw [<- hag p (by omega)]; exact h1.2⟩ ⟨by omega,by rw [<- hag (p+1) (by omega)]; exact h2.2.1,by rw [e]; exact h2.2.2⟩,e]
  rw [Ka h1 h2] at h ⊢
  simp only at h
  refine Ka ⟨by omega,by rw [<- hag p (by omega)]; exact h1.2⟩ fun hh=>h2 ?_
  have e:sqN s' p=sqN s p:=by unfold sqN; rw [hag p (by omega),hag (p+1) (by omega)]
  rw [e,<- hag (p+1) (by omega)] at hh
  exact ⟨by omega,hh.2⟩
 rw [JU h1] at h ⊢
 simp only at h
 refine JU fun hh=>h1 ?_
 rw [<- hag p (by omega)] at hh
 exact ⟨by omega,hh.2⟩
theorem ZcZ {s s':ByteArray} {p n:Nat} (hp:p<=s.size) (hag:∀ i,i < n->YM s i=YM s' i) (hn:n<=s.size) (hn':n<=s'.size) (h:(mvR s p).2.2 < n\/((mvR s p).2.2=n/\s'.size=n)):mvR s' p=mvR s p:=by
 have l1:=xv (no:=-1) hp
 rcases ha:sqR s (-1) p with ⟨x,b,q1⟩
 rw [ha] at l1
 have k1:=ZcY (no:=-1) (p:=p) hag hn hn'
 rw [ha] at k1
 cases b with
 | false =>
  rw [KL ha] at h ⊢
  exact KL (k1 h)
 | true =>
  simp only at l1
  have l2:=xv (no:=x) l1.2
  rcases ht:sqR s x q1 with ⟨y,b,q2⟩
  rw [ht] at l2
  have k2:=ZcY (no:=x) (p:=q1) hag hn hn'
  rw [ht] at k2
  simp only at l2 k1 k2
  cases b with
  | false =>
   rw [Kj ha ht] at h ⊢
   simp only at h
   exact Kj (k1 (by omega)) (k2 (by omega))
  | true =>
   by_cases hk:q2 < s.size/\WS (YM s q2)≠0
   ·rw [Rm ha ht hk] at h ⊢
    simp only at h
    rw [Rm (k1 (by omega)) (k2 (by omega)) ⟨by omega,by rw [<- hag q2 (by omega)]; exact hk.2⟩,hag q2 (by omega)]
   rw [Kk ha ht hk] at h ⊢
   simp only at h
   refine Kk (k1 (by omega)) (k2 (by omega)) fun hh=>hk ?_
   rw [<- hag q2 (by omega)] at hh
   exact ⟨by omega,hh.2⟩
theorem ZcH {s:ByteArray}:∀ {k p:Nat} {l r:List Mv} {n:Nat},p<=s.size->US s k p l=(r,(n:Int),13)->p<=n
 | 0,_,_,_,_,_,h=>by simp [US] at h
 | k+1,p,l,r,n,h1,h=>by
  have hq:=ZcG h1
  unfold US at h
  rcases e:mvR s p with ⟨m,b,q⟩
  rw [e] at h hq
  simp only at hq
  cases b with
  | false =>
   simp only [Zb1,if_false,Zcn,and_true] at h
   omega
  | true =>
   simp only [if_true] at h
   split at h
   ·unfold yS at h
    split at h <;> simp at h
   split at h
   ·have:=ZcH (by omega) h
    omega
   simp only [Zcn,and_true] at h
   omega
theorem ZcV {s s':ByteArray} {n:Nat} (hag:∀ i,i < n+1->YM s i=YM s' i) (hn:n+1<=s.size) (hn':n+1<=s'.size):∀ {k k' p:Nat} {l l' r:List Mv},p<=s.size->s.size < p+k->s'.size < p+k'->US s k p l=(r,(n:Int),13)->US s' k' p l'=([],(n:Int),13)
 | 0,_,p,_,_,_,h1,h2,_,_=>by omega
 | k+1,0,p,l,l',r,h1,h2,h3,h=>by
  exfalso
  have hq:=(ZcG h1).1
  unfold US at h
  rcases e:mvR s p with ⟨m,b,q⟩
  rw [e] at h hq
  simp only at hq
  cases b with
  | false =>
   simp only [Zb1,if_false,Zcn,and_true] at h
   omega
  | true =>
   simp only [if_true] at h
   split at h
   ·unfold yS at h
    split at h <;> simp at h
   split at h
   ·have:=ZcH (by have:=(ZcE e).2.2.1; omega) h
    have:=(ZcE e).2.1
    omega
   simp only [Zcn,and_true] at h
   omega
 | k+1,k'+1,p,l,l',r,h1,h2,h3,h=>by
  have hq:=ZcG h1
  unfold US at h ⊢
  rcases e:mvR s p with ⟨m,b,q⟩
  rw [e] at h hq
  simp only at hq
  have key:=ZcZ (s:=s) (s':=s') (p:=p) (n:=n+1) h1 hag hn hn'
  rw [e] at key
  simp only at key
  cases b with
  | false =>
   simp only [Zb1,if_false,Zcn,and_true] at h
   rw [key (by omega)]
   simp only [Zb1,if_false,Zcn,and_true,true_and]
   exact h.2
  | true =>
   have hm:=ZcE e
   simp only [if_true] at h
   split at h
   ·unfold yS at h
    split at h <;> simp at h
   rename_i hqs
   split at h
   ·rename_i h32
    have hge:=ZcH (by omega) h
    rw [key (by omega)]
    simp only [if_true]
    rw [Zcz (by omega),ZcA (by rw [<- hag q (by omega)]; exact h32)]
    exact ZcV hag hn hn' (by omega) (by omega) (by omega) h
   rename_i h32
   simp only [Zcn,and_true] at h
   rw [key (by omega)]
   simp only [if_true]
   rw [Zcz (by omega),Zcz (by rw [<- hag q (by omega)]; exact h32)]
   simp only [Zcn,and_true,true_and]
   exact h.2
theorem Zc0 {s s':ByteArray} {n:Nat} (hag:∀ i,i < n->YM s i=YM s' i) (hn:n<=s.size) (hs':s'.size=n) (h2000:s.size<=2000):∀ {k k' p:Nat} {l r:List Mv},p<=s.size->s.size < p+k->s'.size < p+k'->5*l.length<=p->US s k p l=(r,(n:Int),13)->(US s' k' p l).2.2=0\/(US s' k' p l).2.1=n
 | 0,_,p,_,_,h1,h2,_,_,_=>by omega
 | k+1,0,p,l,r,h1,h2,h3,_,h=>by have:=ZcH h1 h; omega
 | k+1,k'+1,p,l,r,h1,h2,h3,h4,h=>by
  have hq:=ZcG h1
  have hge:=ZcH h1 h
  unfold US at h ⊢
  rcases e:mvR s p with ⟨m,b,q⟩
  rw [e] at h hq
  simp only at hq
  have key:=ZcZ (s:=s) (s':=s') (p:=p) (n:=n) h1 hag hn (by omega)
  rw [e] at key
  simp only at key
  cases b with
  | false =>
   simp only [Zb1,if_false,Zcn,and_true] at h
   rw [key (by omega)]
   simp only [Zb1,if_false]
   exact .inr h.2
  | true =>
   have hm:=ZcE e
   simp only [if_true] at h
   split at h
   ·unfold yS at h
    split at h <;> simp at h
   rename_i hqs
   split at h
   ·rename_i h32
    have hge:=ZcH (by omega) h
    rw [key (by omega)]
    simp only [if_true]
    rw [Zcz (by omega),ZcA (by rw [<- hag q (by omega)]; exact h32)]
    exact Zc0 hag hn hs' h2000 (by omega) (by omega) (by omega) (by rw [Zb2]; simp only [Zcd,List.length_nil]; omega) h
   simp only [Zcn,and_true] at h
   rw [key (by omega)]
   simp only [if_true]
   rw [ZcA (by omega)]
   left
   unfold yS
   rw [Zcz (by rw [Zb2]; simp only [Zcd,List.length_nil]; omega)]
theorem Zc1 {s:ByteArray} (h2000:s.size<=2000):∀ {k p:Nat} {l:List Mv},p<=s.size->s.size < p+k->5*l.length<=p->(US s k p l).2.2=0\/∃ n:Nat,US s k p l=([],(n:Int),13)/\n<=s.size
 | 0,p,_,h1,h2,_=>by omega
 | k+1,p,l,h1,h2,h4=>by
  have hq:=ZcG h1
  unfold US
  rcases e:mvR s p with ⟨m,b,q⟩
  rw [e] at hq
  simp only at hq
  cases b with
  | false =>
   simp only [Zb1,if_false]
   exact .inr ⟨q,rfl,hq.2⟩
  | true =>
   have hm:=ZcE e
   simp only [if_true]
   split
   ·left
    unfold yS
    rw [Zcz (by rw [Zb2]; simp only [Zcd,List.length_nil]; omega)]
   split
   ·exact Zc1 h2000 (by omega) (by omega) (by rw [Zb2]; simp only [Zcd,List.length_nil]; omega)
   exact .inr ⟨q,rfl,hq.2⟩
theorem ZcK (s:ByteArray) (i:Nat):YM s i=((bl s).getD i 0).toNat:=by
 have:=ZcR s 0 i
 rw [Zcp,List.drop_zero] at this; exact this
theorem ZcL {s:ByteArray} {n:Nat} (h:n<=s.size):(s.extract 0 n).size=n:=by
 rw [ZdJ] at h ⊢
 rw [ZcW,List.drop_zero,Zcb]; omega
theorem ZcT {s:ByteArray} {n i:Nat} (h:i < n):YM (s.extract 0 n) i=YM s i:=by
 rw [ZcK,ZcK,ZcW,List.drop_zero,ZbD,List.getElem?_take,ZcA h,<- ZbD]
theorem Zdc {s t:ByteArray} {i:Nat} (h:i < s.size):YM (s++t) i=YM s i:=by
 rw [ZdJ] at h
 rw [ZcK,ZcK,Rg,ZbD,ZbF h,<- ZbD]
theorem ZcF {s:ByteArray} (h:s.size≠0) (h2:s.size<=65536):Wi s=US s (s.size+1) 0 []:=by
 unfold Wi
 rw [Zcz (by omega),Zcz h]
theorem Zdb {s:ByteArray} (hs:s.size<=2000) (h:(Wi s).2.2≠0):∃ n:Nat,Wi s=([],(n:Int),13)/\n<=s.size/\((Wi (s.extract 0 n)).2.2=0\/(Wi (s.extract 0 n)).2.1=n)/\(n=s.size->(Wi (s.extract 0 n)).2.2≠0) /\
  (n < s.size->∀ more:ByteArray,more.size<=2000->Wi (s.extract 0 (n+1)++more)=([],(n:Int),13)):=by
 have h0:s.size≠0:=fun e=>h (by unfold Wi; rw [Zcz (by omega),ZcA e])
 rw [ZcF h0 (by omega)] at h
 rcases Zc1 hs (k:=s.size+1) (p:=0) (l:=[]) (Zct _) (by omega) (by simp) with h1 | ⟨n,h1,h2⟩
 ·exact absurd h1 h
 have hne:=ZcL h2
 refine ⟨n,by rw [ZcF h0 (by omega)]; exact h1,h2,?_,?_,?_⟩
 ·by_cases hn:n=0
  ·subst hn
   left
   unfold Wi
   rw [Zcz (by omega),ZcA hne]
  rw [ZcF (by omega) (by omega)]
  exact Zc0 (s:=s) (fun i hi=>(ZcT hi).symm) h2 hne hs (Zct _) (by omega) (by omega) (by simp) h1
 ·rintro rfl
  have e:s.extract 0 s.size=s:=ZcP (by rw [ZcW,List.drop_zero,ZdJ,List.take_length])
  rw [e,ZcF h0 (by omega),h1]; simp
 intro hlt more hm
 have e1:=ZcL (s:=s) (n:=n+1) (by omega)
 have e2:(s.extract 0 (n+1)++more).size=n+1+more.size:=by rw [ZbP,e1]
 rw [ZcF (by omega) (by omega)]
 exact ZcV (s:=s) (fun i hi=>by rw [Zdc (by omega),ZcT hi]) (by omega) (by omega) (Zct _) (by omega) (by omega) h1
theorem ZcU {a b:ByteArray} (h:a.size+b.size<=1000000):Wc .add (.str a) (.str b)=some (.str (a++b)):=by
 show (if ((a.size+b.size:Nat):Int) > IntKind.i64.max then none else some (S.str (a++b)))=_
 rw [Zcz (by have:IntKind.i64.max=9223372036854775807:=rfl; omega)]
theorem Zc8 (l:List Mv) (hlen:l.length<=2000):∃ X e,RdR AM 12 3 [] [] (YV l) (.tup [.s (.str X),.s (.int .i64 e)])/\((e=0/\RtT AM 17 3 [.s (.str X)] (YV l) (.int .i64 0) (.int .i64 0))\/(e=2/\X=⟨#[]⟩)):=by
 cases hb:l.any Ul with
 | true=>exact ⟨_,_,Za2 l (by omega) hb,.inr ⟨rfl,rfl⟩⟩
 | false =>
  have hz:=(El hb (Zcs _)).1
  have hp:=ox (Wv l l.length)
  rw [Zc9 hb (by omega),wU (by omega)] at hp
  exact ⟨_,_,ZcX l hb (by omega),.inl ⟨rfl,hp⟩⟩
theorem ZcN (l:List Mv) (s t:ByteArray) (hl:l.length<=1000000000000000) (hs:s.size<=1000000000000000) (ht:t.size<=1000000000000000):∀ v Bs,Rc 3 (YV l) v Bs->WR AM 7 [v,.s (.str s),.s (.str t)] Bs (fun v' _ _=>v'=.s (.bool true)):=by
 intro v Bs hc
 refine YL (a:=a7) rfl rfl (YI _) (ZQ rfl) rfl ?_ (by first | rfl | (cases hc <;> rfl))
 have hr0:=hc.rx
 rw [show YZ 0 Bs=YZ 0 Bs++[] from (Zcf _).symm]
 generalize hown:YZ 0 Bs=own0 at hr0 ⊢
 refine Ze (Yq rfl (Yc (Ye (Ze (Yt rfl (YP DG) rfl rfl rfl (Yv (r:=.bool _) rfl rfl (Yc (ZB rfl (Yh (Ye (Ze (Yq (v:=v) rfl (Xk rfl hr0 (by decide) (YQ l) (Yq (v:=.s _) rfl (Xe rfl (Zs rfl rfl (Yq (v:=.s _) rfl (Xe rfl (Zs rfl rfl (Zr rfl (Yc (Yj rfl (fun h33=>?_) (fun h33=>?_))))))))))))))))))))))) <;> simp only [NM] at h33
 ·refine Ze (Yq rfl (Zg rfl ?_))
  rfl
 refine Yh (Ze ?_)
 obtain ⟨X,e,hsx,hX⟩:=Zc8 l (by omega)
 refine Yq (v:=v) rfl (XX (caps:=[]) rfl (hsx) rfl (hr0) (fun _ h=>(ZbV _ h)) rfl rfl rfl (Zo rfl (YD (v:=.s _) rfl rfl (YD (v:=.s (.int _ _)) rfl rfl (Yq (v:=.s _) rfl (Zj rfl (Yc (Wz (fun f n L=>(f 1=.s (.str s))/\(f 2=.s (.str t))/\(L=[])) ?_ (fun f nb L hI=>?_)))))))))
 ·refine Ze (Zj rfl (Zr rfl (Yc (Yj rfl (fun h40=>?_) (fun h40=>?_))))) <;> simp only [NM] at h40
  ·refine Ze ?_
   have hp1:=(hX.resolve_right fun q=>by omega).2
   refine Yq (v:=.s _) rfl (xh rfl (hp1) rfl rfl (fun v1 own1 n1 hr1=>Zo rfl (YD (v:=v1) rfl rfl (YD (v:=.s (.int _ _)) rfl rfl (YD (v:=.s (.int _ _)) rfl rfl (Yq (v:=v1) rfl (Zj rfl (Zj rfl (Zf (Zj rfl (Yr rfl rfl (wM rfl) (Zk rfl (Yb rfl (Yq (v:=v1) rfl (Yb rfl (Yq (v:=v) rfl (Yb rfl (xW rfl (qO l hl) rfl (hr1.rx) (hr0) ((Dr.all .here).trans (List.Perm.append_left _ (Dr.all .here))) rfl (Yb rfl (Yv (r:=.bool _) rfl rfl (Zq rfl (Yc (ZB rfl (Yh ?_))))))))))))))))))))))))
   exact ⟨_,(ZbB (ZbB .slnil)),rfl,rfl,rfl⟩
  refine Ze ?_
  obtain ⟨rfl,rfl⟩:=hX.resolve_left fun q=>h40 q.1
  refine Zj rfl (Yr rfl rfl (wM rfl) (Zk rfl (Yb rfl (Yq (v:=.s _) rfl (Yb rfl (Yr rfl rfl (oE) (Zq rfl (Yc (ZB rfl (Yh ?_))))))))))
  exact ⟨_,(ZbB .slnil),rfl,rfl,rfl⟩
 obtain ⟨k1,k2,rfl⟩:=hI
 refine Za 1 k1 (Za 2 k2 (Ze (Yq (v:=.s _) rfl (xh rfl (ox s) rfl rfl (fun v2 own2 n2 hr2=>Zo rfl (YD (v:=v2) rfl rfl (YD (v:=.s (.int _ _)) rfl rfl (YD (v:=.s (.int _ _)) rfl rfl (Yq (v:=v2) rfl (Zj rfl (Zj rfl (Yc (Ye (Ze (Zj rfl (Zr rfl (Yc (Yj rfl (fun h68=>?_) (fun h68=>?_))))))))))))))))))) <;> simp only [NM] at h68
 ·refine Ze ?_
  obtain ⟨ha0,hnb,h8,hsh⟩:=parM_is (s:=s) (r:=(Wi s).1) (a:=(Wi s).2.1) (Prod.ext rfl (Prod.ext rfl h68))
  have hso:=ZcX _ hnb h8
  rw [hsh] at hso
  refine Yq (v:=v2) rfl (XX (caps:=[]) rfl (hso) rfl (hr2.rx) (fun _ h=>(ZbV _ h)) rfl rfl rfl (Zo rfl (YD (v:=.s _) rfl rfl (YD (v:=.s (.int _ _)) rfl rfl (Yq (v:=.s _) rfl (Zj rfl (Zf (Zj rfl (Yr rfl rfl (RC rfl) (Zk rfl (Yb rfl (Yq (v:=.s _) rfl (Yb rfl (Yq (v:=.s _) rfl (Yb rfl (Yr rfl rfl (yt _) (Zq rfl (Zk rfl (Yb rfl (Zj rfl (Yb rfl (Yr rfl rfl (RC ha0) (Zq rfl (Zk rfl (Zg rfl ?_)))))))))))))))))))))))))
  rfl
 refine Yh (Ye (Ze ?_))
 obtain ⟨n,hpm,hn,hcut,hend,hmore⟩:=Zdb (s:=s) (by omega) h68
 have e1:(Wi s).2.1=(n:Int):=by rw [hpm]
 have e2:(Wi s).2.2=13:=by rw [hpm]
 have e3:(Wi s).1=[]:=by rw [hpm]
 refine Zj rfl (Yr rfl rfl (wM e2) (Zk rfl (Yb rfl (Zj rfl (Yb rfl (Yr rfl rfl (lss_no (by omega)) (Zq rfl (Zk rfl (Yb rfl (Zj rfl (Yb rfl (Yq (v:=.s _) rfl (Yb rfl (Xe rfl (Yb rfl (Yr rfl rfl (vQ (by omega)) (Zq rfl (Zk rfl (Yb rfl (Yq (v:=v2) rfl (Yb rfl (Xk rfl hr2.rx (by decide) (show (YV (Wi s).1).length=0*3 by rw [e3]; rfl) (Yb rfl (Yr rfl rfl (wM rfl) (Zq rfl (Yc (ZB rfl (Yh (Ze ?_)))))))))))))))))))))))))))))
 refine Yq (v:=.s _) rfl (Zj rfl (Da (a:=0) (b:=(Wi s).2.1) rfl rfl rfl (by omega) ?_))
 rw [show s.extract (0:Int).toNat ((Wi s).2.1).toNat=s.extract 0 n by rw [e1]; rfl]
 refine xh rfl (ox (s.extract 0 n)) rfl rfl (fun v3 own3 n3 hr3=>Zo rfl (YD (v:=v3) rfl rfl (YD (v:=.s (.int _ _)) rfl rfl (YD (v:=.s (.int _ _)) rfl rfl (Yq (v:=v3) rfl (Zj rfl (Zj rfl (Yc (Ye (Ze (Zj rfl (Zr rfl (Zk rfl (Ys (t:=112) rfl (fun h112=>?_) (fun h112=>?_))))))))))))))) <;> simp only [NM] at h112
 ·refine Yb rfl (Zj rfl (Yb rfl (Zj rfl (Yb rfl (Yr rfl rfl (wM ((hcut.resolve_left h112).trans e1.symm)) (Zq rfl (Yc (ZB rfl (Yh (Ye (Ze (Zj rfl (Yq (v:=.s _) rfl (Xe rfl (Zr rfl (Yc (Yj rfl (fun h120=>?_) (fun h120=>?_)))))))))))))))))) <;> simp only [NM] at h120
  ·refine Ze (Zj rfl (Yr rfl rfl (tg (hend (by omega))) (Zk rfl (Zg rfl ?_))))
   rfl
  refine Yh (Ze ?_)
  have hm2:=hmore (by omega) t (by omega)
  have e4:(Wi (s.extract 0 (n+1)++t)).2.1=(Wi s).2.1:=by rw [hm2,e1]
  have e5:(Wi (s.extract 0 (n+1)++t)).2.2=13:=by rw [hm2]
  refine Yq (v:=.s _) rfl (Zj rfl (Zs rfl rfl (Da (a:=0) (b:=(Wi s).2.1+1) rfl rfl rfl (by omega) ?_)))
  rw [show s.extract (0:Int).toNat ((Wi s).2.1+1).toNat=s.extract 0 (n+1) by rw [e1]; rfl]
  refine Yq (v:=.s _) rfl (Yr rfl rfl (ZcU (by rw [ZcL (by omega)]; omega)) (xh rfl (ox (s.extract 0 (n+1)++t)) rfl rfl (fun v4 own4 n4 hr4=>Zo rfl (YD (v:=v4) rfl rfl (YD (v:=.s (.int _ _)) rfl rfl (YD (v:=.s (.int _ _)) rfl rfl (Yq (v:=v4) rfl (Zj rfl (Zj rfl (Zf (Zj rfl (Yr rfl rfl (RC e5) (Zk rfl (Yb rfl (Zj rfl (Yb rfl (Zj rfl (Yb rfl (Yr rfl rfl (RC e4) (Zq rfl (Zk rfl (Zg rfl ?_))))))))))))))))))))))
  rfl
 refine ZD rfl (ZC rfl (Zq rfl (Yc (ZB rfl (Yh (Ye (Ze (Zj rfl (Yq (v:=.s _) rfl (Xe rfl (Zr rfl (Yc (Yj rfl (fun h120=>?_) (fun h120=>?_)))))))))))))) <;> simp only [NM] at h120
 ·refine Ze (Zj rfl (Yr rfl rfl (tg (hend (by omega))) (Zk rfl (Zg rfl ?_))))
  rfl
 refine Yh (Ze ?_)
 have hm2:=hmore (by omega) t (by omega)
 have e4:(Wi (s.extract 0 (n+1)++t)).2.1=(Wi s).2.1:=by rw [hm2,e1]
 have e5:(Wi (s.extract 0 (n+1)++t)).2.2=13:=by rw [hm2]
 refine Yq (v:=.s _) rfl (Zj rfl (Zs rfl rfl (Da (a:=0) (b:=(Wi s).2.1+1) rfl rfl rfl (by omega) ?_)))
 rw [show s.extract (0:Int).toNat ((Wi s).2.1+1).toNat=s.extract 0 (n+1) by rw [e1]; rfl]
 refine Yq (v:=.s _) rfl (Yr rfl rfl (ZcU (by rw [ZcL (by omega)]; omega)) (xh rfl (ox (s.extract 0 (n+1)++t)) rfl rfl (fun v5 own5 n5 hr5=>Zo rfl (YD (v:=v5) rfl rfl (YD (v:=.s (.int _ _)) rfl rfl (YD (v:=.s (.int _ _)) rfl rfl (Yq (v:=v5) rfl (Zj rfl (Zj rfl (Zf (Zj rfl (Yr rfl rfl (RC e5) (Zk rfl (Yb rfl (Zj rfl (Yb rfl (Zj rfl (Yb rfl (Yr rfl rfl (RC e4) (Zq rfl (Zk rfl (Zg rfl ?_))))))))))))))))))))))
 rfl
end Go.Proofs.YtlkighkfkdpncaaGreatDoor
